/-
  HpackShort: what was just written takes an octet: any Max, any field.
-/
import Derived.Test.YtmoeioaahampaaaHdM
import Derived.Test.YtmoeioaahampaaaRefA
namespace Go.Proofs.Ytmoeioaahampaaa.HShort
open Go.ChangeShapes Go.WideShapes Go.ChangeAt Go.RowKit
open Go.Proofs.Ytmoeioaahampaaa.B Go.Proofs.Ytmoeioaahampaaa.Hi Go.Proofs.Ytmoeioaahampaaa.Tb Go.Proofs.Ytmoeioaahampaaa.Tb.Hp
open Go.Proofs.Ytmoeioaahampaaa.Hf (bx need)
set_option linter.unusedVariables false
set_option linter.unusedSimpArgs false

abbrev Fld := Go.Proofs.Ytmoeioaahampaaa.Tb.Fd
/-! ### The plain law -/
theorem putI_pos (f : UInt8) {P V : Nat} (h1 : 1 ≤ P) (h2 : P ≤ 8) (h3 : V ≤ 2147483647) : 1 ≤ (putI f (P : Int) (V : Int)).1.length := by
  obtain ⟨_, _, c, r, e1, _, _⟩ := back (f := f) (P := P) (V := V) h1 h2 h3 []
  rw [putI_in (by omega) (by omega) (by omega)]
  show 1 ≤ (putN f.toNat P V).length
  rw [e1]; simp
theorem putT_pos {l : List UInt8} (h : l.length ≤ 100000) : 1 ≤ (putT l).length := by
  unfold putT
  split
  · rename_i hn
    have := putI_pos 128 (P := 7) (V := need l) (by omega) (by omega) (by omega)
    rw [List.length_append]
    exact Nat.le_trans this (Nat.le_add_right _ _)
  · have := putI_pos 0 (P := 7) (V := l.length) (by omega) (by omega) (by omega)
    rw [List.length_append]
    exact Nat.le_trans this (Nat.le_add_right _ _)
theorem lit_two {first : UInt8} {P i : Nat} {f : Fld} (h1 : 1 ≤ P) (h2 : P ≤ 8) (hi : i ≤ 1000) (hv : f.v.size ≤ 100000) : 2 ≤ (lit first P i f).length := by
  have a := putI_pos first (P := P) (V := i) h1 h2 (by omega)
  have b := putT_pos (l := bx f.v) (by simpa [bx] using hv)
  unfold lit
  rw [List.length_append, List.length_append]; omega
def inS (f : Fld) (k : Nat) : Bool := (STAT.take k).any fun x => decide (x = f)
theorem inS_step {f x : Fld} {k : Nat} (h : STAT[k]? = some x) : inS f (k + 1) = (inS f k || decide (x = f)) := by
  unfold inS
  rw [List.take_add_one, h]; simp
theorem any_isSome {f : Fld} : (STAT.findIdx? (fun x => decide (x = f))).isSome = inS f 61 := by
  unfold inS
  rw [List.take_of_length_le (by rw [STAT_len]; omega), List.findIdx?_isSome]
theorem find_in {f : Fld} (hnv : f.nv = false) (h : inS f 61 = true) : ∃ i, findR [] f = (i, true) ∧ 1 ≤ i ∧ i ≤ 61 := by
  have hu : f.un = f := by obtain ⟨a, b, c⟩ := f; simp only at hnv; subst hnv; rfl
  unfold findR
  have e : allF [] = STAT := by simp [allF]
  rw [e, hu]
  have := any_isSome (f := f)
  rw [h] at this
  obtain ⟨i, hi⟩ := Option.isSome_iff_exists.1 this
  rw [hi]
  have hl := (List.findIdx?_eq_some_iff_getElem.1 hi).1
  rw [STAT_len] at hl
  exact ⟨i + 1, rfl, by omega, by omega⟩
theorem find_out {f : Fld} (hnv : f.nv = false) (h : inS f 61 = false) : ∃ i, findR [] f = (i, false) ∧ i ≤ 61 := by
  have hu : f.un = f := by obtain ⟨a, b, c⟩ := f; simp only at hnv; subst hnv; rfl
  have hle := findR_le (es := []) (f := f)
  unfold findR at hle ⊢
  have e : allF [] = STAT := by simp [allF]
  rw [e, hu] at hle ⊢
  have := any_isSome (f := f)
  rw [h] at this
  have hn := Option.isNone_iff_eq_none.1 (by rw [← Option.not_isSome, this]; rfl)
  rw [hn] at hle ⊢
  exact ⟨_, rfl, by simpa using hle⟩
theorem find_new {f : Fld} (hnv : f.nv = false) (h : inS f 61 = false) : findR [f] f = (62, true) := by
  have hu : f.un = f := by obtain ⟨a, b, c⟩ := f; simp only at hnv; subst hnv; rfl
  unfold findR
  have e : allF [f] = STAT ++ [f] := by simp [allF]
  rw [e, hu, List.findIdx?_append]
  have := any_isSome (f := f)
  rw [h] at this
  have hn := Option.isNone_iff_eq_none.1 (by rw [← Option.not_isSome, this]; rfl)
  rw [hn, STAT_len]
  simp
theorem enc1 (m : Nat) (es : List Fld) (f : Fld) : Hp.encB m es 0 0 false [f] = ((Hp.encF m es f).1, m, (Hp.encF m es f).2) := by
  show ([] ++ ((Hp.encF m es f).1 ++ []), m, (Hp.encF m es f).2) = _
  rw [List.nil_append, List.append_nil]
theorem one_oct {i : Nat} (h : i ≤ 62) : ∃ z, (putI 128 7 (i : Int)).1 = [z] := by
  refine ⟨UInt8.ofNat (128 / 2 ^ 7 * 2 ^ 7 + i), ?_⟩
  show (putI 128 ((7 : Nat) : Int) (i : Int)).1 = _
  rw [putI_in (by decide) (by decide) (by omega)]
  show putN 128 7 i = _
  unfold putN
  rw [if_pos (by omega)]
/-- What the law says: the two blocks, and the table behind them. -/
theorem plain (m : Nat) (f : Fld) (hnv : f.nv = false) (hn : f.n.size ≤ 100000) (hv : f.v.size ≤ 100000) :
    ∃ (E1 E2 : List UInt8) (es1 es2 : List Fld), Hp.encB m [] 0 0 false [f] = (E1, m, es1) ∧ Hp.encB m es1 0 0 false [f] = (E2, m, es2) ∧ E1.length ≤ 200018 ∧
      ((inS f 61 = true ∧ (∃ z, E1 = [z]) ∧ E2 = E1 ∧ es2 = []) ∨ (inS f 61 = false ∧ m < f.sz ∧ E2 = E1 ∧ 2 ≤ E1.length ∧ es2 = []) ∨
        (inS f 61 = false ∧ f.sz ≤ m ∧ E2 = [190] ∧ 2 ≤ E1.length ∧ tot es2 = f.sz)) := by
  have hle := encF_le m [] f
  cases hT : inS f 61 with
  | true =>
    obtain ⟨i, hi, h1, h2⟩ := find_in hnv hT
    obtain ⟨z, hz⟩ := one_oct (i := i) (by omega)
    have e : Hp.encF m [] f = ([z], []) := by
      unfold Hp.encF
      rw [if_neg (by rw [hnv]; simp), hi, if_pos rfl]
      show ((putI 128 7 (i : Int)).1, _) = _
      rw [hz]
    refine ⟨[z], [z], [], [], by rw [enc1, e], by rw [enc1, e], by simp, Or.inl ⟨rfl, ⟨z, rfl⟩, rfl, rfl⟩⟩
  | false =>
    obtain ⟨i, hi, h2⟩ := find_out hnv hT
    by_cases hm : m < f.sz
    · have e : Hp.encF m [] f = (lit 0 4 i f, []) := by
        unfold Hp.encF
        rw [if_neg (by rw [hnv]; simp), hi, if_neg (by simp), if_pos hm]
      rw [e] at hle
      exact ⟨_, _, [], [], by rw [enc1, e], by rw [enc1, e], by simp only at hle; omega, Or.inr (Or.inl ⟨rfl, hm, rfl, lit_two (by omega) (by omega) (by omega) hv, rfl⟩)⟩
    · have hu : f.un = f := by obtain ⟨a, b, c⟩ := f; simp only at hnv; subst hnv; rfl
      have ha : addS f m [] = [f] := by
        unfold addS
        simp [hu, Tb.fit, tot]
        omega
      have e : Hp.encF m [] f = (lit 64 6 i f, [f]) := by
        unfold Hp.encF
        rw [if_neg (by rw [hnv]; simp), hi, if_neg (by simp), if_neg hm, ha]
      have e2 : Hp.encF m [f] f = ([190], [f]) := by
        unfold Hp.encF
        rw [if_neg (by rw [hnv]; simp), find_new hnv hT, if_pos rfl]
        show ((putI 128 ((7 : Nat) : Int) ((62 : Nat) : Int)).1, _) = _
        rw [putI_in (by decide) (by decide) (by decide)]; rfl
      rw [e] at hle
      exact ⟨_, _, [f], [f], by rw [enc1, e], by rw [enc1, e2], by simp only at hle; omega, Or.inr (Or.inr ⟨rfl, by omega, rfl, lit_two (by omega) (by omega) (by omega) hv, by simp [tot]⟩)⟩
set_option maxRecDepth 100000 in
set_option maxHeartbeats 8000000 in
theorem walk (max : Int) (f : Fld) (W : World) (hf : f.In) :
    Calls Try.prog 7 #[.int .i64 max, .agg (aF f)] W fun e w' => e = .returned (.bool true) ∧ Below W.heap.size W w' := by
  unfold Go.Proofs.Ytmoeioaahampaaa.Tb.Fd.In at hf
  unfold aF
  obtain ⟨A, hA⟩ : ∃ A : Nat, A = min f.n.size 70000 := ⟨_, rfl⟩
  obtain ⟨B, hB⟩ : ∃ B : Nat, B = min f.v.size 70000 := ⟨_, rfl⟩
  have eA : min (f.n.size : Int) 70000 = (A : Int) := by omega
  have eB : min (f.v.size : Int) 70000 = (B : Int) := by omega
  have lA : (A : Int) ≤ (f.n.size : Int) := by omega
  have lB : (B : Int) ≤ (f.v.size : Int) := by omega
  have lA0 : (0 : Int) ≤ (A : Int) := by omega
  have lB0 : (0 : Int) ≤ (B : Int) := by omega
  obtain ⟨gn, hgn⟩ : ∃ s, s = f.n.extract 0 A := ⟨_, rfl⟩
  obtain ⟨gv, hgv⟩ : ∃ s, s = f.v.extract 0 B := ⟨_, rfl⟩
  have zn : gn.size ≤ 70000 := by rw [hgn, ByteArray.size_extract]; omega
  have zv : gv.size ≤ 70000 := by rw [hgv, ByteArray.size_extract]; omega
  obtain ⟨m, hm⟩ : ∃ m, m = hgt max := ⟨_, rfl⟩
  have hm6 : m ≤ 65536 := by rw [hm]; exact hgt_le _
  obtain ⟨E1, E2, es1, es2, hE1, hE2, hlen, hcase⟩ := plain m ⟨gn, gv, false⟩ rfl (by show gn.size ≤ _; omega) (by show gv.size ≤ _; omega)
  obtain ⟨Z, hZ⟩ : ∃ Z, Z = (⟨gn, gv, false⟩ : Fld).sz := ⟨_, rfl⟩
  have hZ1 : Z ≤ 140032 := by rw [hZ]; show gn.size + gv.size + 32 ≤ _; omega
  have sz1 : Hid (∀ x ∈ [(⟨gn, gv, false⟩ : Fld)], x.n.size ≤ 100000 ∧ x.v.size ≤ 100000) := Lib.hid (fun x hx => by simp at hx; subst hx; exact ⟨by show gn.size ≤ _; omega, by show gv.size ≤ _; omega⟩)
  rw [← hZ] at hcase
  have HM := Lib.hid hm; have HZ := Lib.hid hZ; have EE1 := Lib.hid hE1; have EE2 := Lib.hid hE2; have CASE := Lib.hid hcase; have HGN := Lib.hid hgn; have HGV := Lib.hid hgv
  clear hm hZ hE1 hE2 hcase hA hB hf hgn hgv
  go_enter Try.func7, Try.ntmps7
  go_wp2_with fail
  refine (shown_any _).mono ?_; rintro e w1 ⟨rfl, c1⟩
  have b1 := (At.new W (Hp.FN f)).chg c1 (by simp)
  have d1 : Chg [] W w1 := ((Chg.refl W).alloc _).trans' c1
  clear c1
  go_wp2_with fail
  refine (newenc_any (W := W) max w1 (by exact d1.below_nil)).mono ?_; rintro e w2 ⟨c, F1, p1, rfl, hE, c2, hn1⟩
  rw [← HM.out] at hE
  have b2 := b1.chg c2 (by simp)
  have d2 := d1.trans' c2
  have hb1 := b1.lt
  have hG2 : W.heap.size ∉ c :: F1 := fun hx => by have := hn1 _ hx; omega
  have q0 : World.cell? w2 ⟨W.heap.size, 0, none⟩ = some (.string f.n) := b2.cell rfl
  have q1 : World.cell? w2 ⟨W.heap.size, 1, none⟩ = some (.string f.v) := b2.cell rfl
  have q2 : World.cell? w2 ⟨W.heap.size, 2, none⟩ = some (.bool f.nv) := b2.cell rfl
  have cf : ∀ j, World.frozen? w2 ⟨W.heap.size, j, none⟩ = false := fun j => b2.free j
  have hb2 := b2.lt
  have HE2 := Lib.hid hE; have HB2 := Lib.hid b2; have HD2 := Lib.hid d2; have HG2 := Lib.hid hG2
  clear hE b1 b2 d1 d2 c2 hn1 hG2 hb1
  go_upto_region 8 with fail
  rw [← HGN.out, ← HGV.out]
  obtain ⟨w3, hw3⟩ : ∃ w3, w3 = ((w2.setCell ⟨W.heap.size, 2, none⟩ (.bool false)).setCell ⟨W.heap.size, 0, none⟩ (.string gn)).setCell ⟨W.heap.size, 1, none⟩ (.string gv) := ⟨_, rfl⟩
  rw [← hw3]
  have b3 : At w3 W.heap.size (Hp.FN ⟨gn, gv, false⟩) := by rw [hw3]; exact ((HB2.out.set 2 _).set 0 _).set 1 _
  have c3 : Chg [W.heap.size] w2 w3 := by rw [hw3]; exact (((Chg.refl _).setCell (Or.inl (by simp)) _).setCell (Or.inl (by simp)) _).setCell (Or.inl (by simp)) _
  have hE3 := HE2.out.chg c3 (fun x hx hy => HG2.out (by simp at hy; exact hy ▸ hx)) (fun x hx => by simp at hx; omega)
  have d3 : Chg [] W w3 := HD2.out.trans c3 (fun x hx => Or.inr (by simp at hx; omega))
  have hb3 := b3.lt
  have y0 : World.cell? w3 ⟨W.heap.size, 0, none⟩ = some (.string gn) := b3.cell rfl
  have y1 : World.cell? w3 ⟨W.heap.size, 1, none⟩ = some (.string gv) := b3.cell rfl
  have y2 : World.cell? w3 ⟨W.heap.size, 2, none⟩ = some (.bool false) := b3.cell rfl
  have HE3 := Lib.hid hE3; have HB3 := Lib.hid b3; have HC3 := Lib.hid d3
  clear hE3 b3 d3 c3 hw3 q0 q1 q2 cf HE2 HB2 HD2 hb2
  go_wp2_with fail
  refine (encode_any (HE3.out.chg0 ((Chg.refl _).alloc _)) _ [⟨gn, gv, false⟩] (one_field w3 ⟨gn, gv, false⟩) (fun a n cap e hx => by cases e; exact Nat.lt_irrefl _ (HE3.out.lt _ hx)) sz1.out (by simp)).mono ?_; rintro e w4 ⟨r1, F1a, rfl, o1, e1, f1, c4⟩
  rw [EE1.out] at o1 e1
  simp only at o1 e1
  have hG4 : W.heap.size ∉ c :: F1a := fun hx => by
    rcases fresh_cons f1 _ hx with h | h
    · exact HG2.out h
    · simp at h; omega
  have HC4 : Hid (Chg [] W w4) := Lib.hid ((HC3.out.alloc _).trans c4 (fun x hx => Or.inr (HE3.out.los x hx)))
  have HB4 : Hid (At w4 W.heap.size (Hp.FN ⟨gn, gv, false⟩)) := Lib.hid ((HB3.out.alloc _).chg c4 HG2.out)
  have HE4 := Lib.hid e1; have O14 := Lib.hid o1; have HG4 := Lib.hid hG4
  clear o1 e1 f1 c4 HE3 HB3 HC3 HG2 hb3 y0 y1 y2 hG4
  have hb4 := HB4.out.lt
  have y0 : World.cell? w4 ⟨W.heap.size, 0, none⟩ = some (.string gn) := HB4.out.cell rfl
  have y1 : World.cell? w4 ⟨W.heap.size, 1, none⟩ = some (.string gv) := HB4.out.cell rfl
  have y2 : World.cell? w4 ⟨W.heap.size, 2, none⟩ = some (.bool false) := HB4.out.cell rfl
  go_wp2_with fail
  refine (encode_any (HE4.out.chg0 ((Chg.refl _).alloc _)) _ [⟨gn, gv, false⟩] (one_field w4 ⟨gn, gv, false⟩) (fun a n cap e hx => by cases e; exact Nat.lt_irrefl _ (HE4.out.lt _ hx)) sz1.out (by simp)).mono ?_; rintro e w5 ⟨r2, F1b, rfl, o2, e2, f2, c5⟩
  rw [EE2.out] at o2 e2
  simp only at o2 e2
  have HC5 : Hid (Chg [] W w5) := Lib.hid ((HC4.out.alloc _).trans c5 (fun x hx => Or.inr (HE4.out.los x hx)))
  have HB5 : Hid (At w5 W.heap.size (Hp.FN ⟨gn, gv, false⟩)) := Lib.hid ((HB4.out.alloc _).chg c5 HG4.out)
  have o1a := OwnB.chg0 O14.out ((Chg.refl w4).alloc (Hp.FN ⟨gn, gv, false⟩))
  have O15 := Lib.hid (OwnB.chg o1a c5 (fun g hg hx => EH.apart (HE4.out.chg0 ((Chg.refl _).alloc _)) o1a g hx (by simpa using hg)))
  have HE5 := Lib.hid e2; have O25 := Lib.hid o2
  clear o2 e2 f2 c5 o1a HE4 HB4 HC4 HG4 hb4 y0 y1 y2 O14
  go_wp2_with fail
  refine (statics_any _).mono ?_; rintro e w6 ⟨rfl, rfl⟩
  obtain ⟨X, hX⟩ : ∃ X, X = w5.heap.size := ⟨_, rfl⟩
  have s6 := At.new' (w := w5) (o := .cells statC 44) hX.symm
  obtain ⟨w6, hw6⟩ : ∃ w6, w6 = w5.alloc (.cells statC 44) := ⟨_, rfl⟩
  have c6 : Chg [] w5 w6 := by rw [hw6]; exact (Chg.refl _).alloc _
  rw [← hw6, ← hX]
  rw [← hw6] at s6
  have HS6 := Lib.hid s6; have HC6 := Lib.hid (HC5.out.trans' c6); have HB6 := Lib.hid (HB5.out.chg c6 (by simp)); have HE6 := Lib.hid (HE5.out.chg0 c6); have O16 := Lib.hid (OwnB.chg0 O15.out c6); have O26 := Lib.hid (OwnB.chg0 O25.out c6)
  clear s6 c6 hw6 hX HC5 HB5 HE5 O15 O25
  go_wp2_with fail
  go_loopw [9, 11] (fun sv iv wr => ∃ k : Nat, k ≤ 61 ∧ sv = .bool (inS ⟨gn, gv, false⟩ k) ∧ iv = .int .i64 k ∧ Chg [] w6 wr) (fun _ iv _ => 61 - (intOf iv).toNat)
  case atStart => exact ⟨0, by omega, rfl, rfl, Chg.refl _⟩
  case round =>
    obtain ⟨k, hk, rfl, rfl, hc⟩ := hrel
    by_cases hlt : k < 61
    · have hkI : (k : Int) < 61 := by omega
      obtain ⟨x, hx⟩ : ∃ x, STAT[k]? = some x := ⟨_, List.getElem?_eq_getElem (by rw [STAT_len]; exact hlt)⟩
      obtain ⟨g0, g1, g2⟩ := statC_get hx
      have hnv := STAT_nv x (List.mem_of_getElem? hx)
      have hst := inS_step (f := ⟨gn, gv, false⟩) hx
      have z0 : World.cell? wr ⟨X, k * 3, none⟩ = some (.string x.n) := (HS6.out.chg hc (by simp)).cell g0
      have z1 : World.cell? wr ⟨X, k * 3 + 1, none⟩ = some (.string x.v) := (HS6.out.chg hc (by simp)).cell g1
      have z2 : World.cell? wr ⟨X, k * 3 + 2, none⟩ = some (.bool x.nv) := (HS6.out.chg hc (by simp)).cell g2
      have y0 : World.cell? wr ⟨W.heap.size, 0, none⟩ = some (.string gn) := (HB6.out.chg hc (by simp)).cell rfl
      have y1 : World.cell? wr ⟨W.heap.size, 1, none⟩ = some (.string gv) := (HB6.out.chg hc (by simp)).cell rfl
      have y2 : World.cell? wr ⟨W.heap.size, 2, none⟩ = some (.bool false) := (HB6.out.chg hc (by simp)).cell rfl
      rw [hnv] at z2
      have HC := Lib.hid hc
      clear hc g0 g1 g2
      cases hb : inS ⟨gn, gv, false⟩ k with
      | true =>
        rw [hb] at hst
        have HST := Lib.hid hst
        clear hst hb hx hnv
        go_wp2_with fail
        go_quiet (fail)
        go_wp2_with fail
        go_roundw
        case rel => exact ⟨k + 1, by omega, by rw [HST.out]; simp, by go_num, HC.out.drewN _⟩
        case measure => simp [intOf]; omega
      | false =>
        rw [hb] at hst
        by_cases hn : x.n = gn
        · rw [hn] at z0
          by_cases hv : x.v = gv
          · rw [hv] at z1
            have he : x = ⟨gn, gv, false⟩ := by obtain ⟨a, b, d⟩ := x; simp only at hn hv hnv; subst hn; subst hv; subst hnv; rfl
            have HST : Hid (inS ⟨gn, gv, false⟩ (k + 1) = true) := Lib.hid (by rw [hst]; simp [he])
            clear hst hb hx hnv hn hv he
            go_wp2_with fail
            go_quiet (fail)
            go_wp2_with fail
            go_roundw
            case rel => exact ⟨k + 1, by omega, by rw [HST.out], by go_num, HC.out.drewN _⟩
            case measure => simp [intOf]; omega
          · have hne := str_ne hv
            have HST : Hid (inS ⟨gn, gv, false⟩ (k + 1) = false) := Lib.hid (by rw [hst]; simp; intro h; exact hv (by rw [h]))
            clear hst hb hx hnv hn
            go_wp2_with fail
            go_quiet (fail)
            go_wp2_with fail
            go_roundw
            case rel => exact ⟨k + 1, by omega, by rw [HST.out], by go_num, HC.out.drewN _⟩
            case measure => simp [intOf]; omega
        · have hne := str_ne hn
          have HST : Hid (inS ⟨gn, gv, false⟩ (k + 1) = false) := Lib.hid (by rw [hst]; simp; intro h; exact hn (by rw [h]))
          clear hst hb hx hnv
          go_wp2_with fail
          go_quiet (fail)
          go_wp2_with fail
          go_roundw
          case rel => exact ⟨k + 1, by omega, by rw [HST.out], by go_num, HC.out.drewN _⟩
          case measure => simp [intOf]; omega
    · obtain rfl : k = 61 := by omega
      have HCl := Lib.hid (HC6.out.trans' hc); have BX := Lib.hid (HB6.out.chg hc (by simp)); have HEl := Lib.hid (HE6.out.chg0 hc); have O1l := Lib.hid (OwnB.chg0 O16.out hc); have O2l := Lib.hid (OwnB.chg0 O26.out hc)
      clear HC6 HB6 HE6 O16 O26 HS6 hc
      rcases CASE.out with ⟨hT, ⟨z, rfl⟩, rfl, rfl⟩ | ⟨hT, hmz, hE12, hl2, rfl⟩ | ⟨hT, hmz, rfl, hl2, htot⟩
      · rw [hT]
        obtain ⟨ra, rc, rfl, hc0, hc1⟩ := (OwnB.bytes O1l.out).slice
        obtain ⟨rb, rd, rfl, hd0, hd1⟩ := (OwnB.bytes O2l.out).slice
        have k1 := BytesOf.str (OwnB.bytes O1l.out); have k2 := BytesOf.str (OwnB.bytes O2l.out)
        rw [show [z].length = 1 from rfl] at k1 k2 ⊢
        clear hT CASE EE1 EE2
        go_wp2_with fail
        refine (encsize_eq HEl.out).mono ?_; rintro e w8 ⟨he, rfl⟩
        rw [show tot [] = 0 from rfl] at he
        subst he
        go_wp2_with fail
        go_ret
        exact ⟨rfl, HCl.out.below_nil⟩
      · rw [hT]
        rw [hE12] at O2l
        have hd : decide (m < Z) = true := decide_eq_true hmz
        clear hT CASE EE1 EE2
        skip
        have x0 : ∀ x : Later [] wr, World.cell? x.world ⟨W.heap.size, 0, none⟩ = some (.string gn) := fun x => (BX.out.chg x.chg (by simp)).cell rfl
        have x1 : ∀ x : Later [] wr, World.cell? x.world ⟨W.heap.size, 1, none⟩ = some (.string gv) := fun x => (BX.out.chg x.chg (by simp)).cell rfl
        have x2 : ∀ x : Later [] wr, World.cell? x.world ⟨W.heap.size, 2, none⟩ = some (.bool false) := fun x => (BX.out.chg x.chg (by simp)).cell rfl
        have HMX : Hid (∀ x : Later [] wr, Calls Try.prog 22 #[.pointer (some ⟨c, 0, none⟩)] x.world fun e w' => e = .returned (.int .i64 (m : Nat)) ∧ w' = x.world) :=
          Lib.hid (fun x => (encmax_eq (HEl.out.chg0 x.chg)).mono (fun e w' h => ⟨h.1, h.2.symm⟩))
        have HSF : Hid (∀ x : Later [] wr, Calls Try.prog 21 #[.agg #[.string gn, .string gv, .bool false]] x.world fun e w' => e = .returned (.int .i64 (Z : Nat)) ∧ Chg [] x.world w') :=
          Lib.hid (fun x => (rsize_any ⟨gn, gv, false⟩ _ (by rw [← HZ.out]; omega)).mono (fun e w' h => ⟨by rw [h.1, ← HZ.out], by rw [h.2]; exact (Chg.refl _).alloc _⟩))
        go_wp2_with fail
        refine wp_region_later (S := []) (by kernel_rfl) (by kernel_rfl) ?_
        repeat (go_big_quiet_step (first | (go_at_call 22; exact Calls.later_same (HMX.out _)) | (go_at_call 21; exact Calls.later (HSF.out _))))
        refine wpQuiet_nil ?_
        intro _ hw'
        obtain ⟨xq, rfl⟩ := hw'
        have HE7 := Lib.hid (HEl.out.chg0 xq.chg); have HC7 := Lib.hid (HCl.out.trans' xq.chg); have BX7 := Lib.hid (BX.out.chg xq.chg (by simp))
        have O17 := Lib.hid (OwnB.chg0 O1l.out xq.chg); have O27 := Lib.hid (OwnB.chg0 O2l.out xq.chg)
        clear x0 x1 x2 HMX HSF HEl HCl BX O1l O2l
        generalize xq.world = w7 at *
        clear xq
        obtain ⟨n1, hn1⟩ : ∃ n, n = E1.length := ⟨_, rfl⟩
        obtain ⟨ra, rc, rfl, hc0, hc1⟩ := (OwnB.bytes O17.out).slice
        have k1 := BytesOf.str (OwnB.bytes O17.out); have k2 := BytesOf.str (OwnB.bytes O27.out)
        obtain ⟨sE, hsE⟩ : ∃ sE : ByteArray, sE = ⟨E1.toArray⟩ := ⟨_, rfl⟩
        rw [← hsE] at k1 k2
        have hl3 : decide (1 < E1.length) = true := decide_eq_true (by omega)
        have hl4 : (1 : Int) < (E1.length : Int) := by omega
        clear hsE
        go_wp2_with fail
        refine (encsize_eq HE7.out).mono ?_; rintro e w8 ⟨he, rfl⟩
        rw [show tot [] = 0 from rfl] at he
        subst he
        go_wp2_with fail
        go_ret
        exact ⟨rfl, HC7.out.below_nil⟩
      · rw [hT]
        have hd : decide (m < Z) = false := decide_eq_false (by omega)
        have hmz' : ¬ (m < Z) := by omega
        have HTT := Lib.hid htot
        clear hT CASE EE1 EE2 htot
        skip
        have x0 : ∀ x : Later [] wr, World.cell? x.world ⟨W.heap.size, 0, none⟩ = some (.string gn) := fun x => (BX.out.chg x.chg (by simp)).cell rfl
        have x1 : ∀ x : Later [] wr, World.cell? x.world ⟨W.heap.size, 1, none⟩ = some (.string gv) := fun x => (BX.out.chg x.chg (by simp)).cell rfl
        have x2 : ∀ x : Later [] wr, World.cell? x.world ⟨W.heap.size, 2, none⟩ = some (.bool false) := fun x => (BX.out.chg x.chg (by simp)).cell rfl
        have HMX : Hid (∀ x : Later [] wr, Calls Try.prog 22 #[.pointer (some ⟨c, 0, none⟩)] x.world fun e w' => e = .returned (.int .i64 (m : Nat)) ∧ w' = x.world) :=
          Lib.hid (fun x => (encmax_eq (HEl.out.chg0 x.chg)).mono (fun e w' h => ⟨h.1, h.2.symm⟩))
        have HSF : Hid (∀ x : Later [] wr, Calls Try.prog 21 #[.agg #[.string gn, .string gv, .bool false]] x.world fun e w' => e = .returned (.int .i64 (Z : Nat)) ∧ Chg [] x.world w') :=
          Lib.hid (fun x => (rsize_any ⟨gn, gv, false⟩ _ (by rw [← HZ.out]; omega)).mono (fun e w' h => ⟨by rw [h.1, ← HZ.out], by rw [h.2]; exact (Chg.refl _).alloc _⟩))
        go_wp2_with fail
        refine wp_region_later (S := []) (by kernel_rfl) (by kernel_rfl) ?_
        repeat (go_big_quiet_step (first | (go_at_call 22; exact Calls.later_same (HMX.out _)) | (go_at_call 21; exact Calls.later (HSF.out _))))
        refine wpQuiet_nil ?_
        intro _ hw'
        obtain ⟨xq, rfl⟩ := hw'
        have HE7 := Lib.hid (HEl.out.chg0 xq.chg); have HC7 := Lib.hid (HCl.out.trans' xq.chg); have BX7 := Lib.hid (BX.out.chg xq.chg (by simp))
        have O17 := Lib.hid (OwnB.chg0 O1l.out xq.chg); have O27 := Lib.hid (OwnB.chg0 O2l.out xq.chg)
        clear x0 x1 x2 HMX HSF HEl HCl BX O1l O2l
        generalize xq.world = w7 at *
        clear xq
        obtain ⟨ra, rc, hra, hc0, hc1⟩ := (OwnB.bytes O17.out).slice
        have hl3 : decide (1 < E1.length) = true := decide_eq_true (by omega)
        have hl4 : (1 : Int) < (E1.length : Int) := by omega
        have k2 := fun x : Later [] w7 => BytesOf.str (OwnB.bytes (OwnB.chg0 O27.out x.chg))
        have x0 : ∀ x : Later [] w7, World.cell? x.world ⟨W.heap.size, 0, none⟩ = some (.string gn) := fun x => (BX7.out.chg x.chg (by simp)).cell rfl
        have x1 : ∀ x : Later [] w7, World.cell? x.world ⟨W.heap.size, 1, none⟩ = some (.string gv) := fun x => (BX7.out.chg x.chg (by simp)).cell rfl
        have x2 : ∀ x : Later [] w7, World.cell? x.world ⟨W.heap.size, 2, none⟩ = some (.bool false) := fun x => (BX7.out.chg x.chg (by simp)).cell rfl
        have HMX : Hid (∀ x : Later [] w7, Calls Try.prog 19 #[.pointer (some ⟨c, 0, none⟩)] x.world fun e w' => e = .returned (.int .i64 (Z : Nat)) ∧ w' = x.world) :=
          Lib.hid (fun x => (encsize_eq (HE7.out.chg0 x.chg)).mono (fun e w' h => ⟨by rw [h.1, HTT.out], h.2.symm⟩))
        have HSF : Hid (∀ x : Later [] w7, Calls Try.prog 21 #[.agg #[.string gn, .string gv, .bool false]] x.world fun e w' => e = .returned (.int .i64 (Z : Nat)) ∧ Chg [] x.world w') :=
          Lib.hid (fun x => (rsize_any ⟨gn, gv, false⟩ _ (by rw [← HZ.out]; omega)).mono (fun e w' h => ⟨by rw [h.1, ← HZ.out], by rw [h.2]; exact (Chg.refl _).alloc _⟩))
        rw [hra]
        clear hra
        go_wp2_with fail
        refine wp_region_later (S := []) (by kernel_rfl) (by kernel_rfl) ?_
        repeat (go_big_quiet_step (first | (go_at_call 19; exact Calls.later_same (HMX.out _)) | (go_at_call 21; exact Calls.later (HSF.out _))))
        refine wpQuiet_nil ?_
        intro _ hw'
        obtain ⟨xq, rfl⟩ := hw'
        go_wp2_with fail
        go_ret
        exact ⟨rfl, (HC7.out.trans' xq.chg).below_nil⟩

/-! ### The row's step -/
theorem own : ownKnob Try.prog.godebug = none := by kernel_rfl
theorem laid : laidOutB Try.prog = true := by kernel_rfl

set_option maxRecDepth 100000 in
theorem lifted (os : Os) (started : os.Started) (H : Type) (enc : TypeId × Value → H) :
    ReturnsInHanded {} Try.checked os 7 .any (Rows.hpackShortSpec.pre6 enc Try.prog Try.f7 Rows.hpackShortRow.domain false) (Rows.hpackShortSpec.post enc Try.prog Try.f7 false true false false) := by
  refine lift_law (C := Try.checked) (tb := 4) own started (by kernel_rfl) Try.func7
    (ChangeSpec.witness6 (enc := enc) (C := Try.checked) false ⟨#[], #[.int .i64 0, .agg #[.string ⟨#[]⟩, .string ⟨#[]⟩, .bool false]], []⟩ 8 (by kernel_rfl) (by kernel_rfl) (by kernel_rfl) (by kernel_rfl))
    laid (by rw [Try.params7]; intro t ht; simp only [List.mem_cons, List.not_mem_nil, or_false] at ht; rcases ht with rfl | rfl <;> exact ⟨by kernel_rfl, of_decide_eq_true (by kernel_rfl)⟩) (by kernel_rfl) Try.underlying4 rfl
    (fun ds h => by rw [Try.params7] at h; match ds, h with | [d0, d1], _ => rfl) ?_
  intro W base args ds before hval hA hlt hsz
  rw [Try.params7] at hA hval
  try rw [Try.params7] at hsz
  have hlt0 := hlt
  obtain ⟨v0, vs0, d0, ds0, p0, q0, hargs, rfl, rfl, h0, r0⟩ := trodAll_cons hA
  obtain ⟨v1, vs1, d1, ds1, p1, q1, rfl, rfl, rfl, h1, r1⟩ := trodAll_cons r0
  obtain ⟨rfl, rfl, rfl⟩ := trodAll_nil r1
  obtain rfl : args = #[v0, v1] := by cases args; simp_all
  have l0 : ∀ p ∈ p0, p.block < W.heap.size := fun x hx => hlt x (by simp [hx])
  have l1 : ∀ p ∈ p1, p.block < W.heap.size := fun x hx => hlt x (by simp [hx])
  obtain ⟨a0, rfl, rfl, rfl, wa0⟩ := open_int Try.underlying3 (hval 0 3 v0 rfl rfl) h0
  obtain ⟨f1, rfl, hf1⟩ := open_struct_w 3 Go.Proofs.Ytmoeioaahampaaa.Tb.encF Go.Proofs.Ytmoeioaahampaaa.Tb.Fd.In Try.underlying44 (by kernel_rfl) (hval 1 44 v1 rfl rfl) Go.Proofs.Ytmoeioaahampaaa.Tb.decF h1 (small_of hsz (j := 1) rfl rfl)
  exact walk a0 f1 W hf1

theorem over : Rows.hpackShortRow.holds Try.pinned (OpenSpec.ofChange Rows.hpackShortSpec) :=
  OpenClaim.holds_of_wide 7 Try.f7 rfl rfl rfl rfl rfl rfl rfl ⟨rfl, rfl, rfl, rfl, rfl⟩ rfl rfl rfl rfl rfl (by kernel_rfl) Try.func7 (by kernel_rfl)
    (of_decide_eq_true (by kernel_rfl)) (by unfold Func.isWrapper; first | (rw [if_pos (by decide +kernel)]; kernel_rfl) | (rw [if_neg (by decide +kernel)]; exact ⟨rfl, rfl⟩))
    (fun os started H enc _ => lifted os started H enc)

/-- The statement. -/
theorem proved : Rows.HpackShortSaid :=
  over
#print axioms proved

end Go.Proofs.Ytmoeioaahampaaa.HShort
