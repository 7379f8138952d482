/-
  HpackNever: what is never to stand in a table does not: any Max, any fields, each with Never.
-/
import Derived.Test.YtmoeioaahampaaaHdM
import Derived.Test.YtmoeioaahampaaaOwnSet
namespace Go.Proofs.Ytmoeioaahampaaa.HNever
open Go.ChangeShapes Go.WideShapes Go.ChangeAt Go.RowKit
open Go.Proofs.Ytmoeioaahampaaa.B Go.Proofs.Ytmoeioaahampaaa.Hi Go.Proofs.Ytmoeioaahampaaa.Tb Go.Proofs.Ytmoeioaahampaaa.Tb.Hp
open Go.Proofs.Ytmoeioaahampaaa.Hf (bx)
set_option linter.unusedVariables false
set_option linter.unusedSimpArgs false

abbrev Fld := Go.Proofs.Ytmoeioaahampaaa.Tb.Fd
def nev (f : Fld) : Fld := ⟨f.n, f.v, true⟩
theorem enc0 (m : Nat) (es l : List Fld) (a b : Nat) : Hp.encB m es a b false l = ((encL m es l).1, m, (encL m es l).2) := by
  show ([] ++ (encL m es l).1, m, (encL m es l).2) = _
  rfl
theorem encL_nev (m : Nat) : ∀ (l es : List Fld), (∀ f ∈ l, f.nv = true) → (encL m es l).2 = es := by
  intro l
  induction l with
  | nil => intro es _; rfl
  | cons f l ih =>
    intro es h
    have h1 : (Hp.encF m es f).2 = es := by unfold Hp.encF; rw [if_pos (h f (by simp))]
    show (encL m (Hp.encF m es f).2 l).2 = _
    rw [h1]
    exact ih es (fun g hg => h g (List.mem_cons_of_mem _ hg))
theorem tot_le (n : Nat) : ∀ (l : List Fld), (∀ f ∈ l, f.sz ≤ n) → tot l ≤ n * l.length := by
  intro l
  induction l with
  | nil => intro _; simp [tot]
  | cons f l ih =>
    intro h
    have h1 := h f (by simp)
    have h2 := ih (fun g hg => h g (List.mem_cons_of_mem _ hg))
    show f.sz + tot l ≤ _
    rw [List.length_cons, Nat.mul_add, Nat.mul_one]; omega
set_option maxRecDepth 100000 in
set_option maxHeartbeats 8000000 in
theorem walk (max : Int) (va : Value) (la : List Fld) (W : World) (ia : ∀ f ∈ la, f.In) (ha : FdsOf W va la) :
    Calls Try.prog 5 #[.int .i64 max, va] W fun e w' => e = .returned (.bool true) ∧ Below W.heap.size W w' := by
  have HA := Lib.hid ha; have IA := Lib.hid ia
  clear ha ia
  obtain ⟨A, hA⟩ : ∃ A, A = smallL la := ⟨_, rfl⟩
  obtain ⟨L, hL⟩ : ∃ L, L = A.map nev := ⟨_, rfl⟩
  have sL : ∀ f ∈ L, f.n.size ≤ 400 ∧ f.v.size ≤ 400 := fun f hf => by
    rw [hL] at hf
    obtain ⟨g, hg, rfl⟩ := List.mem_map.1 hf
    rw [hA] at hg
    exact smallL_sz g hg
  have lA : A.length ≤ 20 := by rw [hA]; exact smallL_len _
  have lL : L.length ≤ 20 := by rw [hL, List.length_map]; exact lA
  have tL : tot L ≤ 16640 := by
    have := tot_le 832 L (fun f hf => by have := sL f hf; unfold Go.Proofs.Ytmoeioaahampaaa.Tb.Fd.sz; omega)
    omega
  have nL : ∀ f ∈ L, f.nv = true := fun f hf => by
    rw [hL] at hf
    obtain ⟨g, hg, rfl⟩ := List.mem_map.1 hf
    rfl
  obtain ⟨m, hm⟩ : ∃ m, m = hgt max := ⟨_, rfl⟩
  have hm6 : m ≤ 65536 := by rw [hm]; exact hgt_le _
  obtain ⟨E, hE0⟩ : ∃ E, E = (encL m [] L).1 := ⟨_, rfl⟩
  have eE : Hp.encB m [] 0 0 false L = (E, m, []) := by rw [enc0, encL_nev m L [] nL, hE0]
  have eD : Hp.decB m [] m 1099511627776 false E = (L, 0, false, m, []) := by
    have := decB_encB (m := m) (es := []) (least := 0) (last := 0) (limit := m) (called := false) (list := 1099511627776) (L := L) (Inv.nil hm6) (fun f hf => by have := sL f hf; omega) (fun _ => Nat.le_refl _) (by simp)
    rw [eE] at this
    rw [this, if_neg (by omega)]
  have lE : E.length ≤ 20 * (18 + 800) := by
    have := encL_le m L [] 800 (fun g hg => by have := sL g hg; omega)
    rw [hE0]
    exact Nat.le_trans this (Nat.mul_le_mul_right _ lL)
  have HAA := Lib.hid hA; have HLL := Lib.hid hL; have HM := Lib.hid hm; have EE := Lib.hid eE; have ED := Lib.hid eD; have SL := Lib.hid sL
  clear hA hL hm hE0 eE eD sL nL tL
  go_enter Try.func5, Try.ntmps5
  go_wp2_with fail
  refine (shown_any W).mono ?_; rintro e w1 ⟨rfl, c1⟩
  go_wp2_with fail
  refine (newenc_any (W := W) max w1 (by exact c1.below_nil)).mono ?_; rintro e w2 ⟨c, F1, p1, rfl, hE, c2, hn1⟩
  rw [← HM.out] at hE
  have c02 := c1.trans' c2
  go_wp2_with fail
  refine (newdec_any (W := W) max 1099511627776 w2 (by exact c02.below_nil)).mono ?_; rintro e w3 ⟨d, F2, p2, rfl, hD, c3, hn2⟩
  rw [← HM.out] at hD
  have c03 := c02.trans' c3
  have HS3 : Hid (Sep w3 [d :: F2, c :: F1]) := Lib.hid (((Sep.nil w1).add hn1 hE.lt c2.size).add hn2 hD.lt c3.size)
  have HC3 := Lib.hid c03; have HE3 := Lib.hid (hE.chg0 c3); have HD3 := Lib.hid hD
  clear hE hD c1 c2 c3 c02 c03 hn1 hn2
  go_wp2_with fail
  refine (small_any (HA.out.chg0 HC3.out) IA.out).mono ?_; rintro e w4 ⟨ra, rfl, oa, c4⟩
  rw [← HAA.out] at oa
  have HC4 := Lib.hid (HC3.out.trans' c4); have HE4 := Lib.hid (HE3.out.chg0 c4); have HD4 := Lib.hid (HD3.out.chg0 c4)
  have HS4 : Hid (Sep w4 [ra.ownBlock.toList, d :: F2, c :: F1]) := Lib.hid (HS3.out.add (OwnR.lo oa) (OwnR.lt oa) c4.size)
  have hbs : W.heap.size ≤ w3.heap.size := HC3.out.size
  obtain ⟨B3, hB3⟩ : ∃ B3, B3 = w3.heap.size := ⟨_, rfl⟩
  rw [← hB3] at oa hbs
  have OA4 := Lib.hid oa
  clear oa c4 HC3 HE3 HD3 HS3 hB3
  obtain ⟨aa, acap, rfl, hac, hacm⟩ := OwnR.slice OA4.out
  unfold maxLen at hacm
  go_upto_block 0 with fail
  go_cut [] (fun wx => OwnF wx B3 (.slice aa A.length acap) L ∧ Chg (Value.slice aa A.length acap).ownBlock.toList w4 wx)
  case first =>
    go_wp2_with fail
    go_loopw [8] (fun iv wr => ∃ k : Nat, k ≤ A.length ∧ iv = .int .i64 k ∧ OwnF wr B3 (.slice aa A.length acap) ((A.take k).map nev ++ A.drop k) ∧ Chg (Value.slice aa A.length acap).ownBlock.toList w4 wr) (fun iv _ => A.length - (intOf iv).toNat)
    case atStart => exact ⟨0, Nat.zero_le _, rfl, by simpa using OA4.out, Chg.refl _⟩
    case round =>
      obtain ⟨k, hk, rfl, ho, hc⟩ := hrel
      by_cases hlt : k < A.length
      · obtain ⟨f, hf⟩ : ∃ f, A[k]? = some f := ⟨_, List.getElem?_eq_getElem hlt⟩
        obtain ⟨T, hT⟩ : ∃ T, T = (A.take k).map nev ++ A.drop k := ⟨_, rfl⟩
        have hTl : T.length = A.length := by rw [hT]; simp; omega
        have hTk : T[k]? = some f := by
          rw [hT, List.getElem?_append_right (by simp; omega), List.length_map, List.length_take, Nat.min_eq_left (by omega), Nat.sub_self, List.getElem?_drop, Nat.add_zero, hf]
        have hTs : T.set k (nev f) = (A.take (k + 1)).map nev ++ A.drop (k + 1) := by
          have hdr : A.drop k = f :: A.drop (k + 1) := by
            rw [List.drop_eq_getElem_cons hlt]
            have := List.getElem?_eq_getElem hlt
            rw [hf] at this
            rw [Option.some.inj this]
          rw [hT, List.set_append_right _ _ (by simp; omega), List.length_map, List.length_take, Nat.min_eq_left (by omega), Nat.sub_self, List.take_add_one, hf, hdr]
          simp
        rw [← hT] at ho
        obtain ⟨g, cap', cur, he, hg1, hg2, hg3, hg4, hg5, hg6⟩ := OwnR.block ho (by omega)
        rw [hTl] at he
        cases he
        have hcell := OwnR.cellAt encF_len ho hTk (j := 2) (by omega)
        have hfz : ∀ j, World.frozen? wr ⟨g, j, none⟩ = false := fun j => hg2.free j
        have hput := OwnR.put (x' := nev f) (u := .bool true) encF_len (hTl ▸ ho) hTk (j := 2) (by omega) rfl
        rw [hTs, hTl] at hput
        have hq0 : World.cell? wr ⟨g, k * 3 + 2, none⟩ = some (.bool f.nv) := hcell
        have HP := Lib.hid hput; have HC := Lib.hid hc
        have hkI : (k : Int) < (A.length : Int) := by omega
        clear ho hc hg2 hg5 hg6 hcell hput hT hTs hTk hTl
        go_wp2_with fail
        go_roundw
        case rel => exact ⟨k + 1, by omega, by go_num, HP.out, HC.out.setCell (Or.inl (by simp [Value.ownBlock])) _⟩
        case measure => simp [intOf]; omega
      · obtain rfl : k = A.length := by omega
        have HO : Hid (OwnF wr B3 (.slice aa A.length acap) L) := Lib.hid (by rw [HLL.out]; simpa using ho)
        have HC := Lib.hid hc
        clear ho hc
        go_wp2_with fail
        go_meet
        exact ⟨HO.out, HC.out⟩
  case rest =>
    obtain ⟨ol, hcl⟩ := hcut
    have HRow := Lib.hid (OwnR.lo OA4.out)
    have HC5 : Hid (Chg [] W wc) := Lib.hid (HC4.out.trans hcl (fun x hx => Or.inr (by have := HRow.out x hx; omega)))
    have HE5 := Lib.hid (HE4.out.chg hcl (HS4.out.get 2 0 rfl rfl (by decide)) (fun x hx => by have := HRow.out x hx; omega))
    have HD5 := Lib.hid (HD4.out.chg hcl (HS4.out.get 1 0 rfl rfl (by decide)) (fun x hx => by have := HRow.out x hx; omega))
    have HS5 := Lib.hid (HS4.out.le hcl.size)
    have OL5 := Lib.hid ol
    have hL2 : A.length = L.length := by rw [HLL.out, List.length_map]
    rw [hL2] at OL5 HS5
    rw [hL2]
    clear ol hcl HC4 HE4 HD4 HS4 OA4
    obtain ⟨rl, hrl⟩ : ∃ rl, rl = Value.slice aa L.length acap := ⟨_, rfl⟩
    rw [← hrl] at OL5 HS5 ⊢
    have sL1 : Hid (∀ f ∈ L, f.n.size ≤ 100000 ∧ f.v.size ≤ 100000) := Lib.hid (fun f hf => by have := SL.out f hf; omega)
    clear hrl
    go_wp2_with fail
    refine (encode_any HE5.out rl L (OwnR.sl encF_len (by decide) OL5.out) (ap_hap (HS5.out.get 2 0 rfl rfl (by decide)) (fun x hx => hx)) sL1.out (by omega)).mono ?_; rintro e w6 ⟨r1, F1a, rfl, o1, e1, f1, c6⟩
    rw [EE.out] at o1 e1
    simp only at o1 e1
    have HC6 := Lib.hid (HC5.out.trans c6 (fun x hx => Or.inr (HE5.out.los x hx))); have HE6 := Lib.hid e1; have O1 := Lib.hid o1
    have HD6 := Lib.hid (HD5.out.chg c6 (HS5.out.get 1 2 rfl rfl (by decide)) HE5.out.los)
    have OL6 := Lib.hid (OwnR.chg OL5.out c6 (fun g hg hx => HS5.out.get 0 2 rfl rfl (by decide) g (by simpa using hg) hx))
    have HS6 : Hid (Sep w6 [rl.ownBlock.toList, d :: F2, c :: F1a]) := Lib.hid (HS5.out.put 2 rfl (fresh_cons f1) e1.lt c6.size)
    clear o1 e1 f1 c6 HC5 HE5 HD5 OL5 HS5
    go_wp2_with fail
    refine (encode_any HE6.out rl L (OwnR.sl encF_len (by decide) OL6.out) (ap_hap (HS6.out.get 2 0 rfl rfl (by decide)) (fun x hx => hx)) sL1.out (by omega)).mono ?_; rintro e w7 ⟨r2, F1b, rfl, o2, e2, f2, c7⟩
    rw [EE.out] at o2 e2
    simp only at o2 e2
    have HC7 := Lib.hid (HC6.out.trans c7 (fun x hx => Or.inr (HE6.out.los x hx))); have HE7 := Lib.hid e2; have O2 := Lib.hid o2
    have HD7 := Lib.hid (HD6.out.chg c7 (HS6.out.get 1 2 rfl rfl (by decide)) HE6.out.los)
    have OL7 := Lib.hid (OwnR.chg OL6.out c7 (fun g hg hx => HS6.out.get 0 2 rfl rfl (by decide) g (by simpa using hg) hx))
    have O1b := Lib.hid (OwnB.chg O1.out c7 (fun g hg hx => EH.apart HE6.out O1.out g hx (by simpa using hg)))
    have HS7 : Hid (Sep w7 [rl.ownBlock.toList, d :: F2, c :: F1b]) := Lib.hid (HS6.out.put 2 rfl (fresh_cons f2) e2.lt c7.size)
    clear o2 e2 f2 c7 HC6 HE6 HD6 OL6 HS6 O1
    go_wp2_with fail
    refine (decode_any HD7.out r1 E (OwnB.bytes O1b.out) (fun _ a n cap e => ⟨(own_block O1b.out a n cap e).2, fun hx => DH.apart HD7.out O1b.out _ hx (by subst e; simp [Value.ownBlock])⟩) (by omega)).mono ?_; rintro e w8 ⟨rx, F2a, he, ox, d8, f8, c8, a8⟩
    rw [ED.out] at he ox d8
    simp only at he ox d8
    subst he
    have HC8 := Lib.hid (HC7.out.trans c8 (fun x hx => Or.inr (HD7.out.los x hx))); have HD8 := Lib.hid d8; have OX8 := Lib.hid ox
    have HE8 := Lib.hid (HE7.out.chg c8 (HS7.out.get 2 1 rfl rfl (by decide)) HD7.out.los)
    have OL8 := Lib.hid (OwnR.chg OL7.out c8 (fun g hg hx => HS7.out.get 0 1 rfl rfl (by decide) g (by simpa using hg) hx))
    have O1c := Lib.hid (OwnB.chg O1b.out c8 (fun g hg hx => DH.apart HD7.out O1b.out g hx (by simpa using hg)))
    have O2c := Lib.hid (OwnB.chg O2.out c8 (fun g hg hx => DH.apart HD7.out O2.out g hx (by simpa using hg)))
    have HS8 : Hid (Sep w8 [rx.ownBlock.toList, rl.ownBlock.toList, d :: F2a, c :: F1b]) := Lib.hid (HS7.out.putAdd 1 rfl (fresh_cons f8) d8.lt c8.size (OwnR.lo ox) (OwnR.lt ox) a8)
    clear ox d8 f8 c8 a8 HC7 HE7 HD7 OL7 HS7 O1b O2
    go_wp2_with fail
    refine (decode_any HD8.out r2 E (OwnB.bytes O2c.out) (fun _ a n cap e => ⟨(own_block O2c.out a n cap e).2, fun hx => DH.apart HD8.out O2c.out _ hx (by subst e; simp [Value.ownBlock])⟩) (by omega)).mono ?_; rintro e w9 ⟨ry, F2b, he, oy, d9, f9, c9, a9⟩
    rw [ED.out] at he oy d9
    simp only at he oy d9
    subst he
    have HC9 := Lib.hid (HC8.out.trans c9 (fun x hx => Or.inr (HD8.out.los x hx))); have HD9 := Lib.hid d9; have OY9 := Lib.hid oy
    have HE9 := Lib.hid (HE8.out.chg c9 (HS8.out.get 3 2 rfl rfl (by decide)) HD8.out.los)
    have OL9 := Lib.hid (OwnR.chg OL8.out c9 (fun g hg hx => HS8.out.get 1 2 rfl rfl (by decide) g (by simpa using hg) hx))
    have OX9 := Lib.hid (OwnR.chg OX8.out c9 (fun g hg hx => HS8.out.get 0 2 rfl rfl (by decide) g (by simpa using hg) hx))
    have O1d := Lib.hid (OwnB.chg O1c.out c9 (fun g hg hx => DH.apart HD8.out O1c.out g hx (by simpa using hg)))
    have O2d := Lib.hid (OwnB.chg O2c.out c9 (fun g hg hx => DH.apart HD8.out O2c.out g hx (by simpa using hg)))
    clear oy d9 f9 c9 a9 HC8 HE8 HD8 OL8 OX8 HS8 O1c O2c
    go_wp2_with fail
    refine (same_fds (OwnR.sl encF_len (by decide) OX9.out) (OwnR.sl encF_len (by decide) OL9.out)).mono ?_; rintro e w10 ⟨rfl, c10⟩
    have HC10 := Lib.hid (HC9.out.trans' c10); have HD10 := Lib.hid (HD9.out.chg0 c10); have HE10 := Lib.hid (HE9.out.chg0 c10); have OL10 := Lib.hid (OwnR.chg0 OL9.out c10); have OY10 := Lib.hid (OwnR.chg0 OY9.out c10)
    have O1e := Lib.hid (OwnB.chg0 O1d.out c10); have O2e := Lib.hid (OwnB.chg0 O2d.out c10)
    clear c10 HC9 HD9 HE9 OL9 OX9 OY9 O1d O2d
    go_wp2_with fail
    refine (same_fds (OwnR.sl encF_len (by decide) OY10.out) (OwnR.sl encF_len (by decide) OL10.out)).mono ?_; rintro e w11 ⟨rfl, c11⟩
    have HC11 := Lib.hid (HC10.out.trans' c11); have HD11 := Lib.hid (HD10.out.chg0 c11); have HE11 := Lib.hid (HE10.out.chg0 c11)
    have k1 := BytesOf.str (OwnB.bytes (OwnB.chg0 O1e.out c11)); have k2 := BytesOf.str (OwnB.bytes (OwnB.chg0 O2e.out c11))
    obtain ⟨sE, hsE⟩ : ∃ sE : ByteArray, sE = ⟨E.toArray⟩ := ⟨_, rfl⟩
    rw [← hsE] at k1 k2
    clear c11 HC10 HD10 HE10 OL10 OY10 O1e O2e hsE
    go_wp2_with fail
    refine (encsize_eq HE11.out).mono ?_; rintro e w12 ⟨rfl, rfl⟩
    go_wp2_with fail
    refine (decsize_eq HD11.out).mono ?_; rintro e w13 ⟨rfl, rfl⟩
    go_wp2_with fail
    go_ret
    exact ⟨rfl, HC11.out.below_nil⟩

/-! ### The row's step -/
theorem own : ownKnob Try.prog.godebug = none := by kernel_rfl
theorem laid : laidOutB Try.prog = true := by kernel_rfl

set_option maxRecDepth 100000 in
theorem lifted (os : Os) (started : os.Started) (H : Type) (enc : TypeId × Value → H) :
    ReturnsInHanded {} Try.checked os 5 .any (Rows.hpackNeverSpec.pre6 enc Try.prog Try.f5 Rows.hpackNeverRow.domain false) (Rows.hpackNeverSpec.post enc Try.prog Try.f5 false true false false) := by
  refine lift_law (C := Try.checked) (tb := 4) own started (by kernel_rfl) Try.func5
    (ChangeSpec.witness6 (enc := enc) (C := Try.checked) false ⟨#[], #[.int .i64 0, .slice none 0 0], []⟩ 8 (by kernel_rfl) (by kernel_rfl) (by kernel_rfl) (by kernel_rfl))
    laid (by rw [Try.params5]; intro t ht; simp only [List.mem_cons, List.not_mem_nil, or_false] at ht; rcases ht with rfl | rfl <;> exact ⟨by kernel_rfl, of_decide_eq_true (by kernel_rfl)⟩) (by kernel_rfl) Try.underlying4 rfl
    (fun ds h => by rw [Try.params5] at h; match ds, h with | [d0, d1], _ => rfl) ?_
  intro W base args ds before hval hA hlt hsz
  rw [Try.params5] at hA hval
  try rw [Try.params5] at hsz
  have hlt0 := hlt
  obtain ⟨v0, vs0, d0, ds0, p0, q0, hargs, rfl, rfl, h0, r0⟩ := trodAll_cons hA
  obtain ⟨v1, vs1, d1, ds1, p1, q1, rfl, rfl, rfl, h1, r1⟩ := trodAll_cons r0
  obtain ⟨rfl, rfl, rfl⟩ := trodAll_nil r1
  obtain rfl : args = #[v0, v1] := by cases args; simp_all
  have l0 : ∀ p ∈ p0, p.block < W.heap.size := fun x hx => hlt x (by simp [hx])
  have l1 : ∀ p ∈ p1, p.block < W.heap.size := fun x hx => hlt x (by simp [hx])
  obtain ⟨a0, rfl, rfl, rfl, wa0⟩ := open_int Try.underlying3 (hval 0 3 v0 rfl rfl) h0
  obtain ⟨l1, m1, _, _, s1⟩ := open_slice_w 3 Go.Proofs.Ytmoeioaahampaaa.Tb.encF Go.Proofs.Ytmoeioaahampaaa.Tb.Fd.In Try.underlying26 (by kernel_rfl) (by omega) (hval 1 26 v1 rfl rfl) Go.Proofs.Ytmoeioaahampaaa.Tb.decF h1 l1 (small_of hsz (j := 1) rfl rfl)
  exact walk a0 v1 l1 W m1 s1

theorem over : Rows.hpackNeverRow.holds Try.pinned (OpenSpec.ofChange Rows.hpackNeverSpec) :=
  OpenClaim.holds_of_wide 5 Try.f5 rfl rfl rfl rfl rfl rfl rfl ⟨rfl, rfl, rfl, rfl, rfl⟩ rfl rfl rfl rfl rfl (by kernel_rfl) Try.func5 (by kernel_rfl)
    (of_decide_eq_true (by kernel_rfl)) (by unfold Func.isWrapper; first | (rw [if_pos (by decide +kernel)]; kernel_rfl) | (rw [if_neg (by decide +kernel)]; exact ⟨rfl, rfl⟩))
    (fun os started H enc _ => lifted os started H enc)

/-- The statement. -/
theorem proved : Rows.HpackNeverSaid :=
  over
#print axioms proved

end Go.Proofs.Ytmoeioaahampaaa.HNever
