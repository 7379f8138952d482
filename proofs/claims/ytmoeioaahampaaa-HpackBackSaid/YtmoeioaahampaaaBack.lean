/-
  HpackBack: what one end writes the other end reads, and both have one table: any Max, any steps.
-/
import Derived.Test.YtmoeioaahampaaaHdM
import Derived.Test.YtmoeioaahampaaaArgO
namespace Go.Proofs.Ytmoeioaahampaaa.HBack
open Go.ChangeShapes Go.WideShapes Go.ChangeAt Go.RowKit
open Go.Proofs.Ytmoeioaahampaaa.B Go.Proofs.Ytmoeioaahampaaa.Hi Go.Proofs.Ytmoeioaahampaaa.Tb Go.Proofs.Ytmoeioaahampaaa.Tb.Hp
open Go.Proofs.Ytmoeioaahampaaa.Hf (bx)
set_option linter.unusedVariables false
set_option linter.unusedSimpArgs false

abbrev Fld := Go.Proofs.Ytmoeioaahampaaa.Tb.Fd
theorem tot_le (n : Nat) : ∀ (l : List Fld), (∀ f ∈ l, f.sz ≤ n) → tot l ≤ n * l.length := by
  intro l
  induction l with
  | nil => intro _; simp [tot]
  | cons f l ih =>
    intro h
    have h1 := h f (by simp)
    have h2 := ih (fun g hg => h g (List.mem_cons_of_mem _ hg))
    show f.sz + tot l ≤ _
    rw [List.length_cons, Nat.mul_add, Nat.mul_one]; omega
theorem encB_m {m : Nat} {es L : List Fld} {least last : Nat} {called : Bool} : (Hp.encB m es least last called L).2.1 = if called = true then last else m := by
  cases called with
  | false => rfl
  | true =>
    unfold Hp.encB encU
    rw [if_pos rfl, if_pos rfl]
    split <;> rfl
theorem upd_le (n : Nat) : (upd n).length ≤ 6 := putI_len 32 5 n
theorem encB_le {m : Nat} {es L : List Fld} {least last : Nat} {called : Bool} (h : ∀ f ∈ L, f.n.size ≤ 400 ∧ f.v.size ≤ 400) (hl : L.length ≤ 20) : (Hp.encB m es least last called L).1.length ≤ 20 * 818 + 12 := by
  have key : ∀ M ES, (encL M ES L).1.length ≤ 20 * 818 := fun M ES => Nat.le_trans (encL_le M L ES 800 (fun f hf => by have := h f hf; omega)) (Nat.mul_le_mul_right _ hl)
  unfold Hp.encB
  have hu : (encU m es least last called).1.length ≤ 12 := by
    unfold encU
    have h1 := upd_le least; have h2 := upd_le last
    split
    · split
      · show (upd least ++ upd last).length ≤ _
        rw [List.length_append]; omega
      · show (upd last).length ≤ _
        omega
    · simp
  show ((encU m es least last called).1 ++ (encL (encU m es least last called).2.1 (encU m es least last called).2.2 L).1).length ≤ _
  rw [List.length_append]
  have := key (encU m es least last called).2.1 (encU m es least last called).2.2
  omega
set_option maxRecDepth 100000 in
set_option maxHeartbeats 8000000 in
theorem walk (max : Int) (va : Value) (zs : List S) (W : World) (hzm : zs.length ≤ maxLen) (hsl : SliceOf W va 4 encS zs) (hin : ∀ z ∈ zs, z.In W) :
    Calls Try.prog 11 #[.int .i64 max, va] W fun e w' => e = .returned (.bool true) ∧ Below W.heap.size W w' := by
  obtain ⟨a, cap, rfl, hcap, hcapm⟩ := hsl.len
  have HSL := Lib.hid hsl; have HIN := Lib.hid hin
  unfold maxLen at hzm hcapm
  clear hsl hin
  obtain ⟨m0, hm⟩ : ∃ m, m = hgt max := ⟨_, rfl⟩
  have hm6 : m0 ≤ 65536 := by rw [hm]; exact hgt_le _
  have HM := Lib.hid hm
  clear hm
  go_enter Try.func11, Try.ntmps11
  go_wp2_with fail
  refine (shown_any W).mono ?_; rintro e w1 ⟨rfl, c1⟩
  go_wp2_with fail
  refine (newenc_any (W := W) max w1 (by exact c1.below_nil)).mono ?_; rintro e w2 ⟨c, F1, p1, rfl, hE, c2, hn1⟩
  rw [← HM.out] at hE
  have c02 := c1.trans' c2
  go_wp2_with fail
  refine (newdec_any (W := W) max 1099511627776 w2 (by exact c02.below_nil)).mono ?_; rintro e w3 ⟨d, F2, p2, rfl, hD, c3, hn2⟩
  rw [← HM.out] at hD
  have c03 := c02.trans' c3
  have HS3 : Hid (Sep w3 [d :: F2, c :: F1]) := Lib.hid (((Sep.nil w1).add hn1 hE.lt c2.size).add hn2 hD.lt c3.size)
  have HC3 := Lib.hid c03; have HE3 := Lib.hid (hE.chg0 c3); have HD3 := Lib.hid hD
  clear hE hD c1 c2 c3 c02 c03 hn1 hn2
  go_wp2_with fail
  go_loopw [8] (fun iv wr => ∃ (k m : Nat) (es : List Fld) (least last limit : Nat) (called : Bool) (F1 F2 : List Nat), k ≤ zs.length ∧ k ≤ 30 ∧ iv = .int .i64 k ∧ EH W wr c F1 p1 m es least last called ∧ DH W wr d F2 p2 m es limit 1099511627776 false ∧ Sep wr [d :: F2, c :: F1] ∧ Chg [] W wr ∧ (called = false → m ≤ limit) ∧ (called = true → last ≤ limit)) (fun iv _ => 30 - (intOf iv).toNat)
  case atStart => exact ⟨0, m0, [], 0, 0, m0, false, F1, F2, by omega, by omega, rfl, HE3.out, HD3.out, HS3.out, HC3.out, fun _ => Nat.le_refl _, by simp⟩
  case round =>
    clear HE3 HD3 HS3 HC3
    obtain ⟨k, m, es, least, last, limit, called, F1, F2, hk, hk2, rfl, hE, hD, hS, hC, hq1, hq2⟩ := hrel
    rename_i wr
    have HE := Lib.hid hE; have HD := Lib.hid hD; have HS := Lib.hid hS; have HC := Lib.hid hC; have HQ1 := Lib.hid hq1; have HQ2 := Lib.hid hq2
    clear hE hD hS hC hq1 hq2
    by_cases hlt : k < zs.length ∧ k < 30
    · obtain ⟨hlt1, hlt2⟩ := hlt
      have hlt3 : (k : Int) < 30 := by omega
      obtain ⟨o, ho⟩ : ∃ o, zs[k]? = some o := ⟨_, List.getElem?_eq_getElem hlt1⟩
      obtain ⟨b, off, rfl, hbw, hcell⟩ := s_cells HSL.out (by omega)
      obtain ⟨d0, d1, d2, d3⟩ := hcell k o ho
      have hbc : ∀ w', Below W.heap.size W w' → ∀ j, w'.cell? ⟨b, j, none⟩ = W.cell? ⟨b, j, none⟩ := fun w' h j => h.cell (p := ⟨b, j, none⟩) hbw
      have HBC := Lib.hid hbc
      have oin := HIN.out o (List.mem_of_getElem? ho)
      have OIN := Lib.hid oin
      have c0 := d0; have c1 := d1; have c2 := d2
      rw [← HBC.out wr HC.out.below_nil] at c0 c1 c2
      have D1 := Lib.hid d1
      clear d0 d1 d2 d3 hbc hcell ho oin
      by_cases hkind : o.k = 1
      · rw [hkind] at c0
        clear c2
        go_wp2_with fail
        refine (esetmax_any HE.out o.n).mono ?_; rintro e w9 ⟨rfl, h9, c9⟩
        have lo9 : ∀ x ∈ [c], W.heap.size ≤ x := fun x hx => HE.out.los x (by simp at hx; simp [hx])
        have in9 : ∀ x ∈ [c], x ∈ c :: F1 := fun x hx => by simp at hx; simp [hx]
        have HC9 := Lib.hid (HC.out.trans c9 (fun x hx => Or.inr (lo9 x hx))); have HE9 := Lib.hid h9
        have HD9 := Lib.hid (HD.out.chg c9 (fun x hx hy => HS.out.get 0 1 rfl rfl (by decide) x hx (in9 x hy)) lo9)
        have HS9 := Lib.hid (HS.out.le c9.size)
        have e1 : World.cell? w9 ⟨b, off + k * 4 + 1, none⟩ = some (.int .i64 o.n) := by rw [HBC.out w9 HC9.out.below_nil]; exact D1.out
        clear h9 c9 lo9 in9 HC HE HD HS c0 c1
        go_wp2_with fail
        refine (dsetmax_any HD9.out o.n).mono ?_; rintro e w8 ⟨rfl, h8, c8⟩
        have lo8 : ∀ x ∈ [d], W.heap.size ≤ x := fun x hx => HD9.out.los x (by simp at hx; simp [hx])
        have in8 : ∀ x ∈ [d], x ∈ d :: F2 := fun x hx => by simp at hx; simp [hx]
        have HC8 := Lib.hid (HC9.out.trans c8 (fun x hx => Or.inr (lo8 x hx))); have HD8 := Lib.hid h8
        have HE8 := Lib.hid (HE9.out.chg c8 (fun x hx hy => HS9.out.get 1 0 rfl rfl (by decide) x hx (in8 x hy)) lo8)
        have HS8 := Lib.hid (HS9.out.le c8.size)
        clear h8 c8 lo8 in8 HC9 HE9 HD9 HS9 e1
        go_wp2_with fail
        go_roundw
        case rel => exact ⟨k + 1, m, es, _, _, _, true, F1, F2, by omega, by omega, by go_num, HE8.out, HD8.out, HS8.out, HC8.out, by simp, fun _ => Nat.le_refl _⟩
        case measure => simp [intOf]; omega
      · have g1 : (o.k == 1) = false := by simp [hkind]
        obtain ⟨la, lc, hlv, hlc, hlcm⟩ := OIN.out.sl.len
        rw [hlv] at c2
        have HLV := Lib.hid hlv
        obtain ⟨A, hA⟩ : ∃ A, A = smallL o.l := ⟨_, rfl⟩
        have sA0 : ∀ f ∈ A, f.n.size ≤ 400 ∧ f.v.size ≤ 400 := fun f hf => by rw [hA] at hf; exact smallL_sz f hf
        have lA : A.length ≤ 20 := by rw [hA]; exact smallL_len _
        have tA : tot A ≤ 16640 := by
          have := tot_le 832 A (fun f hf => by have := sA0 f hf; unfold Go.Proofs.Ytmoeioaahampaaa.Tb.Fd.sz; omega)
          omega
        have HAA := Lib.hid hA
        have sA : Hid (∀ f ∈ A, f.n.size ≤ 100000 ∧ f.v.size ≤ 100000) := Lib.hid (fun f hf => by have := sA0 f hf; omega)
        obtain ⟨P, hP⟩ : ∃ P, P = Hp.encB m es least last called A := ⟨_, rfl⟩
        have hd1 := decB_encB (m := m) (es := es) (least := least) (last := last) (limit := limit) (called := called) (list := 1099511627776) (L := A) HE.out.tab.inv sA.out HQ1.out (fun h => ⟨HQ2.out h, HE.out.b2⟩)
        have hPl := encB_le (m := m) (es := es) (least := least) (last := last) (called := called) sA0 lA
        have hPm := encB_m (m := m) (es := es) (least := least) (last := last) (called := called) (L := A)
        have hml : P.2.1 ≤ limit := by
          rw [hP, hPm]
          cases hcl : called with
          | false => exact HQ1.out hcl
          | true => exact HQ2.out hcl
        rw [← hP] at hd1 hPl
        rw [if_neg (by omega)] at hd1
        obtain ⟨E, m2, es2⟩ := P
        simp only at hd1 hPl hml
        have EE := Lib.hid hP.symm; have HCD := Lib.hid hd1; have HML := Lib.hid hml
        clear hA sA0 hP hd1 hPm hml hlv hlc hlcm
        go_wp2_with fail
        refine (small_any (HLV.out ▸ (OIN.out.le HC.out).sl) OIN.out.fl).mono ?_; rintro e w4 ⟨ra, rfl, oa, c4⟩
        rw [← HAA.out] at oa
        have HC4 := Lib.hid (HC.out.trans' c4); have HE4 := Lib.hid (HE.out.chg0 c4); have HD4 := Lib.hid (HD.out.chg0 c4)
        have HS4 : Hid (Sep w4 [ra.ownBlock.toList, d :: F2, c :: F1]) := Lib.hid (HS.out.add (OwnR.lo oa) (OwnR.lt oa) c4.size)
        obtain ⟨B4, hB4⟩ : ∃ B4, B4 = wr.heap.size := ⟨_, rfl⟩
        rw [← hB4] at oa
        have HO4 := Lib.hid oa
        clear oa c4 HC HE HD HS hB4 c0 c1 c2 HBC D1
        go_wp2_with fail
        refine (encode_any HE4.out ra A (OwnR.sl encF_len (by decide) HO4.out) (ap_hap (HS4.out.get 2 0 rfl rfl (by decide)) (fun x hx => hx)) sA.out (by omega)).mono ?_; rintro e w6 ⟨r1, F1a, rfl, o1, e1, f1, c6⟩
        rw [EE.out] at o1 e1
        simp only at o1 e1
        have HC6 := Lib.hid (HC4.out.trans c6 (fun x hx => Or.inr (HE4.out.los x hx))); have HE6 := Lib.hid e1; have O1 := Lib.hid o1
        have HD6 := Lib.hid (HD4.out.chg c6 (HS4.out.get 1 2 rfl rfl (by decide)) HE4.out.los)
        have HO6 := Lib.hid (OwnR.chg HO4.out c6 (fun g hg hx => HS4.out.get 0 2 rfl rfl (by decide) g (by simpa using hg) hx))
        have HS6 : Hid (Sep w6 [ra.ownBlock.toList, d :: F2, c :: F1a]) := Lib.hid (HS4.out.put 2 rfl (fresh_cons f1) e1.lt c6.size)
        clear o1 e1 f1 c6 HC4 HE4 HD4 HO4 HS4
        go_wp2_with fail
        refine (decode_any HD6.out r1 E (OwnB.bytes O1.out) (fun _ a n cap e => ⟨(own_block O1.out a n cap e).2, fun hx => DH.apart HD6.out O1.out _ hx (by subst e; simp [Value.ownBlock])⟩) (by omega)).mono ?_; rintro e w7 ⟨rx, F2a, he, ox, d7, f7, c7, a7⟩
        rw [HCD.out] at he ox d7
        simp only at he ox d7
        subst he
        have HC7 := Lib.hid (HC6.out.trans c7 (fun x hx => Or.inr (HD6.out.los x hx))); have HD7 := Lib.hid d7; have HX7 := Lib.hid ox
        have HE7 := Lib.hid (HE6.out.chg c7 (HS6.out.get 2 1 rfl rfl (by decide)) HD6.out.los)
        have HO7 := Lib.hid (OwnR.chg HO6.out c7 (fun g hg hx => HS6.out.get 0 1 rfl rfl (by decide) g (by simpa using hg) hx))
        have HS7 : Hid (Sep w7 [ra.ownBlock.toList, d :: F2a, c :: F1a]) := Lib.hid (HS6.out.put 1 rfl (fresh_cons f7) d7.lt c7.size)
        have hS7 : Hid (Sep w7 [d :: F2a, c :: F1a]) := Lib.hid ⟨fun i j A B hij hi hj => HS7.out.ap (i + 1) (j + 1) A B (by omega) hi hj, fun i A hi => HS7.out.lt (i + 1) A hi⟩
        clear ox d7 f7 c7 a7 HC6 HE6 HD6 HO6 HS6 O1 HS7
        go_wp2_with fail
        refine (same_fds (OwnR.sl encF_len (by decide) HX7.out) (OwnR.sl encF_len (by decide) HO7.out)).mono ?_; rintro e w10 ⟨rfl, c10⟩
        have HC10 := Lib.hid (HC7.out.trans' c10); have HD10 := Lib.hid (HD7.out.chg0 c10); have HE10 := Lib.hid (HE7.out.chg0 c10); have HS10 := Lib.hid (hS7.out.le c10.size)
        have htm : decide (m2 < tot es2) = false := decide_eq_false (by have := HE10.out.tab.inv.t; omega)
        clear c10 HC7 HD7 HE7 hS7 HX7 HO7
        go_wp2_with fail
        go_quiet ((first
          | (go_at_call 19; first | exact Calls.quiet_of_same ((encsize_eq (HE10.out.chg0 ((Chg.refl _).drewN _))).mono (fun e w' h => ⟨h.1, h.2.symm⟩)) | exact Calls.quiet_of_same ((decsize_eq (HD10.out.chg0 ((Chg.refl _).drewN _))).mono (fun e w' h => ⟨h.1, h.2.symm⟩)))
          | (go_at_call 22; first | exact Calls.quiet_of_same ((encmax_eq (HE10.out.chg0 ((Chg.refl _).drewN _))).mono (fun e w' h => ⟨h.1, h.2.symm⟩)) | exact Calls.quiet_of_same ((decmax_eq (HD10.out.chg0 ((Chg.refl _).drewN _))).mono (fun e w' h => ⟨h.1, h.2.symm⟩)))))
        have cq := (Chg.refl (l := []) w10).drewN nq
        go_wp2_with fail
        go_roundw
        case rel => exact ⟨k + 1, m2, es2, _, _, limit, false, F1a, F2a, by omega, by omega, by go_num, HE10.out.chg0 cq, HD10.out.chg0 cq, HS10.out.le (Nat.le_refl _), HC10.out.trans' cq, fun _ => HML.out, by simp⟩
        case measure => simp [intOf]; omega
    · have hways : (k < zs.length ∧ decide (k < zs.length) = true ∧ decide ((k : Int) < 30) = false) ∨ (¬ k < zs.length ∧ decide (k < zs.length) = false ∧ (0 : Int) ≤ 1) := by
        by_cases h1 : k < zs.length
        · exact Or.inl ⟨h1, by simpa using h1, by simp; omega⟩
        · exact Or.inr ⟨h1, by simpa using h1, by omega⟩
      clear hlt HE HD HS
      rcases hways with ⟨h1, hd1, hd2⟩ | ⟨h1, hd1, hd2⟩
      all_goals
        go_wp2_with fail
        go_ret
        exact ⟨rfl, HC.out.below_nil⟩

/-! ### The row's step -/
theorem own : ownKnob Try.prog.godebug = none := by kernel_rfl
theorem laid : laidOutB Try.prog = true := by kernel_rfl

set_option maxRecDepth 100000 in
theorem lifted (os : Os) (started : os.Started) (H : Type) (enc : TypeId × Value → H) :
    ReturnsInHanded {} Try.checked os 11 .any (Rows.hpackBackSpec.pre6 enc Try.prog Try.f11 Rows.hpackBackRow.domain false) (Rows.hpackBackSpec.post enc Try.prog Try.f11 false true false false) := by
  refine lift_law (C := Try.checked) (tb := 4) own started (by kernel_rfl) Try.func11
    (ChangeSpec.witness6 (enc := enc) (C := Try.checked) false ⟨#[], #[.int .i64 0, .slice none 0 0], []⟩ 8 (by kernel_rfl) (by kernel_rfl) (by kernel_rfl) (by kernel_rfl))
    laid (by rw [Try.params11]; intro t ht; simp only [List.mem_cons, List.not_mem_nil, or_false] at ht; rcases ht with rfl | rfl <;> exact ⟨by kernel_rfl, of_decide_eq_true (by kernel_rfl)⟩) (by kernel_rfl) Try.underlying4 rfl
    (fun ds h => by rw [Try.params11] at h; match ds, h with | [d0, d1], _ => rfl) ?_
  intro W base args ds before hval hA hlt hsz
  rw [Try.params11] at hA hval
  try rw [Try.params11] at hsz
  have hlt0 := hlt
  obtain ⟨v0, vs0, d0, ds0, p0, q0, hargs, rfl, rfl, h0, r0⟩ := trodAll_cons hA
  obtain ⟨v1, vs1, d1, ds1, p1, q1, rfl, rfl, rfl, h1, r1⟩ := trodAll_cons r0
  obtain ⟨rfl, rfl, rfl⟩ := trodAll_nil r1
  obtain rfl : args = #[v0, v1] := by cases args; simp_all
  have l0 : ∀ p ∈ p0, p.block < W.heap.size := fun x hx => hlt x (by simp [hx])
  have l1 : ∀ p ∈ p1, p.block < W.heap.size := fun x hx => hlt x (by simp [hx])
  obtain ⟨a0, rfl, rfl, rfl, wa0⟩ := open_int Try.underlying3 (hval 0 3 v0 rfl rfl) h0
  obtain ⟨zs, zg, zb, zm, zs1⟩ := open_slice_a 4 encS (S.In W) Try.underlying53 (by kernel_rfl) (by omega) (hval 1 53 v1 rfl rfl) decS h1 l1 (small_of hsz (j := 1) rfl rfl)
  exact walk a0 v1 zs W zm zs1 zg

theorem over : Rows.hpackBackRow.holds Try.pinned (OpenSpec.ofChange Rows.hpackBackSpec) :=
  OpenClaim.holds_of_wide 11 Try.f11 rfl rfl rfl rfl rfl rfl rfl ⟨rfl, rfl, rfl, rfl, rfl⟩ rfl rfl rfl rfl rfl (by kernel_rfl) Try.func11 (by kernel_rfl)
    (of_decide_eq_true (by kernel_rfl)) (by unfold Func.isWrapper; first | (rw [if_pos (by decide +kernel)]; kernel_rfl) | (rw [if_neg (by decide +kernel)]; exact ⟨rfl, rfl⟩))
    (fun os started H enc _ => lifted os started H enc)

/-- The statement. -/
theorem proved : Rows.HpackBackSaid :=
  over
#print axioms proved

end Go.Proofs.Ytmoeioaahampaaa.HBack
