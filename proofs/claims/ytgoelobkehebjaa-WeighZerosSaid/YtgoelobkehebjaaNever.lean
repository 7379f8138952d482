/-
  WeighNever: a weight of 0 is never picked, and a place is one of the weights': any weights, any draw.
-/
import Derived.Test.YtgoelobkehebjaaArg
namespace Go.Proofs.Ytgoelobkehebjaa.Never
open Go.ChangeShapes Go.WideShapes Go.ChangeAt Go.RowKit
open Go.Proofs.Ytgoelobkehebjaa.B Go.Proofs.Ytgoelobkehebjaa.Fl Go.Proofs.Ytgoelobkehebjaa.Wg
set_option linter.unusedVariables false
set_option linter.unusedSimpArgs false

theorem lastTo_pos {w : List Nat} {n : Nat} (h : ∃ k y, k < n ∧ w[k]? = some y ∧ posB y = true) : ∃ y, w[lastTo w n]? = some y ∧ posB y = true := by
  induction n with
  | zero => obtain ⟨k, y, hk, _⟩ := h; omega
  | succ n ih =>
    obtain ⟨k, y, hk, hy, hp⟩ := h
    unfold lastTo
    split
    · rename_i hq
      cases hn : w[n]? with
      | none => simp [List.getD_eq_getElem?_getD, hn, posB] at hq
      | some z => simp [List.getD_eq_getElem?_getD, hn] at hq; exact ⟨z, rfl, hq⟩
    · rename_i hq
      refine ih ⟨k, y, ?_, hy, hp⟩
      rcases Nat.lt_or_eq_of_le (Nat.le_of_lt_succ hk) with h1 | h1
      · exact h1
      · subst h1; simp [List.getD_eq_getElem?_getD, hy, hp] at hq
theorem any_pos {w : List Nat} (h : rightW w = true) : ∃ k y, k < w.length ∧ w[k]? = some y ∧ posB y = true := by
  unfold rightW at h
  simp only [Bool.and_eq_true, List.any_eq_true] at h
  obtain ⟨y, hy, hp⟩ := h.2.1
  obtain ⟨k, hk⟩ := List.getElem?_of_mem hy
  exact ⟨k, y, (List.getElem?_eq_some_iff.1 hk).1, hk, hp⟩
theorem atW_pos {w : List Nat} (h : rightW w = true) (n : Nat) : ∃ y, w[atW w n]? = some y ∧ posB y = true := by
  unfold atW
  generalize drawX n (sumW w) = x
  cases hx : firstGt w x with
  | some k =>
    obtain ⟨h1, h2, h3⟩ := firstGt_some hx
    have hk : w[k]? = some w[k] := List.getElem?_eq_getElem h1
    exact ⟨_, hk, hit_pos hk h3 h2⟩
  | none => exact lastTo_pos (any_pos h)
theorem sumTo_step {w : List Nat} {i : Nat} (h : i < w.length) : sumTo w i ≤ sumTo w (i + 1) := by
  rw [sumTo_succ (List.getElem?_eq_getElem h)]
  unfold addF
  have := R_mono 0 (show val (sumTo w i) ≤ val (sumTo w i) + wv w[i] by omega)
  rw [R_val] at this; exact this
theorem sumTo_le {w : List Nat} {i j : Nat} (h : i ≤ j) (hj : j ≤ w.length) : sumTo w i ≤ sumTo w j := by
  induction j with
  | zero => obtain rfl : i = 0 := by omega
            exact Nat.le_refl _
  | succ j ih =>
    rcases Nat.lt_or_eq_of_le h with h1 | h1
    · exact Nat.le_trans (ih (by omega) (by omega)) (sumTo_step (by omega))
    · rw [h1]; exact Nat.le_refl _
theorem total_pos {w : List Nat} (h : rightW w = true) : 0 < sumW w := by
  obtain ⟨k, y, hk, hy, hp⟩ := any_pos h
  refine Nat.lt_of_lt_of_le ?_ (sumTo_le (show k + 1 ≤ w.length by omega) (Nat.le_refl _))
  rw [sumTo_succ hy]
  unfold addF
  unfold posB at hp
  simp only [Bool.and_eq_true, decide_eq_true_eq] at hp
  have hv : wv y = val y := by unfold wv; rw [if_neg hp.2]
  have h1 := val_pos hp.1
  have h2 := R_mono 0 (show val 1 ≤ val (sumTo w k) + wv y by rw [hv]; have : val 1 = 1 := rfl; omega)
  rw [R_val] at h2
  omega

set_option maxRecDepth 20000 in
set_option maxHeartbeats 8000000 in
theorem walk (v : Value) (w : List Nat) (d : Int) (W : World) (hw : ∀ x ∈ w, Wf64 x) (hs : SliceOf W v 1 encF w) (hd0 : (Lit.int .u64 d).wf = true) :
    Calls Try.prog 5 #[v, .int .u64 d] W fun e w' => e = .returned (.bool true) ∧ Below W.heap.size W w' := by
  obtain ⟨d, rfl, hd⟩ := u64_nat hd0
  clear hd0
  have HD := Lib.hid hd
  clear hd
  obtain ⟨m, hmin, hml, hmc⟩ := min_cut w 100
  have HS := hs
  obtain ⟨a, cap, rfl, hc, hcm, _⟩ := hs
  have HW := Lib.hid (mem_cut (w := w) hw m)
  have HSC := Lib.hid (slice_cut HS m hml)
  have hlen := len_cut hml
  generalize w.take m = u at *
  subst hlen
  have emin : (min (w.length : Int) 100).toNat = u.length := by omega
  have HM := Lib.hid emin
  clear HS hw hmin emin
  go_enter Try.func5, Try.ntmps5
  go_wp2_with fail
  refine (shown_any _).mono ?_; rintro e w1 ⟨rfl, g1⟩
  have HS1 := Lib.hid (slice_chgF HSC.out g1); have G1 := Lib.hid g1
  clear g1 HSC
  go_wp2_with fail
  rw [HM.out]
  generalize min (w.length : Int) 100 = mi
  refine (pick_any _ u d _ HS1.out HW.out HD.out).mono ?_; rintro e w2 ⟨he, g2⟩
  have HS2 := Lib.hid (slice_chgF HS1.out g2); have G2 := Lib.hid (G1.out.trans' g2)
  clear g2 HS1 G1
  by_cases hr : rightW u = true
  · have HR := Lib.hid hr
    rw [show pickW u d = (atW u (d / 2048) : Int) by unfold pickW; rw [if_pos hr]] at he
    obtain ⟨y, hy, hp⟩ := atW_pos hr (d / 2048)
    generalize atW u (d / 2048) = n at *
    have hnu : n < u.length := (List.getElem?_eq_some_iff.1 hy).1
    have hok := (rightW_ok hr).1 y (List.mem_of_getElem? hy)
    have ho : FloatKind.f64.format.order y 0 = some .gt := by
      rcases pos_cmp hok with ⟨_, h⟩ | ⟨h, _⟩
      · exact h
      · rw [hp] at h; cases h
    have hsum : FloatKind.f64.format.order (sumW u) 0 = some .gt :=
      order_gt (sumTo_fin (rightW_ok hr).1 (by have := (rightW_ok hr).2.2; omega) _ (Nat.le_refl _)) (by decide) (total_pos hr)
    subst he
    clear hr hok hp
    have HY := Lib.hid hy; have HO := Lib.hid ho; have HSU := Lib.hid hsum
    clear hy ho hsum
    go_wp2_with fail
    refine (right_any _ u _ HS2.out HW.out).mono ?_; rintro e w3 ⟨he, hw3⟩
    rw [HR.out] at he
    subst he
    subst hw3
    obtain ⟨a', cap', he', _, _, hcell⟩ := HS2.out
    simp only [Value.slice.injEq, true_and] at he'
    obtain ⟨rfl, rfl⟩ := he'
    obtain ⟨b, off, rfl, hb, hcells⟩ := hcell (by omega)
    have c0 : w3.cell? ⟨b, off + n, none⟩ = some (.float .f64 y) := by have := hcells n y HY.out 0 (by omega); simpa [encF] using this
    have ho := HO.out
    clear hcell hcells
    have hn0 : (0 : Int) ≤ n := by omega
    have hn1 : (n : Int) < u.length := by omega
    go_wp2_with fail
    refine (total_any _ u _ HS2.out HW.out).mono ?_; rintro e w4 ⟨he, g4⟩
    rw [show totalW u = sumW u by unfold totalW; rw [if_pos HR.out]] at he
    subst he
    have G4 := Lib.hid (G2.out.trans' g4)
    have hsum := HSU.out
    clear g4 ho c0
    go_wp2_with fail
    go_ret
    exact ⟨by simp, G4.out.below_nil⟩
  · have hrf : rightW u = false := by simpa using hr
    have HR := Lib.hid hrf
    rw [show pickW u d = -1 by unfold pickW; rw [if_neg hr]] at he
    subst he
    clear hr hrf
    go_wp2_with fail
    refine (right_any _ u _ HS2.out HW.out).mono ?_; rintro e w3 ⟨he, hw3⟩
    rw [HR.out] at he
    subst he
    subst hw3
    go_wp2_with fail
    refine (total_any _ u _ HS2.out HW.out).mono ?_; rintro e w4 ⟨he, g4⟩
    rw [show totalW u = 0 by unfold totalW; rw [if_neg (by rw [HR.out]; simp)]] at he
    subst he
    have G4 := Lib.hid (G2.out.trans' g4)
    have h00 : FloatKind.f64.format.order 0 0 = some .eq := by kernel_rfl
    clear g4
    go_wp2_with fail
    go_ret
    exact ⟨by simp, G4.out.below_nil⟩

/-! ### The row's step -/
theorem own : ownKnob Try.prog.godebug = none := by kernel_rfl
theorem laid : laidOutB Try.prog = true := by kernel_rfl

set_option maxRecDepth 100000 in
theorem lifted (os : Os) (started : os.Started) (H : Type) (enc : TypeId × Value → H) :
    ReturnsInHanded {} Try.checked os 5 .any (Rows.weighNeverSpec.pre6 enc Try.prog Try.f5 Rows.weighNeverRow.domain false) (Rows.weighNeverSpec.post enc Try.prog Try.f5 false true false false) := by
  refine lift_law (C := Try.checked) (tb := 4) own started (by kernel_rfl) Try.func5
    (ChangeSpec.witness6 (enc := enc) (C := Try.checked) false ⟨#[], #[.slice none 0 0, .int .u64 0], []⟩ 8 (by kernel_rfl) (by kernel_rfl) (by kernel_rfl) (by kernel_rfl))
    laid (by rw [Try.params5]; intro t ht; simp only [List.mem_cons, List.not_mem_nil, or_false] at ht; rcases ht with rfl | rfl <;> exact ⟨by kernel_rfl, of_decide_eq_true (by kernel_rfl)⟩) (by kernel_rfl) Try.underlying4 rfl
    (fun ds h => by rw [Try.params5] at h; match ds, h with | [d0, d1], _ => rfl) ?_
  intro W base args ds before hval hA hlt hsz
  rw [Try.params5] at hA hval
  have hlt0 := hlt
  obtain ⟨v0, vs0, d0, ds0, p0, q0, hargs, rfl, rfl, h0, r0⟩ := trodAll_cons hA
  obtain ⟨v1, vs1, d1, ds1, p1, q1, rfl, rfl, rfl, h1, r1⟩ := trodAll_cons r0
  obtain ⟨rfl, rfl, rfl⟩ := trodAll_nil r1
  obtain rfl : args = #[v0, v1] := by cases args; simp_all
  have l0 : ∀ p ∈ p0, p.block < W.heap.size := fun x hx => hlt x (by simp [hx])
  have l1 : ∀ p ∈ p1, p.block < W.heap.size := fun x hx => hlt x (by simp [hx])
  obtain ⟨zs, zg, zm, zs1⟩ := open_arg_slice 1 encF Wf64 Try.underlying22 (by kernel_rfl) (by omega) (hval 0 22 v0 rfl rfl) decF h0 l0
  obtain ⟨a1, rfl, rfl, rfl, wa1⟩ := open_int Try.underlying23 (hval 1 23 v1 rfl rfl) h1
  exact walk v0 zs a1 W zg zs1 wa1

theorem over : Rows.weighNeverRow.holds Try.pinned (OpenSpec.ofChange Rows.weighNeverSpec) :=
  OpenClaim.holds_of_wide 5 Try.f5 rfl rfl rfl rfl rfl rfl rfl ⟨rfl, rfl, rfl, rfl, rfl⟩ rfl rfl rfl rfl rfl (by kernel_rfl) Try.func5 (by kernel_rfl)
    (of_decide_eq_true (by kernel_rfl)) (by unfold Func.isWrapper; first | (rw [if_pos (by decide +kernel)]; kernel_rfl) | (rw [if_neg (by decide +kernel)]; exact ⟨rfl, rfl⟩))
    (fun os started H enc _ => lifted os started H enc)

/-- The statement. -/
theorem proved : Rows.WeighNeverSaid :=
  over
#print axioms proved

end Go.Proofs.Ytgoelobkehebjaa.Never
