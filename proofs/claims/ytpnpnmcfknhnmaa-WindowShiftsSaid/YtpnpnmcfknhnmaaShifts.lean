/-
  WindowShifts: a window that is shifted and shifted back is what it was, and taking and shifting may change places: for any numbers.
-/
import Derived.Test.YtpnpnmcfknhnmaaShown
import Derived.Test.YtpnpnmcfknhnmaaLift
namespace Go.Proofs.Ytpnpnmcfknhnmaa.Shifts
open Go.ChangeShapes Go.WideShapes Go.ChangeAt Go.RowKit
open Go.Proofs.Ytpnpnmcfknhnmaa.B Go.Proofs.Ytpnpnmcfknhnmaa.Win Go.Proofs.Ytpnpnmcfknhnmaa.Cre
set_option linter.unusedVariables false
set_option linter.unusedSimpArgs false

theorem back {w was is x : Int} (h : shiftR w was is = (x, 0)) : shiftR x is was = (w, 0) := by
  unfold shiftR at h
  split at h
  · simp at h
  · split at h
    · simp at h
    · simp at h; subst h
      unfold shiftR
      rw [if_neg (by simp only [may_iff, whole_iff] at *; omega), if_neg (by simp only [may_iff, whole_iff] at *; omega)]
      simp <;> omega
theorem change {w was is n x a b : Int} (h : shiftR w was is = (x, 0)) (ha : takeR w n = (a, 0)) (hb : takeR x n = (b, 0)) : shiftR a was is = (b, 0) := by
  unfold shiftR at h
  unfold takeR at ha hb
  split at h
  · simp at h
  · split at h
    · simp at h
    · simp at h; subst h
      split at ha
      · simp at ha
      · split at ha
        · simp at ha
        · simp at ha; subst ha
          split at hb
          · simp at hb
          · split at hb
            · simp at hb
            · simp at hb; subst hb
              unfold shiftR
              rw [if_neg (by simp only [may_iff, whole_iff] at *; omega), if_neg (by simp only [may_iff, whole_iff] at *; omega)]
              simp <;> omega
set_option maxRecDepth 100000 in
set_option maxHeartbeats 4000000 in
theorem walk (w was is n : Int) (W : World) :
    Calls Try.prog 8 #[.int .i64 w, .int .i64 was, .int .i64 is, .int .i64 n] W fun e w' => e = .returned (.bool true) ∧ Below W.heap.size W w' := by
  obtain ⟨⟨x, e⟩, hx⟩ : ∃ p : Int × Int, shiftR w was is = p := ⟨_, rfl⟩
  obtain ⟨⟨a, g⟩, ha⟩ : ∃ p : Int × Int, takeR w n = p := ⟨_, rfl⟩
  obtain ⟨⟨b, h⟩, hb⟩ : ∃ p : Int × Int, takeR x n = p := ⟨_, rfl⟩
  rcases neC e 0 with rfl | ⟨k1, k2, k3⟩
  rotate_left
  rcases neC g 0 with rfl | ⟨k4, k5, k6⟩ <;> rcases neC h 0 with rfl | ⟨k7, k8, k9⟩
  rotate_left 4
  rcases neC g 0 with rfl | ⟨k4, k5, k6⟩ <;> rcases neC h 0 with rfl | ⟨k7, k8, k9⟩
  all_goals
    first
      | (have hy := back hx; have hc := change hx ha hb; have HY := Lib.hid hy; have HC := Lib.hid hc; clear hy hc)
      | (have hy := back hx; have HY := Lib.hid hy; clear hy)
      | skip
    have HX := Lib.hid hx; have HA := Lib.hid ha; have HB := Lib.hid hb; clear hx ha hb
    go_enter Try.func8, Try.ntmps8
    go_wp2_with fail
    refine (shown_any _).mono ?_; rintro e' w1 ⟨rfl, hc1⟩
    go_wp2_with fail
    refine (Win.shift_any w was is _).mono ?_; rintro e' w2 ⟨he, rfl⟩; rw [ret2_at _ _ _ HX.out] at he; subst he
    go_wp2_with fail
    try (with_reducible refine (Win.shift_any x is was _).mono ?_); (rintro e' w2 ⟨he, rfl⟩; rw [ret2_at _ _ _ HY.out] at he; subst he; go_wp2_with fail)
    refine (Win.take_any w n _).mono ?_; rintro e' w2 ⟨he, rfl⟩; rw [ret2_at _ _ _ HA.out] at he; subst he
    go_wp2_with fail
    refine (Win.take_any x n _).mono ?_; rintro e' w2 ⟨he, rfl⟩; rw [ret2_at _ _ _ HB.out] at he; subst he
    go_wp2_with fail
    try (with_reducible refine (Win.shift_any a was is _).mono ?_); (rintro e' w2 ⟨he, rfl⟩; rw [ret2_at _ _ _ HC.out] at he; subst he; go_wp2_with fail)
    go_ret
    exact ⟨rfl, hc1.below_nil⟩

/-! ### The row's step -/
theorem own : ownKnob Try.prog.godebug = none := by kernel_rfl
theorem laid : laidOutB Try.prog = true := by kernel_rfl

set_option maxRecDepth 100000 in
theorem lifted (os : Os) (started : os.Started) (H : Type) (enc : TypeId × Value → H) :
    ReturnsInHanded {} Try.checked os 8 .any (Rows.windowShiftsSpec.pre6 enc Try.prog Try.f8 Rows.windowShiftsRow.domain false) (Rows.windowShiftsSpec.post enc Try.prog Try.f8 false true false false) := by
  refine lift_law (C := Try.checked) (tb := 4) own started (by kernel_rfl) Try.func8
    (ChangeSpec.witness6 (enc := enc) (C := Try.checked) false ⟨#[], #[.int .i64 0, .int .i64 0, .int .i64 0, .int .i64 0], []⟩ 8 (by kernel_rfl) (by kernel_rfl) (by kernel_rfl) (by kernel_rfl))
    laid (by rw [Try.params8]; intro t ht; simp at ht; (repeat (rcases ht with rfl | ht)) <;> (try subst ht) <;> exact ⟨by kernel_rfl, of_decide_eq_true (by kernel_rfl)⟩) (by kernel_rfl) Try.underlying4 rfl
    (fun ds h => by rw [Try.params8] at h; match ds, h with | [d0, d1, d2, d3], _ => rfl) ?_
  intro W base args ds before hval hA hlt hsz
  rw [Try.params8] at hA hval
  have hlt0 := hlt
  obtain ⟨v0, vs0, d0, ds0, p0, q0, hargs, rfl, rfl, h0, r0⟩ := trodAll_cons hA
  obtain ⟨v1, vs1, d1, ds1, p1, q1, rfl, rfl, rfl, h1, r1⟩ := trodAll_cons r0
  obtain ⟨v2, vs2, d2, ds2, p2, q2, rfl, rfl, rfl, h2, r2⟩ := trodAll_cons r1
  obtain ⟨v3, vs3, d3, ds3, p3, q3, rfl, rfl, rfl, h3, r3⟩ := trodAll_cons r2
  obtain ⟨rfl, rfl, rfl⟩ := trodAll_nil r3
  obtain rfl : args = #[v0, v1, v2, v3] := by cases args; simp_all
  have l0 : ∀ p ∈ p0, p.block < W.heap.size := fun x hx => hlt x (by simp [hx])
  have l1 : ∀ p ∈ p1, p.block < W.heap.size := fun x hx => hlt x (by simp [hx])
  have l2 : ∀ p ∈ p2, p.block < W.heap.size := fun x hx => hlt x (by simp [hx])
  have l3 : ∀ p ∈ p3, p.block < W.heap.size := fun x hx => hlt x (by simp [hx])
  obtain ⟨a0, rfl, rfl, rfl, wa0⟩ := open_int Try.underlying3 (hval 0 3 v0 rfl rfl) h0
  obtain ⟨a1, rfl, rfl, rfl, wa1⟩ := open_int Try.underlying3 (hval 1 3 v1 rfl rfl) h1
  obtain ⟨a2, rfl, rfl, rfl, wa2⟩ := open_int Try.underlying3 (hval 2 3 v2 rfl rfl) h2
  obtain ⟨a3, rfl, rfl, rfl, wa3⟩ := open_int Try.underlying3 (hval 3 3 v3 rfl rfl) h3
  exact walk a0 a1 a2 a3 W

theorem over : Rows.windowShiftsRow.holds Try.pinned (OpenSpec.ofChange Rows.windowShiftsSpec) :=
  OpenClaim.holds_of_wide 8 Try.f8 rfl rfl rfl rfl rfl rfl rfl ⟨rfl, rfl, rfl, rfl, rfl⟩ rfl rfl rfl rfl rfl (by kernel_rfl) Try.func8 (by kernel_rfl)
    (of_decide_eq_true (by kernel_rfl)) (by unfold Func.isWrapper; first | (rw [if_pos (by decide +kernel)]; kernel_rfl) | (rw [if_neg (by decide +kernel)]; exact ⟨rfl, rfl⟩))
    (fun os started H enc _ => lifted os started H enc)

/-- The statement. -/
theorem proved : Rows.WindowShiftsSaid :=
  over
#print axioms proved
end Go.Proofs.Ytpnpnmcfknhnmaa.Shifts
