/-
  WindowTells: Give, Take, Shift and Most answer what the reference answers: for any numbers.
-/
import Derived.Test.YtpnpnmcfknhnmaaShown
import Derived.Test.YtpnpnmcfknhnmaaLift
namespace Go.Proofs.Ytpnpnmcfknhnmaa.Tells
open Go.ChangeShapes Go.WideShapes Go.ChangeAt Go.RowKit
open Go.Proofs.Ytpnpnmcfknhnmaa.B Go.Proofs.Ytpnpnmcfknhnmaa.Win Go.Proofs.Ytpnpnmcfknhnmaa.Cre
set_option linter.unusedVariables false
set_option linter.unusedSimpArgs false

set_option maxRecDepth 100000 in
set_option maxHeartbeats 4000000 in
theorem walk (w a b c : Int) (W : World) :
    Calls Try.prog 7 #[.int .i64 w, .int .i64 a, .int .i64 b, .int .i64 c] W fun e w' => e = .returned (.bool true) ∧ Below W.heap.size W w' := by
  go_enter Try.func7, Try.ntmps7
  go_wp2_with fail
  refine (shown_any _).mono ?_; rintro e w1 ⟨rfl, hc1⟩
  obtain ⟨⟨x1, y1⟩, hx1⟩ : ∃ p : Int × Int, giveR w a = p := ⟨_, rfl⟩
  have H1 := Lib.hid hx1; clear hx1
  go_wp2_with fail
  refine (Win.give_any w a _).mono ?_; rintro e w2 ⟨he, rfl⟩; rw [ret2_at _ _ _ H1.out] at he; subst he
  go_wp2_with fail
  refine (Win.rgive_any w a _).mono ?_; rintro e w2 ⟨he, rfl⟩; rw [ret2_at _ _ _ H1.out] at he; subst he
  obtain ⟨⟨x2, y2⟩, hx2⟩ : ∃ p : Int × Int, takeR w a = p := ⟨_, rfl⟩
  have H2 := Lib.hid hx2; clear hx2
  go_wp2_with fail
  refine (Win.take_any w a _).mono ?_; rintro e w2 ⟨he, rfl⟩; rw [ret2_at _ _ _ H2.out] at he; subst he
  go_wp2_with fail
  refine (Win.rtake_any w a _).mono ?_; rintro e w2 ⟨he, rfl⟩; rw [ret2_at _ _ _ H2.out] at he; subst he
  obtain ⟨⟨x3, y3⟩, hx3⟩ : ∃ p : Int × Int, shiftR w a b = p := ⟨_, rfl⟩
  have H3 := Lib.hid hx3; clear hx3
  go_wp2_with fail
  refine (Win.shift_any w a b _).mono ?_; rintro e w2 ⟨he, rfl⟩; rw [ret2_at _ _ _ H3.out] at he; subst he
  go_wp2_with fail
  refine (Win.rshift_any w a b _).mono ?_; rintro e w2 ⟨he, rfl⟩; rw [ret2_at _ _ _ H3.out] at he; subst he
  go_wp2_with fail
  refine (most_any w a b c _).mono ?_; rintro e w2 ⟨rfl, rfl⟩
  go_wp2_with fail
  refine (rmost_any w a b c _).mono ?_; rintro e w2 ⟨rfl, rfl⟩
  go_wp2_with fail
  go_ret
  exact ⟨by simp, hc1.below_nil⟩

/-! ### The row's step -/
theorem own : ownKnob Try.prog.godebug = none := by kernel_rfl
theorem laid : laidOutB Try.prog = true := by kernel_rfl

set_option maxRecDepth 100000 in
theorem lifted (os : Os) (started : os.Started) (H : Type) (enc : TypeId × Value → H) :
    ReturnsInHanded {} Try.checked os 7 .any (Rows.windowTellsSpec.pre6 enc Try.prog Try.f7 Rows.windowTellsRow.domain false) (Rows.windowTellsSpec.post enc Try.prog Try.f7 false true false false) := by
  refine lift_law (C := Try.checked) (tb := 4) own started (by kernel_rfl) Try.func7
    (ChangeSpec.witness6 (enc := enc) (C := Try.checked) false ⟨#[], #[.int .i64 0, .int .i64 0, .int .i64 0, .int .i64 0], []⟩ 8 (by kernel_rfl) (by kernel_rfl) (by kernel_rfl) (by kernel_rfl))
    laid (by rw [Try.params7]; intro t ht; simp at ht; (repeat (rcases ht with rfl | ht)) <;> (try subst ht) <;> exact ⟨by kernel_rfl, of_decide_eq_true (by kernel_rfl)⟩) (by kernel_rfl) Try.underlying4 rfl
    (fun ds h => by rw [Try.params7] at h; match ds, h with | [d0, d1, d2, d3], _ => rfl) ?_
  intro W base args ds before hval hA hlt hsz
  rw [Try.params7] at hA hval
  have hlt0 := hlt
  obtain ⟨v0, vs0, d0, ds0, p0, q0, hargs, rfl, rfl, h0, r0⟩ := trodAll_cons hA
  obtain ⟨v1, vs1, d1, ds1, p1, q1, rfl, rfl, rfl, h1, r1⟩ := trodAll_cons r0
  obtain ⟨v2, vs2, d2, ds2, p2, q2, rfl, rfl, rfl, h2, r2⟩ := trodAll_cons r1
  obtain ⟨v3, vs3, d3, ds3, p3, q3, rfl, rfl, rfl, h3, r3⟩ := trodAll_cons r2
  obtain ⟨rfl, rfl, rfl⟩ := trodAll_nil r3
  obtain rfl : args = #[v0, v1, v2, v3] := by cases args; simp_all
  have l0 : ∀ p ∈ p0, p.block < W.heap.size := fun x hx => hlt x (by simp [hx])
  have l1 : ∀ p ∈ p1, p.block < W.heap.size := fun x hx => hlt x (by simp [hx])
  have l2 : ∀ p ∈ p2, p.block < W.heap.size := fun x hx => hlt x (by simp [hx])
  have l3 : ∀ p ∈ p3, p.block < W.heap.size := fun x hx => hlt x (by simp [hx])
  obtain ⟨a0, rfl, rfl, rfl, wa0⟩ := open_int Try.underlying3 (hval 0 3 v0 rfl rfl) h0
  obtain ⟨a1, rfl, rfl, rfl, wa1⟩ := open_int Try.underlying3 (hval 1 3 v1 rfl rfl) h1
  obtain ⟨a2, rfl, rfl, rfl, wa2⟩ := open_int Try.underlying3 (hval 2 3 v2 rfl rfl) h2
  obtain ⟨a3, rfl, rfl, rfl, wa3⟩ := open_int Try.underlying3 (hval 3 3 v3 rfl rfl) h3
  exact walk a0 a1 a2 a3 W

theorem over : Rows.windowTellsRow.holds Try.pinned (OpenSpec.ofChange Rows.windowTellsSpec) :=
  OpenClaim.holds_of_wide 7 Try.f7 rfl rfl rfl rfl rfl rfl rfl ⟨rfl, rfl, rfl, rfl, rfl⟩ rfl rfl rfl rfl rfl (by kernel_rfl) Try.func7 (by kernel_rfl)
    (of_decide_eq_true (by kernel_rfl)) (by unfold Func.isWrapper; first | (rw [if_pos (by decide +kernel)]; kernel_rfl) | (rw [if_neg (by decide +kernel)]; exact ⟨rfl, rfl⟩))
    (fun os started H enc _ => lifted os started H enc)

/-- The statement. -/
theorem proved : Rows.WindowTellsSaid :=
  over
#print axioms proved
end Go.Proofs.Ytpnpnmcfknhnmaa.Tells
