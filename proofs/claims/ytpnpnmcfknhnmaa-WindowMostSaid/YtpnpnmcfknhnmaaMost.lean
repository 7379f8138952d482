/-
  WindowMost: the least of four, but not below 0: for any four numbers.
-/
import Derived.Test.YtpnpnmcfknhnmaaShown
import Derived.Test.YtpnpnmcfknhnmaaLift
namespace Go.Proofs.Ytpnpnmcfknhnmaa.Most
open Go.ChangeShapes Go.WideShapes Go.ChangeAt Go.RowKit
open Go.Proofs.Ytpnpnmcfknhnmaa.B Go.Proofs.Ytpnpnmcfknhnmaa.Win Go.Proofs.Ytpnpnmcfknhnmaa.Cre
set_option linter.unusedVariables false
set_option linter.unusedSimpArgs false

theorem beqT {a b : Int} (h : a = b) : (a == b) = true := by simpa using h
set_option maxHeartbeats 4000000 in
theorem walk (a b c d : Int) (W : World) :
    Calls Try.prog 5 #[.int .i64 a, .int .i64 b, .int .i64 c, .int .i64 d] W fun e w' => e = .returned (.bool true) ∧ Below W.heap.size W w' := by
  obtain ⟨m, hm⟩ : ∃ m, m = mostR a b c d := ⟨_, rfl⟩
  have h0 : (a < 0 ∨ b < 0 ∨ c < 0 ∨ d < 0) → m = 0 := by rw [hm]; unfold mostR; omega
  have h1 : (0 ≤ a ∧ 0 ≤ b ∧ 0 ≤ c ∧ 0 ≤ d) → (m ≤ a ∧ m ≤ b ∧ m ≤ c ∧ m ≤ d ∧ (m = a ∨ m = b ∨ m = c ∨ m = d)) := by rw [hm]; unfold mostR; omega
  have HM := Lib.hid hm; clear hm
  rcases ltC a 0 with ⟨ka, qa⟩ | ⟨ka, qa⟩
  rotate_left
  rcases ltC b 0 with ⟨kb, qb⟩ | ⟨kb, qb⟩
  rotate_left
  rcases ltC c 0 with ⟨kc, qc⟩ | ⟨kc, qc⟩
  rotate_left
  rcases ltC d 0 with ⟨kd, qd⟩ | ⟨kd, qd⟩
  rotate_left
  all_goals first
    | (have h0' := beqT (h0 (by omega)); clear h0 h1; have h0 := h0')
    | (obtain ⟨g1, g2, g3, g4, g5⟩ := h1 ⟨by omega, by omega, by omega, by omega⟩; clear h0 h1; rcases eqC m a with ⟨r1, t1⟩ | ⟨r1, t1⟩ <;> rcases eqC m b with ⟨r2, t2⟩ | ⟨r2, t2⟩ <;> rcases eqC m c with ⟨r3, t3⟩ | ⟨r3, t3⟩ <;> rcases eqC m d with ⟨r4, t4⟩ | ⟨r4, t4⟩ <;> first | (exfalso; omega) | clear r1 r2 r3 r4 g5)
  all_goals
    go_enter Try.func5, Try.ntmps5
    go_wp2_with (first | (go_at_call 9; refine (shown_any _).mono ?_; rintro e w1 ⟨rfl, hc1⟩) | (go_at_call 22; refine (most_any a b c d _).mono ?_; rintro e w2 ⟨he, rfl⟩; rw [← HM.out] at he; subst he))
    go_ret
    exact ⟨rfl, hc1.below_nil⟩

/-! ### The row's step -/
theorem own : ownKnob Try.prog.godebug = none := by kernel_rfl
theorem laid : laidOutB Try.prog = true := by kernel_rfl

set_option maxRecDepth 100000 in
theorem lifted (os : Os) (started : os.Started) (H : Type) (enc : TypeId × Value → H) :
    ReturnsInHanded {} Try.checked os 5 .any (Rows.windowMostSpec.pre6 enc Try.prog Try.f5 Rows.windowMostRow.domain false) (Rows.windowMostSpec.post enc Try.prog Try.f5 false true false false) := by
  refine lift_law (C := Try.checked) (tb := 4) own started (by kernel_rfl) Try.func5
    (ChangeSpec.witness6 (enc := enc) (C := Try.checked) false ⟨#[], #[.int .i64 0, .int .i64 0, .int .i64 0, .int .i64 0], []⟩ 8 (by kernel_rfl) (by kernel_rfl) (by kernel_rfl) (by kernel_rfl))
    laid (by rw [Try.params5]; intro t ht; simp at ht; (repeat (rcases ht with rfl | ht)) <;> (try subst ht) <;> exact ⟨by kernel_rfl, of_decide_eq_true (by kernel_rfl)⟩) (by kernel_rfl) Try.underlying4 rfl
    (fun ds h => by rw [Try.params5] at h; match ds, h with | [d0, d1, d2, d3], _ => rfl) ?_
  intro W base args ds before hval hA hlt hsz
  rw [Try.params5] at hA hval
  have hlt0 := hlt
  obtain ⟨v0, vs0, d0, ds0, p0, q0, hargs, rfl, rfl, h0, r0⟩ := trodAll_cons hA
  obtain ⟨v1, vs1, d1, ds1, p1, q1, rfl, rfl, rfl, h1, r1⟩ := trodAll_cons r0
  obtain ⟨v2, vs2, d2, ds2, p2, q2, rfl, rfl, rfl, h2, r2⟩ := trodAll_cons r1
  obtain ⟨v3, vs3, d3, ds3, p3, q3, rfl, rfl, rfl, h3, r3⟩ := trodAll_cons r2
  obtain ⟨rfl, rfl, rfl⟩ := trodAll_nil r3
  obtain rfl : args = #[v0, v1, v2, v3] := by cases args; simp_all
  have l0 : ∀ p ∈ p0, p.block < W.heap.size := fun x hx => hlt x (by simp [hx])
  have l1 : ∀ p ∈ p1, p.block < W.heap.size := fun x hx => hlt x (by simp [hx])
  have l2 : ∀ p ∈ p2, p.block < W.heap.size := fun x hx => hlt x (by simp [hx])
  have l3 : ∀ p ∈ p3, p.block < W.heap.size := fun x hx => hlt x (by simp [hx])
  obtain ⟨a0, rfl, rfl, rfl, wa0⟩ := open_int Try.underlying3 (hval 0 3 v0 rfl rfl) h0
  obtain ⟨a1, rfl, rfl, rfl, wa1⟩ := open_int Try.underlying3 (hval 1 3 v1 rfl rfl) h1
  obtain ⟨a2, rfl, rfl, rfl, wa2⟩ := open_int Try.underlying3 (hval 2 3 v2 rfl rfl) h2
  obtain ⟨a3, rfl, rfl, rfl, wa3⟩ := open_int Try.underlying3 (hval 3 3 v3 rfl rfl) h3
  exact walk a0 a1 a2 a3 W

theorem over : Rows.windowMostRow.holds Try.pinned (OpenSpec.ofChange Rows.windowMostSpec) :=
  OpenClaim.holds_of_wide 5 Try.f5 rfl rfl rfl rfl rfl rfl rfl ⟨rfl, rfl, rfl, rfl, rfl⟩ rfl rfl rfl rfl rfl (by kernel_rfl) Try.func5 (by kernel_rfl)
    (of_decide_eq_true (by kernel_rfl)) (by unfold Func.isWrapper; first | (rw [if_pos (by decide +kernel)]; kernel_rfl) | (rw [if_neg (by decide +kernel)]; exact ⟨rfl, rfl⟩))
    (fun os started H enc _ => lifted os started H enc)

/-- The statement. -/
theorem proved : Rows.WindowMostSaid :=
  over
#print axioms proved
end Go.Proofs.Ytpnpnmcfknhnmaa.Most
