/-
  The walks of package window and of its reference: Give, Take, Shift, Most.
-/
import Derived.Test.YtpnpnmcfknhnmaaRows
import Derived.Test.YtpnpnmcfknhnmaaBase
namespace Go.Proofs.Ytpnpnmcfknhnmaa.Win
open Go.ChangeShapes Go.WideShapes Go.ChangeAt Go.RowKit
open Go.Proofs.Ytpnpnmcfknhnmaa.B
set_option linter.unusedVariables false
set_option linter.unusedSimpArgs false

def May (n : Int) : Prop := -2147483647 ≤ n ∧ n ≤ 2147483647
def Whole (n : Int) : Prop := 0 ≤ n ∧ n ≤ 2147483647
theorem run_min_ints4 {P : Program} (w : World) (ts : Array TypeId) (t : TypeId) (k k' k2 k3 : IntKind) (x y z u : Int) :
    (Builtin.min_ ts t #[.int k x, .int k' y, .int k2 z, .int k3 u]).run P w = .ok (.int k (min (min (min x y) z) u)) w := by
  have e : ∀ a b : Int, (if b < a then b else a) = min a b := fun a b => by rw [Int.min_def]; split <;> split <;> omega
  simp [Builtin.min_, Builtin.min2, e]
instance (n : Int) : Decidable (May n) := inferInstanceAs (Decidable (_ ∧ _))
instance (n : Int) : Decidable (Whole n) := inferInstanceAs (Decidable (_ ∧ _))
theorem may_iff (n : Int) : May n ↔ -2147483647 ≤ n ∧ n ≤ 2147483647 := Iff.rfl
theorem whole_iff (n : Int) : Whole n ↔ 0 ≤ n ∧ n ≤ 2147483647 := Iff.rfl
theorem mayC (n : Int) : (May n ∧ -2147483647 ≤ n ∧ n ≤ 2147483647) ∨ (¬ May n ∧ True ∧ True) := by by_cases h : May n <;> simp [h]; exact h
theorem wholeC (n : Int) : (Whole n ∧ 0 ≤ n ∧ n ≤ 2147483647) ∨ (¬ Whole n ∧ True ∧ True) := by by_cases h : Whole n <;> simp [h]; exact h

theorem may_any (n : Int) (w : World) : Calls Try.prog 30 #[.int .i64 n] w fun e w' => e = .returned (.bool (decide (May n))) ∧ w = w' := by
  go_enter Try.func30, Try.ntmps30
  go_wp2
  all_goals (go_ret; exact ⟨ret_bool (by simp [may_iff] <;> omega), rfl⟩)
theorem whole_any (n : Int) (w : World) : Calls Try.prog 31 #[.int .i64 n] w fun e w' => e = .returned (.bool (decide (Whole n))) ∧ w = w' := by
  go_enter Try.func31, Try.ntmps31
  go_wp2
  all_goals (go_ret; exact ⟨ret_bool (by simp [whole_iff] <;> omega), rfl⟩)
theorem bad_any (n : Int) (w : World) : Calls Try.prog 32 #[.int .i64 n] w fun e w' => e = .returned (.bool (!decide (May n))) ∧ w = w' := by
  go_enter Try.func32, Try.ntmps32
  go_wp2
  all_goals (go_ret; exact ⟨ret_bool (by rw [Bool.eq_iff_iff]; simp [may_iff] <;> omega), rfl⟩)

/-- What a call of Give, Take, Shift answers: the number and the error's. -/
def giveR (w a : Int) : Int × Int := if ¬ May w ∨ a = 0 ∨ ¬ Whole a then (0, 1) else if ¬ May (w + a) then (0, 8) else (w + a, 0)
def takeR (w a : Int) : Int × Int := if ¬ May w ∨ a < 0 then (0, 1) else if max w 0 < a then (0, 8) else (w - a, 0)
def shiftR (w was is : Int) : Int × Int := if ¬ May w ∨ ¬ Whole was ∨ ¬ Whole is then (0, 1) else if ¬ May (w + is - was) then (0, 8) else (w + is - was, 0)
def mostR (a b c d : Int) : Int := max 0 (min (min (min a b) c) d)
def ret2 (r : Int × Int) : Ending := .returned (.tuple #[.int .i64 r.1, .int .i64 r.2])
theorem eqC (a b : Int) : (a = b ∧ (a == b) = true) ∨ (¬ a = b ∧ (a == b) = false) := by by_cases h : a = b <;> simp [h]
theorem ltC (a b : Int) : (a < b ∧ True) ∨ (¬ a < b ∧ b ≤ a) := by by_cases h : a < b <;> simp [h]; omega

set_option maxHeartbeats 4000000 in
theorem give_any (n a : Int) (w : World) :
    Calls Try.prog 23 #[.int .i64 n, .int .i64 a] w fun e w' => e = ret2 (giveR n a) ∧ w = w' := by
  rcases mayC (n) with ⟨h1, b1, c1⟩ | ⟨h1, b1, c1⟩ <;> rcases eqC a 0 with ⟨h2, b2⟩ | ⟨h2, b2⟩ <;> rcases wholeC (a) with ⟨h3, b3, c3⟩ | ⟨h3, b3, c3⟩ <;> rcases mayC ((n + a)) with ⟨h4, b4, c4⟩ | ⟨h4, b4, c4⟩
  all_goals first | (exfalso; simp only [may_iff, whole_iff] at *; omega) | skip
  all_goals
    go_enter Try.func23, Try.ntmps23
    go_wp2_with (first | (go_at_call 30; refine (may_any _ _).mono ?_; rintro e w' ⟨rfl, rfl⟩) | (go_at_call 31; refine (whole_any _ _).mono ?_; rintro e w' ⟨rfl, rfl⟩))
    go_ret2
    exact ⟨by unfold giveR ret2; (repeat' split) <;> first | rfl | (exact ret_int2 (by omega) (by omega)) | (exfalso; simp only [may_iff, whole_iff] at *; omega), rfl⟩

set_option maxHeartbeats 4000000 in
theorem take_any (n a : Int) (w : World) :
    Calls Try.prog 25 #[.int .i64 n, .int .i64 a] w fun e w' => e = ret2 (takeR n a) ∧ w = w' := by
  rcases mayC (n) with ⟨h1, b1, c1⟩ | ⟨h1, b1, c1⟩ <;> rcases ltC a 0 with ⟨h2, b2⟩ | ⟨h2, b2⟩ <;> rcases ltC (max n 0) a with ⟨h3, b3⟩ | ⟨h3, b3⟩
  all_goals first | (exfalso; simp only [may_iff, whole_iff] at *; omega) | skip
  all_goals
    go_enter Try.func25, Try.ntmps25
    go_wp2_with (first | (go_at_call 30; refine (may_any _ _).mono ?_; rintro e w' ⟨rfl, rfl⟩))
    go_ret2
    exact ⟨by unfold takeR ret2; (repeat' split) <;> first | rfl | (exact ret_int2 (by omega) (by omega)) | (exfalso; simp only [may_iff, whole_iff] at *; omega), rfl⟩

set_option maxHeartbeats 4000000 in
theorem shift_any (n a b : Int) (w : World) :
    Calls Try.prog 27 #[.int .i64 n, .int .i64 a, .int .i64 b] w fun e w' => e = ret2 (shiftR n a b) ∧ w = w' := by
  rcases mayC (n) with ⟨h1, b1, c1⟩ | ⟨h1, b1, c1⟩ <;> rcases wholeC (a) with ⟨h2, b2, c2⟩ | ⟨h2, b2, c2⟩ <;> rcases wholeC (b) with ⟨h3, b3, c3⟩ | ⟨h3, b3, c3⟩ <;> rcases mayC ((n + b - a)) with ⟨h4, b4, c4⟩ | ⟨h4, b4, c4⟩
  all_goals first | (exfalso; simp only [may_iff, whole_iff] at *; omega) | skip
  all_goals
    go_enter Try.func27, Try.ntmps27
    go_wp2_with (first | (go_at_call 30; refine (may_any _ _).mono ?_; rintro e w' ⟨rfl, rfl⟩) | (go_at_call 31; refine (whole_any _ _).mono ?_; rintro e w' ⟨rfl, rfl⟩))
    go_ret2
    exact ⟨by unfold shiftR ret2; (repeat' split) <;> first | rfl | (exact ret_int2 (by omega) (by omega)) | (exfalso; simp only [may_iff, whole_iff] at *; omega), rfl⟩

set_option maxHeartbeats 4000000 in
theorem rgive_any (n a : Int) (w : World) :
    Calls Try.prog 24 #[.int .i64 n, .int .i64 a] w fun e w' => e = ret2 (giveR n a) ∧ w = w' := by
  rcases (mayC (n)).symm with ⟨h1, b1, c1⟩ | ⟨h1, b1, c1⟩
  rotate_left
  rcases ltC a 1 with ⟨h2, b2⟩ | ⟨h2, b2⟩
  rotate_left
  rcases ltC 2147483647 a with ⟨h3, b3⟩ | ⟨h3, b3⟩
  rotate_left
  rcases ltC 2147483647 (n + a) with ⟨h4, b4⟩ | ⟨h4, b4⟩
  rotate_left
  all_goals first | (exfalso; simp only [may_iff, whole_iff] at *; omega) | skip
  all_goals
    go_enter Try.func24, Try.ntmps24
    go_wp2_with (first | (go_at_call 32; refine (bad_any _ _).mono ?_; rintro e w' ⟨rfl, rfl⟩))
    go_ret2
    exact ⟨by unfold giveR ret2; (repeat' split) <;> first | rfl | (exact ret_int2 (by omega) (by omega)) | (exfalso; simp only [may_iff, whole_iff] at *; omega), rfl⟩

set_option maxHeartbeats 4000000 in
theorem rtake_any (n a : Int) (w : World) :
    Calls Try.prog 26 #[.int .i64 n, .int .i64 a] w fun e w' => e = ret2 (takeR n a) ∧ w = w' := by
  rcases (mayC (n)).symm with ⟨h1, b1, c1⟩ | ⟨h1, b1, c1⟩
  rotate_left
  rcases ltC a 0 with ⟨h2, b2⟩ | ⟨h2, b2⟩
  rotate_left
  rcases (ltC 0 a).symm with ⟨h3, b3⟩ | ⟨h3, b3⟩
  rotate_left
  rcases ltC n a with ⟨h4, b4⟩ | ⟨h4, b4⟩
  rotate_left
  all_goals first | (exfalso; simp only [may_iff, whole_iff] at *; omega) | skip
  all_goals
    go_enter Try.func26, Try.ntmps26
    go_wp2_with (first | (go_at_call 32; refine (bad_any _ _).mono ?_; rintro e w' ⟨rfl, rfl⟩))
    go_ret2
    exact ⟨by unfold takeR ret2; (repeat' split) <;> first | rfl | (exact ret_int2 (by omega) (by omega)) | (exfalso; simp only [may_iff, whole_iff] at *; omega), rfl⟩

set_option maxHeartbeats 4000000 in
theorem rshift_any (n a b : Int) (w : World) :
    Calls Try.prog 28 #[.int .i64 n, .int .i64 a, .int .i64 b] w fun e w' => e = ret2 (shiftR n a b) ∧ w = w' := by
  rcases (mayC (n)).symm with ⟨h1, b1, c1⟩ | ⟨h1, b1, c1⟩
  rotate_left
  rcases ltC a 0 with ⟨h2, b2⟩ | ⟨h2, b2⟩
  rotate_left
  rcases ltC 2147483647 a with ⟨h3, b3⟩ | ⟨h3, b3⟩
  rotate_left
  rcases ltC b 0 with ⟨h4, b4⟩ | ⟨h4, b4⟩
  rotate_left
  rcases ltC 2147483647 b with ⟨h5, b5⟩ | ⟨h5, b5⟩
  rotate_left
  rcases (mayC ((n - a + b))).symm with ⟨h6, b6, c6⟩ | ⟨h6, b6, c6⟩
  rotate_left
  all_goals first | (exfalso; simp only [may_iff, whole_iff] at *; omega) | skip
  all_goals
    go_enter Try.func28, Try.ntmps28
    go_wp2_with (first | (go_at_call 32; refine (bad_any _ _).mono ?_; rintro e w' ⟨rfl, rfl⟩))
    go_ret2
    exact ⟨by unfold shiftR ret2; (repeat' split) <;> first | rfl | (exact ret_int2 (by omega) (by omega)) | (exfalso; simp only [may_iff, whole_iff] at *; omega), rfl⟩

set_option maxHeartbeats 4000000 in
theorem most_any (a b c d : Int) (w : World) :
    Calls Try.prog 22 #[.int .i64 a, .int .i64 b, .int .i64 c, .int .i64 d] w fun e w' => e = .returned (.int .i64 (mostR a b c d)) ∧ w = w' := by
  all_goals
    have hm4 := @run_min_ints4 Try.prog
    go_enter Try.func22, Try.ntmps22
    go_wp2_with (fail)
    go_ret
    exact ⟨ret_int (by unfold mostR; omega), rfl⟩

set_option maxHeartbeats 4000000 in
theorem rmost_any (a b c d : Int) (w : World) :
    Calls Try.prog 29 #[.int .i64 a, .int .i64 b, .int .i64 c, .int .i64 d] w fun e w' => e = .returned (.int .i64 (mostR a b c d)) ∧ w = w' := by
  all_goals
    have hm4 := @run_min_ints4 Try.prog
    go_enter Try.func29, Try.ntmps29
    go_wp2_with (fail)
    go_ret
    exact ⟨ret_int (by unfold mostR; omega), rfl⟩

end Go.Proofs.Ytpnpnmcfknhnmaa.Win
