/-
  The walk of 'shown': the document's examples.
-/
import Derived.Test.YtpnpnmcfknhnmaaCre
namespace Go.Proofs.Ytpnpnmcfknhnmaa.Cre
open Go.ChangeShapes Go.WideShapes Go.ChangeAt Go.RowKit
open Go.Proofs.Ytpnpnmcfknhnmaa.B Go.Proofs.Ytpnpnmcfknhnmaa.Win
set_option linter.unusedVariables false
set_option linter.unusedSimpArgs false

theorem ret2_at (r : Int × Int) (a b : Int) (h : r = (a, b)) : ret2 r = .returned (.tuple #[.int .i64 a, .int .i64 b]) := by rw [h]; rfl

set_option maxHeartbeats 1000000 in
theorem shown_any (w : World) : Calls Try.prog 9 #[] w fun e w' => e = .returned (.bool true) ∧ Chg [] w w' := by
  go_enter Try.func9, Try.ntmps9
  go_wp2_with fail
  refine (Win.give_any 5 2147483647 _).mono ?_; rintro e w' ⟨he, rfl⟩; rw [ret2_at _ 0 8 (by decide)] at he; subst he
  go_wp2_with fail
  refine (Win.shift_any 10 100 20 _).mono ?_; rintro e w' ⟨he, rfl⟩; rw [ret2_at _ (-70) 0 (by decide)] at he; subst he
  go_wp2_with fail
  refine (new_any 10 _).mono ?_; rintro e w1 ⟨rfl, hc1, ha1⟩
  have ha1 : At w1 w.heap.size (cr ⟨10, 0, 0⟩) := ha1
  go_wp2_with fail
  refine (got_any _ ⟨10, 0, 0⟩ 6 _ ha1 ⟨by decide, by decide, by decide, by decide, by decide⟩ (by decide)).mono ?_; rintro e w2 ⟨he, hc2, ha2⟩; rw [show gotE ⟨10, 0, 0⟩ 6 = 0 from by decide] at he; subst he
  have ha2 : At w2 w.heap.size (cr ⟨10, 6, 0⟩) := ha2
  go_wp2_with fail
  refine (free_any _ ⟨10, 6, 0⟩ 4 _ ha2 ⟨by decide, by decide, by decide, by decide, by decide⟩ (by decide)).mono ?_; rintro e w3 ⟨he, hc3, ha3⟩; rw [show freeE ⟨10, 6, 0⟩ 4 = 0 from by decide] at he; subst he
  have ha3 : At w3 w.heap.size (cr ⟨10, 2, 4⟩) := ha3
  go_wp2_with fail
  refine (due_any _ ⟨10, 2, 4⟩ _ ha3 ⟨by decide, by decide, by decide, by decide, by decide⟩).mono ?_; rintro e w4 ⟨he, n1, rfl⟩; rw [show dueV ⟨10, 2, 4⟩ = 0 from by decide] at he; subst he
  go_wp2_with fail
  refine (free_any _ ⟨10, 2, 4⟩ 1 _ (ha3.drewN n1) ⟨by decide, by decide, by decide, by decide, by decide⟩ (by decide)).mono ?_; rintro e w5 ⟨he, hc5, ha5⟩; rw [show freeE ⟨10, 2, 4⟩ 1 = 0 from by decide] at he; subst he
  have ha5 : At w5 w.heap.size (cr ⟨10, 1, 5⟩) := ha5
  go_wp2_with fail
  refine (give_any _ ⟨10, 1, 5⟩ _ ha5 ⟨by decide, by decide, by decide, by decide, by decide⟩).mono ?_; rintro e w6 ⟨he, hc6, ha6⟩; rw [show dueV ⟨10, 1, 5⟩ = 5 from by decide] at he; subst he
  have ha6 : At w6 w.heap.size (cr ⟨10, 1, 0⟩) := ha6
  go_wp2_with fail
  refine (most_any 9 (-70) 16384 100 _).mono ?_; rintro e w7 ⟨he, rfl⟩; rw [show mostR 9 (-70) 16384 100 = 0 from by decide] at he; subst he
  go_wp2_with fail
  refine (left_any _ ⟨10, 1, 0⟩ _ ha6 ⟨by decide, by decide, by decide, by decide, by decide⟩).mono ?_; rintro e w8 ⟨he, n2, rfl⟩; rw [show St.left ⟨10, 1, 0⟩ = 9 from by decide] at he; subst he
  go_wp2_with fail
  refine (held_any _ ⟨10, 1, 0⟩ _ (ha6.drewN n2)).mono ?_; rintro e w9 ⟨rfl, n3, rfl⟩
  go_wp2_with fail
  go_ret
  refine ⟨rfl, ?_⟩
  have hd : ∀ x ∈ [w.heap.size], x ∈ ([] : List Nat) ∨ w.heap.size ≤ x := by simp
  exact (((((hc1.trans hc2 hd).trans hc3 hd).drewN n1).trans hc5 hd).trans hc6 hd).drewN _
end Go.Proofs.Ytpnpnmcfknhnmaa.Cre
