/-
  The small case that must work: the two frames that are written.
-/
import Derived.Test.YthhgnipiaohplaaFpu
namespace Go.Proofs.Ythhgnipiaohplaa.Fr
open Go.ChangeShapes Go.WideShapes Go.ChangeAt Go.RowKit
open Go.Proofs.Ythhgnipiaohplaa.B
set_option linter.unusedVariables false
set_option linter.unusedSimpArgs false

/-- A frame of the kind 0, laid out. -/
abbrev dat (st : Int) (en : Bool) (pv : Value) (pad : Int) : Array Value := #[.int .i64 0, .int .i64 st, .bool en, .bool false, .bool false, .bool false, pv, .int .i64 0, .int .i64 pad, .int .i64 0, .bool false, .int .i64 0, .int .u32 0, .slice none 0 0, .int .i64 0, .int .i64 0]
set_option maxRecDepth 100000 in
set_option maxHeartbeats 4000000 in
theorem bare0 (st : Int) (en : Bool) (a : Option Addr) (n c : Nat) (pad : Int) (w : World) : Calls Try.prog 51 #[.agg (dat st en (.slice a n c) pad)] w fun e w' => e = .returned (.agg (dat st false (.slice none 0 0) 0)) ∧ Chg [] w w' := by
  go_enter Try.func51, Try.ntmps51
  go_wp2_with fail
  refine bodyPost_ret (v := .agg (dat st false (.slice none 0 0) 0)) (by simp [results, Try.results51, go_sem]) rfl ⟨rfl, ((Chg.refl _).alloc _).alloc _⟩
set_option maxRecDepth 100000 in
set_option maxHeartbeats 4000000 in
theorem may_no (w : World) : Calls Try.prog 31 #[.agg (dat 0 false (.slice none 0 0) 0)] w fun e w' => e = .returned (.bool false) ∧ Chg [] w w' := by
  go_enter Try.func31, Try.ntmps31
  go_wp2_with fail
  refine (stray_any 0 0 _).mono ?_; rintro e w1 ⟨rfl, rfl⟩
  rw [show strayB 0 0 = true from rfl]
  go_wp2_with fail
  go_ret
  exact ⟨rfl, (Chg.refl _).alloc _⟩
set_option maxRecDepth 100000 in
set_option maxHeartbeats 4000000 in
theorem may_yes (a : Option Addr) (n c : Nat) (w : World) : Calls Try.prog 31 #[.agg (dat 1 true (.slice a n c) 3)] w fun e w' => e = .returned (.bool true) ∧ Chg [] w w' := by
  obtain ⟨B, hB⟩ : ∃ B : Obj, B = .cells (dat 1 true (.slice a n c) 3) 27 (0, 0) := ⟨_, rfl⟩
  have HB := Lib.hid hB
  go_enter Try.func31, Try.ntmps31
  go_wp2_with fail
  refine (stray_any 0 1 _).mono ?_; rintro e w1 ⟨rfl, rfl⟩
  rw [show strayB 0 1 = false from rfl]
  go_wp2_with fail
  refine (bare0 1 true a n c 3 _).mono ?_; rintro e w2 ⟨rfl, c2⟩
  have b2 := (At.new w (.cells (dat 1 true (.slice a n c) 3) 27 (0, 0))).chg c2 (by simp)
  have d2 : Chg [] w w2 := ((Chg.refl w).alloc _).trans' c2
  have x0 : World.cell? w2 ⟨w.heap.size, 0, none⟩ = some (.int .i64 0) := b2.cell rfl
  have x5 : World.cell? w2 ⟨w.heap.size, 5, none⟩ = some (.bool false) := b2.cell rfl
  have x7 : World.cell? w2 ⟨w.heap.size, 7, none⟩ = some (.int .i64 0) := b2.cell rfl
  have x8 : World.cell? w2 ⟨w.heap.size, 8, none⟩ = some (.int .i64 3) := b2.cell rfl
  have x9 : World.cell? w2 ⟨w.heap.size, 9, none⟩ = some (.int .i64 0) := b2.cell rfl
  have x14 : World.cell? w2 ⟨w.heap.size, 14, none⟩ = some (.int .i64 0) := b2.cell rfl
  have hl2 := b2.lt
  have D2 := Lib.hid d2
  clear c2 b2 d2
  go_wp2_with fail
  go_ret
  exact ⟨rfl, D2.out.alloc _⟩
end Go.Proofs.Ythhgnipiaohplaa.Fr
