/-
  The document's Statics and Size.
-/
import Derived.Test.YthhfnmgonjippaaArgT
namespace Go.Proofs.Ythhfnmgonjippaa.Tb
open Go.ChangeShapes Go.WideShapes Go.ChangeAt Go.RowKit
open Go.Proofs.Ythhfnmgonjippaa.B
set_option linter.unusedVariables false
set_option linter.unusedSimpArgs false

set_option maxRecDepth 100000 in
set_option maxHeartbeats 4000000 in
theorem statics_any (w : World) :
    Calls Try.prog 11 #[] w fun e w' => e = .returned (.slice (some ⟨w.heap.size, 0, none⟩) 61 61) ∧ w' = w.alloc (.cells statC 23) := by
  obtain ⟨ie, hie, hz, hsz, _⟩ := infoParts infoF
  go_enter Try.func11, Try.ntmps11
  go_wp2_with (refine wpList_buildSlice rfl 25 23 61 _ rfl statC ie _ Try.underlying25 hie hz (by rw [hsz]; decide) (by rw [hsz]; decide) (by rw [hsz]; kernel_rfl) ?_)
  go_ret
  exact ⟨rfl, rfl⟩
theorem rsize_any (f : Fd) (w : World) (h : f.sz ≤ 9223372036854775807) :
    Calls Try.prog 14 #[.agg (aF f)] w fun e w' => e = .returned (.int .i64 f.sz) ∧ w' = w.alloc (.cells #[.string f.n, .string f.v, .bool f.nv] 23) := by
  unfold aF Fd.sz at *
  go_enter Try.func14, Try.ntmps14
  go_wp2_with fail
  go_ret
  exact ⟨by first | rfl | (congr 2; omega), rfl⟩
end Go.Proofs.Ythhfnmgonjippaa.Tb
