/-
  The document's Statics and Size.
-/
import Derived.Test.YtmoeioaahampaaaArgT
namespace Go.Proofs.Ytmoeioaahampaaa.Tb
open Go.ChangeShapes Go.WideShapes Go.ChangeAt Go.RowKit
open Go.Proofs.Ytmoeioaahampaaa.B
set_option linter.unusedVariables false
set_option linter.unusedSimpArgs false

set_option maxRecDepth 100000 in
set_option maxHeartbeats 4000000 in
theorem statics_any (w : World) :
    Calls Try.prog 23 #[] w fun e w' => e = .returned (.slice (some ⟨w.heap.size, 0, none⟩) 61 61) ∧ w' = w.alloc (.cells statC 44) := by
  obtain ⟨ie, hie, hz, hsz, _⟩ := infoParts infoF
  go_enter Try.func23, Try.ntmps23
  go_wp2_with (refine wpList_buildSlice rfl 26 44 61 _ rfl statC ie _ Try.underlying26 hie hz (by rw [hsz]; decide) (by rw [hsz]; decide) (by rw [hsz]; kernel_rfl) ?_)
  go_ret
  exact ⟨rfl, rfl⟩
set_option maxRecDepth 100000 in
theorem rsize_any (f : Fd) (w : World) (h : f.sz ≤ 9223372036854775807) :
    Calls Try.prog 21 #[.agg (aF f)] w fun e w' => e = .returned (.int .i64 f.sz) ∧ w' = w.alloc (.cells #[.string f.n, .string f.v, .bool f.nv] 44) := by
  unfold aF Fd.sz at *
  go_enter Try.func21, Try.ntmps21
  go_wp2_with fail
  go_ret
  exact ⟨by first | rfl | (congr 2; omega), rfl⟩
end Go.Proofs.Ytmoeioaahampaaa.Tb
