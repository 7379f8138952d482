/-
  The walk of 'shown': the document's examples.
-/
import Derived.Test.YtanfibaphoficaaTell
namespace Go.Proofs.Ytanfibaphoficaa.Set
open Go.ChangeShapes Go.WideShapes Go.ChangeAt Go.RowKit
open Go.Proofs.Ytanfibaphoficaa.B
set_option linter.unusedVariables false
set_option linter.unusedSimpArgs false

def dV : V := ⟨4096, true, -1, 65535, 16384, -1⟩
def dW : V := ⟨4096, true, -1, 10, 16384, -1⟩
theorem tell_dw : tellR dV dW = [⟨4, 10⟩] := by simp [tellR, tellK, tellD, numOf, dV, dW]
set_option maxRecDepth 100000 in
set_option maxHeartbeats 4000000 in
theorem shown_any (w : World) : Calls Try.prog 9 #[] w fun e w' => e = .returned (.bool true) ∧ Chg [] w w' := by
  go_enter Try.func9, Try.ntmps9
  go_wp2_with fail
  refine (default_any _).mono ?_; rintro e w1 ⟨rfl, hc1⟩
  unfold vA
  have a1 : At (w1.alloc (vB dV)) w1.heap.size (vB dV) := At.new _ _
  go_wp2_with fail
  refine (apply_any dV ⟨5, 16383⟩ false _ ⟨by decide, by decide, by decide, by decide⟩).mono ?_; rintro e w2 ⟨he, hc2⟩
  rw [show applyV dV ⟨5, 16383⟩ false = dV from rfl, show wrongC ⟨5, 16383⟩ false = 1 from by decide] at he
  subst he
  have a2 := a1.chg hc2 (by simp)
  have hc := (hc1.alloc (vB dV)).trans' hc2
  clear hc1 hc2 a1
  unfold vA fA
  generalize w1.heap.size = D at *
  have t2 := a2.lt
  have t3 : D < w2.heap.size + 1 := by omega
  have t4 : D < w2.heap.size + 1 + 1 := by omega
  have t5 : D < w2.heap.size + 1 + 1 + 1 := by omega
  have x0 : World.cell? w2 ⟨D, 0, none⟩ = some (.int .i64 (dV).table) := (a2).cell rfl
  have x1 : World.cell? w2 ⟨D, 1, none⟩ = some (.bool (dV).push) := (a2).cell rfl
  have x2 : World.cell? w2 ⟨D, 2, none⟩ = some (.int .i64 (dV).streams) := (a2).cell rfl
  have x3 : World.cell? w2 ⟨D, 3, none⟩ = some (.int .i64 (dV).window) := (a2).cell rfl
  have x4 : World.cell? w2 ⟨D, 4, none⟩ = some (.int .i64 (dV).frame) := (a2).cell rfl
  have x5 : World.cell? w2 ⟨D, 5, none⟩ = some (.int .i64 (dV).list) := (a2).cell rfl
  go_wp2_with fail
  refine (tell_any dV dW w.heap.size _ (by have := hc.size; simp; omega)).mono ?_; rintro e w3 ⟨sv, rfl, hc3, hown⟩
  have b0 := (((a2.alloc (vB dV)).alloc (fB 1)).alloc (vB dW)).chg hc3 (by simp)
  have b1 : At w3 (w2.heap.size + 1) (fB 1) := ((At.new' (by simp)).alloc (vB dW)).chg hc3 (by simp)
  have hc4 := (((hc.alloc (vB dV)).alloc (fB 1)).alloc (vB dW)).trans' hc3
  rw [tell_dw] at hown
  obtain ⟨sa, cap, rfl, _, _, hrow⟩ := owns_val hown
  obtain ⟨g, rfl, _, hg, _⟩ := hrow (by simp)
  have g0 : w3.cell? ⟨g, 0, none⟩ = some (.int .i64 4) := hg 0 (by simp)
  have g1 : w3.cell? ⟨g, 1, none⟩ = some (.int .u32 10) := hg 1 (by simp)
  clear x0 x1 x2 x3 x4 x5 hc hc3 a2 hown hg hrow
  have x0 : World.cell? w3 ⟨D, 0, none⟩ = some (.int .i64 (dV).table) := (b0).cell rfl
  have x1 : World.cell? w3 ⟨D, 1, none⟩ = some (.bool (dV).push) := (b0).cell rfl
  have x2 : World.cell? w3 ⟨D, 2, none⟩ = some (.int .i64 (dV).streams) := (b0).cell rfl
  have x3 : World.cell? w3 ⟨D, 3, none⟩ = some (.int .i64 (dV).window) := (b0).cell rfl
  have x4 : World.cell? w3 ⟨D, 4, none⟩ = some (.int .i64 (dV).frame) := (b0).cell rfl
  have x5 : World.cell? w3 ⟨D, 5, none⟩ = some (.int .i64 (dV).list) := (b0).cell rfl
  have z0 : w3.cell? ⟨w2.heap.size + 1, 0, none⟩ = some (.bool true) := b1.cell rfl
  have z1 : w3.cell? ⟨w2.heap.size + 1, 1, none⟩ = some (.int .u32 1) := b1.cell rfl
  simp only [show dV.table = 4096 from rfl, show dV.push = true from rfl, show dV.streams = -1 from rfl, show dV.window = 65535 from rfl, show dV.frame = 16384 from rfl, show dV.list = -1 from rfl] at x0 x1 x2 x3 x4 x5
  go_wp2_with fail
  go_ret
  exact ⟨by simp, hc4⟩
end Go.Proofs.Ytanfibaphoficaa.Set
