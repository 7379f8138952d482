/-
  The law's own small: a field whose texts are of two thousand octets at most.
-/
import Derived.Test.YthhfnmgonjippaaSame
namespace Go.Proofs.Ythhfnmgonjippaa.Tb
open Go.ChangeShapes Go.WideShapes Go.ChangeAt Go.RowKit
open Go.Proofs.Ythhfnmgonjippaa.B
set_option linter.unusedVariables false
set_option linter.unusedSimpArgs false

set_option maxRecDepth 100000 in
set_option maxHeartbeats 4000000 in
theorem small_any (f : Fd) (w : World) (hn : f.n.size ≤ 9223372036854775807) (hv : f.v.size ≤ 9223372036854775807) :
    Calls Try.prog 24 #[.agg (aF f)] w fun e w' => ∃ g : Fd, e = .returned (.agg (aF g)) ∧ g.sz ≤ 4032 ∧ Chg [] w w' := by
  obtain ⟨A, hA⟩ : ∃ A : Nat, A = min f.n.size 2000 := ⟨_, rfl⟩
  obtain ⟨B, hB⟩ : ∃ B : Nat, B = min f.v.size 2000 := ⟨_, rfl⟩
  have eA : min (f.n.size : Int) 2000 = (A : Int) := by omega
  have eB : min (f.v.size : Int) 2000 = (B : Int) := by omega
  have lA : (A : Int) ≤ (f.n.size : Int) := by omega
  have lB : (B : Int) ≤ (f.v.size : Int) := by omega
  have lA0 : (0 : Int) ≤ (A : Int) := by omega
  have lB0 : (0 : Int) ≤ (B : Int) := by omega
  have HA := Lib.hid hA; have HB := Lib.hid hB
  clear hA hB
  unfold aF
  go_enter Try.func24, Try.ntmps24
  go_wp2_with fail
  have hz := At.new' (w := w.alloc (.cells #[.string (f.n.extract 0 A), .string (f.v.extract 0 B), .bool f.nv] 23)) (o := .cells #[.string (f.n.extract 0 A), .string (f.v.extract 0 B), .bool f.nv] 23 (0, 0)) (k := w.heap.size + 1) (by simp)
  have z0 := hz.cell (o := 0) rfl
  have z1 := hz.cell (o := 1) rfl
  have z2 := hz.cell (o := 2) rfl
  refine bodyPost_ret (v := .agg #[.string (f.n.extract 0 A), .string (f.v.extract 0 B), .bool f.nv]) (by simp [results, Try.results24, go_sem, z0, z1, z2]) rfl ⟨⟨f.n.extract 0 A, f.v.extract 0 B, f.nv⟩, rfl, ?_, ((Chg.refl w).alloc _).alloc _⟩
  show (f.n.extract 0 A).size + (f.v.extract 0 B).size + 32 ≤ 4032
  rw [ByteArray.size_extract, ByteArray.size_extract]
  have := HA.out; have := HB.out
  omega
end Go.Proofs.Ythhfnmgonjippaa.Tb
