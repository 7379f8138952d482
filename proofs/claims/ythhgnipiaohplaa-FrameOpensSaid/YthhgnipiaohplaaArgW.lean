/-
  An argument that is a slice of octets, with what the reading's reach tells of its length.
-/
import Derived.Test.YthhgnipiaohplaaArg
import Derived.Test.YthhgnipiaohplaaOpenW
namespace Go.Proofs.Ythhgnipiaohplaa.B
open Go.ChangeShapes Go.WideShapes Go.ChangeAt Go.RowKit

set_option maxRecDepth 100000 in
theorem decB_w {H : Type} {enc : TypeId × Value → H} {W : World} (n : Nat) (cs : List Value) (x : DataW H × List MemPlace) (hl : cs.length = 1)
    (h : DataW.trod enc Try.prog W 0 (fun _ => true) true n 5 cs = some x) : ∃ z, cs = encB z ∧ (Small' Try.prog 5 x.1 → True) := by
  obtain ⟨z, h1, _⟩ := decB n cs x hl h
  exact ⟨z, h1, fun _ => trivial⟩
set_option maxRecDepth 100000 in
theorem open_bytes_w {H : Type} {enc : TypeId × Value → H} {W : World} {r : Reach} {b0 : Nat} {v : Value} {d : DataW H} {ps : List MemPlace} (hval : Value.okWide Try.prog W r b0 22 v)
    (hd : DataW.Trod enc Try.prog W 0 (fun _ => true) true 22 v d ps) (hlt : ∀ p ∈ ps, p.block < W.heap.size) (hs : Small' Try.prog 22 d) : ∃ l : List UInt8, l.length ≤ 140737488351232 ∧ BytesOf W v l := by
  obtain ⟨zs, _, h0, h1, h2⟩ := open_slice_w 1 encB (fun _ => True) Try.underlying22 (by kernel_rfl) (by omega) hval decB_w hd hlt hs
  have hb : Try.prog.bytesOf 5 = 1 := by kernel_rfl
  rw [hb, Nat.mul_one] at h0
  exact ⟨zs, h0, h2⟩
end Go.Proofs.Ythhgnipiaohplaa.B
