/-
  Arguments of this seat's laws, opened.
-/
import Derived.Test.YtmoeioaahampaaaHas
import Derived.Test.YtmoeioaahampaaaOpenW
namespace Go.Proofs.Ytmoeioaahampaaa.Tb
open Go.ChangeShapes Go.WideShapes Go.ChangeAt Go.RowKit
open Go.Proofs.Ytmoeioaahampaaa.B
set_option linter.unusedVariables false
set_option linter.unusedSimpArgs false
set_option maxRecDepth 100000 in
/-- A field whose texts are in reach. -/
def Fd.In (f : Fd) : Prop := f.n.size ≤ 140737488351232 ∧ f.v.size ≤ 140737488351232
set_option maxRecDepth 100000 in
theorem Fd.In.sz {f : Fd} (h : f.In) : f.sz ≤ 4611686018427387904 := by unfold Fd.In at h; unfold Fd.sz; omega
set_option maxRecDepth 100000 in
theorem size_list (s : ByteArray) : s.data.toList.length = s.size := by rw [Array.length_toList]; rfl
set_option maxRecDepth 100000 in
theorem decF {H : Type} {enc : TypeId × Value → H} {W : World} (n : Nat) (cs : List Value) (x : DataW H × List MemPlace) (hl : cs.length = 3)
    (h : DataW.trod enc Try.prog W 0 (fun _ => true) true n 44 cs = some x) : ∃ z, cs = encF z ∧ (Small' Try.prog 44 x.1 → z.In) := by
  obtain ⟨xs, k, hk, hx, hlen, hxl, hf⟩ := DataW.trod_struct Try.underlying44 h
  have g0 : DataW.trod enc Try.prog W 0 (fun _ => true) true k 9 ((cs.drop 0).take (Try.prog.cellsOf 9)) = xs[0]? := hf 0 _ rfl
  have g1 : DataW.trod enc Try.prog W 0 (fun _ => true) true k 9 ((cs.drop 1).take (Try.prog.cellsOf 9)) = xs[1]? := hf 1 _ rfl
  have g2 : DataW.trod enc Try.prog W 0 (fun _ => true) true k 4 ((cs.drop 2).take (Try.prog.cellsOf 4)) = xs[2]? := hf 2 _ rfl
  match xs, hxl, cs, hl with
  | [y0, y1, y2], _, [v0, v1, v2], _ =>
    simp only [show Try.prog.cellsOf 9 = 1 from by kernel_rfl, show Try.prog.cellsOf 4 = 1 from by kernel_rfl] at g0 g1 g2
    obtain ⟨a, ha, hxa, _⟩ := DataW.trod_string Try.underlying9 (x := y0) (by simpa using g0)
    obtain ⟨b, hb, hxb, _⟩ := DataW.trod_string Try.underlying9 (x := y1) (by simpa using g1)
    obtain ⟨c, hc, _⟩ := DataW.trod_bool Try.underlying4 (by simpa using g2)
    simp at ha hb hc
    refine ⟨⟨a, b, c⟩, by simp [encF, ha, hb, hc], fun hs => ?_⟩
    rw [hx] at hs
    have h0 := small_struct Try.underlying44 hs (j := 0) (t' := 9) (d := y0.1) rfl rfl
    have h1 := small_struct Try.underlying44 hs (j := 1) (t' := 9) (d := y1.1) rfl rfl
    rw [hxa] at h0
    rw [hxb] at h1
    have h0 := small_string h0
    have h1 := small_string h1
    rw [size_list] at h0 h1
    unfold reachBytes at h0 h1
    exact ⟨h0, h1⟩
/-- A step of a script. -/
structure O where
  k : Int
  n : Int
  f : Fd
set_option maxRecDepth 100000 in
def encO (o : O) : List Value := [.int .i64 o.k, .int .i64 o.n, .string o.f.n, .string o.f.v, .bool o.f.nv]
structure O.In (o : O) : Prop where
  n1 : -9223372036854775808 ≤ o.n
  n2 : o.n ≤ 9223372036854775807
  f : o.f.In
set_option maxRecDepth 100000 in
theorem o_cells {w : World} {a : Option Addr} {n cap : Nat} {zs : List O} (h : SliceOf w (.slice a n cap) 5 encO zs) (h0 : 0 < zs.length) :
    ∃ b off, a = some ⟨b, off, none⟩ ∧ b < w.heap.size ∧ ∀ i o, zs[i]? = some o → w.cell? ⟨b, off + i * 5, none⟩ = some (.int .i64 o.k) ∧ w.cell? ⟨b, off + i * 5 + 1, none⟩ = some (.int .i64 o.n) ∧ w.cell? ⟨b, off + i * 5 + 2, none⟩ = some (.string o.f.n) ∧ w.cell? ⟨b, off + i * 5 + 3, none⟩ = some (.string o.f.v) ∧ w.cell? ⟨b, off + i * 5 + 4, none⟩ = some (.bool o.f.nv) := by
  obtain ⟨b, off, rfl, hb, hc⟩ := h.at h0
  exact ⟨b, off, rfl, hb, fun i f hf => ⟨hc i f hf 0 (by omega), hc i f hf 1 (by omega), hc i f hf 2 (by omega), hc i f hf 3 (by omega), hc i f hf 4 (by omega)⟩⟩
end Go.Proofs.Ytmoeioaahampaaa.Tb
