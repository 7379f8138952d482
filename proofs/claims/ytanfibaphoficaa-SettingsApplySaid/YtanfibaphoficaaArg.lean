/-
  The arguments of this seat's laws, opened.
-/
import Derived.Test.YtanfibaphoficaaSet
import Derived.Test.YtanfibaphoficaaAll
import Derived.Test.YtanfibaphoficaaLift
namespace Go.Proofs.Ytanfibaphoficaa.Set
open Go.ChangeShapes Go.WideShapes Go.ChangeAt Go.RowKit
open Go.Proofs.Ytanfibaphoficaa.B
set_option linter.unusedVariables false
set_option linter.unusedSimpArgs false

def encV (v : V) : List Value := [.int .i64 v.table, .bool v.push, .int .i64 v.streams, .int .i64 v.window, .int .i64 v.frame, .int .i64 v.list]
structure V.Ok (v : V) : Prop where
  a : (Lit.int .i64 v.table).wf = true
  b : (Lit.int .i64 v.streams).wf = true
  c : (Lit.int .i64 v.window).wf = true
  d : (Lit.int .i64 v.frame).wf = true
  e : (Lit.int .i64 v.list).wf = true
theorem u32_bounds {n : Int} (h : (Lit.int .u32 n).wf = true) : 0 ≤ n ∧ n ≤ 4294967295 := by
  simpa [Lit.wf, IntKind.min, IntKind.max, IntKind.signed, IntKind.bits] using h
theorem decV {H : Type} {enc : TypeId × Value → H} {W : World} (n : Nat) (cs : List Value) (x : DataW H × List MemPlace) (hl : cs.length = 6)
    (h : DataW.trod enc Try.prog W 0 (fun _ => true) true n 23 cs = some x) : ∃ z, cs = encV z ∧ V.Ok z := by
  obtain ⟨xs, k, hk, hx, hlen, hxl, hf⟩ := DataW.trod_struct Try.underlying23 h
  have g0 : DataW.trod enc Try.prog W 0 (fun _ => true) true k 3 ((cs.drop 0).take (Try.prog.cellsOf 3)) = xs[0]? := hf 0 _ rfl
  have g1 : DataW.trod enc Try.prog W 0 (fun _ => true) true k 4 ((cs.drop 1).take (Try.prog.cellsOf 4)) = xs[1]? := hf 1 _ rfl
  have g2 : DataW.trod enc Try.prog W 0 (fun _ => true) true k 3 ((cs.drop 2).take (Try.prog.cellsOf 3)) = xs[2]? := hf 2 _ rfl
  have g3 : DataW.trod enc Try.prog W 0 (fun _ => true) true k 3 ((cs.drop 3).take (Try.prog.cellsOf 3)) = xs[3]? := hf 3 _ rfl
  have g4 : DataW.trod enc Try.prog W 0 (fun _ => true) true k 3 ((cs.drop 4).take (Try.prog.cellsOf 3)) = xs[4]? := hf 4 _ rfl
  have g5 : DataW.trod enc Try.prog W 0 (fun _ => true) true k 3 ((cs.drop 5).take (Try.prog.cellsOf 3)) = xs[5]? := hf 5 _ rfl
  match xs, hxl, cs, hl with
  | [y0, y1, y2, y3, y4, y5], _, [v0, v1, v2, v3, v4, v5], _ =>
    simp only [show Try.prog.cellsOf 3 = 1 from by kernel_rfl, show Try.prog.cellsOf 4 = 1 from by kernel_rfl] at g0 g1 g2 g3 g4 g5
    obtain ⟨a, ha, _, hwa⟩ := DataW.trod_int Try.underlying3 (by simpa using g0)
    obtain ⟨b, hb, _⟩ := DataW.trod_bool Try.underlying4 (by simpa using g1)
    obtain ⟨c, hc, _, hwc⟩ := DataW.trod_int Try.underlying3 (by simpa using g2)
    obtain ⟨d, hd, _, hwd⟩ := DataW.trod_int Try.underlying3 (by simpa using g3)
    obtain ⟨e, he, _, hwe⟩ := DataW.trod_int Try.underlying3 (by simpa using g4)
    obtain ⟨f, hf, _, hwf⟩ := DataW.trod_int Try.underlying3 (by simpa using g5)
    simp at ha hb hc hd he hf
    exact ⟨⟨a, b, c, d, e, f⟩, by simp [encV, ha, hb, hc, hd, he, hf], hwa, hwc, hwd, hwe, hwf⟩
theorem decS {H : Type} {enc : TypeId × Value → H} {W : World} (n : Nat) (cs : List Value) (x : DataW H × List MemPlace) (hl : cs.length = 2)
    (h : DataW.trod enc Try.prog W 0 (fun _ => true) true n 30 cs = some x) : ∃ z, cs = encS z ∧ S.Ok z := by
  obtain ⟨xs, k, hk, hx, hlen, hxl, hf⟩ := DataW.trod_struct Try.underlying30 h
  have g0 : DataW.trod enc Try.prog W 0 (fun _ => true) true k 3 ((cs.drop 0).take (Try.prog.cellsOf 3)) = xs[0]? := hf 0 _ rfl
  have g1 : DataW.trod enc Try.prog W 0 (fun _ => true) true k 28 ((cs.drop 1).take (Try.prog.cellsOf 28)) = xs[1]? := hf 1 _ rfl
  match xs, hxl, cs, hl with
  | [y0, y1], _, [v0, v1], _ =>
    simp only [show Try.prog.cellsOf 3 = 1 from by kernel_rfl, show Try.prog.cellsOf 28 = 1 from by kernel_rfl] at g0 g1
    obtain ⟨a, ha, _, hwa⟩ := DataW.trod_int Try.underlying3 (by simpa using g0)
    obtain ⟨b, hb, _, hwb⟩ := DataW.trod_int Try.underlying28 (by simpa using g1)
    simp at ha hb
    obtain ⟨p, q⟩ := i64_bounds hwa
    obtain ⟨r, s⟩ := u32_bounds hwb
    exact ⟨⟨a, b⟩, by simp [encS, ha, hb], p, q, r, s⟩
end Go.Proofs.Ytanfibaphoficaa.Set
