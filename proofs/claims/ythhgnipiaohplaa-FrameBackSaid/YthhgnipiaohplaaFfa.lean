/-
  Frames that are handed in, opened.
-/
import Derived.Test.YthhgnipiaohplaaFto
import Derived.Test.YthhgnipiaohplaaFmb
import Derived.Test.YthhgnipiaohplaaArg
import Derived.Test.YthhgnipiaohplaaOpenN
namespace Go.Proofs.Ythhgnipiaohplaa.Fr
open Go.ChangeShapes Go.WideShapes Go.ChangeAt Go.RowKit
open Go.Proofs.Ythhgnipiaohplaa.B
set_option linter.unusedVariables false
set_option linter.unusedSimpArgs false

def SetOk (s : Int × Int) : Prop := 0 ≤ s.2 ∧ s.2 < 4294967296
set_option maxRecDepth 100000 in
theorem decSt {H : Type} {enc : TypeId × Value → H} {W : World} (n : Nat) (cs : List Value) (x : DataW H × List MemPlace) (hl : cs.length = 2)
    (h : DataW.trod enc Try.prog W 0 (fun _ => true) true n 50 cs = some x) : ∃ z, cs = encS z ∧ SetOk z := by
  obtain ⟨xs, k, hk, hx, hlen, hxl, hf⟩ := DataW.trod_struct Try.underlying50 h
  have g0 : DataW.trod enc Try.prog W 0 (fun _ => true) true k 3 ((cs.drop 0).take (Try.prog.cellsOf 3)) = xs[0]? := hf 0 _ rfl
  have g1 : DataW.trod enc Try.prog W 0 (fun _ => true) true k 23 ((cs.drop 1).take (Try.prog.cellsOf 23)) = xs[1]? := hf 1 _ rfl
  match xs, hxl, cs, hl with
  | [y0, y1], _, [v0, v1], _ =>
    simp only [show Try.prog.cellsOf 3 = 1 from by kernel_rfl, show Try.prog.cellsOf 23 = 1 from by kernel_rfl] at g0 g1
    obtain ⟨a, ha, _, _⟩ := DataW.trod_int Try.underlying3 (by simpa using g0)
    obtain ⟨b, hb, _, hw⟩ := DataW.trod_int Try.underlying23 (by simpa using g1)
    simp at ha hb
    exact ⟨(a, b), by simp [encS, ha, hb], by have h2 : 0 ≤ b ∧ b ≤ 4294967295 := (by simpa [Lit.wf, IntKind.min, IntKind.max, IntKind.signed, IntKind.bits] using hw); unfold SetOk; simp only; omega⟩
/-- A frame that is handed in. -/
structure Tv.In (W : World) (x : Tv) : Prop where
  p : BytesOf W x.pv x.F.pay
  l : SliceOf W x.lv 2 encS x.F.list
  w : x.F.Wf
theorem Tv.In.chg0 {W w : World} {x : Tv} (h : x.In W) (hc : Chg [] W w) : x.In w := ⟨h.p.chg0 hc, h.l.chg0 hc, h.w⟩
set_option maxRecDepth 100000 in
set_option maxHeartbeats 4000000 in
theorem decFr {H : Type} {enc : TypeId × Value → H} {W : World} (n : Nat) (cs : List Value) (x : DataW H × List MemPlace) (hl : cs.length = 16)
    (h : DataW.trod enc Try.prog W 0 (fun _ => true) true n 27 cs = some x) (hlt : ∀ p ∈ x.2, p.block < W.heap.size) (hs : Small' Try.prog 27 x.1) : ∃ z : Tv, cs = encFr z ∧ z.In W := by
  obtain ⟨xs, k, hk, hx, hlen, hxl, hf⟩ := DataW.trod_struct Try.underlying27 h
  have g0 : DataW.trod enc Try.prog W 0 (fun _ => true) true k 3 ((cs.drop 0).take (Try.prog.cellsOf 3)) = xs[0]? := hf 0 _ rfl
  have g1 : DataW.trod enc Try.prog W 0 (fun _ => true) true k 3 ((cs.drop 1).take (Try.prog.cellsOf 3)) = xs[1]? := hf 1 _ rfl
  have g2 : DataW.trod enc Try.prog W 0 (fun _ => true) true k 4 ((cs.drop 2).take (Try.prog.cellsOf 4)) = xs[2]? := hf 2 _ rfl
  have g3 : DataW.trod enc Try.prog W 0 (fun _ => true) true k 4 ((cs.drop 3).take (Try.prog.cellsOf 4)) = xs[3]? := hf 3 _ rfl
  have g4 : DataW.trod enc Try.prog W 0 (fun _ => true) true k 4 ((cs.drop 4).take (Try.prog.cellsOf 4)) = xs[4]? := hf 4 _ rfl
  have g5 : DataW.trod enc Try.prog W 0 (fun _ => true) true k 4 ((cs.drop 5).take (Try.prog.cellsOf 4)) = xs[5]? := hf 5 _ rfl
  have g6 : DataW.trod enc Try.prog W 0 (fun _ => true) true k 22 ((cs.drop 6).take (Try.prog.cellsOf 22)) = xs[6]? := hf 6 _ rfl
  have g7 : DataW.trod enc Try.prog W 0 (fun _ => true) true k 3 ((cs.drop 7).take (Try.prog.cellsOf 3)) = xs[7]? := hf 7 _ rfl
  have g8 : DataW.trod enc Try.prog W 0 (fun _ => true) true k 3 ((cs.drop 8).take (Try.prog.cellsOf 3)) = xs[8]? := hf 8 _ rfl
  have g9 : DataW.trod enc Try.prog W 0 (fun _ => true) true k 3 ((cs.drop 9).take (Try.prog.cellsOf 3)) = xs[9]? := hf 9 _ rfl
  have g10 : DataW.trod enc Try.prog W 0 (fun _ => true) true k 4 ((cs.drop 10).take (Try.prog.cellsOf 4)) = xs[10]? := hf 10 _ rfl
  have g11 : DataW.trod enc Try.prog W 0 (fun _ => true) true k 3 ((cs.drop 11).take (Try.prog.cellsOf 3)) = xs[11]? := hf 11 _ rfl
  have g12 : DataW.trod enc Try.prog W 0 (fun _ => true) true k 24 ((cs.drop 12).take (Try.prog.cellsOf 24)) = xs[12]? := hf 12 _ rfl
  have g13 : DataW.trod enc Try.prog W 0 (fun _ => true) true k 25 ((cs.drop 13).take (Try.prog.cellsOf 25)) = xs[13]? := hf 13 _ rfl
  have g14 : DataW.trod enc Try.prog W 0 (fun _ => true) true k 3 ((cs.drop 14).take (Try.prog.cellsOf 3)) = xs[14]? := hf 14 _ rfl
  have g15 : DataW.trod enc Try.prog W 0 (fun _ => true) true k 3 ((cs.drop 15).take (Try.prog.cellsOf 3)) = xs[15]? := hf 15 _ rfl
  match xs, hxl, cs, hl with
  | [y0, y1, y2, y3, y4, y5, y6, y7, y8, y9, y10, y11, y12, y13, y14, y15], _, [v0, v1, v2, v3, v4, v5, v6, v7, v8, v9, v10, v11, v12, v13, v14, v15], _ =>
    simp only [show Try.prog.cellsOf 3 = 1 from by kernel_rfl, show Try.prog.cellsOf 4 = 1 from by kernel_rfl, show Try.prog.cellsOf 22 = 1 from by kernel_rfl, show Try.prog.cellsOf 24 = 1 from by kernel_rfl, show Try.prog.cellsOf 25 = 1 from by kernel_rfl] at g0 g1 g2 g3 g4 g5 g6 g7 g8 g9 g10 g11 g12 g13 g14 g15
    obtain ⟨a0, h0, _, w0⟩ := DataW.trod_int Try.underlying3 (by simpa using g0)
    obtain ⟨a1, h1, _, w1⟩ := DataW.trod_int Try.underlying3 (by simpa using g1)
    obtain ⟨a2, h2, _⟩ := DataW.trod_bool Try.underlying4 (by simpa using g2)
    obtain ⟨a3, h3, _⟩ := DataW.trod_bool Try.underlying4 (by simpa using g3)
    obtain ⟨a4, h4, _⟩ := DataW.trod_bool Try.underlying4 (by simpa using g4)
    obtain ⟨a5, h5, _⟩ := DataW.trod_bool Try.underlying4 (by simpa using g5)
    obtain ⟨a7, h7, _, w7⟩ := DataW.trod_int Try.underlying3 (by simpa using g7)
    obtain ⟨a8, h8, _, w8⟩ := DataW.trod_int Try.underlying3 (by simpa using g8)
    obtain ⟨a9, h9, _, w9⟩ := DataW.trod_int Try.underlying3 (by simpa using g9)
    obtain ⟨a10, h10, _⟩ := DataW.trod_bool Try.underlying4 (by simpa using g10)
    obtain ⟨a11, h11, _, w11⟩ := DataW.trod_int Try.underlying3 (by simpa using g11)
    obtain ⟨a12, h12, _, w12⟩ := DataW.trod_int Try.underlying24 (by simpa using g12)
    obtain ⟨a14, h14, _, w14⟩ := DataW.trod_int Try.underlying3 (by simpa using g14)
    obtain ⟨a15, h15, _, w15⟩ := DataW.trod_int Try.underlying3 (by simpa using g15)
    simp at h0 h1 h2 h3 h4 h5 h7 h8 h9 h10 h11 h12 h14 h15
    subst hx
    have s6 := small_struct Try.underlying27 hs (j := 6) (t' := 22) (d := y6.1) rfl rfl
    have s13 := small_struct Try.underlying27 hs (j := 13) (t' := 25) (d := y13.1) rfl rfl
    obtain ⟨l6, _, _, _, q6⟩ := open_slice_n 1 encB (fun _ => True) Try.underlying22 (by kernel_rfl) (by omega)
      (fun n cs x hl h _ hs => (Go.Proofs.Ythhgnipiaohplaa.B.decB n cs x hl h).imp fun z hz => ⟨hz.1, trivial⟩) (by simpa using g6) (fun p hp => hlt p (by simp [hp])) s6
    obtain ⟨l13, q13, _, _, r13⟩ := open_slice_n 2 encS SetOk Try.underlying25 (by kernel_rfl) (by omega)
      (fun n cs x hl h _ hs => decSt n cs x hl h) (by simpa using g13) (fun p hp => hlt p (by simp [hp])) s13
    obtain ⟨pa, pc, e6, _, _⟩ := q6.len
    obtain ⟨la, lc, e13, _, _⟩ := r13.len
    subst e6 e13
    have hc : 0 ≤ a12 ∧ a12 ≤ 4294967295 := by simpa [Lit.wf, IntKind.min, IntKind.max, IntKind.signed, IntKind.bits] using w12
    refine ⟨⟨⟨a0, a1, a2, a3, a4, a5, l6, a7, a8, a9, a10, a11, a12, l13, a14, a15⟩, pa, pc, la, lc, false, 0, 0⟩, ?_, q6, r13, ⟨hc.1, by simp only; omega⟩, fun s hs => q13 s hs⟩
    rw [h0, h1, h2, h3, h4, h5, h7, h8, h9, h10, h11, h12, h14, h15]
    rfl
end Go.Proofs.Ythhgnipiaohplaa.Fr
