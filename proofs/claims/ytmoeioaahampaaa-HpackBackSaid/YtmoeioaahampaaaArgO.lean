/-
  A script of this seat's laws, opened: steps that hold fields and octets.
-/
import Derived.Test.YtmoeioaahampaaaArgT
import Derived.Test.YtmoeioaahampaaaArg
import Derived.Test.YtmoeioaahampaaaOpenN
namespace Go.Proofs.Ytmoeioaahampaaa.Tb.Hp
open Go.ChangeShapes Go.WideShapes Go.ChangeAt Go.RowKit
open Go.Proofs.Ytmoeioaahampaaa.B Go.Proofs.Ytmoeioaahampaaa.Tb
set_option linter.unusedVariables false
set_option linter.unusedSimpArgs false
/-- A step. -/
structure S where
  k : Int
  n : Int
  lv : Value
  bv : Value
  l : List Fd
  b : List UInt8
def encS (o : S) : List Value := [.int .i64 o.k, .int .i64 o.n, o.lv, o.bv]
structure S.In (W : World) (o : S) : Prop where
  fl : ∀ f ∈ o.l, f.In
  sl : FdsOf W o.lv o.l
  sb : BytesOf W o.bv o.b
theorem S.In.le {W w : World} {o : S} (h : o.In W) (hc : Chg [] W w) : o.In w := ⟨h.fl, h.sl.chg0 hc, h.sb.chg0 hc⟩
set_option maxRecDepth 100000 in
theorem decS {H : Type} {enc : TypeId × Value → H} {W : World} (n : Nat) (cs : List Value) (x : DataW H × List MemPlace) (hl : cs.length = 4)
    (h : DataW.trod enc Try.prog W 0 (fun _ => true) true n 57 cs = some x) (hlt : ∀ p ∈ x.2, p.block < W.heap.size) (hs : Small' Try.prog 57 x.1) : ∃ z, cs = encS z ∧ z.In W := by
  obtain ⟨xs, k, hk, hx, hlen, hxl, hf⟩ := DataW.trod_struct Try.underlying57 h
  have g0 : DataW.trod enc Try.prog W 0 (fun _ => true) true k 3 ((cs.drop 0).take (Try.prog.cellsOf 3)) = xs[0]? := hf 0 _ rfl
  have g1 : DataW.trod enc Try.prog W 0 (fun _ => true) true k 3 ((cs.drop 1).take (Try.prog.cellsOf 3)) = xs[1]? := hf 1 _ rfl
  have g2 : DataW.trod enc Try.prog W 0 (fun _ => true) true k 26 ((cs.drop 2).take (Try.prog.cellsOf 26)) = xs[2]? := hf 2 _ rfl
  have g3 : DataW.trod enc Try.prog W 0 (fun _ => true) true k 22 ((cs.drop 3).take (Try.prog.cellsOf 22)) = xs[3]? := hf 3 _ rfl
  match xs, hxl, cs, hl with
  | [y0, y1, y2, y3], _, [v0, v1, v2, v3], _ =>
    simp only [show Try.prog.cellsOf 3 = 1 from by kernel_rfl, show Try.prog.cellsOf 26 = 1 from by kernel_rfl, show Try.prog.cellsOf 22 = 1 from by kernel_rfl] at g0 g1 g2 g3
    obtain ⟨a, ha, _, _⟩ := DataW.trod_int Try.underlying3 (by simpa using g0)
    obtain ⟨b, hb, _, _⟩ := DataW.trod_int Try.underlying3 (by simpa using g1)
    simp at ha hb
    subst hx
    have s2 := small_struct Try.underlying57 hs (j := 2) (t' := 26) (d := y2.1) rfl rfl
    have s3 := small_struct Try.underlying57 hs (j := 3) (t' := 22) (d := y3.1) rfl rfl
    obtain ⟨l2, q1, _, _, q2⟩ := open_slice_n 3 Tb.encF Fd.In Try.underlying26 (by kernel_rfl) (by omega)
      (fun n cs x hl h _ hs => (decF n cs x hl h).imp fun z hz => ⟨hz.1, hz.2 hs⟩) (by simpa using g2) (fun p hp => hlt p (by simp [hp])) s2
    obtain ⟨l3, _, _, _, q3⟩ := open_slice_n 1 encB (fun _ => True) Try.underlying22 (by kernel_rfl) (by omega)
      (fun n cs x hl h _ hs => (Go.Proofs.Ytmoeioaahampaaa.B.decB n cs x hl h).imp fun z hz => ⟨hz.1, trivial⟩) (by simpa using g3) (fun p hp => hlt p (by simp [hp])) s3
    exact ⟨⟨a, b, v2, v3, l2, l3⟩, by simp [encS, ha, hb], q1, q2, q3⟩
theorem s_cells {w : World} {a : Option Addr} {n cap : Nat} {zs : List S} (h : SliceOf w (.slice a n cap) 4 encS zs) (h0 : 0 < zs.length) :
    ∃ b off, a = some ⟨b, off, none⟩ ∧ b < w.heap.size ∧ ∀ i o, zs[i]? = some o → w.cell? ⟨b, off + i * 4, none⟩ = some (.int .i64 o.k) ∧ w.cell? ⟨b, off + i * 4 + 1, none⟩ = some (.int .i64 o.n) ∧ w.cell? ⟨b, off + i * 4 + 2, none⟩ = some o.lv ∧ w.cell? ⟨b, off + i * 4 + 3, none⟩ = some o.bv := by
  obtain ⟨b, off, rfl, hb, hc⟩ := h.at h0
  exact ⟨b, off, rfl, hb, fun i f hf => ⟨hc i f hf 0 (by omega), hc i f hf 1 (by omega), hc i f hf 2 (by omega), hc i f hf 3 (by omega)⟩⟩
end Go.Proofs.Ytmoeioaahampaaa.Tb.Hp
