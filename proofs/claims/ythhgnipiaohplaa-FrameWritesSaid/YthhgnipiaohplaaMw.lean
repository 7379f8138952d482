/-
  FrameWrites: a frame has one row of octets, or may not be.
-/
import Derived.Test.YthhgnipiaohplaaFmb
import Derived.Test.YthhgnipiaohplaaFsn
import Derived.Test.YthhgnipiaohplaaFdr
import Derived.Test.YthhgnipiaohplaaOpenN
import Derived.Test.YthhgnipiaohplaaArg
import Derived.Test.YthhgnipiaohplaaMs
import Derived.Test.YthhgnipiaohplaaFsm
import Derived.Test.YthhgnipiaohplaaFsa
import Derived.Test.YthhgnipiaohplaaFww
import Derived.Deep.DeepCutAuto
import Derived.Deep.RegionLaw
namespace Go.Proofs.Ythhgnipiaohplaa.Fr
open Go.ChangeShapes Go.WideShapes Go.ChangeAt Go.RowKit
open Go.Proofs.Ythhgnipiaohplaa.B
set_option linter.unusedVariables false
set_option linter.unusedSimpArgs false

set_option maxRecDepth 100000 in
set_option maxHeartbeats 4000000 in
theorem write_bad {F : Fm} (hwf : F.Wf) (hm : ¬ May F) (pa : Option Addr) (pc : Nat) (la : Option Addr) (lc : Nat) (w : World) (hl : SliceOf w (.slice la F.list.length lc) 2 encS F.list) (hll : F.list.length ≤ 100000000) :
    Calls Try.prog 14 #[.agg (fcs (F.mem (.slice pa F.pay.length pc) (.slice la F.list.length lc)))] w fun e w' => e = .returned (.tuple #[.slice none 0 0, .int .i64 1]) ∧ Chg [] w w' := by
  obtain ⟨w2, hw2⟩ : ∃ w2, w2 = w.alloc (.cells (fcs (F.mem (.slice pa F.pay.length pc) (.slice la F.list.length lc))) 27) := ⟨_, rfl⟩
  have hc : Chg [] w w2 := by rw [hw2]; exact (Chg.refl w).alloc _
  have a1 : At w2 w.heap.size (.cells (fcs (F.mem (.slice pa F.pay.length pc) (.slice la F.list.length lc))) 27 (0, 0)) := by rw [hw2]; exact At.new w _
  obtain ⟨A, hA⟩ : ∃ A, A = w.heap.size := ⟨_, rfl⟩
  rw [← hA] at a1
  have HC := Lib.hid hc; have HW := Lib.hid hw2; have HA := Lib.hid hA
  have MA := Lib.hid (may_any F hwf pa pc la lc w2 (hl.chg0 hc) hll); have HM := Lib.hid hm
  have x0 : World.cell? w2 ⟨A, 0, none⟩ = some (.int .i64 F.kind) := a1.cell rfl
  have x1 : World.cell? w2 ⟨A, 1, none⟩ = some (.int .i64 F.stream) := a1.cell rfl
  have x2 : World.cell? w2 ⟨A, 2, none⟩ = some (.bool F.fin) := a1.cell rfl
  have x3 : World.cell? w2 ⟨A, 3, none⟩ = some (.bool F.eh) := a1.cell rfl
  have x4 : World.cell? w2 ⟨A, 4, none⟩ = some (.bool F.ack) := a1.cell rfl
  have x5 : World.cell? w2 ⟨A, 5, none⟩ = some (.bool F.prio) := a1.cell rfl
  have x6 : World.cell? w2 ⟨A, 6, none⟩ = some (.slice pa F.pay.length pc) := a1.cell rfl
  have x7 : World.cell? w2 ⟨A, 7, none⟩ = some (.int .i64 F.flags) := a1.cell rfl
  have x8 : World.cell? w2 ⟨A, 8, none⟩ = some (.int .i64 F.pad) := a1.cell rfl
  have x9 : World.cell? w2 ⟨A, 9, none⟩ = some (.int .i64 F.depend) := a1.cell rfl
  have x10 : World.cell? w2 ⟨A, 10, none⟩ = some (.bool F.excl) := a1.cell rfl
  have x11 : World.cell? w2 ⟨A, 11, none⟩ = some (.int .i64 F.weight) := a1.cell rfl
  have x12 : World.cell? w2 ⟨A, 12, none⟩ = some (.int .u32 F.code) := a1.cell rfl
  have x13 : World.cell? w2 ⟨A, 13, none⟩ = some (.slice la F.list.length lc) := a1.cell rfl
  have x14 : World.cell? w2 ⟨A, 14, none⟩ = some (.int .i64 F.last) := a1.cell rfl
  have x15 : World.cell? w2 ⟨A, 15, none⟩ = some (.int .i64 F.inc) := a1.cell rfl
  clear a1 hc hw2 hA hl hwf hm hll
  go_enter Try.func14, Try.ntmps14
  go_upto_region 1 with fail
  rw [← HW.out, ← HA.out]
  go_wp2_with fail
  refine (MA.out).mono ?_; rintro e w3 ⟨b, rfl, hb, c3⟩
  have hb2 : b = false := by
    cases b with
    | false => rfl
    | true => exact (HM.out (hb.1 rfl)).elim
  subst hb2
  have C3 := Lib.hid (HC.out.trans' c3)
  clear hb c3 x0 x1 x2 x3 x4 x5 x6 x7 x8 x9 x10 x11 x12 x13 x14 x15 HC HW MA
  go_wp2_with fail
  go_ret2
  exact ⟨rfl, C3.out⟩
end Go.Proofs.Ythhgnipiaohplaa.Fr
namespace Go.Proofs.Ythhgnipiaohplaa.Fr
open Go.ChangeShapes Go.WideShapes Go.ChangeAt Go.RowKit
open Go.Proofs.Ythhgnipiaohplaa.B
set_option linter.unusedVariables false
set_option linter.unusedSimpArgs false

/-- Octets that are an element of a slice. -/
structure Pc where
  v : Value
  b : List UInt8
def encP (z : Pc) : List Value := [z.v]
set_option maxRecDepth 100000 in
theorem decP {H : Type} {enc : TypeId × Value → H} {W : World} (n : Nat) (cs : List Value) (x : DataW H × List MemPlace) (hl : cs.length = 1)
    (h : DataW.trod enc Try.prog W 0 (fun _ => true) true n 22 cs = some x) (hlt : ∀ p ∈ x.2, p.block < W.heap.size) (hs : Small' Try.prog 22 x.1) : ∃ z : Pc, cs = encP z ∧ BytesOf W z.v z.b := by
  match cs, hl with
  | [v0], _ =>
    obtain ⟨l3, _, _, _, q3⟩ := open_slice_n 1 encB (fun _ => True) Try.underlying22 (by kernel_rfl) (by omega)
      (fun n cs x hl h _ hs => (Go.Proofs.Ythhgnipiaohplaa.B.decB n cs x hl h).imp fun z hz => ⟨hz.1, trivial⟩) h hlt hs
    exact ⟨⟨v0, l3⟩, rfl, q3⟩
def cat (ps : List Pc) : List UInt8 := ps.flatMap (·.b)
theorem cat_take {ps : List Pc} {i : Nat} {z : Pc} (h : ps[i]? = some z) : cat (ps.take (i + 1)) = cat (ps.take i) ++ z.b := by
  unfold cat
  rw [List.take_add_one, h, List.flatMap_append]
  simp
theorem cat_take_le (ps : List Pc) (i : Nat) : (cat (ps.take i)).length ≤ (cat ps).length := by
  have h : cat ps = cat (ps.take i) ++ cat (ps.drop i) := by unfold cat; rw [← List.flatMap_append, List.take_append_drop]
  rw [h, List.length_append]; omega
/-- What is told, as it lies in memory. -/
structure Tv where
  F : Fm
  pa : Option Addr
  pc : Nat
  la : Option Addr
  lc : Nat
  is : Bool
  code : Nat
  st : Nat
def Tv.pv (x : Tv) : Value := .slice x.pa x.F.pay.length x.pc
def Tv.lv (x : Tv) : Value := .slice x.la x.F.list.length x.lc
def Tv.out (x : Tv) : Out := ⟨x.F, x.is, x.code, x.st⟩
def Tv.fa (x : Tv) : Array Value := #[.bool x.is, .int .u32 (x.code : Nat), .int .i64 (x.st : Nat)]
def encFr (x : Tv) : List Value := (fcs (x.F.mem x.pv x.lv)).toList
def encFa (x : Tv) : List Value := x.fa.toList
theorem encFr_len (x : Tv) : (encFr x).length = 16 := rfl
theorem encFr_one (x : Tv) : ∀ u ∈ encFr x, u.oneCell' = true := by
  intro u hu
  simp only [encFr, fcs, Fm.mem, Tv.pv, Tv.lv, List.mem_cons, List.not_mem_nil, or_false] at hu
  rcases hu with rfl | rfl | rfl | rfl | rfl | rfl | rfl | rfl | rfl | rfl | rfl | rfl | rfl | rfl | rfl | rfl <;> rfl
theorem encFa_len (x : Tv) : (encFa x).length = 3 := rfl
theorem encFa_one (x : Tv) : ∀ u ∈ encFa x, u.oneCell' = true := by
  intro u hu
  simp only [encFa, Tv.fa, List.mem_cons, List.not_mem_nil, or_false] at hu
  rcases hu with rfl | rfl | rfl <;> rfl
theorem infoFrR : (Try.prog.info? 27).map (fun i => (i.zero, i.size, i.bytes)) = some (some (.agg noF), 16, 136) := by kernel_rfl
theorem infoFaR : (Try.prog.info? 46).map (fun i => (i.zero, i.size, i.bytes)) = some (some (.agg noX), 3, 16) := by kernel_rfl
/-- Rows of unlike types have no block in common. -/
theorem rows_apart {w : World} {b b' : Nat} {e e' : TypeId} {s s' n n' : Nat} {v v' : Value} {xs xs' : List Value} (h : w.ownsRow b e s v n xs) (h' : w.ownsRow b' e' s' v' n' xs') (hT : e ≠ e') : ∀ g, v.ownBlock = some g → g ∉ v'.ownBlock.toList := fun g hg => by
  obtain ⟨cur, hc⟩ := owns_at h hg
  exact owns_alien h' hc hT
/-- Octets that are another's stay, as long as their block does. -/
theorem BytesOf.chgS {ls : List Nat} {w w' : World} {v : Value} {l : List UInt8} (h : BytesOf w v l) (hc : Chg ls w w') (hn : 0 < l.length → ∀ a n c, v = .slice (some a) n c → a.block ∉ ls) : BytesOf w' v l := by
  rcases Nat.eq_zero_or_pos l.length with h0 | h0
  · obtain ⟨a, cap, he, h1, h2, h3⟩ := h
    exact ⟨a, cap, he, h1, h2, fun h => by omega⟩
  · exact h.chg hc (hn h0)
/-- A frame that was told has rows of its own. -/
structure Good (w : World) (base : Nat) (fp : List Nat) (x : Tv) : Prop where
  p : OwnB w base x.pv x.F.pay
  l : OwnR 50 2 encS w base x.lv x.F.list
  a : ∀ g ∈ x.pv.ownBlock.toList, g ∉ fp
/-- Where told stands. -/
structure TS (W w wr : World) (p : Nat) (hv0 : Value) (mx : Nat) (hv : Value) (l : List UInt8) (dn : Bool) (ov fv : Value) (tO tF : List Tv) : Prop where
  h : PH W wr p hv l mx dn
  o : OwnR 27 16 encFr wr w.heap.size ov tO
  f : OwnR 46 3 encFa wr w.heap.size fv tF
  g : ∀ x ∈ tO, Good wr w.heap.size (footP p hv) x
  c : Chg (footP p hv0) w wr
  k : ∀ x ∈ footP p hv, x ∈ footP p hv0 ∨ w.heap.size ≤ x
section
variable {W w wr w' : World} {p : Nat} {hv0 hv hv' ov fv ov' fv' : Value} {mx : Nat} {l l' : List UInt8} {dn dn' : Bool} {tO tF : List Tv} {x : Tv}
theorem Good.chg {b : Nat} {fp ls : List Nat} (h : Good wr b fp x) (hc : Chg ls wr w') (h1 : ∀ g, x.pv.ownBlock = some g → g ∉ ls) (h2 : ∀ g, x.lv.ownBlock = some g → g ∉ ls) : Good w' b fp x :=
  ⟨OwnB.chg h.p hc h1, OwnR.chg h.l hc h2, h.a⟩
theorem Good.chg0 {b : Nat} {fp : List Nat} (h : Good wr b fp x) (hc : Chg [] wr w') : Good w' b fp x := h.chg hc (fun _ _ => by simp) (fun _ _ => by simp)
theorem TS.same (h : TS W w wr p hv0 mx hv l dn ov fv tO tF) (hc : Chg [] wr w') : TS W w w' p hv0 mx hv l dn ov fv tO tF :=
  ⟨h.h.chg0 hc, OwnR.chg0 h.o hc, OwnR.chg0 h.f hc, fun x hx => (h.g x hx).chg0 hc, h.c.trans hc (fun _ hx => by simp at hx), h.k⟩
theorem TS.le (h : TS W w wr p hv0 mx hv l dn ov fv tO tF) : w.heap.size ≤ wr.heap.size := h.c.size
theorem TS.step (h : TS W w wr p hv0 mx hv l dn ov fv tO tF) {ls : List Nat} (hc : Chg ls wr w') (hls : ∀ x ∈ ls, x ∈ footP p hv) (hh : PH W w' p hv' l' mx dn') (hk : ∀ x ∈ footP p hv', x ∈ footP p hv ∨ wr.heap.size ≤ x) : TS W w w' p hv0 mx hv' l' dn' ov fv tO tF := by
  have po : ∀ g, ov.ownBlock = some g → g ∉ footP p hv := fun g hg hx => by
    rcases List.mem_cons.1 hx with rfl | hx
    · exact owns_alien h.o h.h.head (by decide) (by simp [hg])
    · exact rows_apart h.o h.h.row (by decide) g hg hx
  have pf : ∀ g, fv.ownBlock = some g → g ∉ footP p hv := fun g hg hx => by
    rcases List.mem_cons.1 hx with rfl | hx
    · exact owns_alien h.f h.h.head (by decide) (by simp [hg])
    · exact rows_apart h.f h.h.row (by decide) g hg hx
  refine ⟨hh, OwnR.chg h.o hc (fun g hg hx => po g hg (hls g hx)), OwnR.chg h.f hc (fun g hg hx => pf g hg (hls g hx)), fun x hx => ?_, h.c.trans hc (fun x hx => h.k x (hls x hx)), fun x hx => ?_⟩
  · have hg := h.g x hx
    have hl : ∀ g, x.lv.ownBlock = some g → g ∉ footP p hv := fun g hgg hy => by
      rcases List.mem_cons.1 hy with rfl | hy
      · exact owns_alien hg.l h.h.head (by decide) (by simp [hgg])
      · exact rows_apart hg.l h.h.row (by decide) g hgg hy
    have h2 := hg.chg hc (fun g hgg hy => hg.a g (by simp [hgg]) (hls g hy)) (fun g hgg hy => hl g hgg (hls g hy))
    refine ⟨h2.p, h2.l, fun g hgg hy => ?_⟩
    rcases hk g hy with h3 | h3
    · exact hg.a g hgg h3
    · have := (World.ownsRow.lt hg.p g (by simpa using hgg)).2; omega
  · rcases hk x hx with h3 | h3
    · exact h.k x h3
    · exact Or.inr (Nat.le_trans h.le h3)
theorem TS.pushO (h : TS W w wr p hv0 mx hv l dn ov fv tO tF) (hx : Good wr w.heap.size (footP p hv) x) (hc : Chg ov.ownBlock.toList wr w') (ho : OwnR 27 16 encFr w' w.heap.size ov' (tO ++ [x])) : TS W w w' p hv0 mx hv l dn ov' fv (tO ++ [x]) tF := by
  have one : ∀ y, Good wr w.heap.size (footP p hv) y → Good w' w.heap.size (footP p hv) y := fun y hy => hy.chg hc (rows_apart hy.p h.o (by decide)) (rows_apart hy.l h.o (by decide))
  refine ⟨h.h.chg hc (fun y hy => ?_), ho, OwnR.chg h.f hc (rows_apart h.f h.o (by decide)), fun y hy => ?_, h.c.trans hc (fun y hy => Or.inr (OwnR.lo h.o y hy)), h.k⟩
  · rcases List.mem_cons.1 hy with rfl | hy
    · exact owns_alien h.o h.h.head (by decide)
    · exact rows_apart h.h.row h.o (by decide) y (by simpa using hy)
  · rcases List.mem_append.1 hy with hy | hy
    · exact one y (h.g y hy)
    · simp at hy; subst hy; exact one _ hx
theorem TS.pushF (h : TS W w wr p hv0 mx hv l dn ov fv tO tF) (hc : Chg fv.ownBlock.toList wr w') (ho : OwnR 46 3 encFa w' w.heap.size fv' (tF ++ [x])) : TS W w w' p hv0 mx hv l dn ov fv' tO (tF ++ [x]) := by
  refine ⟨h.h.chg hc (fun y hy => ?_), OwnR.chg h.o hc (rows_apart h.o h.f (by decide)), ho, fun y hy => ?_, h.c.trans hc (fun y hy => Or.inr (OwnR.lo h.f y hy)), h.k⟩
  · rcases List.mem_cons.1 hy with rfl | hy
    · exact owns_alien h.f h.h.head (by decide)
    · exact rows_apart h.h.row h.f (by decide) y (by simpa using hy)
  · exact (h.g y hy).chg hc (rows_apart (h.g y hy).p h.f (by decide)) (rows_apart (h.g y hy).l h.f (by decide))
end
end Go.Proofs.Ythhgnipiaohplaa.Fr
namespace Go.Proofs.Ythhgnipiaohplaa.Fr
open Go.ChangeShapes Go.WideShapes Go.ChangeAt Go.RowKit
open Go.Proofs.Ythhgnipiaohplaa.B
set_option linter.unusedVariables false
set_option linter.unusedSimpArgs false

def SetOk (s : Int × Int) : Prop := 0 ≤ s.2 ∧ s.2 < 4294967296
set_option maxRecDepth 100000 in
theorem decSt {H : Type} {enc : TypeId × Value → H} {W : World} (n : Nat) (cs : List Value) (x : DataW H × List MemPlace) (hl : cs.length = 2)
    (h : DataW.trod enc Try.prog W 0 (fun _ => true) true n 50 cs = some x) : ∃ z, cs = encS z ∧ SetOk z := by
  obtain ⟨xs, k, hk, hx, hlen, hxl, hf⟩ := DataW.trod_struct Try.underlying50 h
  have g0 : DataW.trod enc Try.prog W 0 (fun _ => true) true k 3 ((cs.drop 0).take (Try.prog.cellsOf 3)) = xs[0]? := hf 0 _ rfl
  have g1 : DataW.trod enc Try.prog W 0 (fun _ => true) true k 23 ((cs.drop 1).take (Try.prog.cellsOf 23)) = xs[1]? := hf 1 _ rfl
  match xs, hxl, cs, hl with
  | [y0, y1], _, [v0, v1], _ =>
    simp only [show Try.prog.cellsOf 3 = 1 from by kernel_rfl, show Try.prog.cellsOf 23 = 1 from by kernel_rfl] at g0 g1
    obtain ⟨a, ha, _, _⟩ := DataW.trod_int Try.underlying3 (by simpa using g0)
    obtain ⟨b, hb, _, hw⟩ := DataW.trod_int Try.underlying23 (by simpa using g1)
    simp at ha hb
    exact ⟨(a, b), by simp [encS, ha, hb], by have h2 : 0 ≤ b ∧ b ≤ 4294967295 := (by simpa [Lit.wf, IntKind.min, IntKind.max, IntKind.signed, IntKind.bits] using hw); unfold SetOk; simp only; omega⟩
/-- A frame that is handed in. -/
structure Tv.In (W : World) (x : Tv) : Prop where
  p : BytesOf W x.pv x.F.pay
  l : SliceOf W x.lv 2 encS x.F.list
  w : x.F.Wf
theorem Tv.In.chg0 {W w : World} {x : Tv} (h : x.In W) (hc : Chg [] W w) : x.In w := ⟨h.p.chg0 hc, h.l.chg0 hc, h.w⟩
set_option maxRecDepth 100000 in
set_option maxHeartbeats 4000000 in
theorem decFr {H : Type} {enc : TypeId × Value → H} {W : World} (n : Nat) (cs : List Value) (x : DataW H × List MemPlace) (hl : cs.length = 16)
    (h : DataW.trod enc Try.prog W 0 (fun _ => true) true n 27 cs = some x) (hlt : ∀ p ∈ x.2, p.block < W.heap.size) (hs : Small' Try.prog 27 x.1) : ∃ z : Tv, cs = encFr z ∧ z.In W := by
  obtain ⟨xs, k, hk, hx, hlen, hxl, hf⟩ := DataW.trod_struct Try.underlying27 h
  have g0 : DataW.trod enc Try.prog W 0 (fun _ => true) true k 3 ((cs.drop 0).take (Try.prog.cellsOf 3)) = xs[0]? := hf 0 _ rfl
  have g1 : DataW.trod enc Try.prog W 0 (fun _ => true) true k 3 ((cs.drop 1).take (Try.prog.cellsOf 3)) = xs[1]? := hf 1 _ rfl
  have g2 : DataW.trod enc Try.prog W 0 (fun _ => true) true k 4 ((cs.drop 2).take (Try.prog.cellsOf 4)) = xs[2]? := hf 2 _ rfl
  have g3 : DataW.trod enc Try.prog W 0 (fun _ => true) true k 4 ((cs.drop 3).take (Try.prog.cellsOf 4)) = xs[3]? := hf 3 _ rfl
  have g4 : DataW.trod enc Try.prog W 0 (fun _ => true) true k 4 ((cs.drop 4).take (Try.prog.cellsOf 4)) = xs[4]? := hf 4 _ rfl
  have g5 : DataW.trod enc Try.prog W 0 (fun _ => true) true k 4 ((cs.drop 5).take (Try.prog.cellsOf 4)) = xs[5]? := hf 5 _ rfl
  have g6 : DataW.trod enc Try.prog W 0 (fun _ => true) true k 22 ((cs.drop 6).take (Try.prog.cellsOf 22)) = xs[6]? := hf 6 _ rfl
  have g7 : DataW.trod enc Try.prog W 0 (fun _ => true) true k 3 ((cs.drop 7).take (Try.prog.cellsOf 3)) = xs[7]? := hf 7 _ rfl
  have g8 : DataW.trod enc Try.prog W 0 (fun _ => true) true k 3 ((cs.drop 8).take (Try.prog.cellsOf 3)) = xs[8]? := hf 8 _ rfl
  have g9 : DataW.trod enc Try.prog W 0 (fun _ => true) true k 3 ((cs.drop 9).take (Try.prog.cellsOf 3)) = xs[9]? := hf 9 _ rfl
  have g10 : DataW.trod enc Try.prog W 0 (fun _ => true) true k 4 ((cs.drop 10).take (Try.prog.cellsOf 4)) = xs[10]? := hf 10 _ rfl
  have g11 : DataW.trod enc Try.prog W 0 (fun _ => true) true k 3 ((cs.drop 11).take (Try.prog.cellsOf 3)) = xs[11]? := hf 11 _ rfl
  have g12 : DataW.trod enc Try.prog W 0 (fun _ => true) true k 24 ((cs.drop 12).take (Try.prog.cellsOf 24)) = xs[12]? := hf 12 _ rfl
  have g13 : DataW.trod enc Try.prog W 0 (fun _ => true) true k 25 ((cs.drop 13).take (Try.prog.cellsOf 25)) = xs[13]? := hf 13 _ rfl
  have g14 : DataW.trod enc Try.prog W 0 (fun _ => true) true k 3 ((cs.drop 14).take (Try.prog.cellsOf 3)) = xs[14]? := hf 14 _ rfl
  have g15 : DataW.trod enc Try.prog W 0 (fun _ => true) true k 3 ((cs.drop 15).take (Try.prog.cellsOf 3)) = xs[15]? := hf 15 _ rfl
  match xs, hxl, cs, hl with
  | [y0, y1, y2, y3, y4, y5, y6, y7, y8, y9, y10, y11, y12, y13, y14, y15], _, [v0, v1, v2, v3, v4, v5, v6, v7, v8, v9, v10, v11, v12, v13, v14, v15], _ =>
    simp only [show Try.prog.cellsOf 3 = 1 from by kernel_rfl, show Try.prog.cellsOf 4 = 1 from by kernel_rfl, show Try.prog.cellsOf 22 = 1 from by kernel_rfl, show Try.prog.cellsOf 24 = 1 from by kernel_rfl, show Try.prog.cellsOf 25 = 1 from by kernel_rfl] at g0 g1 g2 g3 g4 g5 g6 g7 g8 g9 g10 g11 g12 g13 g14 g15
    obtain ⟨a0, h0, _, w0⟩ := DataW.trod_int Try.underlying3 (by simpa using g0)
    obtain ⟨a1, h1, _, w1⟩ := DataW.trod_int Try.underlying3 (by simpa using g1)
    obtain ⟨a2, h2, _⟩ := DataW.trod_bool Try.underlying4 (by simpa using g2)
    obtain ⟨a3, h3, _⟩ := DataW.trod_bool Try.underlying4 (by simpa using g3)
    obtain ⟨a4, h4, _⟩ := DataW.trod_bool Try.underlying4 (by simpa using g4)
    obtain ⟨a5, h5, _⟩ := DataW.trod_bool Try.underlying4 (by simpa using g5)
    obtain ⟨a7, h7, _, w7⟩ := DataW.trod_int Try.underlying3 (by simpa using g7)
    obtain ⟨a8, h8, _, w8⟩ := DataW.trod_int Try.underlying3 (by simpa using g8)
    obtain ⟨a9, h9, _, w9⟩ := DataW.trod_int Try.underlying3 (by simpa using g9)
    obtain ⟨a10, h10, _⟩ := DataW.trod_bool Try.underlying4 (by simpa using g10)
    obtain ⟨a11, h11, _, w11⟩ := DataW.trod_int Try.underlying3 (by simpa using g11)
    obtain ⟨a12, h12, _, w12⟩ := DataW.trod_int Try.underlying24 (by simpa using g12)
    obtain ⟨a14, h14, _, w14⟩ := DataW.trod_int Try.underlying3 (by simpa using g14)
    obtain ⟨a15, h15, _, w15⟩ := DataW.trod_int Try.underlying3 (by simpa using g15)
    simp at h0 h1 h2 h3 h4 h5 h7 h8 h9 h10 h11 h12 h14 h15
    subst hx
    have s6 := small_struct Try.underlying27 hs (j := 6) (t' := 22) (d := y6.1) rfl rfl
    have s13 := small_struct Try.underlying27 hs (j := 13) (t' := 25) (d := y13.1) rfl rfl
    obtain ⟨l6, _, _, _, q6⟩ := open_slice_n 1 encB (fun _ => True) Try.underlying22 (by kernel_rfl) (by omega)
      (fun n cs x hl h _ hs => (Go.Proofs.Ythhgnipiaohplaa.B.decB n cs x hl h).imp fun z hz => ⟨hz.1, trivial⟩) (by simpa using g6) (fun p hp => hlt p (by simp [hp])) s6
    obtain ⟨l13, q13, _, _, r13⟩ := open_slice_n 2 encS SetOk Try.underlying25 (by kernel_rfl) (by omega)
      (fun n cs x hl h _ hs => decSt n cs x hl h) (by simpa using g13) (fun p hp => hlt p (by simp [hp])) s13
    obtain ⟨pa, pc, e6, _, _⟩ := q6.len
    obtain ⟨la, lc, e13, _, _⟩ := r13.len
    subst e6 e13
    have hc : 0 ≤ a12 ∧ a12 ≤ 4294967295 := by simpa [Lit.wf, IntKind.min, IntKind.max, IntKind.signed, IntKind.bits] using w12
    refine ⟨⟨⟨a0, a1, a2, a3, a4, a5, l6, a7, a8, a9, a10, a11, a12, l13, a14, a15⟩, pa, pc, la, lc, false, 0, 0⟩, ?_, q6, r13, ⟨hc.1, by simp only; omega⟩, fun s hs => q13 s hs⟩
    rw [h0, h1, h2, h3, h4, h5, h7, h8, h9, h10, h11, h12, h14, h15]
    rfl
end Go.Proofs.Ythhgnipiaohplaa.Fr
namespace Go.Proofs.Ythhgnipiaohplaa.Writes
open Go.ChangeShapes Go.WideShapes Go.ChangeAt Go.RowKit
open Go.Proofs.Ythhgnipiaohplaa.B Go.Proofs.Ythhgnipiaohplaa.Fr
set_option linter.unusedVariables false
set_option linter.unusedSimpArgs false

theorem body_small {F : Fm} (h : May F) (hp : F.pay.length ≤ 3000) (hl : F.list.length ≤ 500) : (bodyF F).length ≤ 3300 := by
  have key : ∀ (m : List UInt8), midF F = m → m.length ≤ 10 → (bodyF F).length ≤ 3300 := by
    intro m hm h10
    have h1 : (padH F.pad.toNat).length ≤ 1 := by unfold padH; split <;> simp
    have h2 : (padT F.pad.toNat).length = F.pad.toNat - 1 := by unfold padT; simp
    have h3 := h.rng.1
    unfold bodyF
    rw [hm]
    simp only [List.length_append]
    omega
  cases h with
  | sets ack l h1 h2 =>
    have e : bodyF ⟨4, 0, false, false, ack, false, [], 0, 0, 0, false, 0, 0, l, 0, 0⟩ = setO l := by simp [bodyF, midF, padH, padT]
    rw [e, setO_len]
    simp only at hl
    omega
  | headp st pad d wt fin eh x pay h1 h2 h3 h4 => exact key (prioO d x wt) (by simp [midF]) (by rw [prioO_len]; omega)
  | prio st d wt x h1 h3 h4 => exact key (prioO d x wt) (by simp [midF]) (by rw [prioO_len]; omega)
  | reset st c h1 h2 => exact key (be c 4) (by simp [midF]) (by rw [be_len]; omega)
  | prom st pad last eh pay h1 h2 h3 => exact key (be last 4) (by simp [midF]) (by rw [be_len]; omega)
  | away last c pay h1 h2 => exact key (be last 4 ++ be c 4) (by simp [midF]) (by rw [List.length_append, be_len, be_len]; omega)
  | wind st inc h1 h2 => exact key (be inc 4) (by simp [midF]) (by rw [be_len]; omega)
  | other k st fl pay h0 h1 h2 =>
    refine key [] ?_ (by simp)
    unfold midF
    rw [if_neg (by dsimp only; omega), if_neg (by dsimp only; omega), if_neg (by dsimp only; omega), if_neg (by dsimp only; omega), if_neg (by dsimp only; omega), if_neg (by dsimp only; omega), if_neg (by dsimp only; omega)]
  | _ => exact key [] (by simp [midF]) (by simp)
set_option maxRecDepth 100000 in
theorem open_frame {H : Type} {enc : TypeId × Value → H} {W : World} {r : Reach} {b0 : Nat} {v : Value} {d : DataW H} {ps : List MemPlace}
    (hval : Value.okWide Try.prog W r b0 27 v) (hd : DataW.Trod enc Try.prog W 0 (fun _ => true) true 27 v d ps) (hlt : ∀ p ∈ ps, p.block < W.heap.size) (hs : Small' Try.prog 27 d) :
    ∃ z : Tv, v = .agg (fcs (z.F.mem z.pv z.lv)) ∧ z.In W := by
  obtain ⟨fuel, hf⟩ := hd
  simp only [Value.okWide, Try.underlying27] at hval
  obtain ⟨cs, rfl, hs', _⟩ := hval
  obtain ⟨z, hz, hg⟩ := decFr fuel cs.toList _ (by rw [Array.length_toList, hs']; kernel_rfl) (by simpa [Value.cells] using hf) hlt hs
  exact ⟨z, by
    have h : cs = fcs (z.F.mem z.pv z.lv) := by
      apply Array.ext'
      exact hz
    rw [h], hg⟩
theorem sm_sm (F : Fm) : smF (smF F) = smF F := by
  unfold smF
  simp [List.take_take]
theorem sm_wf {F : Fm} (h : F.Wf) : (smF F).Wf := ⟨h.1, fun s hs => h.2 s (List.mem_of_mem_take hs)⟩
set_option maxRecDepth 100000 in
set_option maxHeartbeats 16000000 in
theorem walk (z : Tv) (W : World) (hz : z.In W) : Calls Try.prog 3 #[.agg (fcs (z.F.mem z.pv z.lv))] W fun e w' => e = .returned (.bool true) ∧ Below W.heap.size W w' := by
  obtain ⟨F, pa, pc, la, lc, fl1, fl2, fl3⟩ := z
  obtain ⟨hp, hl, hw⟩ := hz
  simp only [Tv.pv, Tv.lv] at hp hl hw ⊢
  obtain ⟨w1, hw1⟩ : ∃ w1, w1 = W.alloc (.cells (fcs (F.mem (.slice pa F.pay.length pc) (.slice la F.list.length lc))) 27) := ⟨_, rfl⟩
  have hc : Chg [] W w1 := by rw [hw1]; exact (Chg.refl W).alloc _
  have a1 : At w1 W.heap.size (.cells (fcs (F.mem (.slice pa F.pay.length pc) (.slice la F.list.length lc))) 27 (0, 0)) := by rw [hw1]; exact At.new W _
  obtain ⟨A, hA⟩ : ∃ A, A = W.heap.size := ⟨_, rfl⟩
  rw [← hA] at a1
  have A1 := Lib.hid a1; have HC := Lib.hid hc; have HA := Lib.hid hA; have HW := Lib.hid hw1
  have HP := Lib.hid hp; have HL := Lib.hid hl; have HF := Lib.hid hw
  clear hp hl hw a1 hc hA hw1
  go_enter Try.func3, Try.ntmps3
  go_upto_region 1 with fail
  rw [← HW.out, ← HA.out]
  go_wp2_with fail
  refine (shown_any _).mono ?_; rintro e w2 ⟨rfl, c2⟩
  have A2 := Lib.hid (A1.out.chg c2 (by simp)); have C2 := Lib.hid (HC.out.trans' c2)
  clear c2 A1 HC HW
  have x0 : World.cell? w2 ⟨A, 0, none⟩ = some (.int .i64 (F).kind) := A2.out.cell rfl
  have x1 : World.cell? w2 ⟨A, 1, none⟩ = some (.int .i64 (F).stream) := A2.out.cell rfl
  have x2 : World.cell? w2 ⟨A, 2, none⟩ = some (.bool (F).fin) := A2.out.cell rfl
  have x3 : World.cell? w2 ⟨A, 3, none⟩ = some (.bool (F).eh) := A2.out.cell rfl
  have x4 : World.cell? w2 ⟨A, 4, none⟩ = some (.bool (F).ack) := A2.out.cell rfl
  have x5 : World.cell? w2 ⟨A, 5, none⟩ = some (.bool (F).prio) := A2.out.cell rfl
  have x6 : World.cell? w2 ⟨A, 6, none⟩ = some (.slice pa F.pay.length pc) := A2.out.cell rfl
  have x7 : World.cell? w2 ⟨A, 7, none⟩ = some (.int .i64 (F).flags) := A2.out.cell rfl
  have x8 : World.cell? w2 ⟨A, 8, none⟩ = some (.int .i64 (F).pad) := A2.out.cell rfl
  have x9 : World.cell? w2 ⟨A, 9, none⟩ = some (.int .i64 (F).depend) := A2.out.cell rfl
  have x10 : World.cell? w2 ⟨A, 10, none⟩ = some (.bool (F).excl) := A2.out.cell rfl
  have x11 : World.cell? w2 ⟨A, 11, none⟩ = some (.int .i64 (F).weight) := A2.out.cell rfl
  have x12 : World.cell? w2 ⟨A, 12, none⟩ = some (.int .u32 (F).code) := A2.out.cell rfl
  have x13 : World.cell? w2 ⟨A, 13, none⟩ = some (.slice la F.list.length lc) := A2.out.cell rfl
  have x14 : World.cell? w2 ⟨A, 14, none⟩ = some (.int .i64 (F).last) := A2.out.cell rfl
  have x15 : World.cell? w2 ⟨A, 15, none⟩ = some (.int .i64 (F).inc) := A2.out.cell rfl
  have SM := Lib.hid (small_any (w := w2) F (.slice pa F.pay.length pc) (.slice la F.list.length lc) (HP.out.chg0 C2.out) (HL.out.chg0 C2.out))
  obtain ⟨G, hG⟩ : ∃ G, G = smF F := ⟨_, rfl⟩
  rw [← hG] at SM
  have hGp : Hid (G.pay.length ≤ 3000 ∧ G.list.length ≤ 500 ∧ G.Wf ∧ smF G = G) := Lib.hid (by
    rw [hG]
    refine ⟨?_, ?_, sm_wf HF.out, sm_sm F⟩
    · unfold smF; simp only [List.length_take]; omega
    · unfold smF; simp only [List.length_take]; omega)
  clear hG
  go_wp2_with fail
  refine SM.out.mono ?_; rintro e w3 ⟨pv2, lv2, rfl, o1, o2, c3⟩
  obtain ⟨pa2, pc2, rfl⟩ := o1.slice
  obtain ⟨la2, lc2, rfl, _, _⟩ := o2.slice
  have A3 := Lib.hid (A2.out.chg c3 (by simp)); have C3 := Lib.hid (C2.out.trans' c3)
  have hno1 : Hid (∀ g, (Value.slice pa2 G.pay.length pc2).ownBlock = some g → g ∉ [A]) := Lib.hid (fun g hg hx => by
    have h1 : w2.heap.size ≤ g := owns_lo o1 g (by simp [hg]); have h2 : A < w2.heap.size := A2.out.lt; simp at hx; omega)
  have hno2 : Hid (∀ g, (Value.slice la2 G.list.length lc2).ownBlock = some g → g ∉ [A]) := Lib.hid (fun g hg hx => by
    have h1 : w2.heap.size ≤ g := o2.lo g (by simp [hg]); have h2 : A < w2.heap.size := A2.out.lt; simp at hx; omega)
  have O1 := Lib.hid o1; have O2 := Lib.hid o2
  clear o1 o2 c3 x0 x1 x2 x3 x4 x5 x6 x7 x8 x9 x10 x11 x12 x13 x14 x15 A2 C2 SM
  go_wp2_with (refine store_whole rfl 27 _ _ rfl A (fcs (G.mem (.slice pa2 G.pay.length pc2) (.slice la2 G.list.length lc2))) _ 27 rfl rfl A3.out infoFr rfl (by simp [Value.oneCell', Fm.mem]) ?_)
  intro w4 s4 c4
  have C4 := Lib.hid (C3.out.trans c4 (fun x hx => Or.inr (by simp at hx; subst hx; exact Nat.le_of_eq HA.out.symm)))
  have P4 := Lib.hid ((OwnB.chg O1.out c4 hno1.out).bytes)
  have L4 := Lib.hid (OwnR.sl encS_len (by decide) (O2.out.chg c4 hno2.out))
  have A4 := Lib.hid s4
  clear s4 c4 A3 C3 O1 O2 hno1 hno2
  have x0 : World.cell? w4 ⟨A, 0, none⟩ = some (.int .i64 (G).kind) := A4.out.cell rfl
  have x1 : World.cell? w4 ⟨A, 1, none⟩ = some (.int .i64 (G).stream) := A4.out.cell rfl
  have x2 : World.cell? w4 ⟨A, 2, none⟩ = some (.bool (G).fin) := A4.out.cell rfl
  have x3 : World.cell? w4 ⟨A, 3, none⟩ = some (.bool (G).eh) := A4.out.cell rfl
  have x4 : World.cell? w4 ⟨A, 4, none⟩ = some (.bool (G).ack) := A4.out.cell rfl
  have x5 : World.cell? w4 ⟨A, 5, none⟩ = some (.bool (G).prio) := A4.out.cell rfl
  have x6 : World.cell? w4 ⟨A, 6, none⟩ = some (.slice pa2 G.pay.length pc2) := A4.out.cell rfl
  have x7 : World.cell? w4 ⟨A, 7, none⟩ = some (.int .i64 (G).flags) := A4.out.cell rfl
  have x8 : World.cell? w4 ⟨A, 8, none⟩ = some (.int .i64 (G).pad) := A4.out.cell rfl
  have x9 : World.cell? w4 ⟨A, 9, none⟩ = some (.int .i64 (G).depend) := A4.out.cell rfl
  have x10 : World.cell? w4 ⟨A, 10, none⟩ = some (.bool (G).excl) := A4.out.cell rfl
  have x11 : World.cell? w4 ⟨A, 11, none⟩ = some (.int .i64 (G).weight) := A4.out.cell rfl
  have x12 : World.cell? w4 ⟨A, 12, none⟩ = some (.int .u32 (G).code) := A4.out.cell rfl
  have x13 : World.cell? w4 ⟨A, 13, none⟩ = some (.slice la2 G.list.length lc2) := A4.out.cell rfl
  have x14 : World.cell? w4 ⟨A, 14, none⟩ = some (.int .i64 (G).last) := A4.out.cell rfl
  have x15 : World.cell? w4 ⟨A, 15, none⟩ = some (.int .i64 (G).inc) := A4.out.cell rfl
  by_cases hm : May G
  · have HM := Lib.hid hm
    have hbd := body_small hm hGp.out.1 hGp.out.2.1
    have WA := Lib.hid (write_any hm pa2 pc2 la2 lc2 w4 P4.out L4.out (by omega))
    have HBD := Lib.hid hbd
    clear hm hbd
    go_wp2_with fail
    refine WA.out.mono ?_; rintro e w5 ⟨rv, rfl, o5, c5⟩
    obtain ⟨ra, rc, rfl⟩ := o5.slice
    have A5 := Lib.hid (A4.out.chg c5 (by simp)); have C5 := Lib.hid (C4.out.trans' c5); have O5 := Lib.hid o5.bytes
    have CC5 := Lib.hid c5
    clear o5 c5 x0 x1 x2 x3 x4 x5 x6 x7 x8 x9 x10 x11 x12 x13 x14 x15 WA
    have x0 : World.cell? w5 ⟨A, 0, none⟩ = some (.int .i64 (G).kind) := A5.out.cell rfl
    have x1 : World.cell? w5 ⟨A, 1, none⟩ = some (.int .i64 (G).stream) := A5.out.cell rfl
    have x2 : World.cell? w5 ⟨A, 2, none⟩ = some (.bool (G).fin) := A5.out.cell rfl
    have x3 : World.cell? w5 ⟨A, 3, none⟩ = some (.bool (G).eh) := A5.out.cell rfl
    have x4 : World.cell? w5 ⟨A, 4, none⟩ = some (.bool (G).ack) := A5.out.cell rfl
    have x5 : World.cell? w5 ⟨A, 5, none⟩ = some (.bool (G).prio) := A5.out.cell rfl
    have x6 : World.cell? w5 ⟨A, 6, none⟩ = some (.slice pa2 G.pay.length pc2) := A5.out.cell rfl
    have x7 : World.cell? w5 ⟨A, 7, none⟩ = some (.int .i64 (G).flags) := A5.out.cell rfl
    have x8 : World.cell? w5 ⟨A, 8, none⟩ = some (.int .i64 (G).pad) := A5.out.cell rfl
    have x9 : World.cell? w5 ⟨A, 9, none⟩ = some (.int .i64 (G).depend) := A5.out.cell rfl
    have x10 : World.cell? w5 ⟨A, 10, none⟩ = some (.bool (G).excl) := A5.out.cell rfl
    have x11 : World.cell? w5 ⟨A, 11, none⟩ = some (.int .i64 (G).weight) := A5.out.cell rfl
    have x12 : World.cell? w5 ⟨A, 12, none⟩ = some (.int .u32 (G).code) := A5.out.cell rfl
    have x13 : World.cell? w5 ⟨A, 13, none⟩ = some (.slice la2 G.list.length lc2) := A5.out.cell rfl
    have x14 : World.cell? w5 ⟨A, 14, none⟩ = some (.int .i64 (G).last) := A5.out.cell rfl
    have x15 : World.cell? w5 ⟨A, 15, none⟩ = some (.int .i64 (G).inc) := A5.out.cell rfl
    have RW := Lib.hid (rwrite_one HM.out hGp.out.2.2.1 (by have := HBD.out; omega) pa2 pc2 la2 lc2 w5 (P4.out.chg0 CC5.out) (L4.out.chg0 CC5.out) (by have := hGp.out.2.1; omega))
    go_wp2_with fail
    refine RW.out.mono ?_; rintro e w6 ⟨rfl, c6⟩
    have A6 := Lib.hid (A5.out.chg c6 (by simp)); have C6 := Lib.hid (C5.out.trans' c6); have O6 := Lib.hid (O5.out.chg0 c6)
    have P6 := Lib.hid ((P4.out.chg0 CC5.out).chg0 c6); have L6 := Lib.hid ((L4.out.chg0 CC5.out).chg0 c6)
    clear c6 x0 x1 x2 x3 x4 x5 x6 x7 x8 x9 x10 x11 x12 x13 x14 x15 RW A5 C5 O5 CC5 A4 C4 P4 L4
    have x0 : World.cell? w6 ⟨A, 0, none⟩ = some (.int .i64 (G).kind) := A6.out.cell rfl
    have x1 : World.cell? w6 ⟨A, 1, none⟩ = some (.int .i64 (G).stream) := A6.out.cell rfl
    have x2 : World.cell? w6 ⟨A, 2, none⟩ = some (.bool (G).fin) := A6.out.cell rfl
    have x3 : World.cell? w6 ⟨A, 3, none⟩ = some (.bool (G).eh) := A6.out.cell rfl
    have x4 : World.cell? w6 ⟨A, 4, none⟩ = some (.bool (G).ack) := A6.out.cell rfl
    have x5 : World.cell? w6 ⟨A, 5, none⟩ = some (.bool (G).prio) := A6.out.cell rfl
    have x6 : World.cell? w6 ⟨A, 6, none⟩ = some (.slice pa2 G.pay.length pc2) := A6.out.cell rfl
    have x7 : World.cell? w6 ⟨A, 7, none⟩ = some (.int .i64 (G).flags) := A6.out.cell rfl
    have x8 : World.cell? w6 ⟨A, 8, none⟩ = some (.int .i64 (G).pad) := A6.out.cell rfl
    have x9 : World.cell? w6 ⟨A, 9, none⟩ = some (.int .i64 (G).depend) := A6.out.cell rfl
    have x10 : World.cell? w6 ⟨A, 10, none⟩ = some (.bool (G).excl) := A6.out.cell rfl
    have x11 : World.cell? w6 ⟨A, 11, none⟩ = some (.int .i64 (G).weight) := A6.out.cell rfl
    have x12 : World.cell? w6 ⟨A, 12, none⟩ = some (.int .u32 (G).code) := A6.out.cell rfl
    have x13 : World.cell? w6 ⟨A, 13, none⟩ = some (.slice la2 G.list.length lc2) := A6.out.cell rfl
    have x14 : World.cell? w6 ⟨A, 14, none⟩ = some (.int .i64 (G).last) := A6.out.cell rfl
    have x15 : World.cell? w6 ⟨A, 15, none⟩ = some (.int .i64 (G).inc) := A6.out.cell rfl
    have SM : Hid (∀ w', Chg [] w6 w' → Calls Try.prog 13 #[.agg #[.int .i64 G.kind, .int .i64 G.stream, .bool G.fin, .bool G.eh, .bool G.ack, .bool G.prio, .slice pa2 G.pay.length pc2, .int .i64 G.flags, .int .i64 G.pad, .int .i64 G.depend, .bool G.excl, .int .i64 G.weight, .int .u32 G.code, .slice la2 G.list.length lc2, .int .i64 G.last, .int .i64 G.inc]] w' fun e w'' => ∃ pv' lv', e = .returned (.agg (fcs (G.mem pv' lv'))) ∧ BytesOf w'' pv' G.pay ∧ SliceOf w'' lv' 2 encS G.list ∧ Chg [] w' w'') := Lib.hid (fun w' h => by
      have h1 := small_any (w := w') G (.slice pa2 G.pay.length pc2) (.slice la2 G.list.length lc2) (P6.out.chg0 h) (L6.out.chg0 h)
      rw [hGp.out.2.2.2] at h1
      refine h1.mono ?_
      rintro e w'' ⟨p, l, he, o1, o2, c⟩
      exact ⟨p, l, he, o1.bytes, OwnR.sl encS_len (by decide) o2, c⟩)
    have SA : Hid (∀ w' pv' lv', Chg [] w6 w' → BytesOf w' pv' G.pay → SliceOf w' lv' 2 encS G.list → Calls Try.prog 16 #[.agg #[.int .i64 G.kind, .int .i64 G.stream, .bool G.fin, .bool G.eh, .bool G.ack, .bool G.prio, .slice pa2 G.pay.length pc2, .int .i64 G.flags, .int .i64 G.pad, .int .i64 G.depend, .bool G.excl, .int .i64 G.weight, .int .u32 G.code, .slice la2 G.list.length lc2, .int .i64 G.last, .int .i64 G.inc], .agg (fcs (G.mem pv' lv'))] w' fun e w'' => e = .returned (.bool true) ∧ Chg [] w' w'') := Lib.hid (fun w' p l h hp hl => same_any G _ _ p l (P6.out.chg0 h) hp (L6.out.chg0 h) hl)
    have hAl := A6.out.lt
    go_upto_region 5 with fail
    go_cut [8] from 22 to 25 (fun v wx => v = .bool true ∧ Chg [] w6 wx)
    case first => as_aux_lemma =>
      have CHG0 : ∀ n, Chg [] w6 (World.drewN w6 n) := fun n => (Chg.refl w6).drewN n
      have CH0 := Lib.hid CHG0
      clear CHG0
      go_region_law (first
        | (go_simp; go_at_call 13; with_reducible refine (SM.out _ (by first | exact CH0.out _ | exact (Chg.refl _).drew | exact Chg.refl _)).mono ?_; rintro e wa ⟨pv', lv', rfl, ob, os, ch⟩; have CH := Lib.hid (show Chg [] w6 wa by first | exact (CH0.out _).trans' ch | exact ((Chg.refl _).drew).trans' ch | exact ch); have OBB := Lib.hid ob; have OSS := Lib.hid os; have AA := A6.out.chg CH.out (by simp); have hAa := AA.lt; have y0 : World.cell? wa ⟨A, 0, none⟩ = some (.int .i64 G.kind) := AA.cell rfl; have y1 : World.cell? wa ⟨A, 1, none⟩ = some (.int .i64 G.stream) := AA.cell rfl; have y2 : World.cell? wa ⟨A, 2, none⟩ = some (.bool G.fin) := AA.cell rfl; have y3 : World.cell? wa ⟨A, 3, none⟩ = some (.bool G.eh) := AA.cell rfl; have y4 : World.cell? wa ⟨A, 4, none⟩ = some (.bool G.ack) := AA.cell rfl; have y5 : World.cell? wa ⟨A, 5, none⟩ = some (.bool G.prio) := AA.cell rfl; have y6 : World.cell? wa ⟨A, 6, none⟩ = some (.slice pa2 G.pay.length pc2) := AA.cell rfl; have y7 : World.cell? wa ⟨A, 7, none⟩ = some (.int .i64 G.flags) := AA.cell rfl; have y8 : World.cell? wa ⟨A, 8, none⟩ = some (.int .i64 G.pad) := AA.cell rfl; have y9 : World.cell? wa ⟨A, 9, none⟩ = some (.int .i64 G.depend) := AA.cell rfl; have y10 : World.cell? wa ⟨A, 10, none⟩ = some (.bool G.excl) := AA.cell rfl; have y11 : World.cell? wa ⟨A, 11, none⟩ = some (.int .i64 G.weight) := AA.cell rfl; have y12 : World.cell? wa ⟨A, 12, none⟩ = some (.int .u32 G.code) := AA.cell rfl; have y13 : World.cell? wa ⟨A, 13, none⟩ = some (.slice la2 G.list.length lc2) := AA.cell rfl; have y14 : World.cell? wa ⟨A, 14, none⟩ = some (.int .i64 G.last) := AA.cell rfl; have y15 : World.cell? wa ⟨A, 15, none⟩ = some (.int .i64 G.inc) := AA.cell rfl; clear AA ob os ch)
        | (go_simp; go_at_call 16; with_reducible refine (SA.out _ _ _ (by first | exact CH.out.drewN _ | exact CH.out.drew | exact CH.out) (by first | exact OBB.out.drewN _ | exact OBB.out) (by first | exact OSS.out.chg0 ((Chg.refl _).drewN _) | exact OSS.out.chg0 (Chg.refl _).drew | exact OSS.out)).mono ?_; rintro e wb ⟨rfl, cb⟩; have CB := Lib.hid (show Chg [] w6 wb by first | exact (CH.out.drewN _).trans' cb | exact CH.out.drew.trans' cb | exact CH.out.trans' cb); clear cb)
        | fail)
      all_goals
        go_wp2_with fail
        go_meet
        case rel => exact ⟨rfl, by first | exact CB.out | exact CB.out.drewN _⟩
    obtain ⟨hv, hcx⟩ := hcut
    subst hv
    have kb := BytesOf.str (O6.out.chg0 hcx)
    generalize hSB : (⟨(wrO G).toArray⟩ : ByteArray) = SB at kb
    rw [show bstr (wrO G) = SB from hSB]
    have HCX := Lib.hid hcx
    clear hcx hSB x0 x1 x2 x3 x4 x5 x6 x7 x8 x9 x10 x11 x12 x13 x14 x15 hAl
    go_wp2_with fail
    go_ret
    exact ⟨rfl, (C6.out.trans' HCX.out).below_nil⟩
  · have HM := Lib.hid hm
    have WA := Lib.hid (write_bad hGp.out.2.2.1 hm pa2 pc2 la2 lc2 w4 L4.out (by have := hGp.out.2.1; omega))
    clear hm
    go_wp2_with fail
    refine WA.out.mono ?_; rintro e w5 ⟨rfl, c5⟩
    have A5 := Lib.hid (A4.out.chg c5 (by simp)); have C5 := Lib.hid (C4.out.trans' c5)
    have CC5 := Lib.hid c5
    clear c5 x0 x1 x2 x3 x4 x5 x6 x7 x8 x9 x10 x11 x12 x13 x14 x15 WA
    have x0 : World.cell? w5 ⟨A, 0, none⟩ = some (.int .i64 (G).kind) := A5.out.cell rfl
    have x1 : World.cell? w5 ⟨A, 1, none⟩ = some (.int .i64 (G).stream) := A5.out.cell rfl
    have x2 : World.cell? w5 ⟨A, 2, none⟩ = some (.bool (G).fin) := A5.out.cell rfl
    have x3 : World.cell? w5 ⟨A, 3, none⟩ = some (.bool (G).eh) := A5.out.cell rfl
    have x4 : World.cell? w5 ⟨A, 4, none⟩ = some (.bool (G).ack) := A5.out.cell rfl
    have x5 : World.cell? w5 ⟨A, 5, none⟩ = some (.bool (G).prio) := A5.out.cell rfl
    have x6 : World.cell? w5 ⟨A, 6, none⟩ = some (.slice pa2 G.pay.length pc2) := A5.out.cell rfl
    have x7 : World.cell? w5 ⟨A, 7, none⟩ = some (.int .i64 (G).flags) := A5.out.cell rfl
    have x8 : World.cell? w5 ⟨A, 8, none⟩ = some (.int .i64 (G).pad) := A5.out.cell rfl
    have x9 : World.cell? w5 ⟨A, 9, none⟩ = some (.int .i64 (G).depend) := A5.out.cell rfl
    have x10 : World.cell? w5 ⟨A, 10, none⟩ = some (.bool (G).excl) := A5.out.cell rfl
    have x11 : World.cell? w5 ⟨A, 11, none⟩ = some (.int .i64 (G).weight) := A5.out.cell rfl
    have x12 : World.cell? w5 ⟨A, 12, none⟩ = some (.int .u32 (G).code) := A5.out.cell rfl
    have x13 : World.cell? w5 ⟨A, 13, none⟩ = some (.slice la2 G.list.length lc2) := A5.out.cell rfl
    have x14 : World.cell? w5 ⟨A, 14, none⟩ = some (.int .i64 (G).last) := A5.out.cell rfl
    have x15 : World.cell? w5 ⟨A, 15, none⟩ = some (.int .i64 (G).inc) := A5.out.cell rfl
    have RW := Lib.hid (rwrite_bad hGp.out.2.2.1 HM.out pa2 pc2 la2 lc2 w5 (L4.out.chg0 CC5.out) (by have := hGp.out.2.1; omega))
    go_wp2_with fail
    refine RW.out.mono ?_; rintro e w6 ⟨rfl, c6⟩
    have A6 := Lib.hid (A5.out.chg c6 (by simp)); have C6 := Lib.hid (C5.out.trans' c6)
    have P6 := Lib.hid ((P4.out.chg0 CC5.out).chg0 c6); have L6 := Lib.hid ((L4.out.chg0 CC5.out).chg0 c6)
    have O6 : Hid (BytesOf w6 (.slice none 0 0) []) := Lib.hid ⟨none, 0, rfl, by simp, by simp [maxLen], fun h => by simp at h⟩
    clear c6 x0 x1 x2 x3 x4 x5 x6 x7 x8 x9 x10 x11 x12 x13 x14 x15 RW A5 C5 CC5 A4 C4 P4 L4
    have x0 : World.cell? w6 ⟨A, 0, none⟩ = some (.int .i64 (G).kind) := A6.out.cell rfl
    have x1 : World.cell? w6 ⟨A, 1, none⟩ = some (.int .i64 (G).stream) := A6.out.cell rfl
    have x2 : World.cell? w6 ⟨A, 2, none⟩ = some (.bool (G).fin) := A6.out.cell rfl
    have x3 : World.cell? w6 ⟨A, 3, none⟩ = some (.bool (G).eh) := A6.out.cell rfl
    have x4 : World.cell? w6 ⟨A, 4, none⟩ = some (.bool (G).ack) := A6.out.cell rfl
    have x5 : World.cell? w6 ⟨A, 5, none⟩ = some (.bool (G).prio) := A6.out.cell rfl
    have x6 : World.cell? w6 ⟨A, 6, none⟩ = some (.slice pa2 G.pay.length pc2) := A6.out.cell rfl
    have x7 : World.cell? w6 ⟨A, 7, none⟩ = some (.int .i64 (G).flags) := A6.out.cell rfl
    have x8 : World.cell? w6 ⟨A, 8, none⟩ = some (.int .i64 (G).pad) := A6.out.cell rfl
    have x9 : World.cell? w6 ⟨A, 9, none⟩ = some (.int .i64 (G).depend) := A6.out.cell rfl
    have x10 : World.cell? w6 ⟨A, 10, none⟩ = some (.bool (G).excl) := A6.out.cell rfl
    have x11 : World.cell? w6 ⟨A, 11, none⟩ = some (.int .i64 (G).weight) := A6.out.cell rfl
    have x12 : World.cell? w6 ⟨A, 12, none⟩ = some (.int .u32 (G).code) := A6.out.cell rfl
    have x13 : World.cell? w6 ⟨A, 13, none⟩ = some (.slice la2 G.list.length lc2) := A6.out.cell rfl
    have x14 : World.cell? w6 ⟨A, 14, none⟩ = some (.int .i64 (G).last) := A6.out.cell rfl
    have x15 : World.cell? w6 ⟨A, 15, none⟩ = some (.int .i64 (G).inc) := A6.out.cell rfl
    have SM : Hid (∀ w', Chg [] w6 w' → Calls Try.prog 13 #[.agg #[.int .i64 G.kind, .int .i64 G.stream, .bool G.fin, .bool G.eh, .bool G.ack, .bool G.prio, .slice pa2 G.pay.length pc2, .int .i64 G.flags, .int .i64 G.pad, .int .i64 G.depend, .bool G.excl, .int .i64 G.weight, .int .u32 G.code, .slice la2 G.list.length lc2, .int .i64 G.last, .int .i64 G.inc]] w' fun e w'' => ∃ pv' lv', e = .returned (.agg (fcs (G.mem pv' lv'))) ∧ BytesOf w'' pv' G.pay ∧ SliceOf w'' lv' 2 encS G.list ∧ Chg [] w' w'') := Lib.hid (fun w' h => by
      have h1 := small_any (w := w') G (.slice pa2 G.pay.length pc2) (.slice la2 G.list.length lc2) (P6.out.chg0 h) (L6.out.chg0 h)
      rw [hGp.out.2.2.2] at h1
      refine h1.mono ?_
      rintro e w'' ⟨p, l, he, o1, o2, c⟩
      exact ⟨p, l, he, o1.bytes, OwnR.sl encS_len (by decide) o2, c⟩)
    have SA : Hid (∀ w' pv' lv', Chg [] w6 w' → BytesOf w' pv' G.pay → SliceOf w' lv' 2 encS G.list → Calls Try.prog 16 #[.agg #[.int .i64 G.kind, .int .i64 G.stream, .bool G.fin, .bool G.eh, .bool G.ack, .bool G.prio, .slice pa2 G.pay.length pc2, .int .i64 G.flags, .int .i64 G.pad, .int .i64 G.depend, .bool G.excl, .int .i64 G.weight, .int .u32 G.code, .slice la2 G.list.length lc2, .int .i64 G.last, .int .i64 G.inc], .agg (fcs (G.mem pv' lv'))] w' fun e w'' => e = .returned (.bool true) ∧ Chg [] w' w'') := Lib.hid (fun w' p l h hp hl => same_any G _ _ p l (P6.out.chg0 h) hp (L6.out.chg0 h) hl)
    have hAl := A6.out.lt
    go_upto_region 5 with fail
    go_cut [8] from 22 to 25 (fun v wx => v = .bool true ∧ Chg [] w6 wx)
    case first => as_aux_lemma =>
      have CHG0 : ∀ n, Chg [] w6 (World.drewN w6 n) := fun n => (Chg.refl w6).drewN n
      have CH0 := Lib.hid CHG0
      clear CHG0
      go_region_law (first
        | (go_simp; go_at_call 13; with_reducible refine (SM.out _ (by first | exact CH0.out _ | exact (Chg.refl _).drew | exact Chg.refl _)).mono ?_; rintro e wa ⟨pv', lv', rfl, ob, os, ch⟩; have CH := Lib.hid (show Chg [] w6 wa by first | exact (CH0.out _).trans' ch | exact ((Chg.refl _).drew).trans' ch | exact ch); have OBB := Lib.hid ob; have OSS := Lib.hid os; have AA := A6.out.chg CH.out (by simp); have hAa := AA.lt; have y0 : World.cell? wa ⟨A, 0, none⟩ = some (.int .i64 G.kind) := AA.cell rfl; have y1 : World.cell? wa ⟨A, 1, none⟩ = some (.int .i64 G.stream) := AA.cell rfl; have y2 : World.cell? wa ⟨A, 2, none⟩ = some (.bool G.fin) := AA.cell rfl; have y3 : World.cell? wa ⟨A, 3, none⟩ = some (.bool G.eh) := AA.cell rfl; have y4 : World.cell? wa ⟨A, 4, none⟩ = some (.bool G.ack) := AA.cell rfl; have y5 : World.cell? wa ⟨A, 5, none⟩ = some (.bool G.prio) := AA.cell rfl; have y6 : World.cell? wa ⟨A, 6, none⟩ = some (.slice pa2 G.pay.length pc2) := AA.cell rfl; have y7 : World.cell? wa ⟨A, 7, none⟩ = some (.int .i64 G.flags) := AA.cell rfl; have y8 : World.cell? wa ⟨A, 8, none⟩ = some (.int .i64 G.pad) := AA.cell rfl; have y9 : World.cell? wa ⟨A, 9, none⟩ = some (.int .i64 G.depend) := AA.cell rfl; have y10 : World.cell? wa ⟨A, 10, none⟩ = some (.bool G.excl) := AA.cell rfl; have y11 : World.cell? wa ⟨A, 11, none⟩ = some (.int .i64 G.weight) := AA.cell rfl; have y12 : World.cell? wa ⟨A, 12, none⟩ = some (.int .u32 G.code) := AA.cell rfl; have y13 : World.cell? wa ⟨A, 13, none⟩ = some (.slice la2 G.list.length lc2) := AA.cell rfl; have y14 : World.cell? wa ⟨A, 14, none⟩ = some (.int .i64 G.last) := AA.cell rfl; have y15 : World.cell? wa ⟨A, 15, none⟩ = some (.int .i64 G.inc) := AA.cell rfl; clear AA ob os ch)
        | (go_simp; go_at_call 16; with_reducible refine (SA.out _ _ _ (by first | exact CH.out.drewN _ | exact CH.out.drew | exact CH.out) (by first | exact OBB.out.drewN _ | exact OBB.out) (by first | exact OSS.out.chg0 ((Chg.refl _).drewN _) | exact OSS.out.chg0 (Chg.refl _).drew | exact OSS.out)).mono ?_; rintro e wb ⟨rfl, cb⟩; have CB := Lib.hid (show Chg [] w6 wb by first | exact (CH.out.drewN _).trans' cb | exact CH.out.drew.trans' cb | exact CH.out.trans' cb); clear cb)
        | fail)
      all_goals
        go_wp2_with fail
        go_meet
        case rel => exact ⟨rfl, by first | exact CB.out | exact CB.out.drewN _⟩
    obtain ⟨hv, hcx⟩ := hcut
    subst hv
    have kb := BytesOf.str (O6.out.chg0 hcx)
    generalize hSB : (⟨(([] : List UInt8)).toArray⟩ : ByteArray) = SB at kb
    rw [show bstr (([] : List UInt8)) = SB from hSB]
    have HCX := Lib.hid hcx
    clear hcx hSB x0 x1 x2 x3 x4 x5 x6 x7 x8 x9 x10 x11 x12 x13 x14 x15 hAl
    go_wp2_with fail
    go_ret
    exact ⟨rfl, (C6.out.trans' HCX.out).below_nil⟩

/-! ### The row's step -/
theorem own : ownKnob Try.prog.godebug = none := by kernel_rfl
theorem laid : laidOutB Try.prog = true := by kernel_rfl

set_option maxRecDepth 100000 in
theorem lifted (os : Os) (started : os.Started) (H : Type) (enc : TypeId × Value → H) :
    ReturnsInHanded {} Try.checked os 3 .any (Rows.frameWritesSpec.pre6 enc Try.prog Try.f3 Rows.frameWritesRow.domain false) (Rows.frameWritesSpec.post enc Try.prog Try.f3 false true false false) := by
  refine lift_law (C := Try.checked) (tb := 4) own started (by kernel_rfl) Try.func3
    (ChangeSpec.witness6 (enc := enc) (C := Try.checked) false ⟨#[], #[.agg #[.int .i64 0, .int .i64 0, .bool false, .bool false, .bool false, .bool false, .slice none 0 0, .int .i64 0, .int .i64 0, .int .i64 0, .bool false, .int .i64 0, .int .u32 0, .slice none 0 0, .int .i64 0, .int .i64 0]], []⟩ 8 (by kernel_rfl) (by kernel_rfl) (by kernel_rfl) (by kernel_rfl))
    laid (by rw [Try.params3]; intro t ht; simp only [List.mem_cons, List.not_mem_nil, or_false] at ht; rcases ht with rfl <;> exact ⟨by kernel_rfl, of_decide_eq_true (by kernel_rfl)⟩) (by kernel_rfl) Try.underlying4 rfl
    (fun ds h => by rw [Try.params3] at h; match ds, h with | [d0], _ => rfl) ?_
  intro W base args ds before hval hA hlt hsz
  rw [Try.params3] at hA hval
  try rw [Try.params3] at hsz
  have hlt0 := hlt
  obtain ⟨v0, vs0, d0, ds0, p0, q0, hargs, rfl, rfl, h0, r0⟩ := trodAll_cons hA
  obtain ⟨rfl, rfl, rfl⟩ := trodAll_nil r0
  obtain rfl : args = #[v0] := by cases args; simp_all
  have l0 : ∀ p ∈ p0, p.block < W.heap.size := fun x hx => hlt x (by simp [hx])
  obtain ⟨z, rfl, g0⟩ := open_frame (hval 0 27 v0 rfl rfl) h0 l0 (small_of hsz (j := 0) rfl rfl)
  exact walk z W g0

theorem over : Rows.frameWritesRow.holds Try.pinned (OpenSpec.ofChange Rows.frameWritesSpec) :=
  OpenClaim.holds_of_wide 3 Try.f3 rfl rfl rfl rfl rfl rfl rfl ⟨rfl, rfl, rfl, rfl, rfl⟩ rfl rfl rfl rfl rfl (by kernel_rfl) Try.func3 (by kernel_rfl)
    (of_decide_eq_true (by kernel_rfl)) (by unfold Func.isWrapper; first | (rw [if_pos (by decide +kernel)]; kernel_rfl) | (rw [if_neg (by decide +kernel)]; exact ⟨rfl, rfl⟩))
    (fun os started H enc _ => lifted os started H enc)

/-- The statement. -/
theorem proved : Rows.FrameWritesSaid :=
  over
#print axioms proved

end Go.Proofs.Ythhgnipiaohplaa.Writes
