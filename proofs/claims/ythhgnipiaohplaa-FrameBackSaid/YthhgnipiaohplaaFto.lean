/-
  All that a parser tells of octets that come in pieces.
-/
import Derived.Test.YthhgnipiaohplaaFsn
import Derived.Test.YthhgnipiaohplaaFdr
import Derived.Test.YthhgnipiaohplaaOpenN
namespace Go.Proofs.Ythhgnipiaohplaa.Fr
open Go.ChangeShapes Go.WideShapes Go.ChangeAt Go.RowKit
open Go.Proofs.Ythhgnipiaohplaa.B
set_option linter.unusedVariables false
set_option linter.unusedSimpArgs false

/-- Octets that are an element of a slice. -/
structure Pc where
  v : Value
  b : List UInt8
def encP (z : Pc) : List Value := [z.v]
set_option maxRecDepth 100000 in
theorem decP {H : Type} {enc : TypeId × Value → H} {W : World} (n : Nat) (cs : List Value) (x : DataW H × List MemPlace) (hl : cs.length = 1)
    (h : DataW.trod enc Try.prog W 0 (fun _ => true) true n 22 cs = some x) (hlt : ∀ p ∈ x.2, p.block < W.heap.size) (hs : Small' Try.prog 22 x.1) : ∃ z : Pc, cs = encP z ∧ BytesOf W z.v z.b := by
  match cs, hl with
  | [v0], _ =>
    obtain ⟨l3, _, _, _, q3⟩ := open_slice_n 1 encB (fun _ => True) Try.underlying22 (by kernel_rfl) (by omega)
      (fun n cs x hl h _ hs => (Go.Proofs.Ythhgnipiaohplaa.B.decB n cs x hl h).imp fun z hz => ⟨hz.1, trivial⟩) h hlt hs
    exact ⟨⟨v0, l3⟩, rfl, q3⟩
def cat (ps : List Pc) : List UInt8 := ps.flatMap (·.b)
theorem cat_take {ps : List Pc} {i : Nat} {z : Pc} (h : ps[i]? = some z) : cat (ps.take (i + 1)) = cat (ps.take i) ++ z.b := by
  unfold cat
  rw [List.take_add_one, h, List.flatMap_append]
  simp
theorem cat_take_le (ps : List Pc) (i : Nat) : (cat (ps.take i)).length ≤ (cat ps).length := by
  have h : cat ps = cat (ps.take i) ++ cat (ps.drop i) := by unfold cat; rw [← List.flatMap_append, List.take_append_drop]
  rw [h, List.length_append]; omega
/-- What is told, as it lies in memory. -/
structure Tv where
  F : Fm
  pa : Option Addr
  pc : Nat
  la : Option Addr
  lc : Nat
  is : Bool
  code : Nat
  st : Nat
def Tv.pv (x : Tv) : Value := .slice x.pa x.F.pay.length x.pc
def Tv.lv (x : Tv) : Value := .slice x.la x.F.list.length x.lc
def Tv.out (x : Tv) : Out := ⟨x.F, x.is, x.code, x.st⟩
def Tv.fa (x : Tv) : Array Value := #[.bool x.is, .int .u32 (x.code : Nat), .int .i64 (x.st : Nat)]
def encFr (x : Tv) : List Value := (fcs (x.F.mem x.pv x.lv)).toList
def encFa (x : Tv) : List Value := x.fa.toList
theorem encFr_len (x : Tv) : (encFr x).length = 16 := rfl
theorem encFr_one (x : Tv) : ∀ u ∈ encFr x, u.oneCell' = true := by
  intro u hu
  simp only [encFr, fcs, Fm.mem, Tv.pv, Tv.lv, List.mem_cons, List.not_mem_nil, or_false] at hu
  rcases hu with rfl | rfl | rfl | rfl | rfl | rfl | rfl | rfl | rfl | rfl | rfl | rfl | rfl | rfl | rfl | rfl <;> rfl
theorem encFa_len (x : Tv) : (encFa x).length = 3 := rfl
theorem encFa_one (x : Tv) : ∀ u ∈ encFa x, u.oneCell' = true := by
  intro u hu
  simp only [encFa, Tv.fa, List.mem_cons, List.not_mem_nil, or_false] at hu
  rcases hu with rfl | rfl | rfl <;> rfl
theorem infoFrR : (Try.prog.info? 27).map (fun i => (i.zero, i.size, i.bytes)) = some (some (.agg noF), 16, 136) := by kernel_rfl
theorem infoFaR : (Try.prog.info? 46).map (fun i => (i.zero, i.size, i.bytes)) = some (some (.agg noX), 3, 16) := by kernel_rfl
/-- Rows of unlike types have no block in common. -/
theorem rows_apart {w : World} {b b' : Nat} {e e' : TypeId} {s s' n n' : Nat} {v v' : Value} {xs xs' : List Value} (h : w.ownsRow b e s v n xs) (h' : w.ownsRow b' e' s' v' n' xs') (hT : e ≠ e') : ∀ g, v.ownBlock = some g → g ∉ v'.ownBlock.toList := fun g hg => by
  obtain ⟨cur, hc⟩ := owns_at h hg
  exact owns_alien h' hc hT
/-- Octets that are another's stay, as long as their block does. -/
theorem BytesOf.chgS {ls : List Nat} {w w' : World} {v : Value} {l : List UInt8} (h : BytesOf w v l) (hc : Chg ls w w') (hn : 0 < l.length → ∀ a n c, v = .slice (some a) n c → a.block ∉ ls) : BytesOf w' v l := by
  rcases Nat.eq_zero_or_pos l.length with h0 | h0
  · obtain ⟨a, cap, he, h1, h2, h3⟩ := h
    exact ⟨a, cap, he, h1, h2, fun h => by omega⟩
  · exact h.chg hc (hn h0)
/-- A frame that was told has rows of its own. -/
structure Good (w : World) (base : Nat) (fp : List Nat) (x : Tv) : Prop where
  p : OwnB w base x.pv x.F.pay
  l : OwnR 50 2 encS w base x.lv x.F.list
  a : ∀ g ∈ x.pv.ownBlock.toList, g ∉ fp
/-- Where told stands. -/
structure TS (W w wr : World) (p : Nat) (hv0 : Value) (mx : Nat) (hv : Value) (l : List UInt8) (dn : Bool) (ov fv : Value) (tO tF : List Tv) : Prop where
  h : PH W wr p hv l mx dn
  o : OwnR 27 16 encFr wr w.heap.size ov tO
  f : OwnR 46 3 encFa wr w.heap.size fv tF
  g : ∀ x ∈ tO, Good wr w.heap.size (footP p hv) x
  c : Chg (footP p hv0) w wr
  k : ∀ x ∈ footP p hv, x ∈ footP p hv0 ∨ w.heap.size ≤ x
section
variable {W w wr w' : World} {p : Nat} {hv0 hv hv' ov fv ov' fv' : Value} {mx : Nat} {l l' : List UInt8} {dn dn' : Bool} {tO tF : List Tv} {x : Tv}
theorem Good.chg {b : Nat} {fp ls : List Nat} (h : Good wr b fp x) (hc : Chg ls wr w') (h1 : ∀ g, x.pv.ownBlock = some g → g ∉ ls) (h2 : ∀ g, x.lv.ownBlock = some g → g ∉ ls) : Good w' b fp x :=
  ⟨OwnB.chg h.p hc h1, OwnR.chg h.l hc h2, h.a⟩
theorem Good.chg0 {b : Nat} {fp : List Nat} (h : Good wr b fp x) (hc : Chg [] wr w') : Good w' b fp x := h.chg hc (fun _ _ => by simp) (fun _ _ => by simp)
theorem TS.same (h : TS W w wr p hv0 mx hv l dn ov fv tO tF) (hc : Chg [] wr w') : TS W w w' p hv0 mx hv l dn ov fv tO tF :=
  ⟨h.h.chg0 hc, OwnR.chg0 h.o hc, OwnR.chg0 h.f hc, fun x hx => (h.g x hx).chg0 hc, h.c.trans hc (fun _ hx => by simp at hx), h.k⟩
theorem TS.le (h : TS W w wr p hv0 mx hv l dn ov fv tO tF) : w.heap.size ≤ wr.heap.size := h.c.size
theorem TS.step (h : TS W w wr p hv0 mx hv l dn ov fv tO tF) {ls : List Nat} (hc : Chg ls wr w') (hls : ∀ x ∈ ls, x ∈ footP p hv) (hh : PH W w' p hv' l' mx dn') (hk : ∀ x ∈ footP p hv', x ∈ footP p hv ∨ wr.heap.size ≤ x) : TS W w w' p hv0 mx hv' l' dn' ov fv tO tF := by
  have po : ∀ g, ov.ownBlock = some g → g ∉ footP p hv := fun g hg hx => by
    rcases List.mem_cons.1 hx with rfl | hx
    · exact owns_alien h.o h.h.head (by decide) (by simp [hg])
    · exact rows_apart h.o h.h.row (by decide) g hg hx
  have pf : ∀ g, fv.ownBlock = some g → g ∉ footP p hv := fun g hg hx => by
    rcases List.mem_cons.1 hx with rfl | hx
    · exact owns_alien h.f h.h.head (by decide) (by simp [hg])
    · exact rows_apart h.f h.h.row (by decide) g hg hx
  refine ⟨hh, OwnR.chg h.o hc (fun g hg hx => po g hg (hls g hx)), OwnR.chg h.f hc (fun g hg hx => pf g hg (hls g hx)), fun x hx => ?_, h.c.trans hc (fun x hx => h.k x (hls x hx)), fun x hx => ?_⟩
  · have hg := h.g x hx
    have hl : ∀ g, x.lv.ownBlock = some g → g ∉ footP p hv := fun g hgg hy => by
      rcases List.mem_cons.1 hy with rfl | hy
      · exact owns_alien hg.l h.h.head (by decide) (by simp [hgg])
      · exact rows_apart hg.l h.h.row (by decide) g hgg hy
    have h2 := hg.chg hc (fun g hgg hy => hg.a g (by simp [hgg]) (hls g hy)) (fun g hgg hy => hl g hgg (hls g hy))
    refine ⟨h2.p, h2.l, fun g hgg hy => ?_⟩
    rcases hk g hy with h3 | h3
    · exact hg.a g hgg h3
    · have := (World.ownsRow.lt hg.p g (by simpa using hgg)).2; omega
  · rcases hk x hx with h3 | h3
    · exact h.k x h3
    · exact Or.inr (Nat.le_trans h.le h3)
theorem TS.pushO (h : TS W w wr p hv0 mx hv l dn ov fv tO tF) (hx : Good wr w.heap.size (footP p hv) x) (hc : Chg ov.ownBlock.toList wr w') (ho : OwnR 27 16 encFr w' w.heap.size ov' (tO ++ [x])) : TS W w w' p hv0 mx hv l dn ov' fv (tO ++ [x]) tF := by
  have one : ∀ y, Good wr w.heap.size (footP p hv) y → Good w' w.heap.size (footP p hv) y := fun y hy => hy.chg hc (rows_apart hy.p h.o (by decide)) (rows_apart hy.l h.o (by decide))
  refine ⟨h.h.chg hc (fun y hy => ?_), ho, OwnR.chg h.f hc (rows_apart h.f h.o (by decide)), fun y hy => ?_, h.c.trans hc (fun y hy => Or.inr (OwnR.lo h.o y hy)), h.k⟩
  · rcases List.mem_cons.1 hy with rfl | hy
    · exact owns_alien h.o h.h.head (by decide)
    · exact rows_apart h.h.row h.o (by decide) y (by simpa using hy)
  · rcases List.mem_append.1 hy with hy | hy
    · exact one y (h.g y hy)
    · simp at hy; subst hy; exact one _ hx
theorem TS.pushF (h : TS W w wr p hv0 mx hv l dn ov fv tO tF) (hc : Chg fv.ownBlock.toList wr w') (ho : OwnR 46 3 encFa w' w.heap.size fv' (tF ++ [x])) : TS W w w' p hv0 mx hv l dn ov fv' tO (tF ++ [x]) := by
  refine ⟨h.h.chg hc (fun y hy => ?_), OwnR.chg h.o hc (rows_apart h.o h.f (by decide)), ho, fun y hy => ?_, h.c.trans hc (fun y hy => Or.inr (OwnR.lo h.f y hy)), h.k⟩
  · rcases List.mem_cons.1 hy with rfl | hy
    · exact owns_alien h.f h.h.head (by decide)
    · exact rows_apart h.h.row h.f (by decide) y (by simpa using hy)
  · exact (h.g y hy).chg hc (rows_apart (h.g y hy).p h.f (by decide)) (rows_apart (h.g y hy).l h.f (by decide))
end
end Go.Proofs.Ythhgnipiaohplaa.Fr
