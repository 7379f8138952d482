/-
  A script of this seat's laws, opened: steps that hold fields and octets.
-/
import Derived.Test.YtmoeioaahampaaaArgT
import Derived.Test.YtmoeioaahampaaaArg
import Derived.Test.YtmoeioaahampaaaOpenW
namespace Go.Proofs.Ytmoeioaahampaaa.B
open Go.ChangeShapes Go.WideShapes Go.ChangeAt Go.RowKit

section
variable {H : Type} {enc : TypeId × Value → H} {P : Program}
/-- One cell that is a slice. -/
theorem open_slice_n {α : Type} {W : World} {t e : TypeId} {fuel : Nat} {v : Value} {x : DataW H × List MemPlace} (size : Nat) (encE : α → List Value) (good : α → Prop)
    (ht : P.underlying t = some (.slice e)) (hsz : P.cellsOf e = size) (hpos : 0 < size)
    (hdec : ∀ n cs x, cs.length = size → DataW.trod enc P W 0 (fun _ => true) true n e cs = some x → (∀ p ∈ x.2, p.block < W.heap.size) → Small' P e x.1 → ∃ z, cs = encE z ∧ good z)
    (hf : DataW.trod enc P W 0 (fun _ => true) true fuel t [v] = some x) (hlt : ∀ p ∈ x.2, p.block < W.heap.size) (hs : Small' P t x.1) :
    ∃ zs : List α, (∀ z ∈ zs, good z) ∧ zs.length * P.bytesOf e ≤ reachBytes ∧ zs.length ≤ maxLen ∧ SliceOf W v size encE zs := by
  rcases Deep.open_slice ht hf with ⟨h0, _⟩ | ⟨a, len, cap, m, n, D, Pl, h0, hb, hl, hm, hmm, hx, hc⟩
  · simp only [List.cons.injEq, and_true] at h0
    exact ⟨[], by simp, by simp, by simp [maxLen], none, 0, h0, by simp, by simp [maxLen], by simp⟩
  · simp only [List.cons.injEq, and_true] at h0
    simp at hmm; subst hmm
    have hxd : x.1 = .slice ((List.range len).map D) ((List.range (m - len)).map fun j => D (len + j)) := congrArg Prod.fst hx
    have hxp : x.2 = MemPlace.row a (m * P.cellsOf e) ++ (List.range m).flatMap Pl := congrArg Prod.snd hx
    have hlenb : len * P.bytesOf e ≤ reachBytes := by
      have h1 := hs ((len + (m - len)) * P.bytesOf e) (by rw [hxd, DataW.weights, ht]; simp)
      exact Nat.le_trans (Nat.mul_le_mul_right _ (by omega)) h1
    rcases Nat.eq_zero_or_pos len with hz | hz
    · subst hz
      exact ⟨[], by simp, by simp, by simp [maxLen], some a, _, h0, by simp, hm, by simp⟩
    · have each : ∀ i, i < len → ∃ z, good z ∧ ∀ j, j < size → W.cell? ((a.add (i * size)).add j) = (encE z)[j]? := by
        intro i hi
        obtain ⟨cs', h1, h2⟩ := hc i (by omega)
        rw [hsz] at h1
        obtain ⟨_, hlen, hcell⟩ := World.cells?_some h1
        obtain ⟨z, rfl, hg⟩ := hdec n cs' _ hlen h2 (fun p hp => hlt p (by
          rw [hxp]; exact List.mem_append_right _ (List.mem_flatMap.2 ⟨i, List.mem_range.2 (by omega), hp⟩))) (fun k hk => hs k (by
          rw [hxd, DataW.weights, ht]
          exact List.mem_cons_of_mem _ (List.mem_append_left _ (weightsAll_mem (d := D i) (List.mem_map.2 ⟨i, List.mem_range.2 hi, rfl⟩) k hk))))
        exact ⟨z, hg, fun j hj => hcell j hj⟩
      obtain ⟨zs, hzl, hzz⟩ := list_of_fn len _ each
      have hfirst : a.spot = none := by
        obtain ⟨cs', h1, h2⟩ := hc 0 (by omega)
        rw [hsz] at h1
        obtain ⟨_, hlen, hcell⟩ := World.cells?_some h1
        have h00 := hcell 0 (by omega)
        obtain ⟨x, hx⟩ : ∃ x, cs'[0]? = some x := ⟨_, List.getElem?_eq_getElem (by omega)⟩
        rw [hx] at h00
        simp [Addr.add, World.cell?] at h00
        cases hs : a.spot with
        | none => rfl
        | some q => rw [hs] at h00; revert h00; split <;> simp
      obtain ⟨b, off, sp⟩ := a
      simp only at hfirst; subst hfirst
      have hblk : b < W.heap.size := by
        have hp0 : MemPlace.cell b off ∈ x.2 := by
          rw [hxp]
          refine List.mem_append_left _ ?_
          unfold MemPlace.row
          refine List.mem_map.2 ⟨0, by rw [hsz]; simp only [List.mem_range]; exact Nat.mul_pos (by omega) hpos, by simp⟩
        exact hlt _ hp0
      refine ⟨zs, ?_, by rw [hzl]; exact hlenb, by omega, _, m, by rw [hzl]; exact h0, by omega, hm, fun _ => ⟨b, off, rfl, hblk, ?_⟩⟩
      · intro z hz'
        obtain ⟨i, hi⟩ := List.getElem?_of_mem hz'
        exact (hzz i z hi).1
      · intro i z hz' j hj
        rw [← (hzz i z hz').2 j hj]
        congr 1
        unfold Addr.add
        (repeat' split) <;> simp_all <;> omega
/-- An argument that is such a slice. -/
theorem open_slice_a {α : Type} {W : World} {r : Reach} {b0 : Nat} {t e : TypeId} {v : Value} {d : DataW H} {ps : List MemPlace} (size : Nat) (encE : α → List Value) (good : α → Prop)
    (ht : P.underlying t = some (.slice e)) (hsz : P.cellsOf e = size) (hpos : 0 < size) (hval : Value.okWide P W r b0 t v)
    (hdec : ∀ n cs x, cs.length = size → DataW.trod enc P W 0 (fun _ => true) true n e cs = some x → (∀ p ∈ x.2, p.block < W.heap.size) → Small' P e x.1 → ∃ z, cs = encE z ∧ good z)
    (hd : DataW.Trod enc P W 0 (fun _ => true) true t v d ps) (hlt : ∀ p ∈ ps, p.block < W.heap.size) (hs : Small' P t d) :
    ∃ zs : List α, (∀ z ∈ zs, good z) ∧ zs.length * P.bytesOf e ≤ reachBytes ∧ zs.length ≤ maxLen ∧ SliceOf W v size encE zs := by
  obtain ⟨fuel, hf⟩ := hd
  have hv1 : v.cells.toList = [v] := by
    cases v <;> first | rfl | (exfalso; simp [Value.okWide, ht, Cell.okWide, Cell.ok] at hval)
  rw [hv1] at hf
  exact open_slice_n size encE good ht hsz hpos hdec hf hlt hs
end
end Go.Proofs.Ytmoeioaahampaaa.B
namespace Go.Proofs.Ytmoeioaahampaaa.Tb.Hp
open Go.ChangeShapes Go.WideShapes Go.ChangeAt Go.RowKit
open Go.Proofs.Ytmoeioaahampaaa.B Go.Proofs.Ytmoeioaahampaaa.Tb
set_option linter.unusedVariables false
set_option linter.unusedSimpArgs false
/-- A step. -/
structure S where
  k : Int
  n : Int
  lv : Value
  bv : Value
  l : List Fd
  b : List UInt8
def encS (o : S) : List Value := [.int .i64 o.k, .int .i64 o.n, o.lv, o.bv]
structure S.In (W : World) (o : S) : Prop where
  fl : ∀ f ∈ o.l, f.In
  sl : FdsOf W o.lv o.l
  sb : BytesOf W o.bv o.b
theorem S.In.le {W w : World} {o : S} (h : o.In W) (hc : Chg [] W w) : o.In w := ⟨h.fl, h.sl.chg0 hc, h.sb.chg0 hc⟩
set_option maxRecDepth 100000 in
theorem decS {H : Type} {enc : TypeId × Value → H} {W : World} (n : Nat) (cs : List Value) (x : DataW H × List MemPlace) (hl : cs.length = 4)
    (h : DataW.trod enc Try.prog W 0 (fun _ => true) true n 57 cs = some x) (hlt : ∀ p ∈ x.2, p.block < W.heap.size) (hs : Small' Try.prog 57 x.1) : ∃ z, cs = encS z ∧ z.In W := by
  obtain ⟨xs, k, hk, hx, hlen, hxl, hf⟩ := DataW.trod_struct Try.underlying57 h
  have g0 : DataW.trod enc Try.prog W 0 (fun _ => true) true k 3 ((cs.drop 0).take (Try.prog.cellsOf 3)) = xs[0]? := hf 0 _ rfl
  have g1 : DataW.trod enc Try.prog W 0 (fun _ => true) true k 3 ((cs.drop 1).take (Try.prog.cellsOf 3)) = xs[1]? := hf 1 _ rfl
  have g2 : DataW.trod enc Try.prog W 0 (fun _ => true) true k 26 ((cs.drop 2).take (Try.prog.cellsOf 26)) = xs[2]? := hf 2 _ rfl
  have g3 : DataW.trod enc Try.prog W 0 (fun _ => true) true k 22 ((cs.drop 3).take (Try.prog.cellsOf 22)) = xs[3]? := hf 3 _ rfl
  match xs, hxl, cs, hl with
  | [y0, y1, y2, y3], _, [v0, v1, v2, v3], _ =>
    simp only [show Try.prog.cellsOf 3 = 1 from by kernel_rfl, show Try.prog.cellsOf 26 = 1 from by kernel_rfl, show Try.prog.cellsOf 22 = 1 from by kernel_rfl] at g0 g1 g2 g3
    obtain ⟨a, ha, _, _⟩ := DataW.trod_int Try.underlying3 (by simpa using g0)
    obtain ⟨b, hb, _, _⟩ := DataW.trod_int Try.underlying3 (by simpa using g1)
    simp at ha hb
    subst hx
    have s2 := small_struct Try.underlying57 hs (j := 2) (t' := 26) (d := y2.1) rfl rfl
    have s3 := small_struct Try.underlying57 hs (j := 3) (t' := 22) (d := y3.1) rfl rfl
    obtain ⟨l2, q1, _, _, q2⟩ := open_slice_n 3 Tb.encF Fd.In Try.underlying26 (by kernel_rfl) (by omega)
      (fun n cs x hl h _ hs => (decF n cs x hl h).imp fun z hz => ⟨hz.1, hz.2 hs⟩) (by simpa using g2) (fun p hp => hlt p (by simp [hp])) s2
    obtain ⟨l3, _, _, _, q3⟩ := open_slice_n 1 encB (fun _ => True) Try.underlying22 (by kernel_rfl) (by omega)
      (fun n cs x hl h _ hs => (Go.Proofs.Ytmoeioaahampaaa.B.decB n cs x hl h).imp fun z hz => ⟨hz.1, trivial⟩) (by simpa using g3) (fun p hp => hlt p (by simp [hp])) s3
    exact ⟨⟨a, b, v2, v3, l2, l3⟩, by simp [encS, ha, hb], q1, q2, q3⟩
theorem s_cells {w : World} {a : Option Addr} {n cap : Nat} {zs : List S} (h : SliceOf w (.slice a n cap) 4 encS zs) (h0 : 0 < zs.length) :
    ∃ b off, a = some ⟨b, off, none⟩ ∧ b < w.heap.size ∧ ∀ i o, zs[i]? = some o → w.cell? ⟨b, off + i * 4, none⟩ = some (.int .i64 o.k) ∧ w.cell? ⟨b, off + i * 4 + 1, none⟩ = some (.int .i64 o.n) ∧ w.cell? ⟨b, off + i * 4 + 2, none⟩ = some o.lv ∧ w.cell? ⟨b, off + i * 4 + 3, none⟩ = some o.bv := by
  obtain ⟨b, off, rfl, hb, hc⟩ := h.at h0
  exact ⟨b, off, rfl, hb, fun i f hf => ⟨hc i f hf 0 (by omega), hc i f hf 1 (by omega), hc i f hf 2 (by omega), hc i f hf 3 (by omega)⟩⟩
/-- The block of a row, if it has elements. -/
structure Blk (T : TypeId) (sz : Nat) (w : World) (v : Value) (n : Nat) : Prop where
  h : 0 < n → ∃ g cap cur, v = .slice (some ⟨g, 0, none⟩) n cap ∧ At w g (.cells cur T (0, 0)) ∧ n * sz ≤ cur.size
theorem blk_of {T : TypeId} {base sz n : Nat} {v : Value} {xs : List Value} {w : World} (h : w.ownsRow base T sz v n xs) : Blk T sz w v n := ⟨fun h0 => by
  rcases h.2 with ⟨_, h1⟩ | ⟨g, cap, cur, h1, h2, h3, h4, h5, h6, h7⟩
  · omega
  · exact ⟨g, cap, cur, h1, h3, by rw [h6]; exact Nat.mul_le_mul_right _ h4⟩⟩
theorem Blk.chg {T : TypeId} {sz n : Nat} {v : Value} {w w' : World} {ls : List Nat} (h : Blk T sz w v n) (hc : Chg ls w w') (hd : ∀ x ∈ v.ownBlock.toList, x ∉ ls) : Blk T sz w' v n := ⟨fun h0 => by
  obtain ⟨g, cap, cur, rfl, h2, h3⟩ := h.h h0
  exact ⟨g, cap, cur, rfl, h2.chg hc (hd g (by simp [Value.ownBlock])), h3⟩⟩
theorem own_lt {T : TypeId} {base sz n : Nat} {v : Value} {xs : List Value} {w : World} (h : w.ownsRow base T sz v n xs) : ∀ x ∈ v.ownBlock.toList, x < w.heap.size := fun x hx => (World.ownsRow.lt h x (by simpa using hx)).2
end Go.Proofs.Ytmoeioaahampaaa.Tb.Hp
