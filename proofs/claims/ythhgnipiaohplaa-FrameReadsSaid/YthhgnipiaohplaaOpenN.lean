/-
  Slices whose elements hold slices, opened: what an element's decoder may use is that the element's places are elder than the call.
-/
import Derived.Test.YthhgnipiaohplaaOpenW
namespace Go.Proofs.Ythhgnipiaohplaa.B
open Go.ChangeShapes Go.WideShapes Go.ChangeAt Go.RowKit
set_option linter.unusedVariables false
set_option linter.unusedSimpArgs false

section
variable {H : Type} {enc : TypeId × Value → H} {P : Program}
/-- One cell that is a slice. -/
theorem open_slice_n {α : Type} {W : World} {t e : TypeId} {fuel : Nat} {v : Value} {x : DataW H × List MemPlace} (size : Nat) (encE : α → List Value) (good : α → Prop)
    (ht : P.underlying t = some (.slice e)) (hsz : P.cellsOf e = size) (hpos : 0 < size)
    (hdec : ∀ n cs x, cs.length = size → DataW.trod enc P W 0 (fun _ => true) true n e cs = some x → (∀ p ∈ x.2, p.block < W.heap.size) → Small' P e x.1 → ∃ z, cs = encE z ∧ good z)
    (hf : DataW.trod enc P W 0 (fun _ => true) true fuel t [v] = some x) (hlt : ∀ p ∈ x.2, p.block < W.heap.size) (hs : Small' P t x.1) :
    ∃ zs : List α, (∀ z ∈ zs, good z) ∧ zs.length * P.bytesOf e ≤ reachBytes ∧ zs.length ≤ maxLen ∧ SliceOf W v size encE zs := by
  rcases Deep.open_slice ht hf with ⟨h0, _⟩ | ⟨a, len, cap, m, n, D, Pl, h0, hb, hl, hm, hmm, hx, hc⟩
  · simp only [List.cons.injEq, and_true] at h0
    exact ⟨[], by simp, by simp, by simp [maxLen], none, 0, h0, by simp, by simp [maxLen], by simp⟩
  · simp only [List.cons.injEq, and_true] at h0
    simp at hmm; subst hmm
    have hxd : x.1 = .slice ((List.range len).map D) ((List.range (m - len)).map fun j => D (len + j)) := congrArg Prod.fst hx
    have hxp : x.2 = MemPlace.row a (m * P.cellsOf e) ++ (List.range m).flatMap Pl := congrArg Prod.snd hx
    have hlenb : len * P.bytesOf e ≤ reachBytes := by
      have h1 := hs ((len + (m - len)) * P.bytesOf e) (by rw [hxd, DataW.weights, ht]; simp)
      exact Nat.le_trans (Nat.mul_le_mul_right _ (by omega)) h1
    rcases Nat.eq_zero_or_pos len with hz | hz
    · subst hz
      exact ⟨[], by simp, by simp, by simp [maxLen], some a, _, h0, by simp, hm, by simp⟩
    · have each : ∀ i, i < len → ∃ z, good z ∧ ∀ j, j < size → W.cell? ((a.add (i * size)).add j) = (encE z)[j]? := by
        intro i hi
        obtain ⟨cs', h1, h2⟩ := hc i (by omega)
        rw [hsz] at h1
        obtain ⟨_, hlen, hcell⟩ := World.cells?_some h1
        obtain ⟨z, rfl, hg⟩ := hdec n cs' _ hlen h2 (fun p hp => hlt p (by
          rw [hxp]; exact List.mem_append_right _ (List.mem_flatMap.2 ⟨i, List.mem_range.2 (by omega), hp⟩))) (fun k hk => hs k (by
          rw [hxd, DataW.weights, ht]
          exact List.mem_cons_of_mem _ (List.mem_append_left _ (weightsAll_mem (d := D i) (List.mem_map.2 ⟨i, List.mem_range.2 hi, rfl⟩) k hk))))
        exact ⟨z, hg, fun j hj => hcell j hj⟩
      obtain ⟨zs, hzl, hzz⟩ := list_of_fn len _ each
      have hfirst : a.spot = none := by
        obtain ⟨cs', h1, h2⟩ := hc 0 (by omega)
        rw [hsz] at h1
        obtain ⟨_, hlen, hcell⟩ := World.cells?_some h1
        have h00 := hcell 0 (by omega)
        obtain ⟨x, hx⟩ : ∃ x, cs'[0]? = some x := ⟨_, List.getElem?_eq_getElem (by omega)⟩
        rw [hx] at h00
        simp [Addr.add, World.cell?] at h00
        cases hs : a.spot with
        | none => rfl
        | some q => rw [hs] at h00; revert h00; split <;> simp
      obtain ⟨b, off, sp⟩ := a
      simp only at hfirst; subst hfirst
      have hblk : b < W.heap.size := by
        have hp0 : MemPlace.cell b off ∈ x.2 := by
          rw [hxp]
          refine List.mem_append_left _ ?_
          unfold MemPlace.row
          refine List.mem_map.2 ⟨0, by rw [hsz]; simp only [List.mem_range]; exact Nat.mul_pos (by omega) hpos, by simp⟩
        exact hlt _ hp0
      refine ⟨zs, ?_, by rw [hzl]; exact hlenb, by omega, _, m, by rw [hzl]; exact h0, by omega, hm, fun _ => ⟨b, off, rfl, hblk, ?_⟩⟩
      · intro z hz'
        obtain ⟨i, hi⟩ := List.getElem?_of_mem hz'
        exact (hzz i z hi).1
      · intro i z hz' j hj
        rw [← (hzz i z hz').2 j hj]
        congr 1
        unfold Addr.add
        (repeat' split) <;> simp_all <;> omega
/-- An argument that is such a slice. -/
theorem open_slice_a {α : Type} {W : World} {r : Reach} {b0 : Nat} {t e : TypeId} {v : Value} {d : DataW H} {ps : List MemPlace} (size : Nat) (encE : α → List Value) (good : α → Prop)
    (ht : P.underlying t = some (.slice e)) (hsz : P.cellsOf e = size) (hpos : 0 < size) (hval : Value.okWide P W r b0 t v)
    (hdec : ∀ n cs x, cs.length = size → DataW.trod enc P W 0 (fun _ => true) true n e cs = some x → (∀ p ∈ x.2, p.block < W.heap.size) → Small' P e x.1 → ∃ z, cs = encE z ∧ good z)
    (hd : DataW.Trod enc P W 0 (fun _ => true) true t v d ps) (hlt : ∀ p ∈ ps, p.block < W.heap.size) (hs : Small' P t d) :
    ∃ zs : List α, (∀ z ∈ zs, good z) ∧ zs.length * P.bytesOf e ≤ reachBytes ∧ zs.length ≤ maxLen ∧ SliceOf W v size encE zs := by
  obtain ⟨fuel, hf⟩ := hd
  have hv1 : v.cells.toList = [v] := by
    cases v <;> first | rfl | (exfalso; simp [Value.okWide, ht, Cell.okWide, Cell.ok] at hval)
  rw [hv1] at hf
  exact open_slice_n size encE good ht hsz hpos hdec hf hlt hs
end
end Go.Proofs.Ythhgnipiaohplaa.B
