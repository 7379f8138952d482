/-
  Arguments opened, with what the reading's reach tells of their strings.
-/
import Derived.Test.YthhgnipiaohplaaLift
namespace Go.Proofs.Ythhgnipiaohplaa.B
open Go.ChangeShapes Go.WideShapes Go.ChangeAt Go.RowKit
set_option linter.unusedVariables false
set_option linter.unusedSimpArgs false

section
variable {H : Type} {enc : TypeId × Value → H} {P : Program}
/-- What this datum weighs is in reach. -/
def Small' (P : Program) (t : TypeId) (d : DataW H) : Prop := ∀ k ∈ d.weights P t, k ≤ reachBytes
theorem small_of {ts : List TypeId} {ds : List (DataW H)} (h : (DataW.weightsEach P ts ds).all (· ≤ reachBytes) = true) {j : Nat} {t : TypeId} {d : DataW H} (ht : ts[j]? = some t) (hd : ds[j]? = some d) : Small' P t d := fun k hk => by
  have := List.all_eq_true.1 h k (DataW.weights_mem_each ht hd k hk)
  simpa using this
theorem weightsAll_mem {e : TypeId} {d : DataW H} : ∀ {l : List (DataW H)}, d ∈ l → ∀ k ∈ d.weights P e, k ∈ DataW.weightsAll P e l
  | x :: l, h, k, hk => by
    rw [DataW.weightsAll, List.mem_append]
    rcases List.mem_cons.1 h with rfl | h
    · exact Or.inl hk
    · exact Or.inr (weightsAll_mem h k hk)
theorem small_struct {t : TypeId} {fs : Array Field} (ht : P.underlying t = some (.struct fs)) {xs : List (DataW H)} (h : Small' P t (.agg xs)) {j : Nat} {t' : TypeId} {d : DataW H} (hj : (fs.toList.map (·.type))[j]? = some t') (hd : xs[j]? = some d) : Small' P t' d := fun k hk =>
  h k (by rw [DataW.weights, ht]; exact DataW.weights_mem_each hj hd k hk)
theorem small_string {t : TypeId} {b : List UInt8} (h : Small' P t (.lit (.string b) : DataW H)) : b.length ≤ reachBytes := h _ (by simp [DataW.weights])
/-- An argument that is a struct of plain cells. -/
theorem open_struct_w {α : Type} {W : World} {r : Reach} {b0 : Nat} {t : TypeId} {fs : Array Field} {v : Value} {d : DataW H} {ps : List MemPlace} (size : Nat) (encE : α → List Value) (good : α → Prop)
    (ht : P.underlying t = some (.struct fs)) (hsz : P.cellsOf t = size) (hval : Value.okWide P W r b0 t v)
    (hdec : ∀ n cs x, cs.length = size → DataW.trod enc P W 0 (fun _ => true) true n t cs = some x → ∃ z, cs = encE z ∧ (Small' P t x.1 → good z))
    (hd : DataW.Trod enc P W 0 (fun _ => true) true t v d ps) (hs : Small' P t d) : ∃ z, v = .agg (encE z).toArray ∧ good z := by
  obtain ⟨fuel, hf⟩ := hd
  simp only [Value.okWide, ht] at hval
  obtain ⟨cs, rfl, hs', _⟩ := hval
  obtain ⟨z, hz, hg⟩ := hdec fuel cs.toList _ (by simpa [hsz] using hs') (by simpa [Value.cells] using hf)
  exact ⟨z, by rw [← hz], hg hs⟩
/-- An argument that is a slice. -/
theorem open_slice_w {α : Type} {W : World} {r : Reach} {b0 : Nat} {t e : TypeId} {v : Value} {d : DataW H} {ps : List MemPlace} (size : Nat) (encE : α → List Value) (good : α → Prop)
    (ht : P.underlying t = some (.slice e)) (hsz : P.cellsOf e = size) (hpos : 0 < size) (hval : Value.okWide P W r b0 t v)
    (hdec : ∀ n cs x, cs.length = size → DataW.trod enc P W 0 (fun _ => true) true n e cs = some x → ∃ z, cs = encE z ∧ (Small' P e x.1 → good z))
    (hd : DataW.Trod enc P W 0 (fun _ => true) true t v d ps) (hlt : ∀ p ∈ ps, p.block < W.heap.size) (hs : Small' P t d) :
    ∃ zs : List α, (∀ z ∈ zs, good z) ∧ zs.length * P.bytesOf e ≤ reachBytes ∧ zs.length ≤ maxLen ∧ SliceOf W v size encE zs := by
  obtain ⟨fuel, hf⟩ := hd
  have hv1 : v.cells.toList = [v] := by
    cases v <;> first | rfl | (exfalso; simp [Value.okWide, ht, Cell.okWide, Cell.ok] at hval)
  rw [hv1] at hf
  rcases Deep.open_slice ht hf with ⟨h0, _⟩ | ⟨a, len, cap, m, n, D, Pl, h0, hb, hl, hm, hmm, hx, hc⟩
  · simp only [List.cons.injEq, and_true] at h0
    exact ⟨[], by simp, by simp, by simp [maxLen], none, 0, h0, by simp, by simp [maxLen], by simp⟩
  · simp only [List.cons.injEq, and_true] at h0
    simp at hmm; subst hmm
    have hxd : d = .slice ((List.range len).map D) ((List.range (m - len)).map fun j => D (len + j)) := congrArg Prod.fst hx
    have hlenb : len * P.bytesOf e ≤ reachBytes := by
      have h1 := hs ((len + (m - len)) * P.bytesOf e) (by rw [hxd, DataW.weights, ht]; simp)
      exact Nat.le_trans (Nat.mul_le_mul_right _ (by omega)) h1
    rcases Nat.eq_zero_or_pos len with hz | hz
    · subst hz
      exact ⟨[], by simp, by simp, by simp [maxLen], some a, _, h0, by simp, hm, by simp⟩
    · have each : ∀ i, i < len → ∃ z, good z ∧ ∀ j, j < size → W.cell? ((a.add (i * size)).add j) = (encE z)[j]? := by
        intro i hi
        obtain ⟨cs', h1, h2⟩ := hc i (by omega)
        rw [hsz] at h1
        obtain ⟨_, hlen, hcell⟩ := World.cells?_some h1
        obtain ⟨z, rfl, hg⟩ := hdec n cs' _ hlen h2
        refine ⟨z, hg (fun k hk => hs k ?_), fun j hj => hcell j hj⟩
        rw [hxd, DataW.weights, ht]
        refine List.mem_cons_of_mem _ (List.mem_append_left _ (weightsAll_mem (d := D i) (List.mem_map.2 ⟨i, List.mem_range.2 hi, rfl⟩) k hk))
      obtain ⟨zs, hzl, hzz⟩ := list_of_fn len _ each
      have hfirst : a.spot = none := by
        obtain ⟨cs', h1, h2⟩ := hc 0 (by omega)
        rw [hsz] at h1
        obtain ⟨_, hlen, hcell⟩ := World.cells?_some h1
        have h00 := hcell 0 (by omega)
        obtain ⟨x, hx⟩ : ∃ x, cs'[0]? = some x := ⟨_, List.getElem?_eq_getElem (by omega)⟩
        rw [hx] at h00
        simp [Addr.add, World.cell?] at h00
        cases hs : a.spot with
        | none => rfl
        | some q => rw [hs] at h00; revert h00; split <;> simp
      obtain ⟨b, off, sp⟩ := a
      simp only at hfirst; subst hfirst
      have hblk : b < W.heap.size := by
        have hp0 : MemPlace.cell b off ∈ ps := by
          have : ps = MemPlace.row ⟨b, off, none⟩ (m * P.cellsOf e) ++ (List.range m).flatMap Pl := congrArg Prod.snd hx
          rw [this]
          refine List.mem_append_left _ ?_
          unfold MemPlace.row
          refine List.mem_map.2 ⟨0, by rw [hsz]; simp only [List.mem_range]; exact Nat.mul_pos (by omega) hpos, by simp⟩
        exact hlt _ hp0
      refine ⟨zs, ?_, by rw [hzl]; exact hlenb, by omega, _, m, by rw [hzl]; exact h0, by omega, hm, fun _ => ⟨b, off, rfl, hblk, ?_⟩⟩
      · intro z hz'
        obtain ⟨i, hi⟩ := List.getElem?_of_mem hz'
        exact (hzz i z hi).1
      · intro i z hz' j hj
        rw [← (hzz i z hz').2 j hj]
        congr 1
        unfold Addr.add
        (repeat' split) <;> simp_all <;> omega
end
end Go.Proofs.Ythhgnipiaohplaa.B
