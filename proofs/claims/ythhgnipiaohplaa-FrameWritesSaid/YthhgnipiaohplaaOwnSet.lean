/-
  A row of one's own, of elements of several cells: its block; one cell of one element written.
-/
import Derived.Test.YthhgnipiaohplaaOwnR
namespace Go.Proofs.Ythhgnipiaohplaa.B
open Go.ChangeShapes Go.WideShapes Go.ChangeAt Go.RowKit
set_option linter.unusedVariables false
set_option linter.unusedSimpArgs false

section
variable {α : Type} {enc : α → List Value} {size : Nat}
theorem flat_set (he : ∀ x, (enc x).length = size) : ∀ {l : List α} {i j : Nat} {x x' : α} {v : Value}, l[i]? = some x → j < size → enc x' = (enc x).set j v → (l.flatMap enc).set (i * size + j) v = (l.set i x').flatMap enc := by
  intro l
  induction l with
  | nil => intro i j x x' v h; simp at h
  | cons a l ih =>
    intro i j x x' v h hj hv
    cases i with
    | zero =>
      simp only [List.getElem?_cons_zero, Option.some.injEq] at h
      subst h
      rw [List.set_cons_zero, List.flatMap_cons, List.flatMap_cons, hv, Nat.zero_mul, Nat.zero_add, List.set_append_left _ _ (by rw [he]; exact hj)]
    | succ i =>
      simp only [List.getElem?_cons_succ] at h
      rw [List.set_cons_succ, List.flatMap_cons, List.flatMap_cons, ← ih h hj hv]
      have e : (i + 1) * size + j = (enc a).length + (i * size + j) := by rw [he, Nat.add_mul, Nat.one_mul]; omega
      rw [e, List.set_append_right _ _ (by omega)]
      congr 2
      omega
variable {e : TypeId} {w : World} {base : Nat} {v : Value} {l : List α}
/-- The block of a row that is not empty. -/
theorem OwnR.block (h : OwnR e size enc w base v l) (h0 : 0 < l.length) : ∃ g cap cur, v = .slice (some ⟨g, 0, none⟩) l.length cap ∧ base ≤ g ∧ At w g (.cells cur e (0, 0)) ∧ l.length ≤ cap ∧ cap ≤ maxLen ∧ cur.size = cap * size ∧ cur.toList.take (l.length * size) = l.flatMap enc := by
  rcases h.2 with ⟨_, h1⟩ | ⟨g, cap, cur, h1, h2, h3, h4, h5, h6, h7⟩
  · omega
  · exact ⟨g, cap, cur, h1, h2, h3, h4, h5, h6, h7⟩
/-- One cell of one element written. -/
theorem OwnR.put (he : ∀ x, (enc x).length = size) {g cap : Nat} (h : OwnR e size enc w base (.slice (some ⟨g, 0, none⟩) l.length cap) l) {i j : Nat} {x x' : α} {u : Value} (hx : l[i]? = some x) (hj : j < size) (hv : enc x' = (enc x).set j u) :
    OwnR e size enc (w.setCell ⟨g, i * size + j, none⟩ u) base (.slice (some ⟨g, 0, none⟩) l.length cap) (l.set i x') := by
  have hi := (List.getElem?_eq_some_iff.1 hx).1
  obtain ⟨g', cap', cur, h1, h2, h3, h4, h5, h6, h7⟩ := h.block (by omega)
  cases h1
  have hlt : i * size + j < l.length * size := by
    have : (i + 1) * size ≤ l.length * size := Nat.mul_le_mul_right _ hi
    rw [Nat.add_mul, Nat.one_mul] at this; omega
  have hf := flat_set he hx hj hv
  refine ⟨by rw [flat_len he, List.length_set], Or.inr ⟨g, cap, cur.setIfInBounds (i * size + j) u, by rw [List.length_set], h2, ?_, by rw [List.length_set]; exact h4, h5, by rw [Array.size_setIfInBounds]; exact h6, ?_⟩⟩
  · exact h3.set (i * size + j) u
  · rw [List.length_set, ← hf, ← h7, Array.toList_setIfInBounds, List.take_set]
/-- The cell of an element. -/
theorem OwnR.cellAt (he : ∀ x, (enc x).length = size) {g cap n : Nat} (h : OwnR e size enc w base (.slice (some ⟨g, 0, none⟩) n cap) l) {i j : Nat} {x : α} (hx : l[i]? = some x) (hj : j < size) : w.cell? ⟨g, i * size + j, none⟩ = (enc x)[j]? := by
  have hi := (List.getElem?_eq_some_iff.1 hx).1
  obtain ⟨g', cap', cur, h1, h2, h3, h4, h5, h6, h7⟩ := h.block (by omega)
  cases h1
  have hlt : i * size + j < l.length * size := by
    have : (i + 1) * size ≤ l.length * size := Nat.mul_le_mul_right _ hi
    rw [Nat.add_mul, Nat.one_mul] at this; omega
  have h8 : (l.flatMap enc)[i * size + j]? = (enc x)[j]? := flat_get he hx hj
  rw [← h7, List.getElem?_take_of_lt hlt] at h8
  obtain ⟨y, hy⟩ : ∃ y, (enc x)[j]? = some y := ⟨_, List.getElem?_eq_getElem (by rw [he]; exact hj)⟩
  rw [hy] at h8 ⊢
  exact h3.cell (by rw [← h8, Array.getElem?_toList])
end
end Go.Proofs.Ythhgnipiaohplaa.B
