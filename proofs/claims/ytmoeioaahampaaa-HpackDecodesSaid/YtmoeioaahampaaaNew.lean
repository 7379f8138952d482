/-
  Lemmas for the laws that fill a table; TableNewest: what is put in stands first, and the others go on behind it.
-/
import Derived.Test.YtmoeioaahampaaaArgT
namespace Go.Proofs.Ytmoeioaahampaaa.Tb
open Go.ChangeShapes Go.WideShapes Go.ChangeAt Go.RowKit
open Go.Proofs.Ytmoeioaahampaaa.B
set_option linter.unusedVariables false
set_option linter.unusedSimpArgs false

theorem Fresh.notin {F2 F : List Nat} {w : World} {B : Nat} (h : Fresh F2 F w) (hb : B ∉ F) (hlt : B < w.heap.size) : B ∉ F2 := fun hx => (h B hx).elim hb (fun h => by omega)
theorem fit_len (more m : Nat) (es : List Fd) : (fit more m es).length ≤ es.length := by
  obtain ⟨k, h1, h2, _⟩ := fit_spec more m es
  rw [h2]; simp
theorem addS_len (f : Fd) (m : Nat) (es : List Fd) : (addS f m es).length ≤ es.length + 1 := by
  unfold addS
  have := fit_len f.sz m es
  split <;> simp <;> omega
theorem one_field' (w : World) (f : Fd) {k : Nat} (hk : w.heap.size = k) : FdsOf (w.alloc (.cells #[.string f.n, .string f.v, .bool f.nv] 44)) (.slice (some ⟨k, 0, none⟩) 1 1) [f] := hk ▸ one_field w f
/-- The test of a loop that ends at a bound is off. -/
theorem off_and {n c : Nat} {i : Nat} (h : ¬ (i < n ∧ i < c)) : i < n → ¬ (i : Int) < (c : Int) := fun h1 h2 => h ⟨h1, by omega⟩
/-- The newest ones of what is left are the newest ones of what was. -/
theorem drop_rev {es : List Fd} {k : Nat} (hk : k ≤ es.length) : (es.drop k).reverse = es.reverse.take (es.length - k) := by
  rw [List.reverse_drop]
theorem rev_get {es : List Fd} {k : Nat} (hk : k < es.length) : ∃ f, es[es.length - 1 - k]? = some f ∧ es.reverse[k]? = some f := by
  refine ⟨es[es.length - 1 - k]'(by omega), List.getElem?_eq_getElem (by omega), ?_⟩
  rw [List.getElem?_reverse hk]
  exact List.getElem?_eq_getElem (by omega)
/-- What At tells of an entry. -/
theorem atR_rev {es : List Fd} {k : Nat} {f : Fd} (h : es.reverse[k]? = some f) : atR es ((k : Int) + 62) = (f, true) := by
  have hk : k < es.length := by have := (List.getElem?_eq_some_iff.1 h).1; simpa using this
  rw [List.getElem?_reverse hk] at h
  exact atR_high h hk
/-- What one more field leaves. -/
structure Put (f : Fd) (m : Nat) (es es3 : List Fd) (r : Nat) : Prop where
  le : r ≤ es.length
  len : es3.length = r + 1
  fst : es3.reverse[0]? = some f.un
  snd : ∀ k x, k < r → es.reverse[k]? = some x → es3.reverse[k + 1]? = some x
  most : ∀ x, r < es.length → es.reverse[r]? = some x → m < tot es3 + x.sz
theorem put_of {f : Fd} {m : Nat} {es : List Fd} {es3 : List Fd} (hf : f.sz ≤ m) (he : es3 = addS f m es) : ∃ r, Put f m es es3 r := by
  subst he
  obtain ⟨k, h1, h2, h3, h4⟩ := fit_spec f.sz m es
  have ha : addS f m es = es.drop k ++ [f.un] := by rw [addS_small hf, h2]
  have hrev : (addS f m es).reverse = f.un :: es.reverse.take (es.length - k) := by
    rw [ha, List.reverse_append, drop_rev h1]; rfl
  refine ⟨es.length - k, by omega, by rw [ha]; simp, by rw [hrev]; rfl, fun j x hj hx => ?_, fun x hr hx => ?_⟩
  · rw [hrev, List.getElem?_cons_succ, List.getElem?_take_of_lt hj]; exact hx
  · have hk : 0 < k := by omega
    have h5 := h3 (k - 1) (by omega)
    rw [List.getElem?_reverse hr, show es.length - 1 - (es.length - k) = k - 1 by omega] at hx
    have h6 := tot_drop_succ hx
    rw [show k - 1 + 1 = k by omega] at h6
    rw [ha, tot_append]
    simp only [tot, Fd.un_sz]
    omega
end Go.Proofs.Ytmoeioaahampaaa.Tb
