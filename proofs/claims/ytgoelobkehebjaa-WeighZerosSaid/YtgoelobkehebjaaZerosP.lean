/-
  Weights of 0 take nobody's place: the plain law.
-/
import Derived.Test.YtgoelobkehebjaaNever
namespace Go.Proofs.Ytgoelobkehebjaa.Zeros
open Go.ChangeShapes Go.WideShapes Go.ChangeAt Go.RowKit
open Go.Proofs.Ytgoelobkehebjaa.B Go.Proofs.Ytgoelobkehebjaa.Fl Go.Proofs.Ytgoelobkehebjaa.Wg
set_option linter.unusedVariables false
set_option linter.unusedSimpArgs false

/-- A 0 put in at a place. -/
def insL (k : Nat) (u : List Nat) : List Nat := u.take k ++ 0 :: u.drop k
theorem ins_mem {u : List Nat} {k : Nat} {P : Nat → Bool} (h0 : P 0 = true) : (insL k u).all P = u.all P := by
  unfold insL
  have h := List.take_append_drop k u
  have h2 : u.all P = ((u.take k).all P && (u.drop k).all P) := by rw [← List.all_append, h]
  rw [h2, List.all_append, List.all_cons, h0, Bool.true_and]
theorem ins_any {u : List Nat} {k : Nat} {P : Nat → Bool} (h0 : P 0 = false) : (insL k u).any P = u.any P := by
  unfold insL
  have h := List.take_append_drop k u
  have h2 : u.any P = ((u.take k).any P || (u.drop k).any P) := by rw [← List.any_append, h]
  rw [h2, List.any_append, List.any_cons, h0, Bool.false_or]
section
variable {u : List Nat} {k : Nat} (hk : k ≤ u.length)
include hk
theorem ins_len : (insL k u).length = u.length + 1 := by simp [insL]; omega
theorem ins_lt {i : Nat} (h : i < k) : (insL k u)[i]? = u[i]? := by
  unfold insL
  rw [List.getElem?_append_left (by simp; omega), List.getElem?_take_of_lt h]
theorem ins_eq : (insL k u)[k]? = some 0 := by
  unfold insL
  rw [List.getElem?_append_right (by simp; omega)]
  have : k - (u.take k).length = 0 := by simp; omega
  rw [this]; rfl
theorem ins_gt {i : Nat} (h : k ≤ i) : (insL k u)[i + 1]? = u[i]? := by
  unfold insL
  rw [List.getElem?_append_right (by simp; omega)]
  obtain ⟨j, hj⟩ : ∃ j, i + 1 - (u.take k).length = j + 1 := ⟨i - k, by simp; omega⟩
  rw [hj, List.getElem?_cons_succ, List.getElem?_drop]
  congr 1
  simp at hj
  omega
theorem ins_right (hr : rightW u = true) (hl : u.length ≤ 20) : rightW (insL k u) = true := by
  unfold rightW at *
  rw [ins_mem (by decide), ins_any (by decide), ins_len hk]
  simp only [Bool.and_eq_true, decide_eq_true_eq] at *
  exact ⟨hr.1, hr.2.1, by omega⟩
theorem ins_sum_le {i : Nat} (h : i ≤ k) : sumTo (insL k u) i = sumTo u i := by
  induction i with
  | zero => rfl
  | succ i ih =>
    have hx : u[i]? = some u[i] := List.getElem?_eq_getElem (by omega)
    rw [sumTo_succ hx, sumTo_succ (by rw [ins_lt hk (by omega)]; exact hx), ih (by omega)]
theorem ins_sum_gt {i : Nat} (h : k ≤ i) (hi : i ≤ u.length) : sumTo (insL k u) (i + 1) = sumTo u i := by
  induction i with
  | zero =>
    obtain rfl : k = 0 := by omega
    rw [sumTo_succ (ins_eq hk)]
    exact addF_zero (by rfl)
  | succ i ih =>
    rcases Nat.lt_or_eq_of_le h with h1 | h1
    · have hx : u[i]? = some u[i] := List.getElem?_eq_getElem (by omega)
      rw [sumTo_succ hx, sumTo_succ (by rw [ins_gt hk (by omega)]; exact hx), ih (by omega) (by omega)]
    · subst h1
      rw [sumTo_succ (ins_eq hk), ins_sum_le hk (Nat.le_refl _)]
      exact addF_zero (by rfl)
theorem ins_total : sumW (insL k u) = sumW u := by
  unfold sumW
  rw [ins_len hk]
  exact ins_sum_gt hk hk (Nat.le_refl _)
/-- The place behind the 0. -/
def shift (k n : Nat) : Nat := if k ≤ n then n + 1 else n
theorem ins_last {n : Nat} (hn : n ≤ u.length) (hp : ∃ j y, j < n ∧ u[j]? = some y ∧ posB y = true) : lastTo (insL k u) (shift k n) = shift k (lastTo u n) := by
  induction n with
  | zero => obtain ⟨j, y, hj, _⟩ := hp; omega
  | succ n ih =>
    have hx : u[n]? = some u[n] := List.getElem?_eq_getElem (by omega)
    have hstep : ∀ m, n = m → lastTo (insL k u) (shift k m + 1) = if posB u[n] = true then shift k m else lastTo (insL k u) (shift k m) := by
      intro m hm; subst hm
      refine lastTo_succ ?_
      unfold shift
      split
      · rw [ins_gt hk (by omega)]; exact hx
      · rw [ins_lt hk (by omega)]; exact hx
    have hz : lastTo (insL k u) (k + 1) = lastTo (insL k u) k := by rw [lastTo_succ (ins_eq hk), if_neg (by decide)]
    have hs : lastTo (insL k u) (shift k (n + 1)) = lastTo (insL k u) (shift k n + 1) := by
      unfold shift
      by_cases h1 : k ≤ n
      · rw [if_pos (by omega), if_pos h1]
      · rw [if_neg h1]
        by_cases h2 : k ≤ n + 1
        · rw [if_pos h2]
          have : n + 1 = k := by omega
          rw [this]; exact hz
        · rw [if_neg h2]
    rw [hs, hstep n rfl, lastTo_succ hx]
    by_cases hq : posB u[n] = true
    · rw [if_pos hq, if_pos hq]
    · rw [if_neg hq, if_neg hq]
      refine ih (by omega) ?_
      obtain ⟨j, y, hj, hy, hyp⟩ := hp
      rcases Nat.lt_or_eq_of_le (Nat.le_of_lt_succ hj) with h | h
      · exact ⟨j, y, h, hy, hyp⟩
      · subst h
        rw [hx] at hy
        obtain rfl := Option.some.inj hy
        exact absurd hyp hq
theorem ins_at (hr : rightW u = true) (n : Nat) : atW (insL k u) n = shift k (atW u n) := by
  unfold atW
  rw [ins_total hk]
  generalize drawX n (sumW u) = x
  cases h : firstGt u x with
  | some j =>
    obtain ⟨h1, h2, h3⟩ := firstGt_some h
    have hf : firstGt (insL k u) x = some (shift k j) := by
      unfold shift
      by_cases hkj : k ≤ j
      · rw [if_pos hkj]
        refine firstGt_hit (by rw [ins_len hk]; omega) (fun i hi => ?_) (by rw [ins_sum_gt hk (by omega) (by omega)]; exact h2)
        rcases Nat.lt_or_ge i k with g | g
        · rw [ins_sum_le hk (by omega)]; exact h3 i (by omega)
        · rw [ins_sum_gt hk g (by omega)]
          cases i with
          | zero => rw [sumTo_zero]; omega
          | succ i => exact h3 i (by omega)
      · rw [if_neg hkj]
        refine firstGt_hit (by rw [ins_len hk]; omega) (fun i hi => ?_) (by rw [ins_sum_le hk (by omega)]; exact h2)
        rw [ins_sum_le hk (by omega)]; exact h3 i hi
    rw [hf]; rfl
  | none =>
    have h3 := firstGt_none' h
    have hf : firstGt (insL k u) x = none := by
      refine firstGt_none (fun i hi => ?_)
      rw [ins_len hk] at hi
      rcases Nat.lt_or_ge i k with g | g
      · rw [ins_sum_le hk (by omega)]; exact h3 i (by omega)
      · rw [ins_sum_gt hk g (by omega)]
        cases i with
        | zero => rw [sumTo_zero]; omega
        | succ i => exact h3 i (by omega)
    rw [hf]
    simp only [Option.getD_none]
    rw [ins_len hk]
    have := ins_last hk (Nat.le_refl u.length) (Never.any_pos hr)
    rw [show shift k u.length = u.length + 1 from if_pos hk] at this
    exact this
theorem ins_pick (hr : rightW u = true) (hl : u.length ≤ 20) (d : Nat) : pickW (insL k u) d = (shift k (atW u (d / 2048)) : Int) := by
  unfold pickW
  rw [if_pos (ins_right hk hr hl), ins_at hk hr]
end
end Go.Proofs.Ytgoelobkehebjaa.Zeros
