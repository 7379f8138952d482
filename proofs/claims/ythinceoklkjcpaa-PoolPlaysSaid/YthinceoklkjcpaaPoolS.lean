/-
  Pools, plain: which connection Take takes.
-/
import Derived.Test.YthinceoklkjcpaaPool
namespace Go.Proofs.Ythinceoklkjcpaa.Pool

def okB (c : Cn) : Bool := !c.drains && decide (c.used < c.slots)
def better (cs : List Cn) (b : Option Nat) (c : Cn) : Bool := match b with | none => true | some j => decide (c.used < ((cs[j]?).getD default).used)
/-- The place of the first of those with the fewest used, among the first k that may be taken. -/
def bestK (cs : List Cn) : Nat → Option Nat
  | 0 => none
  | k + 1 => match cs[k]? with
    | none => bestK cs k
    | some c => if okB c && better cs (bestK cs k) c then some k else bestK cs k

theorem bestK_some {cs : List Cn} : ∀ {k j : Nat}, bestK cs k = some j → j < k ∧ ∃ c, cs[j]? = some c ∧ okB c = true ∧
    (∀ i d, i < k → cs[i]? = some d → okB d = true → c.used ≤ d.used) ∧ (∀ i d, i < j → cs[i]? = some d → okB d = true → c.used < d.used)
  | 0, j, h => by simp [bestK] at h
  | k + 1, j, h => by
    unfold bestK at h
    cases hk : cs[k]? with
    | none =>
      simp only [hk] at h
      obtain ⟨h1, c, h2, h3, h4, h5⟩ := bestK_some h
      refine ⟨by omega, c, h2, h3, fun i d hi hd => ?_, h5⟩
      rcases Nat.lt_or_ge i k with h' | h'
      · exact h4 i d h' hd
      · have : i = k := by omega
        subst this; rw [hk] at hd; cases hd
    | some e =>
      simp only [hk] at h
      by_cases hb : okB e && better cs (bestK cs k) e
      · rw [if_pos hb] at h
        obtain rfl := Option.some.inj h
        simp only [Bool.and_eq_true] at hb
        refine ⟨by omega, e, hk, hb.1, ?_⟩
        have key : ∀ i d, i < k → cs[i]? = some d → okB d = true → e.used < d.used := by
          intro i d hi hd ho
          cases hq : bestK cs k with
          | none => exact absurd ho (by simp [bestK_none hq i d hi hd])
          | some j' =>
            obtain ⟨h1, c, h2, h3, h4, h5⟩ := bestK_some hq
            have h6 := h4 i d hi hd ho
            have h7 : e.used < c.used := by have := hb.2; rw [hq] at this; simpa [better, h2] using this
            omega
        refine ⟨fun i d hi hd ho => ?_, fun i d hi hd ho => key i d hi hd ho⟩
        rcases Nat.lt_or_ge i k with h' | h'
        · have := key i d h' hd ho; omega
        · have : i = k := by omega
          subst this; rw [hk] at hd; obtain rfl := Option.some.inj hd; exact Int.le_refl _
      · rw [if_neg hb] at h
        obtain ⟨h1, c, h2, h3, h4, h5⟩ := bestK_some h
        refine ⟨by omega, c, h2, h3, fun i d hi hd ho => ?_, h5⟩
        rcases Nat.lt_or_ge i k with h' | h'
        · exact h4 i d h' hd ho
        · have : i = k := by omega
          subst this; rw [hk] at hd; obtain rfl := Option.some.inj hd
          rw [h] at hb
          simp only [Bool.and_eq_true, not_and, ho, better, h2, Option.getD_some, decide_eq_true_eq, true_imp_iff] at hb
          omega
where
  bestK_none {cs : List Cn} : ∀ {k : Nat}, bestK cs k = none → ∀ i d, i < k → cs[i]? = some d → okB d = false
  | 0, _, i, d, hi, _ => by omega
  | k + 1, h, i, d, hi, hd => by
    unfold bestK at h
    cases hk : cs[k]? with
    | none =>
      simp only [hk] at h
      rcases Nat.lt_or_ge i k with h' | h'
      · exact bestK_none h i d h' hd
      · have : i = k := by omega
        subst this; rw [hk] at hd; cases hd
    | some e =>
      simp only [hk] at h
      by_cases hb : okB e && better cs (bestK cs k) e
      · rw [if_pos hb] at h; cases h
      · rw [if_neg hb] at h
        rcases Nat.lt_or_ge i k with h' | h'
        · exact bestK_none h i d h' hd
        · have : i = k := by omega
          subst this; rw [hk] at hd; obtain rfl := Option.some.inj hd
          rw [h] at hb
          simpa [better] using hb
theorem bestK_none {cs : List Cn} {k : Nat} (h : bestK cs k = none) : ∀ i d, i < k → cs[i]? = some d → okB d = false := bestK_some.bestK_none h
end Go.Proofs.Ythinceoklkjcpaa.Pool
