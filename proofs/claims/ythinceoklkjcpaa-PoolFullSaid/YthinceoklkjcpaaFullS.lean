/-
  PoolFull, plain: takes go round by round.
-/
import Derived.Test.YthinceoklkjcpaaPoolS
namespace Go.Proofs.Ythinceoklkjcpaa.Full
open Go.Proofs.Ythinceoklkjcpaa.Pool

/-- N connections with the ids 0, 1, .., their slots and how many of these are used. -/
def pc (N : Nat) (ns us : Nat → Int) : List Cn := (List.range N).map fun (i : Nat) => (⟨(i : Int), ns i, us i, false⟩ : Cn)
def up (us : Nat → Int) (j : Nat) : Nat → Int := fun i => if i = j then us i + 1 else us i
theorem pc_len (N : Nat) (ns us : Nat → Int) : (pc N ns us).length = N := by simp [pc]
theorem pc_get {N : Nat} {ns us : Nat → Int} {i : Nat} (h : i < N) : (pc N ns us)[i]? = some ⟨i, ns i, us i, false⟩ := by simp [pc, h]
theorem pc_get' {N : Nat} {ns us : Nat → Int} {i : Nat} {c : Cn} (h : (pc N ns us)[i]? = some c) : i < N ∧ c = ⟨i, ns i, us i, false⟩ := by
  have hi : i < N := by have := (List.getElem?_eq_some_iff.1 h).1; rwa [pc_len] at this
  rw [pc_get hi] at h
  exact ⟨hi, (Option.some.inj h).symm⟩
theorem pc_succ (N : Nat) (ns us : Nat → Int) : pc (N + 1) ns us = pc N ns us ++ [⟨N, ns N, us N, false⟩] := by simp [pc, List.range_succ]
theorem pc_set {N : Nat} {ns us : Nat → Int} {j : Nat} (h : j < N) : (pc N ns us).set j ⟨j, ns j, us j + 1, false⟩ = pc N ns (up us j) := by
  apply List.ext_getElem?
  intro i
  by_cases hi : i < N
  · by_cases hj : j = i
    · subst hj; rw [List.getElem?_set_self (by rw [pc_len]; exact h), pc_get hi]; simp [up]
    · rw [List.getElem?_set_ne hj, pc_get hi, pc_get hi]; simp [up, Ne.symm hj]
  · rw [List.getElem?_eq_none (by simp [pc_len]; omega), List.getElem?_eq_none (by simp [pc_len]; omega)]
theorem pc_first {N : Nat} {ns us : Nat → Int} {j : Nat} (h : j < N) : First (pc N ns us) (j : Int) j ⟨j, ns j, us j, false⟩ := by
  refine ⟨pc_get h, rfl, fun i d hi hd => ?_⟩
  obtain ⟨_, rfl⟩ := pc_get' hd
  simp; omega
theorem pc_new (N : Nat) (ns us : Nat → Int) : None' (pc N ns us) (N : Int) := by
  intro c hc
  obtain ⟨i, hi⟩ := List.getElem?_of_mem hc
  obtain ⟨h1, rfl⟩ := pc_get' hi
  simp; omega

def sm (f : Nat → Int) : Nat → Int
  | 0 => 0
  | n + 1 => sm f n + f n
theorem sm_up_ge (f : Nat → Int) (j : Nat) : ∀ n, n ≤ j → sm (up f j) n = sm f n
  | 0, _ => rfl
  | n + 1, h => by simp only [sm]; rw [sm_up_ge f j n (by omega)]; simp [up]; omega
theorem sm_up (f : Nat → Int) (j : Nat) : ∀ n, j < n → sm (up f j) n = sm f n + 1
  | 0, h => by omega
  | n + 1, h => by
    simp only [sm]
    by_cases hj : j = n
    · subst hj; rw [sm_up_ge f j j (Nat.le_refl _)]; simp [up]; omega
    · rw [sm_up f j n (by omega)]; simp [up, show ¬ n = j from fun h => hj h.symm]; omega
theorem sm_some (f g : Nat → Int) : ∀ n, sm f n < sm g n → ∃ i, i < n ∧ f i < g i
  | 0, h => by simp [sm] at h
  | n + 1, h => by
    simp only [sm] at h
    by_cases hn : f n < g n
    · exact ⟨n, by omega, hn⟩
    · obtain ⟨i, hi, hf⟩ := sm_some f g n (by omega)
      exact ⟨i, by omega, hf⟩
theorem sm_le (f g : Nat → Int) : ∀ n, (∀ i, i < n → f i ≤ g i) → sm f n ≤ sm g n
  | 0, _ => Int.le_refl _
  | n + 1, h => by simp only [sm]; have := sm_le f g n (fun i hi => h i (by omega)); have := h n (by omega); omega
theorem sm_eq (f g : Nat → Int) : ∀ n, (∀ i, i < n → f i ≤ g i) → sm f n = sm g n → ∀ i, i < n → f i = g i
  | 0, _, _, i, hi => by omega
  | n + 1, h, he, i, hi => by
    simp only [sm] at he
    have h1 := sm_le f g n (fun i hi => h i (by omega))
    have h2 := h n (by omega)
    by_cases hin : i = n
    · subst hin; omega
    · exact sm_eq f g n (fun i hi => h i (by omega)) (by omega) i (by omega)
theorem sm_bd (f : Nat → Int) (M : Int) : ∀ n, (∀ i, i < n → 0 ≤ f i ∧ f i ≤ M) → 0 ≤ sm f n ∧ sm f n ≤ n * M
  | 0, _ => by simp [sm]
  | n + 1, h => by
    simp only [sm]
    have h1 := sm_bd f M n (fun i hi => h i (by omega))
    have h2 := h n (by omega)
    have h3 : ((n + 1 : Nat) : Int) * M = n * M + M := by rw [Int.natCast_add, Int.add_mul]; simp
    omega

/-- What holds at the head of each round of takes. -/
def Inv (N : Nat) (ns us : Nat → Int) (round last : Int) : Prop :=
  ∀ i : Nat, i < N → us i = if (i : Int) ≤ last then min (ns i) round else min (ns i) (max (round - 1) 0)

theorem inv_le {N : Nat} {ns us : Nat → Int} {round last : Int} (h : Inv N ns us round last) (i : Nat) (hi : i < N) : us i ≤ ns i := by
  have := h i hi; split at this <;> omega
theorem inv_nn {N : Nat} {ns us : Nat → Int} {round last : Int} (h : Inv N ns us round last) (hns : ∀ i, i < N → 0 ≤ ns i) (hr : 0 ≤ round) (i : Nat) (hi : i < N) : 0 ≤ us i := by
  have h1 := h i hi; have h2 := hns i hi; split at h1 <;> omega

theorem inv_step {N : Nat} {ns us : Nat → Int} {round last : Int} {j : Nat} (h : Inv N ns us round last) (hns : ∀ i, i < N → 0 ≤ ns i) (hr : 0 ≤ round)
    (hj : bestK (pc N ns us) N = some j) :
    j < N ∧ us j < ns j ∧ ((us j + 1 = round ∧ last < (j : Int) ∧ Inv N ns (up us j) round j) ∨ (us j + 1 ≠ round ∧ us j + 1 = round + 1 ∧ Inv N ns (up us j) (round + 1) j)) := by
  obtain ⟨h1, c, h2, h3, h4, h5⟩ := bestK_some hj
  obtain ⟨hjN, rfl⟩ := pc_get' h2
  have hok : us j < ns j := by simpa [okB] using h3
  have hmin : ∀ i, i < N → us i < ns i → us j ≤ us i := fun i hi ho => h4 i _ hi (pc_get hi) (by simpa [okB] using ho)
  have hfst : ∀ i, i < j → us i < ns i → us j < us i := fun i hi ho => h5 i _ hi (pc_get (by omega)) (by simpa [okB] using ho)
  have hj' := h j hjN
  have hnj := hns j hjN
  refine ⟨hjN, hok, ?_⟩
  by_cases hc : us j + 1 = round
  · refine Or.inl ⟨hc, by split at hj' <;> omega, fun i hi => ?_⟩
    have hi' := h i hi
    have hni := hns i hi
    have hl : last < (j : Int) := by split at hj' <;> omega
    by_cases hij : i = j
    · subst hij; simp only [up, if_true]; rw [if_pos (Int.le_refl _)]; omega
    · simp only [up, if_neg hij]
      rcases Nat.lt_or_ge i j with hlt | hge
      · rw [if_pos (by omega)]
        by_cases ho : us i < ns i
        · have := hfst i hlt ho; split at hi' <;> omega
        · split at hi' <;> omega
      · rw [if_neg (by omega)]
        rw [if_neg (by omega)] at hi'
        exact hi'
  · have hrd : us j = round := by split at hj' <;> omega
    refine Or.inr ⟨hc, by omega, fun i hi => ?_⟩
    have hi' := h i hi
    have hni := hns i hi
    by_cases hij : i = j
    · subst hij; simp only [up, if_true]; rw [if_pos (Int.le_refl _)]; omega
    · simp only [up, if_neg hij]
      rcases Nat.lt_or_ge i j with hlt | hge
      · rw [if_pos (by omega)]
        by_cases ho : us i < ns i
        · have := hfst i hlt ho; split at hi' <;> omega
        · split at hi' <;> omega
      · rw [if_neg (by omega)]
        by_cases ho : us i < ns i
        · have := hmin i hi ho; split at hi' <;> omega
        · split at hi' <;> omega
theorem best_ex {N : Nat} {ns us : Nat → Int} (h : sm us N < sm ns N) : ∃ j, bestK (pc N ns us) N = some j := by
  obtain ⟨i, hi, hlt⟩ := sm_some us ns N h
  cases hb : bestK (pc N ns us) N with
  | some j => exact ⟨j, rfl⟩
  | none => exact absurd (bestK_none hb i _ hi (pc_get hi)) (by simp [okB, hlt])
theorem best_no {N : Nat} {ns us : Nat → Int} (hle : ∀ i, i < N → us i ≤ ns i) (h : sm us N = sm ns N) : bestK (pc N ns us) N = none := by
  cases hb : bestK (pc N ns us) N with
  | none => rfl
  | some j =>
    obtain ⟨h1, c, h2, h3, _, _⟩ := bestK_some hb
    obtain ⟨hj, rfl⟩ := pc_get' h2
    have := sm_eq us ns N hle h j hj
    simp [okB] at h3
    omega
end Go.Proofs.Ythinceoklkjcpaa.Full
