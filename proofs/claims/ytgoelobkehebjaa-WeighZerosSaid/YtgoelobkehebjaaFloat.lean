/-
  Floats that are not below 0, as natural numbers: rounding is monotone, what is a float is rounded to itself, and a factor of a power of two goes ahead of the rounding.
-/
import Derived.Test.YtgoelobkehebjaaBase
import Derived.Laws.FloatArith
namespace Go.Proofs.Ytgoelobkehebjaa.Fl
open Ieee

/-! ### Whole numbers, rounded -/
/-- 'n / 2^d', to the nearest, ties to the even one. -/
def RN (n d : Nat) : Nat := n / 2 ^ d + (decide (2 ^ d < 2 * (n % 2 ^ d)) || (decide (2 ^ d = 2 * (n % 2 ^ d)) && decide (n / 2 ^ d % 2 = 1))).toNat

theorem cut_RN (neg : Bool) (n d : Nat) : Toward.even.cut neg n d = RN n d := by
  unfold Toward.cut RN
  simp only [Nat.shiftLeft_eq, Nat.one_mul]
  by_cases h : d ≤ n.log2 + 2
  · rw [Nat.min_eq_left h]
    rfl
  · have h2 : min d (n.log2 + 2) = n.log2 + 2 := by omega
    rw [h2]
    have hn : n < 2 ^ (n.log2 + 1) := Nat.lt_log2_self
    have hp : 2 ^ (n.log2 + 2) = 2 * 2 ^ (n.log2 + 1) := by rw [Nat.pow_succ]; omega
    have hd : 2 ^ (n.log2 + 2) ≤ 2 ^ d := Nat.pow_le_pow_right (by omega) (by omega)
    have e1 : n / 2 ^ (n.log2 + 2) = 0 := Nat.div_eq_of_lt (by omega)
    have e2 : n / 2 ^ d = 0 := Nat.div_eq_of_lt (by omega)
    have e3 : n % 2 ^ (n.log2 + 2) = n := Nat.mod_eq_of_lt (by omega)
    have e4 : n % 2 ^ d = n := Nat.mod_eq_of_lt (by omega)
    rw [e1, e2, e3, e4]
    have f1 : ¬ 2 ^ (n.log2 + 2) < 2 * n := by omega
    have f2 : ¬ 2 ^ d < 2 * n := by omega
    simp [f1, f2]

theorem RN_exact (q d : Nat) : RN (q * 2 ^ d) d = q := by
  unfold RN
  have h : 0 < 2 ^ d := Nat.two_pow_pos _
  rw [Nat.mul_div_cancel _ h, Nat.mul_mod_left]
  have : ¬ 2 ^ d < 2 * 0 := by omega
  have h2 : ¬ 2 ^ d = 2 * 0 := by omega
  simp [this]

theorem RN_le (n d : Nat) : RN n d ≤ n / 2 ^ d + 1 := by
  unfold RN
  have : ∀ b : Bool, b.toNat ≤ 1 := by decide
  have := this (decide (2 ^ d < 2 * (n % 2 ^ d)) || (decide (2 ^ d = 2 * (n % 2 ^ d)) && decide (n / 2 ^ d % 2 = 1)))
  omega
theorem RN_ge (n d : Nat) : n / 2 ^ d ≤ RN n d := by unfold RN; omega

theorem RN_mono {n m : Nat} (d : Nat) (h : n ≤ m) : RN n d ≤ RN m d := by
  have hq : n / 2 ^ d ≤ m / 2 ^ d := Nat.div_le_div_right h
  rcases Nat.lt_or_eq_of_le hq with h1 | h1
  · have := RN_le n d; have := RN_ge m d; omega
  · unfold RN
    rw [h1]
    have a1 := Nat.div_add_mod n (2 ^ d)
    have a2 := Nat.div_add_mod m (2 ^ d)
    rw [h1] at a1
    have hr : n % 2 ^ d ≤ m % 2 ^ d := by omega
    apply Nat.add_le_add_left
    generalize n % 2 ^ d = x at *
    generalize m % 2 ^ d = y at *
    generalize decide (m / 2 ^ d % 2 = 1) = o
    by_cases c1 : 2 ^ d < 2 * x
    · have c2 : 2 ^ d < 2 * y := by omega
      simp [c1, c2]
    · by_cases c3 : 2 ^ d = 2 * x
      · by_cases c4 : 2 ^ d < 2 * y
        · simp only [c4, decide_true, Bool.true_or]; cases o <;> simp [c1, c3] <;> decide
        · have c5 : 2 ^ d = 2 * y := by omega
          have c6 : x = y := by omega
          rw [c6]; exact Nat.le_refl _
      · simp [c3, c1]

theorem RN_scale (n d j : Nat) : RN (n * 2 ^ j) (d + j) = RN n d := by
  unfold RN
  have hj : 0 < 2 ^ j := Nat.two_pow_pos _
  rw [Nat.pow_add, Nat.mul_div_mul_right _ _ hj, Nat.mul_mod_mul_right]
  have e1 : (2 ^ d * 2 ^ j < 2 * (n % 2 ^ d * 2 ^ j)) ↔ (2 ^ d < 2 * (n % 2 ^ d)) := by
    rw [← Nat.mul_assoc]; exact Nat.mul_lt_mul_right hj
  have e2 : (2 ^ d * 2 ^ j = 2 * (n % 2 ^ d * 2 ^ j)) ↔ (2 ^ d = 2 * (n % 2 ^ d)) := by
    rw [← Nat.mul_assoc]; exact Nat.mul_left_inj (by omega)
  simp only [e1, e2]

/-! ### Rungs -/
/-- The drop of a number in units of which '2^c' are the least float. -/
def dropOf (m c : Nat) : Nat := max (m.log2 - 52) c
/-- The rung nearest to 'm' units of which '2^c' are the least float (without an end). -/
def R (m c : Nat) : Nat := (dropOf m c - c) * 2 ^ 52 + RN m (dropOf m c)

theorem log2_lt {m : Nat} : m < 2 ^ (m.log2 + 1) := Nat.lt_log2_self
theorem log2_mono {m n : Nat} (h : m ≤ n) : m.log2 ≤ n.log2 := by
  by_cases h0 : m = 0
  · subst h0; simp
  · exact (Nat.le_log2 (by omega)).2 (Nat.le_trans (Nat.log2_self_le h0) h)
theorem log2_mul {m : Nat} (h : m ≠ 0) (k : Nat) : (m * 2 ^ k).log2 = m.log2 + k := by
  have hk : 0 < 2 ^ k := Nat.two_pow_pos _
  have h0 : m * 2 ^ k ≠ 0 := Nat.mul_ne_zero h (by omega)
  apply Nat.le_antisymm
  · have h1 : m * 2 ^ k < 2 ^ (m.log2 + k + 1) := by
      have := Nat.mul_lt_mul_of_pos_right (@log2_lt m) hk
      rw [← Nat.pow_add] at this
      have e : m.log2 + 1 + k = m.log2 + k + 1 := by omega
      rw [e] at this; exact this
    have := (Nat.log2_lt h0).2 h1
    omega
  · refine (Nat.le_log2 h0).2 ?_
    rw [Nat.pow_add]
    exact Nat.mul_le_mul_right _ (Nat.log2_self_le h)

theorem R_zero (c : Nat) : R 0 c = 0 := by
  unfold R dropOf RN
  have : max (Nat.log2 0 - 52) c = c := by rw [show Nat.log2 0 = 0 from by simp]; omega
  rw [this]
  have h : 0 < 2 ^ c := Nat.two_pow_pos _
  have h2 : ¬ 2 ^ c = 0 := by omega
  simp

theorem R_mono {m n : Nat} (c : Nat) (h : m ≤ n) : R m c ≤ R n c := by
  have hl := log2_mono h
  unfold R
  have hd : dropOf m c ≤ dropOf n c := by unfold dropOf; omega
  have hc : c ≤ dropOf m c := by unfold dropOf; omega
  rcases Nat.lt_or_eq_of_le hd with h1 | h1
  · have hn : dropOf n c = n.log2 - 52 := by unfold dropOf at *; omega
    have hn52 : 52 < n.log2 + 1 := by unfold dropOf at *; omega
    have h0 : n ≠ 0 := by rintro rfl; simp at hn52
    have g1 : 2 ^ 52 ≤ RN n (dropOf n c) := by
      refine Nat.le_trans ?_ (RN_ge _ _)
      rw [Nat.le_div_iff_mul_le (Nat.two_pow_pos _), ← Nat.pow_add]
      refine Nat.le_trans (Nat.pow_le_pow_right (by omega) ?_) (Nat.log2_self_le h0)
      omega
    have g2 : RN m (dropOf m c) ≤ 2 ^ 53 := by
      have hm : m ≤ 2 ^ 53 * 2 ^ (dropOf m c) := by
        rw [← Nat.pow_add]
        refine Nat.le_trans (Nat.le_of_lt (@log2_lt m)) (Nat.pow_le_pow_right (by omega) ?_)
        unfold dropOf; omega
      have := RN_mono (dropOf m c) hm
      rw [RN_exact] at this
      exact this
    have e : dropOf n c - c = (dropOf m c - c) + 1 + (dropOf n c - dropOf m c - 1) := by omega
    rw [e, Nat.add_mul, Nat.add_mul]
    omega
  · rw [h1]
    exact Nat.add_le_add_left (RN_mono _ h) _

theorem R_scale (m c k : Nat) : R (m * 2 ^ k) (c + k) = R m c := by
  by_cases h : m = 0
  · subst h; simp [R_zero]
  · unfold R
    have e : dropOf (m * 2 ^ k) (c + k) = dropOf m c + k ∨ (m.log2 < 52) := by
      unfold dropOf; rw [log2_mul h]; omega
    rcases e with e | e
    · rw [e, RN_scale]; congr 2; omega
    · have e1 : dropOf (m * 2 ^ k) (c + k) = c + k := by unfold dropOf; rw [log2_mul h]; omega
      have e2 : dropOf m c = c := by unfold dropOf; omega
      rw [e1, e2, RN_scale]; congr 2; omega

/-- A factor of two: one binade. -/
theorem R_up {m c : Nat} (h : 52 + c ≤ m.log2) (k : Nat) : R (m * 2 ^ k) c = R m c + k * 2 ^ 52 := by
  have h0 : m ≠ 0 := by rintro rfl; simp at h
  unfold R
  have e1 : dropOf (m * 2 ^ k) c = dropOf m c + k := by unfold dropOf; rw [log2_mul h0]; omega
  rw [e1, RN_scale]
  have hc : c ≤ dropOf m c := by unfold dropOf; omega
  have e2 : dropOf m c + k - c = (dropOf m c - c) + k := by omega
  rw [e2, Nat.add_mul]
  omega

/-- What a rung stands for, in units of the least float. -/
def val (r : Nat) : Nat := if r < 2 ^ 52 then r else (2 ^ 52 + r % 2 ^ 52) * 2 ^ (r / 2 ^ 52 - 1)

theorem log2_norm (x e : Nat) (h : x < 2 ^ 52) : ((2 ^ 52 + x) * 2 ^ e).log2 = 52 + e := by
  rw [log2_mul (by omega)]
  congr 1
  exact Nat.le_antisymm (by have := (Nat.log2_lt (n := 2 ^ 52 + x) (k := 53) (by omega)).2 (by omega); omega) ((Nat.le_log2 (by omega)).2 (by omega))

theorem R_val (r : Nat) : R (val r) 0 = r := by
  unfold val
  by_cases h : r < 2 ^ 52
  · rw [if_pos h]
    unfold R
    have : dropOf r 0 = 0 := by
      unfold dropOf
      by_cases h0 : r = 0
      · subst h0; rfl
      · have := (Nat.log2_lt h0).2 h; omega
    rw [this]
    have := RN_exact r 0
    simp only [Nat.pow_zero, Nat.mul_one] at this
    rw [this]; omega
  · rw [if_neg h]
    have hm : r % 2 ^ 52 < 2 ^ 52 := Nat.mod_lt _ (by omega)
    have hdm := Nat.div_add_mod r (2 ^ 52)
    have hq : 1 ≤ r / 2 ^ 52 := by omega
    unfold R
    have e : dropOf ((2 ^ 52 + r % 2 ^ 52) * 2 ^ (r / 2 ^ 52 - 1)) 0 = r / 2 ^ 52 - 1 := by
      unfold dropOf; rw [log2_norm _ _ hm]; omega
    rw [e, RN_exact]
    omega

theorem val_zero : val 0 = 0 := rfl
theorem val_lt_iff {r s : Nat} : val r < val s ↔ r < s := by
  constructor
  · intro h
    apply Classical.byContradiction
    intro h2
    have hs : s ≤ r := by omega
    have : ¬ val r < val s := by
      intro h3
      have h4 := R_mono 0 (Nat.le_of_lt h3)
      rw [R_val, R_val] at h4
      have : r = s := by omega
      subst this; omega
    exact this h
  · intro h
    apply Classical.byContradiction
    intro h2
    have h3 := R_mono 0 (show val s ≤ val r by omega)
    rw [R_val, R_val] at h3
    omega
theorem val_inj {r s : Nat} (h : val r = val s) : r = s := by
  rw [← R_val r, h, R_val]
theorem val_le_iff {r s : Nat} : val r ≤ val s ↔ r ≤ s := by
  have := @val_lt_iff s r; omega
theorem val_pos {r : Nat} (h : 0 < r) : 0 < val r := by have := (@val_lt_iff 0 r).2 h; rw [val_zero] at this; exact this

/-- What is a float is rounded to itself. -/
theorem val_R {q e : Nat} (hq : q < 2 ^ 53) : val (R (q * 2 ^ e) 0) = q * 2 ^ e := by
  by_cases h0 : q = 0
  · subst h0; simp [R_zero, val_zero]
  · have hl : q.log2 ≤ 52 := by have := (Nat.log2_lt h0).2 hq; omega
    by_cases hs : (q * 2 ^ e).log2 < 52
    · have hlt : q * 2 ^ e < 2 ^ 52 := (Nat.log2_lt (Nat.mul_ne_zero h0 (by have := Nat.two_pow_pos e; omega))).1 hs
      have : val (q * 2 ^ e) = q * 2 ^ e := by unfold val; rw [if_pos hlt]
      have h3 := R_val (q * 2 ^ e)
      rw [this] at h3; rw [h3]; exact this
    · rw [log2_mul h0] at hs
      -- shift the factor to 53 digits
      obtain ⟨j, hj⟩ : ∃ j, q.log2 + j = 52 := ⟨52 - q.log2, by omega⟩
      have hje : j ≤ e := by omega
      have e1 : q * 2 ^ e = (q * 2 ^ j) * 2 ^ (e - j) := by
        rw [Nat.mul_assoc, ← Nat.pow_add]; congr 2; omega
      have h52 : 2 ^ 52 ≤ q * 2 ^ j := by
        have : (q * 2 ^ j).log2 = 52 := by rw [log2_mul h0]; omega
        have h9 := Nat.log2_self_le (n := q * 2 ^ j) (Nat.mul_ne_zero h0 (by have := Nat.two_pow_pos j; omega))
        rw [this] at h9; exact h9
      have h53 : q * 2 ^ j < 2 ^ 53 := by
        have : (q * 2 ^ j).log2 = 52 := by rw [log2_mul h0]; omega
        have h9 := @log2_lt (q * 2 ^ j)
        rw [this] at h9; exact h9
      rw [e1]
      generalize q * 2 ^ j = y at *
      generalize e - j = d at *
      have hx : (2 ^ 52 + (y - 2 ^ 52)) = y := by omega
      have hv : val ((d + 1) * 2 ^ 52 + (y - 2 ^ 52)) = y * 2 ^ d := by
        unfold val
        rw [if_neg (by omega)]
        have h1 : ((d + 1) * 2 ^ 52 + (y - 2 ^ 52)) % 2 ^ 52 = y - 2 ^ 52 := by
          rw [Nat.add_comm, Nat.add_mul_mod_self_right]; exact Nat.mod_eq_of_lt (by omega)
        have h2 : ((d + 1) * 2 ^ 52 + (y - 2 ^ 52)) / 2 ^ 52 = d + 1 := by
          rw [Nat.add_comm, Nat.add_mul_div_right _ _ (by omega), Nat.div_eq_of_lt (by omega)]; omega
        rw [h1, h2, hx]; rfl
      rw [← hv, R_val]
end Go.Proofs.Ytgoelobkehebjaa.Fl
