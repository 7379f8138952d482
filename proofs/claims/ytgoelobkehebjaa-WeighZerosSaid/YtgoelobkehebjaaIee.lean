/-
  The float operations of the program on numbers that are not below 0, told as rungs.
-/
import Derived.Test.YtgoelobkehebjaaFloat
namespace Go.Proofs.Ytgoelobkehebjaa.Fl
open Ieee

/-- Exponents, by name: the numbers are too great to be written out. -/
def E21 : Nat := 1021
def E74 : Nat := 1074
def E104 : Nat := 1104
theorem pow_split {e a b : Nat} (h : e = a + b) : (2 : Nat) ^ e = 2 ^ a * 2 ^ b := by subst h; exact Nat.pow_add 2 a b
theorem sw : Ieee.double.signWeight = 2 ^ 63 := rfl
theorem bn : Ieee.double.binade = 2 ^ 52 := rfl
theorem lp : Ieee.double.leastPlace = -1074 := rfl
theorem ir : Ieee.double.infRung = 2047 * 2 ^ 52 := rfl
theorem fb : Ieee.double.fractionBits = 52 := rfl
/-- The rung of infinity. -/
def INF : Nat := 2047 * 2 ^ 52
/-- 10^9. -/
def G : Nat := 4741671816366391296

theorem nearest_R (neg : Bool) (m : Nat) (p : Int) (c k : Nat) (h : p + 1074 + c = k) : Ieee.double.nearest neg m p = Ieee.double.word neg (min (R (m * 2 ^ k) c) INF) := by
  unfold Format.nearest
  by_cases h0 : m = 0
  · subst h0
    simp [R_zero]
  · rw [if_neg h0]
    simp only [lp, bn, ir, fb, cut_RN]
    refine congrArg (double.word neg) ?_
    have hl := log2_mul h0 k
    obtain ⟨D, hD⟩ : ∃ D, D = dropOf (m * 2 ^ k) c := ⟨_, rfl⟩
    have hlast : max (p + (m.log2 : Int) - (52 : Nat)) (-1074) = -1074 - (c : Int) + D := by
      rw [hD]; unfold dropOf; rw [hl]; omega
    rw [hlast]
    have hcD : c ≤ D := by rw [hD]; unfold dropOf; omega
    have e1 : (-1074 - (c : Int) + D - (-1074)).toNat = D - c := by omega
    have e2 : RN (m <<< (p - (-1074 - (c : Int) + D)).toNat) ((-1074 - (c : Int) + D) - p).toNat = RN (m * 2 ^ k) D := by
      rw [Nat.shiftLeft_eq]
      by_cases hk : k ≤ D
      · have f1 : (p - (-1074 - (c : Int) + D)).toNat = 0 := by omega
        have f2 : ((-1074 - (c : Int) + D) - p).toNat = D - k := by omega
        rw [f1, f2]
        have := RN_scale m (D - k) k
        rw [show D - k + k = D by omega] at this
        rw [this]; simp
      · have f1 : (p - (-1074 - (c : Int) + D)).toNat = k - D := by omega
        have f2 : ((-1074 - (c : Int) + D) - p).toNat = 0 := by omega
        rw [f1, f2]
        have := RN_scale (m * 2 ^ (k - D)) 0 D
        rw [Nat.mul_assoc, ← Nat.pow_add, show k - D + D = k by omega, Nat.zero_add] at this
        rw [this]
    rw [e1, e2]
    unfold R INF
    rw [← hD]

theorem read_fin {x : Nat} (h : x < INF) : ∃ (m : Nat) (p : Int) (k : Nat), Ieee.double.read x = .number false m p ∧ p + 1074 = k ∧ m * 2 ^ k = val x ∧ m < 2 ^ 53 := by
  unfold INF at h
  have e1 : x / 2 ^ 63 % 2 = 0 := by rw [Nat.div_eq_of_lt (by omega)]
  have e2 : x % 2 ^ 63 = x := Nat.mod_eq_of_lt (by omega)
  unfold Format.read
  simp only [sw, bn, lp, ir, e1, e2]
  by_cases hb : x < 2 ^ 52
  · rw [if_pos hb]
    refine ⟨_, _, 0, rfl, by omega, ?_, by omega⟩
    unfold val; rw [if_pos hb]; omega
  · rw [if_neg hb, if_pos (by omega)]
    have hm : x % 2 ^ 52 < 2 ^ 52 := Nat.mod_lt _ (by omega)
    refine ⟨_, _, x / 2 ^ 52 - 1, rfl, by omega, ?_, by omega⟩
    unfold val; rw [if_neg hb]

theorem read_negzero : Ieee.double.read (2 ^ 63) = .number true 0 (-1074) := by rfl

theorem cmp_int {A B t a b : Nat} (ha : A * 2 ^ t = a) (hb : B * 2 ^ t = b) : compare (A : Int) (B : Int) = compare a b := by
  have ht : 0 < 2 ^ t := Nat.two_pow_pos _
  subst ha hb
  rcases Nat.lt_trichotomy A B with h | h | h
  · rw [Int.compare_eq_lt.2 (by omega), Nat.compare_eq_lt.2 ((Nat.mul_lt_mul_right ht).2 h)]
  · subst h; simp
  · rw [Int.compare_eq_gt.2 (by omega), Nat.compare_eq_gt.2 ((Nat.mul_lt_mul_right ht).2 h)]

theorem order_fin {x y : Nat} (hx : x < INF) (hy : y < INF) : Ieee.double.order x y = some (compare x y) := by
  obtain ⟨m, p, k, h1, h2, h3, _⟩ := read_fin hx
  obtain ⟨n, q, l, g1, g2, g3, _⟩ := read_fin hy
  unfold Format.order
  rw [h1, g1]
  simp only [Datum.order, signed]
  congr 1
  simp only [Bool.false_eq_true, if_false, Nat.shiftLeft_eq]
  have e1 : (p - min p q).toNat = k - min k l := by omega
  have e2 : (q - min p q).toNat = l - min k l := by omega
  have ha : (m * 2 ^ (k - min k l)) * 2 ^ (min k l) = val x := by rw [Nat.mul_assoc, ← Nat.pow_add, ← h3]; congr 2; omega
  have hb : (n * 2 ^ (l - min k l)) * 2 ^ (min k l) = val y := by rw [Nat.mul_assoc, ← Nat.pow_add, ← g3]; congr 2; omega
  rw [e1, e2]
  have := cmp_int ha hb
  rw [this]
  rcases Nat.lt_trichotomy x y with h | h | h
  · rw [Nat.compare_eq_lt.2 h, Nat.compare_eq_lt.2 (val_lt_iff.2 h)]
  · subst h; simp
  · rw [Nat.compare_eq_gt.2 h, Nat.compare_eq_gt.2 (val_lt_iff.2 h)]

/-! ### A weight -/
/-- A weight that is one: from 0 to 10^9, or -0. -/
def okB (x : Nat) : Bool := decide (x ≤ G) || decide (x = 2 ^ 63)
def posB (x : Nat) : Bool := decide (0 < x) && decide (x ≠ 2 ^ 63)
/-- What it stands for. -/
def wv (x : Nat) : Nat := if x = 2 ^ 63 then 0 else val x

theorem read_neg {x : Nat} (h : 2 ^ 63 ≤ x) (hw : x < 2 ^ 64) : (∃ m p, Ieee.double.read x = .number true m p ∧ (m = 0 ↔ x = 2 ^ 63)) ∨ Ieee.double.read x = .infinity true ∨ ∃ t, Ieee.double.read x = .nan true t := by
  have e1 : x / 2 ^ 63 % 2 = 1 := by
    have : x / 2 ^ 63 = 1 := by omega
    rw [this]
  obtain ⟨r, hr⟩ : ∃ r, r = x % 2 ^ 63 := ⟨_, rfl⟩
  have hr2 : x = 2 ^ 63 + r := by omega
  unfold Format.read
  simp only [sw, bn, lp, ir, e1, ← hr]
  by_cases h1 : r < 2 ^ 52
  · rw [if_pos h1]; exact .inl ⟨_, _, rfl, by omega⟩
  · rw [if_neg h1]
    by_cases h2 : r < 2047 * 2 ^ 52
    · rw [if_pos h2]; exact .inl ⟨_, _, rfl, by omega⟩
    · rw [if_neg h2]
      by_cases h3 : r = 2047 * 2 ^ 52
      · rw [if_pos h3]; exact .inr (.inl rfl)
      · rw [if_neg h3]; exact .inr (.inr ⟨_, rfl⟩)
theorem read_inf : Ieee.double.read INF = .infinity false := by rfl
theorem read_nan {x : Nat} (h : INF < x) (h2 : x < 2 ^ 63) : ∃ t, Ieee.double.read x = .nan false t := by
  unfold INF at h
  have e1 : x / 2 ^ 63 % 2 = 0 := by rw [Nat.div_eq_of_lt h2]
  have e2 : x % 2 ^ 63 = x := Nat.mod_eq_of_lt h2
  unfold Format.read
  simp only [sw, bn, lp, ir, e1, e2]
  rw [if_neg (by omega), if_neg (by omega), if_neg (by omega)]
  exact ⟨_, rfl⟩

theorem read_zero : Ieee.double.read 0 = .number false 0 (-1074) := by rfl
theorem read_G : Ieee.double.read G = .number false 8388608000000000 (-23) := by rfl

theorem signed_neg_lt {m : Nat} (k : Nat) (h : m ≠ 0) : signed true m k < 0 := by
  unfold signed
  simp only [if_true, Nat.shiftLeft_eq]
  have : 0 < m * 2 ^ k := Nat.mul_pos (by omega) (Nat.two_pow_pos _)
  omega
theorem signed_zero (s : Bool) (k : Nat) : signed s 0 k = 0 := by unfold signed; cases s <;> simp

/-- A weight: what the comparisons say of it. -/
theorem facts {x : Nat} (hx : x < 2 ^ 64) :
    (okB x = true ∧ Ieee.double.order x x = some .eq ∧ (posB x = true ∧ Ieee.double.order x 0 = some .gt ∨ posB x = false ∧ Ieee.double.order x 0 = some .eq) ∧ (Ieee.double.order x G = some .lt ∨ Ieee.double.order x G = some .eq)) ∨
    (okB x = false ∧ ((Ieee.double.order x x = none ∧ Ieee.double.order x 0 = none ∧ Ieee.double.order x G = none) ∨ (Ieee.double.order x x = some .eq ∧ Ieee.double.order x 0 = some .lt ∧ Ieee.double.order x G = some .lt) ∨ (Ieee.double.order x x = some .eq ∧ Ieee.double.order x 0 = some .gt ∧ Ieee.double.order x G = some .gt))) := by
  have hG : G < INF := by decide
  have h0 : 0 < INF := by decide
  have hG63 : G < 2 ^ 63 := by decide
  have hI63 : INF < 2 ^ 63 := by decide
  by_cases h1 : x < INF
  · rw [order_fin h1 h1, order_fin h1 h0, order_fin h1 hG]
    by_cases h2 : x ≤ G
    · refine .inl ⟨by unfold okB; simp [h2], by simp, ?_, ?_⟩
      · by_cases hz : 0 < x
        · exact .inl ⟨by unfold posB; simp [hz]; omega, by rw [Nat.compare_eq_gt.2 hz]⟩
        · have : x = 0 := by omega
          subst this; exact .inr ⟨rfl, rfl⟩
      · rcases Nat.lt_or_eq_of_le h2 with h | h
        · exact .inl (by rw [Nat.compare_eq_lt.2 h])
        · exact .inr (by rw [h]; simp)
    · refine .inr ⟨by unfold okB; simp; omega, .inr (.inr ⟨by simp, ?_, ?_⟩)⟩
      · rw [Nat.compare_eq_gt.2 (by omega)]
      · rw [Nat.compare_eq_gt.2 (by omega)]
  · by_cases h2 : x = INF
    · subst h2
      refine .inr ⟨by decide, .inr (.inr ⟨?_, ?_, ?_⟩)⟩ <;> unfold Format.order
      · rw [read_inf]; rfl
      · rw [read_inf, read_zero]; rfl
      · rw [read_inf, read_G]; rfl
    · by_cases h3 : x < 2 ^ 63
      · obtain ⟨t, ht⟩ := read_nan (by omega) h3
        refine .inr ⟨by unfold okB; simp; omega, .inl ?_⟩
        unfold Format.order
        rw [ht]
        exact ⟨rfl, rfl, rfl⟩
      · rcases read_neg (by omega) hx with ⟨m, p, hr, hm⟩ | hr | ⟨t, hr⟩
        · by_cases hm0 : m = 0
          · have hx3 := hm.1 hm0
            subst hx3
            exact .inl ⟨by decide, by rfl, .inr ⟨by decide, by rfl⟩, .inl (by rfl)⟩
          · have hne : x ≠ 2 ^ 63 := fun h => hm0 (hm.2 h)
            refine .inr ⟨by unfold okB; simp; omega, .inr (.inl ?_)⟩
            unfold Format.order
            rw [hr, read_zero, read_G]
            refine ⟨by simp [Datum.order], ?_, ?_⟩
            · simp only [Datum.order, signed_zero]
              rw [Int.compare_eq_lt.2 (signed_neg_lt _ hm0)]
            · simp only [Datum.order]
              have h9 : (0 : Int) ≤ signed false 8388608000000000 (-23 - min p (-23)).toNat := by unfold signed; rw [if_neg (by decide)]; exact Int.natCast_nonneg _
              rw [Int.compare_eq_lt.2 (Int.lt_of_lt_of_le (signed_neg_lt _ hm0) h9)]
        · have hne : x ≠ 2 ^ 63 := by rintro rfl; rw [read_negzero] at hr; cases hr
          refine .inr ⟨by unfold okB; simp; omega, .inr (.inl ?_)⟩
          unfold Format.order
          rw [hr, read_zero, read_G]
          exact ⟨rfl, rfl, rfl⟩
        · have hne : x ≠ 2 ^ 63 := by rintro rfl; rw [read_negzero] at hr; cases hr
          refine .inr ⟨by unfold okB; simp; omega, .inl ?_⟩
          unfold Format.order
          rw [hr]
          exact ⟨rfl, rfl, rfl⟩

/-! ### Sums -/
/-- A sum. -/
def addF (s x : Nat) : Nat := R (val s + wv x) 0

theorem word_false (r : Nat) : Ieee.double.word false r = r := rfl
theorem val_INF {c : Nat} (hc : c = INF / 2 ^ 52 - 1) : val INF = 2 ^ 52 * 2 ^ c := by
  subst hc
  unfold val
  rw [if_neg (by decide), show INF % 2 ^ 52 = 0 from by decide]
theorem lt_INF {r e : Nat} (h : val r ≤ 2 ^ e) (he : e < 2098) : r < INF := by
  obtain ⟨c, hc, hb⟩ : ∃ c, c = INF / 2 ^ 52 - 1 ∧ e < 52 + c := ⟨_, rfl, by have : INF / 2 ^ 52 - 1 = 2046 := (by decide); omega⟩
  rw [← val_lt_iff, val_INF hc, ← Nat.pow_add]
  exact Nat.lt_of_le_of_lt h (Nat.pow_lt_pow_right (by omega) (by omega))
theorem val_R_le {m e : Nat} (h : m ≤ 2 ^ e) : val (R m 0) ≤ 2 ^ e := by
  have h1 := R_mono 0 h
  have h2 := @val_R 1 e (by omega)
  rw [Nat.one_mul] at h2
  have h3 := val_le_iff.2 h1
  rw [h2] at h3; exact h3

theorem add_fin {s x : Nat} (hs : s < INF) (hx : okB x = true) : Go.floatBits .add .f64 s x = some (min (addF s x) INF) := by
  obtain ⟨m, p, k, h1, h2, h3, _⟩ := read_fin hs
  have hG : G < INF := by decide
  have hx' : ∃ (neg : Bool) (n : Nat) (q : Int) (l : Nat), Ieee.double.read x = .number neg n q ∧ q + 1074 = l ∧ n * 2 ^ l = wv x ∧ (neg = true → n = 0) := by
    unfold okB at hx
    simp at hx
    rcases hx with hx | hx
    · obtain ⟨n, q, l, g1, g2, g3, _⟩ := read_fin (x := x) (by omega)
      refine ⟨false, n, q, l, g1, g2, ?_, by simp⟩
      unfold wv
      rw [if_neg (by unfold G at hx; omega)]; exact g3
    · subst hx
      exact ⟨true, 0, -1074, 0, read_negzero, by omega, by rfl, by simp⟩
  obtain ⟨neg, n, q, l, g1, g2, g3, g4⟩ := hx'
  have hsg : ∀ t, signed neg n t = ((n * 2 ^ t : Nat) : Int) := by
    intro t; cases neg
    · unfold signed; simp [Nat.shiftLeft_eq]
    · rw [g4 rfl, signed_zero]; simp
  have hsm : ∀ t, signed false m t = ((m * 2 ^ t : Nat) : Int) := by
    intro t; unfold signed; simp [Nat.shiftLeft_eq]
  show Ieee.double.add s x = _
  unfold Format.add
  rw [h1, g1]
  simp only [Datum.sum, Option.map, hsg, hsm, Format.write]
  congr 1
  have e1 : (p - min p q).toNat = k - min k l := by omega
  have e2 : (q - min p q).toNat = l - min k l := by omega
  rw [e1, e2]
  obtain ⟨A, hA⟩ : ∃ A, A = m * 2 ^ (k - min k l) := ⟨_, rfl⟩
  obtain ⟨B, hB⟩ : ∃ B, B = n * 2 ^ (l - min k l) := ⟨_, rfl⟩
  rw [← hA, ← hB]
  have ha : A * 2 ^ (min k l) = val s := by rw [hA, Nat.mul_assoc, ← Nat.pow_add, ← h3]; congr 2; omega
  have hb : B * 2 ^ (min k l) = wv x := by rw [hB, Nat.mul_assoc, ← Nat.pow_add, ← g3]; congr 2; omega
  have e3 : ((A : Int) + (B : Int)).natAbs = A + B := by omega
  have e4 : (if (A : Int) + (B : Int) = 0 then (false && neg) else decide ((A : Int) + (B : Int) < 0)) = false := by
    split
    · rfl
    · simp; omega
  rw [e3, e4, nearest_R false (A + B) _ 0 (min k l) (by omega), word_false]
  unfold addF
  rw [Nat.add_mul, ha, hb]

theorem wv_le {x : Nat} (h : okB x = true) : wv x ≤ 2 ^ E104 := by
  unfold wv
  split
  · exact Nat.zero_le _
  · rename_i hne
    unfold okB at h
    simp [hne] at h
    refine Nat.le_trans (val_le_iff.2 h) ?_
    obtain ⟨c, hc, hb⟩ : ∃ c, c = G / 2 ^ 52 - 1 ∧ E104 = 53 + c := ⟨_, rfl, by decide⟩
    have hv : val G = 8388608000000000 * 2 ^ c := by
      subst hc
      unfold val
      rw [if_neg (by decide), show 2 ^ 52 + G % 2 ^ 52 = 8388608000000000 by decide]
    rw [hv, pow_split hb]
    exact Nat.mul_le_mul_right _ (by decide)

/-- The sum of the first ones. -/
def sumTo (w : List Nat) (i : Nat) : Nat := (w.take i).foldl addF 0
theorem sumTo_zero (w : List Nat) : sumTo w 0 = 0 := rfl
theorem sumTo_succ {w : List Nat} {i x : Nat} (h : w[i]? = some x) : sumTo w (i + 1) = addF (sumTo w i) x := by
  unfold sumTo
  rw [List.take_add_one, h]; simp
theorem sumTo_bound {w : List Nat} (hw : ∀ x ∈ w, okB x = true) (i : Nat) (hi : i ≤ w.length) : val (sumTo w i) ≤ 2 ^ (E104 + i) := by
  induction i with
  | zero => rw [sumTo_zero, val_zero]; exact Nat.zero_le _
  | succ i ih =>
    have hx : w[i]? = some w[i] := List.getElem?_eq_getElem (by omega)
    rw [sumTo_succ hx]
    unfold addF
    refine val_R_le ?_
    have h1 := ih (by omega)
    have h2 := wv_le (hw w[i] (List.getElem_mem _))
    have h3 : (2 : Nat) ^ E104 ≤ 2 ^ (E104 + i) := Nat.pow_le_pow_right (by omega) (by omega)
    have h4 : (2 : Nat) ^ (E104 + (i + 1)) = 2 * 2 ^ (E104 + i) := by rw [← Nat.add_assoc, Nat.pow_succ]; omega
    omega
theorem sumTo_fin {w : List Nat} (hw : ∀ x ∈ w, okB x = true) (hl : w.length ≤ 900) (i : Nat) (hi : i ≤ w.length) : sumTo w i < INF :=
  lt_INF (sumTo_bound hw i hi) (by unfold E104; omega)
theorem add_sumTo {w : List Nat} (hw : ∀ x ∈ w, okB x = true) (hl : w.length ≤ 900) {i x : Nat} (h : w[i]? = some x) : Go.floatBits .add .f64 (sumTo w i) x = some (sumTo w (i + 1)) := by
  have hi : i < w.length := (List.getElem?_eq_some_iff.1 h).1
  have hx : okB x = true := hw x (List.mem_of_getElem? h)
  rw [add_fin (sumTo_fin hw hl i (by omega)) hx, sumTo_succ h]
  have := sumTo_fin hw hl (i + 1) (by omega)
  rw [sumTo_succ h] at this
  rw [Nat.min_eq_left (by omega)]

/-! ### A draw -/
theorem toFloat (n : Nat) (h : n < 2 ^ 53) : Go.floatOfInt .f64 (n : Int) = R (n * 2 ^ E74) 0 ∧ val (R (n * 2 ^ E74) 0) = n * 2 ^ E74 ∧ R (n * 2 ^ E74) 0 < INF := by
  have hv := @val_R n E74 h
  have hlt : R (n * 2 ^ E74) 0 < INF := by
    refine lt_INF (e := 53 + E74) ?_ (by unfold E74; omega)
    rw [hv, pow_split (e := 53 + E74) rfl]
    exact Nat.mul_le_mul_right _ (by omega)
  refine ⟨?_, hv, hlt⟩
  show Ieee.double.nearest (decide ((n : Int) < 0)) (n : Int).natAbs 0 = _
  rw [show decide ((n : Int) < 0) = false by simp, show (n : Int).natAbs = n by omega]
  rw [nearest_R false n 0 0 E74 (by unfold E74; omega), word_false, Nat.min_eq_left (by omega)]

/-- 2^53. -/
def C53 : Nat := 4845873199050653696
theorem read_C53 : Ieee.double.read C53 = .number false (2 ^ 52) 1 := by rfl
/-- A draw, as a part of one. -/
def part (n : Nat) : Nat := R (n * 2 ^ E21) 0
theorem val_part {n : Nat} (h : n < 2 ^ 53) : val (part n) = n * 2 ^ E21 := val_R h
theorem part_fin {n : Nat} (h : n < 2 ^ 53) : part n < INF := by
  refine lt_INF (e := 53 + E21) ?_ (by unfold E21; omega)
  rw [val_part h, pow_split (e := 53 + E21) rfl]
  exact Nat.mul_le_mul_right _ (by omega)
theorem quo_part {n : Nat} (h : n < 2 ^ 53) : Go.floatBits .quo .f64 (Go.floatOfInt .f64 (n : Int)) C53 = some (part n) := by
  obtain ⟨h1, h2, h3⟩ := toFloat n h
  rw [h1]
  obtain ⟨m, p, k, g1, g2, g3, g4⟩ := read_fin h3
  rw [h2] at g3
  show Ieee.double.div _ _ = _
  unfold Format.div
  rw [g1, read_C53, fb]
  have hl : m.log2 ≤ 52 := by
    by_cases h0 : m = 0
    · subst h0; simp
    · have := (Nat.log2_lt h0).2 g4; omega
  have hl2 : (2 ^ 52 : Nat).log2 = 52 := by rfl
  simp only [Datum.quotient, hl2]
  rw [if_neg (by omega)]
  simp only [Option.map, Format.write]
  refine congrArg some ?_
  obtain ⟨t, ht⟩ : ∃ t, 52 + 2 + 52 - m.log2 = 52 + t := ⟨54 - m.log2, by omega⟩
  rw [ht, Nat.shiftLeft_eq]
  have e1 : m * 2 ^ (52 + t) = (m * 2 ^ t) * 2 ^ 52 := by rw [Nat.add_comm 52 t, Nat.pow_add, Nat.mul_assoc]
  rw [e1, Nat.mul_div_cancel _ (by omega), Nat.mul_mod_left]
  simp only [bne_self_eq_false, Bool.toNat_false, Nat.add_zero]
  have htl : t ≤ 54 := by omega
  rw [nearest_R false _ _ 108 (k + 108 - 54 - t) (by omega), word_false]
  have e2 : 2 * (m * 2 ^ t) * 2 ^ (k + 108 - 54 - t) = (n * 2 ^ E21) * 2 ^ 108 := by
    have : 2 * (m * 2 ^ t) * 2 ^ (k + 108 - 54 - t) = (m * 2 ^ k) * 2 ^ 55 := by
      have f1 : (2 : Nat) ^ t * 2 * 2 ^ (k + 108 - 54 - t) = 2 ^ k * 2 ^ 55 := by
        rw [← Nat.pow_succ, ← Nat.pow_add, ← Nat.pow_add, show t + 1 + (k + 108 - 54 - t) = k + 55 by omega]
      rw [Nat.mul_comm 2, Nat.mul_assoc m, Nat.mul_assoc m, f1, Nat.mul_assoc m]
    have f2 : E74 + 55 = E21 + 108 := by decide
    rw [this, g3, Nat.mul_assoc, Nat.mul_assoc, ← Nat.pow_add, ← Nat.pow_add, f2]
  have e3 := R_scale (n * 2 ^ E21) 0 108
  rw [Nat.zero_add] at e3
  rw [e2, e3]
  have := part_fin h
  unfold part at *
  rw [Nat.min_eq_left (by omega)]

theorem mul_fin {x y : Nat} (hx : x < INF) (hy : y < INF) : Go.floatBits .mul .f64 x y = some (min (R (val x * val y) 1074) INF) := by
  obtain ⟨m, p, k, h1, h2, h3, _⟩ := read_fin hx
  obtain ⟨n, q, l, g1, g2, g3, _⟩ := read_fin hy
  show Ieee.double.mul x y = _
  unfold Format.mul
  rw [h1, g1]
  simp only [Datum.product, Option.map, Format.write]
  rw [show (false ^^ false) = false from rfl, nearest_R false (m * n) (p + q) 1074 (k + l) (by omega), word_false]
  have : m * n * 2 ^ (k + l) = val x * val y := by
    rw [← h3, ← g3, Nat.pow_add]
    rw [Nat.mul_assoc, Nat.mul_assoc, Nat.mul_left_comm n]
  rw [this]

/-- Where a draw lies, of so much. -/
def drawX (n S : Nat) : Nat := R (n * val S) 53
theorem drawX_fin {n S : Nat} (h : n < 2 ^ 53) (hS : S < INF) : drawX n S ≤ S := by
  unfold drawX
  have h1 : n * val S ≤ val S * 2 ^ 53 := by rw [Nat.mul_comm]; exact Nat.mul_le_mul_left _ (by omega)
  have h2 := R_mono 53 h1
  have h3 := R_scale (val S) 0 53
  rw [Nat.zero_add] at h3
  rw [h3, R_val] at h2
  exact h2
theorem mul_draw {n S : Nat} (h : n < 2 ^ 53) (hS : S < INF) : Go.floatBits .mul .f64 (part n) S = some (drawX n S) := by
  rw [mul_fin (part_fin h) hS, val_part h]
  have e : n * 2 ^ E21 * val S = (n * val S) * 2 ^ E21 := by rw [Nat.mul_right_comm]
  have e2 := R_scale (n * val S) 53 E21
  rw [e, show (1074 : Nat) = 53 + E21 from rfl, e2]
  have := drawX_fin h hS
  unfold drawX at *
  rw [Nat.min_eq_left (by omega)]
theorem drawX_mono {n m S : Nat} (h : n ≤ m) : drawX n S ≤ drawX m S := R_mono 53 (Nat.mul_le_mul_right _ h)
end Go.Proofs.Ytgoelobkehebjaa.Fl
