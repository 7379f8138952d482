/-
  Plain laws of the numbers and texts of hints: what is written is read, nobody writes shorter.
-/
import Derived.Test.YtmoeioaahampaaaRGetT
namespace Go.Proofs.Ytmoeioaahampaaa.Hi
open Go.ChangeShapes Go.WideShapes Go.ChangeAt Go.RowKit
open Go.Proofs.Ytmoeioaahampaaa.B
open Go.Proofs.Ytmoeioaahampaaa.Hf (bx need enc dec bitsOf sl spell)
set_option linter.unusedVariables false
set_option linter.unusedSimpArgs false

theorem oct_nat {n : Nat} (h : n < 256) : (UInt8.ofNat n).toNat = n := by simp; omega
theorem oct_back (c : UInt8) : UInt8.ofNat c.toNat = c := by simp
theorem more_pos (n : Nat) : 0 < (more n).length := by
  rw [more]; split <;> simp
/-- What octets continue a number with, and that it is not written longer. -/
theorem cont_more : ∀ (r : List UInt8) (i v V N : Nat), 1 ≤ i → cont i v r = (V, N, 0) →
    ∃ k D, N = i + k ∧ 1 ≤ k ∧ k ≤ r.length ∧ N ≤ 6 ∧ V = v + D * 128 ^ (i - 1) ∧ (more D).length ≤ k ∧ ((more D).length = k → more D = r.take k) := by
  intro r
  induction r with
  | nil => intro i v V N hi h; simp [cont] at h
  | cons c r ih =>
    intro i v V N hi h
    rw [cont] at h
    split at h
    · simp at h
    · rename_i h5
      split at h
      · simp at h
      · split at h
        · rename_i hc
          simp only [Prod.mk.injEq, and_true] at h
          have e : c.toNat % 128 = c.toNat := by omega
          refine ⟨1, c.toNat, h.2.symm, by omega, by simp, by omega, by rw [← h.1, e], ?_, fun _ => ?_⟩
          · rw [more_low hc]; simp
          · rw [more_low hc, oct_back]; rfl
        · rename_i hc
          obtain ⟨k, D, h1, h2, h3, h4, h6, h7, h8⟩ := ih _ _ _ _ (by omega) h
          have hx : c.toNat < 256 := c.toNat_lt
          obtain ⟨T, hT⟩ : ∃ T, T = c.toNat % 128 := ⟨_, rfl⟩
          have hcT : c.toNat = T + 128 := by omega
          have hp : 128 ^ (i + 1 - 1) = 128 * 128 ^ (i - 1) := by
            rw [show i + 1 - 1 = (i - 1) + 1 by omega, Nat.pow_succ, Nat.mul_comm]
          refine ⟨k + 1, T + 128 * D, by omega, by omega, by simp; omega, h4, ?_, ?_, ?_⟩
          · rw [h6, hp, ← hT, Nat.add_mul, Nat.mul_assoc 128, Nat.mul_left_comm D 128, Nat.add_assoc]
          · by_cases hb : 128 ≤ T + 128 * D
            · rw [more_big hb, show (T + 128 * D) / 128 = D by omega]; simp; exact h7
            · rw [more_low (by omega)]; simp
          · intro hl
            by_cases hb : 128 ≤ T + 128 * D
            · rw [more_big hb, show (T + 128 * D) / 128 = D by omega] at hl ⊢
              simp at hl
              rw [show (T + 128 * D) % 128 = T by omega, ← hcT, oct_back, h8 hl]; rfl
            · rw [more_low (by omega)] at hl; simp at hl; omega
/-- Nobody writes a number shorter. -/
theorem least {l : List UInt8} {p : Int} {V N : Nat} (h : getI l p = (V, N, 0)) :
    ∃ c r, l = c :: r ∧ 1 ≤ p ∧ p ≤ 8 ∧ V ≤ 2147483647 ∧ 1 ≤ N ∧ N ≤ 6 ∧ N ≤ l.length ∧ (putI c p V).2 = 0 ∧ (putI c p V).1.length ≤ N ∧ (putI c p V).1.head? = some c ∧ ((putI c p V).1.length = N ↔ (putI c p V).1 = l.take N) := by
  have hok := getI_ok (l := l) (p := p) (by rw [h])
  rw [h] at hok
  unfold getI at h
  split at h
  · simp at h
  rename_i hp
  obtain ⟨P, rfl⟩ := Int.eq_ofNat_of_zero_le (show 0 ≤ p by omega)
  have hP1 : 1 ≤ P := by omega
  have hP8 : P ≤ 8 := by omega
  cases l with
  | nil => simp [getN] at h
  | cons c r =>
    refine ⟨c, r, rfl, by omega, by omega, hok.1, hok.2.1, ?_⟩
    have hV : (V : Int) ≤ 2147483647 := by have := hok.1; simp at this; omega
    rw [putI_in hP1 hP8 hV]
    obtain ⟨M, hM⟩ : ∃ M, M = 2 ^ P := ⟨_, rfl⟩
    have hpos : 0 < M := by rw [hM]; exact Nat.pow_pos (by omega)
    have hdm := Nat.div_add_mod c.toNat M
    have hml := Nat.mod_lt c.toNat hpos
    rw [show ((P : Nat) : Int).toNat = P from rfl, getN, ← hM] at h
    unfold putN
    rw [← hM]
    have hlen := hok.2.2
    simp only at hlen
    split at h
    · rename_i hlt
      simp only [Prod.mk.injEq, and_true] at h
      obtain ⟨h1, h2⟩ := h
      subst h1 h2
      rw [if_pos hlt]
      have e : UInt8.ofNat (c.toNat / M * M + c.toNat % M) = c := by
        rw [Nat.mul_comm, hdm, oct_back]
      rw [e]
      refine ⟨by omega, hlen, rfl, by simp, rfl, by simp⟩
    · rename_i hge
      obtain ⟨k, D, h1, h2, h3, h4, h6, h7, h8⟩ := cont_more r _ _ _ _ (Nat.le_refl 1) h
      simp at h6
      have hm : c.toNat % M = M - 1 := by omega
      rw [if_neg (by omega)]
      have e : UInt8.ofNat (c.toNat / M * M + (M - 1)) = c := by
        rw [← hm, Nat.mul_comm, hdm, oct_back]
      rw [e, show V - (M - 1) = D by omega]
      refine ⟨h4, hlen, rfl, by simp; omega, rfl, ?_⟩
      constructor
      · intro hl
        rw [List.length_cons] at hl
        rw [show N = k + 1 by omega, List.take_succ_cons, h8 (by omega)]
      · intro hl
        rw [hl, List.length_take]
        omega
/-- What continues a number is read as it was, and no beginning of it is. -/
theorem cont_back : ∀ (D i v : Nat) (t : List UInt8), 1 ≤ i → v + D * 128 ^ (i - 1) ≤ 2147483647 → i + (more D).length ≤ 6 →
    cont i v (more D ++ t) = (v + D * 128 ^ (i - 1), i + (more D).length, 0) ∧ ∀ k, k < (more D).length → cont i v ((more D).take k) = (0, 0, 2) := by
  intro D
  induction D using Nat.strongRecOn with
  | _ D ih =>
    intro i v t hi hv hl
    by_cases hb : 128 ≤ D
    · rw [more_big hb] at hl ⊢
      rw [List.length_cons] at hl ⊢
      have hp : 128 ^ (i + 1 - 1) = 128 * 128 ^ (i - 1) := by
        rw [show i + 1 - 1 = (i - 1) + 1 by omega, Nat.pow_succ, Nat.mul_comm]
      have hDd : D * 128 ^ (i - 1) = D % 128 * 128 ^ (i - 1) + D / 128 * 128 ^ (i + 1 - 1) := by
        rw [hp, ← Nat.mul_assoc, ← Nat.add_mul]; congr 1; omega
      have hle : D % 128 * 128 ^ (i - 1) ≤ D * 128 ^ (i - 1) := Nat.mul_le_mul_right _ (Nat.mod_le _ _)
      obtain ⟨a, b⟩ := ih (D / 128) (by omega) (i + 1) (v + D % 128 * 128 ^ (i - 1)) t (by omega) (by omega) (by omega)
      have hmp := more_pos (D / 128)
      have hc : (UInt8.ofNat (D % 128 + 128)).toNat = D % 128 + 128 := oct_nat (by omega)
      have step : ∀ u, cont i v (UInt8.ofNat (D % 128 + 128) :: u) = cont (i + 1) (v + D % 128 * 128 ^ (i - 1)) u := by
        intro u
        rw [cont, if_neg (by omega), hc, show (D % 128 + 128) % 128 = D % 128 by omega, if_neg (by omega), if_neg (by omega)]
      constructor
      · rw [List.cons_append, step, a, hDd, Nat.add_assoc]
        simp only [Prod.mk.injEq, and_true]
        exact ⟨trivial, by omega⟩
      · intro k hk
        cases k with
        | zero => rfl
        | succ k => rw [List.take_succ_cons, step]; exact b k (by omega)
    · rw [more_low (by omega)] at hl ⊢
      have hc : (UInt8.ofNat D).toNat = D := oct_nat (by omega)
      constructor
      · rw [List.cons_append, cont, if_neg (by simp at hl; omega), hc, show D % 128 = D by omega, if_neg (by omega), if_pos (by omega)]; rfl
      · intro k hk
        simp at hk; subst hk; rfl
/-- A number that is written is read as it was. -/
theorem back {f : UInt8} {P V : Nat} (h1 : 1 ≤ P) (h2 : P ≤ 8) (h3 : V ≤ 2147483647) (t : List UInt8) :
    getI (putN f.toNat P V ++ t) P = (V, (putN f.toNat P V).length, 0) ∧ (∀ k, k < (putN f.toNat P V).length → getI ((putN f.toNat P V).take k) P = (0, 0, 2)) ∧
    ∃ c r, putN f.toNat P V = c :: r ∧ c.toNat / 2 ^ P = f.toNat / 2 ^ P ∧ r.length ≤ 5 := by
  obtain ⟨M, hM⟩ : ∃ M, M = 2 ^ P := ⟨_, rfl⟩
  have hpos : 0 < M := by rw [hM]; exact Nat.pow_pos (by omega)
  have hf := f.toNat_lt
  have hdm := Nat.div_add_mod f.toNat M
  have hml := Nat.mod_lt f.toNat hpos
  have hM8 : M ∣ 256 := by rw [hM]; exact Nat.pow_dvd_pow 2 h2 (m := P) (n := 8)
  obtain ⟨q, hq⟩ := hM8
  have hx : ∀ x, x < M → f.toNat / M * M + x < 256 ∧ (f.toNat / M * M + x) / M = f.toNat / M ∧ (f.toNat / M * M + x) % M = x := by
    intro x hx
    have hd : f.toNat / M < q := by rw [Nat.div_lt_iff_lt_mul hpos, Nat.mul_comm, ← hq]; exact hf
    have h5 : (f.toNat / M + 1) * M ≤ q * M := Nat.mul_le_mul_right _ hd
    rw [Nat.add_mul, Nat.mul_comm q M, ← hq] at h5
    refine ⟨by omega, ?_, ?_⟩
    · rw [Nat.mul_comm, Nat.mul_add_div hpos, Nat.div_eq_of_lt hx]; rfl
    · rw [Nat.mul_comm, Nat.mul_add_mod, Nat.mod_eq_of_lt hx]
  rw [getI_in h1 h2]
  have hge : ∀ l : List UInt8, getI l P = getN P l := fun l => getI_in h1 h2
  simp only [hge]
  rw [← hM]
  unfold putN
  rw [← hM]
  by_cases hlt : V < M - 1
  · rw [if_pos hlt]
    obtain ⟨a, b, c⟩ := hx V (by omega)
    refine ⟨?_, ?_, _, [], rfl, by rw [oct_nat a, b], by simp⟩
    · rw [List.cons_append, getN, oct_nat a, ← hM, c, if_pos hlt]; rfl
    · intro k hk
      simp at hk; subst hk; rfl
  · rw [if_neg hlt]
    obtain ⟨a, b, c⟩ := hx (M - 1) (by omega)
    have hml5 := more_len5 (V - (M - 1)) (by omega)
    obtain ⟨d, e⟩ := cont_back (V - (M - 1)) 1 (M - 1) t (Nat.le_refl _) (by simp; omega) (by omega)
    refine ⟨?_, ?_, _, _, rfl, by rw [oct_nat a, b], hml5⟩
    · rw [List.cons_append, getN, oct_nat a, ← hM, c, if_neg (by omega), d]
      simp only [Prod.mk.injEq, and_true, List.length_cons]
      simp; omega
    · intro k hk
      cases k with
      | zero => rfl
      | succ k => rw [List.take_succ_cons, getN, oct_nat a, ← hM, c, if_neg (by omega)]; exact e k (by simp at hk; omega)
theorem more_mono : ∀ (a b : Nat), a ≤ b → (more a).length ≤ (more b).length := by
  intro a
  induction a using Nat.strongRecOn with
  | _ a ih =>
    intro b hab
    by_cases ha : 128 ≤ a
    · rw [more_big ha, more_big (show 128 ≤ b by omega)]
      simp
      exact ih _ (by omega) _ (Nat.div_le_div_right hab)
    · rw [more_low (by omega)]
      exact more_pos b
theorem putN_mono (f g P : Nat) {a b : Nat} (h : a ≤ b) : (putN f P a).length ≤ (putN g P b).length := by
  unfold putN
  split
  · split <;> simp
  · rw [if_neg (by omega)]
    simp
    exact more_mono _ _ (by omega)
theorem dec_enc (l : List UInt8) (most : Int) (h : (l.length : Int) ≤ most) : dec most (bitsOf (enc l)) = (l, 0) := by
  rw [Hf.enc_bits]
  exact Hf.dec_spell most l _ (by unfold need; omega) h
/-- A text's octets: a number, and what is behind it. -/
theorem putT_two (l : List UInt8) (hl : l.length ≤ 100000) : ∃ (f : UInt8) (x : List UInt8), putT l = putN f.toNat 7 x.length ++ x ∧ x.length ≤ l.length ∧ (f.toNat / 128 = if need l < l.length then 1 else 0) ∧
    (need l < l.length → x = enc l) ∧ (¬ need l < l.length → x = l) := by
  unfold putT
  by_cases h : need l < l.length
  · rw [if_pos h, if_pos h]
    refine ⟨128, enc l, ?_, by rw [Hf.enc_length]; omega, rfl, fun _ => rfl, fun h2 => absurd h h2⟩
    rw [Hf.enc_length, show (7 : Int) = ((7 : Nat) : Int) from rfl, putI_in (by decide) (by decide) (by omega)]
  · rw [if_neg h, if_neg h]
    refine ⟨0, l, ?_, Nat.le_refl _, rfl, fun h2 => absurd h2 h, fun _ => rfl⟩
    rw [show (7 : Int) = ((7 : Nat) : Int) from rfl, putI_in (by decide) (by decide) (by omega)]
theorem kept (l t : List UInt8) (hl : l.length ≤ 100000) :
    getT (putT l ++ t) = (l, (putT l).length, 0) ∧ (∀ k, k < (putT l).length → getT ((putT l).take k) = ([], 0, 2)) ∧
    (putT l).length ≤ (putN 0 7 l.length).length + l.length ∧ 1 ≤ (putT l).length ∧ (putT l).length ≤ 100006 ∧
    ∃ c r, putT l = c :: r ∧ (128 ≤ c.toNat ↔ (1 < (putT l).length ∧ need l < l.length)) := by
  obtain ⟨f, x, h1, h2, h3, h4, h5⟩ := putT_two l hl
  obtain ⟨b1, b2, c, r, b3, b4, b5⟩ := back (f := f) (P := 7) (V := x.length) (by decide) (by decide) (by omega) (x ++ t)
  have bk := fun u => (back (f := f) (P := 7) (V := x.length) (by decide) (by decide) (by omega) u).1
  have hc := c.toNat_lt
  have e7 : ((7 : Nat) : Int) = 7 := rfl
  rw [show (2 : Nat) ^ 7 = 128 from rfl, h3] at b4
  have hlen : (putT l).length = (putN f.toNat 7 x.length).length + x.length := by rw [h1, List.length_append]
  have hpl : (putN f.toNat 7 x.length).length = r.length + 1 := by rw [b3]; rfl
  refine ⟨?_, ?_, ?_, by omega, by omega, c, r ++ x, by rw [h1, b3]; rfl, ?_⟩
  · rw [hlen, h1, List.append_assoc]
    unfold getT
    rw [e7] at b1
    rw [b1]
    have hhd : (putN f.toNat 7 x.length ++ (x ++ t)).headD 0 = c := by rw [b3]; rfl
    have hcut : ((putN f.toNat 7 x.length ++ (x ++ t)).drop (putN f.toNat 7 x.length).length).take x.length = x := by
      rw [List.drop_left, List.take_left]
    simp only
    rw [if_neg (by simp), if_neg (by simp only [List.length_append]; omega), hhd, hcut]
    by_cases h : need l < l.length
    · rw [if_pos h] at b4
      rw [if_neg (by omega), h4 h, dec_enc l _ (by omega), if_neg (by simp)]
    · rw [if_neg h] at b4
      rw [if_pos (by omega), h5 h]
  · intro k hk
    rw [h1, List.take_append]
    unfold getT
    by_cases hkl : k < (putN f.toNat 7 x.length).length
    · rw [show k - (putN f.toNat 7 x.length).length = 0 by omega, List.take_zero, List.append_nil]
      have := b2 k hkl
      rw [e7] at this
      rw [this, if_pos (by simp)]
    · rw [List.take_of_length_le (by omega)]
      have := bk (x.take (k - (putN f.toNat 7 x.length).length))
      rw [e7] at this
      rw [this]
      simp only
      rw [if_neg (by simp), if_pos (by simp only [List.length_append, List.length_take]; omega)]
  · rw [hlen]
    have := putN_mono f.toNat 0 7 h2
    omega
  · by_cases h : need l < l.length
    · rw [if_pos h] at b4
      have hn : 0 < x.length := by
        rw [h4 h, Hf.enc_length]
        have := Hf.spell_len l
        unfold need; omega
      constructor
      · intro _; exact ⟨by omega, h⟩
      · intro _; omega
    · rw [if_neg h] at b4
      constructor
      · intro h6; omega
      · intro h6; exact absurd h6.2 h
end Go.Proofs.Ytmoeioaahampaaa.Hi
