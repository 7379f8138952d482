/-
  What the laws say of a decoder: the plain laws.
-/
import Derived.Test.YtmoeioaahampaaaHdS
namespace Go.Proofs.Ytmoeioaahampaaa.Tb.Hp
open Go.ChangeShapes Go.WideShapes Go.ChangeAt Go.RowKit
open Go.Proofs.Ytmoeioaahampaaa.B Go.Proofs.Ytmoeioaahampaaa.Hi Go.Proofs.Ytmoeioaahampaaa.Tb
open Go.Proofs.Ytmoeioaahampaaa.Hf (bx need enc dec bitsOf)
set_option linter.unusedVariables false
set_option linter.unusedSimpArgs false

theorem BytesOf.pre {w : World} {a : Option Addr} {n cap : Nat} {l : List UInt8} (h : BytesOf w (.slice a n cap) l) (k : Nat) (hk : k ≤ l.length) : BytesOf w (.slice a k cap) (l.take k) := by
  obtain ⟨a', cap', he, hc, hm⟩ := h.slice
  simp only [Value.slice.injEq] at he
  obtain ⟨rfl, rfl, rfl⟩ := he
  have hl : (l.take k).length = k := by rw [List.length_take]; omega
  refine ⟨a, cap, by rw [hl], by omega, hm, fun h0 => ?_⟩
  obtain ⟨b, off, rfl, hb, hcell⟩ := h.cell (by omega)
  refine ⟨b, off, rfl, hb, fun i z hz j hj => ?_⟩
  obtain rfl : j = 0 := by omega
  have hik : i < k := by rw [← hl]; exact (List.getElem?_eq_some_iff.1 hz).1
  rw [List.getElem?_take_of_lt hik] at hz
  have := hcell i z hz
  rw [show off + i * 1 + 0 = off + i by omega, this]; rfl
theorem litR_inv {P : Nat} {nv : Bool} {m : Nat} {es : List Fd} {l : List UInt8} (hi : Inv m es) : Inv m (litR P nv m es l).2.2.2 := by
  unfold litR
  simp only
  split
  · exact hi.add _
  · exact hi
theorem fieldR_inv {m : Nat} {es : List Fd} {l : List UInt8} (hi : Inv m es) : Inv m (fieldR m es l).2.2.2 := by
  unfold fieldR
  split
  · exact hi
  · split
    · exact hi
    · split
      · exact litR_inv hi
      · exact litR_inv hi
theorem fldR_tot {m : Nat} : ∀ (k : Nat) (es : List Fd) (l : List UInt8), Inv m es → l.length ≤ 100000 → tot (fldR m k es l).1 ≤ 600032 * l.length := by
  intro k
  induction k with
  | zero => intro es l _ _; simp [fldR, tot]
  | succ k ih =>
    intro es l hi hl
    by_cases h0 : 0 < l.length
    · rw [fldR_step h0]
      have hs := fieldR_sz hi hl
      by_cases hb : (fieldR m es l).2.2.1 = true
      · rw [if_pos hb]
        show (fieldR m es l).1.sz + 0 ≤ _
        omega
      · rw [if_neg hb]
        have hlt := fieldR_len (m := m) (es := es) (l := l) (by simpa using hb)
        have := ih (fieldR m es l).2.2.2 (fieldR m es l).2.1 (fieldR_inv hi) (by omega)
        show (fieldR m es l).1.sz + tot (fldR m k (fieldR m es l).2.2.2 (fieldR m es l).2.1).1 ≤ _
        omega
    · rw [fldR_stop h0]; simp [tot]
theorem updR_inv {limit : Nat} : ∀ (k m : Nat) (es : List Fd) (l : List UInt8), Inv m es → Inv (updR limit k m es l).2.2.1 (updR limit k m es l).2.2.2 ∧ (updR limit k m es l).1.length ≤ l.length := by
  intro k
  induction k with
  | zero => intro m es l hi; exact ⟨hi, Nat.le_refl _⟩
  | succ k ih =>
    intro m es l hi
    by_cases h0 : 0 < l.length ∧ (l.headD 0).toNat / 32 = 1
    · rw [updR_step h0.1 h0.2]
      split
      · exact ⟨hi, by show (l.drop _).length ≤ _; rw [List.length_drop]; omega⟩
      · obtain ⟨h1, h2⟩ := ih (hgt ((getI l 5).1 : Int)) (Tb.fit 0 (hgt ((getI l 5).1 : Int)) es) (l.drop (getI l 5).2.1) (hi.set (hgt_le _))
        rw [List.length_drop] at h2
        exact ⟨h1, by omega⟩
    · rw [updR_stop h0]; exact ⟨hi, Nat.le_refl _⟩
/-- A block is one, or none. -/
theorem decB_or {m : Nat} {es : List Fd} {limit : Nat} {list : Int} {l : List UInt8} (hi : Inv m es) (hl : l.length ≤ 100000) (hlist : (600032 * l.length : Nat) ≤ list) :
    ((decB m es limit list false l).2.1 = 0 ∧ (decB m es limit list false l).2.2.1 = false) ∨ ((decB m es limit list false l).2.1 = 3 ∧ (decB m es limit list false l).2.2.1 = true ∧ (decB m es limit list false l).1 = []) := by
  obtain ⟨hu1, hu2⟩ := updR_inv (limit := limit) l.length m es l hi
  obtain ⟨U, hU⟩ : ∃ U, updR limit l.length m es l = U := ⟨_, rfl⟩
  rw [hU] at hu1 hu2
  obtain ⟨l1, bad, m1, es1⟩ := U
  rw [decB_fin hU rfl]
  have ht : tot (finR (bad || decide (limit < m1)) m1 es1 l1).1 ≤ 600032 * l1.length := by
    unfold finR
    split
    · simp [tot]
    · exact fldR_tot _ _ _ hu1 (by simp at hu2; omega)
  simp only at hu2
  split
  · exact Or.inr ⟨rfl, rfl, rfl⟩
  · rw [if_neg (by omega)]
    exact Or.inl ⟨rfl, rfl⟩
theorem decB_broken {m : Nat} {es : List Fd} {limit : Nat} {list : Int} {l : List UInt8} : decB m es limit list true l = ([], 7, true, m, es) := by unfold decB; rw [if_pos rfl]
end Go.Proofs.Ytmoeioaahampaaa.Tb.Hp
