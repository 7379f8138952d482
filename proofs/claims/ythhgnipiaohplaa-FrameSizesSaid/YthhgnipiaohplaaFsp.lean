/-
  Payloads of a wrong size.
-/
import Derived.Test.YthhgnipiaohplaaFhd
namespace Go.Proofs.Ythhgnipiaohplaa.Fr
open Go.ChangeShapes Go.WideShapes Go.ChangeAt Go.RowKit
open Go.Proofs.Ythhgnipiaohplaa.B
set_option linter.unusedVariables false
set_option linter.unusedSimpArgs false

theorem bit0 (j : Nat) : bitB (UInt8.ofNat 0) j = false := by simp [bitB]
theorem bit00 (j : Nat) : bitB 0 j = false := by simp [bitB]
/-- Has a payload of odd octets, without flags, the size that its kind wants? -/
def okSz (k n : Nat) : Bool :=
  match k with
  | 2 => n == 5
  | 3 => n == 4
  | 4 => n % 6 == 0
  | 5 => decide (4 ≤ n)
  | 6 => n == 8
  | 7 => decide (8 ≤ n)
  | 8 => n == 4
  | _ => true
theorem get4_odd {c : UInt8} (hc : c.toNat % 2 = 1) {n : Nat} (h : 4 ≤ n) : get4 (List.replicate n c) % 2147483648 ≠ 0 := by
  obtain ⟨m, rfl⟩ : ∃ m, n = m + 4 := ⟨n - 4, by omega⟩
  show fourN c c c c % 2147483648 ≠ 0
  unfold fourN
  omega
theorem pad0_code {R : Rg} (h : R.pad = 0) : (closedR R).code = R.code := by rw [closed_none h]
theorem size_code (st : Nat) {c : UInt8} (hc : c.toNat % 2 = 1) (n : Nat) (k : Nat) :
    (kindR k (rg0 k st (UInt8.ofNat 0) (List.replicate n c))).code = if okSz k n then 0 else 6 := by
  match k with
  | 0 => simp [kindR, okSz, dataR, openedB, openedR, hasR, closedR, rg0, bit0, bit00]
  | 1 => simp [kindR, okSz, headersR, headersN, headers1, openedB, openedR, hasR, closedR, rg0, bit0, bit00]
  | 2 =>
    show (priorityR _).code = if (n == 5) = true then 0 else 6
    unfold priorityR
    by_cases h : n = 5
    · subst h
      rfl
    · simp [rg0, h]
  | 3 =>
    show (resetR _).code = if (n == 4) = true then 0 else 6
    unfold resetR
    by_cases h : n = 4 <;> simp [rg0, h]
  | 4 =>
    show (settingsR _).code = if (n % 6 == 0) = true then 0 else 6
    unfold settingsR settings1
    by_cases h : n % 6 = 0 <;> simp [rg0, h, bit0, bit00]
  | 5 =>
    show (promiseR _).code = if (decide (4 ≤ n)) = true then 0 else 6
    unfold promiseR
    by_cases h : 4 ≤ n
    · have h1 : openedB 4 { rg0 5 st (UInt8.ofNat 0) (List.replicate n c) with F := { (rg0 5 st (UInt8.ofNat 0) (List.replicate n c)).F with eh := bitB (rg0 5 st (UInt8.ofNat 0) (List.replicate n c)).fl 2 } } = true := by
        simp [openedB, rg0, bit0, bit00, h]
      have h2 : openedR 4 { rg0 5 st (UInt8.ofNat 0) (List.replicate n c) with F := { (rg0 5 st (UInt8.ofNat 0) (List.replicate n c)).F with eh := bitB (rg0 5 st (UInt8.ofNat 0) (List.replicate n c)).fl 2 } } = { rg0 5 st (UInt8.ofNat 0) (List.replicate n c) with F := { (rg0 5 st (UInt8.ofNat 0) (List.replicate n c)).F with eh := bitB (rg0 5 st (UInt8.ofNat 0) (List.replicate n c)).fl 2 } } := by
        simp [openedR, hasR, rg0, bit0, bit00]; omega
      rw [h1, h2, if_pos rfl]
      have h3 := get4_odd hc h
      have h4 : ((get4 (List.replicate n c) % 2147483648 : Nat) : Int) ≠ 0 := by omega
      unfold promise1
      rw [closed_none (by rfl), if_neg (by
        intro hh
        exact h4 hh.2)]
      simp [rg0, h]
    · have h1 : openedB 4 { rg0 5 st (UInt8.ofNat 0) (List.replicate n c) with F := { (rg0 5 st (UInt8.ofNat 0) (List.replicate n c)).F with eh := bitB (rg0 5 st (UInt8.ofNat 0) (List.replicate n c)).fl 2 } } = false := by
        simp [openedB, rg0, bit0, bit00]; omega
      rw [h1, if_neg (by simp)]
      simp [openedR, hasR, rg0, bit0, bit00, h]
      rw [if_pos (by omega)]
  | 6 =>
    show (pingR _).code = if (n == 8) = true then 0 else 6
    unfold pingR
    by_cases h : n = 8 <;> simp [rg0, h, closedR]
  | 7 =>
    show (goawayR _).code = if (decide (8 ≤ n)) = true then 0 else 6
    unfold goawayR
    by_cases h : 8 ≤ n <;> simp [rg0, h, closedR]
  | 8 =>
    show (windowR _).code = if (n == 4) = true then 0 else 6
    unfold windowR
    by_cases h : n = 4
    · subst h
      have h3 := get4_odd hc (n := 4) (by omega)
      rw [if_pos (by simp [rg0])]
      show (if get4 (List.replicate 4 c) % 2147483648 = 0 then 1 else 0) = _
      rw [if_neg h3]; rfl
    · simp [rg0, h]
  | 9 => simp [kindR, okSz, moreR, closedR, rg0]
  | k + 10 => simp [kindR, okSz, otherR, closedR, rg0]
def stOf (k : Nat) : Nat := if k = 4 ∨ k = 6 ∨ k = 7 then 0 else 7
theorem stray_of (k : Nat) : strayB (k : Int) (stOf k : Int) = false := by
  unfold strayB stOf
  by_cases h : k = 4 ∨ k = 6 ∨ k = 7
  · rw [if_pos h, if_pos (by omega)]; rfl
  · rw [if_neg h, if_neg (by omega)]; split <;> rfl
theorem nxt_sizes {mx n k : Nat} {c : UInt8} (hc : c.toNat % 2 = 1) (hn : n ≤ 63) (hmx : 16384 ≤ mx) (hk : k < 256) :
    (okSz k n = true → ∃ F, nxt mx (h9 n k 0 (stOf k) ++ List.replicate n c) = .frame F []) ∧
    (okSz k n = false → nxt mx (h9 n k 0 (stOf k) ++ List.replicate n c) = if k = 2 then .fault 6 7 [] else .broken 6) := by
  have hs : stOf k < 2147483648 := by unfold stOf; split <;> omega
  have h0 := h9_nxt mx (n := n) (k := k) (fl := 0) (st := stOf k) (by omega) hk hs (List.replicate n c)
  rw [if_neg (by omega), if_neg (by simp), stray_of, if_neg (by simp), List.take_of_length_le (by simp), List.drop_eq_nil_of_le (by simp)] at h0
  have hcode := size_code (stOf k) hc n k
  rw [h0]
  generalize kindR k (rg0 k (stOf k) (UInt8.ofNat 0) (List.replicate n c)) = R at *
  unfold outR
  refine ⟨fun h => ?_, fun h => ?_⟩
  · rw [h] at hcode
    exact ⟨R.F, by rw [if_pos (by simpa using hcode)]⟩
  · rw [h] at hcode
    have h6 : R.code = 6 := by simpa using hcode
    rw [if_neg (by omega), h6]
    unfold ownK
    by_cases hk2 : k = 2
    · subst hk2; rfl
    · rw [if_neg hk2, if_neg]
      simp [hk2]
theorem nxt_big {mx n k st : Nat} (hn : n < 16777216) (hk : k < 256) (hs : st < 2147483648) (h : mx < n) : nxt mx (h9 n k 0 st) = .broken 6 := by
  have := h9_nxt mx (fl := 0) hn hk hs []
  rw [List.append_nil] at this
  rw [this, if_pos h]
theorem or1_u8 (f : Int) (h : 0 ≤ f ∧ f ≤ 255) : ∃ c : UInt8, Go.bits .or .u8 f 1 = (c.toNat : Int) ∧ c.toNat % 2 = 1 := by
  obtain ⟨x, rfl⟩ : ∃ x : Nat, f = (x : Int) := ⟨f.toNat, by omega⟩
  have hx : x < 256 := by omega
  have key : (BitVec.ofInt 8 (x : Int) ||| BitVec.ofInt 8 1).toNat = x ||| 1 := by
    rw [BitVec.toNat_or, BitVec.toNat_ofInt, BitVec.toNat_ofInt]
    have a1 : ((x : Int) % ((2 ^ 8 : Nat) : Int)).toNat = x := by omega
    have a2 : ((1 : Int) % ((2 ^ 8 : Nat) : Int)).toNat = 1 := by decide
    rw [a1, a2]
  have hlt : x ||| 1 < 2 ^ 8 := Nat.or_lt_two_pow (by omega) (by omega)
  have hodd : (x ||| 1) % 2 = 1 := by
    have h1 := Nat.testBit_or x 1 0
    have h2 : (x ||| 1).testBit 0 = true := by rw [h1]; simp
    rw [Nat.testBit_zero] at h2
    exact of_decide_eq_true h2
  refine ⟨UInt8.ofNat (x ||| 1), ?_, ?_⟩
  · show IntKind.u8.wrap ((BitVec.ofInt 8 (x : Int) ||| BitVec.ofInt 8 1).toNat : Nat) = _
    rw [key, UInt8.toNat_ofNat']
    show (((x ||| 1 : Nat) : Int)) % 256 = _
    omega
  · rw [UInt8.toNat_ofNat']; omega
end Go.Proofs.Ythhgnipiaohplaa.Fr
