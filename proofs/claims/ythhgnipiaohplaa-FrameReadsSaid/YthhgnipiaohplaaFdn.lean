/-
  What the document's Next answers is what Next answers: plain.
-/
import Derived.Test.YthhgnipiaohplaaFnt
namespace Go.Proofs.Ythhgnipiaohplaa.Fr
open Go.ChangeShapes Go.WideShapes Go.ChangeAt Go.RowKit
open Go.Proofs.Ythhgnipiaohplaa.B
set_option linter.unusedVariables false
set_option linter.unusedSimpArgs false

def padP (fl : UInt8) (s : List UInt8) : Nat := if bitB fl 3 then (s.headD 0).toNat + 1 else 0
def padC (fl : UInt8) (s : List UInt8) : List UInt8 := if bitB fl 3 then (s.take (s.length - (s.headD 0).toNat)).drop 1 else s
/-- What a payload says, in which all stands that must. -/
def readF (k : Nat) (fl : UInt8) (s : List UInt8) : Fm :=
  match k with
  | 0 => ⟨0, 0, bitB fl 0, false, false, false, padC fl s, 0, (padP fl s : Nat), 0, false, 0, 0, [], 0, 0⟩
  | 1 => if bitB fl 5 then ⟨1, 0, bitB fl 0, bitB fl 2, false, true, (padC fl s).drop 5, 0, (padP fl s : Nat), (get4 (padC fl s) % 2147483648 : Nat), get4 (padC fl s) / 2147483648 == 1, (((padC fl s).getD 4 0).toNat + 1 : Nat), 0, [], 0, 0⟩
         else ⟨1, 0, bitB fl 0, bitB fl 2, false, false, padC fl s, 0, (padP fl s : Nat), 0, false, 0, 0, [], 0, 0⟩
  | 2 => ⟨2, 0, false, false, false, false, [], 0, 0, (get4 s % 2147483648 : Nat), get4 s / 2147483648 == 1, ((s.getD 4 0).toNat + 1 : Nat), 0, [], 0, 0⟩
  | 3 => ⟨3, 0, false, false, false, false, [], 0, 0, 0, false, 0, (get4 s : Nat), [], 0, 0⟩
  | 4 => ⟨4, 0, false, false, bitB fl 0, false, [], 0, 0, 0, false, 0, 0, sets s, 0, 0⟩
  | 5 => ⟨5, 0, false, bitB fl 2, false, false, (padC fl s).drop 4, 0, (padP fl s : Nat), 0, false, 0, 0, [], (get4 (padC fl s) % 2147483648 : Nat), 0⟩
  | 6 => ⟨6, 0, false, false, bitB fl 0, false, s, 0, 0, 0, false, 0, 0, [], 0, 0⟩
  | 7 => ⟨7, 0, false, false, false, false, s.drop 8, 0, 0, 0, false, 0, (get4 (s.drop 4) : Nat), [], (get4 s % 2147483648 : Nat), 0⟩
  | 8 => ⟨8, 0, false, false, false, false, [], 0, 0, 0, false, 0, 0, [], 0, (get4 s % 2147483648 : Nat)⟩
  | 9 => ⟨9, 0, false, bitB fl 2, false, false, s, 0, 0, 0, false, 0, 0, [], 0, 0⟩
  | k + 10 => ⟨((k + 10 : Nat) : Int), 0, false, false, false, false, s, (fl.toNat : Nat), 0, 0, false, 0, 0, [], 0, 0⟩
def pb (fl : UInt8) : Nat := if bitB fl 3 then 1 else 0
def leastN (k : Nat) (fl : UInt8) : Nat :=
  match k with
  | 0 => pb fl
  | 1 => pb fl + if bitB fl 5 then 5 else 0
  | 2 => 5
  | 3 => 4
  | 5 => pb fl + 4
  | 6 => 8
  | 7 => 8
  | 8 => 4
  | _ => 0
def justK (k : Nat) : Bool := k == 2 || k == 3 || k == 6 || k == 8
def padK (k : Nat) : Bool := k == 0 || k == 1 || k == 5
def badLen (k : Nat) (fl : UInt8) (n : Nat) : Bool := decide (n < leastN k fl) || (justK k && n != leastN k fl) || (k == 4 && (n % 6 != 0 || (bitB fl 0 && decide (0 < n))))
def badPad (k : Nat) (fl : UInt8) (s : List UInt8) : Bool := padK k && bitB fl 3 && decide (s.length - leastN k fl < (s.headD 0).toNat)
def atSt (F : Fm) (st : Nat) : Fm := { F with stream := (st : Nat) }
def okR (k st : Nat) (F : Fm) (rest : List UInt8) : NR :=
  if (k = 5 ∧ F.last = 0) ∨ (k = 8 ∧ F.inc = 0 ∧ st = 0) then .broken 1 else if k = 8 ∧ F.inc = 0 then .fault 1 st rest else .frame (atSt F st) rest
def docR (k st : Nat) (fl : UInt8) (s rest : List UInt8) : NR :=
  if badLen k fl s.length then (if k = 2 then .fault 6 st rest else .broken 6) else if badPad k fl s then .broken 1 else okR k st (readF k fl s) rest
theorem cut_pad (c : UInt8) (t : List UInt8) (h : c.toNat ≤ t.length) : ((c :: t).take ((c :: t).length - c.toNat)).drop 1 = t.take (t.length - c.toNat) := by
  rw [List.length_cons, show t.length + 1 - c.toNat = (t.length - c.toNat) + 1 by omega, List.take_succ_cons]; rfl
theorem doc_out0 (st : Nat) (fl : UInt8) (s rest : List UInt8) : docR 0 st fl s rest = outR 0 st (kindR 0 (rg0 0 st fl s)) rest := by
  cases hb : bitB fl 3 with
  | false => simp [docR, badLen, badPad, leastN, pb, justK, padK, okR, readF, padC, padP, atSt, outR, kindR, dataR, openedB, openedR, hasR, closedR, rg0, fm0, hb]
  | true =>
    cases s with
    | nil => simp [docR, badLen, badPad, leastN, pb, justK, padK, okR, readF, padC, padP, atSt, outR, kindR, dataR, openedB, openedR, hasR, closedR, rg0, fm0, hb, ownK]
    | cons c t =>
      by_cases h : t.length < c.toNat
      · simp [docR, badLen, badPad, leastN, pb, justK, padK, okR, readF, padC, padP, atSt, outR, kindR, dataR, openedB, openedR, hasR, closedR, rg0, fm0, hb, ownK, h]
      · have e := cut_pad c t (by omega)
        simp at e
        simp [docR, badLen, badPad, leastN, pb, justK, padK, okR, readF, padC, padP, atSt, outR, kindR, dataR, openedB, openedR, hasR, closedR, rg0, fm0, hb, ownK, h, e]
theorem doc_out1 (st : Nat) (fl : UInt8) (s rest : List UInt8) : docR 1 st fl s rest = outR 1 st (kindR 1 (rg0 1 st fl s)) rest := by
  cases hb : bitB fl 3 with
  | false =>
    cases h5 : bitB fl 5 with
    | false => simp [docR, badLen, badPad, leastN, pb, justK, padK, okR, readF, padC, padP, atSt, outR, kindR, headersR, headersN, headers1, openedB, openedR, hasR, closedR, rg0, fm0, hb, h5]
    | true =>
      by_cases hl : s.length < 5
      · have hl2 : ¬ 5 ≤ s.length := by omega
        simp [docR, badLen, badPad, leastN, pb, justK, padK, okR, readF, padC, padP, atSt, outR, kindR, headersR, headersN, headers1, openedB, openedR, hasR, closedR, rg0, fm0, hb, h5, hl, hl2, ownK]
      · obtain ⟨a, b, c, d, e, r, hs⟩ : ∃ a b c d e r, s = a :: b :: c :: d :: e :: r := by
          match s, (show 5 ≤ s.length by omega) with
          | a :: b :: c :: d :: e :: r, _ => exact ⟨a, b, c, d, e, r, rfl⟩
        subst hs
        have q1 : (r.length + 1 + 1 + 1 + 1 + 1 < 5) = False := by first | (simp; done) | (simp; omega)
        simp [docR, badLen, badPad, leastN, pb, justK, padK, okR, readF, padC, padP, atSt, outR, kindR, headersR, headersN, headers1, openedB, openedR, hasR, closedR, rg0, fm0, hb, h5, ownK, weighR, weighedR, get4, q1]
  | true =>
    cases s with
    | nil => cases h5 : bitB fl 5 <;> simp [docR, badLen, badPad, leastN, pb, justK, padK, okR, readF, padC, padP, atSt, outR, kindR, headersR, headersN, headers1, openedB, openedR, hasR, closedR, rg0, fm0, hb, h5, ownK]
    | cons x t =>
      cases h5 : bitB fl 5 with
      | false =>
        by_cases h : t.length < x.toNat
        · simp [docR, badLen, badPad, leastN, pb, justK, padK, okR, readF, padC, padP, atSt, outR, kindR, headersR, headersN, headers1, openedB, openedR, hasR, closedR, rg0, fm0, hb, h5, ownK, h]
        · have e := cut_pad x t (by omega)
          simp at e
          simp [docR, badLen, badPad, leastN, pb, justK, padK, okR, readF, padC, padP, atSt, outR, kindR, headersR, headersN, headers1, openedB, openedR, hasR, closedR, rg0, fm0, hb, h5, ownK, h, e]
      | true =>
        by_cases hl : t.length < 5
        · have hl2 : ¬ 5 ≤ t.length := by omega
          have hl3 : t.length + 1 < 6 := by omega
          simp [docR, badLen, badPad, leastN, pb, justK, padK, okR, readF, padC, padP, atSt, outR, kindR, headersR, headersN, headers1, openedB, openedR, hasR, closedR, rg0, fm0, hb, h5, hl, hl2, hl3, ownK]
        · obtain ⟨a, b, c, d, e, r, hs⟩ : ∃ a b c d e r, t = a :: b :: c :: d :: e :: r := by
            match t, (show 5 ≤ t.length by omega) with
            | a :: b :: c :: d :: e :: r, _ => exact ⟨a, b, c, d, e, r, rfl⟩
          subst hs
          have q1 : (r.length + 1 + 1 + 1 + 1 + 1 + 1 < 6) = False := by first | (simp; done) | (simp; omega)
          by_cases h : r.length < x.toNat
          · simp [docR, badLen, badPad, leastN, pb, justK, padK, okR, readF, padC, padP, atSt, outR, kindR, headersR, headersN, headers1, openedB, openedR, hasR, closedR, rg0, fm0, hb, h5, ownK, weighR, weighedR, get4, h, q1]
          · have e1 := cut_pad x (a :: b :: c :: d :: e :: r) (by simp; omega)
            have e2 : (a :: b :: c :: d :: e :: r).length - x.toNat = (r.length - x.toNat) + 1 + 1 + 1 + 1 + 1 := by simp; omega
            rw [e2] at e1
            simp only [List.take_succ_cons] at e1
            have e3 : padC fl (x :: a :: b :: c :: d :: e :: r) = a :: b :: c :: d :: e :: r.take (r.length - x.toNat) := by unfold padC; rw [hb]; exact e1
            simp [docR, badLen, badPad, leastN, pb, justK, padK, okR, readF, e3, padP, atSt, outR, kindR, headersR, headersN, headers1, openedB, openedR, hasR, closedR, rg0, fm0, hb, h5, ownK, weighR, weighedR, get4, h, q1]
theorem doc_out2 (st : Nat) (fl : UInt8) (s rest : List UInt8) : docR 2 st fl s rest = outR 2 st (kindR 2 (rg0 2 st fl s)) rest := by
  by_cases hl : s.length = 5
  · obtain ⟨a, b, c, d, e, hs⟩ : ∃ a b c d e, s = [a, b, c, d, e] := by
      match s, hl with
      | [a, b, c, d, e], _ => exact ⟨a, b, c, d, e, rfl⟩
    subst hs
    simp [docR, badLen, badPad, leastN, pb, justK, padK, okR, readF, atSt, outR, kindR, priorityR, rg0, fm0, ownK, weighR, weighedR, get4]
  · simp [docR, badLen, badPad, leastN, pb, justK, padK, okR, readF, atSt, outR, kindR, priorityR, rg0, fm0, ownK, hl]
theorem doc_out3 (st : Nat) (fl : UInt8) (s rest : List UInt8) : docR 3 st fl s rest = outR 3 st (kindR 3 (rg0 3 st fl s)) rest := by
  by_cases hl : s.length = 4
  · simp [docR, badLen, badPad, leastN, pb, justK, padK, okR, readF, atSt, outR, kindR, resetR, rg0, fm0, ownK, hl]
  · simp [docR, badLen, badPad, leastN, pb, justK, padK, okR, readF, atSt, outR, kindR, resetR, rg0, fm0, ownK, hl]
theorem doc_out4 (st : Nat) (fl : UInt8) (s rest : List UInt8) : docR 4 st fl s rest = outR 4 st (kindR 4 (rg0 4 st fl s)) rest := by
  by_cases h6 : s.length % 6 = 0
  · cases hb : bitB fl 0 with
    | false => simp [docR, badLen, badPad, leastN, pb, justK, padK, okR, readF, atSt, outR, kindR, settingsR, settings1, rg0, fm0, ownK, h6, hb]
    | true =>
      rcases Nat.eq_zero_or_pos s.length with h0 | h0
      · simp [docR, badLen, badPad, leastN, pb, justK, padK, okR, readF, atSt, outR, kindR, settingsR, settings1, rg0, fm0, ownK, h6, hb, h0]
      · simp [docR, badLen, badPad, leastN, pb, justK, padK, okR, readF, atSt, outR, kindR, settingsR, settings1, rg0, fm0, ownK, h6, hb, h0]
  · simp [docR, badLen, badPad, leastN, pb, justK, padK, okR, readF, atSt, outR, kindR, settingsR, settings1, rg0, fm0, ownK, h6]
theorem doc_out5 (st : Nat) (fl : UInt8) (s rest : List UInt8) : docR 5 st fl s rest = outR 5 st (kindR 5 (rg0 5 st fl s)) rest := by
  cases hb : bitB fl 3 with
  | false =>
    by_cases hl : s.length < 4
    · have hl2 : ¬ 4 ≤ s.length := by omega
      simp [docR, badLen, badPad, leastN, pb, justK, padK, okR, readF, padC, padP, atSt, outR, kindR, promiseR, openedB, openedR, hasR, closedR, rg0, fm0, hb, hl, hl2, ownK]
    · have hl2 : 4 ≤ s.length := by omega
      by_cases hz : get4 s % 2147483648 = 0
      · simp [docR, badLen, badPad, leastN, pb, justK, padK, okR, readF, padC, padP, atSt, outR, kindR, promiseR, promise1, openedB, openedR, hasR, closedR, rg0, fm0, hb, hl, hl2, ownK, hz]
      · simp [docR, badLen, badPad, leastN, pb, justK, padK, okR, readF, padC, padP, atSt, outR, kindR, promiseR, promise1, openedB, openedR, hasR, closedR, rg0, fm0, hb, hl, hl2, ownK, hz]
        split <;> simp_all <;> omega
  | true =>
    cases s with
    | nil => simp [docR, badLen, badPad, leastN, pb, justK, padK, okR, readF, padC, padP, atSt, outR, kindR, promiseR, openedB, openedR, hasR, closedR, rg0, fm0, hb, ownK]
    | cons x t =>
      by_cases hl : t.length < 4
      · have hl2 : ¬ 4 ≤ t.length := by omega
        have hl3 : t.length + 1 < 5 := by omega
        simp [docR, badLen, badPad, leastN, pb, justK, padK, okR, readF, padC, padP, atSt, outR, kindR, promiseR, openedB, openedR, hasR, closedR, rg0, fm0, hb, hl, hl2, hl3, ownK]
      · obtain ⟨a, b, c, d, r, hs⟩ : ∃ a b c d r, t = a :: b :: c :: d :: r := by
          match t, (show 4 ≤ t.length by omega) with
          | a :: b :: c :: d :: r, _ => exact ⟨a, b, c, d, r, rfl⟩
        subst hs
        have q1 : (r.length + 1 + 1 + 1 + 1 + 1 < 5) = False := by first | (simp; done) | (simp; omega)
        by_cases h : r.length < x.toNat
        · simp [docR, badLen, badPad, leastN, pb, justK, padK, okR, readF, padC, padP, atSt, outR, kindR, promiseR, promise1, openedB, openedR, hasR, closedR, rg0, fm0, hb, ownK, get4, h, q1]
        · have e1 := cut_pad x (a :: b :: c :: d :: r) (by simp; omega)
          have e2 : (a :: b :: c :: d :: r).length - x.toNat = (r.length - x.toNat) + 1 + 1 + 1 + 1 := by simp; omega
          rw [e2] at e1
          simp only [List.take_succ_cons] at e1
          have e3 : padC fl (x :: a :: b :: c :: d :: r) = a :: b :: c :: d :: r.take (r.length - x.toNat) := by unfold padC; rw [hb]; exact e1
          by_cases hz : fourN a b c d % 2147483648 = 0
          · simp [docR, badLen, badPad, leastN, pb, justK, padK, okR, readF, e3, padP, atSt, outR, kindR, promiseR, promise1, openedB, openedR, hasR, closedR, rg0, fm0, hb, ownK, get4, h, hz, q1]
          · simp [docR, badLen, badPad, leastN, pb, justK, padK, okR, readF, e3, padP, atSt, outR, kindR, promiseR, promise1, openedB, openedR, hasR, closedR, rg0, fm0, hb, ownK, get4, h, hz, q1]
            split <;> simp_all <;> omega
theorem doc_out6 (st : Nat) (fl : UInt8) (s rest : List UInt8) : docR 6 st fl s rest = outR 6 st (kindR 6 (rg0 6 st fl s)) rest := by
  by_cases hl : s.length = 8
  · simp [docR, badLen, badPad, leastN, pb, justK, padK, okR, readF, atSt, outR, kindR, pingR, closedR, rg0, fm0, ownK, hl]
  · simp [docR, badLen, badPad, leastN, pb, justK, padK, okR, readF, atSt, outR, kindR, pingR, closedR, rg0, fm0, ownK, hl]
theorem doc_out7 (st : Nat) (fl : UInt8) (s rest : List UInt8) : docR 7 st fl s rest = outR 7 st (kindR 7 (rg0 7 st fl s)) rest := by
  by_cases hl : s.length < 8
  · have hl2 : ¬ 8 ≤ s.length := by omega
    simp [docR, badLen, badPad, leastN, pb, justK, padK, okR, readF, atSt, outR, kindR, goawayR, closedR, rg0, fm0, ownK, hl, hl2]
  · have hl2 : 8 ≤ s.length := by omega
    simp [docR, badLen, badPad, leastN, pb, justK, padK, okR, readF, atSt, outR, kindR, goawayR, closedR, rg0, fm0, ownK, hl, hl2]
theorem doc_out8 (st : Nat) (fl : UInt8) (s rest : List UInt8) : docR 8 st fl s rest = outR 8 st (kindR 8 (rg0 8 st fl s)) rest := by
  by_cases hl : s.length = 4
  · by_cases hz : get4 s % 2147483648 = 0
    · by_cases h0 : st = 0
      · simp [docR, badLen, badPad, leastN, pb, justK, padK, okR, readF, atSt, outR, kindR, windowR, rg0, fm0, ownK, hl, hz, h0]
      · have h1 : 0 < st := by omega
        simp [docR, badLen, badPad, leastN, pb, justK, padK, okR, readF, atSt, outR, kindR, windowR, rg0, fm0, ownK, hl, hz, h0, h1]
    · simp [docR, badLen, badPad, leastN, pb, justK, padK, okR, readF, atSt, outR, kindR, windowR, rg0, fm0, ownK, hl, hz]
      split <;> simp_all <;> omega
  · simp [docR, badLen, badPad, leastN, pb, justK, padK, okR, readF, atSt, outR, kindR, windowR, rg0, fm0, ownK, hl]
theorem doc_out9 (st : Nat) (fl : UInt8) (s rest : List UInt8) : docR 9 st fl s rest = outR 9 st (kindR 9 (rg0 9 st fl s)) rest := by
  simp [docR, badLen, badPad, leastN, pb, justK, padK, okR, readF, atSt, outR, kindR, moreR, closedR, rg0, fm0, ownK]
theorem doc_outO (k st : Nat) (fl : UInt8) (s rest : List UInt8) : docR (k + 10) st fl s rest = outR (k + 10) st (kindR (k + 10) (rg0 (k + 10) st fl s)) rest := by
  simp [docR, badLen, badPad, leastN, pb, justK, padK, okR, readF, atSt, outR, kindR, otherR, closedR, rg0, fm0, ownK]
theorem doc_out (k st : Nat) (fl : UInt8) (s rest : List UInt8) : docR k st fl s rest = outR k st (kindR k (rg0 k st fl s)) rest := by
  match k with
  | 0 => exact doc_out0 st fl s rest
  | 1 => exact doc_out1 st fl s rest
  | 2 => exact doc_out2 st fl s rest
  | 3 => exact doc_out3 st fl s rest
  | 4 => exact doc_out4 st fl s rest
  | 5 => exact doc_out5 st fl s rest
  | 6 => exact doc_out6 st fl s rest
  | 7 => exact doc_out7 st fl s rest
  | 8 => exact doc_out8 st fl s rest
  | 9 => exact doc_out9 st fl s rest
  | n + 10 => exact doc_outO n st fl s rest
end Go.Proofs.Ythhgnipiaohplaa.Fr
