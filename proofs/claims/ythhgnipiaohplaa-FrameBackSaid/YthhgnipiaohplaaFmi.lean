/-
  What is told may be.
-/
import Derived.Test.YthhgnipiaohplaaFmr
namespace Go.Proofs.Ythhgnipiaohplaa.Fr
open Go.ChangeShapes Go.WideShapes Go.ChangeAt Go.RowKit
open Go.Proofs.Ythhgnipiaohplaa.B
set_option linter.unusedVariables false
set_option linter.unusedSimpArgs false

theorem opened_inv {n : Nat} {R : Rg} (h0 : R.pad = 0) (h : openedB n R = true) : ∃ p m, p ≤ 256 ∧ openedR n R = { R with pad := p, l := m } ∧ n ≤ m.length ∧ R.l.length = (padH p).length + m.length := by
  obtain ⟨F, fl, l, pad, code⟩ := R
  simp only at h0
  subst h0
  unfold openedB at h
  unfold openedR hasR
  simp only at h ⊢
  cases hb : bitB fl 3 with
  | false =>
    rw [hb] at h
    have hn : n ≤ l.length := of_decide_eq_true (by simpa using h)
    refine ⟨0, l, by omega, ?_, hn, by simp [padH]⟩
    simp only [Bool.false_eq_true, if_false]
    rw [if_neg (by omega)]
  | true =>
    rw [hb] at h
    have hn : n + 1 ≤ l.length := of_decide_eq_true (by simpa using h)
    cases l with
    | nil => simp at hn
    | cons c m =>
      have hc := c.toNat_lt
      refine ⟨c.toNat + 1, m, by omega, ?_, by simp at hn; omega, by simp [padH]; omega⟩
      simp only [if_true]
      rw [if_neg (by omega)]
      rfl
theorem opened_bad {n : Nat} {R : Rg} (h : openedB n R = false) : (openedR n R).code = 6 := by
  unfold openedB at h
  unfold openedR hasR
  cases hb : bitB R.fl 3 with
  | false =>
    rw [hb] at h
    have hn : ¬ n ≤ R.l.length := of_decide_eq_false (by simpa using h)
    simp only [Bool.false_eq_true, if_false]
    rw [if_pos (by omega)]
  | true =>
    rw [hb] at h
    have hn : ¬ n + 1 ≤ R.l.length := of_decide_eq_false (by simpa using h)
    simp only [if_true]
    rw [if_pos (by omega)]
theorem closed_inv {R : Rg} (hF : R.F.pad = 0) (hc : (closedR R).code = 0) : ∃ pay l', closedR R = { R with F := { R.F with pad := (R.pad : Nat), pay := pay }, l := l' } ∧ R.l.length = pay.length + (R.pad - 1) ∧ R.code = 0 := by
  obtain ⟨F, fl, l, pad, code⟩ := R
  obtain ⟨a1, a2, a3, a4, a5, a6, a7, a8, a9, a10, a11, a12, a13, a14, a15, a16⟩ := F
  simp only at hF
  subst hF
  unfold closedR at hc ⊢
  simp only at hc ⊢
  rcases Nat.eq_zero_or_pos pad with h | h
  · subst h
    simp only [Nat.lt_irrefl, if_false] at hc ⊢
    exact ⟨l, l, rfl, by simp, hc⟩
  · rw [if_pos h] at hc ⊢
    by_cases hl : l.length < pad - 1
    · rw [if_pos hl] at hc; simp at hc
    · rw [if_neg hl] at hc ⊢
      exact ⟨_, _, rfl, by rw [List.length_take]; omega, hc⟩
theorem sets_len : ∀ (n : Nat) (l : List UInt8), l.length = 6 * n → (sets l).length = n ∧ ∀ s ∈ sets l, 0 ≤ s.1 ∧ s.1 ≤ 65535 ∧ 0 ≤ s.2 ∧ s.2 < 4294967296 := by
  intro n
  induction n with
  | zero =>
    intro l hl
    obtain rfl : l = [] := List.length_eq_zero_iff.1 (by omega)
    exact ⟨rfl, by simp [sets]⟩
  | succ n ih =>
    intro l hl
    match l, hl with
    | a :: b :: c :: d :: e :: f :: rest, hl =>
      obtain ⟨h1, h2⟩ := ih rest (by simp at hl; omega)
      have e1 : sets (a :: b :: c :: d :: e :: f :: rest) = (((a.toNat * 256 + b.toNat : Nat) : Int), ((fourN c d e f : Nat) : Int)) :: sets rest := rfl
      rw [e1]
      refine ⟨by rw [List.length_cons, h1], fun s hs => ?_⟩
      rcases List.mem_cons.1 hs with rfl | hs
      · have ha := a.toNat_lt; have hb := b.toNat_lt; have hf := fourN_lt c d e f
        exact ⟨by simp only; omega, by simp only; omega, by simp only; omega, by simp only; omega⟩
      · exact h2 s hs
theorem st_pos {k st : Nat} (hk : k = 0 ∨ k = 1 ∨ k = 2 ∨ k = 3 ∨ k = 5 ∨ k = 9) (h : strayB (k : Int) (st : Int) = false) : 1 ≤ st := by
  have : ((st : Int) == 0) = false := by
    rcases hk with rfl | rfl | rfl | rfl | rfl | rfl <;> exact h
  simp at this; omega
theorem st_zero {k st : Nat} (hk : k = 4 ∨ k = 6 ∨ k = 7) (h : strayB (k : Int) (st : Int) = false) : st = 0 := by
  have : ((st : Int) != 0) = false := by
    rcases hk with rfl | rfl | rfl <;> exact h
  simp at this; omega
theorem fourN_v (l : List UInt8) : get4 l % 2147483648 ≤ 2147483647 := by omega
/-- Whatever octets a payload has: what is told of them may be, and has as many. -/
theorem may_read {k st : Nat} {fl : UInt8} {l : List UInt8} (hk : k ≤ 255) (hst : st ≤ 2147483647) (hs : strayB (k : Int) (st : Int) = false) (hc : (kindR k (rg0 k st fl l)).code = 0) :
    May (kindR k (rg0 k st fl l)).F ∧ (bodyF (kindR k (rg0 k st fl l)).F).length = l.length := by
  match k, hk, hs, hc with
  | 0, _, hs, hc =>
    have hst' : StB st := ⟨st_pos (by simp) hs, hst⟩
    have hc : (dataR (rg0 0 st fl l)).code = 0 := hc
    show May (dataR (rg0 0 st fl l)).F ∧ (bodyF (dataR (rg0 0 st fl l)).F).length = l.length
    unfold dataR at hc ⊢
    have e : ({ rg0 0 st fl l with F := { (rg0 0 st fl l).F with fin := bitB (rg0 0 st fl l).fl 0 } } : Rg) = ⟨{ fm0 0 st with fin := bitB fl 0 }, fl, l, 0, 0⟩ := rfl
    rw [e] at hc ⊢
    cases ho : openedB 0 (⟨{ fm0 0 st with fin := bitB fl 0 }, fl, l, 0, 0⟩ : Rg) with
    | false => rw [ho, if_neg (by simp), opened_bad ho] at hc; cases hc
    | true =>
      rw [ho, if_pos rfl] at hc
      obtain ⟨p, m, hp, h1, h2, h3⟩ := opened_inv rfl ho
      rw [if_pos rfl]
      rw [h1] at hc ⊢
      obtain ⟨pay, l', h4, h5, _⟩ := closed_inv rfl hc
      rw [h4]
      refine ⟨May.data st p (bitB fl 0) pay hst' hp, ?_⟩
      simp only at h3 h5
      show (padH ((p : Int).toNat) ++ [] ++ pay ++ padT ((p : Int).toNat)).length = l.length
      rw [Int.toNat_natCast, h3, h5]
      simp [padT]; try omega
  | 1, _, hs, hc =>
    have hst' : StB st := ⟨st_pos (by simp) hs, hst⟩
    have hc : (headersR (rg0 1 st fl l)).code = 0 := hc
    show May (headersR (rg0 1 st fl l)).F ∧ (bodyF (headersR (rg0 1 st fl l)).F).length = l.length
    have f5 : bitB (rg0 1 st fl l).fl 5 = bitB fl 5 := rfl
    unfold headersR at hc ⊢
    have e : headers1 (rg0 1 st fl l) = ⟨{ fm0 1 st with fin := bitB fl 0, eh := bitB fl 2, prio := bitB fl 5 }, fl, l, 0, 0⟩ := rfl
    have n0 : headersN (rg0 1 st fl l) = if bitB fl 5 then 5 else 0 := rfl
    rw [e, n0, f5] at hc ⊢
    cases h5 : bitB fl 5 with
    | false =>
      rw [h5] at hc
      simp only [Bool.false_eq_true, if_false] at hc ⊢
      cases ho : openedB 0 (⟨{ fm0 1 st with fin := bitB fl 0, eh := bitB fl 2, prio := false }, fl, l, 0, 0⟩ : Rg) with
      | false => rw [ho, if_neg (by simp), opened_bad ho] at hc; cases hc
      | true =>
        rw [ho, if_pos rfl] at hc
        obtain ⟨p, m, hp, h1, h2, h3⟩ := opened_inv rfl ho
        rw [if_pos rfl]
        rw [h1] at hc ⊢
        obtain ⟨pay, l', h4, h6, _⟩ := closed_inv rfl hc
        rw [h4]
        refine ⟨May.heads st p (bitB fl 0) (bitB fl 2) pay hst' hp, ?_⟩
        simp only at h3 h6
        show (padH ((p : Int).toNat) ++ [] ++ pay ++ padT ((p : Int).toNat)).length = l.length
        rw [Int.toNat_natCast, h3, h6]
        simp [padT]; try omega
    | true =>
      rw [h5] at hc
      simp only [if_true] at hc ⊢
      cases ho : openedB 5 (⟨{ fm0 1 st with fin := bitB fl 0, eh := bitB fl 2, prio := true }, fl, l, 0, 0⟩ : Rg) with
      | false => rw [ho, if_neg (by simp), opened_bad ho] at hc; cases hc
      | true =>
        rw [ho, if_pos rfl] at hc
        obtain ⟨p, m, hp, h1, h2, h3⟩ := opened_inv rfl ho
        rw [if_pos rfl]
        rw [h1] at hc ⊢
        obtain ⟨a, b, c, d, e', rest, h6, h7⟩ := split5 (R := (⟨{ fm0 1 st with fin := bitB fl 0, eh := bitB fl 2, prio := true }, fl, m, p, 0⟩ : Rg)) h2
        simp only at h6
        rw [h7] at hc ⊢
        unfold weighedR at hc ⊢
        simp only at hc ⊢
        obtain ⟨pay, l', h8, h9, _⟩ := closed_inv rfl hc
        rw [h8]
        have he := e'.toNat_lt
        refine ⟨May.headp st p (fourN a b c d % 2147483648) (e'.toNat + 1) (bitB fl 0) (bitB fl 2) (fourN a b c d / 2147483648 == 1) pay hst' hp (by omega) (by omega), ?_⟩
        simp only at h3 h9
        show (padH ((p : Int).toNat) ++ prioO _ _ _ ++ pay ++ padT ((p : Int).toNat)).length = l.length
        rw [Int.toNat_natCast, h3, h6]
        simp only [List.length_append, prioO_len, List.length_cons, h9]
        simp [padT]; try omega
  | 2, _, hs, hc =>
    have hst' : StB st := ⟨st_pos (by simp) hs, hst⟩
    have hc : (priorityR (rg0 2 st fl l)).code = 0 := hc
    show May (priorityR (rg0 2 st fl l)).F ∧ (bodyF (priorityR (rg0 2 st fl l)).F).length = l.length
    unfold priorityR at hc ⊢
    by_cases h5 : (rg0 2 st fl l).l.length = 5
    · rw [if_pos h5]
      obtain ⟨a, b, c, d, e', rest, h6, h7⟩ := split5 (R := rg0 2 st fl l) (by omega)
      rw [h7]
      have he := e'.toNat_lt
      refine ⟨May.prio st (fourN a b c d % 2147483648) (e'.toNat + 1) (fourN a b c d / 2147483648 == 1) hst' (by omega) (by omega), ?_⟩
      show (padH 0 ++ prioO _ _ _ ++ [] ++ padT 0).length = l.length
      have h8 : l.length = 5 := h5
      rw [h8]
      simp [padH, padT, prioO_len]
    · rw [if_neg h5] at hc; simp at hc
  | 3, _, hs, hc =>
    have hst' : StB st := ⟨st_pos (by simp) hs, hst⟩
    have hc : (resetR (rg0 3 st fl l)).code = 0 := hc
    show May (resetR (rg0 3 st fl l)).F ∧ (bodyF (resetR (rg0 3 st fl l)).F).length = l.length
    unfold resetR at hc ⊢
    by_cases h5 : (rg0 3 st fl l).l.length = 4
    · rw [if_pos h5]
      refine ⟨May.reset st (get4 l) hst' (get4_lt l), ?_⟩
      show (padH 0 ++ be _ 4 ++ [] ++ padT 0).length = l.length
      have h8 : l.length = 4 := h5
      rw [h8]
      simp [padH, padT, be_len]
    · rw [if_neg h5] at hc; simp at hc
  | 4, _, hs, hc =>
    have h0 := st_zero (by simp) hs
    subst h0
    have hc : (settingsR (rg0 4 0 fl l)).code = 0 := hc
    show May (settingsR (rg0 4 0 fl l)).F ∧ (bodyF (settingsR (rg0 4 0 fl l)).F).length = l.length
    unfold settingsR at hc ⊢
    by_cases h5 : (rg0 4 0 fl l).l.length % 6 ≠ 0 ∨ (bitB (rg0 4 0 fl l).fl 0 = true ∧ 0 < (rg0 4 0 fl l).l.length)
    · rw [if_pos h5] at hc; simp at hc
    · rw [if_neg h5]
      have h6 : l.length % 6 = 0 := Decidable.byContradiction fun h => h5 (Or.inl h)
      obtain ⟨h7, h8⟩ := sets_len (l.length / 6) l (by omega)
      have h9 : bitB fl 0 = true → sets l = [] := fun h => by
        have : ¬ 0 < l.length := fun hh => h5 (Or.inr ⟨h, hh⟩)
        have hl : l = [] := List.length_eq_zero_iff.1 (by omega)
        subst hl; rfl
      refine ⟨May.sets (bitB fl 0) (sets l) h8 h9, ?_⟩
      show (padH 0 ++ setO (sets l) ++ [] ++ padT 0).length = l.length
      have : (padH 0 ++ setO (sets l) ++ [] ++ padT 0).length = (setO (sets l)).length := by simp [padH, padT]
      rw [this, setO_len, h7]; omega
  | 5, _, hs, hc =>
    have hst' : StB st := ⟨st_pos (by simp) hs, hst⟩
    have hc : (promiseR (rg0 5 st fl l)).code = 0 := hc
    show May (promiseR (rg0 5 st fl l)).F ∧ (bodyF (promiseR (rg0 5 st fl l)).F).length = l.length
    unfold promiseR at hc ⊢
    have e : ({ rg0 5 st fl l with F := { (rg0 5 st fl l).F with eh := bitB (rg0 5 st fl l).fl 2 } } : Rg) = ⟨{ fm0 5 st with eh := bitB fl 2 }, fl, l, 0, 0⟩ := rfl
    rw [e] at hc ⊢
    cases ho : openedB 4 (⟨{ fm0 5 st with eh := bitB fl 2 }, fl, l, 0, 0⟩ : Rg) with
    | false => rw [ho, if_neg (by simp), opened_bad ho] at hc; cases hc
    | true =>
      rw [ho, if_pos rfl] at hc
      obtain ⟨p, m, hp, h1, h2, h3⟩ := opened_inv rfl ho
      rw [if_pos rfl]
      rw [h1] at hc ⊢
      have e2 : promise1 ⟨{ fm0 5 st with eh := bitB fl 2 }, fl, m, p, 0⟩ = closedR ⟨{ fm0 5 st with eh := bitB fl 2, last := (get4 m % 2147483648 : Nat) }, fl, m.drop 4, p, 0⟩ := rfl
      rw [e2] at hc ⊢
      by_cases hz : (closedR ⟨{ fm0 5 st with eh := bitB fl 2, last := (get4 m % 2147483648 : Nat) }, fl, m.drop 4, p, 0⟩).code = 0 ∧ (closedR ⟨{ fm0 5 st with eh := bitB fl 2, last := (get4 m % 2147483648 : Nat) }, fl, m.drop 4, p, 0⟩).F.last = 0
      · rw [if_pos hz] at hc; simp at hc
      · rw [if_neg hz] at hc ⊢
        obtain ⟨pay, l', h4, h6, _⟩ := closed_inv rfl hc
        rw [h4] at hz ⊢
        have hlast : get4 m % 2147483648 ≠ 0 := fun hh => hz ⟨rfl, by simp only; omega⟩
        refine ⟨May.prom st p (get4 m % 2147483648) (bitB fl 2) pay hst' hp ⟨by omega, by omega⟩, ?_⟩
        simp only [List.length_drop] at h3 h6
        show (padH ((p : Int).toNat) ++ be _ 4 ++ pay ++ padT ((p : Int).toNat)).length = l.length
        rw [Int.toNat_natCast, h3]
        simp [padT, be_len]; omega
  | 6, _, hs, hc =>
    have h0 := st_zero (by simp) hs
    subst h0
    have hc : (pingR (rg0 6 0 fl l)).code = 0 := hc
    show May (pingR (rg0 6 0 fl l)).F ∧ (bodyF (pingR (rg0 6 0 fl l)).F).length = l.length
    unfold pingR at hc ⊢
    by_cases h5 : (rg0 6 0 fl l).l.length = 8
    · rw [if_pos h5, closed_none rfl]
      refine ⟨May.ping (bitB fl 0) l h5, ?_⟩
      show (padH 0 ++ [] ++ l ++ padT 0).length = l.length
      simp [padH, padT]
    · rw [if_neg h5] at hc; simp at hc
  | 7, _, hs, hc =>
    have h0 := st_zero (by simp) hs
    subst h0
    have hc : (goawayR (rg0 7 0 fl l)).code = 0 := hc
    show May (goawayR (rg0 7 0 fl l)).F ∧ (bodyF (goawayR (rg0 7 0 fl l)).F).length = l.length
    unfold goawayR at hc ⊢
    by_cases h5 : 8 ≤ (rg0 7 0 fl l).l.length
    · rw [if_pos h5, closed_none rfl]
      refine ⟨May.away (get4 l % 2147483648) (get4 (l.drop 4)) (l.drop 8) (by omega) (get4_lt _), ?_⟩
      show (padH 0 ++ (be _ 4 ++ be _ 4) ++ l.drop 8 ++ padT 0).length = l.length
      have h8 : 8 ≤ l.length := h5
      simp [padH, padT, be_len]; omega
    · rw [if_neg h5] at hc; simp at hc
  | 8, _, hs, hc =>
    have hc : (windowR (rg0 8 st fl l)).code = 0 := hc
    show May (windowR (rg0 8 st fl l)).F ∧ (bodyF (windowR (rg0 8 st fl l)).F).length = l.length
    unfold windowR at hc ⊢
    by_cases h5 : (rg0 8 st fl l).l.length = 4
    · rw [if_pos h5] at hc ⊢
      have hz : get4 l % 2147483648 ≠ 0 := fun hh => by
        have h9 : (if get4 l % 2147483648 = 0 then 1 else 0) = 0 := hc
        rw [if_pos hh] at h9; cases h9
      refine ⟨May.wind st (get4 l % 2147483648) hst ⟨by omega, by omega⟩, ?_⟩
      show (padH 0 ++ be _ 4 ++ [] ++ padT 0).length = l.length
      have h8 : l.length = 4 := h5
      rw [h8]
      simp [padH, padT, be_len]
    · rw [if_neg h5] at hc; simp at hc
  | 9, _, hs, hc =>
    have hst' : StB st := ⟨st_pos (by simp) hs, hst⟩
    show May (moreR (rg0 9 st fl l)).F ∧ (bodyF (moreR (rg0 9 st fl l)).F).length = l.length
    unfold moreR
    rw [closed_none rfl]
    refine ⟨May.cont st (bitB fl 2) l hst', ?_⟩
    show (padH 0 ++ [] ++ l ++ padT 0).length = l.length
    simp [padH, padT]
  | q + 10, hk, hs, hc =>
    show May (otherR (rg0 (q + 10) st fl l)).F ∧ (bodyF (otherR (rg0 (q + 10) st fl l)).F).length = l.length
    unfold otherR
    rw [closed_none rfl]
    have hf := fl.toNat_lt
    refine ⟨May.other (q + 10) st fl.toNat l ⟨by omega, hk⟩ hst (by omega), ?_⟩
    show (bodyF ⟨((q + 10 : Nat) : Int), (st : Nat), false, false, false, false, l, (fl.toNat : Nat), 0, 0, false, 0, 0, [], 0, 0⟩).length = l.length
    have hbd : bodyF ⟨((q + 10 : Nat) : Int), (st : Nat), false, false, false, false, l, (fl.toNat : Nat), 0, 0, false, 0, 0, [], 0, 0⟩ = l := by
      unfold bodyF midF
      rw [if_neg (by simp only; omega), if_neg (by simp only; omega), if_neg (by simp only; omega), if_neg (by simp only; omega), if_neg (by simp only; omega), if_neg (by simp only; omega), if_neg (by simp only; omega)]
      simp [padH, padT]
    rw [hbd]
/-- A frame that is told may be, and is no longer than Max. -/
theorem nxt_may {mx : Nat} {l r : List UInt8} {F : Fm} (h : nxt mx l = .frame F r) : May F ∧ (bodyF F).length ≤ mx := by
  have h9 := nxt_len (mx := mx) (l := l) (by rw [h]; intro hc; cases hc)
  obtain ⟨a, b, c, k, fl, s1, s2, s3, s4, r0, rfl⟩ := split9 h9
  have h1 : nxt9 mx a b c k fl s1 s2 s3 s4 r0 = .frame F r := h
  unfold nxt9 at h1
  by_cases hb : mx < threeN a b c
  · rw [if_pos hb] at h1; cases h1
  rw [if_neg hb] at h1
  by_cases hr : r0.length < threeN a b c
  · rw [if_pos hr] at h1; cases h1
  rw [if_neg hr] at h1
  cases hs : strayB ((k.toNat : Nat) : Int) ((fourN s1 s2 s3 s4 % 2147483648 : Nat) : Int) with
  | true => rw [hs, if_pos rfl] at h1; cases h1
  | false =>
    rw [hs, if_neg (by simp)] at h1
    have hk := k.toNat_lt
    unfold outR at h1
    by_cases hc : (kindR k.toNat (rg0 k.toNat (fourN s1 s2 s3 s4 % 2147483648) fl (r0.take (threeN a b c)))).code = 0
    · rw [if_pos hc] at h1
      obtain ⟨m1, m2⟩ := may_read (by omega) (by omega) hs hc
      injection h1 with h2 h3
      rw [← h2]
      refine ⟨m1, ?_⟩
      rw [m2, List.length_take]; omega
    · rw [if_neg hc] at h1
      split at h1 <;> cases h1
end Go.Proofs.Ythhgnipiaohplaa.Fr
