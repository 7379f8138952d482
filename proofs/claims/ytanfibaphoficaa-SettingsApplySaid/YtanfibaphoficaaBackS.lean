/-
  Settings, plain: what is told and applied; settings of unlike numbers; no number with bit 6 is a setting's.
-/
import Derived.Test.YtanfibaphoficaaTell
namespace Go.Proofs.Ytanfibaphoficaa.Set
open Go.Proofs.Ytanfibaphoficaa.B
set_option linter.unusedSimpArgs false

/-- One field of another's values. -/
def setF (v b : V) (d : Nat) : V :=
  if d = 1 then { v with table := b.table } else if d = 2 then { v with push := b.push } else if d = 3 then { v with streams := b.streams }
  else if d = 4 then { v with window := b.window } else if d = 5 then { v with frame := b.frame } else { v with list := b.list }
structure V.May (b : V) : Prop where
  t : 0 ≤ b.table ∧ b.table ≤ 4294967295
  s : 0 ≤ b.streams ∧ b.streams ≤ 4294967295
  w : 0 ≤ b.window ∧ b.window ≤ 2147483647
  f : 16384 ≤ b.frame ∧ b.frame ≤ 16777215
  l : 0 ≤ b.list ∧ b.list ≤ 4294967295
/-- The fields up to k are b's. -/
def upto (v b : V) : Nat → V
  | 0 => v
  | k + 1 => setF (upto v b k) b (k + 1)
theorem upto_six (v b : V) : upto v b 6 = b := by
  cases v; cases b; simp [upto, setF]
theorem numOf_may {b : V} (h : b.May) (d : Int) : 0 ≤ numOf b d ∧ numOf b d ≤ 4294967295 := by
  obtain ⟨h1, h2, h3, h4, h5⟩ := h
  unfold numOf
  repeat' split
  all_goals omega
theorem tellD_right (a b : V) (h : b.May) (d : Int) : ∀ s ∈ tellD a b d, wrongC s false = 0 := by
  intro s hs
  have hn := numOf_may h d
  obtain ⟨h1, h2, h3, h4, h5⟩ := h
  unfold tellD at hs
  split at hs
  · split at hs
    · simp at hs
    · simp at hs; subst hs
      unfold wrongC; simp; split <;> simp
  · split at hs
    · simp at hs
    · simp at hs; subst hs
      rename_i hd _
      unfold wrongC
      simp only [hd, if_false]
      split
      · rename_i h4d; subst h4d; simp [numOf]; omega
      · split
        · rename_i h5d; subst h5d; simp [numOf]; omega
        · rfl
theorem tellD_put (a b : V) (h : b.May) (u : V) (k : Nat) (hk : k < 6) (hu : setF u a (k + 1) = u ∨ setF u b (k + 1) = u) :
    (tellD a b (k + 1 : Nat)).foldl putV u = setF u b (k + 1) := by
  have hn := numOf_may h
  have hkk : k = 0 ∨ k = 1 ∨ k = 2 ∨ k = 3 ∨ k = 4 ∨ k = 5 := by omega
  rcases hkk with rfl | rfl | rfl | rfl | rfl | rfl
  · by_cases he : a.table = b.table
    · have : tellD a b (0 + 1 : Nat) = [] := by simp [tellD, numOf, he]
      rw [this]
      rcases hu with hu | hu
      · rw [← hu]; simp [setF, he]
      · exact hu.symm
    · have := hn 1
      simp [numOf] at this
      have : tellD a b (0 + 1 : Nat) = [⟨1, b.table⟩] := by simp [tellD, numOf, he]; omega
      rw [this]; simp [putV, setF]
  · by_cases he : a.push = b.push
    · have : tellD a b (1 + 1 : Nat) = [] := by simp [tellD, he]
      rw [this]
      rcases hu with hu | hu
      · rw [← hu]; simp [setF, he]
      · exact hu.symm
    · have : tellD a b (1 + 1 : Nat) = [⟨2, if b.push then 1 else 0⟩] := by simp [tellD, he]
      rw [this]; cases hb : b.push <;> simp [putV, setF, hb]
  · by_cases he : a.streams = b.streams
    · have : tellD a b (2 + 1 : Nat) = [] := by simp [tellD, numOf, he]
      rw [this]
      rcases hu with hu | hu
      · rw [← hu]; simp [setF, he]
      · exact hu.symm
    · have := hn 3
      simp [numOf] at this
      have : tellD a b (2 + 1 : Nat) = [⟨3, b.streams⟩] := by simp [tellD, numOf, he]; omega
      rw [this]; simp [putV, setF]
  · by_cases he : a.window = b.window
    · have : tellD a b (3 + 1 : Nat) = [] := by simp [tellD, numOf, he]
      rw [this]
      rcases hu with hu | hu
      · rw [← hu]; simp [setF, he]
      · exact hu.symm
    · have := hn 4
      simp [numOf] at this
      have : tellD a b (3 + 1 : Nat) = [⟨4, b.window⟩] := by simp [tellD, numOf, he]; omega
      rw [this]; simp [putV, setF]
  · by_cases he : a.frame = b.frame
    · have : tellD a b (4 + 1 : Nat) = [] := by simp [tellD, numOf, he]
      rw [this]
      rcases hu with hu | hu
      · rw [← hu]; simp [setF, he]
      · exact hu.symm
    · have := hn 5
      simp [numOf] at this
      have : tellD a b (4 + 1 : Nat) = [⟨5, b.frame⟩] := by simp [tellD, numOf, he]; omega
      rw [this]; simp [putV, setF]
  · by_cases he : a.list = b.list
    · have : tellD a b (5 + 1 : Nat) = [] := by simp [tellD, numOf, he]
      rw [this]
      rcases hu with hu | hu
      · rw [← hu]; simp [setF, he]
      · exact hu.symm
    · have := hn 6
      simp [numOf] at this
      have : tellD a b (5 + 1 : Nat) = [⟨6, b.list⟩] := by simp [tellD, numOf, he]; omega
      rw [this]; simp [putV, setF]
theorem setF_upto (a b : V) (k : Nat) (hk : k < 6) : setF (upto a b k) a (k + 1) = upto a b k := by
  have hkk : k = 0 ∨ k = 1 ∨ k = 2 ∨ k = 3 ∨ k = 4 ∨ k = 5 := by omega
  cases a; cases b
  rcases hkk with rfl | rfl | rfl | rfl | rfl | rfl <;> simp [upto, setF]
theorem setF_self (b : V) (k : Nat) : setF b b k = b := by
  cases b; unfold setF; repeat' split
  all_goals rfl
theorem tellK_put (a b : V) (h : b.May) : ∀ k, k ≤ 6 → (tellK a b k).foldl putV a = upto a b k
  | 0, _ => rfl
  | k + 1, hk => by
    simp only [tellK, List.foldl_append]
    rw [tellK_put a b h k (by omega), tellD_put a b h _ k (by omega) (Or.inl (setF_upto a b k (by omega)))]
    rfl
theorem tellK_again (a b : V) (h : b.May) : ∀ k, k ≤ 6 → (tellK a b k).foldl putV b = b
  | 0, _ => rfl
  | k + 1, hk => by
    simp only [tellK, List.foldl_append]
    rw [tellK_again a b h k (by omega), tellD_put a b h _ k (by omega) (Or.inr (setF_self b _)), setF_self]
theorem tellK_right (a b : V) (h : b.May) : ∀ k, ∀ s ∈ tellK a b k, wrongC s false = 0
  | 0, s, hs => by simp [tellK] at hs
  | k + 1, s, hs => by
    simp only [tellK, List.mem_append] at hs
    exact hs.elim (tellK_right a b h k s) (tellD_right a b h _ s)
theorem tellD_same (b : V) (d : Int) : tellD b b d = [] := by unfold tellD; simp
theorem tellR_same (b : V) : tellR b b = [] := by simp [tellR, tellK, tellD_same]
theorem tellR_ok (a b : V) (h : b.May) : ∀ s ∈ tellR a b, s.Ok := by
  have hd : ∀ d : Int, 0 ≤ d → d ≤ 6 → ∀ s ∈ tellD a b d, s.Ok := by
    intro d d0 d1 s hs
    have hn := numOf_may h d
    unfold tellD at hs
    split at hs
    · split at hs
      · simp at hs
      · simp at hs; subst hs
        exact ⟨by simp, by simp, by simp; split <;> simp, by simp; split <;> simp⟩
    · split at hs
      · simp at hs
      · simp at hs; subst hs
        exact ⟨by simp; omega, by simp; omega, hn.1, hn.2⟩
  have : ∀ k, k ≤ 6 → ∀ s ∈ tellK a b k, s.Ok := by
    intro k
    induction k with
    | zero => intro _ s hs; simp [tellK] at hs
    | succ k ih =>
      intro hk s hs
      simp only [tellK, List.mem_append] at hs
      exact hs.elim (ih (by omega) s) (hd _ (by omega) (by omega) s)
  exact this 6 (Nat.le_refl _)
theorem nowK_all (v : V) (l : List S) : nowK v l l.length = l.foldl putV v := by unfold nowK; rw [List.take_length]
/-- What is told and applied: no fault, and the values are the new ones; applied again likewise. -/
theorem back (a b : V) (h : b.May) : allC (tellR a b) false = 0 ∧ allV a (tellR a b) false = b ∧ allV b (tellR a b) false = b := by
  have h0 : allC (tellR a b) false = 0 := allC_ok (tellK_right a b h 6)
  refine ⟨h0, ?_, ?_⟩
  · unfold allV; rw [if_pos h0, nowK_all]
    show (tellK a b 6).foldl putV a = b
    rw [tellK_put a b h 6 (Nat.le_refl _), upto_six]
  · unfold allV; rw [if_pos h0, nowK_all]
    exact tellK_again a b h 6 (Nat.le_refl _)

/-! ### Two settings of unlike numbers -/
theorem putV_comm (v : V) (s t : S) (h : s.id ≠ t.id) : putV (putV v s) t = putV (putV v t) s := by
  obtain ⟨d, m⟩ := s; obtain ⟨e, n⟩ := t
  dsimp only at h
  unfold putV
  dsimp only
  by_cases d1 : d = 1 <;> by_cases d2 : d = 2 <;> by_cases d3 : d = 3 <;> by_cases d4 : d = 4 <;> by_cases d5 : d = 5 <;> by_cases d6 : d = 6 <;> first | (exfalso; omega) | skip
  all_goals (by_cases e1 : e = 1 <;> by_cases e2 : e = 2 <;> by_cases e3 : e = 3 <;> by_cases e4 : e = 4 <;> by_cases e5 : e = 5 <;> by_cases e6 : e = 6 <;> first | (exfalso; omega) | simp [*])
theorem allC_two (s t : S) (server : Bool) : allC [s, t] server = if wrongC s server = 0 then wrongC t server else wrongC s server := by
  unfold allC
  by_cases h : wrongC s server = 0
  · rw [List.find?_cons_of_neg (by simpa using h), if_pos h]
    by_cases h' : wrongC t server = 0
    · rw [List.find?_cons_of_neg (by simpa using h')]; simp [h']
    · rw [List.find?_cons_of_pos (by simpa using h')]
  · rw [List.find?_cons_of_pos (by simpa using h), if_neg h]
theorem apart (v : V) (s t : S) (server : Bool) (h : s.id ≠ t.id) :
    (¬ allC [s, t] server = 0 ∧ ¬ allC [t, s] server = 0 ∧ allV v [s, t] server = v ∧ allV v [t, s] server = v) ∨
    (allC [s, t] server = 0 ∧ allC [t, s] server = 0 ∧ allV v [s, t] server = allV v [t, s] server) := by
  unfold allV
  rw [allC_two, allC_two]
  by_cases hs : wrongC s server = 0 <;> by_cases ht : wrongC t server = 0
  · refine Or.inr ⟨by simp [hs, ht], by simp [hs, ht], ?_⟩
    simp [hs, ht, nowK, putV_comm v s t h]
  · exact Or.inl (by simp [hs, ht])
  · exact Or.inl (by simp [hs, ht])
  · exact Or.inl (by simp [hs, ht])
theorem or64 (n : Int) : let m := bits .or .i64 n 64; ¬ m = 1 ∧ ¬ m = 2 ∧ ¬ m = 3 ∧ ¬ m = 4 ∧ ¬ m = 5 ∧ ¬ m = 6 := by
  intro m
  have hb : (BitVec.ofInt 64 n ||| BitVec.ofInt 64 64).getLsbD 6 = true := by
    rw [BitVec.getLsbD_or]
    have : (BitVec.ofInt 64 64).getLsbD 6 = true := by decide
    rw [this, Bool.or_true]
  have hm : m = IntKind.i64.wrap ((BitVec.ofInt 64 n ||| BitVec.ofInt 64 64).toNat : Nat) := rfl
  generalize BitVec.ofInt 64 n ||| BitVec.ofInt 64 64 = y at hb hm
  have hy : y.toNat < 18446744073709551616 := y.isLt
  rw [IntKind.wrap_i64] at hm
  have ht : y.toNat.testBit 6 = true := hb
  have key : ∀ k : Nat, k < 7 → m = (k : Int) → False := by
    intro k hk he
    have h1 : y.toNat = k := by omega
    rw [h1] at ht
    have : k = 0 ∨ k = 1 ∨ k = 2 ∨ k = 3 ∨ k = 4 ∨ k = 5 ∨ k = 6 := by omega
    rcases this with rfl | rfl | rfl | rfl | rfl | rfl | rfl <;> simp [Nat.testBit] at ht
  refine ⟨fun h => key 1 (by omega) h, fun h => key 2 (by omega) h, fun h => key 3 (by omega) h, fun h => key 4 (by omega) h, fun h => key 5 (by omega) h, fun h => key 6 (by omega) h⟩
end Go.Proofs.Ytanfibaphoficaa.Set
