/-
  What a parser tells of all its octets, in whatever pieces they come.
-/
import Derived.Test.YthhgnipiaohplaaFnt
namespace Go.Proofs.Ythhgnipiaohplaa.Fr
open Go.ChangeShapes Go.WideShapes Go.ChangeAt Go.RowKit
open Go.Proofs.Ythhgnipiaohplaa.B
set_option linter.unusedVariables false
set_option linter.unusedSimpArgs false

theorem strayB_2 (st : Nat) (h : strayB ((2 : Nat) : Int) (st : Int) = false) : 0 < st := by
  have h1 : ((st : Int) == 0) = false := h
  have : (st : Int) ≠ 0 := by simpa using h1
  omega
theorem ownK_pos {k st code : Nat} (h : ownK k st code = true) (hs : strayB (k : Int) (st : Int) = false) : 0 < st := by
  unfold ownK at h
  by_cases hk : k = 2
  · subst hk; exact strayB_2 st hs
  · have h2 : (k == 2) = false := by simp [hk]
    rw [h2] at h
    simp at h
    exact h.2
theorem drop9 {α : Type} (a b c k fl s1 s2 s3 s4 : α) (r : List α) (n : Nat) : (a :: b :: c :: k :: fl :: s1 :: s2 :: s3 :: s4 :: r).drop (9 + n) = r.drop n := by
  rw [Nat.add_comm]; rfl
/-- What comes next, and how much it takes. -/
theorem nxt_takes {mx : Nat} {l : List UInt8} :
    (∀ F r, nxt mx l = .frame F r → ∃ n, 9 + n ≤ l.length ∧ n ≤ mx ∧ r = l.drop (9 + n) ∧ ∀ m, nxt mx (l ++ m) = .frame F (r ++ m)) ∧
    (∀ c st r, nxt mx l = .fault c st r → 0 < st ∧ c ≠ 0 ∧ ∃ n, 9 + n ≤ l.length ∧ n ≤ mx ∧ r = l.drop (9 + n) ∧ ∀ m, nxt mx (l ++ m) = .fault c st (r ++ m)) ∧
    (∀ c, nxt mx l = .broken c → c ≠ 0 ∧ ∀ m, nxt mx (l ++ m) = .broken c) ∧
    (nxt mx l = .none → l.length < mx + 9 ∨ l.length < 9) := by
  by_cases h9 : l.length < 9
  · rw [nxt_short h9]
    exact ⟨fun _ _ h => (by cases h), fun _ _ _ h => (by cases h), fun _ h => (by cases h), fun _ => Or.inr h9⟩
  · obtain ⟨a, b, c, k, fl, s1, s2, s3, s4, r, rfl⟩ := split9 (l := l) (by omega)
    have hx : ∀ m, nxt mx ((a :: b :: c :: k :: fl :: s1 :: s2 :: s3 :: s4 :: r) ++ m) = nxt9 mx a b c k fl s1 s2 s3 s4 (r ++ m) := fun m => rfl
    have h0 : nxt mx (a :: b :: c :: k :: fl :: s1 :: s2 :: s3 :: s4 :: r) = nxt9 mx a b c k fl s1 s2 s3 s4 r := rfl
    simp only [hx, h0]
    unfold nxt9
    by_cases hb : mx < threeN a b c
    · simp only [if_pos hb]
      exact ⟨fun _ _ h => (by cases h), fun _ _ _ h => (by cases h), fun _ h => (by cases h; exact ⟨by decide, fun _ => rfl⟩), fun h => (by cases h)⟩
    · simp only [if_neg hb]
      by_cases hr : r.length < threeN a b c
      · simp only [if_pos hr]
        exact ⟨fun _ _ h => (by cases h), fun _ _ _ h => (by cases h), fun _ h => (by cases h), fun _ => Or.inl (by simp; omega)⟩
      · have hr2 : ∀ m : List UInt8, ¬ (r ++ m).length < threeN a b c := fun m => by rw [List.length_append]; omega
        have ht : ∀ m : List UInt8, (r ++ m).take (threeN a b c) = r.take (threeN a b c) := fun m => List.take_append_of_le_length (by omega)
        have hd : ∀ m : List UInt8, (r ++ m).drop (threeN a b c) = r.drop (threeN a b c) ++ m := fun m => List.drop_append_of_le_length (by omega)
        simp only [if_neg hr, if_neg (hr2 _), ht, hd]
        cases hs : strayB ((k.toNat : Nat) : Int) ((fourN s1 s2 s3 s4 % 2147483648 : Nat) : Int) with
        | true =>
          simp only [if_true]
          exact ⟨fun _ _ h => (by cases h), fun _ _ _ h => (by cases h), fun _ h => (by cases h; exact ⟨by decide, fun _ => rfl⟩), fun h => (by cases h)⟩
        | false =>
          simp only [Bool.false_eq_true, if_false]
          generalize hR : kindR k.toNat (rg0 k.toNat (fourN s1 s2 s3 s4 % 2147483648) fl (r.take (threeN a b c))) = R
          have hdr : (r.drop (threeN a b c)) = (a :: b :: c :: k :: fl :: s1 :: s2 :: s3 :: s4 :: r).drop (9 + threeN a b c) := (drop9 _ _ _ _ _ _ _ _ _ _ _).symm
          have hln : 9 + threeN a b c ≤ (a :: b :: c :: k :: fl :: s1 :: s2 :: s3 :: s4 :: r).length := by simp; omega
          unfold outR
          by_cases hc : R.code = 0
          · simp only [if_pos hc]
            refine ⟨fun F r' h => ?_, fun _ _ _ h => (by cases h), fun _ h => (by cases h), fun h => (by cases h)⟩
            cases h
            exact ⟨threeN a b c, hln, by omega, hdr, fun m => rfl⟩
          · simp only [if_neg hc]
            cases ho : ownK k.toNat (fourN s1 s2 s3 s4 % 2147483648) R.code with
            | true =>
              simp only [if_true]
              refine ⟨fun _ _ h => (by cases h), fun c' st r' h => ?_, fun _ h => (by cases h), fun h => (by cases h)⟩
              cases h
              exact ⟨ownK_pos ho hs, hc, threeN a b c, hln, by omega, hdr, fun m => rfl⟩
            | false =>
              simp only [Bool.false_eq_true, if_false]
              exact ⟨fun _ _ h => (by cases h), fun _ _ _ h => (by cases h), fun _ h => (by cases h; exact ⟨hc, fun _ => rfl⟩), fun h => (by cases h)⟩
theorem nxt_none {mx : Nat} {l : List UInt8} (h : nxt mx l = .none) (hm : 0 < mx) : l.length < mx + 9 := by
  rcases nxt_takes.2.2.2 h with h | h <;> omega
theorem nxt_frame_len {mx : Nat} {l r : List UInt8} {F : Fm} (h : nxt mx l = .frame F r) : r.length + 9 ≤ l.length := by
  obtain ⟨n, h1, _, rfl, _⟩ := nxt_takes.1 F r h
  rw [List.length_drop]; omega
theorem nxt_fault_len {mx c st : Nat} {l r : List UInt8} (h : nxt mx l = .fault c st r) : r.length + 9 ≤ l.length := by
  obtain ⟨_, _, n, h1, _, rfl, _⟩ := nxt_takes.2.1 c st r h
  rw [List.length_drop]; omega
theorem nxt_len {mx : Nat} {l : List UInt8} (h : nxt mx l ≠ .none) : 9 ≤ l.length := by
  rcases Nat.lt_or_ge l.length 9 with h9 | h9
  · exact absurd (nxt_short h9) h
  · exact h9
/-- What is told: a frame, or a fault (its code, its stream). -/
structure Out where
  F : Fm
  is : Bool
  code : Nat
  st : Nat
def noFm : Fm := fm0 0 0
def badO (c st : Nat) : Out := ⟨noFm, true, c, st⟩
def okO (F : Fm) : Out := ⟨F, false, 0, 0⟩
/-- All that is told of octets, what is left of them, and whether the connection is at an end. -/
inductive Dr (mx : Nat) : List UInt8 → List Out → List UInt8 → Bool → Prop
  | none {l} (h : nxt mx l = .none) : Dr mx l [] l false
  | broken {l c} (h : nxt mx l = .broken c) : Dr mx l [badO c 0] [] true
  | fault {l c st r o r' d} (h : nxt mx l = .fault c st r) (k : Dr mx r o r' d) : Dr mx l (badO c st :: o) r' d
  | frame {l F r o r' d} (h : nxt mx l = .frame F r) (k : Dr mx r o r' d) : Dr mx l (okO F :: o) r' d
theorem Dr.fn {mx : Nat} {l : List UInt8} {o r d} (h : Dr mx l o r d) : ∀ {o' r' d'}, Dr mx l o' r' d' → o = o' ∧ r = r' ∧ d = d' := by
  induction h with
  | none h =>
    intro o' r' d' k
    cases k with
    | none k => exact ⟨rfl, rfl, rfl⟩
    | broken k => rw [h] at k; cases k
    | fault k _ => rw [h] at k; cases k
    | frame k _ => rw [h] at k; cases k
  | broken h =>
    intro o' r' d' k
    cases k with
    | none k => rw [h] at k; cases k
    | broken k => rw [h] at k; cases k; exact ⟨rfl, rfl, rfl⟩
    | fault k _ => rw [h] at k; cases k
    | frame k _ => rw [h] at k; cases k
  | fault h _ ih =>
    intro o' r' d' k
    cases k with
    | none k => rw [h] at k; cases k
    | broken k => rw [h] at k; cases k
    | fault k k2 => rw [h] at k; cases k; obtain ⟨rfl, rfl, rfl⟩ := ih k2; exact ⟨rfl, rfl, rfl⟩
    | frame k _ => rw [h] at k; cases k
  | frame h _ ih =>
    intro o' r' d' k
    cases k with
    | none k => rw [h] at k; cases k
    | broken k => rw [h] at k; cases k
    | fault k _ => rw [h] at k; cases k
    | frame k k2 => rw [h] at k; cases k; obtain ⟨rfl, rfl, rfl⟩ := ih k2; exact ⟨rfl, rfl, rfl⟩
theorem Dr.more {mx : Nat} {l : List UInt8} {o r d} (h : Dr mx l o r d) : ∀ {m : List UInt8}, (d = true → Dr mx (l ++ m) o r d) ∧ (d = false → ∀ {o' r' d'}, Dr mx (r ++ m) o' r' d' → Dr mx (l ++ m) (o ++ o') r' d') := by
  induction h with
  | none h => intro m; exact ⟨fun h => (by cases h), fun _ _ _ _ k => k⟩
  | broken h => intro m; exact ⟨fun _ => .broken ((nxt_takes.2.2.1 _ h).2 m), fun h => (by cases h)⟩
  | fault h _ ih =>
    intro m
    obtain ⟨_, _, _, _, _, _, h2⟩ := nxt_takes.2.1 _ _ _ h
    exact ⟨fun hd => .fault (h2 m) (ih.1 hd), fun hd _ _ _ k => .fault (h2 m) (ih.2 hd k)⟩
  | frame h _ ih =>
    intro m
    obtain ⟨_, _, _, _, h2⟩ := nxt_takes.1 _ _ h
    exact ⟨fun hd => .frame (h2 m) (ih.1 hd), fun hd _ _ _ k => .frame (h2 m) (ih.2 hd k)⟩
/-- What is left. -/
theorem Dr.left {mx : Nat} {l : List UInt8} {o r d} (h : Dr mx l o r d) : (d = true → r = []) ∧ (d = false → nxt mx r = .none) ∧ r.length + 9 * o.length ≤ l.length + (if d then 9 else 0) ∧ o.length ≤ l.length := by
  induction h with
  | none h => exact ⟨fun h => (by cases h), fun _ => h, by simp, by simp⟩
  | @broken l c h =>
    have := nxt_len (mx := mx) (l := l) (by rw [h]; intro hc; cases hc)
    exact ⟨fun _ => rfl, fun h => (by cases h), by simp, by simp; omega⟩
  | fault h _ ih =>
    have := nxt_fault_len h
    refine ⟨ih.1, ih.2.1, ?_, ?_⟩
    · have := ih.2.2.1; simp only [List.length_cons]; omega
    · have := ih.2.2.2; simp only [List.length_cons]; omega
  | frame h _ ih =>
    have := nxt_frame_len h
    refine ⟨ih.1, ih.2.1, ?_, ?_⟩
    · have := ih.2.2.1; simp only [List.length_cons]; omega
    · have := ih.2.2.2; simp only [List.length_cons]; omega
theorem Dr.has (mx : Nat) : ∀ (n : Nat) (l : List UInt8), l.length ≤ n → ∃ o r d, Dr mx l o r d := by
  intro n
  induction n with
  | zero => intro l hl; exact ⟨_, _, _, .none (nxt_short (by omega))⟩
  | succ n ih =>
    intro l hl
    cases h : nxt mx l with
    | none => exact ⟨_, _, _, .none h⟩
    | broken c => exact ⟨_, _, _, .broken h⟩
    | fault c st r =>
      obtain ⟨o, r', d, k⟩ := ih r (by have := nxt_fault_len h; omega)
      exact ⟨_, _, _, .fault h k⟩
    | frame F r =>
      obtain ⟨o, r', d, k⟩ := ih r (by have := nxt_frame_len h; omega)
      exact ⟨_, _, _, .frame h k⟩
/-- A parser in its state: behind an end nothing is held, else nothing is left to tell. -/
def St (mx : Nat) (l : List UInt8) (o : List Out) (r : List UInt8) (d : Bool) : Prop := Dr mx l o r d
end Go.Proofs.Ythhgnipiaohplaa.Fr
