/-
  The walks of window.Credit and of its reference.
-/
import Derived.Test.YtpnpnmcfknhnmaaWin
namespace Go.Proofs.Ytpnpnmcfknhnmaa.Cre
open Go.ChangeShapes Go.WideShapes Go.ChangeAt Go.RowKit
open Go.Proofs.Ytpnpnmcfknhnmaa.B Go.Proofs.Ytpnpnmcfknhnmaa.Win
set_option linter.unusedVariables false
set_option linter.unusedSimpArgs false

/-- A credit: its window, what is held, what is freed. -/
structure St where
  W : Int
  H : Int
  F : Int
structure St.Ok (s : St) : Prop where
  w1 : 1 ≤ s.W
  w2 : s.W ≤ 2147483647
  h : 0 ≤ s.H
  f : 0 ≤ s.F
  s : s.H + s.F ≤ s.W
def St.left (s : St) : Int := s.W - s.H - s.F
def gotE (s : St) (n : Int) : Int := if n < 0 then 1 else if s.left < n then 8 else 0
def gotS (s : St) (n : Int) : St := if n < 0 ∨ s.left < n then s else { s with H := s.H + n }
def freeE (s : St) (n : Int) : Int := if n < 0 ∨ s.H < n then 1 else 0
def freeS (s : St) (n : Int) : St := if n < 0 ∨ s.H < n then s else { s with H := s.H - n, F := s.F + n }
def dueV (s : St) : Int := if 2 * s.F < s.W then 0 else s.F
def giveS (s : St) : St := { s with F := s.F - dueV s }
def newS (n : Int) : St := ⟨min (max n 1) 2147483647, 0, 0⟩

theorem gotOk {s : St} (n : Int) (h : s.Ok) : (gotS s n).Ok := by
  obtain ⟨a, b, c, d, e⟩ := h
  unfold gotS; split
  · exact ⟨a, b, c, d, e⟩
  · rename_i hh; unfold St.left at hh; exact ⟨a, b, by simp; omega, d, by simp; omega⟩
theorem freeOk {s : St} (n : Int) (h : s.Ok) : (freeS s n).Ok := by
  obtain ⟨a, b, c, d, e⟩ := h
  unfold freeS; split
  · exact ⟨a, b, c, d, e⟩
  · exact ⟨a, b, by simp; omega, by simp; omega, by simp; omega⟩
theorem giveOk {s : St} (h : s.Ok) : (giveS s).Ok := by
  obtain ⟨a, b, c, d, e⟩ := h
  unfold giveS dueV; split
  · exact ⟨a, b, c, by simp; omega, by simp; omega⟩
  · exact ⟨a, b, c, by simp, by simp; omega⟩
theorem newOk (n : Int) : (newS n).Ok := ⟨by simp [newS]; omega, by simp [newS]; omega, by simp [newS], by simp [newS], by simp [newS]; omega⟩

/-- The credit's block. -/
def cr (s : St) : Obj := .cells #[.int .i64 s.W, .int .i64 s.H, .int .i64 s.F] 44 (0, 0)
def rc (s : St) : Obj := .cells #[.int .i64 s.W, .int .i64 s.left, .int .i64 s.H, .int .i64 s.F] 34 (0, 0)

theorem left_any (b : Nat) (s : St) (w : World) (h : At w b (cr s)) (ho : s.Ok) :
    Calls Try.prog 20 #[.pointer (some ⟨b, 0, none⟩)] w fun e w' => e = .returned (.int .i64 s.left) ∧ ∃ n, w' = w.drewN n := by
  have c0 := h.cell (o := 0) rfl; have c1 := h.cell (o := 1) rfl; have c2 := h.cell (o := 2) rfl
  obtain ⟨h1, h2, h3, h4, h5⟩ := ho
  go_enter Try.func20, Try.ntmps20
  go_wp2
  go_quiet (fail)
  go_wp2
  go_ret
  exact ⟨rfl, _, rfl⟩
theorem held_any (b : Nat) (s : St) (w : World) (h : At w b (cr s)) :
    Calls Try.prog 21 #[.pointer (some ⟨b, 0, none⟩)] w fun e w' => e = .returned (.int .i64 s.H) ∧ ∃ n, w' = w.drewN n := by
  have c0 := h.cell (o := 0) rfl; have c1 := h.cell (o := 1) rfl; have c2 := h.cell (o := 2) rfl
  go_enter Try.func21, Try.ntmps21
  go_wp2
  go_ret
  exact ⟨rfl, 0, rfl⟩
theorem due_any (b : Nat) (s : St) (w : World) (h : At w b (cr s)) (ho : s.Ok) :
    Calls Try.prog 16 #[.pointer (some ⟨b, 0, none⟩)] w fun e w' => e = .returned (.int .i64 (dueV s)) ∧ ∃ n, w' = w.drewN n := by
  have c0 := h.cell (o := 0) rfl; have c1 := h.cell (o := 1) rfl; have c2 := h.cell (o := 2) rfl
  obtain ⟨h1, h2, h3, h4, h5⟩ := ho
  by_cases hd : s.F < s.W - s.F
  all_goals
    go_enter Try.func16, Try.ntmps16
    go_wp2
    go_quiet (fail)
    go_wp2
    go_ret
    exact ⟨ret_int (by unfold dueV; split <;> omega), _, rfl⟩
theorem got_any (b : Nat) (s : St) (n : Int) (w : World) (h : At w b (cr s)) (ho : s.Ok) (hn : -9223372036854775808 ≤ n ∧ n ≤ 9223372036854775807) :
    Calls Try.prog 12 #[.pointer (some ⟨b, 0, none⟩), .int .i64 n] w fun e w' => e = .returned (.int .i64 (gotE s n)) ∧ Chg [b] w w' ∧ At w' b (cr (gotS s n)) := by
  have c0 := h.cell (o := 0) rfl; have c1 := h.cell (o := 1) rfl; have c2 := h.cell (o := 2) rfl; have f1 := h.free 1
  have HO := Lib.hid ho
  obtain ⟨h1, h2, h3, h4, h5⟩ := ho
  have hL : s.left ≤ s.W - s.H - s.F := Int.le_refl _
  rcases ltC n 0 with ⟨k1, q1⟩ | ⟨k1, q1⟩
  · go_enter Try.func12, Try.ntmps12
    go_wp2_with fail
    go_ret
    exact ⟨ret_int (by unfold gotE; rw [if_pos k1]), Chg.refl _, by unfold gotS; rw [if_pos (Or.inl k1)]; exact h⟩
  rcases ltC s.left n with ⟨k2, q2⟩ | ⟨k2, q2⟩
  all_goals
    go_enter Try.func12, Try.ntmps12
    go_wp2_with (go_at_call 20; refine (left_any b s _ h HO.out).mono ?_; rintro e w' ⟨rfl, nq, rfl⟩)
    go_ret
  · exact ⟨ret_int (by unfold gotE; rw [if_neg (by omega), if_pos k2]), (Chg.refl _).drewN _, by unfold gotS; rw [if_pos (Or.inr k2)]; exact h⟩
  · have hs : gotS s n = ⟨s.W, s.H + n, s.F⟩ := if_neg (by omega)
    exact ⟨ret_int (by unfold gotE; rw [if_neg (by omega), if_neg (by omega)]), ((Chg.refl _).drewN _).setCell (Or.inl (by simp)) _, by rw [hs]; exact (h.drewN _).set 1 _⟩
theorem free_any (b : Nat) (s : St) (n : Int) (w : World) (h : At w b (cr s)) (ho : s.Ok) (hn : -9223372036854775808 ≤ n ∧ n ≤ 9223372036854775807) :
    Calls Try.prog 14 #[.pointer (some ⟨b, 0, none⟩), .int .i64 n] w fun e w' => e = .returned (.int .i64 (freeE s n)) ∧ Chg [b] w w' ∧ At w' b (cr (freeS s n)) := by
  have c0 := h.cell (o := 0) rfl; have c1 := h.cell (o := 1) rfl; have c2 := h.cell (o := 2) rfl; have f1 := h.free 1; have f2 := h.free 2
  obtain ⟨h1, h2, h3, h4, h5⟩ := ho
  rcases ltC n 0 with ⟨k1, q1⟩ | ⟨k1, q1⟩
  · go_enter Try.func14, Try.ntmps14
    go_wp2_with fail
    go_ret
    exact ⟨ret_int (by unfold freeE; rw [if_pos (Or.inl k1)]), Chg.refl _, by unfold freeS; rw [if_pos (Or.inl k1)]; exact h⟩
  rcases ltC s.H n with ⟨k2, q2⟩ | ⟨k2, q2⟩
  all_goals
    go_enter Try.func14, Try.ntmps14
    go_wp2_with fail
    go_ret
  · exact ⟨ret_int (by unfold freeE; rw [if_pos (Or.inr k2)]), Chg.refl _, by unfold freeS; rw [if_pos (Or.inr k2)]; exact h⟩
  · have hs : freeS s n = ⟨s.W, s.H - n, s.F + n⟩ := if_neg (by omega)
    exact ⟨ret_int (by unfold freeE; rw [if_neg (by omega)]), ((Chg.refl _).setCell (Or.inl (by simp)) _).setCell (Or.inl (by simp)) _, by rw [hs]; exact (h.set 1 _).set 2 _⟩
theorem give_any (b : Nat) (s : St) (w : World) (h : At w b (cr s)) (ho : s.Ok) :
    Calls Try.prog 18 #[.pointer (some ⟨b, 0, none⟩)] w fun e w' => e = .returned (.int .i64 (dueV s)) ∧ Chg [b] w w' ∧ At w' b (cr (giveS s)) := by
  have c0 := h.cell (o := 0) rfl; have c1 := h.cell (o := 1) rfl; have c2 := h.cell (o := 2) rfl; have f2 := h.free 2
  have HO := Lib.hid ho
  obtain ⟨h1, h2, h3, h4, h5⟩ := ho
  have hL : 0 ≤ dueV s ∧ dueV s ≤ s.F := by unfold dueV; split <;> omega
  obtain ⟨hL1, hL2⟩ := hL
  go_enter Try.func18, Try.ntmps18
  go_wp2_with (go_at_call 16; refine (due_any b s _ h HO.out).mono ?_; rintro e w' ⟨rfl, nq, rfl⟩)
  go_ret
  exact ⟨rfl, ((Chg.refl _).drewN _).setCell (Or.inl (by simp)) _, (h.drewN _).set 2 _⟩
theorem new_any (n : Int) (w : World) :
    Calls Try.prog 10 #[.int .i64 n] w fun e w' => e = .returned (.pointer (some ⟨w.heap.size, 0, none⟩)) ∧ Chg [] w w' ∧ At w' w.heap.size (cr (newS n)) := by
  go_enter Try.func10, Try.ntmps10
  go_wp2_with fail
  go_ret
  exact ⟨rfl, (Chg.refl _).alloc _, At.new _ _⟩

/-! ### The reference -/
theorem rdue_any (b : Nat) (s : St) (w : World) (h : At w b (rc s)) (ho : s.Ok) :
    Calls Try.prog 17 #[.pointer (some ⟨b, 0, none⟩)] w fun e w' => e = .returned (.int .i64 (dueV s)) ∧ ∃ n, w' = w.drewN n := by
  have c0 := h.cell (o := 0) rfl; have c1 := h.cell (o := 1) rfl; have c2 := h.cell (o := 2) rfl; have c3 := h.cell (o := 3) rfl
  obtain ⟨h1, h2, h3, h4, h5⟩ := ho
  by_cases hd : s.W ≤ 2 * s.F
  all_goals
    go_enter Try.func17, Try.ntmps17
    go_wp2
    go_quiet (fail)
    go_wp2
    go_ret
    exact ⟨ret_int (by unfold dueV; split <;> omega), _, rfl⟩
theorem rgot_any (b : Nat) (s : St) (n : Int) (w : World) (h : At w b (rc s)) (ho : s.Ok) (hn : -9223372036854775808 ≤ n ∧ n ≤ 9223372036854775807) :
    Calls Try.prog 13 #[.pointer (some ⟨b, 0, none⟩), .int .i64 n] w fun e w' => e = .returned (.int .i64 (gotE s n)) ∧ Chg [b] w w' ∧ At w' b (rc (gotS s n)) := by
  have c0 := h.cell (o := 0) rfl; have c1 := h.cell (o := 1) rfl; have c2 := h.cell (o := 2) rfl; have c3 := h.cell (o := 3) rfl
  have f1 := h.free 1; have f2 := h.free 2
  obtain ⟨h1, h2, h3, h4, h5⟩ := ho
  have hL : s.left ≤ s.W - s.H - s.F := Int.le_refl _
  have hL' : s.W - s.H - s.F ≤ s.left := Int.le_refl _
  rcases ltC n 0 with ⟨k1, q1⟩ | ⟨k1, q1⟩
  · go_enter Try.func13, Try.ntmps13
    go_wp2_with fail
    go_ret
    exact ⟨ret_int (by unfold gotE; rw [if_pos k1]), Chg.refl _, by unfold gotS; rw [if_pos (Or.inl k1)]; exact h⟩
  rcases ltC s.left n with ⟨k2, q2⟩ | ⟨k2, q2⟩
  all_goals
    go_enter Try.func13, Try.ntmps13
    go_wp2_with fail
    go_ret
  · exact ⟨ret_int (by unfold gotE; rw [if_neg (by omega), if_pos k2]), Chg.refl _, by unfold gotS; rw [if_pos (Or.inr k2)]; exact h⟩
  · have hs : gotS s n = ⟨s.W, s.H + n, s.F⟩ := if_neg (by omega)
    have hl : St.left ⟨s.W, s.H + n, s.F⟩ = s.left - n := by unfold St.left; simp; omega
    exact ⟨ret_int (by unfold gotE; rw [if_neg (by omega), if_neg (by omega)]), ((Chg.refl _).setCell (Or.inl (by simp)) _).setCell (Or.inl (by simp)) _, by rw [hs]; unfold rc; rw [hl]; exact (h.set 1 _).set 2 _⟩
theorem rfree_any (b : Nat) (s : St) (n : Int) (w : World) (h : At w b (rc s)) (ho : s.Ok) (hn : -9223372036854775808 ≤ n ∧ n ≤ 9223372036854775807) :
    Calls Try.prog 15 #[.pointer (some ⟨b, 0, none⟩), .int .i64 n] w fun e w' => e = .returned (.int .i64 (freeE s n)) ∧ Chg [b] w w' ∧ At w' b (rc (freeS s n)) := by
  have c0 := h.cell (o := 0) rfl; have c1 := h.cell (o := 1) rfl; have c2 := h.cell (o := 2) rfl; have c3 := h.cell (o := 3) rfl
  have f2 := h.free 2; have f3 := h.free 3
  obtain ⟨h1, h2, h3, h4, h5⟩ := ho
  rcases ltC n 0 with ⟨k1, q1⟩ | ⟨k1, q1⟩
  · go_enter Try.func15, Try.ntmps15
    go_wp2_with fail
    go_ret
    exact ⟨ret_int (by unfold freeE; rw [if_pos (Or.inl k1)]), Chg.refl _, by unfold freeS; rw [if_pos (Or.inl k1)]; exact h⟩
  rcases ltC s.H n with ⟨k2, q2⟩ | ⟨k2, q2⟩
  all_goals
    go_enter Try.func15, Try.ntmps15
    go_wp2_with fail
    go_ret
  · exact ⟨ret_int (by unfold freeE; rw [if_pos (Or.inr k2)]), Chg.refl _, by unfold freeS; rw [if_pos (Or.inr k2)]; exact h⟩
  · have hs : freeS s n = ⟨s.W, s.H - n, s.F + n⟩ := if_neg (by omega)
    have hl : St.left ⟨s.W, s.H - n, s.F + n⟩ = s.left := by unfold St.left; simp; omega
    exact ⟨ret_int (by unfold freeE; rw [if_neg (by omega)]), ((Chg.refl _).setCell (Or.inl (by simp)) _).setCell (Or.inl (by simp)) _, by rw [hs]; unfold rc; rw [hl]; exact (h.set 2 _).set 3 _⟩
theorem rgive_any (b : Nat) (s : St) (w : World) (h : At w b (rc s)) (ho : s.Ok) :
    Calls Try.prog 19 #[.pointer (some ⟨b, 0, none⟩)] w fun e w' => e = .returned (.int .i64 (dueV s)) ∧ Chg [b] w w' ∧ At w' b (rc (giveS s)) := by
  have c0 := h.cell (o := 0) rfl; have c1 := h.cell (o := 1) rfl; have c2 := h.cell (o := 2) rfl; have c3 := h.cell (o := 3) rfl
  have f1 := h.free 1; have f3 := h.free 3
  have HO := Lib.hid ho
  obtain ⟨h1, h2, h3, h4, h5⟩ := ho
  have hL : 0 ≤ dueV s ∧ dueV s ≤ s.F := by unfold dueV; split <;> omega
  obtain ⟨hL1, hL2⟩ := hL
  have hL : s.left ≤ s.W - s.H - s.F := Int.le_refl _
  have hL' : s.W - s.H - s.F ≤ s.left := Int.le_refl _
  go_enter Try.func19, Try.ntmps19
  go_wp2_with (go_at_call 17; refine (rdue_any b s _ h HO.out).mono ?_; rintro e w' ⟨rfl, nq, rfl⟩)
  go_ret
  have hl : (giveS s).left = s.left + dueV s := by unfold giveS St.left; simp; omega
  exact ⟨rfl, (((Chg.refl _).drewN _).setCell (Or.inl (by simp)) _).setCell (Or.inl (by simp)) _, by unfold rc; rw [hl]; exact ((h.drewN _).set 1 _).set 3 _⟩
theorem rnew_any (n : Int) (w : World) :
    Calls Try.prog 11 #[.int .i64 n] w fun e w' => e = .returned (.pointer (some ⟨w.heap.size, 0, none⟩)) ∧ Chg [] w w' ∧ At w' w.heap.size (rc (newS n)) := by
  have hm : max 1 (min n 2147483647) = min (max n 1) 2147483647 := by omega
  have HM := Lib.hid hm; clear hm
  go_enter Try.func11, Try.ntmps11
  go_wp2_with fail
  go_ret
  refine ⟨rfl, (Chg.refl _).alloc _, ?_⟩
  have hl : (newS n).left = (newS n).W := by unfold newS St.left; simp
  unfold rc; rw [hl]; unfold newS; dsimp only; rw [← HM.out]
  exact At.new _ _
end Go.Proofs.Ytpnpnmcfknhnmaa.Cre
