/-
  The walks of package settings: place, wrong, Apply.
-/
import Derived.Test.YtanfibaphoficaaBase
import Derived.Test.YtanfibaphoficaaRows
namespace Go.Proofs.Ytanfibaphoficaa.Set
open Go.ChangeShapes Go.WideShapes Go.ChangeAt Go.RowKit
open Go.Proofs.Ytanfibaphoficaa.B
set_option linter.unusedVariables false
set_option linter.unusedSimpArgs false

structure V where
  table : Int
  push : Bool
  streams : Int
  window : Int
  frame : Int
  list : Int
def vA (v : V) : Array Value := #[.int .i64 v.table, .bool v.push, .int .i64 v.streams, .int .i64 v.window, .int .i64 v.frame, .int .i64 v.list]
/-- A setting: its number and value. -/
structure S where
  id : Int
  val : Int
def sA (s : S) : Array Value := #[.int .i64 s.id, .int .u32 s.val]
structure S.Ok (s : S) : Prop where
  i0 : -9223372036854775808 ≤ s.id
  i1 : s.id ≤ 9223372036854775807
  v0 : 0 ≤ s.val
  v1 : s.val ≤ 4294967295
/-- A fault's code: 0 is none. -/
def fA (c : Int) : Array Value := #[.bool (decide (c ≠ 0)), .int .u32 c, .int .i64 0]

def wrongC (s : S) (server : Bool) : Int :=
  if s.id = 2 then (if 1 < s.val ∨ (s.val = 1 ∧ server = true) then 1 else 0)
  else if s.id = 4 then (if 2147483647 < s.val then 3 else 0)
  else if s.id = 5 then (if s.val < 16384 ∨ 16777215 < s.val then 1 else 0)
  else 0
def putV (v : V) (s : S) : V :=
  if s.id = 1 then { v with table := s.val } else if s.id = 2 then { v with push := decide (s.val = 1) } else if s.id = 3 then { v with streams := s.val }
  else if s.id = 4 then { v with window := s.val } else if s.id = 5 then { v with frame := s.val } else if s.id = 6 then { v with list := s.val } else v
def applyV (v : V) (s : S) (server : Bool) : V := if wrongC s server = 0 then putV v s else v

def offOf (d : Int) : Option Nat := if d = 1 then some 0 else if d = 3 then some 2 else if d = 4 then some 3 else if d = 5 then some 4 else if d = 6 then some 5 else none
theorem place_some (b : Nat) (d : Int) (k : Nat) (w : World) (h : offOf d = some k) :
    Calls Try.prog 19 #[.pointer (some ⟨b, 0, none⟩), .int .i64 d] w fun e w' => e = .returned (.pointer (some ⟨b, k, none⟩)) ∧ w = w' := by
  have hd : (d = 1 ∧ k = 0) ∨ (d = 3 ∧ k = 2) ∨ (d = 4 ∧ k = 3) ∨ (d = 5 ∧ k = 4) ∨ (d = 6 ∧ k = 5) := by
    unfold offOf at h
    repeat' split at h
    all_goals simp at h
    all_goals omega
  clear h
  rcases hd with ⟨rfl, rfl⟩ | ⟨rfl, rfl⟩ | ⟨rfl, rfl⟩ | ⟨rfl, rfl⟩ | ⟨rfl, rfl⟩
  all_goals
    go_enter Try.func19, Try.ntmps19
    go_wp2_with fail
    go_ret
    exact ⟨rfl, rfl⟩
theorem place_none (b : Nat) (d : Int) (w : World) (h : offOf d = none) :
    Calls Try.prog 19 #[.pointer (some ⟨b, 0, none⟩), .int .i64 d] w fun e w' => e = .returned (.pointer none) ∧ w = w' := by
  have hd : ¬ d = 1 ∧ ¬ d = 3 ∧ ¬ d = 4 ∧ ¬ d = 5 ∧ ¬ d = 6 := by
    unfold offOf at h
    repeat' split at h
    all_goals simp at h
    all_goals omega
  clear h
  obtain ⟨h1, h3, h4, h5, h6⟩ := hd
  rcases eqC d 1 with ⟨q, _⟩ | ⟨_, g1⟩
  · omega
  rcases eqC d 3 with ⟨q, _⟩ | ⟨_, g3⟩
  · omega
  rcases eqC d 4 with ⟨q, _⟩ | ⟨_, g4⟩
  · omega
  rcases eqC d 5 with ⟨q, _⟩ | ⟨_, g5⟩
  · omega
  rcases eqC d 6 with ⟨q, _⟩ | ⟨_, g6⟩
  · omega
  clear h1 h3 h4 h5 h6
  go_enter Try.func19, Try.ntmps19
  go_wp2_with fail
  go_ret
  exact ⟨rfl, rfl⟩
set_option maxHeartbeats 1000000 in
theorem wrong_any (s : S) (server : Bool) (w : World) (ho : s.Ok) :
    Calls Try.prog 20 #[.agg #[.int .i64 s.id, .int .u32 s.val], .bool server] w fun e w' => e = .returned (.int .u32 (wrongC s server)) ∧ Chg [] w w' := by
  obtain ⟨i0, i1, v0, v1⟩ := ho
  obtain ⟨d, n⟩ := s
  dsimp only at i0 i1 v0 v1 ⊢
  rcases eqC d 2 with ⟨rfl, _⟩ | ⟨n2, g2⟩
  · rcases ltC 1 n with ⟨k1, _⟩ | ⟨k1, _⟩
    · skip
      go_enter Try.func20, Try.ntmps20
      go_wp2_with fail
      go_ret
      exact ⟨ret_int (by unfold wrongC; simp <;> omega), (Chg.refl _).alloc _⟩
    · rcases eqC n 1 with ⟨rfl, _⟩ | ⟨k2, g3⟩
      · cases server
        · skip
          go_enter Try.func20, Try.ntmps20
          go_wp2_with fail
          go_ret
          exact ⟨ret_int (by unfold wrongC; simp <;> omega), (Chg.refl _).alloc _⟩
        · skip
          go_enter Try.func20, Try.ntmps20
          go_wp2_with fail
          go_ret
          exact ⟨ret_int (by unfold wrongC; simp <;> omega), (Chg.refl _).alloc _⟩
      · skip
        go_enter Try.func20, Try.ntmps20
        go_wp2_with fail
        go_ret
        exact ⟨ret_int (by unfold wrongC; simp <;> omega), (Chg.refl _).alloc _⟩
  · rcases eqC d 4 with ⟨rfl, _⟩ | ⟨n4, g4⟩
    · rcases ltC 2147483647 n with ⟨k1, _⟩ | ⟨k1, _⟩
      · skip
        go_enter Try.func20, Try.ntmps20
        go_wp2_with fail
        go_ret
        exact ⟨ret_int (by unfold wrongC; simp <;> omega), (Chg.refl _).alloc _⟩
      · skip
        go_enter Try.func20, Try.ntmps20
        go_wp2_with fail
        go_ret
        exact ⟨ret_int (by unfold wrongC; simp <;> omega), (Chg.refl _).alloc _⟩
    · rcases eqC d 5 with ⟨rfl, _⟩ | ⟨n5, g5⟩
      · rcases ltC n 16384 with ⟨k1, _⟩ | ⟨k1, _⟩
        · skip
          go_enter Try.func20, Try.ntmps20
          go_wp2_with fail
          go_ret
          exact ⟨ret_int (by unfold wrongC; simp <;> omega), (Chg.refl _).alloc _⟩
        · rcases ltC 16777215 n with ⟨k2, _⟩ | ⟨k2, _⟩
          · skip
            go_enter Try.func20, Try.ntmps20
            go_wp2_with fail
            go_ret
            exact ⟨ret_int (by unfold wrongC; simp <;> omega), (Chg.refl _).alloc _⟩
          · skip
            go_enter Try.func20, Try.ntmps20
            go_wp2_with fail
            go_ret
            exact ⟨ret_int (by unfold wrongC; simp <;> omega), (Chg.refl _).alloc _⟩
      · have HN : Hid (d ≠ 2 ∧ d ≠ 4 ∧ d ≠ 5) := ⟨n2, n4, n5⟩
        clear n2 n4 n5
        go_enter Try.func20, Try.ntmps20
        go_wp2_with fail
        go_ret
        exact ⟨ret_int (by unfold wrongC; simp [HN.out.1, HN.out.2.1, HN.out.2.2]), (Chg.refl _).alloc _⟩
theorem wrong_rng (s : S) (server : Bool) : 0 ≤ wrongC s server ∧ wrongC s server ≤ 3 := by
  unfold wrongC; repeat' split
  all_goals omega

def vB (v : V) : Obj := .cells (vA v) 23 (0, 0)
def sB (s : S) : Obj := .cells (sA s) 30 (0, 0)
def fB (c : Int) : Obj := .cells (fA c) 34 (0, 0)
def v0 : V := ⟨0, false, 0, 0, 0, 0⟩
theorem fA_zero : fA 0 = #[.bool false, .int .u32 0, .int .i64 0] := rfl
theorem fA_some {c : Int} (h : ¬ c = 0) : fA c = #[.bool true, .int .u32 c, .int .i64 0] := by unfold fA; simp [h]

set_option maxHeartbeats 4000000 in
theorem apply_any (v : V) (s : S) (server : Bool) (w : World) (ho : s.Ok) :
    Calls Try.prog 13 #[.agg (vA v), .agg (sA s), .bool server] w fun e w' => e = .returned (.tuple #[.agg (vA (applyV v s server)), .agg (fA (wrongC s server))]) ∧ Chg [] w w' := by
  have hr := wrong_rng s server
  unfold vA sA
  by_cases hw : wrongC s server = 0
  · obtain ⟨d, n⟩ := s
    have HW := Lib.hid hw; have HO := Lib.hid ho
    obtain ⟨i0, i1, n0, n1⟩ := ho
    dsimp only at i0 i1 n0 n1
    clear hw hr
    rcases eqC d 1 with ⟨rfl, _⟩ | ⟨h1, g1⟩
    · skip
      go_enter Try.func13, Try.ntmps13
      go_wp2_with fail
      refine (wrong_any ⟨1, n⟩ server _ HO.out).mono ?_; rintro e w1 ⟨he, hc1⟩; rw [HW.out] at he; subst he
      have A0 : At w1 w.heap.size (vB v) := ((((At.new w (vB v)).alloc _).alloc _).alloc _).chg hc1 (by simp)
      have A1 : At w1 (w.heap.size + 1) (sB (⟨1, n⟩ : S)) := (((At.new' (by simp)).alloc _).alloc _).chg hc1 (by simp)
      have A2 : At w1 (w.heap.size + 1 + 1) (vB v0) := ((At.new' (by simp)).alloc _).chg hc1 (by simp)
      have A3 : At w1 (w.heap.size + 1 + 1 + 1) (fB 0) := (At.new' (by simp)).chg hc1 (by simp)
      have HC0 : Chg [] w w1 := ((((Chg.refl w).alloc _).alloc _).alloc _).alloc _ |>.trans' hc1
      have x0 : World.cell? w1 ⟨w.heap.size, 0, none⟩ = some (.int .i64 (v).table) := (A0).cell rfl
      have x1 : World.cell? w1 ⟨w.heap.size, 1, none⟩ = some (.bool (v).push) := (A0).cell rfl
      have x2 : World.cell? w1 ⟨w.heap.size, 2, none⟩ = some (.int .i64 (v).streams) := (A0).cell rfl
      have x3 : World.cell? w1 ⟨w.heap.size, 3, none⟩ = some (.int .i64 (v).window) := (A0).cell rfl
      have x4 : World.cell? w1 ⟨w.heap.size, 4, none⟩ = some (.int .i64 (v).frame) := (A0).cell rfl
      have x5 : World.cell? w1 ⟨w.heap.size, 5, none⟩ = some (.int .i64 (v).list) := (A0).cell rfl
      have xf : ∀ j, World.frozen? w1 ⟨w.heap.size, j, none⟩ = false := fun j => (A0).free j
      have y0 : World.cell? w1 ⟨(w.heap.size + 1 + 1), 0, none⟩ = some (.int .i64 (v0).table) := (A2).cell rfl
      have y1 : World.cell? w1 ⟨(w.heap.size + 1 + 1), 1, none⟩ = some (.bool (v0).push) := (A2).cell rfl
      have y2 : World.cell? w1 ⟨(w.heap.size + 1 + 1), 2, none⟩ = some (.int .i64 (v0).streams) := (A2).cell rfl
      have y3 : World.cell? w1 ⟨(w.heap.size + 1 + 1), 3, none⟩ = some (.int .i64 (v0).window) := (A2).cell rfl
      have y4 : World.cell? w1 ⟨(w.heap.size + 1 + 1), 4, none⟩ = some (.int .i64 (v0).frame) := (A2).cell rfl
      have y5 : World.cell? w1 ⟨(w.heap.size + 1 + 1), 5, none⟩ = some (.int .i64 (v0).list) := (A2).cell rfl
      have yf : ∀ j, World.frozen? w1 ⟨(w.heap.size + 1 + 1), j, none⟩ = false := fun j => (A2).free j
      have z0 : w1.cell? ⟨w.heap.size + 1 + 1 + 1, 0, none⟩ = some (.bool false) := A3.cell rfl
      have z1 : w1.cell? ⟨w.heap.size + 1 + 1 + 1, 1, none⟩ = some (.int .u32 0) := A3.cell rfl
      have z2 : w1.cell? ⟨w.heap.size + 1 + 1 + 1, 2, none⟩ = some (.int .i64 0) := A3.cell rfl
      have zf : ∀ j, w1.frozen? ⟨w.heap.size + 1 + 1 + 1, j, none⟩ = false := fun j => A3.free j
      have s0 : w1.cell? ⟨w.heap.size + 1, 0, none⟩ = some (.int .i64 (⟨1, n⟩ : S).id) := A1.cell rfl
      have s1 : w1.cell? ⟨w.heap.size + 1, 1, none⟩ = some (.int .u32 (⟨1, n⟩ : S).val) := A1.cell rfl
      have HCC := Lib.hid HC0
      clear hc1 A0 A1 A2 A3 HC0
      go_wp2_with fail
      refine (place_some w.heap.size 1 0 _ rfl).mono ?_; rintro e w2 ⟨rfl, rfl⟩
      go_wp2_with fail
      refine bodyPost_ret (v := .tuple #[.agg (vA (applyV v ⟨1, n⟩ server)), .agg #[.bool false, .int .u32 0, .int .i64 0]]) (by simp [results, Try.results13, go_sem, vA, applyV, putV, HW.out, x0, x1, x2, x3, x4, x5, y0, y1, y2, y3, y4, y5, z0, z1, z2]) rfl ⟨?_, ?_⟩
      · rw [HW.out, fA_zero]; rfl
      · (repeat (refine Chg.setCell ?_ (Or.inr (by simp <;> omega)) _)); exact HCC.out
    rcases eqC d 3 with ⟨rfl, _⟩ | ⟨h3, g3⟩
    · skip
      go_enter Try.func13, Try.ntmps13
      go_wp2_with fail
      refine (wrong_any ⟨3, n⟩ server _ HO.out).mono ?_; rintro e w1 ⟨he, hc1⟩; rw [HW.out] at he; subst he
      have A0 : At w1 w.heap.size (vB v) := ((((At.new w (vB v)).alloc _).alloc _).alloc _).chg hc1 (by simp)
      have A1 : At w1 (w.heap.size + 1) (sB (⟨3, n⟩ : S)) := (((At.new' (by simp)).alloc _).alloc _).chg hc1 (by simp)
      have A2 : At w1 (w.heap.size + 1 + 1) (vB v0) := ((At.new' (by simp)).alloc _).chg hc1 (by simp)
      have A3 : At w1 (w.heap.size + 1 + 1 + 1) (fB 0) := (At.new' (by simp)).chg hc1 (by simp)
      have HC0 : Chg [] w w1 := ((((Chg.refl w).alloc _).alloc _).alloc _).alloc _ |>.trans' hc1
      have x0 : World.cell? w1 ⟨w.heap.size, 0, none⟩ = some (.int .i64 (v).table) := (A0).cell rfl
      have x1 : World.cell? w1 ⟨w.heap.size, 1, none⟩ = some (.bool (v).push) := (A0).cell rfl
      have x2 : World.cell? w1 ⟨w.heap.size, 2, none⟩ = some (.int .i64 (v).streams) := (A0).cell rfl
      have x3 : World.cell? w1 ⟨w.heap.size, 3, none⟩ = some (.int .i64 (v).window) := (A0).cell rfl
      have x4 : World.cell? w1 ⟨w.heap.size, 4, none⟩ = some (.int .i64 (v).frame) := (A0).cell rfl
      have x5 : World.cell? w1 ⟨w.heap.size, 5, none⟩ = some (.int .i64 (v).list) := (A0).cell rfl
      have xf : ∀ j, World.frozen? w1 ⟨w.heap.size, j, none⟩ = false := fun j => (A0).free j
      have y0 : World.cell? w1 ⟨(w.heap.size + 1 + 1), 0, none⟩ = some (.int .i64 (v0).table) := (A2).cell rfl
      have y1 : World.cell? w1 ⟨(w.heap.size + 1 + 1), 1, none⟩ = some (.bool (v0).push) := (A2).cell rfl
      have y2 : World.cell? w1 ⟨(w.heap.size + 1 + 1), 2, none⟩ = some (.int .i64 (v0).streams) := (A2).cell rfl
      have y3 : World.cell? w1 ⟨(w.heap.size + 1 + 1), 3, none⟩ = some (.int .i64 (v0).window) := (A2).cell rfl
      have y4 : World.cell? w1 ⟨(w.heap.size + 1 + 1), 4, none⟩ = some (.int .i64 (v0).frame) := (A2).cell rfl
      have y5 : World.cell? w1 ⟨(w.heap.size + 1 + 1), 5, none⟩ = some (.int .i64 (v0).list) := (A2).cell rfl
      have yf : ∀ j, World.frozen? w1 ⟨(w.heap.size + 1 + 1), j, none⟩ = false := fun j => (A2).free j
      have z0 : w1.cell? ⟨w.heap.size + 1 + 1 + 1, 0, none⟩ = some (.bool false) := A3.cell rfl
      have z1 : w1.cell? ⟨w.heap.size + 1 + 1 + 1, 1, none⟩ = some (.int .u32 0) := A3.cell rfl
      have z2 : w1.cell? ⟨w.heap.size + 1 + 1 + 1, 2, none⟩ = some (.int .i64 0) := A3.cell rfl
      have zf : ∀ j, w1.frozen? ⟨w.heap.size + 1 + 1 + 1, j, none⟩ = false := fun j => A3.free j
      have s0 : w1.cell? ⟨w.heap.size + 1, 0, none⟩ = some (.int .i64 (⟨3, n⟩ : S).id) := A1.cell rfl
      have s1 : w1.cell? ⟨w.heap.size + 1, 1, none⟩ = some (.int .u32 (⟨3, n⟩ : S).val) := A1.cell rfl
      have HCC := Lib.hid HC0
      clear hc1 A0 A1 A2 A3 HC0
      go_wp2_with fail
      refine (place_some w.heap.size 3 2 _ rfl).mono ?_; rintro e w2 ⟨rfl, rfl⟩
      go_wp2_with fail
      refine bodyPost_ret (v := .tuple #[.agg (vA (applyV v ⟨3, n⟩ server)), .agg #[.bool false, .int .u32 0, .int .i64 0]]) (by simp [results, Try.results13, go_sem, vA, applyV, putV, HW.out, x0, x1, x2, x3, x4, x5, y0, y1, y2, y3, y4, y5, z0, z1, z2]) rfl ⟨?_, ?_⟩
      · rw [HW.out, fA_zero]; rfl
      · (repeat (refine Chg.setCell ?_ (Or.inr (by simp <;> omega)) _)); exact HCC.out
    rcases eqC d 4 with ⟨rfl, _⟩ | ⟨h4, g4⟩
    · skip
      go_enter Try.func13, Try.ntmps13
      go_wp2_with fail
      refine (wrong_any ⟨4, n⟩ server _ HO.out).mono ?_; rintro e w1 ⟨he, hc1⟩; rw [HW.out] at he; subst he
      have A0 : At w1 w.heap.size (vB v) := ((((At.new w (vB v)).alloc _).alloc _).alloc _).chg hc1 (by simp)
      have A1 : At w1 (w.heap.size + 1) (sB (⟨4, n⟩ : S)) := (((At.new' (by simp)).alloc _).alloc _).chg hc1 (by simp)
      have A2 : At w1 (w.heap.size + 1 + 1) (vB v0) := ((At.new' (by simp)).alloc _).chg hc1 (by simp)
      have A3 : At w1 (w.heap.size + 1 + 1 + 1) (fB 0) := (At.new' (by simp)).chg hc1 (by simp)
      have HC0 : Chg [] w w1 := ((((Chg.refl w).alloc _).alloc _).alloc _).alloc _ |>.trans' hc1
      have x0 : World.cell? w1 ⟨w.heap.size, 0, none⟩ = some (.int .i64 (v).table) := (A0).cell rfl
      have x1 : World.cell? w1 ⟨w.heap.size, 1, none⟩ = some (.bool (v).push) := (A0).cell rfl
      have x2 : World.cell? w1 ⟨w.heap.size, 2, none⟩ = some (.int .i64 (v).streams) := (A0).cell rfl
      have x3 : World.cell? w1 ⟨w.heap.size, 3, none⟩ = some (.int .i64 (v).window) := (A0).cell rfl
      have x4 : World.cell? w1 ⟨w.heap.size, 4, none⟩ = some (.int .i64 (v).frame) := (A0).cell rfl
      have x5 : World.cell? w1 ⟨w.heap.size, 5, none⟩ = some (.int .i64 (v).list) := (A0).cell rfl
      have xf : ∀ j, World.frozen? w1 ⟨w.heap.size, j, none⟩ = false := fun j => (A0).free j
      have y0 : World.cell? w1 ⟨(w.heap.size + 1 + 1), 0, none⟩ = some (.int .i64 (v0).table) := (A2).cell rfl
      have y1 : World.cell? w1 ⟨(w.heap.size + 1 + 1), 1, none⟩ = some (.bool (v0).push) := (A2).cell rfl
      have y2 : World.cell? w1 ⟨(w.heap.size + 1 + 1), 2, none⟩ = some (.int .i64 (v0).streams) := (A2).cell rfl
      have y3 : World.cell? w1 ⟨(w.heap.size + 1 + 1), 3, none⟩ = some (.int .i64 (v0).window) := (A2).cell rfl
      have y4 : World.cell? w1 ⟨(w.heap.size + 1 + 1), 4, none⟩ = some (.int .i64 (v0).frame) := (A2).cell rfl
      have y5 : World.cell? w1 ⟨(w.heap.size + 1 + 1), 5, none⟩ = some (.int .i64 (v0).list) := (A2).cell rfl
      have yf : ∀ j, World.frozen? w1 ⟨(w.heap.size + 1 + 1), j, none⟩ = false := fun j => (A2).free j
      have z0 : w1.cell? ⟨w.heap.size + 1 + 1 + 1, 0, none⟩ = some (.bool false) := A3.cell rfl
      have z1 : w1.cell? ⟨w.heap.size + 1 + 1 + 1, 1, none⟩ = some (.int .u32 0) := A3.cell rfl
      have z2 : w1.cell? ⟨w.heap.size + 1 + 1 + 1, 2, none⟩ = some (.int .i64 0) := A3.cell rfl
      have zf : ∀ j, w1.frozen? ⟨w.heap.size + 1 + 1 + 1, j, none⟩ = false := fun j => A3.free j
      have s0 : w1.cell? ⟨w.heap.size + 1, 0, none⟩ = some (.int .i64 (⟨4, n⟩ : S).id) := A1.cell rfl
      have s1 : w1.cell? ⟨w.heap.size + 1, 1, none⟩ = some (.int .u32 (⟨4, n⟩ : S).val) := A1.cell rfl
      have HCC := Lib.hid HC0
      clear hc1 A0 A1 A2 A3 HC0
      go_wp2_with fail
      refine (place_some w.heap.size 4 3 _ rfl).mono ?_; rintro e w2 ⟨rfl, rfl⟩
      go_wp2_with fail
      refine bodyPost_ret (v := .tuple #[.agg (vA (applyV v ⟨4, n⟩ server)), .agg #[.bool false, .int .u32 0, .int .i64 0]]) (by simp [results, Try.results13, go_sem, vA, applyV, putV, HW.out, x0, x1, x2, x3, x4, x5, y0, y1, y2, y3, y4, y5, z0, z1, z2]) rfl ⟨?_, ?_⟩
      · rw [HW.out, fA_zero]; rfl
      · (repeat (refine Chg.setCell ?_ (Or.inr (by simp <;> omega)) _)); exact HCC.out
    rcases eqC d 5 with ⟨rfl, _⟩ | ⟨h5, g5⟩
    · skip
      go_enter Try.func13, Try.ntmps13
      go_wp2_with fail
      refine (wrong_any ⟨5, n⟩ server _ HO.out).mono ?_; rintro e w1 ⟨he, hc1⟩; rw [HW.out] at he; subst he
      have A0 : At w1 w.heap.size (vB v) := ((((At.new w (vB v)).alloc _).alloc _).alloc _).chg hc1 (by simp)
      have A1 : At w1 (w.heap.size + 1) (sB (⟨5, n⟩ : S)) := (((At.new' (by simp)).alloc _).alloc _).chg hc1 (by simp)
      have A2 : At w1 (w.heap.size + 1 + 1) (vB v0) := ((At.new' (by simp)).alloc _).chg hc1 (by simp)
      have A3 : At w1 (w.heap.size + 1 + 1 + 1) (fB 0) := (At.new' (by simp)).chg hc1 (by simp)
      have HC0 : Chg [] w w1 := ((((Chg.refl w).alloc _).alloc _).alloc _).alloc _ |>.trans' hc1
      have x0 : World.cell? w1 ⟨w.heap.size, 0, none⟩ = some (.int .i64 (v).table) := (A0).cell rfl
      have x1 : World.cell? w1 ⟨w.heap.size, 1, none⟩ = some (.bool (v).push) := (A0).cell rfl
      have x2 : World.cell? w1 ⟨w.heap.size, 2, none⟩ = some (.int .i64 (v).streams) := (A0).cell rfl
      have x3 : World.cell? w1 ⟨w.heap.size, 3, none⟩ = some (.int .i64 (v).window) := (A0).cell rfl
      have x4 : World.cell? w1 ⟨w.heap.size, 4, none⟩ = some (.int .i64 (v).frame) := (A0).cell rfl
      have x5 : World.cell? w1 ⟨w.heap.size, 5, none⟩ = some (.int .i64 (v).list) := (A0).cell rfl
      have xf : ∀ j, World.frozen? w1 ⟨w.heap.size, j, none⟩ = false := fun j => (A0).free j
      have y0 : World.cell? w1 ⟨(w.heap.size + 1 + 1), 0, none⟩ = some (.int .i64 (v0).table) := (A2).cell rfl
      have y1 : World.cell? w1 ⟨(w.heap.size + 1 + 1), 1, none⟩ = some (.bool (v0).push) := (A2).cell rfl
      have y2 : World.cell? w1 ⟨(w.heap.size + 1 + 1), 2, none⟩ = some (.int .i64 (v0).streams) := (A2).cell rfl
      have y3 : World.cell? w1 ⟨(w.heap.size + 1 + 1), 3, none⟩ = some (.int .i64 (v0).window) := (A2).cell rfl
      have y4 : World.cell? w1 ⟨(w.heap.size + 1 + 1), 4, none⟩ = some (.int .i64 (v0).frame) := (A2).cell rfl
      have y5 : World.cell? w1 ⟨(w.heap.size + 1 + 1), 5, none⟩ = some (.int .i64 (v0).list) := (A2).cell rfl
      have yf : ∀ j, World.frozen? w1 ⟨(w.heap.size + 1 + 1), j, none⟩ = false := fun j => (A2).free j
      have z0 : w1.cell? ⟨w.heap.size + 1 + 1 + 1, 0, none⟩ = some (.bool false) := A3.cell rfl
      have z1 : w1.cell? ⟨w.heap.size + 1 + 1 + 1, 1, none⟩ = some (.int .u32 0) := A3.cell rfl
      have z2 : w1.cell? ⟨w.heap.size + 1 + 1 + 1, 2, none⟩ = some (.int .i64 0) := A3.cell rfl
      have zf : ∀ j, w1.frozen? ⟨w.heap.size + 1 + 1 + 1, j, none⟩ = false := fun j => A3.free j
      have s0 : w1.cell? ⟨w.heap.size + 1, 0, none⟩ = some (.int .i64 (⟨5, n⟩ : S).id) := A1.cell rfl
      have s1 : w1.cell? ⟨w.heap.size + 1, 1, none⟩ = some (.int .u32 (⟨5, n⟩ : S).val) := A1.cell rfl
      have HCC := Lib.hid HC0
      clear hc1 A0 A1 A2 A3 HC0
      go_wp2_with fail
      refine (place_some w.heap.size 5 4 _ rfl).mono ?_; rintro e w2 ⟨rfl, rfl⟩
      go_wp2_with fail
      refine bodyPost_ret (v := .tuple #[.agg (vA (applyV v ⟨5, n⟩ server)), .agg #[.bool false, .int .u32 0, .int .i64 0]]) (by simp [results, Try.results13, go_sem, vA, applyV, putV, HW.out, x0, x1, x2, x3, x4, x5, y0, y1, y2, y3, y4, y5, z0, z1, z2]) rfl ⟨?_, ?_⟩
      · rw [HW.out, fA_zero]; rfl
      · (repeat (refine Chg.setCell ?_ (Or.inr (by simp <;> omega)) _)); exact HCC.out
    rcases eqC d 6 with ⟨rfl, _⟩ | ⟨h6, g6⟩
    · skip
      go_enter Try.func13, Try.ntmps13
      go_wp2_with fail
      refine (wrong_any ⟨6, n⟩ server _ HO.out).mono ?_; rintro e w1 ⟨he, hc1⟩; rw [HW.out] at he; subst he
      have A0 : At w1 w.heap.size (vB v) := ((((At.new w (vB v)).alloc _).alloc _).alloc _).chg hc1 (by simp)
      have A1 : At w1 (w.heap.size + 1) (sB (⟨6, n⟩ : S)) := (((At.new' (by simp)).alloc _).alloc _).chg hc1 (by simp)
      have A2 : At w1 (w.heap.size + 1 + 1) (vB v0) := ((At.new' (by simp)).alloc _).chg hc1 (by simp)
      have A3 : At w1 (w.heap.size + 1 + 1 + 1) (fB 0) := (At.new' (by simp)).chg hc1 (by simp)
      have HC0 : Chg [] w w1 := ((((Chg.refl w).alloc _).alloc _).alloc _).alloc _ |>.trans' hc1
      have x0 : World.cell? w1 ⟨w.heap.size, 0, none⟩ = some (.int .i64 (v).table) := (A0).cell rfl
      have x1 : World.cell? w1 ⟨w.heap.size, 1, none⟩ = some (.bool (v).push) := (A0).cell rfl
      have x2 : World.cell? w1 ⟨w.heap.size, 2, none⟩ = some (.int .i64 (v).streams) := (A0).cell rfl
      have x3 : World.cell? w1 ⟨w.heap.size, 3, none⟩ = some (.int .i64 (v).window) := (A0).cell rfl
      have x4 : World.cell? w1 ⟨w.heap.size, 4, none⟩ = some (.int .i64 (v).frame) := (A0).cell rfl
      have x5 : World.cell? w1 ⟨w.heap.size, 5, none⟩ = some (.int .i64 (v).list) := (A0).cell rfl
      have xf : ∀ j, World.frozen? w1 ⟨w.heap.size, j, none⟩ = false := fun j => (A0).free j
      have y0 : World.cell? w1 ⟨(w.heap.size + 1 + 1), 0, none⟩ = some (.int .i64 (v0).table) := (A2).cell rfl
      have y1 : World.cell? w1 ⟨(w.heap.size + 1 + 1), 1, none⟩ = some (.bool (v0).push) := (A2).cell rfl
      have y2 : World.cell? w1 ⟨(w.heap.size + 1 + 1), 2, none⟩ = some (.int .i64 (v0).streams) := (A2).cell rfl
      have y3 : World.cell? w1 ⟨(w.heap.size + 1 + 1), 3, none⟩ = some (.int .i64 (v0).window) := (A2).cell rfl
      have y4 : World.cell? w1 ⟨(w.heap.size + 1 + 1), 4, none⟩ = some (.int .i64 (v0).frame) := (A2).cell rfl
      have y5 : World.cell? w1 ⟨(w.heap.size + 1 + 1), 5, none⟩ = some (.int .i64 (v0).list) := (A2).cell rfl
      have yf : ∀ j, World.frozen? w1 ⟨(w.heap.size + 1 + 1), j, none⟩ = false := fun j => (A2).free j
      have z0 : w1.cell? ⟨w.heap.size + 1 + 1 + 1, 0, none⟩ = some (.bool false) := A3.cell rfl
      have z1 : w1.cell? ⟨w.heap.size + 1 + 1 + 1, 1, none⟩ = some (.int .u32 0) := A3.cell rfl
      have z2 : w1.cell? ⟨w.heap.size + 1 + 1 + 1, 2, none⟩ = some (.int .i64 0) := A3.cell rfl
      have zf : ∀ j, w1.frozen? ⟨w.heap.size + 1 + 1 + 1, j, none⟩ = false := fun j => A3.free j
      have s0 : w1.cell? ⟨w.heap.size + 1, 0, none⟩ = some (.int .i64 (⟨6, n⟩ : S).id) := A1.cell rfl
      have s1 : w1.cell? ⟨w.heap.size + 1, 1, none⟩ = some (.int .u32 (⟨6, n⟩ : S).val) := A1.cell rfl
      have HCC := Lib.hid HC0
      clear hc1 A0 A1 A2 A3 HC0
      go_wp2_with fail
      refine (place_some w.heap.size 6 5 _ rfl).mono ?_; rintro e w2 ⟨rfl, rfl⟩
      go_wp2_with fail
      refine bodyPost_ret (v := .tuple #[.agg (vA (applyV v ⟨6, n⟩ server)), .agg #[.bool false, .int .u32 0, .int .i64 0]]) (by simp [results, Try.results13, go_sem, vA, applyV, putV, HW.out, x0, x1, x2, x3, x4, x5, y0, y1, y2, y3, y4, y5, z0, z1, z2]) rfl ⟨?_, ?_⟩
      · rw [HW.out, fA_zero]; rfl
      · (repeat (refine Chg.setCell ?_ (Or.inr (by simp <;> omega)) _)); exact HCC.out
    have HN0 : offOf d = none := by unfold offOf; simp [h1, h3, h4, h5, h6]
    have HN := Lib.hid HN0
    clear HN0
    have HD : Hid (¬ d = 1 ∧ ¬ d = 3 ∧ ¬ d = 4 ∧ ¬ d = 5 ∧ ¬ d = 6) := ⟨h1, h3, h4, h5, h6⟩
    clear h1 h3 h4 h5 h6 g1 g3 g4 g5 g6
    rcases eqC d 2 with ⟨rfl, _⟩ | ⟨h2, g2⟩
    · rcases eqC n 1 with ⟨rfl, gn⟩ | ⟨hn, gn⟩
      · skip
        go_enter Try.func13, Try.ntmps13
        go_wp2_with fail
        refine (wrong_any ⟨2, _⟩ server _ HO.out).mono ?_; rintro e w1 ⟨he, hc1⟩; rw [HW.out] at he; subst he
        have A0 : At w1 w.heap.size (vB v) := ((((At.new w (vB v)).alloc _).alloc _).alloc _).chg hc1 (by simp)
        have A1 : At w1 (w.heap.size + 1) (sB (⟨2, _⟩ : S)) := (((At.new' (by simp)).alloc _).alloc _).chg hc1 (by simp)
        have A2 : At w1 (w.heap.size + 1 + 1) (vB v0) := ((At.new' (by simp)).alloc _).chg hc1 (by simp)
        have A3 : At w1 (w.heap.size + 1 + 1 + 1) (fB 0) := (At.new' (by simp)).chg hc1 (by simp)
        have HC0 : Chg [] w w1 := ((((Chg.refl w).alloc _).alloc _).alloc _).alloc _ |>.trans' hc1
        have x0 : World.cell? w1 ⟨w.heap.size, 0, none⟩ = some (.int .i64 (v).table) := (A0).cell rfl
        have x1 : World.cell? w1 ⟨w.heap.size, 1, none⟩ = some (.bool (v).push) := (A0).cell rfl
        have x2 : World.cell? w1 ⟨w.heap.size, 2, none⟩ = some (.int .i64 (v).streams) := (A0).cell rfl
        have x3 : World.cell? w1 ⟨w.heap.size, 3, none⟩ = some (.int .i64 (v).window) := (A0).cell rfl
        have x4 : World.cell? w1 ⟨w.heap.size, 4, none⟩ = some (.int .i64 (v).frame) := (A0).cell rfl
        have x5 : World.cell? w1 ⟨w.heap.size, 5, none⟩ = some (.int .i64 (v).list) := (A0).cell rfl
        have xf : ∀ j, World.frozen? w1 ⟨w.heap.size, j, none⟩ = false := fun j => (A0).free j
        have y0 : World.cell? w1 ⟨(w.heap.size + 1 + 1), 0, none⟩ = some (.int .i64 (v0).table) := (A2).cell rfl
        have y1 : World.cell? w1 ⟨(w.heap.size + 1 + 1), 1, none⟩ = some (.bool (v0).push) := (A2).cell rfl
        have y2 : World.cell? w1 ⟨(w.heap.size + 1 + 1), 2, none⟩ = some (.int .i64 (v0).streams) := (A2).cell rfl
        have y3 : World.cell? w1 ⟨(w.heap.size + 1 + 1), 3, none⟩ = some (.int .i64 (v0).window) := (A2).cell rfl
        have y4 : World.cell? w1 ⟨(w.heap.size + 1 + 1), 4, none⟩ = some (.int .i64 (v0).frame) := (A2).cell rfl
        have y5 : World.cell? w1 ⟨(w.heap.size + 1 + 1), 5, none⟩ = some (.int .i64 (v0).list) := (A2).cell rfl
        have yf : ∀ j, World.frozen? w1 ⟨(w.heap.size + 1 + 1), j, none⟩ = false := fun j => (A2).free j
        have z0 : w1.cell? ⟨w.heap.size + 1 + 1 + 1, 0, none⟩ = some (.bool false) := A3.cell rfl
        have z1 : w1.cell? ⟨w.heap.size + 1 + 1 + 1, 1, none⟩ = some (.int .u32 0) := A3.cell rfl
        have z2 : w1.cell? ⟨w.heap.size + 1 + 1 + 1, 2, none⟩ = some (.int .i64 0) := A3.cell rfl
        have zf : ∀ j, w1.frozen? ⟨w.heap.size + 1 + 1 + 1, j, none⟩ = false := fun j => A3.free j
        have s0 : w1.cell? ⟨w.heap.size + 1, 0, none⟩ = some (.int .i64 (⟨2, _⟩ : S).id) := A1.cell rfl
        have s1 : w1.cell? ⟨w.heap.size + 1, 1, none⟩ = some (.int .u32 (⟨2, _⟩ : S).val) := A1.cell rfl
        have HCC := Lib.hid HC0
        clear hc1 A0 A1 A2 A3 HC0
        go_wp2_with fail
        refine (place_none w.heap.size _ _ HN.out).mono ?_; rintro e w2 ⟨rfl, rfl⟩
        go_wp2_with fail
        refine bodyPost_ret (v := .tuple #[.agg (vA { v with push := true }), .agg #[.bool false, .int .u32 0, .int .i64 0]]) (by simp [results, Try.results13, go_sem, vA, x0, x1, x2, x3, x4, x5, y0, y1, y2, y3, y4, y5, z0, z1, z2]) rfl ⟨?_, ?_⟩
        · rw [HW.out, fA_zero, show applyV v ⟨2, _⟩ server = { v with push := true } from by simp [applyV, putV, HW.out]]; rfl
        · (repeat (refine Chg.setCell ?_ (Or.inr (by simp <;> omega)) _)); exact HCC.out
      · have HM := Lib.hid hn
        clear hn
        go_enter Try.func13, Try.ntmps13
        go_wp2_with fail
        refine (wrong_any ⟨2, _⟩ server _ HO.out).mono ?_; rintro e w1 ⟨he, hc1⟩; rw [HW.out] at he; subst he
        have A0 : At w1 w.heap.size (vB v) := ((((At.new w (vB v)).alloc _).alloc _).alloc _).chg hc1 (by simp)
        have A1 : At w1 (w.heap.size + 1) (sB (⟨2, _⟩ : S)) := (((At.new' (by simp)).alloc _).alloc _).chg hc1 (by simp)
        have A2 : At w1 (w.heap.size + 1 + 1) (vB v0) := ((At.new' (by simp)).alloc _).chg hc1 (by simp)
        have A3 : At w1 (w.heap.size + 1 + 1 + 1) (fB 0) := (At.new' (by simp)).chg hc1 (by simp)
        have HC0 : Chg [] w w1 := ((((Chg.refl w).alloc _).alloc _).alloc _).alloc _ |>.trans' hc1
        have x0 : World.cell? w1 ⟨w.heap.size, 0, none⟩ = some (.int .i64 (v).table) := (A0).cell rfl
        have x1 : World.cell? w1 ⟨w.heap.size, 1, none⟩ = some (.bool (v).push) := (A0).cell rfl
        have x2 : World.cell? w1 ⟨w.heap.size, 2, none⟩ = some (.int .i64 (v).streams) := (A0).cell rfl
        have x3 : World.cell? w1 ⟨w.heap.size, 3, none⟩ = some (.int .i64 (v).window) := (A0).cell rfl
        have x4 : World.cell? w1 ⟨w.heap.size, 4, none⟩ = some (.int .i64 (v).frame) := (A0).cell rfl
        have x5 : World.cell? w1 ⟨w.heap.size, 5, none⟩ = some (.int .i64 (v).list) := (A0).cell rfl
        have xf : ∀ j, World.frozen? w1 ⟨w.heap.size, j, none⟩ = false := fun j => (A0).free j
        have y0 : World.cell? w1 ⟨(w.heap.size + 1 + 1), 0, none⟩ = some (.int .i64 (v0).table) := (A2).cell rfl
        have y1 : World.cell? w1 ⟨(w.heap.size + 1 + 1), 1, none⟩ = some (.bool (v0).push) := (A2).cell rfl
        have y2 : World.cell? w1 ⟨(w.heap.size + 1 + 1), 2, none⟩ = some (.int .i64 (v0).streams) := (A2).cell rfl
        have y3 : World.cell? w1 ⟨(w.heap.size + 1 + 1), 3, none⟩ = some (.int .i64 (v0).window) := (A2).cell rfl
        have y4 : World.cell? w1 ⟨(w.heap.size + 1 + 1), 4, none⟩ = some (.int .i64 (v0).frame) := (A2).cell rfl
        have y5 : World.cell? w1 ⟨(w.heap.size + 1 + 1), 5, none⟩ = some (.int .i64 (v0).list) := (A2).cell rfl
        have yf : ∀ j, World.frozen? w1 ⟨(w.heap.size + 1 + 1), j, none⟩ = false := fun j => (A2).free j
        have z0 : w1.cell? ⟨w.heap.size + 1 + 1 + 1, 0, none⟩ = some (.bool false) := A3.cell rfl
        have z1 : w1.cell? ⟨w.heap.size + 1 + 1 + 1, 1, none⟩ = some (.int .u32 0) := A3.cell rfl
        have z2 : w1.cell? ⟨w.heap.size + 1 + 1 + 1, 2, none⟩ = some (.int .i64 0) := A3.cell rfl
        have zf : ∀ j, w1.frozen? ⟨w.heap.size + 1 + 1 + 1, j, none⟩ = false := fun j => A3.free j
        have s0 : w1.cell? ⟨w.heap.size + 1, 0, none⟩ = some (.int .i64 (⟨2, _⟩ : S).id) := A1.cell rfl
        have s1 : w1.cell? ⟨w.heap.size + 1, 1, none⟩ = some (.int .u32 (⟨2, _⟩ : S).val) := A1.cell rfl
        have HCC := Lib.hid HC0
        clear hc1 A0 A1 A2 A3 HC0
        go_wp2_with fail
        refine (place_none w.heap.size _ _ HN.out).mono ?_; rintro e w2 ⟨rfl, rfl⟩
        go_wp2_with fail
        refine bodyPost_ret (v := .tuple #[.agg (vA { v with push := false }), .agg #[.bool false, .int .u32 0, .int .i64 0]]) (by simp [results, Try.results13, go_sem, vA, x0, x1, x2, x3, x4, x5, y0, y1, y2, y3, y4, y5, z0, z1, z2]) rfl ⟨?_, ?_⟩
        · rw [HW.out, fA_zero, show applyV v ⟨2, _⟩ server = { v with push := false } from by simp [applyV, putV, HW.out, HM.out]]; rfl
        · (repeat (refine Chg.setCell ?_ (Or.inr (by simp <;> omega)) _)); exact HCC.out
    · have HM := Lib.hid h2
      clear h2
      go_enter Try.func13, Try.ntmps13
      go_wp2_with fail
      refine (wrong_any ⟨d, n⟩ server _ HO.out).mono ?_; rintro e w1 ⟨he, hc1⟩; rw [HW.out] at he; subst he
      have A0 : At w1 w.heap.size (vB v) := ((((At.new w (vB v)).alloc _).alloc _).alloc _).chg hc1 (by simp)
      have A1 : At w1 (w.heap.size + 1) (sB (⟨d, n⟩ : S)) := (((At.new' (by simp)).alloc _).alloc _).chg hc1 (by simp)
      have A2 : At w1 (w.heap.size + 1 + 1) (vB v0) := ((At.new' (by simp)).alloc _).chg hc1 (by simp)
      have A3 : At w1 (w.heap.size + 1 + 1 + 1) (fB 0) := (At.new' (by simp)).chg hc1 (by simp)
      have HC0 : Chg [] w w1 := ((((Chg.refl w).alloc _).alloc _).alloc _).alloc _ |>.trans' hc1
      have x0 : World.cell? w1 ⟨w.heap.size, 0, none⟩ = some (.int .i64 (v).table) := (A0).cell rfl
      have x1 : World.cell? w1 ⟨w.heap.size, 1, none⟩ = some (.bool (v).push) := (A0).cell rfl
      have x2 : World.cell? w1 ⟨w.heap.size, 2, none⟩ = some (.int .i64 (v).streams) := (A0).cell rfl
      have x3 : World.cell? w1 ⟨w.heap.size, 3, none⟩ = some (.int .i64 (v).window) := (A0).cell rfl
      have x4 : World.cell? w1 ⟨w.heap.size, 4, none⟩ = some (.int .i64 (v).frame) := (A0).cell rfl
      have x5 : World.cell? w1 ⟨w.heap.size, 5, none⟩ = some (.int .i64 (v).list) := (A0).cell rfl
      have xf : ∀ j, World.frozen? w1 ⟨w.heap.size, j, none⟩ = false := fun j => (A0).free j
      have y0 : World.cell? w1 ⟨(w.heap.size + 1 + 1), 0, none⟩ = some (.int .i64 (v0).table) := (A2).cell rfl
      have y1 : World.cell? w1 ⟨(w.heap.size + 1 + 1), 1, none⟩ = some (.bool (v0).push) := (A2).cell rfl
      have y2 : World.cell? w1 ⟨(w.heap.size + 1 + 1), 2, none⟩ = some (.int .i64 (v0).streams) := (A2).cell rfl
      have y3 : World.cell? w1 ⟨(w.heap.size + 1 + 1), 3, none⟩ = some (.int .i64 (v0).window) := (A2).cell rfl
      have y4 : World.cell? w1 ⟨(w.heap.size + 1 + 1), 4, none⟩ = some (.int .i64 (v0).frame) := (A2).cell rfl
      have y5 : World.cell? w1 ⟨(w.heap.size + 1 + 1), 5, none⟩ = some (.int .i64 (v0).list) := (A2).cell rfl
      have yf : ∀ j, World.frozen? w1 ⟨(w.heap.size + 1 + 1), j, none⟩ = false := fun j => (A2).free j
      have z0 : w1.cell? ⟨w.heap.size + 1 + 1 + 1, 0, none⟩ = some (.bool false) := A3.cell rfl
      have z1 : w1.cell? ⟨w.heap.size + 1 + 1 + 1, 1, none⟩ = some (.int .u32 0) := A3.cell rfl
      have z2 : w1.cell? ⟨w.heap.size + 1 + 1 + 1, 2, none⟩ = some (.int .i64 0) := A3.cell rfl
      have zf : ∀ j, w1.frozen? ⟨w.heap.size + 1 + 1 + 1, j, none⟩ = false := fun j => A3.free j
      have s0 : w1.cell? ⟨w.heap.size + 1, 0, none⟩ = some (.int .i64 (⟨d, n⟩ : S).id) := A1.cell rfl
      have s1 : w1.cell? ⟨w.heap.size + 1, 1, none⟩ = some (.int .u32 (⟨d, n⟩ : S).val) := A1.cell rfl
      have HCC := Lib.hid HC0
      clear hc1 A0 A1 A2 A3 HC0
      go_wp2_with fail
      refine (place_none w.heap.size _ _ HN.out).mono ?_; rintro e w2 ⟨rfl, rfl⟩
      go_wp2_with fail
      refine bodyPost_ret (v := .tuple #[.agg (vA v), .agg #[.bool false, .int .u32 0, .int .i64 0]]) (by simp [results, Try.results13, go_sem, vA, y0, y1, y2, y3, y4, y5, z0, z1, z2]) rfl ⟨?_, ?_⟩
      · have := HD.out
        rw [HW.out, fA_zero, show applyV v ⟨d, n⟩ server = v from by unfold applyV putV; simp [HW.out, HM.out, HD.out.1, HD.out.2.1, HD.out.2.2.1, HD.out.2.2.2.1, HD.out.2.2.2.2]]
        rfl
      · (repeat (refine Chg.setCell ?_ (Or.inr (by simp <;> omega)) _)); exact HCC.out
  · have g0 : (wrongC s server != 0) = true := by simpa using hw
    obtain ⟨c, hc⟩ : ∃ c, c = wrongC s server := ⟨_, rfl⟩
    have HW := Lib.hid hw; have HO := Lib.hid ho
    rw [← hc] at g0 hr
    have HC := Lib.hid hc
    clear hc hw ho
    go_enter Try.func13, Try.ntmps13
    go_wp2_with fail
    refine (wrong_any s server _ HO.out).mono ?_; rintro e w1 ⟨he, hc1⟩; rw [← HC.out] at he; subst he
    have A0 : At w1 w.heap.size (vB v) := ((((At.new w (vB v)).alloc _).alloc _).alloc _).chg hc1 (by simp)
    have A1 : At w1 (w.heap.size + 1) (sB s) := (((At.new' (by simp)).alloc _).alloc _).chg hc1 (by simp)
    have A2 : At w1 (w.heap.size + 1 + 1) (vB v0) := ((At.new' (by simp)).alloc _).chg hc1 (by simp)
    have A3 : At w1 (w.heap.size + 1 + 1 + 1) (fB 0) := (At.new' (by simp)).chg hc1 (by simp)
    have HC0 : Chg [] w w1 := ((((Chg.refl w).alloc _).alloc _).alloc _).alloc _ |>.trans' hc1
    have x0 : World.cell? w1 ⟨w.heap.size, 0, none⟩ = some (.int .i64 (v).table) := (A0).cell rfl
    have x1 : World.cell? w1 ⟨w.heap.size, 1, none⟩ = some (.bool (v).push) := (A0).cell rfl
    have x2 : World.cell? w1 ⟨w.heap.size, 2, none⟩ = some (.int .i64 (v).streams) := (A0).cell rfl
    have x3 : World.cell? w1 ⟨w.heap.size, 3, none⟩ = some (.int .i64 (v).window) := (A0).cell rfl
    have x4 : World.cell? w1 ⟨w.heap.size, 4, none⟩ = some (.int .i64 (v).frame) := (A0).cell rfl
    have x5 : World.cell? w1 ⟨w.heap.size, 5, none⟩ = some (.int .i64 (v).list) := (A0).cell rfl
    have xf : ∀ j, World.frozen? w1 ⟨w.heap.size, j, none⟩ = false := fun j => (A0).free j
    have y0 : World.cell? w1 ⟨(w.heap.size + 1 + 1), 0, none⟩ = some (.int .i64 (v0).table) := (A2).cell rfl
    have y1 : World.cell? w1 ⟨(w.heap.size + 1 + 1), 1, none⟩ = some (.bool (v0).push) := (A2).cell rfl
    have y2 : World.cell? w1 ⟨(w.heap.size + 1 + 1), 2, none⟩ = some (.int .i64 (v0).streams) := (A2).cell rfl
    have y3 : World.cell? w1 ⟨(w.heap.size + 1 + 1), 3, none⟩ = some (.int .i64 (v0).window) := (A2).cell rfl
    have y4 : World.cell? w1 ⟨(w.heap.size + 1 + 1), 4, none⟩ = some (.int .i64 (v0).frame) := (A2).cell rfl
    have y5 : World.cell? w1 ⟨(w.heap.size + 1 + 1), 5, none⟩ = some (.int .i64 (v0).list) := (A2).cell rfl
    have yf : ∀ j, World.frozen? w1 ⟨(w.heap.size + 1 + 1), j, none⟩ = false := fun j => (A2).free j
    have z0 : w1.cell? ⟨w.heap.size + 1 + 1 + 1, 0, none⟩ = some (.bool false) := A3.cell rfl
    have z1 : w1.cell? ⟨w.heap.size + 1 + 1 + 1, 1, none⟩ = some (.int .u32 0) := A3.cell rfl
    have z2 : w1.cell? ⟨w.heap.size + 1 + 1 + 1, 2, none⟩ = some (.int .i64 0) := A3.cell rfl
    have zf : ∀ j, w1.frozen? ⟨w.heap.size + 1 + 1 + 1, j, none⟩ = false := fun j => A3.free j
    have s0 : w1.cell? ⟨w.heap.size + 1, 0, none⟩ = some (.int .i64 s.id) := A1.cell rfl
    have s1 : w1.cell? ⟨w.heap.size + 1, 1, none⟩ = some (.int .u32 s.val) := A1.cell rfl
    have HCC := Lib.hid HC0
    clear hc1 A0 A1 A2 A3 HC0
    go_wp2_with fail
    refine bodyPost_ret (v := .tuple #[.agg (vA v), .agg #[.bool true, .int .u32 c, .int .i64 0]]) (by simp [results, Try.results13, go_sem, vA, y0, y1, y2, y3, y4, y5, z0, z1, z2]) rfl ⟨?_, ?_⟩
    · have e1 : applyV v s server = v := if_neg HW.out
      rw [← HC.out]
      have : ¬ c = 0 := by rw [HC.out]; exact HW.out
      rw [fA_some this, e1]; rfl
    · (repeat (refine Chg.setCell ?_ (Or.inr (by simp <;> omega)) _)); exact HCC.out
end Go.Proofs.Ytanfibaphoficaa.Set
