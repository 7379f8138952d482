/-
  The document's Apply.
-/
import Derived.Test.YtanfibaphoficaaBack
import Derived.Deep.DeepCutAuto
import Derived.Deep.DrawnRows
namespace Go.Proofs.Ytanfibaphoficaa.RA
open Go.ChangeShapes Go.WideShapes Go.ChangeAt Go.RowKit
open Go.Proofs.Ytanfibaphoficaa.B Go.Proofs.Ytanfibaphoficaa.Set Go.Proofs.Ytanfibaphoficaa.Back
set_option linter.unusedVariables false
set_option linter.unusedSimpArgs false

theorem broken_any (c : Int) (w : World) :
    Calls Try.prog 21 #[.int .u32 c] w fun e w' => e = .returned (.agg #[.bool true, .int .u32 c, .int .i64 0]) ∧ Chg [] w w' := by
  go_enter Try.func21, Try.ntmps21
  go_wp2_with fail
  refine bodyPost_ret (v := .agg #[.bool true, .int .u32 c, .int .i64 0]) (by simp [results, Try.results21, go_sem]) rfl ⟨rfl, ?_⟩
  (repeat (refine Chg.setCell ?_ (Or.inr (by simp <;> omega)) _)); exact (Chg.refl _).alloc _
set_option maxRecDepth 100000 in
set_option maxHeartbeats 4000000 in
theorem rapply_ok (v : V) (s : S) (server : Bool) (w : World) (ho : s.Ok) (hw : wrongC s server = 0) :
    Calls Try.prog 16 #[.agg (vA v), .agg #[.int .i64 s.id, .int .u32 s.val], .bool server] w fun e w' => e = .returned (.tuple #[.agg (vA (applyV v s server)), .agg #[.bool false, .int .u32 0, .int .i64 0]]) ∧ Chg [] w w' := by
  have hv : applyV v s server = putV v s := if_pos hw
  rw [hv]
  obtain ⟨i0, i1, n0, n1⟩ := ho
  obtain ⟨d, n⟩ := s
  dsimp only at i0 i1 n0 n1 ⊢
  unfold vA
  rcases eqC d 1 with ⟨rfl, _⟩ | ⟨h1, g1⟩
  · clear hw
    go_enter Try.func16, Try.ntmps16
    go_wp2_with fail
    refine bodyPost_ret (v := .tuple #[.agg (vA (putV v ⟨1, n⟩)), .agg #[.bool false, .int .u32 0, .int .i64 0]]) (by simp [results, Try.results16, go_sem, vA, putV, *]) rfl ⟨rfl, ?_⟩
    (repeat (refine Chg.setCell ?_ (Or.inr (by simp <;> omega)) _)); exact (((((Chg.refl w).alloc (l := []) _).alloc _).alloc _).alloc _)
  rcases eqC d 2 with ⟨rfl, _⟩ | ⟨h2, g2⟩
  · unfold wrongC at hw
    simp at hw
    obtain ⟨hw1, hw2⟩ := hw
    rcases eqC n 1 with ⟨rfl, g⟩ | ⟨hn, g⟩
    · cases server
      · clear hw1 hw2
        go_enter Try.func16, Try.ntmps16
        go_wp2_with fail
        refine bodyPost_ret (v := .tuple #[.agg (vA (putV v ⟨2, 1⟩)), .agg #[.bool false, .int .u32 0, .int .i64 0]]) (by simp [results, Try.results16, go_sem, vA, putV, *]) rfl ⟨rfl, ?_⟩
        (repeat (refine Chg.setCell ?_ (Or.inr (by simp <;> omega)) _)); exact (((((Chg.refl w).alloc (l := []) _).alloc _).alloc _).alloc _)
      · simp at hw2
    · obtain rfl : n = 0 := by omega
      clear hw1 hw2
      go_enter Try.func16, Try.ntmps16
      go_wp2_with fail
      refine bodyPost_ret (v := .tuple #[.agg (vA (putV v ⟨2, 0⟩)), .agg #[.bool false, .int .u32 0, .int .i64 0]]) (by simp [results, Try.results16, go_sem, vA, putV, *]) rfl ⟨rfl, ?_⟩
      (repeat (refine Chg.setCell ?_ (Or.inr (by simp <;> omega)) _)); exact (((((Chg.refl w).alloc (l := []) _).alloc _).alloc _).alloc _)
  rcases eqC d 3 with ⟨rfl, _⟩ | ⟨h3, g3⟩
  · clear hw
    go_enter Try.func16, Try.ntmps16
    go_wp2_with fail
    refine bodyPost_ret (v := .tuple #[.agg (vA (putV v ⟨3, n⟩)), .agg #[.bool false, .int .u32 0, .int .i64 0]]) (by simp [results, Try.results16, go_sem, vA, putV, *]) rfl ⟨rfl, ?_⟩
    (repeat (refine Chg.setCell ?_ (Or.inr (by simp <;> omega)) _)); exact (((((Chg.refl w).alloc (l := []) _).alloc _).alloc _).alloc _)
  rcases eqC d 4 with ⟨rfl, _⟩ | ⟨h4, g4⟩
  · have hn : n ≤ 2147483647 := by unfold wrongC at hw; simp at hw; exact hw
    clear hw
    go_enter Try.func16, Try.ntmps16
    go_wp2_with fail
    refine bodyPost_ret (v := .tuple #[.agg (vA (putV v ⟨4, n⟩)), .agg #[.bool false, .int .u32 0, .int .i64 0]]) (by simp [results, Try.results16, go_sem, vA, putV, *]) rfl ⟨rfl, ?_⟩
    (repeat (refine Chg.setCell ?_ (Or.inr (by simp <;> omega)) _)); exact (((((Chg.refl w).alloc (l := []) _).alloc _).alloc _).alloc _)
  rcases eqC d 5 with ⟨rfl, _⟩ | ⟨h5, g5⟩
  · have hn : 16384 ≤ n ∧ n ≤ 16777215 := by unfold wrongC at hw; simp at hw; omega
    obtain ⟨hn1, hn2⟩ := hn
    clear hw
    go_enter Try.func16, Try.ntmps16
    go_wp2_with fail
    refine bodyPost_ret (v := .tuple #[.agg (vA (putV v ⟨5, n⟩)), .agg #[.bool false, .int .u32 0, .int .i64 0]]) (by simp [results, Try.results16, go_sem, vA, putV, *]) rfl ⟨rfl, ?_⟩
    (repeat (refine Chg.setCell ?_ (Or.inr (by simp <;> omega)) _)); exact (((((Chg.refl w).alloc (l := []) _).alloc _).alloc _).alloc _)
  rcases eqC d 6 with ⟨rfl, _⟩ | ⟨h6, g6⟩
  · clear hw
    go_enter Try.func16, Try.ntmps16
    go_wp2_with fail
    refine bodyPost_ret (v := .tuple #[.agg (vA (putV v ⟨6, n⟩)), .agg #[.bool false, .int .u32 0, .int .i64 0]]) (by simp [results, Try.results16, go_sem, vA, putV, *]) rfl ⟨rfl, ?_⟩
    (repeat (refine Chg.setCell ?_ (Or.inr (by simp <;> omega)) _)); exact (((((Chg.refl w).alloc (l := []) _).alloc _).alloc _).alloc _)
  clear hw
  go_enter Try.func16, Try.ntmps16
  go_wp2_with fail
  refine bodyPost_ret (v := .tuple #[.agg (vA (putV v ⟨d, n⟩)), .agg #[.bool false, .int .u32 0, .int .i64 0]]) (by simp [results, Try.results16, go_sem, vA, putV, *]) rfl ⟨rfl, ?_⟩
  (repeat (refine Chg.setCell ?_ (Or.inr (by simp <;> omega)) _)); exact (((((Chg.refl w).alloc (l := []) _).alloc _).alloc _).alloc _)
set_option maxRecDepth 100000 in
set_option maxHeartbeats 8000000 in
theorem rapply_bad (v : V) (s : S) (server : Bool) (w : World) (ho : s.Ok) (hw : ¬ wrongC s server = 0) :
    Calls Try.prog 16 #[.agg (vA v), .agg #[.int .i64 s.id, .int .u32 s.val], .bool server] w fun e w' => e = .returned (.tuple #[.agg (vA v), .agg #[.bool true, .int .u32 (wrongC s server), .int .i64 0]]) ∧ Chg [] w w' := by
  obtain ⟨i0, i1, n0, n1⟩ := ho
  obtain ⟨d, n⟩ := s
  dsimp only at i0 i1 n0 n1 ⊢
  unfold vA
  rcases eqC d 2 with ⟨rfl, _⟩ | ⟨h2, g2⟩
  · by_cases h1 : 1 < n
    · rw [show wrongC ⟨2, n⟩ server = 1 by unfold wrongC; simp [h1]]
      clear hw
      go_enter Try.func16, Try.ntmps16
      have e1 : ¬ w.heap.size = w.heap.size + 1 + 1 := by omega
      have e2 : ¬ w.heap.size + 1 + 1 = w.heap.size := by omega
      have e3 : ¬ w.heap.size = w.heap.size + 1 + 1 + 1 := by omega
      have e4 : ¬ w.heap.size + 1 + 1 + 1 = w.heap.size := by omega
      have e5 : ¬ w.heap.size + 1 + 1 = w.heap.size + 1 + 1 + 1 := by omega
      have e6 : ¬ w.heap.size + 1 + 1 + 1 = w.heap.size + 1 + 1 := by omega
      go_upto_region 7 with fail
      go_region_held3 (fun w' => World.cell? w' ⟨w.heap.size, 0, none⟩ = some (.int .i64 v.table) ∧ World.cell? w' ⟨w.heap.size, 1, none⟩ = some (.bool v.push) ∧ World.cell? w' ⟨w.heap.size, 2, none⟩ = some (.int .i64 v.streams) ∧ World.cell? w' ⟨w.heap.size, 3, none⟩ = some (.int .i64 v.window) ∧ World.cell? w' ⟨w.heap.size, 4, none⟩ = some (.int .i64 v.frame) ∧ World.cell? w' ⟨w.heap.size, 5, none⟩ = some (.int .i64 v.list)) (go_keep) (first
        | (
          go_at_call 21
          refine (broken_any 1 _).mono ?_
          rintro e w2 ⟨rfl, h2⟩
          have a2 : At w2 w.heap.size (vB v) := (((((At.new w (vB v)).alloc (sB ⟨2, n⟩)).alloc (vB v0)).alloc (fB 0)).drew).chg h2 (by simp)
          have f2 : At w2 (w.heap.size + 1 + 1 + 1) (fB 0) := ((At.new' (w := ((w.alloc (vB v)).alloc (sB ⟨2, n⟩)).alloc (vB v0)) (by simp)).drew).chg h2 (by simp)
          have b2 : At w2 (w.heap.size + 1 + 1) (vB v0) := (((At.new' (w := (w.alloc (vB v)).alloc (sB ⟨2, n⟩)) (o := vB v0) (by simp)).alloc (fB 0)).drew).chg h2 (by simp)
          have c2 : Chg [] w w2 := (((((Chg.refl w).alloc (l := []) (vB v)).alloc (sB ⟨2, n⟩)).alloc (vB v0)).alloc (fB 0)).drew.trans' h2
          have c0 : World.cell? w2 ⟨w.heap.size, 0, none⟩ = some (.int .i64 v.table) := a2.cell rfl
          have c1 : World.cell? w2 ⟨w.heap.size, 1, none⟩ = some (.bool v.push) := a2.cell rfl
          have c2' : World.cell? w2 ⟨w.heap.size, 2, none⟩ = some (.int .i64 v.streams) := a2.cell rfl
          have c3 : World.cell? w2 ⟨w.heap.size, 3, none⟩ = some (.int .i64 v.window) := a2.cell rfl
          have c4 : World.cell? w2 ⟨w.heap.size, 4, none⟩ = some (.int .i64 v.frame) := a2.cell rfl
          have c5 : World.cell? w2 ⟨w.heap.size, 5, none⟩ = some (.int .i64 v.list) := a2.cell rfl
          have y0 : World.cell? w2 ⟨w.heap.size + 1 + 1, 0, none⟩ = some (.int .i64 (v0).table) := b2.cell rfl
          have y1 : World.cell? w2 ⟨w.heap.size + 1 + 1, 1, none⟩ = some (.bool (v0).push) := b2.cell rfl
          have y2 : World.cell? w2 ⟨w.heap.size + 1 + 1, 2, none⟩ = some (.int .i64 (v0).streams) := b2.cell rfl
          have y3 : World.cell? w2 ⟨w.heap.size + 1 + 1, 3, none⟩ = some (.int .i64 (v0).window) := b2.cell rfl
          have y4 : World.cell? w2 ⟨w.heap.size + 1 + 1, 4, none⟩ = some (.int .i64 (v0).frame) := b2.cell rfl
          have y5 : World.cell? w2 ⟨w.heap.size + 1 + 1, 5, none⟩ = some (.int .i64 (v0).list) := b2.cell rfl
          have yf : ∀ j, World.frozen? w2 ⟨w.heap.size + 1 + 1, j, none⟩ = false := fun j => b2.free j
          have z0 : World.cell? w2 ⟨w.heap.size + 1 + 1 + 1, 0, none⟩ = some (.bool false) := f2.cell rfl
          have z1 : World.cell? w2 ⟨w.heap.size + 1 + 1 + 1, 1, none⟩ = some (.int .u32 0) := f2.cell rfl
          have z2 : World.cell? w2 ⟨w.heap.size + 1 + 1 + 1, 2, none⟩ = some (.int .i64 0) := f2.cell rfl
          have zf : ∀ j, World.frozen? w2 ⟨w.heap.size + 1 + 1 + 1, j, none⟩ = false := fun j => f2.free j
          skip)
        | (
          go_at_call 21
          refine (broken_any 1 _).mono ?_
          rintro e w2 ⟨rfl, h2⟩
          have a2 : At w2 w.heap.size (vB v) := (((((At.new w (vB v)).alloc (sB ⟨2, n⟩)).alloc (vB v)).alloc (fB 0)).drew).chg h2 (by simp)
          have f2 : At w2 (w.heap.size + 1 + 1 + 1) (fB 0) := ((At.new' (w := ((w.alloc (vB v)).alloc (sB ⟨2, n⟩)).alloc (vB v)) (by simp)).drew).chg h2 (by simp)
          have b2 : At w2 (w.heap.size + 1 + 1) (vB v) := (((At.new' (w := (w.alloc (vB v)).alloc (sB ⟨2, n⟩)) (o := vB v) (by simp)).alloc (fB 0)).drew).chg h2 (by simp)
          have c2 : Chg [] w w2 := (((((Chg.refl w).alloc (l := []) (vB v)).alloc (sB ⟨2, n⟩)).alloc (vB v)).alloc (fB 0)).drew.trans' h2
          have c0 : World.cell? w2 ⟨w.heap.size, 0, none⟩ = some (.int .i64 v.table) := a2.cell rfl
          have c1 : World.cell? w2 ⟨w.heap.size, 1, none⟩ = some (.bool v.push) := a2.cell rfl
          have c2' : World.cell? w2 ⟨w.heap.size, 2, none⟩ = some (.int .i64 v.streams) := a2.cell rfl
          have c3 : World.cell? w2 ⟨w.heap.size, 3, none⟩ = some (.int .i64 v.window) := a2.cell rfl
          have c4 : World.cell? w2 ⟨w.heap.size, 4, none⟩ = some (.int .i64 v.frame) := a2.cell rfl
          have c5 : World.cell? w2 ⟨w.heap.size, 5, none⟩ = some (.int .i64 v.list) := a2.cell rfl
          have y0 : World.cell? w2 ⟨w.heap.size + 1 + 1, 0, none⟩ = some (.int .i64 (v).table) := b2.cell rfl
          have y1 : World.cell? w2 ⟨w.heap.size + 1 + 1, 1, none⟩ = some (.bool (v).push) := b2.cell rfl
          have y2 : World.cell? w2 ⟨w.heap.size + 1 + 1, 2, none⟩ = some (.int .i64 (v).streams) := b2.cell rfl
          have y3 : World.cell? w2 ⟨w.heap.size + 1 + 1, 3, none⟩ = some (.int .i64 (v).window) := b2.cell rfl
          have y4 : World.cell? w2 ⟨w.heap.size + 1 + 1, 4, none⟩ = some (.int .i64 (v).frame) := b2.cell rfl
          have y5 : World.cell? w2 ⟨w.heap.size + 1 + 1, 5, none⟩ = some (.int .i64 (v).list) := b2.cell rfl
          have yf : ∀ j, World.frozen? w2 ⟨w.heap.size + 1 + 1, j, none⟩ = false := fun j => b2.free j
          have z0 : World.cell? w2 ⟨w.heap.size + 1 + 1 + 1, 0, none⟩ = some (.bool false) := f2.cell rfl
          have z1 : World.cell? w2 ⟨w.heap.size + 1 + 1 + 1, 1, none⟩ = some (.int .u32 0) := f2.cell rfl
          have z2 : World.cell? w2 ⟨w.heap.size + 1 + 1 + 1, 2, none⟩ = some (.int .i64 0) := f2.cell rfl
          have zf : ∀ j, World.frozen? w2 ⟨w.heap.size + 1 + 1 + 1, j, none⟩ = false := fun j => f2.free j
          skip)
        | fail)
      all_goals go_wp2_with fail
      all_goals (refine bodyPost_ret (v := .tuple #[.agg (vA v), .agg #[.bool true, .int .u32 1, .int .i64 0]]) (by simp [results, Try.results16, go_sem, vA, *]) rfl ⟨rfl, ?_⟩)
      all_goals ((repeat (refine Chg.setCell ?_ (Or.inr (by simp <;> omega)) _)); exact c2)
    · rcases eqC n 1 with ⟨rfl, g⟩ | ⟨hn, g⟩
      · cases server
        · exact absurd (by decide) hw
        · rw [show wrongC ⟨2, 1⟩ true = 1 by decide]
          clear hw
          go_enter Try.func16, Try.ntmps16
          have e1 : ¬ w.heap.size = w.heap.size + 1 + 1 := by omega
          have e2 : ¬ w.heap.size + 1 + 1 = w.heap.size := by omega
          have e3 : ¬ w.heap.size = w.heap.size + 1 + 1 + 1 := by omega
          have e4 : ¬ w.heap.size + 1 + 1 + 1 = w.heap.size := by omega
          have e5 : ¬ w.heap.size + 1 + 1 = w.heap.size + 1 + 1 + 1 := by omega
          have e6 : ¬ w.heap.size + 1 + 1 + 1 = w.heap.size + 1 + 1 := by omega
          go_upto_region 7 with fail
          go_region_held3 (fun w' => World.cell? w' ⟨w.heap.size, 0, none⟩ = some (.int .i64 v.table) ∧ World.cell? w' ⟨w.heap.size, 1, none⟩ = some (.bool v.push) ∧ World.cell? w' ⟨w.heap.size, 2, none⟩ = some (.int .i64 v.streams) ∧ World.cell? w' ⟨w.heap.size, 3, none⟩ = some (.int .i64 v.window) ∧ World.cell? w' ⟨w.heap.size, 4, none⟩ = some (.int .i64 v.frame) ∧ World.cell? w' ⟨w.heap.size, 5, none⟩ = some (.int .i64 v.list)) (go_keep) (first
            | (
              go_at_call 21
              refine (broken_any 1 _).mono ?_
              rintro e w2 ⟨rfl, h2⟩
              have a2 : At w2 w.heap.size (vB v) := (((((At.new w (vB v)).alloc (sB ⟨2, 1⟩)).alloc (vB v0)).alloc (fB 0)).drew).chg h2 (by simp)
              have f2 : At w2 (w.heap.size + 1 + 1 + 1) (fB 0) := ((At.new' (w := ((w.alloc (vB v)).alloc (sB ⟨2, 1⟩)).alloc (vB v0)) (by simp)).drew).chg h2 (by simp)
              have b2 : At w2 (w.heap.size + 1 + 1) (vB v0) := (((At.new' (w := (w.alloc (vB v)).alloc (sB ⟨2, 1⟩)) (o := vB v0) (by simp)).alloc (fB 0)).drew).chg h2 (by simp)
              have c2 : Chg [] w w2 := (((((Chg.refl w).alloc (l := []) (vB v)).alloc (sB ⟨2, 1⟩)).alloc (vB v0)).alloc (fB 0)).drew.trans' h2
              have c0 : World.cell? w2 ⟨w.heap.size, 0, none⟩ = some (.int .i64 v.table) := a2.cell rfl
              have c1 : World.cell? w2 ⟨w.heap.size, 1, none⟩ = some (.bool v.push) := a2.cell rfl
              have c2' : World.cell? w2 ⟨w.heap.size, 2, none⟩ = some (.int .i64 v.streams) := a2.cell rfl
              have c3 : World.cell? w2 ⟨w.heap.size, 3, none⟩ = some (.int .i64 v.window) := a2.cell rfl
              have c4 : World.cell? w2 ⟨w.heap.size, 4, none⟩ = some (.int .i64 v.frame) := a2.cell rfl
              have c5 : World.cell? w2 ⟨w.heap.size, 5, none⟩ = some (.int .i64 v.list) := a2.cell rfl
              have y0 : World.cell? w2 ⟨w.heap.size + 1 + 1, 0, none⟩ = some (.int .i64 (v0).table) := b2.cell rfl
              have y1 : World.cell? w2 ⟨w.heap.size + 1 + 1, 1, none⟩ = some (.bool (v0).push) := b2.cell rfl
              have y2 : World.cell? w2 ⟨w.heap.size + 1 + 1, 2, none⟩ = some (.int .i64 (v0).streams) := b2.cell rfl
              have y3 : World.cell? w2 ⟨w.heap.size + 1 + 1, 3, none⟩ = some (.int .i64 (v0).window) := b2.cell rfl
              have y4 : World.cell? w2 ⟨w.heap.size + 1 + 1, 4, none⟩ = some (.int .i64 (v0).frame) := b2.cell rfl
              have y5 : World.cell? w2 ⟨w.heap.size + 1 + 1, 5, none⟩ = some (.int .i64 (v0).list) := b2.cell rfl
              have yf : ∀ j, World.frozen? w2 ⟨w.heap.size + 1 + 1, j, none⟩ = false := fun j => b2.free j
              have z0 : World.cell? w2 ⟨w.heap.size + 1 + 1 + 1, 0, none⟩ = some (.bool false) := f2.cell rfl
              have z1 : World.cell? w2 ⟨w.heap.size + 1 + 1 + 1, 1, none⟩ = some (.int .u32 0) := f2.cell rfl
              have z2 : World.cell? w2 ⟨w.heap.size + 1 + 1 + 1, 2, none⟩ = some (.int .i64 0) := f2.cell rfl
              have zf : ∀ j, World.frozen? w2 ⟨w.heap.size + 1 + 1 + 1, j, none⟩ = false := fun j => f2.free j
              skip)
            | (
              go_at_call 21
              refine (broken_any 1 _).mono ?_
              rintro e w2 ⟨rfl, h2⟩
              have a2 : At w2 w.heap.size (vB v) := (((((At.new w (vB v)).alloc (sB ⟨2, 1⟩)).alloc (vB v)).alloc (fB 0)).drew).chg h2 (by simp)
              have f2 : At w2 (w.heap.size + 1 + 1 + 1) (fB 0) := ((At.new' (w := ((w.alloc (vB v)).alloc (sB ⟨2, 1⟩)).alloc (vB v)) (by simp)).drew).chg h2 (by simp)
              have b2 : At w2 (w.heap.size + 1 + 1) (vB v) := (((At.new' (w := (w.alloc (vB v)).alloc (sB ⟨2, 1⟩)) (o := vB v) (by simp)).alloc (fB 0)).drew).chg h2 (by simp)
              have c2 : Chg [] w w2 := (((((Chg.refl w).alloc (l := []) (vB v)).alloc (sB ⟨2, 1⟩)).alloc (vB v)).alloc (fB 0)).drew.trans' h2
              have c0 : World.cell? w2 ⟨w.heap.size, 0, none⟩ = some (.int .i64 v.table) := a2.cell rfl
              have c1 : World.cell? w2 ⟨w.heap.size, 1, none⟩ = some (.bool v.push) := a2.cell rfl
              have c2' : World.cell? w2 ⟨w.heap.size, 2, none⟩ = some (.int .i64 v.streams) := a2.cell rfl
              have c3 : World.cell? w2 ⟨w.heap.size, 3, none⟩ = some (.int .i64 v.window) := a2.cell rfl
              have c4 : World.cell? w2 ⟨w.heap.size, 4, none⟩ = some (.int .i64 v.frame) := a2.cell rfl
              have c5 : World.cell? w2 ⟨w.heap.size, 5, none⟩ = some (.int .i64 v.list) := a2.cell rfl
              have y0 : World.cell? w2 ⟨w.heap.size + 1 + 1, 0, none⟩ = some (.int .i64 (v).table) := b2.cell rfl
              have y1 : World.cell? w2 ⟨w.heap.size + 1 + 1, 1, none⟩ = some (.bool (v).push) := b2.cell rfl
              have y2 : World.cell? w2 ⟨w.heap.size + 1 + 1, 2, none⟩ = some (.int .i64 (v).streams) := b2.cell rfl
              have y3 : World.cell? w2 ⟨w.heap.size + 1 + 1, 3, none⟩ = some (.int .i64 (v).window) := b2.cell rfl
              have y4 : World.cell? w2 ⟨w.heap.size + 1 + 1, 4, none⟩ = some (.int .i64 (v).frame) := b2.cell rfl
              have y5 : World.cell? w2 ⟨w.heap.size + 1 + 1, 5, none⟩ = some (.int .i64 (v).list) := b2.cell rfl
              have yf : ∀ j, World.frozen? w2 ⟨w.heap.size + 1 + 1, j, none⟩ = false := fun j => b2.free j
              have z0 : World.cell? w2 ⟨w.heap.size + 1 + 1 + 1, 0, none⟩ = some (.bool false) := f2.cell rfl
              have z1 : World.cell? w2 ⟨w.heap.size + 1 + 1 + 1, 1, none⟩ = some (.int .u32 0) := f2.cell rfl
              have z2 : World.cell? w2 ⟨w.heap.size + 1 + 1 + 1, 2, none⟩ = some (.int .i64 0) := f2.cell rfl
              have zf : ∀ j, World.frozen? w2 ⟨w.heap.size + 1 + 1 + 1, j, none⟩ = false := fun j => f2.free j
              skip)
            | fail)
          all_goals go_wp2_with fail
          all_goals (refine bodyPost_ret (v := .tuple #[.agg (vA v), .agg #[.bool true, .int .u32 1, .int .i64 0]]) (by simp [results, Try.results16, go_sem, vA, *]) rfl ⟨rfl, ?_⟩)
          all_goals ((repeat (refine Chg.setCell ?_ (Or.inr (by simp <;> omega)) _)); exact c2)
      · exact absurd (by unfold wrongC; simp; omega) hw
  rcases eqC d 4 with ⟨rfl, _⟩ | ⟨h4, g4⟩
  · by_cases h1 : 2147483647 < n
    · rw [show wrongC ⟨4, n⟩ server = 3 by unfold wrongC; simp [h1]]
      clear hw
      go_enter Try.func16, Try.ntmps16
      have e1 : ¬ w.heap.size = w.heap.size + 1 + 1 := by omega
      have e2 : ¬ w.heap.size + 1 + 1 = w.heap.size := by omega
      have e3 : ¬ w.heap.size = w.heap.size + 1 + 1 + 1 := by omega
      have e4 : ¬ w.heap.size + 1 + 1 + 1 = w.heap.size := by omega
      have e5 : ¬ w.heap.size + 1 + 1 = w.heap.size + 1 + 1 + 1 := by omega
      have e6 : ¬ w.heap.size + 1 + 1 + 1 = w.heap.size + 1 + 1 := by omega
      go_upto_region 13 with fail
      go_region_held3 (fun w' => World.cell? w' ⟨w.heap.size, 0, none⟩ = some (.int .i64 v.table) ∧ World.cell? w' ⟨w.heap.size, 1, none⟩ = some (.bool v.push) ∧ World.cell? w' ⟨w.heap.size, 2, none⟩ = some (.int .i64 v.streams) ∧ World.cell? w' ⟨w.heap.size, 3, none⟩ = some (.int .i64 v.window) ∧ World.cell? w' ⟨w.heap.size, 4, none⟩ = some (.int .i64 v.frame) ∧ World.cell? w' ⟨w.heap.size, 5, none⟩ = some (.int .i64 v.list)) (go_keep) (first
        | (
          go_at_call 21
          refine (broken_any 3 _).mono ?_
          rintro e w2 ⟨rfl, h2⟩
          have a2 : At w2 w.heap.size (vB v) := (((((At.new w (vB v)).alloc (sB ⟨4, n⟩)).alloc (vB v0)).alloc (fB 0)).drew).chg h2 (by simp)
          have f2 : At w2 (w.heap.size + 1 + 1 + 1) (fB 0) := ((At.new' (w := ((w.alloc (vB v)).alloc (sB ⟨4, n⟩)).alloc (vB v0)) (by simp)).drew).chg h2 (by simp)
          have b2 : At w2 (w.heap.size + 1 + 1) (vB v0) := (((At.new' (w := (w.alloc (vB v)).alloc (sB ⟨4, n⟩)) (o := vB v0) (by simp)).alloc (fB 0)).drew).chg h2 (by simp)
          have c2 : Chg [] w w2 := (((((Chg.refl w).alloc (l := []) (vB v)).alloc (sB ⟨4, n⟩)).alloc (vB v0)).alloc (fB 0)).drew.trans' h2
          have c0 : World.cell? w2 ⟨w.heap.size, 0, none⟩ = some (.int .i64 v.table) := a2.cell rfl
          have c1 : World.cell? w2 ⟨w.heap.size, 1, none⟩ = some (.bool v.push) := a2.cell rfl
          have c2' : World.cell? w2 ⟨w.heap.size, 2, none⟩ = some (.int .i64 v.streams) := a2.cell rfl
          have c3 : World.cell? w2 ⟨w.heap.size, 3, none⟩ = some (.int .i64 v.window) := a2.cell rfl
          have c4 : World.cell? w2 ⟨w.heap.size, 4, none⟩ = some (.int .i64 v.frame) := a2.cell rfl
          have c5 : World.cell? w2 ⟨w.heap.size, 5, none⟩ = some (.int .i64 v.list) := a2.cell rfl
          have y0 : World.cell? w2 ⟨w.heap.size + 1 + 1, 0, none⟩ = some (.int .i64 (v0).table) := b2.cell rfl
          have y1 : World.cell? w2 ⟨w.heap.size + 1 + 1, 1, none⟩ = some (.bool (v0).push) := b2.cell rfl
          have y2 : World.cell? w2 ⟨w.heap.size + 1 + 1, 2, none⟩ = some (.int .i64 (v0).streams) := b2.cell rfl
          have y3 : World.cell? w2 ⟨w.heap.size + 1 + 1, 3, none⟩ = some (.int .i64 (v0).window) := b2.cell rfl
          have y4 : World.cell? w2 ⟨w.heap.size + 1 + 1, 4, none⟩ = some (.int .i64 (v0).frame) := b2.cell rfl
          have y5 : World.cell? w2 ⟨w.heap.size + 1 + 1, 5, none⟩ = some (.int .i64 (v0).list) := b2.cell rfl
          have yf : ∀ j, World.frozen? w2 ⟨w.heap.size + 1 + 1, j, none⟩ = false := fun j => b2.free j
          have z0 : World.cell? w2 ⟨w.heap.size + 1 + 1 + 1, 0, none⟩ = some (.bool false) := f2.cell rfl
          have z1 : World.cell? w2 ⟨w.heap.size + 1 + 1 + 1, 1, none⟩ = some (.int .u32 0) := f2.cell rfl
          have z2 : World.cell? w2 ⟨w.heap.size + 1 + 1 + 1, 2, none⟩ = some (.int .i64 0) := f2.cell rfl
          have zf : ∀ j, World.frozen? w2 ⟨w.heap.size + 1 + 1 + 1, j, none⟩ = false := fun j => f2.free j
          skip)
        | (
          go_at_call 21
          refine (broken_any 3 _).mono ?_
          rintro e w2 ⟨rfl, h2⟩
          have a2 : At w2 w.heap.size (vB v) := (((((At.new w (vB v)).alloc (sB ⟨4, n⟩)).alloc (vB v)).alloc (fB 0)).drew).chg h2 (by simp)
          have f2 : At w2 (w.heap.size + 1 + 1 + 1) (fB 0) := ((At.new' (w := ((w.alloc (vB v)).alloc (sB ⟨4, n⟩)).alloc (vB v)) (by simp)).drew).chg h2 (by simp)
          have b2 : At w2 (w.heap.size + 1 + 1) (vB v) := (((At.new' (w := (w.alloc (vB v)).alloc (sB ⟨4, n⟩)) (o := vB v) (by simp)).alloc (fB 0)).drew).chg h2 (by simp)
          have c2 : Chg [] w w2 := (((((Chg.refl w).alloc (l := []) (vB v)).alloc (sB ⟨4, n⟩)).alloc (vB v)).alloc (fB 0)).drew.trans' h2
          have c0 : World.cell? w2 ⟨w.heap.size, 0, none⟩ = some (.int .i64 v.table) := a2.cell rfl
          have c1 : World.cell? w2 ⟨w.heap.size, 1, none⟩ = some (.bool v.push) := a2.cell rfl
          have c2' : World.cell? w2 ⟨w.heap.size, 2, none⟩ = some (.int .i64 v.streams) := a2.cell rfl
          have c3 : World.cell? w2 ⟨w.heap.size, 3, none⟩ = some (.int .i64 v.window) := a2.cell rfl
          have c4 : World.cell? w2 ⟨w.heap.size, 4, none⟩ = some (.int .i64 v.frame) := a2.cell rfl
          have c5 : World.cell? w2 ⟨w.heap.size, 5, none⟩ = some (.int .i64 v.list) := a2.cell rfl
          have y0 : World.cell? w2 ⟨w.heap.size + 1 + 1, 0, none⟩ = some (.int .i64 (v).table) := b2.cell rfl
          have y1 : World.cell? w2 ⟨w.heap.size + 1 + 1, 1, none⟩ = some (.bool (v).push) := b2.cell rfl
          have y2 : World.cell? w2 ⟨w.heap.size + 1 + 1, 2, none⟩ = some (.int .i64 (v).streams) := b2.cell rfl
          have y3 : World.cell? w2 ⟨w.heap.size + 1 + 1, 3, none⟩ = some (.int .i64 (v).window) := b2.cell rfl
          have y4 : World.cell? w2 ⟨w.heap.size + 1 + 1, 4, none⟩ = some (.int .i64 (v).frame) := b2.cell rfl
          have y5 : World.cell? w2 ⟨w.heap.size + 1 + 1, 5, none⟩ = some (.int .i64 (v).list) := b2.cell rfl
          have yf : ∀ j, World.frozen? w2 ⟨w.heap.size + 1 + 1, j, none⟩ = false := fun j => b2.free j
          have z0 : World.cell? w2 ⟨w.heap.size + 1 + 1 + 1, 0, none⟩ = some (.bool false) := f2.cell rfl
          have z1 : World.cell? w2 ⟨w.heap.size + 1 + 1 + 1, 1, none⟩ = some (.int .u32 0) := f2.cell rfl
          have z2 : World.cell? w2 ⟨w.heap.size + 1 + 1 + 1, 2, none⟩ = some (.int .i64 0) := f2.cell rfl
          have zf : ∀ j, World.frozen? w2 ⟨w.heap.size + 1 + 1 + 1, j, none⟩ = false := fun j => f2.free j
          skip)
        | fail)
      all_goals go_wp2_with fail
      all_goals (refine bodyPost_ret (v := .tuple #[.agg (vA v), .agg #[.bool true, .int .u32 3, .int .i64 0]]) (by simp [results, Try.results16, go_sem, vA, *]) rfl ⟨rfl, ?_⟩)
      all_goals ((repeat (refine Chg.setCell ?_ (Or.inr (by simp <;> omega)) _)); exact c2)
    · exact absurd (by unfold wrongC; simp; omega) hw
  rcases eqC d 5 with ⟨rfl, _⟩ | ⟨h5, g5⟩
  · by_cases h1 : n < 16384
    · rw [show wrongC ⟨5, n⟩ server = 1 by unfold wrongC; simp [h1]]
      clear hw
      go_enter Try.func16, Try.ntmps16
      have e1 : ¬ w.heap.size = w.heap.size + 1 + 1 := by omega
      have e2 : ¬ w.heap.size + 1 + 1 = w.heap.size := by omega
      have e3 : ¬ w.heap.size = w.heap.size + 1 + 1 + 1 := by omega
      have e4 : ¬ w.heap.size + 1 + 1 + 1 = w.heap.size := by omega
      have e5 : ¬ w.heap.size + 1 + 1 = w.heap.size + 1 + 1 + 1 := by omega
      have e6 : ¬ w.heap.size + 1 + 1 + 1 = w.heap.size + 1 + 1 := by omega
      go_upto_region 17 with fail
      go_region_held3 (fun w' => World.cell? w' ⟨w.heap.size, 0, none⟩ = some (.int .i64 v.table) ∧ World.cell? w' ⟨w.heap.size, 1, none⟩ = some (.bool v.push) ∧ World.cell? w' ⟨w.heap.size, 2, none⟩ = some (.int .i64 v.streams) ∧ World.cell? w' ⟨w.heap.size, 3, none⟩ = some (.int .i64 v.window) ∧ World.cell? w' ⟨w.heap.size, 4, none⟩ = some (.int .i64 v.frame) ∧ World.cell? w' ⟨w.heap.size, 5, none⟩ = some (.int .i64 v.list)) (go_keep) (first
        | (
          go_at_call 21
          refine (broken_any 1 _).mono ?_
          rintro e w2 ⟨rfl, h2⟩
          have a2 : At w2 w.heap.size (vB v) := (((((At.new w (vB v)).alloc (sB ⟨5, n⟩)).alloc (vB v0)).alloc (fB 0)).drew).chg h2 (by simp)
          have f2 : At w2 (w.heap.size + 1 + 1 + 1) (fB 0) := ((At.new' (w := ((w.alloc (vB v)).alloc (sB ⟨5, n⟩)).alloc (vB v0)) (by simp)).drew).chg h2 (by simp)
          have b2 : At w2 (w.heap.size + 1 + 1) (vB v0) := (((At.new' (w := (w.alloc (vB v)).alloc (sB ⟨5, n⟩)) (o := vB v0) (by simp)).alloc (fB 0)).drew).chg h2 (by simp)
          have c2 : Chg [] w w2 := (((((Chg.refl w).alloc (l := []) (vB v)).alloc (sB ⟨5, n⟩)).alloc (vB v0)).alloc (fB 0)).drew.trans' h2
          have c0 : World.cell? w2 ⟨w.heap.size, 0, none⟩ = some (.int .i64 v.table) := a2.cell rfl
          have c1 : World.cell? w2 ⟨w.heap.size, 1, none⟩ = some (.bool v.push) := a2.cell rfl
          have c2' : World.cell? w2 ⟨w.heap.size, 2, none⟩ = some (.int .i64 v.streams) := a2.cell rfl
          have c3 : World.cell? w2 ⟨w.heap.size, 3, none⟩ = some (.int .i64 v.window) := a2.cell rfl
          have c4 : World.cell? w2 ⟨w.heap.size, 4, none⟩ = some (.int .i64 v.frame) := a2.cell rfl
          have c5 : World.cell? w2 ⟨w.heap.size, 5, none⟩ = some (.int .i64 v.list) := a2.cell rfl
          have y0 : World.cell? w2 ⟨w.heap.size + 1 + 1, 0, none⟩ = some (.int .i64 (v0).table) := b2.cell rfl
          have y1 : World.cell? w2 ⟨w.heap.size + 1 + 1, 1, none⟩ = some (.bool (v0).push) := b2.cell rfl
          have y2 : World.cell? w2 ⟨w.heap.size + 1 + 1, 2, none⟩ = some (.int .i64 (v0).streams) := b2.cell rfl
          have y3 : World.cell? w2 ⟨w.heap.size + 1 + 1, 3, none⟩ = some (.int .i64 (v0).window) := b2.cell rfl
          have y4 : World.cell? w2 ⟨w.heap.size + 1 + 1, 4, none⟩ = some (.int .i64 (v0).frame) := b2.cell rfl
          have y5 : World.cell? w2 ⟨w.heap.size + 1 + 1, 5, none⟩ = some (.int .i64 (v0).list) := b2.cell rfl
          have yf : ∀ j, World.frozen? w2 ⟨w.heap.size + 1 + 1, j, none⟩ = false := fun j => b2.free j
          have z0 : World.cell? w2 ⟨w.heap.size + 1 + 1 + 1, 0, none⟩ = some (.bool false) := f2.cell rfl
          have z1 : World.cell? w2 ⟨w.heap.size + 1 + 1 + 1, 1, none⟩ = some (.int .u32 0) := f2.cell rfl
          have z2 : World.cell? w2 ⟨w.heap.size + 1 + 1 + 1, 2, none⟩ = some (.int .i64 0) := f2.cell rfl
          have zf : ∀ j, World.frozen? w2 ⟨w.heap.size + 1 + 1 + 1, j, none⟩ = false := fun j => f2.free j
          skip)
        | (
          go_at_call 21
          refine (broken_any 1 _).mono ?_
          rintro e w2 ⟨rfl, h2⟩
          have a2 : At w2 w.heap.size (vB v) := (((((At.new w (vB v)).alloc (sB ⟨5, n⟩)).alloc (vB v)).alloc (fB 0)).drew).chg h2 (by simp)
          have f2 : At w2 (w.heap.size + 1 + 1 + 1) (fB 0) := ((At.new' (w := ((w.alloc (vB v)).alloc (sB ⟨5, n⟩)).alloc (vB v)) (by simp)).drew).chg h2 (by simp)
          have b2 : At w2 (w.heap.size + 1 + 1) (vB v) := (((At.new' (w := (w.alloc (vB v)).alloc (sB ⟨5, n⟩)) (o := vB v) (by simp)).alloc (fB 0)).drew).chg h2 (by simp)
          have c2 : Chg [] w w2 := (((((Chg.refl w).alloc (l := []) (vB v)).alloc (sB ⟨5, n⟩)).alloc (vB v)).alloc (fB 0)).drew.trans' h2
          have c0 : World.cell? w2 ⟨w.heap.size, 0, none⟩ = some (.int .i64 v.table) := a2.cell rfl
          have c1 : World.cell? w2 ⟨w.heap.size, 1, none⟩ = some (.bool v.push) := a2.cell rfl
          have c2' : World.cell? w2 ⟨w.heap.size, 2, none⟩ = some (.int .i64 v.streams) := a2.cell rfl
          have c3 : World.cell? w2 ⟨w.heap.size, 3, none⟩ = some (.int .i64 v.window) := a2.cell rfl
          have c4 : World.cell? w2 ⟨w.heap.size, 4, none⟩ = some (.int .i64 v.frame) := a2.cell rfl
          have c5 : World.cell? w2 ⟨w.heap.size, 5, none⟩ = some (.int .i64 v.list) := a2.cell rfl
          have y0 : World.cell? w2 ⟨w.heap.size + 1 + 1, 0, none⟩ = some (.int .i64 (v).table) := b2.cell rfl
          have y1 : World.cell? w2 ⟨w.heap.size + 1 + 1, 1, none⟩ = some (.bool (v).push) := b2.cell rfl
          have y2 : World.cell? w2 ⟨w.heap.size + 1 + 1, 2, none⟩ = some (.int .i64 (v).streams) := b2.cell rfl
          have y3 : World.cell? w2 ⟨w.heap.size + 1 + 1, 3, none⟩ = some (.int .i64 (v).window) := b2.cell rfl
          have y4 : World.cell? w2 ⟨w.heap.size + 1 + 1, 4, none⟩ = some (.int .i64 (v).frame) := b2.cell rfl
          have y5 : World.cell? w2 ⟨w.heap.size + 1 + 1, 5, none⟩ = some (.int .i64 (v).list) := b2.cell rfl
          have yf : ∀ j, World.frozen? w2 ⟨w.heap.size + 1 + 1, j, none⟩ = false := fun j => b2.free j
          have z0 : World.cell? w2 ⟨w.heap.size + 1 + 1 + 1, 0, none⟩ = some (.bool false) := f2.cell rfl
          have z1 : World.cell? w2 ⟨w.heap.size + 1 + 1 + 1, 1, none⟩ = some (.int .u32 0) := f2.cell rfl
          have z2 : World.cell? w2 ⟨w.heap.size + 1 + 1 + 1, 2, none⟩ = some (.int .i64 0) := f2.cell rfl
          have zf : ∀ j, World.frozen? w2 ⟨w.heap.size + 1 + 1 + 1, j, none⟩ = false := fun j => f2.free j
          skip)
        | fail)
      all_goals go_wp2_with fail
      all_goals (refine bodyPost_ret (v := .tuple #[.agg (vA v), .agg #[.bool true, .int .u32 1, .int .i64 0]]) (by simp [results, Try.results16, go_sem, vA, *]) rfl ⟨rfl, ?_⟩)
      all_goals ((repeat (refine Chg.setCell ?_ (Or.inr (by simp <;> omega)) _)); exact c2)
    · by_cases h3 : 16777215 < n
      · rw [show wrongC ⟨5, n⟩ server = 1 by unfold wrongC; simp [h3]]
        clear hw
        go_enter Try.func16, Try.ntmps16
        have e1 : ¬ w.heap.size = w.heap.size + 1 + 1 := by omega
        have e2 : ¬ w.heap.size + 1 + 1 = w.heap.size := by omega
        have e3 : ¬ w.heap.size = w.heap.size + 1 + 1 + 1 := by omega
        have e4 : ¬ w.heap.size + 1 + 1 + 1 = w.heap.size := by omega
        have e5 : ¬ w.heap.size + 1 + 1 = w.heap.size + 1 + 1 + 1 := by omega
        have e6 : ¬ w.heap.size + 1 + 1 + 1 = w.heap.size + 1 + 1 := by omega
        go_upto_region 17 with fail
        go_region_held3 (fun w' => World.cell? w' ⟨w.heap.size, 0, none⟩ = some (.int .i64 v.table) ∧ World.cell? w' ⟨w.heap.size, 1, none⟩ = some (.bool v.push) ∧ World.cell? w' ⟨w.heap.size, 2, none⟩ = some (.int .i64 v.streams) ∧ World.cell? w' ⟨w.heap.size, 3, none⟩ = some (.int .i64 v.window) ∧ World.cell? w' ⟨w.heap.size, 4, none⟩ = some (.int .i64 v.frame) ∧ World.cell? w' ⟨w.heap.size, 5, none⟩ = some (.int .i64 v.list)) (go_keep) (first
          | (
            go_at_call 21
            refine (broken_any 1 _).mono ?_
            rintro e w2 ⟨rfl, h2⟩
            have a2 : At w2 w.heap.size (vB v) := (((((At.new w (vB v)).alloc (sB ⟨5, n⟩)).alloc (vB v0)).alloc (fB 0)).drew).chg h2 (by simp)
            have f2 : At w2 (w.heap.size + 1 + 1 + 1) (fB 0) := ((At.new' (w := ((w.alloc (vB v)).alloc (sB ⟨5, n⟩)).alloc (vB v0)) (by simp)).drew).chg h2 (by simp)
            have b2 : At w2 (w.heap.size + 1 + 1) (vB v0) := (((At.new' (w := (w.alloc (vB v)).alloc (sB ⟨5, n⟩)) (o := vB v0) (by simp)).alloc (fB 0)).drew).chg h2 (by simp)
            have c2 : Chg [] w w2 := (((((Chg.refl w).alloc (l := []) (vB v)).alloc (sB ⟨5, n⟩)).alloc (vB v0)).alloc (fB 0)).drew.trans' h2
            have c0 : World.cell? w2 ⟨w.heap.size, 0, none⟩ = some (.int .i64 v.table) := a2.cell rfl
            have c1 : World.cell? w2 ⟨w.heap.size, 1, none⟩ = some (.bool v.push) := a2.cell rfl
            have c2' : World.cell? w2 ⟨w.heap.size, 2, none⟩ = some (.int .i64 v.streams) := a2.cell rfl
            have c3 : World.cell? w2 ⟨w.heap.size, 3, none⟩ = some (.int .i64 v.window) := a2.cell rfl
            have c4 : World.cell? w2 ⟨w.heap.size, 4, none⟩ = some (.int .i64 v.frame) := a2.cell rfl
            have c5 : World.cell? w2 ⟨w.heap.size, 5, none⟩ = some (.int .i64 v.list) := a2.cell rfl
            have y0 : World.cell? w2 ⟨w.heap.size + 1 + 1, 0, none⟩ = some (.int .i64 (v0).table) := b2.cell rfl
            have y1 : World.cell? w2 ⟨w.heap.size + 1 + 1, 1, none⟩ = some (.bool (v0).push) := b2.cell rfl
            have y2 : World.cell? w2 ⟨w.heap.size + 1 + 1, 2, none⟩ = some (.int .i64 (v0).streams) := b2.cell rfl
            have y3 : World.cell? w2 ⟨w.heap.size + 1 + 1, 3, none⟩ = some (.int .i64 (v0).window) := b2.cell rfl
            have y4 : World.cell? w2 ⟨w.heap.size + 1 + 1, 4, none⟩ = some (.int .i64 (v0).frame) := b2.cell rfl
            have y5 : World.cell? w2 ⟨w.heap.size + 1 + 1, 5, none⟩ = some (.int .i64 (v0).list) := b2.cell rfl
            have yf : ∀ j, World.frozen? w2 ⟨w.heap.size + 1 + 1, j, none⟩ = false := fun j => b2.free j
            have z0 : World.cell? w2 ⟨w.heap.size + 1 + 1 + 1, 0, none⟩ = some (.bool false) := f2.cell rfl
            have z1 : World.cell? w2 ⟨w.heap.size + 1 + 1 + 1, 1, none⟩ = some (.int .u32 0) := f2.cell rfl
            have z2 : World.cell? w2 ⟨w.heap.size + 1 + 1 + 1, 2, none⟩ = some (.int .i64 0) := f2.cell rfl
            have zf : ∀ j, World.frozen? w2 ⟨w.heap.size + 1 + 1 + 1, j, none⟩ = false := fun j => f2.free j
            skip)
          | (
            go_at_call 21
            refine (broken_any 1 _).mono ?_
            rintro e w2 ⟨rfl, h2⟩
            have a2 : At w2 w.heap.size (vB v) := (((((At.new w (vB v)).alloc (sB ⟨5, n⟩)).alloc (vB v)).alloc (fB 0)).drew).chg h2 (by simp)
            have f2 : At w2 (w.heap.size + 1 + 1 + 1) (fB 0) := ((At.new' (w := ((w.alloc (vB v)).alloc (sB ⟨5, n⟩)).alloc (vB v)) (by simp)).drew).chg h2 (by simp)
            have b2 : At w2 (w.heap.size + 1 + 1) (vB v) := (((At.new' (w := (w.alloc (vB v)).alloc (sB ⟨5, n⟩)) (o := vB v) (by simp)).alloc (fB 0)).drew).chg h2 (by simp)
            have c2 : Chg [] w w2 := (((((Chg.refl w).alloc (l := []) (vB v)).alloc (sB ⟨5, n⟩)).alloc (vB v)).alloc (fB 0)).drew.trans' h2
            have c0 : World.cell? w2 ⟨w.heap.size, 0, none⟩ = some (.int .i64 v.table) := a2.cell rfl
            have c1 : World.cell? w2 ⟨w.heap.size, 1, none⟩ = some (.bool v.push) := a2.cell rfl
            have c2' : World.cell? w2 ⟨w.heap.size, 2, none⟩ = some (.int .i64 v.streams) := a2.cell rfl
            have c3 : World.cell? w2 ⟨w.heap.size, 3, none⟩ = some (.int .i64 v.window) := a2.cell rfl
            have c4 : World.cell? w2 ⟨w.heap.size, 4, none⟩ = some (.int .i64 v.frame) := a2.cell rfl
            have c5 : World.cell? w2 ⟨w.heap.size, 5, none⟩ = some (.int .i64 v.list) := a2.cell rfl
            have y0 : World.cell? w2 ⟨w.heap.size + 1 + 1, 0, none⟩ = some (.int .i64 (v).table) := b2.cell rfl
            have y1 : World.cell? w2 ⟨w.heap.size + 1 + 1, 1, none⟩ = some (.bool (v).push) := b2.cell rfl
            have y2 : World.cell? w2 ⟨w.heap.size + 1 + 1, 2, none⟩ = some (.int .i64 (v).streams) := b2.cell rfl
            have y3 : World.cell? w2 ⟨w.heap.size + 1 + 1, 3, none⟩ = some (.int .i64 (v).window) := b2.cell rfl
            have y4 : World.cell? w2 ⟨w.heap.size + 1 + 1, 4, none⟩ = some (.int .i64 (v).frame) := b2.cell rfl
            have y5 : World.cell? w2 ⟨w.heap.size + 1 + 1, 5, none⟩ = some (.int .i64 (v).list) := b2.cell rfl
            have yf : ∀ j, World.frozen? w2 ⟨w.heap.size + 1 + 1, j, none⟩ = false := fun j => b2.free j
            have z0 : World.cell? w2 ⟨w.heap.size + 1 + 1 + 1, 0, none⟩ = some (.bool false) := f2.cell rfl
            have z1 : World.cell? w2 ⟨w.heap.size + 1 + 1 + 1, 1, none⟩ = some (.int .u32 0) := f2.cell rfl
            have z2 : World.cell? w2 ⟨w.heap.size + 1 + 1 + 1, 2, none⟩ = some (.int .i64 0) := f2.cell rfl
            have zf : ∀ j, World.frozen? w2 ⟨w.heap.size + 1 + 1 + 1, j, none⟩ = false := fun j => f2.free j
            skip)
          | fail)
        all_goals go_wp2_with fail
        all_goals (refine bodyPost_ret (v := .tuple #[.agg (vA v), .agg #[.bool true, .int .u32 1, .int .i64 0]]) (by simp [results, Try.results16, go_sem, vA, *]) rfl ⟨rfl, ?_⟩)
        all_goals ((repeat (refine Chg.setCell ?_ (Or.inr (by simp <;> omega)) _)); exact c2)
      · exact absurd (by unfold wrongC; simp; omega) hw
  exact absurd (by unfold wrongC; simp [h2, h4, h5]) hw
end Go.Proofs.Ytanfibaphoficaa.RA
