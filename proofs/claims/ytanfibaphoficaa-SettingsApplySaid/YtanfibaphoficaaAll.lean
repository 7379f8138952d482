/-
  The walk of settings.All, and of Default.
-/
import Derived.Test.YtanfibaphoficaaSet
import Derived.Test.YtanfibaphoficaaLift
namespace Go.Proofs.Ytanfibaphoficaa.Set
open Go.ChangeShapes Go.WideShapes Go.ChangeAt Go.RowKit
open Go.Proofs.Ytanfibaphoficaa.B
set_option linter.unusedVariables false
set_option linter.unusedSimpArgs false

def encS (s : S) : List Value := [.int .i64 s.id, .int .u32 s.val]
def nowK (v : V) (l : List S) (k : Nat) : V := (l.take k).foldl putV v
theorem nowK_succ (v : V) (l : List S) (k : Nat) (s : S) (h : l[k]? = some s) : nowK v l (k + 1) = putV (nowK v l k) s := by
  unfold nowK
  rw [List.take_add_one, h]
  simp
theorem nowK_zero (v : V) (l : List S) : nowK v l 0 = v := rfl

theorem default_any (w : World) :
    Calls Try.prog 18 #[] w fun e w' => e = .returned (.agg (vA ⟨4096, true, -1, 65535, 16384, -1⟩)) ∧ Chg [] w w' := by
  go_enter Try.func18, Try.ntmps18
  go_wp2_with fail
  refine bodyPost_ret (v := .agg (vA ⟨4096, true, -1, 65535, 16384, -1⟩)) (by simp [results, Try.results18, go_sem, vA]) rfl ⟨rfl, ?_⟩
  (repeat (refine Chg.setCell ?_ (Or.inr (by simp <;> omega)) _)); exact (Chg.refl _).alloc _

theorem all_len {l : List S} (h : l.length ≤ maxLen) : l.length ≤ 9223372036854775807 := by unfold maxLen at h; omega
set_option maxHeartbeats 4000000 in
theorem all_ok (v : V) (sv : Value) (l : List S) (server : Bool) (w : World) (hs : SliceOf w sv 2 encS l) (hlo : ∀ s ∈ l, s.Ok) (hw : ∀ s ∈ l, wrongC s server = 0) :
    Calls Try.prog 14 #[.agg (vA v), sv, .bool server] w fun e w' => e = .returned (.tuple #[.agg (vA (nowK v l l.length)), .agg (fA 0)]) ∧ Chg [] w w' := by
  obtain ⟨a, cap, rfl, hc, hcm, hcell⟩ := hs
  have hm : l.length ≤ maxLen := by omega
  unfold maxLen at hm
  have HCELL := Lib.hid hcell; have HLO := Lib.hid hlo; have HWR := Lib.hid hw
  clear hcell hlo hw
  have a0 : At ((((w.alloc (vB v)).alloc (vB v0)).alloc (fB 0)).alloc (vB v)) w.heap.size (vB v) := (((At.new' rfl).alloc _).alloc _).alloc _
  have a1 : At ((((w.alloc (vB v)).alloc (vB v0)).alloc (fB 0)).alloc (vB v)) (w.heap.size + 1) (vB v0) := ((At.new' (by simp)).alloc _).alloc _
  have a2 : At ((((w.alloc (vB v)).alloc (vB v0)).alloc (fB 0)).alloc (vB v)) (w.heap.size + 1 + 1) (fB 0) := (At.new' (by simp)).alloc _
  have a3 : At ((((w.alloc (vB v)).alloc (vB v0)).alloc (fB 0)).alloc (vB v)) (w.heap.size + 1 + 1 + 1) (vB (nowK v l 0)) := At.new' (by simp)
  have hbl : Below w.heap.size w ((((w.alloc (vB v)).alloc (vB v0)).alloc (fB 0)).alloc (vB v)) := ((((Chg.refl w).alloc _).alloc _).alloc _).alloc (l := []) _ |>.below_nil
  have p0 : w.heap.size ≤ w.heap.size ∧ w.heap.size < w.heap.size + 1 := by omega
  have p1 : w.heap.size + 1 < w.heap.size + 1 + 1 := by omega
  have p2 : w.heap.size + 1 + 1 < w.heap.size + 1 + 1 + 1 := by omega
  unfold vA
  go_enter Try.func14, Try.ntmps14
  go_wp2_with fail
  generalize h3 : w.heap.size + 1 + 1 + 1 = B3 at *
  generalize h2 : w.heap.size + 1 + 1 = B2 at *
  generalize h1 : w.heap.size + 1 = B1 at *
  have q0 : w.heap.size ≤ w.heap.size := Nat.le_refl _
  generalize h0 : w.heap.size = B0 at p0 p1 p2 a0 a1 a2 a3 q0 h1 h2 h3 ⊢
  clear h1 h2 h3
  have HB := Lib.hid h0
  clear h0
  go_loopw [10, 11, 15] (fun _ _ i wr => ∃ k : Nat, k ≤ l.length ∧ i = .int .i64 k ∧ At wr B0 (vB v) ∧ At wr B1 (vB v0) ∧ At wr B2 (fB 0) ∧ At wr B3 (vB (nowK v l k)) ∧ Below w.heap.size w wr) (fun _ _ i _ => l.length - (intOf i).toNat)
  case atStart => exact ⟨0, Nat.zero_le _, rfl, a0, a1, a2, a3, hbl⟩
  case round =>
    clear a0 a1 a2 a3 hbl
    obtain ⟨k, hk, rfl, a0, a1, a2, a3, hbl⟩ := hrel
    by_cases hlt : k < l.length
    · skip
      obtain ⟨b, off, rfl, hb, hcells⟩ := HCELL.out (by omega)
      obtain ⟨z, hz⟩ : ∃ z, l[k]? = some z := ⟨_, List.getElem?_eq_getElem hlt⟩
      have c0 : wr.cell? ⟨b, off + k * 2, none⟩ = some (.int .i64 z.id) := by rw [hbl.cell hb]; exact hcells k z hz 0 (by omega)
      have c1 : wr.cell? ⟨b, off + k * 2 + 1, none⟩ = some (.int .u32 z.val) := by rw [hbl.cell hb]; exact hcells k z hz 1 (by omega)
      have HZ := Lib.hid hz
      have hzm := List.mem_of_getElem? hz
      have hzo := HLO.out z hzm
      obtain ⟨m, hmm⟩ : ∃ m, m = nowK v l k := ⟨_, rfl⟩
      rw [← hmm] at a3
      have HM := Lib.hid hmm
      clear hz hcells hmm
      have t3 : B3 < wr.heap.size := a3.lt
      have t2 : B2 < wr.heap.size := a2.lt
      have t1 : B1 < wr.heap.size := a1.lt
      have t0 : B0 < wr.heap.size := a0.lt
      have n0 : World.cell? wr ⟨B3, 0, none⟩ = some (.int .i64 (m).table) := (a3).cell rfl
      have n1 : World.cell? wr ⟨B3, 1, none⟩ = some (.bool (m).push) := (a3).cell rfl
      have n2 : World.cell? wr ⟨B3, 2, none⟩ = some (.int .i64 (m).streams) := (a3).cell rfl
      have n3 : World.cell? wr ⟨B3, 3, none⟩ = some (.int .i64 (m).window) := (a3).cell rfl
      have n4 : World.cell? wr ⟨B3, 4, none⟩ = some (.int .i64 (m).frame) := (a3).cell rfl
      have n5 : World.cell? wr ⟨B3, 5, none⟩ = some (.int .i64 (m).list) := (a3).cell rfl
      have nf : ∀ j, World.frozen? wr ⟨B3, j, none⟩ = false := fun j => (a3).free j
      go_wp2_with fail
      refine (apply_any m z server _ hzo).mono ?_; rintro e w2 ⟨he, hc2⟩
      have A0 := ((a0.alloc (sB z)).alloc (fB 0)).chg hc2 (by simp)
      have A1 := ((a1.alloc (sB z)).alloc (fB 0)).chg hc2 (by simp)
      have A2 := ((a2.alloc (sB z)).alloc (fB 0)).chg hc2 (by simp)
      have A3 := ((a3.alloc (sB z)).alloc (fB 0)).chg hc2 (by simp)
      have A4 : At w2 (wr.heap.size + 1) (fB 0) := (At.new' (by simp)).chg hc2 (by simp)
      have hb2 : Below w.heap.size w w2 := hbl.chg (((Chg.refl wr).alloc (l := []) (sB z)).alloc (fB 0) |>.trans' hc2) (Nat.le_refl _) (by simp)
      clear n0 n1 n2 n3 n4 n5 nf c0 c1 a0 a1 a2 a3 hbl hc2
      have n0 : World.cell? w2 ⟨B3, 0, none⟩ = some (.int .i64 (m).table) := (A3).cell rfl
      have n1 : World.cell? w2 ⟨B3, 1, none⟩ = some (.bool (m).push) := (A3).cell rfl
      have n2 : World.cell? w2 ⟨B3, 2, none⟩ = some (.int .i64 (m).streams) := (A3).cell rfl
      have n3 : World.cell? w2 ⟨B3, 3, none⟩ = some (.int .i64 (m).window) := (A3).cell rfl
      have n4 : World.cell? w2 ⟨B3, 4, none⟩ = some (.int .i64 (m).frame) := (A3).cell rfl
      have n5 : World.cell? w2 ⟨B3, 5, none⟩ = some (.int .i64 (m).list) := (A3).cell rfl
      have nf : ∀ j, World.frozen? w2 ⟨B3, j, none⟩ = false := fun j => (A3).free j
      have z0 : w2.cell? ⟨wr.heap.size + 1, 0, none⟩ = some (.bool false) := A4.cell rfl
      have z1 : w2.cell? ⟨wr.heap.size + 1, 1, none⟩ = some (.int .u32 0) := A4.cell rfl
      have z2 : w2.cell? ⟨wr.heap.size + 1, 2, none⟩ = some (.int .i64 0) := A4.cell rfl
      have zf : ∀ j, w2.frozen? ⟨wr.heap.size + 1, j, none⟩ = false := fun j => A4.free j
      have hw0 := HWR.out z hzm
      have HW0 := Lib.hid hw0
      rw [hw0, fA_zero, show applyV m z server = putV m z from if_pos hw0] at he
      subst he
      clear hw0 hzm hzo
      unfold vA
      go_wp2_with fail
      go_roundw
      case rel =>
        refine ⟨k + 1, by omega, by go_num, ?_, ?_, ?_, ?_, ?_⟩
        · (repeat (refine At.set_ne ?_ (by dsimp only; omega) _)); exact A0
        · (repeat (refine At.set_ne ?_ (by dsimp only; omega) _)); exact A1
        · (repeat (refine At.set_ne ?_ (by dsimp only; omega) _)); exact A2
        · rw [nowK_succ _ _ _ _ HZ.out, ← HM.out]
          refine At.set_ne (At.set_ne (At.set_ne ?_ (by dsimp only; omega) _) (by dsimp only; omega) _) (by dsimp only; omega) _
          exact (((((A3.set 0 _).set 1 _).set 2 _).set 3 _).set 4 _).set 5 _
        · (repeat (refine Below.setCell ?_ (by dsimp only; have := HB.out; omega) _)); exact hb2
      case measure => simp [intOf]; omega
    · obtain ⟨m, hmm⟩ : ∃ m, m = nowK v l k := ⟨_, rfl⟩
      rw [← hmm] at a3
      have HM := Lib.hid hmm
      clear hmm
      have n0 : World.cell? wr ⟨B3, 0, none⟩ = some (.int .i64 (m).table) := (a3).cell rfl
      have n1 : World.cell? wr ⟨B3, 1, none⟩ = some (.bool (m).push) := (a3).cell rfl
      have n2 : World.cell? wr ⟨B3, 2, none⟩ = some (.int .i64 (m).streams) := (a3).cell rfl
      have n3 : World.cell? wr ⟨B3, 3, none⟩ = some (.int .i64 (m).window) := (a3).cell rfl
      have n4 : World.cell? wr ⟨B3, 4, none⟩ = some (.int .i64 (m).frame) := (a3).cell rfl
      have n5 : World.cell? wr ⟨B3, 5, none⟩ = some (.int .i64 (m).list) := (a3).cell rfl
      have nf : ∀ j, World.frozen? wr ⟨B3, j, none⟩ = false := fun j => (a3).free j
      have y0 : World.cell? wr ⟨B1, 0, none⟩ = some (.int .i64 (v0).table) := (a1).cell rfl
      have y1 : World.cell? wr ⟨B1, 1, none⟩ = some (.bool (v0).push) := (a1).cell rfl
      have y2 : World.cell? wr ⟨B1, 2, none⟩ = some (.int .i64 (v0).streams) := (a1).cell rfl
      have y3 : World.cell? wr ⟨B1, 3, none⟩ = some (.int .i64 (v0).window) := (a1).cell rfl
      have y4 : World.cell? wr ⟨B1, 4, none⟩ = some (.int .i64 (v0).frame) := (a1).cell rfl
      have y5 : World.cell? wr ⟨B1, 5, none⟩ = some (.int .i64 (v0).list) := (a1).cell rfl
      have yf : ∀ j, World.frozen? wr ⟨B1, j, none⟩ = false := fun j => (a1).free j
      have z0 : wr.cell? ⟨B2, 0, none⟩ = some (.bool false) := a2.cell rfl
      have z1 : wr.cell? ⟨B2, 1, none⟩ = some (.int .u32 0) := a2.cell rfl
      have z2 : wr.cell? ⟨B2, 2, none⟩ = some (.int .i64 0) := a2.cell rfl
      have zf : ∀ j, wr.frozen? ⟨B2, j, none⟩ = false := fun j => a2.free j
      go_wp2_with fail
      refine bodyPost_ret (v := .tuple #[.agg (vA m), .agg #[.bool false, .int .u32 0, .int .i64 0]]) (by simp [results, Try.results14, go_sem, vA, y0, y1, y2, y3, y4, y5, z0, z1, z2]) rfl ⟨?_, ?_⟩
      · rw [HM.out, show k = l.length from by omega, fA_zero]; rfl
      · refine Below.chg_nil ?_
        (repeat (refine Below.setCell ?_ (by dsimp only; have := HB.out; omega) _)); exact hbl

set_option maxRecDepth 100000 in
set_option maxHeartbeats 4000000 in
theorem all_bad (v : V) (sv : Value) (l : List S) (server : Bool) (w : World) (hs : SliceOf w sv 2 encS l) (hlo : ∀ s ∈ l, s.Ok) {j : Nat} {x : S} (hj : l[j]? = some x) (hx : ¬ wrongC x server = 0) (hw : ∀ i t, i < j → l[i]? = some t → wrongC t server = 0) :
    Calls Try.prog 14 #[.agg (vA v), sv, .bool server] w fun e w' => e = .returned (.tuple #[.agg (vA v), .agg (fA (wrongC x server))]) ∧ Chg [] w w' := by
  have HJ := Lib.hid hj; have HX := Lib.hid hx
  have hjl : j < l.length := (List.getElem?_eq_some_iff.1 hj).1
  clear hj hx
  obtain ⟨a, cap, rfl, hc, hcm, hcell⟩ := hs
  have hm : l.length ≤ maxLen := by omega
  unfold maxLen at hm
  have HCELL := Lib.hid hcell; have HLO := Lib.hid hlo; have HWR := Lib.hid hw
  clear hcell hlo hw
  have a0 : At ((((w.alloc (vB v)).alloc (vB v0)).alloc (fB 0)).alloc (vB v)) w.heap.size (vB v) := (((At.new' rfl).alloc _).alloc _).alloc _
  have a1 : At ((((w.alloc (vB v)).alloc (vB v0)).alloc (fB 0)).alloc (vB v)) (w.heap.size + 1) (vB v0) := ((At.new' (by simp)).alloc _).alloc _
  have a2 : At ((((w.alloc (vB v)).alloc (vB v0)).alloc (fB 0)).alloc (vB v)) (w.heap.size + 1 + 1) (fB 0) := (At.new' (by simp)).alloc _
  have a3 : At ((((w.alloc (vB v)).alloc (vB v0)).alloc (fB 0)).alloc (vB v)) (w.heap.size + 1 + 1 + 1) (vB (nowK v l 0)) := At.new' (by simp)
  have hbl : Below w.heap.size w ((((w.alloc (vB v)).alloc (vB v0)).alloc (fB 0)).alloc (vB v)) := ((((Chg.refl w).alloc _).alloc _).alloc _).alloc (l := []) _ |>.below_nil
  have p0 : w.heap.size ≤ w.heap.size ∧ w.heap.size < w.heap.size + 1 := by omega
  have p1 : w.heap.size + 1 < w.heap.size + 1 + 1 := by omega
  have p2 : w.heap.size + 1 + 1 < w.heap.size + 1 + 1 + 1 := by omega
  unfold vA
  go_enter Try.func14, Try.ntmps14
  go_wp2_with fail
  generalize h3 : w.heap.size + 1 + 1 + 1 = B3 at *
  generalize h2 : w.heap.size + 1 + 1 = B2 at *
  generalize h1 : w.heap.size + 1 = B1 at *
  have q0 : w.heap.size ≤ w.heap.size := Nat.le_refl _
  generalize h0 : w.heap.size = B0 at p0 p1 p2 a0 a1 a2 a3 q0 h1 h2 h3 ⊢
  clear h1 h2 h3
  have HB := Lib.hid h0
  clear h0
  go_loopw [10, 11, 15] (fun _ _ i wr => ∃ k : Nat, k ≤ j ∧ i = .int .i64 k ∧ At wr B0 (vB v) ∧ At wr B1 (vB v0) ∧ At wr B2 (fB 0) ∧ At wr B3 (vB (nowK v l k)) ∧ Below w.heap.size w wr) (fun _ _ i _ => l.length - (intOf i).toNat)
  case atStart => exact ⟨0, Nat.zero_le _, rfl, a0, a1, a2, a3, hbl⟩
  case round =>
    clear a0 a1 a2 a3 hbl
    obtain ⟨k, hk, rfl, a0, a1, a2, a3, hbl⟩ := hrel
    have hlt : k < l.length := by omega
    obtain ⟨b, off, rfl, hb, hcells⟩ := HCELL.out (by omega)
    obtain ⟨z, hz⟩ : ∃ z, l[k]? = some z := ⟨_, List.getElem?_eq_getElem hlt⟩
    have c0 : wr.cell? ⟨b, off + k * 2, none⟩ = some (.int .i64 z.id) := by rw [hbl.cell hb]; exact hcells k z hz 0 (by omega)
    have c1 : wr.cell? ⟨b, off + k * 2 + 1, none⟩ = some (.int .u32 z.val) := by rw [hbl.cell hb]; exact hcells k z hz 1 (by omega)
    have HZ := Lib.hid hz
    have hzm := List.mem_of_getElem? hz
    have hzo := HLO.out z hzm
    obtain ⟨m, hmm⟩ : ∃ m, m = nowK v l k := ⟨_, rfl⟩
    rw [← hmm] at a3
    have HM := Lib.hid hmm
    clear hz hcells hmm
    have t3 : B3 < wr.heap.size := a3.lt
    have t2 : B2 < wr.heap.size := a2.lt
    have t1 : B1 < wr.heap.size := a1.lt
    have t0 : B0 < wr.heap.size := a0.lt
    have n0 : World.cell? wr ⟨B3, 0, none⟩ = some (.int .i64 (m).table) := (a3).cell rfl
    have n1 : World.cell? wr ⟨B3, 1, none⟩ = some (.bool (m).push) := (a3).cell rfl
    have n2 : World.cell? wr ⟨B3, 2, none⟩ = some (.int .i64 (m).streams) := (a3).cell rfl
    have n3 : World.cell? wr ⟨B3, 3, none⟩ = some (.int .i64 (m).window) := (a3).cell rfl
    have n4 : World.cell? wr ⟨B3, 4, none⟩ = some (.int .i64 (m).frame) := (a3).cell rfl
    have n5 : World.cell? wr ⟨B3, 5, none⟩ = some (.int .i64 (m).list) := (a3).cell rfl
    have nf : ∀ j, World.frozen? wr ⟨B3, j, none⟩ = false := fun j => (a3).free j
    go_wp2_with fail
    refine (apply_any m z server _ hzo).mono ?_; rintro e w2 ⟨he, hc2⟩
    have A0 := ((a0.alloc (sB z)).alloc (fB 0)).chg hc2 (by simp)
    have A1 := ((a1.alloc (sB z)).alloc (fB 0)).chg hc2 (by simp)
    have A2 := ((a2.alloc (sB z)).alloc (fB 0)).chg hc2 (by simp)
    have A3 := ((a3.alloc (sB z)).alloc (fB 0)).chg hc2 (by simp)
    have A4 : At w2 (wr.heap.size + 1) (fB 0) := (At.new' (by simp)).chg hc2 (by simp)
    have hb2 : Below w.heap.size w w2 := hbl.chg (((Chg.refl wr).alloc (l := []) (sB z)).alloc (fB 0) |>.trans' hc2) (Nat.le_refl _) (by simp)
    clear n0 n1 n2 n3 n4 n5 nf c0 c1 a0 a1 a2 a3 hbl hc2
    have n0 : World.cell? w2 ⟨B3, 0, none⟩ = some (.int .i64 (m).table) := (A3).cell rfl
    have n1 : World.cell? w2 ⟨B3, 1, none⟩ = some (.bool (m).push) := (A3).cell rfl
    have n2 : World.cell? w2 ⟨B3, 2, none⟩ = some (.int .i64 (m).streams) := (A3).cell rfl
    have n3 : World.cell? w2 ⟨B3, 3, none⟩ = some (.int .i64 (m).window) := (A3).cell rfl
    have n4 : World.cell? w2 ⟨B3, 4, none⟩ = some (.int .i64 (m).frame) := (A3).cell rfl
    have n5 : World.cell? w2 ⟨B3, 5, none⟩ = some (.int .i64 (m).list) := (A3).cell rfl
    have nf : ∀ j, World.frozen? w2 ⟨B3, j, none⟩ = false := fun j => (A3).free j
    have z0 : w2.cell? ⟨wr.heap.size + 1, 0, none⟩ = some (.bool false) := A4.cell rfl
    have z1 : w2.cell? ⟨wr.heap.size + 1, 1, none⟩ = some (.int .u32 0) := A4.cell rfl
    have z2 : w2.cell? ⟨wr.heap.size + 1, 2, none⟩ = some (.int .i64 0) := A4.cell rfl
    have zf : ∀ j, w2.frozen? ⟨wr.heap.size + 1, j, none⟩ = false := fun j => A4.free j
    by_cases hkj : k = j
    · obtain rfl : z = x := by have := HJ.out; rw [← hkj, HZ.out] at this; exact Option.some.inj this
      obtain ⟨c, hcc⟩ : ∃ c, c = wrongC z server := ⟨_, rfl⟩
      have hx := HX.out
      rw [show applyV m z server = m from if_neg hx, fA_some hx] at he
      rw [← hcc] at he hx
      have HXX := Lib.hid hx; have HCC := Lib.hid hcc
      subst he
      clear hx hcc hzm hzo hkj HX
      unfold vA
      have x0 : World.cell? w2 ⟨B0, 0, none⟩ = some (.int .i64 (v).table) := (A0).cell rfl
      have x1 : World.cell? w2 ⟨B0, 1, none⟩ = some (.bool (v).push) := (A0).cell rfl
      have x2 : World.cell? w2 ⟨B0, 2, none⟩ = some (.int .i64 (v).streams) := (A0).cell rfl
      have x3 : World.cell? w2 ⟨B0, 3, none⟩ = some (.int .i64 (v).window) := (A0).cell rfl
      have x4 : World.cell? w2 ⟨B0, 4, none⟩ = some (.int .i64 (v).frame) := (A0).cell rfl
      have x5 : World.cell? w2 ⟨B0, 5, none⟩ = some (.int .i64 (v).list) := (A0).cell rfl
      have xf : ∀ j, World.frozen? w2 ⟨B0, j, none⟩ = false := fun j => (A0).free j
      have y0 : World.cell? w2 ⟨B1, 0, none⟩ = some (.int .i64 (v0).table) := (A1).cell rfl
      have y1 : World.cell? w2 ⟨B1, 1, none⟩ = some (.bool (v0).push) := (A1).cell rfl
      have y2 : World.cell? w2 ⟨B1, 2, none⟩ = some (.int .i64 (v0).streams) := (A1).cell rfl
      have y3 : World.cell? w2 ⟨B1, 3, none⟩ = some (.int .i64 (v0).window) := (A1).cell rfl
      have y4 : World.cell? w2 ⟨B1, 4, none⟩ = some (.int .i64 (v0).frame) := (A1).cell rfl
      have y5 : World.cell? w2 ⟨B1, 5, none⟩ = some (.int .i64 (v0).list) := (A1).cell rfl
      have yf : ∀ j, World.frozen? w2 ⟨B1, j, none⟩ = false := fun j => (A1).free j
      have u0 : w2.cell? ⟨B2, 0, none⟩ = some (.bool false) := A2.cell rfl
      have u1 : w2.cell? ⟨B2, 1, none⟩ = some (.int .u32 0) := A2.cell rfl
      have u2 : w2.cell? ⟨B2, 2, none⟩ = some (.int .i64 0) := A2.cell rfl
      have uf : ∀ j, w2.frozen? ⟨B2, j, none⟩ = false := fun j => A2.free j
      go_wp2_with fail
      go_region
      go_wp2_with fail
      refine bodyPost_ret (v := .tuple #[.agg (vA v), .agg #[.bool true, .int .u32 c, .int .i64 0]]) (by simp [results, Try.results14, go_sem, vA, y0, y1, y2, y3, y4, y5, u0, u1, u2]) rfl ⟨?_, ?_⟩
      · rw [← HCC.out, fA_some HXX.out]; rfl
      · refine Below.chg_nil (Below.drew ?_)
        (repeat (refine Below.setCell ?_ (by dsimp only; have := HB.out; omega) _)); exact hb2
    · have hw0 := HWR.out k z (by omega) HZ.out
      have HW0 := Lib.hid hw0
      rw [hw0, fA_zero, show applyV m z server = putV m z from if_pos hw0] at he
      subst he
      clear hw0 hzm hzo
      unfold vA
      go_wp2_with fail
      go_roundw
      case rel =>
        refine ⟨k + 1, by omega, by go_num, ?_, ?_, ?_, ?_, ?_⟩
        · (repeat (refine At.set_ne ?_ (by dsimp only; omega) _)); exact A0
        · (repeat (refine At.set_ne ?_ (by dsimp only; omega) _)); exact A1
        · (repeat (refine At.set_ne ?_ (by dsimp only; omega) _)); exact A2
        · rw [nowK_succ _ _ _ _ HZ.out, ← HM.out]
          refine At.set_ne (At.set_ne (At.set_ne ?_ (by dsimp only; omega) _) (by dsimp only; omega) _) (by dsimp only; omega) _
          exact (((((A3.set 0 _).set 1 _).set 2 _).set 3 _).set 4 _).set 5 _
        · (repeat (refine Below.setCell ?_ (by dsimp only; have := HB.out; omega) _)); exact hb2
      case measure => simp [intOf]; omega

/-- What All answers: the values and the fault's code. -/
def allC (l : List S) (server : Bool) : Int := match l.find? (fun s => decide (wrongC s server ≠ 0)) with | none => 0 | some s => wrongC s server
def allV (v : V) (l : List S) (server : Bool) : V := if allC l server = 0 then nowK v l l.length else v
theorem allC_ok {l : List S} {server : Bool} (h : ∀ s ∈ l, wrongC s server = 0) : allC l server = 0 := by
  unfold allC
  rw [List.find?_eq_none.2 (by simpa using h)]
theorem allC_first {l : List S} {server : Bool} : (∀ s ∈ l, wrongC s server = 0) ∨ ∃ (j : Nat) (x : S), l[j]? = some x ∧ ¬ wrongC x server = 0 ∧ (∀ (i : Nat) (t : S), i < j → l[i]? = some t → wrongC t server = 0) ∧ allC l server = wrongC x server := by
  induction l with
  | nil => exact Or.inl (by simp)
  | cons s l ih =>
    by_cases h : wrongC s server = 0
    · rcases ih with h1 | ⟨j, x, h1, h2, h3, h4⟩
      · exact Or.inl (by intro t ht; exact (List.mem_cons.1 ht).elim (fun e => e ▸ h) (h1 t))
      · refine Or.inr ⟨j + 1, x, by simpa using h1, h2, fun i t hi ht => ?_, ?_⟩
        · cases i with
          | zero => simp at ht; subst ht; exact h
          | succ i => exact h3 i t (by omega) (by simpa using ht)
        · rw [← h4]; unfold allC; rw [List.find?_cons_of_neg (by simpa using h)]
    · refine Or.inr ⟨0, s, rfl, h, fun i t hi => by omega, ?_⟩
      unfold allC; rw [List.find?_cons_of_pos (by simpa using h)]
theorem all_any (v : V) (sv : Value) (l : List S) (server : Bool) (w : World) (hs : SliceOf w sv 2 encS l) (hlo : ∀ s ∈ l, s.Ok) :
    Calls Try.prog 14 #[.agg (vA v), sv, .bool server] w fun e w' => e = .returned (.tuple #[.agg (vA (allV v l server)), .agg (fA (allC l server))]) ∧ Chg [] w w' := by
  rcases allC_first (l := l) (server := server) with h | ⟨j, x, h1, h2, h3, h4⟩
  · have h0 := allC_ok h
    rw [show allV v l server = nowK v l l.length from if_pos h0, h0]
    exact all_ok v sv l server w hs hlo h
  · rw [show allV v l server = v from if_neg (by rw [h4]; exact h2), h4]
    exact all_bad v sv l server w hs hlo h1 h2 h3
end Go.Proofs.Ytanfibaphoficaa.Set
