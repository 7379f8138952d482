/-
  SettingsBack: values that are told and applied are what they were: any two values that may be.
-/
import Derived.Test.YtanfibaphoficaaShown
import Derived.Test.YtanfibaphoficaaArg
import Derived.Test.YtanfibaphoficaaBackS
import Derived.Deep.DeepCutAuto
namespace Go.Proofs.Ytanfibaphoficaa.Back
open Go.ChangeShapes Go.WideShapes Go.ChangeAt Go.RowKit
open Go.Proofs.Ytanfibaphoficaa.B Go.Proofs.Ytanfibaphoficaa.Set
set_option linter.unusedVariables false
set_option linter.unusedSimpArgs false

def mayV (v : V) : V :=
  ⟨if v.table < 0 ∨ 4294967295 < v.table then 4096 else v.table, v.push, if v.streams < 0 ∨ 4294967295 < v.streams then 100 else v.streams,
   if v.window < 0 ∨ 2147483647 < v.window then 65535 else v.window, if v.frame < 16384 ∨ 16777215 < v.frame then 16384 else v.frame,
   if v.list < 0 ∨ 4294967295 < v.list then 100 else v.list⟩
theorem mayV_may (v : V) : (mayV v).May := by
  refine ⟨?_, ?_, ?_, ?_, ?_⟩ <;> unfold mayV <;> dsimp only <;> split <;> omega
set_option maxRecDepth 100000 in
set_option maxHeartbeats 4000000 in
theorem may_any (v : V) (w : World) :
    Calls Try.prog 17 #[.agg (vA v)] w fun e w' => e = .returned (.agg (vA (mayV v))) ∧ Chg [] w w' := by
  have ha : At ((w.alloc (vB v)).alloc (vB v0)) w.heap.size (vB v) := (At.new _ _).alloc _
  have hr : At ((w.alloc (vB v)).alloc (vB v0)) (w.heap.size + 1) (vB v0) := At.new' (by simp)
  have hbl : Below w.heap.size w ((w.alloc (vB v)).alloc (vB v0)) := (((Chg.refl w).alloc _).alloc (l := []) _).below_nil
  have q1 : w.heap.size < w.heap.size + 1 := by omega
  unfold vA
  go_enter Try.func17, Try.ntmps17
  iterate 12 go_step
  generalize h1 : w.heap.size + 1 = V2 at ha hr q1 ⊢
  generalize h0 : w.heap.size = V1 at ha hr q1 ⊢
  clear h1
  have HB := Lib.hid h0
  clear h0
  change Code.wp _ _ _ _ ((w.alloc (vB v)).alloc (vB v0))
  generalize hwc : (w.alloc (vB v)).alloc (vB v0) = wc at *
  clear hwc
  go_step
  go_cut [] (fun wx => At wx V1 (vB { v with table := (mayV v).table }) ∧ At wx V2 (vB v0) ∧ Below w.heap.size w wx)
  case first =>
    have p0 : World.cell? wc ⟨V1, 0, none⟩ = some (.int .i64 (v).table) := (ha).cell rfl
    have p1 : World.cell? wc ⟨V1, 1, none⟩ = some (.bool (v).push) := (ha).cell rfl
    have p2 : World.cell? wc ⟨V1, 2, none⟩ = some (.int .i64 (v).streams) := (ha).cell rfl
    have p3 : World.cell? wc ⟨V1, 3, none⟩ = some (.int .i64 (v).window) := (ha).cell rfl
    have p4 : World.cell? wc ⟨V1, 4, none⟩ = some (.int .i64 (v).frame) := (ha).cell rfl
    have p5 : World.cell? wc ⟨V1, 5, none⟩ = some (.int .i64 (v).list) := (ha).cell rfl
    have pf : ∀ j, wc.frozen? ⟨V1, j, none⟩ = false := fun j => ha.free j
    rcases ltC v.table 0 with ⟨k1, _⟩ | ⟨k1, k1'⟩
    · have hf : mayV v = mayV v := rfl
      have hx : (mayV v).table = 4096 := by unfold mayV; dsimp only; rw [if_pos (Or.inl k1)]
      have HX := Lib.hid hx
      clear hf hx
      go_wp2_with fail
      go_meet
      case rel => exact ⟨by rw [HX.out]; exact ha.set _ _, hr.set_ne (by dsimp only; omega) _, hbl.setCell (by dsimp only; have := HB.out; omega) _⟩
    · rcases ltC 4294967295 v.table with ⟨k2, _⟩ | ⟨k2, k2'⟩
      · have hx : (mayV v).table = 4096 := by unfold mayV; dsimp only; rw [if_pos (Or.inr k2)]
        have HX := Lib.hid hx
        clear hx
        go_wp2_with fail
        go_meet
        case rel => exact ⟨by rw [HX.out]; exact ha.set _ _, hr.set_ne (by dsimp only; omega) _, hbl.setCell (by dsimp only; have := HB.out; omega) _⟩
      · have hx : (mayV v).table = v.table := by unfold mayV; dsimp only; rw [if_neg (by omega)]
        have HX := Lib.hid hx
        clear hx
        go_wp2_with fail
        go_meet
        case rel => exact ⟨by rw [HX.out]; exact ha, hr, hbl⟩
  clear ha hr hbl
  obtain ⟨ha, hr, hbl⟩ := hcut
  go_step
  go_step
  go_cut [] (fun wx => At wx V1 (vB { v with table := (mayV v).table, streams := (mayV v).streams }) ∧ At wx V2 (vB v0) ∧ Below w.heap.size w wx)
  case first =>
    have p0 : World.cell? wc ⟨V1, 0, none⟩ = some (.int .i64 ({ v with table := (mayV v).table }).table) := (ha).cell rfl
    have p1 : World.cell? wc ⟨V1, 1, none⟩ = some (.bool ({ v with table := (mayV v).table }).push) := (ha).cell rfl
    have p2 : World.cell? wc ⟨V1, 2, none⟩ = some (.int .i64 ({ v with table := (mayV v).table }).streams) := (ha).cell rfl
    have p3 : World.cell? wc ⟨V1, 3, none⟩ = some (.int .i64 ({ v with table := (mayV v).table }).window) := (ha).cell rfl
    have p4 : World.cell? wc ⟨V1, 4, none⟩ = some (.int .i64 ({ v with table := (mayV v).table }).frame) := (ha).cell rfl
    have p5 : World.cell? wc ⟨V1, 5, none⟩ = some (.int .i64 ({ v with table := (mayV v).table }).list) := (ha).cell rfl
    have pf : ∀ j, wc.frozen? ⟨V1, j, none⟩ = false := fun j => ha.free j
    rcases ltC v.streams 0 with ⟨k1, _⟩ | ⟨k1, k1'⟩
    · have hf : mayV v = mayV v := rfl
      have hx : (mayV v).streams = 100 := by unfold mayV; dsimp only; rw [if_pos (Or.inl k1)]
      have HX := Lib.hid hx
      clear hf hx
      go_wp2_with fail
      go_meet
      case rel => exact ⟨by rw [HX.out]; exact ha.set _ _, hr.set_ne (by dsimp only; omega) _, hbl.setCell (by dsimp only; have := HB.out; omega) _⟩
    · rcases ltC 4294967295 v.streams with ⟨k2, _⟩ | ⟨k2, k2'⟩
      · have hx : (mayV v).streams = 100 := by unfold mayV; dsimp only; rw [if_pos (Or.inr k2)]
        have HX := Lib.hid hx
        clear hx
        go_wp2_with fail
        go_meet
        case rel => exact ⟨by rw [HX.out]; exact ha.set _ _, hr.set_ne (by dsimp only; omega) _, hbl.setCell (by dsimp only; have := HB.out; omega) _⟩
      · have hx : (mayV v).streams = v.streams := by unfold mayV; dsimp only; rw [if_neg (by omega)]
        have HX := Lib.hid hx
        clear hx
        go_wp2_with fail
        go_meet
        case rel => exact ⟨by rw [HX.out]; exact ha, hr, hbl⟩
  clear ha hr hbl
  obtain ⟨ha, hr, hbl⟩ := hcut
  go_step
  go_step
  go_cut [] (fun wx => At wx V1 (vB { v with table := (mayV v).table, streams := (mayV v).streams, window := (mayV v).window }) ∧ At wx V2 (vB v0) ∧ Below w.heap.size w wx)
  case first =>
    have p0 : World.cell? wc ⟨V1, 0, none⟩ = some (.int .i64 ({ v with table := (mayV v).table, streams := (mayV v).streams }).table) := (ha).cell rfl
    have p1 : World.cell? wc ⟨V1, 1, none⟩ = some (.bool ({ v with table := (mayV v).table, streams := (mayV v).streams }).push) := (ha).cell rfl
    have p2 : World.cell? wc ⟨V1, 2, none⟩ = some (.int .i64 ({ v with table := (mayV v).table, streams := (mayV v).streams }).streams) := (ha).cell rfl
    have p3 : World.cell? wc ⟨V1, 3, none⟩ = some (.int .i64 ({ v with table := (mayV v).table, streams := (mayV v).streams }).window) := (ha).cell rfl
    have p4 : World.cell? wc ⟨V1, 4, none⟩ = some (.int .i64 ({ v with table := (mayV v).table, streams := (mayV v).streams }).frame) := (ha).cell rfl
    have p5 : World.cell? wc ⟨V1, 5, none⟩ = some (.int .i64 ({ v with table := (mayV v).table, streams := (mayV v).streams }).list) := (ha).cell rfl
    have pf : ∀ j, wc.frozen? ⟨V1, j, none⟩ = false := fun j => ha.free j
    rcases ltC v.window 0 with ⟨k1, _⟩ | ⟨k1, k1'⟩
    · have hf : mayV v = mayV v := rfl
      have hx : (mayV v).window = 65535 := by unfold mayV; dsimp only; rw [if_pos (Or.inl k1)]
      have HX := Lib.hid hx
      clear hf hx
      go_wp2_with fail
      go_meet
      case rel => exact ⟨by rw [HX.out]; exact ha.set _ _, hr.set_ne (by dsimp only; omega) _, hbl.setCell (by dsimp only; have := HB.out; omega) _⟩
    · rcases ltC 2147483647 v.window with ⟨k2, _⟩ | ⟨k2, k2'⟩
      · have hx : (mayV v).window = 65535 := by unfold mayV; dsimp only; rw [if_pos (Or.inr k2)]
        have HX := Lib.hid hx
        clear hx
        go_wp2_with fail
        go_meet
        case rel => exact ⟨by rw [HX.out]; exact ha.set _ _, hr.set_ne (by dsimp only; omega) _, hbl.setCell (by dsimp only; have := HB.out; omega) _⟩
      · have hx : (mayV v).window = v.window := by unfold mayV; dsimp only; rw [if_neg (by omega)]
        have HX := Lib.hid hx
        clear hx
        go_wp2_with fail
        go_meet
        case rel => exact ⟨by rw [HX.out]; exact ha, hr, hbl⟩
  clear ha hr hbl
  obtain ⟨ha, hr, hbl⟩ := hcut
  go_step
  go_step
  go_cut [] (fun wx => At wx V1 (vB { v with table := (mayV v).table, streams := (mayV v).streams, window := (mayV v).window, frame := (mayV v).frame }) ∧ At wx V2 (vB v0) ∧ Below w.heap.size w wx)
  case first =>
    have p0 : World.cell? wc ⟨V1, 0, none⟩ = some (.int .i64 ({ v with table := (mayV v).table, streams := (mayV v).streams, window := (mayV v).window }).table) := (ha).cell rfl
    have p1 : World.cell? wc ⟨V1, 1, none⟩ = some (.bool ({ v with table := (mayV v).table, streams := (mayV v).streams, window := (mayV v).window }).push) := (ha).cell rfl
    have p2 : World.cell? wc ⟨V1, 2, none⟩ = some (.int .i64 ({ v with table := (mayV v).table, streams := (mayV v).streams, window := (mayV v).window }).streams) := (ha).cell rfl
    have p3 : World.cell? wc ⟨V1, 3, none⟩ = some (.int .i64 ({ v with table := (mayV v).table, streams := (mayV v).streams, window := (mayV v).window }).window) := (ha).cell rfl
    have p4 : World.cell? wc ⟨V1, 4, none⟩ = some (.int .i64 ({ v with table := (mayV v).table, streams := (mayV v).streams, window := (mayV v).window }).frame) := (ha).cell rfl
    have p5 : World.cell? wc ⟨V1, 5, none⟩ = some (.int .i64 ({ v with table := (mayV v).table, streams := (mayV v).streams, window := (mayV v).window }).list) := (ha).cell rfl
    have pf : ∀ j, wc.frozen? ⟨V1, j, none⟩ = false := fun j => ha.free j
    rcases ltC v.frame 16384 with ⟨k1, _⟩ | ⟨k1, k1'⟩
    · have hf : mayV v = mayV v := rfl
      have hx : (mayV v).frame = 16384 := by unfold mayV; dsimp only; rw [if_pos (Or.inl k1)]
      have HX := Lib.hid hx
      clear hf hx
      go_wp2_with fail
      go_meet
      case rel => exact ⟨by rw [HX.out]; exact ha.set _ _, hr.set_ne (by dsimp only; omega) _, hbl.setCell (by dsimp only; have := HB.out; omega) _⟩
    · rcases ltC 16777215 v.frame with ⟨k2, _⟩ | ⟨k2, k2'⟩
      · have hx : (mayV v).frame = 16384 := by unfold mayV; dsimp only; rw [if_pos (Or.inr k2)]
        have HX := Lib.hid hx
        clear hx
        go_wp2_with fail
        go_meet
        case rel => exact ⟨by rw [HX.out]; exact ha.set _ _, hr.set_ne (by dsimp only; omega) _, hbl.setCell (by dsimp only; have := HB.out; omega) _⟩
      · have hx : (mayV v).frame = v.frame := by unfold mayV; dsimp only; rw [if_neg (by omega)]
        have HX := Lib.hid hx
        clear hx
        go_wp2_with fail
        go_meet
        case rel => exact ⟨by rw [HX.out]; exact ha, hr, hbl⟩
  clear ha hr hbl
  obtain ⟨ha, hr, hbl⟩ := hcut
  go_step
  go_step
  go_cut [] (fun wx => At wx V1 (vB { v with table := (mayV v).table, streams := (mayV v).streams, window := (mayV v).window, frame := (mayV v).frame, list := (mayV v).list }) ∧ At wx V2 (vB v0) ∧ Below w.heap.size w wx)
  case first =>
    have p0 : World.cell? wc ⟨V1, 0, none⟩ = some (.int .i64 ({ v with table := (mayV v).table, streams := (mayV v).streams, window := (mayV v).window, frame := (mayV v).frame }).table) := (ha).cell rfl
    have p1 : World.cell? wc ⟨V1, 1, none⟩ = some (.bool ({ v with table := (mayV v).table, streams := (mayV v).streams, window := (mayV v).window, frame := (mayV v).frame }).push) := (ha).cell rfl
    have p2 : World.cell? wc ⟨V1, 2, none⟩ = some (.int .i64 ({ v with table := (mayV v).table, streams := (mayV v).streams, window := (mayV v).window, frame := (mayV v).frame }).streams) := (ha).cell rfl
    have p3 : World.cell? wc ⟨V1, 3, none⟩ = some (.int .i64 ({ v with table := (mayV v).table, streams := (mayV v).streams, window := (mayV v).window, frame := (mayV v).frame }).window) := (ha).cell rfl
    have p4 : World.cell? wc ⟨V1, 4, none⟩ = some (.int .i64 ({ v with table := (mayV v).table, streams := (mayV v).streams, window := (mayV v).window, frame := (mayV v).frame }).frame) := (ha).cell rfl
    have p5 : World.cell? wc ⟨V1, 5, none⟩ = some (.int .i64 ({ v with table := (mayV v).table, streams := (mayV v).streams, window := (mayV v).window, frame := (mayV v).frame }).list) := (ha).cell rfl
    have pf : ∀ j, wc.frozen? ⟨V1, j, none⟩ = false := fun j => ha.free j
    rcases ltC v.list 0 with ⟨k1, _⟩ | ⟨k1, k1'⟩
    · have hf : mayV v = mayV v := rfl
      have hx : (mayV v).list = 100 := by unfold mayV; dsimp only; rw [if_pos (Or.inl k1)]
      have HX := Lib.hid hx
      clear hf hx
      go_wp2_with fail
      go_meet
      case rel => exact ⟨by rw [HX.out]; exact ha.set _ _, hr.set_ne (by dsimp only; omega) _, hbl.setCell (by dsimp only; have := HB.out; omega) _⟩
    · rcases ltC 4294967295 v.list with ⟨k2, _⟩ | ⟨k2, k2'⟩
      · have hx : (mayV v).list = 100 := by unfold mayV; dsimp only; rw [if_pos (Or.inr k2)]
        have HX := Lib.hid hx
        clear hx
        go_wp2_with fail
        go_meet
        case rel => exact ⟨by rw [HX.out]; exact ha.set _ _, hr.set_ne (by dsimp only; omega) _, hbl.setCell (by dsimp only; have := HB.out; omega) _⟩
      · have hx : (mayV v).list = v.list := by unfold mayV; dsimp only; rw [if_neg (by omega)]
        have HX := Lib.hid hx
        clear hx
        go_wp2_with fail
        go_meet
        case rel => exact ⟨by rw [HX.out]; exact ha, hr, hbl⟩
  clear ha hr hbl
  obtain ⟨ha, hr, hbl⟩ := hcut
  go_step
  have ha : At wc V1 (vB (mayV v)) := ha
  have p0 : World.cell? wc ⟨V1, 0, none⟩ = some (.int .i64 ((mayV v)).table) := (ha).cell rfl
  have p1 : World.cell? wc ⟨V1, 1, none⟩ = some (.bool ((mayV v)).push) := (ha).cell rfl
  have p2 : World.cell? wc ⟨V1, 2, none⟩ = some (.int .i64 ((mayV v)).streams) := (ha).cell rfl
  have p3 : World.cell? wc ⟨V1, 3, none⟩ = some (.int .i64 ((mayV v)).window) := (ha).cell rfl
  have p4 : World.cell? wc ⟨V1, 4, none⟩ = some (.int .i64 ((mayV v)).frame) := (ha).cell rfl
  have p5 : World.cell? wc ⟨V1, 5, none⟩ = some (.int .i64 ((mayV v)).list) := (ha).cell rfl
  have y0 : World.cell? wc ⟨V2, 0, none⟩ = some (.int .i64 (v0).table) := (hr).cell rfl
  have y1 : World.cell? wc ⟨V2, 1, none⟩ = some (.bool (v0).push) := (hr).cell rfl
  have y2 : World.cell? wc ⟨V2, 2, none⟩ = some (.int .i64 (v0).streams) := (hr).cell rfl
  have y3 : World.cell? wc ⟨V2, 3, none⟩ = some (.int .i64 (v0).window) := (hr).cell rfl
  have y4 : World.cell? wc ⟨V2, 4, none⟩ = some (.int .i64 (v0).frame) := (hr).cell rfl
  have y5 : World.cell? wc ⟨V2, 5, none⟩ = some (.int .i64 (v0).list) := (hr).cell rfl
  have yf : ∀ j, wc.frozen? ⟨V2, j, none⟩ = false := fun j => hr.free j
  go_wp2_with fail
  refine bodyPost_ret (v := .agg (vA (mayV v))) (by simp [results, Try.results17, go_sem, vA, y0, y1, y2, y3, y4, y5]) rfl ⟨rfl, Below.chg_nil ?_⟩
  (repeat (refine Below.setCell ?_ (by dsimp only; have := HB.out; omega) _)); exact hbl
end Go.Proofs.Ytanfibaphoficaa.Back
