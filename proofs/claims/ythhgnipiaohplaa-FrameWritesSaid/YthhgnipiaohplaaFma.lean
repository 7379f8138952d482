/-
  A frame without what its kind has.
-/
import Derived.Test.YthhgnipiaohplaaFca
import Derived.Test.YthhgnipiaohplaaFmw
import Derived.Deep.DeepCutAuto
namespace Go.Proofs.Ythhgnipiaohplaa.Fr
open Go.ChangeShapes Go.WideShapes Go.ChangeAt Go.RowKit
open Go.Proofs.Ythhgnipiaohplaa.B
set_option linter.unusedVariables false
set_option linter.unusedSimpArgs false

/-- A frame without what its kind has. -/
def bareF (F : Fm) : Fm :=
  if F.kind = 0 then { F with fin := false, pad := 0, pay := [] } else
  if F.kind = 1 then (if F.prio then { F with depend := 0, excl := false, weight := 0, fin := false, eh := false, pad := 0, prio := false, pay := [] } else { F with fin := false, eh := false, pad := 0, prio := false, pay := [] }) else
  if F.kind = 2 then { F with depend := 0, excl := false, weight := 0 } else
  if F.kind = 3 then { F with code := 0 } else
  if F.kind = 4 then { F with ack := false, list := [] } else
  if F.kind = 5 then { F with eh := false, pad := 0, last := 0, pay := [] } else
  if F.kind = 6 then { F with ack := false, pay := [] } else
  if F.kind = 7 then { F with last := 0, code := 0, pay := [] } else
  if F.kind = 8 then { F with inc := 0 } else
  if F.kind = 9 then { F with eh := false, pay := [] } else
  { F with flags := 0, pay := [] }
def keepsP (F : Fm) : Bool := decide (F.kind = 2) || decide (F.kind = 3) || decide (F.kind = 4) || decide (F.kind = 8)
def bareP (F : Fm) (pv : Value) : Value := if keepsP F then pv else .slice none 0 0
def bareL (F : Fm) (lv : Value) : Value := if F.kind = 4 then .slice none 0 0 else lv
set_option maxRecDepth 100000 in
set_option maxHeartbeats 16000000 in
theorem bare_any (F : Fm) (pa : Option Addr) (n pc : Nat) (la : Option Addr) (m lc : Nat) (w : World) : Calls Try.prog 51 #[.agg (fcs (F.mem (.slice pa n pc) (.slice la m lc)))] w fun e w' => e = .returned (.agg (fcs ((bareF F).mem (bareP F (.slice pa n pc)) (bareL F (.slice la m lc))))) ∧ Chg [] w w' := by
  obtain ⟨kind, st, fin, eh, ack, pr, pay, fl, pad, dep, x, wt, code, list, last, inc⟩ := F
  obtain ⟨w2, hw2⟩ : ∃ w2, w2 = (w.alloc (.cells (fcs ((⟨kind, st, fin, eh, ack, pr, pay, fl, pad, dep, x, wt, code, list, last, inc⟩ : Fm).mem (.slice pa n pc) (.slice la m lc))) 27)).alloc (.cells noF 27) := ⟨_, rfl⟩
  have hc : Chg [] w w2 := by rw [hw2]; exact ((Chg.refl w).alloc _).alloc _
  have a1 : At w2 w.heap.size (.cells (fcs ((⟨kind, st, fin, eh, ack, pr, pay, fl, pad, dep, x, wt, code, list, last, inc⟩ : Fm).mem (.slice pa n pc) (.slice la m lc))) 27 (0, 0)) := by rw [hw2]; exact (At.new w _).alloc _
  have a2 : At w2 (w.heap.size + 1) (.cells noF 27 (0, 0)) := by rw [hw2]; exact At.new' (by simp)
  obtain ⟨A, hA⟩ : ∃ A, A = w.heap.size := ⟨_, rfl⟩
  obtain ⟨A2, hA2⟩ : ∃ A, A = w.heap.size + 1 := ⟨_, rfl⟩
  have hAA : ¬ A = A2 := by omega
  have hA1b : Hid (w.heap.size ≤ A ∧ w.heap.size ≤ A2) := Lib.hid (by omega)
  rw [← hA] at a1
  rw [← hA2] at a2
  have x0 : World.cell? w2 ⟨A, 0, none⟩ = some (.int .i64 kind) := a1.cell rfl
  have x2 : World.cell? w2 ⟨A, 2, none⟩ = some (.bool fin) := a1.cell rfl
  have x3 : World.cell? w2 ⟨A, 3, none⟩ = some (.bool eh) := a1.cell rfl
  have x4 : World.cell? w2 ⟨A, 4, none⟩ = some (.bool ack) := a1.cell rfl
  have x5 : World.cell? w2 ⟨A, 5, none⟩ = some (.bool pr) := a1.cell rfl
  have x6 : World.cell? w2 ⟨A, 6, none⟩ = some (.slice pa n pc) := a1.cell rfl
  have x7 : World.cell? w2 ⟨A, 7, none⟩ = some (.int .i64 fl) := a1.cell rfl
  have x8 : World.cell? w2 ⟨A, 8, none⟩ = some (.int .i64 pad) := a1.cell rfl
  have x9 : World.cell? w2 ⟨A, 9, none⟩ = some (.int .i64 dep) := a1.cell rfl
  have x10 : World.cell? w2 ⟨A, 10, none⟩ = some (.bool x) := a1.cell rfl
  have x11 : World.cell? w2 ⟨A, 11, none⟩ = some (.int .i64 wt) := a1.cell rfl
  have x12 : World.cell? w2 ⟨A, 12, none⟩ = some (.int .u32 code) := a1.cell rfl
  have x13 : World.cell? w2 ⟨A, 13, none⟩ = some (.slice la m lc) := a1.cell rfl
  have x14 : World.cell? w2 ⟨A, 14, none⟩ = some (.int .i64 last) := a1.cell rfl
  have x15 : World.cell? w2 ⟨A, 15, none⟩ = some (.int .i64 inc) := a1.cell rfl
  have xf : ∀ j, World.frozen? w2 ⟨A, j, none⟩ = false := fun j => a1.free j
  have hAl := a1.lt
  have hA2l := a2.lt
  have A1 := Lib.hid a1; have AA2 := Lib.hid a2; have HC := Lib.hid hc; have HA := Lib.hid (And.intro hA hA2); have HW := Lib.hid hw2
  clear hc a1 a2 hA hA2 hw2
  go_enter Try.func51, Try.ntmps51
  go_upto_region 1 with fail
  rw [← HW.out, ← HA.out.2, ← HA.out.1]
  iterate 10 go_step
  go_cut [] (fun wx => At wx A (.cells (fcs ((bareF ⟨kind, st, fin, eh, ack, pr, pay, fl, pad, dep, x, wt, code, list, last, inc⟩).mem (bareP ⟨kind, st, fin, eh, ack, pr, pay, fl, pad, dep, x, wt, code, list, last, inc⟩ (.slice pa n pc)) (bareL ⟨kind, st, fin, eh, ack, pr, pay, fl, pad, dep, x, wt, code, list, last, inc⟩ (.slice la m lc)))) 27 (0, 0)) ∧ At wx A2 (.cells noF 27 (0, 0)) ∧ Chg [A] w2 wx)
  case first =>
    by_cases k0 : kind = 0
    · subst k0
      have hx : bareF (⟨0, st, fin, eh, ack, pr, pay, fl, pad, dep, x, wt, code, list, last, inc⟩ : Fm) = ⟨0, st, false, eh, ack, pr, [], fl, 0, dep, x, wt, code, list, last, inc⟩ := by simp [bareF]
      have hp : bareP (⟨0, st, fin, eh, ack, pr, pay, fl, pad, dep, x, wt, code, list, last, inc⟩ : Fm) (.slice pa n pc) = .slice none 0 0 := by unfold bareP; simp [keepsP]
      have hl : bareL (⟨0, st, fin, eh, ack, pr, pay, fl, pad, dep, x, wt, code, list, last, inc⟩ : Fm) (.slice la m lc) = (.slice la m lc) := by unfold bareL; simp
      have HX := Lib.hid hx; have HPP := Lib.hid hp; have HLL := Lib.hid hl
      clear hx hp hl
      have hcs : Hid (Chg [A] w2 (((w2.setCell ⟨A, 2, none⟩ (.bool false)).setCell ⟨A, 8, none⟩ (.int .i64 0)).setCell ⟨A, 6, none⟩ (.slice none 0 0))) := Lib.hid ((((Chg.refl w2).setCell (Or.inl (by simp)) (.bool false)).setCell (Or.inl (by simp)) (.int .i64 0)).setCell (Or.inl (by simp)) (.slice none 0 0))
      go_wp2_with fail
      go_meet
      case rel => exact ⟨by rw [HX.out, HPP.out, HLL.out]; exact (((A1.out.set 2 (.bool false)).set 8 (.int .i64 0)).set 6 (.slice none 0 0)), AA2.out.chg hcs.out (by simp; omega), hcs.out⟩
    by_cases k1 : kind = 1
    · subst k1
      cases pr with
      | false =>
        have hx : bareF (⟨1, st, fin, eh, ack, false, pay, fl, pad, dep, x, wt, code, list, last, inc⟩ : Fm) = ⟨1, st, false, false, ack, false, [], fl, 0, dep, x, wt, code, list, last, inc⟩ := by simp [bareF]
        have hp : bareP (⟨1, st, fin, eh, ack, false, pay, fl, pad, dep, x, wt, code, list, last, inc⟩ : Fm) (.slice pa n pc) = .slice none 0 0 := by unfold bareP; simp [keepsP]
        have hl : bareL (⟨1, st, fin, eh, ack, false, pay, fl, pad, dep, x, wt, code, list, last, inc⟩ : Fm) (.slice la m lc) = (.slice la m lc) := by unfold bareL; simp
        have HX := Lib.hid hx; have HPP := Lib.hid hp; have HLL := Lib.hid hl
        clear hx hp hl
        have hcs : Hid (Chg [A] w2 (((((w2.setCell ⟨A, 2, none⟩ (.bool false)).setCell ⟨A, 3, none⟩ (.bool false)).setCell ⟨A, 8, none⟩ (.int .i64 0)).setCell ⟨A, 5, none⟩ (.bool false)).setCell ⟨A, 6, none⟩ (.slice none 0 0))) := Lib.hid ((((((Chg.refl w2).setCell (Or.inl (by simp)) (.bool false)).setCell (Or.inl (by simp)) (.bool false)).setCell (Or.inl (by simp)) (.int .i64 0)).setCell (Or.inl (by simp)) (.bool false)).setCell (Or.inl (by simp)) (.slice none 0 0))
        go_wp2_with fail
        go_meet
        case rel => exact ⟨by rw [HX.out, HPP.out, HLL.out]; exact (((((A1.out.set 2 (.bool false)).set 3 (.bool false)).set 8 (.int .i64 0)).set 5 (.bool false)).set 6 (.slice none 0 0)), AA2.out.chg hcs.out (by simp; omega), hcs.out⟩
      | true =>
        have hx : bareF (⟨1, st, fin, eh, ack, true, pay, fl, pad, dep, x, wt, code, list, last, inc⟩ : Fm) = ⟨1, st, false, false, ack, false, [], fl, 0, 0, false, 0, code, list, last, inc⟩ := by simp [bareF]
        have hp : bareP (⟨1, st, fin, eh, ack, true, pay, fl, pad, dep, x, wt, code, list, last, inc⟩ : Fm) (.slice pa n pc) = .slice none 0 0 := by unfold bareP; simp [keepsP]
        have hl : bareL (⟨1, st, fin, eh, ack, true, pay, fl, pad, dep, x, wt, code, list, last, inc⟩ : Fm) (.slice la m lc) = (.slice la m lc) := by unfold bareL; simp
        have HX := Lib.hid hx; have HPP := Lib.hid hp; have HLL := Lib.hid hl
        clear hx hp hl
        go_upto_region 8 with fail
        have hc3 : Chg [A] w2 (((w2.setCell ⟨A, 9, none⟩ (.int .i64 0)).setCell ⟨A, 10, none⟩ (.bool false)).setCell ⟨A, 11, none⟩ (.int .i64 0)) := (((Chg.refl w2).setCell (Or.inl (by simp)) _).setCell (Or.inl (by simp)) _).setCell (Or.inl (by simp)) _
        have d1 := Lib.hid (((A1.out.set 9 (.int .i64 0)).set 10 (.bool false)).set 11 (.int .i64 0))
        have d1 : Hid (At (((w2.setCell ⟨A, 9, none⟩ (.int .i64 0)).setCell ⟨A, 10, none⟩ (.bool false)).setCell ⟨A, 11, none⟩ (.int .i64 0)) A (.cells (fcs ((⟨1, st, fin, eh, ack, true, pay, fl, pad, 0, false, 0, code, list, last, inc⟩ : Fm).mem (.slice pa n pc) (.slice la m lc))) 27 (0, 0))) := d1
        have HC3 := Lib.hid hc3
        clear hc3 x0 x2 x3 x4 x5 x6 x7 x8 x9 x10 x11 x12 x13 x14 x15 xf
        generalize (((w2.setCell ⟨A, 9, none⟩ (.int .i64 0)).setCell ⟨A, 10, none⟩ (.bool false)).setCell ⟨A, 11, none⟩ (.int .i64 0)) = w3 at *
        have y2 : World.cell? w3 ⟨A, 2, none⟩ = some (.bool fin) := d1.out.cell rfl
        have y3 : World.cell? w3 ⟨A, 3, none⟩ = some (.bool eh) := d1.out.cell rfl
        have y5 : World.cell? w3 ⟨A, 5, none⟩ = some (.bool true) := d1.out.cell rfl
        have y6 : World.cell? w3 ⟨A, 6, none⟩ = some (.slice pa n pc) := d1.out.cell rfl
        have y8 : World.cell? w3 ⟨A, 8, none⟩ = some (.int .i64 pad) := d1.out.cell rfl
        have yf : ∀ j, World.frozen? w3 ⟨A, j, none⟩ = false := fun j => d1.out.free j
        have hcs : Hid (Chg [A] w3 (((((w3.setCell ⟨A, 2, none⟩ (.bool false)).setCell ⟨A, 3, none⟩ (.bool false)).setCell ⟨A, 8, none⟩ (.int .i64 0)).setCell ⟨A, 5, none⟩ (.bool false)).setCell ⟨A, 6, none⟩ (.slice none 0 0))) := Lib.hid (((((Chg.refl w3).setCell (Or.inl (by simp)) _).setCell (Or.inl (by simp)) _).setCell (Or.inl (by simp)) _).setCell (Or.inl (by simp)) _ |>.setCell (Or.inl (by simp)) _)
        go_wp2_with fail
        go_meet
        case rel => exact ⟨by rw [HX.out, HPP.out, HLL.out]; exact ((((d1.out.set 2 (.bool false)).set 3 (.bool false)).set 8 (.int .i64 0)).set 5 (.bool false)).set 6 (.slice none 0 0), AA2.out.chg (HC3.out.trans' hcs.out) (by simp; omega), HC3.out.trans' hcs.out⟩
    by_cases k2 : kind = 2
    · subst k2
      have hx : bareF (⟨2, st, fin, eh, ack, pr, pay, fl, pad, dep, x, wt, code, list, last, inc⟩ : Fm) = ⟨2, st, fin, eh, ack, pr, pay, fl, pad, 0, false, 0, code, list, last, inc⟩ := by simp [bareF]
      have hp : bareP (⟨2, st, fin, eh, ack, pr, pay, fl, pad, dep, x, wt, code, list, last, inc⟩ : Fm) (.slice pa n pc) = (.slice pa n pc) := by unfold bareP; simp [keepsP]
      have hl : bareL (⟨2, st, fin, eh, ack, pr, pay, fl, pad, dep, x, wt, code, list, last, inc⟩ : Fm) (.slice la m lc) = (.slice la m lc) := by unfold bareL; simp
      have HX := Lib.hid hx; have HPP := Lib.hid hp; have HLL := Lib.hid hl
      clear hx hp hl
      have hcs : Hid (Chg [A] w2 (((w2.setCell ⟨A, 9, none⟩ (.int .i64 0)).setCell ⟨A, 10, none⟩ (.bool false)).setCell ⟨A, 11, none⟩ (.int .i64 0))) := Lib.hid ((((Chg.refl w2).setCell (Or.inl (by simp)) (.int .i64 0)).setCell (Or.inl (by simp)) (.bool false)).setCell (Or.inl (by simp)) (.int .i64 0))
      go_wp2_with fail
      go_meet
      case rel => exact ⟨by rw [HX.out, HPP.out, HLL.out]; exact (((A1.out.set 9 (.int .i64 0)).set 10 (.bool false)).set 11 (.int .i64 0)), AA2.out.chg hcs.out (by simp; omega), hcs.out⟩
    by_cases k3 : kind = 3
    · subst k3
      have hx : bareF (⟨3, st, fin, eh, ack, pr, pay, fl, pad, dep, x, wt, code, list, last, inc⟩ : Fm) = ⟨3, st, fin, eh, ack, pr, pay, fl, pad, dep, x, wt, 0, list, last, inc⟩ := by simp [bareF]
      have hp : bareP (⟨3, st, fin, eh, ack, pr, pay, fl, pad, dep, x, wt, code, list, last, inc⟩ : Fm) (.slice pa n pc) = (.slice pa n pc) := by unfold bareP; simp [keepsP]
      have hl : bareL (⟨3, st, fin, eh, ack, pr, pay, fl, pad, dep, x, wt, code, list, last, inc⟩ : Fm) (.slice la m lc) = (.slice la m lc) := by unfold bareL; simp
      have HX := Lib.hid hx; have HPP := Lib.hid hp; have HLL := Lib.hid hl
      clear hx hp hl
      have hcs : Hid (Chg [A] w2 (w2.setCell ⟨A, 12, none⟩ (.int .u32 0))) := Lib.hid ((Chg.refl w2).setCell (Or.inl (by simp)) (.int .u32 0))
      go_wp2_with fail
      go_meet
      case rel => exact ⟨by rw [HX.out, HPP.out, HLL.out]; exact (A1.out.set 12 (.int .u32 0)), AA2.out.chg hcs.out (by simp; omega), hcs.out⟩
    by_cases k4 : kind = 4
    · subst k4
      have hx : bareF (⟨4, st, fin, eh, ack, pr, pay, fl, pad, dep, x, wt, code, list, last, inc⟩ : Fm) = ⟨4, st, fin, eh, false, pr, pay, fl, pad, dep, x, wt, code, [], last, inc⟩ := by simp [bareF]
      have hp : bareP (⟨4, st, fin, eh, ack, pr, pay, fl, pad, dep, x, wt, code, list, last, inc⟩ : Fm) (.slice pa n pc) = (.slice pa n pc) := by unfold bareP; simp [keepsP]
      have hl : bareL (⟨4, st, fin, eh, ack, pr, pay, fl, pad, dep, x, wt, code, list, last, inc⟩ : Fm) (.slice la m lc) = .slice none 0 0 := by unfold bareL; simp
      have HX := Lib.hid hx; have HPP := Lib.hid hp; have HLL := Lib.hid hl
      clear hx hp hl
      have hcs : Hid (Chg [A] w2 ((w2.setCell ⟨A, 4, none⟩ (.bool false)).setCell ⟨A, 13, none⟩ (.slice none 0 0))) := Lib.hid (((Chg.refl w2).setCell (Or.inl (by simp)) (.bool false)).setCell (Or.inl (by simp)) (.slice none 0 0))
      go_wp2_with fail
      go_meet
      case rel => exact ⟨by rw [HX.out, HPP.out, HLL.out]; exact ((A1.out.set 4 (.bool false)).set 13 (.slice none 0 0)), AA2.out.chg hcs.out (by simp; omega), hcs.out⟩
    by_cases k5 : kind = 5
    · subst k5
      have hx : bareF (⟨5, st, fin, eh, ack, pr, pay, fl, pad, dep, x, wt, code, list, last, inc⟩ : Fm) = ⟨5, st, fin, false, ack, pr, [], fl, 0, dep, x, wt, code, list, 0, inc⟩ := by simp [bareF]
      have hp : bareP (⟨5, st, fin, eh, ack, pr, pay, fl, pad, dep, x, wt, code, list, last, inc⟩ : Fm) (.slice pa n pc) = .slice none 0 0 := by unfold bareP; simp [keepsP]
      have hl : bareL (⟨5, st, fin, eh, ack, pr, pay, fl, pad, dep, x, wt, code, list, last, inc⟩ : Fm) (.slice la m lc) = (.slice la m lc) := by unfold bareL; simp
      have HX := Lib.hid hx; have HPP := Lib.hid hp; have HLL := Lib.hid hl
      clear hx hp hl
      have hcs : Hid (Chg [A] w2 ((((w2.setCell ⟨A, 3, none⟩ (.bool false)).setCell ⟨A, 8, none⟩ (.int .i64 0)).setCell ⟨A, 14, none⟩ (.int .i64 0)).setCell ⟨A, 6, none⟩ (.slice none 0 0))) := Lib.hid (((((Chg.refl w2).setCell (Or.inl (by simp)) (.bool false)).setCell (Or.inl (by simp)) (.int .i64 0)).setCell (Or.inl (by simp)) (.int .i64 0)).setCell (Or.inl (by simp)) (.slice none 0 0))
      go_wp2_with fail
      go_meet
      case rel => exact ⟨by rw [HX.out, HPP.out, HLL.out]; exact ((((A1.out.set 3 (.bool false)).set 8 (.int .i64 0)).set 14 (.int .i64 0)).set 6 (.slice none 0 0)), AA2.out.chg hcs.out (by simp; omega), hcs.out⟩
    by_cases k6 : kind = 6
    · subst k6
      have hx : bareF (⟨6, st, fin, eh, ack, pr, pay, fl, pad, dep, x, wt, code, list, last, inc⟩ : Fm) = ⟨6, st, fin, eh, false, pr, [], fl, pad, dep, x, wt, code, list, last, inc⟩ := by simp [bareF]
      have hp : bareP (⟨6, st, fin, eh, ack, pr, pay, fl, pad, dep, x, wt, code, list, last, inc⟩ : Fm) (.slice pa n pc) = .slice none 0 0 := by unfold bareP; simp [keepsP]
      have hl : bareL (⟨6, st, fin, eh, ack, pr, pay, fl, pad, dep, x, wt, code, list, last, inc⟩ : Fm) (.slice la m lc) = (.slice la m lc) := by unfold bareL; simp
      have HX := Lib.hid hx; have HPP := Lib.hid hp; have HLL := Lib.hid hl
      clear hx hp hl
      have hcs : Hid (Chg [A] w2 ((w2.setCell ⟨A, 4, none⟩ (.bool false)).setCell ⟨A, 6, none⟩ (.slice none 0 0))) := Lib.hid (((Chg.refl w2).setCell (Or.inl (by simp)) (.bool false)).setCell (Or.inl (by simp)) (.slice none 0 0))
      go_wp2_with fail
      go_meet
      case rel => exact ⟨by rw [HX.out, HPP.out, HLL.out]; exact ((A1.out.set 4 (.bool false)).set 6 (.slice none 0 0)), AA2.out.chg hcs.out (by simp; omega), hcs.out⟩
    by_cases k7 : kind = 7
    · subst k7
      have hx : bareF (⟨7, st, fin, eh, ack, pr, pay, fl, pad, dep, x, wt, code, list, last, inc⟩ : Fm) = ⟨7, st, fin, eh, ack, pr, [], fl, pad, dep, x, wt, 0, list, 0, inc⟩ := by simp [bareF]
      have hp : bareP (⟨7, st, fin, eh, ack, pr, pay, fl, pad, dep, x, wt, code, list, last, inc⟩ : Fm) (.slice pa n pc) = .slice none 0 0 := by unfold bareP; simp [keepsP]
      have hl : bareL (⟨7, st, fin, eh, ack, pr, pay, fl, pad, dep, x, wt, code, list, last, inc⟩ : Fm) (.slice la m lc) = (.slice la m lc) := by unfold bareL; simp
      have HX := Lib.hid hx; have HPP := Lib.hid hp; have HLL := Lib.hid hl
      clear hx hp hl
      have hcs : Hid (Chg [A] w2 (((w2.setCell ⟨A, 14, none⟩ (.int .i64 0)).setCell ⟨A, 12, none⟩ (.int .u32 0)).setCell ⟨A, 6, none⟩ (.slice none 0 0))) := Lib.hid ((((Chg.refl w2).setCell (Or.inl (by simp)) (.int .i64 0)).setCell (Or.inl (by simp)) (.int .u32 0)).setCell (Or.inl (by simp)) (.slice none 0 0))
      go_wp2_with fail
      go_meet
      case rel => exact ⟨by rw [HX.out, HPP.out, HLL.out]; exact (((A1.out.set 14 (.int .i64 0)).set 12 (.int .u32 0)).set 6 (.slice none 0 0)), AA2.out.chg hcs.out (by simp; omega), hcs.out⟩
    by_cases k8 : kind = 8
    · subst k8
      have hx : bareF (⟨8, st, fin, eh, ack, pr, pay, fl, pad, dep, x, wt, code, list, last, inc⟩ : Fm) = ⟨8, st, fin, eh, ack, pr, pay, fl, pad, dep, x, wt, code, list, last, 0⟩ := by simp [bareF]
      have hp : bareP (⟨8, st, fin, eh, ack, pr, pay, fl, pad, dep, x, wt, code, list, last, inc⟩ : Fm) (.slice pa n pc) = (.slice pa n pc) := by unfold bareP; simp [keepsP]
      have hl : bareL (⟨8, st, fin, eh, ack, pr, pay, fl, pad, dep, x, wt, code, list, last, inc⟩ : Fm) (.slice la m lc) = (.slice la m lc) := by unfold bareL; simp
      have HX := Lib.hid hx; have HPP := Lib.hid hp; have HLL := Lib.hid hl
      clear hx hp hl
      have hcs : Hid (Chg [A] w2 (w2.setCell ⟨A, 15, none⟩ (.int .i64 0))) := Lib.hid ((Chg.refl w2).setCell (Or.inl (by simp)) (.int .i64 0))
      go_wp2_with fail
      go_meet
      case rel => exact ⟨by rw [HX.out, HPP.out, HLL.out]; exact (A1.out.set 15 (.int .i64 0)), AA2.out.chg hcs.out (by simp; omega), hcs.out⟩
    by_cases k9 : kind = 9
    · subst k9
      have hx : bareF (⟨9, st, fin, eh, ack, pr, pay, fl, pad, dep, x, wt, code, list, last, inc⟩ : Fm) = ⟨9, st, fin, false, ack, pr, [], fl, pad, dep, x, wt, code, list, last, inc⟩ := by simp [bareF]
      have hp : bareP (⟨9, st, fin, eh, ack, pr, pay, fl, pad, dep, x, wt, code, list, last, inc⟩ : Fm) (.slice pa n pc) = .slice none 0 0 := by unfold bareP; simp [keepsP]
      have hl : bareL (⟨9, st, fin, eh, ack, pr, pay, fl, pad, dep, x, wt, code, list, last, inc⟩ : Fm) (.slice la m lc) = (.slice la m lc) := by unfold bareL; simp
      have HX := Lib.hid hx; have HPP := Lib.hid hp; have HLL := Lib.hid hl
      clear hx hp hl
      have hcs : Hid (Chg [A] w2 ((w2.setCell ⟨A, 3, none⟩ (.bool false)).setCell ⟨A, 6, none⟩ (.slice none 0 0))) := Lib.hid (((Chg.refl w2).setCell (Or.inl (by simp)) (.bool false)).setCell (Or.inl (by simp)) (.slice none 0 0))
      go_wp2_with fail
      go_meet
      case rel => exact ⟨by rw [HX.out, HPP.out, HLL.out]; exact ((A1.out.set 3 (.bool false)).set 6 (.slice none 0 0)), AA2.out.chg hcs.out (by simp; omega), hcs.out⟩
    have e0 : (kind == 0) = false := by simp [k0]
    have e1 : (kind == 1) = false := by simp [k1]
    have e2 : (kind == 2) = false := by simp [k2]
    have e3 : (kind == 3) = false := by simp [k3]
    have e4 : (kind == 4) = false := by simp [k4]
    have e5 : (kind == 5) = false := by simp [k5]
    have e6 : (kind == 6) = false := by simp [k6]
    have e7 : (kind == 7) = false := by simp [k7]
    have e8 : (kind == 8) = false := by simp [k8]
    have e9 : (kind == 9) = false := by simp [k9]
    have hx : bareF (⟨kind, st, fin, eh, ack, pr, pay, fl, pad, dep, x, wt, code, list, last, inc⟩ : Fm) = ⟨kind, st, fin, eh, ack, pr, [], 0, pad, dep, x, wt, code, list, last, inc⟩ := by simp [bareF, k0, k1, k2, k3, k4, k5, k6, k7, k8, k9]
    have hp : bareP (⟨kind, st, fin, eh, ack, pr, pay, fl, pad, dep, x, wt, code, list, last, inc⟩ : Fm) (.slice pa n pc) = .slice none 0 0 := by unfold bareP; simp [keepsP, k2, k3, k4, k8]
    have hl : bareL (⟨kind, st, fin, eh, ack, pr, pay, fl, pad, dep, x, wt, code, list, last, inc⟩ : Fm) (.slice la m lc) = (.slice la m lc) := by unfold bareL; simp [k4]
    have HX := Lib.hid hx; have HPP := Lib.hid hp; have HLL := Lib.hid hl
    clear hx hp hl
    have hcs : Hid (Chg [A] w2 ((w2.setCell ⟨A, 7, none⟩ (.int .i64 0)).setCell ⟨A, 6, none⟩ (.slice none 0 0))) := Lib.hid (((Chg.refl w2).setCell (Or.inl (by simp)) (.int .i64 0)).setCell (Or.inl (by simp)) (.slice none 0 0))
    go_wp2_with fail
    go_meet
    case rel => exact ⟨by rw [HX.out, HPP.out, HLL.out]; exact ((A1.out.set 7 (.int .i64 0)).set 6 (.slice none 0 0)), AA2.out.chg hcs.out (by simp; omega), hcs.out⟩
  case rest =>
    obtain ⟨b1, b2, c3⟩ := hcut
    obtain ⟨G, hG⟩ : ∃ G, G = bareF ⟨kind, st, fin, eh, ack, pr, pay, fl, pad, dep, x, wt, code, list, last, inc⟩ := ⟨_, rfl⟩
    obtain ⟨gp, hgp⟩ : ∃ g, g = bareP ⟨kind, st, fin, eh, ack, pr, pay, fl, pad, dep, x, wt, code, list, last, inc⟩ (.slice pa n pc) := ⟨_, rfl⟩
    obtain ⟨gl, hgl⟩ : ∃ g, g = bareL ⟨kind, st, fin, eh, ack, pr, pay, fl, pad, dep, x, wt, code, list, last, inc⟩ (.slice la m lc) := ⟨_, rfl⟩
    obtain ⟨p1, p2, p3, hp4⟩ : ∃ a b c, gp = .slice a b c := by rw [hgp]; unfold bareP; split <;> exact ⟨_, _, _, rfl⟩
    obtain ⟨q1, q2, q3, hq4⟩ : ∃ a b c, gl = .slice a b c := by rw [hgl]; unfold bareL; split <;> exact ⟨_, _, _, rfl⟩
    rw [← hG, ← hgp, ← hgl] at b1
    have HGG := Lib.hid (And.intro hG (And.intro hgp hgl))
    subst hp4 hq4
    have C3 := Lib.hid (HC.out.trans c3 (fun y hy => Or.inr (by simp at hy; subst hy; exact hA1b.out.1)))
    have B1 := Lib.hid b1; have B2 := Lib.hid b2
    clear x0 x2 x3 x4 x5 x6 x7 x8 x9 x10 x11 x12 x13 x14 x15 xf hAl hA2l A1 AA2 HC HW b2 c3 hG hgp hgl
    have x0 : World.cell? wc ⟨A, 0, none⟩ = some (.int .i64 G.kind) := b1.cell rfl
    have x1 : World.cell? wc ⟨A, 1, none⟩ = some (.int .i64 G.stream) := b1.cell rfl
    have x2 : World.cell? wc ⟨A, 2, none⟩ = some (.bool G.fin) := b1.cell rfl
    have x3 : World.cell? wc ⟨A, 3, none⟩ = some (.bool G.eh) := b1.cell rfl
    have x4 : World.cell? wc ⟨A, 4, none⟩ = some (.bool G.ack) := b1.cell rfl
    have x5 : World.cell? wc ⟨A, 5, none⟩ = some (.bool G.prio) := b1.cell rfl
    have x6 : World.cell? wc ⟨A, 6, none⟩ = some (.slice p1 p2 p3) := b1.cell rfl
    have x7 : World.cell? wc ⟨A, 7, none⟩ = some (.int .i64 G.flags) := b1.cell rfl
    have x8 : World.cell? wc ⟨A, 8, none⟩ = some (.int .i64 G.pad) := b1.cell rfl
    have x9 : World.cell? wc ⟨A, 9, none⟩ = some (.int .i64 G.depend) := b1.cell rfl
    have x10 : World.cell? wc ⟨A, 10, none⟩ = some (.bool G.excl) := b1.cell rfl
    have x11 : World.cell? wc ⟨A, 11, none⟩ = some (.int .i64 G.weight) := b1.cell rfl
    have x12 : World.cell? wc ⟨A, 12, none⟩ = some (.int .u32 G.code) := b1.cell rfl
    have x13 : World.cell? wc ⟨A, 13, none⟩ = some (.slice q1 q2 q3) := b1.cell rfl
    have x14 : World.cell? wc ⟨A, 14, none⟩ = some (.int .i64 G.last) := b1.cell rfl
    have x15 : World.cell? wc ⟨A, 15, none⟩ = some (.int .i64 G.inc) := b1.cell rfl
    clear b1
    go_wp2_with (refine store_whole rfl 27 _ _ rfl A2 (fcs (G.mem (.slice p1 p2 p3) (.slice q1 q2 q3))) _ 27 rfl rfl B2.out infoFr rfl (by simp [Value.oneCell', Fm.mem]) ?_)
    intro w7 s7 c7
    have C7 := Lib.hid (C3.out.trans c7 (fun x hx => Or.inr (by simp at hx; subst hx; exact hA1b.out.2)))
    have z0 := s7.cell (o := 0) rfl
    have z1 := s7.cell (o := 1) rfl
    have z2 := s7.cell (o := 2) rfl
    have z3 := s7.cell (o := 3) rfl
    have z4 := s7.cell (o := 4) rfl
    have z5 := s7.cell (o := 5) rfl
    have z6 := s7.cell (o := 6) rfl
    have z7 := s7.cell (o := 7) rfl
    have z8 := s7.cell (o := 8) rfl
    have z9 := s7.cell (o := 9) rfl
    have z10 := s7.cell (o := 10) rfl
    have z11 := s7.cell (o := 11) rfl
    have z12 := s7.cell (o := 12) rfl
    have z13 := s7.cell (o := 13) rfl
    have z14 := s7.cell (o := 14) rfl
    have z15 := s7.cell (o := 15) rfl
    clear x0 x1 x2 x3 x4 x5 x6 x7 x8 x9 x10 x11 x12 x13 x14 x15
    go_wp2_with fail
    refine bodyPost_ret (v := .agg (fcs (G.mem (.slice p1 p2 p3) (.slice q1 q2 q3)))) (by simp [results, Try.results51, go_sem, z0, z1, z2, z3, z4, z5, z6, z7, z8, z9, z10, z11, z12, z13, z14, z15]) rfl ⟨by rw [← HGG.out.1, ← HGG.out.2.1, ← HGG.out.2.2], C7.out⟩
end Go.Proofs.Ythhgnipiaohplaa.Fr
