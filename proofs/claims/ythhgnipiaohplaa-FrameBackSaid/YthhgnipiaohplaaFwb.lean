/-
  What Write answers, of a frame that may not be.
-/
import Derived.Test.YthhgnipiaohplaaFmb
namespace Go.Proofs.Ythhgnipiaohplaa.Fr
open Go.ChangeShapes Go.WideShapes Go.ChangeAt Go.RowKit
open Go.Proofs.Ythhgnipiaohplaa.B
set_option linter.unusedVariables false
set_option linter.unusedSimpArgs false

set_option maxRecDepth 100000 in
set_option maxHeartbeats 4000000 in
theorem write_bad {F : Fm} (hwf : F.Wf) (hm : ¬ May F) (pa : Option Addr) (pc : Nat) (la : Option Addr) (lc : Nat) (w : World) (hl : SliceOf w (.slice la F.list.length lc) 2 encS F.list) (hll : F.list.length ≤ 100000000) :
    Calls Try.prog 14 #[.agg (fcs (F.mem (.slice pa F.pay.length pc) (.slice la F.list.length lc)))] w fun e w' => e = .returned (.tuple #[.slice none 0 0, .int .i64 1]) ∧ Chg [] w w' := by
  obtain ⟨w2, hw2⟩ : ∃ w2, w2 = w.alloc (.cells (fcs (F.mem (.slice pa F.pay.length pc) (.slice la F.list.length lc))) 27) := ⟨_, rfl⟩
  have hc : Chg [] w w2 := by rw [hw2]; exact (Chg.refl w).alloc _
  have a1 : At w2 w.heap.size (.cells (fcs (F.mem (.slice pa F.pay.length pc) (.slice la F.list.length lc))) 27 (0, 0)) := by rw [hw2]; exact At.new w _
  obtain ⟨A, hA⟩ : ∃ A, A = w.heap.size := ⟨_, rfl⟩
  rw [← hA] at a1
  have HC := Lib.hid hc; have HW := Lib.hid hw2; have HA := Lib.hid hA
  have MA := Lib.hid (may_any F hwf pa pc la lc w2 (hl.chg0 hc) hll); have HM := Lib.hid hm
  have x0 : World.cell? w2 ⟨A, 0, none⟩ = some (.int .i64 F.kind) := a1.cell rfl
  have x1 : World.cell? w2 ⟨A, 1, none⟩ = some (.int .i64 F.stream) := a1.cell rfl
  have x2 : World.cell? w2 ⟨A, 2, none⟩ = some (.bool F.fin) := a1.cell rfl
  have x3 : World.cell? w2 ⟨A, 3, none⟩ = some (.bool F.eh) := a1.cell rfl
  have x4 : World.cell? w2 ⟨A, 4, none⟩ = some (.bool F.ack) := a1.cell rfl
  have x5 : World.cell? w2 ⟨A, 5, none⟩ = some (.bool F.prio) := a1.cell rfl
  have x6 : World.cell? w2 ⟨A, 6, none⟩ = some (.slice pa F.pay.length pc) := a1.cell rfl
  have x7 : World.cell? w2 ⟨A, 7, none⟩ = some (.int .i64 F.flags) := a1.cell rfl
  have x8 : World.cell? w2 ⟨A, 8, none⟩ = some (.int .i64 F.pad) := a1.cell rfl
  have x9 : World.cell? w2 ⟨A, 9, none⟩ = some (.int .i64 F.depend) := a1.cell rfl
  have x10 : World.cell? w2 ⟨A, 10, none⟩ = some (.bool F.excl) := a1.cell rfl
  have x11 : World.cell? w2 ⟨A, 11, none⟩ = some (.int .i64 F.weight) := a1.cell rfl
  have x12 : World.cell? w2 ⟨A, 12, none⟩ = some (.int .u32 F.code) := a1.cell rfl
  have x13 : World.cell? w2 ⟨A, 13, none⟩ = some (.slice la F.list.length lc) := a1.cell rfl
  have x14 : World.cell? w2 ⟨A, 14, none⟩ = some (.int .i64 F.last) := a1.cell rfl
  have x15 : World.cell? w2 ⟨A, 15, none⟩ = some (.int .i64 F.inc) := a1.cell rfl
  clear a1 hc hw2 hA hl hwf hm hll
  go_enter Try.func14, Try.ntmps14
  go_upto_region 1 with fail
  rw [← HW.out, ← HA.out]
  go_wp2_with fail
  refine (MA.out).mono ?_; rintro e w3 ⟨b, rfl, hb, c3⟩
  have hb2 : b = false := by
    cases b with
    | false => rfl
    | true => exact (HM.out (hb.1 rfl)).elim
  subst hb2
  have C3 := Lib.hid (HC.out.trans' c3)
  clear hb c3 x0 x1 x2 x3 x4 x5 x6 x7 x8 x9 x10 x11 x12 x13 x14 x15 HC HW MA
  go_wp2_with fail
  go_ret2
  exact ⟨rfl, C3.out⟩
end Go.Proofs.Ythhgnipiaohplaa.Fr
