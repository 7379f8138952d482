/-
  Are two frames the same?
-/
import Derived.Test.YthhgnipiaohplaaFsn
import Derived.Test.YthhgnipiaohplaaFdr
namespace Go.Proofs.Ythhgnipiaohplaa.Fr
open Go.ChangeShapes Go.WideShapes Go.ChangeAt Go.RowKit
open Go.Proofs.Ythhgnipiaohplaa.B
set_option linter.unusedVariables false
set_option linter.unusedSimpArgs false

set_option maxRecDepth 100000 in
set_option maxHeartbeats 8000000 in
theorem same_any {w : World} (F : Fm) (pv lv pv' lv' : Value) (hp : BytesOf w pv F.pay) (hp' : BytesOf w pv' F.pay) (hl : SliceOf w lv 2 encS F.list) (hl' : SliceOf w lv' 2 encS F.list) :
    Calls Try.prog 16 #[.agg (fcs (F.mem pv lv)), .agg (fcs (F.mem pv' lv'))] w fun e w' => e = .returned (.bool true) ∧ Chg [] w w' := by
  obtain ⟨pa, pc, rfl, hpc, hpcm⟩ := hp.slice
  obtain ⟨pa', pc', rfl, hpc', hpcm'⟩ := hp'.slice
  obtain ⟨la, lc, rfl, hlc, hlcm⟩ := hl.len
  obtain ⟨la', lc', rfl, hlc', hlcm'⟩ := hl'.len
  obtain ⟨w2, hw2⟩ : ∃ w2, w2 = (w.alloc (.cells (fcs (F.mem (.slice pa F.pay.length pc) (.slice la F.list.length lc))) 27)).alloc (.cells (fcs (F.mem (.slice pa' F.pay.length pc') (.slice la' F.list.length lc'))) 27) := ⟨_, rfl⟩
  have hc : Chg [] w w2 := by rw [hw2]; exact ((Chg.refl w).alloc _).alloc _
  have a1 : At w2 w.heap.size (.cells (fcs (F.mem (.slice pa F.pay.length pc) (.slice la F.list.length lc))) 27 (0, 0)) := by rw [hw2]; exact (At.new w _).alloc _
  have a2 : At w2 (w.heap.size + 1) (.cells (fcs (F.mem (.slice pa' F.pay.length pc') (.slice la' F.list.length lc'))) 27 (0, 0)) := by rw [hw2]; exact At.new' (by simp)
  obtain ⟨A, hA⟩ : ∃ A, A = w.heap.size := ⟨_, rfl⟩
  obtain ⟨A2, hA2⟩ : ∃ A, A = w.heap.size + 1 := ⟨_, rfl⟩
  rw [← hA] at a1
  rw [← hA2] at a2
  have hAl := a1.lt
  have hA2l := a2.lt
  have x0 : World.cell? w2 ⟨A, 0, none⟩ = some (.int .i64 F.kind) := a1.cell rfl
  have x1 : World.cell? w2 ⟨A, 1, none⟩ = some (.int .i64 F.stream) := a1.cell rfl
  have x2 : World.cell? w2 ⟨A, 2, none⟩ = some (.bool F.fin) := a1.cell rfl
  have x3 : World.cell? w2 ⟨A, 3, none⟩ = some (.bool F.eh) := a1.cell rfl
  have x4 : World.cell? w2 ⟨A, 4, none⟩ = some (.bool F.ack) := a1.cell rfl
  have x5 : World.cell? w2 ⟨A, 5, none⟩ = some (.bool F.prio) := a1.cell rfl
  have x6 : World.cell? w2 ⟨A, 6, none⟩ = some (.slice pa F.pay.length pc) := a1.cell rfl
  have x7 : World.cell? w2 ⟨A, 7, none⟩ = some (.int .i64 F.flags) := a1.cell rfl
  have x8 : World.cell? w2 ⟨A, 8, none⟩ = some (.int .i64 F.pad) := a1.cell rfl
  have x9 : World.cell? w2 ⟨A, 9, none⟩ = some (.int .i64 F.depend) := a1.cell rfl
  have xa : World.cell? w2 ⟨A, 10, none⟩ = some (.bool F.excl) := a1.cell rfl
  have xb : World.cell? w2 ⟨A, 11, none⟩ = some (.int .i64 F.weight) := a1.cell rfl
  have xc : World.cell? w2 ⟨A, 12, none⟩ = some (.int .u32 F.code) := a1.cell rfl
  have xd : World.cell? w2 ⟨A, 13, none⟩ = some (.slice la F.list.length lc) := a1.cell rfl
  have xe : World.cell? w2 ⟨A, 14, none⟩ = some (.int .i64 F.last) := a1.cell rfl
  have xf : World.cell? w2 ⟨A, 15, none⟩ = some (.int .i64 F.inc) := a1.cell rfl
  have y0 : World.cell? w2 ⟨A2, 0, none⟩ = some (.int .i64 F.kind) := a2.cell rfl
  have y1 : World.cell? w2 ⟨A2, 1, none⟩ = some (.int .i64 F.stream) := a2.cell rfl
  have y2 : World.cell? w2 ⟨A2, 2, none⟩ = some (.bool F.fin) := a2.cell rfl
  have y3 : World.cell? w2 ⟨A2, 3, none⟩ = some (.bool F.eh) := a2.cell rfl
  have y4 : World.cell? w2 ⟨A2, 4, none⟩ = some (.bool F.ack) := a2.cell rfl
  have y5 : World.cell? w2 ⟨A2, 5, none⟩ = some (.bool F.prio) := a2.cell rfl
  have y6 : World.cell? w2 ⟨A2, 6, none⟩ = some (.slice pa' F.pay.length pc') := a2.cell rfl
  have y7 : World.cell? w2 ⟨A2, 7, none⟩ = some (.int .i64 F.flags) := a2.cell rfl
  have y8 : World.cell? w2 ⟨A2, 8, none⟩ = some (.int .i64 F.pad) := a2.cell rfl
  have y9 : World.cell? w2 ⟨A2, 9, none⟩ = some (.int .i64 F.depend) := a2.cell rfl
  have ya : World.cell? w2 ⟨A2, 10, none⟩ = some (.bool F.excl) := a2.cell rfl
  have yb : World.cell? w2 ⟨A2, 11, none⟩ = some (.int .i64 F.weight) := a2.cell rfl
  have yc : World.cell? w2 ⟨A2, 12, none⟩ = some (.int .u32 F.code) := a2.cell rfl
  have yd : World.cell? w2 ⟨A2, 13, none⟩ = some (.slice la' F.list.length lc') := a2.cell rfl
  have ye : World.cell? w2 ⟨A2, 14, none⟩ = some (.int .i64 F.last) := a2.cell rfl
  have yf : World.cell? w2 ⟨A2, 15, none⟩ = some (.int .i64 F.inc) := a2.cell rfl
  have k1 := fun n => BytesOf.str (BytesOf.drewN' (hp.chg0 hc) n)
  have k2 := fun n => BytesOf.str (BytesOf.drewN' (hp'.chg0 hc) n)
  have k01 := BytesOf.str (hp.chg0 hc)
  have k02 := BytesOf.str (hp'.chg0 hc)
  obtain ⟨S1, hS1⟩ : ∃ S : ByteArray, S = ⟨F.pay.toArray⟩ := ⟨_, rfl⟩
  simp only [← hS1] at k1 k2 k01 k02
  have HL := Lib.hid (hl.chg0 hc); have HL' := Lib.hid (hl'.chg0 hc); have HC := Lib.hid hc; have HA := Lib.hid (And.intro hA hA2); have HW := Lib.hid hw2
  clear hp hp' hl hl' hc a1 a2 hA hA2 hw2 hS1
  unfold maxLen at hpcm hpcm' hlcm hlcm'
  go_enter Try.func16, Try.ntmps16
  go_upto_region 1 with fail
  rw [← HW.out, ← HA.out.2, ← HA.out.1]
  go_wp2_with fail
  go_loopw [5] (fun iv wr => ∃ j : Nat, j ≤ F.list.length ∧ iv = .int .i64 j ∧ ∃ n, wr = w2.drewN n) (fun iv _ => F.list.length - (intOf iv).toNat)
  case atStart => exact ⟨0, by omega, rfl, 0, rfl⟩
  case round =>
    obtain ⟨j, hj, rfl, n0, rfl⟩ := hrel
    by_cases hjn : j < F.list.length
    · have hjI : (j : Int) < (F.list.length : Int) := by omega
      obtain ⟨b, off, rfl, hb, hcell⟩ := HL.out.at (by omega)
      obtain ⟨b', off', rfl, hb', hcell'⟩ := HL'.out.at (by omega)
      obtain ⟨s, hs⟩ : ∃ s, F.list[j]? = some s := ⟨_, List.getElem?_eq_getElem hjn⟩
      have z0 : World.cell? w2 ⟨b, off + j * 2, none⟩ = some (.int .i64 s.1) := hcell j s hs 0 (by omega)
      have z1 : World.cell? w2 ⟨b, off + j * 2 + 1, none⟩ = some (.int .u32 s.2) := hcell j s hs 1 (by omega)
      have v0 : World.cell? w2 ⟨b', off' + j * 2, none⟩ = some (.int .i64 s.1) := hcell' j s hs 0 (by omega)
      have v1 : World.cell? w2 ⟨b', off' + j * 2 + 1, none⟩ = some (.int .u32 s.2) := hcell' j s hs 1 (by omega)
      clear hcell hcell' hs k1 k2 k01 k02
      go_wp2_with fail
      go_quiet (fail)
      go_wp2_with fail
      go_roundw
      case rel => exact ⟨j + 1, by omega, by go_num, by first | exact ⟨_, rfl⟩ | exact ⟨_, World.drewN_drewN _ _ _⟩ | exact ⟨n0 + nq, by simp [World.drewN, Nat.add_assoc]⟩⟩
      case measure => simp [intOf]; omega
    · obtain rfl : j = F.list.length := by omega
      have hjI : ¬ (F.list.length : Int) < (F.list.length : Int) := by omega
      clear k1 k2 k01 k02
      go_wp2_with fail
      go_ret
      exact ⟨rfl, HC.out.drewN _⟩
end Go.Proofs.Ythhgnipiaohplaa.Fr
