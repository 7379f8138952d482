/-
  The document's May, kind by kind (written by gen_may.py): 7, 9, 10.
-/
import Derived.Test.YthhgnipiaohplaaMb
import Derived.BigGuardPart
namespace Go.Proofs.Ythhgnipiaohplaa.Fr
open Go.ChangeShapes Go.WideShapes Go.ChangeAt Go.RowKit
open Go.Proofs.Ythhgnipiaohplaa.B
set_option linter.unusedVariables false
set_option linter.unusedSimpArgs false

set_option maxRecDepth 100000 in
set_option maxHeartbeats 16000000 in
theorem rmay_7 (F : Fm) (hk : F.kind = 7) (hwf : F.Wf) (pa : Option Addr) (pc : Nat) (la : Option Addr) (lc : Nat) (w : World) (hl : SliceOf w (.slice la F.list.length lc) 2 encS F.list) (hll : F.list.length ≤ 100000000) :
    Calls Try.prog 34 #[.agg (fcs (F.mem (.slice pa F.pay.length pc) (.slice la F.list.length lc)))] w (MayPost F w) := by
  have hLL : hasL F.kind = [116, 99, 98] := by rw [hk]; rfl
  have hM1 : Hid (0 ≤ F.kind ∧ F.kind ≤ 255) := Lib.hid (by rw [hk]; decide)
  have HK : Hid (F.kind = 7) := Lib.hid hk
  have HLK := Lib.hid hLL
  have HWF := Lib.hid hwf; have HL := Lib.hid hl; have HLL := Lib.hid hll
  clear hwf hl hll hLL
  obtain ⟨w2, hw2⟩ : ∃ w2, w2 = w.alloc (.cells (fcs (F.mem (.slice pa F.pay.length pc) (.slice la F.list.length lc))) 27) := ⟨_, rfl⟩
  have hc : Chg [] w w2 := by rw [hw2]; exact (Chg.refl w).alloc _
  have a1 : At w2 w.heap.size (.cells (fcs (F.mem (.slice pa F.pay.length pc) (.slice la F.list.length lc))) 27 (0, 0)) := by rw [hw2]; exact At.new w _
  obtain ⟨A, hA⟩ : ∃ A, A = w.heap.size := ⟨_, rfl⟩
  rw [← hA] at a1
  have A1 := Lib.hid a1; have HC := Lib.hid hc; have HW := Lib.hid hw2; have HA := Lib.hid hA
  have x0 : World.cell? w2 ⟨A, 0, none⟩ = some (.int .i64 F.kind) := a1.cell rfl
  have x1 : World.cell? w2 ⟨A, 1, none⟩ = some (.int .i64 F.stream) := a1.cell rfl
  have x2 : World.cell? w2 ⟨A, 2, none⟩ = some (.bool F.fin) := a1.cell rfl
  have x3 : World.cell? w2 ⟨A, 3, none⟩ = some (.bool F.eh) := a1.cell rfl
  have x4 : World.cell? w2 ⟨A, 4, none⟩ = some (.bool F.ack) := a1.cell rfl
  have x5 : World.cell? w2 ⟨A, 5, none⟩ = some (.bool F.prio) := a1.cell rfl
  have x6 : World.cell? w2 ⟨A, 6, none⟩ = some (.slice pa F.pay.length pc) := a1.cell rfl
  have x7 : World.cell? w2 ⟨A, 7, none⟩ = some (.int .i64 F.flags) := a1.cell rfl
  have x8 : World.cell? w2 ⟨A, 8, none⟩ = some (.int .i64 F.pad) := a1.cell rfl
  have x9 : World.cell? w2 ⟨A, 9, none⟩ = some (.int .i64 F.depend) := a1.cell rfl
  have x10 : World.cell? w2 ⟨A, 10, none⟩ = some (.bool F.excl) := a1.cell rfl
  have x11 : World.cell? w2 ⟨A, 11, none⟩ = some (.int .i64 F.weight) := a1.cell rfl
  have x12 : World.cell? w2 ⟨A, 12, none⟩ = some (.int .u32 F.code) := a1.cell rfl
  have x13 : World.cell? w2 ⟨A, 13, none⟩ = some (.slice la F.list.length lc) := a1.cell rfl
  have x14 : World.cell? w2 ⟨A, 14, none⟩ = some (.int .i64 F.last) := a1.cell rfl
  have x15 : World.cell? w2 ⟨A, 15, none⟩ = some (.int .i64 F.inc) := a1.cell rfl
  have hAl := a1.lt
  clear a1 hc hw2 hA
  rw [hk] at x0
  clear hk
  go_enter Try.func34, Try.ntmps34
  go_upto_region 1 with fail
  rw [← HW.out, ← HA.out]
  have HN1 : Hid (May F → May1 F ∧ strayB F.kind F.stream = false) := Lib.hid (fun h => by obtain ⟨h1, h2, h3, h4, h5⟩ := h.head; exact ⟨⟨⟨h1, h2⟩, h3, h4⟩, h5⟩)
  rcases ltC F.stream 0 with ⟨k3, _⟩ | ⟨k3, k3'⟩
  · have hno : Hid (false = true ↔ May F) := Lib.hid (iff_no (fun h => by have := HN1.out h; unfold May1 at this; omega))
    go_wp2_with fail
    go_ret
    exact ⟨false, rfl, hno.out, HC.out⟩
  rcases ltC 2147483647 F.stream with ⟨k4, _⟩ | ⟨k4, k4'⟩
  · have hno : Hid (false = true ↔ May F) := Lib.hid (iff_no (fun h => by have := HN1.out h; unfold May1 at this; omega))
    go_wp2_with fail
    go_ret
    exact ⟨false, rfl, hno.out, HC.out⟩
  have HMM : Hid (May1 F) := Lib.hid ⟨hM1.out, k3', k4'⟩
  have RS := Lib.hid (rstray_any F.kind F.stream w2)
  obtain ⟨sb, hsb⟩ : ∃ b, b = strayB F.kind F.stream := ⟨_, rfl⟩
  rw [← hsb] at RS
  have HSB := Lib.hid hsb
  clear hsb
  rw [HK.out] at RS
  go_wp2_with fail
  refine RS.out.mono ?_; rintro e w3 ⟨rfl, rfl⟩
  cases sb with
  | true =>
    have hno : Hid (false = true ↔ May F) := Lib.hid (iff_no (fun h => by have := (HN1.out h).2; rw [← HSB.out] at this; simp at this))
    go_wp2_with fail
    go_ret
    exact ⟨false, rfl, hno.out, HC.out⟩
  | false =>
  have RH := Lib.hid (rhas_any F.kind w3)
  rw [HLK.out] at RH
  rw [HK.out] at RH
  clear HN1 k3 k3' k4 k4' RS
  go_wp2_with fail
  refine RH.out.mono ?_; rintro e w4 ⟨rfl, c4⟩
  have A4 := Lib.hid (A1.out.chg c4 (by simp)); have D4 := Lib.hid (HC.out.trans' c4)
  clear c4 x0 x1 x2 x3 x4 x5 x6 x7 x8 x9 x10 x11 x12 x13 x14 x15 hAl A1 HC HW RH HA
  have HMC : Hid (May F → C1 F ∧ C2 F ∧ C3 F ∧ C4 F ∧ C5 F ∧ C6 F ∧ C7 F ∧ C8 F) := Lib.hid may_c
  obtain ⟨S, hS⟩ : ∃ S, S = bstr [116, 99, 98] := ⟨_, rfl⟩
  rw [← hS]
  have HIe : Hid (hs F 101 = false) := Lib.hid (by unfold hs; rw [HLK.out]; decide)
  have Ie : Hid (∀ w, Calls Try.prog 48 #[.string S, .int .u8 101] w fun e w' => e = .returned (.bool false) ∧ w' = w) := Lib.hid (fun w => by rw [hS, ← HLK.out]; exact in_has F.kind 101 false (by rw [HLK.out]; decide) w)
  have HIh : Hid (hs F 104 = false) := Lib.hid (by unfold hs; rw [HLK.out]; decide)
  have Ih : Hid (∀ w, Calls Try.prog 48 #[.string S, .int .u8 104] w fun e w' => e = .returned (.bool false) ∧ w' = w) := Lib.hid (fun w => by rw [hS, ← HLK.out]; exact in_has F.kind 104 false (by rw [HLK.out]; decide) w)
  have HIa : Hid (hs F 97 = false) := Lib.hid (by unfold hs; rw [HLK.out]; decide)
  have Ia : Hid (∀ w, Calls Try.prog 48 #[.string S, .int .u8 97] w fun e w' => e = .returned (.bool false) ∧ w' = w) := Lib.hid (fun w => by rw [hS, ← HLK.out]; exact in_has F.kind 97 false (by rw [HLK.out]; decide) w)
  have HIp : Hid (hs F 112 = false) := Lib.hid (by unfold hs; rw [HLK.out]; decide)
  have Ip : Hid (∀ w, Calls Try.prog 48 #[.string S, .int .u8 112] w fun e w' => e = .returned (.bool false) ∧ w' = w) := Lib.hid (fun w => by rw [hS, ← HLK.out]; exact in_has F.kind 112 false (by rw [HLK.out]; decide) w)
  have HIw : Hid (hs F 119 = false) := Lib.hid (by unfold hs; rw [HLK.out]; decide)
  have Iw : Hid (∀ w, Calls Try.prog 48 #[.string S, .int .u8 119] w fun e w' => e = .returned (.bool false) ∧ w' = w) := Lib.hid (fun w => by rw [hS, ← HLK.out]; exact in_has F.kind 119 false (by rw [HLK.out]; decide) w)
  have HIr : Hid (hs F 114 = false) := Lib.hid (by unfold hs; rw [HLK.out]; decide)
  have Ir : Hid (∀ w, Calls Try.prog 48 #[.string S, .int .u8 114] w fun e w' => e = .returned (.bool false) ∧ w' = w) := Lib.hid (fun w => by rw [hS, ← HLK.out]; exact in_has F.kind 114 false (by rw [HLK.out]; decide) w)
  have HIc : Hid (hs F 99 = true) := Lib.hid (by unfold hs; rw [HLK.out]; decide)
  have Ic : Hid (∀ w, Calls Try.prog 48 #[.string S, .int .u8 99] w fun e w' => e = .returned (.bool true) ∧ w' = w) := Lib.hid (fun w => by rw [hS, ← HLK.out]; exact in_has F.kind 99 true (by rw [HLK.out]; decide) w)
  have HIl : Hid (hs F 108 = false) := Lib.hid (by unfold hs; rw [HLK.out]; decide)
  have Il : Hid (∀ w, Calls Try.prog 48 #[.string S, .int .u8 108] w fun e w' => e = .returned (.bool false) ∧ w' = w) := Lib.hid (fun w => by rw [hS, ← HLK.out]; exact in_has F.kind 108 false (by rw [HLK.out]; decide) w)
  have HIt : Hid (hs F 116 = true) := Lib.hid (by unfold hs; rw [HLK.out]; decide)
  have It : Hid (∀ w, Calls Try.prog 48 #[.string S, .int .u8 116] w fun e w' => e = .returned (.bool true) ∧ w' = w) := Lib.hid (fun w => by rw [hS, ← HLK.out]; exact in_has F.kind 116 true (by rw [HLK.out]; decide) w)
  have HIi : Hid (hs F 105 = false) := Lib.hid (by unfold hs; rw [HLK.out]; decide)
  have Ii : Hid (∀ w, Calls Try.prog 48 #[.string S, .int .u8 105] w fun e w' => e = .returned (.bool false) ∧ w' = w) := Lib.hid (fun w => by rw [hS, ← HLK.out]; exact in_has F.kind 105 false (by rw [HLK.out]; decide) w)
  have HIf : Hid (hs F 102 = false) := Lib.hid (by unfold hs; rw [HLK.out]; decide)
  have If : Hid (∀ w, Calls Try.prog 48 #[.string S, .int .u8 102] w fun e w' => e = .returned (.bool false) ∧ w' = w) := Lib.hid (fun w => by rw [hS, ← HLK.out]; exact in_has F.kind 102 false (by rw [HLK.out]; decide) w)
  have HIb : Hid (hs F 98 = true) := Lib.hid (by unfold hs; rw [HLK.out]; decide)
  have Ib : Hid (∀ w, Calls Try.prog 48 #[.string S, .int .u8 98] w fun e w' => e = .returned (.bool true) ∧ w' = w) := Lib.hid (fun w => by rw [hS, ← HLK.out]; exact in_has F.kind 98 true (by rw [HLK.out]; decide) w)
  clear hS
  have x0 : World.cell? w4 ⟨A, 0, none⟩ = some (.int .i64 F.kind) := A4.out.cell rfl
  have x1 : World.cell? w4 ⟨A, 1, none⟩ = some (.int .i64 F.stream) := A4.out.cell rfl
  have x2 : World.cell? w4 ⟨A, 2, none⟩ = some (.bool F.fin) := A4.out.cell rfl
  have x3 : World.cell? w4 ⟨A, 3, none⟩ = some (.bool F.eh) := A4.out.cell rfl
  have x4 : World.cell? w4 ⟨A, 4, none⟩ = some (.bool F.ack) := A4.out.cell rfl
  have x5 : World.cell? w4 ⟨A, 5, none⟩ = some (.bool F.prio) := A4.out.cell rfl
  have x6 : World.cell? w4 ⟨A, 6, none⟩ = some (.slice pa F.pay.length pc) := A4.out.cell rfl
  have x7 : World.cell? w4 ⟨A, 7, none⟩ = some (.int .i64 F.flags) := A4.out.cell rfl
  have x8 : World.cell? w4 ⟨A, 8, none⟩ = some (.int .i64 F.pad) := A4.out.cell rfl
  have x9 : World.cell? w4 ⟨A, 9, none⟩ = some (.int .i64 F.depend) := A4.out.cell rfl
  have x10 : World.cell? w4 ⟨A, 10, none⟩ = some (.bool F.excl) := A4.out.cell rfl
  have x11 : World.cell? w4 ⟨A, 11, none⟩ = some (.int .i64 F.weight) := A4.out.cell rfl
  have x12 : World.cell? w4 ⟨A, 12, none⟩ = some (.int .u32 F.code) := A4.out.cell rfl
  have x13 : World.cell? w4 ⟨A, 13, none⟩ = some (.slice la F.list.length lc) := A4.out.cell rfl
  have x14 : World.cell? w4 ⟨A, 14, none⟩ = some (.int .i64 F.last) := A4.out.cell rfl
  have x15 : World.cell? w4 ⟨A, 15, none⟩ = some (.int .i64 F.inc) := A4.out.cell rfl
  have hAl := A4.out.lt
  rw [HK.out] at x0
  have HWG : Hid (wgd F = false) := Lib.hid (by unfold wgd; rw [HIw.out, HIr.out]; simp)
  go_upto_region 4 with fail
  go_cut [4] from 34 to 43 (fun v wx => v = .bool false ∧ wx = w4)
  case first =>
    go_wp2_with (go_at_call 48; first
      | (with_reducible refine (Iw.out _).mono ?_; rintro e wx ⟨rfl, rfl⟩)
      | (with_reducible refine (Ir.out _).mono ?_; rintro e wx ⟨rfl, rfl⟩))
    go_meet
    case rel => exact ⟨by first | rfl | rw [HWP.out], rfl⟩
  obtain ⟨rfl, hwx⟩ := hcut
  have hwx' := hwx.symm
  subst hwx'
  clear Iw HIw
  iterate 2 go_step
  go_cut [] from 44 to 77 (fun wx => wx = w4 ∧ C1 F)
  case first =>
    obtain ⟨p2, hp2⟩ : ∃ b, b = F.fin := ⟨_, rfl⟩
    rw [← hp2] at x2
    obtain ⟨p3, hp3⟩ : ∃ b, b = F.eh := ⟨_, rfl⟩
    rw [← hp3] at x3
    obtain ⟨p4, hp4⟩ : ∃ b, b = F.ack := ⟨_, rfl⟩
    rw [← hp4] at x4
    obtain ⟨p5, hp5⟩ : ∃ b, b = F.prio := ⟨_, rfl⟩
    rw [← hp5] at x5
    have Y : Hid (Im p2 false ∧ Im p3 false ∧ Im p4 false ∧ Im p5 false → C1 F) := Lib.hid (by unfold C1; rw [HIe.out, HIh.out, HIa.out, HIr.out, ← hp2, ← hp3, ← hp4, ← hp5]; exact id)
    have N : Hid (¬ (Im p2 false ∧ Im p3 false ∧ Im p4 false ∧ Im p5 false) → (false = true ↔ May F)) := Lib.hid (fun h => iff_no (fun hm => h (by have h1 := (HMC.out hm).1; unfold C1 at h1; rw [HIe.out, HIh.out, HIa.out, HIr.out, ← hp2, ← hp3, ← hp4, ← hp5] at h1; exact h1)))
    clear hp2 hp3 hp4 hp5
    clear x0 x1 x6 x7 x8 x9 x10 x11 x12 x13 x14 x15 HMC HWG HMM HSB HL HLL HWF HLK HK HIe HIh HIa HIp HIr HIc HIl HIt HIi HIf HIb
    go_wp2_with (go_at_call 48; first
      | (with_reducible refine (Ie.out _).mono ?_; rintro e wx ⟨rfl, rfl⟩)
      | (with_reducible refine (Ih.out _).mono ?_; rintro e wx ⟨rfl, rfl⟩)
      | (with_reducible refine (Ia.out _).mono ?_; rintro e wx ⟨rfl, rfl⟩)
      | (with_reducible refine (Ir.out _).mono ?_; rintro e wx ⟨rfl, rfl⟩))
    all_goals first
      | (go_meet
         case rel => exact ⟨rfl, Y.out ⟨fun q => by first | rfl | assumption | exact absB q (by assumption) | exact ntB (by assumption) | omega, fun q => by first | rfl | assumption | exact absB q (by assumption) | exact ntB (by assumption) | omega, fun q => by first | rfl | assumption | exact absB q (by assumption) | exact ntB (by assumption) | omega, fun q => by first | rfl | assumption | exact absB q (by assumption) | exact ntB (by assumption) | omega⟩⟩)
      | (go_ret
         exact ⟨false, rfl, N.out (fun ⟨q1, q2, q3, q4⟩ => by first
        | exact absB (q1 (by first | assumption | omega)) (by first | rfl | assumption | exact tnB (by assumption))
        | exact absB (q2 (by first | assumption | omega)) (by first | rfl | assumption | exact tnB (by assumption))
        | exact absB (q3 (by first | assumption | omega)) (by first | rfl | assumption | exact tnB (by assumption))
        | exact absB (q4 (by first | assumption | omega)) (by first | rfl | assumption | exact tnB (by assumption))), D4.out⟩)
  obtain ⟨hwx, hcC1⟩ := hcut
  have hwx' := hwx.symm
  subst hwx'
  have HC1 := Lib.hid hcC1
  clear hcC1
  iterate 2 go_step
  go_cut [] from 78 to 127 (fun wx => wx = w4 ∧ C2 F)
  case first =>
    obtain ⟨p6, hp6⟩ : ∃ b, b = F.pay.length := ⟨_, rfl⟩
    rw [← hp6] at x6
    obtain ⟨p7, hp7⟩ : ∃ b, b = F.flags := ⟨_, rfl⟩
    rw [← hp7] at x7
    obtain ⟨p8, hp8⟩ : ∃ b, b = F.pad := ⟨_, rfl⟩
    rw [← hp8] at x8
    obtain ⟨p12, hp12⟩ : ∃ b, b = F.code := ⟨_, rfl⟩
    rw [← hp12] at x12
    obtain ⟨p13, hp13⟩ : ∃ b, b = F.list.length := ⟨_, rfl⟩
    rw [← hp13] at x13
    have Y : Hid (Po p6 true ∧ Nz p7 false ∧ Nz p8 false ∧ Nz p12 true ∧ Po p13 false → C2 F) := Lib.hid (by unfold C2; rw [HIb.out, HIf.out, HIp.out, HIc.out, HIl.out, ← hp6, ← hp7, ← hp8, ← hp12, ← hp13]; exact id)
    have N : Hid (¬ (Po p6 true ∧ Nz p7 false ∧ Nz p8 false ∧ Nz p12 true ∧ Po p13 false) → (false = true ↔ May F)) := Lib.hid (fun h => iff_no (fun hm => h (by have h1 := (HMC.out hm).2.1; unfold C2 at h1; rw [HIb.out, HIf.out, HIp.out, HIc.out, HIl.out, ← hp6, ← hp7, ← hp8, ← hp12, ← hp13] at h1; exact h1)))
    clear hp6 hp7 hp8 hp12 hp13
    clear x0 x1 x2 x3 x4 x5 x9 x10 x11 x14 x15 HMC HWG HMM HSB HL HLL HWF HLK HK HIe HIh HIa HIp HIr HIc HIl HIt HIi HIf HIb
    go_wp2_with (go_at_call 48; first
      | (with_reducible refine (Ib.out _).mono ?_; rintro e wx ⟨rfl, rfl⟩)
      | (with_reducible refine (If.out _).mono ?_; rintro e wx ⟨rfl, rfl⟩)
      | (with_reducible refine (Ip.out _).mono ?_; rintro e wx ⟨rfl, rfl⟩)
      | (with_reducible refine (Ic.out _).mono ?_; rintro e wx ⟨rfl, rfl⟩)
      | (with_reducible refine (Il.out _).mono ?_; rintro e wx ⟨rfl, rfl⟩))
    all_goals first
      | (go_meet
         case rel => exact ⟨rfl, Y.out ⟨fun q => by first | rfl | assumption | exact absB q (by assumption) | exact ntB (by assumption) | omega, fun q => by first | rfl | assumption | exact absB q (by assumption) | exact ntB (by assumption) | omega, fun q => by first | rfl | assumption | exact absB q (by assumption) | exact ntB (by assumption) | omega, fun q => by first | rfl | assumption | exact absB q (by assumption) | exact ntB (by assumption) | omega, fun q => by first | rfl | assumption | exact absB q (by assumption) | exact ntB (by assumption) | omega⟩⟩)
      | (go_ret
         exact ⟨false, rfl, N.out (fun ⟨q1, q2, q3, q4, q5⟩ => by first
        | exact absB (q1 (by first | assumption | omega)) (by first | rfl | assumption | exact tnB (by assumption))
        | exact absB (q2 (by first | assumption | omega)) (by first | rfl | assumption | exact tnB (by assumption))
        | exact absB (q3 (by first | assumption | omega)) (by first | rfl | assumption | exact tnB (by assumption))
        | exact absB (q4 (by first | assumption | omega)) (by first | rfl | assumption | exact tnB (by assumption))
        | exact absB (q5 (by first | assumption | omega)) (by first | rfl | assumption | exact tnB (by assumption))), D4.out⟩)
  obtain ⟨hwx, hcC2⟩ := hcut
  have hwx' := hwx.symm
  subst hwx'
  have HC2 := Lib.hid hcC2
  clear hcC2
  iterate 2 go_step
  go_cut [] from 128 to 163 (fun wx => wx = w4 ∧ C3 F)
  case first =>
    obtain ⟨p14, hp14⟩ : ∃ b, b = F.last := ⟨_, rfl⟩
    rw [← hp14] at x14
    obtain ⟨p15, hp15⟩ : ∃ b, b = F.inc := ⟨_, rfl⟩
    rw [← hp15] at x15
    obtain ⟨p9, hp9⟩ : ∃ b, b = F.depend := ⟨_, rfl⟩
    rw [← hp9] at x9
    obtain ⟨p10, hp10⟩ : ∃ b, b = F.excl := ⟨_, rfl⟩
    rw [← hp10] at x10
    obtain ⟨p11, hp11⟩ : ∃ b, b = F.weight := ⟨_, rfl⟩
    rw [← hp11] at x11
    have Y : Hid (Nz p14 true ∧ Nz p15 false ∧ Wz false p9 p10 p11 → C3 F) := Lib.hid (by unfold C3; rw [HIt.out, HIi.out, HWG.out, ← hp14, ← hp15, ← hp9, ← hp10, ← hp11]; exact id)
    have N : Hid (¬ (Nz p14 true ∧ Nz p15 false ∧ Wz false p9 p10 p11) → (false = true ↔ May F)) := Lib.hid (fun h => iff_no (fun hm => h (by have h1 := (HMC.out hm).2.2.1; unfold C3 at h1; rw [HIt.out, HIi.out, HWG.out, ← hp14, ← hp15, ← hp9, ← hp10, ← hp11] at h1; exact h1)))
    clear hp14 hp15 hp9 hp10 hp11
    clear x0 x1 x2 x3 x4 x5 x6 x7 x8 x12 x13 HMC HWG HMM HSB HL HLL HWF HLK HK HIe HIh HIa HIp HIr HIc HIl HIt HIi HIf HIb HC1 HC2
    go_wp2_with (go_at_call 48; first
      | (with_reducible refine (It.out _).mono ?_; rintro e wx ⟨rfl, rfl⟩)
      | (with_reducible refine (Ii.out _).mono ?_; rintro e wx ⟨rfl, rfl⟩))
    all_goals first
      | (go_meet
         case rel => exact ⟨rfl, Y.out ⟨fun q => by first | rfl | omega, fun q => by first | rfl | omega, fun q => by first | exact absB (by first | rfl | assumption) q | exact ⟨by first | omega | exact bneF (by assumption), by first | rfl | assumption | exact ntF (by assumption), by first | omega | exact bneF (by assumption)⟩⟩⟩)
      | (go_ret
         exact ⟨false, rfl, N.out (fun ⟨q1, q2, q3⟩ => by first
        | exact absB (q1 (by first | assumption | omega)) rfl
        | exact absB (q2 (by first | assumption | omega)) rfl
        | (obtain ⟨r1, r2, r3⟩ := q3 (by first | rfl | assumption); first | omega | exact absB (by assumption) r2 | exact absurd r3 (bneT (by assumption)) | exact absurd r1 (bneT (by assumption)))), D4.out⟩)
  obtain ⟨hwx, hcC3⟩ := hcut
  have hwx' := hwx.symm
  subst hwx'
  have HC3 := Lib.hid hcC3
  clear hcC3 It Ii
  iterate 2 go_step
  go_cut [] from 164 to 201 (fun wx => wx = w4 ∧ C4 F)
  case first =>
    obtain ⟨p8, hp8⟩ : ∃ b, b = F.pad := ⟨_, rfl⟩
    rw [← hp8] at x8
    obtain ⟨p7, hp7⟩ : ∃ b, b = F.flags := ⟨_, rfl⟩
    rw [← hp7] at x7
    obtain ⟨p14, hp14⟩ : ∃ b, b = F.last := ⟨_, rfl⟩
    rw [← hp14] at x14
    have Y : Hid ((0 ≤ p8 ∧ p8 ≤ 256) ∧ (0 ≤ p7 ∧ p7 ≤ 255) ∧ (0 ≤ p14 ∧ p14 ≤ 2147483647) ∧ True → C4 F) := Lib.hid (fun h2 => by unfold C4; rw [← hp8, ← hp7, ← hp14]; exact ⟨h2.1, h2.2.1, h2.2.2.1, (fun h => by have := HK.out; omega)⟩)
    have N : Hid (¬ ((0 ≤ p8 ∧ p8 ≤ 256) ∧ (0 ≤ p7 ∧ p7 ≤ 255) ∧ (0 ≤ p14 ∧ p14 ≤ 2147483647) ∧ True) → (false = true ↔ May F)) := Lib.hid (fun h => iff_no (fun hm => h (by have h1 := (HMC.out hm).2.2.2.1; unfold C4 at h1; rw [← hp8, ← hp7, ← hp14] at h1; exact ⟨h1.1, h1.2.1, h1.2.2.1, trivial⟩)))
    clear hp8 hp7 hp14
    clear x1 x2 x3 x4 x5 x6 x9 x10 x11 x12 x13 x15 HMC HWG HMM HSB HL HLL HWF HLK HK HIe HIh HIa HIp HIr HIc HIl HIt HIi HIf HIb HC1 HC2 HC3
    go_wp2_with fail
    all_goals first
      | (go_meet
         case rel => exact ⟨rfl, Y.out ⟨by omega, by omega, by omega, by first | trivial | omega | exact beqF (by assumption)⟩⟩)
      | (go_ret
         exact ⟨false, rfl, N.out (fun ⟨q1, q2, q3, q4⟩ => by first | omega | exact absurd (beqT (by assumption)) q4), D4.out⟩)
  obtain ⟨hwx, hcC4⟩ := hcut
  have hwx' := hwx.symm
  subst hwx'
  have HC4 := Lib.hid hcC4
  clear hcC4
  iterate 2 go_step
  go_cut [] from 202 to 222 (fun wx => wx = w4 ∧ C5 F)
  case first =>
    go_wp2_with fail
    go_meet
    case rel => exact ⟨rfl, fun h => absB h HWG.out⟩
  obtain ⟨hwx, hcC5⟩ := hcut
  have hwx' := hwx.symm
  subst hwx'
  have HC5 := Lib.hid hcC5
  clear hcC5
  have hNb : Hid (F.list.any badS = true → (false = true ↔ May F)) := Lib.hid (fun h => iff_no (fun hm => by have h1 := (HMC.out hm).2.2.2.2.2.1; unfold C6 at h1; rw [h1] at h; simp at h))
  obtain ⟨nl, hnl⟩ : ∃ n, n = F.list.length := ⟨_, rfl⟩
  have HNL := Lib.hid hnl
  rw [← hnl] at x13
  have hnlI : nl ≤ 100000000 := by rw [hnl]; exact HLL.out
  clear hnl
  go_wp2_with fail
  go_loopw [5] (fun iv wr => ∃ j : Nat, j ≤ nl ∧ iv = .int .i64 j ∧ (F.list.take j).any badS = false ∧ wr = w4) (fun iv _ => nl - (intOf iv).toNat)
  case atStart => exact ⟨0, by omega, rfl, rfl, rfl⟩
  case round =>
    obtain ⟨j, hj, rfl, hno, hwr⟩ := hrel
    have hwr' := hwr.symm
    subst hwr'
    have HNO := Lib.hid hno
    clear hno
    by_cases hjn : j < nl
    · have hjI : (j : Int) < (nl : Int) := by omega
      have hSL := (HL.out.chg0 D4.out)
      rw [← HNL.out] at hSL
      obtain ⟨b, off, rfl, hb, hcell⟩ := hSL.at (by rw [← HNL.out]; omega)
      obtain ⟨s, hs⟩ : ∃ s, F.list[j]? = some s := ⟨_, List.getElem?_eq_getElem (by rw [← HNL.out]; exact hjn)⟩
      obtain ⟨s1, s2⟩ := s
      have z0 : World.cell? w4 ⟨b, off + j * 2, none⟩ = some (.int .i64 s1) := hcell j (s1, s2) hs 0 (by omega)
      have hst : Hid ((F.list.take (j + 1)).any badS = badS (s1, s2)) := Lib.hid (by rw [List.take_add_one, hs, List.any_append, HNO.out]; simp)
      have hbd : Hid (badS (s1, s2) = true → F.list.any badS = true) := Lib.hid (fun h => by rw [List.any_eq_true]; exact ⟨_, List.mem_of_getElem? hs, h⟩)
      clear hcell hs hSL
      go_wp2_with fail
      all_goals first
        | (go_ret
           exact ⟨false, rfl, hNb.out (hbd.out (by simp [badS]; omega)), D4.out⟩)
        | (go_roundw
           case rel => exact ⟨j + 1, by omega, by go_num, by rw [hst.out]; simp [badS]; omega, by first | rfl | trivial⟩
           case measure => simp [intOf]; omega)
    · obtain rfl : j = nl := by omega
      have hjI : ¬ (j : Int) < (j : Int) := by omega
      have H6 : Hid (C6 F) := Lib.hid (by unfold C6; have h := HNO.out; rw [HNL.out, List.take_length] at h; exact h)
      clear HNO
      obtain ⟨p4, hp4⟩ : ∃ b, b = F.ack := ⟨_, rfl⟩
      rw [← hp4] at x4
      obtain ⟨p6, hp6⟩ : ∃ b, b = F.pay.length := ⟨_, rfl⟩
      rw [← hp6] at x6
      obtain ⟨p15, hp15⟩ : ∃ b, b = F.inc := ⟨_, rfl⟩
      rw [← hp15] at x15
      have hm1 := HMM.out; have hsb := HSB.out.symm; have hk1 := HC1.out; have hk2 := HC2.out; have hk3 := HC3.out; have hk4 := HC4.out; have hk5 := HC5.out; have hk6 := H6.out
      have Y : Hid (Az p4 j ∧ True ∧ True → May F) := Lib.hid (fun h2 => (c_may HWF.out hm1 hsb hk1 hk2 hk3 hk4 hk5 hk6 (by unfold C7; rw [← HNL.out, ← hp4, ← hp6]; exact ⟨h2.1, fun h => by have := HK.out; omega⟩) (by unfold C8; rw [← hp15]; exact fun h => by have := HK.out; omega)))
      have N : Hid (¬ (Az p4 j ∧ True ∧ True) → (false = true ↔ May F)) := Lib.hid (fun h => iff_no (fun hm => h (by have h1 := (HMC.out hm).2.2.2.2.2.2.1; have h3 := (HMC.out hm).2.2.2.2.2.2.2; unfold C7 at h1; unfold C8 at h3; rw [← HNL.out, ← hp4, ← hp6] at h1; rw [← hp15] at h3; exact ⟨h1.1, trivial, trivial⟩)))
      clear hp4 hp6 hp15 hm1 hsb hk1 hk2 hk3 hk4 hk5 hk6 HMC HWG HMM HSB HL HLL HWF HLK HK HC1 HC2 HC3 HC4 HC5 H6 hNb HIe HIh HIa HIp HIr HIc HIl HIt HIi HIf HIb
      go_wp2_with fail
      all_goals
        go_ret
        first
        | exact ⟨true, rfl, iff_yes (Y.out ⟨fun q => by first | omega | exact absB q (by assumption), by first | trivial | omega | exact bne8F (by assumption), by first | trivial | omega⟩), D4.out⟩
        | exact ⟨false, rfl, N.out (fun ⟨q1, q2, q3⟩ => by first | omega | (have := q1 (by assumption); omega) | exact absurd q2 (bne8T (by assumption))), D4.out⟩
        | exact ⟨_, rfl, (by
            by_cases hq : p15 ≤ 2147483647
            · rw [decide_eq_true hq]; exact iff_yes (Y.out ⟨fun q => by first | omega | exact absB q (by assumption), by first | trivial | omega, by omega⟩)
            · rw [decide_eq_false hq]; exact N.out (fun ⟨q1, q2, q3⟩ => by omega)), D4.out⟩
set_option maxRecDepth 100000 in
set_option maxHeartbeats 16000000 in
theorem rmay_9 (F : Fm) (hk : F.kind = 9) (hwf : F.Wf) (pa : Option Addr) (pc : Nat) (la : Option Addr) (lc : Nat) (w : World) (hl : SliceOf w (.slice la F.list.length lc) 2 encS F.list) (hll : F.list.length ≤ 100000000) :
    Calls Try.prog 34 #[.agg (fcs (F.mem (.slice pa F.pay.length pc) (.slice la F.list.length lc)))] w (MayPost F w) := by
  have hLL : hasL F.kind = [104, 98] := by rw [hk]; rfl
  have hM1 : Hid (0 ≤ F.kind ∧ F.kind ≤ 255) := Lib.hid (by rw [hk]; decide)
  have HK : Hid (F.kind = 9) := Lib.hid hk
  have HLK := Lib.hid hLL
  have HWF := Lib.hid hwf; have HL := Lib.hid hl; have HLL := Lib.hid hll
  clear hwf hl hll hLL
  obtain ⟨w2, hw2⟩ : ∃ w2, w2 = w.alloc (.cells (fcs (F.mem (.slice pa F.pay.length pc) (.slice la F.list.length lc))) 27) := ⟨_, rfl⟩
  have hc : Chg [] w w2 := by rw [hw2]; exact (Chg.refl w).alloc _
  have a1 : At w2 w.heap.size (.cells (fcs (F.mem (.slice pa F.pay.length pc) (.slice la F.list.length lc))) 27 (0, 0)) := by rw [hw2]; exact At.new w _
  obtain ⟨A, hA⟩ : ∃ A, A = w.heap.size := ⟨_, rfl⟩
  rw [← hA] at a1
  have A1 := Lib.hid a1; have HC := Lib.hid hc; have HW := Lib.hid hw2; have HA := Lib.hid hA
  have x0 : World.cell? w2 ⟨A, 0, none⟩ = some (.int .i64 F.kind) := a1.cell rfl
  have x1 : World.cell? w2 ⟨A, 1, none⟩ = some (.int .i64 F.stream) := a1.cell rfl
  have x2 : World.cell? w2 ⟨A, 2, none⟩ = some (.bool F.fin) := a1.cell rfl
  have x3 : World.cell? w2 ⟨A, 3, none⟩ = some (.bool F.eh) := a1.cell rfl
  have x4 : World.cell? w2 ⟨A, 4, none⟩ = some (.bool F.ack) := a1.cell rfl
  have x5 : World.cell? w2 ⟨A, 5, none⟩ = some (.bool F.prio) := a1.cell rfl
  have x6 : World.cell? w2 ⟨A, 6, none⟩ = some (.slice pa F.pay.length pc) := a1.cell rfl
  have x7 : World.cell? w2 ⟨A, 7, none⟩ = some (.int .i64 F.flags) := a1.cell rfl
  have x8 : World.cell? w2 ⟨A, 8, none⟩ = some (.int .i64 F.pad) := a1.cell rfl
  have x9 : World.cell? w2 ⟨A, 9, none⟩ = some (.int .i64 F.depend) := a1.cell rfl
  have x10 : World.cell? w2 ⟨A, 10, none⟩ = some (.bool F.excl) := a1.cell rfl
  have x11 : World.cell? w2 ⟨A, 11, none⟩ = some (.int .i64 F.weight) := a1.cell rfl
  have x12 : World.cell? w2 ⟨A, 12, none⟩ = some (.int .u32 F.code) := a1.cell rfl
  have x13 : World.cell? w2 ⟨A, 13, none⟩ = some (.slice la F.list.length lc) := a1.cell rfl
  have x14 : World.cell? w2 ⟨A, 14, none⟩ = some (.int .i64 F.last) := a1.cell rfl
  have x15 : World.cell? w2 ⟨A, 15, none⟩ = some (.int .i64 F.inc) := a1.cell rfl
  have hAl := a1.lt
  clear a1 hc hw2 hA
  rw [hk] at x0
  clear hk
  go_enter Try.func34, Try.ntmps34
  go_upto_region 1 with fail
  rw [← HW.out, ← HA.out]
  have HN1 : Hid (May F → May1 F ∧ strayB F.kind F.stream = false) := Lib.hid (fun h => by obtain ⟨h1, h2, h3, h4, h5⟩ := h.head; exact ⟨⟨⟨h1, h2⟩, h3, h4⟩, h5⟩)
  rcases ltC F.stream 0 with ⟨k3, _⟩ | ⟨k3, k3'⟩
  · have hno : Hid (false = true ↔ May F) := Lib.hid (iff_no (fun h => by have := HN1.out h; unfold May1 at this; omega))
    go_wp2_with fail
    go_ret
    exact ⟨false, rfl, hno.out, HC.out⟩
  rcases ltC 2147483647 F.stream with ⟨k4, _⟩ | ⟨k4, k4'⟩
  · have hno : Hid (false = true ↔ May F) := Lib.hid (iff_no (fun h => by have := HN1.out h; unfold May1 at this; omega))
    go_wp2_with fail
    go_ret
    exact ⟨false, rfl, hno.out, HC.out⟩
  have HMM : Hid (May1 F) := Lib.hid ⟨hM1.out, k3', k4'⟩
  have RS := Lib.hid (rstray_any F.kind F.stream w2)
  obtain ⟨sb, hsb⟩ : ∃ b, b = strayB F.kind F.stream := ⟨_, rfl⟩
  rw [← hsb] at RS
  have HSB := Lib.hid hsb
  clear hsb
  rw [HK.out] at RS
  go_wp2_with fail
  refine RS.out.mono ?_; rintro e w3 ⟨rfl, rfl⟩
  cases sb with
  | true =>
    have hno : Hid (false = true ↔ May F) := Lib.hid (iff_no (fun h => by have := (HN1.out h).2; rw [← HSB.out] at this; simp at this))
    go_wp2_with fail
    go_ret
    exact ⟨false, rfl, hno.out, HC.out⟩
  | false =>
  have RH := Lib.hid (rhas_any F.kind w3)
  rw [HLK.out] at RH
  rw [HK.out] at RH
  clear HN1 k3 k3' k4 k4' RS
  go_wp2_with fail
  refine RH.out.mono ?_; rintro e w4 ⟨rfl, c4⟩
  have A4 := Lib.hid (A1.out.chg c4 (by simp)); have D4 := Lib.hid (HC.out.trans' c4)
  clear c4 x0 x1 x2 x3 x4 x5 x6 x7 x8 x9 x10 x11 x12 x13 x14 x15 hAl A1 HC HW RH HA
  have HMC : Hid (May F → C1 F ∧ C2 F ∧ C3 F ∧ C4 F ∧ C5 F ∧ C6 F ∧ C7 F ∧ C8 F) := Lib.hid may_c
  obtain ⟨S, hS⟩ : ∃ S, S = bstr [104, 98] := ⟨_, rfl⟩
  rw [← hS]
  have HIe : Hid (hs F 101 = false) := Lib.hid (by unfold hs; rw [HLK.out]; decide)
  have Ie : Hid (∀ w, Calls Try.prog 48 #[.string S, .int .u8 101] w fun e w' => e = .returned (.bool false) ∧ w' = w) := Lib.hid (fun w => by rw [hS, ← HLK.out]; exact in_has F.kind 101 false (by rw [HLK.out]; decide) w)
  have HIh : Hid (hs F 104 = true) := Lib.hid (by unfold hs; rw [HLK.out]; decide)
  have Ih : Hid (∀ w, Calls Try.prog 48 #[.string S, .int .u8 104] w fun e w' => e = .returned (.bool true) ∧ w' = w) := Lib.hid (fun w => by rw [hS, ← HLK.out]; exact in_has F.kind 104 true (by rw [HLK.out]; decide) w)
  have HIa : Hid (hs F 97 = false) := Lib.hid (by unfold hs; rw [HLK.out]; decide)
  have Ia : Hid (∀ w, Calls Try.prog 48 #[.string S, .int .u8 97] w fun e w' => e = .returned (.bool false) ∧ w' = w) := Lib.hid (fun w => by rw [hS, ← HLK.out]; exact in_has F.kind 97 false (by rw [HLK.out]; decide) w)
  have HIp : Hid (hs F 112 = false) := Lib.hid (by unfold hs; rw [HLK.out]; decide)
  have Ip : Hid (∀ w, Calls Try.prog 48 #[.string S, .int .u8 112] w fun e w' => e = .returned (.bool false) ∧ w' = w) := Lib.hid (fun w => by rw [hS, ← HLK.out]; exact in_has F.kind 112 false (by rw [HLK.out]; decide) w)
  have HIw : Hid (hs F 119 = false) := Lib.hid (by unfold hs; rw [HLK.out]; decide)
  have Iw : Hid (∀ w, Calls Try.prog 48 #[.string S, .int .u8 119] w fun e w' => e = .returned (.bool false) ∧ w' = w) := Lib.hid (fun w => by rw [hS, ← HLK.out]; exact in_has F.kind 119 false (by rw [HLK.out]; decide) w)
  have HIr : Hid (hs F 114 = false) := Lib.hid (by unfold hs; rw [HLK.out]; decide)
  have Ir : Hid (∀ w, Calls Try.prog 48 #[.string S, .int .u8 114] w fun e w' => e = .returned (.bool false) ∧ w' = w) := Lib.hid (fun w => by rw [hS, ← HLK.out]; exact in_has F.kind 114 false (by rw [HLK.out]; decide) w)
  have HIc : Hid (hs F 99 = false) := Lib.hid (by unfold hs; rw [HLK.out]; decide)
  have Ic : Hid (∀ w, Calls Try.prog 48 #[.string S, .int .u8 99] w fun e w' => e = .returned (.bool false) ∧ w' = w) := Lib.hid (fun w => by rw [hS, ← HLK.out]; exact in_has F.kind 99 false (by rw [HLK.out]; decide) w)
  have HIl : Hid (hs F 108 = false) := Lib.hid (by unfold hs; rw [HLK.out]; decide)
  have Il : Hid (∀ w, Calls Try.prog 48 #[.string S, .int .u8 108] w fun e w' => e = .returned (.bool false) ∧ w' = w) := Lib.hid (fun w => by rw [hS, ← HLK.out]; exact in_has F.kind 108 false (by rw [HLK.out]; decide) w)
  have HIt : Hid (hs F 116 = false) := Lib.hid (by unfold hs; rw [HLK.out]; decide)
  have It : Hid (∀ w, Calls Try.prog 48 #[.string S, .int .u8 116] w fun e w' => e = .returned (.bool false) ∧ w' = w) := Lib.hid (fun w => by rw [hS, ← HLK.out]; exact in_has F.kind 116 false (by rw [HLK.out]; decide) w)
  have HIi : Hid (hs F 105 = false) := Lib.hid (by unfold hs; rw [HLK.out]; decide)
  have Ii : Hid (∀ w, Calls Try.prog 48 #[.string S, .int .u8 105] w fun e w' => e = .returned (.bool false) ∧ w' = w) := Lib.hid (fun w => by rw [hS, ← HLK.out]; exact in_has F.kind 105 false (by rw [HLK.out]; decide) w)
  have HIf : Hid (hs F 102 = false) := Lib.hid (by unfold hs; rw [HLK.out]; decide)
  have If : Hid (∀ w, Calls Try.prog 48 #[.string S, .int .u8 102] w fun e w' => e = .returned (.bool false) ∧ w' = w) := Lib.hid (fun w => by rw [hS, ← HLK.out]; exact in_has F.kind 102 false (by rw [HLK.out]; decide) w)
  have HIb : Hid (hs F 98 = true) := Lib.hid (by unfold hs; rw [HLK.out]; decide)
  have Ib : Hid (∀ w, Calls Try.prog 48 #[.string S, .int .u8 98] w fun e w' => e = .returned (.bool true) ∧ w' = w) := Lib.hid (fun w => by rw [hS, ← HLK.out]; exact in_has F.kind 98 true (by rw [HLK.out]; decide) w)
  clear hS
  have x0 : World.cell? w4 ⟨A, 0, none⟩ = some (.int .i64 F.kind) := A4.out.cell rfl
  have x1 : World.cell? w4 ⟨A, 1, none⟩ = some (.int .i64 F.stream) := A4.out.cell rfl
  have x2 : World.cell? w4 ⟨A, 2, none⟩ = some (.bool F.fin) := A4.out.cell rfl
  have x3 : World.cell? w4 ⟨A, 3, none⟩ = some (.bool F.eh) := A4.out.cell rfl
  have x4 : World.cell? w4 ⟨A, 4, none⟩ = some (.bool F.ack) := A4.out.cell rfl
  have x5 : World.cell? w4 ⟨A, 5, none⟩ = some (.bool F.prio) := A4.out.cell rfl
  have x6 : World.cell? w4 ⟨A, 6, none⟩ = some (.slice pa F.pay.length pc) := A4.out.cell rfl
  have x7 : World.cell? w4 ⟨A, 7, none⟩ = some (.int .i64 F.flags) := A4.out.cell rfl
  have x8 : World.cell? w4 ⟨A, 8, none⟩ = some (.int .i64 F.pad) := A4.out.cell rfl
  have x9 : World.cell? w4 ⟨A, 9, none⟩ = some (.int .i64 F.depend) := A4.out.cell rfl
  have x10 : World.cell? w4 ⟨A, 10, none⟩ = some (.bool F.excl) := A4.out.cell rfl
  have x11 : World.cell? w4 ⟨A, 11, none⟩ = some (.int .i64 F.weight) := A4.out.cell rfl
  have x12 : World.cell? w4 ⟨A, 12, none⟩ = some (.int .u32 F.code) := A4.out.cell rfl
  have x13 : World.cell? w4 ⟨A, 13, none⟩ = some (.slice la F.list.length lc) := A4.out.cell rfl
  have x14 : World.cell? w4 ⟨A, 14, none⟩ = some (.int .i64 F.last) := A4.out.cell rfl
  have x15 : World.cell? w4 ⟨A, 15, none⟩ = some (.int .i64 F.inc) := A4.out.cell rfl
  have hAl := A4.out.lt
  rw [HK.out] at x0
  have HWG : Hid (wgd F = false) := Lib.hid (by unfold wgd; rw [HIw.out, HIr.out]; simp)
  go_upto_region 4 with fail
  go_cut [4] from 34 to 43 (fun v wx => v = .bool false ∧ wx = w4)
  case first =>
    go_wp2_with (go_at_call 48; first
      | (with_reducible refine (Iw.out _).mono ?_; rintro e wx ⟨rfl, rfl⟩)
      | (with_reducible refine (Ir.out _).mono ?_; rintro e wx ⟨rfl, rfl⟩))
    go_meet
    case rel => exact ⟨by first | rfl | rw [HWP.out], rfl⟩
  obtain ⟨rfl, hwx⟩ := hcut
  have hwx' := hwx.symm
  subst hwx'
  clear Iw HIw
  iterate 2 go_step
  go_cut [] from 44 to 77 (fun wx => wx = w4 ∧ C1 F)
  case first =>
    obtain ⟨p2, hp2⟩ : ∃ b, b = F.fin := ⟨_, rfl⟩
    rw [← hp2] at x2
    obtain ⟨p3, hp3⟩ : ∃ b, b = F.eh := ⟨_, rfl⟩
    rw [← hp3] at x3
    obtain ⟨p4, hp4⟩ : ∃ b, b = F.ack := ⟨_, rfl⟩
    rw [← hp4] at x4
    obtain ⟨p5, hp5⟩ : ∃ b, b = F.prio := ⟨_, rfl⟩
    rw [← hp5] at x5
    have Y : Hid (Im p2 false ∧ Im p3 true ∧ Im p4 false ∧ Im p5 false → C1 F) := Lib.hid (by unfold C1; rw [HIe.out, HIh.out, HIa.out, HIr.out, ← hp2, ← hp3, ← hp4, ← hp5]; exact id)
    have N : Hid (¬ (Im p2 false ∧ Im p3 true ∧ Im p4 false ∧ Im p5 false) → (false = true ↔ May F)) := Lib.hid (fun h => iff_no (fun hm => h (by have h1 := (HMC.out hm).1; unfold C1 at h1; rw [HIe.out, HIh.out, HIa.out, HIr.out, ← hp2, ← hp3, ← hp4, ← hp5] at h1; exact h1)))
    clear hp2 hp3 hp4 hp5
    clear x0 x1 x6 x7 x8 x9 x10 x11 x12 x13 x14 x15 HMC HWG HMM HSB HL HLL HWF HLK HK HIe HIh HIa HIp HIr HIc HIl HIt HIi HIf HIb
    go_wp2_with (go_at_call 48; first
      | (with_reducible refine (Ie.out _).mono ?_; rintro e wx ⟨rfl, rfl⟩)
      | (with_reducible refine (Ih.out _).mono ?_; rintro e wx ⟨rfl, rfl⟩)
      | (with_reducible refine (Ia.out _).mono ?_; rintro e wx ⟨rfl, rfl⟩)
      | (with_reducible refine (Ir.out _).mono ?_; rintro e wx ⟨rfl, rfl⟩))
    all_goals first
      | (go_meet
         case rel => exact ⟨rfl, Y.out ⟨fun q => by first | rfl | assumption | exact absB q (by assumption) | exact ntB (by assumption) | omega, fun q => by first | rfl | assumption | exact absB q (by assumption) | exact ntB (by assumption) | omega, fun q => by first | rfl | assumption | exact absB q (by assumption) | exact ntB (by assumption) | omega, fun q => by first | rfl | assumption | exact absB q (by assumption) | exact ntB (by assumption) | omega⟩⟩)
      | (go_ret
         exact ⟨false, rfl, N.out (fun ⟨q1, q2, q3, q4⟩ => by first
        | exact absB (q1 (by first | assumption | omega)) (by first | rfl | assumption | exact tnB (by assumption))
        | exact absB (q2 (by first | assumption | omega)) (by first | rfl | assumption | exact tnB (by assumption))
        | exact absB (q3 (by first | assumption | omega)) (by first | rfl | assumption | exact tnB (by assumption))
        | exact absB (q4 (by first | assumption | omega)) (by first | rfl | assumption | exact tnB (by assumption))), D4.out⟩)
  obtain ⟨hwx, hcC1⟩ := hcut
  have hwx' := hwx.symm
  subst hwx'
  have HC1 := Lib.hid hcC1
  clear hcC1
  iterate 2 go_step
  go_cut [] from 78 to 127 (fun wx => wx = w4 ∧ C2 F)
  case first =>
    obtain ⟨p6, hp6⟩ : ∃ b, b = F.pay.length := ⟨_, rfl⟩
    rw [← hp6] at x6
    obtain ⟨p7, hp7⟩ : ∃ b, b = F.flags := ⟨_, rfl⟩
    rw [← hp7] at x7
    obtain ⟨p8, hp8⟩ : ∃ b, b = F.pad := ⟨_, rfl⟩
    rw [← hp8] at x8
    obtain ⟨p12, hp12⟩ : ∃ b, b = F.code := ⟨_, rfl⟩
    rw [← hp12] at x12
    obtain ⟨p13, hp13⟩ : ∃ b, b = F.list.length := ⟨_, rfl⟩
    rw [← hp13] at x13
    have Y : Hid (Po p6 true ∧ Nz p7 false ∧ Nz p8 false ∧ Nz p12 false ∧ Po p13 false → C2 F) := Lib.hid (by unfold C2; rw [HIb.out, HIf.out, HIp.out, HIc.out, HIl.out, ← hp6, ← hp7, ← hp8, ← hp12, ← hp13]; exact id)
    have N : Hid (¬ (Po p6 true ∧ Nz p7 false ∧ Nz p8 false ∧ Nz p12 false ∧ Po p13 false) → (false = true ↔ May F)) := Lib.hid (fun h => iff_no (fun hm => h (by have h1 := (HMC.out hm).2.1; unfold C2 at h1; rw [HIb.out, HIf.out, HIp.out, HIc.out, HIl.out, ← hp6, ← hp7, ← hp8, ← hp12, ← hp13] at h1; exact h1)))
    clear hp6 hp7 hp8 hp12 hp13
    clear x0 x1 x2 x3 x4 x5 x9 x10 x11 x14 x15 HMC HWG HMM HSB HL HLL HWF HLK HK HIe HIh HIa HIp HIr HIc HIl HIt HIi HIf HIb
    go_wp2_with (go_at_call 48; first
      | (with_reducible refine (Ib.out _).mono ?_; rintro e wx ⟨rfl, rfl⟩)
      | (with_reducible refine (If.out _).mono ?_; rintro e wx ⟨rfl, rfl⟩)
      | (with_reducible refine (Ip.out _).mono ?_; rintro e wx ⟨rfl, rfl⟩)
      | (with_reducible refine (Ic.out _).mono ?_; rintro e wx ⟨rfl, rfl⟩)
      | (with_reducible refine (Il.out _).mono ?_; rintro e wx ⟨rfl, rfl⟩))
    all_goals first
      | (go_meet
         case rel => exact ⟨rfl, Y.out ⟨fun q => by first | rfl | assumption | exact absB q (by assumption) | exact ntB (by assumption) | omega, fun q => by first | rfl | assumption | exact absB q (by assumption) | exact ntB (by assumption) | omega, fun q => by first | rfl | assumption | exact absB q (by assumption) | exact ntB (by assumption) | omega, fun q => by first | rfl | assumption | exact absB q (by assumption) | exact ntB (by assumption) | omega, fun q => by first | rfl | assumption | exact absB q (by assumption) | exact ntB (by assumption) | omega⟩⟩)
      | (go_ret
         exact ⟨false, rfl, N.out (fun ⟨q1, q2, q3, q4, q5⟩ => by first
        | exact absB (q1 (by first | assumption | omega)) (by first | rfl | assumption | exact tnB (by assumption))
        | exact absB (q2 (by first | assumption | omega)) (by first | rfl | assumption | exact tnB (by assumption))
        | exact absB (q3 (by first | assumption | omega)) (by first | rfl | assumption | exact tnB (by assumption))
        | exact absB (q4 (by first | assumption | omega)) (by first | rfl | assumption | exact tnB (by assumption))
        | exact absB (q5 (by first | assumption | omega)) (by first | rfl | assumption | exact tnB (by assumption))), D4.out⟩)
  obtain ⟨hwx, hcC2⟩ := hcut
  have hwx' := hwx.symm
  subst hwx'
  have HC2 := Lib.hid hcC2
  clear hcC2
  iterate 2 go_step
  go_cut [] from 128 to 163 (fun wx => wx = w4 ∧ C3 F)
  case first =>
    obtain ⟨p14, hp14⟩ : ∃ b, b = F.last := ⟨_, rfl⟩
    rw [← hp14] at x14
    obtain ⟨p15, hp15⟩ : ∃ b, b = F.inc := ⟨_, rfl⟩
    rw [← hp15] at x15
    obtain ⟨p9, hp9⟩ : ∃ b, b = F.depend := ⟨_, rfl⟩
    rw [← hp9] at x9
    obtain ⟨p10, hp10⟩ : ∃ b, b = F.excl := ⟨_, rfl⟩
    rw [← hp10] at x10
    obtain ⟨p11, hp11⟩ : ∃ b, b = F.weight := ⟨_, rfl⟩
    rw [← hp11] at x11
    have Y : Hid (Nz p14 false ∧ Nz p15 false ∧ Wz false p9 p10 p11 → C3 F) := Lib.hid (by unfold C3; rw [HIt.out, HIi.out, HWG.out, ← hp14, ← hp15, ← hp9, ← hp10, ← hp11]; exact id)
    have N : Hid (¬ (Nz p14 false ∧ Nz p15 false ∧ Wz false p9 p10 p11) → (false = true ↔ May F)) := Lib.hid (fun h => iff_no (fun hm => h (by have h1 := (HMC.out hm).2.2.1; unfold C3 at h1; rw [HIt.out, HIi.out, HWG.out, ← hp14, ← hp15, ← hp9, ← hp10, ← hp11] at h1; exact h1)))
    clear hp14 hp15 hp9 hp10 hp11
    clear x0 x1 x2 x3 x4 x5 x6 x7 x8 x12 x13 HMC HWG HMM HSB HL HLL HWF HLK HK HIe HIh HIa HIp HIr HIc HIl HIt HIi HIf HIb HC1 HC2
    go_wp2_with (go_at_call 48; first
      | (with_reducible refine (It.out _).mono ?_; rintro e wx ⟨rfl, rfl⟩)
      | (with_reducible refine (Ii.out _).mono ?_; rintro e wx ⟨rfl, rfl⟩))
    all_goals first
      | (go_meet
         case rel => exact ⟨rfl, Y.out ⟨fun q => by first | rfl | omega, fun q => by first | rfl | omega, fun q => by first | exact absB (by first | rfl | assumption) q | exact ⟨by first | omega | exact bneF (by assumption), by first | rfl | assumption | exact ntF (by assumption), by first | omega | exact bneF (by assumption)⟩⟩⟩)
      | (go_ret
         exact ⟨false, rfl, N.out (fun ⟨q1, q2, q3⟩ => by first
        | exact absB (q1 (by first | assumption | omega)) rfl
        | exact absB (q2 (by first | assumption | omega)) rfl
        | (obtain ⟨r1, r2, r3⟩ := q3 (by first | rfl | assumption); first | omega | exact absB (by assumption) r2 | exact absurd r3 (bneT (by assumption)) | exact absurd r1 (bneT (by assumption)))), D4.out⟩)
  obtain ⟨hwx, hcC3⟩ := hcut
  have hwx' := hwx.symm
  subst hwx'
  have HC3 := Lib.hid hcC3
  clear hcC3 It Ii
  iterate 2 go_step
  go_cut [] from 164 to 201 (fun wx => wx = w4 ∧ C4 F)
  case first =>
    obtain ⟨p8, hp8⟩ : ∃ b, b = F.pad := ⟨_, rfl⟩
    rw [← hp8] at x8
    obtain ⟨p7, hp7⟩ : ∃ b, b = F.flags := ⟨_, rfl⟩
    rw [← hp7] at x7
    obtain ⟨p14, hp14⟩ : ∃ b, b = F.last := ⟨_, rfl⟩
    rw [← hp14] at x14
    have Y : Hid ((0 ≤ p8 ∧ p8 ≤ 256) ∧ (0 ≤ p7 ∧ p7 ≤ 255) ∧ (0 ≤ p14 ∧ p14 ≤ 2147483647) ∧ True → C4 F) := Lib.hid (fun h2 => by unfold C4; rw [← hp8, ← hp7, ← hp14]; exact ⟨h2.1, h2.2.1, h2.2.2.1, (fun h => by have := HK.out; omega)⟩)
    have N : Hid (¬ ((0 ≤ p8 ∧ p8 ≤ 256) ∧ (0 ≤ p7 ∧ p7 ≤ 255) ∧ (0 ≤ p14 ∧ p14 ≤ 2147483647) ∧ True) → (false = true ↔ May F)) := Lib.hid (fun h => iff_no (fun hm => h (by have h1 := (HMC.out hm).2.2.2.1; unfold C4 at h1; rw [← hp8, ← hp7, ← hp14] at h1; exact ⟨h1.1, h1.2.1, h1.2.2.1, trivial⟩)))
    clear hp8 hp7 hp14
    clear x1 x2 x3 x4 x5 x6 x9 x10 x11 x12 x13 x15 HMC HWG HMM HSB HL HLL HWF HLK HK HIe HIh HIa HIp HIr HIc HIl HIt HIi HIf HIb HC1 HC2 HC3
    go_wp2_with fail
    all_goals first
      | (go_meet
         case rel => exact ⟨rfl, Y.out ⟨by omega, by omega, by omega, by first | trivial | omega | exact beqF (by assumption)⟩⟩)
      | (go_ret
         exact ⟨false, rfl, N.out (fun ⟨q1, q2, q3, q4⟩ => by first | omega | exact absurd (beqT (by assumption)) q4), D4.out⟩)
  obtain ⟨hwx, hcC4⟩ := hcut
  have hwx' := hwx.symm
  subst hwx'
  have HC4 := Lib.hid hcC4
  clear hcC4
  iterate 2 go_step
  go_cut [] from 202 to 222 (fun wx => wx = w4 ∧ C5 F)
  case first =>
    go_wp2_with fail
    go_meet
    case rel => exact ⟨rfl, fun h => absB h HWG.out⟩
  obtain ⟨hwx, hcC5⟩ := hcut
  have hwx' := hwx.symm
  subst hwx'
  have HC5 := Lib.hid hcC5
  clear hcC5
  have hNb : Hid (F.list.any badS = true → (false = true ↔ May F)) := Lib.hid (fun h => iff_no (fun hm => by have h1 := (HMC.out hm).2.2.2.2.2.1; unfold C6 at h1; rw [h1] at h; simp at h))
  obtain ⟨nl, hnl⟩ : ∃ n, n = F.list.length := ⟨_, rfl⟩
  have HNL := Lib.hid hnl
  rw [← hnl] at x13
  have hnlI : nl ≤ 100000000 := by rw [hnl]; exact HLL.out
  clear hnl
  go_wp2_with fail
  go_loopw [5] (fun iv wr => ∃ j : Nat, j ≤ nl ∧ iv = .int .i64 j ∧ (F.list.take j).any badS = false ∧ wr = w4) (fun iv _ => nl - (intOf iv).toNat)
  case atStart => exact ⟨0, by omega, rfl, rfl, rfl⟩
  case round =>
    obtain ⟨j, hj, rfl, hno, hwr⟩ := hrel
    have hwr' := hwr.symm
    subst hwr'
    have HNO := Lib.hid hno
    clear hno
    by_cases hjn : j < nl
    · have hjI : (j : Int) < (nl : Int) := by omega
      have hSL := (HL.out.chg0 D4.out)
      rw [← HNL.out] at hSL
      obtain ⟨b, off, rfl, hb, hcell⟩ := hSL.at (by rw [← HNL.out]; omega)
      obtain ⟨s, hs⟩ : ∃ s, F.list[j]? = some s := ⟨_, List.getElem?_eq_getElem (by rw [← HNL.out]; exact hjn)⟩
      obtain ⟨s1, s2⟩ := s
      have z0 : World.cell? w4 ⟨b, off + j * 2, none⟩ = some (.int .i64 s1) := hcell j (s1, s2) hs 0 (by omega)
      have hst : Hid ((F.list.take (j + 1)).any badS = badS (s1, s2)) := Lib.hid (by rw [List.take_add_one, hs, List.any_append, HNO.out]; simp)
      have hbd : Hid (badS (s1, s2) = true → F.list.any badS = true) := Lib.hid (fun h => by rw [List.any_eq_true]; exact ⟨_, List.mem_of_getElem? hs, h⟩)
      clear hcell hs hSL
      go_wp2_with fail
      all_goals first
        | (go_ret
           exact ⟨false, rfl, hNb.out (hbd.out (by simp [badS]; omega)), D4.out⟩)
        | (go_roundw
           case rel => exact ⟨j + 1, by omega, by go_num, by rw [hst.out]; simp [badS]; omega, by first | rfl | trivial⟩
           case measure => simp [intOf]; omega)
    · obtain rfl : j = nl := by omega
      have hjI : ¬ (j : Int) < (j : Int) := by omega
      have H6 : Hid (C6 F) := Lib.hid (by unfold C6; have h := HNO.out; rw [HNL.out, List.take_length] at h; exact h)
      clear HNO
      obtain ⟨p4, hp4⟩ : ∃ b, b = F.ack := ⟨_, rfl⟩
      rw [← hp4] at x4
      obtain ⟨p6, hp6⟩ : ∃ b, b = F.pay.length := ⟨_, rfl⟩
      rw [← hp6] at x6
      obtain ⟨p15, hp15⟩ : ∃ b, b = F.inc := ⟨_, rfl⟩
      rw [← hp15] at x15
      have hm1 := HMM.out; have hsb := HSB.out.symm; have hk1 := HC1.out; have hk2 := HC2.out; have hk3 := HC3.out; have hk4 := HC4.out; have hk5 := HC5.out; have hk6 := H6.out
      have Y : Hid (Az p4 j ∧ True ∧ True → May F) := Lib.hid (fun h2 => (c_may HWF.out hm1 hsb hk1 hk2 hk3 hk4 hk5 hk6 (by unfold C7; rw [← HNL.out, ← hp4, ← hp6]; exact ⟨h2.1, fun h => by have := HK.out; omega⟩) (by unfold C8; rw [← hp15]; exact fun h => by have := HK.out; omega)))
      have N : Hid (¬ (Az p4 j ∧ True ∧ True) → (false = true ↔ May F)) := Lib.hid (fun h => iff_no (fun hm => h (by have h1 := (HMC.out hm).2.2.2.2.2.2.1; have h3 := (HMC.out hm).2.2.2.2.2.2.2; unfold C7 at h1; unfold C8 at h3; rw [← HNL.out, ← hp4, ← hp6] at h1; rw [← hp15] at h3; exact ⟨h1.1, trivial, trivial⟩)))
      clear hp4 hp6 hp15 hm1 hsb hk1 hk2 hk3 hk4 hk5 hk6 HMC HWG HMM HSB HL HLL HWF HLK HK HC1 HC2 HC3 HC4 HC5 H6 hNb HIe HIh HIa HIp HIr HIc HIl HIt HIi HIf HIb
      go_wp2_with fail
      all_goals
        go_ret
        first
        | exact ⟨true, rfl, iff_yes (Y.out ⟨fun q => by first | omega | exact absB q (by assumption), by first | trivial | omega | exact bne8F (by assumption), by first | trivial | omega⟩), D4.out⟩
        | exact ⟨false, rfl, N.out (fun ⟨q1, q2, q3⟩ => by first | omega | (have := q1 (by assumption); omega) | exact absurd q2 (bne8T (by assumption))), D4.out⟩
        | exact ⟨_, rfl, (by
            by_cases hq : p15 ≤ 2147483647
            · rw [decide_eq_true hq]; exact iff_yes (Y.out ⟨fun q => by first | omega | exact absB q (by assumption), by first | trivial | omega, by omega⟩)
            · rw [decide_eq_false hq]; exact N.out (fun ⟨q1, q2, q3⟩ => by omega)), D4.out⟩
set_option maxRecDepth 100000 in
set_option maxHeartbeats 16000000 in
theorem rmay_10 (F : Fm) (hk : 10 ≤ F.kind ∧ F.kind ≤ 255) (hwf : F.Wf) (pa : Option Addr) (pc : Nat) (la : Option Addr) (lc : Nat) (w : World) (hl : SliceOf w (.slice la F.list.length lc) 2 encS F.list) (hll : F.list.length ≤ 100000000) :
    Calls Try.prog 34 #[.agg (fcs (F.mem (.slice pa F.pay.length pc) (.slice la F.list.length lc)))] w (MayPost F w) := by
  have hLL : hasL F.kind = [102, 98] := by obtain ⟨n, hn⟩ : ∃ n : Nat, F.kind = (n : Int) := ⟨F.kind.toNat, by omega⟩; rw [hn]; exact hasL_other n (by omega)
  have hM1 : Hid (0 ≤ F.kind ∧ F.kind ≤ 255) := Lib.hid (by omega)
  have HK : Hid (10 ≤ F.kind ∧ F.kind ≤ 255) := Lib.hid hk
  have HLK := Lib.hid hLL
  have HWF := Lib.hid hwf; have HL := Lib.hid hl; have HLL := Lib.hid hll
  clear hwf hl hll hLL
  obtain ⟨w2, hw2⟩ : ∃ w2, w2 = w.alloc (.cells (fcs (F.mem (.slice pa F.pay.length pc) (.slice la F.list.length lc))) 27) := ⟨_, rfl⟩
  have hc : Chg [] w w2 := by rw [hw2]; exact (Chg.refl w).alloc _
  have a1 : At w2 w.heap.size (.cells (fcs (F.mem (.slice pa F.pay.length pc) (.slice la F.list.length lc))) 27 (0, 0)) := by rw [hw2]; exact At.new w _
  obtain ⟨A, hA⟩ : ∃ A, A = w.heap.size := ⟨_, rfl⟩
  rw [← hA] at a1
  have A1 := Lib.hid a1; have HC := Lib.hid hc; have HW := Lib.hid hw2; have HA := Lib.hid hA
  have x0 : World.cell? w2 ⟨A, 0, none⟩ = some (.int .i64 F.kind) := a1.cell rfl
  have x1 : World.cell? w2 ⟨A, 1, none⟩ = some (.int .i64 F.stream) := a1.cell rfl
  have x2 : World.cell? w2 ⟨A, 2, none⟩ = some (.bool F.fin) := a1.cell rfl
  have x3 : World.cell? w2 ⟨A, 3, none⟩ = some (.bool F.eh) := a1.cell rfl
  have x4 : World.cell? w2 ⟨A, 4, none⟩ = some (.bool F.ack) := a1.cell rfl
  have x5 : World.cell? w2 ⟨A, 5, none⟩ = some (.bool F.prio) := a1.cell rfl
  have x6 : World.cell? w2 ⟨A, 6, none⟩ = some (.slice pa F.pay.length pc) := a1.cell rfl
  have x7 : World.cell? w2 ⟨A, 7, none⟩ = some (.int .i64 F.flags) := a1.cell rfl
  have x8 : World.cell? w2 ⟨A, 8, none⟩ = some (.int .i64 F.pad) := a1.cell rfl
  have x9 : World.cell? w2 ⟨A, 9, none⟩ = some (.int .i64 F.depend) := a1.cell rfl
  have x10 : World.cell? w2 ⟨A, 10, none⟩ = some (.bool F.excl) := a1.cell rfl
  have x11 : World.cell? w2 ⟨A, 11, none⟩ = some (.int .i64 F.weight) := a1.cell rfl
  have x12 : World.cell? w2 ⟨A, 12, none⟩ = some (.int .u32 F.code) := a1.cell rfl
  have x13 : World.cell? w2 ⟨A, 13, none⟩ = some (.slice la F.list.length lc) := a1.cell rfl
  have x14 : World.cell? w2 ⟨A, 14, none⟩ = some (.int .i64 F.last) := a1.cell rfl
  have x15 : World.cell? w2 ⟨A, 15, none⟩ = some (.int .i64 F.inc) := a1.cell rfl
  have hAl := a1.lt
  clear a1 hc hw2 hA
  obtain ⟨g1, g2⟩ := hk
  have g3 : ¬ F.kind < 0 := by omega
  have g4 : ¬ 255 < F.kind := by omega
  have g3' : (0 : Int) ≤ F.kind := by omega
  have e5 : (F.kind == 5) = false := by simp; omega
  have e6 : (F.kind == 6) = false := by simp; omega
  have e8 : (F.kind == 8) = false := by simp; omega
  have e8' : (F.kind != 8) = true := by simp; omega
  go_enter Try.func34, Try.ntmps34
  go_upto_region 1 with fail
  rw [← HW.out, ← HA.out]
  have HN1 : Hid (May F → May1 F ∧ strayB F.kind F.stream = false) := Lib.hid (fun h => by obtain ⟨h1, h2, h3, h4, h5⟩ := h.head; exact ⟨⟨⟨h1, h2⟩, h3, h4⟩, h5⟩)
  rcases ltC F.stream 0 with ⟨k3, _⟩ | ⟨k3, k3'⟩
  · have hno : Hid (false = true ↔ May F) := Lib.hid (iff_no (fun h => by have := HN1.out h; unfold May1 at this; omega))
    go_wp2_with fail
    go_ret
    exact ⟨false, rfl, hno.out, HC.out⟩
  rcases ltC 2147483647 F.stream with ⟨k4, _⟩ | ⟨k4, k4'⟩
  · have hno : Hid (false = true ↔ May F) := Lib.hid (iff_no (fun h => by have := HN1.out h; unfold May1 at this; omega))
    go_wp2_with fail
    go_ret
    exact ⟨false, rfl, hno.out, HC.out⟩
  have HMM : Hid (May1 F) := Lib.hid ⟨hM1.out, k3', k4'⟩
  have RS := Lib.hid (rstray_any F.kind F.stream w2)
  obtain ⟨sb, hsb⟩ : ∃ b, b = strayB F.kind F.stream := ⟨_, rfl⟩
  rw [← hsb] at RS
  have HSB := Lib.hid hsb
  clear hsb
  go_wp2_with fail
  refine RS.out.mono ?_; rintro e w3 ⟨rfl, rfl⟩
  cases sb with
  | true =>
    have hno : Hid (false = true ↔ May F) := Lib.hid (iff_no (fun h => by have := (HN1.out h).2; rw [← HSB.out] at this; simp at this))
    go_wp2_with fail
    go_ret
    exact ⟨false, rfl, hno.out, HC.out⟩
  | false =>
  have RH := Lib.hid (rhas_any F.kind w3)
  rw [HLK.out] at RH
  clear HN1 k3 k3' k4 k4' RS
  go_wp2_with fail
  refine RH.out.mono ?_; rintro e w4 ⟨rfl, c4⟩
  have A4 := Lib.hid (A1.out.chg c4 (by simp)); have D4 := Lib.hid (HC.out.trans' c4)
  clear c4 x0 x1 x2 x3 x4 x5 x6 x7 x8 x9 x10 x11 x12 x13 x14 x15 hAl A1 HC HW RH HA
  have HMC : Hid (May F → C1 F ∧ C2 F ∧ C3 F ∧ C4 F ∧ C5 F ∧ C6 F ∧ C7 F ∧ C8 F) := Lib.hid may_c
  obtain ⟨S, hS⟩ : ∃ S, S = bstr [102, 98] := ⟨_, rfl⟩
  rw [← hS]
  have HIe : Hid (hs F 101 = false) := Lib.hid (by unfold hs; rw [HLK.out]; decide)
  have Ie : Hid (∀ w, Calls Try.prog 48 #[.string S, .int .u8 101] w fun e w' => e = .returned (.bool false) ∧ w' = w) := Lib.hid (fun w => by rw [hS, ← HLK.out]; exact in_has F.kind 101 false (by rw [HLK.out]; decide) w)
  have HIh : Hid (hs F 104 = false) := Lib.hid (by unfold hs; rw [HLK.out]; decide)
  have Ih : Hid (∀ w, Calls Try.prog 48 #[.string S, .int .u8 104] w fun e w' => e = .returned (.bool false) ∧ w' = w) := Lib.hid (fun w => by rw [hS, ← HLK.out]; exact in_has F.kind 104 false (by rw [HLK.out]; decide) w)
  have HIa : Hid (hs F 97 = false) := Lib.hid (by unfold hs; rw [HLK.out]; decide)
  have Ia : Hid (∀ w, Calls Try.prog 48 #[.string S, .int .u8 97] w fun e w' => e = .returned (.bool false) ∧ w' = w) := Lib.hid (fun w => by rw [hS, ← HLK.out]; exact in_has F.kind 97 false (by rw [HLK.out]; decide) w)
  have HIp : Hid (hs F 112 = false) := Lib.hid (by unfold hs; rw [HLK.out]; decide)
  have Ip : Hid (∀ w, Calls Try.prog 48 #[.string S, .int .u8 112] w fun e w' => e = .returned (.bool false) ∧ w' = w) := Lib.hid (fun w => by rw [hS, ← HLK.out]; exact in_has F.kind 112 false (by rw [HLK.out]; decide) w)
  have HIw : Hid (hs F 119 = false) := Lib.hid (by unfold hs; rw [HLK.out]; decide)
  have Iw : Hid (∀ w, Calls Try.prog 48 #[.string S, .int .u8 119] w fun e w' => e = .returned (.bool false) ∧ w' = w) := Lib.hid (fun w => by rw [hS, ← HLK.out]; exact in_has F.kind 119 false (by rw [HLK.out]; decide) w)
  have HIr : Hid (hs F 114 = false) := Lib.hid (by unfold hs; rw [HLK.out]; decide)
  have Ir : Hid (∀ w, Calls Try.prog 48 #[.string S, .int .u8 114] w fun e w' => e = .returned (.bool false) ∧ w' = w) := Lib.hid (fun w => by rw [hS, ← HLK.out]; exact in_has F.kind 114 false (by rw [HLK.out]; decide) w)
  have HIc : Hid (hs F 99 = false) := Lib.hid (by unfold hs; rw [HLK.out]; decide)
  have Ic : Hid (∀ w, Calls Try.prog 48 #[.string S, .int .u8 99] w fun e w' => e = .returned (.bool false) ∧ w' = w) := Lib.hid (fun w => by rw [hS, ← HLK.out]; exact in_has F.kind 99 false (by rw [HLK.out]; decide) w)
  have HIl : Hid (hs F 108 = false) := Lib.hid (by unfold hs; rw [HLK.out]; decide)
  have Il : Hid (∀ w, Calls Try.prog 48 #[.string S, .int .u8 108] w fun e w' => e = .returned (.bool false) ∧ w' = w) := Lib.hid (fun w => by rw [hS, ← HLK.out]; exact in_has F.kind 108 false (by rw [HLK.out]; decide) w)
  have HIt : Hid (hs F 116 = false) := Lib.hid (by unfold hs; rw [HLK.out]; decide)
  have It : Hid (∀ w, Calls Try.prog 48 #[.string S, .int .u8 116] w fun e w' => e = .returned (.bool false) ∧ w' = w) := Lib.hid (fun w => by rw [hS, ← HLK.out]; exact in_has F.kind 116 false (by rw [HLK.out]; decide) w)
  have HIi : Hid (hs F 105 = false) := Lib.hid (by unfold hs; rw [HLK.out]; decide)
  have Ii : Hid (∀ w, Calls Try.prog 48 #[.string S, .int .u8 105] w fun e w' => e = .returned (.bool false) ∧ w' = w) := Lib.hid (fun w => by rw [hS, ← HLK.out]; exact in_has F.kind 105 false (by rw [HLK.out]; decide) w)
  have HIf : Hid (hs F 102 = true) := Lib.hid (by unfold hs; rw [HLK.out]; decide)
  have If : Hid (∀ w, Calls Try.prog 48 #[.string S, .int .u8 102] w fun e w' => e = .returned (.bool true) ∧ w' = w) := Lib.hid (fun w => by rw [hS, ← HLK.out]; exact in_has F.kind 102 true (by rw [HLK.out]; decide) w)
  have HIb : Hid (hs F 98 = true) := Lib.hid (by unfold hs; rw [HLK.out]; decide)
  have Ib : Hid (∀ w, Calls Try.prog 48 #[.string S, .int .u8 98] w fun e w' => e = .returned (.bool true) ∧ w' = w) := Lib.hid (fun w => by rw [hS, ← HLK.out]; exact in_has F.kind 98 true (by rw [HLK.out]; decide) w)
  clear hS
  have x0 : World.cell? w4 ⟨A, 0, none⟩ = some (.int .i64 F.kind) := A4.out.cell rfl
  have x1 : World.cell? w4 ⟨A, 1, none⟩ = some (.int .i64 F.stream) := A4.out.cell rfl
  have x2 : World.cell? w4 ⟨A, 2, none⟩ = some (.bool F.fin) := A4.out.cell rfl
  have x3 : World.cell? w4 ⟨A, 3, none⟩ = some (.bool F.eh) := A4.out.cell rfl
  have x4 : World.cell? w4 ⟨A, 4, none⟩ = some (.bool F.ack) := A4.out.cell rfl
  have x5 : World.cell? w4 ⟨A, 5, none⟩ = some (.bool F.prio) := A4.out.cell rfl
  have x6 : World.cell? w4 ⟨A, 6, none⟩ = some (.slice pa F.pay.length pc) := A4.out.cell rfl
  have x7 : World.cell? w4 ⟨A, 7, none⟩ = some (.int .i64 F.flags) := A4.out.cell rfl
  have x8 : World.cell? w4 ⟨A, 8, none⟩ = some (.int .i64 F.pad) := A4.out.cell rfl
  have x9 : World.cell? w4 ⟨A, 9, none⟩ = some (.int .i64 F.depend) := A4.out.cell rfl
  have x10 : World.cell? w4 ⟨A, 10, none⟩ = some (.bool F.excl) := A4.out.cell rfl
  have x11 : World.cell? w4 ⟨A, 11, none⟩ = some (.int .i64 F.weight) := A4.out.cell rfl
  have x12 : World.cell? w4 ⟨A, 12, none⟩ = some (.int .u32 F.code) := A4.out.cell rfl
  have x13 : World.cell? w4 ⟨A, 13, none⟩ = some (.slice la F.list.length lc) := A4.out.cell rfl
  have x14 : World.cell? w4 ⟨A, 14, none⟩ = some (.int .i64 F.last) := A4.out.cell rfl
  have x15 : World.cell? w4 ⟨A, 15, none⟩ = some (.int .i64 F.inc) := A4.out.cell rfl
  have hAl := A4.out.lt
  have HWG : Hid (wgd F = false) := Lib.hid (by unfold wgd; rw [HIw.out, HIr.out]; simp)
  go_upto_region 4 with fail
  go_cut [4] from 34 to 43 (fun v wx => v = .bool false ∧ wx = w4)
  case first =>
    go_wp2_with (go_at_call 48; first
      | (with_reducible refine (Iw.out _).mono ?_; rintro e wx ⟨rfl, rfl⟩)
      | (with_reducible refine (Ir.out _).mono ?_; rintro e wx ⟨rfl, rfl⟩))
    go_meet
    case rel => exact ⟨by first | rfl | rw [HWP.out], rfl⟩
  obtain ⟨rfl, hwx⟩ := hcut
  have hwx' := hwx.symm
  subst hwx'
  clear Iw HIw
  iterate 2 go_step
  go_cut [] from 44 to 77 (fun wx => wx = w4 ∧ C1 F)
  case first =>
    obtain ⟨p2, hp2⟩ : ∃ b, b = F.fin := ⟨_, rfl⟩
    rw [← hp2] at x2
    obtain ⟨p3, hp3⟩ : ∃ b, b = F.eh := ⟨_, rfl⟩
    rw [← hp3] at x3
    obtain ⟨p4, hp4⟩ : ∃ b, b = F.ack := ⟨_, rfl⟩
    rw [← hp4] at x4
    obtain ⟨p5, hp5⟩ : ∃ b, b = F.prio := ⟨_, rfl⟩
    rw [← hp5] at x5
    have Y : Hid (Im p2 false ∧ Im p3 false ∧ Im p4 false ∧ Im p5 false → C1 F) := Lib.hid (by unfold C1; rw [HIe.out, HIh.out, HIa.out, HIr.out, ← hp2, ← hp3, ← hp4, ← hp5]; exact id)
    have N : Hid (¬ (Im p2 false ∧ Im p3 false ∧ Im p4 false ∧ Im p5 false) → (false = true ↔ May F)) := Lib.hid (fun h => iff_no (fun hm => h (by have h1 := (HMC.out hm).1; unfold C1 at h1; rw [HIe.out, HIh.out, HIa.out, HIr.out, ← hp2, ← hp3, ← hp4, ← hp5] at h1; exact h1)))
    clear hp2 hp3 hp4 hp5
    clear x0 x1 x6 x7 x8 x9 x10 x11 x12 x13 x14 x15 HMC HWG HMM HSB HL HLL HWF HLK HK HIe HIh HIa HIp HIr HIc HIl HIt HIi HIf HIb
    go_wp2_with (go_at_call 48; first
      | (with_reducible refine (Ie.out _).mono ?_; rintro e wx ⟨rfl, rfl⟩)
      | (with_reducible refine (Ih.out _).mono ?_; rintro e wx ⟨rfl, rfl⟩)
      | (with_reducible refine (Ia.out _).mono ?_; rintro e wx ⟨rfl, rfl⟩)
      | (with_reducible refine (Ir.out _).mono ?_; rintro e wx ⟨rfl, rfl⟩))
    all_goals first
      | (go_meet
         case rel => exact ⟨rfl, Y.out ⟨fun q => by first | rfl | assumption | exact absB q (by assumption) | exact ntB (by assumption) | omega, fun q => by first | rfl | assumption | exact absB q (by assumption) | exact ntB (by assumption) | omega, fun q => by first | rfl | assumption | exact absB q (by assumption) | exact ntB (by assumption) | omega, fun q => by first | rfl | assumption | exact absB q (by assumption) | exact ntB (by assumption) | omega⟩⟩)
      | (go_ret
         exact ⟨false, rfl, N.out (fun ⟨q1, q2, q3, q4⟩ => by first
        | exact absB (q1 (by first | assumption | omega)) (by first | rfl | assumption | exact tnB (by assumption))
        | exact absB (q2 (by first | assumption | omega)) (by first | rfl | assumption | exact tnB (by assumption))
        | exact absB (q3 (by first | assumption | omega)) (by first | rfl | assumption | exact tnB (by assumption))
        | exact absB (q4 (by first | assumption | omega)) (by first | rfl | assumption | exact tnB (by assumption))), D4.out⟩)
  obtain ⟨hwx, hcC1⟩ := hcut
  have hwx' := hwx.symm
  subst hwx'
  have HC1 := Lib.hid hcC1
  clear hcC1
  iterate 2 go_step
  go_cut [] from 78 to 127 (fun wx => wx = w4 ∧ C2 F)
  case first =>
    obtain ⟨p6, hp6⟩ : ∃ b, b = F.pay.length := ⟨_, rfl⟩
    rw [← hp6] at x6
    obtain ⟨p7, hp7⟩ : ∃ b, b = F.flags := ⟨_, rfl⟩
    rw [← hp7] at x7
    obtain ⟨p8, hp8⟩ : ∃ b, b = F.pad := ⟨_, rfl⟩
    rw [← hp8] at x8
    obtain ⟨p12, hp12⟩ : ∃ b, b = F.code := ⟨_, rfl⟩
    rw [← hp12] at x12
    obtain ⟨p13, hp13⟩ : ∃ b, b = F.list.length := ⟨_, rfl⟩
    rw [← hp13] at x13
    have Y : Hid (Po p6 true ∧ Nz p7 true ∧ Nz p8 false ∧ Nz p12 false ∧ Po p13 false → C2 F) := Lib.hid (by unfold C2; rw [HIb.out, HIf.out, HIp.out, HIc.out, HIl.out, ← hp6, ← hp7, ← hp8, ← hp12, ← hp13]; exact id)
    have N : Hid (¬ (Po p6 true ∧ Nz p7 true ∧ Nz p8 false ∧ Nz p12 false ∧ Po p13 false) → (false = true ↔ May F)) := Lib.hid (fun h => iff_no (fun hm => h (by have h1 := (HMC.out hm).2.1; unfold C2 at h1; rw [HIb.out, HIf.out, HIp.out, HIc.out, HIl.out, ← hp6, ← hp7, ← hp8, ← hp12, ← hp13] at h1; exact h1)))
    clear hp6 hp7 hp8 hp12 hp13
    clear x0 x1 x2 x3 x4 x5 x9 x10 x11 x14 x15 HMC HWG HMM HSB HL HLL HWF HLK HK HIe HIh HIa HIp HIr HIc HIl HIt HIi HIf HIb
    go_wp2_with (go_at_call 48; first
      | (with_reducible refine (Ib.out _).mono ?_; rintro e wx ⟨rfl, rfl⟩)
      | (with_reducible refine (If.out _).mono ?_; rintro e wx ⟨rfl, rfl⟩)
      | (with_reducible refine (Ip.out _).mono ?_; rintro e wx ⟨rfl, rfl⟩)
      | (with_reducible refine (Ic.out _).mono ?_; rintro e wx ⟨rfl, rfl⟩)
      | (with_reducible refine (Il.out _).mono ?_; rintro e wx ⟨rfl, rfl⟩))
    all_goals first
      | (go_meet
         case rel => exact ⟨rfl, Y.out ⟨fun q => by first | rfl | assumption | exact absB q (by assumption) | exact ntB (by assumption) | omega, fun q => by first | rfl | assumption | exact absB q (by assumption) | exact ntB (by assumption) | omega, fun q => by first | rfl | assumption | exact absB q (by assumption) | exact ntB (by assumption) | omega, fun q => by first | rfl | assumption | exact absB q (by assumption) | exact ntB (by assumption) | omega, fun q => by first | rfl | assumption | exact absB q (by assumption) | exact ntB (by assumption) | omega⟩⟩)
      | (go_ret
         exact ⟨false, rfl, N.out (fun ⟨q1, q2, q3, q4, q5⟩ => by first
        | exact absB (q1 (by first | assumption | omega)) (by first | rfl | assumption | exact tnB (by assumption))
        | exact absB (q2 (by first | assumption | omega)) (by first | rfl | assumption | exact tnB (by assumption))
        | exact absB (q3 (by first | assumption | omega)) (by first | rfl | assumption | exact tnB (by assumption))
        | exact absB (q4 (by first | assumption | omega)) (by first | rfl | assumption | exact tnB (by assumption))
        | exact absB (q5 (by first | assumption | omega)) (by first | rfl | assumption | exact tnB (by assumption))), D4.out⟩)
  obtain ⟨hwx, hcC2⟩ := hcut
  have hwx' := hwx.symm
  subst hwx'
  have HC2 := Lib.hid hcC2
  clear hcC2
  iterate 2 go_step
  go_cut [] from 128 to 163 (fun wx => wx = w4 ∧ C3 F)
  case first =>
    obtain ⟨p14, hp14⟩ : ∃ b, b = F.last := ⟨_, rfl⟩
    rw [← hp14] at x14
    obtain ⟨p15, hp15⟩ : ∃ b, b = F.inc := ⟨_, rfl⟩
    rw [← hp15] at x15
    obtain ⟨p9, hp9⟩ : ∃ b, b = F.depend := ⟨_, rfl⟩
    rw [← hp9] at x9
    obtain ⟨p10, hp10⟩ : ∃ b, b = F.excl := ⟨_, rfl⟩
    rw [← hp10] at x10
    obtain ⟨p11, hp11⟩ : ∃ b, b = F.weight := ⟨_, rfl⟩
    rw [← hp11] at x11
    have Y : Hid (Nz p14 false ∧ Nz p15 false ∧ Wz false p9 p10 p11 → C3 F) := Lib.hid (by unfold C3; rw [HIt.out, HIi.out, HWG.out, ← hp14, ← hp15, ← hp9, ← hp10, ← hp11]; exact id)
    have N : Hid (¬ (Nz p14 false ∧ Nz p15 false ∧ Wz false p9 p10 p11) → (false = true ↔ May F)) := Lib.hid (fun h => iff_no (fun hm => h (by have h1 := (HMC.out hm).2.2.1; unfold C3 at h1; rw [HIt.out, HIi.out, HWG.out, ← hp14, ← hp15, ← hp9, ← hp10, ← hp11] at h1; exact h1)))
    clear hp14 hp15 hp9 hp10 hp11
    clear x0 x1 x2 x3 x4 x5 x6 x7 x8 x12 x13 HMC HWG HMM HSB HL HLL HWF HLK HK HIe HIh HIa HIp HIr HIc HIl HIt HIi HIf HIb HC1 HC2
    go_wp2_with (go_at_call 48; first
      | (with_reducible refine (It.out _).mono ?_; rintro e wx ⟨rfl, rfl⟩)
      | (with_reducible refine (Ii.out _).mono ?_; rintro e wx ⟨rfl, rfl⟩))
    all_goals first
      | (go_meet
         case rel => exact ⟨rfl, Y.out ⟨fun q => by first | rfl | omega, fun q => by first | rfl | omega, fun q => by first | exact absB (by first | rfl | assumption) q | exact ⟨by first | omega | exact bneF (by assumption), by first | rfl | assumption | exact ntF (by assumption), by first | omega | exact bneF (by assumption)⟩⟩⟩)
      | (go_ret
         exact ⟨false, rfl, N.out (fun ⟨q1, q2, q3⟩ => by first
        | exact absB (q1 (by first | assumption | omega)) rfl
        | exact absB (q2 (by first | assumption | omega)) rfl
        | (obtain ⟨r1, r2, r3⟩ := q3 (by first | rfl | assumption); first | omega | exact absB (by assumption) r2 | exact absurd r3 (bneT (by assumption)) | exact absurd r1 (bneT (by assumption)))), D4.out⟩)
  obtain ⟨hwx, hcC3⟩ := hcut
  have hwx' := hwx.symm
  subst hwx'
  have HC3 := Lib.hid hcC3
  clear hcC3 It Ii
  iterate 2 go_step
  go_cut [] from 164 to 201 (fun wx => wx = w4 ∧ C4 F)
  case first =>
    obtain ⟨p8, hp8⟩ : ∃ b, b = F.pad := ⟨_, rfl⟩
    rw [← hp8] at x8
    obtain ⟨p7, hp7⟩ : ∃ b, b = F.flags := ⟨_, rfl⟩
    rw [← hp7] at x7
    obtain ⟨p14, hp14⟩ : ∃ b, b = F.last := ⟨_, rfl⟩
    rw [← hp14] at x14
    have Y : Hid ((0 ≤ p8 ∧ p8 ≤ 256) ∧ (0 ≤ p7 ∧ p7 ≤ 255) ∧ (0 ≤ p14 ∧ p14 ≤ 2147483647) ∧ True → C4 F) := Lib.hid (fun h2 => by unfold C4; rw [← hp8, ← hp7, ← hp14]; exact ⟨h2.1, h2.2.1, h2.2.2.1, (fun h => by have := HK.out; omega)⟩)
    have N : Hid (¬ ((0 ≤ p8 ∧ p8 ≤ 256) ∧ (0 ≤ p7 ∧ p7 ≤ 255) ∧ (0 ≤ p14 ∧ p14 ≤ 2147483647) ∧ True) → (false = true ↔ May F)) := Lib.hid (fun h => iff_no (fun hm => h (by have h1 := (HMC.out hm).2.2.2.1; unfold C4 at h1; rw [← hp8, ← hp7, ← hp14] at h1; exact ⟨h1.1, h1.2.1, h1.2.2.1, trivial⟩)))
    clear hp8 hp7 hp14
    clear x1 x2 x3 x4 x5 x6 x9 x10 x11 x12 x13 x15 HMC HWG HMM HSB HL HLL HWF HLK HK HIe HIh HIa HIp HIr HIc HIl HIt HIi HIf HIb HC1 HC2 HC3
    go_wp2_with fail
    all_goals first
      | (go_meet
         case rel => exact ⟨rfl, Y.out ⟨by omega, by omega, by omega, by first | trivial | omega | exact beqF (by assumption)⟩⟩)
      | (go_ret
         exact ⟨false, rfl, N.out (fun ⟨q1, q2, q3, q4⟩ => by first | omega | exact absurd (beqT (by assumption)) q4), D4.out⟩)
  obtain ⟨hwx, hcC4⟩ := hcut
  have hwx' := hwx.symm
  subst hwx'
  have HC4 := Lib.hid hcC4
  clear hcC4
  iterate 2 go_step
  go_cut [] from 202 to 222 (fun wx => wx = w4 ∧ C5 F)
  case first =>
    go_wp2_with fail
    go_meet
    case rel => exact ⟨rfl, fun h => absB h HWG.out⟩
  obtain ⟨hwx, hcC5⟩ := hcut
  have hwx' := hwx.symm
  subst hwx'
  have HC5 := Lib.hid hcC5
  clear hcC5
  have hNb : Hid (F.list.any badS = true → (false = true ↔ May F)) := Lib.hid (fun h => iff_no (fun hm => by have h1 := (HMC.out hm).2.2.2.2.2.1; unfold C6 at h1; rw [h1] at h; simp at h))
  obtain ⟨nl, hnl⟩ : ∃ n, n = F.list.length := ⟨_, rfl⟩
  have HNL := Lib.hid hnl
  rw [← hnl] at x13
  have hnlI : nl ≤ 100000000 := by rw [hnl]; exact HLL.out
  clear hnl
  go_wp2_with fail
  go_loopw [5] (fun iv wr => ∃ j : Nat, j ≤ nl ∧ iv = .int .i64 j ∧ (F.list.take j).any badS = false ∧ wr = w4) (fun iv _ => nl - (intOf iv).toNat)
  case atStart => exact ⟨0, by omega, rfl, rfl, rfl⟩
  case round =>
    obtain ⟨j, hj, rfl, hno, hwr⟩ := hrel
    have hwr' := hwr.symm
    subst hwr'
    have HNO := Lib.hid hno
    clear hno
    by_cases hjn : j < nl
    · have hjI : (j : Int) < (nl : Int) := by omega
      have hSL := (HL.out.chg0 D4.out)
      rw [← HNL.out] at hSL
      obtain ⟨b, off, rfl, hb, hcell⟩ := hSL.at (by rw [← HNL.out]; omega)
      obtain ⟨s, hs⟩ : ∃ s, F.list[j]? = some s := ⟨_, List.getElem?_eq_getElem (by rw [← HNL.out]; exact hjn)⟩
      obtain ⟨s1, s2⟩ := s
      have z0 : World.cell? w4 ⟨b, off + j * 2, none⟩ = some (.int .i64 s1) := hcell j (s1, s2) hs 0 (by omega)
      have hst : Hid ((F.list.take (j + 1)).any badS = badS (s1, s2)) := Lib.hid (by rw [List.take_add_one, hs, List.any_append, HNO.out]; simp)
      have hbd : Hid (badS (s1, s2) = true → F.list.any badS = true) := Lib.hid (fun h => by rw [List.any_eq_true]; exact ⟨_, List.mem_of_getElem? hs, h⟩)
      clear hcell hs hSL
      go_wp2_with fail
      all_goals first
        | (go_ret
           exact ⟨false, rfl, hNb.out (hbd.out (by simp [badS]; omega)), D4.out⟩)
        | (go_roundw
           case rel => exact ⟨j + 1, by omega, by go_num, by rw [hst.out]; simp [badS]; omega, by first | rfl | trivial⟩
           case measure => simp [intOf]; omega)
    · obtain rfl : j = nl := by omega
      have hjI : ¬ (j : Int) < (j : Int) := by omega
      have H6 : Hid (C6 F) := Lib.hid (by unfold C6; have h := HNO.out; rw [HNL.out, List.take_length] at h; exact h)
      clear HNO
      obtain ⟨p4, hp4⟩ : ∃ b, b = F.ack := ⟨_, rfl⟩
      rw [← hp4] at x4
      obtain ⟨p6, hp6⟩ : ∃ b, b = F.pay.length := ⟨_, rfl⟩
      rw [← hp6] at x6
      obtain ⟨p15, hp15⟩ : ∃ b, b = F.inc := ⟨_, rfl⟩
      rw [← hp15] at x15
      have hm1 := HMM.out; have hsb := HSB.out.symm; have hk1 := HC1.out; have hk2 := HC2.out; have hk3 := HC3.out; have hk4 := HC4.out; have hk5 := HC5.out; have hk6 := H6.out
      have Y : Hid (Az p4 j ∧ True ∧ True → May F) := Lib.hid (fun h2 => (c_may HWF.out hm1 hsb hk1 hk2 hk3 hk4 hk5 hk6 (by unfold C7; rw [← HNL.out, ← hp4, ← hp6]; exact ⟨h2.1, fun h => by have := HK.out; omega⟩) (by unfold C8; rw [← hp15]; exact fun h => by have := HK.out; omega)))
      have N : Hid (¬ (Az p4 j ∧ True ∧ True) → (false = true ↔ May F)) := Lib.hid (fun h => iff_no (fun hm => h (by have h1 := (HMC.out hm).2.2.2.2.2.2.1; have h3 := (HMC.out hm).2.2.2.2.2.2.2; unfold C7 at h1; unfold C8 at h3; rw [← HNL.out, ← hp4, ← hp6] at h1; rw [← hp15] at h3; exact ⟨h1.1, trivial, trivial⟩)))
      clear hp4 hp6 hp15 hm1 hsb hk1 hk2 hk3 hk4 hk5 hk6 HMC HWG HMM HSB HL HLL HWF HLK HK HC1 HC2 HC3 HC4 HC5 H6 hNb HIe HIh HIa HIp HIr HIc HIl HIt HIi HIf HIb
      go_wp2_with fail
      all_goals
        go_ret
        first
        | exact ⟨true, rfl, iff_yes (Y.out ⟨fun q => by first | omega | exact absB q (by assumption), by first | trivial | omega | exact bne8F (by assumption), by first | trivial | omega⟩), D4.out⟩
        | exact ⟨false, rfl, N.out (fun ⟨q1, q2, q3⟩ => by first | omega | (have := q1 (by assumption); omega) | exact absurd q2 (bne8T (by assumption))), D4.out⟩
        | exact ⟨_, rfl, (by
            by_cases hq : p15 ≤ 2147483647
            · rw [decide_eq_true hq]; exact iff_yes (Y.out ⟨fun q => by first | omega | exact absB q (by assumption), by first | trivial | omega, by omega⟩)
            · rw [decide_eq_false hq]; exact N.out (fun ⟨q1, q2, q3⟩ => by omega)), D4.out⟩
end Go.Proofs.Ythhgnipiaohplaa.Fr
