/-
  WindowNever: nobody sends more than was granted, and no more is granted than was freed: any window, any steps.
-/
import Derived.Test.YtpnpnmcfknhnmaaCredits
namespace Go.Proofs.Ytpnpnmcfknhnmaa.Never
open Go.ChangeShapes Go.WideShapes Go.ChangeAt Go.RowKit
open Go.Proofs.Ytpnpnmcfknhnmaa.B Go.Proofs.Ytpnpnmcfknhnmaa.Win Go.Proofs.Ytpnpnmcfknhnmaa.Cre
set_option linter.unusedVariables false
set_option linter.unusedSimpArgs false

open Go.Proofs.Ytpnpnmcfknhnmaa.Credits (encOp OpOk dec)
set_option maxRecDepth 100000 in
set_option maxHeartbeats 4000000 in
theorem walk (n : Int) (v : Value) (zs : List (Int × Int)) (W : World) (hg : ∀ z ∈ zs, OpOk z) (hm : zs.length ≤ maxLen) (hs : SliceOf W v 2 encOp zs) :
    Calls Try.prog 4 #[.int .i64 n, v] W fun e w' => e = .returned (.bool true) ∧ Below W.heap.size W w' := by
  unfold maxLen at hm
  obtain ⟨a, cap, rfl, hc, hcm, hcell⟩ := hs
  obtain ⟨q0, q1⟩ := i64_and_le n 65534 (by decide)
  obtain ⟨q, hq⟩ : ∃ q, bits .and .i64 n 65534 = q := ⟨_, rfl⟩
  rw [show ((65534 : Nat) : Int) = 65534 from rfl] at q0 q1
  rw [hq] at q0 q1
  go_enter Try.func4, Try.ntmps4
  go_wp2_with fail
  refine (shown_any _).mono ?_; rintro e w1 ⟨rfl, hc1⟩
  go_wp2_with fail
  refine (new_any (1 + q) _).mono ?_; rintro e w2 ⟨rfl, hc2, ha2⟩
  have hbl : Below W.heap.size W w2 := (hc1.trans' hc2).below_nil
  have hbase : W.heap.size ≤ w1.heap.size := hc1.size
  have hns : newS (1 + q) = ⟨q + 1, 0, 0⟩ := by unfold newS; congr 1; omega
  rw [hns] at ha2
  clear hns hq
  generalize w1.heap.size = bc at *
  go_wp2_with fail
  go_loopw [7, 8, 9, 10] (fun cm fr gv i wr => ∃ (k : Nat) (s : St) (cm' fr' gv' : Int), k ≤ zs.length ∧ i = .int .i64 k ∧ cm = .int .i64 cm' ∧ fr = .int .i64 fr' ∧ gv = .int .i64 gv' ∧
      s.W = q + 1 ∧ s.H = cm' - fr' ∧ s.F = fr' - gv' ∧ 0 ≤ gv' ∧ cm' ≤ (k : Int) * 65535 ∧ s.Ok ∧ At wr bc (cr s) ∧ Below W.heap.size W wr) (fun _ _ _ i _ => zs.length - (intOf i).toNat)
  case atStart => exact ⟨0, _, 0, 0, 0, Nat.zero_le _, rfl, rfl, rfl, rfl, rfl, by simp, by simp, by decide, by decide, ⟨by simp; omega, by simp; omega, by simp, by simp, by simp; omega⟩, ha2, hbl⟩
  case round =>
    obtain ⟨k, s, cm', fr', gv', hk, rfl, rfl, rfl, rfl, hW, e2, e3, gv0, cmk, ho, ha, hbl⟩ := hrel
    by_cases hlt : k < zs.length
    · obtain ⟨b, off, rfl, hb, hcell⟩ := hcell (by omega)
      obtain ⟨z, hz⟩ : ∃ z, zs[k]? = some z := ⟨_, List.getElem?_eq_getElem hlt⟩
      have gz := hg z (List.mem_of_getElem? hz)
      have c0 : wr.cell? ⟨b, off + k * 2, none⟩ = some (.int .i64 z.1) := by rw [hbl.cell hb]; exact hcell k z hz 0 (by omega)
      have c1 : wr.cell? ⟨b, off + k * 2 + 1, none⟩ = some (.int .i64 z.2) := by rw [hbl.cell hb]; exact hcell k z hz 1 (by omega)
      have gn := i64_bounds gz.2
      clear hz gz hcell hg
      obtain ⟨kd, nn⟩ := z
      dsimp only at c0 c1 gn
      have hbw : b < wr.heap.size := Nat.lt_of_lt_of_le hb hbl.size
      have nbc : b ∉ [bc] := by simp; omega
      have lbc : ∀ x ∈ [bc], W.heap.size ≤ x := by simp; omega
      have HW := Lib.hid hW; have HE2 := Lib.hid e2; have HE3 := Lib.hid e3; clear hW e2 e3
      by_cases h300 : k < 300
      · rcases eqC kd 1 with ⟨rfl, e1⟩ | ⟨n1, e1⟩
        · clear e1
          go_wp2_with fail
          refine (got_any bc s nn _ ha ho gn).mono ?_; rintro e w4 ⟨he, hc4, ha5⟩
          have hb5 := hbl.chg hc4 (Nat.le_refl _) lbc
          have c4 := (hc4.cell (b := b) hbw nbc (off + k * 2 + 1)).trans c1
          have HO5 : Hid (gotS s nn).Ok := gotOk nn ho
          by_cases g : nn < 0 ∨ s.left < nn
          · have hE : gotE s nn = 1 ∨ gotE s nn = 8 := by unfold gotE; split <;> simp; rename_i h; rcases g with g | g <;> simp_all
            rw [show gotS s nn = s from if_pos g] at ha5 HO5
            have HW5 := HW; have HE5 := HE2; have HF5 := HE3
            clear ha hbl ho c0 c1 g
            rcases hE with hE | hE <;> rw [hE] at he <;> subst he <;> clear hE
            all_goals
              obtain ⟨o1, o2, o3, o4, o5⟩ := HO5.out
              have L0 : 0 ≤ fr' ∧ fr' ≤ cm' ∧ gv' ≤ fr' ∧ cm' ≤ 1 + q + gv' := by have := HW5.out; have := HE5.out; have := HF5.out; omega
              obtain ⟨L1, L2, L3, L4⟩ := L0
              clear o1 o2 o3 o4 o5
              go_wp2_with (first
                | (go_at_call 20; refine (left_any bc (s) _ (by first | exact ha5 | exact ha5.drewN _) HO5.out).mono ?_; rintro e w6 ⟨he, n6, rfl⟩; rw [show St.left (s) = 1 + q + (gv') - (cm') from by have := HW5.out; have := HE5.out; have := HF5.out; unfold St.left; omega] at he; subst he)
                | (go_at_call 21; refine (held_any bc (s) _ (by first | exact ha5 | exact ha5.drewN _)).mono ?_; rintro e w6 ⟨he, n6, rfl⟩; rw [HE5.out] at he; subst he))
              go_roundw
              case rel => exact ⟨k + 1, s, cm', fr', gv', by omega, by go_num, rfl, rfl, rfl, HW5.out, HE5.out, HF5.out, by omega, by omega, HO5.out, ha5.drewN _, hb5.drewN _⟩
              case measure => simp [intOf]; omega
          · rw [show gotE s nn = 0 from by unfold gotE; rw [if_neg (by omega), if_neg (by omega)]] at he; subst he
            have g1 : 0 ≤ nn := by omega
            have g2 : nn ≤ 1 + q + gv' - cm' := by have := HE2.out; have := HW.out; have := HE3.out; unfold St.left at g; omega
            have g3 : nn ≤ 65535 := by obtain ⟨o1, o2, o3, o4, o5⟩ := ho; have := HW.out; unfold St.left at g; omega
            have HW5 : Hid ((gotS s nn).W = q + 1) := by rw [show gotS s nn = { s with H := s.H + nn } from if_neg g]; exact HW.out
            have HE5 : Hid ((gotS s nn).H = cm' + nn - fr') := by rw [show gotS s nn = { s with H := s.H + nn } from if_neg g]; have := HE2.out; show s.H + nn = _; omega
            have HF5 : Hid ((gotS s nn).F = fr' - gv') := by rw [show gotS s nn = { s with H := s.H + nn } from if_neg g]; exact HE3.out
            have gA : 0 ≤ cm' := by have := HE2.out; have := HE3.out; obtain ⟨o1, o2, o3, o4, o5⟩ := ho; omega
            clear ha hbl ho c0 c1 g
            obtain ⟨o1, o2, o3, o4, o5⟩ := HO5.out
            have L0 : 0 ≤ fr' ∧ fr' ≤ (cm' + nn) ∧ gv' ≤ fr' ∧ (cm' + nn) ≤ 1 + q + gv' := by have := HW5.out; have := HE5.out; have := HF5.out; omega
            obtain ⟨L1, L2, L3, L4⟩ := L0
            clear o1 o2 o3 o4 o5
            go_wp2_with (first
              | (go_at_call 20; refine (left_any bc (gotS s nn) _ (by first | exact ha5 | exact ha5.drewN _) HO5.out).mono ?_; rintro e w6 ⟨he, n6, rfl⟩; rw [show St.left (gotS s nn) = 1 + q + (gv') - ((cm' + nn)) from by have := HW5.out; have := HE5.out; have := HF5.out; unfold St.left; omega] at he; subst he)
              | (go_at_call 21; refine (held_any bc (gotS s nn) _ (by first | exact ha5 | exact ha5.drewN _)).mono ?_; rintro e w6 ⟨he, n6, rfl⟩; rw [HE5.out] at he; subst he))
            go_roundw
            case rel => exact ⟨k + 1, gotS s nn, (cm' + nn), fr', gv', by omega, by go_num, rfl, rfl, rfl, HW5.out, HE5.out, HF5.out, by omega, by omega, HO5.out, ha5.drewN _, hb5.drewN _⟩
            case measure => simp [intOf]; omega
        · rcases eqC kd 2 with ⟨rfl, e2⟩ | ⟨n2, e2⟩
          · go_wp2_with fail
            refine (free_any bc s nn _ ha ho gn).mono ?_; rintro e w4 ⟨he, hc4, ha5⟩
            have hb5 := hbl.chg hc4 (Nat.le_refl _) lbc
            have c4 := (hc4.cell (b := b) hbw nbc (off + k * 2 + 1)).trans c1
            have HO5 : Hid (freeS s nn).Ok := freeOk nn ho
            by_cases g : nn < 0 ∨ s.H < nn
            · rw [show freeE s nn = 1 from if_pos g] at he; subst he
              rw [show freeS s nn = s from if_pos g] at ha5 HO5
              have HW5 := HW; have HE5 := HE2; have HF5 := HE3
              clear ha hbl ho c0 c1 g
              obtain ⟨o1, o2, o3, o4, o5⟩ := HO5.out
              have L0 : 0 ≤ fr' ∧ fr' ≤ cm' ∧ gv' ≤ fr' ∧ cm' ≤ 1 + q + gv' := by have := HW5.out; have := HE5.out; have := HF5.out; omega
              obtain ⟨L1, L2, L3, L4⟩ := L0
              clear o1 o2 o3 o4 o5
              go_wp2_with (first
                | (go_at_call 20; refine (left_any bc (s) _ (by first | exact ha5 | exact ha5.drewN _) HO5.out).mono ?_; rintro e w6 ⟨he, n6, rfl⟩; rw [show St.left (s) = 1 + q + (gv') - (cm') from by have := HW5.out; have := HE5.out; have := HF5.out; unfold St.left; omega] at he; subst he)
                | (go_at_call 21; refine (held_any bc (s) _ (by first | exact ha5 | exact ha5.drewN _)).mono ?_; rintro e w6 ⟨he, n6, rfl⟩; rw [HE5.out] at he; subst he))
              go_roundw
              case rel => exact ⟨k + 1, s, cm', fr', gv', by omega, by go_num, rfl, rfl, rfl, HW5.out, HE5.out, HF5.out, by omega, by omega, HO5.out, ha5.drewN _, hb5.drewN _⟩
              case measure => simp [intOf]; omega
            · rw [show freeE s nn = 0 from if_neg g] at he; subst he
              have g1 : 0 ≤ nn := by omega
              have g2 : nn ≤ cm' - fr' := by have := HE2.out; omega
              have HW5 : Hid ((freeS s nn).W = q + 1) := by rw [show freeS s nn = { s with H := s.H - nn, F := s.F + nn } from if_neg g]; exact HW.out
              have HE5 : Hid ((freeS s nn).H = cm' - (fr' + nn)) := by rw [show freeS s nn = { s with H := s.H - nn, F := s.F + nn } from if_neg g]; have := HE2.out; show s.H - nn = _; omega
              have HF5 : Hid ((freeS s nn).F = fr' + nn - gv') := by rw [show freeS s nn = { s with H := s.H - nn, F := s.F + nn } from if_neg g]; have := HE3.out; show s.F + nn = _; omega
              clear ha hbl ho c0 c1 g
              obtain ⟨o1, o2, o3, o4, o5⟩ := HO5.out
              have L0 : 0 ≤ (fr' + nn) ∧ (fr' + nn) ≤ cm' ∧ gv' ≤ (fr' + nn) ∧ cm' ≤ 1 + q + gv' := by have := HW5.out; have := HE5.out; have := HF5.out; omega
              obtain ⟨L1, L2, L3, L4⟩ := L0
              clear o1 o2 o3 o4 o5
              go_wp2_with (first
                | (go_at_call 20; refine (left_any bc (freeS s nn) _ (by first | exact ha5 | exact ha5.drewN _) HO5.out).mono ?_; rintro e w6 ⟨he, n6, rfl⟩; rw [show St.left (freeS s nn) = 1 + q + (gv') - (cm') from by have := HW5.out; have := HE5.out; have := HF5.out; unfold St.left; omega] at he; subst he)
                | (go_at_call 21; refine (held_any bc (freeS s nn) _ (by first | exact ha5 | exact ha5.drewN _)).mono ?_; rintro e w6 ⟨he, n6, rfl⟩; rw [HE5.out] at he; subst he))
              go_roundw
              case rel => exact ⟨k + 1, freeS s nn, cm', (fr' + nn), gv', by omega, by go_num, rfl, rfl, rfl, HW5.out, HE5.out, HF5.out, by omega, by omega, HO5.out, ha5.drewN _, hb5.drewN _⟩
              case measure => simp [intOf]; omega
          · go_wp2_with fail
            have hd : 0 ≤ dueV s ∧ dueV s ≤ fr' - gv' := by have := HE3.out; obtain ⟨o1, o2, o3, o4, o5⟩ := ho; unfold dueV; split <;> omega
            obtain ⟨hd0, hd1⟩ := hd
            refine (give_any bc s _ ha ho).mono ?_; rintro e w4 ⟨rfl, hc4, ha5⟩
            have hb5 := hbl.chg hc4 (Nat.le_refl _) lbc
            have HO5 : Hid (giveS s).Ok := giveOk ho
            have HW5 : Hid ((giveS s).W = q + 1) := HW.out
            have HE5 : Hid ((giveS s).H = cm' - fr') := HE2.out
            have HF5 : Hid ((giveS s).F = fr' - (gv' + dueV s)) := by show s.F - dueV s = _; have := HE3.out; omega
            clear ha hbl ho c0 c1
            obtain ⟨o1, o2, o3, o4, o5⟩ := HO5.out
            have L0 : 0 ≤ fr' ∧ fr' ≤ cm' ∧ (gv' + dueV s) ≤ fr' ∧ cm' ≤ 1 + q + (gv' + dueV s) := by have := HW5.out; have := HE5.out; have := HF5.out; omega
            obtain ⟨L1, L2, L3, L4⟩ := L0
            clear o1 o2 o3 o4 o5
            go_wp2_with (first
              | (go_at_call 20; refine (left_any bc (giveS s) _ (by first | exact ha5 | exact ha5.drewN _) HO5.out).mono ?_; rintro e w6 ⟨he, n6, rfl⟩; rw [show St.left (giveS s) = 1 + q + ((gv' + dueV s)) - (cm') from by have := HW5.out; have := HE5.out; have := HF5.out; unfold St.left; omega] at he; subst he)
              | (go_at_call 21; refine (held_any bc (giveS s) _ (by first | exact ha5 | exact ha5.drewN _)).mono ?_; rintro e w6 ⟨he, n6, rfl⟩; rw [HE5.out] at he; subst he))
            go_roundw
            case rel => exact ⟨k + 1, giveS s, cm', fr', (gv' + dueV s), by omega, by go_num, rfl, rfl, rfl, HW5.out, HE5.out, HF5.out, by omega, by omega, HO5.out, ha5.drewN _, hb5.drewN _⟩
            case measure => simp [intOf]; omega
      · go_wp2_with fail
        go_ret
        exact ⟨rfl, hbl⟩
    · go_wp2_with fail
      go_ret
      exact ⟨rfl, hbl⟩

/-! ### The row's step -/
theorem own : ownKnob Try.prog.godebug = none := by kernel_rfl
theorem laid : laidOutB Try.prog = true := by kernel_rfl

set_option maxRecDepth 100000 in
theorem lifted (os : Os) (started : os.Started) (H : Type) (enc : TypeId × Value → H) :
    ReturnsInHanded {} Try.checked os 4 .any (Rows.windowNeverSpec.pre6 enc Try.prog Try.f4 Rows.windowNeverRow.domain false) (Rows.windowNeverSpec.post enc Try.prog Try.f4 false true false false) := by
  refine lift_law (C := Try.checked) (tb := 4) own started (by kernel_rfl) Try.func4
    (ChangeSpec.witness6 (enc := enc) (C := Try.checked) false ⟨#[], #[.int .i64 0, .slice none 0 0], []⟩ 8 (by kernel_rfl) (by kernel_rfl) (by kernel_rfl) (by kernel_rfl))
    laid (by rw [Try.params4]; intro t ht; simp at ht; (repeat (rcases ht with rfl | ht)) <;> (try subst ht) <;> exact ⟨by kernel_rfl, of_decide_eq_true (by kernel_rfl)⟩) (by kernel_rfl) Try.underlying4 rfl
    (fun ds h => by rw [Try.params4] at h; match ds, h with | [d0, d1], _ => rfl) ?_
  intro W base args ds before hval hA hlt hsz
  rw [Try.params4] at hA hval
  have hlt0 := hlt
  obtain ⟨v0, vs0, d0, ds0, p0, q0, hargs, rfl, rfl, h0, r0⟩ := trodAll_cons hA
  obtain ⟨v1, vs1, d1, ds1, p1, q1, rfl, rfl, rfl, h1, r1⟩ := trodAll_cons r0
  obtain ⟨rfl, rfl, rfl⟩ := trodAll_nil r1
  obtain rfl : args = #[v0, v1] := by cases args; simp_all
  have l0 : ∀ p ∈ p0, p.block < W.heap.size := fun x hx => hlt x (by simp [hx])
  have l1 : ∀ p ∈ p1, p.block < W.heap.size := fun x hx => hlt x (by simp [hx])
  obtain ⟨a0, rfl, rfl, rfl, wa0⟩ := open_int Try.underlying3 (hval 0 3 v0 rfl rfl) h0
  obtain ⟨zs, zg, zm, zs1⟩ := open_arg_slice 2 encOp OpOk Try.underlying22 (by kernel_rfl) (by omega) (hval 1 22 v1 rfl rfl) dec h1 l1
  exact walk a0 v1 zs W zg zm zs1

theorem over : Rows.windowNeverRow.holds Try.pinned (OpenSpec.ofChange Rows.windowNeverSpec) :=
  OpenClaim.holds_of_wide 4 Try.f4 rfl rfl rfl rfl rfl rfl rfl ⟨rfl, rfl, rfl, rfl, rfl⟩ rfl rfl rfl rfl rfl (by kernel_rfl) Try.func4 (by kernel_rfl)
    (of_decide_eq_true (by kernel_rfl)) (by unfold Func.isWrapper; first | (rw [if_pos (by decide +kernel)]; kernel_rfl) | (rw [if_neg (by decide +kernel)]; exact ⟨rfl, rfl⟩))
    (fun os started H enc _ => lifted os started H enc)

/-- The statement. -/
theorem proved : Rows.WindowNeverSaid :=
  over
#print axioms proved
end Go.Proofs.Ytpnpnmcfknhnmaa.Never
