/-
  WindowAgain: who frees all that came gets all of it granted, but for less than half of a window: any window from 1 to 65535, any numbers of octets.
-/
import Derived.Test.YtpnpnmcfknhnmaaShown
import Derived.Test.YtpnpnmcfknhnmaaLift
namespace Go.Proofs.Ytpnpnmcfknhnmaa.Again
open Go.ChangeShapes Go.WideShapes Go.ChangeAt Go.RowKit
open Go.Proofs.Ytpnpnmcfknhnmaa.B Go.Proofs.Ytpnpnmcfknhnmaa.Win Go.Proofs.Ytpnpnmcfknhnmaa.Cre
set_option linter.unusedVariables false
set_option linter.unusedSimpArgs false

def encI (z : Int) : List Value := [.int .i64 z]
def WfI (z : Int) : Prop := (Lit.int .i64 z).wf = true

set_option maxRecDepth 100000 in
set_option maxHeartbeats 4000000 in
theorem walk (n : Int) (v : Value) (zs : List Int) (W : World) (hm : zs.length ≤ maxLen) (hs : SliceOf W v 1 encI zs) :
    Calls Try.prog 6 #[.int .i64 n, v] W fun e w' => e = .returned (.bool true) ∧ Below W.heap.size W w' := by
  unfold maxLen at hm
  obtain ⟨a, cap, rfl, hc, hcm, hcell⟩ := hs
  obtain ⟨q0, q1⟩ := i64_and_le n 65534 (by decide)
  obtain ⟨q, hq⟩ : ∃ q, bits .and .i64 n 65534 = q := ⟨_, rfl⟩
  rw [show ((65534 : Nat) : Int) = 65534 from rfl] at q0 q1
  rw [hq] at q0 q1
  go_enter Try.func6, Try.ntmps6
  go_wp2_with fail
  refine (shown_any _).mono ?_; rintro e w1 ⟨rfl, hc1⟩
  go_wp2_with fail
  refine (new_any (1 + q) _).mono ?_; rintro e w2 ⟨rfl, hc2, ha2⟩
  have hbl : Below W.heap.size W w2 := (hc1.trans' hc2).below_nil
  have hbase : W.heap.size ≤ w1.heap.size := hc1.size
  have hns : newS (1 + q) = ⟨q + 1, 0, 0⟩ := by unfold newS; congr 1; omega
  rw [hns] at ha2
  clear hns hq
  generalize w1.heap.size = bc at *
  go_wp2_with fail
  go_loopw [7, 8, 9] (fun cm gv i wr => ∃ (k : Nat) (f cm' gv' : Int), k ≤ zs.length ∧ i = .int .i64 k ∧ cm = .int .i64 cm' ∧ gv = .int .i64 gv' ∧
      f = cm' - gv' ∧ 0 ≤ f ∧ 2 * f < q + 1 ∧ 0 ≤ gv' ∧ cm' ≤ (k : Int) * 65535 ∧ At wr bc (cr ⟨q + 1, 0, f⟩) ∧ Below W.heap.size W wr) (fun _ _ i _ => zs.length - (intOf i).toNat)
  case atStart => exact ⟨0, 0, 0, 0, Nat.zero_le _, rfl, rfl, rfl, rfl, by decide, by omega, by decide, by decide, ha2, hbl⟩
  case round =>
    obtain ⟨k, f, cm', gv', hk, rfl, rfl, rfl, e1, f0, f1, gv0, cmk, ha, hbl⟩ := hrel
    have HE1 := Lib.hid e1; clear e1
    by_cases hlt : k < zs.length
    · obtain ⟨b, off, rfl, hb, hcell⟩ := hcell (by omega)
      obtain ⟨z, hz⟩ : ∃ z, zs[k]? = some z := ⟨_, List.getElem?_eq_getElem hlt⟩
      have c0 : wr.cell? ⟨b, off + k, none⟩ = some (.int .i64 z) := by have := hcell k z hz 0 (by omega); rw [hbl.cell hb]; simpa [encI] using this
      clear hz hcell
      obtain ⟨m0, m1⟩ := i64_and_le z 65535 (by decide)
      obtain ⟨m, hmm⟩ : ∃ m, bits .and .i64 z 65535 = m := ⟨_, rfl⟩
      rw [show ((65535 : Nat) : Int) = 65535 from rfl] at m0 m1
      rw [hmm] at m0 m1
      have lbc : ∀ x ∈ [bc], W.heap.size ≤ x := by simp; omega
      by_cases h300 : k < 300
      · have ho : St.Ok ⟨q + 1, 0, f⟩ := ⟨by simp; omega, by simp; omega, by simp, by simp; omega, by simp; omega⟩
        have hl : St.left ⟨q + 1, 0, f⟩ = q + 1 - f := by unfold St.left; simp
        have HO := Lib.hid ho; have HL := Lib.hid hl; clear ho hl
        by_cases g : q + 1 - f < m
        · go_wp2_with fail
          clear hmm
          refine (got_any bc ⟨q + 1, 0, f⟩ m _ ha HO.out ⟨by omega, by omega⟩).mono ?_; rintro e w4 ⟨he, hc4, ha4⟩
          rw [show gotE ⟨q + 1, 0, f⟩ m = 8 from by unfold gotE; rw [HL.out, if_neg (by omega), if_pos (by omega)]] at he; subst he
          rw [show gotS ⟨q + 1, 0, f⟩ m = ⟨q + 1, 0, f⟩ from if_pos (by rw [HL.out]; omega)] at ha4
          have hb4 := hbl.chg hc4 (Nat.le_refl _) lbc
          clear hc4 ha hbl c0
          go_wp2_with fail
          refine (left_any bc ⟨q + 1, 0, f⟩ _ ha4 HO.out).mono ?_; rintro e w5 ⟨he, n5, rfl⟩
          rw [HL.out] at he; subst he
          go_wp2_with fail
          go_roundw
          case rel => exact ⟨k + 1, f, cm', gv', by omega, by go_num, rfl, rfl, HE1.out, by omega, by omega, by omega, by omega, ha4.drewN _, hb4.drewN _⟩
          case measure => simp [intOf]; omega
        · go_wp2_with fail
          clear hmm
          refine (got_any bc ⟨q + 1, 0, f⟩ m _ ha HO.out ⟨by omega, by omega⟩).mono ?_; rintro e w4 ⟨he, hc4, ha4⟩
          rw [show gotE ⟨q + 1, 0, f⟩ m = 0 from by unfold gotE; rw [HL.out, if_neg (by omega), if_neg (by omega)]] at he; subst he
          rw [show gotS ⟨q + 1, 0, f⟩ m = ⟨q + 1, m, f⟩ from by unfold gotS; rw [if_neg (by rw [HL.out]; omega)]; simp] at ha4
          have hb4 := hbl.chg hc4 (Nat.le_refl _) lbc
          have cA : 0 ≤ cm' := by have := HE1.out; omega
          clear hc4 ha hbl c0
          go_wp2_with fail
          refine (free_any bc ⟨q + 1, m, f⟩ m _ ha4 ⟨by simp; omega, by simp; omega, by simp; omega, by simp; omega, by simp; omega⟩ ⟨by omega, by omega⟩).mono ?_; rintro e w5 ⟨he, hc5, ha5⟩
          rw [show freeE ⟨q + 1, m, f⟩ m = 0 from if_neg (by simp; omega)] at he; subst he
          rw [show freeS ⟨q + 1, m, f⟩ m = ⟨q + 1, 0, f + m⟩ from by unfold freeS; rw [if_neg (by simp; omega)]; simp] at ha5
          have hb5 := hb4.chg hc5 (Nat.le_refl _) lbc
          have HO5 : Hid (St.Ok ⟨q + 1, 0, f + m⟩) := ⟨by simp; omega, by simp; omega, by simp, by simp; omega, by simp; omega⟩
          clear hc5 ha4 hb4
          obtain ⟨d, hd⟩ : ∃ d, d = dueV ⟨q + 1, 0, f + m⟩ := ⟨_, rfl⟩
          have hd0 : 0 ≤ d ∧ d ≤ f + m ∧ 2 * (f + m - d) < q + 1 := by rw [hd]; unfold dueV; dsimp only; split <;> omega
          obtain ⟨d0, d1, d2⟩ := hd0
          have HD := Lib.hid hd; clear hd
          have d3 : d ≤ cm' + m - gv' := by have := HE1.out; omega
          go_wp2_with fail
          refine (give_any bc ⟨q + 1, 0, f + m⟩ _ ha5 HO5.out).mono ?_; rintro e w6 ⟨he, hc6, ha6⟩
          rw [← HD.out] at he; subst he
          have hgs : giveS ⟨q + 1, 0, f + m⟩ = ⟨q + 1, 0, f + m - d⟩ := by unfold giveS; rw [← HD.out]
          rw [hgs] at ha6
          have hb6 := hb5.chg hc6 (Nat.le_refl _) lbc
          clear hgs hc6 ha5 hb5
          have HO6 : Hid (St.Ok ⟨q + 1, 0, f + m - d⟩) := ⟨by simp; omega, by simp; omega, by simp, by simp; omega, by simp; omega⟩
          have x1 : 1 + q < 2 * (q + 1 - (f + m - d)) := by omega
          have x2 : cm' + m - (gv' + d) < 1 + q := by have := HE1.out; omega
          go_wp2_with (first
            | (go_at_call 20; refine (left_any bc ⟨q + 1, 0, f + m - d⟩ _ (by first | exact ha6 | exact ha6.drewN _) HO6.out).mono ?_; rintro e w7 ⟨he, n7, rfl⟩; rw [show St.left ⟨q + 1, 0, f + m - d⟩ = q + 1 - (f + m - d) from by unfold St.left; simp] at he; subst he)
            | (go_at_call 21; refine (held_any bc ⟨q + 1, 0, f + m - d⟩ _ (by first | exact ha6 | exact ha6.drewN _)).mono ?_; rintro e w7 ⟨rfl, n7, rfl⟩))
          go_roundw
          case rel => exact ⟨k + 1, f + m - d, cm' + m, gv' + d, by omega, by go_num, rfl, rfl, by have := HE1.out; omega, by omega, by omega, by omega, by omega, ha6.drewN _, hb6.drewN _⟩
          case measure => simp [intOf]; omega
      · go_wp2_with fail
        go_ret
        exact ⟨rfl, hbl⟩
    · go_wp2_with fail
      go_ret
      exact ⟨rfl, hbl⟩

theorem dec {H : Type} {enc : TypeId × Value → H} {W : World} (n : Nat) (cs : List Value) (x : DataW H × List MemPlace) (hl : cs.length = 1)
    (h : DataW.trod enc Try.prog W 0 (fun _ => true) true n 3 cs = some x) : ∃ z, cs = encI z ∧ WfI z := by
  obtain ⟨a, ha, _, hwa⟩ := DataW.trod_int Try.underlying3 h
  exact ⟨a, ha, hwa⟩

/-! ### The row's step -/
theorem own : ownKnob Try.prog.godebug = none := by kernel_rfl
theorem laid : laidOutB Try.prog = true := by kernel_rfl

set_option maxRecDepth 100000 in
theorem lifted (os : Os) (started : os.Started) (H : Type) (enc : TypeId × Value → H) :
    ReturnsInHanded {} Try.checked os 6 .any (Rows.windowAgainSpec.pre6 enc Try.prog Try.f6 Rows.windowAgainRow.domain false) (Rows.windowAgainSpec.post enc Try.prog Try.f6 false true false false) := by
  refine lift_law (C := Try.checked) (tb := 4) own started (by kernel_rfl) Try.func6
    (ChangeSpec.witness6 (enc := enc) (C := Try.checked) false ⟨#[], #[.int .i64 0, .slice none 0 0], []⟩ 8 (by kernel_rfl) (by kernel_rfl) (by kernel_rfl) (by kernel_rfl))
    laid (by rw [Try.params6]; intro t ht; simp at ht; (repeat (rcases ht with rfl | ht)) <;> (try subst ht) <;> exact ⟨by kernel_rfl, of_decide_eq_true (by kernel_rfl)⟩) (by kernel_rfl) Try.underlying4 rfl
    (fun ds h => by rw [Try.params6] at h; match ds, h with | [d0, d1], _ => rfl) ?_
  intro W base args ds before hval hA hlt hsz
  rw [Try.params6] at hA hval
  have hlt0 := hlt
  obtain ⟨v0, vs0, d0, ds0, p0, q0, hargs, rfl, rfl, h0, r0⟩ := trodAll_cons hA
  obtain ⟨v1, vs1, d1, ds1, p1, q1, rfl, rfl, rfl, h1, r1⟩ := trodAll_cons r0
  obtain ⟨rfl, rfl, rfl⟩ := trodAll_nil r1
  obtain rfl : args = #[v0, v1] := by cases args; simp_all
  have l0 : ∀ p ∈ p0, p.block < W.heap.size := fun x hx => hlt x (by simp [hx])
  have l1 : ∀ p ∈ p1, p.block < W.heap.size := fun x hx => hlt x (by simp [hx])
  obtain ⟨a0, rfl, rfl, rfl, wa0⟩ := open_int Try.underlying3 (hval 0 3 v0 rfl rfl) h0
  obtain ⟨zs, zg, zm, zs1⟩ := open_arg_slice 1 encI WfI Try.underlying38 (by kernel_rfl) (by omega) (hval 1 38 v1 rfl rfl) dec h1 l1
  exact walk a0 v1 zs W zm zs1

theorem over : Rows.windowAgainRow.holds Try.pinned (OpenSpec.ofChange Rows.windowAgainSpec) :=
  OpenClaim.holds_of_wide 6 Try.f6 rfl rfl rfl rfl rfl rfl rfl ⟨rfl, rfl, rfl, rfl, rfl⟩ rfl rfl rfl rfl rfl (by kernel_rfl) Try.func6 (by kernel_rfl)
    (of_decide_eq_true (by kernel_rfl)) (by unfold Func.isWrapper; first | (rw [if_pos (by decide +kernel)]; kernel_rfl) | (rw [if_neg (by decide +kernel)]; exact ⟨rfl, rfl⟩))
    (fun os started H enc _ => lifted os started H enc)

/-- The statement. -/
theorem proved : Rows.WindowAgainSaid :=
  over
#print axioms proved

end Go.Proofs.Ytpnpnmcfknhnmaa.Again
