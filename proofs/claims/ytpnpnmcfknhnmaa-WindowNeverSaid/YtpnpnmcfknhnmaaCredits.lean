/-
  WindowCredits: a credit answers what the reference answers: for any window and any steps.
-/
import Derived.Test.YtpnpnmcfknhnmaaShown
import Derived.Test.YtpnpnmcfknhnmaaLift
namespace Go.Proofs.Ytpnpnmcfknhnmaa.Credits
open Go.ChangeShapes Go.WideShapes Go.ChangeAt Go.RowKit
open Go.Proofs.Ytpnpnmcfknhnmaa.B Go.Proofs.Ytpnpnmcfknhnmaa.Win Go.Proofs.Ytpnpnmcfknhnmaa.Cre
set_option linter.unusedVariables false
set_option linter.unusedSimpArgs false

def encOp (z : Int × Int) : List Value := [.int .i64 z.1, .int .i64 z.2]
def OpOk (z : Int × Int) : Prop := (Lit.int .i64 z.1).wf = true ∧ (Lit.int .i64 z.2).wf = true

set_option maxRecDepth 100000 in
set_option maxHeartbeats 4000000 in
theorem walk (n : Int) (v : Value) (zs : List (Int × Int)) (W : World) (hg : ∀ z ∈ zs, OpOk z) (hm : zs.length ≤ maxLen) (hs : SliceOf W v 2 encOp zs) :
    Calls Try.prog 3 #[.int .i64 n, v] W fun e w' => e = .returned (.bool true) ∧ Below W.heap.size W w' := by
  unfold maxLen at hm
  obtain ⟨a, cap, rfl, hc, hcm, hcell⟩ := hs
  go_enter Try.func3, Try.ntmps3
  go_wp2_with fail
  refine (shown_any _).mono ?_; rintro e w1 ⟨rfl, hc1⟩
  go_wp2_with fail
  refine (new_any n _).mono ?_; rintro e w2 ⟨rfl, hc2, ha2⟩
  go_wp2_with fail
  refine (rnew_any n _).mono ?_; rintro e w3 ⟨rfl, hc3, hr3⟩
  have ha3 := ha2.chg hc3 (by simp)
  have hbb : w1.heap.size < w2.heap.size := ha2.lt
  have hbl : Below W.heap.size W w3 := ((hc1.trans' hc2).trans' hc3).below_nil
  have hbase : W.heap.size ≤ w1.heap.size := hc1.size
  generalize w1.heap.size = bc at *
  generalize w2.heap.size = bd at *
  go_wp2_with fail
  go_loopw [8] (fun i wr => ∃ (k : Nat) (s : St), k ≤ zs.length ∧ i = .int .i64 k ∧ s.Ok ∧ At wr bc (cr s) ∧ At wr bd (rc s) ∧ Below W.heap.size W wr) (fun i _ => zs.length - (intOf i).toNat)
  case atStart => exact ⟨0, _, Nat.zero_le _, rfl, newOk n, ha3, hr3, hbl⟩
  case round =>
    obtain ⟨k, s, hk, rfl, ho, ha, hr, hbl⟩ := hrel
    by_cases hlt : k < zs.length
    · obtain ⟨b, off, rfl, hb, hcell⟩ := hcell (by omega)
      obtain ⟨z, hz⟩ : ∃ z, zs[k]? = some z := ⟨_, List.getElem?_eq_getElem hlt⟩
      have gz := hg z (List.mem_of_getElem? hz)
      have c0 : wr.cell? ⟨b, off + k * 2, none⟩ = some (.int .i64 z.1) := by rw [hbl.cell hb]; exact hcell k z hz 0 (by omega)
      have c1 : wr.cell? ⟨b, off + k * 2 + 1, none⟩ = some (.int .i64 z.2) := by rw [hbl.cell hb]; exact hcell k z hz 1 (by omega)
      have gn := i64_bounds gz.2
      clear hz gz hcell hg
      obtain ⟨kd, nn⟩ := z
      dsimp only at c0 c1 gn
      have hbw : b < wr.heap.size := Nat.lt_of_lt_of_le hb hbl.size
      have nbc : b ∉ [bc] := by simp; omega
      have nbd : b ∉ [bd] := by simp; omega
      have ncd : bc ∉ [bd] := by simp; omega
      have ndc : bd ∉ [bc] := by simp; omega
      have lbc : ∀ x ∈ [bc], W.heap.size ≤ x := by simp; omega
      have lbd : ∀ x ∈ [bd], W.heap.size ≤ x := by simp; omega
      by_cases h300 : k < 300
      · rcases eqC kd 1 with ⟨rfl, e1⟩ | ⟨n1, e1⟩
        · clear e1
          go_wp2_with fail
          go_region_held3 (fun w' => w'.cell? ⟨b, off + k * 2 + 1, none⟩ = some (.int .i64 nn)) (go_keep) (first
            | (go_at_call 12; refine (got_any bc s nn _ ha.drew ho gn).mono ?_; rintro e w4 ⟨rfl, hc4, ha4⟩; have q4 := (hc4.cell (b := b) hbw nbc (off + k * 2 + 1)).trans c1)
            | (go_at_call 13; refine (rgot_any bd s nn _ (hr.drew.chg hc4 ndc) ho gn).mono ?_; rintro e w5 ⟨rfl, hc5, hr5⟩; have q5 := (hc5.cell (b := b) (Nat.lt_of_lt_of_le hbw hc4.size) nbd (off + k * 2 + 1)).trans q4))
          have ha5 := ha4.chg hc5 ncd
          have hb5 := (hbl.drew.chg hc4 (Nat.le_refl _) lbc).chg hc5 (Nat.le_refl _) lbd
          have ho5 := gotOk nn ho
          clear hc4 hc5 ha4 ha hr hbl q4 c0 c1 q5
          generalize gotS s nn = s' at *
          have d1 := hr5.cell (o := 1) rfl; have d2 := hr5.cell (o := 2) rfl
          go_wp2_with fail
          go_quiet ((first
            | (go_at_call 20; exact Calls.quiet_of (left_any bc s' _ (ha5.drewN _) ho5))
            | (go_at_call 21; exact Calls.quiet_of (held_any bc s' _ (ha5.drewN _)))
            | (go_at_call 16; exact Calls.quiet_of (due_any bc s' _ (ha5.drewN _) ho5))
            | (go_at_call 17; exact Calls.quiet_of (rdue_any bd s' _ (hr5.drewN _) ho5))))
          go_wp2_with fail
          go_roundw
          case rel => exact ⟨k + 1, s', by omega, by go_num, ho5, ha5.drewN _, hr5.drewN _, Below.drewN hb5 _⟩
          case measure => simp [intOf]; omega
        · rcases eqC kd 2 with ⟨rfl, e2⟩ | ⟨n2, e2⟩
          · go_wp2_with fail
            go_region_held3 (fun w' => w'.cell? ⟨b, off + k * 2 + 1, none⟩ = some (.int .i64 nn)) (go_keep) (first
              | (go_at_call 14; refine (free_any bc s nn _ ha.drew ho gn).mono ?_; rintro e w4 ⟨rfl, hc4, ha4⟩; have q4 := (hc4.cell (b := b) hbw nbc (off + k * 2 + 1)).trans c1)
              | (go_at_call 15; refine (rfree_any bd s nn _ (hr.drew.chg hc4 ndc) ho gn).mono ?_; rintro e w5 ⟨rfl, hc5, hr5⟩; have q5 := (hc5.cell (b := b) (Nat.lt_of_lt_of_le hbw hc4.size) nbd (off + k * 2 + 1)).trans q4))
            have ha5 := ha4.chg hc5 ncd
            have hb5 := (hbl.drew.chg hc4 (Nat.le_refl _) lbc).chg hc5 (Nat.le_refl _) lbd
            have ho5 := freeOk nn ho
            clear hc4 hc5 ha4 ha hr hbl q4 c0 c1 q5
            generalize freeS s nn = s' at *
            have d1 := hr5.cell (o := 1) rfl; have d2 := hr5.cell (o := 2) rfl
            go_wp2_with fail
            go_quiet ((first
              | (go_at_call 20; exact Calls.quiet_of (left_any bc s' _ (ha5.drewN _) ho5))
              | (go_at_call 21; exact Calls.quiet_of (held_any bc s' _ (ha5.drewN _)))
              | (go_at_call 16; exact Calls.quiet_of (due_any bc s' _ (ha5.drewN _) ho5))
              | (go_at_call 17; exact Calls.quiet_of (rdue_any bd s' _ (hr5.drewN _) ho5))))
            go_wp2_with fail
            go_roundw
            case rel => exact ⟨k + 1, s', by omega, by go_num, ho5, ha5.drewN _, hr5.drewN _, Below.drewN hb5 _⟩
            case measure => simp [intOf]; omega
          · go_wp2_with fail
            refine (due_any bc s _ ha ho).mono ?_; rintro e w4 ⟨rfl, n4, rfl⟩
            go_wp2_with fail
            refine (rdue_any bd s _ (hr.drewN _) ho).mono ?_; rintro e w4 ⟨rfl, n5, rfl⟩
            go_wp2_with fail
            refine (give_any bc s _ (ha.drewN _) ho).mono ?_; rintro e w4 ⟨rfl, hc4, ha4⟩
            go_wp2_with fail
            refine (rgive_any bd s _ ((hr.drewN _).chg hc4 ndc) ho).mono ?_; rintro e w5 ⟨rfl, hc5, hr5⟩
            go_wp2_with fail
            have ha5 := ha4.chg hc5 ncd
            have hb5 := ((Below.drewN hbl _).chg hc4 (Nat.le_refl _) lbc).chg hc5 (Nat.le_refl _) lbd
            have ho5 := giveOk ho
            clear hc4 hc5 ha4 ha hr hbl c0 c1
            generalize giveS s = s' at *
            have d1 := hr5.cell (o := 1) rfl; have d2 := hr5.cell (o := 2) rfl
            go_wp2_with fail
            go_quiet ((first
              | (go_at_call 20; exact Calls.quiet_of (left_any bc s' _ (ha5.drewN _) ho5))
              | (go_at_call 21; exact Calls.quiet_of (held_any bc s' _ (ha5.drewN _)))
              | (go_at_call 16; exact Calls.quiet_of (due_any bc s' _ (ha5.drewN _) ho5))
              | (go_at_call 17; exact Calls.quiet_of (rdue_any bd s' _ (hr5.drewN _) ho5))))
            go_wp2_with fail
            go_roundw
            case rel => exact ⟨k + 1, s', by omega, by go_num, ho5, ha5.drewN _, hr5.drewN _, Below.drewN hb5 _⟩
            case measure => simp [intOf]; omega
      · go_wp2_with fail
        go_ret
        exact ⟨rfl, hbl⟩
    · go_wp2_with fail
      go_ret
      exact ⟨rfl, hbl⟩

theorem dec {H : Type} {enc : TypeId × Value → H} {W : World} (n : Nat) (cs : List Value) (x : DataW H × List MemPlace) (hl : cs.length = 2)
    (h : DataW.trod enc Try.prog W 0 (fun _ => true) true n 29 cs = some x) : ∃ z, cs = encOp z ∧ OpOk z := by
  obtain ⟨xs, k, hk, hx, hlen, hxl, hf⟩ := DataW.trod_struct Try.underlying29 h
  have g0 : DataW.trod enc Try.prog W 0 (fun _ => true) true k 3 ((cs.drop 0).take (Try.prog.cellsOf 3)) = xs[0]? := hf 0 _ rfl
  have g1 : DataW.trod enc Try.prog W 0 (fun _ => true) true k 3 ((cs.drop 1).take (Try.prog.cellsOf 3)) = xs[1]? := hf 1 _ rfl
  match xs, hxl, cs, hl with
  | [y0, y1], _, [v0, v1], _ =>
    simp only [show Try.prog.cellsOf 3 = 1 from by kernel_rfl] at g0 g1
    obtain ⟨a, ha, _, hwa⟩ := DataW.trod_int Try.underlying3 (by simpa using g0)
    obtain ⟨b, hb, _, hwb⟩ := DataW.trod_int Try.underlying3 (by simpa using g1)
    simp at ha hb
    exact ⟨(a, b), by simp [encOp, ha, hb], hwa, hwb⟩

/-! ### The row's step -/
theorem own : ownKnob Try.prog.godebug = none := by kernel_rfl
theorem laid : laidOutB Try.prog = true := by kernel_rfl

set_option maxRecDepth 100000 in
theorem lifted (os : Os) (started : os.Started) (H : Type) (enc : TypeId × Value → H) :
    ReturnsInHanded {} Try.checked os 3 .any (Rows.windowCreditsSpec.pre6 enc Try.prog Try.f3 Rows.windowCreditsRow.domain false) (Rows.windowCreditsSpec.post enc Try.prog Try.f3 false true false false) := by
  refine lift_law (C := Try.checked) (tb := 4) own started (by kernel_rfl) Try.func3
    (ChangeSpec.witness6 (enc := enc) (C := Try.checked) false ⟨#[], #[.int .i64 0, .slice none 0 0], []⟩ 8 (by kernel_rfl) (by kernel_rfl) (by kernel_rfl) (by kernel_rfl))
    laid (by rw [Try.params3]; intro t ht; simp at ht; (repeat (rcases ht with rfl | ht)) <;> (try subst ht) <;> exact ⟨by kernel_rfl, of_decide_eq_true (by kernel_rfl)⟩) (by kernel_rfl) Try.underlying4 rfl
    (fun ds h => by rw [Try.params3] at h; match ds, h with | [d0, d1], _ => rfl) ?_
  intro W base args ds before hval hA hlt hsz
  rw [Try.params3] at hA hval
  have hlt0 := hlt
  obtain ⟨v0, vs0, d0, ds0, p0, q0, hargs, rfl, rfl, h0, r0⟩ := trodAll_cons hA
  obtain ⟨v1, vs1, d1, ds1, p1, q1, rfl, rfl, rfl, h1, r1⟩ := trodAll_cons r0
  obtain ⟨rfl, rfl, rfl⟩ := trodAll_nil r1
  obtain rfl : args = #[v0, v1] := by cases args; simp_all
  have l0 : ∀ p ∈ p0, p.block < W.heap.size := fun x hx => hlt x (by simp [hx])
  have l1 : ∀ p ∈ p1, p.block < W.heap.size := fun x hx => hlt x (by simp [hx])
  obtain ⟨a0, rfl, rfl, rfl, wa0⟩ := open_int Try.underlying3 (hval 0 3 v0 rfl rfl) h0
  obtain ⟨zs, zg, zm, zs1⟩ := open_arg_slice 2 encOp OpOk Try.underlying22 (by kernel_rfl) (by omega) (hval 1 22 v1 rfl rfl) dec h1 l1
  exact walk a0 v1 zs W zg zm zs1

theorem over : Rows.windowCreditsRow.holds Try.pinned (OpenSpec.ofChange Rows.windowCreditsSpec) :=
  OpenClaim.holds_of_wide 3 Try.f3 rfl rfl rfl rfl rfl rfl rfl ⟨rfl, rfl, rfl, rfl, rfl⟩ rfl rfl rfl rfl rfl (by kernel_rfl) Try.func3 (by kernel_rfl)
    (of_decide_eq_true (by kernel_rfl)) (by unfold Func.isWrapper; first | (rw [if_pos (by decide +kernel)]; kernel_rfl) | (rw [if_neg (by decide +kernel)]; exact ⟨rfl, rfl⟩))
    (fun os started H enc _ => lifted os started H enc)

/-- The statement. -/
theorem proved : Rows.WindowCreditsSaid :=
  over
#print axioms proved
end Go.Proofs.Ytpnpnmcfknhnmaa.Credits
