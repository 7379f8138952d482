/-
  PoolPlays: a pool answers what the document says: any bound, any steps.
-/
import Derived.Test.YthinceoklkjcpaaRPool2
import Derived.Test.YthinceoklkjcpaaTurns
import Derived.Deep.RegionHeldLaw
namespace Go.Proofs.Ythinceoklkjcpaa.Plays
open Go.ChangeShapes Go.WideShapes Go.ChangeAt Go.RowKit
open Go.Proofs.Ythinceoklkjcpaa.B Go.Proofs.Ythinceoklkjcpaa.Pool
set_option linter.unusedVariables false
set_option linter.unusedSimpArgs false

def OB (o : O) : Obj := .cells #[.int .i64 o.kind, .int .i64 o.id, .int .i64 o.n] 36 (0, 0)
set_option maxRecDepth 100000 in
set_option maxHeartbeats 8000000 in
theorem does_any {W w : World} {p q : Nat} {most : Int} {cs : List Cn} (o : O) (h : Has W w p most cs) (hr : RHas W w q most cs) (hi : Inv most cs) (hn : o.n ≤ 9223372036854775807) :
    Calls Try.prog 16 #[.pointer (some ⟨p, 0, none⟩), .pointer (some ⟨q, 0, none⟩), .agg #[.int .i64 o.kind, .int .i64 o.id, .int .i64 o.n]] w fun e w' => e = .returned (.bool true) ∧ ∃ cs', Has W w' p most cs' ∧ RHas W w' q most cs' ∧ Inv most cs' := by
  have H0 := Lib.hid ((h.step ((Chg.refl w).alloc (OB o))).drewN 1)
  have R0 := Lib.hid ((hr.chg0 ((Chg.refl w).alloc (OB o))).chg0 ((Chg.refl _).drew))
  have HBX := Lib.hid ((At.new w (OB o)).drewN 1)
  have H00 := Lib.hid (h.step ((Chg.refl w).alloc (OB o)))
  have R00 := Lib.hid (hr.chg0 ((Chg.refl w).alloc (OB o)))
  have HI := Lib.hid hi
  clear h hr hi
  go_enter Try.func16, Try.ntmps16
  rcases eqC o.kind 1 with ⟨e1, k1⟩ | ⟨e1, k1⟩
  · clear e1
    skip
    obtain ⟨r, hr⟩ : ∃ r, r = addR most cs o.id := ⟨_, rfl⟩
    have HRR := Lib.hid hr
    clear hr
    go_upto_region 3 with fail
    go_region_held_law (fun w' => World.cell? w' ⟨w.heap.size, 1, none⟩ = some (.int .i64 o.id) ∧ World.cell? w' ⟨w.heap.size, 2, none⟩ = some (.int .i64 o.n)) (go_keep) (first
      | (go_at_call 11; refine (X_add o.id o.n _ H0.out HI.out).mono ?_; rintro e wa ⟨he, ha, ka⟩; rw [← HRR.out] at he; subst he; have hbx := ka _ _ _ _ ⟨by decide, by decide, by decide⟩ HBX.out; have ka0 : World.cell? wa ⟨w.heap.size, 1, none⟩ = some (.int .i64 o.id) := hbx.cell rfl; have ka1 : World.cell? wa ⟨w.heap.size, 2, none⟩ = some (.int .i64 o.n) := hbx.cell rfl; have RA := Lib.hid (R0.out.keeps ka ha.below); have HA := Lib.hid ha; have BX1 := Lib.hid hbx; clear ha ka hbx)
      | (go_at_call 11; refine (X_add o.id o.n _ HB2.out HI.out).mono ?_; rintro e wa ⟨he, ha, ka⟩; rw [← HRR.out] at he; subst he; have hbx := ka _ _ _ _ ⟨by decide, by decide, by decide⟩ BX2.out; have ka0 : World.cell? wa ⟨w.heap.size, 1, none⟩ = some (.int .i64 o.id) := hbx.cell rfl; have ka1 : World.cell? wa ⟨w.heap.size, 2, none⟩ = some (.int .i64 o.n) := hbx.cell rfl; have RF := Lib.hid (RB.out.keeps ka ha.below); have HF := Lib.hid ha; clear ha ka hbx)
      | (go_at_call 25; refine (R_add o.id o.n _ R0.out HI.out).mono ?_; rintro e wb ⟨he, hb, kb⟩; rw [← HRR.out] at he; subst he; have hbx := kb _ _ _ _ ⟨by decide, by decide⟩ HBX.out; have kb0 : World.cell? wb ⟨w.heap.size, 1, none⟩ = some (.int .i64 o.id) := hbx.cell rfl; have kb1 : World.cell? wb ⟨w.heap.size, 2, none⟩ = some (.int .i64 o.n) := hbx.cell rfl; have HB2 := Lib.hid (H0.out.rkeeps kb hb.below); have BX2 := Lib.hid hbx; have RB := Lib.hid hb; clear hb kb hbx)
      | (go_at_call 25; refine (R_add o.id o.n _ RA.out HI.out).mono ?_; rintro e wb ⟨he, hb, kb⟩; rw [← HRR.out] at he; subst he; have hbx := kb _ _ _ _ ⟨by decide, by decide⟩ BX1.out; have kb0 : World.cell? wb ⟨w.heap.size, 1, none⟩ = some (.int .i64 o.id) := hbx.cell rfl; have kb1 : World.cell? wb ⟨w.heap.size, 2, none⟩ = some (.int .i64 o.n) := hbx.cell rfl; have RF := Lib.hid hb; have HF := Lib.hid (HA.out.rkeeps kb hb.below); clear hb kb)
      | fail)
    all_goals
      go_wp2_with fail
      go_ret
      exact ⟨by simp, addS most cs o.id o.n, HF.out, RF.out, HI.out.add o.id o.n hn⟩
  rcases eqC o.kind 2 with ⟨e2, k2⟩ | ⟨e2, k2⟩
  · clear e2
    skip
    obtain ⟨r, hr⟩ : ∃ r, r = hasR cs o.id := ⟨_, rfl⟩
    have HRR := Lib.hid hr
    clear hr
    go_upto_region 5 with fail
    go_region_held_law (fun w' => World.cell? w' ⟨w.heap.size, 1, none⟩ = some (.int .i64 o.id) ∧ World.cell? w' ⟨w.heap.size, 2, none⟩ = some (.int .i64 o.n)) (go_keep) (first
      | (go_at_call 14; refine (X_slots o.id o.n _ H0.out ).mono ?_; rintro e wa ⟨he, ha, ka⟩; rw [← HRR.out] at he; subst he; have hbx := ka _ _ _ _ ⟨by decide, by decide, by decide⟩ HBX.out; have ka0 : World.cell? wa ⟨w.heap.size, 1, none⟩ = some (.int .i64 o.id) := hbx.cell rfl; have ka1 : World.cell? wa ⟨w.heap.size, 2, none⟩ = some (.int .i64 o.n) := hbx.cell rfl; have RA := Lib.hid (R0.out.keeps ka ha.below); have HA := Lib.hid ha; have BX1 := Lib.hid hbx; clear ha ka hbx)
      | (go_at_call 14; refine (X_slots o.id o.n _ HB2.out ).mono ?_; rintro e wa ⟨he, ha, ka⟩; rw [← HRR.out] at he; subst he; have hbx := ka _ _ _ _ ⟨by decide, by decide, by decide⟩ BX2.out; have ka0 : World.cell? wa ⟨w.heap.size, 1, none⟩ = some (.int .i64 o.id) := hbx.cell rfl; have ka1 : World.cell? wa ⟨w.heap.size, 2, none⟩ = some (.int .i64 o.n) := hbx.cell rfl; have RF := Lib.hid (RB.out.keeps ka ha.below); have HF := Lib.hid ha; clear ha ka hbx)
      | (go_at_call 26; refine (R_slots o.id o.n _ R0.out HI.out).mono ?_; rintro e wb ⟨he, hb, kb⟩; rw [← HRR.out] at he; subst he; have hbx := kb _ _ _ _ ⟨by decide, by decide⟩ HBX.out; have kb0 : World.cell? wb ⟨w.heap.size, 1, none⟩ = some (.int .i64 o.id) := hbx.cell rfl; have kb1 : World.cell? wb ⟨w.heap.size, 2, none⟩ = some (.int .i64 o.n) := hbx.cell rfl; have HB2 := Lib.hid (H0.out.rkeeps kb hb.below); have BX2 := Lib.hid hbx; have RB := Lib.hid hb; clear hb kb hbx)
      | (go_at_call 26; refine (R_slots o.id o.n _ RA.out HI.out).mono ?_; rintro e wb ⟨he, hb, kb⟩; rw [← HRR.out] at he; subst he; have hbx := kb _ _ _ _ ⟨by decide, by decide⟩ BX1.out; have kb0 : World.cell? wb ⟨w.heap.size, 1, none⟩ = some (.int .i64 o.id) := hbx.cell rfl; have kb1 : World.cell? wb ⟨w.heap.size, 2, none⟩ = some (.int .i64 o.n) := hbx.cell rfl; have RF := Lib.hid hb; have HF := Lib.hid (HA.out.rkeeps kb hb.below); clear hb kb)
      | fail)
    all_goals
      go_wp2_with fail
      go_ret
      exact ⟨by simp, slotsS cs o.id o.n, HF.out, RF.out, HI.out.slots o.id o.n hn⟩
  rcases eqC o.kind 3 with ⟨e3, k3⟩ | ⟨e3, k3⟩
  · clear e3
    skip
    obtain ⟨r, hr⟩ : ∃ r, r = hasR cs o.id := ⟨_, rfl⟩
    have HRR := Lib.hid hr
    clear hr
    go_upto_region 7 with fail
    go_region_held_law (fun w' => World.cell? w' ⟨w.heap.size, 1, none⟩ = some (.int .i64 o.id) ∧ World.cell? w' ⟨w.heap.size, 2, none⟩ = some (.int .i64 o.n)) (go_keep) (first
      | (go_at_call 19; refine (X_drain o.id _ H0.out ).mono ?_; rintro e wa ⟨he, ha, ka⟩; rw [← HRR.out] at he; subst he; have hbx := ka _ _ _ _ ⟨by decide, by decide, by decide⟩ HBX.out; have ka0 : World.cell? wa ⟨w.heap.size, 1, none⟩ = some (.int .i64 o.id) := hbx.cell rfl; have ka1 : World.cell? wa ⟨w.heap.size, 2, none⟩ = some (.int .i64 o.n) := hbx.cell rfl; have RA := Lib.hid (R0.out.keeps ka ha.below); have HA := Lib.hid ha; have BX1 := Lib.hid hbx; clear ha ka hbx)
      | (go_at_call 19; refine (X_drain o.id _ HB2.out ).mono ?_; rintro e wa ⟨he, ha, ka⟩; rw [← HRR.out] at he; subst he; have hbx := ka _ _ _ _ ⟨by decide, by decide, by decide⟩ BX2.out; have ka0 : World.cell? wa ⟨w.heap.size, 1, none⟩ = some (.int .i64 o.id) := hbx.cell rfl; have ka1 : World.cell? wa ⟨w.heap.size, 2, none⟩ = some (.int .i64 o.n) := hbx.cell rfl; have RF := Lib.hid (RB.out.keeps ka ha.below); have HF := Lib.hid ha; clear ha ka hbx)
      | (go_at_call 27; refine (R_drain o.id _ R0.out HI.out).mono ?_; rintro e wb ⟨he, hb, kb⟩; rw [← HRR.out] at he; subst he; have hbx := kb _ _ _ _ ⟨by decide, by decide⟩ HBX.out; have kb0 : World.cell? wb ⟨w.heap.size, 1, none⟩ = some (.int .i64 o.id) := hbx.cell rfl; have kb1 : World.cell? wb ⟨w.heap.size, 2, none⟩ = some (.int .i64 o.n) := hbx.cell rfl; have HB2 := Lib.hid (H0.out.rkeeps kb hb.below); have BX2 := Lib.hid hbx; have RB := Lib.hid hb; clear hb kb hbx)
      | (go_at_call 27; refine (R_drain o.id _ RA.out HI.out).mono ?_; rintro e wb ⟨he, hb, kb⟩; rw [← HRR.out] at he; subst he; have hbx := kb _ _ _ _ ⟨by decide, by decide⟩ BX1.out; have kb0 : World.cell? wb ⟨w.heap.size, 1, none⟩ = some (.int .i64 o.id) := hbx.cell rfl; have kb1 : World.cell? wb ⟨w.heap.size, 2, none⟩ = some (.int .i64 o.n) := hbx.cell rfl; have RF := Lib.hid hb; have HF := Lib.hid (HA.out.rkeeps kb hb.below); clear hb kb)
      | fail)
    all_goals
      go_wp2_with fail
      go_ret
      exact ⟨by simp, drainS cs o.id, HF.out, RF.out, HI.out.drain o.id⟩
  rcases eqC o.kind 4 with ⟨e4, k4⟩ | ⟨e4, k4⟩
  · clear e4
    skip
    obtain ⟨r, hr⟩ : ∃ r, r = removeR cs o.id := ⟨_, rfl⟩
    have HRR := Lib.hid hr
    clear hr
    go_upto_region 9 with fail
    go_region_held_law (fun w' => World.cell? w' ⟨w.heap.size, 1, none⟩ = some (.int .i64 o.id) ∧ World.cell? w' ⟨w.heap.size, 2, none⟩ = some (.int .i64 o.n)) (go_keep) (first
      | (go_at_call 20; refine (X_remove o.id _ H0.out ).mono ?_; rintro e wa ⟨he, ha, ka⟩; rw [← HRR.out] at he; subst he; have hbx := ka _ _ _ _ ⟨by decide, by decide, by decide⟩ HBX.out; have ka0 : World.cell? wa ⟨w.heap.size, 1, none⟩ = some (.int .i64 o.id) := hbx.cell rfl; have ka1 : World.cell? wa ⟨w.heap.size, 2, none⟩ = some (.int .i64 o.n) := hbx.cell rfl; have RA := Lib.hid (R0.out.keeps ka ha.below); have HA := Lib.hid ha; have BX1 := Lib.hid hbx; clear ha ka hbx)
      | (go_at_call 20; refine (X_remove o.id _ HB2.out ).mono ?_; rintro e wa ⟨he, ha, ka⟩; rw [← HRR.out] at he; subst he; have hbx := ka _ _ _ _ ⟨by decide, by decide, by decide⟩ BX2.out; have ka0 : World.cell? wa ⟨w.heap.size, 1, none⟩ = some (.int .i64 o.id) := hbx.cell rfl; have ka1 : World.cell? wa ⟨w.heap.size, 2, none⟩ = some (.int .i64 o.n) := hbx.cell rfl; have RF := Lib.hid (RB.out.keeps ka ha.below); have HF := Lib.hid ha; clear ha ka hbx)
      | (go_at_call 28; refine (R_remove o.id _ R0.out HI.out).mono ?_; rintro e wb ⟨he, hb, kb⟩; rw [← HRR.out] at he; subst he; have hbx := kb _ _ _ _ ⟨by decide, by decide⟩ HBX.out; have kb0 : World.cell? wb ⟨w.heap.size, 1, none⟩ = some (.int .i64 o.id) := hbx.cell rfl; have kb1 : World.cell? wb ⟨w.heap.size, 2, none⟩ = some (.int .i64 o.n) := hbx.cell rfl; have HB2 := Lib.hid (H0.out.rkeeps kb hb.below); have BX2 := Lib.hid hbx; have RB := Lib.hid hb; clear hb kb hbx)
      | (go_at_call 28; refine (R_remove o.id _ RA.out HI.out).mono ?_; rintro e wb ⟨he, hb, kb⟩; rw [← HRR.out] at he; subst he; have hbx := kb _ _ _ _ ⟨by decide, by decide⟩ BX1.out; have kb0 : World.cell? wb ⟨w.heap.size, 1, none⟩ = some (.int .i64 o.id) := hbx.cell rfl; have kb1 : World.cell? wb ⟨w.heap.size, 2, none⟩ = some (.int .i64 o.n) := hbx.cell rfl; have RF := Lib.hid hb; have HF := Lib.hid (HA.out.rkeeps kb hb.below); clear hb kb)
      | fail)
    all_goals
      go_wp2_with fail
      go_ret
      exact ⟨by simp, removeS cs o.id, HF.out, RF.out, HI.out.remove o.id⟩
  rcases eqC o.kind 5 with ⟨e5, k5⟩ | ⟨e5, k5⟩
  · clear e5
    skip
    obtain ⟨r, hr⟩ : ∃ r, r = freeR cs o.id := ⟨_, rfl⟩
    have HRR := Lib.hid hr
    clear hr
    go_upto_region 11 with fail
    go_region_held_law (fun w' => World.cell? w' ⟨w.heap.size, 1, none⟩ = some (.int .i64 o.id) ∧ World.cell? w' ⟨w.heap.size, 2, none⟩ = some (.int .i64 o.n)) (go_keep) (first
      | (go_at_call 21; refine (X_free o.id _ H0.out HI.out).mono ?_; rintro e wa ⟨he, ha, ka⟩; rw [← HRR.out] at he; subst he; have hbx := ka _ _ _ _ ⟨by decide, by decide, by decide⟩ HBX.out; have ka0 : World.cell? wa ⟨w.heap.size, 1, none⟩ = some (.int .i64 o.id) := hbx.cell rfl; have ka1 : World.cell? wa ⟨w.heap.size, 2, none⟩ = some (.int .i64 o.n) := hbx.cell rfl; have RA := Lib.hid (R0.out.keeps ka ha.below); have HA := Lib.hid ha; have BX1 := Lib.hid hbx; clear ha ka hbx)
      | (go_at_call 21; refine (X_free o.id _ HB2.out HI.out).mono ?_; rintro e wa ⟨he, ha, ka⟩; rw [← HRR.out] at he; subst he; have hbx := ka _ _ _ _ ⟨by decide, by decide, by decide⟩ BX2.out; have ka0 : World.cell? wa ⟨w.heap.size, 1, none⟩ = some (.int .i64 o.id) := hbx.cell rfl; have ka1 : World.cell? wa ⟨w.heap.size, 2, none⟩ = some (.int .i64 o.n) := hbx.cell rfl; have RF := Lib.hid (RB.out.keeps ka ha.below); have HF := Lib.hid ha; clear ha ka hbx)
      | (go_at_call 29; refine (R_free o.id _ R0.out HI.out).mono ?_; rintro e wb ⟨he, hb, kb⟩; rw [← HRR.out] at he; subst he; have hbx := kb _ _ _ _ ⟨by decide, by decide⟩ HBX.out; have kb0 : World.cell? wb ⟨w.heap.size, 1, none⟩ = some (.int .i64 o.id) := hbx.cell rfl; have kb1 : World.cell? wb ⟨w.heap.size, 2, none⟩ = some (.int .i64 o.n) := hbx.cell rfl; have HB2 := Lib.hid (H0.out.rkeeps kb hb.below); have BX2 := Lib.hid hbx; have RB := Lib.hid hb; clear hb kb hbx)
      | (go_at_call 29; refine (R_free o.id _ RA.out HI.out).mono ?_; rintro e wb ⟨he, hb, kb⟩; rw [← HRR.out] at he; subst he; have hbx := kb _ _ _ _ ⟨by decide, by decide⟩ BX1.out; have kb0 : World.cell? wb ⟨w.heap.size, 1, none⟩ = some (.int .i64 o.id) := hbx.cell rfl; have kb1 : World.cell? wb ⟨w.heap.size, 2, none⟩ = some (.int .i64 o.n) := hbx.cell rfl; have RF := Lib.hid hb; have HF := Lib.hid (HA.out.rkeeps kb hb.below); clear hb kb)
      | fail)
    all_goals
      go_wp2_with fail
      go_ret
      exact ⟨by simp, freeS cs o.id, HF.out, RF.out, HI.out.free o.id⟩
  clear e1 e2 e3 e4 e5
  obtain ⟨r, hr⟩ : ∃ r, r = takeR cs := ⟨_, rfl⟩
  have HRR := Lib.hid hr
  clear hr
  go_wp2_with fail
  refine (X_take _ H00.out HI.out).mono ?_; rintro e wa ⟨he, ha, ka⟩
  rw [← HRR.out] at he
  subst he
  have RA := Lib.hid (R00.out.keeps ka ha.below); have HA := Lib.hid ha
  clear ha ka
  go_wp2_with fail
  refine (R_take _ RA.out HI.out).mono ?_; rintro e wb ⟨he, hb, kb⟩
  rw [← HRR.out] at he
  subst he
  have HF := Lib.hid (HA.out.rkeeps kb hb.below); have RF := Lib.hid hb
  clear hb kb
  go_wp2_with fail
  go_ret
  exact ⟨by simp, takeS cs, HF.out, RF.out, HI.out.take⟩
set_option maxRecDepth 100000 in
set_option maxHeartbeats 8000000 in
theorem walk (mx : Int) (v : Value) (l : List O) (W : World) (hm : l.length ≤ maxLen) (hs : SliceOf W v 3 encO l) (hok : ∀ o ∈ l, o.Ok) :
    Calls Try.prog 5 #[.int .i64 mx, v] W fun e w' => e = .returned (.bool true) ∧ Below W.heap.size W w' := by
  unfold maxLen at hm
  obtain ⟨a, cap, rfl, hc, hcm, hcell⟩ := hs
  unfold maxLen at hcm
  have HCELL := Lib.hid hcell; have HOK := Lib.hid hok
  clear hcell hok
  go_enter Try.func5, Try.ntmps5
  go_wp2_with fail
  refine (shown_any _).mono ?_; rintro e w1 ⟨rfl, hb1⟩
  go_wp2_with fail
  refine (H_new (W := W) mx w1 hb1).mono ?_; rintro e w2 ⟨rfl, h2⟩
  have h2 : Has W w2 w1.heap.size (min (max mx 0) 64) [] := h2
  generalize w1.heap.size = p at *
  have H2 := Lib.hid h2
  have hb2 := h2.below
  clear h2
  go_wp2_with fail
  refine (R_new mx w2 hb2).mono ?_; rintro e w3 ⟨rfl, r3, c3⟩
  have H3 := Lib.hid (H2.out.step c3); have R3 := Lib.hid r3
  generalize w2.heap.size = q at *
  clear r3 c3 hb2 H2
  obtain ⟨most, hmost⟩ : ∃ most, most = min (max mx 0) 64 := ⟨_, rfl⟩
  rw [← hmost] at H3 R3
  have hm0 : 0 ≤ most := by omega
  have hm64 : most ≤ 64 := by omega
  clear hmost
  go_wp2_with fail
  go_loopw [8] (fun iv wr => ∃ (k : Nat) (cs : List Cn), k ≤ l.length ∧ k ≤ 400 ∧ iv = .int .i64 k ∧ Has W wr p most cs ∧ RHas W wr q most cs ∧ Inv most cs) (fun iv _ => l.length - (intOf iv).toNat)
  case atStart => exact ⟨0, [], by omega, by omega, rfl, H3.out, R3.out, Inv.nil hm0 hm64⟩
  case round =>
    clear H3 R3
    obtain ⟨k, cs, hk, hk2, rfl, hh, hr, hi⟩ := hrel
    by_cases hlt : k < l.length ∧ k < 400
    · obtain ⟨hlt, h20⟩ := hlt
      obtain ⟨b, off, rfl, hb, hcells⟩ := HCELL.out (by omega)
      obtain ⟨z, hz⟩ : ∃ z, l[k]? = some z := ⟨_, List.getElem?_eq_getElem hlt⟩
      have c0 : wr.cell? ⟨b, off + k * 3, none⟩ = some (.int .i64 z.kind) := by rw [hh.below.cell hb]; exact hcells k z hz 0 (by omega)
      have c1 : wr.cell? ⟨b, off + k * 3 + 1, none⟩ = some (.int .i64 z.id) := by rw [hh.below.cell hb]; exact hcells k z hz 1 (by omega)
      have c2 : wr.cell? ⟨b, off + k * 3 + 2, none⟩ = some (.int .i64 z.n) := by rw [hh.below.cell hb]; exact hcells k z hz 2 (by omega)
      have d1 : W.cell? ⟨b, off + k * 3 + 1, none⟩ = some (.int .i64 z.id) := hcells k z hz 1 (by omega)
      obtain ⟨oa, ob, oc⟩ := HOK.out z (List.mem_of_getElem? hz)
      have HH := Lib.hid hh; have HR := Lib.hid hr; have HI := Lib.hid hi; have D1 := Lib.hid d1
      clear hz hcells hh hi hr d1
      go_wp2_with fail
      refine (does_any z HH.out HR.out HI.out oc.2).mono ?_; rintro e w4 ⟨rfl, cs', h4, r4, i4⟩
      obtain ⟨sv, hP, hbl⟩ := r4
      obtain ⟨va, vc, rfl, hv1, hv2⟩ := OwnR.slice hP.row
      have f0 : ∀ x : Later [] w4, World.cell? x.world ⟨q, 1, none⟩ = some (.slice va cs'.length vc) := fun x => (hP.chg x.chg (by simp)).head.cell rfl
      have f1 : ∀ x : Later [] w4, World.cell? x.world ⟨b, off + k * 3 + 1, none⟩ = some (.int .i64 z.id) := fun x => by
        rw [(h4.step x.chg).below.cell hb]; exact D1.out
      have r4 : RHas W w4 q most cs' := ⟨_, hP, hbl⟩
      have H4 := Lib.hid h4; have R4 := Lib.hid r4; have I4 := Lib.hid i4
      have hkI : (k : Int) < (l.length : Int) := by omega
      have hk0 : (0 : Int) ≤ (k : Int) := by omega
      obtain ⟨r, hr⟩ : ∃ r, r = usedR cs' z.id := ⟨_, rfl⟩
      have HRR := Lib.hid hr
      clear h4 r4 i4 hP hbl hr c0 c1 c2
      go_wp2_with fail
      refine wp_region_later (S := []) (by kernel_rfl) (by kernel_rfl) ?_
      repeat (go_big_quiet_step (first
        | (go_at_call 17; exact Calls.later_same ((H_len _ (H4.out.step (Later.chg _))).mono (fun e w' h => ⟨h.1, h.2.symm⟩)))
        | (go_at_call 13; exact Calls.later_same ((X_used z.id _ (H4.out.step (Later.chg _))).mono (fun e w' h => ⟨by rw [h.1, ← HRR.out], h.2.symm⟩)))
        | (go_at_call 18; exact Calls.later_same ((R_used z.id _ (R4.out.chg0 (Later.chg _)) I4.out).mono (fun e w' h => ⟨by rw [h.1, ← HRR.out], h.2⟩)))))
      refine wpQuiet_nil ?_
      intro _ hw'
      obtain ⟨xq, rfl⟩ := hw'
      go_wp2_with fail
      go_roundw
      case rel => exact ⟨k + 1, cs', by omega, by omega, by go_num, H4.out.step xq.chg, R4.out.chg0 xq.chg, I4.out⟩
      case measure => simp [intOf]; omega
    · have hways : (k < l.length ∧ decide (k < l.length) = true ∧ decide ((k : Int) < 400) = false) ∨ (¬ k < l.length ∧ decide (k < l.length) = false ∧ (0 : Int) ≤ 1) := by
        by_cases h1 : k < l.length
        · exact Or.inl ⟨h1, by simpa using h1, by simp; omega⟩
        · exact Or.inr ⟨h1, by simpa using h1, by omega⟩
      have HB := Lib.hid hh.below
      clear hh hr hi hlt
      rcases hways with ⟨h1, hd1, hd2⟩ | ⟨h1, hd1, hd2⟩
      all_goals
        go_wp2_with fail
        go_ret
        exact ⟨rfl, HB.out⟩

/-! ### The row's step -/
theorem own : ownKnob Try.prog.godebug = none := by kernel_rfl
theorem laid : laidOutB Try.prog = true := by kernel_rfl

set_option maxRecDepth 100000 in
theorem lifted (os : Os) (started : os.Started) (H : Type) (enc : TypeId × Value → H) :
    ReturnsInHanded {} Try.checked os 5 .any (Rows.poolPlaysSpec.pre6 enc Try.prog Try.f5 Rows.poolPlaysRow.domain false) (Rows.poolPlaysSpec.post enc Try.prog Try.f5 false true false false) := by
  refine lift_law (C := Try.checked) (tb := 4) own started (by kernel_rfl) Try.func5
    (ChangeSpec.witness6 (enc := enc) (C := Try.checked) false ⟨#[], #[.int .i64 0, .slice none 0 0], []⟩ 8 (by kernel_rfl) (by kernel_rfl) (by kernel_rfl) (by kernel_rfl))
    laid (by rw [Try.params5]; intro t ht; simp only [List.mem_cons, List.not_mem_nil, or_false] at ht; rcases ht with rfl | rfl <;> exact ⟨by kernel_rfl, of_decide_eq_true (by kernel_rfl)⟩) (by kernel_rfl) Try.underlying4 rfl
    (fun ds h => by rw [Try.params5] at h; match ds, h with | [d0, d1], _ => rfl) ?_
  intro W base args ds before hval hA hlt hsz
  rw [Try.params5] at hA hval
  try rw [Try.params5] at hsz
  have hlt0 := hlt
  obtain ⟨v0, vs0, d0, ds0, p0, q0, hargs, rfl, rfl, h0, r0⟩ := trodAll_cons hA
  obtain ⟨v1, vs1, d1, ds1, p1, q1, rfl, rfl, rfl, h1, r1⟩ := trodAll_cons r0
  obtain ⟨rfl, rfl, rfl⟩ := trodAll_nil r1
  obtain rfl : args = #[v0, v1] := by cases args; simp_all
  have l0 : ∀ p ∈ p0, p.block < W.heap.size := fun x hx => hlt x (by simp [hx])
  have l1 : ∀ p ∈ p1, p.block < W.heap.size := fun x hx => hlt x (by simp [hx])
  obtain ⟨i0, rfl, rfl, rfl, wi0⟩ := open_int Try.underlying3 (hval 0 3 v0 rfl rfl) h0
  obtain ⟨zs, zg, zm, zs1⟩ := open_arg_slice 3 encO O.Ok Try.underlying31 (by kernel_rfl) (by omega) (hval 1 31 v1 rfl rfl) decO h1 l1
  exact walk i0 v1 zs W zm zs1 zg

theorem over : Rows.poolPlaysRow.holds Try.pinned (OpenSpec.ofChange Rows.poolPlaysSpec) :=
  OpenClaim.holds_of_wide 5 Try.f5 rfl rfl rfl rfl rfl rfl rfl ⟨rfl, rfl, rfl, rfl, rfl⟩ rfl rfl rfl rfl rfl (by kernel_rfl) Try.func5 (by kernel_rfl)
    (of_decide_eq_true (by kernel_rfl)) (by unfold Func.isWrapper; first | (rw [if_pos (by decide +kernel)]; kernel_rfl) | (rw [if_neg (by decide +kernel)]; exact ⟨rfl, rfl⟩))
    (fun os started H enc _ => lifted os started H enc)

/-- The statement. -/
theorem proved : Rows.PoolPlaysSaid :=
  over
#print axioms proved

end Go.Proofs.Ythinceoklkjcpaa.Plays
