/-
  WeighOrder: a greater draw never picks an earlier place: any weights, any two draws, any place.
-/
import Derived.Test.YtgoelobkehebjaaShares
namespace Go.Proofs.Ytgoelobkehebjaa.Order
open Go.ChangeShapes Go.WideShapes Go.ChangeAt Go.RowKit
open Go.Proofs.Ytgoelobkehebjaa.B Go.Proofs.Ytgoelobkehebjaa.Fl Go.Proofs.Ytgoelobkehebjaa.Wg
set_option linter.unusedVariables false
set_option linter.unusedSimpArgs false

set_option maxRecDepth 20000 in
set_option maxHeartbeats 4000000 in
/-- Behind the two draws: the place. -/
theorem pick_right {w : List Nat} (h : rightW w = true) (d : Nat) : pickW w d = (atW w (d / 2048) : Int) := by unfold pickW; rw [if_pos h]

set_option maxRecDepth 20000 in
set_option maxHeartbeats 4000000 in
theorem walk (v : Value) (w : List Nat) (a1 a2 i : Int) (W : World) (hw : ∀ x ∈ w, Wf64 x) (hs : SliceOf W v 1 encF w) (ha0 : (Lit.int .u64 a1).wf = true) (hb0 : (Lit.int .u64 a2).wf = true) :
    Calls Try.prog 6 #[v, .int .u64 a1, .int .u64 a2, .int .i64 i] W fun e w' => e = .returned (.bool true) ∧ Below W.heap.size W w' := by
  obtain ⟨a1, rfl, ha⟩ := u64_nat ha0
  obtain ⟨a2, rfl, hb⟩ := u64_nat hb0
  clear ha0 hb0
  have HA := Lib.hid ha; have HB := Lib.hid hb
  clear ha hb
  obtain ⟨m, hmin, hml, hmc⟩ := min_cut w 30
  have HS := hs
  obtain ⟨a, cap, rfl, hc, hcm, _⟩ := hs
  have HW := Lib.hid (mem_cut (w := w) hw m)
  have HSC := Lib.hid (slice_cut HS m hml)
  have hlen := len_cut hml
  generalize w.take m = u at *
  subst hlen
  have emin : (min (w.length : Int) 30).toNat = u.length := by omega
  have HM := Lib.hid emin
  clear HS hw hmin emin
  have hj := i64_and_le i 31 (by decide)
  obtain ⟨t, hte⟩ : ∃ t : Nat, bits .and .i64 i 31 = (t : Int) := ⟨(bits .and .i64 i 31).toNat, (Int.toNat_of_nonneg hj.1).symm⟩
  rw [show ((31 : Nat) : Int) = 31 from rfl, hte] at hj
  have ht31 : t ≤ 31 := by omega
  clear hj
  go_enter Try.func6, Try.ntmps6
  go_wp2_with fail
  refine (shown_any _).mono ?_; rintro e w1 ⟨rfl, g1⟩
  have HS1 := Lib.hid (slice_chgF HSC.out g1); have G1 := Lib.hid g1
  clear g1 HSC
  go_wp2_with fail
  rw [HM.out]
  generalize min (w.length : Int) 30 = mi
  refine (right_any _ u _ HS1.out HW.out).mono ?_; rintro e w2 ⟨he, hw2⟩
  by_cases hr : rightW u = true
  · rw [hr] at he
    subst he
    subst hw2
    have HR := Lib.hid hr
    clear hr
    by_cases hab : a2 < a1
    · have HAB : Hid (a2 ≤ a1) := Lib.hid (by omega)
      have HX := HA; have HA := HB; have HB := HX
      go_wp2_with fail
      refine (pick_any _ u a2 _ HS1.out HW.out HA.out).mono ?_; rintro e w3 ⟨he, g3⟩
      rw [pick_right HR.out] at he
      subst he
      have HS3 := Lib.hid (slice_chgF HS1.out g3); have G3 := Lib.hid (G1.out.trans' g3)
      clear g3 HS1 G1
      go_wp2_with fail
      refine (pick_any _ u a1 _ HS3.out HW.out HB.out).mono ?_; rintro e w4 ⟨he, g4⟩
      rw [pick_right HR.out] at he
      subst he
      have HS4 := Lib.hid (slice_chgF HS3.out g4); have G4 := Lib.hid (G3.out.trans' g4)
      clear g4 HS3 G3
      have hmono := @atW_mono u (a2 / 2048) (a1 / 2048) (Nat.div_le_div_right HAB.out)
      generalize atW u (a2 / 2048) = x at *
      generalize atW u (a1 / 2048) = y at *
      go_wp2_with fail
      obtain ⟨j, hjj⟩ : ∃ j : Int, j = 1 + (t : Int) := ⟨_, rfl⟩
      rw [← hjj]
      have HJ : Hid (0 < j) := Lib.hid (by omega)
      clear hte hjj
      refine (share_any _ u j _ HS4.out HW.out).mono ?_; rintro e w5 ⟨g5, r, hr, he⟩
      have HS5 := Lib.hid (slice_chgF HS4.out g5); have G5 := Lib.hid (G4.out.trans' g5)
      clear g5 HS4 G4
      rcases hr with ⟨hr1, hr2⟩ | ⟨hr1, hr2, low, hl1, hl2, hl3, hl4⟩
      · exfalso
        rcases hr1 with h | h
        · rw [HR.out] at h; cases h
        · have := HJ.out; omega
      · by_cases hlow : low = 9007199254740992
        · rw [if_pos hlow] at hl4
          subst hl4
          subst he
          have hq := hl2 9007199254740991 (by omega)
          clear hl2 hl3 hr1 hr2 hl1 hlow
          have HQ := Lib.hid hq
          clear hq
          go_wp2_with fail
          refine (pick_any _ u 18446744073709551615 _ HS5.out HW.out (by decide)).mono ?_; rintro e w6 ⟨he, g6⟩
          rw [Shares.pick_at HR.out 9007199254740991 _ (by decide)] at he
          have HS6 := Lib.hid (slice_chgF HS5.out g6); have G6 := Lib.hid (G5.out.trans' g6)
          clear g6 HS5 G5
          have hq := HQ.out
          generalize atW u 9007199254740991 = q at *
          subst he
          have hd : ((j : Int) ≤ q) = False := by simp; omega
          clear hq HQ
          go_wp2_with fail
          refine (pick_any _ u 18446744073709549567 _ HS6.out HW.out (by decide)).mono ?_; rintro e w7 ⟨he, g7⟩
          have G7 := Lib.hid (G6.out.trans' g7)
          clear g7
          generalize pickW u 18446744073709549567 = t at *
          subst he
          go_wp2_with fail
          go_ret
          exact ⟨by simp, G7.out.below_nil⟩
        · rw [if_neg hlow] at hl4
          have hlow2 : low < 9007199254740992 := by omega
          have hq := hl3 hlow2
          subst he
          have HL2 := Lib.hid hl2; have HQ := Lib.hid hq; have HL4 := Lib.hid hl4; have HL5 := Lib.hid hlow2
          have hne : (r : Int) < 18446744073709551615 := by omega
          clear hl3 hr1 hr2 hl1 hlow hl2 hq hl4 hlow2
          go_wp2_with fail
          refine (pick_any _ u r _ HS5.out HW.out (by omega)).mono ?_; rintro e w6 ⟨he, g6⟩
          rw [Shares.pick_at HR.out low _ (by have := HL4.out; omega)] at he
          have HS6 := Lib.hid (slice_chgF HS5.out g6); have G6 := Lib.hid (G5.out.trans' g6)
          clear g6 HS5 G5
          have hq := HQ.out
          generalize atW u low = q at *
          subst he
          have hd : ((j : Int) ≤ q) = True := by simp; omega
          clear hq HQ
          by_cases h0 : low = 0
          · have hr0 : r = 0 := by have := HL4.out; omega
            subst hr0
            clear HL4 HL5 HL2
            go_wp2_with fail
            go_ret
            exact ⟨by simp, G6.out.below_nil⟩
          · have hge : ((r : Int) < 2048) = False := by have := HL4.out; simp; omega
            obtain ⟨r2, hr2⟩ : ∃ r2 : Nat, r2 = (low - 1) * 2048 := ⟨_, rfl⟩
            have hsub : (r : Int) - 2048 = (r2 : Int) := by have := HL4.out; omega
            have hr3 : (r2 : Int) < 18446744073709551616 := by have := HL5.out; omega
            have HR2 := Lib.hid hr2
            clear hr2
            have hne2 : ((r : Int) == 18446744073709551615) = false := by rw [beq_eq_false_iff_ne]; omega
            have hne3 : ((r : Int) = 18446744073709551615) = False := eq_false (by omega)
            have H0 := Lib.hid h0; have HMO := Lib.hid hmono; have HNE := Lib.hid hne
            clear h0 hmono hne
            go_wp2_with fail
            refine (pick_any _ u r2 _ HS6.out HW.out (by have := HL5.out; omega)).mono ?_; rintro e w7 ⟨he, g7⟩
            rw [Shares.pick_at HR.out (low - 1) _ (by have := HR2.out; omega)] at he
            have G7 := Lib.hid (G6.out.trans' g7)
            clear g7
            have hlt := HL2.out (low - 1) (by have := H0.out; omega)
            have hmono := HMO.out
            generalize atW u (low - 1) = t at *
            subst he
            go_wp2_with fail
            go_ret
            exact ⟨by simp, G7.out.below_nil⟩
    · have HAB : Hid (a1 ≤ a2) := Lib.hid (by omega)
      go_wp2_with fail
      refine (pick_any _ u a1 _ HS1.out HW.out HA.out).mono ?_; rintro e w3 ⟨he, g3⟩
      rw [pick_right HR.out] at he
      subst he
      have HS3 := Lib.hid (slice_chgF HS1.out g3); have G3 := Lib.hid (G1.out.trans' g3)
      clear g3 HS1 G1
      go_wp2_with fail
      refine (pick_any _ u a2 _ HS3.out HW.out HB.out).mono ?_; rintro e w4 ⟨he, g4⟩
      rw [pick_right HR.out] at he
      subst he
      have HS4 := Lib.hid (slice_chgF HS3.out g4); have G4 := Lib.hid (G3.out.trans' g4)
      clear g4 HS3 G3
      have hmono := @atW_mono u (a1 / 2048) (a2 / 2048) (Nat.div_le_div_right HAB.out)
      generalize atW u (a1 / 2048) = x at *
      generalize atW u (a2 / 2048) = y at *
      go_wp2_with fail
      obtain ⟨j, hjj⟩ : ∃ j : Int, j = 1 + (t : Int) := ⟨_, rfl⟩
      rw [← hjj]
      have HJ : Hid (0 < j) := Lib.hid (by omega)
      clear hte hjj
      refine (share_any _ u j _ HS4.out HW.out).mono ?_; rintro e w5 ⟨g5, r, hr, he⟩
      have HS5 := Lib.hid (slice_chgF HS4.out g5); have G5 := Lib.hid (G4.out.trans' g5)
      clear g5 HS4 G4
      rcases hr with ⟨hr1, hr2⟩ | ⟨hr1, hr2, low, hl1, hl2, hl3, hl4⟩
      · exfalso
        rcases hr1 with h | h
        · rw [HR.out] at h; cases h
        · have := HJ.out; omega
      · by_cases hlow : low = 9007199254740992
        · rw [if_pos hlow] at hl4
          subst hl4
          subst he
          have hq := hl2 9007199254740991 (by omega)
          clear hl2 hl3 hr1 hr2 hl1 hlow
          have HQ := Lib.hid hq
          clear hq
          go_wp2_with fail
          refine (pick_any _ u 18446744073709551615 _ HS5.out HW.out (by decide)).mono ?_; rintro e w6 ⟨he, g6⟩
          rw [Shares.pick_at HR.out 9007199254740991 _ (by decide)] at he
          have HS6 := Lib.hid (slice_chgF HS5.out g6); have G6 := Lib.hid (G5.out.trans' g6)
          clear g6 HS5 G5
          have hq := HQ.out
          generalize atW u 9007199254740991 = q at *
          subst he
          have hd : ((j : Int) ≤ q) = False := by simp; omega
          clear hq HQ
          go_wp2_with fail
          refine (pick_any _ u 18446744073709549567 _ HS6.out HW.out (by decide)).mono ?_; rintro e w7 ⟨he, g7⟩
          have G7 := Lib.hid (G6.out.trans' g7)
          clear g7
          generalize pickW u 18446744073709549567 = t at *
          subst he
          go_wp2_with fail
          go_ret
          exact ⟨by simp, G7.out.below_nil⟩
        · rw [if_neg hlow] at hl4
          have hlow2 : low < 9007199254740992 := by omega
          have hq := hl3 hlow2
          subst he
          have HL2 := Lib.hid hl2; have HQ := Lib.hid hq; have HL4 := Lib.hid hl4; have HL5 := Lib.hid hlow2
          have hne : (r : Int) < 18446744073709551615 := by omega
          clear hl3 hr1 hr2 hl1 hlow hl2 hq hl4 hlow2
          go_wp2_with fail
          refine (pick_any _ u r _ HS5.out HW.out (by omega)).mono ?_; rintro e w6 ⟨he, g6⟩
          rw [Shares.pick_at HR.out low _ (by have := HL4.out; omega)] at he
          have HS6 := Lib.hid (slice_chgF HS5.out g6); have G6 := Lib.hid (G5.out.trans' g6)
          clear g6 HS5 G5
          have hq := HQ.out
          generalize atW u low = q at *
          subst he
          have hd : ((j : Int) ≤ q) = True := by simp; omega
          clear hq HQ
          by_cases h0 : low = 0
          · have hr0 : r = 0 := by have := HL4.out; omega
            subst hr0
            clear HL4 HL5 HL2
            go_wp2_with fail
            go_ret
            exact ⟨by simp, G6.out.below_nil⟩
          · have hge : ((r : Int) < 2048) = False := by have := HL4.out; simp; omega
            obtain ⟨r2, hr2⟩ : ∃ r2 : Nat, r2 = (low - 1) * 2048 := ⟨_, rfl⟩
            have hsub : (r : Int) - 2048 = (r2 : Int) := by have := HL4.out; omega
            have hr3 : (r2 : Int) < 18446744073709551616 := by have := HL5.out; omega
            have HR2 := Lib.hid hr2
            clear hr2
            have hne2 : ((r : Int) == 18446744073709551615) = false := by rw [beq_eq_false_iff_ne]; omega
            have hne3 : ((r : Int) = 18446744073709551615) = False := eq_false (by omega)
            have H0 := Lib.hid h0; have HMO := Lib.hid hmono; have HNE := Lib.hid hne
            clear h0 hmono hne
            go_wp2_with fail
            refine (pick_any _ u r2 _ HS6.out HW.out (by have := HL5.out; omega)).mono ?_; rintro e w7 ⟨he, g7⟩
            rw [Shares.pick_at HR.out (low - 1) _ (by have := HR2.out; omega)] at he
            have G7 := Lib.hid (G6.out.trans' g7)
            clear g7
            have hlt := HL2.out (low - 1) (by have := H0.out; omega)
            have hmono := HMO.out
            generalize atW u (low - 1) = t at *
            subst he
            go_wp2_with fail
            go_ret
            exact ⟨by simp, G7.out.below_nil⟩
  · have hrf : rightW u = false := by simpa using hr
    rw [hrf] at he
    subst he
    subst hw2
    clear hr hrf
    go_wp2_with fail
    go_ret
    exact ⟨rfl, G1.out.below_nil⟩

/-! ### The row's step -/
theorem own : ownKnob Try.prog.godebug = none := by kernel_rfl
theorem laid : laidOutB Try.prog = true := by kernel_rfl

set_option maxRecDepth 100000 in
theorem lifted (os : Os) (started : os.Started) (H : Type) (enc : TypeId × Value → H) :
    ReturnsInHanded {} Try.checked os 6 .any (Rows.weighOrderSpec.pre6 enc Try.prog Try.f6 Rows.weighOrderRow.domain false) (Rows.weighOrderSpec.post enc Try.prog Try.f6 false true false false) := by
  refine lift_law (C := Try.checked) (tb := 4) own started (by kernel_rfl) Try.func6
    (ChangeSpec.witness6 (enc := enc) (C := Try.checked) false ⟨#[], #[.slice none 0 0, .int .u64 0, .int .u64 0, .int .i64 0], []⟩ 8 (by kernel_rfl) (by kernel_rfl) (by kernel_rfl) (by kernel_rfl))
    laid (by rw [Try.params6]; intro t ht; simp only [List.mem_cons, List.not_mem_nil, or_false] at ht; rcases ht with rfl | rfl | rfl | rfl <;> exact ⟨by kernel_rfl, of_decide_eq_true (by kernel_rfl)⟩) (by kernel_rfl) Try.underlying4 rfl
    (fun ds h => by rw [Try.params6] at h; match ds, h with | [d0, d1, d2, d3], _ => rfl) ?_
  intro W base args ds before hval hA hlt hsz
  rw [Try.params6] at hA hval
  have hlt0 := hlt
  obtain ⟨v0, vs0, d0, ds0, p0, q0, hargs, rfl, rfl, h0, r0⟩ := trodAll_cons hA
  obtain ⟨v1, vs1, d1, ds1, p1, q1, rfl, rfl, rfl, h1, r1⟩ := trodAll_cons r0
  obtain ⟨v2, vs2, d2, ds2, p2, q2, rfl, rfl, rfl, h2, r2⟩ := trodAll_cons r1
  obtain ⟨v3, vs3, d3, ds3, p3, q3, rfl, rfl, rfl, h3, r3⟩ := trodAll_cons r2
  obtain ⟨rfl, rfl, rfl⟩ := trodAll_nil r3
  obtain rfl : args = #[v0, v1, v2, v3] := by cases args; simp_all
  have l0 : ∀ p ∈ p0, p.block < W.heap.size := fun x hx => hlt x (by simp [hx])
  have l1 : ∀ p ∈ p1, p.block < W.heap.size := fun x hx => hlt x (by simp [hx])
  have l2 : ∀ p ∈ p2, p.block < W.heap.size := fun x hx => hlt x (by simp [hx])
  have l3 : ∀ p ∈ p3, p.block < W.heap.size := fun x hx => hlt x (by simp [hx])
  obtain ⟨zs, zg, zm, zs1⟩ := open_arg_slice 1 encF Wf64 Try.underlying22 (by kernel_rfl) (by omega) (hval 0 22 v0 rfl rfl) decF h0 l0
  obtain ⟨a1, rfl, rfl, rfl, wa1⟩ := open_int Try.underlying23 (hval 1 23 v1 rfl rfl) h1
  obtain ⟨a2, rfl, rfl, rfl, wa2⟩ := open_int Try.underlying23 (hval 2 23 v2 rfl rfl) h2
  obtain ⟨a3, rfl, rfl, rfl, wa3⟩ := open_int Try.underlying3 (hval 3 3 v3 rfl rfl) h3
  exact walk v0 zs a1 a2 a3 W zg zs1 wa1 wa2

theorem over : Rows.weighOrderRow.holds Try.pinned (OpenSpec.ofChange Rows.weighOrderSpec) :=
  OpenClaim.holds_of_wide 6 Try.f6 rfl rfl rfl rfl rfl rfl rfl ⟨rfl, rfl, rfl, rfl, rfl⟩ rfl rfl rfl rfl rfl (by kernel_rfl) Try.func6 (by kernel_rfl)
    (of_decide_eq_true (by kernel_rfl)) (by unfold Func.isWrapper; first | (rw [if_pos (by decide +kernel)]; kernel_rfl) | (rw [if_neg (by decide +kernel)]; exact ⟨rfl, rfl⟩))
    (fun os started H enc _ => lifted os started H enc)

/-- The statement. -/
theorem proved : Rows.WeighOrderSaid :=
  over
#print axioms proved

end Go.Proofs.Ytgoelobkehebjaa.Order
