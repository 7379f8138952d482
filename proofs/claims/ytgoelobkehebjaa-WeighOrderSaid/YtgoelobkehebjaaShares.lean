/-
  WeighShares: a place's draws begin where they do: any weights, any place.
-/
import Derived.Test.YtgoelobkehebjaaArg
namespace Go.Proofs.Ytgoelobkehebjaa.Shares
open Go.ChangeShapes Go.WideShapes Go.ChangeAt Go.RowKit
open Go.Proofs.Ytgoelobkehebjaa.B Go.Proofs.Ytgoelobkehebjaa.Fl Go.Proofs.Ytgoelobkehebjaa.Wg
set_option linter.unusedVariables false
set_option linter.unusedSimpArgs false

theorem pick_at {w : List Nat} (h : rightW w = true) (m d : Nat) (hd : d / 2048 = m) : pickW w d = (atW w m : Int) := by
  unfold pickW; rw [if_pos h, hd]
set_option maxRecDepth 20000 in
set_option maxHeartbeats 8000000 in
theorem rshare_any (sv : Value) (w : List Nat) (i : Int) (W : World) (hs : SliceOf W sv 1 encF w) (hw : ∀ x ∈ w, x < 2 ^ 64) :
    Calls Try.prog 19 #[sv, .int .i64 i] W fun e w' => w' = W ∧ ∃ r, ShareIs w i r ∧ e = .returned (.int .u64 r) := by
  have HS := Lib.hid hs; have HW := Lib.hid hw
  obtain ⟨a, cap, rfl⟩ := slice_len hs
  clear hs hw
  go_enter Try.func19, Try.ntmps19
  go_wp2_with fail
  refine (rright_any _ w _ HS.out HW.out).mono ?_; rintro e w1 ⟨he, hw1⟩
  by_cases hr : rightW w = true
  · by_cases hi : i ≤ 0
    · rw [hr] at he
      subst he
      subst hw1
      clear hr
      go_wp2_with fail
      go_ret
      exact ⟨rfl, 0, .inl ⟨.inr hi, rfl⟩, rfl⟩
    · rw [hr] at he
      subst he
      subst hw1
      have HR := Lib.hid hr
      clear hr
      have hi' : 0 < i := by omega
      go_wp2_with fail
      refine (rpick_any _ w 18446744073709551615 _ HS.out HW.out (by decide)).mono ?_; rintro e w2 ⟨he, hw2⟩
      rw [pick_at HR.out 9007199254740991 _ (by decide)] at he
      obtain ⟨q, hq⟩ : ∃ q, q = atW w 9007199254740991 := ⟨_, rfl⟩
      rw [← hq] at he
      have HQ := Lib.hid hq
      clear hq
      subst he
      subst hw2
      by_cases hqi : (q : Int) < i
      · go_wp2_with fail
        go_ret
        refine ⟨rfl, 18446744073709551615, .inr ⟨HR.out, hi', 9007199254740992, by omega, fun m hm => ?_, fun h => by omega, by rw [if_pos rfl]⟩, rfl⟩
        have := @atW_mono w m 9007199254740991 (by omega)
        rw [← HQ.out] at this
        omega
      · have hd : ((q : Int) < i) = False := by simp; omega
        have hq2 : i ≤ (q : Int) := by omega
        have HQI := Lib.hid hq2
        clear hqi hq2
        go_wp2_with fail
        clear hd
        go_loop [6, 7] (fun lo hi => ∃ l h : Nat, lo = .int .u64 l ∧ hi = .int .u64 h ∧ l ≤ h ∧ h ≤ 9007199254740991 ∧ (∀ m, m < l → (atW w m : Int) < i) ∧ i ≤ atW w h) (fun lo hi => (intOf hi - intOf lo).toNat)
        case atStart => exact ⟨0, 9007199254740991, rfl, rfl, by omega, by omega, fun m hm => by omega, by rw [← HQ.out]; exact HQI.out⟩
        case round =>
          obtain ⟨l, h, rfl, rfl, hlh, hh, hlow, hhigh⟩ := hrel
          have HLO := Lib.hid hlow; have HHI := Lib.hid hhigh
          clear hlow hhigh
          by_cases hlt : l < h
          · have hmid : ((l : Int) + h) / 2 < 9007199254740991 := by omega
            have hsum : (l : Int) + h < 18446744073709551616 := by omega
            go_wp2_with fail
            obtain ⟨m, hm⟩ : ∃ m : Nat, m = (l + h) / 2 := ⟨_, rfl⟩
            have em : ((l : Int) + h) / 2 = (m : Int) := by omega
            rw [em]
            rw [em] at hmid
            have hml : l ≤ m := by omega
            have hmh : m < h := by omega
            have em2 : (m : Int) * 2048 = ((m * 2048 : Nat) : Int) := by omega
            rw [em2]
            clear em hm
            refine (rpick_any _ w (m * 2048) _ HS.out HW.out (by omega)).mono ?_; rintro e w3 ⟨he, hw3⟩
            rw [pick_at HR.out m _ (by omega)] at he
            clear em2
            obtain ⟨t, ht⟩ : ∃ t, t = atW w m := ⟨_, rfl⟩
            rw [← ht] at he
            have HT := Lib.hid ht
            clear ht
            subst he
            subst hw3
            by_cases hti : i ≤ (t : Int)
            · have HM := Lib.hid hmid; have HML := Lib.hid hml; have HLH := Lib.hid hlh
              have hd : (i ≤ (t : Int)) = True := by simp; omega
              have HTI := Lib.hid hti
              clear hti hmid hml hlh
              go_wp2_with fail
              go_round
              case rel => exact ⟨l, m, rfl, rfl, HML.out, by have := HM.out; omega, HLO.out, by rw [← HT.out]; exact HTI.out⟩
              case measure => simp [intOf]; have := HML.out; omega
            · have hd : (i ≤ (t : Int)) = False := by simp; omega
              have hlt2 : (t : Int) < i := by omega
              have HTI := Lib.hid hlt2
              have hm1 : (m : Int) + 1 < 18446744073709551616 := by omega
              clear hti hlt2
              go_wp2_with fail
              go_round
              case rel =>
                refine ⟨m + 1, h, by go_num, rfl, by omega, hh, fun x hx => ?_, HHI.out⟩
                have := @atW_mono w x m (by omega)
                rw [← HT.out] at this
                have := HTI.out
                omega
              case measure => simp [intOf]; omega
          · obtain rfl : l = h := by omega
            go_wp2_with fail
            go_ret
            exact ⟨rfl, l * 2048, .inr ⟨HR.out, hi', l, by omega, HLO.out, fun _ => HHI.out, by rw [if_neg (by omega)]⟩, rfl⟩
  · have hrf : rightW w = false := by simpa using hr
    rw [hrf] at he
    subst he
    subst hw1
    have HR := Lib.hid hrf
    clear hr hrf
    go_wp2_with fail
    go_ret
    exact ⟨rfl, 0, .inl ⟨.inl HR.out, rfl⟩, rfl⟩

set_option maxRecDepth 20000 in
set_option maxHeartbeats 8000000 in
theorem walk (v : Value) (w : List Nat) (i : Int) (W : World) (hw : ∀ x ∈ w, Wf64 x) (hs : SliceOf W v 1 encF w) :
    Calls Try.prog 4 #[v, .int .i64 i] W fun e w' => e = .returned (.bool true) ∧ Below W.heap.size W w' := by
  obtain ⟨m, hmin, hml, hmc⟩ := min_cut w 30
  have HS := hs
  obtain ⟨a, cap, rfl, hc, hcm, _⟩ := hs
  have HW := Lib.hid (mem_cut (w := w) hw m)
  have HSC := Lib.hid (slice_cut HS m hml)
  have hlen := len_cut hml
  generalize w.take m = u at *
  subst hlen
  have emin : (min (w.length : Int) 30).toNat = u.length := by omega
  have HM := Lib.hid emin
  clear HS hw hmin emin
  go_enter Try.func4, Try.ntmps4
  go_wp2_with fail
  refine (shown_any _).mono ?_; rintro e w1 ⟨rfl, g1⟩
  have HS1 := Lib.hid (slice_chgF HSC.out g1); have G1 := Lib.hid g1
  clear g1 HSC
  go_wp2_with fail
  rw [HM.out]
  generalize min (w.length : Int) 30 = mi
  refine (share_any _ u i _ HS1.out HW.out).mono ?_; rintro e w2 ⟨g2, r, hr, he⟩
  have HS2 := Lib.hid (slice_chgF HS1.out g2); have G2 := Lib.hid (G1.out.trans' g2)
  have HR := Lib.hid hr
  subst he
  clear g2 HS1 G1 hr
  go_wp2_with fail
  refine (rshare_any _ u i _ HS2.out HW.out).mono ?_; rintro e w3 ⟨hw3, s, hs, he⟩
  obtain rfl := hs.one HR.out
  subst he
  subst hw3
  clear hs
  go_wp2_with fail
  go_ret
  exact ⟨by simp, G2.out.below_nil⟩

/-! ### The row's step -/
theorem own : ownKnob Try.prog.godebug = none := by kernel_rfl
theorem laid : laidOutB Try.prog = true := by kernel_rfl

set_option maxRecDepth 100000 in
theorem lifted (os : Os) (started : os.Started) (H : Type) (enc : TypeId × Value → H) :
    ReturnsInHanded {} Try.checked os 4 .any (Rows.weighSharesSpec.pre6 enc Try.prog Try.f4 Rows.weighSharesRow.domain false) (Rows.weighSharesSpec.post enc Try.prog Try.f4 false true false false) := by
  refine lift_law (C := Try.checked) (tb := 4) own started (by kernel_rfl) Try.func4
    (ChangeSpec.witness6 (enc := enc) (C := Try.checked) false ⟨#[], #[.slice none 0 0, .int .i64 0], []⟩ 8 (by kernel_rfl) (by kernel_rfl) (by kernel_rfl) (by kernel_rfl))
    laid (by rw [Try.params4]; intro t ht; simp only [List.mem_cons, List.not_mem_nil, or_false] at ht; rcases ht with rfl | rfl <;> exact ⟨by kernel_rfl, of_decide_eq_true (by kernel_rfl)⟩) (by kernel_rfl) Try.underlying4 rfl
    (fun ds h => by rw [Try.params4] at h; match ds, h with | [d0, d1], _ => rfl) ?_
  intro W base args ds before hval hA hlt hsz
  rw [Try.params4] at hA hval
  have hlt0 := hlt
  obtain ⟨v0, vs0, d0, ds0, p0, q0, hargs, rfl, rfl, h0, r0⟩ := trodAll_cons hA
  obtain ⟨v1, vs1, d1, ds1, p1, q1, rfl, rfl, rfl, h1, r1⟩ := trodAll_cons r0
  obtain ⟨rfl, rfl, rfl⟩ := trodAll_nil r1
  obtain rfl : args = #[v0, v1] := by cases args; simp_all
  have l0 : ∀ p ∈ p0, p.block < W.heap.size := fun x hx => hlt x (by simp [hx])
  have l1 : ∀ p ∈ p1, p.block < W.heap.size := fun x hx => hlt x (by simp [hx])
  obtain ⟨zs, zg, zm, zs1⟩ := open_arg_slice 1 encF Wf64 Try.underlying22 (by kernel_rfl) (by omega) (hval 0 22 v0 rfl rfl) decF h0 l0
  obtain ⟨a1, rfl, rfl, rfl, wa1⟩ := open_int Try.underlying3 (hval 1 3 v1 rfl rfl) h1
  exact walk v0 zs a1 W zg zs1

theorem over : Rows.weighSharesRow.holds Try.pinned (OpenSpec.ofChange Rows.weighSharesSpec) :=
  OpenClaim.holds_of_wide 4 Try.f4 rfl rfl rfl rfl rfl rfl rfl ⟨rfl, rfl, rfl, rfl, rfl⟩ rfl rfl rfl rfl rfl (by kernel_rfl) Try.func4 (by kernel_rfl)
    (of_decide_eq_true (by kernel_rfl)) (by unfold Func.isWrapper; first | (rw [if_pos (by decide +kernel)]; kernel_rfl) | (rw [if_neg (by decide +kernel)]; exact ⟨rfl, rfl⟩))
    (fun os started H enc _ => lifted os started H enc)

/-- The statement. -/
theorem proved : Rows.WeighSharesSaid :=
  over
#print axioms proved

end Go.Proofs.Ytgoelobkehebjaa.Shares
