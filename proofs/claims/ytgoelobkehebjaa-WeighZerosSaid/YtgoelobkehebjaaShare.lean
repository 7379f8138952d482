/-
  Share of package weigh; a greater draw is no earlier place.
-/
import Derived.Test.YtgoelobkehebjaaPick
namespace Go.Proofs.Ytgoelobkehebjaa.Wg
open Go.ChangeShapes Go.WideShapes Go.ChangeAt Go.RowKit
open Go.Proofs.Ytgoelobkehebjaa.B Go.Proofs.Ytgoelobkehebjaa.Fl
set_option linter.unusedVariables false
set_option linter.unusedSimpArgs false

theorem firstGt_some {w : List Nat} {x k : Nat} (h : firstGt w x = some k) : k < w.length ∧ x < sumTo w (k + 1) ∧ ∀ j, j < k → ¬ x < sumTo w (j + 1) := by
  unfold firstGt at h
  rw [List.find?_range_eq_some] at h
  obtain ⟨h1, h2, h3⟩ := h
  refine ⟨by simpa using h2, by simpa using h1, fun j hj => ?_⟩
  have := h3 j hj
  simpa using this
theorem firstGt_none' {w : List Nat} {x : Nat} (h : firstGt w x = none) : ∀ j, j < w.length → ¬ x < sumTo w (j + 1) := by
  unfold firstGt at h
  rw [List.find?_range_eq_none] at h
  intro j hj
  have := h j hj
  simpa using this
theorem addF_zero {s x : Nat} (h : wv x = 0) : addF s x = s := by unfold addF; rw [h, Nat.add_zero, R_val]
theorem wv_nonpos {x : Nat} (h : posB x = false) : wv x = 0 := by
  unfold posB at h
  simp only [Bool.and_eq_false_iff, decide_eq_false_iff_not] at h
  unfold wv
  rcases h with h | h
  · obtain rfl : x = 0 := by omega
    rfl
  · have : x = 2 ^ 63 := by omega
    rw [if_pos this]
/-- A place that is hit has a weight. -/
theorem hit_pos {w : List Nat} {x k y : Nat} (hk : w[k]? = some y) (h : ∀ j, j < k → ¬ x < sumTo w (j + 1)) (h1 : x < sumTo w (k + 1)) : posB y = true := by
  apply Classical.byContradiction
  intro hp
  have hz := wv_nonpos (x := y) (by simpa using hp)
  rw [sumTo_succ hk, addF_zero hz] at h1
  cases k with
  | zero => rw [sumTo_zero] at h1; omega
  | succ k => exact h k (by omega) h1
theorem lastTo_ge {w : List Nat} {k y n : Nat} (hk : w[k]? = some y) (hp : posB y = true) (hn : k < n) : k ≤ lastTo w n := by
  induction n with
  | zero => omega
  | succ n ih =>
    rcases Nat.lt_or_eq_of_le (Nat.le_of_lt_succ hn) with h | h
    · have := ih h
      unfold lastTo
      split <;> omega
    · subst h
      rw [lastTo_succ hk, if_pos hp]; exact Nat.le_refl _
theorem atW_mono {w : List Nat} {n m : Nat} (h : n ≤ m) : atW w n ≤ atW w m := by
  have hx : drawX n (sumW w) ≤ drawX m (sumW w) := drawX_mono h
  unfold atW
  generalize drawX n (sumW w) = x at *
  generalize drawX m (sumW w) = y at *
  cases hy : firstGt w y with
  | some k =>
    obtain ⟨h1, h2, h3⟩ := firstGt_some hy
    cases hxx : firstGt w x with
    | some j =>
      obtain ⟨g1, g2, g3⟩ := firstGt_some hxx
      simp only [Option.getD_some]
      apply Classical.byContradiction
      intro hc
      exact g3 k (by omega) (by omega)
    | none => exact absurd (show x < sumTo w (k + 1) by omega) (firstGt_none' hxx k h1)
  | none =>
    cases hxx : firstGt w x with
    | some j =>
      obtain ⟨g1, g2, g3⟩ := firstGt_some hxx
      simp only [Option.getD_some, Option.getD_none]
      have hk : w[j]? = some w[j] := List.getElem?_eq_getElem g1
      exact lastTo_ge hk (hit_pos hk g3 g2) g1
    | none => exact Nat.le_refl _

/-- What Share tells. -/
def ShareIs (w : List Nat) (i : Int) (r : Nat) : Prop :=
  ((rightW w = false ∨ i ≤ 0) ∧ r = 0) ∨
  (rightW w = true ∧ 0 < i ∧ ∃ low, low ≤ 9007199254740992 ∧ (∀ m, m < low → (atW w m : Int) < i) ∧ (low < 9007199254740992 → i ≤ atW w low) ∧ r = if low = 9007199254740992 then 18446744073709551615 else low * 2048)
theorem ShareIs.one {w : List Nat} {i : Int} {r s : Nat} (h : ShareIs w i r) (k : ShareIs w i s) : r = s := by
  rcases h with ⟨h1, h2⟩ | ⟨h1, h2, low, h3, h4, h5, h6⟩ <;> rcases k with ⟨k1, k2⟩ | ⟨k1, k2, lw, k3, k4, k5, k6⟩
  · omega
  · rcases h1 with h1 | h1
    · rw [h1] at k1; cases k1
    · omega
  · rcases k1 with k1 | k1
    · rw [h1] at k1; cases k1
    · omega
  · have : low = lw := by
      rcases Nat.lt_trichotomy low lw with h | h | h
      · have a := h5 (by omega); have b := k4 low h; omega
      · exact h
      · have a := k5 (by omega); have b := h4 lw h; omega
    subst this
    rw [h6, k6]

set_option maxRecDepth 20000 in
set_option maxHeartbeats 8000000 in
theorem share_any (sv : Value) (w : List Nat) (i : Int) (W : World) (hs : SliceOf W sv 1 encF w) (hw : ∀ x ∈ w, x < 2 ^ 64) :
    Calls Try.prog 18 #[sv, .int .i64 i] W fun e w' => Chg [] W w' ∧ ∃ r, ShareIs w i r ∧ e = .returned (.int .u64 r) := by
  have HS := Lib.hid hs; have HW := Lib.hid hw
  obtain ⟨a, cap, rfl⟩ := slice_len hs
  clear hs hw
  go_enter Try.func18, Try.ntmps18
  go_wp2_with fail
  refine (right_any _ w _ HS.out HW.out).mono ?_; rintro e w1 ⟨he, hw1⟩
  by_cases hr : rightW w = true
  · by_cases hi : i ≤ 0
    · rw [hr] at he
      subst he
      subst hw1
      clear hr
      go_wp2_with fail
      go_ret
      exact ⟨Chg.refl _, 0, .inl ⟨.inr hi, rfl⟩, rfl⟩
    · rw [hr] at he
      subst he
      subst hw1
      have HR := Lib.hid hr
      obtain ⟨h1, h2, h3⟩ := rightW_ok hr
      have HO := Lib.hid h1
      clear hr h1
      have hi' : 0 < i := by omega
      go_wp2_with fail
      refine (sums_ok _ w _ HS.out HO.out h3).mono ?_; rintro e w2 ⟨he, ha, hb⟩
      subst he
      have HSS := Lib.hid (sliceOf_sums ha h3)
      have HSL := Lib.hid (slice_chgF HS.out hb.chg_nil)
      have HB := Lib.hid hb.chg_nil
      generalize w1.heap.size = N at *
      clear ha hb
      go_wp2_with fail
      go_loop [6, 7] (fun lo hi => ∃ l h : Nat, lo = .int .u64 l ∧ hi = .int .u64 h ∧ l ≤ h ∧ h ≤ 9007199254740992 ∧ (∀ m, m < l → (atW w m : Int) < i) ∧ (h < 9007199254740992 → i ≤ atW w h)) (fun lo hi => (intOf hi - intOf lo).toNat)
      case atStart => exact ⟨0, 9007199254740992, rfl, rfl, by omega, by omega, fun m hm => by omega, fun h => by omega⟩
      case round =>
        obtain ⟨l, h, rfl, rfl, hlh, hh, hlow, hhigh⟩ := hrel
        have HLO := Lib.hid hlow; have HHI := Lib.hid hhigh
        clear hlow hhigh
        by_cases hlt : l < h
        · have hmid : ((l : Int) + h) / 2 < 9007199254740992 := by omega
          have hsum : (l : Int) + h < 18446744073709551616 := by omega
          go_wp2_with fail
          obtain ⟨m, hm⟩ : ∃ m : Nat, m = (l + h) / 2 := ⟨_, rfl⟩
          have em : ((l : Int) + h) / 2 = (m : Int) := by omega
          rw [em]
          rw [em] at hmid
          have hml : l ≤ m := by omega
          have hmh : m < h := by omega
          clear em hm
          refine (at_ok _ _ w m _ HSL.out HSS.out HO.out h3 h2 (by omega)).mono ?_; rintro e w3 ⟨he, hw3⟩
          subst he
          obtain ⟨q, hq⟩ : ∃ q, q = atW w m := ⟨_, rfl⟩
          rw [← hq]
          have HQ := Lib.hid hq
          clear hq
          by_cases hqi : (q : Int) < i
          · subst hw3
            have hmid2 : (m : Int) + 1 < 18446744073709551616 := by omega
            go_wp2_with fail
            go_round
            case rel =>
              refine ⟨m + 1, h, by go_num, rfl, by omega, hh, fun x hx => ?_, HHI.out⟩
              have := @atW_mono w x m (by omega)
              rw [← HQ.out] at this
              omega
            case measure => simp [intOf]; omega
          · subst hw3
            have hqi' : i ≤ (q : Int) := by omega
            have HQI := Lib.hid hqi'
            have hd : ((q : Int) < i) = False := by simp; omega
            have HM := Lib.hid hmid; have HML := Lib.hid hml; have HLH := Lib.hid hlh
            clear hqi hqi' hmid hml hlh
            go_wp2_with fail
            go_round
            case rel => exact ⟨l, m, rfl, rfl, HML.out, by have := HM.out; omega, HLO.out, fun _ => by rw [← HQ.out]; exact HQI.out⟩
            case measure => simp [intOf]; have := HML.out; omega
        · obtain rfl : l = h := by omega
          by_cases he : l = 9007199254740992
          · subst he
            go_wp2_with fail
            go_ret
            exact ⟨HB.out, 18446744073709551615, .inr ⟨HR.out, hi', 9007199254740992, by omega, HLO.out, fun h => by omega, by rw [if_pos rfl]⟩, rfl⟩
          · go_wp2_with fail
            go_ret
            exact ⟨HB.out, l * 2048, .inr ⟨HR.out, hi', l, hh, HLO.out, HHI.out, by rw [if_neg he]⟩, rfl⟩
  · have hrf : rightW w = false := by simpa using hr
    rw [hrf] at he
    subst he
    subst hw1
    have HR := Lib.hid hrf
    clear hr hrf
    go_wp2_with fail
    go_ret
    exact ⟨Chg.refl _, 0, .inl ⟨.inl HR.out, rfl⟩, rfl⟩
end Go.Proofs.Ytgoelobkehebjaa.Wg
