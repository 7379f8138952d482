/-
  The document's answers: Right, upTo, Total, Pick of flumeref14.
-/
import Derived.Test.YtgoelobkehebjaaShare
namespace Go.Proofs.Ytgoelobkehebjaa.Wg
open Go.ChangeShapes Go.WideShapes Go.ChangeAt Go.RowKit
open Go.Proofs.Ytgoelobkehebjaa.B Go.Proofs.Ytgoelobkehebjaa.Fl
set_option linter.unusedVariables false
set_option linter.unusedSimpArgs false

theorem rightW_len {w : List Nat} (h : w.length < 1 ∨ 64 < w.length) : rightW w = false := by
  cases hr : rightW w with
  | false => rfl
  | true => have := rightW_ok hr; omega
set_option maxHeartbeats 4000000 in
theorem rright_any (sv : Value) (w : List Nat) (W : World) (hs : SliceOf W sv 1 encF w) (hw : ∀ x ∈ w, x < 2 ^ 64) :
    Calls Try.prog 13 #[sv] W fun e w' => e = .returned (.bool (rightW w)) ∧ w' = W := by
  obtain ⟨a, cap, rfl, hc, hcm, hcell⟩ := hs
  have hm : w.length ≤ maxLen := by omega
  unfold maxLen at hm hcm
  have HCELL := Lib.hid hcell
  have HW := Lib.hid hw
  clear hcell hw
  by_cases hl1 : w.length < 1
  · have HR := Lib.hid (rightW_len (.inl hl1))
    have hl1' : (w.length : Int) < 1 := by omega
    go_enter Try.func13, Try.ntmps13
    go_wp2_with fail
    go_ret
    exact ⟨by rw [HR.out]; rfl, rfl⟩
  by_cases hl2 : 64 < w.length
  · have HR := Lib.hid (rightW_len (.inr hl2))
    have hl1' : ¬ (w.length : Int) < 1 := by omega
    have hl2' : (64 : Int) < (w.length : Int) := by omega
    go_enter Try.func13, Try.ntmps13
    go_wp2_with fail
    go_ret
    exact ⟨by rw [HR.out]; rfl, rfl⟩
  have hl1' : ¬ (w.length : Int) < 1 := by omega
  have hl2' : ¬ (64 : Int) < (w.length : Int) := by omega
  go_enter Try.func13, Try.ntmps13
  go_wp2_with fail
  go_loop [3, 4] (fun so i => ∃ k : Nat, k ≤ w.length ∧ i = .int .i64 k ∧ so = .bool (anyTo w k) ∧ (∀ x ∈ w.take k, okB x = true)) (fun _ i => w.length - (intOf i).toNat)
  case atStart => exact ⟨0, Nat.zero_le _, rfl, rfl, by simp⟩
  case round =>
    obtain ⟨k, hk, rfl, rfl, hok⟩ := hrel
    have HOK := Lib.hid hok
    clear hok
    obtain ⟨so, hso⟩ : ∃ so, so = anyTo w k := ⟨_, rfl⟩
    rw [← hso]
    have HSO := Lib.hid hso
    clear hso
    by_cases hlt : k < w.length
    · skip
      obtain ⟨x, hx⟩ : ∃ x, w[k]? = some x := ⟨_, List.getElem?_eq_getElem hlt⟩
      obtain ⟨b, off, rfl, hb, c0'⟩ := HCELL.out (by omega)
      have c0 : W.cell? ⟨b, off + k, none⟩ = some (.float .f64 x) := by have := c0' k x hx 0 (by omega); simpa [encF] using this
      have hbx := HW.out x (List.mem_of_getElem? hx)
      clear c0'
      have HX := Lib.hid hx
      clear hx
      rcases facts' hbx with ⟨h1, hp, o1, o2, o3⟩ | ⟨h1, hp, o1, o2, o3⟩ | ⟨h1, hp, o1, o2, o3⟩ | ⟨h1, hp, o1, o2, o3⟩ | ⟨h1, o1, o2, o3⟩ | ⟨h1, o1, o2, o3⟩ | ⟨h1, o1, o2, o3⟩
      · skip
        have HO := Lib.hid h1; have HP := Lib.hid hp
        clear h1 hp
        cases so
        · go_wp2_with fail
          go_round
          case rel => exact ⟨k + 1, by omega, by go_num, by rw [anyTo_succ HX.out, ← HSO.out, HP.out]; rfl, okTo_succ HX.out HOK.out HO.out⟩
          case measure => simp [intOf]; omega
        · go_wp2_with fail
          go_round
          case rel => exact ⟨k + 1, by omega, by go_num, by rw [anyTo_succ HX.out, ← HSO.out, HP.out]; rfl, okTo_succ HX.out HOK.out HO.out⟩
          case measure => simp [intOf]; omega
      · skip
        have HO := Lib.hid h1; have HP := Lib.hid hp
        clear h1 hp
        cases so
        · go_wp2_with fail
          go_round
          case rel => exact ⟨k + 1, by omega, by go_num, by rw [anyTo_succ HX.out, ← HSO.out, HP.out]; rfl, okTo_succ HX.out HOK.out HO.out⟩
          case measure => simp [intOf]; omega
        · go_wp2_with fail
          go_round
          case rel => exact ⟨k + 1, by omega, by go_num, by rw [anyTo_succ HX.out, ← HSO.out, HP.out]; rfl, okTo_succ HX.out HOK.out HO.out⟩
          case measure => simp [intOf]; omega
      · skip
        have HO := Lib.hid h1; have HP := Lib.hid hp
        clear h1 hp
        cases so
        · go_wp2_with fail
          go_round
          case rel => exact ⟨k + 1, by omega, by go_num, by rw [anyTo_succ HX.out, ← HSO.out, HP.out]; rfl, okTo_succ HX.out HOK.out HO.out⟩
          case measure => simp [intOf]; omega
        · go_wp2_with fail
          go_round
          case rel => exact ⟨k + 1, by omega, by go_num, by rw [anyTo_succ HX.out, ← HSO.out, HP.out]; rfl, okTo_succ HX.out HOK.out HO.out⟩
          case measure => simp [intOf]; omega
      · skip
        have HO := Lib.hid h1; have HP := Lib.hid hp
        clear h1 hp
        cases so
        · go_wp2_with fail
          go_round
          case rel => exact ⟨k + 1, by omega, by go_num, by rw [anyTo_succ HX.out, ← HSO.out, HP.out]; rfl, okTo_succ HX.out HOK.out HO.out⟩
          case measure => simp [intOf]; omega
        · go_wp2_with fail
          go_round
          case rel => exact ⟨k + 1, by omega, by go_num, by rw [anyTo_succ HX.out, ← HSO.out, HP.out]; rfl, okTo_succ HX.out HOK.out HO.out⟩
          case measure => simp [intOf]; omega
      · skip
        have HO := Lib.hid (rightW_bad HX.out h1)
        clear h1
        go_wp2_with fail
        go_ret
        exact ⟨by rw [HO.out]; rfl, rfl⟩
      · skip
        have HO := Lib.hid (rightW_bad HX.out h1)
        clear h1
        go_wp2_with fail
        go_ret
        exact ⟨by rw [HO.out]; rfl, rfl⟩
      · skip
        have HO := Lib.hid (rightW_bad HX.out h1)
        clear h1
        go_wp2_with fail
        go_ret
        exact ⟨by rw [HO.out]; rfl, rfl⟩
    · have hkl : k = w.length := by omega
      have HK := Lib.hid hkl
      have e0 := rightW_end (w := w) (by rw [← hkl]; exact HOK.out)
      clear hkl
      rw [← HK.out, ← HSO.out] at e0
      have HE := Lib.hid e0
      clear e0
      go_wp2_with fail
      go_ret
      refine ⟨?_, rfl⟩
      rw [HE.out, HK.out]
      simp [show w.length ≤ 64 by omega]

set_option maxHeartbeats 4000000 in
theorem upTo_ok (sv : Value) (w : List Nat) (n : Nat) (W : World) (hs : SliceOf W sv 1 encF w) (hw : ∀ x ∈ w, okB x = true) (hl : w.length ≤ 64) (hn : n < w.length) :
    Calls Try.prog 21 #[sv, .int .i64 n] W fun e w' => e = .returned (.float .f64 (sumTo w (n + 1))) ∧ w' = W := by
  obtain ⟨a, cap, rfl, hc, hcm, hcell⟩ := hs
  have hm : w.length ≤ maxLen := by omega
  unfold maxLen at hm hcm
  have HCELL := Lib.hid hcell
  have HW := Lib.hid hw
  clear hcell hw
  go_enter Try.func21, Try.ntmps21
  go_wp2_with fail
  go_loop [5, 6] (fun s i => ∃ k : Nat, k ≤ n + 1 ∧ i = .int .i64 k ∧ s = .float .f64 (sumTo w k)) (fun _ i => w.length - (intOf i).toNat)
  case atStart => exact ⟨0, Nat.zero_le _, rfl, rfl⟩
  case round =>
    obtain ⟨k, hk, rfl, rfl⟩ := hrel
    by_cases hlt' : k ≤ n
    · have hlt : k < w.length := by omega
      obtain ⟨x, hx⟩ : ∃ x, w[k]? = some x := ⟨_, List.getElem?_eq_getElem hlt⟩
      obtain ⟨b, off, rfl, hb, hcells⟩ := HCELL.out (by omega)
      have c0 : W.cell? ⟨b, off + k, none⟩ = some (.float .f64 x) := by have := hcells k x hx 0 (by omega); simpa [encF] using this
      have ha := add_sumTo HW.out (by omega) hx
      have hr := fun w' : World => run_float_arith (P := Try.prog) w' .add 26 .f64 _ _ _ ha
      clear ha hcells
      have HX := Lib.hid hx
      clear hx
      obtain ⟨s0, hs0⟩ : ∃ s0, s0 = sumTo w k := ⟨_, rfl⟩
      obtain ⟨s1, hs1⟩ : ∃ s1, s1 = sumTo w (k + 1) := ⟨_, rfl⟩
      rw [← hs0, ← hs1] at hr
      rw [← hs0]
      have HS0 := Lib.hid hs0; have HS1 := Lib.hid hs1
      clear hs0 hs1
      go_wp2_with fail
      go_round
      case rel => exact ⟨k + 1, by omega, by go_num, by rw [HS1.out]⟩
      case measure => simp [intOf]; omega
    · obtain rfl : k = n + 1 := by omega
      go_wp2_with fail
      go_ret
      exact ⟨rfl, rfl⟩

set_option maxHeartbeats 4000000 in
theorem rtotal_any (sv : Value) (w : List Nat) (W : World) (hs : SliceOf W sv 1 encF w) (hw : ∀ x ∈ w, x < 2 ^ 64) :
    Calls Try.prog 15 #[sv] W fun e w' => e = .returned (.float .f64 (totalW w)) ∧ w' = W := by
  have HS := Lib.hid hs; have HW := Lib.hid hw
  obtain ⟨a, cap, rfl⟩ := slice_len hs
  clear hs hw
  go_enter Try.func15, Try.ntmps15
  go_wp2_with fail
  refine (rright_any _ w _ HS.out HW.out).mono ?_; rintro e w1 ⟨he, hw1⟩
  by_cases hr : rightW w = true
  · rw [hr] at he
    subst he
    subst hw1
    have HR := Lib.hid hr
    obtain ⟨h1, h2, h3⟩ := rightW_ok hr
    have HO := Lib.hid h1
    clear hr h1
    go_wp2_with fail
    have ed : ((w.length : Int) - 1) = ((w.length - 1 : Nat) : Int) := by omega
    rw [ed]
    refine (upTo_ok _ w (w.length - 1) _ HS.out HO.out h3 (by omega)).mono ?_; rintro e w2 ⟨he, hw2⟩
    rw [show w.length - 1 + 1 = w.length by omega] at he
    subst he
    subst hw2
    clear ed
    go_wp2_with fail
    go_ret
    exact ⟨by unfold totalW; rw [if_pos HR.out]; rfl, rfl⟩
  · have hrf : rightW w = false := by simpa using hr
    rw [hrf] at he
    subst he
    subst hw1
    have HR := Lib.hid hrf
    clear hr hrf
    go_wp2_with fail
    go_ret
    exact ⟨by unfold totalW; rw [if_neg (by rw [HR.out]; simp)]; rfl, rfl⟩

set_option maxRecDepth 20000 in
set_option maxHeartbeats 4000000 in
theorem rpick_any (sv : Value) (w : List Nat) (d : Nat) (W : World) (hs : SliceOf W sv 1 encF w) (hw : ∀ x ∈ w, x < 2 ^ 64) (hd : d < 2 ^ 64) :
    Calls Try.prog 17 #[sv, .int .u64 d] W fun e w' => e = .returned (.int .i64 (pickW w d)) ∧ w' = W := by
  have HS := Lib.hid hs; have HW := Lib.hid hw
  obtain ⟨a, cap, rfl, hc, hcm, hcell⟩ := hs
  have HCELL := Lib.hid hcell
  clear hw hcell
  go_enter Try.func17, Try.ntmps17
  go_wp2_with fail
  refine (rright_any _ w _ HS.out HW.out).mono ?_; rintro e w1 ⟨he, hw1⟩
  by_cases hr : rightW w = true
  · rw [hr] at he
    subst he
    subst hw1
    have HR := Lib.hid hr
    obtain ⟨h1, h2, h3⟩ := rightW_ok hr
    have HO := Lib.hid h1
    clear hr
    have hn : d / 2048 < 2 ^ 53 := by omega
    obtain ⟨n, hnn⟩ : ∃ n, n = d / 2048 := ⟨_, rfl⟩
    rw [← hnn] at hn
    have ed : ((d : Int) / 2048) = (n : Int) := by omega
    have HN := Lib.hid hnn
    clear hnn
    have hfin := fun i hi => sumTo_fin h1 (by omega) (i := i) hi
    have HF := Lib.hid hfin
    have hS : sumW w < INF := hfin _ (Nat.le_refl _)
    have hX := drawX_fin hn hS
    obtain ⟨X, hXX⟩ : ∃ X, X = drawX n (sumW w) := ⟨_, rfl⟩
    have hq := fun w' : World => run_float_arith (P := Try.prog) w' .quo 26 .f64 _ _ _ (quo_part hn)
    have hm := fun w' : World => run_float_arith (P := Try.prog) w' .mul 26 .f64 _ _ _ (mul_draw hn hS)
    unfold C53 at hq
    rw [← hXX] at hm hX
    have HX := Lib.hid hXX; have HXX := Lib.hid hX; have HSF := Lib.hid hS
    clear hX hXX hfin hS h1
    obtain ⟨S, hSS⟩ : ∃ S, S = sumW w := ⟨_, rfl⟩
    rw [← hSS] at hm
    obtain ⟨p, hp⟩ : ∃ p, p = Fl.part n := ⟨_, rfl⟩
    rw [← hp] at hm hq
    have HSS := Lib.hid hSS
    have hxf : X < INF := Nat.lt_of_le_of_lt HXX.out HSF.out
    clear hSS hp hn
    go_wp2_with fail
    refine (rtotal_any _ w _ HS.out HW.out).mono ?_; rintro e w2 ⟨he, hw2⟩
    rw [show totalW w = S by rw [HSS.out]; unfold totalW; rw [if_pos HR.out]] at he
    subst he
    subst hw2
    go_wp2_with fail
    clear hq hm
    go_loop [7] (fun i => ∃ k : Nat, k ≤ w.length ∧ i = .int .i64 k ∧ (∀ j, j < k → ¬ X < sumTo w (j + 1))) (fun i => w.length - (intOf i).toNat)
    case atStart => exact ⟨0, Nat.zero_le _, rfl, fun j hj => by omega⟩
    case round =>
      obtain ⟨k, hk, rfl, hno⟩ := hrel
      have HNO := Lib.hid hno
      clear hno
      by_cases hlt : k < w.length
      · go_wp2_with fail
        refine (upTo_ok _ w k _ HS.out HO.out h3 hlt).mono ?_; rintro e w3 ⟨he, hw3⟩
        obtain ⟨s, hs⟩ : ∃ s, s = sumTo w (k + 1) := ⟨_, rfl⟩
        have hsf := HF.out (k + 1) (by omega)
        rw [← hs] at he hsf
        have HSK := Lib.hid hs
        clear hs
        subst he
        subst hw3
        by_cases hgt : X < s
        · have o1 := order_gt hsf hxf hgt
          have HGT := Lib.hid hgt
          clear hgt hsf
          go_wp2_with fail
          go_ret
          exact ⟨by unfold pickW; rw [if_pos HR.out]; unfold atW; rw [← HN.out, ← HX.out, firstGt_hit hlt HNO.out (by rw [← HSK.out]; exact HGT.out)]; rfl, rfl⟩
        · have hno' : ∀ j, j < k + 1 → ¬ X < sumTo w (j + 1) := by
            intro j hj
            rcases Nat.lt_or_eq_of_le (Nat.le_of_lt_succ hj) with h | h
            · exact HNO.out j h
            · rw [h, ← HSK.out]; exact hgt
          have HNO' := Lib.hid hno'
          have hor := order_le hsf hxf hgt
          clear hno' hsf hgt
          rcases hor with o1 | o1
          · go_wp2_with fail
            go_round
            case rel => exact ⟨k + 1, by omega, by go_num, HNO'.out⟩
            case measure => simp [intOf]; omega
          · go_wp2_with fail
            go_round
            case rel => exact ⟨k + 1, by omega, by go_num, HNO'.out⟩
            case measure => simp [intOf]; omega
      · obtain rfl : k = w.length := by omega
        have hp : pickW w d = lastTo w w.length := by unfold pickW; rw [if_pos HR.out]; unfold atW; rw [← HN.out, ← HX.out, firstGt_none HNO.out]; rfl
        have HP := Lib.hid hp
        clear hp hk hlt
        go_wp2_with fail
        go_loop [8, 9] (fun l i => ∃ k : Nat, k ≤ w.length ∧ i = .int .i64 k ∧ l = .int .i64 (lastTo w k)) (fun _ i => w.length - (intOf i).toNat)
        case atStart => exact ⟨0, Nat.zero_le _, rfl, rfl⟩
        case round =>
          obtain ⟨k, hk, rfl, rfl⟩ := hrel
          obtain ⟨la, hla⟩ : ∃ la, la = lastTo w k := ⟨_, rfl⟩
          rw [← hla]
          have HLA := Lib.hid hla
          clear hla
          by_cases hlt : k < w.length
          · obtain ⟨x, hx⟩ : ∃ x, w[k]? = some x := ⟨_, List.getElem?_eq_getElem hlt⟩
            obtain ⟨b, off, rfl, hb, hcells⟩ := HCELL.out (by omega)
            have c0 : w2.cell? ⟨b, off + k, none⟩ = some (.float .f64 x) := by have := hcells k x hx 0 (by omega); simpa [encF] using this
            have hpc := pos_cmp (HO.out x (List.mem_of_getElem? hx))
            have HXK := Lib.hid hx
            clear hx hcells
            rcases hpc with ⟨hp, o2⟩ | ⟨hp, o2⟩
            · have HP := Lib.hid hp
              clear hp
              go_wp2_with fail
              go_round
              case rel => exact ⟨k + 1, by omega, by go_num, by rw [lastTo_succ HXK.out, HP.out]; rfl⟩
              case measure => simp [intOf]; omega
            · have HP := Lib.hid hp
              clear hp
              go_wp2_with fail
              go_round
              case rel => exact ⟨k + 1, by omega, by go_num, by rw [lastTo_succ HXK.out, HP.out, HLA.out]; rfl⟩
              case measure => simp [intOf]; omega
          · obtain rfl : k = w.length := by omega
            go_wp2_with fail
            go_ret
            exact ⟨by rw [HP.out, ← HLA.out]; rfl, rfl⟩
  · have hrf : rightW w = false := by simpa using hr
    rw [hrf] at he
    subst he
    subst hw1
    have HR := Lib.hid hrf
    clear hr hrf
    go_wp2_with fail
    go_ret
    exact ⟨by unfold pickW; rw [if_neg (by rw [HR.out]; simp)]; rfl, rfl⟩
end Go.Proofs.Ytgoelobkehebjaa.Wg
