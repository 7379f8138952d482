/-
  The document's full and GetInt.
-/
import Derived.Test.YtmoeioaahampaaaPut
import Derived.Test.YtmoeioaahampaaaRDec
namespace Go.Proofs.Ytmoeioaahampaaa.Hi
open Go.ChangeShapes Go.WideShapes Go.ChangeAt Go.RowKit
open Go.Proofs.Ytmoeioaahampaaa.B
set_option linter.unusedVariables false
set_option linter.unusedSimpArgs false

set_option maxHeartbeats 1000000 in
theorem full_any (P : Nat) (h1 : 1 ≤ P) (h2 : P ≤ 8) (w : World) :
    Calls Try.prog 75 #[.int .i64 P] w fun e w' => e = .returned (.int .i64 ((2 ^ P - 1 : Nat) : Int)) ∧ w' = w := by
  go_enter Try.func75, Try.ntmps75
  go_wp2_with fail
  go_loopw [3, 4] (fun mv iv wr => ∃ i M : Nat, i ≤ P ∧ iv = .int .i64 i ∧ M = 2 ^ i ∧ mv = .int .i64 M ∧ wr = w) (fun _ iv _ => P - (intOf iv).toNat)
  case atStart => exact ⟨0, 1, by omega, rfl, rfl, rfl, rfl⟩
  case round =>
    obtain ⟨i, M, hi, rfl, hM, rfl, rfl⟩ := hrel
    have hMb : M ≤ 256 := by rw [hM]; exact Nat.pow_le_pow_right (by omega) (show i ≤ 8 by omega) (n := 2)
    have hM0 : 0 < M := by rw [hM]; exact Nat.pow_pos (by omega)
    by_cases hlt : i < P
    · have hM2 : M * 2 = 2 ^ (i + 1) := by rw [hM, Nat.pow_succ]
      have HM := Lib.hid hM2
      clear hM hM2
      go_wp2_with fail
      go_roundw
      case rel => exact ⟨i + 1, M * 2, by omega, by go_num, HM.out, by go_num, by first | rfl | trivial⟩
      case measure => simp [intOf] <;> omega
    · obtain rfl : i = P := by omega
      have HM := Lib.hid hM
      clear hM
      go_wp2_with fail
      go_ret
      exact ⟨ret_int (by rw [← HM.out]; omega), rfl⟩
theorem str_drop (s : ByteArray) (i : Nat) (h : i < s.size) : s.data.toList.drop i = s[i] :: s.data.toList.drop (i + 1) := by
  rw [List.drop_eq_getElem_cons (by rw [Array.length_toList]; exact h)]; rfl
theorem unit_nat {i S T : Nat} (hi : i ≤ 5) (hT : T < 128) (hS : S = T * 128 ^ (i - 1)) : S ≤ 34091302912 := by
  have h1 : 128 ^ (i - 1) ≤ 268435456 := by
    have : 128 ^ (i - 1) ≤ 128 ^ 4 := Nat.pow_le_pow_right (by decide) (by omega)
    exact Nat.le_trans this (by decide)
  have h2 : T * 128 ^ (i - 1) ≤ 127 * 268435456 := Nat.mul_le_mul (by omega) h1
  omega
theorem ref_unit {x v U S T Y : Nat} (hv : v ≤ 2147483647) (hS : S ≤ 34091302912) (hT : T = x % 128) (hU : T * U = S) (hY : Y = v + S) : wrap64 ((v : Int) + wrap64 ((x : Int) % 128 * (U : Int))) = (Y : Int) := by
  have h1 : (x : Int) % 128 * (U : Int) = (S : Int) := by rw [← hU, hT, Int.natCast_mul]; rfl
  rw [h1, hY]; clear h1 hU hT; unfold wrap64; omega
set_option maxRecDepth 100000 in
set_option maxHeartbeats 4000000 in
theorem rgetint_any (s : ByteArray) (p : Int) (hs : s.size ≤ 140737488355328) (w : World) :
    Calls Try.prog 61 #[.string s, .int .i64 p] w fun e w' => e = .returned (.tuple #[.int .i64 (getI s.data.toList p).1, .int .i64 (getI s.data.toList p).2.1, .int .i64 (getI s.data.toList p).2.2]) ∧ w' = w := by
  by_cases hbad : p < 1 ∨ 8 < p
  · have hr : getI s.data.toList p = (0, 0, 1) := by unfold getI; rw [if_pos hbad]
    rw [hr]
    have hb : p < 1 ∨ (¬ p < 1 ∧ 8 < p) := by omega
    clear hbad hr
    rcases hb with h | ⟨h, h2⟩
    all_goals
      go_enter Try.func61, Try.ntmps61
      go_wp2_with fail
      refine ⟨rfl, _, by first | rfl | (simp [results, Try.results61, go_sem]; done) | (simp [results, Try.results61, go_sem]; rfl), ?_⟩
      exact ⟨rfl, rfl⟩
  · obtain ⟨P, rfl⟩ := Int.eq_ofNat_of_zero_le (show 0 ≤ p by omega)
    have hP1 : 1 ≤ P := by omega
    have hP8 : P ≤ 8 := by omega
    rw [getI_in hP1 hP8]
    have e1 : decide ((P : Int) < 1) = false := decide_eq_false (by omega)
    have e2 : decide ((8 : Int) < (P : Int)) = false := decide_eq_false (by omega)
    by_cases h0 : s.size = 0
    · have hn : s.data.toList = [] := by
        apply List.length_eq_zero_iff.1; rw [Array.length_toList]; exact h0
      have e3 : ((s.size : Int) == 0) = true := by simp [h0]
      rw [hn]
      clear hbad
      go_enter Try.func61, Try.ntmps61
      go_wp2_with fail
      refine ⟨rfl, _, by first | rfl | (simp [results, Try.results61, go_sem]; done) | (simp [results, Try.results61, go_sem]; rfl), ?_⟩
      exact ⟨rfl, rfl⟩
    · have hs0 : 0 < s.size := by omega
      have e3 : ((s.size : Int) == 0) = false := beq_eq_false_iff_ne.2 (by omega)
      have hd0 := str_drop s 0 hs0
      rw [List.drop_zero] at hd0
      obtain ⟨c, hc⟩ : ∃ c, c = s[0] := ⟨_, rfl⟩
      rw [← hc] at hd0
      obtain ⟨M, hM⟩ : ∃ M, M = 2 ^ P - 1 := ⟨_, rfl⟩
      have hpp : 2 ^ P ≤ 256 := Nat.pow_le_pow_right (by omega) hP8 (n := 2)
      have hpos : 0 < 2 ^ P := Nat.pow_pos (by omega)
      have hMb : M ≤ 255 := by omega
      obtain ⟨V, hV⟩ : ∃ V, V = c.toNat % 2 ^ P := ⟨_, rfl⟩
      have hVM : V ≤ M := by have := Nat.mod_lt c.toNat hpos; omega
      have hVm : V = c.toNat % (M + 1) := by rw [hV]; congr 1; omega
      have hg : getN P s.data.toList = if V < M then (V, 1, 0) else cont 1 V (s.data.toList.drop 1) := by rw [hd0, getN, ← hV, ← hM]; rfl
      have hcc : (s[0].toNat : Int) = (c.toNat : Int) := by rw [hc]
      have hc6 : (c.toNat : Int) < 256 := by have := c.toNat_lt; omega
      rw [hg]
      have hVi : (c.toNat : Int) % ((M : Int) + 1) = (V : Int) := by rw [hVm]; simp
      have HM := Lib.hid hM
      clear hM hpp hpos hV hVm hg hd0 hbad
      by_cases hvm : V < M
      · rw [if_pos hvm]
        go_enter Try.func61, Try.ntmps61
        go_wp2_with fail
        refine (full_any P hP1 hP8 _).mono ?_; rintro e w1 ⟨he, rfl⟩
        rw [← HM.out] at he
        subst he
        go_wp2_with fail
        rw [hVi]
        refine ⟨rfl, _, by first | rfl | (simp [results, Try.results61, go_sem]; done) | (simp [results, Try.results61, go_sem]; rfl), ?_⟩
        exact ⟨rfl, rfl⟩
      · rw [if_neg hvm]
        obtain ⟨R, hR⟩ : ∃ R, R = cont 1 V (s.data.toList.drop 1) := ⟨_, rfl⟩
        rw [← hR]
        have HR := Lib.hid hR
        clear hR
        have hmv : decide (V < M) = false := decide_eq_false hvm
        go_enter Try.func61, Try.ntmps61
        go_wp2_with fail
        refine (full_any P hP1 hP8 _).mono ?_; rintro e w1 ⟨he, rfl⟩
        rw [← HM.out] at he
        subst he
        go_upto_region 7 with fail
        rw [hVi]
        clear hVi
        go_wp2_with fail
        go_loopw [8, 9, 10] (fun vv uv iv wr => ∃ i v U : Nat, 1 ≤ i ∧ i ≤ s.size ∧ i ≤ 6 ∧ v ≤ 2147483647 ∧ vv = .int .i64 v ∧ U = 128 ^ (i - 1) ∧ uv = .int .i64 U ∧ iv = .int .i64 i ∧ R = cont i v (s.data.toList.drop i) ∧ wr = w1) (fun _ _ iv _ => 7 - (intOf iv).toNat)
        case atStart => exact ⟨1, V, 1, by omega, by omega, by omega, by omega, rfl, rfl, rfl, rfl, HR.out, rfl⟩
        case round =>
          clear HR
          obtain ⟨i, v, U, hi1, hi2, hi3, hv, rfl, hU, rfl, rfl, hcon, rfl⟩ := hrel
          by_cases hlt : i < s.size
          · obtain ⟨x, hx⟩ : ∃ x, x = s[i] := ⟨_, rfl⟩
            rw [str_drop s i hlt, ← hx, cont] at hcon
            have hxx : (s[i].toNat : Int) = (x.toNat : Int) := by rw [hx]
            have hx6 : (x.toNat : Int) < 256 := by have := x.toNat_lt; omega
            have hUb : U ≤ 34359738368 := by
              have : 128 ^ (i - 1) ≤ 128 ^ 5 := Nat.pow_le_pow_right (by decide) (by omega)
              rw [hU]; exact Nat.le_trans this (by decide)
            by_cases h5 : 5 < i
            · rw [if_pos h5] at hcon
              have hi6 : ((i : Int) == 6) = true := beq_iff_eq.2 (by omega)
              have HCON := Lib.hid hcon
              clear hcon hU hx
              go_wp2_with fail
              refine ⟨rfl, _, by first | rfl | (simp [results, Try.results61, go_sem]; done) | (simp [results, Try.results61, go_sem]; rfl), ?_⟩
              exact ⟨by rw [HCON.out]; rfl, rfl⟩
            · rw [if_neg h5] at hcon
              have hi6 : ((i : Int) == 6) = false := beq_eq_false_iff_ne.2 (by omega)
              obtain ⟨T, hT⟩ : ∃ T, T = x.toNat % 128 := ⟨_, rfl⟩
              obtain ⟨S, hS⟩ : ∃ S, S = T * 128 ^ (i - 1) := ⟨_, rfl⟩
              rw [← hT, ← hS] at hcon
              have hSb := unit_nat (by omega) (show T < 128 by omega) hS
              obtain ⟨Y, hY⟩ : ∃ Y, Y = v + S := ⟨_, rfl⟩
              rw [← hY] at hcon
              have hYb : Y ≤ 36238786559 := by omega
              have hU2 : U * 128 = 128 ^ (i + 1 - 1) := by rw [hU, ← Nat.pow_succ]; congr 1; omega
              have hsh := ref_unit (x := x.toNat) (U := U) hv hSb hT (by rw [hU, hS]) hY
              have HSH := Lib.hid hsh; have HC0 := Lib.hid hcon; have HU := Lib.hid hU2; have HYB := Lib.hid hYb
              clear hcon hU hx hT hS hSb hY hsh hU2 hYb
              go_upto_region 16 with fail
              rw [HSH.out]
              have hcon := HC0.out; have hYb := HYB.out
              clear HSH HC0 HYB
              by_cases hbig : (2147483647 : Int) < (Y : Int)
              · rw [if_pos (by omega)] at hcon
                have hbd : decide ((2147483647 : Int) < (Y : Int)) = true := decide_eq_true hbig
                have HCON := Lib.hid hcon
                clear hcon
                go_wp2_with fail
                refine ⟨rfl, _, by first | rfl | (simp [results, Try.results61, go_sem]; done) | (simp [results, Try.results61, go_sem]; rfl), ?_⟩
                exact ⟨by rw [HCON.out]; rfl, rfl⟩
              · rw [if_neg (by omega)] at hcon
                have hbd : decide ((2147483647 : Int) < (Y : Int)) = false := decide_eq_false hbig
                by_cases hx8 : x.toNat < 128
                · rw [if_pos hx8] at hcon
                  have HCON := Lib.hid hcon
                  clear hcon
                  go_wp2_with fail
                  refine ⟨rfl, _, by first | rfl | (simp [results, Try.results61, go_sem]; done) | (simp [results, Try.results61, go_sem]; rfl), ?_⟩
                  exact ⟨by rw [HCON.out]; simp, rfl⟩
                · rw [if_neg hx8] at hcon
                  have HCON := Lib.hid hcon
                  clear hcon
                  go_wp2_with fail
                  go_roundw
                  case rel => exact ⟨i + 1, Y, U * 128, by omega, by omega, by omega, by omega, rfl, HU.out, by go_num, by go_num, HCON.out, by first | rfl | trivial⟩
                  case measure => simp [intOf] <;> omega
          · obtain rfl : i = s.size := by omega
            rw [List.drop_of_length_le (by rw [Array.length_toList]; exact Nat.le_refl _), cont] at hcon
            have HCON := Lib.hid hcon
            clear hcon hU
            go_wp2_with fail
            refine ⟨rfl, _, by first | rfl | (simp [results, Try.results61, go_sem]; done) | (simp [results, Try.results61, go_sem]; rfl), ?_⟩
            exact ⟨by rw [HCON.out]; rfl, rfl⟩
end Go.Proofs.Ytmoeioaahampaaa.Hi
