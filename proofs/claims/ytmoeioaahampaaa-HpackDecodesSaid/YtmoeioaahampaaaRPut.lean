/-
  The document's PutInt.
-/
import Derived.Test.YtmoeioaahampaaaRGet
namespace Go.Proofs.Ytmoeioaahampaaa.Hi
open Go.ChangeShapes Go.WideShapes Go.ChangeAt Go.RowKit
open Go.Proofs.Ytmoeioaahampaaa.B
set_option linter.unusedVariables false
set_option linter.unusedSimpArgs false

abbrev txt (l : List UInt8) : Value := .string ⟨l.toArray⟩
set_option maxRecDepth 100000 in
set_option maxHeartbeats 4000000 in
theorem rputint_any (f : UInt8) (p v : Int) (w : World) :
    Calls Try.prog 63 #[.int .u8 (f.toNat : Int), .int .i64 p, .int .i64 v] w fun e w' => e = .returned (.tuple #[txt (putI f p v).1, .int .i64 (putI f p v).2]) ∧ Chg [] w w' := by
  have hc6 : (f.toNat : Int) < 256 := by have := f.toNat_lt; omega
  by_cases hbad : p < 1 ∨ 8 < p ∨ v < 0 ∨ 2147483647 < v
  · have hr : putI f p v = ([], 1) := by unfold putI; rw [if_pos hbad]
    rw [hr]
    have hb : p < 1 ∨ (¬ p < 1 ∧ 8 < p) ∨ (¬ p < 1 ∧ ¬ 8 < p ∧ v < 0) ∨ (¬ p < 1 ∧ ¬ 8 < p ∧ ¬ v < 0 ∧ 2147483647 < v) := by omega
    clear hbad hr
    rcases hb with h | ⟨h, h2⟩ | ⟨h, h2, h3⟩ | ⟨h, h2, h3, h4⟩
    all_goals
      go_enter Try.func63, Try.ntmps63
      go_wp2_with fail
      go_ret2
      exact ⟨rfl, Chg.refl _⟩
  · obtain ⟨P, rfl⟩ := Int.eq_ofNat_of_zero_le (show 0 ≤ p by omega)
    obtain ⟨V, rfl⟩ := Int.eq_ofNat_of_zero_le (show 0 ≤ v by omega)
    have hP1 : 1 ≤ P := by omega
    have hP8 : P ≤ 8 := by omega
    have hVm : (V : Int) ≤ 2147483647 := by omega
    have hf6 : f.toNat < 256 := by omega
    rw [putI_in hP1 hP8 hVm]
    have qO := eq_of_beq (allR (allR tabO (show P < 9 by omega)) hf6)
    have hV0 : ∀ V : Nat, V < 2 ^ P → _ := fun V => top_or (V := V) hf6 hP8
    obtain ⟨M, hM⟩ : ∃ M, M = 2 ^ P - 1 := ⟨_, rfl⟩
    have hpp : 2 ^ P ≤ 256 := Nat.pow_le_pow_right (by omega) hP8 (n := 2)
    have hpos : 0 < 2 ^ P := Nat.pow_pos (by omega)
    have hMb : M ≤ 255 := by omega
    obtain ⟨A, hA⟩ : ∃ A, A = f.toNat / 2 ^ P * 2 ^ P := ⟨_, rfl⟩
    have hAf : A ≤ f.toNat := by rw [hA]; exact Nat.div_mul_le_self _ _
    have hAi : wrap64 (wrap64 ((f.toNat : Int) / ((M : Int) + 1)) * ((M : Int) + 1)) = (A : Int) := by
      have h0 : wrap64 ((f.toNat : Int) / ((M : Int) + 1)) = (f.toNat : Int) / ((M : Int) + 1) := by
        have a1 : (0 : Int) ≤ (f.toNat : Int) / ((M : Int) + 1) := Int.ediv_nonneg (by omega) (by omega)
        have a2 : (f.toNat : Int) / ((M : Int) + 1) ≤ (f.toNat : Int) := Int.ediv_le_self _ (by omega)
        generalize (f.toNat : Int) / ((M : Int) + 1) = z at *
        unfold wrap64; omega
      rw [h0]
      clear h0
      have h1 : (f.toNat : Int) / ((M : Int) + 1) * ((M : Int) + 1) = (A : Int) := by
        rw [hA, show (M : Int) + 1 = ((2 ^ P : Nat) : Int) by omega, Int.natCast_mul]; rfl
      rw [h1]; clear h1 hA; unfold wrap64; omega
    have hpn : putN f.toNat P V = if V < M then [UInt8.ofNat (A + V)] else UInt8.ofNat (A + M) :: more (V - M) := by unfold putN; rw [← hA, ← hM]
    rw [hpn]
    rw [← hM, ← hA] at qO
    rw [← hA] at hV0
    have HM := Lib.hid hM; have HAI := Lib.hid hAi
    have e1 : decide ((P : Int) < 1) = false := decide_eq_false (by omega)
    have e2 : decide ((8 : Int) < (P : Int)) = false := decide_eq_false (by omega)
    have e3 : decide ((V : Int) < 0) = false := decide_eq_false (by omega)
    have e4 : decide ((2147483647 : Int) < (V : Int)) = false := decide_eq_false (by omega)
    clear hAi
    by_cases hvm : V < M
    · rw [if_pos hvm]
      have qV := hV0 V (by omega)
      have hAV : A + V < 256 := by
        have h2 : Go.bits .or .u8 (A : Int) (V : Int) < 256 := by
          show IntKind.u8.wrap _ < 256
          rw [IntKind.wrap_u8]; omega
        rw [qV] at h2; omega
      have hn := oct_num hAV
      obtain ⟨c, hc⟩ : ∃ c, c = UInt8.ofNat (A + V) := ⟨_, rfl⟩
      rw [← hc] at hn ⊢
      clear hc
      have hk : ∀ w, _ := fun w => (BytesOf.new w c).str
      rw [Int.natCast_add] at hn
      simp only [hn] at hk
      clear hV0 hM hpp hpos hA hpn qO qV hn
      go_enter Try.func63, Try.ntmps63
      go_wp2_with fail
      refine (full_any P hP1 hP8 _).mono ?_; rintro e w1 ⟨he, rfl⟩
      rw [← HM.out] at he
      subst he
      go_upto_region 5 with fail
      rw [HAI.out]
      go_wp2_with fail
      go_ret2
      exact ⟨rfl, (Chg.refl _).alloc _⟩
    · rw [if_neg hvm]
      have hAM : A + M < 256 := by
        have h2 : Go.bits .or .u8 (f.toNat : Int) (M : Int) < 256 := by
          show IntKind.u8.wrap _ < 256
          rw [IntKind.wrap_u8]; omega
        rw [qO] at h2; omega
      have hown0 := OwnB.one w (Nat.le_refl _) (UInt8.ofNat (A + M))
      rw [oct_num hAM, Int.natCast_add] at hown0
      obtain ⟨Fl, hFl⟩ : ∃ Fl, Fl = UInt8.ofNat (A + M) :: more (V - M) := ⟨_, rfl⟩
      have hFb : Fl.length ≤ 6 := by rw [hFl]; have := more_len5 (V - M) (by omega); simp; omega
      rw [← hFl]
      have hmv : decide (V < M) = false := decide_eq_false hvm
      have hvs : ((V - M : Nat) : Int) = (V : Int) - (M : Int) := by omega
      obtain ⟨X0, hX0⟩ : ∃ X0, X0 = V - M := ⟨_, rfl⟩
      rw [← hX0] at hFl hvs
      have hX0b : (X0 : Int) ≤ 2147483647 := by omega
      have HF := Lib.hid hFl; have HOWN0 := Lib.hid hown0; have HX := Lib.hid hX0; have HVS := Lib.hid hvs.symm
      clear hV0 hM hpp hpos hA hpn hFl hown0 hX0 qO
      go_enter Try.func63, Try.ntmps63
      go_wp2_with fail
      refine (full_any P hP1 hP8 _).mono ?_; rintro e w1 ⟨he, rfl⟩
      rw [← HM.out] at he
      subst he
      go_upto_region 5 with fail
      rw [HAI.out]
      go_wp2_with fail
      go_loopw [2, 10] (fun vv ov wr => ∃ (x : Nat) (L : List UInt8), (x : Int) ≤ 2147483647 ∧ vv = .int .i64 x ∧ OwnB wr w1.heap.size ov L ∧ L ++ more x = Fl ∧ Chg [] w1 wr) (fun vv _ _ => (intOf vv).toNat)
      case atStart => exact ⟨X0, _, hX0b, by go_num, HOWN0.out, HF.out.symm, (Chg.refl _).alloc _⟩
      case round =>
        clear HOWN0 HF
        obtain ⟨x, L, hx, rfl, hown, hL, hch⟩ := hrel
        have hLl : L.length ≤ 6 := by have : L.length ≤ Fl.length := by rw [← hL]; simp
                                      omega
        have HCH := Lib.hid hch; have HOWN := Lib.hid hown
        have hbw : w1.heap.size ≤ wr.heap.size := hch.size
        by_cases hbig : 128 ≤ x
        · have hy6 : x % 128 + 128 < 256 := by omega
          have hcn := oct_num hy6
          obtain ⟨c, hc⟩ : ∃ c, c = UInt8.ofNat (x % 128 + 128) := ⟨_, rfl⟩
          rw [← hc] at hcn
          rw [more_big hbig, ← hc] at hL
          have hu := BytesOf.new wr c
          rw [hcn, show ((x % 128 + 128 : Nat) : Int) = (x : Int) % 128 + 128 by omega] at hu
          have HL := Lib.hid hL; have HU := Lib.hid hu
          clear hL hch hown hc hcn hu
          go_wp2_with (at_builtin; refine app_bytes rfl _ _ rfl w1.heap.size u10 _ rfl (HOWN.out.alloc _) _ [c] rfl HU.out (by simp) (by simp; omega) (by simp; omega) ?_)
          intro v' w' hown' hch' hfr'
          go_wp2_with fail
          go_roundw
          case rel => exact ⟨x / 128, L ++ [c], by omega, by go_num, hown', by rw [List.append_assoc]; exact HL.out, (HCH.out.alloc _).trans hch' (fun y hy => Or.inr (HOWN.out.lo y hy))⟩
          case measure => simp [intOf] <;> omega
        · have hcn := oct_num (show x < 256 by omega)
          obtain ⟨c, hc⟩ : ∃ c, c = UInt8.ofNat x := ⟨_, rfl⟩
          rw [more_low (by omega), ← hc] at hL
          rw [← hc] at hcn
          have hd : decide ((128 : Int) ≤ (x : Int)) = false := decide_eq_false (by omega)
          have hu := BytesOf.new wr c
          rw [hcn] at hu
          have HL := Lib.hid hL; have HU := Lib.hid hu
          clear hL hch hown hc hcn hu
          go_wp2_with (at_builtin; refine app_bytes rfl _ _ rfl w1.heap.size u10 _ rfl (HOWN.out.alloc _) _ [c] rfl HU.out (by simp) (by simp; omega) (by simp; omega) ?_)
          intro v' w' hown' hch' hfr'
          have hcv := hown'.bytes.str
          go_wp2_with fail
          go_ret2
          exact ⟨by rw [← HL.out]; rfl, (HCH.out.alloc _).trans hch' (fun y hy => Or.inr (HOWN.out.lo y hy))⟩
end Go.Proofs.Ytmoeioaahampaaa.Hi
