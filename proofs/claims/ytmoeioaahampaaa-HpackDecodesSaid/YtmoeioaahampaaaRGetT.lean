/-
  The document's GetText.
-/
import Derived.Test.YtmoeioaahampaaaGetT
import Derived.Test.YtmoeioaahampaaaRDec
namespace Go.Proofs.Ytmoeioaahampaaa.Hi
open Go.ChangeShapes Go.WideShapes Go.ChangeAt Go.RowKit
open Go.Proofs.Ytmoeioaahampaaa.B
open Go.Proofs.Ytmoeioaahampaaa.Hf (bx need enc dec bitsOf decode_any rdecode_any cut_str)
set_option linter.unusedVariables false
set_option linter.unusedSimpArgs false

theorem bx_cut (s : ByteArray) (n V : Nat) : bx (s.extract n (n + V)) = ((bx s).drop n).take V := by
  unfold bx
  have : (s.extract n (n + V)).data = s.data.extract n (n + V) := by first | rfl | simp
  rw [this]
  simp [List.extract_eq_take_drop]
set_option maxRecDepth 100000 in
set_option maxHeartbeats 4000000 in
theorem rgettext_any (s : ByteArray) (w : World) (hs : s.size ≤ 100000) :
    Calls Try.prog 83 #[.string s] w fun e w' => e = .returned (.tuple #[txt (getT (bx s)).1, .int .i64 (getT (bx s)).2.1, .int .i64 (getT (bx s)).2.2]) ∧ Chg [] w w' := by
  have hbl : (bx s).length = s.size := by simp [bx]
  obtain ⟨G, hG⟩ : ∃ G, G = getI (bx s) 7 := ⟨_, rfl⟩
  have hok := getI_ok (l := bx s) (p := 7)
  have hT : getT (bx s) = getT (bx s) := rfl
  conv at hT => rhs; unfold getT
  rw [← hG] at hT hok
  rw [hbl] at hT hok
  have HG := Lib.hid hG
  clear hG
  by_cases h0 : G.2.2 = 0
  · obtain ⟨k1, k2, k3⟩ := hok h0
    rw [if_neg (by omega)] at hT
    obtain ⟨V, hV⟩ : ∃ V, V = G.1 := ⟨_, rfl⟩
    obtain ⟨n, hn⟩ : ∃ n, n = G.2.1 := ⟨_, rfl⟩
    rw [← hV, ← hn] at hT
    rw [← hV] at k1
    rw [← hn] at k2 k3
    have HV := Lib.hid hV; have HN := Lib.hid hn; have H0 := Lib.hid h0
    clear hV hn h0 hok
    by_cases hlong : s.size < n + V
    · rw [if_pos hlong] at hT
      rw [hT]
      have hls : decide ((s.size : Int) - (n : Int) < (V : Int)) = true := decide_eq_true (by omega)
      clear hT hbl
      go_enter Try.func83, Try.ntmps83
      go_wp2_with fail
      refine (rgetint_any s 7 (by omega) _).mono ?_; rintro e w1 ⟨he, rfl⟩
      rw [show getI s.data.toList 7 = G from HG.out.symm, ← HV.out, ← HN.out, H0.out] at he
      subst he
      go_wp2_with fail
      refine ⟨rfl, _, by first | rfl | (simp [results, Try.results83, go_sem]; done) | (simp [results, Try.results83, go_sem]; rfl), ?_⟩
      exact ⟨rfl, Chg.refl _⟩
    · rw [if_neg hlong] at hT
      have hs0 : 0 < s.size := by omega
      obtain ⟨c, hc⟩ : ∃ c, c = s[0] := ⟨_, rfl⟩
      have hhd : (bx s).headD 0 = c := by
        have := str_drop s 0 hs0
        rw [List.drop_zero] at this
        unfold bx; rw [this, hc]; rfl
      rw [hhd, ← bx_cut] at hT
      have hcc : (s[0].toNat : Int) = (c.toNat : Int) := by rw [hc]
      have hc6 : (c.toNat : Int) < 256 := by have := c.toNat_lt; omega
      have hls : decide ((s.size : Int) - (n : Int) < (V : Int)) = false := decide_eq_false (by omega)
      have hsl := fun w => cut_str s n V (by omega) w
      obtain ⟨body, hbody⟩ : ∃ body, body = s.extract n (n + V) := ⟨_, rfl⟩
      rw [← hbody] at hT
      simp only [← hbody] at hsl
      have hbs : body.size ≤ 100000 := by rw [hbody]; first | (simp; done) | (simp; omega)
      have hbt : txt (bx body) = .string body := by
        unfold txt; congr 1
      have hse : ((s.size : Int) == 0) = false := beq_eq_false_iff_ne.2 (by omega)
      clear hbody hc hhd hbl
      by_cases hc8 : c.toNat < 128
      · rw [if_pos hc8] at hT
        rw [hT, hbt]
        have hd8 : decide ((c.toNat : Int) < 128) = true := decide_eq_true (by omega)
        clear hT
        go_enter Try.func83, Try.ntmps83
        go_wp2_with fail
        refine (rgetint_any s 7 (by omega) _).mono ?_; rintro e w1 ⟨he, rfl⟩
        rw [show getI s.data.toList 7 = G from HG.out.symm, ← HV.out, ← HN.out, H0.out] at he
        subst he
        go_wp2_with fail
        refine ⟨rfl, _, by first | rfl | (simp [results, Try.results83, go_sem]; done) | (simp [results, Try.results83, go_sem]; rfl), ?_⟩
        exact ⟨by simp, Chg.refl _⟩
      · rw [if_neg hc8] at hT
        have hd8 : decide ((c.toNat : Int) < 128) = false := decide_eq_false (by omega)
        obtain ⟨D, hD⟩ : ∃ D, D = dec 2147483647 (bitsOf (bx body)) := ⟨_, rfl⟩
        rw [← hD] at hT
        have HD := Lib.hid hD
        clear hD
        by_cases hd0 : D.2 = 0
        · rw [if_neg (by omega)] at hT
          rw [hT]
          have hdb : ((D.2 : Int) != 0) = false := by simp [hd0]
          have hde : ((D.2 : Int) == 0) = true := by simp [hd0]
          clear hT
          go_enter Try.func83, Try.ntmps83
          go_wp2_with fail
          refine (rgetint_any s 7 (by omega) _).mono ?_; rintro e w1 ⟨he, rfl⟩
          rw [show getI s.data.toList 7 = G from HG.out.symm, ← HV.out, ← HN.out, H0.out] at he
          subst he
          go_wp2_with fail
          refine (rdecode_any body 2147483647 hbs _).mono ?_; rintro e w2 ⟨he, h2⟩
          rw [← HD.out] at he
          subst he
          go_wp2_with fail
          refine ⟨rfl, _, by first | rfl | (simp [results, Try.results83, go_sem]; done) | (simp [results, Try.results83, go_sem]; rfl), ?_⟩
          exact ⟨by simp [Hf.txt], h2⟩
        · rw [if_pos hd0] at hT
          rw [hT]
          have hdb : ((D.2 : Int) != 0) = true := by simp [hd0]
          have hde : ((D.2 : Int) == 0) = false := by simp [hd0]
          clear hT
          go_enter Try.func83, Try.ntmps83
          go_wp2_with fail
          refine (rgetint_any s 7 (by omega) _).mono ?_; rintro e w1 ⟨he, rfl⟩
          rw [show getI s.data.toList 7 = G from HG.out.symm, ← HV.out, ← HN.out, H0.out] at he
          subst he
          go_wp2_with fail
          refine (rdecode_any body 2147483647 hbs _).mono ?_; rintro e w2 ⟨he, h2⟩
          rw [← HD.out] at he
          subst he
          go_wp2_with fail
          refine ⟨rfl, _, by first | rfl | (simp [results, Try.results83, go_sem]; done) | (simp [results, Try.results83, go_sem]; rfl), ?_⟩
          exact ⟨rfl, h2⟩
  · rw [if_pos h0] at hT
    rw [hT]
    have hdb : ((G.2.2 : Int) != 0) = true := by simp [h0]
    have hde : ((G.2.2 : Int) == 0) = false := by simp [h0]
    clear hT hok hbl
    go_enter Try.func83, Try.ntmps83
    go_wp2_with fail
    refine (rgetint_any s 7 (by omega) _).mono ?_; rintro e w1 ⟨he, rfl⟩
    rw [show getI s.data.toList 7 = G from HG.out.symm] at he
    subst he
    go_wp2_with fail
    refine ⟨rfl, _, by first | rfl | (simp [results, Try.results83, go_sem]; done) | (simp [results, Try.results83, go_sem]; rfl), ?_⟩
    exact ⟨rfl, Chg.refl _⟩
end Go.Proofs.Ytmoeioaahampaaa.Hi
