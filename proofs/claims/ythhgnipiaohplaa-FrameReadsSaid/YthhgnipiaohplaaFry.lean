/-
  The readers of the payloads: goaway, promise, headers.
-/
import Derived.Test.YthhgnipiaohplaaFrx
import Derived.BigRegion
namespace Go.Proofs.Ythhgnipiaohplaa.Fr
open Go.ChangeShapes Go.WideShapes Go.ChangeAt Go.RowKit
open Go.Proofs.Ythhgnipiaohplaa.B
set_option linter.unusedVariables false
set_option linter.unusedSimpArgs false
def goaway1 (R : Rg) : Rg := { R with F := { R.F with last := (get4 R.l % 2147483648 : Nat) }, l := R.l.drop 4 }
def promise1 (R : Rg) : Rg := closedR { R with F := { R.F with last := (get4 R.l % 2147483648 : Nat) }, l := R.l.drop 4 }
def promiseR (R : Rg) : Rg :=
  if openedB 4 { R with F := { R.F with eh := bitB R.fl 2 } } then
    (if (promise1 (openedR 4 { R with F := { R.F with eh := bitB R.fl 2 } })).code = 0 ∧ (promise1 (openedR 4 { R with F := { R.F with eh := bitB R.fl 2 } })).F.last = 0 then { promise1 (openedR 4 { R with F := { R.F with eh := bitB R.fl 2 } }) with code := 1 } else promise1 (openedR 4 { R with F := { R.F with eh := bitB R.fl 2 } }))
  else openedR 4 { R with F := { R.F with eh := bitB R.fl 2 } }
section
variable {w w' w'' : World} {r : Nat} {pv lv bv : Value} {R : Rg}
set_option maxRecDepth 100000 in
set_option maxHeartbeats 4000000 in
theorem goaway_any (h : RM w r pv lv bv R) (hl : R.l.length ≤ 16777215) (hp : R.pad = 0) :
    Calls Try.prog 62 #[.pointer (some ⟨r, 0, none⟩)] w fun e w' => e = .returned (.tuple #[]) ∧ RX w w' r (goawayR R) := by
  have K1 := Lib.hid h; have PADK : Hid (R.pad ≤ 256) := Lib.hid (by omega)
  clear h
  by_cases h8 : 8 ≤ R.l.length
  · have HJ : Hid (hasR 8 R = R) := Lib.hid (if_neg (by omega))
    obtain ⟨a, b, c, d, hq, hw⟩ := split4 (l := R.l) (by omega)
    obtain ⟨rest, hrest⟩ : ∃ rest, rest = R.l.drop 4 := ⟨_, rfl⟩
    rw [← hrest] at hq
    obtain ⟨a2, b2, c2, d2, hq2, hw2⟩ := split4 (l := rest) (by rw [hrest, List.length_drop]; omega)
    obtain ⟨rest2, hrest2⟩ : ∃ rest2, rest2 = rest.drop 4 := ⟨_, rfl⟩
    rw [← hrest2] at hq2
    obtain ⟨N, hN⟩ : ∃ N, N = fourN a b c d := ⟨_, rfl⟩
    obtain ⟨N2, hN2⟩ : ∃ N, N = fourN a2 b2 c2 d2 := ⟨_, rfl⟩
    have hNl : N < 4294967296 := by rw [hN]; exact fourN_lt a b c d
    have ha := and31 N hNl
    obtain ⟨D, hD⟩ : ∃ D : Nat, D = N % 2147483648 := ⟨_, rfl⟩
    rw [← hD] at ha
    have hD6 : D < 2147483648 := by omega
    have hl2 : Hid (rest2.length ≤ 16777215) := Lib.hid (by rw [hrest2, hrest, List.length_drop, List.length_drop]; omega)
    have HR : Hid (goawayR R = closedR { R with F := { R.F with last := (D : Nat), code := (N2 : Nat) }, l := rest2 }) := Lib.hid (by
      unfold goawayR
      rw [if_pos h8, hw, ← hrest, hw2, ← hN, ← hN2, ← hD, hrest2, hrest, List.drop_drop])
    have HQ := Lib.hid hq; have HN := Lib.hid hN; have HQ2 := Lib.hid hq2; have HN2 := Lib.hid hN2
    have H8 := Lib.hid h8
    clear h8 hq hw hrest hN hq2 hw2 hrest2 hN2 hD
    go_enter Try.func62, Try.ntmps62
    go_wp2_with fail
    refine (has_any K1.out 8).mono ?_; rintro e w1 ⟨rfl, h1⟩
    rw [decide_eq_true H8.out]
    rw [HJ.out] at h1
    obtain ⟨⟨pv1, lv1, bv1, h1⟩, b1⟩ := h1
    have H1 := Lib.hid h1; have B1 := Lib.hid b1
    clear h1 b1
    go_wp2_with fail
    refine (wordM_any H1.out HQ.out).mono ?_; rintro e w2 ⟨he, h2⟩
    rw [← HN.out] at he
    subst he
    obtain ⟨⟨pv2, lv2, bv2, h2⟩, b2⟩ := h2
    have x14 : World.cell? w2 ⟨r, 14, none⟩ = some (.int .i64 R.F.last) := h2.h.head.cell rfl
    have xf : ∀ j, World.frozen? w2 ⟨r, j, none⟩ = false := fun j => h2.h.head.free j
    have hrl := h2.lt
    have K2 := Lib.hid (h2.put 14 (.int .i64 (D : Nat)) (R' := { R with F := { R.F with last := (D : Nat) }, l := rest }) rfl rfl rfl rfl)
    have B2 := Lib.hid ((B1.out.trans b2).setCell (p := ⟨r, 14, none⟩) (Nat.le_refl _) (.int .i64 (D : Nat)))
    clear h2 b2 B1 H1
    go_wp2_with fail
    refine (wordM_any K2.out HQ2.out).mono ?_; rintro e w3 ⟨he, h3⟩
    rw [← HN2.out] at he
    subst he
    obtain ⟨⟨pv3, lv3, bv3, h3⟩, b3⟩ := h3
    have x12 : World.cell? w3 ⟨r, 12, none⟩ = some (.int .u32 R.F.code) := h3.h.head.cell rfl
    have xf3 : ∀ j, World.frozen? w3 ⟨r, j, none⟩ = false := fun j => h3.h.head.free j
    have hrl3 := h3.lt
    have K3 := Lib.hid (h3.put 12 (.int .u32 (N2 : Nat)) (R' := { R with F := { R.F with last := (D : Nat), code := (N2 : Nat) }, l := rest2 }) rfl rfl rfl rfl)
    have B3 := Lib.hid ((B2.out.trans b3).setCell (p := ⟨r, 12, none⟩) (Nat.le_refl _) (.int .u32 (N2 : Nat)))
    clear h3 b3 B2 K2 x14 xf hrl
    go_wp2_with fail
    refine (closed_any K3.out hl2.out PADK.out).mono ?_; rintro e w9 ⟨rfl, ⟨⟨pv9, lv9, bv9, h9⟩, b9⟩⟩
    have H9 := Lib.hid h9; have B9 := Lib.hid ((B3.out).trans b9)
    clear h9 b9
    go_wp2_with fail
    go_end0
    exact ⟨rfl, ⟨_, _, _, by rw [HR.out]; exact H9.out⟩, B9.out⟩
  · have HJ : Hid (hasR 8 R = { R with code := 6 }) := Lib.hid (if_pos (by omega))
    have HR : Hid (goawayR R = { R with code := 6 }) := Lib.hid (if_neg h8)
    have H8 := Lib.hid h8
    clear h8
    go_enter Try.func62, Try.ntmps62
    go_wp2_with fail
    refine (has_any K1.out 8).mono ?_; rintro e w1 ⟨rfl, h1⟩
    rw [decide_eq_false H8.out]
    rw [HJ.out] at h1
    obtain ⟨⟨pv1, lv1, bv1, h1⟩, b1⟩ := h1
    have H1 := Lib.hid h1; have B1 := Lib.hid b1
    clear h1 b1
    go_wp2_with fail
    go_end0
    exact ⟨rfl, ⟨_, _, _, by rw [HR.out]; exact H1.out⟩, B1.out⟩
theorem openedB_len {n : Nat} {R : Rg} (h : openedB n R = true) : n ≤ (openedR n R).l.length := by
  unfold openedB at h
  unfold openedR hasR
  split at h
  · rename_i hb
    have h2 := of_decide_eq_true h
    rw [if_pos hb, if_neg (by omega)]
    simp; omega
  · rename_i hb
    have h2 := of_decide_eq_true h
    rw [if_neg hb, if_neg (by omega)]
    exact h2
set_option maxRecDepth 100000 in
set_option maxHeartbeats 4000000 in
theorem promise_any (h : RM w r pv lv bv R) (hl : R.l.length ≤ 16777215) (hp : R.pad = 0) :
    Calls Try.prog 60 #[.pointer (some ⟨r, 0, none⟩)] w fun e w' => e = .returned (.tuple #[]) ∧ RX w w' r (promiseR R) := by
  obtain ⟨R1, hR1⟩ : ∃ R1 : Rg, R1 = { R with F := { R.F with eh := bitB R.fl 2 } } := ⟨_, rfl⟩
  have hl1 : R1.l.length ≤ 16777215 := by rw [hR1]; exact hl
  have hp1 : R1.pad = 0 := by rw [hR1]; exact hp
  obtain ⟨R2, hR2⟩ : ∃ R2, R2 = promiseR R := ⟨_, rfl⟩
  rw [← hR2]
  obtain ⟨R3, hR3⟩ : ∃ R3, R3 = openedR 4 R1 := ⟨_, rfl⟩
  obtain ⟨R4, hR4⟩ : ∃ R4, R4 = promise1 R3 := ⟨_, rfl⟩
  have hRR : R2 = if openedB 4 R1 then (if R4.code = 0 ∧ R4.F.last = 0 then { R4 with code := 1 } else R4) else R3 := by rw [hR2, hR4, hR3, hR1]; rfl
  have k1 := h.put 3 (fb R.fl 4) (R' := R1) (by rw [hR1]) (by rw [hR1]) (by rw [hR1]) (by rw [hR1, fb4]; rfl)
  have BL : Hid (Below r w (w.setCell ⟨r, 3, none⟩ (fb R.fl 4))) := Lib.hid ((Below.refl r w).setCell (Nat.le_refl _) _)
  try unfold fb at k1 BL
  have K1 := Lib.hid k1
  have x16 : World.cell? w ⟨r, 16, none⟩ = some (.int .i64 ((R.fl.toNat : Nat) : Int)) := h.h.head.cell rfl
  have xf : ∀ j, World.frozen? w ⟨r, j, none⟩ = false := fun j => h.h.head.free j
  have x3 : World.cell? w ⟨r, 3, none⟩ = some (.bool R.F.eh) := h.h.head.cell rfl
  have hrl := h.lt
  clear h k1 hR1 hR2
  obtain ⟨ob, hob⟩ : ∃ ob, ob = openedB 4 R1 := ⟨_, rfl⟩
  rw [← hob] at hRR
  have HOB := Lib.hid hob
  have LEN : Hid (R3.l.length ≤ 16777215) := Lib.hid (Nat.le_trans (by rw [hR3]; exact openedR_len 4 R1) hl1); have PAD : Hid (R3.pad ≤ 256) := Lib.hid (by rw [hR3]; exact openedR_pad 4 R1 hp1)
  cases ob with
  | true =>
    have hge : 4 ≤ R3.l.length := by rw [hR3]; exact openedB_len hob.symm
    rw [if_pos rfl] at hRR
    have HRR := Lib.hid hRR; have HR3 := Lib.hid hR3
    obtain ⟨a, b, c, d, hq, hw⟩ := split4 hge
    obtain ⟨rest, hrest⟩ : ∃ rest, rest = R3.l.drop 4 := ⟨_, rfl⟩
    rw [← hrest] at hq
    obtain ⟨N, hN⟩ : ∃ N, N = fourN a b c d := ⟨_, rfl⟩
    have hNl : N < 4294967296 := by rw [hN]; exact fourN_lt a b c d
    have ha := and31 N hNl
    obtain ⟨D, hD⟩ : ∃ D : Nat, D = N % 2147483648 := ⟨_, rfl⟩
    rw [← hD] at ha
    have hD6 : D < 2147483648 := by omega
    have hl2 : Hid (rest.length ≤ 16777215) := Lib.hid (by have := LEN.out; rw [hrest, List.length_drop]; omega)
    have HR4 : Hid (R4 = closedR { R3 with F := { R3.F with last := (D : Nat) }, l := rest }) := Lib.hid (by
      rw [hR4]; unfold promise1; rw [hw, ← hN, ← hD, ← hrest])
    have HQ := Lib.hid hq; have HN := Lib.hid hN
    clear hob hRR hR3 hge hq hw hrest hN hD hR4
    go_enter Try.func60, Try.ntmps60
    go_wp2_with fail
    refine (opened_any K1.out 4 (by omega)).mono ?_; rintro e w1 ⟨he, h1⟩
    rw [← HOB.out] at he
    rw [← HR3.out] at h1
    subst he
    obtain ⟨⟨pv1, lv1, bv1, h1⟩, b1⟩ := h1
    have H1 := Lib.hid h1; have B1 := Lib.hid (BL.out.trans b1)
    clear h1 b1
    go_wp2_with fail
    refine (wordM_any H1.out HQ.out).mono ?_; rintro e w2 ⟨he, h2⟩
    rw [← HN.out] at he
    subst he
    obtain ⟨⟨pv2, lv2, bv2, h2⟩, b2⟩ := h2
    have x14 : World.cell? w2 ⟨r, 14, none⟩ = some (.int .i64 R3.F.last) := h2.h.head.cell rfl
    have xf2 : ∀ j, World.frozen? w2 ⟨r, j, none⟩ = false := fun j => h2.h.head.free j
    have hrl2 := h2.lt
    have K2 := Lib.hid (h2.put 14 (.int .i64 (D : Nat)) (R' := { R3 with F := { R3.F with last := (D : Nat) }, l := rest }) rfl rfl rfl rfl)
    have B2 := Lib.hid ((B1.out.trans b2).setCell (p := ⟨r, 14, none⟩) (Nat.le_refl _) (.int .i64 (D : Nat)))
    clear h2 b2 B1 H1
    go_wp2_with fail
    refine (closed_any K2.out hl2.out PAD.out).mono ?_; rintro e w9 ⟨rfl, h9⟩
    rw [← HR4.out] at h9
    obtain ⟨⟨pv9, lv9, bv9, h9⟩, b9⟩ := h9
    have y19 : World.cell? w9 ⟨r, 19, none⟩ = some (.int .u32 ((R4.code : Nat) : Int)) := h9.h.head.cell rfl
    have y14 : World.cell? w9 ⟨r, 14, none⟩ = some (.int .i64 R4.F.last) := h9.h.head.cell rfl
    have yf : ∀ j, World.frozen? w9 ⟨r, j, none⟩ = false := fun j => h9.h.head.free j
    have hrl9 := h9.lt
    have H9 := Lib.hid h9; have B9 := Lib.hid ((B2.out).trans b9)
    clear h9 b9 x14 xf2 hrl2 K2 B2
    by_cases hc : R4.code = 0
    · have g1 : (((R4.code : Nat) : Int) == 0) = true := by rw [hc]; rfl
      have g1' : ((R4.code : Nat) : Int) = 0 := by omega
      by_cases hl0 : R4.F.last = 0
      · have g2 : (R4.F.last == 0) = true := by rw [hl0]; rfl
        have HE : Hid (R2 = { R4 with code := 1 }) := Lib.hid (by rw [HRR.out, if_pos ⟨hc, hl0⟩])
        have K9 := Lib.hid (H9.out.put 19 (.int .u32 1) (R' := { R4 with code := 1 }) rfl rfl rfl rfl)
        clear hc hl0 g1'
        go_wp2_with fail
        go_end0
        exact ⟨rfl, ⟨_, _, _, by rw [HE.out]; exact K9.out⟩, B9.out.setCell (Nat.le_refl _) _⟩
      · have g2 : (R4.F.last == 0) = false := by simp [hl0]
        have HE : Hid (R2 = R4) := Lib.hid (by rw [HRR.out, if_neg (fun hh => hl0 hh.2)])
        clear hc g1'
        go_wp2_with fail
        go_end0
        exact ⟨rfl, ⟨_, _, _, by rw [HE.out]; exact H9.out⟩, B9.out⟩
    · have g1 : (((R4.code : Nat) : Int) == 0) = false := by simp; omega
      have HE : Hid (R2 = R4) := Lib.hid (by rw [HRR.out, if_neg (fun hh => hc hh.1)])
      go_wp2_with fail
      go_end0
      exact ⟨rfl, ⟨_, _, _, by rw [HE.out]; exact H9.out⟩, B9.out⟩
  | false =>
    rw [if_neg (by simp)] at hRR
    have HRR := Lib.hid hRR; have HR3 := Lib.hid hR3
    clear hob hRR hR3 hR4
    go_enter Try.func60, Try.ntmps60
    go_wp2_with fail
    refine (opened_any K1.out 4 (by omega)).mono ?_; rintro e w1 ⟨he, h1⟩
    rw [← HOB.out] at he
    rw [← HR3.out] at h1
    subst he
    obtain ⟨⟨pv1, lv1, bv1, h1⟩, b1⟩ := h1
    have H1 := Lib.hid h1; have B1 := Lib.hid (BL.out.trans b1)
    clear h1 b1
    go_wp2_with fail
    refine bodyPost_ret (results_none rfl _ _ _) rfl ?_
    exact ⟨rfl, ⟨_, _, _, by rw [HRR.out]; exact H1.out⟩, B1.out⟩
end
end Go.Proofs.Ythhgnipiaohplaa.Fr
