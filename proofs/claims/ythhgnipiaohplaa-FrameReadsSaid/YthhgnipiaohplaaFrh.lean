/-
  The reader of the payload of headers.
-/
import Derived.Test.YthhgnipiaohplaaFry
import Derived.BigRegion
import Derived.Deep.DeepCutAuto
namespace Go.Proofs.Ythhgnipiaohplaa.Fr
open Go.ChangeShapes Go.WideShapes Go.ChangeAt Go.RowKit
open Go.Proofs.Ythhgnipiaohplaa.B
set_option linter.unusedVariables false
set_option linter.unusedSimpArgs false
theorem openedR_F (n : Nat) (R : Rg) : (openedR n R).F.prio = R.F.prio := by
  unfold openedR hasR
  split
  · split <;> rfl
  · split <;> rfl
def headers1 (R : Rg) : Rg := { R with F := { R.F with fin := bitB R.fl 0, eh := bitB R.fl 2, prio := bitB R.fl 5 } }
def headersN (R : Rg) : Nat := if bitB R.fl 5 then 5 else 0
def headersR (R : Rg) : Rg :=
  if openedB (headersN R) (headers1 R) then closedR (if bitB R.fl 5 then weighR (openedR (headersN R) (headers1 R)) else openedR (headersN R) (headers1 R)) else openedR (headersN R) (headers1 R)
section
variable {w w' w'' : World} {r : Nat} {pv lv bv : Value} {R : Rg}
set_option maxRecDepth 100000 in
set_option maxHeartbeats 4000000 in
theorem headers_any (h : RM w r pv lv bv R) (hl : R.l.length ≤ 16777215) (hp : R.pad = 0) :
    Calls Try.prog 56 #[.pointer (some ⟨r, 0, none⟩)] w fun e w' => e = .returned (.tuple #[]) ∧ RX w w' r (headersR R) := by
  obtain ⟨R1, hR1⟩ : ∃ R1 : Rg, R1 = headers1 R := ⟨_, rfl⟩
  have hl1 : R1.l.length ≤ 16777215 := by rw [hR1]; exact hl
  have hp1 : R1.pad = 0 := by rw [hR1]; exact hp
  obtain ⟨R2, hR2⟩ : ∃ R2, R2 = headersR R := ⟨_, rfl⟩
  rw [← hR2]
  have HH := Lib.hid h
  have x16 : World.cell? w ⟨r, 16, none⟩ = some (.int .i64 ((R.fl.toNat : Nat) : Int)) := h.h.head.cell rfl
  have xf : ∀ j, World.frozen? w ⟨r, j, none⟩ = false := fun j => h.h.head.free j
  have x2 : World.cell? w ⟨r, 2, none⟩ = some (.bool R.F.fin) := h.h.head.cell rfl
  have x3 : World.cell? w ⟨r, 3, none⟩ = some (.bool R.F.eh) := h.h.head.cell rfl
  have x5 : World.cell? w ⟨r, 5, none⟩ = some (.bool R.F.prio) := h.h.head.cell rfl
  have hrl := h.lt
  clear h
  have k1 := HH.out.put 2 (fb R.fl 1) (R' := { R with F := { R.F with fin := bitB R.fl 0 } }) rfl rfl rfl (by rw [fb1]; rfl)
  have k2 := k1.put 3 (fb R.fl 4) (R' := { R with F := { R.F with fin := bitB R.fl 0, eh := bitB R.fl 2 } }) rfl rfl rfl (by rw [fb4]; rfl)
  have k3 := k2.put 5 (fb R.fl 32) (R' := R1) (by rw [hR1]; rfl) (by rw [hR1]; rfl) (by rw [hR1]; rfl) (by rw [hR1, fb32]; rfl)
  have k4 : RM ((((w.setCell ⟨r, 2, none⟩ (fb R.fl 1)).setCell ⟨r, 3, none⟩ (fb R.fl 4)).setCell ⟨r, 5, none⟩ (fb R.fl 32)).drew) r pv lv bv R1 := k3.chg0 ((Chg.refl _).drew)
  have bl : Below r w ((((w.setCell ⟨r, 2, none⟩ (fb R.fl 1)).setCell ⟨r, 3, none⟩ (fb R.fl 4)).setCell ⟨r, 5, none⟩ (fb R.fl 32)).drew) := ((((Below.refl r w).setCell (Nat.le_refl _) _).setCell (Nat.le_refl _) _).setCell (Nat.le_refl _) _).drew
  obtain ⟨X, hX⟩ : ∃ X, X = bitB R.fl 5 := ⟨_, rfl⟩
  have y5 : World.cell? ((((w.setCell ⟨r, 2, none⟩ (fb R.fl 1)).setCell ⟨r, 3, none⟩ (fb R.fl 4)).setCell ⟨r, 5, none⟩ (fb R.fl 32)).drew) ⟨r, 5, none⟩ = some (.bool X) := by rw [hX, show bitB R.fl 5 = R1.F.prio by rw [hR1]; rfl]; exact k4.h.head.cell rfl
  have K4 := Lib.hid k4; have BL := Lib.hid bl; have Y5 := Lib.hid y5
  clear k1 k2 k3 k4 bl y5 HH
  obtain ⟨nn, hnn⟩ : ∃ n, n = headersN R := ⟨_, rfl⟩
  obtain ⟨R3, hR3⟩ : ∃ R3, R3 = openedR nn R1 := ⟨_, rfl⟩
  obtain ⟨ob, hob⟩ : ∃ ob, ob = openedB nn R1 := ⟨_, rfl⟩
  have hRR : R2 = if ob then closedR (if X then weighR R3 else R3) else R3 := by rw [hR2, hob, hR3, hR1, hX, hnn]; rfl
  have LEN : Hid (R3.l.length ≤ 16777215) := Lib.hid (Nat.le_trans (by rw [hR3]; exact openedR_len nn R1) hl1); have PAD : Hid (R3.pad ≤ 256) := Lib.hid (by rw [hR3]; exact openedR_pad nn R1 hp1)
  have hn2 : nn = if X then 5 else 0 := by rw [hnn, hX]; rfl
  have hge : ob = true → nn ≤ R3.l.length := fun h0 => by rw [hR3]; exact openedB_len (by rw [← hob, h0])
  have HB := Lib.hid hob; have HR3 := Lib.hid hR3
  have HX : Hid (R3.F.prio = X) := Lib.hid (by rw [hR3, openedR_F, hR1, hX]; rfl)
  clear hR1 hR2 hob hR3 hnn hX
  cases X with
  | true =>
    simp only [if_true] at hn2 hRR
    subst hn2
    cases ob with
    | true =>
      rw [if_pos rfl] at hRR
      obtain ⟨a, b, c, d, e5, rest, hq, hw⟩ := split5 (R := R3) (hge rfl)
      rw [hw] at hRR
      have hl2 : Hid (rest.length ≤ 16777215) := Lib.hid (by have := LEN.out; rw [hq] at this; simp at this; omega)
      have HRR := Lib.hid hRR; have HQ := Lib.hid hq
      clear hRR hq hw hge
      go_enter Try.func56, Try.ntmps56
      go_upto_region 0 with fail
      go_region
      unfold fb at K4 BL Y5
      have y5 := Y5.out
      have y5l := K4.out.lt
      have L5 : Hid (Below r w _) := BL
      clear x16 xf x2 x3 x5 hrl Y5
      generalize (((w.setCell ⟨r, 2, none⟩ (.bool (Go.bits .and .i64 ((R.fl.toNat : Nat) : Int) 1 != 0))).setCell ⟨r, 3, none⟩ (.bool (Go.bits .and .i64 ((R.fl.toNat : Nat) : Int) 4 != 0))).setCell ⟨r, 5, none⟩ (.bool (Go.bits .and .i64 ((R.fl.toNat : Nat) : Int) 32 != 0))).drew = w7 at *
      go_wp2_with fail
      refine (opened_any K4.out 5 (by omega)).mono ?_; rintro e w1 ⟨he, h1⟩
      rw [← HB.out] at he
      rw [← HR3.out] at h1
      subst he
      obtain ⟨⟨pv1, lv1, bv1, h1⟩, b1⟩ := h1
      have z5 : World.cell? w1 ⟨r, 5, none⟩ = some (.bool R3.F.prio) := h1.h.head.cell rfl
      rw [HX.out] at z5
      have H1 := Lib.hid h1; have B1 := Lib.hid (BL.out.trans b1)
      clear h1 b1
      go_wp2_with fail
      refine (weighed_any H1.out HQ.out).mono ?_; rintro e w4 ⟨rfl, ⟨⟨pv4, lv4, bv4, h4⟩, b4⟩⟩
      have H4 := Lib.hid h4; have B4 := Lib.hid (B1.out.trans b4)
      clear h4 b4
      go_wp2_with fail
      refine (closed_any H4.out hl2.out PAD.out).mono ?_; rintro e w9 ⟨rfl, ⟨⟨pv9, lv9, bv9, h9⟩, b9⟩⟩
      have H9 := Lib.hid h9; have B9 := Lib.hid ((B4.out).trans b9)
      clear h9 b9
      go_wp2_with fail
      go_end0
      exact ⟨rfl, ⟨_, _, _, by rw [HRR.out]; exact H9.out⟩, B9.out⟩
    | false =>
      rw [if_neg (by simp)] at hRR
      have HRR := Lib.hid hRR
      clear hRR hge
      go_enter Try.func56, Try.ntmps56
      go_upto_region 0 with fail
      go_region
      unfold fb at K4 BL Y5
      have y5 := Y5.out
      have y5l := K4.out.lt
      have L5 : Hid (Below r w _) := BL
      clear x16 xf x2 x3 x5 hrl Y5
      generalize (((w.setCell ⟨r, 2, none⟩ (.bool (Go.bits .and .i64 ((R.fl.toNat : Nat) : Int) 1 != 0))).setCell ⟨r, 3, none⟩ (.bool (Go.bits .and .i64 ((R.fl.toNat : Nat) : Int) 4 != 0))).setCell ⟨r, 5, none⟩ (.bool (Go.bits .and .i64 ((R.fl.toNat : Nat) : Int) 32 != 0))).drew = w7 at *
      go_wp2_with fail
      refine (opened_any K4.out 5 (by omega)).mono ?_; rintro e w1 ⟨he, h1⟩
      rw [← HB.out] at he
      rw [← HR3.out] at h1
      subst he
      obtain ⟨⟨pv1, lv1, bv1, h1⟩, b1⟩ := h1
      have z5 : World.cell? w1 ⟨r, 5, none⟩ = some (.bool R3.F.prio) := h1.h.head.cell rfl
      rw [HX.out] at z5
      have H1 := Lib.hid h1; have B1 := Lib.hid (BL.out.trans b1)
      clear h1 b1
      go_wp2_with fail
      refine bodyPost_ret (results_none rfl _ _ _) rfl ?_
      exact ⟨rfl, ⟨_, _, _, by rw [HRR.out]; exact H1.out⟩, B1.out⟩
  | false =>
    simp only [Bool.false_eq_true, if_false] at hn2 hRR
    subst hn2
    cases ob with
    | true =>
      rw [if_pos rfl] at hRR
      have HRR := Lib.hid hRR
      clear hRR hge
      go_enter Try.func56, Try.ntmps56
      go_upto_region 0 with fail
      go_region
      unfold fb at K4 BL Y5
      have y5 := Y5.out
      have y5l := K4.out.lt
      have L5 : Hid (Below r w _) := BL
      clear x16 xf x2 x3 x5 hrl Y5
      generalize (((w.setCell ⟨r, 2, none⟩ (.bool (Go.bits .and .i64 ((R.fl.toNat : Nat) : Int) 1 != 0))).setCell ⟨r, 3, none⟩ (.bool (Go.bits .and .i64 ((R.fl.toNat : Nat) : Int) 4 != 0))).setCell ⟨r, 5, none⟩ (.bool (Go.bits .and .i64 ((R.fl.toNat : Nat) : Int) 32 != 0))).drew = w7 at *
      go_wp2_with fail
      refine (opened_any K4.out 0 (by omega)).mono ?_; rintro e w1 ⟨he, h1⟩
      rw [← HB.out] at he
      rw [← HR3.out] at h1
      subst he
      obtain ⟨⟨pv1, lv1, bv1, h1⟩, b1⟩ := h1
      have z5 : World.cell? w1 ⟨r, 5, none⟩ = some (.bool R3.F.prio) := h1.h.head.cell rfl
      rw [HX.out] at z5
      have H1 := Lib.hid h1; have B1 := Lib.hid (BL.out.trans b1)
      clear h1 b1
      go_wp2_with fail
      refine (closed_any H1.out LEN.out PAD.out).mono ?_; rintro e w9 ⟨rfl, ⟨⟨pv9, lv9, bv9, h9⟩, b9⟩⟩
      have H9 := Lib.hid h9; have B9 := Lib.hid ((B1.out).trans b9)
      clear h9 b9
      go_wp2_with fail
      go_end0
      exact ⟨rfl, ⟨_, _, _, by rw [HRR.out]; exact H9.out⟩, B9.out⟩
    | false =>
      rw [if_neg (by simp)] at hRR
      have HRR := Lib.hid hRR
      clear hRR hge
      go_enter Try.func56, Try.ntmps56
      go_upto_region 0 with fail
      go_region
      unfold fb at K4 BL Y5
      have y5 := Y5.out
      have y5l := K4.out.lt
      have L5 : Hid (Below r w _) := BL
      clear x16 xf x2 x3 x5 hrl Y5
      generalize (((w.setCell ⟨r, 2, none⟩ (.bool (Go.bits .and .i64 ((R.fl.toNat : Nat) : Int) 1 != 0))).setCell ⟨r, 3, none⟩ (.bool (Go.bits .and .i64 ((R.fl.toNat : Nat) : Int) 4 != 0))).setCell ⟨r, 5, none⟩ (.bool (Go.bits .and .i64 ((R.fl.toNat : Nat) : Int) 32 != 0))).drew = w7 at *
      go_wp2_with fail
      refine (opened_any K4.out 0 (by omega)).mono ?_; rintro e w1 ⟨he, h1⟩
      rw [← HB.out] at he
      rw [← HR3.out] at h1
      subst he
      obtain ⟨⟨pv1, lv1, bv1, h1⟩, b1⟩ := h1
      have z5 : World.cell? w1 ⟨r, 5, none⟩ = some (.bool R3.F.prio) := h1.h.head.cell rfl
      rw [HX.out] at z5
      have H1 := Lib.hid h1; have B1 := Lib.hid (BL.out.trans b1)
      clear h1 b1
      go_wp2_with fail
      refine bodyPost_ret (results_none rfl _ _ _) rfl ?_
      exact ⟨rfl, ⟨_, _, _, by rw [HRR.out]; exact H1.out⟩, B1.out⟩
end
end Go.Proofs.Ythhgnipiaohplaa.Fr
