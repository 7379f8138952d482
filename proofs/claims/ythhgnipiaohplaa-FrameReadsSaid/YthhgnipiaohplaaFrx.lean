/-
  The readers of the payloads: data, priority, reset, ping, goaway, more, other, window.
-/
import Derived.Test.YthhgnipiaohplaaFrw
namespace Go.Proofs.Ythhgnipiaohplaa.Fr
open Go.ChangeShapes Go.WideShapes Go.ChangeAt Go.RowKit
open Go.Proofs.Ythhgnipiaohplaa.B
set_option linter.unusedVariables false
set_option linter.unusedSimpArgs false
def get4 : List UInt8 → Nat
  | a :: b :: c :: d :: _ => fourN a b c d
  | _ => 0
def weighR (R : Rg) : Rg := match R.l with
  | a :: b :: c :: d :: e :: rest => weighedR a b c d e rest R
  | _ => R
theorem get4_lt (l : List UInt8) : get4 l < 4294967296 := by
  unfold get4
  split
  · exact fourN_lt _ _ _ _
  · decide
theorem split4 {l : List UInt8} (h : 4 ≤ l.length) : ∃ a b c d, l = a :: b :: c :: d :: l.drop 4 ∧ get4 l = fourN a b c d := by
  match l, h with
  | a :: b :: c :: d :: rest, _ => exact ⟨a, b, c, d, rfl, rfl⟩
theorem split5 {R : Rg} (h : 5 ≤ R.l.length) : ∃ a b c d e rest, R.l = a :: b :: c :: d :: e :: rest ∧ weighR R = weighedR a b c d e rest R := by
  cases R with
  | mk F fl l pad code =>
    match l, h with
    | a :: b :: c :: d :: e :: rest, _ => exact ⟨a, b, c, d, e, rest, rfl, rfl⟩
def dataR (R : Rg) : Rg := if openedB 0 { R with F := { R.F with fin := bitB R.fl 0 } } then closedR (openedR 0 { R with F := { R.F with fin := bitB R.fl 0 } }) else openedR 0 { R with F := { R.F with fin := bitB R.fl 0 } }
def priorityR (R : Rg) : Rg := if R.l.length = 5 then weighR R else { R with code := 6 }
def resetR (R : Rg) : Rg := if R.l.length = 4 then { R with F := { R.F with code := (get4 R.l : Nat) }, l := R.l.drop 4 } else { R with code := 6 }
def pingR (R : Rg) : Rg := if R.l.length = 8 then closedR { R with F := { R.F with ack := bitB R.fl 0 } } else { R with F := { R.F with ack := bitB R.fl 0 }, code := 6 }
def goawayR (R : Rg) : Rg := if 8 ≤ R.l.length then closedR { R with F := { R.F with last := (get4 R.l % 2147483648 : Nat), code := (get4 (R.l.drop 4) : Nat) }, l := R.l.drop 8 } else { R with code := 6 }
def windowR (R : Rg) : Rg := if R.l.length = 4 then { R with F := { R.F with inc := (get4 R.l % 2147483648 : Nat) }, l := [], code := if get4 R.l % 2147483648 = 0 then 1 else R.code } else { R with code := 6 }
def moreR (R : Rg) : Rg := closedR { R with F := { R.F with eh := bitB R.fl 2 } }
def otherR (R : Rg) : Rg := closedR { R with F := { R.F with flags := (R.fl.toNat : Nat) } }
theorem openedR_len (n : Nat) (R : Rg) : (openedR n R).l.length ≤ R.l.length := by
  unfold openedR hasR
  split
  · split
    · exact Nat.le_refl _
    · simp
  · split <;> exact Nat.le_refl _
theorem openedR_pad (n : Nat) (R : Rg) (h : R.pad = 0) : (openedR n R).pad ≤ 256 := by
  unfold openedR hasR
  split
  · split
    · simp [h]
    · have := (R.l.headD 0).toNat_lt; show (R.l.headD 0).toNat + 1 ≤ 256; omega
  · split <;> simp [h]
theorem bne_of (x : Int) (m : Int) (hm : m ≠ 0) (b : Bool) (h : x = if b then m else 0) : (x != 0) = b ∧ (x == 0) = !b := by
  cases b
  · simp at h; subst h; exact ⟨rfl, rfl⟩
  · simp at h; subst h; exact ⟨by simp [hm], by simp [hm]⟩
def fb (fl : UInt8) (m : Int) : Value := .bool (Go.bits .and .i64 ((fl.toNat : Nat) : Int) m != 0)
theorem fb1 (fl : UInt8) : fb fl 1 = .bool (bitB fl 0) := by unfold fb; rw [(bne_of _ 1 (by decide) _ (bit1 fl)).1]
theorem fb4 (fl : UInt8) : fb fl 4 = .bool (bitB fl 2) := by unfold fb; rw [(bne_of _ 4 (by decide) _ (bit4 fl)).1]
theorem fb32 (fl : UInt8) : fb fl 32 = .bool (bitB fl 5) := by unfold fb; rw [(bne_of _ 32 (by decide) _ (bit32 fl)).1]
section
variable {w w' w'' : World} {r : Nat} {pv lv bv : Value} {R : Rg}
set_option maxRecDepth 100000 in
set_option maxHeartbeats 4000000 in
theorem data_any (h : RM w r pv lv bv R) (hl : R.l.length ≤ 16777215) (hp : R.pad = 0) :
    Calls Try.prog 55 #[.pointer (some ⟨r, 0, none⟩)] w fun e w' => e = .returned (.tuple #[]) ∧ RX w w' r (dataR R) := by
  obtain ⟨R1, hR1⟩ : ∃ R1 : Rg, R1 = { R with F := { R.F with fin := bitB R.fl 0 } } := ⟨_, rfl⟩
  have hl1 : R1.l.length ≤ 16777215 := by rw [hR1]; exact hl
  have hp1 : R1.pad = 0 := by rw [hR1]; exact hp
  obtain ⟨R2, hR2⟩ : ∃ R2, R2 = dataR R := ⟨_, rfl⟩
  rw [← hR2]
  have hR3 : R2 = if openedB 0 R1 then closedR (openedR 0 R1) else openedR 0 R1 := by rw [hR2, hR1]; rfl
  have k1 := h.put 2 (fb R.fl 1) (R' := R1) (by rw [hR1]) (by rw [hR1]) (by rw [hR1]) (by rw [hR1, fb1]; rfl)
  have BL : Hid (Below r w (w.setCell ⟨r, 2, none⟩ (fb R.fl 1))) := Lib.hid ((Below.refl r w).setCell (Nat.le_refl _) _)
  unfold fb at k1 BL
  have K1 := Lib.hid k1
  have x16 : World.cell? w ⟨r, 16, none⟩ = some (.int .i64 ((R.fl.toNat : Nat) : Int)) := h.h.head.cell rfl
  have xf : ∀ j, World.frozen? w ⟨r, j, none⟩ = false := fun j => h.h.head.free j
  have x2 : World.cell? w ⟨r, 2, none⟩ = some (.bool R.F.fin) := h.h.head.cell rfl
  have hrl := h.lt
  clear h k1 hR1 hR2
  obtain ⟨ob, hob⟩ : ∃ ob, ob = openedB 0 R1 := ⟨_, rfl⟩
  rw [← hob] at hR3
  have HOB := Lib.hid hob
  clear hob
  have LEN := Lib.hid (openedR_len 0 R1); have PAD := Lib.hid (openedR_pad 0 R1 hp1)
  cases ob with
  | true =>
    rw [if_pos rfl] at hR3
    have HR := Lib.hid hR3
    clear hR3
    go_enter Try.func55, Try.ntmps55
    go_wp2_with fail
    refine (opened_any K1.out 0 (by omega)).mono ?_; rintro e w1 ⟨he, h1⟩
    rw [← HOB.out] at he
    subst he
    obtain ⟨⟨pv1, lv1, bv1, h1⟩, b1⟩ := h1
    have H1 := Lib.hid h1; have B1 := Lib.hid (BL.out.trans b1)
    clear h1 b1
    go_wp2_with fail
    refine (closed_any H1.out (Nat.le_trans LEN.out hl1) PAD.out).mono ?_; rintro e w2 ⟨rfl, ⟨⟨pv2, lv2, bv2, h2⟩, b2⟩⟩
    have H2 := Lib.hid h2; have B2 := Lib.hid (B1.out.trans b2)
    clear h2 b2
    go_wp2_with fail
    go_end0
    exact ⟨rfl, ⟨_, _, _, by rw [HR.out]; exact H2.out⟩, B2.out⟩
  | false =>
    rw [if_neg (by simp)] at hR3
    have HR := Lib.hid hR3
    clear hR3
    go_enter Try.func55, Try.ntmps55
    go_wp2_with fail
    refine (opened_any K1.out 0 (by omega)).mono ?_; rintro e w1 ⟨he, h1⟩
    rw [← HOB.out] at he
    subst he
    obtain ⟨⟨pv1, lv1, bv1, h1⟩, b1⟩ := h1
    have H1 := Lib.hid h1; have B1 := Lib.hid (BL.out.trans b1)
    clear h1 b1
    go_wp2_with fail
    go_end0
    exact ⟨rfl, ⟨_, _, _, by rw [HR.out]; exact H1.out⟩, B1.out⟩
set_option maxRecDepth 100000 in
set_option maxHeartbeats 4000000 in
theorem more_any (h : RM w r pv lv bv R) (hl : R.l.length ≤ 16777215) (hp : R.pad = 0) :
    Calls Try.prog 64 #[.pointer (some ⟨r, 0, none⟩)] w fun e w' => e = .returned (.tuple #[]) ∧ RX w w' r (moreR R) := by
  obtain ⟨R1, hR1⟩ : ∃ R1 : Rg, R1 = { R with F := { R.F with eh := bitB R.fl 2 } } := ⟨_, rfl⟩
  have hl1 : R1.l.length ≤ 16777215 := by rw [hR1]; exact hl
  have hp1 : R1.pad = 0 := by rw [hR1]; exact hp
  obtain ⟨R2, hR2⟩ : ∃ R2, R2 = moreR R := ⟨_, rfl⟩
  rw [← hR2]
  have HR : Hid (R2 = closedR R1) := Lib.hid (by rw [hR2, hR1]; rfl)
  have k1 := h.put 3 (fb R.fl 4) (R' := R1) (by rw [hR1]) (by rw [hR1]) (by rw [hR1]) (by rw [hR1, fb4]; rfl)
  have BL : Hid (Below r w (w.setCell ⟨r, 3, none⟩ (fb R.fl 4))) := Lib.hid ((Below.refl r w).setCell (Nat.le_refl _) _)
  try unfold fb at k1 BL
  have K1 := Lib.hid k1
  have x16 : World.cell? w ⟨r, 16, none⟩ = some (.int .i64 ((R.fl.toNat : Nat) : Int)) := h.h.head.cell rfl
  have xf : ∀ j, World.frozen? w ⟨r, j, none⟩ = false := fun j => h.h.head.free j
  have x3 : World.cell? w ⟨r, 3, none⟩ = some (.bool R.F.eh) := h.h.head.cell rfl
  have hrl := h.lt
  clear h k1 hR1 hR2
  go_enter Try.func64, Try.ntmps64
  go_wp2_with fail
  refine (closed_any K1.out hl1 (by omega)).mono ?_; rintro e w9 ⟨rfl, ⟨⟨pv9, lv9, bv9, h9⟩, b9⟩⟩
  have H9 := Lib.hid h9; have B9 := Lib.hid ((BL.out).trans b9)
  clear h9 b9
  go_wp2_with fail
  go_end0
  exact ⟨rfl, ⟨_, _, _, by rw [HR.out]; exact H9.out⟩, B9.out⟩
set_option maxRecDepth 100000 in
set_option maxHeartbeats 4000000 in
theorem other_any (h : RM w r pv lv bv R) (hl : R.l.length ≤ 16777215) (hp : R.pad = 0) :
    Calls Try.prog 40 #[.pointer (some ⟨r, 0, none⟩)] w fun e w' => e = .returned (.tuple #[]) ∧ RX w w' r (otherR R) := by
  obtain ⟨R1, hR1⟩ : ∃ R1 : Rg, R1 = { R with F := { R.F with flags := (R.fl.toNat : Nat) } } := ⟨_, rfl⟩
  have hl1 : R1.l.length ≤ 16777215 := by rw [hR1]; exact hl
  have hp1 : R1.pad = 0 := by rw [hR1]; exact hp
  obtain ⟨R2, hR2⟩ : ∃ R2, R2 = otherR R := ⟨_, rfl⟩
  rw [← hR2]
  have HR : Hid (R2 = closedR R1) := Lib.hid (by rw [hR2, hR1]; rfl)
  have k1 := h.put 7 (.int .i64 ((R.fl.toNat : Nat) : Int)) (R' := R1) (by rw [hR1]) (by rw [hR1]) (by rw [hR1]) (by rw [hR1]; rfl)
  have BL : Hid (Below r w (w.setCell ⟨r, 7, none⟩ (.int .i64 ((R.fl.toNat : Nat) : Int)))) := Lib.hid ((Below.refl r w).setCell (Nat.le_refl _) _)
  try unfold fb at k1 BL
  have K1 := Lib.hid k1
  have x16 : World.cell? w ⟨r, 16, none⟩ = some (.int .i64 ((R.fl.toNat : Nat) : Int)) := h.h.head.cell rfl
  have xf : ∀ j, World.frozen? w ⟨r, j, none⟩ = false := fun j => h.h.head.free j
  have x7 : World.cell? w ⟨r, 7, none⟩ = some (.int .i64 R.F.flags) := h.h.head.cell rfl
  have hrl := h.lt
  clear h k1 hR1 hR2
  go_enter Try.func40, Try.ntmps40
  go_wp2_with fail
  refine (closed_any K1.out hl1 (by omega)).mono ?_; rintro e w9 ⟨rfl, ⟨⟨pv9, lv9, bv9, h9⟩, b9⟩⟩
  have H9 := Lib.hid h9; have B9 := Lib.hid ((BL.out).trans b9)
  clear h9 b9
  go_wp2_with fail
  go_end0
  exact ⟨rfl, ⟨_, _, _, by rw [HR.out]; exact H9.out⟩, B9.out⟩
set_option maxRecDepth 100000 in
set_option maxHeartbeats 4000000 in
theorem ping_any (h : RM w r pv lv bv R) (hl : R.l.length ≤ 16777215) (hp : R.pad = 0) :
    Calls Try.prog 61 #[.pointer (some ⟨r, 0, none⟩)] w fun e w' => e = .returned (.tuple #[]) ∧ RX w w' r (pingR R) := by
  obtain ⟨R1, hR1⟩ : ∃ R1 : Rg, R1 = { R with F := { R.F with ack := bitB R.fl 0 } } := ⟨_, rfl⟩
  have hl1 : R1.l.length ≤ 16777215 := by rw [hR1]; exact hl
  have hp1 : R1.pad = 0 := by rw [hR1]; exact hp
  obtain ⟨R2, hR2⟩ : ∃ R2, R2 = pingR R := ⟨_, rfl⟩
  rw [← hR2]
  have hR3 : R2 = if R1.l.length = 8 then closedR R1 else { R1 with code := 6 } := by rw [hR2, hR1]; rfl
  have k1 := h.put 4 (fb R.fl 1) (R' := R1) (by rw [hR1]) (by rw [hR1]) (by rw [hR1]) (by rw [hR1, fb1]; rfl)
  have BL : Hid (Below r w (w.setCell ⟨r, 4, none⟩ (fb R.fl 1))) := Lib.hid ((Below.refl r w).setCell (Nat.le_refl _) _)
  try unfold fb at k1 BL
  have K1 := Lib.hid k1
  have x16 : World.cell? w ⟨r, 16, none⟩ = some (.int .i64 ((R.fl.toNat : Nat) : Int)) := h.h.head.cell rfl
  have xf : ∀ j, World.frozen? w ⟨r, j, none⟩ = false := fun j => h.h.head.free j
  have x4 : World.cell? w ⟨r, 4, none⟩ = some (.bool R.F.ack) := h.h.head.cell rfl
  have hrl := h.lt
  clear h k1 hR1 hR2
  by_cases h8 : R1.l.length = 8
  · rw [if_pos h8] at hR3
    have HR := Lib.hid hR3; have HJ : Hid (justR 8 R1 = R1) := Lib.hid (if_pos h8)
    have H8 := Lib.hid h8
    clear hR3 h8
    go_enter Try.func61, Try.ntmps61
    go_wp2_with fail
    refine (justM_any K1.out 8).mono ?_; rintro e w1 ⟨rfl, h1⟩
    rw [decide_eq_true H8.out]
    rw [HJ.out] at h1
    obtain ⟨⟨pv1, lv1, bv1, h1⟩, b1⟩ := h1
    have H1 := Lib.hid h1; have B1 := Lib.hid (BL.out.trans b1)
    clear h1 b1
    go_wp2_with fail
    refine (closed_any H1.out hl1 (by omega)).mono ?_; rintro e w9 ⟨rfl, ⟨⟨pv9, lv9, bv9, h9⟩, b9⟩⟩
    have H9 := Lib.hid h9; have B9 := Lib.hid ((B1.out).trans b9)
    clear h9 b9
    go_wp2_with fail
    go_end0
    exact ⟨rfl, ⟨_, _, _, by rw [HR.out]; exact H9.out⟩, B9.out⟩
  · rw [if_neg h8] at hR3
    have HR := Lib.hid hR3; have HJ : Hid (justR 8 R1 = { R1 with code := 6 }) := Lib.hid (if_neg h8)
    have H8 := Lib.hid h8
    clear hR3 h8
    go_enter Try.func61, Try.ntmps61
    go_wp2_with fail
    refine (justM_any K1.out 8).mono ?_; rintro e w1 ⟨rfl, h1⟩
    rw [decide_eq_false H8.out]
    rw [HJ.out] at h1
    obtain ⟨⟨pv1, lv1, bv1, h1⟩, b1⟩ := h1
    have H1 := Lib.hid h1; have B1 := Lib.hid (BL.out.trans b1)
    clear h1 b1
    go_wp2_with fail
    go_end0
    exact ⟨rfl, ⟨_, _, _, by rw [HR.out]; exact H1.out⟩, B1.out⟩
set_option maxRecDepth 100000 in
set_option maxHeartbeats 4000000 in
theorem priority_any (h : RM w r pv lv bv R) :
    Calls Try.prog 57 #[.pointer (some ⟨r, 0, none⟩)] w fun e w' => e = .returned (.tuple #[]) ∧ RX w w' r (priorityR R) := by
  have K1 := Lib.hid h
  clear h
  by_cases h8 : R.l.length = 5
  · have HJ : Hid (justR 5 R = R) := Lib.hid (if_pos h8)
    obtain ⟨a, b, c, d, e5, rest, hq, hw⟩ := split5 (R := R) (by omega)
    have HR : Hid (priorityR R = weighedR a b c d e5 rest R) := Lib.hid (by unfold priorityR; rw [if_pos h8, hw])
    have HQ := Lib.hid hq
    have H8 := Lib.hid h8
    clear h8 hq hw
    go_enter Try.func57, Try.ntmps57
    go_wp2_with fail
    refine (justM_any K1.out 5).mono ?_; rintro e w1 ⟨rfl, h1⟩
    rw [decide_eq_true H8.out]
    rw [HJ.out] at h1
    obtain ⟨⟨pv1, lv1, bv1, h1⟩, b1⟩ := h1
    have H1 := Lib.hid h1; have B1 := Lib.hid b1
    clear h1 b1
    go_wp2_with fail
    refine (weighed_any H1.out HQ.out).mono ?_; rintro e w9 ⟨rfl, ⟨⟨pv9, lv9, bv9, h9⟩, b9⟩⟩
    have H9 := Lib.hid h9; have B9 := Lib.hid (B1.out.trans b9)
    clear h9 b9
    go_wp2_with fail
    go_end0
    exact ⟨rfl, ⟨_, _, _, by rw [HR.out]; exact H9.out⟩, B9.out⟩
  · have HJ : Hid (justR 5 R = { R with code := 6 }) := Lib.hid (if_neg h8)
    have HR : Hid (priorityR R = { R with code := 6 }) := Lib.hid (if_neg h8)
    have H8 := Lib.hid h8
    clear h8
    go_enter Try.func57, Try.ntmps57
    go_wp2_with fail
    refine (justM_any K1.out 5).mono ?_; rintro e w1 ⟨rfl, h1⟩
    rw [decide_eq_false H8.out]
    rw [HJ.out] at h1
    obtain ⟨⟨pv1, lv1, bv1, h1⟩, b1⟩ := h1
    have H1 := Lib.hid h1; have B1 := Lib.hid b1
    clear h1 b1
    go_wp2_with fail
    go_end0
    exact ⟨rfl, ⟨_, _, _, by rw [HR.out]; exact H1.out⟩, B1.out⟩
set_option maxRecDepth 100000 in
set_option maxHeartbeats 4000000 in
theorem reset_any (h : RM w r pv lv bv R) :
    Calls Try.prog 58 #[.pointer (some ⟨r, 0, none⟩)] w fun e w' => e = .returned (.tuple #[]) ∧ RX w w' r (resetR R) := by
  have K1 := Lib.hid h
  clear h
  by_cases h8 : R.l.length = 4
  · have HJ : Hid (justR 4 R = R) := Lib.hid (if_pos h8)
    obtain ⟨a, b, c, d, hq, hw⟩ := split4 (l := R.l) (by omega)
    obtain ⟨rest, hrest⟩ : ∃ rest, rest = R.l.drop 4 := ⟨_, rfl⟩
    rw [← hrest] at hq
    obtain ⟨N, hN⟩ : ∃ N, N = fourN a b c d := ⟨_, rfl⟩
    have HR : Hid (resetR R = { R with F := { R.F with code := (N : Nat) }, l := rest }) := Lib.hid (by unfold resetR; rw [if_pos h8, hw, hrest, hN])
    have HQ := Lib.hid hq; have HN := Lib.hid hN
    have H8 := Lib.hid h8
    clear h8 hq hw hrest hN
    go_enter Try.func58, Try.ntmps58
    go_wp2_with fail
    refine (justM_any K1.out 4).mono ?_; rintro e w1 ⟨rfl, h1⟩
    rw [decide_eq_true H8.out]
    rw [HJ.out] at h1
    obtain ⟨⟨pv1, lv1, bv1, h1⟩, b1⟩ := h1
    have H1 := Lib.hid h1; have B1 := Lib.hid b1
    clear h1 b1
    go_wp2_with fail
    refine (wordM_any H1.out HQ.out).mono ?_; rintro e w2 ⟨he, h2⟩
    rw [← HN.out] at he
    subst he
    obtain ⟨⟨pv2, lv2, bv2, h2⟩, b2⟩ := h2
    have x12 : World.cell? w2 ⟨r, 12, none⟩ = some (.int .u32 R.F.code) := h2.h.head.cell rfl
    have xf : ∀ j, World.frozen? w2 ⟨r, j, none⟩ = false := fun j => h2.h.head.free j
    have hrl := h2.lt
    have K2 := Lib.hid (h2.put 12 (.int .u32 (N : Nat)) (R' := { R with F := { R.F with code := (N : Nat) }, l := rest }) rfl rfl rfl rfl)
    have B2 := Lib.hid ((B1.out.trans b2).setCell (p := ⟨r, 12, none⟩) (Nat.le_refl _) (.int .u32 (N : Nat)))
    clear h2 b2 B1 H1
    go_wp2_with fail
    go_end0
    exact ⟨rfl, ⟨_, _, _, by rw [HR.out]; exact K2.out⟩, B2.out⟩
  · have HJ : Hid (justR 4 R = { R with code := 6 }) := Lib.hid (if_neg h8)
    have HR : Hid (resetR R = { R with code := 6 }) := Lib.hid (if_neg h8)
    have H8 := Lib.hid h8
    clear h8
    go_enter Try.func58, Try.ntmps58
    go_wp2_with fail
    refine (justM_any K1.out 4).mono ?_; rintro e w1 ⟨rfl, h1⟩
    rw [decide_eq_false H8.out]
    rw [HJ.out] at h1
    obtain ⟨⟨pv1, lv1, bv1, h1⟩, b1⟩ := h1
    have H1 := Lib.hid h1; have B1 := Lib.hid b1
    clear h1 b1
    go_wp2_with fail
    go_end0
    exact ⟨rfl, ⟨_, _, _, by rw [HR.out]; exact H1.out⟩, B1.out⟩
theorem windowM_any (h : RM w r pv lv bv R) :
    Calls Try.prog 63 #[.pointer (some ⟨r, 0, none⟩)] w fun e w' => e = .returned (.tuple #[]) ∧ RX w w' r (windowR R) := by
  by_cases h4 : R.l.length = 4
  · obtain ⟨a, b, c, d, hq, hw⟩ := split4 (l := R.l) (by omega)
    have hd : R.l.drop 4 = [] := List.drop_eq_nil_of_le (by omega)
    rw [hd] at hq
    have h1 := h.h
    rw [hq] at h1
    refine (window_any h1).mono ?_
    rintro e w' ⟨bv', rfl, h2, c2⟩
    have hR : windowR R = { R with F := { R.F with inc := (winI a b c d : Nat) }, l := [], code := if winI a b c d = 0 then 1 else R.code } := by
      unfold windowR; rw [if_pos h4, hw]; rfl
    rw [hR]
    refine ⟨rfl, RX.of h (bv' := bv') (R' := { R with F := { R.F with inc := (winI a b c d : Nat) }, l := [], code := if winI a b c d = 0 then 1 else R.code }) c2 ?_ rfl rfl⟩
    have hc : (((if winI a b c d = 0 then 1 else R.code : Nat)) : Int) = if winI a b c d = 0 then 1 else ((R.code : Nat) : Int) := by split <;> rfl
    show RH w' r _ _ _ _ _ (((if winI a b c d = 0 then 1 else R.code : Nat)) : Int)
    rw [hc]
    exact h2
  · refine (window_bad h.h h4).mono ?_
    rintro e w' ⟨rfl, h2, c2⟩
    have hR : windowR R = { R with code := 6 } := if_neg h4
    rw [hR]
    exact ⟨rfl, RX.of h c2 h2 rfl rfl⟩
end
end Go.Proofs.Ythhgnipiaohplaa.Fr
