/-
  A payload that is read: its padding and what stands in it.
-/
import Derived.Test.YthhgnipiaohplaaFra
import Derived.Deep.DeepCutAuto
namespace Go.Proofs.Ythhgnipiaohplaa.Fr
open Go.ChangeShapes Go.WideShapes Go.ChangeAt Go.RowKit
open Go.Proofs.Ythhgnipiaohplaa.B
set_option linter.unusedVariables false
set_option linter.unusedSimpArgs false

def openedB (n : Nat) (R : Rg) : Bool := if bitB R.fl 3 then decide (n + 1 ≤ R.l.length) else decide (n ≤ R.l.length)
def openedR (n : Nat) (R : Rg) : Rg := if bitB R.fl 3 then (if R.l.length < n + 1 then { R with code := 6 } else { R with pad := (R.l.headD 0).toNat + 1, l := R.l.tail }) else hasR n R
def closedR (R : Rg) : Rg := if 0 < R.pad then (if R.l.length < R.pad - 1 then { R with code := 1 } else { R with F := { R.F with pad := R.pad, pay := R.l.take (R.l.length - (R.pad - 1)) }, l := R.l.take (R.l.length - (R.pad - 1)) }) else { R with F := { R.F with pay := R.l } }
def weighedR (a b c d e : UInt8) (rest : List UInt8) (R : Rg) : Rg := { R with F := { R.F with depend := (fourN a b c d % 2147483648 : Nat), excl := fourN a b c d / 2147483648 == 1, weight := (e.toNat + 1 : Nat) }, l := rest }
section
variable {w w' w'' : World} {r : Nat} {pv lv bv : Value} {R : Rg}
theorem RM.paid (h : RM w r pv lv bv R) {rv : Value} {m : List UInt8} (hr : OwnB w r rv m) : RM (w.setCell ⟨r, 6, none⟩ rv) r rv lv bv { R with F := { R.F with pay := m } } := by
  obtain ⟨k1, k2⟩ := h.h.bput 6 rv
  have hne : r ∉ rv.ownBlock.toList := owns_alien hr h.h.head (by decide)
  exact ⟨⟨h.h.head.set 6 rv, k2, h.h.ap⟩, hr.chg k1 (fun g hg hx => hne (by simp at hx; subst hx; simp [hg])), h.s.chg k1 (fun g hg hx => h.sr (by simp at hx; subst hx; simp [hg]))⟩
/-- Its octets are others. -/
theorem RM.rest (h : RM w r pv lv bv R) {bv' : Value} {m : List UInt8} (hb : BytesOf w bv' m) (ha : ∀ a n c, bv' = .slice (some a) n c → a.block < r) : RM (w.setCell ⟨r, 17, none⟩ bv') r pv lv bv' { R with l := m } := by
  have hc : Chg [r] w (w.setCell ⟨r, 17, none⟩ bv') := (Chg.refl w).setCell (Or.inl (by simp)) _
  exact h.step hc ⟨h.h.head.set 17 _, hb.chg hc (fun a n c e => by have := ha a n c e; simp; omega), ha⟩ rfl rfl
set_option maxRecDepth 100000 in
set_option maxHeartbeats 4000000 in
theorem opened_any (h : RM w r pv lv bv R) (n : Nat) (hn : n ≤ 100) :
    Calls Try.prog 67 #[.pointer (some ⟨r, 0, none⟩), .int .i64 (n : Int)] w fun e w' => e = .returned (.bool (openedB n R)) ∧ RX w w' r (openedR n R) := by
  have x16 : World.cell? w ⟨r, 16, none⟩ = some (.int .i64 ((R.fl.toNat : Nat) : Int)) := h.h.head.cell rfl
  have x18 : World.cell? w ⟨r, 18, none⟩ = some (.int .i64 ((R.pad : Nat) : Int)) := h.h.head.cell rfl
  have x19 : World.cell? w ⟨r, 19, none⟩ = some (.int .u32 ((R.code : Nat) : Int)) := h.h.head.cell rfl
  have xf : ∀ j, World.frozen? w ⟨r, j, none⟩ = false := fun j => h.h.head.free j
  have e8 := bit8 R.fl
  have HH := Lib.hid h
  clear h
  cases hb : bitB R.fl 3 with
  | false =>
    have g1 : openedB n R = decide (n ≤ R.l.length) := by unfold openedB; rw [hb]; rfl
    have g2 : openedR n R = hasR n R := by unfold openedR; rw [hb]; rfl
    rw [g1, g2]
    rw [hb, if_neg (by simp)] at e8
    clear g1 g2
    go_enter Try.func67, Try.ntmps67
    go_wp2_with fail
    refine (has_any HH.out n).mono ?_; rintro e w1 ⟨rfl, h1⟩
    have H1 := Lib.hid h1
    clear h1
    go_wp2_with fail
    go_ret
    exact ⟨rfl, H1.out⟩
  | true =>
    rw [hb, if_pos rfl] at e8
    by_cases hl : R.l.length < n + 1
    · have g1 : openedB n R = false := by unfold openedB; rw [hb, if_pos rfl]; simp; omega
      have g2 : openedR n R = { R with code := 6 } := by unfold openedR; rw [hb, if_pos rfl, if_pos hl]
      rw [g1, g2]
      clear g1 g2
      go_enter Try.func67, Try.ntmps67
      go_wp2_with fail
      refine (has_any HH.out (n + 1)).mono ?_; rintro e w1 ⟨rfl, h1⟩
      rw [show hasR (n + 1) R = { R with code := 6 } from if_pos hl] at h1
      rw [decide_eq_false (show ¬ (n + 1 ≤ R.l.length) by omega)]
      have H1 := Lib.hid h1
      clear h1
      go_wp2_with fail
      go_ret
      exact ⟨rfl, H1.out⟩
    · obtain ⟨c, rest, hcr⟩ : ∃ c rest, R.l = c :: rest := by
        cases hq : R.l with
        | nil => rw [hq] at hl; simp at hl
        | cons c rest => exact ⟨c, rest, rfl⟩
      have g1 : openedB n R = true := by unfold openedB; rw [hb, if_pos rfl]; simp; omega
      have g2 : openedR n R = { R with pad := c.toNat + 1, l := rest } := by unfold openedR; rw [hb, if_pos rfl, if_neg hl, hcr]; rfl
      rw [g1, g2]
      clear g1 g2
      have HCR := Lib.hid hcr
      clear hcr
      go_enter Try.func67, Try.ntmps67
      go_wp2_with fail
      refine (has_any HH.out (n + 1)).mono ?_; rintro e w1 ⟨rfl, h1⟩
      rw [show hasR (n + 1) R = R from if_neg hl] at h1
      rw [decide_eq_true (show n + 1 ≤ R.l.length by omega)]
      clear hl
      obtain ⟨⟨pv1, lv1, bv1, h1⟩, b1⟩ := h1
      obtain ⟨a, cap, rfl, hc, hcm⟩ := h1.h.b.slice
      have hb1 := h1.h.b
      have hlen : R.l.length = rest.length + 1 := by rw [HCR.out]; rfl
      rw [HCR.out] at hb1 hc
      obtain ⟨bb, off, rfl, hbb, hcell⟩ := hb1.cell (by simp)
      have q0 := hcell 0 c rfl
      simp only [Nat.add_zero] at q0
      have hdr : BytesOf w1 (.slice (some ⟨bb, off + 1, none⟩) rest.length (cap - 1)) rest := by simpa using bytes_drop hb1 1 (by simp) hc hcm
      have x17 : World.cell? w1 ⟨r, 17, none⟩ = some (.slice (some ⟨bb, off, none⟩) R.l.length cap) := h1.h.head.cell rfl
      rw [hlen] at x17
      have hap : bb < r := h1.h.ap _ _ _ rfl
      clear x16 x18 x19 xf
      have x16 : World.cell? w1 ⟨r, 16, none⟩ = some (.int .i64 ((R.fl.toNat : Nat) : Int)) := h1.h.head.cell rfl
      have x18 : World.cell? w1 ⟨r, 18, none⟩ = some (.int .i64 ((R.pad : Nat) : Int)) := h1.h.head.cell rfl
      have x19 : World.cell? w1 ⟨r, 19, none⟩ = some (.int .u32 ((R.code : Nat) : Int)) := h1.h.head.cell rfl
      have xf : ∀ j, World.frozen? w1 ⟨r, j, none⟩ = false := fun j => h1.h.head.free j
      have B1 := Lib.hid b1; have H1 := Lib.hid h1; have HD := Lib.hid hdr
      obtain ⟨C, hC⟩ : ∃ C : Nat, C = c.toNat := ⟨_, rfl⟩
      have hC6 : C < 256 := by rw [hC]; exact c.toNat_lt
      rw [← hC] at q0
      have HC := Lib.hid hC
      unfold maxLen at hcm
      simp only [List.length_cons] at hc
      have hrl : r < w1.heap.size := h1.lt
      have hne : ¬ bb = r := by omega
      clear h1 b1 hb1 hcell hdr hC hlen
      have PUT := Lib.hid (H1.out.put 18 (.int .i64 ((C + 1 : Nat) : Int)) (R' := { R with pad := C + 1 }) rfl rfl rfl rfl)
      have BB : Hid (BytesOf (w1.setCell ⟨r, 18, none⟩ (.int .i64 ((C + 1 : Nat) : Int))) (.slice (some ⟨bb, off + 1, none⟩) rest.length (cap - 1)) rest) := Lib.hid (HD.out.chg (l := [r]) ((Chg.refl w1).setCell (Or.inl (by simp)) _) (fun a n c e => by cases e; simpa using hne))
      have BW : Hid (∀ u v, Below r w ((w1.setCell ⟨r, 18, none⟩ u).setCell ⟨r, 17, none⟩ v)) := Lib.hid (fun u v => (B1.out.setCell (Nat.le_refl _) _).setCell (Nat.le_refl _) _)
      rcases Nat.lt_or_ge 1 cap with h4 | h4
      · have hne1 : ¬ cap = 1 := by omega
        go_wp2_with fail
        go_ret
        have k := PUT.out.rest BB.out (fun a n c e => by cases e; exact hap)
        exact ⟨rfl, ⟨_, _, _, by rw [← HC.out]; exact k⟩, BW.out _ _⟩
      · obtain rfl : cap = 1 := by omega
        have hr0 : rest.length = 0 := by omega
        go_wp2_with fail
        go_ret
        have k := PUT.out.rest (bv' := .slice (some ⟨bb, off, none⟩) rest.length 0) (m := rest) ⟨_, _, rfl, by omega, by simp [maxLen], fun h0 => by omega⟩ (fun a n c e => by cases e; exact hap)
        first | exact ⟨rfl, ⟨_, _, _, by rw [← HC.out]; exact k⟩, BW.out _ _⟩ | (rw [hr0] at k; exact ⟨rfl, ⟨_, _, _, by rw [← HC.out]; exact k⟩, BW.out _ _⟩)
theorem BytesOf.pre0 {w : World} {a : Option Addr} {n cap : Nat} {l : List UInt8} (h : BytesOf w (.slice a n cap) l) (k : Nat) (hk : k ≤ l.length) : BytesOf w (.slice a k cap) (l.take k) := BytesOf.pre h k hk
theorem closed_none {R : Rg} (h : R.pad = 0) : closedR R = { R with F := { R.F with pay := R.l } } := by unfold closedR; rw [if_neg (by omega)]
set_option maxRecDepth 100000 in
set_option maxHeartbeats 4000000 in
theorem closed_any (h : RM w r pv lv bv R) (hl : R.l.length ≤ 16777215) (hp : R.pad ≤ 256) :
    Calls Try.prog 54 #[.pointer (some ⟨r, 0, none⟩)] w fun e w' => e = .returned (.tuple #[]) ∧ RX w w' r (closedR R) := by
  obtain ⟨a, cap, rfl, hc, hcm⟩ := h.h.b.slice
  unfold maxLen at hcm
  have x17 : World.cell? w ⟨r, 17, none⟩ = some (.slice a R.l.length cap) := h.h.head.cell rfl
  have x16 : World.cell? w ⟨r, 16, none⟩ = some (.int .i64 ((R.fl.toNat : Nat) : Int)) := h.h.head.cell rfl
  have x18 : World.cell? w ⟨r, 18, none⟩ = some (.int .i64 ((R.pad : Nat) : Int)) := h.h.head.cell rfl
  have x19 : World.cell? w ⟨r, 19, none⟩ = some (.int .u32 ((R.code : Nat) : Int)) := h.h.head.cell rfl
  have xf : ∀ j, World.frozen? w ⟨r, j, none⟩ = false := fun j => h.h.head.free j
  have hrl := h.lt
  have HH := Lib.hid h
  clear h
  by_cases hp0 : R.pad = 0
  · have g2 := closed_none hp0
    rw [g2]
    rw [hp0] at x18
    clear g2
    go_enter Try.func54, Try.ntmps54
    go_wp2_with fail
    refine (clone_any HH.out.h.b (by omega)).mono ?_; rintro e w1 ⟨rv, rfl, o1, c1⟩
    have h1 := HH.out.chg0 c1
    have o1' := owns_mono o1 (Nat.le_of_lt hrl)
    have hrl1 := h1.lt
    have xf1 : ∀ j, World.frozen? w1 ⟨r, j, none⟩ = false := fun j => h1.h.head.free j
    obtain ⟨q, qc, rfl, _, _⟩ := (OwnB.bytes o1).slice
    obtain ⟨p0, p1, hpv, _, _⟩ := (OwnB.bytes h1.p).slice
    have x6 : World.cell? w1 ⟨r, 6, none⟩ = some pv := h1.h.head.cell rfl
    rw [hpv] at x6
    have K := Lib.hid (h1.paid o1'); have B1 : Hid (Below r w w1) := Lib.hid (c1.below (by simp) (Nat.le_of_lt hrl))
    clear h1 o1 o1' c1 x16 x17 x18 x19 xf hpv
    go_wp2_with fail
    go_end0
    exact ⟨rfl, ⟨_, _, _, K.out⟩, B1.out.setCell (Nat.le_refl _) _⟩
  · have g0 : (0 : Int) < ((R.pad : Nat) : Int) := by omega
    have w0 : wrap64 (((R.pad : Nat) : Int) - 1) = ((R.pad : Nat) : Int) - 1 := by unfold wrap64; omega
    by_cases hs : R.l.length < R.pad - 1
    · have g2 : closedR R = { R with code := 1 } := by unfold closedR; rw [if_pos (by omega), if_pos hs]
      rw [g2]
      have g3 : decide ((R.l.length : Int) < ((R.pad : Nat) : Int) - 1) = true := decide_eq_true (by omega)
      clear g2
      go_enter Try.func54, Try.ntmps54
      go_wp2_with fail
      go_quiet (fail)
      have h1 : RM (w.drewN nq) r pv lv _ R := HH.out.chg0 ((Chg.refl w).drewN nq)
      have xf1 : ∀ j, World.frozen? (w.drewN nq) ⟨r, j, none⟩ = false := fun j => h1.h.head.free j
      have x19' : World.cell? (w.drewN nq) ⟨r, 19, none⟩ = some (.int .u32 ((R.code : Nat) : Int)) := h1.h.head.cell rfl
      have K := Lib.hid (h1.put 19 (.int .u32 1) (R' := { R with code := 1 }) rfl rfl rfl rfl)
      have B1 : Hid (Below r w (w.drewN nq)) := Lib.hid ((Below.refl r w).drewN nq)
      clear h1 x16 x17 x18 x19 xf
      generalize w.drewN nq = w1 at *
      go_wp2_with fail
      refine bodyPost_ret (results_none rfl _ _ _) rfl ?_
      exact ⟨rfl, ⟨_, _, _, K.out⟩, B1.out.setCell (Nat.le_refl _) _⟩
    · obtain ⟨M, hM⟩ : ∃ M : Nat, M = R.l.length - (R.pad - 1) := ⟨_, rfl⟩
      have g2 : closedR R = { R with F := { R.F with pad := R.pad, pay := R.l.take M }, l := R.l.take M } := by unfold closedR; rw [if_pos (by omega), if_neg hs, hM]
      rw [g2]
      have g3 : decide ((R.l.length : Int) < ((R.pad : Nat) : Int) - 1) = false := decide_eq_false (by omega)
      have w1 : wrap64 ((R.l.length : Int) - (((R.pad : Nat) : Int) - 1)) = (M : Int) := by unfold wrap64; omega
      have w2 : (R.l.length : Int) - (((R.pad : Nat) : Int) - 1) = (M : Int) := by omega
      have hMl : M ≤ R.l.length := by omega
      have hMI : (M : Int) ≤ (cap : Int) := by omega
      have hM0 : (0 : Int) ≤ (M : Int) := by omega
      have HM := Lib.hid hM
      clear g2 hM
      go_enter Try.func54, Try.ntmps54
      go_wp2_with fail
      go_quiet (fail)
      have h1 : RM (w.drewN nq) r pv lv _ R := HH.out.chg0 ((Chg.refl w).drewN nq)
      have h2 := h1.put 8 (.int .i64 ((R.pad : Nat) : Int)) (R' := { R with F := { R.F with pad := R.pad } }) rfl rfl rfl rfl
      have B2 : Hid (Below r w ((w.drewN nq).setCell ⟨r, 8, none⟩ (.int .i64 ((R.pad : Nat) : Int)))) := Lib.hid (((Below.refl r w).drewN nq).setCell (Nat.le_refl _) _)
      have xf1 : ∀ j, World.frozen? (w.drewN nq) ⟨r, j, none⟩ = false := fun j => h1.h.head.free j
      have x8' : World.cell? (w.drewN nq) ⟨r, 8, none⟩ = some (.int .i64 R.F.pad) := h1.h.head.cell rfl
      have x18' : World.cell? (w.drewN nq) ⟨r, 18, none⟩ = some (.int .i64 ((R.pad : Nat) : Int)) := h1.h.head.cell rfl
      have hrl1 := h1.lt
      have H2 := Lib.hid h2
      clear h1 h2 x16 x17 x18 x19 xf
      go_upto_region 4 with fail
      have x17b : World.cell? ((w.drewN nq).setCell ⟨r, 8, none⟩ (.int .i64 ((R.pad : Nat) : Int))) ⟨r, 17, none⟩ = some (.slice a R.l.length cap) := H2.out.h.head.cell rfl
      have x18b : World.cell? ((w.drewN nq).setCell ⟨r, 8, none⟩ (.int .i64 ((R.pad : Nat) : Int))) ⟨r, 18, none⟩ = some (.int .i64 ((R.pad : Nat) : Int)) := H2.out.h.head.cell rfl
      have xf2 : ∀ j, World.frozen? ((w.drewN nq).setCell ⟨r, 8, none⟩ (.int .i64 ((R.pad : Nat) : Int))) ⟨r, j, none⟩ = false := fun j => H2.out.h.head.free j
      clear x18' x8' xf1 hrl1
      have hrl2 := H2.out.lt
      have REST : Hid (RM ((((w.drewN nq).setCell ⟨r, 8, none⟩ (.int .i64 ((R.pad : Nat) : Int))).setCell ⟨r, 17, none⟩ (.slice a M cap)).drew) r pv lv (.slice a M cap) { R with F := { R.F with pad := R.pad }, l := R.l.take M }) := Lib.hid ((H2.out.rest (BytesOf.pre H2.out.h.b M hMl) (fun b n c e => by cases e; exact H2.out.h.ap _ _ _ rfl)).chg0 ((Chg.refl _).drew))
      generalize (w.drewN nq).setCell ⟨r, 8, none⟩ (.int .i64 ((R.pad : Nat) : Int)) = w3 at *
      go_region
      have B4 : Hid (Below r w (w3.setCell ⟨r, 17, none⟩ (.slice a M cap)).drew) := Lib.hid ((B2.out.setCell (Nat.le_refl _) _).drew)
      clear x17b x18b xf2 hrl2 H2 B2
      have x17' := REST.out.h.head.cell (o := 17) rfl
      have hrl5 := REST.out.lt
      generalize (w3.setCell ⟨r, 17, none⟩ (.slice a M cap)).drew = w5 at *
      have hml : (R.l.take M).length = M := by rw [List.length_take]; omega
      have RB : Hid (BytesOf w5 (.slice a M cap) (R.l.take M)) := Lib.hid REST.out.h.b
      go_wp2_with fail
      refine (clone_any RB.out (by omega)).mono ?_; rintro e w6 ⟨rv, rfl, o1, c1⟩
      have h1 := REST.out.chg0 c1
      have o1' : OwnB w6 r rv (R.l.take M) := owns_mono o1 (Nat.le_of_lt hrl5)
      have hrl6 := h1.lt
      have xf6 : ∀ j, World.frozen? w6 ⟨r, j, none⟩ = false := fun j => h1.h.head.free j
      obtain ⟨q, qc, rfl, _, _⟩ := (OwnB.bytes o1).slice
      rw [hml] at o1'
      obtain ⟨p0, p1, hpv, _, _⟩ := (OwnB.bytes h1.p).slice
      have x6 : World.cell? w6 ⟨r, 6, none⟩ = some pv := h1.h.head.cell rfl
      rw [hpv] at x6
      have K := Lib.hid (h1.paid o1'); have B1 : Hid (Below r w w6) := Lib.hid (B4.out.chg c1 (Nat.le_of_lt hrl) (by simp))
      clear h1 o1 o1' c1 x17' hpv
      go_wp2_with fail
      go_end0
      exact ⟨rfl, ⟨_, _, _, K.out⟩, B1.out.setCell (Nat.le_refl _) _⟩
end
end Go.Proofs.Ythhgnipiaohplaa.Fr
