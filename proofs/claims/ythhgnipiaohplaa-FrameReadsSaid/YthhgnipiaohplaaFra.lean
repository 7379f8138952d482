/-
  A payload that is read, as a value: its words, its padding.
-/
import Derived.Test.YthhgnipiaohplaaFwi
import Derived.Test.YthhgnipiaohplaaFcl
import Derived.Test.YthhgnipiaohplaaFbr
import Derived.BigRegion
namespace Go.Proofs.Ythhgnipiaohplaa.Fr
open Go.ChangeShapes Go.WideShapes Go.ChangeAt Go.RowKit
open Go.Proofs.Ythhgnipiaohplaa.B
set_option linter.unusedVariables false
set_option linter.unusedSimpArgs false

/-- A frame that is read. -/
structure Fm where
  kind : Int
  stream : Int
  fin : Bool
  eh : Bool
  ack : Bool
  prio : Bool
  pay : List UInt8
  flags : Int
  pad : Int
  depend : Int
  excl : Bool
  weight : Int
  code : Int
  list : List (Int × Int)
  last : Int
  inc : Int
def Fm.mem (F : Fm) (pv lv : Value) : Frm := ⟨F.kind, F.stream, F.fin, F.eh, F.ack, F.prio, pv, F.flags, F.pad, F.depend, F.excl, F.weight, F.code, lv, F.last, F.inc⟩
/-- A payload that is read. -/
structure Rg where
  F : Fm
  fl : UInt8
  l : List UInt8
  pad : Nat
  code : Nat
def encS (s : Int × Int) : List Value := [.int .i64 s.1, .int .u32 s.2]
/-- It lies at r: its rows are made later, its octets are elder. -/
structure RM (w : World) (r : Nat) (pv lv bv : Value) (R : Rg) : Prop where
  h : RH w r (R.F.mem pv lv) ((R.fl.toNat : Nat) : Int) bv R.l ((R.pad : Nat) : Int) ((R.code : Nat) : Int)
  p : OwnB w r pv R.F.pay
  s : OwnR 50 2 encS w r lv R.F.list
/-- Behind a step. -/
def RX (w w' : World) (r : Nat) (R : Rg) : Prop := (∃ pv lv bv, RM w' r pv lv bv R) ∧ Below r w w'
def bitB (fl : UInt8) (k : Nat) : Bool := fl.toNat.testBit k
theorem and64_nat (x y : Nat) (hx : x < 4294967296) (hy : y < 4294967296) : Go.bits .and .i64 (x : Int) (y : Int) = ((x &&& y : Nat) : Int) := by
  have key : (BitVec.ofInt 64 (x : Int) &&& BitVec.ofInt 64 (y : Int)).toNat = x &&& y := by
    rw [BitVec.toNat_and, BitVec.toNat_ofInt, BitVec.toNat_ofInt]
    have a1 : ((x : Int) % ((2 ^ 64 : Nat) : Int)).toNat = x := by omega
    have a2 : ((y : Int) % ((2 ^ 64 : Nat) : Int)).toNat = y := by omega
    rw [a1, a2]
  show IntKind.i64.wrap ((BitVec.ofInt 64 (x : Int) &&& BitVec.ofInt 64 (y : Int)).toNat : Nat) = _
  have := @Nat.and_le_left x y
  rw [key, IntKind.wrap_i64]; omega
theorem nat_and_pow (x k : Nat) : x &&& 2 ^ k = if x.testBit k then 2 ^ k else 0 := by
  apply Nat.eq_of_testBit_eq
  intro i
  rw [Nat.testBit_and, Nat.testBit_two_pow]
  by_cases h : k = i
  · subst h
    cases hx : x.testBit k <;> simp [hx]
  · rw [decide_eq_false h]
    cases hx : x.testBit k
    · simp
    · simp [h]
theorem bit_and (fl : UInt8) (k : Nat) (hk : k < 32) : Go.bits .and .i64 ((fl.toNat : Nat) : Int) ((2 ^ k : Nat) : Int) = if bitB fl k then ((2 ^ k : Nat) : Int) else 0 := by
  have h1 : 2 ^ k < 2 ^ 32 := Nat.pow_lt_pow_right (by decide) hk
  have h2 := fl.toNat_lt
  rw [and64_nat _ _ (by omega) (by omega), nat_and_pow]
  unfold bitB
  cases fl.toNat.testBit k <;> simp
theorem bit1 (fl : UInt8) : Go.bits .and .i64 ((fl.toNat : Nat) : Int) 1 = if bitB fl 0 then 1 else 0 := bit_and fl 0 (by decide)
theorem bit4 (fl : UInt8) : Go.bits .and .i64 ((fl.toNat : Nat) : Int) 4 = if bitB fl 2 then 4 else 0 := bit_and fl 2 (by decide)
theorem bit8 (fl : UInt8) : Go.bits .and .i64 ((fl.toNat : Nat) : Int) 8 = if bitB fl 3 then 8 else 0 := bit_and fl 3 (by decide)
theorem bit32 (fl : UInt8) : Go.bits .and .i64 ((fl.toNat : Nat) : Int) 32 = if bitB fl 5 then 32 else 0 := bit_and fl 5 (by decide)
section
variable {w w' w'' : World} {r : Nat} {pv lv bv : Value} {R : Rg}
theorem RM.lt (h : RM w r pv lv bv R) : r < w.heap.size := h.h.head.lt
theorem RM.chg0 (h : RM w r pv lv bv R) (hc : Chg [] w w') : RM w' r pv lv bv R := ⟨h.h.chg0 hc, h.p.chg hc (fun _ _ => by simp), h.s.chg0 hc⟩
theorem RM.pr (h : RM w r pv lv bv R) : r ∉ pv.ownBlock.toList := owns_alien h.p h.h.head (by decide)
theorem RM.sr (h : RM w r pv lv bv R) : r ∉ lv.ownBlock.toList := owns_alien h.s h.h.head (by decide)
theorem RM.step (h : RM w r pv lv bv R) {R' : Rg} {bv' : Value} (hc : Chg [r] w w') (hh : RH w' r (R'.F.mem pv lv) ((R'.fl.toNat : Nat) : Int) bv' R'.l ((R'.pad : Nat) : Int) ((R'.code : Nat) : Int)) (hp : R'.F.pay = R.F.pay) (hs : R'.F.list = R.F.list) : RM w' r pv lv bv' R' :=
  ⟨hh, by rw [hp]; exact h.p.chg hc (fun g hg hx => h.pr (by simp at hx; subst hx; simp [hg])), by rw [hs]; exact h.s.chg hc (fun g hg hx => h.sr (by simp at hx; subst hx; simp [hg]))⟩
theorem RM.bel (h : RM w r pv lv bv R) (hc : Chg [r] w w') : Below r w w' := hc.below (by simp) (Nat.le_of_lt h.lt)
theorem RM.rx (h : RM w r pv lv bv R) : RX w w r R := ⟨⟨_, _, _, h⟩, Below.refl _ _⟩
theorem RX.of (h : RM w r pv lv bv R) {R' : Rg} {bv' : Value} (hc : Chg [r] w w') (hh : RH w' r (R'.F.mem pv lv) ((R'.fl.toNat : Nat) : Int) bv' R'.l ((R'.pad : Nat) : Int) ((R'.code : Nat) : Int)) (hp : R'.F.pay = R.F.pay) (hs : R'.F.list = R.F.list) : RX w w' r R' :=
  ⟨⟨_, _, _, h.step hc hh hp hs⟩, h.bel hc⟩
theorem RX.trans {R' : Rg} (h : RX w w' r R) (k : RX w' w'' r R') : RX w w'' r R' := ⟨k.1, h.2.trans k.2⟩
/-- One cell of its head is written. -/
theorem RM.put (h : RM w r pv lv bv R) (j : Nat) (v : Value) {R' : Rg} (hp : R'.F.pay = R.F.pay) (hs : R'.F.list = R.F.list) (hl : R'.l = R.l)
    (he : (rcs (R.F.mem pv lv) ((R.fl.toNat : Nat) : Int) bv ((R.pad : Nat) : Int) ((R.code : Nat) : Int)).setIfInBounds j v = rcs (R'.F.mem pv lv) ((R'.fl.toNat : Nat) : Int) bv ((R'.pad : Nat) : Int) ((R'.code : Nat) : Int)) : RM (w.setCell ⟨r, j, none⟩ v) r pv lv bv R' := by
  obtain ⟨k1, k2⟩ := h.h.bput j v
  exact h.step k1 ⟨by rw [← he]; exact h.h.head.set j v, by rw [hl]; exact k2, h.h.ap⟩ hp hs
def hasR (n : Nat) (R : Rg) : Rg := if R.l.length < n then { R with code := 6 } else R
def justR (n : Nat) (R : Rg) : Rg := if R.l.length = n then R else { R with code := 6 }
set_option maxRecDepth 100000 in
set_option maxHeartbeats 4000000 in
theorem has_any (h : RM w r pv lv bv R) (n : Nat) :
    Calls Try.prog 72 #[.pointer (some ⟨r, 0, none⟩), .int .i64 (n : Int)] w fun e w' => e = .returned (.bool (decide (n ≤ R.l.length))) ∧ RX w w' r (hasR n R) := by
  obtain ⟨a, cap, rfl, hc, hcm⟩ := h.h.b.slice
  have x17 : World.cell? w ⟨r, 17, none⟩ = some (.slice a R.l.length cap) := h.h.head.cell rfl
  have x2 : World.cell? w ⟨r, 2, none⟩ = some (.bool R.F.fin) := h.h.head.cell rfl
  have x3 : World.cell? w ⟨r, 3, none⟩ = some (.bool R.F.eh) := h.h.head.cell rfl
  have x5 : World.cell? w ⟨r, 5, none⟩ = some (.bool R.F.prio) := h.h.head.cell rfl
  have x16 : World.cell? w ⟨r, 16, none⟩ = some (.int .i64 ((R.fl.toNat : Nat) : Int)) := h.h.head.cell rfl
  have x18 : World.cell? w ⟨r, 18, none⟩ = some (.int .i64 ((R.pad : Nat) : Int)) := h.h.head.cell rfl
  have x19 : World.cell? w ⟨r, 19, none⟩ = some (.int .u32 ((R.code : Nat) : Int)) := h.h.head.cell rfl
  have xf : ∀ j, World.frozen? w ⟨r, j, none⟩ = false := fun j => h.h.head.free j
  have HH := Lib.hid h
  clear h
  by_cases hn : R.l.length < n
  · have hr : hasR n R = { R with code := 6 } := if_pos hn
    rw [hr, decide_eq_false (by omega)]
    have g : ((R.l.length : Int) < (n : Int)) := by omega
    clear hr
    go_enter Try.func72, Try.ntmps72
    go_wp2_with fail
    go_ret
    have k := HH.out.put 19 (.int .u32 6) (R' := { R with code := 6 }) rfl rfl rfl rfl
    exact ⟨rfl, ⟨_, _, _, k⟩, HH.out.bel ((Chg.refl w).setCell (Or.inl (by simp)) _)⟩
  · have hr : hasR n R = R := if_neg hn
    rw [hr, decide_eq_true (by omega)]
    have g : (n : Int) ≤ (R.l.length : Int) := by omega
    have g2 : ((R.l.length : Int) < (n : Int)) = False := by simp; omega
    clear hr
    go_enter Try.func72, Try.ntmps72
    go_wp2_with fail
    go_ret
    exact ⟨rfl, HH.out.rx⟩
theorem justM_any (h : RM w r pv lv bv R) (n : Nat) :
    Calls Try.prog 69 #[.pointer (some ⟨r, 0, none⟩), .int .i64 (n : Int)] w fun e w' => e = .returned (.bool (decide (R.l.length = n))) ∧ RX w w' r (justR n R) := by
  refine (just_any h.h (n : Int)).mono ?_
  rintro e w' ⟨rfl, h1, c1⟩
  by_cases hn : R.l.length = n
  · rw [if_pos (by omega)] at h1
    rw [show justR n R = R from if_pos hn]
    exact ⟨by simp [hn], RX.of h c1 h1 rfl rfl⟩
  · rw [if_neg (by omega)] at h1
    rw [show justR n R = { R with code := 6 } from if_neg hn]
    exact ⟨by simp [hn]; omega, RX.of h c1 h1 rfl rfl⟩
theorem wordM_any {a b c d : UInt8} {rest : List UInt8} (h : RM w r pv lv bv R) (hl : R.l = a :: b :: c :: d :: rest) :
    Calls Try.prog 70 #[.pointer (some ⟨r, 0, none⟩)] w fun e w' => e = .returned (.int .u32 (fourN a b c d : Nat)) ∧ RX w w' r { R with l := rest } := by
  have h1 := h.h
  rw [hl] at h1
  refine (word_any h1).mono ?_
  rintro e w' ⟨bv', rfl, h2, c1⟩
  exact ⟨rfl, RX.of h (R' := { R with l := rest }) c1 h2 rfl rfl⟩
end
end Go.Proofs.Ythhgnipiaohplaa.Fr
