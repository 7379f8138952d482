/-
  Which frames may be, and what octets they have.
-/
import Derived.Test.YthhgnipiaohplaaFhd
import Derived.Test.YthhgnipiaohplaaFpu
namespace Go.Proofs.Ythhgnipiaohplaa.Fr
open Go.ChangeShapes Go.WideShapes Go.ChangeAt Go.RowKit
open Go.Proofs.Ythhgnipiaohplaa.B
set_option linter.unusedVariables false
set_option linter.unusedSimpArgs false

def prioO (d : Nat) (x : Bool) (wt : Nat) : List UInt8 := be (d + if x then 2147483648 else 0) 4 ++ [UInt8.ofNat (wt - 1)]
def setO (l : List (Int × Int)) : List UInt8 := l.flatMap fun s => be s.1.toNat 2 ++ be s.2.toNat 4
/-- What stands ahead of a payload. -/
def midF (F : Fm) : List UInt8 :=
  if F.kind = 1 then (if F.prio then prioO F.depend.toNat F.excl F.weight.toNat else [])
  else if F.kind = 2 then prioO F.depend.toNat F.excl F.weight.toNat
  else if F.kind = 3 then be F.code.toNat 4
  else if F.kind = 4 then setO F.list
  else if F.kind = 5 then be F.last.toNat 4
  else if F.kind = 7 then be F.last.toNat 4 ++ be F.code.toNat 4
  else if F.kind = 8 then be F.inc.toNat 4
  else []
def padH (p : Nat) : List UInt8 := if 0 < p then [UInt8.ofNat (p - 1)] else []
def padT (p : Nat) : List UInt8 := List.replicate (p - 1) 0
def bodyF (F : Fm) : List UInt8 := padH F.pad.toNat ++ midF F ++ F.pay ++ padT F.pad.toNat
def flagsF (F : Fm) : Nat := F.flags.toNat + (if F.fin || F.ack then 1 else 0) + (if F.eh then 4 else 0) + (if 0 < F.pad.toNat then 8 else 0) + (if F.prio then 32 else 0)
/-- A frame's octets. -/
def wrO (F : Fm) : List UInt8 := h9 (bodyF F).length F.kind.toNat (flagsF F) F.stream.toNat ++ bodyF F
def StB (st : Nat) : Prop := 1 ≤ st ∧ st ≤ 2147483647
/-- A frame may be. -/
inductive May : Fm → Prop
  | data (st pad : Nat) (fin : Bool) (pay : List UInt8) (h1 : StB st) (h2 : pad ≤ 256) : May ⟨0, (st : Nat), fin, false, false, false, pay, 0, (pad : Nat), 0, false, 0, 0, [], 0, 0⟩
  | heads (st pad : Nat) (fin eh : Bool) (pay : List UInt8) (h1 : StB st) (h2 : pad ≤ 256) : May ⟨1, (st : Nat), fin, eh, false, false, pay, 0, (pad : Nat), 0, false, 0, 0, [], 0, 0⟩
  | headp (st pad d wt : Nat) (fin eh x : Bool) (pay : List UInt8) (h1 : StB st) (h2 : pad ≤ 256) (h3 : d ≤ 2147483647) (h4 : 1 ≤ wt ∧ wt ≤ 256) : May ⟨1, (st : Nat), fin, eh, false, true, pay, 0, (pad : Nat), (d : Nat), x, (wt : Nat), 0, [], 0, 0⟩
  | prio (st d wt : Nat) (x : Bool) (h1 : StB st) (h3 : d ≤ 2147483647) (h4 : 1 ≤ wt ∧ wt ≤ 256) : May ⟨2, (st : Nat), false, false, false, false, [], 0, 0, (d : Nat), x, (wt : Nat), 0, [], 0, 0⟩
  | reset (st c : Nat) (h1 : StB st) (h2 : c < 4294967296) : May ⟨3, (st : Nat), false, false, false, false, [], 0, 0, 0, false, 0, (c : Nat), [], 0, 0⟩
  | sets (ack : Bool) (l : List (Int × Int)) (h1 : ∀ s ∈ l, 0 ≤ s.1 ∧ s.1 ≤ 65535 ∧ 0 ≤ s.2 ∧ s.2 < 4294967296) (h2 : ack = true → l = []) : May ⟨4, 0, false, false, ack, false, [], 0, 0, 0, false, 0, 0, l, 0, 0⟩
  | prom (st pad last : Nat) (eh : Bool) (pay : List UInt8) (h1 : StB st) (h2 : pad ≤ 256) (h3 : StB last) : May ⟨5, (st : Nat), false, eh, false, false, pay, 0, (pad : Nat), 0, false, 0, 0, [], (last : Nat), 0⟩
  | ping (ack : Bool) (pay : List UInt8) (h1 : pay.length = 8) : May ⟨6, 0, false, false, ack, false, pay, 0, 0, 0, false, 0, 0, [], 0, 0⟩
  | away (last c : Nat) (pay : List UInt8) (h1 : last ≤ 2147483647) (h2 : c < 4294967296) : May ⟨7, 0, false, false, false, false, pay, 0, 0, 0, false, 0, (c : Nat), [], (last : Nat), 0⟩
  | wind (st inc : Nat) (h1 : st ≤ 2147483647) (h2 : StB inc) : May ⟨8, (st : Nat), false, false, false, false, [], 0, 0, 0, false, 0, 0, [], 0, (inc : Nat)⟩
  | cont (st : Nat) (eh : Bool) (pay : List UInt8) (h1 : StB st) : May ⟨9, (st : Nat), false, eh, false, false, pay, 0, 0, 0, false, 0, 0, [], 0, 0⟩
  | other (k st fl : Nat) (pay : List UInt8) (h0 : 10 ≤ k ∧ k ≤ 255) (h1 : st ≤ 2147483647) (h2 : fl ≤ 255) : May ⟨(k : Nat), (st : Nat), false, false, false, false, pay, (fl : Nat), 0, 0, false, 0, 0, [], 0, 0⟩

theorem be2 {v : Nat} : be v 2 = [UInt8.ofNat (v / 256), UInt8.ofNat v] := by simp [be]
theorem be4 {v : Nat} : be v 4 = [UInt8.ofNat (v / 16777216), UInt8.ofNat (v / 65536), UInt8.ofNat (v / 256), UInt8.ofNat v] := by simp [be]
theorem be3 {v : Nat} : be v 3 = [UInt8.ofNat (v / 65536), UInt8.ofNat (v / 256), UInt8.ofNat v] := by simp [be]
theorem four_be {v : Nat} (h : v < 4294967296) : fourN (UInt8.ofNat (v / 16777216)) (UInt8.ofNat (v / 65536)) (UInt8.ofNat (v / 256)) (UInt8.ofNat v) = v := by
  unfold fourN
  simp only [UInt8.toNat_ofNat']
  omega
theorem get4_be {v : Nat} (h : v < 4294967296) (r : List UInt8) : get4 (be v 4 ++ r) = v := by
  rw [be4]; exact four_be h
theorem drop4_be (v : Nat) (r : List UInt8) : (be v 4 ++ r).drop 4 = r := by rw [be4]; rfl
theorem len4_be (v : Nat) (r : List UInt8) : (be v 4 ++ r).length = 4 + r.length := by rw [List.length_append, be_len]
theorem sets_setO : ∀ (l : List (Int × Int)), (∀ s ∈ l, 0 ≤ s.1 ∧ s.1 ≤ 65535 ∧ 0 ≤ s.2 ∧ s.2 < 4294967296) → sets (setO l) = l
  | [], _ => rfl
  | s :: l, h => by
    obtain ⟨h1, h2, h3, h4⟩ := h s (by simp)
    have e : setO (s :: l) = UInt8.ofNat (s.1.toNat / 256) :: UInt8.ofNat s.1.toNat :: UInt8.ofNat (s.2.toNat / 16777216) :: UInt8.ofNat (s.2.toNat / 65536) :: UInt8.ofNat (s.2.toNat / 256) :: UInt8.ofNat s.2.toNat :: setO l := by
      unfold setO; rw [List.flatMap_cons, be2, be4]; rfl
    rw [e]
    show (_, _) :: sets (setO l) = _
    rw [sets_setO l (fun s hs => h s (by simp [hs])), four_be (by omega)]
    congr 1
    apply Prod.ext
    · simp only [UInt8.toNat_ofNat']; omega
    · show ((s.2.toNat : Nat) : Int) = s.2; omega
theorem setO_len (l : List (Int × Int)) : (setO l).length = 6 * l.length := by
  unfold setO
  induction l with
  | nil => rfl
  | cons s l ih => rw [List.flatMap_cons, List.length_append, ih]; simp [be_len]; omega
/-! ### Flags -/
def flg (a b c d : Bool) : Nat := (if a then 1 else 0) + (if b then 4 else 0) + (if c then 8 else 0) + (if d then 32 else 0)
theorem flg_bits (a b c d : Bool) : bitB (UInt8.ofNat (flg a b c d)) 0 = a ∧ bitB (UInt8.ofNat (flg a b c d)) 2 = b ∧ bitB (UInt8.ofNat (flg a b c d)) 3 = c ∧ bitB (UInt8.ofNat (flg a b c d)) 5 = d := by
  cases a <;> cases b <;> cases c <;> cases d <;> decide
/-! ### Padding -/
theorem opened_pad {R : Rg} {n p : Nat} {m : List UInt8} (hp : p ≤ 256) (hb : bitB R.fl 3 = decide (0 < p)) (hl : R.l = padH p ++ m) (hn : n ≤ m.length) (h0 : R.pad = 0) : openedB n R = true ∧ openedR n R = { R with pad := p, l := m } := by
  unfold openedB openedR hasR
  rcases Nat.eq_zero_or_pos p with h | h
  · subst h
    rw [hb]
    have hm : R.l = m := by rw [hl]; rfl
    obtain ⟨F, fl, l, pad, code⟩ := R
    simp only at hm h0
    subst hm h0
    simp
    exact ⟨hn, fun h => by omega⟩
  · have hm : R.l = UInt8.ofNat (p - 1) :: m := by rw [hl]; unfold padH; rw [if_pos h]; rfl
    rw [hb, decide_eq_true h]
    rw [hm]
    simp only [if_true, List.length_cons, List.headD_cons, List.tail_cons]
    refine ⟨decide_eq_true (by omega), ?_⟩
    rw [if_neg (by omega)]
    have : (UInt8.ofNat (p - 1)).toNat + 1 = p := by simp only [UInt8.toNat_ofNat']; omega
    rw [this]
theorem closed_pad {R : Rg} {pay : List UInt8} (hl : R.l = pay ++ padT R.pad) (h0 : R.F.pad = 0) : ∃ l', closedR R = { R with F := { R.F with pad := (R.pad : Nat), pay := pay }, l := l' } := by
  unfold closedR
  obtain ⟨F, fl, l, pad, code⟩ := R
  simp only at hl h0
  rcases Nat.eq_zero_or_pos pad with h | h
  · subst h
    have hm : l = pay := by rw [hl]; unfold padT; simp
    simp only [Nat.lt_irrefl, if_false]
    refine ⟨l, ?_⟩
    subst hm
    obtain ⟨a1, a2, a3, a4, a5, a6, a7, a8, a9, a10, a11, a12, a13, a14, a15, a16⟩ := F
    simp only at h0
    subst h0
    rfl
  · simp only [if_pos h]
    have hlen : l.length = pay.length + (pad - 1) := by rw [hl]; unfold padT; simp
    rw [if_neg (by omega)]
    have ht : l.take (l.length - (pad - 1)) = pay := by
      rw [hlen, Nat.add_sub_cancel, hl, List.take_append_of_le_length (Nat.le_refl _), List.take_length]
    rw [ht]
    exact ⟨_, rfl⟩
end Go.Proofs.Ythhgnipiaohplaa.Fr
