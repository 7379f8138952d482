/-
  Four octets, a number.
-/
import Derived.Test.YthhgnipiaohplaaFpu
namespace Go.Proofs.Ythhgnipiaohplaa.Fr
open Go.ChangeShapes Go.WideShapes Go.ChangeAt Go.RowKit
open Go.Proofs.Ythhgnipiaohplaa.B
set_option linter.unusedVariables false
set_option linter.unusedSimpArgs false

def fourN (a b c d : UInt8) : Nat := ((a.toNat * 256 + b.toNat) * 256 + c.toNat) * 256 + d.toNat
theorem or_nat (x y : Nat) (hx : x < 4294967296) (hy : y < 4294967296) : Go.bits .or .u32 (x : Int) (y : Int) = ((x ||| y : Nat) : Int) := by
  have key : (BitVec.ofInt 32 (x : Int) ||| BitVec.ofInt 32 (y : Int)).toNat = x ||| y := by
    rw [BitVec.toNat_or, BitVec.toNat_ofInt, BitVec.toNat_ofInt]
    have a1 : ((x : Int) % ((2 ^ 32 : Nat) : Int)).toNat = x := by omega
    have a2 : ((y : Int) % ((2 ^ 32 : Nat) : Int)).toNat = y := by omega
    rw [a1, a2]
  show IntKind.u32.wrap ((BitVec.ofInt 32 (x : Int) ||| BitVec.ofInt 32 (y : Int)).toNat : Nat) = _
  have := Nat.or_lt_two_pow (n := 32) hx hy
  rw [key, IntKind.wrap_u32]; omega
theorem or_add (k a b : Nat) (hb : b < 2 ^ k) (hs : 2 ^ k * a + b < 4294967296) : Go.bits .or .u32 ((2 ^ k * a : Nat) : Int) (b : Int) = ((2 ^ k * a + b : Nat) : Int) := by
  rw [or_nat _ _ (by omega) (by omega), Nat.two_pow_add_eq_or_of_lt hb]
set_option maxRecDepth 100000 in
set_option maxHeartbeats 4000000 in
theorem four_any {w : World} {v : Value} {a b c d : UInt8} {r : List UInt8} (hb : BytesOf w v (a :: b :: c :: d :: r)) :
    Calls Try.prog 38 #[v] w fun e w' => e = .returned (.int .u32 (fourN a b c d : Nat)) ∧ ∃ n, w' = w.drewN n := by
  obtain ⟨sa, cap, rfl, hc, hcm⟩ := hb.slice
  obtain ⟨b0, off, rfl, _, hcell⟩ := hb.cell (by simp)
  have q0 := hcell 0 a rfl
  have q1 := hcell 1 b rfl
  have q2 := hcell 2 c rfl
  have q3 := hcell 3 d rfl
  have hl : (a :: b :: c :: d :: r).length = r.length + 4 := by simp
  rw [hl]
  obtain ⟨A, hA⟩ : ∃ A : Nat, A = a.toNat := ⟨_, rfl⟩
  obtain ⟨B, hB⟩ : ∃ A : Nat, A = b.toNat := ⟨_, rfl⟩
  obtain ⟨C, hC⟩ : ∃ A : Nat, A = c.toNat := ⟨_, rfl⟩
  obtain ⟨D, hD⟩ : ∃ A : Nat, A = d.toNat := ⟨_, rfl⟩
  have hA6 : A < 256 := by rw [hA]; exact a.toNat_lt
  have hB6 : B < 256 := by rw [hB]; exact b.toNat_lt
  have hC6 : C < 256 := by rw [hC]; exact c.toNat_lt
  have hD6 : D < 256 := by rw [hD]; exact d.toNat_lt
  rw [← hA] at q0
  rw [← hB] at q1
  rw [← hC] at q2
  rw [← hD] at q3
  simp only [Nat.add_zero] at q0
  obtain ⟨N, hN⟩ : ∃ N, N = fourN a b c d := ⟨_, rfl⟩
  have hN2 : N = ((A * 256 + B) * 256 + C) * 256 + D := by rw [hN, hA, hB, hC, hD]; rfl
  rw [← hN]
  have HN := Lib.hid hN2
  clear hcell hb hA hB hC hD hN hN2 hl
  go_enter Try.func38, Try.ntmps38
  go_wp2_with fail
  go_quiet (fail)
  go_wp2_with fail
  go_ret
  have e1 : Go.bits .or .u32 ((A : Int) * 16777216) ((B : Int) * 65536) = ((A * 16777216 + B * 65536 : Nat) : Int) := by
    have := or_add 24 A (B * 65536) (by omega) (by omega)
    rw [show ((2 ^ 24 * A : Nat) : Int) = (A : Int) * 16777216 by omega, show ((B * 65536 : Nat) : Int) = (B : Int) * 65536 by omega] at this
    rw [this]; omega
  have e2 : Go.bits .or .u32 ((A * 16777216 + B * 65536 : Nat) : Int) ((C : Int) * 256) = ((A * 16777216 + B * 65536 + C * 256 : Nat) : Int) := by
    have := or_add 16 (A * 256 + B) (C * 256) (by omega) (by omega)
    rw [show ((2 ^ 16 * (A * 256 + B) : Nat) : Int) = ((A * 16777216 + B * 65536 : Nat) : Int) by omega, show ((C * 256 : Nat) : Int) = (C : Int) * 256 by omega] at this
    rw [this]; omega
  have e3 : Go.bits .or .u32 ((A * 16777216 + B * 65536 + C * 256 : Nat) : Int) (D : Int) = (N : Int) := by
    have := or_add 8 (A * 65536 + B * 256 + C) D (by omega) (by omega)
    rw [show ((2 ^ 8 * (A * 65536 + B * 256 + C) : Nat) : Int) = ((A * 16777216 + B * 65536 + C * 256 : Nat) : Int) by omega] at this
    rw [this, HN.out]; omega
  refine ⟨?_, _, rfl⟩
  show Ending.returned (.int .u32 (Go.bits .or .u32 (Go.bits .or .u32 (Go.bits .or .u32 ((A : Int) * 16777216) ((B : Int) * 65536)) ((C : Int) * 256)) (D : Int))) = _
  rw [e1, e2, e3]
end Go.Proofs.Ythhgnipiaohplaa.Fr
