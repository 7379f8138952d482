/-
  An increment read.
-/
import Derived.Test.YthhgnipiaohplaaFrd
namespace Go.Proofs.Ythhgnipiaohplaa.Fr
open Go.ChangeShapes Go.WideShapes Go.ChangeAt Go.RowKit
open Go.Proofs.Ythhgnipiaohplaa.B
set_option linter.unusedVariables false
set_option linter.unusedSimpArgs false

theorem and31 (x : Nat) (hx : x < 4294967296) : Go.bits .and .u32 (x : Int) 2147483647 = ((x % 2147483648 : Nat) : Int) := by
  have key : (BitVec.ofInt 32 (x : Int) &&& BitVec.ofInt 32 2147483647).toNat = x % 2147483648 := by
    rw [BitVec.toNat_and, BitVec.toNat_ofInt, BitVec.toNat_ofInt]
    have a1 : ((x : Int) % ((2 ^ 32 : Nat) : Int)).toNat = x := by omega
    have a2 : ((2147483647 : Int) % ((2 ^ 32 : Nat) : Int)).toNat = 2 ^ 31 - 1 := by decide
    rw [a1, a2, Nat.and_two_pow_sub_one_eq_mod]
  show IntKind.u32.wrap ((BitVec.ofInt 32 (x : Int) &&& BitVec.ofInt 32 2147483647).toNat : Nat) = _
  rw [key, IntKind.wrap_u32]; omega
theorem fourN_lt (a b c d : UInt8) : fourN a b c d < 4294967296 := by
  have := a.toNat_lt; have := b.toNat_lt; have := c.toNat_lt; have := d.toNat_lt
  unfold fourN; omega
/-- What an increment read says. -/
def winI (a b c d : UInt8) : Nat := fourN a b c d % 2147483648
section
variable {w w' : World} {r : Nat} {f : Frm} {fl : Int} {bv : Value} {l : List UInt8} {pad code : Int}
set_option maxRecDepth 100000 in
set_option maxHeartbeats 4000000 in
theorem window_bad (h : RH w r f fl bv l pad code) (hl : l.length ≠ 4) :
    Calls Try.prog 63 #[.pointer (some ⟨r, 0, none⟩)] w fun e w' => e = .returned (.tuple #[]) ∧ RH w' r f fl bv l pad 6 ∧ Chg [r] w w' := by
  have HH := Lib.hid h
  clear h
  go_enter Try.func63, Try.ntmps63
  go_wp2_with fail
  refine (just_any HH.out 4).mono ?_; rintro e w1 ⟨rfl, h1, c1⟩
  rw [decide_eq_false (by omega)]
  rw [if_neg (by omega)] at h1
  have H1 := Lib.hid h1; have C1 := Lib.hid c1
  clear h1 c1
  go_wp2_with fail
  refine bodyPost_ret (results_none rfl _ _ _) rfl ?_
  exact ⟨rfl, H1.out, C1.out⟩
set_option maxRecDepth 100000 in
set_option maxHeartbeats 4000000 in
theorem window_any {a b c d : UInt8} (h : RH w r f fl bv [a, b, c, d] pad code) :
    Calls Try.prog 63 #[.pointer (some ⟨r, 0, none⟩)] w fun e w' => ∃ bv', e = .returned (.tuple #[]) ∧ RH w' r { f with inc := (winI a b c d : Nat) } fl bv' [] pad (if winI a b c d = 0 then 1 else code) ∧ Chg [r] w w' := by
  have HH := Lib.hid h
  clear h
  obtain ⟨M, hM⟩ : ∃ M, M = winI a b c d := ⟨_, rfl⟩
  have hand := and31 (fourN a b c d) (fourN_lt a b c d)
  have hM1 : fourN a b c d % 2147483648 = M := by rw [hM]; rfl
  rw [hM1] at hand
  have hM2 : M < 2147483648 := by rw [← hM1]; exact Nat.mod_lt _ (by omega)
  obtain ⟨N, hN⟩ : ∃ N, N = fourN a b c d := ⟨_, rfl⟩
  rw [← hN] at hand
  rw [← hM]
  obtain ⟨CD, hCD⟩ : ∃ CD : Int, CD = if M = 0 then 1 else code := ⟨_, rfl⟩
  rw [← hCD]
  have HN := Lib.hid hN; have HCD := Lib.hid hCD
  clear hM hM1 hN hCD
  go_enter Try.func63, Try.ntmps63
  go_wp2_with fail
  refine (just_any HH.out 4).mono ?_; rintro e w1 ⟨rfl, h1, c1⟩
  rw [decide_eq_true (by simp)]
  rw [if_pos (by simp)] at h1
  have H1 := Lib.hid h1; have C1 := Lib.hid c1
  clear h1 c1 HH
  go_wp2_with fail
  refine (word_any H1.out).mono ?_; rintro e w2 ⟨bv2, he, h2, c2⟩
  rw [← HN.out] at he
  subst he
  have x15 : World.cell? w2 ⟨r, 15, none⟩ = some (.int .i64 f.inc) := h2.head.cell rfl
  have x19 : World.cell? w2 ⟨r, 19, none⟩ = some (.int .u32 code) := h2.head.cell rfl
  have xf : ∀ j, World.frozen? w2 ⟨r, j, none⟩ = false := fun j => h2.head.free j
  have hrl := h2.head.lt
  have H2 := Lib.hid h2; have C2 := Lib.hid (C1.out.trans' c2)
  clear h2 c2 H1 C1
  by_cases hm0 : M = 0
  · have hm0' := Lib.hid hm0
    have g : ((M : Int) == 0) = true := by simp [hm0]
    have g3 : (M : Int) = 0 := by omega
    have hcd : Hid (CD = 1) := Lib.hid (by rw [HCD.out, if_pos hm0])
    clear hm0 g3
    go_wp2_with fail
    go_end0
    obtain ⟨k1, k2⟩ := H2.out.bput 15 (.int .i64 (M : Nat))
    have h3 : RH (w2.setCell ⟨r, 15, none⟩ (.int .i64 (M : Nat))) r { f with inc := (M : Nat) } fl bv2 [] pad code := ⟨H2.out.head.set 15 _, k2, H2.out.ap⟩
    obtain ⟨k3, k4⟩ := h3.bput 19 (.int .u32 1)
    exact ⟨bv2, rfl, by rw [hcd.out]; exact ⟨h3.head.set 19 _, k4, h3.ap⟩, (C2.out.trans' k1).trans' k3⟩
  · have g : ((M : Int) == 0) = false := by simp [hm0]
    have hcd : Hid (CD = code) := Lib.hid (by rw [HCD.out, if_neg hm0])
    go_wp2_with fail
    go_end0
    obtain ⟨k1, k2⟩ := H2.out.bput 15 (.int .i64 (M : Nat))
    exact ⟨bv2, rfl, by rw [hcd.out]; exact ⟨H2.out.head.set 15 _, k2, H2.out.ap⟩, C2.out.trans' k1⟩
end
end Go.Proofs.Ythhgnipiaohplaa.Fr
