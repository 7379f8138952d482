/-
  The numbers of hints: what octets begin with; the walk of read.
-/
import Derived.Test.YtmoeioaahampaaaDefer
import Derived.Test.YtmoeioaahampaaaByte
import Derived.Test.YtmoeioaahampaaaArg
import Derived.WalkSmall
import Derived.Deep.DeepCutAuto
namespace Go.Proofs.Ytmoeioaahampaaa.Hi
open Go.ChangeShapes Go.WideShapes Go.ChangeAt Go.RowKit
open Go.Proofs.Ytmoeioaahampaaa.B
set_option linter.unusedVariables false
set_option linter.unusedSimpArgs false

/-- What is read behind the first octet, from the octet i on: the number, how many octets, and what is wrong (0: nothing). -/
def cont : Nat → Nat → List UInt8 → Nat × Nat × Nat
  | _, _, [] => (0, 0, 2)
  | i, v, c :: r =>
    if 5 < i then (0, 0, 3)
    else if 2147483647 < v + c.toNat % 128 * 128 ^ (i - 1) then (0, 0, 3)
    else if c.toNat < 128 then (v + c.toNat % 128 * 128 ^ (i - 1), i + 1, 0)
    else cont (i + 1) (v + c.toNat % 128 * 128 ^ (i - 1)) r
/-- The number with which octets begin. -/
def getN (P : Nat) : List UInt8 → Nat × Nat × Nat
  | [] => (0, 0, 2)
  | c :: r => if c.toNat % 2 ^ P < 2 ^ P - 1 then (c.toNat % 2 ^ P, 1, 0) else cont 1 (c.toNat % 2 ^ P) r
def getI (l : List UInt8) (p : Int) : Nat × Nat × Nat := if p < 1 ∨ 8 < p then (0, 0, 1) else getN p.toNat l
theorem getI_in {l : List UInt8} {P : Nat} (h1 : 1 ≤ P) (h2 : P ≤ 8) : getI l P = getN P l := by
  unfold getI; rw [if_neg (by omega)]; rfl
/-- How 'read' ends. -/
def rdE (r : Nat × Nat × Nat) : Ending := if r.2.2 = 0 then .returned (.tuple #[.int .i64 r.1, .int .i64 r.2.1]) else .panicked [{ v := wrongV r.2.2, recovered := false }]
theorem and_i64 (C P : Nat) (hC : C < 256) (hP : P ≤ 8) : Go.bits .and .i64 (C : Int) ((2 ^ P - 1 : Nat) : Int) = ((C % 2 ^ P : Nat) : Int) := by
  have hp : 2 ^ P ≤ 256 := Nat.pow_le_pow_right (by omega) hP (n := 2)
  have hpos : 0 < 2 ^ P := Nat.pow_pos (by omega)
  have key : (BitVec.ofInt 64 (C : Int) &&& BitVec.ofInt 64 ((2 ^ P - 1 : Nat) : Int)).toNat = C % 2 ^ P := by
    rw [BitVec.toNat_and, BitVec.toNat_ofInt, BitVec.toNat_ofInt]
    have a1 : ((C : Int) % ((2 ^ 64 : Nat) : Int)).toNat = C := by omega
    have a2 : (((2 ^ P - 1 : Nat) : Int) % ((2 ^ 64 : Nat) : Int)).toNat = 2 ^ P - 1 := by omega
    rw [a1, a2, Nat.and_two_pow_sub_one_eq_mod]
  show IntKind.i64.wrap ((BitVec.ofInt 64 (C : Int) &&& BitVec.ofInt 64 ((2 ^ P - 1 : Nat) : Int)).toNat : Nat) = _
  have := Nat.mod_lt C hpos
  rw [key, IntKind.wrap_i64]; omega
theorem and_u8 (x : UInt8) : Go.bits .and .u8 (x.toNat : Int) 127 = ((x.toNat % 128 : Nat) : Int) := by
  have hx := x.toNat_lt
  have key : (BitVec.ofInt 8 (x.toNat : Int) &&& BitVec.ofInt 8 127).toNat = x.toNat % 128 := by
    rw [BitVec.toNat_and, BitVec.toNat_ofInt, BitVec.toNat_ofInt]
    have a1 : ((x.toNat : Int) % ((2 ^ 8 : Nat) : Int)).toNat = x.toNat := by omega
    have a2 : ((127 : Int) % ((2 ^ 8 : Nat) : Int)).toNat = 2 ^ 7 - 1 := by decide
    rw [a1, a2, Nat.and_two_pow_sub_one_eq_mod]
  show IntKind.u8.wrap ((BitVec.ofInt 8 (x.toNat : Int) &&& BitVec.ofInt 8 127).toNat : Nat) = _
  rw [key, IntKind.wrap_u8]; omega
theorem unit_fact {i S v T : Nat} (hi : i ≤ 5) (hv : v ≤ 2147483647) (hT : T < 128) (hS : S = T * 128 ^ (i - 1)) : S ≤ 34091302912 ∧ wrap64 ((v : Int) + wrap64 ((T : Int) * 2 ^ (7 * (i - 1)))) = ((v + S : Nat) : Int) := by
  obtain ⟨j, hj⟩ : ∃ j, j = i - 1 := ⟨_, rfl⟩
  rw [← hj] at hS ⊢
  have hj4 : j ≤ 4 := by omega
  have h1 : 128 ^ j ≤ 268435456 := by
    have : 128 ^ j ≤ 128 ^ 4 := Nat.pow_le_pow_right (by decide) hj4
    exact Nat.le_trans this (by decide)
  have hSb : S ≤ 34091302912 := by
    have h2 : T * 128 ^ j ≤ 127 * 268435456 := Nat.mul_le_mul (by omega) h1
    omega
  refine ⟨hSb, ?_⟩
  have h3 : (2 : Int) ^ (7 * j) = ((128 ^ j : Nat) : Int) := by
    have : (2 : Nat) ^ (7 * j) = 128 ^ j := Nat.pow_mul 2 7 j
    rw [← this]; simp
  have h4 : (T : Int) * 2 ^ (7 * j) = (S : Int) := by
    rw [h3, hS, Int.natCast_mul]
  rw [h4]; clear h3 h4 hS h1; unfold wrap64; omega
set_option maxRecDepth 100000 in
set_option maxHeartbeats 4000000 in
theorem read_any (bv : Value) (l : List UInt8) (p : Int) (w : World) (hb : BytesOf w bv l) :
    Calls Try.prog 69 #[bv, .int .i64 p] w fun e w' => e = rdE (getI l p) ∧ w' = w := by
  obtain ⟨ba, cap, rfl, hcap, hcapm⟩ := hb.slice
  have HB := Lib.hid hb
  unfold maxLen at hcapm
  clear hb
  by_cases hp1 : p < 1
  · have hr : getI l p = (0, 0, 1) := by unfold getI; rw [if_pos (Or.inl hp1)]
    rw [hr]
    go_enter Try.func69, Try.ntmps69
    go_wp2_with fail
    exact ⟨rfl, rfl, rfl⟩
  · by_cases hp2 : 8 < p
    · have hr : getI l p = (0, 0, 1) := by unfold getI; rw [if_pos (Or.inr hp2)]
      rw [hr]
      go_enter Try.func69, Try.ntmps69
      go_wp2_with fail
      exact ⟨rfl, rfl, rfl⟩
    · obtain ⟨P, rfl⟩ := Int.eq_ofNat_of_zero_le (show 0 ≤ p by omega)
      rw [getI_in (by omega) (by omega)]
      cases l with
      | nil =>
        go_enter Try.func69, Try.ntmps69
        go_wp2_with fail
        exact ⟨rfl, rfl, rfl⟩
      | cons c r =>
        obtain ⟨b, off, rfl, hbw, hcell⟩ := HB.out.cell (by simp)
        have d0 := hcell 0 c rfl
        rw [Nat.add_zero] at d0
        obtain ⟨l, hl⟩ : ∃ l, l = c :: r := ⟨_, rfl⟩
        have hln : l.length = r.length + 1 := by rw [hl]; rfl
        have hl0 : 0 < l.length := by rw [hl]; simp
        have hl1 : ((l.length : Int) == 0) = false := beq_eq_false_iff_ne.2 (by omega)
        have hl2 : (0 : Int) < (l.length : Int) := by omega
        have hHC : Hid (∀ (i : Nat) (c : UInt8), l[i]? = some c → w.cell? ⟨b, off + i, none⟩ = some (.int .u8 (c.toNat : Int))) := Lib.hid (by rw [hl]; exact hcell)
        have hc6 : (c.toNat : Int) < 256 := by have := c.toNat_lt; omega
        obtain ⟨M, hM⟩ : ∃ M, M = 2 ^ P - 1 := ⟨_, rfl⟩
        have hpp : 2 ^ P ≤ 256 := Nat.pow_le_pow_right (by omega) (show P ≤ 8 by omega) (n := 2)
        have hpos : 0 < 2 ^ P := Nat.pow_pos (by omega)
        have hM2 : (2 : Int) ^ P = (M : Int) + 1 := by
          have : (2 : Int) ^ P = ((2 ^ P : Nat) : Int) := by simp
          rw [this]; omega
        have hMb : M ≤ 255 := by omega
        have hand := and_i64 c.toNat P (by omega) (by omega)
        obtain ⟨V, hV⟩ : ∃ V, V = c.toNat % 2 ^ P := ⟨_, rfl⟩
        have hVM : V ≤ M := by have := Nat.mod_lt c.toNat hpos; omega
        rw [← hM, ← hV] at hand
        have hg : getN P (c :: r) = if V < M then (V, 1, 0) else cont 1 V r := by rw [getN, ← hV, ← hM]
        rw [hg, ← hl]
        have HLR := Lib.hid hl
        rw [← hl] at hcap
        clear hcell HB hM hV hpp hpos hg hl
        by_cases hvm : V < M
        · rw [if_pos hvm]
          go_enter Try.func69, Try.ntmps69
          go_wp2_with fail
          go_ret2
          exact ⟨rfl, rfl⟩
        · rw [if_neg hvm]
          have hdr : l.drop 1 = r := by rw [HLR.out]; rfl
          rw [← hdr]
          obtain ⟨R, hR⟩ : ∃ R, R = cont 1 V (l.drop 1) := ⟨_, rfl⟩
          rw [← hR]
          have HR := Lib.hid hR
          clear hR
          have hmv : decide (V < M) = false := decide_eq_false hvm
          clear hdr HLR hln
          go_enter Try.func69, Try.ntmps69
          go_wp2_with fail
          go_loopw [7, 8] (fun vv iv wr => ∃ i v : Nat, 1 ≤ i ∧ i ≤ l.length ∧ i ≤ 6 ∧ v ≤ 2147483647 ∧ vv = .int .i64 v ∧ iv = .int .i64 i ∧ R = cont i v (l.drop i) ∧ wr = w) (fun _ iv _ => 7 - (intOf iv).toNat)
          case atStart => exact ⟨1, V, by omega, by omega, by omega, by omega, rfl, rfl, HR.out, rfl⟩
          case round =>
            obtain ⟨i, v, hi1, hi2, hi3, hv, rfl, rfl, hcon, rfl⟩ := hrel
            by_cases hlt : i < l.length
            · obtain ⟨x, hx⟩ : ∃ x, l[i]? = some x := ⟨_, List.getElem?_eq_getElem hlt⟩
              have q0 := hHC.out i x hx
              have hdr : l.drop i = x :: l.drop (i + 1) := by
                obtain ⟨h1, h2⟩ := List.getElem?_eq_some_iff.1 hx
                rw [List.drop_eq_getElem_cons h1, h2]
              rw [hdr, cont] at hcon
              clear hdr hx
              have hd1 : decide (l.length ≤ i) = false := by simp; omega
              by_cases h5 : 5 < i
              · rw [if_pos h5] at hcon
                have HCON := Lib.hid hcon
                clear hcon
                go_wp2_with fail
                exact ⟨rfl, by rw [HCON.out]; rfl, rfl⟩
              · rw [if_neg h5] at hcon
                obtain ⟨T, hT⟩ : ∃ T, T = x.toNat % 128 := ⟨_, rfl⟩
                have hand7 := and_u8 x
                rw [← hT] at hcon hand7
                have hT7 : T < 128 := by omega
                obtain ⟨S, hS⟩ : ∃ S, S = T * 128 ^ (i - 1) := ⟨_, rfl⟩
                rw [← hS] at hcon
                obtain ⟨hSb, hsh⟩ := unit_fact (i := i) (show i ≤ 5 by omega) hv hT7 hS
                obtain ⟨Y, hY⟩ : ∃ Y, Y = v + S := ⟨_, rfl⟩
                rw [← hY] at hsh
                have HSH := Lib.hid hsh
                clear hsh
                have hYb : Y ≤ 36238786559 := by omega
                rw [← hY] at hcon
                have HC0 := Lib.hid hcon; have HYB := Lib.hid hYb
                clear hS hSb hY hcon hYb hT
                go_upto_region 16 with fail
                rw [HSH.out]
                have hcon := HC0.out; have hYb := HYB.out
                clear HSH HC0 HYB hand7
                by_cases hbig : (2147483647 : Int) < (Y : Int)
                · rw [if_pos (by omega)] at hcon
                  have hbd : decide ((2147483647 : Int) < (Y : Int)) = true := decide_eq_true hbig
                  have HCON := Lib.hid hcon
                  clear hcon
                  go_wp2_with fail
                  exact ⟨rfl, by rw [HCON.out]; rfl, rfl⟩
                · rw [if_neg (by omega)] at hcon
                  have hbd : decide ((2147483647 : Int) < (Y : Int)) = false := decide_eq_false hbig
                  by_cases hx8 : x.toNat < 128
                  · rw [if_pos hx8] at hcon
                    have HCON := Lib.hid hcon
                    clear hcon
                    go_wp2_with fail
                    go_ret2
                    refine ⟨?_, rfl⟩
                    rw [HCON.out]
                    simp [rdE]
                  · rw [if_neg hx8] at hcon
                    have HCON := Lib.hid hcon
                    clear hcon
                    go_wp2_with fail
                    go_roundw
                    case rel => exact ⟨i + 1, Y, by omega, by omega, by omega, by omega, rfl, by go_num, HCON.out, by first | rfl | trivial⟩
                    case measure => simp [intOf] <;> omega
            · obtain rfl : i = l.length := by omega
              rw [List.drop_length, cont] at hcon
              have HCON := Lib.hid hcon
              clear hcon
              go_wp2_with fail
              exact ⟨rfl, by rw [HCON.out]; rfl, rfl⟩
end Go.Proofs.Ytmoeioaahampaaa.Hi
