/-
  The walk of packed: is a text shorter packed?
-/
import Derived.Test.YtpelnhfohfojhaaLaws
import Derived.Test.YtpelnhfohfojhaaRSpell
namespace Go.Proofs.Ytpelnhfohfojhaa.Hi
open Go.ChangeShapes Go.WideShapes Go.ChangeAt Go.RowKit
open Go.Proofs.Ytpelnhfohfojhaa.B
open Go.Proofs.Ytpelnhfohfojhaa.Hf
set_option linter.unusedVariables false
set_option linter.unusedSimpArgs false

set_option maxRecDepth 100000 in
set_option maxHeartbeats 4000000 in
theorem packed_any (s : ByteArray) (w : World) (hs : s.size ≤ 1000000) :
    Calls Try.prog 18 #[.string s] w fun e w' => e = .returned (.bool (decide (need (bx s) < s.size))) ∧ Chg [] w w' := by
  go_enter Try.func18, Try.ntmps18
  go_wp2_with fail
  refine (lengths_any _).mono ?_; rintro e w1 ⟨rfl, hc, hat⟩
  obtain ⟨b, hb⟩ : ∃ b, b = w.heap.size := ⟨_, rfl⟩
  rw [← hb] at hat
  go_wp2_with fail
  rw [← hb]
  clear hb
  go_loopw [3, 5] (fun nv iv wr => ∃ k N : Nat, k ≤ s.size ∧ iv = .int .i64 k ∧ N = sl (s.data.toList.take k) ∧ nv = .int .i64 N ∧ At wr b (.cells lenC 3 (0, 0)) ∧ Chg [] w wr) (fun _ iv _ => s.size - (intOf iv).toNat)
  case atStart => exact ⟨0, 0, Nat.zero_le _, rfl, rfl, rfl, hat, hc⟩
  case round =>
    clear hat hc
    obtain ⟨k, N, hk, rfl, hN, rfl, hat, hc⟩ := hrel
    have hN1 : N ≤ 30 * k := by
      rw [hN]; exact Nat.le_trans (sl_le _) (by simp; omega)
    by_cases hlt : k < s.size
    · obtain ⟨c, hcc⟩ : ∃ c, c = s[k] := ⟨_, rfl⟩
      have hc7 : c.toNat < 257 := by have := c.toNat_lt; omega
      have hc6 : (c.toNat : Int) < 256 := by have := c.toNat_lt; omega
      have c1 : wr.cell? ⟨b, c.toNat, none⟩ = some (.int .i64 (len c.toNat)) := hat.cell (lenC_get hc7)
      have hl1 : len c.toNat ≤ 30 := (of_sym hc7).2.1
      have hsn := sl_snoc (s.data.toList.take k) s[k]
      rw [← take_snoc s k hlt, ← hN, ← hcc] at hsn
      have HS := Lib.hid hsn; have HN := Lib.hid hN; have HC := Lib.hid hc; have HA := Lib.hid hat
      rw [hcc] at c1 hl1 hc6 hc7
      have HCC := Lib.hid hcc
      clear hsn hN hc hat hcc
      go_wp2_with fail
      go_roundw
      case rel => exact ⟨k + 1, N + len s[k].toNat, by omega, by go_num, by rw [HS.out, HCC.out], by go_num, HA.out, HC.out⟩
      case measure => simp [intOf]; omega
    · obtain rfl : k = s.size := by omega
      have hN2 : N = sl (bx s) := by rw [hN, List.take_of_length_le (by simp)]; rfl
      have e8 : need (bx s) = (N + 7) / 8 := by rw [hN2]; rfl
      have HE := Lib.hid e8
      clear hN hN2 hat e8
      go_wp2_with fail
      go_ret
      refine ⟨?_, hc⟩
      rw [HE.out, show decide ((N + 7) / 8 < s.size) = decide (((N : Int) + 7) / 8 < (s.size : Int)) by rw [decide_eq_decide]; omega]
      rfl
end Go.Proofs.Ytpelnhfohfojhaa.Hi
