/-
  The walks of huffman.Code and huffman.Size.
-/
import Derived.Test.YtmoeioaahampaaaMade
namespace Go.Proofs.Ytmoeioaahampaaa.Hf
open Go.ChangeShapes Go.WideShapes Go.ChangeAt Go.RowKit
open Go.Proofs.Ytmoeioaahampaaa.B
set_option linter.unusedVariables false
set_option linter.unusedSimpArgs false

def codeI (n : Int) : Int := if n < 0 ∨ 256 < n then 0 else (code n.toNat : Int)
def lenI (n : Int) : Int := if n < 0 ∨ 256 < n then 0 else (len n.toNat : Int)
theorem take_snoc (s : ByteArray) (k : Nat) (h : k < s.size) : s.data.toList.take (k + 1) = s.data.toList.take k ++ [s[k]] := by
  rw [List.take_succ_eq_append_getElem (by simpa using h)]; rfl
def sl (l : List UInt8) : Nat := (spell l).length
theorem sl_le (l : List UInt8) : sl l ≤ 30 * l.length := by
  induction l with
  | nil => simp [sl, spell]
  | cons c l ih =>
    have h5 := (of_sym (s := c.toNat) (by have := c.toNat_lt; omega)).2.1
    simp [sl, spell, cb_length] at ih ⊢
    omega
theorem sl_snoc (l : List UInt8) (c : UInt8) : sl (l ++ [c]) = sl l + len c.toNat := by simp [sl, spell_snoc, cb_length]
set_option maxHeartbeats 1000000 in
theorem size_any (s : ByteArray) (w : World) (hs : s.size ≤ 140737488355328) :
    Calls Try.prog 72 #[.string s] w fun e w' => e = .returned (.int .i64 (need s.data.toList)) ∧ Chg [] w w' := by
  go_enter Try.func72, Try.ntmps72
  go_wp2_with fail
  refine (made_any _).mono ?_; rintro e w1 ⟨b, rfl, hb, hc, hat⟩
  go_wp2_with fail
  go_loopw [4, 9] (fun nv iv wr => ∃ k N : Nat, k ≤ s.size ∧ iv = .int .i64 k ∧ N = sl (s.data.toList.take k) ∧ nv = .int .i64 N ∧ At wr b (bookO 257) ∧ Chg [] w wr) (fun _ iv _ => s.size - (intOf iv).toNat)
  case atStart => exact ⟨0, 0, Nat.zero_le _, rfl, rfl, rfl, hat, hc⟩
  case round =>
    clear hat hc
    obtain ⟨k, N, hk, rfl, hN, rfl, hat, hc⟩ := hrel
    have hN1 : N ≤ 30 * k := by
      rw [hN]; exact Nat.le_trans (sl_le _) (by simp; omega)
    by_cases hlt : k < s.size
    · obtain ⟨c, hcc⟩ : ∃ c, c = s[k] := ⟨_, rfl⟩
      have hc7 : c.toNat < 257 := by have := c.toNat_lt; omega
      have hc6 : (c.toNat : Int) < 256 := by have := c.toNat_lt; omega
      have c1 : wr.cell? ⟨b, 257 + c.toNat, none⟩ = some (.int .u8 (len c.toNat)) := hat.cell (book_len hc7)
      have hl1 : len c.toNat ≤ 30 := (of_sym hc7).2.1
      have hsn := sl_snoc (s.data.toList.take k) s[k]
      rw [← take_snoc s k hlt, ← hN, ← hcc] at hsn
      have HS := Lib.hid hsn; have HN := Lib.hid hN; have HC := Lib.hid hc; have HA := Lib.hid hat
      rw [hcc] at c1 hl1 hc6 hc7
      have HCC := Lib.hid hcc
      clear hsn hN hc hat hcc
      go_wp2_with fail
      go_quiet (fail)
      go_wp2_with fail
      go_roundw
      case rel => exact ⟨k + 1, N + len s[k].toNat, by omega, by go_num, by rw [HS.out, HCC.out], by go_num, HA.out.drewN _, HC.out.drewN _⟩
      case measure => simp [intOf]; omega
    · obtain rfl : k = s.size := by omega
      have hN2 : N = sl s.data.toList := by rw [hN, List.take_of_length_le (by simp)]
      have HN := Lib.hid hN2
      clear hN hN2 hat
      go_wp2_with fail
      go_ret
      exact ⟨ret_int (by unfold need; rw [show (spell s.data.toList).length = sl s.data.toList from rfl, ← HN.out]; omega), hc⟩
end Go.Proofs.Ytmoeioaahampaaa.Hf
