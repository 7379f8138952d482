/-
  The walks of huffman.Code and huffman.Size.
-/
import Derived.Test.YtbdimpakieejjaaMade
namespace Go.Proofs.Ytbdimpakieejjaa.Hf
open Go.ChangeShapes Go.WideShapes Go.ChangeAt Go.RowKit
open Go.Proofs.Ytbdimpakieejjaa.B
set_option linter.unusedVariables false
set_option linter.unusedSimpArgs false

def codeI (n : Int) : Int := if n < 0 ∨ 256 < n then 0 else (code n.toNat : Int)
def lenI (n : Int) : Int := if n < 0 ∨ 256 < n then 0 else (len n.toNat : Int)
theorem code_ok (s : Nat) (h : s < 257) (w : World) :
    Calls Try.prog 12 #[.int .i64 s] w fun e w' => e = .returned (.tuple #[.int .u32 (code s), .int .i64 (len s)]) ∧ Chg [] w w' := by
  have h0 : ¬ (s : Int) < 0 := by omega
  have h1 : ¬ (256 : Int) < s := by omega
  have hl := of_sym h
  have hl1 : len s ≤ 30 := hl.2.1
  clear hl
  go_enter Try.func12, Try.ntmps12
  go_wp2_with fail
  refine (made_any _).mono ?_; rintro e w1 ⟨b, rfl, hb, hc, hat⟩
  have c0 : w1.cell? ⟨b, s, none⟩ = some (.int .u32 (code s)) := hat.cell (book_code h)
  have c1 : w1.cell? ⟨b, 257 + s, none⟩ = some (.int .u8 (len s)) := hat.cell (book_len h)
  have HC := Lib.hid hc
  clear hc hat
  go_wp2_with fail
  go_quiet (fail)
  go_wp2_with fail
  go_ret2
  exact ⟨rfl, HC.out.drewN _⟩
theorem code_out (n : Int) (h : n < 0 ∨ 256 < n) (w : World) :
    Calls Try.prog 12 #[.int .i64 n] w fun e w' => e = .returned (.tuple #[.int .u32 0, .int .i64 0]) ∧ Chg [] w w' := by
  rcases h with h | h
  · go_enter Try.func12, Try.ntmps12
    go_wp2_with fail
    go_ret2
    exact ⟨rfl, Chg.refl _⟩
  · have h0 : ¬ n < 0 := by omega
    go_enter Try.func12, Try.ntmps12
    go_wp2_with fail
    go_ret2
    exact ⟨rfl, Chg.refl _⟩
theorem code_any (n : Int) (w : World) :
    Calls Try.prog 12 #[.int .i64 n] w fun e w' => e = .returned (.tuple #[.int .u32 (codeI n), .int .i64 (lenI n)]) ∧ Chg [] w w' := by
  by_cases h : n < 0 ∨ 256 < n
  · unfold codeI lenI; rw [if_pos h, if_pos h]; exact code_out n h w
  · unfold codeI lenI; rw [if_neg h, if_neg h]
    obtain ⟨s, rfl⟩ := Int.eq_ofNat_of_zero_le (show 0 ≤ n by omega)
    exact code_ok s (by omega) w

theorem take_snoc (s : ByteArray) (k : Nat) (h : k < s.size) : s.data.toList.take (k + 1) = s.data.toList.take k ++ [s[k]] := by
  rw [List.take_succ_eq_append_getElem (by simpa using h)]; rfl
def sl (l : List UInt8) : Nat := (spell l).length
theorem sl_le (l : List UInt8) : sl l ≤ 30 * l.length := by
  induction l with
  | nil => simp [sl, spell]
  | cons c l ih =>
    have h5 := (of_sym (s := c.toNat) (by have := c.toNat_lt; omega)).2.1
    simp [sl, spell, cb_length] at ih ⊢
    omega
theorem sl_snoc (l : List UInt8) (c : UInt8) : sl (l ++ [c]) = sl l + len c.toNat := by simp [sl, spell_snoc, cb_length]
set_option maxHeartbeats 1000000 in
theorem size_any (s : ByteArray) (w : World) (hs : s.size ≤ 140737488355328) :
    Calls Try.prog 18 #[.string s] w fun e w' => e = .returned (.int .i64 (need s.data.toList)) ∧ Chg [] w w' := by
  go_enter Try.func18, Try.ntmps18
  go_wp2_with fail
  refine (made_any _).mono ?_; rintro e w1 ⟨b, rfl, hb, hc, hat⟩
  go_wp2_with fail
  go_loopw [4, 9] (fun nv iv wr => ∃ k N : Nat, k ≤ s.size ∧ iv = .int .i64 k ∧ N = sl (s.data.toList.take k) ∧ nv = .int .i64 N ∧ At wr b (bookO 257) ∧ Chg [] w wr) (fun _ iv _ => s.size - (intOf iv).toNat)
  case atStart => exact ⟨0, 0, Nat.zero_le _, rfl, rfl, rfl, hat, hc⟩
  case round =>
    clear hat hc
    obtain ⟨k, N, hk, rfl, hN, rfl, hat, hc⟩ := hrel
    have hN1 : N ≤ 30 * k := by
      rw [hN]; exact Nat.le_trans (sl_le _) (by simp; omega)
    by_cases hlt : k < s.size
    · obtain ⟨c, hcc⟩ : ∃ c, c = s[k] := ⟨_, rfl⟩
      have hc7 : c.toNat < 257 := by have := c.toNat_lt; omega
      have hc6 : (c.toNat : Int) < 256 := by have := c.toNat_lt; omega
      have c1 : wr.cell? ⟨b, 257 + c.toNat, none⟩ = some (.int .u8 (len c.toNat)) := hat.cell (book_len hc7)
      have hl1 : len c.toNat ≤ 30 := (of_sym hc7).2.1
      have hsn := sl_snoc (s.data.toList.take k) s[k]
      rw [← take_snoc s k hlt, ← hN, ← hcc] at hsn
      have HS := Lib.hid hsn; have HN := Lib.hid hN; have HC := Lib.hid hc; have HA := Lib.hid hat
      rw [hcc] at c1 hl1 hc6 hc7
      have HCC := Lib.hid hcc
      clear hsn hN hc hat hcc
      go_wp2_with fail
      go_quiet (fail)
      go_wp2_with fail
      go_roundw
      case rel => exact ⟨k + 1, N + len s[k].toNat, by omega, by go_num, by rw [HS.out, HCC.out], by go_num, HA.out.drewN _, HC.out.drewN _⟩
      case measure => simp [intOf]; omega
    · obtain rfl : k = s.size := by omega
      have hN2 : N = sl s.data.toList := by rw [hN, List.take_of_length_le (by simp)]
      have HN := Lib.hid hN2
      clear hN hN2 hat
      go_wp2_with fail
      go_ret
      exact ⟨ret_int (by unfold need; rw [show (spell s.data.toList).length = sl s.data.toList from rfl, ← HN.out]; omega), hc⟩
end Go.Proofs.Ytbdimpakieejjaa.Hf
