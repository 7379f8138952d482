/-
  HuffmanCodes: each symbol has one code: any number.
-/
import Derived.Test.YtbdimpakieejjaaRCode
namespace Go.Proofs.Ytbdimpakieejjaa.Codes
open Go.ChangeShapes Go.WideShapes Go.ChangeAt Go.RowKit
open Go.Proofs.Ytbdimpakieejjaa.B Go.Proofs.Ytbdimpakieejjaa.Hf
set_option linter.unusedVariables false
set_option linter.unusedSimpArgs false

set_option maxHeartbeats 4000000 in
theorem rcode_out (n : Int) (h : n < 0 ∨ 257 ≤ n) (w : World) :
    Calls Try.prog 13 #[.int .i64 n] w fun e w' => e = .returned (.string ⟨#[]⟩) ∧ Chg [] w w' := by
  go_enter Try.func13, Try.ntmps13
  go_wp2_with fail
  refine (lengths_any _).mono ?_; rintro e w1 ⟨rfl, h1, a1⟩
  rcases h with h | h
  all_goals
    go_wp2_with fail
    go_ret
    exact ⟨rfl, h1⟩
theorem code_shift {s : Nat} (h : s < 257) : code s / 2 ^ (min (len s) 31) = 0 := by
  have h1 := of_sym h
  rw [Nat.min_eq_left (by omega)]
  exact Nat.div_eq_of_lt (code_lt h)
set_option maxRecDepth 100000 in
set_option maxHeartbeats 4000000 in
theorem walk (a : Int) (W : World) :
    Calls Try.prog 3 #[.int .i64 a] W fun e w' => e = .returned (.bool true) ∧ Below W.heap.size W w' := by
  by_cases hin : 0 ≤ a ∧ a < 257
  · obtain ⟨s, hs⟩ : ∃ s : Nat, a = s := ⟨a.toNat, by omega⟩
    subst hs
    have hs7 : s < 257 := by omega
    obtain ⟨k1, k2, _⟩ := of_sym hs7
    have hcl := code_lt hs7
    have hp := two_pow_le k2
    have hsh := code_shift hs7
    obtain ⟨n, hn⟩ : ∃ n, n = len s := ⟨_, rfl⟩
    obtain ⟨c, hc⟩ : ∃ c, c = code s := ⟨_, rfl⟩
    rw [← hn] at k1 k2 hcl hp hsh
    rw [← hc] at hcl hsh
    have hc1 : c < 4294967296 := by omega
    obtain ⟨T, hT⟩ : ∃ T : ByteArray, T = ⟨(btext (cb s)).toArray⟩ := ⟨_, rfl⟩
    have hTs : T.size = n := by
      have h1 : T.size = (btext (cb s)).length := by rw [hT]; rfl
      rw [h1, hn]; simp [btext, cb_length]
    have e1 : ((n : Int) == (T.size : Int)) = true := by rw [hTs]; simp
    have e2 : ((c : Int) / 2 ^ (min n 31) == 0) = true := by
      have : ((c : Int) / 2 ^ (min n 31)) = ((c / 2 ^ (min n 31) : Nat) : Int) := by simp
      rw [this, hsh]; rfl
    have e3 : (T.toList == T.toList) = true := by simp
    have hmn : min n 31 = n := by omega
    rw [hmn] at e2
    have HN := Lib.hid hn; have HC := Lib.hid hc; have HT := Lib.hid hT; have HTS := Lib.hid hTs
    have hn0 : (0 : Int) < (n : Int) := by omega
    have hTb : T.size ≤ 30 := by omega
    clear hn hc hT hTs hsh hcl hp hin hmn
    go_enter Try.func3, Try.ntmps3
    go_wp2_with fail
    refine (shown_any _).mono ?_; rintro e w1 ⟨rfl, c1⟩
    go_wp2_with fail
    refine (code_ok s hs7 _).mono ?_; rintro e w2 ⟨he, c2⟩; rw [← HN.out, ← HC.out] at he; subst he
    have d2 := c1.trans' c2
    clear c1 c2
    go_wp2_with fail
    refine (rcode_ok s hs7 _).mono ?_; rintro e w3 ⟨he, c3⟩
    unfold txt at he
    rw [← HT.out] at he
    subst he
    have d3 := d2.trans' c3
    clear d2 c3
    go_wp2_with fail
    refine (bits_any c n hc1 (by omega) _).mono ?_; rintro e w4 ⟨he, c4⟩
    rw [HC.out, HN.out, show Hf.bits (len s) (code s) = cb s from rfl, ← HT.out] at he
    subst he
    have d4 := d3.trans' c4
    clear d3 c4
    go_wp2_with fail
    go_ret
    exact ⟨ret_bool (by rw [show (min (n : Int) 31).toNat = n by omega]; exact e2), d4.below_nil⟩
  · have hin2 : a < 0 ∨ 256 < a := by omega
    have hin3 : a < 0 ∨ 257 ≤ a := by omega
    have HI := Lib.hid hin2; have HI3 := Lib.hid hin3
    clear hin hin2 hin3
    go_enter Try.func3, Try.ntmps3
    go_wp2_with fail
    refine (shown_any _).mono ?_; rintro e w1 ⟨rfl, c1⟩
    go_wp2_with fail
    refine (code_out a HI.out _).mono ?_; rintro e w2 ⟨rfl, c2⟩
    have c1 := c1.trans' c2
    go_wp2_with fail
    refine (rcode_out a HI3.out _).mono ?_; rintro e w3 ⟨rfl, c3⟩
    have d3 := c1.trans' c3
    clear c1 c3
    go_wp2_with fail
    refine (bits_any 0 0 (by omega) (by omega) _).mono ?_; rintro e w4 ⟨rfl, c4⟩
    have d4 := d3.trans' c4
    clear d3 c4
    go_wp2_with fail
    go_ret
    exact ⟨rfl, d4.below_nil⟩

/-! ### The row's step -/
theorem own : ownKnob Try.prog.godebug = none := by kernel_rfl
theorem laid : laidOutB Try.prog = true := by kernel_rfl

set_option maxRecDepth 100000 in
theorem lifted (os : Os) (started : os.Started) (H : Type) (enc : TypeId × Value → H) :
    ReturnsInHanded {} Try.checked os 3 .any (Rows.huffmanCodesSpec.pre6 enc Try.prog Try.f3 Rows.huffmanCodesRow.domain false) (Rows.huffmanCodesSpec.post enc Try.prog Try.f3 false true false false) := by
  refine lift_law (C := Try.checked) (tb := 4) own started (by kernel_rfl) Try.func3
    (ChangeSpec.witness6 (enc := enc) (C := Try.checked) false ⟨#[], #[.int .i64 0], []⟩ 8 (by kernel_rfl) (by kernel_rfl) (by kernel_rfl) (by kernel_rfl))
    laid (by rw [Try.params3]; intro t ht; simp only [List.mem_cons, List.not_mem_nil, or_false] at ht; rcases ht with rfl <;> exact ⟨by kernel_rfl, of_decide_eq_true (by kernel_rfl)⟩) (by kernel_rfl) Try.underlying4 rfl
    (fun ds h => by rw [Try.params3] at h; match ds, h with | [d0], _ => rfl) ?_
  intro W base args ds before hval hA hlt hsz
  rw [Try.params3] at hA hval
  try rw [Try.params3] at hsz
  have hlt0 := hlt
  obtain ⟨v0, vs0, d0, ds0, p0, q0, hargs, rfl, rfl, h0, r0⟩ := trodAll_cons hA
  obtain ⟨rfl, rfl, rfl⟩ := trodAll_nil r0
  obtain rfl : args = #[v0] := by cases args; simp_all
  have l0 : ∀ p ∈ p0, p.block < W.heap.size := fun x hx => hlt x (by simp [hx])
  obtain ⟨a0, rfl, rfl, rfl, wa0⟩ := open_int Try.underlying3 (hval 0 3 v0 rfl rfl) h0
  exact walk a0 W

theorem over : Rows.huffmanCodesRow.holds Try.pinned (OpenSpec.ofChange Rows.huffmanCodesSpec) :=
  OpenClaim.holds_of_wide 3 Try.f3 rfl rfl rfl rfl rfl rfl rfl ⟨rfl, rfl, rfl, rfl, rfl⟩ rfl rfl rfl rfl rfl (by kernel_rfl) Try.func3 (by kernel_rfl)
    (of_decide_eq_true (by kernel_rfl)) (by unfold Func.isWrapper; first | (rw [if_pos (by decide +kernel)]; kernel_rfl) | (rw [if_neg (by decide +kernel)]; exact ⟨rfl, rfl⟩))
    (fun os started H enc _ => lifted os started H enc)

/-- The statement. -/
theorem proved : Rows.HuffmanCodesSaid :=
  over
#print axioms proved

end Go.Proofs.Ytbdimpakieejjaa.Codes
