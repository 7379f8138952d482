/-
  What must be in any case.
-/
import Derived.Test.YtbdimpakieejjaaDec
namespace Go.Proofs.Ytbdimpakieejjaa.Hf
open Go.ChangeShapes Go.WideShapes Go.ChangeAt Go.RowKit
open Go.Proofs.Ytbdimpakieejjaa.B
set_option linter.unusedVariables false
set_option linter.unusedSimpArgs false

theorem v1 : dec 1 (bitsOf [31]) = ([97], 0) := by decide +kernel
theorem v2 : dec 9 (bitsOf [255]) = ([], 3) := by decide +kernel
theorem v3 : dec 0 (bitsOf [31]) = ([], 4) := by decide +kernel
theorem v4 : enc [119, 119, 119, 46, 101, 120, 97, 109, 112, 108, 101, 46, 99, 111, 109] = [241, 227, 194, 229, 242, 58, 107, 160, 171, 144, 244, 255] := by decide +kernel
theorem v5 : enc [97] = [31] := by decide +kernel
theorem v6 : code 48 = 0 ∧ len 48 = 5 ∧ code 256 = 1073741823 ∧ len 256 = 30 := by decide +kernel
theorem lit_bytes (w : World) (c : UInt8) (n : Int) (h : n = (c.toNat : Int)) : BytesOf (w.alloc (.cells #[.int .u8 n] 5)) (.slice (some ⟨w.heap.size, 0, none⟩) 1 1) [c] := by rw [h]; exact BytesOf.new w c
set_option maxRecDepth 100000 in
set_option maxHeartbeats 4000000 in
theorem shown_any (w : World) :
    Calls Try.prog 11 #[] w fun e w' => e = .returned (.bool true) ∧ Chg [] w w' := by
  go_enter Try.func11, Try.ntmps11
  go_wp2_with fail
  refine (code_ok 48 (by decide) _).mono ?_; rintro e w1 ⟨he, c1⟩; rw [v6.1, v6.2.1] at he; subst he
  go_wp2_with fail
  refine (code_ok 256 (by decide) _).mono ?_; rintro e w2 ⟨he, h2⟩; rw [v6.2.2.1, v6.2.2.2] at he; subst he
  have c2 := c1.trans' h2
  clear c1 h2
  go_wp2_with fail
  refine (decode_any _ [31] 1 _ (lit_bytes _ 31 _ rfl) (by decide)).mono ?_; rintro e w3 ⟨he, h3⟩; rw [v1] at he; subst he
  have c3 := (c2.alloc _).trans' h3
  clear c2 h3
  go_wp2_with fail
  refine (decode_any _ [255] 9 _ (lit_bytes _ 255 _ rfl) (by decide)).mono ?_; rintro e w4 ⟨he, h4⟩; rw [v2] at he; subst he
  have c4 := (c3.alloc _).trans' h4
  clear c3 h4
  go_wp2_with fail
  refine (decode_any _ [31] 0 _ (lit_bytes _ 31 _ rfl) (by decide)).mono ?_; rintro e w5 ⟨he, h5⟩; rw [v3] at he; subst he
  have c5 := (c4.alloc _).trans' h5
  clear c4 h5
  go_wp2_with fail
  refine (encode_any ⟨#[119, 119, 119, 46, 101, 120, 97, 109, 112, 108, 101, 46, 99, 111, 109]⟩ 0 _ (by decide) (Nat.zero_le _)).mono ?_; rintro e w6 ⟨v, rfl, h6, o6⟩
  have s6 := o6.bytes.str
  rw [show bx ⟨#[119, 119, 119, 46, 101, 120, 97, 109, 112, 108, 101, 46, 99, 111, 109]⟩ = [119, 119, 119, 46, 101, 120, 97, 109, 112, 108, 101, 46, 99, 111, 109] from rfl, v4] at s6
  have c6 := c5.trans' h6
  clear c5 h6 o6
  go_wp2_with fail
  refine (encode_any ⟨#[97]⟩ 0 _ (by decide) (Nat.zero_le _)).mono ?_; rintro e w7 ⟨v7, rfl, h7, o7⟩
  have s7 := o7.bytes.str
  rw [show bx ⟨#[97]⟩ = [97] from rfl, v5] at s7
  have c7 := c6.trans' h7
  clear c6 h7 o7
  go_wp2_with fail
  go_ret
  exact ⟨rfl, c7⟩
end Go.Proofs.Ytbdimpakieejjaa.Hf
