/-
  The document's parser: least, New, SetMax, Feed, broken.
-/
import Derived.Test.YthhgnipiaohplaaFre
import Derived.Test.YthhgnipiaohplaaFps
namespace Go.Proofs.Ythhgnipiaohplaa.Fr
open Go.ChangeShapes Go.WideShapes Go.ChangeAt Go.RowKit
open Go.Proofs.Ythhgnipiaohplaa.B
set_option linter.unusedVariables false
set_option linter.unusedSimpArgs false

theorem hasL_oth (k : Nat) (h : 10 ≤ k) : hasL (k : Int) = [102, 98] := by
  unfold hasL
  repeat rw [if_neg (by omega)]
set_option maxRecDepth 100000 in
set_option maxHeartbeats 8000000 in
theorem rleast_any (k : Nat) (fl : UInt8) (w : World) :
    Calls Try.prog 47 #[.int .i64 (k : Int), .int .i64 ((fl.toNat : Nat) : Int)] w fun e w' => e = .returned (.tuple #[.int .i64 (leastN k fl : Nat), .bool (justK k)]) ∧ Chg [] w w' := by
  match k with
  | 0 =>
    show Calls _ _ #[.int .i64 0, _] _ _
    obtain ⟨S, hS⟩ : ∃ S, S = bstr (hasL 0) := ⟨_, rfl⟩
    have Ip : Hid (∀ w, Calls Try.prog 48 #[.string S, .int .u8 112] w fun e w' => e = .returned (.bool true) ∧ w' = w) := Lib.hid (fun w => by rw [hS]; exact in_has 0 112 true (by decide) w)
    obtain ⟨g1, hg1⟩ : ∃ b, b = bitB fl 0 := ⟨_, rfl⟩
    have E1 : (Go.bits .and .i64 ((fl.toNat : Nat) : Int) 1 != 0) = g1 := by rw [hg1]; exact (bne_of _ 1 (by decide) _ (bit1 fl)).1
    have Hg1 := Lib.hid hg1
    clear hg1
    obtain ⟨g4, hg4⟩ : ∃ b, b = bitB fl 2 := ⟨_, rfl⟩
    have E4 : (Go.bits .and .i64 ((fl.toNat : Nat) : Int) 4 != 0) = g4 := by rw [hg4]; exact (bne_of _ 4 (by decide) _ (bit4 fl)).1
    have Hg4 := Lib.hid hg4
    clear hg4
    obtain ⟨g8, hg8⟩ : ∃ b, b = bitB fl 3 := ⟨_, rfl⟩
    have E8 : (Go.bits .and .i64 ((fl.toNat : Nat) : Int) 8 != 0) = g8 := by rw [hg8]; exact (bne_of _ 8 (by decide) _ (bit8 fl)).1
    have Hg8 := Lib.hid hg8
    clear hg8
    obtain ⟨g32, hg32⟩ : ∃ b, b = bitB fl 5 := ⟨_, rfl⟩
    have E32 : (Go.bits .and .i64 ((fl.toNat : Nat) : Int) 32 != 0) = g32 := by rw [hg32]; exact (bne_of _ 32 (by decide) _ (bit32 fl)).1
    have Hg32 := Lib.hid hg32
    clear hg32
    have HA := Lib.hid (rhas_any 0 w)
    rw [← hS] at HA
    clear hS
    cases g8 with
    | true =>
      go_enter Try.func47, Try.ntmps47
      go_wp2_with fail
      refine HA.out.mono ?_; rintro e w1 ⟨rfl, c1⟩
      have HC := Lib.hid c1
      clear c1
      go_wp2_with (go_at_call 48; with_reducible refine (Ip.out _).mono ?_; rintro e wx ⟨rfl, rfl⟩)
      go_ret2
      exact ⟨by unfold leastN pb; rw [← Hg8.out]; rfl, HC.out⟩
    | false =>
      go_enter Try.func47, Try.ntmps47
      go_wp2_with fail
      refine HA.out.mono ?_; rintro e w1 ⟨rfl, c1⟩
      have HC := Lib.hid c1
      clear c1
      go_wp2_with (go_at_call 48; with_reducible refine (Ip.out _).mono ?_; rintro e wx ⟨rfl, rfl⟩)
      go_ret2
      exact ⟨by unfold leastN pb; rw [← Hg8.out]; rfl, HC.out⟩
  | 1 =>
    show Calls _ _ #[.int .i64 1, _] _ _
    obtain ⟨S, hS⟩ : ∃ S, S = bstr (hasL 1) := ⟨_, rfl⟩
    have Ip : Hid (∀ w, Calls Try.prog 48 #[.string S, .int .u8 112] w fun e w' => e = .returned (.bool true) ∧ w' = w) := Lib.hid (fun w => by rw [hS]; exact in_has 1 112 true (by decide) w)
    obtain ⟨g1, hg1⟩ : ∃ b, b = bitB fl 0 := ⟨_, rfl⟩
    have E1 : (Go.bits .and .i64 ((fl.toNat : Nat) : Int) 1 != 0) = g1 := by rw [hg1]; exact (bne_of _ 1 (by decide) _ (bit1 fl)).1
    have Hg1 := Lib.hid hg1
    clear hg1
    obtain ⟨g4, hg4⟩ : ∃ b, b = bitB fl 2 := ⟨_, rfl⟩
    have E4 : (Go.bits .and .i64 ((fl.toNat : Nat) : Int) 4 != 0) = g4 := by rw [hg4]; exact (bne_of _ 4 (by decide) _ (bit4 fl)).1
    have Hg4 := Lib.hid hg4
    clear hg4
    obtain ⟨g8, hg8⟩ : ∃ b, b = bitB fl 3 := ⟨_, rfl⟩
    have E8 : (Go.bits .and .i64 ((fl.toNat : Nat) : Int) 8 != 0) = g8 := by rw [hg8]; exact (bne_of _ 8 (by decide) _ (bit8 fl)).1
    have Hg8 := Lib.hid hg8
    clear hg8
    obtain ⟨g32, hg32⟩ : ∃ b, b = bitB fl 5 := ⟨_, rfl⟩
    have E32 : (Go.bits .and .i64 ((fl.toNat : Nat) : Int) 32 != 0) = g32 := by rw [hg32]; exact (bne_of _ 32 (by decide) _ (bit32 fl)).1
    have Hg32 := Lib.hid hg32
    clear hg32
    have HA := Lib.hid (rhas_any 1 w)
    rw [← hS] at HA
    clear hS
    cases g8 with
    | true =>
      cases g32 with
      | true =>
        go_enter Try.func47, Try.ntmps47
        go_wp2_with fail
        refine HA.out.mono ?_; rintro e w1 ⟨rfl, c1⟩
        have HC := Lib.hid c1
        clear c1
        go_wp2_with (go_at_call 48; with_reducible refine (Ip.out _).mono ?_; rintro e wx ⟨rfl, rfl⟩)
        go_ret2
        exact ⟨by unfold leastN pb; rw [← Hg8.out, ← Hg32.out]; rfl, HC.out⟩
      | false =>
        go_enter Try.func47, Try.ntmps47
        go_wp2_with fail
        refine HA.out.mono ?_; rintro e w1 ⟨rfl, c1⟩
        have HC := Lib.hid c1
        clear c1
        go_wp2_with (go_at_call 48; with_reducible refine (Ip.out _).mono ?_; rintro e wx ⟨rfl, rfl⟩)
        go_ret2
        exact ⟨by unfold leastN pb; rw [← Hg8.out, ← Hg32.out]; rfl, HC.out⟩
    | false =>
      cases g32 with
      | true =>
        go_enter Try.func47, Try.ntmps47
        go_wp2_with fail
        refine HA.out.mono ?_; rintro e w1 ⟨rfl, c1⟩
        have HC := Lib.hid c1
        clear c1
        go_wp2_with (go_at_call 48; with_reducible refine (Ip.out _).mono ?_; rintro e wx ⟨rfl, rfl⟩)
        go_ret2
        exact ⟨by unfold leastN pb; rw [← Hg8.out, ← Hg32.out]; rfl, HC.out⟩
      | false =>
        go_enter Try.func47, Try.ntmps47
        go_wp2_with fail
        refine HA.out.mono ?_; rintro e w1 ⟨rfl, c1⟩
        have HC := Lib.hid c1
        clear c1
        go_wp2_with (go_at_call 48; with_reducible refine (Ip.out _).mono ?_; rintro e wx ⟨rfl, rfl⟩)
        go_ret2
        exact ⟨by unfold leastN pb; rw [← Hg8.out, ← Hg32.out]; rfl, HC.out⟩
  | 2 =>
    show Calls _ _ #[.int .i64 2, _] _ _
    obtain ⟨S, hS⟩ : ∃ S, S = bstr (hasL 2) := ⟨_, rfl⟩
    have Ip : Hid (∀ w, Calls Try.prog 48 #[.string S, .int .u8 112] w fun e w' => e = .returned (.bool false) ∧ w' = w) := Lib.hid (fun w => by rw [hS]; exact in_has 2 112 false (by decide) w)
    obtain ⟨g1, hg1⟩ : ∃ b, b = bitB fl 0 := ⟨_, rfl⟩
    have E1 : (Go.bits .and .i64 ((fl.toNat : Nat) : Int) 1 != 0) = g1 := by rw [hg1]; exact (bne_of _ 1 (by decide) _ (bit1 fl)).1
    have Hg1 := Lib.hid hg1
    clear hg1
    obtain ⟨g4, hg4⟩ : ∃ b, b = bitB fl 2 := ⟨_, rfl⟩
    have E4 : (Go.bits .and .i64 ((fl.toNat : Nat) : Int) 4 != 0) = g4 := by rw [hg4]; exact (bne_of _ 4 (by decide) _ (bit4 fl)).1
    have Hg4 := Lib.hid hg4
    clear hg4
    obtain ⟨g8, hg8⟩ : ∃ b, b = bitB fl 3 := ⟨_, rfl⟩
    have E8 : (Go.bits .and .i64 ((fl.toNat : Nat) : Int) 8 != 0) = g8 := by rw [hg8]; exact (bne_of _ 8 (by decide) _ (bit8 fl)).1
    have Hg8 := Lib.hid hg8
    clear hg8
    obtain ⟨g32, hg32⟩ : ∃ b, b = bitB fl 5 := ⟨_, rfl⟩
    have E32 : (Go.bits .and .i64 ((fl.toNat : Nat) : Int) 32 != 0) = g32 := by rw [hg32]; exact (bne_of _ 32 (by decide) _ (bit32 fl)).1
    have Hg32 := Lib.hid hg32
    clear hg32
    have HA := Lib.hid (rhas_any 2 w)
    rw [← hS] at HA
    clear hS
    go_enter Try.func47, Try.ntmps47
    go_wp2_with fail
    refine HA.out.mono ?_; rintro e w1 ⟨rfl, c1⟩
    have HC := Lib.hid c1
    clear c1
    go_wp2_with (go_at_call 48; with_reducible refine (Ip.out _).mono ?_; rintro e wx ⟨rfl, rfl⟩)
    go_ret2
    exact ⟨rfl, HC.out⟩
  | 3 =>
    show Calls _ _ #[.int .i64 3, _] _ _
    obtain ⟨S, hS⟩ : ∃ S, S = bstr (hasL 3) := ⟨_, rfl⟩
    have Ip : Hid (∀ w, Calls Try.prog 48 #[.string S, .int .u8 112] w fun e w' => e = .returned (.bool false) ∧ w' = w) := Lib.hid (fun w => by rw [hS]; exact in_has 3 112 false (by decide) w)
    obtain ⟨g1, hg1⟩ : ∃ b, b = bitB fl 0 := ⟨_, rfl⟩
    have E1 : (Go.bits .and .i64 ((fl.toNat : Nat) : Int) 1 != 0) = g1 := by rw [hg1]; exact (bne_of _ 1 (by decide) _ (bit1 fl)).1
    have Hg1 := Lib.hid hg1
    clear hg1
    obtain ⟨g4, hg4⟩ : ∃ b, b = bitB fl 2 := ⟨_, rfl⟩
    have E4 : (Go.bits .and .i64 ((fl.toNat : Nat) : Int) 4 != 0) = g4 := by rw [hg4]; exact (bne_of _ 4 (by decide) _ (bit4 fl)).1
    have Hg4 := Lib.hid hg4
    clear hg4
    obtain ⟨g8, hg8⟩ : ∃ b, b = bitB fl 3 := ⟨_, rfl⟩
    have E8 : (Go.bits .and .i64 ((fl.toNat : Nat) : Int) 8 != 0) = g8 := by rw [hg8]; exact (bne_of _ 8 (by decide) _ (bit8 fl)).1
    have Hg8 := Lib.hid hg8
    clear hg8
    obtain ⟨g32, hg32⟩ : ∃ b, b = bitB fl 5 := ⟨_, rfl⟩
    have E32 : (Go.bits .and .i64 ((fl.toNat : Nat) : Int) 32 != 0) = g32 := by rw [hg32]; exact (bne_of _ 32 (by decide) _ (bit32 fl)).1
    have Hg32 := Lib.hid hg32
    clear hg32
    have HA := Lib.hid (rhas_any 3 w)
    rw [← hS] at HA
    clear hS
    go_enter Try.func47, Try.ntmps47
    go_wp2_with fail
    refine HA.out.mono ?_; rintro e w1 ⟨rfl, c1⟩
    have HC := Lib.hid c1
    clear c1
    go_wp2_with (go_at_call 48; with_reducible refine (Ip.out _).mono ?_; rintro e wx ⟨rfl, rfl⟩)
    go_ret2
    exact ⟨rfl, HC.out⟩
  | 4 =>
    show Calls _ _ #[.int .i64 4, _] _ _
    obtain ⟨S, hS⟩ : ∃ S, S = bstr (hasL 4) := ⟨_, rfl⟩
    have Ip : Hid (∀ w, Calls Try.prog 48 #[.string S, .int .u8 112] w fun e w' => e = .returned (.bool false) ∧ w' = w) := Lib.hid (fun w => by rw [hS]; exact in_has 4 112 false (by decide) w)
    obtain ⟨g1, hg1⟩ : ∃ b, b = bitB fl 0 := ⟨_, rfl⟩
    have E1 : (Go.bits .and .i64 ((fl.toNat : Nat) : Int) 1 != 0) = g1 := by rw [hg1]; exact (bne_of _ 1 (by decide) _ (bit1 fl)).1
    have Hg1 := Lib.hid hg1
    clear hg1
    obtain ⟨g4, hg4⟩ : ∃ b, b = bitB fl 2 := ⟨_, rfl⟩
    have E4 : (Go.bits .and .i64 ((fl.toNat : Nat) : Int) 4 != 0) = g4 := by rw [hg4]; exact (bne_of _ 4 (by decide) _ (bit4 fl)).1
    have Hg4 := Lib.hid hg4
    clear hg4
    obtain ⟨g8, hg8⟩ : ∃ b, b = bitB fl 3 := ⟨_, rfl⟩
    have E8 : (Go.bits .and .i64 ((fl.toNat : Nat) : Int) 8 != 0) = g8 := by rw [hg8]; exact (bne_of _ 8 (by decide) _ (bit8 fl)).1
    have Hg8 := Lib.hid hg8
    clear hg8
    obtain ⟨g32, hg32⟩ : ∃ b, b = bitB fl 5 := ⟨_, rfl⟩
    have E32 : (Go.bits .and .i64 ((fl.toNat : Nat) : Int) 32 != 0) = g32 := by rw [hg32]; exact (bne_of _ 32 (by decide) _ (bit32 fl)).1
    have Hg32 := Lib.hid hg32
    clear hg32
    have HA := Lib.hid (rhas_any 4 w)
    rw [← hS] at HA
    clear hS
    go_enter Try.func47, Try.ntmps47
    go_wp2_with fail
    refine HA.out.mono ?_; rintro e w1 ⟨rfl, c1⟩
    have HC := Lib.hid c1
    clear c1
    go_wp2_with (go_at_call 48; with_reducible refine (Ip.out _).mono ?_; rintro e wx ⟨rfl, rfl⟩)
    go_ret2
    exact ⟨rfl, HC.out⟩
  | 5 =>
    show Calls _ _ #[.int .i64 5, _] _ _
    obtain ⟨S, hS⟩ : ∃ S, S = bstr (hasL 5) := ⟨_, rfl⟩
    have Ip : Hid (∀ w, Calls Try.prog 48 #[.string S, .int .u8 112] w fun e w' => e = .returned (.bool true) ∧ w' = w) := Lib.hid (fun w => by rw [hS]; exact in_has 5 112 true (by decide) w)
    obtain ⟨g1, hg1⟩ : ∃ b, b = bitB fl 0 := ⟨_, rfl⟩
    have E1 : (Go.bits .and .i64 ((fl.toNat : Nat) : Int) 1 != 0) = g1 := by rw [hg1]; exact (bne_of _ 1 (by decide) _ (bit1 fl)).1
    have Hg1 := Lib.hid hg1
    clear hg1
    obtain ⟨g4, hg4⟩ : ∃ b, b = bitB fl 2 := ⟨_, rfl⟩
    have E4 : (Go.bits .and .i64 ((fl.toNat : Nat) : Int) 4 != 0) = g4 := by rw [hg4]; exact (bne_of _ 4 (by decide) _ (bit4 fl)).1
    have Hg4 := Lib.hid hg4
    clear hg4
    obtain ⟨g8, hg8⟩ : ∃ b, b = bitB fl 3 := ⟨_, rfl⟩
    have E8 : (Go.bits .and .i64 ((fl.toNat : Nat) : Int) 8 != 0) = g8 := by rw [hg8]; exact (bne_of _ 8 (by decide) _ (bit8 fl)).1
    have Hg8 := Lib.hid hg8
    clear hg8
    obtain ⟨g32, hg32⟩ : ∃ b, b = bitB fl 5 := ⟨_, rfl⟩
    have E32 : (Go.bits .and .i64 ((fl.toNat : Nat) : Int) 32 != 0) = g32 := by rw [hg32]; exact (bne_of _ 32 (by decide) _ (bit32 fl)).1
    have Hg32 := Lib.hid hg32
    clear hg32
    have HA := Lib.hid (rhas_any 5 w)
    rw [← hS] at HA
    clear hS
    cases g8 with
    | true =>
      go_enter Try.func47, Try.ntmps47
      go_wp2_with fail
      refine HA.out.mono ?_; rintro e w1 ⟨rfl, c1⟩
      have HC := Lib.hid c1
      clear c1
      go_wp2_with (go_at_call 48; with_reducible refine (Ip.out _).mono ?_; rintro e wx ⟨rfl, rfl⟩)
      go_ret2
      exact ⟨by unfold leastN pb; rw [← Hg8.out]; rfl, HC.out⟩
    | false =>
      go_enter Try.func47, Try.ntmps47
      go_wp2_with fail
      refine HA.out.mono ?_; rintro e w1 ⟨rfl, c1⟩
      have HC := Lib.hid c1
      clear c1
      go_wp2_with (go_at_call 48; with_reducible refine (Ip.out _).mono ?_; rintro e wx ⟨rfl, rfl⟩)
      go_ret2
      exact ⟨by unfold leastN pb; rw [← Hg8.out]; rfl, HC.out⟩
  | 6 =>
    show Calls _ _ #[.int .i64 6, _] _ _
    obtain ⟨S, hS⟩ : ∃ S, S = bstr (hasL 6) := ⟨_, rfl⟩
    have Ip : Hid (∀ w, Calls Try.prog 48 #[.string S, .int .u8 112] w fun e w' => e = .returned (.bool false) ∧ w' = w) := Lib.hid (fun w => by rw [hS]; exact in_has 6 112 false (by decide) w)
    obtain ⟨g1, hg1⟩ : ∃ b, b = bitB fl 0 := ⟨_, rfl⟩
    have E1 : (Go.bits .and .i64 ((fl.toNat : Nat) : Int) 1 != 0) = g1 := by rw [hg1]; exact (bne_of _ 1 (by decide) _ (bit1 fl)).1
    have Hg1 := Lib.hid hg1
    clear hg1
    obtain ⟨g4, hg4⟩ : ∃ b, b = bitB fl 2 := ⟨_, rfl⟩
    have E4 : (Go.bits .and .i64 ((fl.toNat : Nat) : Int) 4 != 0) = g4 := by rw [hg4]; exact (bne_of _ 4 (by decide) _ (bit4 fl)).1
    have Hg4 := Lib.hid hg4
    clear hg4
    obtain ⟨g8, hg8⟩ : ∃ b, b = bitB fl 3 := ⟨_, rfl⟩
    have E8 : (Go.bits .and .i64 ((fl.toNat : Nat) : Int) 8 != 0) = g8 := by rw [hg8]; exact (bne_of _ 8 (by decide) _ (bit8 fl)).1
    have Hg8 := Lib.hid hg8
    clear hg8
    obtain ⟨g32, hg32⟩ : ∃ b, b = bitB fl 5 := ⟨_, rfl⟩
    have E32 : (Go.bits .and .i64 ((fl.toNat : Nat) : Int) 32 != 0) = g32 := by rw [hg32]; exact (bne_of _ 32 (by decide) _ (bit32 fl)).1
    have Hg32 := Lib.hid hg32
    clear hg32
    have HA := Lib.hid (rhas_any 6 w)
    rw [← hS] at HA
    clear hS
    go_enter Try.func47, Try.ntmps47
    go_wp2_with fail
    refine HA.out.mono ?_; rintro e w1 ⟨rfl, c1⟩
    have HC := Lib.hid c1
    clear c1
    go_wp2_with (go_at_call 48; with_reducible refine (Ip.out _).mono ?_; rintro e wx ⟨rfl, rfl⟩)
    go_ret2
    exact ⟨rfl, HC.out⟩
  | 7 =>
    show Calls _ _ #[.int .i64 7, _] _ _
    obtain ⟨S, hS⟩ : ∃ S, S = bstr (hasL 7) := ⟨_, rfl⟩
    have Ip : Hid (∀ w, Calls Try.prog 48 #[.string S, .int .u8 112] w fun e w' => e = .returned (.bool false) ∧ w' = w) := Lib.hid (fun w => by rw [hS]; exact in_has 7 112 false (by decide) w)
    obtain ⟨g1, hg1⟩ : ∃ b, b = bitB fl 0 := ⟨_, rfl⟩
    have E1 : (Go.bits .and .i64 ((fl.toNat : Nat) : Int) 1 != 0) = g1 := by rw [hg1]; exact (bne_of _ 1 (by decide) _ (bit1 fl)).1
    have Hg1 := Lib.hid hg1
    clear hg1
    obtain ⟨g4, hg4⟩ : ∃ b, b = bitB fl 2 := ⟨_, rfl⟩
    have E4 : (Go.bits .and .i64 ((fl.toNat : Nat) : Int) 4 != 0) = g4 := by rw [hg4]; exact (bne_of _ 4 (by decide) _ (bit4 fl)).1
    have Hg4 := Lib.hid hg4
    clear hg4
    obtain ⟨g8, hg8⟩ : ∃ b, b = bitB fl 3 := ⟨_, rfl⟩
    have E8 : (Go.bits .and .i64 ((fl.toNat : Nat) : Int) 8 != 0) = g8 := by rw [hg8]; exact (bne_of _ 8 (by decide) _ (bit8 fl)).1
    have Hg8 := Lib.hid hg8
    clear hg8
    obtain ⟨g32, hg32⟩ : ∃ b, b = bitB fl 5 := ⟨_, rfl⟩
    have E32 : (Go.bits .and .i64 ((fl.toNat : Nat) : Int) 32 != 0) = g32 := by rw [hg32]; exact (bne_of _ 32 (by decide) _ (bit32 fl)).1
    have Hg32 := Lib.hid hg32
    clear hg32
    have HA := Lib.hid (rhas_any 7 w)
    rw [← hS] at HA
    clear hS
    go_enter Try.func47, Try.ntmps47
    go_wp2_with fail
    refine HA.out.mono ?_; rintro e w1 ⟨rfl, c1⟩
    have HC := Lib.hid c1
    clear c1
    go_wp2_with (go_at_call 48; with_reducible refine (Ip.out _).mono ?_; rintro e wx ⟨rfl, rfl⟩)
    go_ret2
    exact ⟨rfl, HC.out⟩
  | 8 =>
    show Calls _ _ #[.int .i64 8, _] _ _
    obtain ⟨S, hS⟩ : ∃ S, S = bstr (hasL 8) := ⟨_, rfl⟩
    have Ip : Hid (∀ w, Calls Try.prog 48 #[.string S, .int .u8 112] w fun e w' => e = .returned (.bool false) ∧ w' = w) := Lib.hid (fun w => by rw [hS]; exact in_has 8 112 false (by decide) w)
    obtain ⟨g1, hg1⟩ : ∃ b, b = bitB fl 0 := ⟨_, rfl⟩
    have E1 : (Go.bits .and .i64 ((fl.toNat : Nat) : Int) 1 != 0) = g1 := by rw [hg1]; exact (bne_of _ 1 (by decide) _ (bit1 fl)).1
    have Hg1 := Lib.hid hg1
    clear hg1
    obtain ⟨g4, hg4⟩ : ∃ b, b = bitB fl 2 := ⟨_, rfl⟩
    have E4 : (Go.bits .and .i64 ((fl.toNat : Nat) : Int) 4 != 0) = g4 := by rw [hg4]; exact (bne_of _ 4 (by decide) _ (bit4 fl)).1
    have Hg4 := Lib.hid hg4
    clear hg4
    obtain ⟨g8, hg8⟩ : ∃ b, b = bitB fl 3 := ⟨_, rfl⟩
    have E8 : (Go.bits .and .i64 ((fl.toNat : Nat) : Int) 8 != 0) = g8 := by rw [hg8]; exact (bne_of _ 8 (by decide) _ (bit8 fl)).1
    have Hg8 := Lib.hid hg8
    clear hg8
    obtain ⟨g32, hg32⟩ : ∃ b, b = bitB fl 5 := ⟨_, rfl⟩
    have E32 : (Go.bits .and .i64 ((fl.toNat : Nat) : Int) 32 != 0) = g32 := by rw [hg32]; exact (bne_of _ 32 (by decide) _ (bit32 fl)).1
    have Hg32 := Lib.hid hg32
    clear hg32
    have HA := Lib.hid (rhas_any 8 w)
    rw [← hS] at HA
    clear hS
    go_enter Try.func47, Try.ntmps47
    go_wp2_with fail
    refine HA.out.mono ?_; rintro e w1 ⟨rfl, c1⟩
    have HC := Lib.hid c1
    clear c1
    go_wp2_with (go_at_call 48; with_reducible refine (Ip.out _).mono ?_; rintro e wx ⟨rfl, rfl⟩)
    go_ret2
    exact ⟨rfl, HC.out⟩
  | 9 =>
    show Calls _ _ #[.int .i64 9, _] _ _
    obtain ⟨S, hS⟩ : ∃ S, S = bstr (hasL 9) := ⟨_, rfl⟩
    have Ip : Hid (∀ w, Calls Try.prog 48 #[.string S, .int .u8 112] w fun e w' => e = .returned (.bool false) ∧ w' = w) := Lib.hid (fun w => by rw [hS]; exact in_has 9 112 false (by decide) w)
    obtain ⟨g1, hg1⟩ : ∃ b, b = bitB fl 0 := ⟨_, rfl⟩
    have E1 : (Go.bits .and .i64 ((fl.toNat : Nat) : Int) 1 != 0) = g1 := by rw [hg1]; exact (bne_of _ 1 (by decide) _ (bit1 fl)).1
    have Hg1 := Lib.hid hg1
    clear hg1
    obtain ⟨g4, hg4⟩ : ∃ b, b = bitB fl 2 := ⟨_, rfl⟩
    have E4 : (Go.bits .and .i64 ((fl.toNat : Nat) : Int) 4 != 0) = g4 := by rw [hg4]; exact (bne_of _ 4 (by decide) _ (bit4 fl)).1
    have Hg4 := Lib.hid hg4
    clear hg4
    obtain ⟨g8, hg8⟩ : ∃ b, b = bitB fl 3 := ⟨_, rfl⟩
    have E8 : (Go.bits .and .i64 ((fl.toNat : Nat) : Int) 8 != 0) = g8 := by rw [hg8]; exact (bne_of _ 8 (by decide) _ (bit8 fl)).1
    have Hg8 := Lib.hid hg8
    clear hg8
    obtain ⟨g32, hg32⟩ : ∃ b, b = bitB fl 5 := ⟨_, rfl⟩
    have E32 : (Go.bits .and .i64 ((fl.toNat : Nat) : Int) 32 != 0) = g32 := by rw [hg32]; exact (bne_of _ 32 (by decide) _ (bit32 fl)).1
    have Hg32 := Lib.hid hg32
    clear hg32
    have HA := Lib.hid (rhas_any 9 w)
    rw [← hS] at HA
    clear hS
    go_enter Try.func47, Try.ntmps47
    go_wp2_with fail
    refine HA.out.mono ?_; rintro e w1 ⟨rfl, c1⟩
    have HC := Lib.hid c1
    clear c1
    go_wp2_with (go_at_call 48; with_reducible refine (Ip.out _).mono ?_; rintro e wx ⟨rfl, rfl⟩)
    go_ret2
    exact ⟨rfl, HC.out⟩
  | n + 10 =>
    obtain ⟨KI, hKI⟩ : ∃ KI, KI = ((n + 10 : Nat) : Int) := ⟨_, rfl⟩
    have hLL : hasL KI = [102, 98] := by rw [hKI]; exact hasL_oth _ (by omega)
    rw [← hKI]
    obtain ⟨S, hS⟩ : ∃ S, S = bstr (hasL KI) := ⟨_, rfl⟩
    have Ip : Hid (∀ w, Calls Try.prog 48 #[.string S, .int .u8 112] w fun e w' => e = .returned (.bool false) ∧ w' = w) := Lib.hid (fun w => by rw [hS]; exact in_has KI 112 false (by rw [hLL]; decide) w)
    have HA := Lib.hid (rhas_any KI w)
    rw [← hS] at HA
    have q1 : (KI == 1) = false := by rw [hKI]; first | (simp; done) | (simp; omega)
    have q2 : (KI == 2) = false := by rw [hKI]; first | (simp; done) | (simp; omega)
    have q3 : (KI == 3) = false := by rw [hKI]; first | (simp; done) | (simp; omega)
    have q5 : (KI == 5) = false := by rw [hKI]; first | (simp; done) | (simp; omega)
    have q6 : (KI == 6) = false := by rw [hKI]; first | (simp; done) | (simp; omega)
    have q7 : (KI == 7) = false := by rw [hKI]; first | (simp; done) | (simp; omega)
    have q8 : (KI == 8) = false := by rw [hKI]; first | (simp; done) | (simp; omega)
    clear hS hLL hKI
    go_enter Try.func47, Try.ntmps47
    go_wp2_with fail
    refine HA.out.mono ?_; rintro e w1 ⟨rfl, c1⟩
    have HC := Lib.hid c1
    clear c1
    go_wp2_with (go_at_call 48; with_reducible refine (Ip.out _).mono ?_; rintro e wx ⟨rfl, rfl⟩)
    go_ret2
    exact ⟨by simp [leastN, justK], HC.out⟩
/-- The document's parser in memory. -/
structure RP (W w : World) (p : Nat) (l : List UInt8) (mx : Nat) (dn : Bool) : Prop where
  head : At w p (.cells #[.string (bstr l), .int .i64 (mx : Nat), .bool dn] 55 (0, 0))
  lo : W.heap.size ≤ p
  b1 : 16384 ≤ mx
  b2 : mx ≤ 16777215
section
variable {W w w' : World} {p : Nat} {l : List UInt8} {mx : Nat} {dn : Bool}
theorem RP.chg {ls : List Nat} (h : RP W w p l mx dn) (hc : Chg ls w w') (hd : p ∉ ls) : RP W w' p l mx dn := ⟨h.head.chg hc hd, h.lo, h.b1, h.b2⟩
theorem RP.chg0 (h : RP W w p l mx dn) (hc : Chg [] w w') : RP W w' p l mx dn := h.chg hc (by simp)
set_option maxRecDepth 100000 in
set_option maxHeartbeats 4000000 in
theorem rsetmax_raw {m0 : Int} (hh : At w p (.cells #[.string (bstr l), .int .i64 m0, .bool dn] 55 (0, 0))) (hlo : W.heap.size ≤ p) (n : Int) :
    Calls Try.prog 20 #[.pointer (some ⟨p, 0, none⟩), .int .i64 n] w fun e w' => e = .returned (.tuple #[]) ∧ RP W w' p l (mxP n) dn ∧ Chg [p] w w' := by
  have c1 : World.cell? w ⟨p, 1, none⟩ = some (.int .i64 m0) := hh.cell rfl
  have cf : ∀ j, World.frozen? w ⟨p, j, none⟩ = false := fun j => hh.free j
  have hb := mxP_bd n
  have hpl := hh.lt
  have fin : ∀ w', At w' p (.cells #[.string (bstr l), .int .i64 (mxP n : Nat), .bool dn] 55 (0, 0)) → RP W w' p l (mxP n) dn := fun w' h => ⟨h, hlo, hb.1, hb.2⟩
  have HF := Lib.hid fin; have HH := Lib.hid hh
  clear fin hh
  have hc1 : Hid (∀ v, Chg [p] w (w.setCell ⟨p, 1, none⟩ v)) := Lib.hid (fun v => (Chg.refl w).setCell (Or.inl (by simp)) v)
  have hc2 : Hid (∀ v v', Chg [p] w ((w.setCell ⟨p, 1, none⟩ v).setCell ⟨p, 1, none⟩ v')) := Lib.hid (fun v v' => ((Chg.refl w).setCell (Or.inl (by simp)) v).setCell (Or.inl (by simp)) v')
  rcases ltC n 16384 with ⟨h1, _⟩ | ⟨h1, h1'⟩
  · have hm : Hid ((mxP n : Int) = 16384) := Lib.hid (by unfold mxP; omega)
    have h2 : ¬ (16777215 : Int) < n := by omega
    clear hb
    go_enter Try.func20, Try.ntmps20
    go_wp2_with fail
    go_end0
    exact ⟨rfl, HF.out _ (by rw [hm.out]; exact (HH.out.set 1 _).set 1 _), hc2.out _ _⟩
  · rcases ltC 16777215 n with ⟨h2, _⟩ | ⟨h2, h2'⟩
    · have hm : Hid ((mxP n : Int) = 16777215) := Lib.hid (by unfold mxP; omega)
      clear hb
      go_enter Try.func20, Try.ntmps20
      go_wp2_with fail
      go_end0
      exact ⟨rfl, HF.out _ (by rw [hm.out]; exact (HH.out.set 1 _).set 1 _), hc2.out _ _⟩
    · have hm : Hid ((mxP n : Int) = n) := Lib.hid (by unfold mxP; omega)
      clear hb
      go_enter Try.func20, Try.ntmps20
      go_wp2_with fail
      go_end0
      exact ⟨rfl, HF.out _ (by rw [hm.out]; exact HH.out.set 1 _), hc1.out _⟩
theorem rsetmax_any (h : RP W w p l mx dn) (n : Int) :
    Calls Try.prog 20 #[.pointer (some ⟨p, 0, none⟩), .int .i64 n] w fun e w' => e = .returned (.tuple #[]) ∧ RP W w' p l (mxP n) dn ∧ Chg [p] w w' :=
  rsetmax_raw h.head h.lo n
end
set_option maxRecDepth 100000 in
set_option maxHeartbeats 4000000 in
theorem rnew_any {W : World} (n : Int) (w : World) (hb : W.heap.size ≤ w.heap.size) :
    Calls Try.prog 18 #[.int .i64 n] w fun e w' => ∃ p, e = .returned (.pointer (some ⟨p, 0, none⟩)) ∧ RP W w' p [] (mxP n) false ∧ Chg [] w w' ∧ w.heap.size ≤ p := by
  go_enter Try.func18, Try.ntmps18
  go_wp2_with fail
  have h0 : At (w.alloc (.cells #[.string (bstr []), .int .i64 0, .bool false] 55)) w.heap.size (.cells #[.string (bstr []), .int .i64 0, .bool false] 55 (0, 0)) := At.new w _
  refine (rsetmax_raw (W := W) h0 hb n).mono ?_; rintro e w1 ⟨rfl, h1, c1⟩
  have H1 := Lib.hid h1; have C1 : Hid (Chg [] w w1) := Lib.hid (((Chg.refl w).alloc _).trans c1 (fun x hx => Or.inr (by simp at hx; omega)))
  clear h0 h1 c1
  go_wp2_with fail
  go_ret
  exact ⟨w.heap.size, rfl, H1.out, C1.out, Nat.le_refl _⟩
set_option maxRecDepth 100000 in
set_option maxHeartbeats 4000000 in
theorem rbroken_any {W w : World} {p : Nat} {l : List UInt8} {mx : Nat} {dn : Bool} (h : RP W w p l mx dn) (code : Int) :
    Calls Try.prog 45 #[.pointer (some ⟨p, 0, none⟩), .int .u32 code] w fun e w' => e = .returned (.tuple #[.agg noF, .agg #[.bool true, .int .u32 code, .int .i64 0], .bool true]) ∧ RP W w' p [] mx true ∧ Chg [p] w w' := by
  have x0 : World.cell? w ⟨p, 0, none⟩ = some (.string (bstr l)) := h.head.cell rfl
  have x2 : World.cell? w ⟨p, 2, none⟩ = some (.bool dn) := h.head.cell rfl
  have xf : ∀ j, World.frozen? w ⟨p, j, none⟩ = false := fun j => h.head.free j
  have hpl := h.head.lt
  have HH := Lib.hid h
  clear h
  go_enter Try.func45, Try.ntmps45
  go_wp2_with fail
  obtain ⟨w2, hw2⟩ : ∃ w2, w2 = (w.setCell ⟨p, 0, none⟩ (.string (bstr []))).setCell ⟨p, 2, none⟩ (.bool true) := ⟨_, rfl⟩
  have hc : Chg [p] w w2 := by rw [hw2]; exact ((Chg.refl w).setCell (Or.inl (by simp)) _).setCell (Or.inl (by simp)) _
  have hp2 : At w2 p (.cells #[.string (bstr []), .int .i64 mx, .bool true] 55 (0, 0)) := by rw [hw2]; exact (HH.out.head.set 0 _).set 2 _
  have hw2' : (w.setCell ⟨p, 0, none⟩ (.string { data := #[] })).setCell ⟨p, 2, none⟩ (.bool true) = w2 := hw2.symm
  refine bodyPost_ret (v := .tuple #[.agg noF, .agg #[.bool true, .int .u32 code, .int .i64 0], .bool true]) (by simp [results, Try.results45, go_sem]) rfl ⟨rfl, ?_, ?_⟩
  · rw [hw2']
    have c2 : Chg [] w2 ((w2.alloc (.cells noF 27)).alloc (.cells #[.bool true, .int .u32 code, .int .i64 0] 46)) := ((Chg.refl w2).alloc _).alloc _
    exact ⟨hp2.chg c2 (by simp), HH.out.lo, HH.out.b1, HH.out.b2⟩
  · rw [hw2']
    exact (hc.alloc _).alloc _
end Go.Proofs.Ythhgnipiaohplaa.Fr
