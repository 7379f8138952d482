/-
  What must be in any case.
-/
import Derived.Test.YtpelnhfohfojhaaRGetT
import Derived.Lib.SmallJoins
namespace Go.Proofs.Ytpelnhfohfojhaa.Hi
open Go.ChangeShapes Go.WideShapes Go.ChangeAt Go.RowKit
open Go.Proofs.Ytpelnhfohfojhaa.B
open Go.Proofs.Ytpelnhfohfojhaa.Hf (bx need enc dec bitsOf)
set_option linter.unusedVariables false
set_option linter.unusedSimpArgs false

theorem s1 : putI 0 5 1337 = ([31, 154, 10], 0) := by
  show (putN 0 5 1337, 0) = _
  unfold putN
  rw [if_neg (by decide), show (1337 - (2 ^ 5 - 1) : Nat) = 1306 by decide, more_big (by decide), show (1306 / 128 : Nat) = 10 by decide, more_low (by decide)]; rfl
theorem s2 : putI 224 5 30 = ([254], 0) := by
  show (putN 224 5 30, 0) = _
  unfold putN
  rw [if_pos (by decide)]; rfl
theorem s3 : getI [31, 154, 10] 5 = (1337, 3, 0) := by decide +kernel
theorem s4 : getI [31, 154] 5 = (0, 0, 2) := by decide +kernel
theorem s5 : getT [1, 97, 98] = ([97], 2, 0) := by decide +kernel
theorem s6 : putT (bx ⟨#[97]⟩) = [1, 97] := by
  have h1 : need (bx ⟨#[97]⟩) = 1 := by decide +kernel
  have h2 : bx ⟨#[97]⟩ = [97] := rfl
  unfold putT
  rw [h1, h2, if_neg (by decide)]
  show putN 0 7 1 ++ [97] = _
  unfold putN
  rw [if_pos (by decide)]; rfl
theorem BytesOf.lits (w : World) (l : List UInt8) (hm : l.length ≤ maxLen) : BytesOf (w.alloc (.cells (rowB l).toArray 5 (l.length, l.length + 1))) (.slice (some ⟨w.heap.size, 0, none⟩) l.length l.length) l := by
  refine ⟨_, l.length, rfl, Nat.le_refl _, hm, fun _ => ⟨w.heap.size, 0, rfl, by simp, fun i z hz j hj => ?_⟩⟩
  obtain rfl : j = 0 := by omega
  have : (rowB l).toArray[i]? = some (.int .u8 (z.toNat : Int)) := by rw [List.getElem?_toArray, rowB_get, hz]; rfl
  rw [show 0 + i * 1 + 0 = i by omega]
  rw [At.cell (At.new w _) this]; rfl
set_option maxRecDepth 100000 in
set_option maxHeartbeats 4000000 in
theorem shown_any (w : World) :
    Calls Try.prog 9 #[] w fun e w' => e = .returned (.bool true) ∧ Chg [] w w' := by
  have q1 : ∀ w, _ := fun w => Go.Joins.run_convert_bytes_const_at (P := Try.prog) w 23 5 #[.int .u8 31, .int .u8 154, .int .u8 10] 3 3 _ rfl Try.underlying23 Try.underlying5
  have q2 : ∀ w, _ := fun w => Go.Joins.run_convert_bytes_const_at (P := Try.prog) w 23 5 #[.int .u8 31, .int .u8 154] 2 2 _ rfl Try.underlying23 Try.underlying5
  have q3 : ∀ w, _ := fun w => Go.Joins.run_convert_bytes_const_at (P := Try.prog) w 23 5 #[.int .u8 1, .int .u8 97, .int .u8 98] 3 3 _ rfl Try.underlying23 Try.underlying5
  go_enter Try.func9, Try.ntmps9
  go_wp2_with fail
  refine (putint_any 0 5 1337 _).mono ?_; rintro e w1 ⟨r1, rfl, o1, c1⟩
  rw [s1] at o1
  rw [s1]
  go_wp2_with fail
  refine (putint_any 224 5 30 _).mono ?_; rintro e w2 ⟨r2, rfl, o2, h2⟩
  rw [s2] at o2
  rw [s2]
  have c2 := c1.trans' h2
  have b1 := o1.bytes.chg0 h2
  have b2 := o2.bytes
  clear c1 h2 o1 o2
  go_wp2_with fail
  have l3 := BytesOf.lits w2 [31, 154, 10] (by decide)
  refine (getint_any _ [31, 154, 10] 5 _ l3).mono ?_; rintro e w3 ⟨rfl, h3⟩
  rw [s3]
  have h3 := ((Chg.refl w2).alloc _).trans' h3
  have c3 := c2.trans' h3
  have b1 := b1.chg0 h3
  have b2 := b2.chg0 h3
  clear c2 h3 l3
  go_wp2_with fail
  have l4 := BytesOf.lits w3 [31, 154] (by decide)
  refine (getint_any _ [31, 154] 5 _ l4).mono ?_; rintro e w4 ⟨rfl, h4⟩
  rw [s4]
  have h4 := ((Chg.refl w3).alloc _).trans' h4
  have c4 := c3.trans' h4
  have b1 := b1.chg0 h4
  have b2 := b2.chg0 h4
  clear c3 h4 l4
  go_wp2_with fail
  have l5 := BytesOf.lits w4 [1, 97, 98] (by decide)
  refine (gettext_any _ [1, 97, 98] _ l5).mono ?_; rintro e w5 ⟨rfl, h5⟩
  rw [s5]
  have h5 := ((Chg.refl w4).alloc _).trans' h5
  have c5 := c4.trans' h5
  have b1 := b1.chg0 h5
  have b2 := b2.chg0 h5
  clear c4 h5 l5
  go_wp2_with fail
  refine (puttext_any ⟨#[97]⟩ _ (by decide)).mono ?_; rintro e w6 ⟨r6, rfl, o6, h6⟩
  rw [s6] at o6
  have c6 := c5.trans' h6
  have k1 := (b1.chg0 h6).str
  have k2 := (b2.chg0 h6).str
  have k6 := o6.bytes.str
  clear c5 h6 b1 b2 o6
  go_wp2_with fail
  go_ret
  exact ⟨rfl, c6⟩
end Go.Proofs.Ytpelnhfohfojhaa.Hi
