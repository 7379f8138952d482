/-
  The small case that must work: Write.
-/
import Derived.Test.YthhgnipiaohplaaFsh
import Derived.Test.YthhgnipiaohplaaFza
namespace Go.Proofs.Ythhgnipiaohplaa.Fr
open Go.ChangeShapes Go.WideShapes Go.ChangeAt Go.RowKit
open Go.Proofs.Ythhgnipiaohplaa.B
set_option linter.unusedVariables false
set_option linter.unusedSimpArgs false

set_option maxRecDepth 100000 in
set_option maxHeartbeats 4000000 in
theorem write_no (w : World) : Calls Try.prog 14 #[.agg (dat 0 false (.slice none 0 0) 0)] w fun e w' => e = .returned (.tuple #[.slice none 0 0, .int .i64 1]) ∧ Chg [] w w' := by
  go_enter Try.func14, Try.ntmps14
  go_wp2_with fail
  refine (may_no _).mono ?_; rintro e w1 ⟨rfl, c1⟩
  have C1 : Hid (Chg [] w w1) := Lib.hid (((Chg.refl w).alloc _).trans' c1)
  clear c1
  go_wp2_with fail
  go_ret2
  exact ⟨rfl, C1.out⟩
theorem one_b (w : World) (c : UInt8) : BytesOf (w.alloc (.cells #[.int .u8 (c.toNat : Int)] 5)) (.slice (some ⟨w.heap.size, 0, none⟩) 1 1) [c] :=
  SliceOf.one (enc := encB) (x := c) (size := 1) rfl (cs := #[.int .u8 (c.toNat : Int)]) rfl w
theorem two_b (w : World) (c d : UInt8) : BytesOf (w.alloc (.cells #[.int .u8 (c.toNat : Int), .int .u8 (d.toNat : Int)] 5)) (.slice (some ⟨w.heap.size, 0, none⟩) 2 2) [c, d] := by
  refine ⟨_, 2, rfl, Nat.le_refl _, by simp [maxLen], fun _ => ⟨w.heap.size, 0, rfl, by simp, fun i z hz j hj => ?_⟩⟩
  obtain rfl : j = 0 := by omega
  have hi : i < 2 := (List.getElem?_eq_some_iff.1 hz).1
  have c0 := At.cell (o := 0) (v := .int .u8 (c.toNat : Int)) (At.new w (.cells #[.int .u8 (c.toNat : Int), .int .u8 (d.toNat : Int)] 5)) rfl
  have c1 := At.cell (o := 1) (v := .int .u8 (d.toNat : Int)) (At.new w (.cells #[.int .u8 (c.toNat : Int), .int .u8 (d.toNat : Int)] 5)) rfl
  obtain rfl | rfl : i = 0 ∨ i = 1 := by omega
  · simp at hz; subst hz
    rw [show 0 + 0 * 1 + 0 = 0 from rfl, c0]; rfl
  · simp at hz; subst hz
    rw [show 0 + 1 * 1 + 0 = 1 from rfl, c1]; rfl
set_option maxRecDepth 100000 in
set_option maxHeartbeats 4000000 in
theorem write_one (a : Option Addr) (c : Nat) (w : World) (hp : BytesOf w (.slice a 2 c) [97, 98]) :
    Calls Try.prog 14 #[.agg (dat 1 true (.slice a 2 c) 3)] w fun e w' => ∃ rv, e = .returned (.tuple #[rv, .int .i64 0]) ∧ OwnB w' w.heap.size rv [0, 0, 5, 0, 9, 0, 0, 0, 1, 2, 97, 98, 0, 0] ∧ Chg [] w w' := by
  have HP := Lib.hid hp
  have hor1 : Go.bits .or .i64 0 8 = 8 := by decide
  have hor2 : Go.bits .or .i64 8 1 = 9 := by decide
  clear hp
  go_enter Try.func14, Try.ntmps14
  go_wp2_with fail
  refine (may_yes a 2 c _).mono ?_; rintro e w1 ⟨rfl, c1⟩
  obtain ⟨B, hB⟩ : ∃ B, B = w.heap.size := ⟨_, rfl⟩
  have b1 : At w1 B (.cells (dat 1 true (.slice a 2 c) 3) 27 (0, 0)) := (At.new' (w := w) hB.symm).chg c1 (by simp)
  have hBw : w.heap.size ≤ B := by omega
  have C1 : Hid (Chg [] w w1) := Lib.hid (((Chg.refl w).alloc _).trans' c1)
  have HB := Lib.hid hB; have B1 := Lib.hid b1
  rw [← hB]
  clear c1 b1 hB
  have x0 : World.cell? w1 ⟨B, 0, none⟩ = some (.int .i64 0) := (B1.out).cell rfl
  have x1 : World.cell? w1 ⟨B, 1, none⟩ = some (.int .i64 1) := (B1.out).cell rfl
  have x2 : World.cell? w1 ⟨B, 2, none⟩ = some (.bool true) := (B1.out).cell rfl
  have x3 : World.cell? w1 ⟨B, 3, none⟩ = some (.bool false) := (B1.out).cell rfl
  have x6 : World.cell? w1 ⟨B, 6, none⟩ = some (.slice a 2 c) := (B1.out).cell rfl
  have x7 : World.cell? w1 ⟨B, 7, none⟩ = some (.int .i64 0) := (B1.out).cell rfl
  have x8 : World.cell? w1 ⟨B, 8, none⟩ = some (.int .i64 3) := (B1.out).cell rfl
  have x13 : World.cell? w1 ⟨B, 13, none⟩ = some (.slice none 0 0) := (B1.out).cell rfl
  have hBl : B < (w1).heap.size := (B1.out).lt
  have hs1 := C1.out.size
  go_wp2_with (at_builtin; refine app_any rfl _ _ rfl w.heap.size (.slice none 0 0) [] rfl (OwnB.nil _ _) _ [2] rfl (one_b w1 2) (by simp) (by simp; omega) ?_)
  intro v2 w2 own2 ch2 n2
  have c12 : Chg [] w1 w2 := ((Chg.refl w1).alloc _).trans' (ch2.mono (by simp [Value.ownBlock]))
  have C2 := Lib.hid (C1.out.trans' c12); have B2 := Lib.hid (B1.out.chg c12 (by simp)); have O2 := Lib.hid own2
  have hs2 := C2.out.size
  clear own2 ch2 n2 c12 C1 B1 x0 x1 x2 x3 x6 x7 x8 x13 hBl hs1
  have x0 : World.cell? w2 ⟨B, 0, none⟩ = some (.int .i64 0) := (B2.out).cell rfl
  have x1 : World.cell? w2 ⟨B, 1, none⟩ = some (.int .i64 1) := (B2.out).cell rfl
  have x2 : World.cell? w2 ⟨B, 2, none⟩ = some (.bool true) := (B2.out).cell rfl
  have x3 : World.cell? w2 ⟨B, 3, none⟩ = some (.bool false) := (B2.out).cell rfl
  have x6 : World.cell? w2 ⟨B, 6, none⟩ = some (.slice a 2 c) := (B2.out).cell rfl
  have x7 : World.cell? w2 ⟨B, 7, none⟩ = some (.int .i64 0) := (B2.out).cell rfl
  have x8 : World.cell? w2 ⟨B, 8, none⟩ = some (.int .i64 3) := (B2.out).cell rfl
  have x13 : World.cell? w2 ⟨B, 13, none⟩ = some (.slice none 0 0) := (B2.out).cell rfl
  have hBl : B < (w2).heap.size := (B2.out).lt
  go_wp2_with (at_builtin; refine app_any rfl _ _ rfl w.heap.size v2 [2] rfl O2.out _ [97, 98] rfl (HP.out.chg0 C2.out) (by simp) hs2 ?_)
  intro v3 w3 own3 ch3 n3
  have C3 := Lib.hid (C2.out.trans ch3 (fun x hx => Or.inr (OwnB.lo O2.out x hx))); have B3 := Lib.hid (B2.out.chg ch3 (owns_alien O2.out B2.out (by decide))); have O3 := Lib.hid own3
  have hs3 := C3.out.size
  clear own3 ch3 n3 C2 B2 O2 x0 x1 x2 x3 x6 x7 x8 x13 hBl hs2
  have x0 : World.cell? w3 ⟨B, 0, none⟩ = some (.int .i64 0) := (B3.out).cell rfl
  have x1 : World.cell? w3 ⟨B, 1, none⟩ = some (.int .i64 1) := (B3.out).cell rfl
  have x2 : World.cell? w3 ⟨B, 2, none⟩ = some (.bool true) := (B3.out).cell rfl
  have x3 : World.cell? w3 ⟨B, 3, none⟩ = some (.bool false) := (B3.out).cell rfl
  have x6 : World.cell? w3 ⟨B, 6, none⟩ = some (.slice a 2 c) := (B3.out).cell rfl
  have x7 : World.cell? w3 ⟨B, 7, none⟩ = some (.int .i64 0) := (B3.out).cell rfl
  have x8 : World.cell? w3 ⟨B, 8, none⟩ = some (.int .i64 3) := (B3.out).cell rfl
  have x13 : World.cell? w3 ⟨B, 13, none⟩ = some (.slice none 0 0) := (B3.out).cell rfl
  have hBl : B < (w3).heap.size := (B3.out).lt
  go_wp2_with (at_builtin; refine app_zeros rfl _ _ rfl w.heap.size v3 ([2] ++ [97, 98]) rfl O3.out 2 rfl (by omega) (by simp) hs3 ?_)
  intro v4 w4 own4 ch4 n4
  have C4 := Lib.hid (C3.out.trans ch4 (fun x hx => Or.inr (OwnB.lo O3.out x hx))); have B4 := Lib.hid (B3.out.chg ch4 (owns_alien O3.out B3.out (by decide)))
  have own4' : OwnB w4 w.heap.size v4 [2, 97, 98, 0, 0] := own4
  obtain ⟨ba, bc, rfl, hbc1, hbc2⟩ := (OwnB.bytes own4').slice
  rw [show [2, 97, 98, 0, (0 : UInt8)].length = 5 from rfl] at own4'
  have O4 := Lib.hid own4'
  have hs4 := C4.out.size
  clear own4 own4' ch4 n4 C3 B3 O3 x0 x1 x2 x3 x6 x7 x8 x13 hBl hs3
  have x0 : World.cell? w4 ⟨B, 0, none⟩ = some (.int .i64 0) := (B4.out).cell rfl
  have x1 : World.cell? w4 ⟨B, 1, none⟩ = some (.int .i64 1) := (B4.out).cell rfl
  have x2 : World.cell? w4 ⟨B, 2, none⟩ = some (.bool true) := (B4.out).cell rfl
  have x3 : World.cell? w4 ⟨B, 3, none⟩ = some (.bool false) := (B4.out).cell rfl
  have x6 : World.cell? w4 ⟨B, 6, none⟩ = some (.slice a 2 c) := (B4.out).cell rfl
  have x7 : World.cell? w4 ⟨B, 7, none⟩ = some (.int .i64 0) := (B4.out).cell rfl
  have x8 : World.cell? w4 ⟨B, 8, none⟩ = some (.int .i64 3) := (B4.out).cell rfl
  have x13 : World.cell? w4 ⟨B, 13, none⟩ = some (.slice none 0 0) := (B4.out).cell rfl
  have hBl : B < (w4).heap.size := (B4.out).lt
  rw [show [2, 97, 98, 0, (0 : UInt8)].length = 5 from rfl]
  go_wp2_with fail
  refine (put_any (base := w.heap.size) (.slice none 0 0) [] (OwnB.nil _ _) 5 3 (by omega) (by omega) (by simp) hs4).mono ?_; rintro e w5 ⟨r5, rfl, o5, c5, n5⟩
  have HBA : Hid (∀ g ∈ (Value.slice ba 5 bc).ownBlock.toList, g < w4.heap.size) := Lib.hid (fun g hg => (World.ownsRow.lt O4.out g (by simpa using hg)).2)
  have HR5 : Hid (∀ k ∈ r5.ownBlock.toList, w4.heap.size ≤ k) := Lib.hid (fun k hk => (n5 k hk).elim (fun h => by simp [Value.ownBlock] at h) id)
  have hs45 : w4.heap.size ≤ w5.heap.size := c5.size
  clear n5
  have c5' : Chg [] w4 w5 := c5.mono (by simp [Value.ownBlock])
  have o5' : OwnB w5 w.heap.size r5 [0, 0, 5] := o5
  have C5 := Lib.hid (C4.out.trans' c5'); have B5 := Lib.hid (B4.out.chg c5' (by simp)); have O5 := Lib.hid o5'; have P5 := Lib.hid (OwnB.chg0' O4.out c5')
  have hs5 := C5.out.size
  clear o5 o5' c5 c5' C4 B4 O4 x0 x1 x2 x3 x6 x7 x8 x13 hBl hs4
  have x0 : World.cell? w5 ⟨B, 0, none⟩ = some (.int .i64 0) := (B5.out).cell rfl
  have x1 : World.cell? w5 ⟨B, 1, none⟩ = some (.int .i64 1) := (B5.out).cell rfl
  have x2 : World.cell? w5 ⟨B, 2, none⟩ = some (.bool true) := (B5.out).cell rfl
  have x3 : World.cell? w5 ⟨B, 3, none⟩ = some (.bool false) := (B5.out).cell rfl
  have x6 : World.cell? w5 ⟨B, 6, none⟩ = some (.slice a 2 c) := (B5.out).cell rfl
  have x7 : World.cell? w5 ⟨B, 7, none⟩ = some (.int .i64 0) := (B5.out).cell rfl
  have x8 : World.cell? w5 ⟨B, 8, none⟩ = some (.int .i64 3) := (B5.out).cell rfl
  have x13 : World.cell? w5 ⟨B, 13, none⟩ = some (.slice none 0 0) := (B5.out).cell rfl
  have hBl : B < (w5).heap.size := (B5.out).lt
  go_wp2_with (at_builtin; refine app_any rfl _ _ rfl w.heap.size r5 [0, 0, 5] rfl (OwnB.chg0' O5.out ((Chg.refl w5).alloc _)) _ [0, 9] rfl (two_b w5 0 9) (by simp) (by simp; omega) ?_)
  intro v6 w6 own6 ch6 n6
  have ch6' : Chg r5.ownBlock.toList w5 w6 := ((Chg.refl (l := r5.ownBlock.toList) w5).alloc _).trans' ch6
  have C6 := Lib.hid (C5.out.trans ch6' (fun x hx => Or.inr (OwnB.lo O5.out x hx))); have B6 := Lib.hid (B5.out.chg ch6' (owns_alien O5.out B5.out (by decide)))
  have own6' : OwnB w6 w.heap.size v6 [0, 0, 5, 0, 9] := own6
  have O6 := Lib.hid own6'
  have hne : Hid (∀ g, (Value.slice ba 5 bc).ownBlock = some g → g ∉ r5.ownBlock.toList) := Lib.hid (fun g hg hx => by have := HBA.out g (by simp [hg]); have := HR5.out g hx; omega)
  have HV6 : Hid (∀ k ∈ v6.ownBlock.toList, w4.heap.size ≤ k) := Lib.hid (fun k hk => by
    rcases n6 k (by simpa using hk) with h | h
    · exact HR5.out k (by simp [h])
    · omega)
  have P6 := Lib.hid (OwnB.chg P5.out ch6' hne.out)
  have hs6 := C6.out.size
  clear own6 own6' ch6 ch6' n6 C5 B5 O5 P5 x0 x1 x2 x3 x6 x7 x8 x13 hBl hs5
  have x0 : World.cell? w6 ⟨B, 0, none⟩ = some (.int .i64 0) := (B6.out).cell rfl
  have x1 : World.cell? w6 ⟨B, 1, none⟩ = some (.int .i64 1) := (B6.out).cell rfl
  have x2 : World.cell? w6 ⟨B, 2, none⟩ = some (.bool true) := (B6.out).cell rfl
  have x3 : World.cell? w6 ⟨B, 3, none⟩ = some (.bool false) := (B6.out).cell rfl
  have x6 : World.cell? w6 ⟨B, 6, none⟩ = some (.slice a 2 c) := (B6.out).cell rfl
  have x7 : World.cell? w6 ⟨B, 7, none⟩ = some (.int .i64 0) := (B6.out).cell rfl
  have x8 : World.cell? w6 ⟨B, 8, none⟩ = some (.int .i64 3) := (B6.out).cell rfl
  have x13 : World.cell? w6 ⟨B, 13, none⟩ = some (.slice none 0 0) := (B6.out).cell rfl
  have hBl : B < (w6).heap.size := (B6.out).lt
  go_wp2_with fail
  refine (put_any (base := w.heap.size) v6 [0, 0, 5, 0, 9] O6.out 1 4 (by omega) (by omega) (by simp) hs6).mono ?_; rintro e w7 ⟨r7, rfl, o7, c7, n7⟩
  have o7' : OwnB w7 w.heap.size r7 [0, 0, 5, 0, 9, 0, 0, 0, 1] := o7
  have C7 := Lib.hid (C6.out.trans c7 (fun x hx => Or.inr (OwnB.lo O6.out x hx))); have O7 := Lib.hid o7'
  have P7 : Hid (OwnB w7 w.heap.size (.slice ba 5 bc) [2, 97, 98, 0, 0]) := Lib.hid (OwnB.chg P6.out c7 (fun g hg hx => by have := HBA.out g (by simp [hg]); have := HV6.out g hx; omega))
  have hs7 := C7.out.size
  clear o7 o7' c7 n7 C6 B6 O6 P6 x0 x1 x2 x3 x6 x7 x8 x13 hBl hs6
  go_wp2_with (at_builtin; refine app_any rfl _ _ rfl w.heap.size r7 [0, 0, 5, 0, 9, 0, 0, 0, 1] rfl O7.out _ [2, 97, 98, 0, 0] rfl (OwnB.bytes P7.out) (by simp) hs7 ?_)
  intro v8 w8 own8 ch8 n8
  have own8' : OwnB w8 w.heap.size v8 [0, 0, 5, 0, 9, 0, 0, 0, 1, 2, 97, 98, 0, 0] := own8
  have C8 := Lib.hid (C7.out.trans ch8 (fun x hx => Or.inr (OwnB.lo O7.out x hx))); have O8 := Lib.hid own8'
  clear own8 own8' ch8 n8
  go_wp2_with fail
  go_ret2
  exact ⟨v8, rfl, O8.out, C8.out⟩
end Go.Proofs.Ythhgnipiaohplaa.Fr
