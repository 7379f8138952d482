/-
  The walk of 'shown': the document's examples.
-/
import Derived.Test.YtgoelobkehebjaaRef
namespace Go.Proofs.Ytgoelobkehebjaa.Wg
open Go.ChangeShapes Go.WideShapes Go.ChangeAt Go.RowKit
open Go.Proofs.Ytgoelobkehebjaa.B Go.Proofs.Ytgoelobkehebjaa.Fl
set_option linter.unusedVariables false
set_option linter.unusedSimpArgs false

def rowF (l : List Nat) : Obj := .cells ((l.map (Value.float .f64)).toArray) 26 (0, 0)
theorem sliceOf_row {W : World} {N n cap : Nat} {l : List Nat} (h : At W N (rowF l)) (hl : l.length ≤ 64) (hn : l.length = n) (hc : n ≤ cap) (hm : cap ≤ 64) : SliceOf W (.slice (some ⟨N, 0, none⟩) n cap) 1 encF l := by
  subst hn
  refine ⟨some ⟨N, 0, none⟩, cap, rfl, hc, by unfold maxLen; omega, fun h0 => ⟨N, 0, rfl, h.lt, fun i z hz j hj => ?_⟩⟩
  obtain rfl : j = 0 := by omega
  refine h.cell ?_
  obtain ⟨g1, g2⟩ := List.getElem?_eq_some_iff.1 hz
  simp [encF, g1, g2]

/-- A NaN of the tape's choice. -/
theorem nan_run (w : World) : ∃ x : Nat, x < 2 ^ 64 ∧ okB x = false ∧ (binOp .quo 26 (.float .f64 0) (.float .f64 0)).run Try.prog w = .ok (.float .f64 x) w.drew := by
  refine ⟨(Question.nanBits .f64 0 0).cut (w.tape w.drawn (Question.nanBits .f64 0 0)), ?_, ?_, ?_⟩
  · simp only [Question.cut]
    generalize w.tape w.drawn (Question.nanBits FloatKind.f64 0 0) = t
    have := Nat.mod_lt (t / 2) (show 0 < 2 ^ 52 - 1 by decide)
    have := Nat.mod_lt t (show 0 < 2 by decide)
    omega
  · simp only [Question.cut]
    generalize w.tape w.drawn (Question.nanBits FloatKind.f64 0 0) = t
    have := Nat.mod_lt (t / 2) (show 0 < 2 ^ 52 - 1 by decide)
    have := Nat.mod_lt t (show 0 < 2 by decide)
    unfold okB G
    simp
    omega
  · have hd : FloatKind.f64.format.div 0 0 = none := by kernel_rfl
    simp [binOp, Op.floatArith, hd, Question.forced]
theorem neg_zero : Op.unary .neg (.float .f64 0) = pure (.float .f64 9223372036854775808) := by rfl
attribute [local go_sem] neg_zero
def exL : List Nat := [4607182418800017408, 0, 4607182418800017408]
theorem ex_pick0 : pickW exL 0 = 0 := by decide +kernel
theorem ex_pick1 : pickW exL 9223372036854775808 = 2 := by decide +kernel
theorem ex_neg : pickW [9223372036854775808, 4607182418800017408] 0 = 1 := by decide +kernel
theorem ex_total : totalW exL = 4611686018427387904 := by decide +kernel
theorem ex_nan {x : Nat} (h : okB x = false) (d : Nat) : pickW [x] d = -1 := by
  unfold pickW rightW; simp [h]
theorem ex_at1 : atW exL 4503599627370496 = 2 := by decide +kernel
theorem ex_at0 : atW exL 4503599627370495 = 0 := by decide +kernel
theorem ex_share {r : Nat} (h : ShareIs exL 1 r) : r = 9223372036854775808 := by
  refine h.one (.inr ⟨by decide +kernel, by decide, 4503599627370496, by decide, fun m hm => ?_, fun _ => by rw [ex_at1]; decide, by decide⟩)
  have := @atW_mono exL m 4503599627370495 (by omega)
  rw [ex_at0] at this
  omega
theorem ex_eq : FloatKind.f64.format.order 4611686018427387904 4611686018427387904 = some .eq := by kernel_rfl

set_option maxRecDepth 100000 in
set_option maxHeartbeats 8000000 in
theorem shown_any (w : World) : Calls Try.prog 11 #[] w fun e w' => e = .returned (.bool true) ∧ Chg [] w w' := by
  have a1 : At (w.alloc (rowF exL)) w.heap.size (rowF exL) := At.new _ _
  have h1 : Chg [] w (w.alloc (rowF exL)) := (Chg.refl w).alloc _
  have H1 := Lib.hid h1; have HA1 := Lib.hid a1
  clear h1 a1
  go_enter Try.func11, Try.ntmps11
  go_wp2_with fail
  change Calls _ _ _ (w.alloc (rowF exL)) _
  generalize w.heap.size = N at *
  generalize w.alloc (rowF exL) = w1 at *
  refine (pick_any _ exL 0 _ (sliceOf_row HA1.out (by decide) rfl (by decide) (by decide)) (by decide) (by decide)).mono ?_; rintro e w2 ⟨he, h2⟩
  rw [ex_pick0] at he
  subst he
  have HA2 := Lib.hid (HA1.out.chg h2 (by simp)); have H2 := Lib.hid (H1.out.trans' h2)
  clear h2 H1 HA1
  go_wp2_with fail
  refine (pick_any _ exL 9223372036854775808 _ (sliceOf_row HA2.out (by decide) rfl (by decide) (by decide)) (by decide) (by decide)).mono ?_; rintro e w3 ⟨he, h3⟩
  rw [ex_pick1] at he
  subst he
  have HA3 := Lib.hid (HA2.out.chg h3 (by simp)); have H3 := Lib.hid (H2.out.trans' h3)
  clear h3 H2 HA2
  obtain ⟨x, hx, hxb, hrun⟩ := nan_run w3
  have HXB := Lib.hid hxb; have HX := Lib.hid hx
  clear hx hxb
  go_wp2_with fail
  have a4 : At ((w3.alloc (.cells #[Value.float FloatKind.f64 x] 26)).drew) w3.heap.size (rowF [x]) := (At.new w3 _).drew
  have b4 : At ((w3.alloc (.cells #[Value.float FloatKind.f64 x] 26)).drew) N (rowF exL) := (HA3.out.alloc _).drew
  have h4 : Chg [] w ((w3.alloc (.cells #[Value.float FloatKind.f64 x] 26)).drew) := (H3.out.alloc _).drew
  have HA4 := Lib.hid a4; have HB4 := Lib.hid b4; have H4 := Lib.hid h4
  clear a4 b4 h4 hrun H3 HA3
  generalize (w3.alloc (.cells #[Value.float FloatKind.f64 x] 26)).drew = w4 at *
  generalize w3.heap.size = N2 at *
  refine (pick_any _ [x] 0 _ (sliceOf_row (n := 1) (cap := 1) HA4.out (by simp) rfl (Nat.le_refl _) (by omega)) (by simpa using HX.out) (by decide)).mono ?_; rintro e w5 ⟨he, h5⟩
  rw [ex_nan HXB.out] at he
  subst he
  have HA5 := Lib.hid (HB4.out.chg h5 (by simp)); have H5 := Lib.hid (H4.out.trans' h5)
  clear h5 H4 HA4 HB4 HX HXB
  go_wp2_with fail
  have a6 : At (w5.alloc (rowF [9223372036854775808, 4607182418800017408])) w5.heap.size (rowF [9223372036854775808, 4607182418800017408]) := At.new w5 _
  have b6 : At (w5.alloc (rowF [9223372036854775808, 4607182418800017408])) N (rowF exL) := HA5.out.alloc _
  have h6 : Chg [] w (w5.alloc (rowF [9223372036854775808, 4607182418800017408])) := H5.out.alloc _
  have HA6 := Lib.hid a6; have HB6 := Lib.hid b6; have H6 := Lib.hid h6
  clear a6 b6 h6 H5 HA5
  change Calls _ _ _ (w5.alloc (rowF [9223372036854775808, 4607182418800017408])) _
  generalize w5.alloc (rowF [9223372036854775808, 4607182418800017408]) = w6 at *
  generalize w5.heap.size = N3 at *
  refine (pick_any _ [9223372036854775808, 4607182418800017408] 0 _ (sliceOf_row HA6.out (by decide) rfl (Nat.le_refl _) (by decide)) (by decide) (by decide)).mono ?_; rintro e w7 ⟨he, h7⟩
  rw [ex_neg] at he
  subst he
  have HA7 := Lib.hid (HB6.out.chg h7 (by simp)); have H7 := Lib.hid (H6.out.trans' h7)
  clear h7 H6 HA6 HB6
  go_wp2_with fail
  refine (share_any _ exL 1 _ (sliceOf_row HA7.out (by decide) rfl (by decide) (by decide)) (by decide)).mono ?_; rintro e w8 ⟨h8, r, hr, he⟩
  rw [ex_share hr] at he
  subst he
  have HA8 := Lib.hid (HA7.out.chg h8 (by simp)); have H8 := Lib.hid (H7.out.trans' h8)
  clear h8 H7 HA7 hr
  go_wp2_with fail
  refine (total_any _ exL _ (sliceOf_row HA8.out (by decide) rfl (by decide) (by decide)) (by decide)).mono ?_; rintro e w9 ⟨he, h9⟩
  rw [ex_total] at he
  subst he
  have H9 := Lib.hid (H8.out.trans' h9)
  have heq := ex_eq
  clear h9 H8 HA8
  go_wp2_with fail
  go_ret
  exact ⟨rfl, H9.out⟩
end Go.Proofs.Ytgoelobkehebjaa.Wg
