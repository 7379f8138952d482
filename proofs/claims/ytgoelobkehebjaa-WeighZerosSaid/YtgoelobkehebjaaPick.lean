/-
  What weigh's functions compute: Total, at, Pick.
-/
import Derived.Test.YtgoelobkehebjaaSums
namespace Go.Proofs.Ytgoelobkehebjaa.Wg
open Go.ChangeShapes Go.WideShapes Go.ChangeAt Go.RowKit
open Go.Proofs.Ytgoelobkehebjaa.B Go.Proofs.Ytgoelobkehebjaa.Fl
set_option linter.unusedVariables false
set_option linter.unusedSimpArgs false

/-- The sum of all. -/
def sumW (w : List Nat) : Nat := sumTo w w.length
def totalW (w : List Nat) : Nat := if rightW w = true then sumW w else 0
def firstGt (w : List Nat) (x : Nat) : Option Nat := (List.range w.length).find? (fun i => decide (x < sumTo w (i + 1)))
def lastTo (w : List Nat) : Nat → Nat
  | 0 => 0
  | k + 1 => if posB (w.getD k 0) then k else lastTo w k
def atW (w : List Nat) (n : Nat) : Nat := (firstGt w (drawX n (sumW w))).getD (lastTo w w.length)
def pickW (w : List Nat) (d : Nat) : Int := if rightW w = true then (atW w (d / 2048) : Int) else -1

theorem lastTo_succ {w : List Nat} {k x : Nat} (h : w[k]? = some x) : lastTo w (k + 1) = if posB x then k else lastTo w k := by
  simp [lastTo, List.getD_eq_getElem?_getD, h]
theorem lastTo_le (w : List Nat) (k : Nat) : lastTo w k ≤ k := by
  induction k with
  | zero => exact Nat.le_refl _
  | succ k ih => unfold lastTo; split <;> omega
theorem firstGt_hit {w : List Nat} {x k : Nat} (hk : k < w.length) (h : ∀ j, j < k → ¬ x < sumTo w (j + 1)) (h1 : x < sumTo w (k + 1)) : firstGt w x = some k := by
  unfold firstGt
  rw [List.find?_range_eq_some]
  exact ⟨by simp [h1], by simpa using hk, fun j hj => by simp; have := h j hj; omega⟩
theorem firstGt_none {w : List Nat} {x : Nat} (h : ∀ j, j < w.length → ¬ x < sumTo w (j + 1)) : firstGt w x = none := by
  unfold firstGt
  rw [List.find?_range_eq_none]
  intro j hj; simp; have := h j hj; omega

theorem order_cmp {x y : Nat} (hx : x < INF) (hy : y < INF) : FloatKind.f64.format.order x y = some (compare x y) := order_fin hx hy
theorem order_gt {x y : Nat} (hx : x < INF) (hy : y < INF) (h : y < x) : FloatKind.f64.format.order x y = some .gt := by rw [order_cmp hx hy, Nat.compare_eq_gt.2 h]
theorem order_le {x y : Nat} (hx : x < INF) (hy : y < INF) (h : ¬ y < x) : FloatKind.f64.format.order x y = some .lt ∨ FloatKind.f64.format.order x y = some .eq := by
  rw [order_cmp hx hy]
  rcases Nat.lt_or_ge x y with h1 | h1
  · exact .inl (by rw [Nat.compare_eq_lt.2 h1])
  · exact .inr (by rw [show x = y by omega]; simp)
theorem pos_cmp {x : Nat} (hx : okB x = true) : (posB x = true ∧ FloatKind.f64.format.order x 0 = some .gt) ∨ (posB x = false ∧ FloatKind.f64.format.order x 0 = some .eq) := by
  have h64 : x < 2 ^ 64 := by
    unfold okB at hx; simp at hx
    rcases hx with hx | hx
    · unfold G at hx; omega
    · omega
  rcases facts' h64 with ⟨a, b, c, d, e⟩ | ⟨a, b, c, d, e⟩ | ⟨a, b, c, d, e⟩ | ⟨a, b, c, d, e⟩ | ⟨a, _⟩ | ⟨a, _⟩ | ⟨a, _⟩
  · exact .inl ⟨b, d⟩
  · exact .inl ⟨b, d⟩
  · exact .inr ⟨b, d⟩
  · exact .inr ⟨b, d⟩
  all_goals (rw [hx] at a; cases a)

set_option maxHeartbeats 4000000 in
theorem at_ok (sv ss : Value) (w : List Nat) (n : Nat) (W : World) (hs : SliceOf W sv 1 encF w) (hss : SliceOf W ss 1 encF (sumL w w.length)) (hw : ∀ x ∈ w, okB x = true) (hl : w.length ≤ 64) (hl0 : 0 < w.length) (hn : n < 2 ^ 53) :
    Calls Try.prog 22 #[sv, ss, .int .u64 n] W fun e w' => e = .returned (.int .i64 (atW w n)) ∧ w' = W := by
  obtain ⟨a, cap, rfl, hc, hcm, hcell⟩ := hs
  obtain ⟨b, off, rfl, hb, hcells⟩ := hcell hl0
  clear hcell
  obtain ⟨a2, cap2, rfl, hc2, hcm2, hcell2⟩ := hss
  rw [sumL_len] at hc2 hcell2 ⊢
  obtain ⟨b2, off2, rfl, hb2, hcells2⟩ := hcell2 hl0
  unfold maxLen at hcm hcm2
  have HC := Lib.hid hcells; have HC2 := Lib.hid hcells2; have HW := Lib.hid hw
  have hfin := fun i hi => sumTo_fin hw (by omega) (i := i) hi
  have HF := Lib.hid hfin
  have hS : sumW w < INF := hfin _ (Nat.le_refl _)
  have hX := drawX_fin hn hS
  obtain ⟨X, hXX⟩ : ∃ X, X = drawX n (sumW w) := ⟨_, rfl⟩
  have hq := fun w' : World => run_float_arith (P := Try.prog) w' .quo 26 .f64 _ _ _ (quo_part hn)
  have hm := fun w' : World => run_float_arith (P := Try.prog) w' .mul 26 .f64 _ _ _ (mul_draw hn hS)
  unfold C53 at hq
  rw [← hXX] at hm hX
  have HX := Lib.hid hXX; have HXX := Lib.hid hX; have HS := Lib.hid hS
  clear hX hXX hcells hcells2 hw hfin hcell2 hS
  have hlast : W.cell? ⟨b2, off2 + (w.length - 1), none⟩ = some (.float .f64 (sumW w)) := by
    have := HC2.out (w.length - 1) (sumW w) (by rw [sumL_get (by omega)]; unfold sumW; congr 2; omega) 0 (by omega)
    simpa [encF] using this
  obtain ⟨S, hSS⟩ : ∃ S, S = sumW w := ⟨_, rfl⟩
  rw [← hSS] at hlast hm
  have HSS := Lib.hid hSS
  obtain ⟨p, hp⟩ : ∃ p, p = Fl.part n := ⟨_, rfl⟩
  rw [← hp] at hm hq
  clear hSS hp
  have h0 : (0 : Int) ≤ (w.length : Int) - 1 := by omega
  have h1 : (w.length : Int) - 1 < (w.length : Int) := by omega
  go_enter Try.func22, Try.ntmps22
  go_wp2_with fail
  clear hq hm hlast
  go_loop [8, 23] (fun l i => ∃ k : Nat, k ≤ w.length ∧ i = .int .i64 k ∧ l = .int .i64 (lastTo w k) ∧ (∀ j, j < k → ¬ X < sumTo w (j + 1))) (fun _ i => w.length - (intOf i).toNat)
  case atStart => exact ⟨0, Nat.zero_le _, rfl, rfl, fun j hj => by omega⟩
  case round =>
    obtain ⟨k, hk, rfl, rfl, hno⟩ := hrel
    have HNO := Lib.hid hno
    clear hno
    have hll := lastTo_le w k
    obtain ⟨la, hla⟩ : ∃ la, la = lastTo w k := ⟨_, rfl⟩
    rw [← hla] at hll ⊢
    have HLA := Lib.hid hla
    clear hla
    by_cases hlt : k < w.length
    · obtain ⟨x, hx⟩ : ∃ x, w[k]? = some x := ⟨_, List.getElem?_eq_getElem hlt⟩
      have c0 : W.cell? ⟨b, off + k, none⟩ = some (.float .f64 x) := by have := HC.out k x hx 0 (by omega); simpa [encF] using this
      have c1 : W.cell? ⟨b2, off2 + k, none⟩ = some (.float .f64 (sumTo w (k + 1))) := by have := HC2.out k _ (sumL_get hlt) 0 (by omega); simpa [encF] using this
      have hpc := pos_cmp (HW.out x (List.mem_of_getElem? hx))
      have HXK := Lib.hid hx
      clear hx
      have hsf := HF.out (k + 1) (by omega)
      have hxf : X < INF := Nat.lt_of_le_of_lt HXX.out HS.out
      obtain ⟨s, hs⟩ : ∃ s, s = sumTo w (k + 1) := ⟨_, rfl⟩
      rw [← hs] at c1 hsf
      have HSK := Lib.hid hs
      clear hs
      by_cases hgt : X < s
      · have o1 := order_gt hsf hxf hgt
        go_wp2_with fail
        go_ret
        exact ⟨by unfold atW; rw [← HX.out, firstGt_hit hlt HNO.out (by rw [← HSK.out]; exact hgt)]; rfl, rfl⟩
      · have hno' : ∀ j, j < k + 1 → ¬ X < sumTo w (j + 1) := by
          intro j hj
          rcases Nat.lt_or_eq_of_le (Nat.le_of_lt_succ hj) with h | h
          · exact HNO.out j h
          · rw [h, ← HSK.out]; exact hgt
        have HNO' := Lib.hid hno'
        clear hno'
        rcases order_le hsf hxf hgt with o1 | o1 <;> rcases hpc with ⟨hp, o2⟩ | ⟨hp, o2⟩
        · have HP := Lib.hid hp
          clear hp
          go_wp2_with fail
          go_round
          case rel => exact ⟨k + 1, by omega, by go_num, by rw [lastTo_succ HXK.out, HP.out]; rfl, HNO'.out⟩
          case measure => simp [intOf]; omega
        · have HP := Lib.hid hp
          clear hp
          go_wp2_with fail
          go_round
          case rel => exact ⟨k + 1, by omega, by go_num, by rw [lastTo_succ HXK.out, HP.out, HLA.out]; rfl, HNO'.out⟩
          case measure => simp [intOf]; omega
        · have HP := Lib.hid hp
          clear hp
          go_wp2_with fail
          go_round
          case rel => exact ⟨k + 1, by omega, by go_num, by rw [lastTo_succ HXK.out, HP.out]; rfl, HNO'.out⟩
          case measure => simp [intOf]; omega
        · have HP := Lib.hid hp
          clear hp
          go_wp2_with fail
          go_round
          case rel => exact ⟨k + 1, by omega, by go_num, by rw [lastTo_succ HXK.out, HP.out, HLA.out]; rfl, HNO'.out⟩
          case measure => simp [intOf]; omega
    · obtain rfl : k = w.length := by omega
      go_wp2_with fail
      go_ret
      exact ⟨by unfold atW; rw [← HX.out, firstGt_none HNO.out, ← HLA.out]; rfl, rfl⟩

theorem slice_chgF {w w' : World} {v : Value} {l : List Nat} (h : SliceOf w v 1 encF l) (hc : Chg [] w w') : SliceOf w' v 1 encF l := by
  obtain ⟨a, cap, he, h1, h2, h3⟩ := h
  refine ⟨a, cap, he, h1, h2, fun h0 => ?_⟩
  obtain ⟨b, off, e, hb, hcell⟩ := h3 h0
  exact ⟨b, off, e, Nat.lt_of_lt_of_le hb hc.size, fun i z hz j hj => by rw [hc.cell hb (by simp)]; exact hcell i z hz j hj⟩
theorem slice_len {w : World} {v : Value} {l : List Nat} (h : SliceOf w v 1 encF l) : ∃ a cap, v = .slice a l.length cap := by
  obtain ⟨a, cap, he, _⟩ := h; exact ⟨a, cap, he⟩

set_option maxHeartbeats 4000000 in
theorem total_any (sv : Value) (w : List Nat) (W : World) (hs : SliceOf W sv 1 encF w) (hw : ∀ x ∈ w, x < 2 ^ 64) :
    Calls Try.prog 14 #[sv] W fun e w' => e = .returned (.float .f64 (totalW w)) ∧ Chg [] W w' := by
  have HS := Lib.hid hs; have HW := Lib.hid hw
  obtain ⟨a, cap, rfl⟩ := slice_len hs
  clear hs hw
  go_enter Try.func14, Try.ntmps14
  go_wp2_with fail
  refine (right_any _ w _ HS.out HW.out).mono ?_; rintro e w1 ⟨he, hw1⟩
  by_cases hr : rightW w = true
  · rw [hr] at he
    subst he
    subst hw1
    have HR := Lib.hid hr
    obtain ⟨h1, h2, h3⟩ := rightW_ok hr
    have HO := Lib.hid h1
    clear hr h1
    go_wp2_with fail
    refine (sums_ok _ w _ HS.out HO.out h3).mono ?_; rintro e w2 ⟨he, ha, hb⟩
    subst he
    have hlast : w2.cell? ⟨w1.heap.size, w.length - 1, none⟩ = some (.float .f64 (sumW w)) := by
      refine ha.cell ?_
      unfold cellsTo
      have hg := @sumL_get w w.length (w.length - 1) (by omega)
      rw [show w.length - 1 + 1 = w.length by omega] at hg
      obtain ⟨g1, g2⟩ := List.getElem?_eq_some_iff.1 hg
      simp [sumL_len, h2, g2, sumW, hg]
    have h0 : (0 : Int) ≤ (w.length : Int) - 1 := by omega
    have h1 : (w.length : Int) - 1 < (w.length : Int) := by omega
    have HB := Lib.hid hb
    clear ha hb
    go_wp2_with fail
    go_ret
    exact ⟨by unfold totalW; rw [if_pos HR.out]; rfl, HB.out.chg_nil⟩
  · have hrf : rightW w = false := by simpa using hr
    rw [hrf] at he
    subst he
    subst hw1
    have HR := Lib.hid hrf
    clear hr hrf
    go_wp2_with fail
    go_ret
    exact ⟨by unfold totalW; rw [if_neg (by rw [HR.out]; simp)]; rfl, Chg.refl _⟩

set_option maxHeartbeats 4000000 in
theorem pick_any (sv : Value) (w : List Nat) (d : Nat) (W : World) (hs : SliceOf W sv 1 encF w) (hw : ∀ x ∈ w, x < 2 ^ 64) (hd : d < 2 ^ 64) :
    Calls Try.prog 16 #[sv, .int .u64 d] W fun e w' => e = .returned (.int .i64 (pickW w d)) ∧ Chg [] W w' := by
  have HS := Lib.hid hs; have HW := Lib.hid hw
  obtain ⟨a, cap, rfl⟩ := slice_len hs
  clear hs hw
  go_enter Try.func16, Try.ntmps16
  go_wp2_with fail
  refine (right_any _ w _ HS.out HW.out).mono ?_; rintro e w1 ⟨he, hw1⟩
  by_cases hr : rightW w = true
  · rw [hr] at he
    subst he
    subst hw1
    have HR := Lib.hid hr
    obtain ⟨h1, h2, h3⟩ := rightW_ok hr
    have HO := Lib.hid h1
    clear hr h1
    go_wp2_with fail
    refine (sums_ok _ w _ HS.out HO.out h3).mono ?_; rintro e w2 ⟨he, ha, hb⟩
    subst he
    have HSS := Lib.hid (sliceOf_sums ha h3)
    have HSL := Lib.hid (slice_chgF HS.out hb.chg_nil)
    have HB := Lib.hid hb
    clear ha hb
    go_wp2_with fail
    have ed : ((d / 2048 : Nat) : Int) = (d : Int) / 2048 := by omega
    rw [← ed]
    refine (at_ok _ _ w (d / 2048) _ HSL.out HSS.out HO.out h3 h2 (by omega)).mono ?_; rintro e w3 ⟨he, hw3⟩
    subst he
    subst hw3
    clear ed
    go_wp2_with fail
    go_ret
    exact ⟨by unfold pickW; rw [if_pos HR.out]; rfl, HB.out.chg_nil⟩
  · have hrf : rightW w = false := by simpa using hr
    rw [hrf] at he
    subst he
    subst hw1
    have HR := Lib.hid hrf
    clear hr hrf
    go_wp2_with fail
    go_ret
    exact ⟨by unfold pickW; rw [if_neg (by rw [HR.out]; simp)]; rfl, Chg.refl _⟩
end Go.Proofs.Ytgoelobkehebjaa.Wg
