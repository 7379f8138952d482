/-
  WeighOne: one weight alone is always picked: any weight, any number of weights of 0 ahead of it and behind, any draw.
-/
import Derived.Test.YtgoelobkehebjaaArg
namespace Go.Proofs.Ytgoelobkehebjaa.One
open Go.ChangeShapes Go.WideShapes Go.ChangeAt Go.RowKit
open Go.Proofs.Ytgoelobkehebjaa.B Go.Proofs.Ytgoelobkehebjaa.Fl Go.Proofs.Ytgoelobkehebjaa.Wg
set_option linter.unusedVariables false
set_option linter.unusedSimpArgs false

/-- One weight among zeros. -/
def oneL (a b x : Nat) : List Nat := List.replicate a 0 ++ x :: List.replicate b 0
theorem oneL_len (a b x : Nat) : (oneL a b x).length = a + 1 + b := by simp [oneL]; omega
theorem oneL_get_lt {a b x i : Nat} (h : i < a) : (oneL a b x)[i]? = some 0 := by
  unfold oneL; rw [List.getElem?_append_left (by simpa using h)]; simp [h]
theorem oneL_get_eq (a b x : Nat) : (oneL a b x)[a]? = some x := by
  unfold oneL; rw [List.getElem?_append_right (by simp)]; simp
theorem oneL_get_gt {a b x i : Nat} (h : a < i) (h2 : i < a + 1 + b) : (oneL a b x)[i]? = some 0 := by
  unfold oneL; rw [List.getElem?_append_right (by simp; omega)]
  obtain ⟨k, hk⟩ : ∃ k, i - (List.replicate a 0).length = k + 1 := ⟨i - a - 1, by simp; omega⟩
  rw [hk, List.getElem?_cons_succ, List.getElem?_replicate]
  have hkb : k < b := by simp at hk; omega
  rw [if_pos hkb]
theorem oneL_all (a b x : Nat) : (oneL a b x).all okB = okB x := by
  have h0 : okB 0 = true := by decide
  simp [oneL, h0]
theorem oneL_any (a b x : Nat) : (oneL a b x).any posB = posB x := by
  have h0 : posB 0 = false := by decide
  simp [oneL, h0]
theorem oneL_right {a b x : Nat} (h : a + 1 + b ≤ 64) : rightW (oneL a b x) = (okB x && posB x) := by
  unfold rightW; rw [oneL_all, oneL_any, oneL_len]; simp [h]
theorem sum_low {a b x i : Nat} (h : i ≤ a) : sumTo (oneL a b x) i = 0 := by
  induction i with
  | zero => rfl
  | succ i ih => rw [sumTo_succ (oneL_get_lt (by omega)), ih (by omega)]; rfl
theorem sum_high {a b x i : Nat} (hx : okB x = true) (hp : posB x = true) (h : i ≤ b) : sumTo (oneL a b x) (a + 1 + i) = x := by
  induction i with
  | zero =>
    rw [Nat.add_zero, sumTo_succ (oneL_get_eq a b x), sum_low (Nat.le_refl _)]
    unfold addF posB at *
    simp only [Bool.and_eq_true, decide_eq_true_eq] at hp
    unfold wv
    rw [if_neg hp.2, val_zero, Nat.zero_add, R_val]
  | succ i ih =>
    rw [show a + 1 + (i + 1) = (a + 1 + i) + 1 by omega, sumTo_succ (oneL_get_gt (by omega) (by omega)), ih (by omega)]
    exact addF_zero (by rfl)
theorem last_one {a b x : Nat} (hp : posB x = true) {n : Nat} (h : a < n) (h2 : n ≤ a + 1 + b) : lastTo (oneL a b x) n = a := by
  induction n with
  | zero => omega
  | succ n ih =>
    rcases Nat.lt_or_eq_of_le (Nat.le_of_lt_succ h) with h1 | h1
    · rw [lastTo_succ (oneL_get_gt h1 (by omega)), if_neg (by decide)]
      exact ih h1 (by omega)
    · subst h1
      rw [lastTo_succ (oneL_get_eq a b x), if_pos hp]
theorem at_one {a b x : Nat} (hx : okB x = true) (hp : posB x = true) (n : Nat) : atW (oneL a b x) n = a := by
  unfold atW
  generalize drawX n (sumW (oneL a b x)) = X
  have hlow : ∀ j, j < a → ¬ X < sumTo (oneL a b x) (j + 1) := fun j hj => by rw [sum_low (by omega)]; omega
  have h1 := @sum_high a b x 0 hx hp (by omega)
  rw [Nat.add_zero] at h1
  by_cases hX : X < x
  · rw [firstGt_hit (by rw [oneL_len]; omega) hlow (by rw [h1]; exact hX)]; rfl
  · rw [firstGt_none ?_, oneL_len]
    · exact last_one hp (by omega) (Nat.le_refl _)
    · intro j hj
      rw [oneL_len] at hj
      rcases Nat.lt_or_ge j a with h2 | h2
      · exact hlow j h2
      · have := @sum_high a b x (j - a) hx hp (by omega)
        rw [show a + 1 + (j - a) = j + 1 by omega] at this
        rw [this]; exact hX
theorem sum_one {a b x : Nat} (hx : okB x = true) (hp : posB x = true) : sumW (oneL a b x) = x := by
  unfold sumW; rw [oneL_len]; exact sum_high hx hp (Nat.le_refl _)
/-- The row behind the store. -/
theorem made_one (a b x : Nat) : (madeCells #[Value.float .f64 0] (a + 1 + b)).setIfInBounds a (.float .f64 x) = ((oneL a b x).map (Value.float .f64)).toArray := by
  apply Array.ext
  · simp [size_madeCells, oneL_len]
  · intro i h1 h2
    simp only [Array.size_setIfInBounds, size_madeCells] at h1
    have hi : i < a + 1 + b := by simpa using h1
    rw [Array.getElem_setIfInBounds (by rw [size_madeCells]; simpa using hi)]
    have hm : ∀ (h : i < (madeCells #[Value.float .f64 0] (a + 1 + b)).size), (madeCells #[Value.float .f64 0] (a + 1 + b))[i] = .float .f64 0 := by intro h; simp [madeCells, Nat.mod_one]
    have hr : ∀ y, (oneL a b x)[i]? = some y → (((oneL a b x).map (Value.float .f64)).toArray)[i] = Value.float .f64 y := by
      intro y hy
      obtain ⟨g1, g2⟩ := List.getElem?_eq_some_iff.1 hy
      simp [g2]
    by_cases hia : a = i
    · subst hia
      rw [if_pos rfl, hr x (oneL_get_eq a b x)]
    · rw [if_neg hia, hm (by rw [size_madeCells]; simpa using hi)]
      rcases Nat.lt_or_gt_of_ne hia with h | h
      · rw [hr 0 (oneL_get_gt h (by omega))]
      · rw [hr 0 (oneL_get_lt h)]

attribute [local go_sem] run_store_float
set_option maxRecDepth 20000 in
set_option maxHeartbeats 8000000 in
theorem walk (x : Nat) (a0 b0 d : Int) (W : World) (hx0 : (Lit.float .f64 x).wf = true) (hd0 : (Lit.int .u64 d).wf = true) :
    Calls Try.prog 8 #[.float .f64 x, .int .i64 a0, .int .i64 b0, .int .u64 d] W fun e w' => e = .returned (.bool true) ∧ Below W.heap.size W w' := by
  obtain ⟨d, rfl, hd⟩ := u64_nat hd0
  have hx : x < 2 ^ 64 := by simpa [Lit.wf] using hx0
  have HD := Lib.hid hd
  clear hd0 hx0 hd
  have ha := i64_and_le a0 15 (by decide)
  have hb := i64_and_le b0 15 (by decide)
  obtain ⟨a, hae⟩ : ∃ a : Nat, bits .and .i64 a0 15 = (a : Int) := ⟨(bits .and .i64 a0 15).toNat, by have := ha.1; exact (Int.toNat_of_nonneg this).symm⟩
  obtain ⟨b, hbe⟩ : ∃ b : Nat, bits .and .i64 b0 15 = (b : Int) := ⟨(bits .and .i64 b0 15).toNat, by have := hb.1; exact (Int.toNat_of_nonneg this).symm⟩
  rw [show ((15 : Nat) : Int) = 15 from rfl] at ha hb
  rw [hae] at ha
  rw [hbe] at hb
  have ha15 : a ≤ 15 := by omega
  have hb15 : b ≤ 15 := by omega
  clear ha hb
  have hn : a + 1 + b ≤ 64 := by omega
  go_enter Try.func8, Try.ntmps8
  go_wp2_with fail
  refine (shown_any _).mono ?_; rintro e w1 ⟨rfl, g1⟩
  have G1 := Lib.hid g1
  clear g1
  obtain ⟨m, hm⟩ : ∃ m, m = a + 1 + b := ⟨_, rfl⟩
  have ec : (a : Int) + 1 + (b : Int) = (m : Int) := by omega
  have hmk := run_make_row' (P := Try.prog) 22 26 (.float .f64 0) 8 Try.underlying22 infoF rfl .i64 .i64 m (by omega) (by omega)
  have HM := Lib.hid hm
  have ham : (a : Int) < (m : Int) := by omega
  have hMC : (madeCells #[Value.float .f64 0] m)[a]? = some (.float .f64 0) := by
    have : a < m := by omega
    simp [madeCells, this, Nat.mod_one]
  have a1 : At (w1.alloc (.cells (madeCells #[Value.float .f64 0] m) 26)) w1.heap.size (.cells (madeCells #[Value.float .f64 0] m) 26 (0, 0)) := At.new _ _
  have c1 := a1.cell hMC
  have f1 := a1.free a
  have G2 := Lib.hid (G1.out.alloc (.cells (madeCells #[Value.float .f64 0] m) 26))
  have HA := Lib.hid a1
  clear hm hMC a1
  go_wp2_with fail
  rw [HM.out, made_one a b x, ← HM.out]
  have HA2 : Hid (At (w1.alloc (.cells ((oneL a b x).map (Value.float .f64)).toArray 26)) w1.heap.size (rowF (oneL a b x))) := Lib.hid (At.new _ _)
  have G2' : Hid (Chg [] W (w1.alloc (.cells ((oneL a b x).map (Value.float .f64)).toArray 26))) := Lib.hid (G1.out.alloc _)
  clear HA G2 c1 f1 hmk
  generalize w1.heap.size = N at *
  generalize (w1.alloc (.cells ((oneL a b x).map (Value.float .f64)).toArray 26)) = w2 at *
  have hlen : (oneL a b x).length = m := by rw [oneL_len, ← HM.out]
  have hsm : Hid (∀ y ∈ oneL a b x, y < 2 ^ 64) := Lib.hid (by
    intro y hy
    simp [oneL] at hy
    rcases hy with ⟨_, rfl⟩ | rfl | ⟨_, rfl⟩
    · decide
    · exact hx
    · decide)
  have hr := oneL_right (a := a) (b := b) (x := x) (by omega)
  have HS2 : Hid (SliceOf w2 (.slice (some ⟨N, 0, none⟩) m m) 1 encF (oneL a b x)) := Lib.hid (sliceOf_row HA2.out (by omega) hlen (Nat.le_refl _) (by omega))
  have HL := Lib.hid hlen
  clear hlen
  refine (pick_any _ (oneL a b x) d _ HS2.out hsm.out HD.out).mono ?_; rintro e w3 ⟨he, g3⟩
  have HS3 := Lib.hid (slice_chgF HS2.out g3); have G3 := Lib.hid (G2'.out.trans' g3)
  clear g3 HS2 G2' HA2
  rcases facts' hx with ⟨h1, hp, o1, o2, o3⟩ | ⟨h1, hp, o1, o2, o3⟩ | ⟨h1, hp, o1, o2, o3⟩ | ⟨h1, hp, o1, o2, o3⟩ | ⟨h1, o1, o2, o3⟩ | ⟨h1, o1, o2, o3⟩ | ⟨h1, o1, o2, o3⟩
  · skip
    rw [h1, hp] at hr
    rw [show pickW (oneL a b x) d = (a : Int) by unfold pickW; rw [if_pos (by rw [hr]; rfl), at_one h1 hp]] at he
    subst he
    have HT : Hid (totalW (oneL a b x) = x) := Lib.hid (by unfold totalW; rw [if_pos (by rw [hr]; rfl), sum_one h1 hp])
    clear hr h1 hp
    go_wp2_with fail
    refine (total_any _ (oneL a b x) _ HS3.out hsm.out).mono ?_; rintro e w4 ⟨he, g4⟩
    rw [HT.out] at he
    subst he
    have G4 := Lib.hid (G3.out.trans' g4)
    clear g4
    go_wp2_with fail
    go_ret
    exact ⟨by simp, G4.out.below_nil⟩
  · skip
    rw [h1, hp] at hr
    rw [show pickW (oneL a b x) d = (a : Int) by unfold pickW; rw [if_pos (by rw [hr]; rfl), at_one h1 hp]] at he
    subst he
    have HT : Hid (totalW (oneL a b x) = x) := Lib.hid (by unfold totalW; rw [if_pos (by rw [hr]; rfl), sum_one h1 hp])
    clear hr h1 hp
    go_wp2_with fail
    refine (total_any _ (oneL a b x) _ HS3.out hsm.out).mono ?_; rintro e w4 ⟨he, g4⟩
    rw [HT.out] at he
    subst he
    have G4 := Lib.hid (G3.out.trans' g4)
    clear g4
    go_wp2_with fail
    go_ret
    exact ⟨by simp, G4.out.below_nil⟩
  · rw [h1, hp] at hr
    have HR : Hid (rightW (oneL a b x) = false) := Lib.hid (by rw [hr]; rfl)
    rw [show pickW (oneL a b x) d = -1 by unfold pickW; rw [if_neg (by rw [HR.out]; simp)]] at he
    subst he
    clear hr h1
    go_wp2_with fail
    refine (right_any _ (oneL a b x) _ HS3.out hsm.out).mono ?_; rintro e w4 ⟨he, hw4⟩
    rw [HR.out] at he
    subst he
    subst hw4
    go_wp2_with fail
    go_ret
    exact ⟨by simp, G3.out.below_nil⟩
  · rw [h1, hp] at hr
    have HR : Hid (rightW (oneL a b x) = false) := Lib.hid (by rw [hr]; rfl)
    rw [show pickW (oneL a b x) d = -1 by unfold pickW; rw [if_neg (by rw [HR.out]; simp)]] at he
    subst he
    clear hr h1
    go_wp2_with fail
    refine (right_any _ (oneL a b x) _ HS3.out hsm.out).mono ?_; rintro e w4 ⟨he, hw4⟩
    rw [HR.out] at he
    subst he
    subst hw4
    go_wp2_with fail
    go_ret
    exact ⟨by simp, G3.out.below_nil⟩
  · rw [h1] at hr
    have HR : Hid (rightW (oneL a b x) = false) := Lib.hid (by rw [hr]; rfl)
    rw [show pickW (oneL a b x) d = -1 by unfold pickW; rw [if_neg (by rw [HR.out]; simp)]] at he
    subst he
    clear hr h1
    go_wp2_with fail
    refine (right_any _ (oneL a b x) _ HS3.out hsm.out).mono ?_; rintro e w4 ⟨he, hw4⟩
    rw [HR.out] at he
    subst he
    subst hw4
    go_wp2_with fail
    go_ret
    exact ⟨by simp, G3.out.below_nil⟩
  · rw [h1] at hr
    have HR : Hid (rightW (oneL a b x) = false) := Lib.hid (by rw [hr]; rfl)
    rw [show pickW (oneL a b x) d = -1 by unfold pickW; rw [if_neg (by rw [HR.out]; simp)]] at he
    subst he
    clear hr h1
    go_wp2_with fail
    refine (right_any _ (oneL a b x) _ HS3.out hsm.out).mono ?_; rintro e w4 ⟨he, hw4⟩
    rw [HR.out] at he
    subst he
    subst hw4
    go_wp2_with fail
    go_ret
    exact ⟨by simp, G3.out.below_nil⟩
  · rw [h1] at hr
    have HR : Hid (rightW (oneL a b x) = false) := Lib.hid (by rw [hr]; rfl)
    rw [show pickW (oneL a b x) d = -1 by unfold pickW; rw [if_neg (by rw [HR.out]; simp)]] at he
    subst he
    clear hr h1
    go_wp2_with fail
    refine (right_any _ (oneL a b x) _ HS3.out hsm.out).mono ?_; rintro e w4 ⟨he, hw4⟩
    rw [HR.out] at he
    subst he
    subst hw4
    go_wp2_with fail
    go_ret
    exact ⟨by simp, G3.out.below_nil⟩

/-! ### The row's step -/
theorem own : ownKnob Try.prog.godebug = none := by kernel_rfl
theorem laid : laidOutB Try.prog = true := by kernel_rfl

set_option maxRecDepth 100000 in
theorem lifted (os : Os) (started : os.Started) (H : Type) (enc : TypeId × Value → H) :
    ReturnsInHanded {} Try.checked os 8 .any (Rows.weighOneSpec.pre6 enc Try.prog Try.f8 Rows.weighOneRow.domain false) (Rows.weighOneSpec.post enc Try.prog Try.f8 false true false false) := by
  refine lift_law (C := Try.checked) (tb := 4) own started (by kernel_rfl) Try.func8
    (ChangeSpec.witness6 (enc := enc) (C := Try.checked) false ⟨#[], #[.float .f64 0, .int .i64 0, .int .i64 0, .int .u64 0], []⟩ 8 (by kernel_rfl) (by kernel_rfl) (by kernel_rfl) (by kernel_rfl))
    laid (by rw [Try.params8]; intro t ht; simp only [List.mem_cons, List.not_mem_nil, or_false] at ht; rcases ht with rfl | rfl | rfl | rfl <;> exact ⟨by kernel_rfl, of_decide_eq_true (by kernel_rfl)⟩) (by kernel_rfl) Try.underlying4 rfl
    (fun ds h => by rw [Try.params8] at h; match ds, h with | [d0, d1, d2, d3], _ => rfl) ?_
  intro W base args ds before hval hA hlt hsz
  rw [Try.params8] at hA hval
  have hlt0 := hlt
  obtain ⟨v0, vs0, d0, ds0, p0, q0, hargs, rfl, rfl, h0, r0⟩ := trodAll_cons hA
  obtain ⟨v1, vs1, d1, ds1, p1, q1, rfl, rfl, rfl, h1, r1⟩ := trodAll_cons r0
  obtain ⟨v2, vs2, d2, ds2, p2, q2, rfl, rfl, rfl, h2, r2⟩ := trodAll_cons r1
  obtain ⟨v3, vs3, d3, ds3, p3, q3, rfl, rfl, rfl, h3, r3⟩ := trodAll_cons r2
  obtain ⟨rfl, rfl, rfl⟩ := trodAll_nil r3
  obtain rfl : args = #[v0, v1, v2, v3] := by cases args; simp_all
  have l0 : ∀ p ∈ p0, p.block < W.heap.size := fun x hx => hlt x (by simp [hx])
  have l1 : ∀ p ∈ p1, p.block < W.heap.size := fun x hx => hlt x (by simp [hx])
  have l2 : ∀ p ∈ p2, p.block < W.heap.size := fun x hx => hlt x (by simp [hx])
  have l3 : ∀ p ∈ p3, p.block < W.heap.size := fun x hx => hlt x (by simp [hx])
  obtain ⟨x0, rfl, rfl, rfl, wx0⟩ := open_float Try.underlying26 (hval 0 26 v0 rfl rfl) h0
  obtain ⟨a1, rfl, rfl, rfl, wa1⟩ := open_int Try.underlying3 (hval 1 3 v1 rfl rfl) h1
  obtain ⟨a2, rfl, rfl, rfl, wa2⟩ := open_int Try.underlying3 (hval 2 3 v2 rfl rfl) h2
  obtain ⟨a3, rfl, rfl, rfl, wa3⟩ := open_int Try.underlying23 (hval 3 23 v3 rfl rfl) h3
  exact walk x0 a1 a2 a3 W wx0 wa3

theorem over : Rows.weighOneRow.holds Try.pinned (OpenSpec.ofChange Rows.weighOneSpec) :=
  OpenClaim.holds_of_wide 8 Try.f8 rfl rfl rfl rfl rfl rfl rfl ⟨rfl, rfl, rfl, rfl, rfl⟩ rfl rfl rfl rfl rfl (by kernel_rfl) Try.func8 (by kernel_rfl)
    (of_decide_eq_true (by kernel_rfl)) (by unfold Func.isWrapper; first | (rw [if_pos (by decide +kernel)]; kernel_rfl) | (rw [if_neg (by decide +kernel)]; exact ⟨rfl, rfl⟩))
    (fun os started H enc _ => lifted os started H enc)

/-- The statement. -/
theorem proved : Rows.WeighOneSaid :=
  over
#print axioms proved

end Go.Proofs.Ytgoelobkehebjaa.One
