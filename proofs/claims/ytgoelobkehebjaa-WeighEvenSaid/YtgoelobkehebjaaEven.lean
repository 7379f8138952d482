/-
  WeighEven: of like weights each has its part of all draws: two, four, eight or sixteen weights of 1, any draw.
-/
import Derived.Test.YtgoelobkehebjaaApp
namespace Go.Proofs.Ytgoelobkehebjaa.Even
open Go.ChangeShapes Go.WideShapes Go.ChangeAt Go.RowKit
open Go.Proofs.Ytgoelobkehebjaa.B Go.Proofs.Ytgoelobkehebjaa.Fl Go.Proofs.Ytgoelobkehebjaa.Wg
set_option linter.unusedVariables false
set_option linter.unusedSimpArgs false

def evenL (n : Nat) : List Nat := List.replicate n 4607182418800017408
theorem evenL_len (n : Nat) : (evenL n).length = n := by simp [evenL]
theorem val_one : wv 4607182418800017408 = 2 ^ E74 := by
  obtain ⟨c, hc, hb⟩ : ∃ c, c = 4607182418800017408 / 2 ^ 52 - 1 ∧ E74 = 52 + c := ⟨_, rfl, by decide⟩
  unfold wv val
  rw [if_neg (by decide), if_neg (by decide), ← hc, show 2 ^ 52 + 4607182418800017408 % 2 ^ 52 = 2 ^ 52 from by decide, pow_split hb]
theorem sum_even {n i : Nat} (h : i ≤ n) (hn : n ≤ 16) : val (sumTo (evenL n) i) = i * 2 ^ E74 := by
  induction i with
  | zero => simp [sumTo_zero, val_zero]
  | succ i ih =>
    have hx : (evenL n)[i]? = some 4607182418800017408 := by unfold evenL; rw [List.getElem?_replicate, if_pos (by omega)]
    rw [sumTo_succ hx]
    unfold addF
    rw [ih (by omega), val_one]
    have e : i * 2 ^ E74 + 2 ^ E74 = (i + 1) * 2 ^ E74 := by rw [Nat.add_mul, Nat.one_mul]
    rw [e, val_R (by omega)]
theorem draw_even {n p m : Nat} (hm : m = 2 ^ p) (hp : m ≤ 16) (hn : n < 2 ^ 53) : val (drawX n (sumW (evenL m))) = n * 2 ^ (p + E21) := by
  unfold drawX sumW
  rw [evenL_len, sum_even (Nat.le_refl _) hp]
  have e : n * (m * 2 ^ E74) = (n * 2 ^ (p + E21)) * 2 ^ 53 := by
    have f : E74 = E21 + 53 := by decide
    rw [f, Nat.pow_add, Nat.pow_add, hm]
    simp only [Nat.mul_assoc]
  have e2 := R_scale (n * 2 ^ (p + E21)) 0 53
  rw [Nat.zero_add] at e2
  rw [e, e2, val_R hn]
theorem at_even {n p m : Nat} (hm : m = 2 ^ p) (hp : m ≤ 16) (hn : n < 2 ^ 53) : atW (evenL m) n = n * m / 2 ^ 53 := by
  have hcmp : ∀ i, i < m → (drawX n (sumW (evenL m)) < sumTo (evenL m) (i + 1) ↔ n * m < (i + 1) * 2 ^ 53) := by
    intro i hi
    rw [← val_lt_iff, draw_even hm hp hn, sum_even (by omega) hp]
    have f : E74 = 53 + E21 := by decide
    rw [f, Nat.pow_add, Nat.pow_add, ← hm, ← Nat.mul_assoc, ← Nat.mul_assoc]
    exact Nat.mul_lt_mul_right (Nat.two_pow_pos _)
  have hlt : n * m / 2 ^ 53 < m := by
    rw [Nat.div_lt_iff_lt_mul (by decide), Nat.mul_comm]
    exact Nat.mul_lt_mul_of_pos_left hn (by rw [hm]; exact Nat.two_pow_pos _)
  unfold atW
  have hdm := Nat.div_add_mod (n * m) (2 ^ 53)
  have hml := Nat.mod_lt (n * m) (show 0 < 2 ^ 53 by decide)
  rw [firstGt_hit (k := n * m / 2 ^ 53) (by rw [evenL_len]; exact hlt)]
  · rfl
  · intro j hj
    rw [hcmp j (by omega)]
    generalize n * m = t at *
    omega
  · rw [hcmp _ hlt]
    generalize n * m = t at *
    omega
theorem even_right {m : Nat} (h0 : 0 < m) (hm : m ≤ 16) : rightW (evenL m) = true := by
  unfold rightW evenL
  have h1 : okB 4607182418800017408 = true := by decide
  have h2 : posB 4607182418800017408 = true := by decide
  simp [h1, h2]
  omega

set_option maxRecDepth 20000 in
set_option maxHeartbeats 8000000 in
theorem walk (p d : Int) (W : World) (hd0 : (Lit.int .u64 d).wf = true) :
    Calls Try.prog 10 #[.int .i64 p, .int .u64 d] W fun e w' => e = .returned (.bool true) ∧ Below W.heap.size W w' := by
  obtain ⟨d, rfl, hd⟩ := u64_nat hd0
  have HD := Lib.hid hd
  clear hd0 hd
  obtain ⟨i0, hi, hz0, hz1, hz2⟩ := info_parts infoF
  have hj := i64_and_le p 3 (by decide)
  obtain ⟨t, hte⟩ : ∃ t : Nat, bits .and .i64 p 3 = (t : Int) := ⟨(bits .and .i64 p 3).toNat, (Int.toNat_of_nonneg hj.1).symm⟩
  rw [show ((3 : Nat) : Int) = 3 from rfl, hte] at hj
  have ht3 : t ≤ 3 := by omega
  clear hj
  go_enter Try.func10, Try.ntmps10
  go_wp2_with fail
  refine (shown_any _).mono ?_; rintro e w1 ⟨rfl, g1⟩
  have G1 := Lib.hid g1
  clear g1
  have htc : t = 0 ∨ t = 1 ∨ t = 2 ∨ t = 3 := by omega
  clear ht3
  rcases htc with rfl | rfl | rfl | rfl
  · simp only [show (((0 : Nat)) : Int) = 0 from rfl] at hte
    have hpk : Hid (pickW (evenL 2) d = ((d / 9223372036854775808 : Nat) : Int)) := Lib.hid (by
      unfold pickW
      rw [if_pos (even_right (by decide) (by decide)), at_even (p := 1) (by decide) (by decide) (by have := HD.out; omega)]
      have := HD.out
      congr 1
      omega)
    go_wp2_with fail
    go_loopw [6, 7] (fun lv i wr => ∃ k : Nat, k ≤ 2 ∧ i = .int .i64 k ∧ Below W.heap.size W wr ∧ wr.ownsRow W.heap.size 26 1 lv k (fRow (evenL k))) (fun _ i _ => 2 - (intOf i).toNat)
    case atStart => exact ⟨0, by omega, rfl, G1.out.below_nil, World.ownsRow_nil _ _ _ _⟩
    case round =>
      obtain ⟨k, hk, rfl, hbl, hown⟩ := hrel
      obtain ⟨a', cap', hv', _, _, hrow⟩ := owns_val hown
      subst hv'
      clear hrow
      have HO := Lib.hid hown; have HBL := Lib.hid hbl
      clear hown hbl
      by_cases hlt : k < 2
      · have hlt' : (k : Int) < 2 := by omega
        go_wp2_with (at_builtin; refine wpList_append_fresh rfl _ _ 22 rfl W.heap.size 26 i0 (.float .f64 0) 1 8 Try.underlying22 hi hz0 hz1 hz2 rfl (by decide) _ _ _ rfl (HO.out.alloc _) ⟨wr.heap.size, 0, none⟩ 1 1 [.float .f64 4607182418800017408] rfl rfl ?c1 ?c2 ?c3 ?c4 ?c5 ?_)
        case c1 => intro j u hu; match j, hu with | 0, hu => (simp at hu; subst hu; simp [Addr.add, go_sem])
        case c2 => simp [Value.oneCell']
        case c3 => simp only [maxLen]; omega
        case c4 => omega
        case c5 => have := HBL.out.size; simp; omega
        intro v' w4 hown4 hch hfr
        have hown5 : w4.ownsRow W.heap.size 26 1 v' (k + 1) (fRow (evenL (k + 1))) := by
          have : fRow (evenL (k + 1)) = fRow (evenL k) ++ [.float .f64 4607182418800017408] := by simp [fRow, evenL, List.replicate_succ']
          rw [this]; exact hown4
        have hb4 : Below W.heap.size W w4 := (HBL.out.chg ((Chg.refl wr).alloc (l := []) _) (Nat.le_refl _) (by simp)).chg hch (Nat.le_refl _) (by
          intro x hx
          exact (((HO.out).alloc (.cells #[.float .f64 4607182418800017408] 26)).lt x (by simpa using hx)).1)
        have HO5 := Lib.hid hown5; have HB4 := Lib.hid hb4
        clear hown4 hch hfr hown5 hb4
        go_wp2_with fail
        go_roundw
        case rel => exact ⟨k + 1, by omega, by go_num, HB4.out, HO5.out⟩
        case measure => simp [intOf]; omega
      · obtain rfl : k = 2 := by omega
        have HS : Hid (SliceOf wr (.slice a' 2 cap') 1 encF (evenL 2)) := Lib.hid (owns_sliceF (by rw [evenL_len]; exact HO.out))
        go_wp2_with fail
        refine (pick_any _ (evenL 2) d _ HS.out (by simp [evenL]) HD.out).mono ?_; rintro e w5 ⟨he, g5⟩
        rw [hpk.out] at he
        subst he
        have HB5 : Hid (Below W.heap.size W w5) := Lib.hid (HBL.out.chg g5 (Nat.le_refl _) (by simp))
        clear g5
        go_wp2_with fail
        have hdd := HD.out
        have ew : wrap64 ((d : Int) / 9223372036854775808) = (d : Int) / 9223372036854775808 := by simp only [wrap64, IntKind.wrap_i64]; omega
        rw [ew]
        go_ret
        exact ⟨by simp, HB5.out⟩
  · simp only [show (((1 : Nat)) : Int) = 1 from rfl] at hte
    have hpk : Hid (pickW (evenL 4) d = ((d / 4611686018427387904 : Nat) : Int)) := Lib.hid (by
      unfold pickW
      rw [if_pos (even_right (by decide) (by decide)), at_even (p := 2) (by decide) (by decide) (by have := HD.out; omega)]
      have := HD.out
      congr 1
      omega)
    go_wp2_with fail
    go_loopw [6, 7] (fun lv i wr => ∃ k : Nat, k ≤ 4 ∧ i = .int .i64 k ∧ Below W.heap.size W wr ∧ wr.ownsRow W.heap.size 26 1 lv k (fRow (evenL k))) (fun _ i _ => 4 - (intOf i).toNat)
    case atStart => exact ⟨0, by omega, rfl, G1.out.below_nil, World.ownsRow_nil _ _ _ _⟩
    case round =>
      obtain ⟨k, hk, rfl, hbl, hown⟩ := hrel
      obtain ⟨a', cap', hv', _, _, hrow⟩ := owns_val hown
      subst hv'
      clear hrow
      have HO := Lib.hid hown; have HBL := Lib.hid hbl
      clear hown hbl
      by_cases hlt : k < 4
      · have hlt' : (k : Int) < 4 := by omega
        go_wp2_with (at_builtin; refine wpList_append_fresh rfl _ _ 22 rfl W.heap.size 26 i0 (.float .f64 0) 1 8 Try.underlying22 hi hz0 hz1 hz2 rfl (by decide) _ _ _ rfl (HO.out.alloc _) ⟨wr.heap.size, 0, none⟩ 1 1 [.float .f64 4607182418800017408] rfl rfl ?c1 ?c2 ?c3 ?c4 ?c5 ?_)
        case c1 => intro j u hu; match j, hu with | 0, hu => (simp at hu; subst hu; simp [Addr.add, go_sem])
        case c2 => simp [Value.oneCell']
        case c3 => simp only [maxLen]; omega
        case c4 => omega
        case c5 => have := HBL.out.size; simp; omega
        intro v' w4 hown4 hch hfr
        have hown5 : w4.ownsRow W.heap.size 26 1 v' (k + 1) (fRow (evenL (k + 1))) := by
          have : fRow (evenL (k + 1)) = fRow (evenL k) ++ [.float .f64 4607182418800017408] := by simp [fRow, evenL, List.replicate_succ']
          rw [this]; exact hown4
        have hb4 : Below W.heap.size W w4 := (HBL.out.chg ((Chg.refl wr).alloc (l := []) _) (Nat.le_refl _) (by simp)).chg hch (Nat.le_refl _) (by
          intro x hx
          exact (((HO.out).alloc (.cells #[.float .f64 4607182418800017408] 26)).lt x (by simpa using hx)).1)
        have HO5 := Lib.hid hown5; have HB4 := Lib.hid hb4
        clear hown4 hch hfr hown5 hb4
        go_wp2_with fail
        go_roundw
        case rel => exact ⟨k + 1, by omega, by go_num, HB4.out, HO5.out⟩
        case measure => simp [intOf]; omega
      · obtain rfl : k = 4 := by omega
        have HS : Hid (SliceOf wr (.slice a' 4 cap') 1 encF (evenL 4)) := Lib.hid (owns_sliceF (by rw [evenL_len]; exact HO.out))
        go_wp2_with fail
        refine (pick_any _ (evenL 4) d _ HS.out (by simp [evenL]) HD.out).mono ?_; rintro e w5 ⟨he, g5⟩
        rw [hpk.out] at he
        subst he
        have HB5 : Hid (Below W.heap.size W w5) := Lib.hid (HBL.out.chg g5 (Nat.le_refl _) (by simp))
        clear g5
        go_wp2_with fail
        have hdd := HD.out
        have ew : wrap64 ((d : Int) / 4611686018427387904) = (d : Int) / 4611686018427387904 := by simp only [wrap64, IntKind.wrap_i64]; omega
        rw [ew]
        go_ret
        exact ⟨by simp, HB5.out⟩
  · simp only [show (((2 : Nat)) : Int) = 2 from rfl] at hte
    have hpk : Hid (pickW (evenL 8) d = ((d / 2305843009213693952 : Nat) : Int)) := Lib.hid (by
      unfold pickW
      rw [if_pos (even_right (by decide) (by decide)), at_even (p := 3) (by decide) (by decide) (by have := HD.out; omega)]
      have := HD.out
      congr 1
      omega)
    go_wp2_with fail
    go_loopw [6, 7] (fun lv i wr => ∃ k : Nat, k ≤ 8 ∧ i = .int .i64 k ∧ Below W.heap.size W wr ∧ wr.ownsRow W.heap.size 26 1 lv k (fRow (evenL k))) (fun _ i _ => 8 - (intOf i).toNat)
    case atStart => exact ⟨0, by omega, rfl, G1.out.below_nil, World.ownsRow_nil _ _ _ _⟩
    case round =>
      obtain ⟨k, hk, rfl, hbl, hown⟩ := hrel
      obtain ⟨a', cap', hv', _, _, hrow⟩ := owns_val hown
      subst hv'
      clear hrow
      have HO := Lib.hid hown; have HBL := Lib.hid hbl
      clear hown hbl
      by_cases hlt : k < 8
      · have hlt' : (k : Int) < 8 := by omega
        go_wp2_with (at_builtin; refine wpList_append_fresh rfl _ _ 22 rfl W.heap.size 26 i0 (.float .f64 0) 1 8 Try.underlying22 hi hz0 hz1 hz2 rfl (by decide) _ _ _ rfl (HO.out.alloc _) ⟨wr.heap.size, 0, none⟩ 1 1 [.float .f64 4607182418800017408] rfl rfl ?c1 ?c2 ?c3 ?c4 ?c5 ?_)
        case c1 => intro j u hu; match j, hu with | 0, hu => (simp at hu; subst hu; simp [Addr.add, go_sem])
        case c2 => simp [Value.oneCell']
        case c3 => simp only [maxLen]; omega
        case c4 => omega
        case c5 => have := HBL.out.size; simp; omega
        intro v' w4 hown4 hch hfr
        have hown5 : w4.ownsRow W.heap.size 26 1 v' (k + 1) (fRow (evenL (k + 1))) := by
          have : fRow (evenL (k + 1)) = fRow (evenL k) ++ [.float .f64 4607182418800017408] := by simp [fRow, evenL, List.replicate_succ']
          rw [this]; exact hown4
        have hb4 : Below W.heap.size W w4 := (HBL.out.chg ((Chg.refl wr).alloc (l := []) _) (Nat.le_refl _) (by simp)).chg hch (Nat.le_refl _) (by
          intro x hx
          exact (((HO.out).alloc (.cells #[.float .f64 4607182418800017408] 26)).lt x (by simpa using hx)).1)
        have HO5 := Lib.hid hown5; have HB4 := Lib.hid hb4
        clear hown4 hch hfr hown5 hb4
        go_wp2_with fail
        go_roundw
        case rel => exact ⟨k + 1, by omega, by go_num, HB4.out, HO5.out⟩
        case measure => simp [intOf]; omega
      · obtain rfl : k = 8 := by omega
        have HS : Hid (SliceOf wr (.slice a' 8 cap') 1 encF (evenL 8)) := Lib.hid (owns_sliceF (by rw [evenL_len]; exact HO.out))
        go_wp2_with fail
        refine (pick_any _ (evenL 8) d _ HS.out (by simp [evenL]) HD.out).mono ?_; rintro e w5 ⟨he, g5⟩
        rw [hpk.out] at he
        subst he
        have HB5 : Hid (Below W.heap.size W w5) := Lib.hid (HBL.out.chg g5 (Nat.le_refl _) (by simp))
        clear g5
        go_wp2_with fail
        have hdd := HD.out
        have ew : wrap64 ((d : Int) / 2305843009213693952) = (d : Int) / 2305843009213693952 := by simp only [wrap64, IntKind.wrap_i64]; omega
        rw [ew]
        go_ret
        exact ⟨by simp, HB5.out⟩
  · simp only [show (((3 : Nat)) : Int) = 3 from rfl] at hte
    have hpk : Hid (pickW (evenL 16) d = ((d / 1152921504606846976 : Nat) : Int)) := Lib.hid (by
      unfold pickW
      rw [if_pos (even_right (by decide) (by decide)), at_even (p := 4) (by decide) (by decide) (by have := HD.out; omega)]
      have := HD.out
      congr 1
      omega)
    go_wp2_with fail
    go_loopw [6, 7] (fun lv i wr => ∃ k : Nat, k ≤ 16 ∧ i = .int .i64 k ∧ Below W.heap.size W wr ∧ wr.ownsRow W.heap.size 26 1 lv k (fRow (evenL k))) (fun _ i _ => 16 - (intOf i).toNat)
    case atStart => exact ⟨0, by omega, rfl, G1.out.below_nil, World.ownsRow_nil _ _ _ _⟩
    case round =>
      obtain ⟨k, hk, rfl, hbl, hown⟩ := hrel
      obtain ⟨a', cap', hv', _, _, hrow⟩ := owns_val hown
      subst hv'
      clear hrow
      have HO := Lib.hid hown; have HBL := Lib.hid hbl
      clear hown hbl
      by_cases hlt : k < 16
      · have hlt' : (k : Int) < 16 := by omega
        go_wp2_with (at_builtin; refine wpList_append_fresh rfl _ _ 22 rfl W.heap.size 26 i0 (.float .f64 0) 1 8 Try.underlying22 hi hz0 hz1 hz2 rfl (by decide) _ _ _ rfl (HO.out.alloc _) ⟨wr.heap.size, 0, none⟩ 1 1 [.float .f64 4607182418800017408] rfl rfl ?c1 ?c2 ?c3 ?c4 ?c5 ?_)
        case c1 => intro j u hu; match j, hu with | 0, hu => (simp at hu; subst hu; simp [Addr.add, go_sem])
        case c2 => simp [Value.oneCell']
        case c3 => simp only [maxLen]; omega
        case c4 => omega
        case c5 => have := HBL.out.size; simp; omega
        intro v' w4 hown4 hch hfr
        have hown5 : w4.ownsRow W.heap.size 26 1 v' (k + 1) (fRow (evenL (k + 1))) := by
          have : fRow (evenL (k + 1)) = fRow (evenL k) ++ [.float .f64 4607182418800017408] := by simp [fRow, evenL, List.replicate_succ']
          rw [this]; exact hown4
        have hb4 : Below W.heap.size W w4 := (HBL.out.chg ((Chg.refl wr).alloc (l := []) _) (Nat.le_refl _) (by simp)).chg hch (Nat.le_refl _) (by
          intro x hx
          exact (((HO.out).alloc (.cells #[.float .f64 4607182418800017408] 26)).lt x (by simpa using hx)).1)
        have HO5 := Lib.hid hown5; have HB4 := Lib.hid hb4
        clear hown4 hch hfr hown5 hb4
        go_wp2_with fail
        go_roundw
        case rel => exact ⟨k + 1, by omega, by go_num, HB4.out, HO5.out⟩
        case measure => simp [intOf]; omega
      · obtain rfl : k = 16 := by omega
        have HS : Hid (SliceOf wr (.slice a' 16 cap') 1 encF (evenL 16)) := Lib.hid (owns_sliceF (by rw [evenL_len]; exact HO.out))
        go_wp2_with fail
        refine (pick_any _ (evenL 16) d _ HS.out (by simp [evenL]) HD.out).mono ?_; rintro e w5 ⟨he, g5⟩
        rw [hpk.out] at he
        subst he
        have HB5 : Hid (Below W.heap.size W w5) := Lib.hid (HBL.out.chg g5 (Nat.le_refl _) (by simp))
        clear g5
        go_wp2_with fail
        have hdd := HD.out
        have ew : wrap64 ((d : Int) / 1152921504606846976) = (d : Int) / 1152921504606846976 := by simp only [wrap64, IntKind.wrap_i64]; omega
        rw [ew]
        go_ret
        exact ⟨by simp, HB5.out⟩

/-! ### The row's step -/
theorem own : ownKnob Try.prog.godebug = none := by kernel_rfl
theorem laid : laidOutB Try.prog = true := by kernel_rfl

set_option maxRecDepth 100000 in
theorem lifted (os : Os) (started : os.Started) (H : Type) (enc : TypeId × Value → H) :
    ReturnsInHanded {} Try.checked os 10 .any (Rows.weighEvenSpec.pre6 enc Try.prog Try.f10 Rows.weighEvenRow.domain false) (Rows.weighEvenSpec.post enc Try.prog Try.f10 false true false false) := by
  refine lift_law (C := Try.checked) (tb := 4) own started (by kernel_rfl) Try.func10
    (ChangeSpec.witness6 (enc := enc) (C := Try.checked) false ⟨#[], #[.int .i64 0, .int .u64 0], []⟩ 8 (by kernel_rfl) (by kernel_rfl) (by kernel_rfl) (by kernel_rfl))
    laid (by rw [Try.params10]; intro t ht; simp only [List.mem_cons, List.not_mem_nil, or_false] at ht; rcases ht with rfl | rfl <;> exact ⟨by kernel_rfl, of_decide_eq_true (by kernel_rfl)⟩) (by kernel_rfl) Try.underlying4 rfl
    (fun ds h => by rw [Try.params10] at h; match ds, h with | [d0, d1], _ => rfl) ?_
  intro W base args ds before hval hA hlt hsz
  rw [Try.params10] at hA hval
  have hlt0 := hlt
  obtain ⟨v0, vs0, d0, ds0, p0, q0, hargs, rfl, rfl, h0, r0⟩ := trodAll_cons hA
  obtain ⟨v1, vs1, d1, ds1, p1, q1, rfl, rfl, rfl, h1, r1⟩ := trodAll_cons r0
  obtain ⟨rfl, rfl, rfl⟩ := trodAll_nil r1
  obtain rfl : args = #[v0, v1] := by cases args; simp_all
  have l0 : ∀ p ∈ p0, p.block < W.heap.size := fun x hx => hlt x (by simp [hx])
  have l1 : ∀ p ∈ p1, p.block < W.heap.size := fun x hx => hlt x (by simp [hx])
  obtain ⟨a0, rfl, rfl, rfl, wa0⟩ := open_int Try.underlying3 (hval 0 3 v0 rfl rfl) h0
  obtain ⟨a1, rfl, rfl, rfl, wa1⟩ := open_int Try.underlying23 (hval 1 23 v1 rfl rfl) h1
  exact walk a0 a1 W wa1

theorem over : Rows.weighEvenRow.holds Try.pinned (OpenSpec.ofChange Rows.weighEvenSpec) :=
  OpenClaim.holds_of_wide 10 Try.f10 rfl rfl rfl rfl rfl rfl rfl ⟨rfl, rfl, rfl, rfl, rfl⟩ rfl rfl rfl rfl rfl (by kernel_rfl) Try.func10 (by kernel_rfl)
    (of_decide_eq_true (by kernel_rfl)) (by unfold Func.isWrapper; first | (rw [if_pos (by decide +kernel)]; kernel_rfl) | (rw [if_neg (by decide +kernel)]; exact ⟨rfl, rfl⟩))
    (fun os started H enc _ => lifted os started H enc)

/-- The statement. -/
theorem proved : Rows.WeighEvenSaid :=
  over
#print axioms proved

end Go.Proofs.Ytgoelobkehebjaa.Even
