/-
  WeighScale: twice the weights are the same choice: any weights that are 0 or from 10^-9 to 10^8, times 2, 4 or 8, any draw; with another weight nothing is asked.
-/
import Derived.Test.YtgoelobkehebjaaScaleP
namespace Go.Proofs.Ytgoelobkehebjaa.Scale
open Go.ChangeShapes Go.WideShapes Go.ChangeAt Go.RowKit
open Go.Proofs.Ytgoelobkehebjaa.B Go.Proofs.Ytgoelobkehebjaa.Fl Go.Proofs.Ytgoelobkehebjaa.Wg
set_option linter.unusedVariables false
set_option linter.unusedSimpArgs false

set_option maxRecDepth 20000 in
set_option maxHeartbeats 8000000 in
theorem walk (v : Value) (w : List Nat) (d b0 : Int) (W : World) (hw : ∀ x ∈ w, Wf64 x) (hs : SliceOf W v 1 encF w) (hd0 : (Lit.int .u64 d).wf = true) :
    Calls Try.prog 7 #[v, .int .u64 d, .int .i64 b0] W fun e w' => e = .returned (.bool true) ∧ Below W.heap.size W w' := by
  obtain ⟨d, rfl, hd⟩ := u64_nat hd0
  clear hd0
  have HD := Lib.hid hd
  clear hd
  obtain ⟨i0, hi, hz0, hz1, hz2⟩ := info_parts infoF
  obtain ⟨m, hmin, hml, hmc⟩ := min_cut w 30
  have HS := hs
  obtain ⟨a, cap, rfl, hc, hcm, _⟩ := hs
  have HW := Lib.hid (mem_cut (w := w) hw m)
  have HSC := Lib.hid (slice_cut HS m hml)
  have hlen := len_cut hml
  generalize w.take m = u at *
  subst hlen
  have emin : (min (w.length : Int) 30).toNat = u.length := by omega
  have HM := Lib.hid emin
  clear HS hw hmin emin
  have hj := i64_and_le b0 7 (by decide)
  obtain ⟨t, hte⟩ : ∃ t : Nat, bits .and .i64 b0 7 = (t : Int) := ⟨(bits .and .i64 b0 7).toNat, (Int.toNat_of_nonneg hj.1).symm⟩
  rw [show ((7 : Nat) : Int) = 7 from rfl, hte] at hj
  have ht7 : t ≤ 7 := by omega
  clear hj
  obtain ⟨r, hr⟩ : ∃ r, r = t % 3 := ⟨_, rfl⟩
  have hr3 : r < 3 := by omega
  have htm : Int.tmod (t : Int) 3 = (r : Int) := by rw [hr]; rfl
  obtain ⟨tb, htb⟩ : ∃ tb, tb = facB r := ⟨_, rfl⟩
  have HTB := Lib.hid htb
  have hcellr : (#[Value.float .f64 4611686018427387904, .float .f64 4616189618054758400, .float .f64 4620693217682128896])[r]? = some (.float .f64 tb) := by
    have hc : r = 0 ∨ r = 1 ∨ r = 2 := by omega
    rw [htb]
    clear htb HTB htm hr
    rcases hc with rfl | rfl | rfl <;> rfl
  have HCR := Lib.hid hcellr
  clear htb hr hcellr
  go_enter Try.func7, Try.ntmps7
  go_wp2_with fail
  refine (shown_any _).mono ?_; rintro e w1 ⟨rfl, g1⟩
  have G1 := Lib.hid ((g1.alloc (.cells #[Value.float .f64 4611686018427387904, .float .f64 4616189618054758400, .float .f64 4620693217682128896] 26)).below_nil)
  have a1 : At (w1.alloc (.cells #[Value.float .f64 4611686018427387904, .float .f64 4616189618054758400, .float .f64 4620693217682128896] 26)) w1.heap.size (.cells #[Value.float .f64 4611686018427387904, .float .f64 4616189618054758400, .float .f64 4620693217682128896] 26 (0, 0)) := At.new _ _
  have c1 := a1.cell HCR.out
  have hr0 : (0 : Int) ≤ r := by omega
  have hr1 : (r : Int) < 3 := by omega
  clear g1 a1
  go_wp2_with fail
  clear c1 htm hte ht7 hr0 hr1
  generalize (w1.alloc (.cells #[Value.float .f64 4611686018427387904, .float .f64 4616189618054758400, .float .f64 4620693217682128896] 26)) = w2 at *
  rw [HM.out]
  generalize w1.heap.size = N at *
  generalize min (w.length : Int) 30 = mi
  go_loopw [9, 10] (fun lv i wr => ∃ k : Nat, k ≤ u.length ∧ i = .int .i64 k ∧ Below W.heap.size W wr ∧ wr.ownsRow W.heap.size 26 1 lv k (fRow ((u.take k).map (scaleF (r + 1)))) ∧ (∀ x ∈ u.take k, goodB x = true)) (fun _ i _ => u.length - (intOf i).toNat)
  case atStart => exact ⟨0, by omega, rfl, G1.out, World.ownsRow_nil _ _ _ _, by simp⟩
  case round =>
    obtain ⟨k, hk, rfl, hbl, hown, hgood⟩ := hrel
    obtain ⟨a', cap', hv', _, _, hrow⟩ := owns_val hown
    subst hv'
    clear hrow
    have HO := Lib.hid hown; have HBL := Lib.hid hbl; have HK := Lib.hid hgood
    clear hown hbl hgood
    by_cases hlt : k < u.length
    · obtain ⟨x, hx⟩ : ∃ x, u[k]? = some x := ⟨_, List.getElem?_eq_getElem hlt⟩
      have hx64 := HW.out x (List.mem_of_getElem? hx)
      obtain ⟨ab, capb, heb, _, _, hcb⟩ := slice_chgF HSC.out HBL.out.chg_nil
      simp only [Value.slice.injEq, true_and] at heb
      obtain ⟨rfl, rfl⟩ := heb
      obtain ⟨b, off, rfl, hb, hcells⟩ := hcb (by omega)
      have c0 : wr.cell? ⟨b, off + k, none⟩ = some (.float .f64 x) := by have := hcells k x hx 0 (by omega); simpa [encF] using this
      clear hcb hcells
      have HX := Lib.hid hx
      clear hx
      rcases scale_facts hx64 with ⟨h1, o1, o2⟩ | ⟨h1, o1, o2, o3⟩ | ⟨h1, o1, o2, o3⟩ | ⟨h1, o1, o2, o3⟩ | ⟨o1, o2, o3⟩ | ⟨o1, o2⟩ | o1 | o1
      · skip
        have hr := fun w' : World => run_float_arith (P := Try.prog) w' .mul 26 .f64 _ _ _ (mul_scale h1 hr3)
        rw [← HTB.out] at hr
        have HG := Lib.hid h1
        clear h1
        obtain ⟨y, hy⟩ : ∃ y, y = scaleF (r + 1) x := ⟨_, rfl⟩
        rw [← hy] at hr
        have HY := Lib.hid hy
        clear hy
        go_wp2_with (at_builtin; refine wpList_append_fresh rfl _ _ 22 rfl W.heap.size 26 i0 (.float .f64 0) 1 8 Try.underlying22 hi hz0 hz1 hz2 rfl (by decide) _ _ _ rfl (HO.out.alloc _) ⟨wr.heap.size, 0, none⟩ 1 1 [.float .f64 y] rfl rfl ?c1 ?c2 ?c3 ?c4 ?c5 ?_)
        case c1 => intro j u hu; match j, hu with | 0, hu => (simp at hu; subst hu; simp [Addr.add, go_sem])
        case c2 => simp [Value.oneCell']
        case c3 => simp only [maxLen]; omega
        case c4 => omega
        case c5 => have := HBL.out.size; simp; omega
        intro v' w4 hown4 hch hfr
        have hown5 : w4.ownsRow W.heap.size 26 1 v' (k + 1) (fRow ((u.take (k + 1)).map (scaleF (r + 1)))) := by
          have : fRow ((u.take (k + 1)).map (scaleF (r + 1))) = fRow ((u.take k).map (scaleF (r + 1))) ++ [.float .f64 y] := by
            rw [List.take_add_one, HX.out, HY.out]; simp [fRow]
          rw [this, List.map_take]; exact hown4
        have hb4 : Below W.heap.size W w4 := (HBL.out.chg ((Chg.refl wr).alloc (l := []) _) (Nat.le_refl _) (by simp)).chg hch (Nat.le_refl _) (by
          intro x hx
          exact (((HO.out).alloc (.cells #[.float .f64 y] 26)).lt x (by simpa using hx)).1)
        have hgk : ∀ x ∈ u.take (k + 1), goodB x = true := by
          rw [List.take_add_one, HX.out]
          intro z hz
          simp at hz
          rcases hz with hz | hz
          · exact HK.out z hz
          · rw [hz]; exact HG.out
        have HO5 := Lib.hid hown5; have HB4 := Lib.hid hb4; have HGK := Lib.hid hgk
        clear hown4 hch hfr hown5 hb4 hgk hr
        go_wp2_with fail
        go_roundw
        case rel => exact ⟨k + 1, by omega, by go_num, HB4.out, HO5.out, HGK.out⟩
        case measure => simp [intOf]; omega
      · skip
        have hr := fun w' : World => run_float_arith (P := Try.prog) w' .mul 26 .f64 _ _ _ (mul_scale h1 hr3)
        rw [← HTB.out] at hr
        have HG := Lib.hid h1
        clear h1
        obtain ⟨y, hy⟩ : ∃ y, y = scaleF (r + 1) x := ⟨_, rfl⟩
        rw [← hy] at hr
        have HY := Lib.hid hy
        clear hy
        go_wp2_with (at_builtin; refine wpList_append_fresh rfl _ _ 22 rfl W.heap.size 26 i0 (.float .f64 0) 1 8 Try.underlying22 hi hz0 hz1 hz2 rfl (by decide) _ _ _ rfl (HO.out.alloc _) ⟨wr.heap.size, 0, none⟩ 1 1 [.float .f64 y] rfl rfl ?c1 ?c2 ?c3 ?c4 ?c5 ?_)
        case c1 => intro j u hu; match j, hu with | 0, hu => (simp at hu; subst hu; simp [Addr.add, go_sem])
        case c2 => simp [Value.oneCell']
        case c3 => simp only [maxLen]; omega
        case c4 => omega
        case c5 => have := HBL.out.size; simp; omega
        intro v' w4 hown4 hch hfr
        have hown5 : w4.ownsRow W.heap.size 26 1 v' (k + 1) (fRow ((u.take (k + 1)).map (scaleF (r + 1)))) := by
          have : fRow ((u.take (k + 1)).map (scaleF (r + 1))) = fRow ((u.take k).map (scaleF (r + 1))) ++ [.float .f64 y] := by
            rw [List.take_add_one, HX.out, HY.out]; simp [fRow]
          rw [this, List.map_take]; exact hown4
        have hb4 : Below W.heap.size W w4 := (HBL.out.chg ((Chg.refl wr).alloc (l := []) _) (Nat.le_refl _) (by simp)).chg hch (Nat.le_refl _) (by
          intro x hx
          exact (((HO.out).alloc (.cells #[.float .f64 y] 26)).lt x (by simpa using hx)).1)
        have hgk : ∀ x ∈ u.take (k + 1), goodB x = true := by
          rw [List.take_add_one, HX.out]
          intro z hz
          simp at hz
          rcases hz with hz | hz
          · exact HK.out z hz
          · rw [hz]; exact HG.out
        have HO5 := Lib.hid hown5; have HB4 := Lib.hid hb4; have HGK := Lib.hid hgk
        clear hown4 hch hfr hown5 hb4 hgk hr
        go_wp2_with fail
        go_roundw
        case rel => exact ⟨k + 1, by omega, by go_num, HB4.out, HO5.out, HGK.out⟩
        case measure => simp [intOf]; omega
      · skip
        have hr := fun w' : World => run_float_arith (P := Try.prog) w' .mul 26 .f64 _ _ _ (mul_scale h1 hr3)
        rw [← HTB.out] at hr
        have HG := Lib.hid h1
        clear h1
        obtain ⟨y, hy⟩ : ∃ y, y = scaleF (r + 1) x := ⟨_, rfl⟩
        rw [← hy] at hr
        have HY := Lib.hid hy
        clear hy
        go_wp2_with (at_builtin; refine wpList_append_fresh rfl _ _ 22 rfl W.heap.size 26 i0 (.float .f64 0) 1 8 Try.underlying22 hi hz0 hz1 hz2 rfl (by decide) _ _ _ rfl (HO.out.alloc _) ⟨wr.heap.size, 0, none⟩ 1 1 [.float .f64 y] rfl rfl ?c1 ?c2 ?c3 ?c4 ?c5 ?_)
        case c1 => intro j u hu; match j, hu with | 0, hu => (simp at hu; subst hu; simp [Addr.add, go_sem])
        case c2 => simp [Value.oneCell']
        case c3 => simp only [maxLen]; omega
        case c4 => omega
        case c5 => have := HBL.out.size; simp; omega
        intro v' w4 hown4 hch hfr
        have hown5 : w4.ownsRow W.heap.size 26 1 v' (k + 1) (fRow ((u.take (k + 1)).map (scaleF (r + 1)))) := by
          have : fRow ((u.take (k + 1)).map (scaleF (r + 1))) = fRow ((u.take k).map (scaleF (r + 1))) ++ [.float .f64 y] := by
            rw [List.take_add_one, HX.out, HY.out]; simp [fRow]
          rw [this, List.map_take]; exact hown4
        have hb4 : Below W.heap.size W w4 := (HBL.out.chg ((Chg.refl wr).alloc (l := []) _) (Nat.le_refl _) (by simp)).chg hch (Nat.le_refl _) (by
          intro x hx
          exact (((HO.out).alloc (.cells #[.float .f64 y] 26)).lt x (by simpa using hx)).1)
        have hgk : ∀ x ∈ u.take (k + 1), goodB x = true := by
          rw [List.take_add_one, HX.out]
          intro z hz
          simp at hz
          rcases hz with hz | hz
          · exact HK.out z hz
          · rw [hz]; exact HG.out
        have HO5 := Lib.hid hown5; have HB4 := Lib.hid hb4; have HGK := Lib.hid hgk
        clear hown4 hch hfr hown5 hb4 hgk hr
        go_wp2_with fail
        go_roundw
        case rel => exact ⟨k + 1, by omega, by go_num, HB4.out, HO5.out, HGK.out⟩
        case measure => simp [intOf]; omega
      · skip
        have hr := fun w' : World => run_float_arith (P := Try.prog) w' .mul 26 .f64 _ _ _ (mul_scale h1 hr3)
        rw [← HTB.out] at hr
        have HG := Lib.hid h1
        clear h1
        obtain ⟨y, hy⟩ : ∃ y, y = scaleF (r + 1) x := ⟨_, rfl⟩
        rw [← hy] at hr
        have HY := Lib.hid hy
        clear hy
        go_wp2_with (at_builtin; refine wpList_append_fresh rfl _ _ 22 rfl W.heap.size 26 i0 (.float .f64 0) 1 8 Try.underlying22 hi hz0 hz1 hz2 rfl (by decide) _ _ _ rfl (HO.out.alloc _) ⟨wr.heap.size, 0, none⟩ 1 1 [.float .f64 y] rfl rfl ?c1 ?c2 ?c3 ?c4 ?c5 ?_)
        case c1 => intro j u hu; match j, hu with | 0, hu => (simp at hu; subst hu; simp [Addr.add, go_sem])
        case c2 => simp [Value.oneCell']
        case c3 => simp only [maxLen]; omega
        case c4 => omega
        case c5 => have := HBL.out.size; simp; omega
        intro v' w4 hown4 hch hfr
        have hown5 : w4.ownsRow W.heap.size 26 1 v' (k + 1) (fRow ((u.take (k + 1)).map (scaleF (r + 1)))) := by
          have : fRow ((u.take (k + 1)).map (scaleF (r + 1))) = fRow ((u.take k).map (scaleF (r + 1))) ++ [.float .f64 y] := by
            rw [List.take_add_one, HX.out, HY.out]; simp [fRow]
          rw [this, List.map_take]; exact hown4
        have hb4 : Below W.heap.size W w4 := (HBL.out.chg ((Chg.refl wr).alloc (l := []) _) (Nat.le_refl _) (by simp)).chg hch (Nat.le_refl _) (by
          intro x hx
          exact (((HO.out).alloc (.cells #[.float .f64 y] 26)).lt x (by simpa using hx)).1)
        have hgk : ∀ x ∈ u.take (k + 1), goodB x = true := by
          rw [List.take_add_one, HX.out]
          intro z hz
          simp at hz
          rcases hz with hz | hz
          · exact HK.out z hz
          · rw [hz]; exact HG.out
        have HO5 := Lib.hid hown5; have HB4 := Lib.hid hb4; have HGK := Lib.hid hgk
        clear hown4 hch hfr hown5 hb4 hgk hr
        go_wp2_with fail
        go_roundw
        case rel => exact ⟨k + 1, by omega, by go_num, HB4.out, HO5.out, HGK.out⟩
        case measure => simp [intOf]; omega
      · skip
        go_wp2_with fail
        go_ret
        exact ⟨rfl, HBL.out⟩
      · skip
        go_wp2_with fail
        go_ret
        exact ⟨rfl, HBL.out⟩
      · skip
        go_wp2_with fail
        go_ret
        exact ⟨rfl, HBL.out⟩
      · skip
        go_wp2_with fail
        go_ret
        exact ⟨rfl, HBL.out⟩
    · obtain rfl : k = u.length := by omega
      rw [List.take_length] at HO HK
      have HS2 : Hid (SliceOf wr (.slice a' u.length cap') 1 encF (u.map (scaleF (r + 1)))) := Lib.hid (owns_sliceF (by rw [List.length_map]; exact HO.out))
      have HS1 : Hid (SliceOf wr (.slice a u.length cap) 1 encF u) := Lib.hid (slice_chgF HSC.out HBL.out.chg_nil)
      have hl64 : ∀ y ∈ u.map (scaleF (r + 1)), y < 2 ^ 64 := by
        intro y hy
        obtain ⟨x, hx, rfl⟩ := List.mem_map.1 hy
        have := (ok_scale (HK.out x hx) (r + 1) (by omega)).1
        unfold okB G at this
        simp at this
        omega
      have HL64 := Lib.hid hl64
      have HRS := Lib.hid (right_scale HK.out (r + 1) (by omega))
      have HPS := Lib.hid (pick_scale HK.out (r + 1) (by omega) d)
      clear hl64
      generalize u.map (scaleF (r + 1)) = l at *
      go_wp2_with fail
      refine (right_any _ l _ HS2.out HL64.out).mono ?_; rintro e w5 ⟨he, hw5⟩
      rw [HRS.out] at he
      subst he
      subst hw5
      go_wp2_with fail
      refine (right_any _ u _ HS1.out HW.out).mono ?_; rintro e w6 ⟨he, hw6⟩
      subst he
      subst hw6
      generalize rightW u = rr
      go_wp2_with fail
      refine (pick_any _ l d _ HS2.out HL64.out HD.out).mono ?_; rintro e w7 ⟨he, g7⟩
      rw [HPS.out] at he
      subst he
      have HS7 := Lib.hid (slice_chgF HS1.out g7); have HB7 : Hid (Below W.heap.size W w7) := Lib.hid (HBL.out.chg g7 (Nat.le_refl _) (by simp))
      clear g7 HS1 HS2
      go_wp2_with fail
      refine (pick_any _ u d _ HS7.out HW.out HD.out).mono ?_; rintro e w8 ⟨he, g8⟩
      subst he
      have HB8 : Hid (Below W.heap.size W w8) := Lib.hid (HB7.out.chg g8 (Nat.le_refl _) (by simp))
      clear g8 HS7
      generalize pickW u d = q
      go_wp2_with fail
      go_ret
      exact ⟨by simp, HB8.out⟩

/-! ### The row's step -/
theorem own : ownKnob Try.prog.godebug = none := by kernel_rfl
theorem laid : laidOutB Try.prog = true := by kernel_rfl

set_option maxRecDepth 100000 in
theorem lifted (os : Os) (started : os.Started) (H : Type) (enc : TypeId × Value → H) :
    ReturnsInHanded {} Try.checked os 7 .any (Rows.weighScaleSpec.pre6 enc Try.prog Try.f7 Rows.weighScaleRow.domain false) (Rows.weighScaleSpec.post enc Try.prog Try.f7 false true false false) := by
  refine lift_law (C := Try.checked) (tb := 4) own started (by kernel_rfl) Try.func7
    (ChangeSpec.witness6 (enc := enc) (C := Try.checked) false ⟨#[], #[.slice none 0 0, .int .u64 0, .int .i64 0], []⟩ 8 (by kernel_rfl) (by kernel_rfl) (by kernel_rfl) (by kernel_rfl))
    laid (by rw [Try.params7]; intro t ht; simp only [List.mem_cons, List.not_mem_nil, or_false] at ht; rcases ht with rfl | rfl | rfl <;> exact ⟨by kernel_rfl, of_decide_eq_true (by kernel_rfl)⟩) (by kernel_rfl) Try.underlying4 rfl
    (fun ds h => by rw [Try.params7] at h; match ds, h with | [d0, d1, d2], _ => rfl) ?_
  intro W base args ds before hval hA hlt hsz
  rw [Try.params7] at hA hval
  have hlt0 := hlt
  obtain ⟨v0, vs0, d0, ds0, p0, q0, hargs, rfl, rfl, h0, r0⟩ := trodAll_cons hA
  obtain ⟨v1, vs1, d1, ds1, p1, q1, rfl, rfl, rfl, h1, r1⟩ := trodAll_cons r0
  obtain ⟨v2, vs2, d2, ds2, p2, q2, rfl, rfl, rfl, h2, r2⟩ := trodAll_cons r1
  obtain ⟨rfl, rfl, rfl⟩ := trodAll_nil r2
  obtain rfl : args = #[v0, v1, v2] := by cases args; simp_all
  have l0 : ∀ p ∈ p0, p.block < W.heap.size := fun x hx => hlt x (by simp [hx])
  have l1 : ∀ p ∈ p1, p.block < W.heap.size := fun x hx => hlt x (by simp [hx])
  have l2 : ∀ p ∈ p2, p.block < W.heap.size := fun x hx => hlt x (by simp [hx])
  obtain ⟨zs, zg, zm, zs1⟩ := open_arg_slice 1 encF Wf64 Try.underlying22 (by kernel_rfl) (by omega) (hval 0 22 v0 rfl rfl) decF h0 l0
  obtain ⟨a1, rfl, rfl, rfl, wa1⟩ := open_int Try.underlying23 (hval 1 23 v1 rfl rfl) h1
  obtain ⟨a2, rfl, rfl, rfl, wa2⟩ := open_int Try.underlying3 (hval 2 3 v2 rfl rfl) h2
  exact walk v0 zs a1 a2 W zg zs1 wa1

theorem over : Rows.weighScaleRow.holds Try.pinned (OpenSpec.ofChange Rows.weighScaleSpec) :=
  OpenClaim.holds_of_wide 7 Try.f7 rfl rfl rfl rfl rfl rfl rfl ⟨rfl, rfl, rfl, rfl, rfl⟩ rfl rfl rfl rfl rfl (by kernel_rfl) Try.func7 (by kernel_rfl)
    (of_decide_eq_true (by kernel_rfl)) (by unfold Func.isWrapper; first | (rw [if_pos (by decide +kernel)]; kernel_rfl) | (rw [if_neg (by decide +kernel)]; exact ⟨rfl, rfl⟩))
    (fun os started H enc _ => lifted os started H enc)

/-- The statement. -/
theorem proved : Rows.WeighScaleSaid :=
  over
#print axioms proved

end Go.Proofs.Ytgoelobkehebjaa.Scale
