/-
  WeighTells: weights are right, or not, and a draw has a place: any weights, any draw.
-/
import Derived.Test.YtgoelobkehebjaaArg
namespace Go.Proofs.Ytgoelobkehebjaa.Tells
open Go.ChangeShapes Go.WideShapes Go.ChangeAt Go.RowKit
open Go.Proofs.Ytgoelobkehebjaa.B Go.Proofs.Ytgoelobkehebjaa.Fl Go.Proofs.Ytgoelobkehebjaa.Wg
set_option linter.unusedVariables false
set_option linter.unusedSimpArgs false
theorem total_fin (w : List Nat) : totalW w < INF := by
  unfold totalW
  split
  · rename_i h
    have := rightW_ok h
    exact sumTo_fin this.1 (by omega) _ (Nat.le_refl _)
  · decide
set_option maxRecDepth 20000 in
set_option maxHeartbeats 4000000 in
theorem walk (v : Value) (w : List Nat) (d : Int) (W : World) (hw : ∀ x ∈ w, Wf64 x) (hs : SliceOf W v 1 encF w) (hd0 : (Lit.int .u64 d).wf = true) :
    Calls Try.prog 3 #[v, .int .u64 d] W fun e w' => e = .returned (.bool true) ∧ Below W.heap.size W w' := by
  obtain ⟨d, rfl, hd⟩ := u64_nat hd0
  clear hd0
  have HD := Lib.hid hd
  clear hd
  obtain ⟨m, hmin, hml, hmc⟩ := min_cut w 100
  have HS := hs
  obtain ⟨a, cap, rfl, hc, hcm, _⟩ := hs
  have HW := Lib.hid (mem_cut (w := w) hw m)
  have HSC := Lib.hid (slice_cut HS m hml)
  have hlen := len_cut hml
  generalize w.take m = u at *
  subst hlen
  have emin : (min (w.length : Int) 100).toNat = u.length := by omega
  have HM := Lib.hid emin
  clear HS hw hmin emin
  go_enter Try.func3, Try.ntmps3
  go_wp2_with fail
  refine (shown_any _).mono ?_; rintro e w1 ⟨rfl, g1⟩
  have HS1 := Lib.hid (slice_chgF HSC.out g1); have G1 := Lib.hid g1
  clear g1 HSC
  go_wp2_with fail
  rw [HM.out]
  generalize min (w.length : Int) 100 = mi
  refine (right_any _ u _ HS1.out HW.out).mono ?_; rintro e w2 ⟨he, hw2⟩
  subst hw2
  subst he
  go_wp2_with fail
  refine (rright_any _ u _ HS1.out HW.out).mono ?_; rintro e w3 ⟨he, hw3⟩
  subst hw3
  subst he
  generalize rightW u = r
  go_wp2_with fail
  refine (total_any _ u _ HS1.out HW.out).mono ?_; rintro e w4 ⟨he, g4⟩
  subst he
  have HS4 := Lib.hid (slice_chgF HS1.out g4); have G4 := Lib.hid (G1.out.trans' g4)
  clear g4 HS1 G1
  go_wp2_with fail
  refine (rtotal_any _ u _ HS4.out HW.out).mono ?_; rintro e w5 ⟨he, hw5⟩
  subst hw5
  subst he
  have ho : FloatKind.f64.format.order (totalW u) (totalW u) = some .eq := by rw [order_cmp (total_fin u) (total_fin u)]; simp
  generalize totalW u = t at *
  go_wp2_with fail
  refine (pick_any _ u d _ HS4.out HW.out HD.out).mono ?_; rintro e w6 ⟨he, g6⟩
  subst he
  have HS6 := Lib.hid (slice_chgF HS4.out g6); have G6 := Lib.hid (G4.out.trans' g6)
  clear g6 HS4 G4
  go_wp2_with fail
  refine (rpick_any _ u d _ HS6.out HW.out HD.out).mono ?_; rintro e w7 ⟨he, hw7⟩
  subst hw7
  subst he
  generalize pickW u d = q
  go_wp2_with fail
  go_ret
  exact ⟨by simp, G6.out.below_nil⟩

/-! ### The row's step -/
theorem own : ownKnob Try.prog.godebug = none := by kernel_rfl
theorem laid : laidOutB Try.prog = true := by kernel_rfl

set_option maxRecDepth 100000 in
theorem lifted (os : Os) (started : os.Started) (H : Type) (enc : TypeId × Value → H) :
    ReturnsInHanded {} Try.checked os 3 .any (Rows.weighTellsSpec.pre6 enc Try.prog Try.f3 Rows.weighTellsRow.domain false) (Rows.weighTellsSpec.post enc Try.prog Try.f3 false true false false) := by
  refine lift_law (C := Try.checked) (tb := 4) own started (by kernel_rfl) Try.func3
    (ChangeSpec.witness6 (enc := enc) (C := Try.checked) false ⟨#[], #[.slice none 0 0, .int .u64 0], []⟩ 8 (by kernel_rfl) (by kernel_rfl) (by kernel_rfl) (by kernel_rfl))
    laid (by rw [Try.params3]; intro t ht; simp only [List.mem_cons, List.not_mem_nil, or_false] at ht; rcases ht with rfl | rfl <;> exact ⟨by kernel_rfl, of_decide_eq_true (by kernel_rfl)⟩) (by kernel_rfl) Try.underlying4 rfl
    (fun ds h => by rw [Try.params3] at h; match ds, h with | [d0, d1], _ => rfl) ?_
  intro W base args ds before hval hA hlt hsz
  rw [Try.params3] at hA hval
  have hlt0 := hlt
  obtain ⟨v0, vs0, d0, ds0, p0, q0, hargs, rfl, rfl, h0, r0⟩ := trodAll_cons hA
  obtain ⟨v1, vs1, d1, ds1, p1, q1, rfl, rfl, rfl, h1, r1⟩ := trodAll_cons r0
  obtain ⟨rfl, rfl, rfl⟩ := trodAll_nil r1
  obtain rfl : args = #[v0, v1] := by cases args; simp_all
  have l0 : ∀ p ∈ p0, p.block < W.heap.size := fun x hx => hlt x (by simp [hx])
  have l1 : ∀ p ∈ p1, p.block < W.heap.size := fun x hx => hlt x (by simp [hx])
  obtain ⟨zs, zg, zm, zs1⟩ := open_arg_slice 1 encF Wf64 Try.underlying22 (by kernel_rfl) (by omega) (hval 0 22 v0 rfl rfl) decF h0 l0
  obtain ⟨a1, rfl, rfl, rfl, wa1⟩ := open_int Try.underlying23 (hval 1 23 v1 rfl rfl) h1
  exact walk v0 zs a1 W zg zs1 wa1

theorem over : Rows.weighTellsRow.holds Try.pinned (OpenSpec.ofChange Rows.weighTellsSpec) :=
  OpenClaim.holds_of_wide 3 Try.f3 rfl rfl rfl rfl rfl rfl rfl ⟨rfl, rfl, rfl, rfl, rfl⟩ rfl rfl rfl rfl rfl (by kernel_rfl) Try.func3 (by kernel_rfl)
    (of_decide_eq_true (by kernel_rfl)) (by unfold Func.isWrapper; first | (rw [if_pos (by decide +kernel)]; kernel_rfl) | (rw [if_neg (by decide +kernel)]; exact ⟨rfl, rfl⟩))
    (fun os started H enc _ => lifted os started H enc)

/-- The statement. -/
theorem proved : Rows.WeighTellsSaid :=
  over
#print axioms proved

end Go.Proofs.Ytgoelobkehebjaa.Tells
