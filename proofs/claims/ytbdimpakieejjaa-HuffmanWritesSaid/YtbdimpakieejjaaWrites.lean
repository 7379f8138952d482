/-
  HuffmanWrites: a text has one row of octets: any text.
-/
import Derived.Test.YtbdimpakieejjaaREnc
import Derived.Test.YtbdimpakieejjaaShown
import Derived.ChangeMaps5
namespace Go.Proofs.Ytbdimpakieejjaa.Writes
open Go.ChangeShapes Go.WideShapes Go.ChangeAt Go.RowKit
open Go.ChangeMaps (open_string)
open Go.Proofs.Ytbdimpakieejjaa.B Go.Proofs.Ytbdimpakieejjaa.Hf
set_option linter.unusedVariables false
set_option linter.unusedSimpArgs false

set_option maxRecDepth 100000 in
set_option maxHeartbeats 8000000 in
theorem walk (s : ByteArray) (W : World) (hm : s.size ≤ maxLen) :
    Calls Try.prog 8 #[.string s] W fun e w' => e = .returned (.bool true) ∧ Below W.heap.size W w' := by
  unfold maxLen at hm
  by_cases h400 : s.size ≤ 400
  · have hd : decide ((400 : Int) < (s.size : Int)) = false := by simp; omega
    obtain ⟨E, hE⟩ : ∃ E : ByteArray, E = ⟨(enc (bx s)).toArray⟩ := ⟨_, rfl⟩
    obtain ⟨n, hn⟩ : ∃ n, n = need (bx s) := ⟨_, rfl⟩
    have HE := Lib.hid hE; have HN := Lib.hid hn
    clear hE hn
    go_enter Try.func8, Try.ntmps8
    go_wp2_with fail
    refine (shown_any _).mono ?_; rintro e w1 ⟨rfl, c1⟩
    have HC1 := Lib.hid c1
    clear c1
    go_wp2_with fail
    go_region_law (first
      | (go_simp; go_at_call 18; refine (size_any s _ (by omega)).mono ?_; rintro e wa ⟨he, ca⟩; rw [show need s.data.toList = n from HN.out.symm] at he; subst he)
      | (go_simp; go_at_call 19; refine (rsize_any s (by omega) _).mono ?_; rintro e wb ⟨he, cb⟩; rw [← HN.out] at he; subst he)
      | (go_simp; go_at_call 17; refine (encode_any s 0 _ (by omega) (Nat.zero_le _)).mono ?_; rintro e wc ⟨v, rfl, cc, oc⟩; have kc := oc.bytes.str; rw [show (⟨(enc (bx s)).toArray⟩ : ByteArray) = E from HE.out.symm] at kc; have OC := Lib.hid oc; clear oc)
      | (go_simp; go_at_call 20; refine (rencode_any s (by omega) _).mono ?_; rintro e wd ⟨he, cd⟩; unfold txt at he; rw [← HE.out] at he; subst he; have kd := (OC.out.bytes.chg0 cd).str; rw [show (⟨(enc (bx s)).toArray⟩ : ByteArray) = E from HE.out.symm] at kd)
      | (go_simp; go_at_call 20; refine (rencode_any s (by omega) _).mono ?_; rintro e wd ⟨he, cd⟩; unfold txt at he; rw [← HE.out] at he; subst he; have kd := (OC.out.bytes.chg0 ((Chg.refl _).drew.trans' cd)).str; rw [show (⟨(enc (bx s)).toArray⟩ : ByteArray) = E from HE.out.symm] at kd)
      | (go_simp; go_at_call 20; refine (rencode_any s (by omega) _).mono ?_; rintro e wd ⟨he, cd⟩; unfold txt at he; rw [← HE.out] at he; subst he)
      | fail)
    all_goals
      go_simp
      go_wp2_with fail
      go_ret
      have hd1 := HC1.out.drew
      first | exact ⟨rfl, (hd1.trans' (ca.trans' (cb.trans' (cc.trans' cd)))).below_nil⟩ | exact ⟨rfl, (hd1.trans' (cb.trans' (ca.trans' (cc.trans' cd)))).below_nil⟩ | exact ⟨rfl, (hd1.trans' (ca.trans' (cb.trans' (cd.trans' cc)))).below_nil⟩ | exact ⟨rfl, (hd1.trans' (cb.trans' (ca.trans' (cd.trans' cc)))).below_nil⟩
  · have hd : decide ((400 : Int) < (s.size : Int)) = true := by simp; omega
    go_enter Try.func8, Try.ntmps8
    go_wp2_with fail
    refine (shown_any _).mono ?_; rintro e w1 ⟨rfl, c1⟩
    go_wp2_with fail
    go_ret
    exact ⟨rfl, c1.below_nil⟩

/-! ### The row's step -/
theorem own : ownKnob Try.prog.godebug = none := by kernel_rfl
theorem laid : laidOutB Try.prog = true := by kernel_rfl

set_option maxRecDepth 100000 in
theorem lifted (os : Os) (started : os.Started) (H : Type) (enc : TypeId × Value → H) :
    ReturnsInHanded {} Try.checked os 8 .any (Rows.huffmanWritesSpec.pre6 enc Try.prog Try.f8 Rows.huffmanWritesRow.domain false) (Rows.huffmanWritesSpec.post enc Try.prog Try.f8 false true false false) := by
  refine lift_law (C := Try.checked) (tb := 4) own started (by kernel_rfl) Try.func8
    (ChangeSpec.witness6 (enc := enc) (C := Try.checked) false ⟨#[], #[.string ⟨#[]⟩], []⟩ 8 (by kernel_rfl) (by kernel_rfl) (by kernel_rfl) (by kernel_rfl))
    laid (by rw [Try.params8]; intro t ht; simp only [List.mem_cons, List.not_mem_nil, or_false] at ht; rcases ht with rfl <;> exact ⟨by kernel_rfl, of_decide_eq_true (by kernel_rfl)⟩) (by kernel_rfl) Try.underlying4 rfl
    (fun ds h => by rw [Try.params8] at h; match ds, h with | [d0], _ => rfl) ?_
  intro W base args ds before hval hA hlt hsz
  rw [Try.params8] at hA hval
  try rw [Try.params8] at hsz
  have hlt0 := hlt
  obtain ⟨v0, vs0, d0, ds0, p0, q0, hargs, rfl, rfl, h0, r0⟩ := trodAll_cons hA
  obtain ⟨rfl, rfl, rfl⟩ := trodAll_nil r0
  obtain rfl : args = #[v0] := by cases args; simp_all
  have l0 : ∀ p ∈ p0, p.block < W.heap.size := fun x hx => hlt x (by simp [hx])
  obtain ⟨s0, rfl, rfl, rfl, m0⟩ := open_string Try.underlying9 (hval 0 9 v0 rfl rfl) h0
  exact walk s0 W m0

theorem over : Rows.huffmanWritesRow.holds Try.pinned (OpenSpec.ofChange Rows.huffmanWritesSpec) :=
  OpenClaim.holds_of_wide 8 Try.f8 rfl rfl rfl rfl rfl rfl rfl ⟨rfl, rfl, rfl, rfl, rfl⟩ rfl rfl rfl rfl rfl (by kernel_rfl) Try.func8 (by kernel_rfl)
    (of_decide_eq_true (by kernel_rfl)) (by unfold Func.isWrapper; first | (rw [if_pos (by decide +kernel)]; kernel_rfl) | (rw [if_neg (by decide +kernel)]; exact ⟨rfl, rfl⟩))
    (fun os started H enc _ => lifted os started H enc)

/-- The statement. -/
theorem proved : Rows.HuffmanWritesSaid :=
  over
#print axioms proved

end Go.Proofs.Ytbdimpakieejjaa.Writes
