/-
  HintsReads: octets begin with a number, or not: any octets, any prefix.
-/
import Derived.Test.YtpelnhfohfojhaaShow
import Derived.Test.YtpelnhfohfojhaaArgW
namespace Go.Proofs.Ytpelnhfohfojhaa.HReads
open Go.ChangeShapes Go.WideShapes Go.ChangeAt Go.RowKit
open Go.Proofs.Ytpelnhfohfojhaa.B Go.Proofs.Ytpelnhfohfojhaa.Hi
open Go.Proofs.Ytpelnhfohfojhaa.Hf (bx)
set_option linter.unusedVariables false
set_option linter.unusedSimpArgs false

set_option maxRecDepth 100000 in
set_option maxHeartbeats 8000000 in
theorem walk (v : Value) (l : List UInt8) (p : Int) (W : World) (hm : l.length ≤ 140737488351232) (hb : BytesOf W v l) :
    Calls Try.prog 4 #[v, .int .i64 p] W fun e w' => e = .returned (.bool true) ∧ Below W.heap.size W w' := by
  obtain ⟨a, cap, rfl, hcap, hcapm⟩ := hb.slice
  unfold maxLen at hcapm
  have HBV := Lib.hid hb
  clear hb
  obtain ⟨E, hE⟩ : ∃ E : ByteArray, E = ⟨l.toArray⟩ := ⟨_, rfl⟩
  have hEx : bx E = l := by rw [hE]; rfl
  have hEs : E.size = l.length := by rw [hE]; rfl
  obtain ⟨G, hG⟩ : ∃ G, G = getI l p := ⟨_, rfl⟩
  have hEb : E.size ≤ 140737488355328 := by omega
  have HE := Lib.hid hE; have HEX := Lib.hid hEx; have HG := Lib.hid hG
  clear hE hEx hEs hG
  go_enter Try.func4, Try.ntmps4
  go_wp2_with fail
  refine (shown_any _).mono ?_; rintro e w1 ⟨rfl, c1⟩
  have b1 := HBV.out.chg0 c1
  have HC1 := Lib.hid c1; have B1 := Lib.hid b1
  clear c1 b1
  go_wp2_with (at_builtin; refine app_any rfl _ _ rfl w1.heap.size (.slice (some ⟨w1.heap.size, 0, none⟩) 0 0) [] rfl (OwnB.empty (Nat.le_refl _)) _ l rfl (B1.out.chg0 ((Chg.refl _).alloc _)) (by simp; omega) (by simp) ?_)
  intro v2 w2 own2 hch2 _
  have c2 : Chg [] W w2 := HC1.out.trans' (((Chg.refl w1).alloc _).trans hch2 (fun x hx => Or.inr (by simp [Value.ownBlock] at hx; omega)))
  have b2 := HBV.out.chg0 c2
  have own2' : OwnB w2 w1.heap.size v2 l := own2
  have C2 := Lib.hid c2; have B2 := Lib.hid b2; have O2 := Lib.hid own2'
  clear c2 b2 own2 own2' hch2
  go_wp2_with fail
  refine (getint_any v2 l p _ O2.out.bytes).mono ?_; rintro e w3 ⟨he, c3⟩
  rw [← HG.out] at he
  subst he
  have b3 := B2.out.chg0 c3
  have k3 := b3.str
  rw [show (⟨l.toArray⟩ : ByteArray) = E from HE.out.symm] at k3
  have o3 := O2.out.bytes.chg0 c3
  have C3 := Lib.hid (C2.out.trans' c3); have B3 := Lib.hid b3; have O3 := Lib.hid o3
  clear b3 o3 c3
  go_wp2_with fail
  refine (rgetint_any E p hEb _).mono ?_; rintro e w4 ⟨he, rfl⟩
  rw [show E.data.toList = l from HEX.out, ← HG.out] at he
  subst he
  have k5 := O3.out.str
  rw [show (⟨l.toArray⟩ : ByteArray) = E from HE.out.symm] at k5
  go_wp2_with fail
  go_ret
  exact ⟨rfl, C3.out.below_nil⟩

/-! ### The row's step -/
theorem own : ownKnob Try.prog.godebug = none := by kernel_rfl
theorem laid : laidOutB Try.prog = true := by kernel_rfl

set_option maxRecDepth 100000 in
theorem lifted (os : Os) (started : os.Started) (H : Type) (enc : TypeId × Value → H) :
    ReturnsInHanded {} Try.checked os 4 .any (Rows.hintsReadsSpec.pre6 enc Try.prog Try.f4 Rows.hintsReadsRow.domain false) (Rows.hintsReadsSpec.post enc Try.prog Try.f4 false true false false) := by
  refine lift_law (C := Try.checked) (tb := 4) own started (by kernel_rfl) Try.func4
    (ChangeSpec.witness6 (enc := enc) (C := Try.checked) false ⟨#[], #[.slice none 0 0, .int .i64 0], []⟩ 8 (by kernel_rfl) (by kernel_rfl) (by kernel_rfl) (by kernel_rfl))
    laid (by rw [Try.params4]; intro t ht; simp only [List.mem_cons, List.not_mem_nil, or_false] at ht; rcases ht with rfl | rfl <;> exact ⟨by kernel_rfl, of_decide_eq_true (by kernel_rfl)⟩) (by kernel_rfl) Try.underlying4 rfl
    (fun ds h => by rw [Try.params4] at h; match ds, h with | [d0, d1], _ => rfl) ?_
  intro W base args ds before hval hA hlt hsz
  rw [Try.params4] at hA hval
  try rw [Try.params4] at hsz
  have hlt0 := hlt
  obtain ⟨v0, vs0, d0, ds0, p0, q0, hargs, rfl, rfl, h0, r0⟩ := trodAll_cons hA
  obtain ⟨v1, vs1, d1, ds1, p1, q1, rfl, rfl, rfl, h1, r1⟩ := trodAll_cons r0
  obtain ⟨rfl, rfl, rfl⟩ := trodAll_nil r1
  obtain rfl : args = #[v0, v1] := by cases args; simp_all
  have l0 : ∀ p ∈ p0, p.block < W.heap.size := fun x hx => hlt x (by simp [hx])
  have l1 : ∀ p ∈ p1, p.block < W.heap.size := fun x hx => hlt x (by simp [hx])
  obtain ⟨l0, m0, s0⟩ := open_bytes_w (hval 0 23 v0 rfl rfl) h0 l0 (small_of hsz (j := 0) rfl rfl)
  obtain ⟨a1, rfl, rfl, rfl, wa1⟩ := open_int Try.underlying3 (hval 1 3 v1 rfl rfl) h1
  exact walk v0 l0 a1 W m0 s0

theorem over : Rows.hintsReadsRow.holds Try.pinned (OpenSpec.ofChange Rows.hintsReadsSpec) :=
  OpenClaim.holds_of_wide 4 Try.f4 rfl rfl rfl rfl rfl rfl rfl ⟨rfl, rfl, rfl, rfl, rfl⟩ rfl rfl rfl rfl rfl (by kernel_rfl) Try.func4 (by kernel_rfl)
    (of_decide_eq_true (by kernel_rfl)) (by unfold Func.isWrapper; first | (rw [if_pos (by decide +kernel)]; kernel_rfl) | (rw [if_neg (by decide +kernel)]; exact ⟨rfl, rfl⟩))
    (fun os started H enc _ => lifted os started H enc)

/-- The statement. -/
theorem proved : Rows.HintsReadsSaid :=
  over
#print axioms proved

end Go.Proofs.Ytpelnhfohfojhaa.HReads
