/-
  HintsWrites: a number has one row of octets: any octet, prefix and number.
-/
import Derived.Test.YtpelnhfohfojhaaShow
namespace Go.Proofs.Ytpelnhfohfojhaa.HWrites
open Go.ChangeShapes Go.WideShapes Go.ChangeAt Go.RowKit
open Go.Proofs.Ytpelnhfohfojhaa.B Go.Proofs.Ytpelnhfohfojhaa.Hi
set_option linter.unusedVariables false
set_option linter.unusedSimpArgs false

set_option maxRecDepth 100000 in
set_option maxHeartbeats 4000000 in
theorem walk (f : UInt8) (p v : Int) (W : World) :
    Calls Try.prog 3 #[.int .u8 (f.toNat : Int), .int .i64 p, .int .i64 v] W fun e w' => e = .returned (.bool true) ∧ Below W.heap.size W w' := by
  obtain ⟨E, hE⟩ : ∃ E : ByteArray, E = ⟨(putI f p v).1.toArray⟩ := ⟨_, rfl⟩
  have HE := Lib.hid hE
  clear hE
  go_enter Try.func3, Try.ntmps3
  go_wp2_with fail
  refine (shown_any _).mono ?_; rintro e w1 ⟨rfl, c1⟩
  go_wp2_with fail
  refine (putint_any f p v _).mono ?_; rintro e w2 ⟨rv, rfl, o2, h2⟩
  have c2 := c1.trans' h2
  clear c1 h2
  go_wp2_with fail
  refine (rputint_any f p v _).mono ?_; rintro e w3 ⟨he, h3⟩
  rw [show txt (putI f p v).1 = .string E by rw [HE.out]] at he
  subst he
  have k := (o2.bytes.chg0 h3).str
  rw [← HE.out] at k
  have c3 := c2.trans' h3
  clear c2 h3 o2
  go_wp2_with fail
  go_ret
  exact ⟨rfl, c3.below_nil⟩
theorem walk' (a p v : Int) (W : World) (ha : (Lit.int .u8 a).wf = true) :
    Calls Try.prog 3 #[.int .u8 a, .int .i64 p, .int .i64 v] W fun e w' => e = .returned (.bool true) ∧ Below W.heap.size W w' := by
  have h : 0 ≤ a ∧ a ≤ 255 := by
    simp [Lit.wf, IntKind.min, IntKind.max, IntKind.signed, IntKind.bits] at ha; omega
  obtain ⟨n, rfl⟩ := Int.eq_ofNat_of_zero_le h.1
  have := walk (UInt8.ofNat n) p v W
  rwa [oct_num (by omega)] at this

/-! ### The row's step -/
theorem own : ownKnob Try.prog.godebug = none := by kernel_rfl
theorem laid : laidOutB Try.prog = true := by kernel_rfl

set_option maxRecDepth 100000 in
theorem lifted (os : Os) (started : os.Started) (H : Type) (enc : TypeId × Value → H) :
    ReturnsInHanded {} Try.checked os 3 .any (Rows.hintsWritesSpec.pre6 enc Try.prog Try.f3 Rows.hintsWritesRow.domain false) (Rows.hintsWritesSpec.post enc Try.prog Try.f3 false true false false) := by
  refine lift_law (C := Try.checked) (tb := 4) own started (by kernel_rfl) Try.func3
    (ChangeSpec.witness6 (enc := enc) (C := Try.checked) false ⟨#[], #[.int .u8 0, .int .i64 0, .int .i64 0], []⟩ 8 (by kernel_rfl) (by kernel_rfl) (by kernel_rfl) (by kernel_rfl))
    laid (by rw [Try.params3]; intro t ht; simp only [List.mem_cons, List.not_mem_nil, or_false] at ht; rcases ht with rfl | rfl | rfl <;> exact ⟨by kernel_rfl, of_decide_eq_true (by kernel_rfl)⟩) (by kernel_rfl) Try.underlying4 rfl
    (fun ds h => by rw [Try.params3] at h; match ds, h with | [d0, d1, d2], _ => rfl) ?_
  intro W base args ds before hval hA hlt hsz
  rw [Try.params3] at hA hval
  try rw [Try.params3] at hsz
  have hlt0 := hlt
  obtain ⟨v0, vs0, d0, ds0, p0, q0, hargs, rfl, rfl, h0, r0⟩ := trodAll_cons hA
  obtain ⟨v1, vs1, d1, ds1, p1, q1, rfl, rfl, rfl, h1, r1⟩ := trodAll_cons r0
  obtain ⟨v2, vs2, d2, ds2, p2, q2, rfl, rfl, rfl, h2, r2⟩ := trodAll_cons r1
  obtain ⟨rfl, rfl, rfl⟩ := trodAll_nil r2
  obtain rfl : args = #[v0, v1, v2] := by cases args; simp_all
  have l0 : ∀ p ∈ p0, p.block < W.heap.size := fun x hx => hlt x (by simp [hx])
  have l1 : ∀ p ∈ p1, p.block < W.heap.size := fun x hx => hlt x (by simp [hx])
  have l2 : ∀ p ∈ p2, p.block < W.heap.size := fun x hx => hlt x (by simp [hx])
  obtain ⟨a0, rfl, rfl, rfl, wa0⟩ := open_int Try.underlying5 (hval 0 5 v0 rfl rfl) h0
  obtain ⟨a1, rfl, rfl, rfl, wa1⟩ := open_int Try.underlying3 (hval 1 3 v1 rfl rfl) h1
  obtain ⟨a2, rfl, rfl, rfl, wa2⟩ := open_int Try.underlying3 (hval 2 3 v2 rfl rfl) h2
  exact walk' a0 a1 a2 W wa0

theorem over : Rows.hintsWritesRow.holds Try.pinned (OpenSpec.ofChange Rows.hintsWritesSpec) :=
  OpenClaim.holds_of_wide 3 Try.f3 rfl rfl rfl rfl rfl rfl rfl ⟨rfl, rfl, rfl, rfl, rfl⟩ rfl rfl rfl rfl rfl (by kernel_rfl) Try.func3 (by kernel_rfl)
    (of_decide_eq_true (by kernel_rfl)) (by unfold Func.isWrapper; first | (rw [if_pos (by decide +kernel)]; kernel_rfl) | (rw [if_neg (by decide +kernel)]; exact ⟨rfl, rfl⟩))
    (fun os started H enc _ => lifted os started H enc)

/-- The statement. -/
theorem proved : Rows.HintsWritesSaid :=
  over
#print axioms proved

end Go.Proofs.Ytpelnhfohfojhaa.HWrites
