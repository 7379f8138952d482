/-
  HuffmanBack: what is written is read as it was: any text (of bulk at most the second form's bound).
-/
import Derived.Test.YtbdimpakieejjaaShown
import Derived.Test.YtbdimpakieejjaaUpto
import Derived.ChangeMaps5
namespace Go.Proofs.Ytbdimpakieejjaa.Back
open Go.ChangeShapes Go.WideShapes Go.ChangeAt Go.RowKit
open Go.ChangeMaps (open_string)
open Go.Proofs.Ytbdimpakieejjaa.B Go.Proofs.Ytbdimpakieejjaa.Hf
set_option linter.unusedVariables false
set_option linter.unusedSimpArgs false

theorem dec_enc (l : List UInt8) (most : Int) (h : (l.length : Int) ≤ most) : dec most (bitsOf (enc l)) = (l, 0) := by
  rw [enc_bits]
  exact dec_spell most l _ (by unfold need; omega) h
theorem dec_enc_short (l : List UInt8) (most : Int) (h0 : 0 ≤ most) (h : most < (l.length : Int)) : dec most (bitsOf (enc l)) = ([], 4) := by
  rw [enc_bits]
  exact dec_short most l _ h h0
theorem bx_str (s : ByteArray) : (⟨(bx s).toArray⟩ : ByteArray) = s := by simp [bx]
theorem str_ne (s : ByteArray) (h : 0 < s.size) : s.toList.isEmpty = false := by
  rw [ByteArray.toList_eq]
  cases hl : s.data.toList with
  | nil =>
    have h1 : s.data.toList.length = s.size := by simp
    rw [hl] at h1; simp at h1; omega
  | cons _ _ => rfl
theorem enc_le (s : ByteArray) (h : s.size ≤ 1048576) : (enc (bx s)).length ≤ 4194304 := by
  rw [enc_length]
  have h3 := sl_le (bx s)
  have h4 : (bx s).length = s.size := by simp [bx]
  unfold need; unfold sl at h3; omega
set_option maxRecDepth 100000 in
set_option maxHeartbeats 4000000 in
theorem walk (s : ByteArray) (W : World) (hs : s.size ≤ 1048576) :
    Calls Try.prog 9 #[.string s] W fun e w' => e = .returned (.bool true) ∧ Below W.heap.size W w' := by
  have hbl : (bx s).length = s.size := by simp [bx]
  have hle := enc_le s hs
  have HBL := Lib.hid hbl
  clear hbl
  go_enter Try.func9, Try.ntmps9
  go_wp2_with fail
  refine (shown_any _).mono ?_; rintro e w1 ⟨rfl, c1⟩
  go_wp2_with fail
  refine (encode_any s 0 _ (by omega) (Nat.zero_le _)).mono ?_; rintro e w2 ⟨v, rfl, c2, o2⟩
  have c2' := c1.trans' c2
  clear c1 c2
  have b2 := o2.bytes
  obtain ⟨va, vc, rfl⟩ := o2.slice
  clear o2
  go_wp2_with fail
  refine (decode_any _ (enc (bx s)) _ _ b2 (by omega)).mono ?_; rintro e w3 ⟨he, c3⟩
  rw [dec_enc (bx s) (s.size : Int) (by rw [HBL.out]; omega), bx_str] at he
  subst he
  have b3 := b2.chg0 c3
  have c3' := c2'.trans' c3
  clear b2 c2' c3
  go_wp2_with fail
  refine (size_any s _ (by omega)).mono ?_; rintro e w4 ⟨he, c4⟩
  rw [show need s.data.toList = (enc (bx s)).length from (enc_length _).symm] at he
  subst he
  have b4 := b3.chg0 c4
  have c4' := c3'.trans' c4
  clear b3 c3' c4
  by_cases h0 : s.size = 0
  · have hs0 : s = ⟨#[]⟩ := by apply ByteArray.ext; exact Array.eq_empty_of_size_eq_zero h0
    have hz : (((enc (bx s)).length : Int) == 0) = true := by rw [enc_length, hs0]; rfl
    have e0 : s.toList.isEmpty = true := by rw [ByteArray.toList_eq, hs0]; rfl
    clear hs0 h0
    go_wp2_with fail
    go_ret
    exact ⟨rfl, c4'.below_nil⟩
  · have e0 := str_ne s (by omega)
    have hs1 : (0 : Int) ≤ (s.size : Int) - 1 := by omega
    clear h0
    go_wp2_with fail
    refine (decode_any _ (enc (bx s)) _ _ b4 (by omega)).mono ?_; rintro e w5 ⟨he, c5⟩
    rw [dec_enc_short (bx s) ((s.size : Int) - 1) hs1 (by rw [HBL.out]; omega)] at he
    subst he
    go_wp2_with fail
    go_ret
    exact ⟨rfl, (c4'.trans' c5).below_nil⟩

/-! ### The row's step -/
theorem own : ownKnob Try.prog.godebug = none := by kernel_rfl
theorem laid : laidOutB Try.prog = true := by kernel_rfl

set_option maxRecDepth 100000 in
theorem lifted (os : Os) (started : os.Started) (H : Type) (enc : TypeId × Value → H) (F : Stop.Interp) :
    ReturnsInHanded {} Try.checked os 9 .any ((Rows.OpenSpec.upto Rows.huffmanBackSpec).pre6 enc Try.prog Try.f9 Rows.huffmanBackUptoRow.domain false) (((Rows.OpenSpec.upto Rows.huffmanBackSpec).at F).post enc Try.prog Try.f9 false true false false) := by
  refine lift_upto (C := Try.checked) (tb := 4) own started (by kernel_rfl) Try.func9
    (OpenSpec.witness (enc := enc) (C := Try.checked) (s := Rows.OpenSpec.upto Rows.huffmanBackSpec) (k := Rows.uptoSmall) rfl false ⟨#[], #[.string ⟨#[]⟩], []⟩ 8 (by kernel_rfl) (by kernel_rfl) (by kernel_rfl)
      (x := ([.lit (.string [])], [], [])) (by kernel_rfl) rfl (by kernel_rfl))
    laid (by rw [Try.params9]; intro t ht; simp only [List.mem_cons, List.not_mem_nil, or_false] at ht; rcases ht with rfl <;> exact ⟨by kernel_rfl, of_decide_eq_true (by kernel_rfl)⟩) (by kernel_rfl) Try.underlying4 rfl
    (fun ds h => by rw [Try.params9] at h; match ds, h with | [d0], _ => rfl) ?_
  intro W base args ds before hval hA hlt hsz
  rw [Try.params9] at hA hval
  have hlt0 := hlt
  obtain ⟨v0, vs0, d0, ds0, p0, q0, hargs, rfl, rfl, h0, r0⟩ := trodAll_cons hA
  obtain ⟨rfl, rfl, rfl⟩ := trodAll_nil r0
  obtain rfl : args = #[v0] := by cases args; simp_all
  have l0 : ∀ p ∈ p0, p.block < W.heap.size := fun x hx => hlt x (by simp [hx])
  obtain ⟨s0, rfl, rfl, rfl, m0⟩ := open_string Try.underlying9 (hval 0 9 v0 rfl rfl) h0
  exact walk s0 W (string_bulk hsz).1

/-- The statement. -/
theorem proved : Rows.HuffmanBackUptoSaid :=
  OpenClaim.holds_of_cond 9 Try.f9 rfl rfl rfl rfl rfl rfl rfl ⟨rfl, rfl, rfl, rfl, rfl⟩ rfl rfl rfl rfl rfl (by kernel_rfl) Try.func9 (by kernel_rfl)
    (of_decide_eq_true (by kernel_rfl)) (by unfold Func.isWrapper; first | (rw [if_pos (by decide +kernel)]; kernel_rfl) | (rw [if_neg (by decide +kernel)]; exact ⟨rfl, rfl⟩))
    (fun os started H enc _ F => lifted os started H enc F)
#print axioms proved

end Go.Proofs.Ytbdimpakieejjaa.Back
