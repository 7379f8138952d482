/-
  HuffmanOne: what is read was written so; with eight bits more of ones it is taken no more: any octets.
-/
import Derived.Test.YtbdimpakieejjaaShown
import Derived.Test.YtbdimpakieejjaaArg
import Derived.Deep.RegionLaw
namespace Go.Proofs.Ytbdimpakieejjaa.One
open Go.ChangeShapes Go.WideShapes Go.ChangeAt Go.RowKit
open Go.Proofs.Ytbdimpakieejjaa.B Go.Proofs.Ytbdimpakieejjaa.Hf
set_option linter.unusedVariables false
set_option linter.unusedSimpArgs false

theorem dec_ok {l : List UInt8} {most : Int} {x : List UInt8} (h : dec most (bitsOf l) = (x, 0)) : enc x = l ∧ ∃ k, k < 8 ∧ bitsOf l = spell x ++ List.replicate k true := by
  obtain ⟨y, r, h1, h2, _, h4, h5⟩ := drun_back most _ _ [] x (Nat.le_refl _) h
  simp at h1; subst h1
  have hr : r = List.replicate r.length true := by
    apply List.ext_getElem (by simp)
    intro i hi _
    rw [List.getElem_replicate]
    have := List.all_eq_true.1 h5 _ (List.getElem_mem hi)
    simpa using this
  refine ⟨?_, r.length, h4, by rw [← hr]; exact h2⟩
  have hl : 8 * l.length = (spell x).length + r.length := by rw [← bitsOf_length, h2, List.length_append]
  have hn : need x = l.length := by unfold need; omega
  unfold enc
  rw [hn]
  have : chunks l.length (spell x ++ ones7) = chunks l.length (bitsOf l) := by
    have e1 : spell x ++ ones7 = bitsOf l ++ List.replicate (7 - r.length) true := by
      rw [h2, List.append_assoc]
      congr 1
      rw [hr, ones7, List.replicate_append_replicate]
      congr 1
      simp; omega
    rw [e1, chunks_append _ _ _ (by rw [bitsOf_length]; exact Nat.le_refl _)]
  rw [this, chunks_bitsOf]
theorem dec_more {l : List UInt8} {most : Int} {x : List UInt8} (h : dec most (bitsOf l) = (x, 0)) (hm : (x.length : Int) ≤ most) : dec most (bitsOf (l ++ [255])) = ([], 3) := by
  obtain ⟨_, k, hk, h2⟩ := dec_ok h
  have h8 : bitsOf [(255 : UInt8)] = List.replicate 8 true := by decide +kernel
  rw [bitsOf_append, h2, h8, List.append_assoc, List.replicate_append_replicate]
  unfold dec
  rw [drun_spell most [] x _ (by simpa using hm), List.nil_append, fin_free most x (free_ones (by omega))]
  rw [if_pos (Or.inl (by simp))]
theorem dec_len {l : List UInt8} {most : Int} {x : List UInt8} (h : dec most (bitsOf l) = (x, 0)) : 5 * x.length ≤ 8 * l.length := by
  obtain ⟨_, k, hk, h2⟩ := dec_ok h
  have h1 := spell_len x
  have h3 := bitsOf_length l
  rw [h2, List.length_append] at h3
  omega
theorem dec_err {l : List UInt8} {most : Int} (h : (8 * l.length : Int) < most) : (dec most (bitsOf l)).2 = 0 ∨ dec most (bitsOf l) = ([], 3) :=
  drun_err most _ _ [] (Nat.le_refl _) (by simp [bitsOf_length]; omega)
set_option maxRecDepth 100000 in
set_option maxHeartbeats 4000000 in
theorem walk (v : Value) (l : List UInt8) (W : World) (hm : l.length ≤ maxLen) (hv : BytesOf W v l) :
    Calls Try.prog 5 #[v] W fun e w' => e = .returned (.bool true) ∧ Below W.heap.size W w' := by
  unfold maxLen at hm
  obtain ⟨va, vc, rfl, hc1, hc2⟩ := hv.slice
  go_enter Try.func5, Try.ntmps5
  go_wp2_with fail
  refine (shown_any _).mono ?_; rintro e w1 ⟨rfl, c1⟩
  have b1 := hv.chg0 c1
  clear hv
  by_cases hbig : 1048576 < l.length
  · have hbig' : (1048576 : Int) < l.length := by omega
    go_wp2_with fail
    go_ret
    exact ⟨rfl, c1.below_nil⟩
  have hbig' : ¬ (1048576 : Int) < l.length := by omega
  have hl20 : l.length ≤ 1048576 := by omega
  clear hbig
  go_wp2_with fail
  refine (decode_any _ l 1073741824 _ b1 (by omega)).mono ?_; rintro e w2 ⟨he, c2⟩
  have b2 := b1.chg0 c2
  have c2' := c1.trans' c2
  clear b1 c1 c2
  obtain ⟨x, n, hd⟩ : ∃ x n, dec 1073741824 (bitsOf l) = (x, n) := ⟨_, _, rfl⟩
  rw [hd] at he
  subst he
  have herr := dec_err (l := l) (most := 1073741824) (by omega)
  rw [hd] at herr
  by_cases hn : n = 0
  · subst hn
    obtain ⟨henc, _⟩ := dec_ok hd
    have hxl := dec_len hd
    have hmore := dec_more hd (by omega)
    have HM := Lib.hid hmore; have HE := Lib.hid henc; have HB2 := Lib.hid b2; have HC2 := Lib.hid c2'
    clear hd herr henc hmore b2 c2'
    go_wp2_with (at_builtin; refine app_any rfl _ _ rfl w2.heap.size _ [] rfl (OwnB.empty (Nat.le_refl _)) _ l rfl (HB2.out.chg0 ((Chg.refl _).alloc _)) (by simp; omega) (by simp) ?_)
    intro v1 w3 o3 ch3 fr3
    have D3 : Chg [] w2 w3 := ((Chg.refl w2).alloc (l := []) (.cells #[] 5)).trans ch3 (fun y hy => Or.inr (by simp [Value.ownBlock] at hy; omega))
    have hs3 := D3.size
    have O3 := Lib.hid o3; have HD3 := Lib.hid D3
    obtain ⟨a1, q1, rfl⟩ := o3.slice
    clear o3 ch3 fr3 D3
    go_wp2_with (at_builtin; refine app_any rfl _ _ rfl w2.heap.size _ l rfl (O3.out.alloc _) _ [255] rfl (lit_bytes _ 255 _ rfl) (by simp; omega) (by simp; omega) ?_)
    intro v4 w4 o4 ch4 fr4
    have D4 : Chg [] w2 w4 := (HD3.out.alloc (.cells #[.int .u8 255] 5)).trans ch4 (fun y hy => Or.inr (O3.out.lo y hy))
    have B4 := o4.bytes
    obtain ⟨a4, q4, rfl⟩ := o4.slice
    rw [show (l ++ [(255 : UInt8)]).length = l.length + 1 by simp] at B4 ⊢
    clear o4 ch4 fr4
    go_wp2_with fail
    refine (decode_any _ (l ++ [255]) 1073741824 _ B4 (by simp; omega)).mono ?_; rintro e w5 ⟨he, c5⟩
    rw [HM.out] at he
    subst he
    have D5 := D4.trans' c5
    have b5 : BytesOf w5 (.slice va l.length vc) l := HB2.out.chg0 D5
    have k0 := (b5.chg0 ((Chg.refl w5).drew)).str

    have HB5 := Lib.hid b5; have HD5 := Lib.hid D5
    have hxs : (⟨x.toArray⟩ : ByteArray).size ≤ 17592186044416 := by show x.toArray.size ≤ _; simp; omega
    clear B4 c5 D4 D5 b5 hs3
    go_wp2_with fail
    go_region_law (first
      | (go_simp; go_at_call 17; refine (encode_any ⟨x.toArray⟩ 0 _ hxs (Nat.zero_le _)).mono ?_; rintro e w6 ⟨v6, rfl, c6, o6⟩; have k6 := o6.bytes.str; rw [show enc (bx ⟨x.toArray⟩) = l from HE.out] at k6; have k7 := (HB5.out.chg0 (((Chg.refl w5).drew).trans' c6)).str)
      | fail)
    all_goals go_wp2_with fail
    all_goals go_simp
    all_goals go_ret
    all_goals exact ⟨rfl, (HC2.out.trans' (HD5.out.trans' (((Chg.refl w5).drew).trans' c6))).below_nil⟩
  · have h3 : x = [] ∧ n = 3 := by
      rcases herr with h | h
      · exact absurd h hn
      · simpa using h
    obtain ⟨rfl, rfl⟩ := h3
    clear hd herr hn
    go_wp2_with fail
    go_ret
    exact ⟨rfl, c2'.below_nil⟩

/-! ### The row's step -/
theorem own : ownKnob Try.prog.godebug = none := by kernel_rfl
theorem laid : laidOutB Try.prog = true := by kernel_rfl

set_option maxRecDepth 100000 in
theorem lifted (os : Os) (started : os.Started) (H : Type) (enc : TypeId × Value → H) :
    ReturnsInHanded {} Try.checked os 5 .any (Rows.huffmanOneSpec.pre6 enc Try.prog Try.f5 Rows.huffmanOneRow.domain false) (Rows.huffmanOneSpec.post enc Try.prog Try.f5 false true false false) := by
  refine lift_law (C := Try.checked) (tb := 4) own started (by kernel_rfl) Try.func5
    (ChangeSpec.witness6 (enc := enc) (C := Try.checked) false ⟨#[], #[.slice none 0 0], []⟩ 8 (by kernel_rfl) (by kernel_rfl) (by kernel_rfl) (by kernel_rfl))
    laid (by rw [Try.params5]; intro t ht; simp only [List.mem_cons, List.not_mem_nil, or_false] at ht; rcases ht with rfl <;> exact ⟨by kernel_rfl, of_decide_eq_true (by kernel_rfl)⟩) (by kernel_rfl) Try.underlying4 rfl
    (fun ds h => by rw [Try.params5] at h; match ds, h with | [d0], _ => rfl) ?_
  intro W base args ds before hval hA hlt hsz
  rw [Try.params5] at hA hval
  have hlt0 := hlt
  obtain ⟨v0, vs0, d0, ds0, p0, q0, hargs, rfl, rfl, h0, r0⟩ := trodAll_cons hA
  obtain ⟨rfl, rfl, rfl⟩ := trodAll_nil r0
  obtain rfl : args = #[v0] := by cases args; simp_all
  have l0 : ∀ p ∈ p0, p.block < W.heap.size := fun x hx => hlt x (by simp [hx])
  obtain ⟨l0, m0, s0⟩ := open_bytes (hval 0 30 v0 rfl rfl) h0 l0
  exact walk v0 l0 W m0 s0

theorem over : Rows.huffmanOneRow.holds Try.pinned (OpenSpec.ofChange Rows.huffmanOneSpec) :=
  OpenClaim.holds_of_wide 5 Try.f5 rfl rfl rfl rfl rfl rfl rfl ⟨rfl, rfl, rfl, rfl, rfl⟩ rfl rfl rfl rfl rfl (by kernel_rfl) Try.func5 (by kernel_rfl)
    (of_decide_eq_true (by kernel_rfl)) (by unfold Func.isWrapper; first | (rw [if_pos (by decide +kernel)]; kernel_rfl) | (rw [if_neg (by decide +kernel)]; exact ⟨rfl, rfl⟩))
    (fun os started H enc _ => lifted os started H enc)

/-- The statement. -/
theorem proved : Rows.HuffmanOneSaid :=
  over
#print axioms proved

end Go.Proofs.Ytbdimpakieejjaa.One
