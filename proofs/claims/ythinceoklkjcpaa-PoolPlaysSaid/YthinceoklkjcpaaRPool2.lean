/-
  The document's pool: Remove.
-/
import Derived.Test.YthinceoklkjcpaaRPool
import Derived.Deep.RegionHeldLaw
import Derived.Deep.RegionLaw
import Derived.Deep.DeepCutAuto
import Derived.Deep.DrawnRows
namespace Go.Proofs.Ythinceoklkjcpaa.Pool
open Go.ChangeShapes Go.WideShapes Go.ChangeAt Go.RowKit
open Go.Proofs.Ythinceoklkjcpaa.B
set_option linter.unusedVariables false
set_option linter.unusedSimpArgs false

theorem OwnR.none {α : Type} {e : TypeId} {size : Nat} {enc : α → List Value} {w : World} {base : Nat} (hb : base ≤ w.heap.size) : OwnR e size enc (w.alloc (.cells #[] e)) base (.slice (some ⟨w.heap.size, 0, Option.none⟩) 0 0) ([] : List α) := by
  refine ⟨by simp, Or.inr ⟨w.heap.size, 0, #[], rfl, hb, ?_, Nat.le_refl _, by simp [maxLen], by simp, by simp⟩⟩
  exact At.new w _
theorem SliceOf.take {α : Type} {enc : α → List Value} {size : Nat} {w : World} {ad : Option Addr} {n cap k : Nat} {l : List α} (h : SliceOf w (.slice ad n cap) size enc l) (hk : k ≤ l.length) : SliceOf w (.slice ad k cap) size enc (l.take k) := by
  obtain ⟨ad', cap', he, h2, h3, h4⟩ := h
  cases he
  refine ⟨ad, cap, by rw [List.length_take, Nat.min_eq_left hk], by rw [List.length_take]; omega, h3, fun h0 => ?_⟩
  rw [List.length_take] at h0
  obtain ⟨b, off, h5, h6, h7⟩ := h4 (by omega)
  refine ⟨b, off, h5, h6, fun i z hz => ?_⟩
  rw [List.getElem?_take] at hz
  split at hz
  · exact h7 i z hz
  · cases hz
theorem OwnR.weak {α : Type} {e : TypeId} {size : Nat} {enc : α → List Value} {w : World} {b1 b2 : Nat} {v : Value} {l : List α} (h : OwnR e size enc w b2 v l) (hb : b1 ≤ b2) : OwnR e size enc w b1 v l := by
  refine ⟨h.1, ?_⟩
  rcases h.2 with h2 | ⟨g, cap, cur, q0, q1, q2⟩
  · exact Or.inl h2
  · exact Or.inr ⟨g, cap, cur, q0, Nat.le_trans hb q1, q2⟩
section
variable {W : World} {q : Nat} {most : Int} {cs : List Cn}
set_option maxRecDepth 100000 in
set_option maxHeartbeats 4000000 in
theorem R_remove (d : Int) (w : World) (h : RHas W w q most cs) (hi : Inv most cs) :
    Calls Try.prog 28 #[.pointer (some ⟨q, 0, none⟩), .int .i64 d] w fun e w' => e = .returned (.int .i64 (removeR cs d)) ∧ RHas W w' q most (removeS cs d) ∧ RKeeps w w' := by
  skip
  obtain ⟨sv, hP, hbl⟩ := h
  have hlen := hi.len
  have hm64 := hi.most
  unfold removeR removeS
  cases hp : pos cs d with
  | none =>
    have HAT := Lib.hid (atI_none hp)
    go_enter Try.func28, Try.ntmps28
    go_wp2_with fail
    refine (rat_any d hP (by omega)).mono ?_; rintro e w1 ⟨he, rfl⟩
    rw [HAT.out] at he
    subst he
    go_wp2_with fail
    go_ret
    exact ⟨rfl, ⟨sv, hP, hbl⟩, fun _ _ _ _ _ h => h⟩
  | some i =>
    obtain ⟨g, cap, cur, rfl, hg1, hg2, hg3, hg4, hg5, _⟩ := OwnR.block hP.row (by have := pos_lt hp; omega)
    have hil := pos_lt hp
    have hx := cnAt_get hil
    have x2 : World.cell? w ⟨g, i * 4 + 2, none⟩ = some (.int .i64 (cnAt cs i).used) := OwnR.cellAt cells_len hP.row hx (by omega)
    have c0 : World.cell? w ⟨q, 1, none⟩ = some (.slice (some ⟨g, 0, none⟩) cs.length cap) := hP.head.cell rfl
    have hiI : (i : Int) < (cs.length : Int) := by omega
    have hi0 : (0 : Int) ≤ (i : Int) := by omega
    have hiC : (i : Int) ≤ (cap : Int) := by omega
    obtain ⟨I1, hI1⟩ : ∃ I1, I1 = i + 1 := ⟨_, rfl⟩
    have hiL : (I1 : Int) ≤ (cs.length : Int) := by omega
    have hi10 : (0 : Int) ≤ (I1 : Int) := by omega
    have hiw : IntKind.i64.wrap ((i : Int) + 1) = (I1 : Int) := by rw [IntKind.wrap_i64]; omega
    have hiI1 : (i : Int) ≤ (I1 : Int) := by omega
    have HI1 := Lib.hid hI1
    have hlc : (cs.length : Int) ≤ (cap : Int) := by omega
    unfold maxLen at hg4
    clear hI1
    have HAT := Lib.hid (atI_some hp); have HP := Lib.hid hP; have HBL := Lib.hid hbl
    clear hx hp hbl
    go_enter Try.func28, Try.ntmps28
    go_wp2_with fail
    refine (rat_any d HP.out (by omega)).mono ?_; rintro e w1 ⟨he, rfl⟩
    rw [HAT.out] at he
    subst he
    go_upto_region 5 with fail
    have hqs : q < w1.heap.size := HP.out.head.lt
    have kq : World.cell? w1.drew ⟨q, 1, none⟩ = some (.slice (some ⟨g, 0, none⟩) cs.length cap) := c0
    have hrow0 : SliceOf (w1.drew.alloc (.cells #[] 58)) (.slice (some ⟨g, 0, none⟩) i cap) 4 cells (cs.take i) := (SliceOf.take (OwnR.sl cells_len (by decide) HP.out.row) (by omega)).chg0 (((Chg.refl w1).drew).alloc _)
    have hdrp : cs.eraseIdx i = cs.take i ++ cs.drop I1 := by rw [HI1.out, List.eraseIdx_eq_take_drop_succ]
    have hdl : (cs.drop I1).length ≤ 64 := by rw [List.length_drop]; omega
    have htl : (cs.take i).length ≤ 64 := by rw [List.length_take]; omega
    have HR0 := Lib.hid hrow0; have HDRP := Lib.hid hdrp
    clear hrow0 hdrp
    by_cases hck : cap = I1
    · subst hck
      have hz : cs.length = cap := by omega
      have hdr : ∀ w', Chg [] w1 w' → SliceOf w' (.slice (some ⟨g, 0, none⟩) 0 0) 4 cells (cs.drop cap) := by
        intro w' _
        rw [List.drop_of_length_le (by omega)]
        exact ⟨_, 0, rfl, by simp, by simp [maxLen], by simp⟩
      have HDR := Lib.hid hdr
      clear hdr
      skip
      go_region_law (first
        | (refine step_row cells_len cells_one 38 Try.underlying38 infoRC (by decide) (by omega) rfl (.tmp 21) (.tmp 27) rfl w1.heap.size (.slice (some ⟨w1.heap.size, 0, none⟩) 0 0) [] rfl (OwnR.none (w := w1.drew) (Nat.le_refl _)) _ (cs.take i) rfl HR0.out (by simp [maxLen]; omega) (by simp; omega) (by simp) ?_
           intro v2 w2 own2 ch2 _
           have hcA : Chg [] w1 w2 := (((Chg.refl w1).drew).alloc _).trans ch2 (fun x hx => Or.inr (by simp [Value.ownBlock] at hx; omega))
           have own2' : OwnC w2 w1.heap.size v2 (cs.take i) := own2
           have hq2 := HP.out.chg hcA (by simp)
           have kq2 : World.cell? w2 ⟨q, 1, none⟩ = some (.slice (some ⟨g, 0, none⟩) cs.length cap) := hq2.head.cell rfl
           have HCA := Lib.hid hcA; have O2 := Lib.hid own2'
           have hs2 := hcA.size
           clear hq2 hcA own2 own2' ch2)
        | (refine step_row cells_len cells_one 38 Try.underlying38 infoRC (by decide) (by omega) rfl (.tmp 28) (.tmp 35) rfl w1.heap.size v2 (cs.take i) rfl O2.out _ (cs.drop cap) rfl (HDR.out _ HCA.out) (by simp only [maxLen]; omega) (by omega) hs2 ?_
           intro v3 w3 own3 ch3 _
           have hcB : Chg [] w1 w3 := HCA.out.trans ch3 (fun x hx => Or.inr (O2.out.lo x hx))
           have hq3 := HP.out.chg hcB (by simp)
           obtain ⟨vb, n3, vc3, rfl⟩ : ∃ va n vc, v3 = .slice va n vc := by obtain ⟨va, vc, h, _⟩ := OwnR.slice own3; exact ⟨va, _, vc, h⟩
           have kq3 : World.cell? w3 ⟨q, 1, none⟩ = some (.slice (some ⟨g, 0, none⟩) cs.length cap) := hq3.head.cell rfl
           have kf3 : ∀ j, World.frozen? w3 ⟨q, j, none⟩ = false := fun j => hq3.head.free j
           have HCB := Lib.hid hcB; have O3 := Lib.hid own3; have HQ3 := Lib.hid hq3
           clear hq3 hcB own3 ch3)
        | fail)
      all_goals
        go_wp2_with fail
        go_ret
        have hlo : ∀ x ∈ (Value.slice vb n3 vc3).ownBlock.toList, w1.heap.size ≤ x := O3.out.lo
        have hb := HBL.out.size
        have h6 := RHas.of HP.out HBL.out ((HCB.out.mono (m := rfoot q (.slice (some ⟨g, 0, none⟩) cs.length cap)) (by simp)).setCell (p := ⟨q, 1, none⟩) (Or.inl (by simp [rfoot])) (.slice vb n3 vc3)) (sv' := .slice vb n3 vc3) (cs' := cs.eraseIdx i) ⟨HQ3.out.head.set 1 (.slice vb n3 vc3), by rw [HDRP.out]; exact OwnR.chg (ls := [q]) (OwnR.weak O3.out hb) ((Chg.refl w3).setCell (Or.inl (by simp)) _) (fun x hx => by have := hlo x (by simp [hx]); simp; omega), HP.out.lo⟩
        exact ⟨rfl, h6.1, h6.2⟩
    · have hdr : ∀ w', Chg [] w1 w' → SliceOf w' (.slice (some ⟨g, I1 * 4, none⟩) (cs.length - I1) (cap - I1)) 4 cells (cs.drop I1) := by
        intro w' hc
        have := SliceOf.cut (OwnR.sl cells_len (by decide) (HP.out.row.chg0 hc)) I1 cs.length (by omega) (Nat.le_refl _) (c' := cap - I1) (by omega) (by unfold maxLen; omega)
        rw [List.take_of_length_le (by simp), Nat.zero_add] at this
        exact this
      have HDR := Lib.hid hdr
      clear hdr
      skip
      go_region_law (first
        | (refine step_row cells_len cells_one 38 Try.underlying38 infoRC (by decide) (by omega) rfl (.tmp 21) (.tmp 27) rfl w1.heap.size (.slice (some ⟨w1.heap.size, 0, none⟩) 0 0) [] rfl (OwnR.none (w := w1.drew) (Nat.le_refl _)) _ (cs.take i) rfl HR0.out (by simp [maxLen]; omega) (by simp; omega) (by simp) ?_
           intro v2 w2 own2 ch2 _
           have hcA : Chg [] w1 w2 := (((Chg.refl w1).drew).alloc _).trans ch2 (fun x hx => Or.inr (by simp [Value.ownBlock] at hx; omega))
           have own2' : OwnC w2 w1.heap.size v2 (cs.take i) := own2
           have hq2 := HP.out.chg hcA (by simp)
           have kq2 : World.cell? w2 ⟨q, 1, none⟩ = some (.slice (some ⟨g, 0, none⟩) cs.length cap) := hq2.head.cell rfl
           have HCA := Lib.hid hcA; have O2 := Lib.hid own2'
           have hs2 := hcA.size
           clear hq2 hcA own2 own2' ch2)
        | (refine step_row cells_len cells_one 38 Try.underlying38 infoRC (by decide) (by omega) rfl (.tmp 28) (.tmp 35) rfl w1.heap.size v2 (cs.take i) rfl O2.out _ (cs.drop I1) rfl (HDR.out _ HCA.out) (by simp only [maxLen]; omega) (by omega) hs2 ?_
           intro v3 w3 own3 ch3 _
           have hcB : Chg [] w1 w3 := HCA.out.trans ch3 (fun x hx => Or.inr (O2.out.lo x hx))
           have hq3 := HP.out.chg hcB (by simp)
           obtain ⟨vb, n3, vc3, rfl⟩ : ∃ va n vc, v3 = .slice va n vc := by obtain ⟨va, vc, h, _⟩ := OwnR.slice own3; exact ⟨va, _, vc, h⟩
           have kq3 : World.cell? w3 ⟨q, 1, none⟩ = some (.slice (some ⟨g, 0, none⟩) cs.length cap) := hq3.head.cell rfl
           have kf3 : ∀ j, World.frozen? w3 ⟨q, j, none⟩ = false := fun j => hq3.head.free j
           have HCB := Lib.hid hcB; have O3 := Lib.hid own3; have HQ3 := Lib.hid hq3
           clear hq3 hcB own3 ch3)
        | fail)
      all_goals
        go_wp2_with fail
        go_ret
        have hlo : ∀ x ∈ (Value.slice vb n3 vc3).ownBlock.toList, w1.heap.size ≤ x := O3.out.lo
        have hb := HBL.out.size
        have h6 := RHas.of HP.out HBL.out ((HCB.out.mono (m := rfoot q (.slice (some ⟨g, 0, none⟩) cs.length cap)) (by simp)).setCell (p := ⟨q, 1, none⟩) (Or.inl (by simp [rfoot])) (.slice vb n3 vc3)) (sv' := .slice vb n3 vc3) (cs' := cs.eraseIdx i) ⟨HQ3.out.head.set 1 (.slice vb n3 vc3), by rw [HDRP.out]; exact OwnR.chg (ls := [q]) (OwnR.weak O3.out hb) ((Chg.refl w3).setCell (Or.inl (by simp)) _) (fun x hx => by have := hlo x (by simp [hx]); simp; omega), HP.out.lo⟩
        exact ⟨rfl, h6.1, h6.2⟩
end
end Go.Proofs.Ythinceoklkjcpaa.Pool
