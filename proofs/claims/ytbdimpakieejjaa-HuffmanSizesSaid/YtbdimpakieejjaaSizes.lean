/-
  HuffmanSizes: a text's bits are those of its parts: any two texts.
-/
import Derived.Test.YtbdimpakieejjaaShown
import Derived.ChangeMaps5
namespace Go.Proofs.Ytbdimpakieejjaa.Sizes
open Go.ChangeShapes Go.WideShapes Go.ChangeAt Go.RowKit
open Go.ChangeMaps (open_string)
open Go.Proofs.Ytbdimpakieejjaa.B Go.Proofs.Ytbdimpakieejjaa.Hf
set_option linter.unusedVariables false
set_option linter.unusedSimpArgs false

theorem need_append (a b : List UInt8) : need (a ++ b) ≤ need a + need b ∧ need a + need b ≤ need (a ++ b) + 1 := by
  unfold need; rw [spell_append, List.length_append]; omega
/-- The numbers that stand in the array behind k rounds. -/
def lensC (k : Nat) : Array Value := ((List.range 256).map fun s => Value.int .i64 ((if s < k then len s else 0 : Nat) : Int)).toArray
theorem lensC_size (k : Nat) : (lensC k).size = 256 := by simp [lensC]
theorem lensC_get {k s : Nat} (h : s < 256) : (lensC k)[s]? = some (.int .i64 ((if s < k then len s else 0 : Nat) : Int)) := by
  unfold lensC
  rw [List.getElem?_toArray, List.getElem?_map, List.getElem?_range h]; rfl
theorem lensC_next {k : Nat} (h : k < 256) : (lensC k).setIfInBounds k (.int .i64 (len k)) = lensC (k + 1) := by
  apply Array.ext_getElem?
  intro i
  by_cases hi : i < 256
  · by_cases he : k = i
    · subst he
      rw [Array.getElem?_setIfInBounds_self_of_lt (by rw [lensC_size]; exact hi), lensC_get hi, if_pos (by omega)]
    · rw [Array.getElem?_setIfInBounds_ne he, lensC_get hi, lensC_get hi]
      congr 3
      by_cases h2 : i < k
      · rw [if_pos h2, if_pos (by omega)]
      · rw [if_neg h2, if_neg (by omega)]
  · rw [Array.getElem?_eq_none (by rw [Array.size_setIfInBounds, lensC_size]; omega), Array.getElem?_eq_none (by rw [lensC_size]; omega)]
theorem info_256 : (Try.prog.info? 44).map (fun i => (i.zero, i.size)) = some (some (.agg (lensC 0)), 256) := by kernel_rfl
set_option maxRecDepth 100000 in
set_option maxHeartbeats 4000000 in
theorem walk (a b : ByteArray) (W : World) (ha : a.size ≤ maxLen) (hb : b.size ≤ maxLen) :
    Calls Try.prog 10 #[.string a, .string b] W fun e w' => e = .returned (.bool true) ∧ Below W.heap.size W w' := by
  unfold maxLen at ha hb
  have hz := (zero_of_info info_256).1
  go_enter Try.func10, Try.ntmps10
  go_wp2_with fail
  refine (shown_any _).mono ?_; rintro e w1 ⟨rfl, c1⟩
  by_cases h1 : 100000 < a.size
  · have h1' : (100000 : Int) < a.size := by omega
    go_wp2_with fail
    go_ret
    exact ⟨rfl, c1.below_nil⟩
  by_cases h2 : 100000 < b.size
  · have h2' : (100000 : Int) < b.size := by omega
    have h1' : ¬ (100000 : Int) < a.size := by omega
    go_wp2_with fail
    go_ret
    exact ⟨rfl, c1.below_nil⟩
  have h1' : ¬ (100000 : Int) < a.size := by omega
  have h2' : ¬ (100000 : Int) < b.size := by omega
  have a0 : At (w1.alloc (.cells (lensC 0) 44)) w1.heap.size (.cells (lensC 0) 44 (0, 0)) := At.new _ _
  have c2 := c1.alloc (.cells (lensC 0) 44)
  have hBW : W.heap.size ≤ w1.heap.size := c1.size
  clear c1
  go_wp2_with fail
  have hsz : (a ++ b).size = a.size + b.size := ByteArray.size_append
  have hbx : bx (a ++ b) = bx a ++ bx b := by simp [bx]
  have hw1 := c2.size
  generalize a ++ b = t at *
  generalize w1.heap.size = B at *
  generalize w1.alloc (.cells (lensC 0) 44) = w2 at *
  have HBX := Lib.hid hbx; have HSZ := Lib.hid hsz
  clear hbx hsz hz hw1 h1 h2
  go_loopw [9] (fun iv wr => ∃ k : Nat, k ≤ 256 ∧ iv = .int .i64 k ∧ At wr B (.cells (lensC k) 44 (0, 0)) ∧ Chg [] W wr) (fun iv _ => 256 - (intOf iv).toNat)
  case atStart => exact ⟨0, by omega, rfl, a0, c2⟩
  case round =>
    clear a0 c2
    obtain ⟨k, hk, rfl, hat, hch⟩ := hrel
    by_cases hlt : k < 256
    · go_wp2_with fail
      refine (code_ok k (by omega) _).mono ?_; rintro e w4 ⟨rfl, c4⟩
      have a4 := hat.chg c4 (by simp)
      have q0 := a4.cell (lensC_get (k := k) hlt)
      obtain ⟨y, hy⟩ : ∃ y, y = Value.int .i64 ((if k < k then len k else 0 : Nat) : Int) := ⟨_, rfl⟩
      rw [← hy] at q0
      have qf := a4.free k
      have hch2 := hch.trans' c4
      have HA4 := Lib.hid a4; have HCH := Lib.hid hch2
      clear a4 hch hch2 c4 hat hy
      go_wp2_with fail
      go_roundw
      case rel => exact ⟨k + 1, by omega, by go_num, by have := HA4.out.set k (.int .i64 (len k)); rw [lensC_next hlt] at this; exact this, HCH.out.setCell (Or.inr (by dsimp only; omega)) _⟩
      case measure => simp [intOf]; omega
    · obtain rfl : k = 256 := by omega
      go_wp2_with fail
      go_loopw [6, 10] (fun nv iv wr => ∃ k N : Nat, k ≤ t.size ∧ iv = .int .i64 k ∧ N = sl ((bx t).take k) ∧ nv = .int .i64 N ∧ At wr B (.cells (lensC 256) 44 (0, 0)) ∧ Chg [] W wr) (fun _ iv _ => t.size - (intOf iv).toNat)
      case atStart => exact ⟨0, 0, by omega, rfl, rfl, rfl, hat, hch⟩
      case round =>
        clear hat hch
        obtain ⟨k, N, hk, rfl, hN, rfl, hat, hch⟩ := hrel
        have hN1 : N ≤ 30 * k := by
          rw [hN]; exact Nat.le_trans (sl_le _) (by simp; omega)
        have hk2 : k ≤ 200000 := by have := HSZ.out; omega
        by_cases hlt : k < t.size
        · obtain ⟨c, hcc⟩ : ∃ c, c = t[k] := ⟨_, rfl⟩
          have hc7 : c.toNat < 257 := by have := c.toNat_lt; omega
          have hc6 : (c.toNat : Int) < 256 := by have := c.toNat_lt; omega
          have q0 : wr.cell? ⟨B, c.toNat, none⟩ = some (.int .i64 (len c.toNat)) := by
            have := hat.cell (lensC_get (k := 256) c.toNat_lt)
            rw [if_pos c.toNat_lt] at this; exact this
          have hl1 : len c.toNat ≤ 30 := (of_sym hc7).2.1
          have hsn := sl_snoc ((bx t).take k) t[k]
          have htk : (bx t).take (k + 1) = (bx t).take k ++ [t[k]] := take_snoc t k hlt
          rw [← htk, ← hN, ← hcc] at hsn
          rw [hcc] at q0 hl1 hc6 hc7
          have HS := Lib.hid hsn; have HN := Lib.hid hN; have HC := Lib.hid hch; have HA := Lib.hid hat; have HCC := Lib.hid hcc
          clear hsn hN hch hat hcc htk
          go_wp2_with fail
          go_roundw
          case rel => exact ⟨k + 1, N + len t[k].toNat, by omega, by go_num, by rw [HS.out, HCC.out], by go_num, HA.out, HC.out⟩
          case measure => simp [intOf]; omega
        · obtain rfl : k = t.size := by omega
          have hN2 : N = sl (bx t) := by rw [hN, List.take_of_length_le (by simp [bx])]
          have HN := Lib.hid hN2; have HCH := Lib.hid hch
          clear hN hN2 hat hch
          go_wp2_with fail
          refine (size_any a _ (by omega)).mono ?_; rintro e w5 ⟨rfl, c5⟩
          go_wp2_with fail
          refine (size_any b _ (by omega)).mono ?_; rintro e w6 ⟨rfl, c6⟩
          go_wp2_with fail
          refine (size_any t _ (by have := HSZ.out; omega)).mono ?_; rintro e w7 ⟨rfl, c7⟩
          obtain ⟨x, hx⟩ : ∃ x, x = need (bx a) := ⟨_, rfl⟩
          obtain ⟨y, hy⟩ : ∃ y, y = need (bx b) := ⟨_, rfl⟩
          obtain ⟨z, hz⟩ : ∃ z, z = need (bx t) := ⟨_, rfl⟩
          have hzN : z = (N + 7) / 8 := by rw [hz, HN.out]; rfl
          have hxy := need_append (bx a) (bx b)
          rw [← HBX.out, ← hx, ← hy, ← hz] at hxy
          have hx9 : x ≤ 9223372036854 := by
            have h3 := sl_le (bx a); have h4 : (bx a).length = a.size := by simp [bx]
            rw [hx]; unfold need; unfold sl at h3; omega
          have hy9 : y ≤ 9223372036854 := by
            have h3 := sl_le (bx b); have h4 : (bx b).length = b.size := by simp [bx]
            rw [hy]; unfold need; unfold sl at h3; omega
          rw [show need a.data.toList = need (bx a) from rfl, show need b.data.toList = need (bx b) from rfl, show need t.data.toList = need (bx t) from rfl, ← hx, ← hy, ← hz]
          have e1 : ((z : Int) == ((N : Int) + 7) / 8) = true := by simp; omega
          have e2 : decide ((z : Int) ≤ (x : Int) + y) = true := by simp; omega
          have e3 : decide ((x : Int) + y - 1 ≤ (z : Int)) = true := by simp; omega
          have e4 : (z : Int) ≤ (x : Int) + y := by omega
          have e5 : (x : Int) + y - 1 ≤ (z : Int) := by omega
          have HC7 := Lib.hid (((HCH.out.trans' c5).trans' c6).trans' c7)
          clear hx hy hz hzN hxy c5 c6 c7
          go_wp2_with fail
          go_ret
          exact ⟨ret_bool (by simp [e1, e2, e3]), HC7.out.below_nil⟩

/-! ### The row's step -/
theorem own : ownKnob Try.prog.godebug = none := by kernel_rfl
theorem laid : laidOutB Try.prog = true := by kernel_rfl

set_option maxRecDepth 100000 in
theorem lifted (os : Os) (started : os.Started) (H : Type) (enc : TypeId × Value → H) :
    ReturnsInHanded {} Try.checked os 10 .any (Rows.huffmanSizesSpec.pre6 enc Try.prog Try.f10 Rows.huffmanSizesRow.domain false) (Rows.huffmanSizesSpec.post enc Try.prog Try.f10 false true false false) := by
  refine lift_law (C := Try.checked) (tb := 4) own started (by kernel_rfl) Try.func10
    (ChangeSpec.witness6 (enc := enc) (C := Try.checked) false ⟨#[], #[.string ⟨#[]⟩, .string ⟨#[]⟩], []⟩ 8 (by kernel_rfl) (by kernel_rfl) (by kernel_rfl) (by kernel_rfl))
    laid (by rw [Try.params10]; intro t ht; simp only [List.mem_cons, List.not_mem_nil, or_false] at ht; rcases ht with rfl | rfl <;> exact ⟨by kernel_rfl, of_decide_eq_true (by kernel_rfl)⟩) (by kernel_rfl) Try.underlying4 rfl
    (fun ds h => by rw [Try.params10] at h; match ds, h with | [d0, d1], _ => rfl) ?_
  intro W base args ds before hval hA hlt hsz
  rw [Try.params10] at hA hval
  have hlt0 := hlt
  obtain ⟨v0, vs0, d0, ds0, p0, q0, hargs, rfl, rfl, h0, r0⟩ := trodAll_cons hA
  obtain ⟨v1, vs1, d1, ds1, p1, q1, rfl, rfl, rfl, h1, r1⟩ := trodAll_cons r0
  obtain ⟨rfl, rfl, rfl⟩ := trodAll_nil r1
  obtain rfl : args = #[v0, v1] := by cases args; simp_all
  have l0 : ∀ p ∈ p0, p.block < W.heap.size := fun x hx => hlt x (by simp [hx])
  have l1 : ∀ p ∈ p1, p.block < W.heap.size := fun x hx => hlt x (by simp [hx])
  obtain ⟨s0, rfl, rfl, rfl, m0⟩ := open_string Try.underlying9 (hval 0 9 v0 rfl rfl) h0
  obtain ⟨s1, rfl, rfl, rfl, m1⟩ := open_string Try.underlying9 (hval 1 9 v1 rfl rfl) h1
  exact walk s0 s1 W m0 m1

theorem over : Rows.huffmanSizesRow.holds Try.pinned (OpenSpec.ofChange Rows.huffmanSizesSpec) :=
  OpenClaim.holds_of_wide 10 Try.f10 rfl rfl rfl rfl rfl rfl rfl ⟨rfl, rfl, rfl, rfl, rfl⟩ rfl rfl rfl rfl rfl (by kernel_rfl) Try.func10 (by kernel_rfl)
    (of_decide_eq_true (by kernel_rfl)) (by unfold Func.isWrapper; first | (rw [if_pos (by decide +kernel)]; kernel_rfl) | (rw [if_neg (by decide +kernel)]; exact ⟨rfl, rfl⟩))
    (fun os started H enc _ => lifted os started H enc)

/-- The statement. -/
theorem proved : Rows.HuffmanSizesSaid :=
  over
#print axioms proved

end Go.Proofs.Ytbdimpakieejjaa.Sizes
