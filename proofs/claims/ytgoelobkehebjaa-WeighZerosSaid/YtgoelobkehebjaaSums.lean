/-
  What weigh's functions compute: sums, Total, at, Pick.
-/
import Derived.Test.YtgoelobkehebjaaWalk
namespace Go.Proofs.Ytgoelobkehebjaa.Wg
open Go.ChangeShapes Go.WideShapes Go.ChangeAt Go.RowKit
open Go.Proofs.Ytgoelobkehebjaa.B Go.Proofs.Ytgoelobkehebjaa.Fl
set_option linter.unusedVariables false
set_option linter.unusedSimpArgs false

theorem run_store_float (P : Program) (w : World) (a : Addr) (m : Mode) (k : FloatKind) (n : Nat) : (store a (.float k n) m).run P w = stored P w a (.float k n) m := run_store P w a _ m rfl
attribute [local go_sem] run_store_float
/-- The sums that have been laid, and noughts behind them. -/
def sumL (w : List Nat) (n : Nat) : List Nat := (List.range n).map (fun i => sumTo w (i + 1))
def cellsTo (w : List Nat) (k n : Nat) : Array Value := ((sumL w k).map (Value.float .f64) ++ List.replicate (n - k) (Value.float .f64 0)).toArray
theorem sumL_len (w : List Nat) (n : Nat) : (sumL w n).length = n := by simp [sumL]
theorem sumL_get {w : List Nat} {n i : Nat} (h : i < n) : (sumL w n)[i]? = some (sumTo w (i + 1)) := by simp [sumL, h]
theorem cellsTo_zero (w : List Nat) (n : Nat) : cellsTo w 0 n = madeCells #[Value.float .f64 0] n := by
  apply Array.ext
  · simp [cellsTo, sumL, size_madeCells]
  · intro i h1 h2
    simp [cellsTo, sumL, madeCells, Nat.mod_one]
theorem cellsTo_set {w : List Nat} {k n : Nat} (h : k < n) : (cellsTo w k n).setIfInBounds k (.float .f64 (sumTo w (k + 1))) = cellsTo w (k + 1) n := by
  unfold cellsTo
  rw [List.setIfInBounds_toArray]
  congr 1
  obtain ⟨m, hm⟩ : ∃ m, n - k = m + 1 := ⟨n - k - 1, by omega⟩
  have hm2 : n - (k + 1) = m := by omega
  rw [hm, hm2, List.set_append_right _ _ (by simp [sumL])]
  simp only [List.length_map, sumL_len, Nat.sub_self, List.replicate_succ, List.set_cons_zero]
  rw [show sumL w (k + 1) = sumL w k ++ [sumTo w (k + 1)] by simp [sumL, List.range_succ]]
  simp
theorem cellsTo_get {w : List Nat} {k n : Nat} (h : k < n) : (cellsTo w k n)[k]? = some (.float .f64 0) := by
  obtain ⟨m, hm⟩ : ∃ m, n - k = m + 1 := ⟨n - k - 1, by omega⟩
  unfold cellsTo
  rw [hm]
  simp [sumL_len, List.replicate_succ]
theorem cellsTo_size (w : List Nat) {k n : Nat} (h : k ≤ n) : (cellsTo w k n).size = n := by simp [cellsTo, sumL]; omega

theorem infoF : (Try.prog.info? 26).map (fun i => (i.zero, i.size, i.bytes)) = some (some (.float .f64 0), 1, 8) := by kernel_rfl

set_option maxHeartbeats 4000000 in
theorem sums_ok (sv : Value) (w : List Nat) (W : World) (hs : SliceOf W sv 1 encF w) (hw : ∀ x ∈ w, okB x = true) (hl : w.length ≤ 64) :
    Calls Try.prog 20 #[sv] W fun e w' => e = .returned (.slice (some ⟨W.heap.size, 0, none⟩) w.length w.length) ∧ At w' W.heap.size (.cells (cellsTo w w.length w.length) 26 (0, 0)) ∧ Below W.heap.size W w' := by
  obtain ⟨a, cap, rfl, hc, hcm, hcell⟩ := hs
  have hm : w.length ≤ maxLen := by omega
  unfold maxLen at hm hcm
  have HCELL := Lib.hid hcell
  have HW := Lib.hid hw
  clear hcell hw
  have hmk := run_make_row' (P := Try.prog) 22 26 (.float .f64 0) 8 Try.underlying22 infoF rfl .i64 .i64 w.length (by omega) (by omega)
  rw [← cellsTo_zero w] at hmk
  have a0 : At (W.alloc (.cells (cellsTo w 0 w.length) 26)) W.heap.size (.cells (cellsTo w 0 w.length) 26 (0, 0)) := At.new _ _
  have hb0 : Below W.heap.size W (W.alloc (.cells (cellsTo w 0 w.length) 26)) := ((Chg.refl W).alloc (l := []) _).below_nil
  go_enter Try.func20, Try.ntmps20
  go_wp2_with fail
  generalize hV : W.heap.size = N at a0 ⊢
  have HB := Lib.hid hV
  clear hV
  go_loopw [4, 12] (fun s i wr => ∃ k : Nat, k ≤ w.length ∧ i = .int .i64 k ∧ s = .float .f64 (sumTo w k) ∧ At wr N (.cells (cellsTo w k w.length) 26 (0, 0)) ∧ Below W.heap.size W wr) (fun _ i _ => w.length - (intOf i).toNat)
  case atStart => exact ⟨0, Nat.zero_le _, rfl, rfl, a0, hb0⟩
  case round =>
    clear a0 hb0 hmk
    obtain ⟨k, hk, rfl, rfl, a1, hbl⟩ := hrel
    by_cases hlt : k < w.length
    · obtain ⟨x, hx⟩ : ∃ x, w[k]? = some x := ⟨_, List.getElem?_eq_getElem hlt⟩
      obtain ⟨b, off, rfl, hb, hcells⟩ := HCELL.out (by omega)
      have c0 : wr.cell? ⟨b, off + k, none⟩ = some (.float .f64 x) := by rw [hbl.cell hb]; have := hcells k x hx 0 (by omega); simpa [encF] using this
      have ha := add_sumTo HW.out (by omega) hx
      have hr := fun w' : World => run_float_arith (P := Try.prog) w' .add 26 .f64 _ _ _ ha
      clear ha hcells
      have hcell : wr.cell? ⟨N, k, none⟩ = some (.float .f64 0) := a1.cell (cellsTo_get hlt)
      have hfr := a1.free k
      have HX := Lib.hid hx
      clear hx
      have hbn : b < wr.heap.size := Nat.lt_of_lt_of_le hb hbl.size
      obtain ⟨s0, hs0⟩ : ∃ s0, s0 = sumTo w k := ⟨_, rfl⟩
      obtain ⟨s1, hs1⟩ : ∃ s1, s1 = sumTo w (k + 1) := ⟨_, rfl⟩
      rw [← hs0, ← hs1] at hr
      rw [← hs0]
      have HS0 := Lib.hid hs0; have HS1 := Lib.hid hs1
      clear hs0 hs1
      go_wp2_with fail
      go_roundw
      case rel =>
        refine ⟨k + 1, by omega, by go_num, by rw [HS1.out], ?_, ?_⟩
        · rw [← cellsTo_set hlt, ← HS1.out]
          exact a1.set k _
        · (repeat (refine Below.setCell ?_ (by dsimp only; have := HB.out; omega) _)); exact hbl
      case measure => simp [intOf]; omega
    · obtain rfl : k = w.length := by omega
      go_wp2_with fail
      go_ret
      exact ⟨by rw [HB.out]; rfl, by rw [HB.out]; exact a1, hbl⟩

theorem sliceOf_sums {w : List Nat} {W : World} {N : Nat} (h : At W N (.cells (cellsTo w w.length w.length) 26 (0, 0))) (hl : w.length ≤ 64) : SliceOf W (.slice (some ⟨N, 0, none⟩) w.length w.length) 1 encF (sumL w w.length) := by
  refine ⟨some ⟨N, 0, none⟩, w.length, by rw [sumL_len], by rw [sumL_len]; exact Nat.le_refl _, by unfold maxLen; omega, fun h0 => ⟨N, 0, rfl, h.lt, fun i z hz j hj => ?_⟩⟩
  obtain rfl : j = 0 := by omega
  have hi : i < w.length := by have := (List.getElem?_eq_some_iff.1 hz).1; rw [sumL_len] at this; exact this
  refine h.cell ?_
  unfold cellsTo
  obtain ⟨g1, g2⟩ := List.getElem?_eq_some_iff.1 hz
  simp [encF, sumL_len, hi, g2]
end Go.Proofs.Ytgoelobkehebjaa.Wg
