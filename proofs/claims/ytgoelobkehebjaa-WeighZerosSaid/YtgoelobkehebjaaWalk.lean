/-
  What weigh's functions compute: Right, sums, Total, at, Pick.
-/
import Derived.Test.YtgoelobkehebjaaLift
import Derived.Test.YtgoelobkehebjaaRows
import Derived.Test.YtgoelobkehebjaaIee
import Derived.LoopTactic
import Derived.Deep.OwnRows
import Derived.WalkLawsBesides
namespace Go.Proofs.Ytgoelobkehebjaa.Wg
open Go.ChangeShapes Go.WideShapes Go.ChangeAt Go.RowKit
open Go.Proofs.Ytgoelobkehebjaa.B Go.Proofs.Ytgoelobkehebjaa.Fl
set_option linter.unusedVariables false
set_option linter.unusedSimpArgs false

def encF (x : Nat) : List Value := [.float .f64 x]
/-- Some weight of the first ones is above 0. -/
def anyTo (w : List Nat) (k : Nat) : Bool := (w.take k).any posB
def rightW (w : List Nat) : Bool := w.all okB && (w.any posB && decide (w.length ≤ 64))
theorem anyTo_zero (w : List Nat) : anyTo w 0 = false := rfl
theorem anyTo_succ {w : List Nat} {k x : Nat} (h : w[k]? = some x) : anyTo w (k + 1) = (anyTo w k || posB x) := by
  unfold anyTo; rw [List.take_add_one, h]; simp
theorem anyTo_all (w : List Nat) : anyTo w w.length = w.any posB := by unfold anyTo; rw [List.take_length]
theorem rightW_bad {w : List Nat} {k x : Nat} (h : w[k]? = some x) (hx : okB x = false) : rightW w = false := by
  unfold rightW
  have : w.all okB = false := by
    rw [List.all_eq_false]; exact ⟨x, List.mem_of_getElem? h, by simp [hx]⟩
  rw [this]; rfl
theorem okTo_succ {w : List Nat} {k x : Nat} (h : w[k]? = some x) (hk : ∀ x ∈ w.take k, okB x = true) (hx : okB x = true) : ∀ x ∈ w.take (k + 1), okB x = true := by
  rw [List.take_add_one, h]
  intro y hy
  simp at hy
  rcases hy with hy | hy
  · exact hk y hy
  · rw [hy]; exact hx
theorem rightW_end {w : List Nat} (h : ∀ x ∈ w.take w.length, okB x = true) : rightW w = (anyTo w w.length && decide (w.length ≤ 64)) := by
  rw [anyTo_all]
  rw [List.take_length] at h
  unfold rightW
  have : w.all okB = true := by rw [List.all_eq_true]; exact h
  rw [this]; rfl
theorem rightW_ok {w : List Nat} (h : rightW w = true) : (∀ x ∈ w, okB x = true) ∧ 0 < w.length ∧ w.length ≤ 64 := by
  unfold rightW at h
  simp only [Bool.and_eq_true, List.all_eq_true, decide_eq_true_eq] at h
  refine ⟨h.1, ?_, h.2.2⟩
  cases w with
  | nil => simp at h
  | cons => simp


theorem facts' {x : Nat} (hx : x < 2 ^ 64) :
    (okB x = true ∧ posB x = true ∧ FloatKind.f64.format.order x x = some .eq ∧ FloatKind.f64.format.order x 0 = some .gt ∧ FloatKind.f64.format.order x 4741671816366391296 = some .lt) ∨
    (okB x = true ∧ posB x = true ∧ FloatKind.f64.format.order x x = some .eq ∧ FloatKind.f64.format.order x 0 = some .gt ∧ FloatKind.f64.format.order x 4741671816366391296 = some .eq) ∨
    (okB x = true ∧ posB x = false ∧ FloatKind.f64.format.order x x = some .eq ∧ FloatKind.f64.format.order x 0 = some .eq ∧ FloatKind.f64.format.order x 4741671816366391296 = some .lt) ∨
    (okB x = true ∧ posB x = false ∧ FloatKind.f64.format.order x x = some .eq ∧ FloatKind.f64.format.order x 0 = some .eq ∧ FloatKind.f64.format.order x 4741671816366391296 = some .eq) ∨
    (okB x = false ∧ FloatKind.f64.format.order x x = none ∧ FloatKind.f64.format.order x 0 = none ∧ FloatKind.f64.format.order x 4741671816366391296 = none) ∨
    (okB x = false ∧ FloatKind.f64.format.order x x = some .eq ∧ FloatKind.f64.format.order x 0 = some .lt ∧ FloatKind.f64.format.order x 4741671816366391296 = some .lt) ∨
    (okB x = false ∧ FloatKind.f64.format.order x x = some .eq ∧ FloatKind.f64.format.order x 0 = some .gt ∧ FloatKind.f64.format.order x 4741671816366391296 = some .gt) := by
  have h := facts hx
  change (okB x = true ∧ FloatKind.f64.format.order x x = some .eq ∧ (posB x = true ∧ FloatKind.f64.format.order x 0 = some .gt ∨ posB x = false ∧ FloatKind.f64.format.order x 0 = some .eq) ∧ (FloatKind.f64.format.order x 4741671816366391296 = some .lt ∨ FloatKind.f64.format.order x 4741671816366391296 = some .eq)) ∨
    (okB x = false ∧ ((FloatKind.f64.format.order x x = none ∧ FloatKind.f64.format.order x 0 = none ∧ FloatKind.f64.format.order x 4741671816366391296 = none) ∨ (FloatKind.f64.format.order x x = some .eq ∧ FloatKind.f64.format.order x 0 = some .lt ∧ FloatKind.f64.format.order x 4741671816366391296 = some .lt) ∨ (FloatKind.f64.format.order x x = some .eq ∧ FloatKind.f64.format.order x 0 = some .gt ∧ FloatKind.f64.format.order x 4741671816366391296 = some .gt))) at h
  generalize FloatKind.f64.format.order x x = A at *
  generalize FloatKind.f64.format.order x 0 = B at *
  generalize FloatKind.f64.format.order x 4741671816366391296 = C at *
  rcases h with ⟨a, b, ⟨c, d⟩ | ⟨c, d⟩, e | e⟩ | ⟨a, ⟨b, c, d⟩ | ⟨b, c, d⟩ | ⟨b, c, d⟩⟩ <;> simp [a, b, c, d, *]

set_option maxHeartbeats 4000000 in
theorem right_any (sv : Value) (w : List Nat) (W : World) (hs : SliceOf W sv 1 encF w) (hw : ∀ x ∈ w, x < 2 ^ 64) :
    Calls Try.prog 12 #[sv] W fun e w' => e = .returned (.bool (rightW w)) ∧ w' = W := by
  obtain ⟨a, cap, rfl, hc, hcm, hcell⟩ := hs
  have hm : w.length ≤ maxLen := by omega
  unfold maxLen at hm hcm
  have HCELL := Lib.hid hcell
  have HW := Lib.hid hw
  clear hcell hw
  go_enter Try.func12, Try.ntmps12
  go_wp2_with fail
  go_loop [3, 8] (fun so i => ∃ k : Nat, k ≤ w.length ∧ i = .int .i64 k ∧ so = .bool (anyTo w k) ∧ (∀ x ∈ w.take k, okB x = true)) (fun _ i => w.length - (intOf i).toNat)
  case atStart => exact ⟨0, Nat.zero_le _, rfl, rfl, by simp⟩
  case round =>
    obtain ⟨k, hk, rfl, rfl, hok⟩ := hrel
    have HOK := Lib.hid hok
    clear hok
    obtain ⟨so, hso⟩ : ∃ so, so = anyTo w k := ⟨_, rfl⟩
    rw [← hso]
    have HSO := Lib.hid hso
    clear hso
    by_cases hlt : k < w.length
    · skip
      obtain ⟨x, hx⟩ : ∃ x, w[k]? = some x := ⟨_, List.getElem?_eq_getElem hlt⟩
      obtain ⟨b, off, rfl, hb, c0'⟩ := HCELL.out (by omega)
      have c0 : W.cell? ⟨b, off + k, none⟩ = some (.float .f64 x) := by have := c0' k x hx 0 (by omega); simpa [encF] using this
      have hbx := HW.out x (List.mem_of_getElem? hx)
      clear c0'
      have HX := Lib.hid hx
      clear hx
      rcases facts' hbx with ⟨h1, hp, o1, o2, o3⟩ | ⟨h1, hp, o1, o2, o3⟩ | ⟨h1, hp, o1, o2, o3⟩ | ⟨h1, hp, o1, o2, o3⟩ | ⟨h1, o1, o2, o3⟩ | ⟨h1, o1, o2, o3⟩ | ⟨h1, o1, o2, o3⟩
      · skip
        have HO := Lib.hid h1; have HP := Lib.hid hp
        clear h1 hp
        cases so
        · go_wp2_with fail
          go_round
          case rel => exact ⟨k + 1, by omega, by go_num, by rw [anyTo_succ HX.out, ← HSO.out, HP.out]; rfl, okTo_succ HX.out HOK.out HO.out⟩
          case measure => simp [intOf]; omega
        · go_wp2_with fail
          go_round
          case rel => exact ⟨k + 1, by omega, by go_num, by rw [anyTo_succ HX.out, ← HSO.out, HP.out]; rfl, okTo_succ HX.out HOK.out HO.out⟩
          case measure => simp [intOf]; omega
      · skip
        have HO := Lib.hid h1; have HP := Lib.hid hp
        clear h1 hp
        cases so
        · go_wp2_with fail
          go_round
          case rel => exact ⟨k + 1, by omega, by go_num, by rw [anyTo_succ HX.out, ← HSO.out, HP.out]; rfl, okTo_succ HX.out HOK.out HO.out⟩
          case measure => simp [intOf]; omega
        · go_wp2_with fail
          go_round
          case rel => exact ⟨k + 1, by omega, by go_num, by rw [anyTo_succ HX.out, ← HSO.out, HP.out]; rfl, okTo_succ HX.out HOK.out HO.out⟩
          case measure => simp [intOf]; omega
      · skip
        have HO := Lib.hid h1; have HP := Lib.hid hp
        clear h1 hp
        cases so
        · go_wp2_with fail
          go_round
          case rel => exact ⟨k + 1, by omega, by go_num, by rw [anyTo_succ HX.out, ← HSO.out, HP.out]; rfl, okTo_succ HX.out HOK.out HO.out⟩
          case measure => simp [intOf]; omega
        · go_wp2_with fail
          go_round
          case rel => exact ⟨k + 1, by omega, by go_num, by rw [anyTo_succ HX.out, ← HSO.out, HP.out]; rfl, okTo_succ HX.out HOK.out HO.out⟩
          case measure => simp [intOf]; omega
      · skip
        have HO := Lib.hid h1; have HP := Lib.hid hp
        clear h1 hp
        cases so
        · go_wp2_with fail
          go_round
          case rel => exact ⟨k + 1, by omega, by go_num, by rw [anyTo_succ HX.out, ← HSO.out, HP.out]; rfl, okTo_succ HX.out HOK.out HO.out⟩
          case measure => simp [intOf]; omega
        · go_wp2_with fail
          go_round
          case rel => exact ⟨k + 1, by omega, by go_num, by rw [anyTo_succ HX.out, ← HSO.out, HP.out]; rfl, okTo_succ HX.out HOK.out HO.out⟩
          case measure => simp [intOf]; omega
      · skip
        have HO := Lib.hid (rightW_bad HX.out h1)
        clear h1
        go_wp2_with fail
        go_ret
        exact ⟨by rw [HO.out]; rfl, rfl⟩
      · skip
        have HO := Lib.hid (rightW_bad HX.out h1)
        clear h1
        go_wp2_with fail
        go_ret
        exact ⟨by rw [HO.out]; rfl, rfl⟩
      · skip
        have HO := Lib.hid (rightW_bad HX.out h1)
        clear h1
        go_wp2_with fail
        go_ret
        exact ⟨by rw [HO.out]; rfl, rfl⟩
    · have hkl : k = w.length := by omega
      have HK := Lib.hid hkl
      have e0 := rightW_end (w := w) (by rw [← hkl]; exact HOK.out)
      clear hkl
      rw [← HK.out, ← HSO.out] at e0
      have HE := Lib.hid e0
      clear e0
      cases so
      · go_wp2_with fail
        go_ret
        exact ⟨by rw [HE.out]; rfl, rfl⟩
      · by_cases h64 : w.length ≤ 64
        · go_wp2_with fail
          go_ret
          exact ⟨by rw [HE.out, HK.out]; simp [h64]; omega, rfl⟩
        · go_wp2_with fail
          go_ret
          exact ⟨by rw [HE.out, HK.out]; simp [h64]; omega, rfl⟩
end Go.Proofs.Ytgoelobkehebjaa.Wg
