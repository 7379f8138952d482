/-
  Is a setting's number none?
-/
import Derived.Test.YthhgnipiaohplaaFsn
namespace Go.Proofs.Ythhgnipiaohplaa.Fr
open Go.ChangeShapes Go.WideShapes Go.ChangeAt Go.RowKit
open Go.Proofs.Ythhgnipiaohplaa.B
set_option linter.unusedVariables false
set_option linter.unusedSimpArgs false

def badS (s : Int × Int) : Bool := decide (s.1 < 0) || decide (65535 < s.1)
set_option maxRecDepth 100000 in
set_option maxHeartbeats 4000000 in
theorem odd_any (s : Int × Int) (w : World) : Calls Try.prog 53 #[.agg (encS s).toArray] w fun e w' => e = .returned (.bool (badS s)) ∧ Chg [] w w' := by
  obtain ⟨a, b⟩ := s
  show Calls _ _ #[.agg #[.int .i64 a, .int .u32 b]] _ _
  rcases ltC a 0 with ⟨h1, _⟩ | ⟨h1, h1'⟩
  · have hb : badS (a, b) = true := by simp [badS, h1]
    rw [hb]
    have g : decide (a < 0) = true := decide_eq_true h1
    clear hb
    go_enter Try.func53, Try.ntmps53
    go_wp2_with fail
    go_ret
    exact ⟨rfl, (Chg.refl w).alloc _⟩
  · have g : decide (a < 0) = false := decide_eq_false h1
    rcases ltC 65535 a with ⟨h2, _⟩ | ⟨h2, h2'⟩
    · have hb : badS (a, b) = true := by simp [badS, h2]
      rw [hb]
      have g2 : decide (65535 < a) = true := decide_eq_true h2
      clear hb
      go_enter Try.func53, Try.ntmps53
      go_wp2_with fail
      go_ret
      exact ⟨rfl, (Chg.refl w).alloc _⟩
    · have hb : badS (a, b) = false := by simp [badS]; omega
      rw [hb]
      have g2 : decide (65535 < a) = false := decide_eq_false h2
      clear hb
      go_enter Try.func53, Try.ntmps53
      go_wp2_with fail
      go_ret
      exact ⟨rfl, (Chg.refl w).alloc _⟩
set_option maxRecDepth 100000 in
set_option maxHeartbeats 4000000 in
theorem index_any {w : World} (lv : Value) (l : List (Int × Int)) (hl : SliceOf w lv 2 encS l) (hn : l.length ≤ 100000000) :
    Calls Try.prog 66 #[lv, .func (.func 53) #[] #[]] w fun e w' => ∃ r : Int, e = .returned (.int .i64 r) ∧ decide (0 ≤ r) = l.any badS ∧ Chg [] w w' := by
  obtain ⟨a, cap, rfl, hc, hcm⟩ := hl.len
  unfold maxLen at hcm
  have HL := Lib.hid hl; have HNL := Lib.hid hn
  clear hl hn
  go_enter Try.func66, Try.ntmps66
  go_wp2_with fail
  go_loopw [5, 8] (fun _ iv wr => ∃ i : Nat, i ≤ l.length ∧ iv = .int .i64 i ∧ (l.take i).any badS = false ∧ Chg [] w wr) (fun _ iv _ => l.length - (intOf iv).toNat)
  case atStart => exact ⟨0, by omega, rfl, by simp, Chg.refl _⟩
  case round =>
    obtain ⟨i, hi, rfl, hno, hcr⟩ := hrel
    have HNO := Lib.hid hno; have HCR := Lib.hid hcr
    clear hno hcr
    by_cases hlt : i < l.length
    · have hltI : (i : Int) < (l.length : Int) := by omega
      have hlI : (l.length : Int) ≤ 100000000 := by have := HNL.out; omega
      obtain ⟨s, hs⟩ : ∃ s, l[i]? = some s := ⟨_, List.getElem?_eq_getElem hlt⟩
      obtain ⟨b, off, rfl, hb, hcell⟩ := HL.out.at (by omega)
      have z0 : World.cell? wr ⟨b, off + i * 2, none⟩ = some (.int .i64 s.1) := (HCR.out.cell hb (by simp) _).trans (hcell i s hs 0 (by omega))
      have z1 : World.cell? wr ⟨b, off + i * 2 + 1, none⟩ = some (.int .u32 s.2) := (HCR.out.cell hb (by simp) _).trans (hcell i s hs 1 (by omega))
      have HS := Lib.hid hs
      clear hcell hs
      go_wp2_with fail
      refine (odd_any s wr).mono ?_; rintro e w1 ⟨rfl, c1⟩
      have C1 := Lib.hid (HCR.out.trans' c1)
      clear c1 z0 z1
      have hsn : (l.take (i + 1)).any badS = badS s := by
        rw [List.take_add_one, HS.out, List.any_append, HNO.out]; simp
      have HSN := Lib.hid hsn
      clear hsn
      cases hbs : badS s with
      | true =>
        have hall : Hid (l.any badS = true) := Lib.hid (by rw [List.any_eq_true]; exact ⟨s, List.mem_of_getElem? HS.out, hbs⟩)
        go_wp2_with fail
        go_ret
        exact ⟨_, rfl, by rw [hall.out]; simp, C1.out⟩
      | false =>
        have hsn2 : Hid ((l.take (i + 1)).any badS = false) := Lib.hid (by rw [HSN.out, hbs])
        go_wp2_with fail
        go_roundw
        case rel => exact ⟨i + 1, by omega, by go_num, hsn2.out, C1.out⟩
        case measure => simp [intOf]; omega
    · obtain rfl : i = l.length := by omega
      have hltI : ¬ (l.length : Int) < (l.length : Int) := by omega
      rw [List.take_length] at HNO
      go_wp2_with fail
      go_ret
      exact ⟨_, rfl, by rw [HNO.out]; rfl, HCR.out⟩
set_option maxRecDepth 100000 in
set_option maxHeartbeats 4000000 in
theorem contains_any {w : World} (lv : Value) (l : List (Int × Int)) (hl : SliceOf w lv 2 encS l) (hn : l.length ≤ 100000000) :
    Calls Try.prog 52 #[lv, .func (.func 53) #[] #[]] w fun e w' => e = .returned (.bool (l.any badS)) ∧ Chg [] w w' := by
  have HL := Lib.hid hl
  clear hl
  go_enter Try.func52, Try.ntmps52
  go_wp2_with fail
  refine (index_any lv l HL.out hn).mono ?_; rintro e w1 ⟨r, rfl, hr, c1⟩
  have HR := Lib.hid hr
  clear hr
  go_wp2_with fail
  go_ret
  exact ⟨by rw [← HR.out]; rfl, c1⟩
end Go.Proofs.Ythhgnipiaohplaa.Fr
