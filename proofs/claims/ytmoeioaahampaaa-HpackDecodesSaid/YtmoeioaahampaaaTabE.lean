/-
  '==' of two fields; Static.
-/
import Derived.Test.YtmoeioaahampaaaFix
import Derived.Deep.DeepCutAuto
namespace Go.Proofs.Ytmoeioaahampaaa.Tb
open Go.ChangeShapes Go.WideShapes Go.ChangeAt Go.RowKit
open Go.Proofs.Ytmoeioaahampaaa.B
set_option linter.unusedVariables false
set_option linter.unusedSimpArgs false

/-- Are two fields the same? -/
def eqB (a b : ByteArray) (p : Bool) (c d : ByteArray) (q : Bool) : Bool := decide (a = c ∧ b = d ∧ p = q)
theorem beq_str (a b : ByteArray) : (a.toList == b.toList) = decide (a = b) := by
  by_cases h : a = b
  · subst h; simp
  · have hn : a.toList ≠ b.toList := fun hc => h (by
      rw [ByteArray.toList_eq, ByteArray.toList_eq] at hc
      exact ByteArray.ext (Array.toList_inj.1 hc))
    simp [h, hn]
theorem eqB_eq (x y : Fd) : eqB x.n x.v x.nv y.n y.v y.nv = decide (x = y) := by
  unfold eqB
  obtain ⟨a, b, c⟩ := x
  obtain ⟨d, e, f⟩ := y
  simp
theorem eqB_true {x y : Fd} (h : x = y) : eqB x.n x.v x.nv y.n y.v y.nv = true := by rw [eqB_eq]; simpa using h
theorem eqB_false {x y : Fd} (h : x ≠ y) : eqB x.n x.v x.nv y.n y.v y.nv = false := by rw [eqB_eq]; simpa using h
theorem eq_field (a b c d : ByteArray) (p q : Bool) (w : World) : (Op.equalIn 10000 44 (.agg #[.string a, .string b, .bool p]) (.agg #[.string c, .string d, .bool q])).run Try.prog w = .ok (eqB a b p c d q) w := by
  have hS : Try.prog.underlying 44 = some (.struct (Try.prog.fieldsOf 44)) := by kernel_rfl
  have hp : Try.prog.stoodInHeld 44 = false := by kernel_rfl
  rw [show (10000 : Nat) = 9999 + 1 from rfl, run_equalIn_agg w 9999 44 _ _ hS hp]
  simp only [Program.fieldsOf, Try.underlying44]
  go_simp
  unfold eqB
  have e1 : (a.toList = c.toList) ↔ (a = c) := by have := beq_str a c; constructor <;> intro h <;> simp_all
  have e2 : (b.toList = d.toList) ↔ (b = d) := by have := beq_str b d; constructor <;> intro h <;> simp_all
  simp only [e1, e2]
  by_cases h1 : a = c <;> by_cases h2 : b = d <;> by_cases h3 : p = q <;> simp [h1, h2, h3]
attribute [local go_sem] eq_field

theorem statC_get {k : Nat} {f : Fd} (h : STAT[k]? = some f) : statC[k * 3]? = some (.string f.n) ∧ statC[k * 3 + 1]? = some (.string f.v) ∧ statC[k * 3 + 2]? = some (.bool f.nv) := by
  have := fun j hj => flat_get (enc := encF) encF_len h (j := j) hj
  unfold statC
  simp only [List.getElem?_toArray]
  exact ⟨this 0 (by omega), this 1 (by omega), this 2 (by omega)⟩
/-- What Static tells. -/
def statR (i : Int) : Fd × Bool := if 1 ≤ i ∧ i ≤ 61 then (STAT.getD (i.toNat - 1) Fd.no, true) else (Fd.no, false)
set_option maxRecDepth 100000 in
set_option maxHeartbeats 4000000 in
theorem static_any (i : Int) (w : World) :
    Calls Try.prog 79 #[.int .i64 i] w fun e w' => e = .returned (.tuple #[.agg (aF (statR i).1), .bool (statR i).2]) ∧ Chg [] w w' := by
  have hz2 := (zero_of_info info_stat).1
  by_cases hi : 1 ≤ i ∧ i ≤ 61
  · obtain ⟨k, hk⟩ : ∃ k : Nat, i = k + 1 := ⟨i.toNat - 1, by omega⟩
    have hk6 : k < 61 := by omega
    obtain ⟨f, hf⟩ : ∃ f, STAT[k]? = some f := ⟨_, List.getElem?_eq_getElem (by rw [STAT_len]; exact hk6)⟩
    have hR : statR i = (f, true) := by
      unfold statR
      rw [if_pos hi, show i.toNat - 1 = k by omega, List.getD_eq_getElem?_getD, hf]; rfl
    rw [hR]
    subst hk
    have HF := Lib.hid hf
    clear hf hR hi
    go_enter Try.func79, Try.ntmps79
    go_wp2_with fail
    refine (fixed_any _).mono ?_; rintro e w1 ⟨rfl, h1⟩
    have h1' : At w1 w.heap.size (.cells #[.string ⟨#[]⟩, .string ⟨#[]⟩, .bool false] 44 (0, 0)) := At.chg (At.new w _) h1 (by simp)
    have hlt := h1'.lt
    have c1 : Chg [] w w1 := ((Chg.refl w).alloc _).trans' h1
    clear h1
    have hst : At (w1.alloc (.cells statC 99)) w1.heap.size (.cells statC 99 (0, 0)) := At.new _ _
    obtain ⟨g0, g1, g2⟩ := statC_get HF.out
    have q0 := hst.cell g0
    have q1 := hst.cell g1
    have q2 := hst.cell g2
    have r0 : w1.cell? ⟨w.heap.size, 0, none⟩ = some (.string ⟨#[]⟩) := h1'.cell rfl
    have r1 : w1.cell? ⟨w.heap.size, 1, none⟩ = some (.string ⟨#[]⟩) := h1'.cell rfl
    have r2 : w1.cell? ⟨w.heap.size, 2, none⟩ = some (.bool false) := h1'.cell rfl
    have rf : ∀ j, w1.frozen? ⟨w.heap.size, j, none⟩ = false := h1'.free
    have H1 := Lib.hid h1'; have HS := Lib.hid hst
    clear h1' hst g0 g1 g2
    go_wp2_with (first
      | (refine wpList_store_rowTo rfl 99 _ _ rfl rfl w1.heap.size statC (by rfl) (by rfl) 99 statO (heap_alloc_last _ _) sz_stat (by rw [statC_size]; decide +kernel) statC_one ?_; rw [World.setRow_alloc_new]))
    have hf := (((H1.out.set 0 (.string f.n)).set 1 (.string f.v)).set 2 (.bool f.nv)).alloc (.cells statC 99)
    have x0 := hf.cell (o := 0) (v := .string f.n) rfl
    have x1 := hf.cell (o := 1) (v := .string f.v) rfl
    have x2 := hf.cell (o := 2) (v := .bool f.nv) rfl
    refine bodyPost_ret (v := .tuple #[.agg (aF f), .bool true]) (by simp [results, Try.results79, go_sem, aF, x0, x1, x2]) rfl ⟨rfl, ?_⟩
    exact (((c1.setCell (p := ⟨w.heap.size, 0, none⟩) (Or.inr (Nat.le_refl _)) _).setCell (p := ⟨w.heap.size, 1, none⟩) (Or.inr (Nat.le_refl _)) _).setCell (p := ⟨w.heap.size, 2, none⟩) (Or.inr (Nat.le_refl _)) _).alloc _
  · have hR : statR i = (Fd.no, false) := by unfold statR; rw [if_neg hi]
    rw [hR]
    have hi2 : i < 1 ∨ 61 < i := by omega
    have e1 : (decide (i < 1) || decide (61 < i)) = true := by simpa using hi2
    clear hR hi
    go_enter Try.func79, Try.ntmps79
    go_wp2_with fail
    refine (fixed_any _).mono ?_; rintro e w1 ⟨rfl, h1⟩
    have h1' : At w1 w.heap.size (.cells #[.string ⟨#[]⟩, .string ⟨#[]⟩, .bool false] 44 (0, 0)) := At.chg (At.new w _) h1 (by simp)
    have hlt := h1'.lt
    have c1 : Chg [] w w1 := ((Chg.refl w).alloc _).trans' h1
    clear h1
    have rf : ∀ j, w1.frozen? ⟨w.heap.size, j, none⟩ = false := h1'.free
    have r0 : w1.cell? ⟨w.heap.size, 0, none⟩ = some (.string ⟨#[]⟩) := h1'.cell rfl
    have r1 : w1.cell? ⟨w.heap.size, 1, none⟩ = some (.string ⟨#[]⟩) := h1'.cell rfl
    have r2 : w1.cell? ⟨w.heap.size, 2, none⟩ = some (.bool false) := h1'.cell rfl
    have H1 := Lib.hid h1'
    clear h1'
    rcases hi2 with hi2 | hi2
    all_goals
      go_wp2_with (first
        | (refine wpList_store_rowTo rfl 99 _ _ rfl rfl w1.heap.size statC (by rfl) (by rfl) 99 statO (heap_alloc_last _ _) sz_stat (by rw [statC_size]; decide +kernel) statC_one ?_; rw [World.setRow_alloc_new]))
      have hf := (((H1.out.set 0 (.string ⟨#[]⟩)).set 1 (.string ⟨#[]⟩)).set 2 (.bool false)).alloc (.cells statC 99)
      have x0 := hf.cell (o := 0) (v := .string ⟨#[]⟩) rfl
      have x1 := hf.cell (o := 1) (v := .string ⟨#[]⟩) rfl
      have x2 := hf.cell (o := 2) (v := .bool false) rfl
      refine bodyPost_ret (v := .tuple #[.agg (aF Fd.no), .bool false]) (by simp [results, Try.results79, go_sem, aF, Fd.no, x0, x1, x2]) rfl ⟨rfl, ?_⟩
      exact (((c1.setCell (p := ⟨w.heap.size, 0, none⟩) (Or.inr (Nat.le_refl _)) _).setCell (p := ⟨w.heap.size, 1, none⟩) (Or.inr (Nat.le_refl _)) _).setCell (p := ⟨w.heap.size, 2, none⟩) (Or.inr (Nat.le_refl _)) _).alloc _
end Go.Proofs.Ytmoeioaahampaaa.Tb
