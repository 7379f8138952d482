/-
  The static table: the walks of fixed, Static; and of the document's Statics.
-/
import Derived.Test.YtmoeioaahampaaaTabT
import Derived.Deep.WholeRow
import Derived.Laws.Rows
import Derived.Laws.Tables
import Derived.Great.BuildSlice
namespace Go.Proofs.Ytmoeioaahampaaa.Tb
open Go.ChangeShapes Go.WideShapes Go.ChangeAt Go.RowKit
open Go.Proofs.Ytmoeioaahampaaa.B
set_option linter.unusedVariables false
set_option linter.unusedSimpArgs false

def statC : Array Value := (STAT.flatMap encF).toArray
def statO : Array Value := ((List.replicate 61 (⟨⟨#[]⟩, ⟨#[]⟩, false⟩ : Fd)).flatMap encF).toArray
theorem statC_size : statC.size = 183 := by decide +kernel
theorem statO_size : statO.size = 183 := by decide +kernel
theorem statC_one : statC.all (·.oneCell') = true := by decide +kernel
theorem info_stat : (Try.prog.info? 99).map (fun i => (i.zero, i.size)) = some (some (.agg statO), 183) := by kernel_rfl
theorem sz_stat : (Try.prog.info? 99).map (·.size) = some statC.size := by rw [statC_size]; exact (zero_of_info info_stat).2
theorem At.row {w : World} {g : Nat} {old : Array Value} {t : TypeId} (h : At w g (.cells old t (0, 0))) (cs : Array Value) : At (w.setRow g cs) g (.cells cs t (0, 0)) := setRow_heap w g old cs t (0, 0) h
theorem At.row_ne {w : World} {b : Nat} {o : Obj} (h : At w b o) {g : Nat} (cs : Array Value) (hn : b ≠ g) : At (w.setRow g cs) b o := by
  unfold At at *; rw [setRow_other w g b cs hn]; exact h
theorem Chg.setRow {l : List Nat} {a b : World} (h : Chg l a b) {g : Nat} (hg : g ∈ l ∨ a.heap.size ≤ g) (cs : Array Value) : Chg l a (b.setRow g cs) :=
  ⟨h.os, h.tape, h.output, Nat.le_trans h.size (by simp [World.setRow]), fun k hk hn => by
    rw [setRow_other b g k cs (fun hc => hg.elim (fun h1 => hn (hc ▸ h1)) (fun h1 => by omega)), h.block k hk hn]⟩

set_option maxRecDepth 100000 in
set_option maxHeartbeats 4000000 in
theorem fixed_any (w : World) :
    Calls Try.prog 58 #[] w fun e w' => e = .returned (.agg statC) ∧ Chg [] w w' := by
  have hz := (zero_of_info info_stat).1
  go_enter Try.func58, Try.ntmps58
  go_wp2_with (first
    | (refine wpList_buildTo rfl 99 _ rfl (some 62) rfl statC (by kernel_rfl) ?_)
    | (refine wpList_store_rowTo rfl 99 _ _ rfl rfl w.heap.size statC (by rfl) (by rfl) 99 statO (heap_alloc_last _ _) sz_stat (by rw [statC_size]; decide +kernel) statC_one ?_; rw [World.setRow_alloc_new]))
  refine bodyPost_ret (v := .agg statC) ?_ rfl ⟨rfl, (Chg.refl _).alloc _⟩
  exact results_cell_row rfl _ _ w.heap.size 99 statC (0, 0) _ (by rfl) (heap_alloc_last _ _) Try.underlying99 (by rfl) sz_stat
end Go.Proofs.Ytmoeioaahampaaa.Tb
