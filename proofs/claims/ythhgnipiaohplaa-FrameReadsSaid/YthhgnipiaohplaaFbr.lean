/-
  A connection's fault; an increment read.
-/
import Derived.Test.YthhgnipiaohplaaFrd
namespace Go.Proofs.Ythhgnipiaohplaa.Fr
open Go.ChangeShapes Go.WideShapes Go.ChangeAt Go.RowKit
open Go.Proofs.Ythhgnipiaohplaa.B
set_option linter.unusedVariables false
set_option linter.unusedSimpArgs false

/-- A frame of nothing. -/
abbrev noF : Array Value := #[.int .i64 0, .int .i64 0, .bool false, .bool false, .bool false, .bool false, .slice none 0 0, .int .i64 0, .int .i64 0, .int .i64 0, .bool false, .int .i64 0, .int .u32 0, .slice none 0 0, .int .i64 0, .int .i64 0]
set_option maxRecDepth 100000 in
set_option maxHeartbeats 4000000 in
theorem broken_any {W w : World} {p : Nat} {hv : Value} {l : List UInt8} {mx : Nat} {dn : Bool} (h : PH W w p hv l mx dn) (code : Int) :
    Calls Try.prog 37 #[.pointer (some ⟨p, 0, none⟩), .int .u32 code] w fun e w' => e = .returned (.tuple #[.agg noF, .agg #[.bool true, .int .u32 code, .int .i64 0], .bool true]) ∧ PH W w' p (.slice none 0 0) [] mx true ∧ Chg [p] w w' := by
  obtain ⟨a, cap, rfl, hc, hcm⟩ := (OwnB.bytes h.row).slice
  have x0 : World.cell? w ⟨p, 0, none⟩ = some (.slice a l.length cap) := h.head.cell rfl
  have x2 : World.cell? w ⟨p, 2, none⟩ = some (.bool dn) := h.head.cell rfl
  have xf : ∀ j, World.frozen? w ⟨p, j, none⟩ = false := fun j => h.head.free j
  have hpl := h.head.lt
  have HH := Lib.hid h
  clear h
  go_enter Try.func37, Try.ntmps37
  go_wp2_with fail
  obtain ⟨w2, hw2⟩ : ∃ w2, w2 = (w.setCell ⟨p, 0, none⟩ (.slice none 0 0)).setCell ⟨p, 2, none⟩ (.bool true) := ⟨_, rfl⟩
  have hc : Chg [p] w w2 := by rw [hw2]; exact ((Chg.refl w).setCell (Or.inl (by simp)) _).setCell (Or.inl (by simp)) _
  have hp2 : At w2 p (.cells #[.slice none 0 0, .int .i64 mx, .bool true] 81 (0, 0)) := by rw [hw2]; exact (HH.out.head.set 0 _).set 2 _
  have hsz : w2.heap.size = w.heap.size := by rw [hw2]; simp
  refine bodyPost_ret (v := .tuple #[.agg noF, .agg #[.bool true, .int .u32 code, .int .i64 0], .bool true]) (by simp [results, Try.results37, go_sem]) rfl ⟨rfl, ?_, ?_⟩
  · rw [← hw2]
    have c2 : Chg [] w2 ((w2.alloc (.cells noF 27)).alloc (.cells #[.bool true, .int .u32 code, .int .i64 0] 46)) := ((Chg.refl w2).alloc _).alloc _
    exact ⟨hp2.chg c2 (by simp), OwnB.nil _ _, HH.out.lo, HH.out.b1, HH.out.b2⟩
  · rw [← hw2]
    exact (hc.alloc _).alloc _
end Go.Proofs.Ythhgnipiaohplaa.Fr
