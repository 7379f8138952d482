/-
  slices.Clone of octets.
-/
import Derived.Test.YthhgnipiaohplaaFpu
import Derived.WalkSpells
namespace Go.Proofs.Ythhgnipiaohplaa.Fr
open Go.ChangeShapes Go.WideShapes Go.ChangeAt Go.RowKit
open Go.Proofs.Ythhgnipiaohplaa.B
set_option linter.unusedVariables false
set_option linter.unusedSimpArgs false

set_option maxRecDepth 100000 in
set_option maxHeartbeats 4000000 in
theorem clone_any {w : World} {v : Value} {l : List UInt8} (hb : BytesOf w v l) (hl : l.length ≤ 100000000000000) :
    Calls Try.prog 42 #[v] w fun e w' => ∃ rv, e = .returned rv ∧ OwnB w' w.heap.size rv l ∧ Chg [] w w' := by
  obtain ⟨a, cap, rfl, hc, hcm⟩ := hb.slice
  unfold maxLen at hcm
  have q22 : ∀ (w : World) (a : Option Addr) (n c n' c' : Nat), (binOp .eql 22 (.slice a n c) (.slice none n' c')).run Try.prog w = .ok (.bool a.isNone) w := fun w a n c n' c' => Lib.run_eql_slice_nil w _ _ a n c n' c' Try.underlying22
  cases a with
  | none =>
    have hl0 : l = [] := by
      cases l with
      | nil => rfl
      | cons x y => obtain ⟨b, off, h, _⟩ := hb.cell (by simp); cases h
    subst hl0
    clear hb
    go_enter Try.func42, Try.ntmps42
    go_wp2_with fail
    go_ret
    exact ⟨_, rfl, OwnB.nil _ _, Chg.refl _⟩
  | some ad =>
    have HB := Lib.hid hb
    clear hb
    go_enter Try.func42, Try.ntmps42
    go_wp2_with (at_builtin; refine app_any rfl _ _ rfl w.heap.size (.slice (some ⟨w.heap.size, 0, none⟩) 0 0) [] rfl (OwnB.empty (Nat.le_refl _)) _ l rfl (HB.out.chg0 ((Chg.refl w).alloc _)) (by simp; omega) (by simp) ?_)
    intro v' w6 own6 ch6 n6
    have c6 : Chg [] w w6 := ((Chg.refl w).alloc _).trans ch6 (fun x hx => Or.inr (by simp [Value.ownBlock] at hx; omega))
    have own6' : OwnB w6 w.heap.size v' l := own6
    have O6 := Lib.hid own6'; have C6 := Lib.hid c6
    clear own6 own6' ch6 n6 c6
    go_wp2_with fail
    go_ret
    exact ⟨_, rfl, O6.out, C6.out⟩
end Go.Proofs.Ythhgnipiaohplaa.Fr
