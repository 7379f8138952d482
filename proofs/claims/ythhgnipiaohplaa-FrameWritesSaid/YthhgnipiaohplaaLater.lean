/-
  A region that draws its order and whose callees may lay new blocks: one walk, in the order of the text, in every later world.
-/
import Derived.Test.YthhgnipiaohplaaBase
import Derived.BigQuiet
namespace Go.Proofs.Ythhgnipiaohplaa.B
open Go.ChangeShapes Go.WideShapes Go.ChangeAt Go.RowKit
set_option linter.unusedVariables false
set_option linter.unusedSimpArgs false

/-- A world in which elder memory, but for the blocks of S, is as it was. -/
structure Later (S : List Nat) (w : World) where
  world : World
  chg : Chg S w world
instance (S : List Nat) (w : World) : Nonempty (Later S w) := ⟨⟨w, Chg.refl w⟩⟩
/-- One walk of the text's order serves every order: the class of the later worlds. -/
theorem wp_region_later {P : Program} {S : List Nat} {id : Nat} {Q : Exit → Act → World → Prop} {a : Act} {w : World} {l : List Oper} (hm : P.follows .mixedOrders = true) (hB : Region.lexB .any l.toArray = true)
    (h : wpQuiet P l.toArray (fun w' => ∃ x : Later S w, w' = x.world) (fun a' => ∀ w', (∃ x : Later S w, w' = x.world) → Q .normal a' w') l a) : (Code.region id l.toArray true).wp P Q a w :=
  wp_region_quiet (C := fun w' => ∃ x : Later S w, w' = x.world) hm hB ⟨⟨w.drew, (Chg.refl w).drew⟩, rfl⟩ (by rw [show l.toArray.toList = l by simp]; exact h)
theorem _root_.Go.Calls.later {P : Program} {f : FuncId} {args : Array Value} {S : List Nat} {w : World} {x : Later S w} {v : Value}
    (h : Calls P f args x.world fun e w' => e = .returned v ∧ Chg S x.world w') : Calls P f args x.world fun e w'' => e = .returned v ∧ ∃ y : Later S w, w'' = y.world :=
  h.mono fun _ w' ⟨he, hc⟩ => ⟨he, ⟨w', x.chg.trans' hc⟩, rfl⟩
theorem _root_.Go.Calls.later_same {P : Program} {f : FuncId} {args : Array Value} {S : List Nat} {w : World} {x : Later S w} {v : Value}
    (h : Calls P f args x.world fun e w' => e = .returned v ∧ w' = x.world) : Calls P f args x.world fun e w'' => e = .returned v ∧ ∃ y : Later S w, w'' = y.world :=
  h.mono fun _ w' ⟨he, hc⟩ => ⟨he, x, hc⟩
end Go.Proofs.Ythhgnipiaohplaa.B
