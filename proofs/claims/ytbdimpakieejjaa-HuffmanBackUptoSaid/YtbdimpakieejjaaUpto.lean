/-
  The same step for a statement's second form: what comes in is of bulk at most the bound.
-/
import Derived.Test.YtbdimpakieejjaaLift
import Derived.Test.YtbdimpakieejjaaRows
import Derived.JoinedCond
namespace Go.Proofs.Ytbdimpakieejjaa.B
open Go.ChangeShapes Go.WideShapes Go.ChangeAt Go.RowKit

theorem string_bulk {H : Type} {s : ByteArray} {r : List (DataW H)} (hk : Rows.uptoBulkAll (DataW.lit (H := H) (.string s.data.toList) :: r) ≤ 1048576) : s.size ≤ 1048576 ∧ Rows.uptoBulkAll r ≤ 1048576 := by
  simp only [Rows.uptoBulkAll, Rows.uptoBulk] at hk
  have e : s.data.toList.length = s.size := by rw [Array.length_toList]; rfl
  omega
theorem rest_bulk {H : Type} {d : DataW H} {r : List (DataW H)} (hk : Rows.uptoBulkAll (d :: r) ≤ 1048576) : Rows.uptoBulkAll r ≤ 1048576 := by
  simp only [Rows.uptoBulkAll] at hk
  omega
theorem lift_upto {C : Checked} {os : Os} {f : FuncId} {fn : Func} {s : ChangeSpec} {conds : List PathCond} {H : Type} {enc : TypeId × Value → H} {tb : TypeId} {F : Stop.Interp}
    (own : ownKnob C.prog.godebug = none) (started : os.Started) (noInit : C.prog.inits.idxOf? f = none) (hfn : C.prog.funcs[f]? = some fn)
    (witness : ∃ (w : World) (tape : Tape) (i : Input), w.os = os ∧ (w.forCall tape i).Shaped C.prog ∧ i.vars = [] ∧ Input.okWide C.prog (w.forCall tape i) .any w.heap.size f i ∧
      (Rows.OpenSpec.upto s).pre6 enc C.prog fn conds false (w.forCall tape i).memory i.args ∧ ({} : Assume).holds C.prog (lone (Frame.enter C.prog f i.args .normal) [] (w.forCall tape i)))
    (hl : laidOutB C.prog = true) (hp : ∀ t ∈ fn.params.toList, C.prog.readableRec t = true ∧ t < C.prog.types.size) (hrt : fn.resultTypes = #[tb]) (hb : C.prog.underlying tb = some .bool)
    (hv : s.vars = []) (hsp : ∀ ds : List (DataW H), ds.length = fn.params.toList.length → s.fn H (ds ++ []) = { results := [.lit (.bool true)], args := ds })
    (contract : ∀ (W : World) (base : Nat) (args : Array Value) (ds : List (DataW H)) (before : List MemPlace),
      (∀ (j : Nat) t v, fn.params[j]? = some t → args[j]? = some v → Value.okWide C.prog W .any base t v) →
      DataW.TrodAll enc C.prog W 0 (fun _ => true) true fn.params.toList args.toList ds before →
      (∀ p ∈ before, p.block < W.heap.size) →
      Rows.uptoBulkAll ds ≤ 1048576 →
      Calls C.prog f args W fun e W' => e = .returned (.bool true) ∧ Below W.heap.size W W') :
    ReturnsInHanded {} C os f .any ((Rows.OpenSpec.upto s).pre6 enc C.prog fn conds false) (((Rows.OpenSpec.upto s).at F).post enc C.prog fn false true false false) := by
  refine returnsInHanded_of_cond (C := C) (s := Rows.OpenSpec.upto s) (k := Rows.uptoSmall) rfl own started noInit hfn witness ?_
  intro W base args ds gs before hval hW _ hk _
  have hlt := hW.lt
  have hW0 : DataW.Whole enc C.prog fn.params.toList s.vars false W args.toList ds gs before := hW
  have hW1 := hW0
  obtain ⟨p, q, hA, hV, rfl, hz, hn⟩ := hW0
  rw [hv] at hV
  obtain ⟨rfl, rfl⟩ := trodVars_none hV
  have hk' : Rows.uptoBulkAll (ds ++ []) ≤ 1048576 := of_decide_eq_true hk
  rw [List.append_nil] at hk'
  refine (contract W base args ds p hval hA (fun x hx => by simpa using hlt x (by simpa using hx)) hk').mono ?_
  rintro e W' ⟨rfl, hbl⟩
  exact ⟨_, rfl, post_true hl hp hrt hb hv hsp hW1 hbl⟩
end Go.Proofs.Ytbdimpakieejjaa.B
