/-
  No cell of these rows narrows 'for every input' (looked for: loops, veiled, ifaces, maps, wideKeys, modest, calm, conditions, laid).
  DERIVED. THE GIVEN ROWS OF THIS SEAT. 8 by the template 'for every input the law returns true; each argument reads behind the call as it read before'; 0 by the template 'total and deterministic' (their statements: YtgoelobkehebjaaTotals.lean).
  GIVEN WITH THE SEED: the statements are not yours to turn. If you find one false, say at which input.
  Laid BY PROGRAM, IN A SANDBOX (cutbox-rows.mjs): the forced cells as the released guide's own fill.sh prints them over the translation 5aab3025563f73c2… (all of the seat's roots in one cut). By AI agents, Wed Nov 11 2026. No macro, syntax, notation, axiom, sorry.
-/
import Derived.Test.YtgoelobkehebjaaChecked
import GoSem.Claim
import GoSem.ClaimJoined
import GoSem.ClaimMapViews
import Derived.JoinedTies
import Derived.KernelRfl
namespace Go.Proofs.Ytgoelobkehebjaa
/- THE CELL 'sum', in the pinned program and in every row, IS THE sha256 OF THE DUMP (.gsa) THAT YtgoelobkehebjaaProg.lean LOADS. Nothing in Lean hashes anything: it is a label: what it is worth is what the hold of that sum in a sandbox is worth. -/
noncomputable def Try.pinned : Pinned := { name := "ytgoelobkehebjaa", sum := "5aab3025563f73c208ccbe9431a32e913e2dc47e893867344a4b61996636ae7a", checked := Try.checked }
namespace Rows
def none {H : Type} : Left H := { results := [], args := [] }

/-- 'flumelaw14.WeighTells': WHATEVER THE INPUT: true; the input reads as it did. -/
def weighTellsSpec : ChangeSpec := { name := "weighTells", fn := fun _ => fun
  | [d1, d2] => { results := [.lit (.bool true)], args := [d1, d2] }
  | _ => none }
def weighTellsRow : OpenClaim := { program := "ytgoelobkehebjaa", sum := "5aab3025563f73c208ccbe9431a32e913e2dc47e893867344a4b61996636ae7a", func := "flume/flumelaw14.WeighTells", spec := "weighTells", apart := false }
def WeighTellsSaid : Prop := weighTellsRow.holds Try.pinned (OpenSpec.ofChange weighTellsSpec)

/-- ITS FALSE NEIGHBOUR: 'it returns false'. Refute it at one input. -/
def weighTellsWrong : ChangeSpec := { name := "weighTells", fn := fun _ => fun
  | [d1, d2] => { results := [.lit (.bool false)], args := [d1, d2] }
  | _ => none }
def WeighTellsWrongFalsely : Prop := weighTellsRow.holds Try.pinned (OpenSpec.ofChange weighTellsWrong)

/-- 'flumelaw14.WeighShares': WHATEVER THE INPUT: true; the input reads as it did. -/
def weighSharesSpec : ChangeSpec := { name := "weighShares", fn := fun _ => fun
  | [d1, d2] => { results := [.lit (.bool true)], args := [d1, d2] }
  | _ => none }
def weighSharesRow : OpenClaim := { program := "ytgoelobkehebjaa", sum := "5aab3025563f73c208ccbe9431a32e913e2dc47e893867344a4b61996636ae7a", func := "flume/flumelaw14.WeighShares", spec := "weighShares", apart := false }
def WeighSharesSaid : Prop := weighSharesRow.holds Try.pinned (OpenSpec.ofChange weighSharesSpec)

/-- ITS FALSE NEIGHBOUR: 'it returns false'. Refute it at one input. -/
def weighSharesWrong : ChangeSpec := { name := "weighShares", fn := fun _ => fun
  | [d1, d2] => { results := [.lit (.bool false)], args := [d1, d2] }
  | _ => none }
def WeighSharesWrongFalsely : Prop := weighSharesRow.holds Try.pinned (OpenSpec.ofChange weighSharesWrong)

/-- 'flumelaw14.WeighNever': WHATEVER THE INPUT: true; the input reads as it did. -/
def weighNeverSpec : ChangeSpec := { name := "weighNever", fn := fun _ => fun
  | [d1, d2] => { results := [.lit (.bool true)], args := [d1, d2] }
  | _ => none }
def weighNeverRow : OpenClaim := { program := "ytgoelobkehebjaa", sum := "5aab3025563f73c208ccbe9431a32e913e2dc47e893867344a4b61996636ae7a", func := "flume/flumelaw14.WeighNever", spec := "weighNever", apart := false }
def WeighNeverSaid : Prop := weighNeverRow.holds Try.pinned (OpenSpec.ofChange weighNeverSpec)

/-- ITS FALSE NEIGHBOUR: 'it returns false'. Refute it at one input. -/
def weighNeverWrong : ChangeSpec := { name := "weighNever", fn := fun _ => fun
  | [d1, d2] => { results := [.lit (.bool false)], args := [d1, d2] }
  | _ => none }
def WeighNeverWrongFalsely : Prop := weighNeverRow.holds Try.pinned (OpenSpec.ofChange weighNeverWrong)

/-- 'flumelaw14.WeighOrder': WHATEVER THE INPUT: true; the input reads as it did. -/
def weighOrderSpec : ChangeSpec := { name := "weighOrder", fn := fun _ => fun
  | [d1, d2, d3, d4] => { results := [.lit (.bool true)], args := [d1, d2, d3, d4] }
  | _ => none }
def weighOrderRow : OpenClaim := { program := "ytgoelobkehebjaa", sum := "5aab3025563f73c208ccbe9431a32e913e2dc47e893867344a4b61996636ae7a", func := "flume/flumelaw14.WeighOrder", spec := "weighOrder", apart := false }
def WeighOrderSaid : Prop := weighOrderRow.holds Try.pinned (OpenSpec.ofChange weighOrderSpec)

/-- ITS FALSE NEIGHBOUR: 'it returns false'. Refute it at one input. -/
def weighOrderWrong : ChangeSpec := { name := "weighOrder", fn := fun _ => fun
  | [d1, d2, d3, d4] => { results := [.lit (.bool false)], args := [d1, d2, d3, d4] }
  | _ => none }
def WeighOrderWrongFalsely : Prop := weighOrderRow.holds Try.pinned (OpenSpec.ofChange weighOrderWrong)

/-- 'flumelaw14.WeighScale': WHATEVER THE INPUT: true; the input reads as it did. -/
def weighScaleSpec : ChangeSpec := { name := "weighScale", fn := fun _ => fun
  | [d1, d2, d3] => { results := [.lit (.bool true)], args := [d1, d2, d3] }
  | _ => none }
def weighScaleRow : OpenClaim := { program := "ytgoelobkehebjaa", sum := "5aab3025563f73c208ccbe9431a32e913e2dc47e893867344a4b61996636ae7a", func := "flume/flumelaw14.WeighScale", spec := "weighScale", apart := false }
def WeighScaleSaid : Prop := weighScaleRow.holds Try.pinned (OpenSpec.ofChange weighScaleSpec)

/-- ITS FALSE NEIGHBOUR: 'it returns false'. Refute it at one input. -/
def weighScaleWrong : ChangeSpec := { name := "weighScale", fn := fun _ => fun
  | [d1, d2, d3] => { results := [.lit (.bool false)], args := [d1, d2, d3] }
  | _ => none }
def WeighScaleWrongFalsely : Prop := weighScaleRow.holds Try.pinned (OpenSpec.ofChange weighScaleWrong)

/-- 'flumelaw14.WeighOne': WHATEVER THE INPUT: true; the input reads as it did. -/
def weighOneSpec : ChangeSpec := { name := "weighOne", fn := fun _ => fun
  | [d1, d2, d3, d4] => { results := [.lit (.bool true)], args := [d1, d2, d3, d4] }
  | _ => none }
def weighOneRow : OpenClaim := { program := "ytgoelobkehebjaa", sum := "5aab3025563f73c208ccbe9431a32e913e2dc47e893867344a4b61996636ae7a", func := "flume/flumelaw14.WeighOne", spec := "weighOne", apart := false }
def WeighOneSaid : Prop := weighOneRow.holds Try.pinned (OpenSpec.ofChange weighOneSpec)

/-- ITS FALSE NEIGHBOUR: 'it returns false'. Refute it at one input. -/
def weighOneWrong : ChangeSpec := { name := "weighOne", fn := fun _ => fun
  | [d1, d2, d3, d4] => { results := [.lit (.bool false)], args := [d1, d2, d3, d4] }
  | _ => none }
def WeighOneWrongFalsely : Prop := weighOneRow.holds Try.pinned (OpenSpec.ofChange weighOneWrong)

/-- 'flumelaw14.WeighZeros': WHATEVER THE INPUT: true; the input reads as it did. -/
def weighZerosSpec : ChangeSpec := { name := "weighZeros", fn := fun _ => fun
  | [d1, d2, d3] => { results := [.lit (.bool true)], args := [d1, d2, d3] }
  | _ => none }
def weighZerosRow : OpenClaim := { program := "ytgoelobkehebjaa", sum := "5aab3025563f73c208ccbe9431a32e913e2dc47e893867344a4b61996636ae7a", func := "flume/flumelaw14.WeighZeros", spec := "weighZeros", apart := false }
def WeighZerosSaid : Prop := weighZerosRow.holds Try.pinned (OpenSpec.ofChange weighZerosSpec)

/-- ITS FALSE NEIGHBOUR: 'it returns false'. Refute it at one input. -/
def weighZerosWrong : ChangeSpec := { name := "weighZeros", fn := fun _ => fun
  | [d1, d2, d3] => { results := [.lit (.bool false)], args := [d1, d2, d3] }
  | _ => none }
def WeighZerosWrongFalsely : Prop := weighZerosRow.holds Try.pinned (OpenSpec.ofChange weighZerosWrong)

/-- 'flumelaw14.WeighEven': WHATEVER THE INPUT: true; the input reads as it did. -/
def weighEvenSpec : ChangeSpec := { name := "weighEven", fn := fun _ => fun
  | [d1, d2] => { results := [.lit (.bool true)], args := [d1, d2] }
  | _ => none }
def weighEvenRow : OpenClaim := { program := "ytgoelobkehebjaa", sum := "5aab3025563f73c208ccbe9431a32e913e2dc47e893867344a4b61996636ae7a", func := "flume/flumelaw14.WeighEven", spec := "weighEven", apart := false }
def WeighEvenSaid : Prop := weighEvenRow.holds Try.pinned (OpenSpec.ofChange weighEvenSpec)

/-- ITS FALSE NEIGHBOUR: 'it returns false'. Refute it at one input. -/
def weighEvenWrong : ChangeSpec := { name := "weighEven", fn := fun _ => fun
  | [d1, d2] => { results := [.lit (.bool false)], args := [d1, d2] }
  | _ => none }
def WeighEvenWrongFalsely : Prop := weighEvenRow.holds Try.pinned (OpenSpec.ofChange weighEvenWrong)

/- THE SECOND FORM. 'bulk': how many values and letters a reading holds, each counted each time it is reached (what is shared counts as often as it is met; a slice's spare places count too). A statement '..UptoSaid' is the law's where the arguments, and the package variables that the reading takes, are together of bulk at most 1048576: NARROWER than '..Said'. Prove '..Said' where nothing that the law and all that it calls make is longer than what came in: it says more and counts as full. Else prove '..UptoSaid'. A law counts once. -/
mutual
def uptoBulk {H : Type} : DataW H → Nat
  | .lit (.string bytes) => bytes.length + 1
  | .lit _ => 1
  | .nil => 1
  | .ptr d => uptoBulk d + 1
  | .slice elems spare => uptoBulkAll elems + uptoBulkAll spare + 1
  | .agg parts => uptoBulkAll parts + 1
  | .iface _ d => uptoBulk d + 1
  | .map entries => uptoBulkEntries entries + 1
  | .held _ => 1
def uptoBulkAll {H : Type} : List (DataW H) → Nat
  | [] => 0
  | d :: r => uptoBulk d + uptoBulkAll r
def uptoBulkEntries {H : Type} : List (Lit × DataW H) → Nat
  | [] => 0
  | x :: r => uptoBulkEntry x + uptoBulkEntries r
def uptoBulkEntry {H : Type} : Lit × DataW H → Nat
  | (.string bytes, d) => bytes.length + uptoBulk d + 1
  | (_, d) => uptoBulk d + 1
 end
def uptoSmall : (H : Type) → List (DataW H) → Bool := fun _ ds => decide (uptoBulkAll ds ≤ 1048576)
def OpenSpec.upto (s : _root_.Go.ChangeSpec) : _root_.Go.OpenSpec := { _root_.Go.OpenSpec.ofChange s with cond := some uptoSmall }

/-- 'flumelaw14.WeighTells', WHERE WHAT IT READS IS OF BULK AT MOST 1048576: true; the input reads as it did. -/
def weighTellsUptoRow : OpenClaim := { program := "ytgoelobkehebjaa", sum := "5aab3025563f73c208ccbe9431a32e913e2dc47e893867344a4b61996636ae7a", func := "flume/flumelaw14.WeighTells", spec := "weighTells", apart := false, narrowed := true }
def WeighTellsUptoSaid : Prop := weighTellsUptoRow.holds Try.pinned (OpenSpec.upto weighTellsSpec)

/-- 'flumelaw14.WeighShares', WHERE WHAT IT READS IS OF BULK AT MOST 1048576: true; the input reads as it did. -/
def weighSharesUptoRow : OpenClaim := { program := "ytgoelobkehebjaa", sum := "5aab3025563f73c208ccbe9431a32e913e2dc47e893867344a4b61996636ae7a", func := "flume/flumelaw14.WeighShares", spec := "weighShares", apart := false, narrowed := true }
def WeighSharesUptoSaid : Prop := weighSharesUptoRow.holds Try.pinned (OpenSpec.upto weighSharesSpec)

/-- 'flumelaw14.WeighNever', WHERE WHAT IT READS IS OF BULK AT MOST 1048576: true; the input reads as it did. -/
def weighNeverUptoRow : OpenClaim := { program := "ytgoelobkehebjaa", sum := "5aab3025563f73c208ccbe9431a32e913e2dc47e893867344a4b61996636ae7a", func := "flume/flumelaw14.WeighNever", spec := "weighNever", apart := false, narrowed := true }
def WeighNeverUptoSaid : Prop := weighNeverUptoRow.holds Try.pinned (OpenSpec.upto weighNeverSpec)

/-- 'flumelaw14.WeighOrder', WHERE WHAT IT READS IS OF BULK AT MOST 1048576: true; the input reads as it did. -/
def weighOrderUptoRow : OpenClaim := { program := "ytgoelobkehebjaa", sum := "5aab3025563f73c208ccbe9431a32e913e2dc47e893867344a4b61996636ae7a", func := "flume/flumelaw14.WeighOrder", spec := "weighOrder", apart := false, narrowed := true }
def WeighOrderUptoSaid : Prop := weighOrderUptoRow.holds Try.pinned (OpenSpec.upto weighOrderSpec)

/-- 'flumelaw14.WeighScale', WHERE WHAT IT READS IS OF BULK AT MOST 1048576: true; the input reads as it did. -/
def weighScaleUptoRow : OpenClaim := { program := "ytgoelobkehebjaa", sum := "5aab3025563f73c208ccbe9431a32e913e2dc47e893867344a4b61996636ae7a", func := "flume/flumelaw14.WeighScale", spec := "weighScale", apart := false, narrowed := true }
def WeighScaleUptoSaid : Prop := weighScaleUptoRow.holds Try.pinned (OpenSpec.upto weighScaleSpec)

/-- 'flumelaw14.WeighOne', WHERE WHAT IT READS IS OF BULK AT MOST 1048576: true; the input reads as it did. -/
def weighOneUptoRow : OpenClaim := { program := "ytgoelobkehebjaa", sum := "5aab3025563f73c208ccbe9431a32e913e2dc47e893867344a4b61996636ae7a", func := "flume/flumelaw14.WeighOne", spec := "weighOne", apart := false, narrowed := true }
def WeighOneUptoSaid : Prop := weighOneUptoRow.holds Try.pinned (OpenSpec.upto weighOneSpec)

/-- 'flumelaw14.WeighZeros', WHERE WHAT IT READS IS OF BULK AT MOST 1048576: true; the input reads as it did. -/
def weighZerosUptoRow : OpenClaim := { program := "ytgoelobkehebjaa", sum := "5aab3025563f73c208ccbe9431a32e913e2dc47e893867344a4b61996636ae7a", func := "flume/flumelaw14.WeighZeros", spec := "weighZeros", apart := false, narrowed := true }
def WeighZerosUptoSaid : Prop := weighZerosUptoRow.holds Try.pinned (OpenSpec.upto weighZerosSpec)

/-- 'flumelaw14.WeighEven', WHERE WHAT IT READS IS OF BULK AT MOST 1048576: true; the input reads as it did. -/
def weighEvenUptoRow : OpenClaim := { program := "ytgoelobkehebjaa", sum := "5aab3025563f73c208ccbe9431a32e913e2dc47e893867344a4b61996636ae7a", func := "flume/flumelaw14.WeighEven", spec := "weighEven", apart := false, narrowed := true }
def WeighEvenUptoSaid : Prop := weighEvenUptoRow.holds Try.pinned (OpenSpec.upto weighEvenSpec)

end Rows
end Go.Proofs.Ytgoelobkehebjaa
