/-
  No cell of these rows narrows 'for every input' (looked for: loops, veiled, ifaces, maps, wideKeys, modest, calm, conditions, laid).
  DERIVED. THE GIVEN ROWS OF THIS SEAT. 8 by the template 'for every input the law returns true; each argument reads behind the call as it read before'; 0 by the template 'total and deterministic' (their statements: YtbdimpakieejjaaTotals.lean).
  GIVEN WITH THE SEED: the statements are not yours to turn. If you find one false, say at which input.
  Laid BY PROGRAM, IN A SANDBOX (cutbox-rows.mjs): the forced cells as the released guide's own fill.sh prints them over the translation 2d17f24748fd0cc1… (all of the seat's roots in one cut). By AI agents, Wed Nov 11 2026. No macro, syntax, notation, axiom, sorry.
-/
import Derived.Test.YtbdimpakieejjaaChecked
import GoSem.Claim
import GoSem.ClaimJoined
import GoSem.ClaimMapViews
import Derived.JoinedTies
import Derived.KernelRfl
namespace Go.Proofs.Ytbdimpakieejjaa
/- THE CELL 'sum', in the pinned program and in every row, IS THE sha256 OF THE DUMP (.gsa) THAT YtbdimpakieejjaaProg.lean LOADS. Nothing in Lean hashes anything: it is a label: what it is worth is what the hold of that sum in a sandbox is worth. -/
noncomputable def Try.pinned : Pinned := { name := "ytbdimpakieejjaa", sum := "2d17f24748fd0cc114974c3fffe11061b3cb1d90b5fb62df81cc870a0dbd209e", checked := Try.checked }
namespace Rows
def none {H : Type} : Left H := { results := [], args := [] }

/-- 'flumelaw02.HuffmanCodes': WHATEVER THE INPUT: true; the input reads as it did. -/
def huffmanCodesSpec : ChangeSpec := { name := "huffmanCodes", fn := fun _ => fun
  | [d] => { results := [.lit (.bool true)], args := [d] }
  | _ => none }
def huffmanCodesRow : OpenClaim := { program := "ytbdimpakieejjaa", sum := "2d17f24748fd0cc114974c3fffe11061b3cb1d90b5fb62df81cc870a0dbd209e", func := "flume/flumelaw02.HuffmanCodes", spec := "huffmanCodes", apart := false }
def HuffmanCodesSaid : Prop := huffmanCodesRow.holds Try.pinned (OpenSpec.ofChange huffmanCodesSpec)

/-- ITS FALSE NEIGHBOUR: 'it returns false'. Refute it at one input. -/
def huffmanCodesWrong : ChangeSpec := { name := "huffmanCodes", fn := fun _ => fun
  | [d] => { results := [.lit (.bool false)], args := [d] }
  | _ => none }
def HuffmanCodesWrongFalsely : Prop := huffmanCodesRow.holds Try.pinned (OpenSpec.ofChange huffmanCodesWrong)

/-- 'flumelaw02.HuffmanReads': WHATEVER THE INPUT: true; the input reads as it did. -/
def huffmanReadsSpec : ChangeSpec := { name := "huffmanReads", fn := fun _ => fun
  | [d1, d2] => { results := [.lit (.bool true)], args := [d1, d2] }
  | _ => none }
def huffmanReadsRow : OpenClaim := { program := "ytbdimpakieejjaa", sum := "2d17f24748fd0cc114974c3fffe11061b3cb1d90b5fb62df81cc870a0dbd209e", func := "flume/flumelaw02.HuffmanReads", spec := "huffmanReads", apart := false }
def HuffmanReadsSaid : Prop := huffmanReadsRow.holds Try.pinned (OpenSpec.ofChange huffmanReadsSpec)

/-- ITS FALSE NEIGHBOUR: 'it returns false'. Refute it at one input. -/
def huffmanReadsWrong : ChangeSpec := { name := "huffmanReads", fn := fun _ => fun
  | [d1, d2] => { results := [.lit (.bool false)], args := [d1, d2] }
  | _ => none }
def HuffmanReadsWrongFalsely : Prop := huffmanReadsRow.holds Try.pinned (OpenSpec.ofChange huffmanReadsWrong)

/-- 'flumelaw02.HuffmanOne': WHATEVER THE INPUT: true; the input reads as it did. -/
def huffmanOneSpec : ChangeSpec := { name := "huffmanOne", fn := fun _ => fun
  | [d] => { results := [.lit (.bool true)], args := [d] }
  | _ => none }
def huffmanOneRow : OpenClaim := { program := "ytbdimpakieejjaa", sum := "2d17f24748fd0cc114974c3fffe11061b3cb1d90b5fb62df81cc870a0dbd209e", func := "flume/flumelaw02.HuffmanOne", spec := "huffmanOne", apart := false }
def HuffmanOneSaid : Prop := huffmanOneRow.holds Try.pinned (OpenSpec.ofChange huffmanOneSpec)

/-- ITS FALSE NEIGHBOUR: 'it returns false'. Refute it at one input. -/
def huffmanOneWrong : ChangeSpec := { name := "huffmanOne", fn := fun _ => fun
  | [d] => { results := [.lit (.bool false)], args := [d] }
  | _ => none }
def HuffmanOneWrongFalsely : Prop := huffmanOneRow.holds Try.pinned (OpenSpec.ofChange huffmanOneWrong)

/-- 'flumelaw02.HuffmanPrefix': WHATEVER THE INPUT: true; the input reads as it did. -/
def huffmanPrefixSpec : ChangeSpec := { name := "huffmanPrefix", fn := fun _ => fun
  | [d1, d2] => { results := [.lit (.bool true)], args := [d1, d2] }
  | _ => none }
def huffmanPrefixRow : OpenClaim := { program := "ytbdimpakieejjaa", sum := "2d17f24748fd0cc114974c3fffe11061b3cb1d90b5fb62df81cc870a0dbd209e", func := "flume/flumelaw02.HuffmanPrefix", spec := "huffmanPrefix", apart := false }
def HuffmanPrefixSaid : Prop := huffmanPrefixRow.holds Try.pinned (OpenSpec.ofChange huffmanPrefixSpec)

/-- ITS FALSE NEIGHBOUR: 'it returns false'. Refute it at one input. -/
def huffmanPrefixWrong : ChangeSpec := { name := "huffmanPrefix", fn := fun _ => fun
  | [d1, d2] => { results := [.lit (.bool false)], args := [d1, d2] }
  | _ => none }
def HuffmanPrefixWrongFalsely : Prop := huffmanPrefixRow.holds Try.pinned (OpenSpec.ofChange huffmanPrefixWrong)

/-- 'flumelaw02.HuffmanTurned': WHATEVER THE INPUT: true; the input reads as it did. -/
def huffmanTurnedSpec : ChangeSpec := { name := "huffmanTurned", fn := fun _ => fun
  | [d1, d2] => { results := [.lit (.bool true)], args := [d1, d2] }
  | _ => none }
def huffmanTurnedRow : OpenClaim := { program := "ytbdimpakieejjaa", sum := "2d17f24748fd0cc114974c3fffe11061b3cb1d90b5fb62df81cc870a0dbd209e", func := "flume/flumelaw02.HuffmanTurned", spec := "huffmanTurned", apart := false }
def HuffmanTurnedSaid : Prop := huffmanTurnedRow.holds Try.pinned (OpenSpec.ofChange huffmanTurnedSpec)

/-- ITS FALSE NEIGHBOUR: 'it returns false'. Refute it at one input. -/
def huffmanTurnedWrong : ChangeSpec := { name := "huffmanTurned", fn := fun _ => fun
  | [d1, d2] => { results := [.lit (.bool false)], args := [d1, d2] }
  | _ => none }
def HuffmanTurnedWrongFalsely : Prop := huffmanTurnedRow.holds Try.pinned (OpenSpec.ofChange huffmanTurnedWrong)

/-- 'flumelaw02.HuffmanWrites': WHATEVER THE INPUT: true; the input reads as it did. -/
def huffmanWritesSpec : ChangeSpec := { name := "huffmanWrites", fn := fun _ => fun
  | [d] => { results := [.lit (.bool true)], args := [d] }
  | _ => none }
def huffmanWritesRow : OpenClaim := { program := "ytbdimpakieejjaa", sum := "2d17f24748fd0cc114974c3fffe11061b3cb1d90b5fb62df81cc870a0dbd209e", func := "flume/flumelaw02.HuffmanWrites", spec := "huffmanWrites", apart := false }
def HuffmanWritesSaid : Prop := huffmanWritesRow.holds Try.pinned (OpenSpec.ofChange huffmanWritesSpec)

/-- ITS FALSE NEIGHBOUR: 'it returns false'. Refute it at one input. -/
def huffmanWritesWrong : ChangeSpec := { name := "huffmanWrites", fn := fun _ => fun
  | [d] => { results := [.lit (.bool false)], args := [d] }
  | _ => none }
def HuffmanWritesWrongFalsely : Prop := huffmanWritesRow.holds Try.pinned (OpenSpec.ofChange huffmanWritesWrong)

/-- 'flumelaw02.HuffmanBack': WHATEVER THE INPUT: true; the input reads as it did. -/
def huffmanBackSpec : ChangeSpec := { name := "huffmanBack", fn := fun _ => fun
  | [d] => { results := [.lit (.bool true)], args := [d] }
  | _ => none }
def huffmanBackRow : OpenClaim := { program := "ytbdimpakieejjaa", sum := "2d17f24748fd0cc114974c3fffe11061b3cb1d90b5fb62df81cc870a0dbd209e", func := "flume/flumelaw02.HuffmanBack", spec := "huffmanBack", apart := false }
def HuffmanBackSaid : Prop := huffmanBackRow.holds Try.pinned (OpenSpec.ofChange huffmanBackSpec)

/-- ITS FALSE NEIGHBOUR: 'it returns false'. Refute it at one input. -/
def huffmanBackWrong : ChangeSpec := { name := "huffmanBack", fn := fun _ => fun
  | [d] => { results := [.lit (.bool false)], args := [d] }
  | _ => none }
def HuffmanBackWrongFalsely : Prop := huffmanBackRow.holds Try.pinned (OpenSpec.ofChange huffmanBackWrong)

/-- 'flumelaw02.HuffmanSizes': WHATEVER THE INPUT: true; the input reads as it did. -/
def huffmanSizesSpec : ChangeSpec := { name := "huffmanSizes", fn := fun _ => fun
  | [d1, d2] => { results := [.lit (.bool true)], args := [d1, d2] }
  | _ => none }
def huffmanSizesRow : OpenClaim := { program := "ytbdimpakieejjaa", sum := "2d17f24748fd0cc114974c3fffe11061b3cb1d90b5fb62df81cc870a0dbd209e", func := "flume/flumelaw02.HuffmanSizes", spec := "huffmanSizes", apart := false }
def HuffmanSizesSaid : Prop := huffmanSizesRow.holds Try.pinned (OpenSpec.ofChange huffmanSizesSpec)

/-- ITS FALSE NEIGHBOUR: 'it returns false'. Refute it at one input. -/
def huffmanSizesWrong : ChangeSpec := { name := "huffmanSizes", fn := fun _ => fun
  | [d1, d2] => { results := [.lit (.bool false)], args := [d1, d2] }
  | _ => none }
def HuffmanSizesWrongFalsely : Prop := huffmanSizesRow.holds Try.pinned (OpenSpec.ofChange huffmanSizesWrong)

/- THE SECOND FORM. 'bulk': how many values and letters a reading holds, each counted each time it is reached (what is shared counts as often as it is met; a slice's spare places count too). A statement '..UptoSaid' is the law's where the arguments, and the package variables that the reading takes, are together of bulk at most 1048576: NARROWER than '..Said'. Prove '..Said' where nothing that the law and all that it calls make is longer than what came in: it says more and counts as full. Else prove '..UptoSaid'. A law counts once. -/
mutual
def uptoBulk {H : Type} : DataW H → Nat
  | .lit (.string bytes) => bytes.length + 1
  | .lit _ => 1
  | .nil => 1
  | .ptr d => uptoBulk d + 1
  | .slice elems spare => uptoBulkAll elems + uptoBulkAll spare + 1
  | .agg parts => uptoBulkAll parts + 1
  | .iface _ d => uptoBulk d + 1
  | .map entries => uptoBulkEntries entries + 1
  | .held _ => 1
def uptoBulkAll {H : Type} : List (DataW H) → Nat
  | [] => 0
  | d :: r => uptoBulk d + uptoBulkAll r
def uptoBulkEntries {H : Type} : List (Lit × DataW H) → Nat
  | [] => 0
  | x :: r => uptoBulkEntry x + uptoBulkEntries r
def uptoBulkEntry {H : Type} : Lit × DataW H → Nat
  | (.string bytes, d) => bytes.length + uptoBulk d + 1
  | (_, d) => uptoBulk d + 1
 end
def uptoSmall : (H : Type) → List (DataW H) → Bool := fun _ ds => decide (uptoBulkAll ds ≤ 1048576)
def OpenSpec.upto (s : _root_.Go.ChangeSpec) : _root_.Go.OpenSpec := { _root_.Go.OpenSpec.ofChange s with cond := some uptoSmall }

/-- 'flumelaw02.HuffmanCodes', WHERE WHAT IT READS IS OF BULK AT MOST 1048576: true; the input reads as it did. -/
def huffmanCodesUptoRow : OpenClaim := { program := "ytbdimpakieejjaa", sum := "2d17f24748fd0cc114974c3fffe11061b3cb1d90b5fb62df81cc870a0dbd209e", func := "flume/flumelaw02.HuffmanCodes", spec := "huffmanCodes", apart := false, narrowed := true }
def HuffmanCodesUptoSaid : Prop := huffmanCodesUptoRow.holds Try.pinned (OpenSpec.upto huffmanCodesSpec)

/-- 'flumelaw02.HuffmanReads', WHERE WHAT IT READS IS OF BULK AT MOST 1048576: true; the input reads as it did. -/
def huffmanReadsUptoRow : OpenClaim := { program := "ytbdimpakieejjaa", sum := "2d17f24748fd0cc114974c3fffe11061b3cb1d90b5fb62df81cc870a0dbd209e", func := "flume/flumelaw02.HuffmanReads", spec := "huffmanReads", apart := false, narrowed := true }
def HuffmanReadsUptoSaid : Prop := huffmanReadsUptoRow.holds Try.pinned (OpenSpec.upto huffmanReadsSpec)

/-- 'flumelaw02.HuffmanOne', WHERE WHAT IT READS IS OF BULK AT MOST 1048576: true; the input reads as it did. -/
def huffmanOneUptoRow : OpenClaim := { program := "ytbdimpakieejjaa", sum := "2d17f24748fd0cc114974c3fffe11061b3cb1d90b5fb62df81cc870a0dbd209e", func := "flume/flumelaw02.HuffmanOne", spec := "huffmanOne", apart := false, narrowed := true }
def HuffmanOneUptoSaid : Prop := huffmanOneUptoRow.holds Try.pinned (OpenSpec.upto huffmanOneSpec)

/-- 'flumelaw02.HuffmanPrefix', WHERE WHAT IT READS IS OF BULK AT MOST 1048576: true; the input reads as it did. -/
def huffmanPrefixUptoRow : OpenClaim := { program := "ytbdimpakieejjaa", sum := "2d17f24748fd0cc114974c3fffe11061b3cb1d90b5fb62df81cc870a0dbd209e", func := "flume/flumelaw02.HuffmanPrefix", spec := "huffmanPrefix", apart := false, narrowed := true }
def HuffmanPrefixUptoSaid : Prop := huffmanPrefixUptoRow.holds Try.pinned (OpenSpec.upto huffmanPrefixSpec)

/-- 'flumelaw02.HuffmanTurned', WHERE WHAT IT READS IS OF BULK AT MOST 1048576: true; the input reads as it did. -/
def huffmanTurnedUptoRow : OpenClaim := { program := "ytbdimpakieejjaa", sum := "2d17f24748fd0cc114974c3fffe11061b3cb1d90b5fb62df81cc870a0dbd209e", func := "flume/flumelaw02.HuffmanTurned", spec := "huffmanTurned", apart := false, narrowed := true }
def HuffmanTurnedUptoSaid : Prop := huffmanTurnedUptoRow.holds Try.pinned (OpenSpec.upto huffmanTurnedSpec)

/-- 'flumelaw02.HuffmanWrites', WHERE WHAT IT READS IS OF BULK AT MOST 1048576: true; the input reads as it did. -/
def huffmanWritesUptoRow : OpenClaim := { program := "ytbdimpakieejjaa", sum := "2d17f24748fd0cc114974c3fffe11061b3cb1d90b5fb62df81cc870a0dbd209e", func := "flume/flumelaw02.HuffmanWrites", spec := "huffmanWrites", apart := false, narrowed := true }
def HuffmanWritesUptoSaid : Prop := huffmanWritesUptoRow.holds Try.pinned (OpenSpec.upto huffmanWritesSpec)

/-- 'flumelaw02.HuffmanBack', WHERE WHAT IT READS IS OF BULK AT MOST 1048576: true; the input reads as it did. -/
def huffmanBackUptoRow : OpenClaim := { program := "ytbdimpakieejjaa", sum := "2d17f24748fd0cc114974c3fffe11061b3cb1d90b5fb62df81cc870a0dbd209e", func := "flume/flumelaw02.HuffmanBack", spec := "huffmanBack", apart := false, narrowed := true }
def HuffmanBackUptoSaid : Prop := huffmanBackUptoRow.holds Try.pinned (OpenSpec.upto huffmanBackSpec)

/-- 'flumelaw02.HuffmanSizes', WHERE WHAT IT READS IS OF BULK AT MOST 1048576: true; the input reads as it did. -/
def huffmanSizesUptoRow : OpenClaim := { program := "ytbdimpakieejjaa", sum := "2d17f24748fd0cc114974c3fffe11061b3cb1d90b5fb62df81cc870a0dbd209e", func := "flume/flumelaw02.HuffmanSizes", spec := "huffmanSizes", apart := false, narrowed := true }
def HuffmanSizesUptoSaid : Prop := huffmanSizesUptoRow.holds Try.pinned (OpenSpec.upto huffmanSizesSpec)

end Rows
end Go.Proofs.Ytbdimpakieejjaa
