/-
  No cell of these rows narrows 'for every input' (looked for: loops, veiled, ifaces, maps, wideKeys, modest, calm, conditions, laid).
  DERIVED. THE GIVEN ROWS OF THIS SEAT. 6 by the template 'for every input the law returns true; each argument reads behind the call as it read before'; 0 by the template 'total and deterministic' (their statements: YtpelnhfohfojhaaTotals.lean).
  GIVEN WITH THE SEED: the statements are not yours to turn. If you find one false, say at which input.
  Laid BY PROGRAM, IN A SANDBOX (cutbox-rows.mjs): the forced cells as the released guide's own fill.sh prints them over the translation 7e2ce5af3d560fa0… (all of the seat's roots in one cut). By AI agents, Wed Nov 11 2026. No macro, syntax, notation, axiom, sorry.
-/
import Derived.Test.YtpelnhfohfojhaaChecked
import GoSem.Claim
import GoSem.ClaimJoined
import GoSem.ClaimMapViews
import Derived.JoinedTies
import Derived.KernelRfl
namespace Go.Proofs.Ytpelnhfohfojhaa
/- THE CELL 'sum', in the pinned program and in every row, IS THE sha256 OF THE DUMP (.gsa) THAT YtpelnhfohfojhaaProg.lean LOADS. Nothing in Lean hashes anything: it is a label: what it is worth is what the hold of that sum in a sandbox is worth. -/
noncomputable def Try.pinned : Pinned := { name := "ytpelnhfohfojhaa", sum := "7e2ce5af3d560fa00f0e7228dd7fd09770b96709d9fb68aaef5cbf3df4b79923", checked := Try.checked }
namespace Rows
def none {H : Type} : Left H := { results := [], args := [] }

/-- 'flumelaw03.HintsWrites': WHATEVER THE INPUT: true; the input reads as it did. -/
def hintsWritesSpec : ChangeSpec := { name := "hintsWrites", fn := fun _ => fun
  | [d1, d2, d3] => { results := [.lit (.bool true)], args := [d1, d2, d3] }
  | _ => none }
def hintsWritesRow : OpenClaim := { program := "ytpelnhfohfojhaa", sum := "7e2ce5af3d560fa00f0e7228dd7fd09770b96709d9fb68aaef5cbf3df4b79923", func := "flume/flumelaw03.HintsWrites", spec := "hintsWrites", unfollowed := true, recurses := true, apart := false }
def HintsWritesSaid : Prop := hintsWritesRow.holds Try.pinned (OpenSpec.ofChange hintsWritesSpec)

/-- ITS FALSE NEIGHBOUR: 'it returns false'. Refute it at one input. -/
def hintsWritesWrong : ChangeSpec := { name := "hintsWrites", fn := fun _ => fun
  | [d1, d2, d3] => { results := [.lit (.bool false)], args := [d1, d2, d3] }
  | _ => none }
def HintsWritesWrongFalsely : Prop := hintsWritesRow.holds Try.pinned (OpenSpec.ofChange hintsWritesWrong)

/-- 'flumelaw03.HintsReads': WHATEVER THE INPUT: true; the input reads as it did. -/
def hintsReadsSpec : ChangeSpec := { name := "hintsReads", fn := fun _ => fun
  | [d1, d2] => { results := [.lit (.bool true)], args := [d1, d2] }
  | _ => none }
def hintsReadsRow : OpenClaim := { program := "ytpelnhfohfojhaa", sum := "7e2ce5af3d560fa00f0e7228dd7fd09770b96709d9fb68aaef5cbf3df4b79923", func := "flume/flumelaw03.HintsReads", spec := "hintsReads", unfollowed := true, recurses := true, apart := false }
def HintsReadsSaid : Prop := hintsReadsRow.holds Try.pinned (OpenSpec.ofChange hintsReadsSpec)

/-- ITS FALSE NEIGHBOUR: 'it returns false'. Refute it at one input. -/
def hintsReadsWrong : ChangeSpec := { name := "hintsReads", fn := fun _ => fun
  | [d1, d2] => { results := [.lit (.bool false)], args := [d1, d2] }
  | _ => none }
def HintsReadsWrongFalsely : Prop := hintsReadsRow.holds Try.pinned (OpenSpec.ofChange hintsReadsWrong)

/-- 'flumelaw03.HintsTexts': WHATEVER THE INPUT: true; the input reads as it did. -/
def hintsTextsSpec : ChangeSpec := { name := "hintsTexts", fn := fun _ => fun
  | [d1, d2] => { results := [.lit (.bool true)], args := [d1, d2] }
  | _ => none }
def hintsTextsRow : OpenClaim := { program := "ytpelnhfohfojhaa", sum := "7e2ce5af3d560fa00f0e7228dd7fd09770b96709d9fb68aaef5cbf3df4b79923", func := "flume/flumelaw03.HintsTexts", spec := "hintsTexts", unfollowed := true, recurses := true, apart := false }
def HintsTextsSaid : Prop := hintsTextsRow.holds Try.pinned (OpenSpec.ofChange hintsTextsSpec)

/-- ITS FALSE NEIGHBOUR: 'it returns false'. Refute it at one input. -/
def hintsTextsWrong : ChangeSpec := { name := "hintsTexts", fn := fun _ => fun
  | [d1, d2] => { results := [.lit (.bool false)], args := [d1, d2] }
  | _ => none }
def HintsTextsWrongFalsely : Prop := hintsTextsRow.holds Try.pinned (OpenSpec.ofChange hintsTextsWrong)

/-- 'flumelaw03.HintsBack': WHATEVER THE INPUT: true; the input reads as it did. -/
def hintsBackSpec : ChangeSpec := { name := "hintsBack", fn := fun _ => fun
  | [d1, d2, d3, d4] => { results := [.lit (.bool true)], args := [d1, d2, d3, d4] }
  | _ => none }
def hintsBackRow : OpenClaim := { program := "ytpelnhfohfojhaa", sum := "7e2ce5af3d560fa00f0e7228dd7fd09770b96709d9fb68aaef5cbf3df4b79923", func := "flume/flumelaw03.HintsBack", spec := "hintsBack", unfollowed := true, recurses := true, apart := false }
def HintsBackSaid : Prop := hintsBackRow.holds Try.pinned (OpenSpec.ofChange hintsBackSpec)

/-- ITS FALSE NEIGHBOUR: 'it returns false'. Refute it at one input. -/
def hintsBackWrong : ChangeSpec := { name := "hintsBack", fn := fun _ => fun
  | [d1, d2, d3, d4] => { results := [.lit (.bool false)], args := [d1, d2, d3, d4] }
  | _ => none }
def HintsBackWrongFalsely : Prop := hintsBackRow.holds Try.pinned (OpenSpec.ofChange hintsBackWrong)

/-- 'flumelaw03.HintsLeast': WHATEVER THE INPUT: true; the input reads as it did. -/
def hintsLeastSpec : ChangeSpec := { name := "hintsLeast", fn := fun _ => fun
  | [d1, d2] => { results := [.lit (.bool true)], args := [d1, d2] }
  | _ => none }
def hintsLeastRow : OpenClaim := { program := "ytpelnhfohfojhaa", sum := "7e2ce5af3d560fa00f0e7228dd7fd09770b96709d9fb68aaef5cbf3df4b79923", func := "flume/flumelaw03.HintsLeast", spec := "hintsLeast", unfollowed := true, recurses := true, apart := false }
def HintsLeastSaid : Prop := hintsLeastRow.holds Try.pinned (OpenSpec.ofChange hintsLeastSpec)

/-- ITS FALSE NEIGHBOUR: 'it returns false'. Refute it at one input. -/
def hintsLeastWrong : ChangeSpec := { name := "hintsLeast", fn := fun _ => fun
  | [d1, d2] => { results := [.lit (.bool false)], args := [d1, d2] }
  | _ => none }
def HintsLeastWrongFalsely : Prop := hintsLeastRow.holds Try.pinned (OpenSpec.ofChange hintsLeastWrong)

/-- 'flumelaw03.HintsKept': WHATEVER THE INPUT: true; the input reads as it did. -/
def hintsKeptSpec : ChangeSpec := { name := "hintsKept", fn := fun _ => fun
  | [d1, d2, d3] => { results := [.lit (.bool true)], args := [d1, d2, d3] }
  | _ => none }
def hintsKeptRow : OpenClaim := { program := "ytpelnhfohfojhaa", sum := "7e2ce5af3d560fa00f0e7228dd7fd09770b96709d9fb68aaef5cbf3df4b79923", func := "flume/flumelaw03.HintsKept", spec := "hintsKept", unfollowed := true, recurses := true, apart := false }
def HintsKeptSaid : Prop := hintsKeptRow.holds Try.pinned (OpenSpec.ofChange hintsKeptSpec)

/-- ITS FALSE NEIGHBOUR: 'it returns false'. Refute it at one input. -/
def hintsKeptWrong : ChangeSpec := { name := "hintsKept", fn := fun _ => fun
  | [d1, d2, d3] => { results := [.lit (.bool false)], args := [d1, d2, d3] }
  | _ => none }
def HintsKeptWrongFalsely : Prop := hintsKeptRow.holds Try.pinned (OpenSpec.ofChange hintsKeptWrong)

/- THE SECOND FORM. 'bulk': how many values and letters a reading holds, each counted each time it is reached (what is shared counts as often as it is met; a slice's spare places count too). A statement '..UptoSaid' is the law's where the arguments, and the package variables that the reading takes, are together of bulk at most 1048576: NARROWER than '..Said'. Prove '..Said' where nothing that the law and all that it calls make is longer than what came in: it says more and counts as full. Else prove '..UptoSaid'. A law counts once. -/
mutual
def uptoBulk {H : Type} : DataW H → Nat
  | .lit (.string bytes) => bytes.length + 1
  | .lit _ => 1
  | .nil => 1
  | .ptr d => uptoBulk d + 1
  | .slice elems spare => uptoBulkAll elems + uptoBulkAll spare + 1
  | .agg parts => uptoBulkAll parts + 1
  | .iface _ d => uptoBulk d + 1
  | .map entries => uptoBulkEntries entries + 1
  | .held _ => 1
def uptoBulkAll {H : Type} : List (DataW H) → Nat
  | [] => 0
  | d :: r => uptoBulk d + uptoBulkAll r
def uptoBulkEntries {H : Type} : List (Lit × DataW H) → Nat
  | [] => 0
  | x :: r => uptoBulkEntry x + uptoBulkEntries r
def uptoBulkEntry {H : Type} : Lit × DataW H → Nat
  | (.string bytes, d) => bytes.length + uptoBulk d + 1
  | (_, d) => uptoBulk d + 1
 end
def uptoSmall : (H : Type) → List (DataW H) → Bool := fun _ ds => decide (uptoBulkAll ds ≤ 1048576)
def OpenSpec.upto (s : _root_.Go.ChangeSpec) : _root_.Go.OpenSpec := { _root_.Go.OpenSpec.ofChange s with cond := some uptoSmall }

/-- 'flumelaw03.HintsWrites', WHERE WHAT IT READS IS OF BULK AT MOST 1048576: true; the input reads as it did. -/
def hintsWritesUptoRow : OpenClaim := { program := "ytpelnhfohfojhaa", sum := "7e2ce5af3d560fa00f0e7228dd7fd09770b96709d9fb68aaef5cbf3df4b79923", func := "flume/flumelaw03.HintsWrites", spec := "hintsWrites", unfollowed := true, recurses := true, apart := false, narrowed := true }
def HintsWritesUptoSaid : Prop := hintsWritesUptoRow.holds Try.pinned (OpenSpec.upto hintsWritesSpec)

/-- 'flumelaw03.HintsReads', WHERE WHAT IT READS IS OF BULK AT MOST 1048576: true; the input reads as it did. -/
def hintsReadsUptoRow : OpenClaim := { program := "ytpelnhfohfojhaa", sum := "7e2ce5af3d560fa00f0e7228dd7fd09770b96709d9fb68aaef5cbf3df4b79923", func := "flume/flumelaw03.HintsReads", spec := "hintsReads", unfollowed := true, recurses := true, apart := false, narrowed := true }
def HintsReadsUptoSaid : Prop := hintsReadsUptoRow.holds Try.pinned (OpenSpec.upto hintsReadsSpec)

/-- 'flumelaw03.HintsTexts', WHERE WHAT IT READS IS OF BULK AT MOST 1048576: true; the input reads as it did. -/
def hintsTextsUptoRow : OpenClaim := { program := "ytpelnhfohfojhaa", sum := "7e2ce5af3d560fa00f0e7228dd7fd09770b96709d9fb68aaef5cbf3df4b79923", func := "flume/flumelaw03.HintsTexts", spec := "hintsTexts", unfollowed := true, recurses := true, apart := false, narrowed := true }
def HintsTextsUptoSaid : Prop := hintsTextsUptoRow.holds Try.pinned (OpenSpec.upto hintsTextsSpec)

/-- 'flumelaw03.HintsBack', WHERE WHAT IT READS IS OF BULK AT MOST 1048576: true; the input reads as it did. -/
def hintsBackUptoRow : OpenClaim := { program := "ytpelnhfohfojhaa", sum := "7e2ce5af3d560fa00f0e7228dd7fd09770b96709d9fb68aaef5cbf3df4b79923", func := "flume/flumelaw03.HintsBack", spec := "hintsBack", unfollowed := true, recurses := true, apart := false, narrowed := true }
def HintsBackUptoSaid : Prop := hintsBackUptoRow.holds Try.pinned (OpenSpec.upto hintsBackSpec)

/-- 'flumelaw03.HintsLeast', WHERE WHAT IT READS IS OF BULK AT MOST 1048576: true; the input reads as it did. -/
def hintsLeastUptoRow : OpenClaim := { program := "ytpelnhfohfojhaa", sum := "7e2ce5af3d560fa00f0e7228dd7fd09770b96709d9fb68aaef5cbf3df4b79923", func := "flume/flumelaw03.HintsLeast", spec := "hintsLeast", unfollowed := true, recurses := true, apart := false, narrowed := true }
def HintsLeastUptoSaid : Prop := hintsLeastUptoRow.holds Try.pinned (OpenSpec.upto hintsLeastSpec)

/-- 'flumelaw03.HintsKept', WHERE WHAT IT READS IS OF BULK AT MOST 1048576: true; the input reads as it did. -/
def hintsKeptUptoRow : OpenClaim := { program := "ytpelnhfohfojhaa", sum := "7e2ce5af3d560fa00f0e7228dd7fd09770b96709d9fb68aaef5cbf3df4b79923", func := "flume/flumelaw03.HintsKept", spec := "hintsKept", unfollowed := true, recurses := true, apart := false, narrowed := true }
def HintsKeptUptoSaid : Prop := hintsKeptUptoRow.holds Try.pinned (OpenSpec.upto hintsKeptSpec)

end Rows
end Go.Proofs.Ytpelnhfohfojhaa
