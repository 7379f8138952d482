/-
  No cell of these rows narrows 'for every input' (looked for: loops, veiled, ifaces, maps, wideKeys, modest, calm, conditions, laid).
  DERIVED. THE GIVEN ROWS OF THIS SEAT. 9 by the template 'for every input the law returns true; each argument reads behind the call as it read before'; 0 by the template 'total and deterministic' (their statements: YtmoeioaahampaaaTotals.lean).
  GIVEN WITH THE SEED: the statements are not yours to turn. If you find one false, say at which input.
  Laid BY PROGRAM, IN A SANDBOX (cutbox-rows.mjs): the forced cells as the released guide's own fill.sh prints them over the translation f100792da1d0fc0e… (all of the seat's roots in one cut). By AI agents, Wed Nov 11 2026. No macro, syntax, notation, axiom, sorry.
-/
import Derived.Test.YtmoeioaahampaaaChecked
import GoSem.Claim
import GoSem.ClaimJoined
import GoSem.ClaimMapViews
import Derived.JoinedTies
import Derived.KernelRfl
namespace Go.Proofs.Ytmoeioaahampaaa
/- THE CELL 'sum', in the pinned program and in every row, IS THE sha256 OF THE DUMP (.gsa) THAT YtmoeioaahampaaaProg.lean LOADS. Nothing in Lean hashes anything: it is a label: what it is worth is what the hold of that sum in a sandbox is worth. -/
noncomputable def Try.pinned : Pinned := { name := "ytmoeioaahampaaa", sum := "f100792da1d0fc0ea86e81a8f2736cc1ea457eca6ee4abaa5a52eda502b0620d", checked := Try.checked }
namespace Rows
def none {H : Type} : Left H := { results := [], args := [] }

/-- 'flumelaw05.HpackBroken': WHATEVER THE INPUT: true; the input reads as it did. -/
def hpackBrokenSpec : ChangeSpec := { name := "hpackBroken", fn := fun _ => fun
  | [d1, d2, d3] => { results := [.lit (.bool true)], args := [d1, d2, d3] }
  | _ => none }
def hpackBrokenRow : OpenClaim := { program := "ytmoeioaahampaaa", sum := "f100792da1d0fc0ea86e81a8f2736cc1ea457eca6ee4abaa5a52eda502b0620d", func := "flume/flumelaw05.HpackBroken", spec := "hpackBroken", unfollowed := true, recurses := true, apart := false }
def HpackBrokenSaid : Prop := hpackBrokenRow.holds Try.pinned (OpenSpec.ofChange hpackBrokenSpec)

/-- ITS FALSE NEIGHBOUR: 'it returns false'. Refute it at one input. -/
def hpackBrokenWrong : ChangeSpec := { name := "hpackBroken", fn := fun _ => fun
  | [d1, d2, d3] => { results := [.lit (.bool false)], args := [d1, d2, d3] }
  | _ => none }
def HpackBrokenWrongFalsely : Prop := hpackBrokenRow.holds Try.pinned (OpenSpec.ofChange hpackBrokenWrong)

/-- 'flumelaw05.HpackJoins': WHATEVER THE INPUT: true; the input reads as it did. -/
def hpackJoinsSpec : ChangeSpec := { name := "hpackJoins", fn := fun _ => fun
  | [d1, d2, d3] => { results := [.lit (.bool true)], args := [d1, d2, d3] }
  | _ => none }
def hpackJoinsRow : OpenClaim := { program := "ytmoeioaahampaaa", sum := "f100792da1d0fc0ea86e81a8f2736cc1ea457eca6ee4abaa5a52eda502b0620d", func := "flume/flumelaw05.HpackJoins", spec := "hpackJoins", unfollowed := true, recurses := true, apart := false }
def HpackJoinsSaid : Prop := hpackJoinsRow.holds Try.pinned (OpenSpec.ofChange hpackJoinsSpec)

/-- ITS FALSE NEIGHBOUR: 'it returns false'. Refute it at one input. -/
def hpackJoinsWrong : ChangeSpec := { name := "hpackJoins", fn := fun _ => fun
  | [d1, d2, d3] => { results := [.lit (.bool false)], args := [d1, d2, d3] }
  | _ => none }
def HpackJoinsWrongFalsely : Prop := hpackJoinsRow.holds Try.pinned (OpenSpec.ofChange hpackJoinsWrong)

/-- 'flumelaw05.HpackNever': WHATEVER THE INPUT: true; the input reads as it did. -/
def hpackNeverSpec : ChangeSpec := { name := "hpackNever", fn := fun _ => fun
  | [d1, d2] => { results := [.lit (.bool true)], args := [d1, d2] }
  | _ => none }
def hpackNeverRow : OpenClaim := { program := "ytmoeioaahampaaa", sum := "f100792da1d0fc0ea86e81a8f2736cc1ea457eca6ee4abaa5a52eda502b0620d", func := "flume/flumelaw05.HpackNever", spec := "hpackNever", unfollowed := true, recurses := true, apart := false }
def HpackNeverSaid : Prop := hpackNeverRow.holds Try.pinned (OpenSpec.ofChange hpackNeverSpec)

/-- ITS FALSE NEIGHBOUR: 'it returns false'. Refute it at one input. -/
def hpackNeverWrong : ChangeSpec := { name := "hpackNever", fn := fun _ => fun
  | [d1, d2] => { results := [.lit (.bool false)], args := [d1, d2] }
  | _ => none }
def HpackNeverWrongFalsely : Prop := hpackNeverRow.holds Try.pinned (OpenSpec.ofChange hpackNeverWrong)

/-- 'flumelaw05.HpackLong': WHATEVER THE INPUT: true; the input reads as it did. -/
def hpackLongSpec : ChangeSpec := { name := "hpackLong", fn := fun _ => fun
  | [d1, d2, d3] => { results := [.lit (.bool true)], args := [d1, d2, d3] }
  | _ => none }
def hpackLongRow : OpenClaim := { program := "ytmoeioaahampaaa", sum := "f100792da1d0fc0ea86e81a8f2736cc1ea457eca6ee4abaa5a52eda502b0620d", func := "flume/flumelaw05.HpackLong", spec := "hpackLong", unfollowed := true, recurses := true, apart := false }
def HpackLongSaid : Prop := hpackLongRow.holds Try.pinned (OpenSpec.ofChange hpackLongSpec)

/-- ITS FALSE NEIGHBOUR: 'it returns false'. Refute it at one input. -/
def hpackLongWrong : ChangeSpec := { name := "hpackLong", fn := fun _ => fun
  | [d1, d2, d3] => { results := [.lit (.bool false)], args := [d1, d2, d3] }
  | _ => none }
def HpackLongWrongFalsely : Prop := hpackLongRow.holds Try.pinned (OpenSpec.ofChange hpackLongWrong)

/-- 'flumelaw05.HpackShort': WHATEVER THE INPUT: true; the input reads as it did. -/
def hpackShortSpec : ChangeSpec := { name := "hpackShort", fn := fun _ => fun
  | [d1, d2] => { results := [.lit (.bool true)], args := [d1, d2] }
  | _ => none }
def hpackShortRow : OpenClaim := { program := "ytmoeioaahampaaa", sum := "f100792da1d0fc0ea86e81a8f2736cc1ea457eca6ee4abaa5a52eda502b0620d", func := "flume/flumelaw05.HpackShort", spec := "hpackShort", unfollowed := true, recurses := true, apart := false }
def HpackShortSaid : Prop := hpackShortRow.holds Try.pinned (OpenSpec.ofChange hpackShortSpec)

/-- ITS FALSE NEIGHBOUR: 'it returns false'. Refute it at one input. -/
def hpackShortWrong : ChangeSpec := { name := "hpackShort", fn := fun _ => fun
  | [d1, d2] => { results := [.lit (.bool false)], args := [d1, d2] }
  | _ => none }
def HpackShortWrongFalsely : Prop := hpackShortRow.holds Try.pinned (OpenSpec.ofChange hpackShortWrong)

/-- 'flumelaw05.HpackDecodes': WHATEVER THE INPUT: true; the input reads as it did. -/
def hpackDecodesSpec : ChangeSpec := { name := "hpackDecodes", fn := fun _ => fun
  | [d1, d2, d3] => { results := [.lit (.bool true)], args := [d1, d2, d3] }
  | _ => none }
def hpackDecodesRow : OpenClaim := { program := "ytmoeioaahampaaa", sum := "f100792da1d0fc0ea86e81a8f2736cc1ea457eca6ee4abaa5a52eda502b0620d", func := "flume/flumelaw05.HpackDecodes", spec := "hpackDecodes", unfollowed := true, recurses := true, apart := false }
def HpackDecodesSaid : Prop := hpackDecodesRow.holds Try.pinned (OpenSpec.ofChange hpackDecodesSpec)

/-- ITS FALSE NEIGHBOUR: 'it returns false'. Refute it at one input. -/
def hpackDecodesWrong : ChangeSpec := { name := "hpackDecodes", fn := fun _ => fun
  | [d1, d2, d3] => { results := [.lit (.bool false)], args := [d1, d2, d3] }
  | _ => none }
def HpackDecodesWrongFalsely : Prop := hpackDecodesRow.holds Try.pinned (OpenSpec.ofChange hpackDecodesWrong)

/-- 'flumelaw05.HpackLimits': WHATEVER THE INPUT: true; the input reads as it did. -/
def hpackLimitsSpec : ChangeSpec := { name := "hpackLimits", fn := fun _ => fun
  | [d1, d2, d3] => { results := [.lit (.bool true)], args := [d1, d2, d3] }
  | _ => none }
def hpackLimitsRow : OpenClaim := { program := "ytmoeioaahampaaa", sum := "f100792da1d0fc0ea86e81a8f2736cc1ea457eca6ee4abaa5a52eda502b0620d", func := "flume/flumelaw05.HpackLimits", spec := "hpackLimits", unfollowed := true, recurses := true, apart := false }
def HpackLimitsSaid : Prop := hpackLimitsRow.holds Try.pinned (OpenSpec.ofChange hpackLimitsSpec)

/-- ITS FALSE NEIGHBOUR: 'it returns false'. Refute it at one input. -/
def hpackLimitsWrong : ChangeSpec := { name := "hpackLimits", fn := fun _ => fun
  | [d1, d2, d3] => { results := [.lit (.bool false)], args := [d1, d2, d3] }
  | _ => none }
def HpackLimitsWrongFalsely : Prop := hpackLimitsRow.holds Try.pinned (OpenSpec.ofChange hpackLimitsWrong)

/-- 'flumelaw05.HpackEncodes': WHATEVER THE INPUT: true; the input reads as it did. -/
def hpackEncodesSpec : ChangeSpec := { name := "hpackEncodes", fn := fun _ => fun
  | [d1, d2] => { results := [.lit (.bool true)], args := [d1, d2] }
  | _ => none }
def hpackEncodesRow : OpenClaim := { program := "ytmoeioaahampaaa", sum := "f100792da1d0fc0ea86e81a8f2736cc1ea457eca6ee4abaa5a52eda502b0620d", func := "flume/flumelaw05.HpackEncodes", spec := "hpackEncodes", unfollowed := true, recurses := true, apart := false }
def HpackEncodesSaid : Prop := hpackEncodesRow.holds Try.pinned (OpenSpec.ofChange hpackEncodesSpec)

/-- ITS FALSE NEIGHBOUR: 'it returns false'. Refute it at one input. -/
def hpackEncodesWrong : ChangeSpec := { name := "hpackEncodes", fn := fun _ => fun
  | [d1, d2] => { results := [.lit (.bool false)], args := [d1, d2] }
  | _ => none }
def HpackEncodesWrongFalsely : Prop := hpackEncodesRow.holds Try.pinned (OpenSpec.ofChange hpackEncodesWrong)

/-- 'flumelaw05.HpackBack': WHATEVER THE INPUT: true; the input reads as it did. -/
def hpackBackSpec : ChangeSpec := { name := "hpackBack", fn := fun _ => fun
  | [d1, d2] => { results := [.lit (.bool true)], args := [d1, d2] }
  | _ => none }
def hpackBackRow : OpenClaim := { program := "ytmoeioaahampaaa", sum := "f100792da1d0fc0ea86e81a8f2736cc1ea457eca6ee4abaa5a52eda502b0620d", func := "flume/flumelaw05.HpackBack", spec := "hpackBack", unfollowed := true, recurses := true, apart := false }
def HpackBackSaid : Prop := hpackBackRow.holds Try.pinned (OpenSpec.ofChange hpackBackSpec)

/-- ITS FALSE NEIGHBOUR: 'it returns false'. Refute it at one input. -/
def hpackBackWrong : ChangeSpec := { name := "hpackBack", fn := fun _ => fun
  | [d1, d2] => { results := [.lit (.bool false)], args := [d1, d2] }
  | _ => none }
def HpackBackWrongFalsely : Prop := hpackBackRow.holds Try.pinned (OpenSpec.ofChange hpackBackWrong)

/- THE SECOND FORM. 'bulk': how many values and letters a reading holds, each counted each time it is reached (what is shared counts as often as it is met; a slice's spare places count too). A statement '..UptoSaid' is the law's where the arguments, and the package variables that the reading takes, are together of bulk at most 1048576: NARROWER than '..Said'. Prove '..Said' where nothing that the law and all that it calls make is longer than what came in: it says more and counts as full. Else prove '..UptoSaid'. A law counts once. -/
mutual
def uptoBulk {H : Type} : DataW H → Nat
  | .lit (.string bytes) => bytes.length + 1
  | .lit _ => 1
  | .nil => 1
  | .ptr d => uptoBulk d + 1
  | .slice elems spare => uptoBulkAll elems + uptoBulkAll spare + 1
  | .agg parts => uptoBulkAll parts + 1
  | .iface _ d => uptoBulk d + 1
  | .map entries => uptoBulkEntries entries + 1
  | .held _ => 1
def uptoBulkAll {H : Type} : List (DataW H) → Nat
  | [] => 0
  | d :: r => uptoBulk d + uptoBulkAll r
def uptoBulkEntries {H : Type} : List (Lit × DataW H) → Nat
  | [] => 0
  | x :: r => uptoBulkEntry x + uptoBulkEntries r
def uptoBulkEntry {H : Type} : Lit × DataW H → Nat
  | (.string bytes, d) => bytes.length + uptoBulk d + 1
  | (_, d) => uptoBulk d + 1
 end
def uptoSmall : (H : Type) → List (DataW H) → Bool := fun _ ds => decide (uptoBulkAll ds ≤ 1048576)
def OpenSpec.upto (s : _root_.Go.ChangeSpec) : _root_.Go.OpenSpec := { _root_.Go.OpenSpec.ofChange s with cond := some uptoSmall }

/-- 'flumelaw05.HpackBroken', WHERE WHAT IT READS IS OF BULK AT MOST 1048576: true; the input reads as it did. -/
def hpackBrokenUptoRow : OpenClaim := { program := "ytmoeioaahampaaa", sum := "f100792da1d0fc0ea86e81a8f2736cc1ea457eca6ee4abaa5a52eda502b0620d", func := "flume/flumelaw05.HpackBroken", spec := "hpackBroken", unfollowed := true, recurses := true, apart := false, narrowed := true }
def HpackBrokenUptoSaid : Prop := hpackBrokenUptoRow.holds Try.pinned (OpenSpec.upto hpackBrokenSpec)

/-- 'flumelaw05.HpackJoins', WHERE WHAT IT READS IS OF BULK AT MOST 1048576: true; the input reads as it did. -/
def hpackJoinsUptoRow : OpenClaim := { program := "ytmoeioaahampaaa", sum := "f100792da1d0fc0ea86e81a8f2736cc1ea457eca6ee4abaa5a52eda502b0620d", func := "flume/flumelaw05.HpackJoins", spec := "hpackJoins", unfollowed := true, recurses := true, apart := false, narrowed := true }
def HpackJoinsUptoSaid : Prop := hpackJoinsUptoRow.holds Try.pinned (OpenSpec.upto hpackJoinsSpec)

/-- 'flumelaw05.HpackNever', WHERE WHAT IT READS IS OF BULK AT MOST 1048576: true; the input reads as it did. -/
def hpackNeverUptoRow : OpenClaim := { program := "ytmoeioaahampaaa", sum := "f100792da1d0fc0ea86e81a8f2736cc1ea457eca6ee4abaa5a52eda502b0620d", func := "flume/flumelaw05.HpackNever", spec := "hpackNever", unfollowed := true, recurses := true, apart := false, narrowed := true }
def HpackNeverUptoSaid : Prop := hpackNeverUptoRow.holds Try.pinned (OpenSpec.upto hpackNeverSpec)

/-- 'flumelaw05.HpackLong', WHERE WHAT IT READS IS OF BULK AT MOST 1048576: true; the input reads as it did. -/
def hpackLongUptoRow : OpenClaim := { program := "ytmoeioaahampaaa", sum := "f100792da1d0fc0ea86e81a8f2736cc1ea457eca6ee4abaa5a52eda502b0620d", func := "flume/flumelaw05.HpackLong", spec := "hpackLong", unfollowed := true, recurses := true, apart := false, narrowed := true }
def HpackLongUptoSaid : Prop := hpackLongUptoRow.holds Try.pinned (OpenSpec.upto hpackLongSpec)

/-- 'flumelaw05.HpackShort', WHERE WHAT IT READS IS OF BULK AT MOST 1048576: true; the input reads as it did. -/
def hpackShortUptoRow : OpenClaim := { program := "ytmoeioaahampaaa", sum := "f100792da1d0fc0ea86e81a8f2736cc1ea457eca6ee4abaa5a52eda502b0620d", func := "flume/flumelaw05.HpackShort", spec := "hpackShort", unfollowed := true, recurses := true, apart := false, narrowed := true }
def HpackShortUptoSaid : Prop := hpackShortUptoRow.holds Try.pinned (OpenSpec.upto hpackShortSpec)

/-- 'flumelaw05.HpackDecodes', WHERE WHAT IT READS IS OF BULK AT MOST 1048576: true; the input reads as it did. -/
def hpackDecodesUptoRow : OpenClaim := { program := "ytmoeioaahampaaa", sum := "f100792da1d0fc0ea86e81a8f2736cc1ea457eca6ee4abaa5a52eda502b0620d", func := "flume/flumelaw05.HpackDecodes", spec := "hpackDecodes", unfollowed := true, recurses := true, apart := false, narrowed := true }
def HpackDecodesUptoSaid : Prop := hpackDecodesUptoRow.holds Try.pinned (OpenSpec.upto hpackDecodesSpec)

/-- 'flumelaw05.HpackLimits', WHERE WHAT IT READS IS OF BULK AT MOST 1048576: true; the input reads as it did. -/
def hpackLimitsUptoRow : OpenClaim := { program := "ytmoeioaahampaaa", sum := "f100792da1d0fc0ea86e81a8f2736cc1ea457eca6ee4abaa5a52eda502b0620d", func := "flume/flumelaw05.HpackLimits", spec := "hpackLimits", unfollowed := true, recurses := true, apart := false, narrowed := true }
def HpackLimitsUptoSaid : Prop := hpackLimitsUptoRow.holds Try.pinned (OpenSpec.upto hpackLimitsSpec)

/-- 'flumelaw05.HpackEncodes', WHERE WHAT IT READS IS OF BULK AT MOST 1048576: true; the input reads as it did. -/
def hpackEncodesUptoRow : OpenClaim := { program := "ytmoeioaahampaaa", sum := "f100792da1d0fc0ea86e81a8f2736cc1ea457eca6ee4abaa5a52eda502b0620d", func := "flume/flumelaw05.HpackEncodes", spec := "hpackEncodes", unfollowed := true, recurses := true, apart := false, narrowed := true }
def HpackEncodesUptoSaid : Prop := hpackEncodesUptoRow.holds Try.pinned (OpenSpec.upto hpackEncodesSpec)

/-- 'flumelaw05.HpackBack', WHERE WHAT IT READS IS OF BULK AT MOST 1048576: true; the input reads as it did. -/
def hpackBackUptoRow : OpenClaim := { program := "ytmoeioaahampaaa", sum := "f100792da1d0fc0ea86e81a8f2736cc1ea457eca6ee4abaa5a52eda502b0620d", func := "flume/flumelaw05.HpackBack", spec := "hpackBack", unfollowed := true, recurses := true, apart := false, narrowed := true }
def HpackBackUptoSaid : Prop := hpackBackUptoRow.holds Try.pinned (OpenSpec.upto hpackBackSpec)

end Rows
end Go.Proofs.Ytmoeioaahampaaa
