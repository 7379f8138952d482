/-
  No cell of these rows narrows 'for every input' (looked for: loops, veiled, ifaces, maps, wideKeys, modest, calm, conditions, laid).
  DERIVED. THE GIVEN ROWS OF THIS SEAT. 6 by the template 'for every input the law returns true; each argument reads behind the call as it read before'; 0 by the template 'total and deterministic' (their statements: YthinceoklkjcpaaTotals.lean).
  GIVEN WITH THE SEED: the statements are not yours to turn. If you find one false, say at which input.
  Laid BY PROGRAM, IN A SANDBOX (cutbox-rows.mjs): the forced cells as the released guide's own fill.sh prints them over the translation 13672f47f883e559… (all of the seat's roots in one cut). By AI agents, Wed Nov 11 2026. No macro, syntax, notation, axiom, sorry.
-/
import Derived.Test.YthinceoklkjcpaaChecked
import GoSem.Claim
import GoSem.ClaimJoined
import GoSem.ClaimMapViews
import Derived.JoinedTies
import Derived.KernelRfl
namespace Go.Proofs.Ythinceoklkjcpaa
/- THE CELL 'sum', in the pinned program and in every row, IS THE sha256 OF THE DUMP (.gsa) THAT YthinceoklkjcpaaProg.lean LOADS. Nothing in Lean hashes anything: it is a label: what it is worth is what the hold of that sum in a sandbox is worth. -/
noncomputable def Try.pinned : Pinned := { name := "ythinceoklkjcpaa", sum := "13672f47f883e5599f7c22e6e20e61f77df360f21d4087c91984bb8a6ae4366b", checked := Try.checked }
namespace Rows
def none {H : Type} : Left H := { results := [], args := [] }

/-- 'flumelaw18.PoolFull': WHATEVER THE INPUT: true; the input reads as it did. -/
def poolFullSpec : ChangeSpec := { name := "poolFull", fn := fun _ => fun
  | [d] => { results := [.lit (.bool true)], args := [d] }
  | _ => none }
def poolFullRow : OpenClaim := { program := "ythinceoklkjcpaa", sum := "13672f47f883e5599f7c22e6e20e61f77df360f21d4087c91984bb8a6ae4366b", func := "flume/flumelaw18.PoolFull", spec := "poolFull", unfollowed := true, recurses := true, apart := false }
def PoolFullSaid : Prop := poolFullRow.holds Try.pinned (OpenSpec.ofChange poolFullSpec)

/-- ITS FALSE NEIGHBOUR: 'it returns false'. Refute it at one input. -/
def poolFullWrong : ChangeSpec := { name := "poolFull", fn := fun _ => fun
  | [d] => { results := [.lit (.bool false)], args := [d] }
  | _ => none }
def PoolFullWrongFalsely : Prop := poolFullRow.holds Try.pinned (OpenSpec.ofChange poolFullWrong)

/-- 'flumelaw18.PoolMore': WHATEVER THE INPUT: true; the input reads as it did. -/
def poolMoreSpec : ChangeSpec := { name := "poolMore", fn := fun _ => fun
  | [d1, d2] => { results := [.lit (.bool true)], args := [d1, d2] }
  | _ => none }
def poolMoreRow : OpenClaim := { program := "ythinceoklkjcpaa", sum := "13672f47f883e5599f7c22e6e20e61f77df360f21d4087c91984bb8a6ae4366b", func := "flume/flumelaw18.PoolMore", spec := "poolMore", unfollowed := true, recurses := true, apart := false }
def PoolMoreSaid : Prop := poolMoreRow.holds Try.pinned (OpenSpec.ofChange poolMoreSpec)

/-- ITS FALSE NEIGHBOUR: 'it returns false'. Refute it at one input. -/
def poolMoreWrong : ChangeSpec := { name := "poolMore", fn := fun _ => fun
  | [d1, d2] => { results := [.lit (.bool false)], args := [d1, d2] }
  | _ => none }
def PoolMoreWrongFalsely : Prop := poolMoreRow.holds Try.pinned (OpenSpec.ofChange poolMoreWrong)

/-- 'flumelaw18.PoolPlays': WHATEVER THE INPUT: true; the input reads as it did. -/
def poolPlaysSpec : ChangeSpec := { name := "poolPlays", fn := fun _ => fun
  | [d1, d2] => { results := [.lit (.bool true)], args := [d1, d2] }
  | _ => none }
def poolPlaysRow : OpenClaim := { program := "ythinceoklkjcpaa", sum := "13672f47f883e5599f7c22e6e20e61f77df360f21d4087c91984bb8a6ae4366b", func := "flume/flumelaw18.PoolPlays", spec := "poolPlays", unfollowed := true, recurses := true, apart := false }
def PoolPlaysSaid : Prop := poolPlaysRow.holds Try.pinned (OpenSpec.ofChange poolPlaysSpec)

/-- ITS FALSE NEIGHBOUR: 'it returns false'. Refute it at one input. -/
def poolPlaysWrong : ChangeSpec := { name := "poolPlays", fn := fun _ => fun
  | [d1, d2] => { results := [.lit (.bool false)], args := [d1, d2] }
  | _ => none }
def PoolPlaysWrongFalsely : Prop := poolPlaysRow.holds Try.pinned (OpenSpec.ofChange poolPlaysWrong)

/-- 'flumelaw18.PoolPlaces': WHATEVER THE INPUT: true; the input reads as it did. -/
def poolPlacesSpec : ChangeSpec := { name := "poolPlaces", fn := fun _ => fun
  | [d] => { results := [.lit (.bool true)], args := [d] }
  | _ => none }
def poolPlacesRow : OpenClaim := { program := "ythinceoklkjcpaa", sum := "13672f47f883e5599f7c22e6e20e61f77df360f21d4087c91984bb8a6ae4366b", func := "flume/flumelaw18.PoolPlaces", spec := "poolPlaces", unfollowed := true, recurses := true, apart := false }
def PoolPlacesSaid : Prop := poolPlacesRow.holds Try.pinned (OpenSpec.ofChange poolPlacesSpec)

/-- ITS FALSE NEIGHBOUR: 'it returns false'. Refute it at one input. -/
def poolPlacesWrong : ChangeSpec := { name := "poolPlaces", fn := fun _ => fun
  | [d] => { results := [.lit (.bool false)], args := [d] }
  | _ => none }
def PoolPlacesWrongFalsely : Prop := poolPlacesRow.holds Try.pinned (OpenSpec.ofChange poolPlacesWrong)

/-- 'flumelaw18.PoolDrains': WHATEVER THE INPUT: true; the input reads as it did. -/
def poolDrainsSpec : ChangeSpec := { name := "poolDrains", fn := fun _ => fun
  | [d1, d2, d3, d4, d5] => { results := [.lit (.bool true)], args := [d1, d2, d3, d4, d5] }
  | _ => none }
def poolDrainsRow : OpenClaim := { program := "ythinceoklkjcpaa", sum := "13672f47f883e5599f7c22e6e20e61f77df360f21d4087c91984bb8a6ae4366b", func := "flume/flumelaw18.PoolDrains", spec := "poolDrains", unfollowed := true, recurses := true, apart := false }
def PoolDrainsSaid : Prop := poolDrainsRow.holds Try.pinned (OpenSpec.ofChange poolDrainsSpec)

/-- ITS FALSE NEIGHBOUR: 'it returns false'. Refute it at one input. -/
def poolDrainsWrong : ChangeSpec := { name := "poolDrains", fn := fun _ => fun
  | [d1, d2, d3, d4, d5] => { results := [.lit (.bool false)], args := [d1, d2, d3, d4, d5] }
  | _ => none }
def PoolDrainsWrongFalsely : Prop := poolDrainsRow.holds Try.pinned (OpenSpec.ofChange poolDrainsWrong)

/-- 'flumelaw18.PoolTurns': WHATEVER THE INPUT: true; the input reads as it did. -/
def poolTurnsSpec : ChangeSpec := { name := "poolTurns", fn := fun _ => fun
  | [d] => { results := [.lit (.bool true)], args := [d] }
  | _ => none }
def poolTurnsRow : OpenClaim := { program := "ythinceoklkjcpaa", sum := "13672f47f883e5599f7c22e6e20e61f77df360f21d4087c91984bb8a6ae4366b", func := "flume/flumelaw18.PoolTurns", spec := "poolTurns", unfollowed := true, recurses := true, apart := false }
def PoolTurnsSaid : Prop := poolTurnsRow.holds Try.pinned (OpenSpec.ofChange poolTurnsSpec)

/-- ITS FALSE NEIGHBOUR: 'it returns false'. Refute it at one input. -/
def poolTurnsWrong : ChangeSpec := { name := "poolTurns", fn := fun _ => fun
  | [d] => { results := [.lit (.bool false)], args := [d] }
  | _ => none }
def PoolTurnsWrongFalsely : Prop := poolTurnsRow.holds Try.pinned (OpenSpec.ofChange poolTurnsWrong)

/- THE SECOND FORM. 'bulk': how many values and letters a reading holds, each counted each time it is reached (what is shared counts as often as it is met; a slice's spare places count too). A statement '..UptoSaid' is the law's where the arguments, and the package variables that the reading takes, are together of bulk at most 1048576: NARROWER than '..Said'. Prove '..Said' where nothing that the law and all that it calls make is longer than what came in: it says more and counts as full. Else prove '..UptoSaid'. A law counts once. -/
mutual
def uptoBulk {H : Type} : DataW H → Nat
  | .lit (.string bytes) => bytes.length + 1
  | .lit _ => 1
  | .nil => 1
  | .ptr d => uptoBulk d + 1
  | .slice elems spare => uptoBulkAll elems + uptoBulkAll spare + 1
  | .agg parts => uptoBulkAll parts + 1
  | .iface _ d => uptoBulk d + 1
  | .map entries => uptoBulkEntries entries + 1
  | .held _ => 1
def uptoBulkAll {H : Type} : List (DataW H) → Nat
  | [] => 0
  | d :: r => uptoBulk d + uptoBulkAll r
def uptoBulkEntries {H : Type} : List (Lit × DataW H) → Nat
  | [] => 0
  | x :: r => uptoBulkEntry x + uptoBulkEntries r
def uptoBulkEntry {H : Type} : Lit × DataW H → Nat
  | (.string bytes, d) => bytes.length + uptoBulk d + 1
  | (_, d) => uptoBulk d + 1
 end
def uptoSmall : (H : Type) → List (DataW H) → Bool := fun _ ds => decide (uptoBulkAll ds ≤ 1048576)
def OpenSpec.upto (s : _root_.Go.ChangeSpec) : _root_.Go.OpenSpec := { _root_.Go.OpenSpec.ofChange s with cond := some uptoSmall }

/-- 'flumelaw18.PoolFull', WHERE WHAT IT READS IS OF BULK AT MOST 1048576: true; the input reads as it did. -/
def poolFullUptoRow : OpenClaim := { program := "ythinceoklkjcpaa", sum := "13672f47f883e5599f7c22e6e20e61f77df360f21d4087c91984bb8a6ae4366b", func := "flume/flumelaw18.PoolFull", spec := "poolFull", unfollowed := true, recurses := true, apart := false, narrowed := true }
def PoolFullUptoSaid : Prop := poolFullUptoRow.holds Try.pinned (OpenSpec.upto poolFullSpec)

/-- 'flumelaw18.PoolMore', WHERE WHAT IT READS IS OF BULK AT MOST 1048576: true; the input reads as it did. -/
def poolMoreUptoRow : OpenClaim := { program := "ythinceoklkjcpaa", sum := "13672f47f883e5599f7c22e6e20e61f77df360f21d4087c91984bb8a6ae4366b", func := "flume/flumelaw18.PoolMore", spec := "poolMore", unfollowed := true, recurses := true, apart := false, narrowed := true }
def PoolMoreUptoSaid : Prop := poolMoreUptoRow.holds Try.pinned (OpenSpec.upto poolMoreSpec)

/-- 'flumelaw18.PoolPlays', WHERE WHAT IT READS IS OF BULK AT MOST 1048576: true; the input reads as it did. -/
def poolPlaysUptoRow : OpenClaim := { program := "ythinceoklkjcpaa", sum := "13672f47f883e5599f7c22e6e20e61f77df360f21d4087c91984bb8a6ae4366b", func := "flume/flumelaw18.PoolPlays", spec := "poolPlays", unfollowed := true, recurses := true, apart := false, narrowed := true }
def PoolPlaysUptoSaid : Prop := poolPlaysUptoRow.holds Try.pinned (OpenSpec.upto poolPlaysSpec)

/-- 'flumelaw18.PoolPlaces', WHERE WHAT IT READS IS OF BULK AT MOST 1048576: true; the input reads as it did. -/
def poolPlacesUptoRow : OpenClaim := { program := "ythinceoklkjcpaa", sum := "13672f47f883e5599f7c22e6e20e61f77df360f21d4087c91984bb8a6ae4366b", func := "flume/flumelaw18.PoolPlaces", spec := "poolPlaces", unfollowed := true, recurses := true, apart := false, narrowed := true }
def PoolPlacesUptoSaid : Prop := poolPlacesUptoRow.holds Try.pinned (OpenSpec.upto poolPlacesSpec)

/-- 'flumelaw18.PoolDrains', WHERE WHAT IT READS IS OF BULK AT MOST 1048576: true; the input reads as it did. -/
def poolDrainsUptoRow : OpenClaim := { program := "ythinceoklkjcpaa", sum := "13672f47f883e5599f7c22e6e20e61f77df360f21d4087c91984bb8a6ae4366b", func := "flume/flumelaw18.PoolDrains", spec := "poolDrains", unfollowed := true, recurses := true, apart := false, narrowed := true }
def PoolDrainsUptoSaid : Prop := poolDrainsUptoRow.holds Try.pinned (OpenSpec.upto poolDrainsSpec)

/-- 'flumelaw18.PoolTurns', WHERE WHAT IT READS IS OF BULK AT MOST 1048576: true; the input reads as it did. -/
def poolTurnsUptoRow : OpenClaim := { program := "ythinceoklkjcpaa", sum := "13672f47f883e5599f7c22e6e20e61f77df360f21d4087c91984bb8a6ae4366b", func := "flume/flumelaw18.PoolTurns", spec := "poolTurns", unfollowed := true, recurses := true, apart := false, narrowed := true }
def PoolTurnsUptoSaid : Prop := poolTurnsUptoRow.holds Try.pinned (OpenSpec.upto poolTurnsSpec)

end Rows
end Go.Proofs.Ythinceoklkjcpaa
