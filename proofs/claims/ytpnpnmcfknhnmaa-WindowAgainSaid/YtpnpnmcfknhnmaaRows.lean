/-
  No cell of these rows narrows 'for every input' (looked for: loops, veiled, ifaces, maps, wideKeys, modest, calm, conditions, laid).
  DERIVED. THE GIVEN ROWS OF THIS SEAT. 6 by the template 'for every input the law returns true; each argument reads behind the call as it read before'; 0 by the template 'total and deterministic' (their statements: YtpnpnmcfknhnmaaTotals.lean).
  GIVEN WITH THE SEED: the statements are not yours to turn. If you find one false, say at which input.
  Laid BY PROGRAM, IN A SANDBOX (cutbox-rows.mjs): the forced cells as the released guide's own fill.sh prints them over the translation 5ac1f683a7a33e19… (all of the seat's roots in one cut). By AI agents, Wed Nov 11 2026. No macro, syntax, notation, axiom, sorry.
-/
import Derived.Test.YtpnpnmcfknhnmaaChecked
import GoSem.Claim
import GoSem.ClaimJoined
import GoSem.ClaimMapViews
import Derived.JoinedTies
import Derived.KernelRfl
namespace Go.Proofs.Ytpnpnmcfknhnmaa
/- THE CELL 'sum', in the pinned program and in every row, IS THE sha256 OF THE DUMP (.gsa) THAT YtpnpnmcfknhnmaaProg.lean LOADS. Nothing in Lean hashes anything: it is a label: what it is worth is what the hold of that sum in a sandbox is worth. -/
noncomputable def Try.pinned : Pinned := { name := "ytpnpnmcfknhnmaa", sum := "5ac1f683a7a33e194531436301506a4b11c582ddc267d16707b31ea1375e478c", checked := Try.checked }
namespace Rows
def none {H : Type} : Left H := { results := [], args := [] }

/-- 'flumelaw07.WindowCredits': WHATEVER THE INPUT: true; the input reads as it did. -/
def windowCreditsSpec : ChangeSpec := { name := "windowCredits", fn := fun _ => fun
  | [d1, d2] => { results := [.lit (.bool true)], args := [d1, d2] }
  | _ => none }
def windowCreditsRow : OpenClaim := { program := "ytpnpnmcfknhnmaa", sum := "5ac1f683a7a33e194531436301506a4b11c582ddc267d16707b31ea1375e478c", func := "flume/flumelaw07.WindowCredits", spec := "windowCredits", apart := false }
def WindowCreditsSaid : Prop := windowCreditsRow.holds Try.pinned (OpenSpec.ofChange windowCreditsSpec)

/-- ITS FALSE NEIGHBOUR: 'it returns false'. Refute it at one input. -/
def windowCreditsWrong : ChangeSpec := { name := "windowCredits", fn := fun _ => fun
  | [d1, d2] => { results := [.lit (.bool false)], args := [d1, d2] }
  | _ => none }
def WindowCreditsWrongFalsely : Prop := windowCreditsRow.holds Try.pinned (OpenSpec.ofChange windowCreditsWrong)

/-- 'flumelaw07.WindowNever': WHATEVER THE INPUT: true; the input reads as it did. -/
def windowNeverSpec : ChangeSpec := { name := "windowNever", fn := fun _ => fun
  | [d1, d2] => { results := [.lit (.bool true)], args := [d1, d2] }
  | _ => none }
def windowNeverRow : OpenClaim := { program := "ytpnpnmcfknhnmaa", sum := "5ac1f683a7a33e194531436301506a4b11c582ddc267d16707b31ea1375e478c", func := "flume/flumelaw07.WindowNever", spec := "windowNever", apart := false }
def WindowNeverSaid : Prop := windowNeverRow.holds Try.pinned (OpenSpec.ofChange windowNeverSpec)

/-- ITS FALSE NEIGHBOUR: 'it returns false'. Refute it at one input. -/
def windowNeverWrong : ChangeSpec := { name := "windowNever", fn := fun _ => fun
  | [d1, d2] => { results := [.lit (.bool false)], args := [d1, d2] }
  | _ => none }
def WindowNeverWrongFalsely : Prop := windowNeverRow.holds Try.pinned (OpenSpec.ofChange windowNeverWrong)

/-- 'flumelaw07.WindowMost': WHATEVER THE INPUT: true; the input reads as it did. -/
def windowMostSpec : ChangeSpec := { name := "windowMost", fn := fun _ => fun
  | [d1, d2, d3, d4] => { results := [.lit (.bool true)], args := [d1, d2, d3, d4] }
  | _ => none }
def windowMostRow : OpenClaim := { program := "ytpnpnmcfknhnmaa", sum := "5ac1f683a7a33e194531436301506a4b11c582ddc267d16707b31ea1375e478c", func := "flume/flumelaw07.WindowMost", spec := "windowMost", apart := false }
def WindowMostSaid : Prop := windowMostRow.holds Try.pinned (OpenSpec.ofChange windowMostSpec)

/-- ITS FALSE NEIGHBOUR: 'it returns false'. Refute it at one input. -/
def windowMostWrong : ChangeSpec := { name := "windowMost", fn := fun _ => fun
  | [d1, d2, d3, d4] => { results := [.lit (.bool false)], args := [d1, d2, d3, d4] }
  | _ => none }
def WindowMostWrongFalsely : Prop := windowMostRow.holds Try.pinned (OpenSpec.ofChange windowMostWrong)

/-- 'flumelaw07.WindowAgain': WHATEVER THE INPUT: true; the input reads as it did. -/
def windowAgainSpec : ChangeSpec := { name := "windowAgain", fn := fun _ => fun
  | [d1, d2] => { results := [.lit (.bool true)], args := [d1, d2] }
  | _ => none }
def windowAgainRow : OpenClaim := { program := "ytpnpnmcfknhnmaa", sum := "5ac1f683a7a33e194531436301506a4b11c582ddc267d16707b31ea1375e478c", func := "flume/flumelaw07.WindowAgain", spec := "windowAgain", apart := false }
def WindowAgainSaid : Prop := windowAgainRow.holds Try.pinned (OpenSpec.ofChange windowAgainSpec)

/-- ITS FALSE NEIGHBOUR: 'it returns false'. Refute it at one input. -/
def windowAgainWrong : ChangeSpec := { name := "windowAgain", fn := fun _ => fun
  | [d1, d2] => { results := [.lit (.bool false)], args := [d1, d2] }
  | _ => none }
def WindowAgainWrongFalsely : Prop := windowAgainRow.holds Try.pinned (OpenSpec.ofChange windowAgainWrong)

/-- 'flumelaw07.WindowTells': WHATEVER THE INPUT: true; the input reads as it did. -/
def windowTellsSpec : ChangeSpec := { name := "windowTells", fn := fun _ => fun
  | [d1, d2, d3, d4] => { results := [.lit (.bool true)], args := [d1, d2, d3, d4] }
  | _ => none }
def windowTellsRow : OpenClaim := { program := "ytpnpnmcfknhnmaa", sum := "5ac1f683a7a33e194531436301506a4b11c582ddc267d16707b31ea1375e478c", func := "flume/flumelaw07.WindowTells", spec := "windowTells", apart := false }
def WindowTellsSaid : Prop := windowTellsRow.holds Try.pinned (OpenSpec.ofChange windowTellsSpec)

/-- ITS FALSE NEIGHBOUR: 'it returns false'. Refute it at one input. -/
def windowTellsWrong : ChangeSpec := { name := "windowTells", fn := fun _ => fun
  | [d1, d2, d3, d4] => { results := [.lit (.bool false)], args := [d1, d2, d3, d4] }
  | _ => none }
def WindowTellsWrongFalsely : Prop := windowTellsRow.holds Try.pinned (OpenSpec.ofChange windowTellsWrong)

/-- 'flumelaw07.WindowShifts': WHATEVER THE INPUT: true; the input reads as it did. -/
def windowShiftsSpec : ChangeSpec := { name := "windowShifts", fn := fun _ => fun
  | [d1, d2, d3, d4] => { results := [.lit (.bool true)], args := [d1, d2, d3, d4] }
  | _ => none }
def windowShiftsRow : OpenClaim := { program := "ytpnpnmcfknhnmaa", sum := "5ac1f683a7a33e194531436301506a4b11c582ddc267d16707b31ea1375e478c", func := "flume/flumelaw07.WindowShifts", spec := "windowShifts", apart := false }
def WindowShiftsSaid : Prop := windowShiftsRow.holds Try.pinned (OpenSpec.ofChange windowShiftsSpec)

/-- ITS FALSE NEIGHBOUR: 'it returns false'. Refute it at one input. -/
def windowShiftsWrong : ChangeSpec := { name := "windowShifts", fn := fun _ => fun
  | [d1, d2, d3, d4] => { results := [.lit (.bool false)], args := [d1, d2, d3, d4] }
  | _ => none }
def WindowShiftsWrongFalsely : Prop := windowShiftsRow.holds Try.pinned (OpenSpec.ofChange windowShiftsWrong)

/- THE SECOND FORM. 'bulk': how many values and letters a reading holds, each counted each time it is reached (what is shared counts as often as it is met; a slice's spare places count too). A statement '..UptoSaid' is the law's where the arguments, and the package variables that the reading takes, are together of bulk at most 1048576: NARROWER than '..Said'. Prove '..Said' where nothing that the law and all that it calls make is longer than what came in: it says more and counts as full. Else prove '..UptoSaid'. A law counts once. -/
mutual
def uptoBulk {H : Type} : DataW H → Nat
  | .lit (.string bytes) => bytes.length + 1
  | .lit _ => 1
  | .nil => 1
  | .ptr d => uptoBulk d + 1
  | .slice elems spare => uptoBulkAll elems + uptoBulkAll spare + 1
  | .agg parts => uptoBulkAll parts + 1
  | .iface _ d => uptoBulk d + 1
  | .map entries => uptoBulkEntries entries + 1
  | .held _ => 1
def uptoBulkAll {H : Type} : List (DataW H) → Nat
  | [] => 0
  | d :: r => uptoBulk d + uptoBulkAll r
def uptoBulkEntries {H : Type} : List (Lit × DataW H) → Nat
  | [] => 0
  | x :: r => uptoBulkEntry x + uptoBulkEntries r
def uptoBulkEntry {H : Type} : Lit × DataW H → Nat
  | (.string bytes, d) => bytes.length + uptoBulk d + 1
  | (_, d) => uptoBulk d + 1
 end
def uptoSmall : (H : Type) → List (DataW H) → Bool := fun _ ds => decide (uptoBulkAll ds ≤ 1048576)
def OpenSpec.upto (s : _root_.Go.ChangeSpec) : _root_.Go.OpenSpec := { _root_.Go.OpenSpec.ofChange s with cond := some uptoSmall }

/-- 'flumelaw07.WindowCredits', WHERE WHAT IT READS IS OF BULK AT MOST 1048576: true; the input reads as it did. -/
def windowCreditsUptoRow : OpenClaim := { program := "ytpnpnmcfknhnmaa", sum := "5ac1f683a7a33e194531436301506a4b11c582ddc267d16707b31ea1375e478c", func := "flume/flumelaw07.WindowCredits", spec := "windowCredits", apart := false, narrowed := true }
def WindowCreditsUptoSaid : Prop := windowCreditsUptoRow.holds Try.pinned (OpenSpec.upto windowCreditsSpec)

/-- 'flumelaw07.WindowNever', WHERE WHAT IT READS IS OF BULK AT MOST 1048576: true; the input reads as it did. -/
def windowNeverUptoRow : OpenClaim := { program := "ytpnpnmcfknhnmaa", sum := "5ac1f683a7a33e194531436301506a4b11c582ddc267d16707b31ea1375e478c", func := "flume/flumelaw07.WindowNever", spec := "windowNever", apart := false, narrowed := true }
def WindowNeverUptoSaid : Prop := windowNeverUptoRow.holds Try.pinned (OpenSpec.upto windowNeverSpec)

/-- 'flumelaw07.WindowMost', WHERE WHAT IT READS IS OF BULK AT MOST 1048576: true; the input reads as it did. -/
def windowMostUptoRow : OpenClaim := { program := "ytpnpnmcfknhnmaa", sum := "5ac1f683a7a33e194531436301506a4b11c582ddc267d16707b31ea1375e478c", func := "flume/flumelaw07.WindowMost", spec := "windowMost", apart := false, narrowed := true }
def WindowMostUptoSaid : Prop := windowMostUptoRow.holds Try.pinned (OpenSpec.upto windowMostSpec)

/-- 'flumelaw07.WindowAgain', WHERE WHAT IT READS IS OF BULK AT MOST 1048576: true; the input reads as it did. -/
def windowAgainUptoRow : OpenClaim := { program := "ytpnpnmcfknhnmaa", sum := "5ac1f683a7a33e194531436301506a4b11c582ddc267d16707b31ea1375e478c", func := "flume/flumelaw07.WindowAgain", spec := "windowAgain", apart := false, narrowed := true }
def WindowAgainUptoSaid : Prop := windowAgainUptoRow.holds Try.pinned (OpenSpec.upto windowAgainSpec)

/-- 'flumelaw07.WindowTells', WHERE WHAT IT READS IS OF BULK AT MOST 1048576: true; the input reads as it did. -/
def windowTellsUptoRow : OpenClaim := { program := "ytpnpnmcfknhnmaa", sum := "5ac1f683a7a33e194531436301506a4b11c582ddc267d16707b31ea1375e478c", func := "flume/flumelaw07.WindowTells", spec := "windowTells", apart := false, narrowed := true }
def WindowTellsUptoSaid : Prop := windowTellsUptoRow.holds Try.pinned (OpenSpec.upto windowTellsSpec)

/-- 'flumelaw07.WindowShifts', WHERE WHAT IT READS IS OF BULK AT MOST 1048576: true; the input reads as it did. -/
def windowShiftsUptoRow : OpenClaim := { program := "ytpnpnmcfknhnmaa", sum := "5ac1f683a7a33e194531436301506a4b11c582ddc267d16707b31ea1375e478c", func := "flume/flumelaw07.WindowShifts", spec := "windowShifts", apart := false, narrowed := true }
def WindowShiftsUptoSaid : Prop := windowShiftsUptoRow.holds Try.pinned (OpenSpec.upto windowShiftsSpec)

end Rows
end Go.Proofs.Ytpnpnmcfknhnmaa
