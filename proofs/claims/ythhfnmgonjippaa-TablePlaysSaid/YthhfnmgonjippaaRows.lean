/-
  No cell of these rows narrows 'for every input' (looked for: loops, veiled, ifaces, maps, wideKeys, modest, calm, conditions, laid).
  DERIVED. THE GIVEN ROWS OF THIS SEAT. 7 by the template 'for every input the law returns true; each argument reads behind the call as it read before'; 0 by the template 'total and deterministic' (their statements: YthhfnmgonjippaaTotals.lean).
  GIVEN WITH THE SEED: the statements are not yours to turn. If you find one false, say at which input.
  Laid BY PROGRAM, IN A SANDBOX (cutbox-rows.mjs): the forced cells as the released guide's own fill.sh prints them over the translation 104d957ad671240d… (all of the seat's roots in one cut). By AI agents, Wed Nov 11 2026. No macro, syntax, notation, axiom, sorry.
-/
import Derived.Test.YthhfnmgonjippaaChecked
import GoSem.Claim
import GoSem.ClaimJoined
import GoSem.ClaimMapViews
import Derived.JoinedTies
import Derived.KernelRfl
namespace Go.Proofs.Ythhfnmgonjippaa
/- THE CELL 'sum', in the pinned program and in every row, IS THE sha256 OF THE DUMP (.gsa) THAT YthhfnmgonjippaaProg.lean LOADS. Nothing in Lean hashes anything: it is a label: what it is worth is what the hold of that sum in a sandbox is worth. -/
noncomputable def Try.pinned : Pinned := { name := "ythhfnmgonjippaa", sum := "104d957ad671240d9bf49ff2fd66d1d7872525f7ef9e23c4dd6c39d47a86eb51", checked := Try.checked }
namespace Rows
def none {H : Type} : Left H := { results := [], args := [] }

/-- 'flumelaw04.TableStatic': WHATEVER THE INPUT: true; the input reads as it did. -/
def tableStaticSpec : ChangeSpec := { name := "tableStatic", fn := fun _ => fun
  | [d1, d2] => { results := [.lit (.bool true)], args := [d1, d2] }
  | _ => none }
def tableStaticRow : OpenClaim := { program := "ythhfnmgonjippaa", sum := "104d957ad671240d9bf49ff2fd66d1d7872525f7ef9e23c4dd6c39d47a86eb51", func := "flume/flumelaw04.TableStatic", spec := "tableStatic", apart := false }
def TableStaticSaid : Prop := tableStaticRow.holds Try.pinned (OpenSpec.ofChange tableStaticSpec)

/-- ITS FALSE NEIGHBOUR: 'it returns false'. Refute it at one input. -/
def tableStaticWrong : ChangeSpec := { name := "tableStatic", fn := fun _ => fun
  | [d1, d2] => { results := [.lit (.bool false)], args := [d1, d2] }
  | _ => none }
def TableStaticWrongFalsely : Prop := tableStaticRow.holds Try.pinned (OpenSpec.ofChange tableStaticWrong)

/-- 'flumelaw04.TableFits': WHATEVER THE INPUT: true; the input reads as it did. -/
def tableFitsSpec : ChangeSpec := { name := "tableFits", fn := fun _ => fun
  | [d1, d2] => { results := [.lit (.bool true)], args := [d1, d2] }
  | _ => none }
def tableFitsRow : OpenClaim := { program := "ythhfnmgonjippaa", sum := "104d957ad671240d9bf49ff2fd66d1d7872525f7ef9e23c4dd6c39d47a86eb51", func := "flume/flumelaw04.TableFits", spec := "tableFits", apart := false }
def TableFitsSaid : Prop := tableFitsRow.holds Try.pinned (OpenSpec.ofChange tableFitsSpec)

/-- ITS FALSE NEIGHBOUR: 'it returns false'. Refute it at one input. -/
def tableFitsWrong : ChangeSpec := { name := "tableFits", fn := fun _ => fun
  | [d1, d2] => { results := [.lit (.bool false)], args := [d1, d2] }
  | _ => none }
def TableFitsWrongFalsely : Prop := tableFitsRow.holds Try.pinned (OpenSpec.ofChange tableFitsWrong)

/-- 'flumelaw04.TableNewest': WHATEVER THE INPUT: true; the input reads as it did. -/
def tableNewestSpec : ChangeSpec := { name := "tableNewest", fn := fun _ => fun
  | [d1, d2, d3] => { results := [.lit (.bool true)], args := [d1, d2, d3] }
  | _ => none }
def tableNewestRow : OpenClaim := { program := "ythhfnmgonjippaa", sum := "104d957ad671240d9bf49ff2fd66d1d7872525f7ef9e23c4dd6c39d47a86eb51", func := "flume/flumelaw04.TableNewest", spec := "tableNewest", apart := false }
def TableNewestSaid : Prop := tableNewestRow.holds Try.pinned (OpenSpec.ofChange tableNewestSpec)

/-- ITS FALSE NEIGHBOUR: 'it returns false'. Refute it at one input. -/
def tableNewestWrong : ChangeSpec := { name := "tableNewest", fn := fun _ => fun
  | [d1, d2, d3] => { results := [.lit (.bool false)], args := [d1, d2, d3] }
  | _ => none }
def TableNewestWrongFalsely : Prop := tableNewestRow.holds Try.pinned (OpenSpec.ofChange tableNewestWrong)

/-- 'flumelaw04.TableKeeps': WHATEVER THE INPUT: true; the input reads as it did. -/
def tableKeepsSpec : ChangeSpec := { name := "tableKeeps", fn := fun _ => fun
  | [d1, d2] => { results := [.lit (.bool true)], args := [d1, d2] }
  | _ => none }
def tableKeepsRow : OpenClaim := { program := "ythhfnmgonjippaa", sum := "104d957ad671240d9bf49ff2fd66d1d7872525f7ef9e23c4dd6c39d47a86eb51", func := "flume/flumelaw04.TableKeeps", spec := "tableKeeps", apart := false }
def TableKeepsSaid : Prop := tableKeepsRow.holds Try.pinned (OpenSpec.ofChange tableKeepsSpec)

/-- ITS FALSE NEIGHBOUR: 'it returns false'. Refute it at one input. -/
def tableKeepsWrong : ChangeSpec := { name := "tableKeeps", fn := fun _ => fun
  | [d1, d2] => { results := [.lit (.bool false)], args := [d1, d2] }
  | _ => none }
def TableKeepsWrongFalsely : Prop := tableKeepsRow.holds Try.pinned (OpenSpec.ofChange tableKeepsWrong)

/-- 'flumelaw04.TableShrinks': WHATEVER THE INPUT: true; the input reads as it did. -/
def tableShrinksSpec : ChangeSpec := { name := "tableShrinks", fn := fun _ => fun
  | [d1, d2, d3, d4] => { results := [.lit (.bool true)], args := [d1, d2, d3, d4] }
  | _ => none }
def tableShrinksRow : OpenClaim := { program := "ythhfnmgonjippaa", sum := "104d957ad671240d9bf49ff2fd66d1d7872525f7ef9e23c4dd6c39d47a86eb51", func := "flume/flumelaw04.TableShrinks", spec := "tableShrinks", apart := false }
def TableShrinksSaid : Prop := tableShrinksRow.holds Try.pinned (OpenSpec.ofChange tableShrinksSpec)

/-- ITS FALSE NEIGHBOUR: 'it returns false'. Refute it at one input. -/
def tableShrinksWrong : ChangeSpec := { name := "tableShrinks", fn := fun _ => fun
  | [d1, d2, d3, d4] => { results := [.lit (.bool false)], args := [d1, d2, d3, d4] }
  | _ => none }
def TableShrinksWrongFalsely : Prop := tableShrinksRow.holds Try.pinned (OpenSpec.ofChange tableShrinksWrong)

/-- 'flumelaw04.TableFinds': WHATEVER THE INPUT: true; the input reads as it did. -/
def tableFindsSpec : ChangeSpec := { name := "tableFinds", fn := fun _ => fun
  | [d1, d2, d3] => { results := [.lit (.bool true)], args := [d1, d2, d3] }
  | _ => none }
def tableFindsRow : OpenClaim := { program := "ythhfnmgonjippaa", sum := "104d957ad671240d9bf49ff2fd66d1d7872525f7ef9e23c4dd6c39d47a86eb51", func := "flume/flumelaw04.TableFinds", spec := "tableFinds", apart := false }
def TableFindsSaid : Prop := tableFindsRow.holds Try.pinned (OpenSpec.ofChange tableFindsSpec)

/-- ITS FALSE NEIGHBOUR: 'it returns false'. Refute it at one input. -/
def tableFindsWrong : ChangeSpec := { name := "tableFinds", fn := fun _ => fun
  | [d1, d2, d3] => { results := [.lit (.bool false)], args := [d1, d2, d3] }
  | _ => none }
def TableFindsWrongFalsely : Prop := tableFindsRow.holds Try.pinned (OpenSpec.ofChange tableFindsWrong)

/-- 'flumelaw04.TablePlays': WHATEVER THE INPUT: true; the input reads as it did. -/
def tablePlaysSpec : ChangeSpec := { name := "tablePlays", fn := fun _ => fun
  | [d1, d2] => { results := [.lit (.bool true)], args := [d1, d2] }
  | _ => none }
def tablePlaysRow : OpenClaim := { program := "ythhfnmgonjippaa", sum := "104d957ad671240d9bf49ff2fd66d1d7872525f7ef9e23c4dd6c39d47a86eb51", func := "flume/flumelaw04.TablePlays", spec := "tablePlays", apart := false }
def TablePlaysSaid : Prop := tablePlaysRow.holds Try.pinned (OpenSpec.ofChange tablePlaysSpec)

/-- ITS FALSE NEIGHBOUR: 'it returns false'. Refute it at one input. -/
def tablePlaysWrong : ChangeSpec := { name := "tablePlays", fn := fun _ => fun
  | [d1, d2] => { results := [.lit (.bool false)], args := [d1, d2] }
  | _ => none }
def TablePlaysWrongFalsely : Prop := tablePlaysRow.holds Try.pinned (OpenSpec.ofChange tablePlaysWrong)

/- THE SECOND FORM. 'bulk': how many values and letters a reading holds, each counted each time it is reached (what is shared counts as often as it is met; a slice's spare places count too). A statement '..UptoSaid' is the law's where the arguments, and the package variables that the reading takes, are together of bulk at most 1048576: NARROWER than '..Said'. Prove '..Said' where nothing that the law and all that it calls make is longer than what came in: it says more and counts as full. Else prove '..UptoSaid'. A law counts once. -/
mutual
def uptoBulk {H : Type} : DataW H → Nat
  | .lit (.string bytes) => bytes.length + 1
  | .lit _ => 1
  | .nil => 1
  | .ptr d => uptoBulk d + 1
  | .slice elems spare => uptoBulkAll elems + uptoBulkAll spare + 1
  | .agg parts => uptoBulkAll parts + 1
  | .iface _ d => uptoBulk d + 1
  | .map entries => uptoBulkEntries entries + 1
  | .held _ => 1
def uptoBulkAll {H : Type} : List (DataW H) → Nat
  | [] => 0
  | d :: r => uptoBulk d + uptoBulkAll r
def uptoBulkEntries {H : Type} : List (Lit × DataW H) → Nat
  | [] => 0
  | x :: r => uptoBulkEntry x + uptoBulkEntries r
def uptoBulkEntry {H : Type} : Lit × DataW H → Nat
  | (.string bytes, d) => bytes.length + uptoBulk d + 1
  | (_, d) => uptoBulk d + 1
 end
def uptoSmall : (H : Type) → List (DataW H) → Bool := fun _ ds => decide (uptoBulkAll ds ≤ 1048576)
def OpenSpec.upto (s : _root_.Go.ChangeSpec) : _root_.Go.OpenSpec := { _root_.Go.OpenSpec.ofChange s with cond := some uptoSmall }

/-- 'flumelaw04.TableStatic', WHERE WHAT IT READS IS OF BULK AT MOST 1048576: true; the input reads as it did. -/
def tableStaticUptoRow : OpenClaim := { program := "ythhfnmgonjippaa", sum := "104d957ad671240d9bf49ff2fd66d1d7872525f7ef9e23c4dd6c39d47a86eb51", func := "flume/flumelaw04.TableStatic", spec := "tableStatic", apart := false, narrowed := true }
def TableStaticUptoSaid : Prop := tableStaticUptoRow.holds Try.pinned (OpenSpec.upto tableStaticSpec)

/-- 'flumelaw04.TableFits', WHERE WHAT IT READS IS OF BULK AT MOST 1048576: true; the input reads as it did. -/
def tableFitsUptoRow : OpenClaim := { program := "ythhfnmgonjippaa", sum := "104d957ad671240d9bf49ff2fd66d1d7872525f7ef9e23c4dd6c39d47a86eb51", func := "flume/flumelaw04.TableFits", spec := "tableFits", apart := false, narrowed := true }
def TableFitsUptoSaid : Prop := tableFitsUptoRow.holds Try.pinned (OpenSpec.upto tableFitsSpec)

/-- 'flumelaw04.TableNewest', WHERE WHAT IT READS IS OF BULK AT MOST 1048576: true; the input reads as it did. -/
def tableNewestUptoRow : OpenClaim := { program := "ythhfnmgonjippaa", sum := "104d957ad671240d9bf49ff2fd66d1d7872525f7ef9e23c4dd6c39d47a86eb51", func := "flume/flumelaw04.TableNewest", spec := "tableNewest", apart := false, narrowed := true }
def TableNewestUptoSaid : Prop := tableNewestUptoRow.holds Try.pinned (OpenSpec.upto tableNewestSpec)

/-- 'flumelaw04.TableKeeps', WHERE WHAT IT READS IS OF BULK AT MOST 1048576: true; the input reads as it did. -/
def tableKeepsUptoRow : OpenClaim := { program := "ythhfnmgonjippaa", sum := "104d957ad671240d9bf49ff2fd66d1d7872525f7ef9e23c4dd6c39d47a86eb51", func := "flume/flumelaw04.TableKeeps", spec := "tableKeeps", apart := false, narrowed := true }
def TableKeepsUptoSaid : Prop := tableKeepsUptoRow.holds Try.pinned (OpenSpec.upto tableKeepsSpec)

/-- 'flumelaw04.TableShrinks', WHERE WHAT IT READS IS OF BULK AT MOST 1048576: true; the input reads as it did. -/
def tableShrinksUptoRow : OpenClaim := { program := "ythhfnmgonjippaa", sum := "104d957ad671240d9bf49ff2fd66d1d7872525f7ef9e23c4dd6c39d47a86eb51", func := "flume/flumelaw04.TableShrinks", spec := "tableShrinks", apart := false, narrowed := true }
def TableShrinksUptoSaid : Prop := tableShrinksUptoRow.holds Try.pinned (OpenSpec.upto tableShrinksSpec)

/-- 'flumelaw04.TableFinds', WHERE WHAT IT READS IS OF BULK AT MOST 1048576: true; the input reads as it did. -/
def tableFindsUptoRow : OpenClaim := { program := "ythhfnmgonjippaa", sum := "104d957ad671240d9bf49ff2fd66d1d7872525f7ef9e23c4dd6c39d47a86eb51", func := "flume/flumelaw04.TableFinds", spec := "tableFinds", apart := false, narrowed := true }
def TableFindsUptoSaid : Prop := tableFindsUptoRow.holds Try.pinned (OpenSpec.upto tableFindsSpec)

/-- 'flumelaw04.TablePlays', WHERE WHAT IT READS IS OF BULK AT MOST 1048576: true; the input reads as it did. -/
def tablePlaysUptoRow : OpenClaim := { program := "ythhfnmgonjippaa", sum := "104d957ad671240d9bf49ff2fd66d1d7872525f7ef9e23c4dd6c39d47a86eb51", func := "flume/flumelaw04.TablePlays", spec := "tablePlays", apart := false, narrowed := true }
def TablePlaysUptoSaid : Prop := tablePlaysUptoRow.holds Try.pinned (OpenSpec.upto tablePlaysSpec)

end Rows
end Go.Proofs.Ythhfnmgonjippaa
