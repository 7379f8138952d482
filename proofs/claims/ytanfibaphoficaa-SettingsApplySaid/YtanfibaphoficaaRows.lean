/-
  No cell of these rows narrows 'for every input' (looked for: loops, veiled, ifaces, maps, wideKeys, modest, calm, conditions, laid).
  DERIVED. THE GIVEN ROWS OF THIS SEAT. 6 by the template 'for every input the law returns true; each argument reads behind the call as it read before'; 0 by the template 'total and deterministic' (their statements: YtanfibaphoficaaTotals.lean).
  GIVEN WITH THE SEED: the statements are not yours to turn. If you find one false, say at which input.
  Laid BY PROGRAM, IN A SANDBOX (cutbox-rows.mjs): the forced cells as the released guide's own fill.sh prints them over the translation 5671565ff7534de5… (all of the seat's roots in one cut). By AI agents, Wed Nov 11 2026. No macro, syntax, notation, axiom, sorry.
-/
import Derived.Test.YtanfibaphoficaaChecked
import GoSem.Claim
import GoSem.ClaimJoined
import GoSem.ClaimMapViews
import Derived.JoinedTies
import Derived.KernelRfl
namespace Go.Proofs.Ytanfibaphoficaa
/- THE CELL 'sum', in the pinned program and in every row, IS THE sha256 OF THE DUMP (.gsa) THAT YtanfibaphoficaaProg.lean LOADS. Nothing in Lean hashes anything: it is a label: what it is worth is what the hold of that sum in a sandbox is worth. -/
noncomputable def Try.pinned : Pinned := { name := "ytanfibaphoficaa", sum := "5671565ff7534de50fb45916b222e588c36599cdfafd2148ae0834db63748bcf", checked := Try.checked }
namespace Rows
def none {H : Type} : Left H := { results := [], args := [] }

/-- 'flumelaw08.SettingsTell': WHATEVER THE INPUT: true; the input reads as it did. -/
def settingsTellSpec : ChangeSpec := { name := "settingsTell", fn := fun _ => fun
  | [d1, d2] => { results := [.lit (.bool true)], args := [d1, d2] }
  | _ => none }
def settingsTellRow : OpenClaim := { program := "ytanfibaphoficaa", sum := "5671565ff7534de50fb45916b222e588c36599cdfafd2148ae0834db63748bcf", func := "flume/flumelaw08.SettingsTell", spec := "settingsTell", apart := false }
def SettingsTellSaid : Prop := settingsTellRow.holds Try.pinned (OpenSpec.ofChange settingsTellSpec)

/-- ITS FALSE NEIGHBOUR: 'it returns false'. Refute it at one input. -/
def settingsTellWrong : ChangeSpec := { name := "settingsTell", fn := fun _ => fun
  | [d1, d2] => { results := [.lit (.bool false)], args := [d1, d2] }
  | _ => none }
def SettingsTellWrongFalsely : Prop := settingsTellRow.holds Try.pinned (OpenSpec.ofChange settingsTellWrong)

/-- 'flumelaw08.SettingsLast': WHATEVER THE INPUT: true; the input reads as it did. -/
def settingsLastSpec : ChangeSpec := { name := "settingsLast", fn := fun _ => fun
  | [d1, d2, d3, d4, d5] => { results := [.lit (.bool true)], args := [d1, d2, d3, d4, d5] }
  | _ => none }
def settingsLastRow : OpenClaim := { program := "ytanfibaphoficaa", sum := "5671565ff7534de50fb45916b222e588c36599cdfafd2148ae0834db63748bcf", func := "flume/flumelaw08.SettingsLast", spec := "settingsLast", apart := false }
def SettingsLastSaid : Prop := settingsLastRow.holds Try.pinned (OpenSpec.ofChange settingsLastSpec)

/-- ITS FALSE NEIGHBOUR: 'it returns false'. Refute it at one input. -/
def settingsLastWrong : ChangeSpec := { name := "settingsLast", fn := fun _ => fun
  | [d1, d2, d3, d4, d5] => { results := [.lit (.bool false)], args := [d1, d2, d3, d4, d5] }
  | _ => none }
def SettingsLastWrongFalsely : Prop := settingsLastRow.holds Try.pinned (OpenSpec.ofChange settingsLastWrong)

/-- 'flumelaw08.SettingsApply': WHATEVER THE INPUT: true; the input reads as it did. -/
def settingsApplySpec : ChangeSpec := { name := "settingsApply", fn := fun _ => fun
  | [d1, d2, d3] => { results := [.lit (.bool true)], args := [d1, d2, d3] }
  | _ => none }
def settingsApplyRow : OpenClaim := { program := "ytanfibaphoficaa", sum := "5671565ff7534de50fb45916b222e588c36599cdfafd2148ae0834db63748bcf", func := "flume/flumelaw08.SettingsApply", spec := "settingsApply", apart := false }
def SettingsApplySaid : Prop := settingsApplyRow.holds Try.pinned (OpenSpec.ofChange settingsApplySpec)

/-- ITS FALSE NEIGHBOUR: 'it returns false'. Refute it at one input. -/
def settingsApplyWrong : ChangeSpec := { name := "settingsApply", fn := fun _ => fun
  | [d1, d2, d3] => { results := [.lit (.bool false)], args := [d1, d2, d3] }
  | _ => none }
def SettingsApplyWrongFalsely : Prop := settingsApplyRow.holds Try.pinned (OpenSpec.ofChange settingsApplyWrong)

/-- 'flumelaw08.SettingsBack': WHATEVER THE INPUT: true; the input reads as it did. -/
def settingsBackSpec : ChangeSpec := { name := "settingsBack", fn := fun _ => fun
  | [d1, d2] => { results := [.lit (.bool true)], args := [d1, d2] }
  | _ => none }
def settingsBackRow : OpenClaim := { program := "ytanfibaphoficaa", sum := "5671565ff7534de50fb45916b222e588c36599cdfafd2148ae0834db63748bcf", func := "flume/flumelaw08.SettingsBack", spec := "settingsBack", apart := false }
def SettingsBackSaid : Prop := settingsBackRow.holds Try.pinned (OpenSpec.ofChange settingsBackSpec)

/-- ITS FALSE NEIGHBOUR: 'it returns false'. Refute it at one input. -/
def settingsBackWrong : ChangeSpec := { name := "settingsBack", fn := fun _ => fun
  | [d1, d2] => { results := [.lit (.bool false)], args := [d1, d2] }
  | _ => none }
def SettingsBackWrongFalsely : Prop := settingsBackRow.holds Try.pinned (OpenSpec.ofChange settingsBackWrong)

/-- 'flumelaw08.SettingsOrder': WHATEVER THE INPUT: true; the input reads as it did. -/
def settingsOrderSpec : ChangeSpec := { name := "settingsOrder", fn := fun _ => fun
  | [d1, d2, d3] => { results := [.lit (.bool true)], args := [d1, d2, d3] }
  | _ => none }
def settingsOrderRow : OpenClaim := { program := "ytanfibaphoficaa", sum := "5671565ff7534de50fb45916b222e588c36599cdfafd2148ae0834db63748bcf", func := "flume/flumelaw08.SettingsOrder", spec := "settingsOrder", apart := false }
def SettingsOrderSaid : Prop := settingsOrderRow.holds Try.pinned (OpenSpec.ofChange settingsOrderSpec)

/-- ITS FALSE NEIGHBOUR: 'it returns false'. Refute it at one input. -/
def settingsOrderWrong : ChangeSpec := { name := "settingsOrder", fn := fun _ => fun
  | [d1, d2, d3] => { results := [.lit (.bool false)], args := [d1, d2, d3] }
  | _ => none }
def SettingsOrderWrongFalsely : Prop := settingsOrderRow.holds Try.pinned (OpenSpec.ofChange settingsOrderWrong)

/-- 'flumelaw08.SettingsApart': WHATEVER THE INPUT: true; the input reads as it did. -/
def settingsApartSpec : ChangeSpec := { name := "settingsApart", fn := fun _ => fun
  | [d1, d2, d3, d4] => { results := [.lit (.bool true)], args := [d1, d2, d3, d4] }
  | _ => none }
def settingsApartRow : OpenClaim := { program := "ytanfibaphoficaa", sum := "5671565ff7534de50fb45916b222e588c36599cdfafd2148ae0834db63748bcf", func := "flume/flumelaw08.SettingsApart", spec := "settingsApart", apart := false }
def SettingsApartSaid : Prop := settingsApartRow.holds Try.pinned (OpenSpec.ofChange settingsApartSpec)

/-- ITS FALSE NEIGHBOUR: 'it returns false'. Refute it at one input. -/
def settingsApartWrong : ChangeSpec := { name := "settingsApart", fn := fun _ => fun
  | [d1, d2, d3, d4] => { results := [.lit (.bool false)], args := [d1, d2, d3, d4] }
  | _ => none }
def SettingsApartWrongFalsely : Prop := settingsApartRow.holds Try.pinned (OpenSpec.ofChange settingsApartWrong)

/- THE SECOND FORM. 'bulk': how many values and letters a reading holds, each counted each time it is reached (what is shared counts as often as it is met; a slice's spare places count too). A statement '..UptoSaid' is the law's where the arguments, and the package variables that the reading takes, are together of bulk at most 1048576: NARROWER than '..Said'. Prove '..Said' where nothing that the law and all that it calls make is longer than what came in: it says more and counts as full. Else prove '..UptoSaid'. A law counts once. -/
mutual
def uptoBulk {H : Type} : DataW H → Nat
  | .lit (.string bytes) => bytes.length + 1
  | .lit _ => 1
  | .nil => 1
  | .ptr d => uptoBulk d + 1
  | .slice elems spare => uptoBulkAll elems + uptoBulkAll spare + 1
  | .agg parts => uptoBulkAll parts + 1
  | .iface _ d => uptoBulk d + 1
  | .map entries => uptoBulkEntries entries + 1
  | .held _ => 1
def uptoBulkAll {H : Type} : List (DataW H) → Nat
  | [] => 0
  | d :: r => uptoBulk d + uptoBulkAll r
def uptoBulkEntries {H : Type} : List (Lit × DataW H) → Nat
  | [] => 0
  | x :: r => uptoBulkEntry x + uptoBulkEntries r
def uptoBulkEntry {H : Type} : Lit × DataW H → Nat
  | (.string bytes, d) => bytes.length + uptoBulk d + 1
  | (_, d) => uptoBulk d + 1
 end
def uptoSmall : (H : Type) → List (DataW H) → Bool := fun _ ds => decide (uptoBulkAll ds ≤ 1048576)
def OpenSpec.upto (s : _root_.Go.ChangeSpec) : _root_.Go.OpenSpec := { _root_.Go.OpenSpec.ofChange s with cond := some uptoSmall }

/-- 'flumelaw08.SettingsTell', WHERE WHAT IT READS IS OF BULK AT MOST 1048576: true; the input reads as it did. -/
def settingsTellUptoRow : OpenClaim := { program := "ytanfibaphoficaa", sum := "5671565ff7534de50fb45916b222e588c36599cdfafd2148ae0834db63748bcf", func := "flume/flumelaw08.SettingsTell", spec := "settingsTell", apart := false, narrowed := true }
def SettingsTellUptoSaid : Prop := settingsTellUptoRow.holds Try.pinned (OpenSpec.upto settingsTellSpec)

/-- 'flumelaw08.SettingsLast', WHERE WHAT IT READS IS OF BULK AT MOST 1048576: true; the input reads as it did. -/
def settingsLastUptoRow : OpenClaim := { program := "ytanfibaphoficaa", sum := "5671565ff7534de50fb45916b222e588c36599cdfafd2148ae0834db63748bcf", func := "flume/flumelaw08.SettingsLast", spec := "settingsLast", apart := false, narrowed := true }
def SettingsLastUptoSaid : Prop := settingsLastUptoRow.holds Try.pinned (OpenSpec.upto settingsLastSpec)

/-- 'flumelaw08.SettingsApply', WHERE WHAT IT READS IS OF BULK AT MOST 1048576: true; the input reads as it did. -/
def settingsApplyUptoRow : OpenClaim := { program := "ytanfibaphoficaa", sum := "5671565ff7534de50fb45916b222e588c36599cdfafd2148ae0834db63748bcf", func := "flume/flumelaw08.SettingsApply", spec := "settingsApply", apart := false, narrowed := true }
def SettingsApplyUptoSaid : Prop := settingsApplyUptoRow.holds Try.pinned (OpenSpec.upto settingsApplySpec)

/-- 'flumelaw08.SettingsBack', WHERE WHAT IT READS IS OF BULK AT MOST 1048576: true; the input reads as it did. -/
def settingsBackUptoRow : OpenClaim := { program := "ytanfibaphoficaa", sum := "5671565ff7534de50fb45916b222e588c36599cdfafd2148ae0834db63748bcf", func := "flume/flumelaw08.SettingsBack", spec := "settingsBack", apart := false, narrowed := true }
def SettingsBackUptoSaid : Prop := settingsBackUptoRow.holds Try.pinned (OpenSpec.upto settingsBackSpec)

/-- 'flumelaw08.SettingsOrder', WHERE WHAT IT READS IS OF BULK AT MOST 1048576: true; the input reads as it did. -/
def settingsOrderUptoRow : OpenClaim := { program := "ytanfibaphoficaa", sum := "5671565ff7534de50fb45916b222e588c36599cdfafd2148ae0834db63748bcf", func := "flume/flumelaw08.SettingsOrder", spec := "settingsOrder", apart := false, narrowed := true }
def SettingsOrderUptoSaid : Prop := settingsOrderUptoRow.holds Try.pinned (OpenSpec.upto settingsOrderSpec)

/-- 'flumelaw08.SettingsApart', WHERE WHAT IT READS IS OF BULK AT MOST 1048576: true; the input reads as it did. -/
def settingsApartUptoRow : OpenClaim := { program := "ytanfibaphoficaa", sum := "5671565ff7534de50fb45916b222e588c36599cdfafd2148ae0834db63748bcf", func := "flume/flumelaw08.SettingsApart", spec := "settingsApart", apart := false, narrowed := true }
def SettingsApartUptoSaid : Prop := settingsApartUptoRow.holds Try.pinned (OpenSpec.upto settingsApartSpec)

end Rows
end Go.Proofs.Ytanfibaphoficaa
