/-
  What the next frame is; the readers by kind.
-/
import Derived.Test.YthhgnipiaohplaaFse
namespace Go.Proofs.Ythhgnipiaohplaa.Fr
open Go.ChangeShapes Go.WideShapes Go.ChangeAt Go.RowKit
open Go.Proofs.Ythhgnipiaohplaa.B
set_option linter.unusedVariables false
set_option linter.unusedSimpArgs false

/-- What a payload of a kind says. -/
def kindR (k : Nat) (R : Rg) : Rg :=
  match k with
  | 0 => dataR R
  | 1 => headersR R
  | 2 => priorityR R
  | 3 => resetR R
  | 4 => settingsR R
  | 5 => promiseR R
  | 6 => pingR R
  | 7 => goawayR R
  | 8 => windowR R
  | 9 => moreR R
  | _ => otherR R
/-- Who reads it. -/
def rdF (k : Nat) : FuncId :=
  match k with
  | 0 => 55
  | 1 => 56
  | 2 => 57
  | 3 => 58
  | 4 => 59
  | 5 => 60
  | 6 => 61
  | 7 => 62
  | 8 => 63
  | 9 => 64
  | _ => 40
section
variable {w w' w'' : World} {r : Nat} {pv lv bv : Value} {R : Rg}
theorem read_any (h : RM w r pv lv bv R) (hl : R.l.length ≤ 16777215) (hp : R.pad = 0) (hll : R.F.list = []) (k : Nat) :
    Calls Try.prog (rdF k) #[.pointer (some ⟨r, 0, none⟩)] w fun e w' => e = .returned (.tuple #[]) ∧ RX w w' r (kindR k R) := by
  match k with
  | 0 => exact data_any h hl hp
  | 1 => exact headers_any h hl hp
  | 2 => exact priority_any h
  | 3 => exact reset_any h
  | 4 => exact settings_any h hl hll
  | 5 => exact promise_any h hl hp
  | 6 => exact ping_any h hl hp
  | 7 => exact goaway_any h hl hp
  | 8 => exact windowM_any h
  | 9 => exact more_any h hl hp
  | n + 10 => exact other_any h hl hp
end
/-- Its head stays. -/
def sameK (A B : Rg) : Prop := A.F.kind = B.F.kind ∧ A.F.stream = B.F.stream
theorem sameK.trans {A B C : Rg} (h : sameK A B) (k : sameK B C) : sameK A C := ⟨h.1.trans k.1, h.2.trans k.2⟩
theorem closedR_k (R : Rg) : sameK (closedR R) R := by
  unfold closedR
  split
  · split <;> exact ⟨rfl, rfl⟩
  · exact ⟨rfl, rfl⟩
theorem openedR_k (n : Nat) (R : Rg) : sameK (openedR n R) R := by
  unfold openedR hasR
  split
  · split <;> exact ⟨rfl, rfl⟩
  · split <;> exact ⟨rfl, rfl⟩
theorem weighR_k (R : Rg) : sameK (weighR R) R := by
  unfold weighR
  split <;> exact ⟨rfl, rfl⟩
theorem kindR_k (k : Nat) (R : Rg) : sameK (kindR k R) R := by
  unfold kindR
  split
  · unfold dataR; split
    · exact (closedR_k _).trans ((openedR_k _ _).trans ⟨rfl, rfl⟩)
    · exact (openedR_k _ _).trans ⟨rfl, rfl⟩
  · unfold headersR
    have h1 : sameK (openedR (headersN R) (headers1 R)) R := (openedR_k _ _).trans ⟨rfl, rfl⟩
    split
    · refine (closedR_k _).trans ?_
      split
      · exact (weighR_k _).trans h1
      · exact h1
    · exact h1
  · unfold priorityR; split
    · exact weighR_k _
    · exact ⟨rfl, rfl⟩
  · unfold resetR; split <;> exact ⟨rfl, rfl⟩
  · unfold settingsR; split <;> exact ⟨rfl, rfl⟩
  · have h1 : sameK (openedR 4 { R with F := { R.F with eh := bitB R.fl 2 } }) R := (openedR_k _ _).trans ⟨rfl, rfl⟩
    have h2 : sameK (promise1 (openedR 4 { R with F := { R.F with eh := bitB R.fl 2 } })) R := by
      unfold promise1
      refine (closedR_k _).trans (sameK.trans ?_ h1)
      exact ⟨rfl, rfl⟩
    unfold promiseR; split
    · split
      · exact sameK.trans ⟨rfl, rfl⟩ h2
      · exact h2
    · exact h1
  · unfold pingR; split
    · exact (closedR_k _).trans ⟨rfl, rfl⟩
    · exact ⟨rfl, rfl⟩
  · unfold goawayR; split
    · exact (closedR_k _).trans ⟨rfl, rfl⟩
    · exact ⟨rfl, rfl⟩
  · unfold windowR; split <;> exact ⟨rfl, rfl⟩
  · unfold moreR; exact (closedR_k _).trans ⟨rfl, rfl⟩
  · unfold otherR; exact (closedR_k _).trans ⟨rfl, rfl⟩
/-- A frame of nothing but its head. -/
def fm0 (k st : Nat) : Fm := ⟨(k : Nat), (st : Nat), false, false, false, false, [], 0, 0, 0, false, 0, 0, [], 0, 0⟩
def rg0 (k st : Nat) (fl : UInt8) (l : List UInt8) : Rg := ⟨fm0 k st, fl, l, 0, 0⟩
/-- What comes next. -/
inductive NR where
  | none
  | broken (code : Nat)
  | fault (code st : Nat) (rest : List UInt8)
  | frame (F : Fm) (rest : List UInt8)
def ownK (k st code : Nat) : Bool := k == 2 || (k == 8 && code == 1 && decide (0 < st))
def outR (k st : Nat) (R : Rg) (rest : List UInt8) : NR :=
  if R.code = 0 then .frame R.F rest else if ownK k st R.code then .fault R.code st rest else .broken R.code
def nxt9 (mx : Nat) (a b c k fl s1 s2 s3 s4 : UInt8) (r : List UInt8) : NR :=
  if mx < threeN a b c then .broken 6 else if r.length < threeN a b c then .none
  else if strayB (k.toNat : Nat) ((fourN s1 s2 s3 s4 % 2147483648 : Nat) : Int) then .broken 1
  else outR k.toNat (fourN s1 s2 s3 s4 % 2147483648) (kindR k.toNat (rg0 k.toNat (fourN s1 s2 s3 s4 % 2147483648) fl (r.take (threeN a b c)))) (r.drop (threeN a b c))
def nxt (mx : Nat) : List UInt8 → NR
  | a :: b :: c :: k :: fl :: s1 :: s2 :: s3 :: s4 :: r => nxt9 mx a b c k fl s1 s2 s3 s4 r
  | _ => .none
theorem nxt_short {mx : Nat} {l : List UInt8} (h : l.length < 9) : nxt mx l = .none := by
  match l, h with
  | [], _ | [_], _ | [_, _], _ | [_, _, _], _ | [_, _, _, _], _ | [_, _, _, _, _], _ | [_, _, _, _, _, _], _ | [_, _, _, _, _, _, _], _ | [_, _, _, _, _, _, _, _], _ => rfl
theorem split9 {l : List UInt8} (h : 9 ≤ l.length) : ∃ a b c k fl s1 s2 s3 s4 r, l = a :: b :: c :: k :: fl :: s1 :: s2 :: s3 :: s4 :: r := by
  match l, h with
  | a :: b :: c :: k :: fl :: s1 :: s2 :: s3 :: s4 :: r, _ => exact ⟨a, b, c, k, fl, s1, s2, s3, s4, r, rfl⟩
/-- A frame's cells. -/
abbrev fcs (f : Frm) : Array Value := #[.int .i64 f.kind, .int .i64 f.stream, .bool f.fin, .bool f.eh, .bool f.ack, .bool f.prio, f.pv, .int .i64 f.flags, .int .i64 f.pad, .int .i64 f.depend, .bool f.excl, .int .i64 f.weight, .int .u32 f.code, f.lv, .int .i64 f.last, .int .i64 f.inc]
/-- What Next answers, and what it leaves. -/
def NextPost (W w : World) (p : Nat) (hv : Value) (l : List UInt8) (mx : Nat) (dn : Bool) (e : Ending) (w' : World) : NR → Prop
  | .none => e = .returned (.tuple #[.agg noF, .agg noX, .bool false]) ∧ PH W w' p hv l mx dn ∧ Chg [] w w'
  | .broken c => e = .returned (.tuple #[.agg noF, .agg #[.bool true, .int .u32 (c : Nat), .int .i64 0], .bool true]) ∧ PH W w' p (.slice none 0 0) [] mx true ∧ Chg [p] w w'
  | .fault c st rest => ∃ hv', e = .returned (.tuple #[.agg noF, .agg #[.bool true, .int .u32 (c : Nat), .int .i64 (st : Nat)], .bool true]) ∧ PH W w' p hv' rest mx dn ∧ Chg [p] w w' ∧ OwnB w' w.heap.size hv' rest
  | .frame F rest => ∃ hv' pv lv, e = .returned (.tuple #[.agg (fcs (F.mem pv lv)), .agg noX, .bool true]) ∧ PH W w' p hv' rest mx dn ∧ Chg [p] w w' ∧ OwnB w' w.heap.size hv' rest ∧ OwnB w' w.heap.size pv F.pay ∧ OwnR 50 2 encS w' w.heap.size lv F.list ∧ ∀ g ∈ pv.ownBlock.toList, g ∉ hv'.ownBlock.toList
end Go.Proofs.Ythhgnipiaohplaa.Fr
