/-
  The document's Write.
-/
import Derived.Test.YthhgnipiaohplaaMq0
import Derived.Test.YthhgnipiaohplaaMq1
import Derived.Test.YthhgnipiaohplaaMq2
import Derived.Test.YthhgnipiaohplaaMb
import Derived.Test.YthhgnipiaohplaaFww
import Derived.Deep.DeepCutAuto
import Derived.Test.YthhgnipiaohplaaLater
import Derived.Test.YthhgnipiaohplaaOwnSet
import Derived.Laws.OwnMore
namespace Go.Proofs.Ythhgnipiaohplaa.Fr
open Go.ChangeShapes Go.WideShapes Go.ChangeAt Go.RowKit
open Go.Proofs.Ythhgnipiaohplaa.B
set_option linter.unusedVariables false
set_option linter.unusedSimpArgs false

set_option maxRecDepth 100000 in
set_option maxHeartbeats 4000000 in
theorem rmay_out (F : Fm) (hk : F.kind < 0 ∨ 255 < F.kind) (pv lv : Value) (w : World) :
    Calls Try.prog 34 #[.agg (fcs (F.mem pv lv))] w (MayPost F w) := by
  have hno : Hid (false = true ↔ May F) := Lib.hid (iff_no (fun h => by have := h.head.1; have := h.head.2.1; omega))
  obtain ⟨w2, hw2⟩ : ∃ w2, w2 = w.alloc (.cells (fcs (F.mem pv lv)) 27) := ⟨_, rfl⟩
  have hc : Chg [] w w2 := by rw [hw2]; exact (Chg.refl w).alloc _
  have a1 : At w2 w.heap.size (.cells (fcs (F.mem pv lv)) 27 (0, 0)) := by rw [hw2]; exact At.new w _
  obtain ⟨A, hA⟩ : ∃ A, A = w.heap.size := ⟨_, rfl⟩
  rw [← hA] at a1
  have HC := Lib.hid hc; have HW := Lib.hid hw2; have HA := Lib.hid hA
  have x0 : World.cell? w2 ⟨A, 0, none⟩ = some (.int .i64 F.kind) := a1.cell rfl
  have x1 : World.cell? w2 ⟨A, 1, none⟩ = some (.int .i64 F.stream) := a1.cell rfl
  have hAl := a1.lt
  clear a1 hc hw2 hA
  go_enter Try.func34, Try.ntmps34
  go_upto_region 1 with fail
  rw [← HW.out, ← HA.out]
  rcases ltC F.kind 0 with ⟨k1, _⟩ | ⟨k1, k1'⟩
  · go_wp2_with fail
    go_ret
    exact ⟨false, rfl, hno.out, HC.out⟩
  · have k2 : (255 : Int) < F.kind := by omega
    go_wp2_with fail
    go_ret
    exact ⟨false, rfl, hno.out, HC.out⟩
theorem rmay_any (F : Fm) (hwf : F.Wf) (pa : Option Addr) (pc : Nat) (la : Option Addr) (lc : Nat) (w : World) (hl : SliceOf w (.slice la F.list.length lc) 2 encS F.list) (hll : F.list.length ≤ 100000000) :
    Calls Try.prog 34 #[.agg (fcs (F.mem (.slice pa F.pay.length pc) (.slice la F.list.length lc)))] w (MayPost F w) := by
  by_cases h0 : F.kind = 0
  · exact rmay_0 F h0 hwf pa pc la lc w hl hll
  by_cases h1 : F.kind = 1
  · exact rmay_1 F h1 hwf pa pc la lc w hl hll
  by_cases h2 : F.kind = 2
  · exact rmay_2 F h2 hwf pa pc la lc w hl hll
  by_cases h3 : F.kind = 3
  · exact rmay_3 F h3 hwf pa pc la lc w hl hll
  by_cases h4 : F.kind = 4
  · exact rmay_4 F h4 hwf pa pc la lc w hl hll
  by_cases h5 : F.kind = 5
  · exact rmay_5 F h5 hwf pa pc la lc w hl hll
  by_cases h6 : F.kind = 6
  · exact rmay_6 F h6 hwf pa pc la lc w hl hll
  by_cases h7 : F.kind = 7
  · exact rmay_7 F h7 hwf pa pc la lc w hl hll
  by_cases h8 : F.kind = 8
  · exact rmay_8 F h8 hwf pa pc la lc w hl hll
  by_cases h9 : F.kind = 9
  · exact rmay_9 F h9 hwf pa pc la lc w hl hll
  by_cases hr : 10 ≤ F.kind ∧ F.kind ≤ 255
  · exact rmay_10 F hr hwf pa pc la lc w hl hll
  · exact rmay_out F (by omega) _ _ w
end Go.Proofs.Ythhgnipiaohplaa.Fr
namespace Go.Proofs.Ythhgnipiaohplaa.Fr
open Go.ChangeShapes Go.WideShapes Go.ChangeAt Go.RowKit
open Go.Proofs.Ythhgnipiaohplaa.B
set_option linter.unusedVariables false
set_option linter.unusedSimpArgs false

def dPrio (F : Fm) : List UInt8 := if F.prio = true ∨ F.kind = 2 then prioO F.depend.toNat F.excl F.weight.toNat else []
def dLast (F : Fm) : List UInt8 := if F.kind = 5 ∨ F.kind = 7 then be F.last.toNat 4 else []
def dCode (F : Fm) : List UInt8 := if F.kind = 3 ∨ F.kind = 7 then be F.code.toNat 4 else []
def dInc (F : Fm) : List UInt8 := if F.kind = 8 then be F.inc.toNat 4 else []
theorem doc_body {F : Fm} (h : May F) : padH F.pad.toNat ++ dPrio F ++ dLast F ++ dCode F ++ dInc F ++ setO F.list ++ F.pay ++ padT F.pad.toNat = bodyF F := by
  cases h with
  | other k st fl pay h0 h1 h2 =>
    have q : ∀ m : Nat, m ≤ 9 → ¬ (k : Int) = (m : Int) := by intro m hm; omega
    have q1 := q 1 (by omega); have q2 := q 2 (by omega); have q3 := q 3 (by omega); have q4 := q 4 (by omega)
    have q5 := q 5 (by omega); have q7 := q 7 (by omega); have q8 := q 8 (by omega)
    simp at q1 q2 q3 q4 q5 q7 q8
    simp [bodyF, midF, dPrio, dLast, dCode, dInc, setO, q1, q2, q3, q4, q5, q7, q8]
  | _ => simp [bodyF, midF, dPrio, dLast, dCode, dInc, setO]
/-- A frame's numbers are not below 0. -/
structure WN (F : Fm) (K ST PAD DEP WT COD LAST INC : Nat) : Prop where
  kind : F.kind = (K : Int)
  stream : F.stream = (ST : Int)
  pad : F.pad = (PAD : Int)
  depend : F.depend = (DEP : Int)
  weight : F.weight = (WT : Int)
  code : F.code = (COD : Int)
  last : F.last = (LAST : Int)
  inc : F.inc = (INC : Int)
  bK : K ≤ 255
  bST : ST ≤ 2147483647
  bPAD : PAD ≤ 256
  bDEP : DEP ≤ 2147483647
  bWT : WT ≤ 256
  pWT : (F.prio = true ∨ F.kind = 2) → 1 ≤ WT
  bCOD : COD < 4294967296
  bLAST : LAST ≤ 2147483647
  bINC : INC ≤ 2147483647
  lst : ∀ s ∈ F.list, 0 ≤ s.1 ∧ s.1 ≤ 65535 ∧ 0 ≤ s.2 ∧ s.2 < 4294967296
theorem May.wn {F : Fm} (h : May F) : ∃ K ST PAD DEP WT COD LAST INC : Nat, WN F K ST PAD DEP WT COD LAST INC := by
  refine ⟨F.kind.toNat, F.stream.toNat, F.pad.toNat, F.depend.toNat, F.weight.toNat, F.code.toNat, F.last.toNat, F.inc.toNat, ?_⟩
  cases h with
  | sets ack l h1 h2 => constructor <;> first | exact h1 | (simp; done) | (simp; omega)
  | _ => (try unfold StB at *); constructor <;> first | (simp; done) | (simp; omega) | omega
theorem ba_nil (a : ByteArray) : a ++ bstr [] = a := by
  apply ByteArray.ext
  simp [bstr]
theorem ba_assoc (a b c : ByteArray) : a ++ b ++ c = a ++ (b ++ c) := by
  apply ByteArray.ext
  simp [Array.append_assoc]
theorem be1 (v : Nat) : be v 1 = [UInt8.ofNat v] := by simp [be]
theorem dPrio_be {F : Fm} {K ST PAD DEP WT COD LAST INC : Nat} (h : WN F K ST PAD DEP WT COD LAST INC) (hp : F.prio = true ∨ F.kind = 2) : dPrio F = be (DEP + if F.excl then 2147483648 else 0) 4 ++ be (WT - 1) 1 := by
  unfold dPrio
  rw [if_pos hp, h.depend, h.weight, be1]
  rfl
theorem hd_be (n k fl st : Nat) : h9 n k fl st = be n 3 ++ be k 1 ++ be fl 1 ++ be st 4 := by rw [h9_be, be1, be1, List.append_assoc (be n 3)]; rfl
/-- Behind a step of Write: the text so far. -/
structure DS (w : World) (A : Nat) (F : Fm) (pv lv : Value) (L : List UInt8) (sv : Value) (w' : World) : Prop where
  s : sv = .string (bstr L)
  a : At w' A (.cells (fcs (F.mem pv lv)) 27 (0, 0))
  c : Chg [] w w'
set_option maxRecDepth 100000 in
set_option maxHeartbeats 16000000 in
theorem rwrite_one {F : Fm} (hm : May F) (hwf : F.Wf) (hbl : (bodyF F).length ≤ 16777215) (pa : Option Addr) (pc : Nat) (la : Option Addr) (lc : Nat) (w : World) (hp : BytesOf w (.slice pa F.pay.length pc) F.pay) (hl : SliceOf w (.slice la F.list.length lc) 2 encS F.list) (hll : F.list.length ≤ 100000000) :
    Calls Try.prog 15 #[.agg (fcs (F.mem (.slice pa F.pay.length pc) (.slice la F.list.length lc)))] w fun e w' => e = .returned (.tuple #[.string (bstr (wrO F)), .int .i64 0]) ∧ Chg [] w w' := by
  obtain ⟨K, ST, PAD, DEP, WT, COD, LAST, INC, hn⟩ := hm.wn
  have hK := hn.bK; have hST := hn.bST; have hPAD := hn.bPAD; have hDEP := hn.bDEP; have hWT := hn.bWT; have hCOD := hn.bCOD; have hLAST := hn.bLAST; have hINC := hn.bINC
  have HN := Lib.hid hn; have HM := Lib.hid hm; have HBL := Lib.hid hbl; have HP := Lib.hid hp; have HL := Lib.hid hl; have HLL := Lib.hid hll
  obtain ⟨w2, hw2⟩ : ∃ w2, w2 = w.alloc (.cells (fcs (F.mem (.slice pa F.pay.length pc) (.slice la F.list.length lc))) 27) := ⟨_, rfl⟩
  have hc : Chg [] w w2 := by rw [hw2]; exact (Chg.refl w).alloc _
  have a1 : At w2 w.heap.size (.cells (fcs (F.mem (.slice pa F.pay.length pc) (.slice la F.list.length lc))) 27 (0, 0)) := by rw [hw2]; exact At.new w _
  obtain ⟨A, hA⟩ : ∃ A, A = w.heap.size := ⟨_, rfl⟩
  rw [← hA] at a1
  have A1 := Lib.hid a1; have HC := Lib.hid hc; have HW := Lib.hid hw2; have HA := Lib.hid hA
  have MA := Lib.hid (rmay_any F hwf pa pc la lc w2 (hl.chg0 hc) hll)
  obtain ⟨p5, hp5⟩ : ∃ b, b = F.prio := ⟨_, rfl⟩
  have HP5 := Lib.hid hp5
  obtain ⟨p10, hp10⟩ : ∃ b, b = F.excl := ⟨_, rfl⟩
  have HP10 := Lib.hid hp10
  have y0 : World.cell? w2 ⟨A, 0, none⟩ = some (.int .i64 F.kind) := a1.cell rfl
  have y1 : World.cell? w2 ⟨A, 1, none⟩ = some (.int .i64 F.stream) := a1.cell rfl
  have y2 : World.cell? w2 ⟨A, 2, none⟩ = some (.bool F.fin) := a1.cell rfl
  have y3 : World.cell? w2 ⟨A, 3, none⟩ = some (.bool F.eh) := a1.cell rfl
  have y4 : World.cell? w2 ⟨A, 4, none⟩ = some (.bool F.ack) := a1.cell rfl
  have y5 : World.cell? w2 ⟨A, 5, none⟩ = some (.bool F.prio) := a1.cell rfl
  have y6 : World.cell? w2 ⟨A, 6, none⟩ = some (.slice pa F.pay.length pc) := a1.cell rfl
  have y7 : World.cell? w2 ⟨A, 7, none⟩ = some (.int .i64 F.flags) := a1.cell rfl
  have y8 : World.cell? w2 ⟨A, 8, none⟩ = some (.int .i64 F.pad) := a1.cell rfl
  have y9 : World.cell? w2 ⟨A, 9, none⟩ = some (.int .i64 F.depend) := a1.cell rfl
  have y10 : World.cell? w2 ⟨A, 10, none⟩ = some (.bool F.excl) := a1.cell rfl
  have y11 : World.cell? w2 ⟨A, 11, none⟩ = some (.int .i64 F.weight) := a1.cell rfl
  have y12 : World.cell? w2 ⟨A, 12, none⟩ = some (.int .u32 F.code) := a1.cell rfl
  have y13 : World.cell? w2 ⟨A, 13, none⟩ = some (.slice la F.list.length lc) := a1.cell rfl
  have y14 : World.cell? w2 ⟨A, 14, none⟩ = some (.int .i64 F.last) := a1.cell rfl
  have y15 : World.cell? w2 ⟨A, 15, none⟩ = some (.int .i64 F.inc) := a1.cell rfl
  clear a1 hc hw2 hA hp5 hp10 hn hm hbl hp hl hll hwf
  go_enter Try.func15, Try.ntmps15
  go_upto_region 1 with fail
  rw [← HW.out, ← HA.out]
  go_wp2_with fail
  refine MA.out.mono ?_; rintro e w3 ⟨b, rfl, hb, c3⟩
  obtain rfl : b = true := hb.2 HM.out
  have A3 := Lib.hid (A1.out.chg c3 (by simp)); have C3 := Lib.hid (HC.out.trans' c3)
  clear hb c3 y0 y1 y2 y3 y4 y5 y6 y7 y8 y9 y10 y11 y12 y13 y14 y15 A1 HC MA
  obtain ⟨L1, hL1⟩ : ∃ l, l = padH PAD := ⟨_, rfl⟩
  have HL1 := Lib.hid hL1
  obtain ⟨L2, hL2⟩ : ∃ l, l = L1 ++ dPrio F := ⟨_, rfl⟩
  have HL2 := Lib.hid hL2
  obtain ⟨L3, hL3⟩ : ∃ l, l = L2 ++ dLast F := ⟨_, rfl⟩
  have HL3 := Lib.hid hL3
  obtain ⟨L4, hL4⟩ : ∃ l, l = L3 ++ dCode F := ⟨_, rfl⟩
  have HL4 := Lib.hid hL4
  obtain ⟨L5, hL5⟩ : ∃ l, l = L4 ++ dInc F := ⟨_, rfl⟩
  have HL5 := Lib.hid hL5
  obtain ⟨L6, hL6⟩ : ∃ l, l = L5 ++ setO F.list := ⟨_, rfl⟩
  have HL6 := Lib.hid hL6
  obtain ⟨L7, hL7⟩ : ∃ l, l = L6 ++ F.pay := ⟨_, rfl⟩
  have HL7 := Lib.hid hL7
  have HL8 : Hid (L7 ++ padT PAD = bodyF F) := Lib.hid (by
    rw [hL7, hL6, hL5, hL4, hL3, hL2, hL1]
    have h := doc_body HM.out
    rw [HN.out.pad] at h
    exact h)
  have HLN : Hid (L1.length ≤ 16777215 ∧ L2.length ≤ 16777215 ∧ L3.length ≤ 16777215 ∧ L4.length ≤ 16777215 ∧ L5.length ≤ 16777215 ∧ L6.length ≤ 16777215 ∧ L7.length ≤ 16777215) := Lib.hid (by
    have h := HBL.out
    rw [← HL8.out] at h
    have e2 := congrArg List.length hL2; have e3 := congrArg List.length hL3; have e4 := congrArg List.length hL4; have e5 := congrArg List.length hL5; have e6 := congrArg List.length hL6; have e7 := congrArg List.length hL7
    rw [List.length_append] at h e2 e3 e4 e5 e6 e7
    omega)
  clear hL1 hL2 hL3 hL4 hL5 hL6 hL7
  have x0 : World.cell? w3 ⟨A, 0, none⟩ = some (.int .i64 (K : Int)) := by rw [← HN.out.kind]; exact A3.out.cell rfl
  have x1 : World.cell? w3 ⟨A, 1, none⟩ = some (.int .i64 (ST : Int)) := by rw [← HN.out.stream]; exact A3.out.cell rfl
  have x2 : World.cell? w3 ⟨A, 2, none⟩ = some (.bool F.fin) := A3.out.cell rfl
  have x3 : World.cell? w3 ⟨A, 3, none⟩ = some (.bool F.eh) := A3.out.cell rfl
  have x4 : World.cell? w3 ⟨A, 4, none⟩ = some (.bool F.ack) := A3.out.cell rfl
  have x5 : World.cell? w3 ⟨A, 5, none⟩ = some (.bool p5) := by rw [HP5.out]; exact A3.out.cell rfl
  have x6 : World.cell? w3 ⟨A, 6, none⟩ = some (.slice pa F.pay.length pc) := A3.out.cell rfl
  have x7 : World.cell? w3 ⟨A, 7, none⟩ = some (.int .i64 F.flags) := A3.out.cell rfl
  have x8 : World.cell? w3 ⟨A, 8, none⟩ = some (.int .i64 (PAD : Int)) := by rw [← HN.out.pad]; exact A3.out.cell rfl
  have x9 : World.cell? w3 ⟨A, 9, none⟩ = some (.int .i64 (DEP : Int)) := by rw [← HN.out.depend]; exact A3.out.cell rfl
  have x10 : World.cell? w3 ⟨A, 10, none⟩ = some (.bool p10) := by rw [HP10.out]; exact A3.out.cell rfl
  have x11 : World.cell? w3 ⟨A, 11, none⟩ = some (.int .i64 (WT : Int)) := by rw [← HN.out.weight]; exact A3.out.cell rfl
  have x12 : World.cell? w3 ⟨A, 12, none⟩ = some (.int .u32 (COD : Int)) := by rw [← HN.out.code]; exact A3.out.cell rfl
  have x13 : World.cell? w3 ⟨A, 13, none⟩ = some (.slice la F.list.length lc) := A3.out.cell rfl
  have x14 : World.cell? w3 ⟨A, 14, none⟩ = some (.int .i64 (LAST : Int)) := by rw [← HN.out.last]; exact A3.out.cell rfl
  have x15 : World.cell? w3 ⟨A, 15, none⟩ = some (.int .i64 (INC : Int)) := by rw [← HN.out.inc]; exact A3.out.cell rfl
  have hAl := A3.out.lt
  go_upto_region 3 with fail
  iterate 8 go_step
  go_cut [4] from 10 to 17 (fun sv wx => DS w A F (.slice pa F.pay.length pc) (.slice la F.list.length lc) L1 sv wx)
  case first =>
    rcases Nat.eq_zero_or_pos PAD with h0 | h0
    · have h1 : Hid (L1 = []) := Lib.hid (by rw [HL1.out, h0]; rfl)
      have g0 : ¬ (0 : Int) < (PAD : Int) := by omega
      clear h0
      go_wp2_with fail
      go_meet
      case rel => exact ⟨by rw [h1.out]; rfl, A3.out, C3.out⟩
    · have h1 : Hid (L1 = be (PAD - 1) 1) := Lib.hid (by rw [HL1.out, be1]; unfold padH; rw [if_pos h0])
      have g0 : (0 : Int) < (PAD : Int) := by omega
      have NB : Hid (∀ w, Calls Try.prog 35 #[.int .u64 ((PAD : Int) - 1), .int .i64 1] w fun e w' => e = .returned (.string (bstr (be (PAD - 1) 1))) ∧ Chg [] w w') := Lib.hid (fun w => by
        have h := number_any (PAD - 1) 1 (by omega) (by omega) w
        rw [show (((PAD - 1 : Nat) : Int)) = (PAD : Int) - 1 by omega] at h
        exact h)
      clear h0
      go_wp2_with fail
      refine (NB.out _).mono ?_; rintro e w4 ⟨rfl, c4⟩
      have HC4 := Lib.hid c4
      clear c4
      go_wp2_with fail
      go_meet
      case rel => exact ⟨by rw [h1.out], A3.out.chg HC4.out (by simp), C3.out.trans' HC4.out⟩
  obtain ⟨hs, ha, hcc⟩ := hcut
  subst hs
  generalize hS1 : bstr L1 = S1
  have HS1 := Lib.hid hS1
  have zS1 : (S1).size ≤ 16777215 := by rw [← hS1, bstr_size]; exact HLN.out.1
  clear hS1
  obtain ⟨w5, hw⟩ : ∃ x, x = wc := ⟨_, rfl⟩
  subst hw
  have A5 := Lib.hid ha; have C5 := Lib.hid hcc
  clear ha hcc
  clear x0 x1 x2 x3 x4 x5 x6 x7 x8 x9 x10 x11 x12 x13 x14 x15 hAl
  have x0 : World.cell? w5 ⟨A, 0, none⟩ = some (.int .i64 (K : Int)) := by rw [← HN.out.kind]; exact A5.out.cell rfl
  have x1 : World.cell? w5 ⟨A, 1, none⟩ = some (.int .i64 (ST : Int)) := by rw [← HN.out.stream]; exact A5.out.cell rfl
  have x2 : World.cell? w5 ⟨A, 2, none⟩ = some (.bool F.fin) := A5.out.cell rfl
  have x3 : World.cell? w5 ⟨A, 3, none⟩ = some (.bool F.eh) := A5.out.cell rfl
  have x4 : World.cell? w5 ⟨A, 4, none⟩ = some (.bool F.ack) := A5.out.cell rfl
  have x5 : World.cell? w5 ⟨A, 5, none⟩ = some (.bool p5) := by rw [HP5.out]; exact A5.out.cell rfl
  have x6 : World.cell? w5 ⟨A, 6, none⟩ = some (.slice pa F.pay.length pc) := A5.out.cell rfl
  have x7 : World.cell? w5 ⟨A, 7, none⟩ = some (.int .i64 F.flags) := A5.out.cell rfl
  have x8 : World.cell? w5 ⟨A, 8, none⟩ = some (.int .i64 (PAD : Int)) := by rw [← HN.out.pad]; exact A5.out.cell rfl
  have x9 : World.cell? w5 ⟨A, 9, none⟩ = some (.int .i64 (DEP : Int)) := by rw [← HN.out.depend]; exact A5.out.cell rfl
  have x10 : World.cell? w5 ⟨A, 10, none⟩ = some (.bool p10) := by rw [HP10.out]; exact A5.out.cell rfl
  have x11 : World.cell? w5 ⟨A, 11, none⟩ = some (.int .i64 (WT : Int)) := by rw [← HN.out.weight]; exact A5.out.cell rfl
  have x12 : World.cell? w5 ⟨A, 12, none⟩ = some (.int .u32 (COD : Int)) := by rw [← HN.out.code]; exact A5.out.cell rfl
  have x13 : World.cell? w5 ⟨A, 13, none⟩ = some (.slice la F.list.length lc) := A5.out.cell rfl
  have x14 : World.cell? w5 ⟨A, 14, none⟩ = some (.int .i64 (LAST : Int)) := by rw [← HN.out.last]; exact A5.out.cell rfl
  have x15 : World.cell? w5 ⟨A, 15, none⟩ = some (.int .i64 (INC : Int)) := by rw [← HN.out.inc]; exact A5.out.cell rfl
  have hAl := A5.out.lt
  iterate 2 go_step
  go_cut [4, 5] from 18 to 41 (fun sv _ wx => DS w A F (.slice pa F.pay.length pc) (.slice la F.list.length lc) L2 sv wx)
  case first =>
    by_cases hpr : F.prio = true ∨ F.kind = 2
    · have hw1 := HN.out.pWT hpr
      obtain ⟨B4, hB4⟩ : ∃ b, b = bstr (be (DEP + if F.excl then 2147483648 else 0) 4) := ⟨_, rfl⟩
      have HB4 := Lib.hid hB4
      have zB4 : B4.size ≤ 8 := by rw [hB4, bstr_size, be_len]; omega
      obtain ⟨B1, hB1⟩ : ∃ b, b = bstr (be (WT - 1) 1) := ⟨_, rfl⟩
      have HB1 := Lib.hid hB1
      have zB1 : B1.size ≤ 8 := by rw [hB1, bstr_size, be_len]; omega
      have h2 : Hid (L2 = L1 ++ (be (DEP + if F.excl then 2147483648 else 0) 4 ++ be (WT - 1) 1)) := Lib.hid (by rw [HL2.out, dPrio_be HN.out hpr])
      have NB : Hid (∀ w, Calls Try.prog 35 #[.int .u64 ((WT : Int) - 1), .int .i64 1] w fun e w' => e = .returned (.string B1) ∧ Chg [] w w') := Lib.hid (fun w => by
        have h := number_any (WT - 1) 1 (by omega) (by omega) w
        rw [show (((WT - 1 : Nat) : Int)) = (WT : Int) - 1 by omega, ← hB1] at h
        exact h)
      have d11 : ∀ x : Later [] w5, World.cell? x.world ⟨A, 11, none⟩ = some (.int .i64 (WT : Int)) := fun x => by rw [← HN.out.weight]; exact (A5.out.chg x.chg (by simp)).cell rfl
      have hor : Hid (p5 = true ∨ K = 2) := Lib.hid (by rcases hpr with h | h; exact Or.inl (HP5.out.trans h); right; have := HN.out.kind; omega)
      have hw1I : (1 : Int) ≤ (WT : Int) := by omega
      clear hpr hB4 hB1
      cases p5 with
      | true =>
        cases p10 with
        | true =>
          have N4 : Hid (∀ w, Calls Try.prog 35 #[.int .u64 ((DEP : Int) + 2147483648), .int .i64 4] w fun e w' => e = .returned (.string B4) ∧ Chg [] w w') := Lib.hid (fun w => by
            have h := number_any (DEP + if F.excl then 2147483648 else 0) 4 (by split <;> omega) (by omega) w
            rw [← HB4.out, ← HP10.out] at h
            exact h)
          go_upto_region 10 with fail
          refine wp_region_later (S := []) (by kernel_rfl) (by kernel_rfl) ?_
          repeat (go_big_quiet_step (first
            | (go_at_call 35; with_reducible exact Calls.later (N4.out _))
            | (go_at_call 35; with_reducible exact Calls.later (NB.out _))))
          refine wpQuiet_nil ?_
          intro _ hw'
          obtain ⟨xq, rfl⟩ := hw'
          have HQ := Lib.hid xq.chg
          generalize xq.world = w6 at *
          clear d11
          go_wp2_with fail
          go_meet
          case rel => exact ⟨by rw [h2.out, bstr_append, bstr_append, ← HB4.out, ← HB1.out, HS1.out, ba_assoc], A5.out.chg HQ.out (by simp), C5.out.trans' HQ.out⟩
        | false =>
          have N4 : Hid (∀ w, Calls Try.prog 35 #[.int .u64 ((DEP : Int)), .int .i64 4] w fun e w' => e = .returned (.string B4) ∧ Chg [] w w') := Lib.hid (fun w => by
            have h := number_any (DEP + if F.excl then 2147483648 else 0) 4 (by split <;> omega) (by omega) w
            rw [← HB4.out, ← HP10.out] at h
            exact h)
          go_upto_region 10 with fail
          refine wp_region_later (S := []) (by kernel_rfl) (by kernel_rfl) ?_
          repeat (go_big_quiet_step (first
            | (go_at_call 35; with_reducible exact Calls.later (N4.out _))
            | (go_at_call 35; with_reducible exact Calls.later (NB.out _))))
          refine wpQuiet_nil ?_
          intro _ hw'
          obtain ⟨xq, rfl⟩ := hw'
          have HQ := Lib.hid xq.chg
          generalize xq.world = w6 at *
          clear d11
          go_wp2_with fail
          go_meet
          case rel => exact ⟨by rw [h2.out, bstr_append, bstr_append, ← HB4.out, ← HB1.out, HS1.out, ba_assoc], A5.out.chg HQ.out (by simp), C5.out.trans' HQ.out⟩
      | false =>
        obtain rfl : K = 2 := by rcases hor.out with h | h; simp at h; exact h
        cases p10 with
        | true =>
          have N4 : Hid (∀ w, Calls Try.prog 35 #[.int .u64 ((DEP : Int) + 2147483648), .int .i64 4] w fun e w' => e = .returned (.string B4) ∧ Chg [] w w') := Lib.hid (fun w => by
            have h := number_any (DEP + if F.excl then 2147483648 else 0) 4 (by split <;> omega) (by omega) w
            rw [← HB4.out, ← HP10.out] at h
            exact h)
          go_upto_region 10 with fail
          refine wp_region_later (S := []) (by kernel_rfl) (by kernel_rfl) ?_
          repeat (go_big_quiet_step (first
            | (go_at_call 35; with_reducible exact Calls.later (N4.out _))
            | (go_at_call 35; with_reducible exact Calls.later (NB.out _))))
          refine wpQuiet_nil ?_
          intro _ hw'
          obtain ⟨xq, rfl⟩ := hw'
          have HQ := Lib.hid xq.chg
          generalize xq.world = w6 at *
          clear d11
          go_wp2_with fail
          go_meet
          case rel => exact ⟨by rw [h2.out, bstr_append, bstr_append, ← HB4.out, ← HB1.out, HS1.out, ba_assoc], A5.out.chg HQ.out (by simp), C5.out.trans' HQ.out⟩
        | false =>
          have N4 : Hid (∀ w, Calls Try.prog 35 #[.int .u64 ((DEP : Int)), .int .i64 4] w fun e w' => e = .returned (.string B4) ∧ Chg [] w w') := Lib.hid (fun w => by
            have h := number_any (DEP + if F.excl then 2147483648 else 0) 4 (by split <;> omega) (by omega) w
            rw [← HB4.out, ← HP10.out] at h
            exact h)
          go_upto_region 10 with fail
          refine wp_region_later (S := []) (by kernel_rfl) (by kernel_rfl) ?_
          repeat (go_big_quiet_step (first
            | (go_at_call 35; with_reducible exact Calls.later (N4.out _))
            | (go_at_call 35; with_reducible exact Calls.later (NB.out _))))
          refine wpQuiet_nil ?_
          intro _ hw'
          obtain ⟨xq, rfl⟩ := hw'
          have HQ := Lib.hid xq.chg
          generalize xq.world = w6 at *
          clear d11
          go_wp2_with fail
          go_meet
          case rel => exact ⟨by rw [h2.out, bstr_append, bstr_append, ← HB4.out, ← HB1.out, HS1.out, ba_assoc], A5.out.chg HQ.out (by simp), C5.out.trans' HQ.out⟩
    · have h2 : Hid (L2 = L1) := Lib.hid (by rw [HL2.out]; unfold dPrio; rw [if_neg hpr, List.append_nil])
      have hp0 : p5 = false := by cases p5 with | false => rfl | true => exact (hpr (Or.inl HP5.out.symm)).elim
      have hk2 : ((K : Int) == 2) = false := by have := HN.out.kind; simp; intro h; exact hpr (Or.inr (by omega))
      clear hpr
      subst hp0
      go_wp2_with fail
      go_meet
      case rel => exact ⟨by rw [h2.out, HS1.out], A5.out, C5.out⟩
  obtain ⟨hs, ha, hcc⟩ := hcut
  subst hs
  generalize hS2 : bstr L2 = S2
  have HS2 := Lib.hid hS2
  have zS2 : (S2).size ≤ 16777215 := by rw [← hS2, bstr_size]; exact HLN.out.2.1
  clear hS2
  obtain ⟨w6, hw⟩ : ∃ x, x = wc := ⟨_, rfl⟩
  subst hw
  have A6 := Lib.hid ha; have C6 := Lib.hid hcc
  clear ha hcc
  clear x0 x1 x2 x3 x4 x5 x6 x7 x8 x9 x10 x11 x12 x13 x14 x15 hAl
  have x0 : World.cell? w6 ⟨A, 0, none⟩ = some (.int .i64 (K : Int)) := by rw [← HN.out.kind]; exact A6.out.cell rfl
  have x1 : World.cell? w6 ⟨A, 1, none⟩ = some (.int .i64 (ST : Int)) := by rw [← HN.out.stream]; exact A6.out.cell rfl
  have x2 : World.cell? w6 ⟨A, 2, none⟩ = some (.bool F.fin) := A6.out.cell rfl
  have x3 : World.cell? w6 ⟨A, 3, none⟩ = some (.bool F.eh) := A6.out.cell rfl
  have x4 : World.cell? w6 ⟨A, 4, none⟩ = some (.bool F.ack) := A6.out.cell rfl
  have x5 : World.cell? w6 ⟨A, 5, none⟩ = some (.bool p5) := by rw [HP5.out]; exact A6.out.cell rfl
  have x6 : World.cell? w6 ⟨A, 6, none⟩ = some (.slice pa F.pay.length pc) := A6.out.cell rfl
  have x7 : World.cell? w6 ⟨A, 7, none⟩ = some (.int .i64 F.flags) := A6.out.cell rfl
  have x8 : World.cell? w6 ⟨A, 8, none⟩ = some (.int .i64 (PAD : Int)) := by rw [← HN.out.pad]; exact A6.out.cell rfl
  have x9 : World.cell? w6 ⟨A, 9, none⟩ = some (.int .i64 (DEP : Int)) := by rw [← HN.out.depend]; exact A6.out.cell rfl
  have x10 : World.cell? w6 ⟨A, 10, none⟩ = some (.bool p10) := by rw [HP10.out]; exact A6.out.cell rfl
  have x11 : World.cell? w6 ⟨A, 11, none⟩ = some (.int .i64 (WT : Int)) := by rw [← HN.out.weight]; exact A6.out.cell rfl
  have x12 : World.cell? w6 ⟨A, 12, none⟩ = some (.int .u32 (COD : Int)) := by rw [← HN.out.code]; exact A6.out.cell rfl
  have x13 : World.cell? w6 ⟨A, 13, none⟩ = some (.slice la F.list.length lc) := A6.out.cell rfl
  have x14 : World.cell? w6 ⟨A, 14, none⟩ = some (.int .i64 (LAST : Int)) := by rw [← HN.out.last]; exact A6.out.cell rfl
  have x15 : World.cell? w6 ⟨A, 15, none⟩ = some (.int .i64 (INC : Int)) := by rw [← HN.out.inc]; exact A6.out.cell rfl
  have hAl := A6.out.lt
  iterate 2 go_step
  go_cut [4] from 42 to 55 (fun sv wx => DS w A F (.slice pa F.pay.length pc) (.slice la F.list.length lc) L3 sv wx)
  case first =>
    by_cases hk : K = 5 ∨ K = 7
    · obtain ⟨B4, hB4⟩ : ∃ b, b = bstr (be LAST 4) := ⟨_, rfl⟩
      have HB4 := Lib.hid hB4
      have zB4 : B4.size ≤ 8 := by rw [hB4, bstr_size, be_len]; omega
      have h2 : Hid (bstr L3 = S2 ++ B4) := Lib.hid (by rw [HL3.out, bstr_append, HS2.out]; congr 1; rw [hB4]; unfold dLast; rw [if_pos (by have := HN.out.kind; omega), HN.out.last]; rfl)
      have NB : Hid (∀ w, Calls Try.prog 35 #[.int .u64 (LAST : Int), .int .i64 4] w fun e w' => e = .returned (.string B4) ∧ Chg [] w w') := Lib.hid (fun w => by
        rw [hB4]
        exact number_any LAST 4 (by omega) (by omega) w)
      clear hB4
      rcases hk with hk | hk
      all_goals
        subst hk
        go_wp2_with fail
        refine (NB.out _).mono ?_; rintro e w7 ⟨rfl, c7⟩
        have HC7 := Lib.hid c7
        clear c7
        go_wp2_with fail
        go_meet
        case rel => exact ⟨by rw [h2.out], A6.out.chg HC7.out (by simp), C6.out.trans' HC7.out⟩
    · have h2 : Hid (bstr L3 = S2) := Lib.hid (by rw [HL3.out, bstr_append]; unfold dLast; rw [if_neg (by have := HN.out.kind; omega), HS2.out]; exact ba_nil _)
      have e1 : ((K : Int) == 5) = false := by simp; omega
      have e2 : ((K : Int) == 7) = false := by simp; omega
      clear hk
      go_wp2_with fail
      go_meet
      case rel => exact ⟨by rw [h2.out], A6.out, C6.out⟩
  obtain ⟨hs, ha, hcc⟩ := hcut
  subst hs
  generalize hS3 : bstr L3 = S3
  have HS3 := Lib.hid hS3
  have zS3 : (S3).size ≤ 16777215 := by rw [← hS3, bstr_size]; exact HLN.out.2.2.1
  clear hS3
  obtain ⟨w7, hw⟩ : ∃ x, x = wc := ⟨_, rfl⟩
  subst hw
  have A7 := Lib.hid ha; have C7 := Lib.hid hcc
  clear ha hcc
  clear x0 x1 x2 x3 x4 x5 x6 x7 x8 x9 x10 x11 x12 x13 x14 x15 hAl
  have x0 : World.cell? w7 ⟨A, 0, none⟩ = some (.int .i64 (K : Int)) := by rw [← HN.out.kind]; exact A7.out.cell rfl
  have x1 : World.cell? w7 ⟨A, 1, none⟩ = some (.int .i64 (ST : Int)) := by rw [← HN.out.stream]; exact A7.out.cell rfl
  have x2 : World.cell? w7 ⟨A, 2, none⟩ = some (.bool F.fin) := A7.out.cell rfl
  have x3 : World.cell? w7 ⟨A, 3, none⟩ = some (.bool F.eh) := A7.out.cell rfl
  have x4 : World.cell? w7 ⟨A, 4, none⟩ = some (.bool F.ack) := A7.out.cell rfl
  have x5 : World.cell? w7 ⟨A, 5, none⟩ = some (.bool p5) := by rw [HP5.out]; exact A7.out.cell rfl
  have x6 : World.cell? w7 ⟨A, 6, none⟩ = some (.slice pa F.pay.length pc) := A7.out.cell rfl
  have x7 : World.cell? w7 ⟨A, 7, none⟩ = some (.int .i64 F.flags) := A7.out.cell rfl
  have x8 : World.cell? w7 ⟨A, 8, none⟩ = some (.int .i64 (PAD : Int)) := by rw [← HN.out.pad]; exact A7.out.cell rfl
  have x9 : World.cell? w7 ⟨A, 9, none⟩ = some (.int .i64 (DEP : Int)) := by rw [← HN.out.depend]; exact A7.out.cell rfl
  have x10 : World.cell? w7 ⟨A, 10, none⟩ = some (.bool p10) := by rw [HP10.out]; exact A7.out.cell rfl
  have x11 : World.cell? w7 ⟨A, 11, none⟩ = some (.int .i64 (WT : Int)) := by rw [← HN.out.weight]; exact A7.out.cell rfl
  have x12 : World.cell? w7 ⟨A, 12, none⟩ = some (.int .u32 (COD : Int)) := by rw [← HN.out.code]; exact A7.out.cell rfl
  have x13 : World.cell? w7 ⟨A, 13, none⟩ = some (.slice la F.list.length lc) := A7.out.cell rfl
  have x14 : World.cell? w7 ⟨A, 14, none⟩ = some (.int .i64 (LAST : Int)) := by rw [← HN.out.last]; exact A7.out.cell rfl
  have x15 : World.cell? w7 ⟨A, 15, none⟩ = some (.int .i64 (INC : Int)) := by rw [← HN.out.inc]; exact A7.out.cell rfl
  have hAl := A7.out.lt
  iterate 2 go_step
  go_cut [4] from 56 to 69 (fun sv wx => DS w A F (.slice pa F.pay.length pc) (.slice la F.list.length lc) L4 sv wx)
  case first =>
    by_cases hk : K = 3 ∨ K = 7
    · obtain ⟨B4, hB4⟩ : ∃ b, b = bstr (be COD 4) := ⟨_, rfl⟩
      have HB4 := Lib.hid hB4
      have zB4 : B4.size ≤ 8 := by rw [hB4, bstr_size, be_len]; omega
      have h2 : Hid (bstr L4 = S3 ++ B4) := Lib.hid (by rw [HL4.out, bstr_append, HS3.out]; congr 1; rw [hB4]; unfold dCode; rw [if_pos (by have := HN.out.kind; omega), HN.out.code]; rfl)
      have NB : Hid (∀ w, Calls Try.prog 35 #[.int .u64 (COD : Int), .int .i64 4] w fun e w' => e = .returned (.string B4) ∧ Chg [] w w') := Lib.hid (fun w => by
        rw [hB4]
        exact number_any COD 4 (by omega) (by omega) w)
      clear hB4
      rcases hk with hk | hk
      all_goals
        subst hk
        go_wp2_with fail
        refine (NB.out _).mono ?_; rintro e w7 ⟨rfl, c7⟩
        have HC7 := Lib.hid c7
        clear c7
        go_wp2_with fail
        go_meet
        case rel => exact ⟨by rw [h2.out], A7.out.chg HC7.out (by simp), C7.out.trans' HC7.out⟩
    · have h2 : Hid (bstr L4 = S3) := Lib.hid (by rw [HL4.out, bstr_append]; unfold dCode; rw [if_neg (by have := HN.out.kind; omega), HS3.out]; exact ba_nil _)
      have e1 : ((K : Int) == 3) = false := by simp; omega
      have e2 : ((K : Int) == 7) = false := by simp; omega
      clear hk
      go_wp2_with fail
      go_meet
      case rel => exact ⟨by rw [h2.out], A7.out, C7.out⟩
  obtain ⟨hs, ha, hcc⟩ := hcut
  subst hs
  generalize hS4 : bstr L4 = S4
  have HS4 := Lib.hid hS4
  have zS4 : (S4).size ≤ 16777215 := by rw [← hS4, bstr_size]; exact HLN.out.2.2.2.1
  clear hS4
  obtain ⟨w8, hw⟩ : ∃ x, x = wc := ⟨_, rfl⟩
  subst hw
  have A8 := Lib.hid ha; have C8 := Lib.hid hcc
  clear ha hcc
  clear x0 x1 x2 x3 x4 x5 x6 x7 x8 x9 x10 x11 x12 x13 x14 x15 hAl
  have x0 : World.cell? w8 ⟨A, 0, none⟩ = some (.int .i64 (K : Int)) := by rw [← HN.out.kind]; exact A8.out.cell rfl
  have x1 : World.cell? w8 ⟨A, 1, none⟩ = some (.int .i64 (ST : Int)) := by rw [← HN.out.stream]; exact A8.out.cell rfl
  have x2 : World.cell? w8 ⟨A, 2, none⟩ = some (.bool F.fin) := A8.out.cell rfl
  have x3 : World.cell? w8 ⟨A, 3, none⟩ = some (.bool F.eh) := A8.out.cell rfl
  have x4 : World.cell? w8 ⟨A, 4, none⟩ = some (.bool F.ack) := A8.out.cell rfl
  have x5 : World.cell? w8 ⟨A, 5, none⟩ = some (.bool p5) := by rw [HP5.out]; exact A8.out.cell rfl
  have x6 : World.cell? w8 ⟨A, 6, none⟩ = some (.slice pa F.pay.length pc) := A8.out.cell rfl
  have x7 : World.cell? w8 ⟨A, 7, none⟩ = some (.int .i64 F.flags) := A8.out.cell rfl
  have x8 : World.cell? w8 ⟨A, 8, none⟩ = some (.int .i64 (PAD : Int)) := by rw [← HN.out.pad]; exact A8.out.cell rfl
  have x9 : World.cell? w8 ⟨A, 9, none⟩ = some (.int .i64 (DEP : Int)) := by rw [← HN.out.depend]; exact A8.out.cell rfl
  have x10 : World.cell? w8 ⟨A, 10, none⟩ = some (.bool p10) := by rw [HP10.out]; exact A8.out.cell rfl
  have x11 : World.cell? w8 ⟨A, 11, none⟩ = some (.int .i64 (WT : Int)) := by rw [← HN.out.weight]; exact A8.out.cell rfl
  have x12 : World.cell? w8 ⟨A, 12, none⟩ = some (.int .u32 (COD : Int)) := by rw [← HN.out.code]; exact A8.out.cell rfl
  have x13 : World.cell? w8 ⟨A, 13, none⟩ = some (.slice la F.list.length lc) := A8.out.cell rfl
  have x14 : World.cell? w8 ⟨A, 14, none⟩ = some (.int .i64 (LAST : Int)) := by rw [← HN.out.last]; exact A8.out.cell rfl
  have x15 : World.cell? w8 ⟨A, 15, none⟩ = some (.int .i64 (INC : Int)) := by rw [← HN.out.inc]; exact A8.out.cell rfl
  have hAl := A8.out.lt
  iterate 2 go_step
  go_cut [4] from 70 to 78 (fun sv wx => DS w A F (.slice pa F.pay.length pc) (.slice la F.list.length lc) L5 sv wx)
  case first =>
    by_cases hk : K = 8 ∨ K = 8
    · obtain ⟨B4, hB4⟩ : ∃ b, b = bstr (be INC 4) := ⟨_, rfl⟩
      have HB4 := Lib.hid hB4
      have zB4 : B4.size ≤ 8 := by rw [hB4, bstr_size, be_len]; omega
      have h2 : Hid (bstr L5 = S4 ++ B4) := Lib.hid (by rw [HL5.out, bstr_append, HS4.out]; congr 1; rw [hB4]; unfold dInc; rw [if_pos (by have := HN.out.kind; omega), HN.out.inc]; rfl)
      have NB : Hid (∀ w, Calls Try.prog 35 #[.int .u64 (INC : Int), .int .i64 4] w fun e w' => e = .returned (.string B4) ∧ Chg [] w w') := Lib.hid (fun w => by
        rw [hB4]
        exact number_any INC 4 (by omega) (by omega) w)
      clear hB4
      rcases hk with hk | hk
      all_goals
        subst hk
        go_wp2_with fail
        refine (NB.out _).mono ?_; rintro e w7 ⟨rfl, c7⟩
        have HC7 := Lib.hid c7
        clear c7
        go_wp2_with fail
        go_meet
        case rel => exact ⟨by rw [h2.out], A8.out.chg HC7.out (by simp), C8.out.trans' HC7.out⟩
    · have h2 : Hid (bstr L5 = S4) := Lib.hid (by rw [HL5.out, bstr_append]; unfold dInc; rw [if_neg (by have := HN.out.kind; omega), HS4.out]; exact ba_nil _)
      have e1 : ((K : Int) == 8) = false := by simp; omega
      have e2 : ((K : Int) == 8) = false := by simp; omega
      clear hk
      go_wp2_with fail
      go_meet
      case rel => exact ⟨by rw [h2.out], A8.out, C8.out⟩
  obtain ⟨hs, ha, hcc⟩ := hcut
  subst hs
  generalize hS5 : bstr L5 = S5
  have HS5 := Lib.hid hS5
  have zS5 : (S5).size ≤ 16777215 := by rw [← hS5, bstr_size]; exact HLN.out.2.2.2.2.1
  clear hS5
  obtain ⟨w9, hw⟩ : ∃ x, x = wc := ⟨_, rfl⟩
  subst hw
  have A9 := Lib.hid ha; have C9 := Lib.hid hcc
  clear ha hcc
  clear x0 x1 x2 x3 x4 x5 x6 x7 x8 x9 x10 x11 x12 x13 x14 x15 hAl
  have x0 : World.cell? w9 ⟨A, 0, none⟩ = some (.int .i64 (K : Int)) := by rw [← HN.out.kind]; exact A9.out.cell rfl
  have x1 : World.cell? w9 ⟨A, 1, none⟩ = some (.int .i64 (ST : Int)) := by rw [← HN.out.stream]; exact A9.out.cell rfl
  have x2 : World.cell? w9 ⟨A, 2, none⟩ = some (.bool F.fin) := A9.out.cell rfl
  have x3 : World.cell? w9 ⟨A, 3, none⟩ = some (.bool F.eh) := A9.out.cell rfl
  have x4 : World.cell? w9 ⟨A, 4, none⟩ = some (.bool F.ack) := A9.out.cell rfl
  have x5 : World.cell? w9 ⟨A, 5, none⟩ = some (.bool p5) := by rw [HP5.out]; exact A9.out.cell rfl
  have x6 : World.cell? w9 ⟨A, 6, none⟩ = some (.slice pa F.pay.length pc) := A9.out.cell rfl
  have x7 : World.cell? w9 ⟨A, 7, none⟩ = some (.int .i64 F.flags) := A9.out.cell rfl
  have x8 : World.cell? w9 ⟨A, 8, none⟩ = some (.int .i64 (PAD : Int)) := by rw [← HN.out.pad]; exact A9.out.cell rfl
  have x9 : World.cell? w9 ⟨A, 9, none⟩ = some (.int .i64 (DEP : Int)) := by rw [← HN.out.depend]; exact A9.out.cell rfl
  have x10 : World.cell? w9 ⟨A, 10, none⟩ = some (.bool p10) := by rw [HP10.out]; exact A9.out.cell rfl
  have x11 : World.cell? w9 ⟨A, 11, none⟩ = some (.int .i64 (WT : Int)) := by rw [← HN.out.weight]; exact A9.out.cell rfl
  have x12 : World.cell? w9 ⟨A, 12, none⟩ = some (.int .u32 (COD : Int)) := by rw [← HN.out.code]; exact A9.out.cell rfl
  have x13 : World.cell? w9 ⟨A, 13, none⟩ = some (.slice la F.list.length lc) := A9.out.cell rfl
  have x14 : World.cell? w9 ⟨A, 14, none⟩ = some (.int .i64 (LAST : Int)) := by rw [← HN.out.last]; exact A9.out.cell rfl
  have x15 : World.cell? w9 ⟨A, 15, none⟩ = some (.int .i64 (INC : Int)) := by rw [← HN.out.inc]; exact A9.out.cell rfl
  have hAl := A9.out.lt
  go_wp2_with fail
  obtain ⟨nl, hnl⟩ : ∃ n, n = F.list.length := ⟨_, rfl⟩
  have HNL := Lib.hid hnl
  have hnlI : nl ≤ 100000000 := by rw [hnl]; exact HLL.out
  clear hnl
  go_loopw [4, 6] (fun sv iv wr => ∃ j : Nat, j ≤ nl ∧ iv = .int .i64 j ∧ DS w A F (.slice pa F.pay.length pc) (.slice la F.list.length lc) (L5 ++ setO (F.list.take j)) sv wr) (fun _ iv _ => nl - (intOf iv).toNat)
  case atStart => exact ⟨0, by omega, rfl, by rw [← HS5.out]; simp [setO], A9.out, C9.out⟩
  case round =>
    obtain ⟨j, hj, rfl, hds⟩ := hrel
    obtain ⟨rfl, ha, hcc⟩ := hds
    have AA := Lib.hid ha; have CC := Lib.hid hcc
    clear ha hcc
    have x0 : World.cell? wr ⟨A, 0, none⟩ = some (.int .i64 (K : Int)) := by rw [← HN.out.kind]; exact AA.out.cell rfl
    have x1 : World.cell? wr ⟨A, 1, none⟩ = some (.int .i64 (ST : Int)) := by rw [← HN.out.stream]; exact AA.out.cell rfl
    have x2 : World.cell? wr ⟨A, 2, none⟩ = some (.bool F.fin) := AA.out.cell rfl
    have x3 : World.cell? wr ⟨A, 3, none⟩ = some (.bool F.eh) := AA.out.cell rfl
    have x4 : World.cell? wr ⟨A, 4, none⟩ = some (.bool F.ack) := AA.out.cell rfl
    have x5 : World.cell? wr ⟨A, 5, none⟩ = some (.bool p5) := by rw [HP5.out]; exact AA.out.cell rfl
    have x6 : World.cell? wr ⟨A, 6, none⟩ = some (.slice pa F.pay.length pc) := AA.out.cell rfl
    have x7 : World.cell? wr ⟨A, 7, none⟩ = some (.int .i64 F.flags) := AA.out.cell rfl
    have x8 : World.cell? wr ⟨A, 8, none⟩ = some (.int .i64 (PAD : Int)) := by rw [← HN.out.pad]; exact AA.out.cell rfl
    have x9 : World.cell? wr ⟨A, 9, none⟩ = some (.int .i64 (DEP : Int)) := by rw [← HN.out.depend]; exact AA.out.cell rfl
    have x10 : World.cell? wr ⟨A, 10, none⟩ = some (.bool p10) := by rw [HP10.out]; exact AA.out.cell rfl
    have x11 : World.cell? wr ⟨A, 11, none⟩ = some (.int .i64 (WT : Int)) := by rw [← HN.out.weight]; exact AA.out.cell rfl
    have x12 : World.cell? wr ⟨A, 12, none⟩ = some (.int .u32 (COD : Int)) := by rw [← HN.out.code]; exact AA.out.cell rfl
    have x13 : World.cell? wr ⟨A, 13, none⟩ = some (.slice la F.list.length lc) := AA.out.cell rfl
    have x14 : World.cell? wr ⟨A, 14, none⟩ = some (.int .i64 (LAST : Int)) := by rw [← HN.out.last]; exact AA.out.cell rfl
    have x15 : World.cell? wr ⟨A, 15, none⟩ = some (.int .i64 (INC : Int)) := by rw [← HN.out.inc]; exact AA.out.cell rfl
    have hAl := AA.out.lt
    have hds5 : Hid (∀ m, m ≤ nl → (L5 ++ setO (F.list.take m)).length ≤ 16777215) := Lib.hid (fun m hm => by
      have h1 := HLN.out.2.2.2.2.2.1
      rw [HL6.out] at h1
      rw [List.length_append, setO_len] at h1 ⊢
      rw [List.length_take]
      omega)
    by_cases hjn : j < nl
    · have hjI : (j : Int) < (nl : Int) := by omega
      have hSL := HL.out.chg0 CC.out
      obtain ⟨b, off, rfl, hb, hcell⟩ := hSL.at (by rw [← HNL.out]; omega)
      obtain ⟨s, hs⟩ : ∃ s, F.list[j]? = some s := ⟨_, List.getElem?_eq_getElem (by rw [← HNL.out]; exact hjn)⟩
      obtain ⟨q1, q2, q3, q4⟩ := HN.out.lst s (List.mem_of_getElem? hs)
      obtain ⟨s1, s2⟩ := s
      obtain ⟨a1, rfl⟩ : ∃ n : Nat, s1 = (n : Int) := ⟨s1.toNat, by simp only at q1; omega⟩
      obtain ⟨a2, rfl⟩ : ∃ n : Nat, s2 = (n : Int) := ⟨s2.toNat, by simp only at q3; omega⟩
      have ha1 : a1 ≤ 65535 := by simp only at q2; omega
      have ha2 : a2 < 4294967296 := by simp only at q4; omega
      have d13 : ∀ x : Later [] wr, World.cell? x.world ⟨A, 13, none⟩ = some (.slice (some ⟨b, off, none⟩) nl lc) := fun x => by rw [HNL.out]; exact (AA.out.chg x.chg (by simp)).cell rfl
      have dz0 : ∀ x : Later [] wr, World.cell? x.world ⟨b, off + j * 2, none⟩ = some (.int .i64 (a1 : Int)) := fun x => (x.chg.cell hb (by simp) _).trans (hcell j _ hs 0 (by omega))
      have dz1 : ∀ x : Later [] wr, World.cell? x.world ⟨b, off + j * 2 + 1, none⟩ = some (.int .u32 (a2 : Int)) := fun x => (x.chg.cell hb (by simp) _).trans (hcell j _ hs 1 (by omega))
      obtain ⟨B2, hB2⟩ : ∃ b, b = bstr (be a1 2) := ⟨_, rfl⟩
      obtain ⟨B4, hB4⟩ : ∃ b, b = bstr (be a2 4) := ⟨_, rfl⟩
      have zB2 : B2.size ≤ 8 := by rw [hB2, bstr_size, be_len]; omega
      have zB4 : B4.size ≤ 8 := by rw [hB4, bstr_size, be_len]; omega
      have N2 : Hid (∀ w, Calls Try.prog 35 #[.int .u64 (a1 : Int), .int .i64 2] w fun e w' => e = .returned (.string B2) ∧ Chg [] w w') := Lib.hid (fun w => by
        rw [hB2]
        exact number_any a1 2 (by omega) (by omega) w)
      have N4 : Hid (∀ w, Calls Try.prog 35 #[.int .u64 (a2 : Int), .int .i64 4] w fun e w' => e = .returned (.string B4) ∧ Chg [] w w') := Lib.hid (fun w => by
        rw [hB4]
        exact number_any a2 4 (by omega) (by omega) w)
      have hst : Hid (bstr (L5 ++ setO (F.list.take (j + 1))) = bstr (L5 ++ setO (F.list.take j)) ++ B2 ++ B4) := Lib.hid (by
        have e : setO (F.list.take (j + 1)) = setO (F.list.take j) ++ (be a1 2 ++ be a2 4) := by
          rw [List.take_add_one, hs]
          simp [setO]
        rw [e, ← List.append_assoc, bstr_append, bstr_append (be a1 2), ← hB2, ← hB4, ba_assoc])
      have zS : (bstr (L5 ++ setO (F.list.take j))).size ≤ 16777215 := by rw [bstr_size]; exact hds5.out j (by omega)
      generalize bstr (L5 ++ setO (F.list.take j)) = SJ at *
      rw [← HNL.out] at x13
      clear hcell hs hSL q1 q2 q3 q4 hB2 hB4
      go_wp2_with fail
      refine wp_region_later (S := []) (by kernel_rfl) (by kernel_rfl) ?_
      repeat (go_big_quiet_step (first
        | (go_at_call 35; with_reducible exact Calls.later (N2.out _))
        | (go_at_call 35; with_reducible exact Calls.later (N4.out _))))
      refine wpQuiet_nil ?_
      intro _ hw'
      obtain ⟨xq, rfl⟩ := hw'
      have HQ := Lib.hid xq.chg
      generalize xq.world = w6 at *
      clear d13 dz0 dz1
      go_wp2_with fail
      go_roundw
      case rel => exact ⟨j + 1, by omega, by go_num, by rw [hst.out], AA.out.chg HQ.out (by simp), CC.out.trans' HQ.out⟩
      case measure => simp [intOf]; omega
    · obtain rfl : j = nl := by omega
      have hjI : ¬ (j : Int) < (j : Int) := by omega
      have h6 : L5 ++ setO (F.list.take j) = L6 := by rw [HNL.out, List.take_length, ← HL6.out]
      rw [h6]
      generalize hS6 : bstr L6 = S6
      have HS6 := Lib.hid hS6
      have zS6 : S6.size ≤ 16777215 := by rw [← hS6, bstr_size]; exact HLN.out.2.2.2.2.2.1
      rw [← HNL.out] at x13
      have hP2 := HP.out.chg0 CC.out
      have kp := BytesOf.str hP2
      generalize hSP : (⟨F.pay.toArray⟩ : ByteArray) = SP at kp
      have zSP : SP.size ≤ 16777215 := by
        have h1 := HLN.out.2.2.2.2.2.2
        rw [HL7.out, List.length_append] at h1
        rw [← hSP]
        show (bstr F.pay).size ≤ _
        rw [bstr_size]; omega
      have h7 : Hid (bstr L7 = S6 ++ SP) := Lib.hid (by rw [HL7.out, bstr_append, hS6]; congr 1)
      clear h6 hS6 hP2 hSP hds5
      go_upto_region 21 with fail
      go_cut [4] from 105 to 109 (fun sv wx => sv = .string (bstr L7) ∧ wx = wr)
      case first =>
        go_wp2_with fail
        go_meet
        case rel => exact ⟨by rw [h7.out], rfl⟩
      obtain ⟨hs, hwx⟩ := hcut
      subst hs
      have hwx' := hwx.symm
      subst hwx'
      generalize hS7 : bstr L7 = S7 at *
      have HS7 := Lib.hid hS7
      have zS7 : S7.size ≤ 16777215 := by rw [← hS7, bstr_size]; exact HLN.out.2.2.2.2.2.2
      clear hS7 kp
      iterate 2 go_step
      go_cut [4] from 110 to 119 (fun sv wx => DS w A F (.slice pa F.pay.length pc) (.slice la F.list.length lc) (bodyF F) sv wx)
      case first =>
        rcases Nat.eq_zero_or_pos PAD with h0 | h0
        · have h8 : Hid (bstr (bodyF F) = S7) := Lib.hid (by rw [← HL8.out, h0, bstr_append, HS7.out]; exact ba_nil _)
          subst h0
          go_wp2_with fail
          go_meet
          case rel => exact ⟨by rw [h8.out], AA.out, CC.out⟩
        · obtain ⟨P1, rfl⟩ : ∃ n, PAD = n + 1 := ⟨PAD - 1, by omega⟩
          obtain ⟨i, hi, hz, hsz, hby⟩ := info_parts Go.Proofs.Ythhgnipiaohplaa.B.infoB
          obtain ⟨wm, hmk, hown, hgr⟩ := run_make_full (P := Try.prog) wr w.heap.size 22 5 i (.int .u8 0) 1 Try.underlying22 hi hz hsz .i64 .i64 P1 (by rw [hby]; omega) (by unfold maxLen; omega) CC.out.size
          have cm : Chg [] wr wm := by have := Chg.grown hgr; simpa using this
          have om : OwnB wm w.heap.size (.slice (some ⟨wr.heap.size, 0, none⟩) P1 P1) (List.replicate P1 0) := by
            have h1 := hown
            rw [Nat.mul_one, show (Value.int .u8 0).cells = #[Value.int .u8 0] from rfl, toList_madeCells_one] at h1
            unfold OwnB
            rw [List.length_replicate]
            have e : rowB (List.replicate P1 0) = List.replicate P1 (Value.int .u8 0) := by simp [rowB]
            rw [e]; exact h1
          have kz := BytesOf.str om.bytes
          generalize hZB : (⟨(List.replicate P1 0).toArray⟩ : ByteArray) = ZB at kz
          have zZB : ZB.size ≤ 256 := by
            rw [← hZB]
            show (bstr (List.replicate P1 0)).size ≤ _
            rw [bstr_size, List.length_replicate]; omega
          have h8 : Hid (bstr (bodyF F) = S7 ++ ZB) := Lib.hid (by rw [← HL8.out, bstr_append, HS7.out]; congr 1)
          have HCM := Lib.hid cm
          generalize wr.heap.size = G at hmk kz
          have g0 : (0 : Int) < (P1 : Int) + 1 := by omega
          clear hi hz hsz hby hown hgr cm om hZB h0 i
          go_wp2_with fail
          go_meet
          case rel => exact ⟨by rw [h8.out], AA.out.chg HCM.out (by simp), CC.out.trans' HCM.out⟩
      obtain ⟨hs, ha, hcc⟩ := hcut
      subst hs
      obtain ⟨w9, hw⟩ : ∃ x, x = wc := ⟨_, rfl⟩
      subst hw
      have A10 := Lib.hid ha; have C10 := Lib.hid hcc
      obtain ⟨LN, hLN⟩ : ∃ n, n = (bodyF F).length := ⟨_, rfl⟩
      have hLNb : LN ≤ 16777215 := by rw [hLN]; exact HBL.out
      generalize hS8 : bstr (bodyF F) = S8
      have HS8 := Lib.hid hS8
      have zS8 : S8.size = LN := by rw [← hS8, bstr_size, hLN]
      have HLNN := Lib.hid hLN
      clear ha hcc hS8 hLN
      clear x0 x1 x2 x3 x4 x5 x6 x7 x8 x9 x10 x11 x12 x13 x14 x15 hAl
      have d0 : ∀ x : Later [] w9, World.cell? x.world ⟨A, 0, none⟩ = some (.int .i64 F.kind) := fun x => (A10.out.chg x.chg (by simp)).cell rfl
      have d1 : ∀ x : Later [] w9, World.cell? x.world ⟨A, 1, none⟩ = some (.int .i64 F.stream) := fun x => (A10.out.chg x.chg (by simp)).cell rfl
      have d2 : ∀ x : Later [] w9, World.cell? x.world ⟨A, 2, none⟩ = some (.bool F.fin) := fun x => (A10.out.chg x.chg (by simp)).cell rfl
      have d3 : ∀ x : Later [] w9, World.cell? x.world ⟨A, 3, none⟩ = some (.bool F.eh) := fun x => (A10.out.chg x.chg (by simp)).cell rfl
      have d4 : ∀ x : Later [] w9, World.cell? x.world ⟨A, 4, none⟩ = some (.bool F.ack) := fun x => (A10.out.chg x.chg (by simp)).cell rfl
      have d5 : ∀ x : Later [] w9, World.cell? x.world ⟨A, 5, none⟩ = some (.bool F.prio) := fun x => (A10.out.chg x.chg (by simp)).cell rfl
      have d6 : ∀ x : Later [] w9, World.cell? x.world ⟨A, 6, none⟩ = some (.slice pa F.pay.length pc) := fun x => (A10.out.chg x.chg (by simp)).cell rfl
      have d7 : ∀ x : Later [] w9, World.cell? x.world ⟨A, 7, none⟩ = some (.int .i64 F.flags) := fun x => (A10.out.chg x.chg (by simp)).cell rfl
      have d8 : ∀ x : Later [] w9, World.cell? x.world ⟨A, 8, none⟩ = some (.int .i64 F.pad) := fun x => (A10.out.chg x.chg (by simp)).cell rfl
      have d9 : ∀ x : Later [] w9, World.cell? x.world ⟨A, 9, none⟩ = some (.int .i64 F.depend) := fun x => (A10.out.chg x.chg (by simp)).cell rfl
      have d10 : ∀ x : Later [] w9, World.cell? x.world ⟨A, 10, none⟩ = some (.bool F.excl) := fun x => (A10.out.chg x.chg (by simp)).cell rfl
      have d11 : ∀ x : Later [] w9, World.cell? x.world ⟨A, 11, none⟩ = some (.int .i64 F.weight) := fun x => (A10.out.chg x.chg (by simp)).cell rfl
      have d12 : ∀ x : Later [] w9, World.cell? x.world ⟨A, 12, none⟩ = some (.int .u32 F.code) := fun x => (A10.out.chg x.chg (by simp)).cell rfl
      have d13 : ∀ x : Later [] w9, World.cell? x.world ⟨A, 13, none⟩ = some (.slice la F.list.length lc) := fun x => (A10.out.chg x.chg (by simp)).cell rfl
      have d14 : ∀ x : Later [] w9, World.cell? x.world ⟨A, 14, none⟩ = some (.int .i64 F.last) := fun x => (A10.out.chg x.chg (by simp)).cell rfl
      have d15 : ∀ x : Later [] w9, World.cell? x.world ⟨A, 15, none⟩ = some (.int .i64 F.inc) := fun x => (A10.out.chg x.chg (by simp)).cell rfl
      have k0 : (0 : Int) ≤ F.kind := by have := HN.out.kind; omega
      have k1 : F.kind ≤ 255 := by have := HN.out.kind; omega
      have t0 : (0 : Int) ≤ F.stream := by have := HN.out.stream; omega
      have t1 : F.stream ≤ 2147483647 := by have := HN.out.stream; omega
      obtain ⟨FG, hFG⟩ : ∃ n, n = flagsF F := ⟨_, rfl⟩
      have hFGb : FG ≤ 600 := by
        obtain ⟨FL, PAD', e1, e2, e3, e4⟩ := HM.out.nats
        rw [hFG]; unfold flagsF; rw [e1]
        simp only [Int.toNat_natCast]
        repeat' split
        all_goals omega
      have RF : Hid (∀ w, Calls Try.prog 36 #[.agg (fcs (F.mem (.slice pa F.pay.length pc) (.slice la F.list.length lc)))] w fun e w' => e = .returned (.int .i64 (FG : Int)) ∧ Chg [] w w') := Lib.hid (fun w => by rw [hFG]; exact rflags_any HM.out _ _ w)
      have HFG := Lib.hid hFG
      obtain ⟨BL, hBL⟩ : ∃ b, b = bstr (be LN 3) := ⟨_, rfl⟩
      obtain ⟨BK, hBK⟩ : ∃ b, b = bstr (be K 1) := ⟨_, rfl⟩
      obtain ⟨BF, hBF⟩ : ∃ b, b = bstr (be FG 1) := ⟨_, rfl⟩
      obtain ⟨BS, hBS⟩ : ∃ b, b = bstr (be ST 4) := ⟨_, rfl⟩
      have zBL : BL.size ≤ 8 := by rw [hBL, bstr_size, be_len]; omega
      have zBK : BK.size ≤ 8 := by rw [hBK, bstr_size, be_len]; omega
      have zBF : BF.size ≤ 8 := by rw [hBF, bstr_size, be_len]; omega
      have zBS : BS.size ≤ 8 := by rw [hBS, bstr_size, be_len]; omega
      have NL : Hid (∀ w, Calls Try.prog 35 #[.int .u64 (LN : Int), .int .i64 3] w fun e w' => e = .returned (.string BL) ∧ Chg [] w w') := Lib.hid (fun w => by
        rw [hBL]; exact number_any LN 3 (by omega) (by omega) w)
      have NK : Hid (∀ w, Calls Try.prog 35 #[.int .u64 F.kind, .int .i64 1] w fun e w' => e = .returned (.string BK) ∧ Chg [] w w') := Lib.hid (fun w => by
        rw [hBK, HN.out.kind]; exact number_any K 1 (by omega) (by omega) w)
      have NF : Hid (∀ w, Calls Try.prog 35 #[.int .u64 (FG : Int), .int .i64 1] w fun e w' => e = .returned (.string BF) ∧ Chg [] w w') := Lib.hid (fun w => by
        rw [hBF]; exact number_any FG 1 (by omega) (by omega) w)
      have NS : Hid (∀ w, Calls Try.prog 35 #[.int .u64 F.stream, .int .i64 4] w fun e w' => e = .returned (.string BS) ∧ Chg [] w w') := Lib.hid (fun w => by
        rw [hBS, HN.out.stream]; exact number_any ST 4 (by omega) (by omega) w)
      have hfin : Hid (bstr (wrO F) = BL ++ BK ++ BF ++ BS ++ S8) := Lib.hid (by
        unfold wrO
        rw [hd_be, bstr_append, bstr_append, bstr_append, bstr_append, HS8.out, ← HLNN.out, ← HFG.out, HN.out.kind, HN.out.stream, hBL, hBK, hBF, hBS]
        rfl)
      clear hFG hBL hBK hBF hBS
      go_upto_region 26 with fail
      refine wp_region_later (S := []) (by kernel_rfl) (by kernel_rfl) ?_
      repeat (go_big_quiet_step (first
        | (go_at_call 36; exact Calls.later (RF.out _))
        | (go_at_call 35; first
          | with_reducible exact Calls.later (NL.out _)
          | with_reducible exact Calls.later (NK.out _)
          | with_reducible exact Calls.later (NF.out _)
          | with_reducible exact Calls.later (NS.out _))))
      refine wpQuiet_nil ?_
      intro _ hw'
      obtain ⟨xq, rfl⟩ := hw'
      have HQ := Lib.hid xq.chg
      generalize xq.world = w10 at *
      clear d0 d1 d2 d3 d4 d5 d6 d7 d8 d9 d10 d11 d12 d13 d14 d15
      go_wp2_with fail
      go_ret2
      exact ⟨by rw [hfin.out]; rfl, C10.out.trans' HQ.out⟩
set_option maxRecDepth 100000 in
set_option maxHeartbeats 4000000 in
theorem rwrite_bad {F : Fm} (hwf : F.Wf) (hm : ¬ May F) (pa : Option Addr) (pc : Nat) (la : Option Addr) (lc : Nat) (w : World) (hl : SliceOf w (.slice la F.list.length lc) 2 encS F.list) (hll : F.list.length ≤ 100000000) :
    Calls Try.prog 15 #[.agg (fcs (F.mem (.slice pa F.pay.length pc) (.slice la F.list.length lc)))] w fun e w' => e = .returned (.tuple #[.string (bstr []), .int .i64 1]) ∧ Chg [] w w' := by
  obtain ⟨w2, hw2⟩ : ∃ w2, w2 = w.alloc (.cells (fcs (F.mem (.slice pa F.pay.length pc) (.slice la F.list.length lc))) 27) := ⟨_, rfl⟩
  have hc : Chg [] w w2 := by rw [hw2]; exact (Chg.refl w).alloc _
  have a1 : At w2 w.heap.size (.cells (fcs (F.mem (.slice pa F.pay.length pc) (.slice la F.list.length lc))) 27 (0, 0)) := by rw [hw2]; exact At.new w _
  obtain ⟨A, hA⟩ : ∃ A, A = w.heap.size := ⟨_, rfl⟩
  rw [← hA] at a1
  have HC := Lib.hid hc; have HW := Lib.hid hw2; have HA := Lib.hid hA
  have MA := Lib.hid (rmay_any F hwf pa pc la lc w2 (hl.chg0 hc) hll); have HM := Lib.hid hm
  have y0 : World.cell? w2 ⟨A, 0, none⟩ = some (.int .i64 F.kind) := a1.cell rfl
  have y1 : World.cell? w2 ⟨A, 1, none⟩ = some (.int .i64 F.stream) := a1.cell rfl
  have y2 : World.cell? w2 ⟨A, 2, none⟩ = some (.bool F.fin) := a1.cell rfl
  have y3 : World.cell? w2 ⟨A, 3, none⟩ = some (.bool F.eh) := a1.cell rfl
  have y4 : World.cell? w2 ⟨A, 4, none⟩ = some (.bool F.ack) := a1.cell rfl
  have y5 : World.cell? w2 ⟨A, 5, none⟩ = some (.bool F.prio) := a1.cell rfl
  have y6 : World.cell? w2 ⟨A, 6, none⟩ = some (.slice pa F.pay.length pc) := a1.cell rfl
  have y7 : World.cell? w2 ⟨A, 7, none⟩ = some (.int .i64 F.flags) := a1.cell rfl
  have y8 : World.cell? w2 ⟨A, 8, none⟩ = some (.int .i64 F.pad) := a1.cell rfl
  have y9 : World.cell? w2 ⟨A, 9, none⟩ = some (.int .i64 F.depend) := a1.cell rfl
  have y10 : World.cell? w2 ⟨A, 10, none⟩ = some (.bool F.excl) := a1.cell rfl
  have y11 : World.cell? w2 ⟨A, 11, none⟩ = some (.int .i64 F.weight) := a1.cell rfl
  have y12 : World.cell? w2 ⟨A, 12, none⟩ = some (.int .u32 F.code) := a1.cell rfl
  have y13 : World.cell? w2 ⟨A, 13, none⟩ = some (.slice la F.list.length lc) := a1.cell rfl
  have y14 : World.cell? w2 ⟨A, 14, none⟩ = some (.int .i64 F.last) := a1.cell rfl
  have y15 : World.cell? w2 ⟨A, 15, none⟩ = some (.int .i64 F.inc) := a1.cell rfl
  clear a1 hc hw2 hA hl hwf hm hll
  go_enter Try.func15, Try.ntmps15
  go_upto_region 1 with fail
  rw [← HW.out, ← HA.out]
  go_wp2_with fail
  refine MA.out.mono ?_; rintro e w3 ⟨b, rfl, hb, c3⟩
  have hb2 : b = false := by
    cases b with
    | false => rfl
    | true => exact (HM.out (hb.1 rfl)).elim
  subst hb2
  have C3 := Lib.hid (HC.out.trans' c3)
  clear hb c3 y0 y1 y2 y3 y4 y5 y6 y7 y8 y9 y10 y11 y12 y13 y14 y15 HC HW MA
  go_wp2_with fail
  go_ret2
  exact ⟨rfl, C3.out⟩
end Go.Proofs.Ythhgnipiaohplaa.Fr
