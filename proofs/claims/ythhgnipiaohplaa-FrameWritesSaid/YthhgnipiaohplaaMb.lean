/-
  The document's flags.
-/
import Derived.Test.YthhgnipiaohplaaMa
import Derived.Test.YthhgnipiaohplaaFmb
import Derived.Deep.DeepCutAuto
namespace Go.Proofs.Ythhgnipiaohplaa.Fr
open Go.ChangeShapes Go.WideShapes Go.ChangeAt Go.RowKit
open Go.Proofs.Ythhgnipiaohplaa.B
set_option linter.unusedVariables false
set_option linter.unusedSimpArgs false

def hs (F : Fm) (c : UInt8) : Bool := (hasL F.kind).contains c
def wgd (F : Fm) : Bool := hs F 119 || (hs F 114 && F.prio)
def C1 (F : Fm) : Prop := (F.fin = true → hs F 101 = true) ∧ (F.eh = true → hs F 104 = true) ∧ (F.ack = true → hs F 97 = true) ∧ (F.prio = true → hs F 114 = true)
def C2 (F : Fm) : Prop := (0 < F.pay.length → hs F 98 = true) ∧ (F.flags ≠ 0 → hs F 102 = true) ∧ (F.pad ≠ 0 → hs F 112 = true) ∧ (F.code ≠ 0 → hs F 99 = true) ∧ (0 < F.list.length → hs F 108 = true)
def C3 (F : Fm) : Prop := (F.last ≠ 0 → hs F 116 = true) ∧ (F.inc ≠ 0 → hs F 105 = true) ∧ (wgd F = false → F.depend = 0 ∧ F.excl = false ∧ F.weight = 0)
def C4 (F : Fm) : Prop := (0 ≤ F.pad ∧ F.pad ≤ 256) ∧ (0 ≤ F.flags ∧ F.flags ≤ 255) ∧ (0 ≤ F.last ∧ F.last ≤ 2147483647) ∧ (F.kind = 5 → F.last ≠ 0)
def C5 (F : Fm) : Prop := wgd F = true → (0 ≤ F.depend ∧ F.depend ≤ 2147483647) ∧ (1 ≤ F.weight ∧ F.weight ≤ 256)
def C6 (F : Fm) : Prop := F.list.any badS = false
def C7 (F : Fm) : Prop := (F.ack = true → F.list.length = 0) ∧ (F.kind = 6 → F.pay.length = 8)
def C8 (F : Fm) : Prop := F.kind = 8 → 1 ≤ F.inc ∧ F.inc ≤ 2147483647
theorem hasL_other (k : Nat) (h : 10 ≤ k) : hasL (k : Int) = [102, 98] := by
  unfold hasL
  repeat rw [if_neg (by omega)]
theorem may_c {F : Fm} (h : May F) : C1 F ∧ C2 F ∧ C3 F ∧ C4 F ∧ C5 F ∧ C6 F ∧ C7 F ∧ C8 F := by
  cases h with
  | other k st fl pay h0 h1 h2 =>
    have e := hasL_other k h0.1
    have k5 : ¬ (k : Int) = 5 := by omega
    have k6 : ¬ (k : Int) = 6 := by omega
    have k8 : ¬ (k : Int) = 8 := by omega
    simp [C1, C2, C3, C4, C5, C6, C7, C8, wgd, hs, e, k5, k6, k8]
    omega
  | sets ack l h1 h2 =>
    have hb : l.any badS = false := by
      rw [List.any_eq_false]
      intro s hs
      obtain ⟨q1, q2, _, _⟩ := h1 s hs
      simp [badS]; omega
    refine ⟨?_, ?_, ?_, ?_, ?_, hb, ⟨fun h => by have := h2 h; subst this; rfl, fun h => by simp at h⟩, fun h => by simp at h⟩
    all_goals simp [C1, C2, C3, C4, C5, wgd, hs, hasL]
  | ping ack pay h1 => simp [C1, C2, C3, C4, C5, C6, C7, C8, wgd, hs, hasL, h1]
  | data st pad fin pay h1 h2 => simp [C1, C2, C3, C4, C5, C6, C7, C8, wgd, hs, hasL]; omega
  | heads st pad fin eh pay h1 h2 => simp [C1, C2, C3, C4, C5, C6, C7, C8, wgd, hs, hasL]; omega
  | headp st pad d wt fin eh x pay h1 h2 h3 h4 => simp [C1, C2, C3, C4, C5, C6, C7, C8, wgd, hs, hasL]; omega
  | prio st d wt x h1 h3 h4 => simp [C1, C2, C3, C4, C5, C6, C7, C8, wgd, hs, hasL]; omega
  | reset st c h1 h2 => simp [C1, C2, C3, C4, C5, C6, C7, C8, wgd, hs, hasL]
  | prom st pad last eh pay h1 h2 h3 => unfold StB at h3; simp [C1, C2, C3, C4, C5, C6, C7, C8, wgd, hs, hasL]; omega
  | away last c pay h1 h2 => simp [C1, C2, C3, C4, C5, C6, C7, C8, wgd, hs, hasL]; omega
  | wind st inc h1 h2 => unfold StB at h2; simp [C1, C2, C3, C4, C5, C6, C7, C8, wgd, hs, hasL]; omega
  | cont st eh pay h1 => simp [C1, C2, C3, C4, C5, C6, C7, C8, wgd, hs, hasL]
theorem c_may {F : Fm} (hw : F.Wf) (h1 : May1 F) (hst : strayB F.kind F.stream = false) (c1 : C1 F) (c2 : C2 F) (c3 : C3 F) (c4 : C4 F) (c5 : C5 F) (c6 : C6 F) (c7 : C7 F) (c8 : C8 F) : May F := by
  refine may_of hw h1 hst ?_ ?_ ?_
  · obtain ⟨kind, st, fin, eh, ack, pr, pay, fl, pad, dep, x, wt, code, list, last, inc⟩ := F
    obtain ⟨⟨a1, a2⟩, _⟩ := h1
    simp only at a1 a2
    obtain ⟨K, rfl⟩ : ∃ n : Nat, kind = (n : Int) := ⟨kind.toNat, by omega⟩
    by_cases hk : K ≤ 9
    · have : K = 0 ∨ K = 1 ∨ K = 2 ∨ K = 3 ∨ K = 4 ∨ K = 5 ∨ K = 6 ∨ K = 7 ∨ K = 8 ∨ K = 9 := by omega
      rcases this with rfl | rfl | rfl | rfl | rfl | rfl | rfl | rfl | rfl | rfl
      all_goals
        simp [C1, hs, hasL] at c1
        simp [C2, hs, hasL] at c2
        simp [C3, wgd, hs, hasL] at c3
        cases pr <;> simp_all [bareF, zeroF]
    · have e := hasL_other K (by omega)
      simp [C1, hs, e] at c1
      simp [C2, hs, e] at c2
      simp [C3, wgd, hs, e] at c3
      have q : ∀ m : Nat, m ≤ 9 → ¬ (K : Int) = (m : Int) := by intro m hm; omega
      have q0 := q 0 (by omega); have q1 := q 1 (by omega); have q2 := q 2 (by omega); have q3 := q 3 (by omega); have q4 := q 4 (by omega)
      have q5 := q 5 (by omega); have q6 := q 6 (by omega); have q7 := q 7 (by omega); have q8 := q 8 (by omega); have q9 := q 9 (by omega)
      simp at q0 q1 q2 q3 q4 q5 q6 q7 q8 q9
      simp_all [bareF, zeroF]
  · obtain ⟨p1, p2, p3, p4⟩ := c4
    refine ⟨p1, ?_, p2, p3⟩
    cases hg : wgd F with
    | true => exact (c5 hg).1
    | false => rw [(c3.2.2 hg).1]; omega
  · refine ⟨fun k p => ?_, fun k => ?_, fun k => ⟨c6, fun h => List.eq_nil_of_length_eq_zero (c7.1 h)⟩, fun k => ?_, c7.2, c8⟩
    · exact (c5 (by simp [wgd, hs, hasL, k, p])).2
    · exact (c5 (by simp [wgd, hs, hasL, k])).2
    · have := c4.2.2.2 k; have := c4.2.2.1; omega
def Im (p j : Bool) : Prop := p = true → j = true
def Po (n : Nat) (j : Bool) : Prop := 0 < n → j = true
def Nz (n : Int) (j : Bool) : Prop := n ≠ 0 → j = true
def Wz (g : Bool) (a : Int) (b : Bool) (c : Int) : Prop := g = false → a = 0 ∧ b = false ∧ c = 0
def Wr (g : Bool) (a c : Int) : Prop := g = true → (0 ≤ a ∧ a ≤ 2147483647) ∧ (1 ≤ c ∧ c ≤ 256)
def Az (p : Bool) (j : Nat) : Prop := p = true → j = 0
theorem bne8T {x : Nat} (h : ((x : Int) != 8) = true) : x ≠ 8 := by simp at h; omega
theorem bne8F {x : Nat} (h : ((x : Int) != 8) = false) : x = 8 := by simp at h; omega
theorem absB {b : Bool} {P : Prop} (h : b = true) (h' : b = false) : P := by rw [h] at h'; cases h'
theorem ntB {b : Bool} (h : (!b) = false) : b = true := by cases b <;> simp_all
theorem tnB {b : Bool} (h : (!b) = true) : b = false := by cases b <;> simp_all
theorem ntF {b : Bool} (h : ¬ b = true) : b = false := by cases b <;> simp_all
theorem bneT {x : Int} (h : (x != 0) = true) : x ≠ 0 := by simpa using h
theorem bneF {x : Int} (h : (x != 0) = false) : x = 0 := by simpa using h
theorem beqT {x : Int} (h : (x == 0) = true) : x = 0 := by simpa using h
theorem beqF {x : Int} (h : (x == 0) = false) : x ≠ 0 := by simpa using h
end Go.Proofs.Ythhgnipiaohplaa.Fr
namespace Go.Proofs.Ythhgnipiaohplaa.Fr
open Go.ChangeShapes Go.WideShapes Go.ChangeAt Go.RowKit
open Go.Proofs.Ythhgnipiaohplaa.B
set_option linter.unusedVariables false
set_option linter.unusedSimpArgs false

theorem May.nats {F : Fm} (h : May F) : ∃ FL PAD : Nat, F.flags = (FL : Int) ∧ F.pad = (PAD : Int) ∧ FL ≤ 255 ∧ PAD ≤ 256 := by
  obtain ⟨_, _, _, ⟨p1, p2, _⟩, _⟩ := may_c h
  exact ⟨F.flags.toNat, F.pad.toNat, by omega, by omega, by omega, by omega⟩
set_option maxRecDepth 100000 in
set_option maxHeartbeats 4000000 in
theorem rflags_any {F : Fm} (h : May F) (pv lv : Value) (w : World) :
    Calls Try.prog 36 #[.agg (fcs (F.mem pv lv))] w fun e w' => e = .returned (.int .i64 (flagsF F : Nat)) ∧ Chg [] w w' := by
  obtain ⟨FL, PAD, hfl, hpd, hf2, hp2⟩ := h.nats
  obtain ⟨w2, hw2⟩ : ∃ w2, w2 = w.alloc (.cells (fcs (F.mem pv lv)) 27) := ⟨_, rfl⟩
  have hc : Chg [] w w2 := by rw [hw2]; exact (Chg.refl w).alloc _
  have a1 : At w2 w.heap.size (.cells (fcs (F.mem pv lv)) 27 (0, 0)) := by rw [hw2]; exact At.new w _
  obtain ⟨A, hA⟩ : ∃ A, A = w.heap.size := ⟨_, rfl⟩
  rw [← hA] at a1
  have x2 : World.cell? w2 ⟨A, 2, none⟩ = some (.bool F.fin) := a1.cell rfl
  have x3 : World.cell? w2 ⟨A, 3, none⟩ = some (.bool F.eh) := a1.cell rfl
  have x4 : World.cell? w2 ⟨A, 4, none⟩ = some (.bool F.ack) := a1.cell rfl
  have x5 : World.cell? w2 ⟨A, 5, none⟩ = some (.bool F.prio) := a1.cell rfl
  have x7 : World.cell? w2 ⟨A, 7, none⟩ = some (.int .i64 F.flags) := a1.cell rfl
  have x8 : World.cell? w2 ⟨A, 8, none⟩ = some (.int .i64 F.pad) := a1.cell rfl
  have hAl := a1.lt
  rw [hfl] at x7
  rw [hpd] at x8
  obtain ⟨p2, hp2'⟩ : ∃ b, b = F.fin := ⟨_, rfl⟩
  obtain ⟨p3, hp3⟩ : ∃ b, b = F.eh := ⟨_, rfl⟩
  obtain ⟨p4, hp4⟩ : ∃ b, b = F.ack := ⟨_, rfl⟩
  obtain ⟨p5, hp5⟩ : ∃ b, b = F.prio := ⟨_, rfl⟩
  rw [← hp2'] at x2
  rw [← hp3] at x3
  rw [← hp4] at x4
  rw [← hp5] at x5
  obtain ⟨N1, hN1⟩ : ∃ n : Nat, n = FL + (if p2 || p4 then 1 else 0) := ⟨_, rfl⟩
  obtain ⟨N2, hN2⟩ : ∃ n : Nat, n = N1 + (if p3 then 4 else 0) := ⟨_, rfl⟩
  obtain ⟨N3, hN3⟩ : ∃ n : Nat, n = N2 + (if 0 < PAD then 8 else 0) := ⟨_, rfl⟩
  have hN4 : Hid (flagsF F = N3 + (if p5 then 32 else 0)) := Lib.hid (by
    unfold flagsF
    rw [hN3, hN2, hN1, hfl, hpd, ← hp2', ← hp3, ← hp4, ← hp5]; simp)
  have b1 : N1 ≤ 256 := by rw [hN1]; split <;> omega
  have b2 : N2 ≤ 260 := by rw [hN2]; split <;> omega
  have b3 : N3 ≤ 268 := by rw [hN3]; split <;> omega
  have HN1 := Lib.hid hN1; have HN2 := Lib.hid hN2; have HN3 := Lib.hid hN3
  have HC := Lib.hid hc; have HW := Lib.hid hw2; have HA := Lib.hid hA
  clear hN1 hN2 hN3 a1 hc hw2 hA h hp2' hp3 hp4 hp5 hfl hpd
  go_enter Try.func36, Try.ntmps36
  go_upto_region 1 with fail
  rw [← HW.out, ← HA.out]
  iterate 14 go_step
  go_cut [3] (fun v wx => v = .int .i64 (N1 : Int) ∧ wx = w2)
  case first =>
    cases p2 <;> cases p4
    all_goals
      go_wp2_with fail
      go_meet
      case rel => exact ⟨by rw [HN1.out]; first | rfl | go_num, rfl⟩
  obtain ⟨rfl, hwx⟩ := hcut
  have hwx' := hwx.symm
  subst hwx'
  iterate 2 go_step
  go_cut [3] (fun v wx => v = .int .i64 (N2 : Int) ∧ wx = w2)
  case first =>
    cases p3
    all_goals
      go_wp2_with fail
      go_meet
      case rel => exact ⟨by rw [HN2.out]; first | rfl | go_num, rfl⟩
  obtain ⟨rfl, hwx⟩ := hcut
  have hwx' := hwx.symm
  subst hwx'
  iterate 2 go_step
  go_cut [3] (fun v wx => v = .int .i64 (N3 : Int) ∧ wx = w2)
  case first =>
    rcases Nat.eq_zero_or_pos PAD with h0 | h0
    · subst h0
      go_wp2_with fail
      go_meet
      case rel => exact ⟨by rw [HN3.out]; first | rfl | go_num, rfl⟩
    · have g0 : (0 : Int) < (PAD : Int) := by omega
      have h3 : N3 = N2 + 8 := by rw [HN3.out, if_pos h0]
      have H3 := Lib.hid h3
      clear h3 h0
      go_wp2_with fail
      go_meet
      case rel => exact ⟨by rw [H3.out]; first | rfl | go_num, rfl⟩
  obtain ⟨rfl, hwx⟩ := hcut
  have hwx' := hwx.symm
  subst hwx'
  cases p5
  all_goals
    go_wp2_with fail
    go_ret
    exact ⟨by rw [hN4.out]; first | rfl | go_num, HC.out⟩
end Go.Proofs.Ythhgnipiaohplaa.Fr
