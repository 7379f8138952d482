/-
  May a frame be? Of any frame.
-/
import Derived.Test.YthhgnipiaohplaaFmo
namespace Go.Proofs.Ythhgnipiaohplaa.Fr
open Go.ChangeShapes Go.WideShapes Go.ChangeAt Go.RowKit
open Go.Proofs.Ythhgnipiaohplaa.B
set_option linter.unusedVariables false
set_option linter.unusedSimpArgs false

/-- A frame's numbers of 32 bits. -/
def Fm.Wf (F : Fm) : Prop := (0 ≤ F.code ∧ F.code < 4294967296) ∧ ∀ s ∈ F.list, 0 ≤ s.2 ∧ s.2 < 4294967296
def zeroF (F : Fm) : Fm := ⟨F.kind, F.stream, false, false, false, false, [], 0, 0, 0, false, 0, 0, [], 0, 0⟩
def May1 (F : Fm) : Prop := (0 ≤ F.kind ∧ F.kind ≤ 255) ∧ (0 ≤ F.stream ∧ F.stream ≤ 2147483647)
def May3 (F : Fm) : Prop := (0 ≤ F.pad ∧ F.pad ≤ 256) ∧ (0 ≤ F.depend ∧ F.depend ≤ 2147483647) ∧ (0 ≤ F.flags ∧ F.flags ≤ 255) ∧ (0 ≤ F.last ∧ F.last ≤ 2147483647)
def May4 (F : Fm) : Prop :=
  (F.kind = 1 → F.prio = true → 1 ≤ F.weight ∧ F.weight ≤ 256) ∧ (F.kind = 2 → 1 ≤ F.weight ∧ F.weight ≤ 256) ∧ (F.kind = 4 → F.list.any badS = false ∧ (F.ack = true → F.list = [])) ∧
  (F.kind = 5 → 0 < F.last) ∧ (F.kind = 6 → F.pay.length = 8) ∧ (F.kind = 8 → 1 ≤ F.inc ∧ F.inc ≤ 2147483647)
theorem may_sets {l : List (Int × Int)} (hb : l.any badS = false) (hw : ∀ s ∈ l, 0 ≤ s.2 ∧ s.2 < 4294967296) : ∀ s ∈ l, 0 ≤ s.1 ∧ s.1 ≤ 65535 ∧ 0 ≤ s.2 ∧ s.2 < 4294967296 := by
  intro s hs
  rw [List.any_eq_false] at hb
  have h1 := hb s hs
  have h2 := hw s hs
  simp [badS] at h1
  omega
theorem may_of {F : Fm} (hw : F.Wf) (h1 : May1 F) (hst : strayB F.kind F.stream = false) (h2 : bareF F = zeroF F) (h3 : May3 F) (h4 : May4 F) : May F := by
  obtain ⟨kind, st, fin, eh, ack, pr, pay, fl, pad, dep, x, wt, code, list, last, inc⟩ := F
  obtain ⟨⟨a1, a2⟩, a3, a4⟩ := h1
  obtain ⟨⟨b1, b2⟩, ⟨b3, b4⟩, ⟨b5, b6⟩, b7, b8⟩ := h3
  obtain ⟨c1, c2, c3, c4, c5, c6⟩ := h4
  obtain ⟨⟨d1, d2⟩, d3⟩ := hw
  simp only at a1 a2 a3 a4 b1 b2 b3 b4 b5 b6 b7 b8 c1 c2 c3 c4 c5 c6 d1 d2 d3 hst
  obtain ⟨ST, rfl⟩ : ∃ n : Nat, st = (n : Int) := ⟨st.toNat, by omega⟩
  obtain ⟨PAD, rfl⟩ : ∃ n : Nat, pad = (n : Int) := ⟨pad.toNat, by omega⟩
  obtain ⟨DEP, rfl⟩ : ∃ n : Nat, dep = (n : Int) := ⟨dep.toNat, by omega⟩
  obtain ⟨FL, rfl⟩ : ∃ n : Nat, fl = (n : Int) := ⟨fl.toNat, by omega⟩
  obtain ⟨LAST, rfl⟩ : ∃ n : Nat, last = (n : Int) := ⟨last.toNat, by omega⟩
  obtain ⟨COD, rfl⟩ : ∃ n : Nat, code = (n : Int) := ⟨code.toNat, by omega⟩
  obtain ⟨K, rfl⟩ : ∃ n : Nat, kind = (n : Int) := ⟨kind.toNat, by omega⟩
  by_cases k0 : K = 0
  · subst k0
    simp [bareF, zeroF] at h2
    simp [strayB] at hst
    simp at c1 c2 c3 c4 c5 c6
    rw [show (⟨((0 : Nat) : Int), (ST : Int), fin, eh, ack, pr, pay, (FL : Int), (PAD : Int), (DEP : Int), x, wt, (COD : Int), list, (LAST : Int), inc⟩ : Fm) = ⟨0, (ST : Nat), fin, false, false, false, pay, 0, (PAD : Nat), 0, false, 0, 0, [], 0, 0⟩ by simp [h2]]
    exact May.data ST PAD fin pay ⟨by omega, by omega⟩ (by omega)
  by_cases k1 : K = 1
  · subst k1
    simp [bareF, zeroF] at h2
    simp [strayB] at hst
    simp at c1 c2 c3 c4 c5 c6
    cases pr with
    | false =>
      simp at h2
      rw [show (⟨((1 : Nat) : Int), (ST : Int), fin, eh, ack, false, pay, (FL : Int), (PAD : Int), (DEP : Int), x, wt, (COD : Int), list, (LAST : Int), inc⟩ : Fm) = ⟨1, (ST : Nat), fin, eh, false, false, pay, 0, (PAD : Nat), 0, false, 0, 0, [], 0, 0⟩ by simp [h2]]
      exact May.heads ST PAD fin eh pay ⟨by omega, by omega⟩ (by omega)
    | true =>
      simp at h2 c1
      obtain ⟨W, rfl⟩ : ∃ n : Nat, wt = (n : Int) := ⟨wt.toNat, by omega⟩
      rw [show (⟨((1 : Nat) : Int), (ST : Int), fin, eh, ack, true, pay, (FL : Int), (PAD : Int), (DEP : Int), x, (W : Int), (COD : Int), list, (LAST : Int), inc⟩ : Fm) = ⟨1, (ST : Nat), fin, eh, false, true, pay, 0, (PAD : Nat), (DEP : Nat), x, (W : Nat), 0, [], 0, 0⟩ by simp [h2]]
      exact May.headp ST PAD DEP W fin eh x pay ⟨by omega, by omega⟩ (by omega) (by omega) ⟨by omega, by omega⟩
  by_cases k2 : K = 2
  · subst k2
    simp [bareF, zeroF] at h2
    simp [strayB] at hst
    simp at c1 c2 c3 c4 c5 c6
    obtain ⟨W, rfl⟩ : ∃ n : Nat, wt = (n : Int) := ⟨wt.toNat, by omega⟩
    rw [show (⟨((2 : Nat) : Int), (ST : Int), fin, eh, ack, pr, pay, (FL : Int), (PAD : Int), (DEP : Int), x, (W : Int), (COD : Int), list, (LAST : Int), inc⟩ : Fm) = ⟨2, (ST : Nat), false, false, false, false, [], 0, 0, (DEP : Nat), x, (W : Nat), 0, [], 0, 0⟩ by simp [h2]]
    exact May.prio ST DEP W x ⟨by omega, by omega⟩ (by omega) ⟨by omega, by omega⟩
  by_cases k3 : K = 3
  · subst k3
    simp [bareF, zeroF] at h2
    simp [strayB] at hst
    simp at c1 c2 c3 c4 c5 c6
    rw [show (⟨((3 : Nat) : Int), (ST : Int), fin, eh, ack, pr, pay, (FL : Int), (PAD : Int), (DEP : Int), x, wt, (COD : Int), list, (LAST : Int), inc⟩ : Fm) = ⟨3, (ST : Nat), false, false, false, false, [], 0, 0, 0, false, 0, (COD : Nat), [], 0, 0⟩ by simp [h2]]
    exact May.reset ST COD ⟨by omega, by omega⟩ (by omega)
  by_cases k4 : K = 4
  · subst k4
    simp [bareF, zeroF] at h2
    simp [strayB] at hst
    simp at c1 c2 c3 c4 c5 c6
    have hst0 : ST = 0 := by omega
    subst hst0
    rw [show (⟨((4 : Nat) : Int), ((0 : Nat) : Int), fin, eh, ack, pr, pay, (FL : Int), (PAD : Int), (DEP : Int), x, wt, (COD : Int), list, (LAST : Int), inc⟩ : Fm) = ⟨4, 0, false, false, ack, false, [], 0, 0, 0, false, 0, 0, list, 0, 0⟩ by simp [h2]]
    exact May.sets ack list (may_sets (by rw [List.any_eq_false]; simpa using c3.1) d3) c3.2
  by_cases k5 : K = 5
  · subst k5
    simp [bareF, zeroF] at h2
    simp [strayB] at hst
    simp at c1 c2 c3 c4 c5 c6
    rw [show (⟨((5 : Nat) : Int), (ST : Int), fin, eh, ack, pr, pay, (FL : Int), (PAD : Int), (DEP : Int), x, wt, (COD : Int), list, (LAST : Int), inc⟩ : Fm) = ⟨5, (ST : Nat), false, eh, false, false, pay, 0, (PAD : Nat), 0, false, 0, 0, [], (LAST : Nat), 0⟩ by simp [h2]]
    exact May.prom ST PAD LAST eh pay ⟨by omega, by omega⟩ (by omega) ⟨by omega, by omega⟩
  by_cases k6 : K = 6
  · subst k6
    simp [bareF, zeroF] at h2
    simp [strayB] at hst
    simp at c1 c2 c3 c4 c5 c6
    have hst0 : ST = 0 := by omega
    subst hst0
    rw [show (⟨((6 : Nat) : Int), ((0 : Nat) : Int), fin, eh, ack, pr, pay, (FL : Int), (PAD : Int), (DEP : Int), x, wt, (COD : Int), list, (LAST : Int), inc⟩ : Fm) = ⟨6, 0, false, false, ack, false, pay, 0, 0, 0, false, 0, 0, [], 0, 0⟩ by simp [h2]]
    exact May.ping ack pay c5
  by_cases k7 : K = 7
  · subst k7
    simp [bareF, zeroF] at h2
    simp [strayB] at hst
    simp at c1 c2 c3 c4 c5 c6
    have hst0 : ST = 0 := by omega
    subst hst0
    rw [show (⟨((7 : Nat) : Int), ((0 : Nat) : Int), fin, eh, ack, pr, pay, (FL : Int), (PAD : Int), (DEP : Int), x, wt, (COD : Int), list, (LAST : Int), inc⟩ : Fm) = ⟨7, 0, false, false, false, false, pay, 0, 0, 0, false, 0, (COD : Nat), [], (LAST : Nat), 0⟩ by simp [h2]]
    exact May.away LAST COD pay (by omega) (by omega)
  by_cases k8 : K = 8
  · subst k8
    simp [bareF, zeroF] at h2
    simp [strayB] at hst
    simp at c1 c2 c3 c4 c5 c6
    obtain ⟨INC, rfl⟩ : ∃ n : Nat, inc = (n : Int) := ⟨inc.toNat, by omega⟩
    rw [show (⟨((8 : Nat) : Int), (ST : Int), fin, eh, ack, pr, pay, (FL : Int), (PAD : Int), (DEP : Int), x, wt, (COD : Int), list, (LAST : Int), (INC : Int)⟩ : Fm) = ⟨8, (ST : Nat), false, false, false, false, [], 0, 0, 0, false, 0, 0, [], 0, (INC : Nat)⟩ by simp [h2]]
    exact May.wind ST INC (by omega) ⟨by omega, by omega⟩
  by_cases k9 : K = 9
  · subst k9
    simp [bareF, zeroF] at h2
    simp [strayB] at hst
    simp at c1 c2 c3 c4 c5 c6
    rw [show (⟨((9 : Nat) : Int), (ST : Int), fin, eh, ack, pr, pay, (FL : Int), (PAD : Int), (DEP : Int), x, wt, (COD : Int), list, (LAST : Int), inc⟩ : Fm) = ⟨9, (ST : Nat), false, eh, false, false, pay, 0, 0, 0, false, 0, 0, [], 0, 0⟩ by simp [h2]]
    exact May.cont ST eh pay ⟨by omega, by omega⟩
  have q0 : ¬ (K : Int) = 0 := by omega
  have q1 : ¬ (K : Int) = 1 := by omega
  have q2 : ¬ (K : Int) = 2 := by omega
  have q3 : ¬ (K : Int) = 3 := by omega
  have q4 : ¬ (K : Int) = 4 := by omega
  have q5 : ¬ (K : Int) = 5 := by omega
  have q6 : ¬ (K : Int) = 6 := by omega
  have q7 : ¬ (K : Int) = 7 := by omega
  have q8 : ¬ (K : Int) = 8 := by omega
  have q9 : ¬ (K : Int) = 9 := by omega
  simp [bareF, zeroF, q0, q1, q2, q3, q4, q5, q6, q7, q8, q9, k0, k1, k2, k3, k4, k5, k6, k7, k8, k9] at h2
  rw [show (⟨((K : Nat) : Int), (ST : Int), fin, eh, ack, pr, pay, (FL : Int), (PAD : Int), (DEP : Int), x, wt, (COD : Int), list, (LAST : Int), inc⟩ : Fm) = ⟨(K : Nat), (ST : Nat), false, false, false, false, pay, (FL : Nat), 0, 0, false, 0, 0, [], 0, 0⟩ by simp [h2]]
  exact May.other K ST FL pay ⟨by omega, by omega⟩ (by omega) (by omega)
theorem bareP_len (F : Fm) (pa : Option Addr) (pc : Nat) : ∃ a c, Fr.bareP F (.slice pa F.pay.length pc) = .slice a (bareF F).pay.length c := by
  unfold Fr.bareP keepsP
  by_cases h2 : F.kind = 2
  · exact ⟨pa, pc, by simp [h2, bareF]⟩
  by_cases h3 : F.kind = 3
  · exact ⟨pa, pc, by simp [h3, bareF]⟩
  by_cases h4 : F.kind = 4
  · exact ⟨pa, pc, by simp [h4, bareF]⟩
  by_cases h8 : F.kind = 8
  · exact ⟨pa, pc, by simp [h8, bareF]⟩
  refine ⟨none, 0, ?_⟩
  have : (bareF F).pay = [] := by
    unfold bareF
    repeat' split
    all_goals first | rfl | contradiction
  simp [h2, h3, h4, h8, this]
theorem bareL_len (F : Fm) (la : Option Addr) (lc : Nat) : ∃ a c, Fr.bareL F (.slice la F.list.length lc) = .slice a (bareF F).list.length c := by
  unfold Fr.bareL
  by_cases h4 : F.kind = 4
  · exact ⟨none, 0, by simp [h4, bareF]⟩
  refine ⟨la, lc, ?_⟩
  have : (bareF F).list = F.list := by
    unfold bareF
    repeat' split
    all_goals first | rfl | contradiction
  simp [h4, this]
theorem bare_ks (F : Fm) : (bareF F).kind = F.kind ∧ (bareF F).stream = F.stream := by
  unfold bareF
  repeat' split
  all_goals exact ⟨rfl, rfl⟩
theorem iff_no {P : Prop} (h : ¬ P) : (false = true ↔ P) := ⟨fun x => (Bool.false_ne_true x).elim, fun x => absurd x h⟩
theorem iff_yes {P : Prop} (h : P) : (true = true ↔ P) := ⟨fun _ => h, fun _ => rfl⟩
theorem May.four {F : Fm} (h : May F) : May4 F := by
  cases h with
  | other k st fl pay h0 h1 h2 => refine ⟨?_, ?_, ?_, ?_, ?_, ?_⟩ <;> intro h <;> simp only at h <;> omega
  | sets ack l h1 h2 =>
    refine ⟨fun h => by simp at h, fun h => by simp at h, fun _ => ⟨?_, h2⟩, fun h => by simp at h, fun h => by simp at h, fun h => by simp at h⟩
    rw [List.any_eq_false]
    intro s hs
    obtain ⟨q1, q2, _, _⟩ := h1 s hs
    simp [badS]; omega
  | ping ack pay h1 => exact ⟨fun h => by simp at h, fun h => by simp at h, fun h => by simp at h, fun h => by simp at h, fun _ => h1, fun h => by simp at h⟩
  | _ =>
    try unfold StB at *
    refine ⟨?_, ?_, ?_, ?_, ?_, ?_⟩ <;> intro h <;> simp at h <;> (try simp) <;> omega
theorem n4_1 {F : Fm} (h : ¬ May4 F) (k : F.kind = 1) : F.prio = true ∧ (F.weight < 1 ∨ 256 < F.weight) := by
  cases hp : F.prio with
  | false => exact (h ⟨fun _ h' => by rw [hp] at h'; simp at h', fun h => by omega, fun h => by omega, fun h => by omega, fun h => by omega, fun h => by omega⟩).elim
  | true =>
    refine ⟨rfl, ?_⟩
    by_cases hw : 1 ≤ F.weight ∧ F.weight ≤ 256
    · exact (h ⟨fun _ _ => hw, fun h => by omega, fun h => by omega, fun h => by omega, fun h => by omega, fun h => by omega⟩).elim
    · omega
theorem n4_2 {F : Fm} (h : ¬ May4 F) (k : F.kind = 2) : F.weight < 1 ∨ 256 < F.weight := by
  by_cases hw : 1 ≤ F.weight ∧ F.weight ≤ 256
  · exact (h ⟨fun h => by omega, fun _ => hw, fun h => by omega, fun h => by omega, fun h => by omega, fun h => by omega⟩).elim
  · omega
theorem n4_4 {F : Fm} (h : ¬ May4 F) (k : F.kind = 4) : F.list.any badS = true ∨ (F.list.any badS = false ∧ F.ack = true ∧ 0 < F.list.length) := by
  cases hb : F.list.any badS with
  | true => exact Or.inl rfl
  | false =>
    refine Or.inr ⟨rfl, ?_⟩
    by_cases hw : F.ack = true → F.list = []
    · exact (h ⟨fun h => by omega, fun h => by omega, fun _ => ⟨hb, hw⟩, fun h => by omega, fun h => by omega, fun h => by omega⟩).elim
    · cases ha : F.ack with
      | false => exact (hw (fun h => by rw [ha] at h; simp at h)).elim
      | true =>
        refine ⟨rfl, Nat.pos_of_ne_zero (fun h0 => hw (fun _ => List.eq_nil_of_length_eq_zero h0))⟩
theorem n4_5 {F : Fm} (h : ¬ May4 F) (k : F.kind = 5) : F.last ≤ 0 := by
  by_cases hw : 0 < F.last
  · exact (h ⟨fun h => by omega, fun h => by omega, fun h => by omega, fun _ => hw, fun h => by omega, fun h => by omega⟩).elim
  · omega
theorem n4_6 {F : Fm} (h : ¬ May4 F) (k : F.kind = 6) : F.pay.length ≠ 8 := by
  intro hw
  exact h ⟨fun h => by omega, fun h => by omega, fun h => by omega, fun h => by omega, fun _ => hw, fun h => by omega⟩
theorem n4_8 {F : Fm} (h : ¬ May4 F) (k : F.kind = 8) : F.inc < 1 ∨ 2147483647 < F.inc := by
  by_cases hw : 1 ≤ F.inc ∧ F.inc ≤ 2147483647
  · exact (h ⟨fun h => by omega, fun h => by omega, fun h => by omega, fun h => by omega, fun h => by omega, fun _ => hw⟩).elim
  · omega
/-- What 'may' answers of a frame. -/
abbrev MayPost (F : Fm) (w : World) (e : Ending) (w' : World) : Prop := ∃ b : Bool, e = .returned (.bool b) ∧ (b = true ↔ May F) ∧ Chg [] w w'
set_option maxRecDepth 100000 in
set_option maxHeartbeats 16000000 in
theorem may_any (F : Fm) (hwf : F.Wf) (pa : Option Addr) (pc : Nat) (la : Option Addr) (lc : Nat) (w : World) (hl : SliceOf w (.slice la F.list.length lc) 2 encS F.list) (hll : F.list.length ≤ 100000000) :
    Calls Try.prog 31 #[.agg (fcs (F.mem (.slice pa F.pay.length pc) (.slice la F.list.length lc)))] w (MayPost F w) := by
  by_cases hm : May F
  · refine (may_ok hm pa pc la lc w hl hll).mono ?_
    rintro e w' ⟨rfl, hc⟩
    exact ⟨true, rfl, iff_yes hm, hc⟩
  have HWF := Lib.hid hwf; have HL := Lib.hid hl; have HLL := Lib.hid hll; have HM := Lib.hid (iff_no hm); have HNM := Lib.hid hm
  clear hwf hl hll hm
  obtain ⟨w2, hw2⟩ : ∃ w2, w2 = w.alloc (.cells (fcs (F.mem (.slice pa F.pay.length pc) (.slice la F.list.length lc))) 27) := ⟨_, rfl⟩
  have hc : Chg [] w w2 := by rw [hw2]; exact (Chg.refl w).alloc _
  have a1 : At w2 w.heap.size (.cells (fcs (F.mem (.slice pa F.pay.length pc) (.slice la F.list.length lc))) 27 (0, 0)) := by rw [hw2]; exact At.new w _
  obtain ⟨A, hA⟩ : ∃ A, A = w.heap.size := ⟨_, rfl⟩
  rw [← hA] at a1
  have A1 := Lib.hid a1; have HC := Lib.hid hc; have HW := Lib.hid hw2; have HA := Lib.hid hA
  have x0 : World.cell? w2 ⟨A, 0, none⟩ = some (.int .i64 F.kind) := a1.cell rfl
  have x1 : World.cell? w2 ⟨A, 1, none⟩ = some (.int .i64 F.stream) := a1.cell rfl
  have x2 : World.cell? w2 ⟨A, 2, none⟩ = some (.bool F.fin) := a1.cell rfl
  have x3 : World.cell? w2 ⟨A, 3, none⟩ = some (.bool F.eh) := a1.cell rfl
  have x4 : World.cell? w2 ⟨A, 4, none⟩ = some (.bool F.ack) := a1.cell rfl
  have x5 : World.cell? w2 ⟨A, 5, none⟩ = some (.bool F.prio) := a1.cell rfl
  have x6 : World.cell? w2 ⟨A, 6, none⟩ = some (.slice pa F.pay.length pc) := a1.cell rfl
  have x7 : World.cell? w2 ⟨A, 7, none⟩ = some (.int .i64 F.flags) := a1.cell rfl
  have x8 : World.cell? w2 ⟨A, 8, none⟩ = some (.int .i64 F.pad) := a1.cell rfl
  have x9 : World.cell? w2 ⟨A, 9, none⟩ = some (.int .i64 F.depend) := a1.cell rfl
  have x10 : World.cell? w2 ⟨A, 10, none⟩ = some (.bool F.excl) := a1.cell rfl
  have x11 : World.cell? w2 ⟨A, 11, none⟩ = some (.int .i64 F.weight) := a1.cell rfl
  have x12 : World.cell? w2 ⟨A, 12, none⟩ = some (.int .u32 F.code) := a1.cell rfl
  have x13 : World.cell? w2 ⟨A, 13, none⟩ = some (.slice la F.list.length lc) := a1.cell rfl
  have x14 : World.cell? w2 ⟨A, 14, none⟩ = some (.int .i64 F.last) := a1.cell rfl
  have x15 : World.cell? w2 ⟨A, 15, none⟩ = some (.int .i64 F.inc) := a1.cell rfl
  have hAl := a1.lt
  clear a1 hc hw2 hA
  go_enter Try.func31, Try.ntmps31
  go_upto_region 1 with fail
  rw [← HW.out, ← HA.out]
  rcases ltC F.kind 0 with ⟨k1, _⟩ | ⟨k1, k1'⟩
  · go_wp2_with fail
    go_ret
    exact ⟨false, rfl, HM.out, HC.out⟩
  rcases ltC 255 F.kind with ⟨k2, _⟩ | ⟨k2, k2'⟩
  · go_wp2_with fail
    go_ret
    exact ⟨false, rfl, HM.out, HC.out⟩
  rcases ltC F.stream 0 with ⟨k3, _⟩ | ⟨k3, k3'⟩
  · go_wp2_with fail
    go_ret
    exact ⟨false, rfl, HM.out, HC.out⟩
  rcases ltC 2147483647 F.stream with ⟨k4, _⟩ | ⟨k4, k4'⟩
  · go_wp2_with fail
    go_ret
    exact ⟨false, rfl, HM.out, HC.out⟩
  have HM1 : Hid (May1 F) := Lib.hid ⟨⟨k1', k2'⟩, k3', k4'⟩
  go_wp2_with fail
  refine (stray_any F.kind F.stream w2).mono ?_; rintro e w3 ⟨rfl, rfl⟩
  cases hst : strayB F.kind F.stream with
  | true =>
    clear hst
    go_wp2_with fail
    go_ret
    exact ⟨false, rfl, HM.out, HC.out⟩
  | false =>
  have HST := Lib.hid hst
  clear hst
  obtain ⟨ba, bc, hbp⟩ := bareP_len F pa pc
  obtain ⟨ca, cc, hcl⟩ := bareL_len F la lc
  have BR := bare_any F pa F.pay.length pc la F.list.length lc
  rw [hbp, hcl] at BR
  obtain ⟨G, hG⟩ : ∃ G, G = bareF F := ⟨_, rfl⟩
  rw [← hG] at BR
  have HBR := Lib.hid BR
  have HG := Lib.hid hG
  clear BR hbp hcl hG
  go_wp2_with fail
  refine (HBR.out w3).mono ?_; rintro e w4 ⟨rfl, c4⟩
  have C4 := Lib.hid (HC.out.trans' c4)
  have b1 : At (w4.alloc (.cells noF 27)) w4.heap.size (.cells noF 27) := At.new w4 _
  have a4 := (A1.out.chg c4 (by simp)).alloc (.cells noF 27)
  have hAw : A < w4.heap.size := (A1.out.chg c4 (by simp)).lt
  clear x0 x1 x2 x3 x4 x5 x6 x7 x8 x9 x10 x11 x12 x13 x14 x15 hAl c4 A1 HC HW HBR
  have A4 := Lib.hid a4
  clear a4
  go_wp2_with (refine store_whole rfl 27 _ _ rfl w4.heap.size _ _ 27 rfl rfl b1 infoFr rfl (by simp [Value.oneCell', Fm.mem]) ?_)
  intro w31 s31 c31
  have A5 := Lib.hid (A4.out.chg c31 (by simp; omega))
  have C5 := Lib.hid ((C4.out.alloc _).trans c31 (fun y hy => Or.inr (by simp at hy; subst hy; exact C4.out.size)))
  generalize w4.heap.size = X at *
  have z0 : World.cell? w31 ⟨X, 0, none⟩ = some (.int .i64 G.kind) := s31.cell rfl
  have z2 : World.cell? w31 ⟨X, 2, none⟩ = some (.bool G.fin) := s31.cell rfl
  have z3 : World.cell? w31 ⟨X, 3, none⟩ = some (.bool G.eh) := s31.cell rfl
  have z4 : World.cell? w31 ⟨X, 4, none⟩ = some (.bool G.ack) := s31.cell rfl
  have z5 : World.cell? w31 ⟨X, 5, none⟩ = some (.bool G.prio) := s31.cell rfl
  have z6 : World.cell? w31 ⟨X, 6, none⟩ = some (.slice ba G.pay.length bc) := s31.cell rfl
  have z7 : World.cell? w31 ⟨X, 7, none⟩ = some (.int .i64 G.flags) := s31.cell rfl
  have z8 : World.cell? w31 ⟨X, 8, none⟩ = some (.int .i64 G.pad) := s31.cell rfl
  have z9 : World.cell? w31 ⟨X, 9, none⟩ = some (.int .i64 G.depend) := s31.cell rfl
  have z10 : World.cell? w31 ⟨X, 10, none⟩ = some (.bool G.excl) := s31.cell rfl
  have z11 : World.cell? w31 ⟨X, 11, none⟩ = some (.int .i64 G.weight) := s31.cell rfl
  have z12 : World.cell? w31 ⟨X, 12, none⟩ = some (.int .u32 G.code) := s31.cell rfl
  have z13 : World.cell? w31 ⟨X, 13, none⟩ = some (.slice ca G.list.length cc) := s31.cell rfl
  have z14 : World.cell? w31 ⟨X, 14, none⟩ = some (.int .i64 G.last) := s31.cell rfl
  have z15 : World.cell? w31 ⟨X, 15, none⟩ = some (.int .i64 G.inc) := s31.cell rfl
  have hXl := s31.lt
  clear b1 s31 c31 A4 C4
  obtain ⟨g2, hg2⟩ : ∃ b, b = G.fin := ⟨_, rfl⟩
  rw [← hg2] at z2
  have HG2 := Lib.hid hg2
  clear hg2
  cases g2 with
  | true =>
    go_wp2_with fail
    go_ret
    exact ⟨false, rfl, HM.out, C5.out⟩
  | false =>
  obtain ⟨g3, hg3⟩ : ∃ b, b = G.eh := ⟨_, rfl⟩
  rw [← hg3] at z3
  have HG3 := Lib.hid hg3
  clear hg3
  cases g3 with
  | true =>
    go_wp2_with fail
    go_ret
    exact ⟨false, rfl, HM.out, C5.out⟩
  | false =>
  obtain ⟨g4, hg4⟩ : ∃ b, b = G.ack := ⟨_, rfl⟩
  rw [← hg4] at z4
  have HG4 := Lib.hid hg4
  clear hg4
  cases g4 with
  | true =>
    go_wp2_with fail
    go_ret
    exact ⟨false, rfl, HM.out, C5.out⟩
  | false =>
  obtain ⟨g5, hg5⟩ : ∃ b, b = G.prio := ⟨_, rfl⟩
  rw [← hg5] at z5
  have HG5 := Lib.hid hg5
  clear hg5
  cases g5 with
  | true =>
    go_wp2_with fail
    go_ret
    exact ⟨false, rfl, HM.out, C5.out⟩
  | false =>
  obtain ⟨g10, hg10⟩ : ∃ b, b = G.excl := ⟨_, rfl⟩
  rw [← hg10] at z10
  have HG10 := Lib.hid hg10
  clear hg10
  cases g10 with
  | true =>
    go_wp2_with fail
    go_ret
    exact ⟨false, rfl, HM.out, C5.out⟩
  | false =>
  obtain ⟨g6, hg6⟩ : ∃ b, b = G.pay.length := ⟨_, rfl⟩
  rw [← hg6] at z6
  have HG6 := Lib.hid hg6
  clear hg6
  rcases Nat.eq_zero_or_pos g6 with h | h
  case inr =>
    have hI : ((g6 : Int) > 0) = True := by simp; omega
    go_wp2_with fail
    go_ret
    exact ⟨false, rfl, HM.out, C5.out⟩
  subst h
  obtain ⟨g13, hg13⟩ : ∃ b, b = G.list.length := ⟨_, rfl⟩
  rw [← hg13] at z13
  have HG13 := Lib.hid hg13
  clear hg13
  rcases Nat.eq_zero_or_pos g13 with h | h
  case inr =>
    have hI : ((g13 : Int) > 0) = True := by simp; omega
    go_wp2_with fail
    go_ret
    exact ⟨false, rfl, HM.out, C5.out⟩
  subst h
  obtain ⟨g7, hg7⟩ : ∃ b, b = G.flags := ⟨_, rfl⟩
  rw [← hg7] at z7
  have HG7 := Lib.hid hg7
  clear hg7
  rcases neC g7 0 with h | ⟨h, hb1, hb2⟩
  case inr =>
    clear h
    go_wp2_with fail
    go_ret
    exact ⟨false, rfl, HM.out, C5.out⟩
  subst h
  obtain ⟨g8, hg8⟩ : ∃ b, b = G.pad := ⟨_, rfl⟩
  rw [← hg8] at z8
  have HG8 := Lib.hid hg8
  clear hg8
  rcases neC g8 0 with h | ⟨h, hb1, hb2⟩
  case inr =>
    clear h
    go_wp2_with fail
    go_ret
    exact ⟨false, rfl, HM.out, C5.out⟩
  subst h
  obtain ⟨g9, hg9⟩ : ∃ b, b = G.depend := ⟨_, rfl⟩
  rw [← hg9] at z9
  have HG9 := Lib.hid hg9
  clear hg9
  rcases neC g9 0 with h | ⟨h, hb1, hb2⟩
  case inr =>
    clear h
    go_wp2_with fail
    go_ret
    exact ⟨false, rfl, HM.out, C5.out⟩
  subst h
  obtain ⟨g11, hg11⟩ : ∃ b, b = G.weight := ⟨_, rfl⟩
  rw [← hg11] at z11
  have HG11 := Lib.hid hg11
  clear hg11
  rcases neC g11 0 with h | ⟨h, hb1, hb2⟩
  case inr =>
    clear h
    go_wp2_with fail
    go_ret
    exact ⟨false, rfl, HM.out, C5.out⟩
  subst h
  obtain ⟨g12, hg12⟩ : ∃ b, b = G.code := ⟨_, rfl⟩
  rw [← hg12] at z12
  have HG12 := Lib.hid hg12
  clear hg12
  rcases neC g12 0 with h | ⟨h, hb1, hb2⟩
  case inr =>
    clear h
    go_wp2_with fail
    go_ret
    exact ⟨false, rfl, HM.out, C5.out⟩
  subst h
  obtain ⟨g14, hg14⟩ : ∃ b, b = G.last := ⟨_, rfl⟩
  rw [← hg14] at z14
  have HG14 := Lib.hid hg14
  clear hg14
  rcases neC g14 0 with h | ⟨h, hb1, hb2⟩
  case inr =>
    clear h
    go_wp2_with fail
    go_ret
    exact ⟨false, rfl, HM.out, C5.out⟩
  subst h
  obtain ⟨g15, hg15⟩ : ∃ b, b = G.inc := ⟨_, rfl⟩
  rw [← hg15] at z15
  have HG15 := Lib.hid hg15
  clear hg15
  rcases neC g15 0 with h | ⟨h, hb1, hb2⟩
  case inr =>
    clear h
    go_wp2_with fail
    go_ret
    exact ⟨false, rfl, HM.out, C5.out⟩
  subst h
  have hz : Hid (bareF F = zeroF F) := Lib.hid (by
    rw [← HG.out]
    obtain ⟨kind, st, fin, eh, ack, pr, pay, fl, pad, dep, x, wt, code, list, last, inc⟩ := G
    have e1 := HG2.out; have e2 := HG3.out; have e3 := HG4.out; have e4 := HG5.out; have e5 := HG10.out; have e6 := HG6.out; have e7 := HG13.out; have e8 := HG7.out; have e9 := HG8.out
    have e10 := HG9.out; have e11 := HG11.out; have e12 := HG12.out; have e13 := HG14.out; have e14 := HG15.out
    have e15 := (bare_ks F).1; have e16 := (bare_ks F).2
    rw [← HG.out] at e15 e16
    simp only at e1 e2 e3 e4 e5 e6 e7 e8 e9 e10 e11 e12 e13 e14 e15 e16
    have e6' := List.eq_nil_of_length_eq_zero e6.symm
    have e7' := List.eq_nil_of_length_eq_zero e7.symm
    subst e1 e2 e3 e4 e5 e6' e7' e8 e9 e10 e11 e12 e13 e14 e15 e16
    rfl)
  have C6 := C5
  have x0 : World.cell? w31 ⟨A, 0, none⟩ = some (.int .i64 F.kind) := A5.out.cell rfl
  have x1 : World.cell? w31 ⟨A, 1, none⟩ = some (.int .i64 F.stream) := A5.out.cell rfl
  have x2 : World.cell? w31 ⟨A, 2, none⟩ = some (.bool F.fin) := A5.out.cell rfl
  have x3 : World.cell? w31 ⟨A, 3, none⟩ = some (.bool F.eh) := A5.out.cell rfl
  have x4 : World.cell? w31 ⟨A, 4, none⟩ = some (.bool F.ack) := A5.out.cell rfl
  have x5 : World.cell? w31 ⟨A, 5, none⟩ = some (.bool F.prio) := A5.out.cell rfl
  have x6 : World.cell? w31 ⟨A, 6, none⟩ = some (.slice pa F.pay.length pc) := A5.out.cell rfl
  have x7 : World.cell? w31 ⟨A, 7, none⟩ = some (.int .i64 F.flags) := A5.out.cell rfl
  have x8 : World.cell? w31 ⟨A, 8, none⟩ = some (.int .i64 F.pad) := A5.out.cell rfl
  have x9 : World.cell? w31 ⟨A, 9, none⟩ = some (.int .i64 F.depend) := A5.out.cell rfl
  have x10 : World.cell? w31 ⟨A, 10, none⟩ = some (.bool F.excl) := A5.out.cell rfl
  have x11 : World.cell? w31 ⟨A, 11, none⟩ = some (.int .i64 F.weight) := A5.out.cell rfl
  have x12 : World.cell? w31 ⟨A, 12, none⟩ = some (.int .u32 F.code) := A5.out.cell rfl
  have x13 : World.cell? w31 ⟨A, 13, none⟩ = some (.slice la F.list.length lc) := A5.out.cell rfl
  have x14 : World.cell? w31 ⟨A, 14, none⟩ = some (.int .i64 F.last) := A5.out.cell rfl
  have x15 : World.cell? w31 ⟨A, 15, none⟩ = some (.int .i64 F.inc) := A5.out.cell rfl
  have hAl := A5.out.lt
  go_upto_region 6 with fail
  clear z0 z2 z3 z4 z5 z6 z7 z8 z9 z10 z11 z12 z13 z14 z15 HG HG2 HG3 HG4 HG5 HG6 HG7 HG8 HG9 HG10 HG11 HG12 HG13 HG14 HG15 hXl hAw
  rcases ltC F.pad 0 with ⟨q1, _⟩ | ⟨q1, q1'⟩
  · skip
    go_wp2_with fail
    go_ret
    exact ⟨false, rfl, HM.out, C5.out⟩
  rcases ltC 256 F.pad with ⟨q2, _⟩ | ⟨q2, q2'⟩
  · skip
    go_wp2_with fail
    go_ret
    exact ⟨false, rfl, HM.out, C5.out⟩
  rcases ltC F.depend 0 with ⟨q3, _⟩ | ⟨q3, q3'⟩
  · skip
    go_wp2_with fail
    go_ret
    exact ⟨false, rfl, HM.out, C5.out⟩
  rcases ltC 2147483647 F.depend with ⟨q4, _⟩ | ⟨q4, q4'⟩
  · skip
    go_wp2_with fail
    go_ret
    exact ⟨false, rfl, HM.out, C5.out⟩
  rcases ltC F.flags 0 with ⟨q5, _⟩ | ⟨q5, q5'⟩
  · skip
    go_wp2_with fail
    go_ret
    exact ⟨false, rfl, HM.out, C5.out⟩
  rcases ltC 255 F.flags with ⟨q6, _⟩ | ⟨q6, q6'⟩
  · skip
    go_wp2_with fail
    go_ret
    exact ⟨false, rfl, HM.out, C5.out⟩
  rcases ltC F.last 0 with ⟨q7, _⟩ | ⟨q7, q7'⟩
  · skip
    go_wp2_with fail
    go_ret
    exact ⟨false, rfl, HM.out, C5.out⟩
  rcases ltC 2147483647 F.last with ⟨q8, _⟩ | ⟨q8, q8'⟩
  · skip
    go_wp2_with fail
    go_ret
    exact ⟨false, rfl, HM.out, C5.out⟩
  have N4 : Hid (¬ May4 F) := Lib.hid (fun h4 => HNM.out (may_of HWF.out HM1.out HST.out hz.out ⟨⟨q1', q2'⟩, ⟨q3', q4'⟩, ⟨q5', q6'⟩, q7', q8'⟩ h4))
  go_upto_region 8 with fail
  clear HM1 HST hz HNM
  by_cases k1 : F.kind = 1
  · obtain ⟨hp, hw⟩ := n4_1 N4.out k1
    rw [k1] at x0
    rw [hp] at x5
    clear k1 hp x1 x2 x3 x4 x6 x7 x8 x9 x10 x12 x13 x14 x15 q1 q1' q2 q2' q3 q3' q4 q4' q5 q5' q6 q6' q7 q7' q8 q8'
    rcases hw with hw | hw
    · have hw1 : ((1 : Int) ≤ F.weight) = False := by simp; omega
      go_wp2_with fail
      go_ret
      exact ⟨false, rfl, HM.out, C5.out⟩
    · have hw1 : ((1 : Int) ≤ F.weight) = True := by simp; omega
      have hw2 : (F.weight ≤ 256) = False := by simp; omega
      go_wp2_with fail
      go_ret
      exact ⟨false, rfl, HM.out, C5.out⟩
  by_cases k2 : F.kind = 2
  · have hw := n4_2 N4.out k2
    rw [k2] at x0
    clear k1 k2 x1 x2 x3 x4 x6 x7 x8 x9 x10 x12 x13 x14 x15 q1 q1' q2 q2' q3 q3' q4 q4' q5 q5' q6 q6' q7 q7' q8 q8'
    obtain ⟨pr, hpr⟩ : ∃ b, b = F.prio := ⟨_, rfl⟩
    rw [← hpr] at x5
    clear hpr
    rcases hw with hw | hw
    · have hw1 : ((1 : Int) ≤ F.weight) = False := by simp; omega
      cases pr with
      | false =>
        go_wp2_with fail
        go_ret
        exact ⟨false, rfl, HM.out, C5.out⟩
      | true =>
        go_wp2_with fail
        go_ret
        exact ⟨false, rfl, HM.out, C5.out⟩
    · have hw1 : ((1 : Int) ≤ F.weight) = True := by simp; omega
      have hw2 : (F.weight ≤ 256) = False := by simp; omega
      cases pr with
      | false =>
        go_wp2_with fail
        go_ret
        exact ⟨false, rfl, HM.out, C5.out⟩
      | true =>
        go_wp2_with fail
        go_ret
        exact ⟨false, rfl, HM.out, C5.out⟩
  have e1 : (F.kind == 1) = false := by simp [k1]
  have e2 : (F.kind == 2) = false := by simp [k2]
  by_cases k4 : F.kind = 4
  · have hw := Lib.hid (n4_4 N4.out k4)
    rw [k4] at x0
    clear e1 e2 k1 k2 k4 x1 x2 x3 x5 x6 x7 x8 x9 x10 x11 x12 x14 x15 q1 q1' q2 q2' q3 q3' q4 q4' q5 q5' q6 q6' q7 q7' q8 q8'
    go_wp2_with fail
    refine (contains_any _ F.list (HL.out.chg0 C5.out) HLL.out).mono ?_; rintro e w6 ⟨rfl, c6⟩
    have y4 : World.cell? w6 ⟨A, 4, none⟩ = some (.bool F.ack) := (c6.cell hAl (by simp) _).trans x4
    have y13 : World.cell? w6 ⟨A, 13, none⟩ = some (.slice la F.list.length lc) := (c6.cell hAl (by simp) _).trans x13
    have C7 := Lib.hid (C5.out.trans' c6)
    clear c6 x0 x4 x13
    rcases hw.out with hw | ⟨hw, ha, h0⟩
    · rw [hw]
      go_wp2_with fail
      go_ret
      exact ⟨false, rfl, HM.out, C7.out⟩
    · rw [hw]
      rw [ha] at y4
      have h1 : ((F.list.length : Int) == 0) = false := by simp; intro h; rw [h] at h0; simp at h0
      have h2 : F.list ≠ [] := by intro h; rw [h] at h0; simp at h0
      have h3 : (F.list.length = 0) = False := by simp [h2]
      have h4 : ((F.list.length : Int) = 0) = False := by simp [h2]
      go_wp2_with fail
      go_ret
      exact ⟨false, by simp [h2], HM.out, C7.out⟩
  have e4 : (F.kind == 4) = false := by simp [k4]
  by_cases k5 : F.kind = 5
  · have hw := n4_5 N4.out k5
    rw [k5] at x0
    clear e1 e2 e4 k1 k2 k4 k5 x1 x2 x3 x4 x5 x6 x7 x8 x9 x10 x11 x12 x13 x15 q1 q1' q2 q2' q3 q3' q4 q4' q5 q5' q6 q6' q7 q7' q8 q8'
    have hw1 : decide ((0 : Int) < F.last) = false := decide_eq_false (by omega)
    go_wp2_with fail
    go_ret
    exact ⟨false, by first | rfl | simp [hw1], HM.out, C5.out⟩
  have e5 : (F.kind == 5) = false := by simp [k5]
  by_cases k6 : F.kind = 6
  · have hw := n4_6 N4.out k6
    rw [k6] at x0
    clear e1 e2 e4 e5 k1 k2 k4 k5 k6 x1 x2 x3 x4 x5 x7 x8 x9 x10 x11 x12 x13 x14 x15 q1 q1' q2 q2' q3 q3' q4 q4' q5 q5' q6 q6' q7 q7' q8 q8'
    have hw1 : ((F.pay.length : Int) == 8) = false := by simp; omega
    go_wp2_with fail
    go_ret
    exact ⟨false, by first | rfl | simp [hw1], HM.out, C5.out⟩
  have e6 : (F.kind == 6) = false := by simp [k6]
  by_cases k8 : F.kind = 8
  · have hw := n4_8 N4.out k8
    rw [k8] at x0
    clear e1 e2 e4 e5 e6 k1 k2 k4 k5 k6 k8 x1 x2 x3 x4 x5 x6 x7 x8 x9 x10 x11 x12 x13 x14 q1 q1' q2 q2' q3 q3' q4 q4' q5 q5' q6 q6' q7 q7' q8 q8'
    rcases hw with hw | hw
    · have hw1 : ((1 : Int) ≤ F.inc) = False := by simp; omega
      go_wp2_with fail
      go_ret
      exact ⟨false, rfl, HM.out, C5.out⟩
    · have hw1 : ((1 : Int) ≤ F.inc) = True := by simp; omega
      have hw2 : (F.inc ≤ 2147483647) = False := by simp; omega
      go_wp2_with fail
      go_ret
      exact ⟨false, rfl, HM.out, C5.out⟩
  exact (N4.out ⟨fun h => absurd h k1, fun h => absurd h k2, fun h => absurd h k4, fun h => absurd h k5, fun h => absurd h k6, fun h => absurd h k8⟩).elim
end Go.Proofs.Ythhgnipiaohplaa.Fr
