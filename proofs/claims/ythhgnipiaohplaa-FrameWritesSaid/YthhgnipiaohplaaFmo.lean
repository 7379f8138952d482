/-
  A frame that may be, may be.
-/
import Derived.Test.YthhgnipiaohplaaFma
import Derived.Test.YthhgnipiaohplaaFmr
namespace Go.Proofs.Ythhgnipiaohplaa.Fr
open Go.ChangeShapes Go.WideShapes Go.ChangeAt Go.RowKit
open Go.Proofs.Ythhgnipiaohplaa.B
set_option linter.unusedVariables false
set_option linter.unusedSimpArgs false

theorem May.rng {F : Fm} (h : May F) : (0 ≤ F.pad ∧ F.pad ≤ 256) ∧ (0 ≤ F.depend ∧ F.depend ≤ 2147483647) ∧ (0 ≤ F.flags ∧ F.flags ≤ 255) ∧ (0 ≤ F.last ∧ F.last ≤ 2147483647) := by
  cases h <;> (refine ⟨⟨?_, ?_⟩, ⟨?_, ?_⟩, ⟨?_, ?_⟩, ⟨?_, ?_⟩⟩ <;> dsimp only <;> (try unfold StB at *) <;> omega)
theorem May.bare {F : Fm} (h : May F) : bareF F = ⟨F.kind, F.stream, false, false, false, false, [], 0, 0, 0, false, 0, 0, [], 0, 0⟩ := by
  cases h with
  | other k st fl pay h0 h1 h2 =>
    unfold bareF
    rw [if_neg (by dsimp only; omega), if_neg (by dsimp only; omega), if_neg (by dsimp only; omega), if_neg (by dsimp only; omega), if_neg (by dsimp only; omega), if_neg (by dsimp only; omega), if_neg (by dsimp only; omega), if_neg (by dsimp only; omega), if_neg (by dsimp only; omega), if_neg (by dsimp only; omega)]
  | _ => simp [bareF]
theorem May.bareP {F : Fm} (h : May F) (pa : Option Addr) (pc : Nat) : ∃ a c, Fr.bareP F (.slice pa F.pay.length pc) = .slice a 0 c := by
  cases h with
  | other k st fl pay h0 h1 h2 =>
    refine ⟨none, 0, ?_⟩
    unfold Fr.bareP keepsP
    rw [if_neg]
    simp; omega
  | prio => exact ⟨pa, pc, rfl⟩
  | reset => exact ⟨pa, pc, rfl⟩
  | sets => exact ⟨pa, pc, rfl⟩
  | wind => exact ⟨pa, pc, rfl⟩
  | _ => exact ⟨none, 0, rfl⟩
theorem May.bareL {F : Fm} (h : May F) (la : Option Addr) (lc : Nat) : ∃ a c, Fr.bareL F (.slice la F.list.length lc) = .slice a 0 c := by
  cases h with
  | sets => exact ⟨none, 0, rfl⟩
  | other k st fl pay h0 h1 h2 =>
    refine ⟨la, lc, ?_⟩
    unfold Fr.bareL
    rw [if_neg (by dsimp only; omega)]
    rfl
  | _ => exact ⟨la, lc, rfl⟩
set_option maxRecDepth 100000 in
set_option maxHeartbeats 16000000 in
theorem may_ok {F : Fm} (h : May F) (pa : Option Addr) (pc : Nat) (la : Option Addr) (lc : Nat) (w : World) (hl : SliceOf w (.slice la F.list.length lc) 2 encS F.list) (hll : F.list.length ≤ 100000000) :
    Calls Try.prog 31 #[.agg (fcs (F.mem (.slice pa F.pay.length pc) (.slice la F.list.length lc)))] w fun e w' => e = .returned (.bool true) ∧ Chg [] w w' := by
  obtain ⟨k1, k2, s1, s2, hst⟩ := h.head
  obtain ⟨⟨p1, p2⟩, ⟨d1, d2⟩, ⟨f1, f2⟩, l1, l2⟩ := h.rng
  obtain ⟨ba, bc, hbp⟩ := h.bareP pa pc
  obtain ⟨ca, cc, hcl⟩ := h.bareL la lc
  have BR := bare_any F pa F.pay.length pc la F.list.length lc
  rw [h.bare, hbp, hcl] at BR
  have HBR := Lib.hid BR; have HM := Lib.hid h; have HL := Lib.hid hl; have HST := Lib.hid hst; have HLL := Lib.hid hll
  clear BR h hl hst hll hbp hcl
  obtain ⟨w2, hw2⟩ : ∃ w2, w2 = w.alloc (.cells (fcs (F.mem (.slice pa F.pay.length pc) (.slice la F.list.length lc))) 27) := ⟨_, rfl⟩
  have hc : Chg [] w w2 := by rw [hw2]; exact (Chg.refl w).alloc _
  have a1 : At w2 w.heap.size (.cells (fcs (F.mem (.slice pa F.pay.length pc) (.slice la F.list.length lc))) 27 (0, 0)) := by rw [hw2]; exact At.new w _
  obtain ⟨A, hA⟩ : ∃ A, A = w.heap.size := ⟨_, rfl⟩
  rw [← hA] at a1
  have A1 := Lib.hid a1; have HC := Lib.hid hc; have HW := Lib.hid hw2; have HA := Lib.hid hA
  have x0 : World.cell? w2 ⟨A, 0, none⟩ = some (.int .i64 F.kind) := a1.cell rfl
  have x1 : World.cell? w2 ⟨A, 1, none⟩ = some (.int .i64 F.stream) := a1.cell rfl
  have x2 : World.cell? w2 ⟨A, 2, none⟩ = some (.bool F.fin) := a1.cell rfl
  have x3 : World.cell? w2 ⟨A, 3, none⟩ = some (.bool F.eh) := a1.cell rfl
  have x4 : World.cell? w2 ⟨A, 4, none⟩ = some (.bool F.ack) := a1.cell rfl
  have x5 : World.cell? w2 ⟨A, 5, none⟩ = some (.bool F.prio) := a1.cell rfl
  have x6 : World.cell? w2 ⟨A, 6, none⟩ = some (.slice pa F.pay.length pc) := a1.cell rfl
  have x7 : World.cell? w2 ⟨A, 7, none⟩ = some (.int .i64 F.flags) := a1.cell rfl
  have x8 : World.cell? w2 ⟨A, 8, none⟩ = some (.int .i64 F.pad) := a1.cell rfl
  have x9 : World.cell? w2 ⟨A, 9, none⟩ = some (.int .i64 F.depend) := a1.cell rfl
  have x10 : World.cell? w2 ⟨A, 10, none⟩ = some (.bool F.excl) := a1.cell rfl
  have x11 : World.cell? w2 ⟨A, 11, none⟩ = some (.int .i64 F.weight) := a1.cell rfl
  have x12 : World.cell? w2 ⟨A, 12, none⟩ = some (.int .u32 F.code) := a1.cell rfl
  have x13 : World.cell? w2 ⟨A, 13, none⟩ = some (.slice la F.list.length lc) := a1.cell rfl
  have x14 : World.cell? w2 ⟨A, 14, none⟩ = some (.int .i64 F.last) := a1.cell rfl
  have x15 : World.cell? w2 ⟨A, 15, none⟩ = some (.int .i64 F.inc) := a1.cell rfl
  have hAl := a1.lt
  clear a1 hc hw2 hA
  go_enter Try.func31, Try.ntmps31
  go_upto_region 1 with fail
  rw [← HW.out, ← HA.out]
  go_wp2_with fail
  refine (stray_any F.kind F.stream w2).mono ?_; rintro e w3 ⟨rfl, rfl⟩
  rw [HST.out]
  go_wp2_with fail
  refine (HBR.out w3).mono ?_; rintro e w4 ⟨rfl, c4⟩
  have C4 := Lib.hid (HC.out.trans' c4)
  have b1 : At (w4.alloc (.cells noF 27)) w4.heap.size (.cells noF 27) := At.new w4 _
  have a4 := (A1.out.chg c4 (by simp)).alloc (.cells noF 27)
  have hAw : A < w4.heap.size := (A1.out.chg c4 (by simp)).lt
  clear x0 x1 x2 x3 x4 x5 x6 x7 x8 x9 x10 x11 x12 x13 x14 x15 hAl c4 A1 HC HW HBR
  have A4 := Lib.hid a4
  clear a4
  go_wp2_with (refine store_whole rfl 27 _ _ rfl w4.heap.size _ _ 27 rfl rfl b1 infoFr rfl (by simp [Value.oneCell', Fm.mem]) ?_)
  intro w31 s31 c31
  have A5 := Lib.hid (A4.out.chg c31 (by simp; omega))
  have C5 := Lib.hid ((C4.out.alloc _).trans c31 (fun y hy => Or.inr (by simp at hy; subst hy; exact C4.out.size)))
  generalize w4.heap.size = X at *
  have z0 : World.cell? w31 ⟨X, 0, none⟩ = some (.int .i64 F.kind) := s31.cell rfl
  have z1 : World.cell? w31 ⟨X, 1, none⟩ = some (.int .i64 F.stream) := s31.cell rfl
  have z2 : World.cell? w31 ⟨X, 2, none⟩ = some (.bool false) := s31.cell rfl
  have z3 : World.cell? w31 ⟨X, 3, none⟩ = some (.bool false) := s31.cell rfl
  have z4 : World.cell? w31 ⟨X, 4, none⟩ = some (.bool false) := s31.cell rfl
  have z5 : World.cell? w31 ⟨X, 5, none⟩ = some (.bool false) := s31.cell rfl
  have z6 : World.cell? w31 ⟨X, 6, none⟩ = some (.slice ba 0 bc) := s31.cell rfl
  have z7 : World.cell? w31 ⟨X, 7, none⟩ = some (.int .i64 0) := s31.cell rfl
  have z8 : World.cell? w31 ⟨X, 8, none⟩ = some (.int .i64 0) := s31.cell rfl
  have z9 : World.cell? w31 ⟨X, 9, none⟩ = some (.int .i64 0) := s31.cell rfl
  have z10 : World.cell? w31 ⟨X, 10, none⟩ = some (.bool false) := s31.cell rfl
  have z11 : World.cell? w31 ⟨X, 11, none⟩ = some (.int .i64 0) := s31.cell rfl
  have z12 : World.cell? w31 ⟨X, 12, none⟩ = some (.int .u32 0) := s31.cell rfl
  have z13 : World.cell? w31 ⟨X, 13, none⟩ = some (.slice ca 0 cc) := s31.cell rfl
  have z14 : World.cell? w31 ⟨X, 14, none⟩ = some (.int .i64 0) := s31.cell rfl
  have z15 : World.cell? w31 ⟨X, 15, none⟩ = some (.int .i64 0) := s31.cell rfl
  have hXl := s31.lt
  clear b1 s31 c31 A4 C4
  have x0 : World.cell? w31 ⟨A, 0, none⟩ = some (.int .i64 F.kind) := A5.out.cell rfl
  have x1 : World.cell? w31 ⟨A, 1, none⟩ = some (.int .i64 F.stream) := A5.out.cell rfl
  have x2 : World.cell? w31 ⟨A, 2, none⟩ = some (.bool F.fin) := A5.out.cell rfl
  have x3 : World.cell? w31 ⟨A, 3, none⟩ = some (.bool F.eh) := A5.out.cell rfl
  have x4 : World.cell? w31 ⟨A, 4, none⟩ = some (.bool F.ack) := A5.out.cell rfl
  have x5 : World.cell? w31 ⟨A, 5, none⟩ = some (.bool F.prio) := A5.out.cell rfl
  have x6 : World.cell? w31 ⟨A, 6, none⟩ = some (.slice pa F.pay.length pc) := A5.out.cell rfl
  have x7 : World.cell? w31 ⟨A, 7, none⟩ = some (.int .i64 F.flags) := A5.out.cell rfl
  have x8 : World.cell? w31 ⟨A, 8, none⟩ = some (.int .i64 F.pad) := A5.out.cell rfl
  have x9 : World.cell? w31 ⟨A, 9, none⟩ = some (.int .i64 F.depend) := A5.out.cell rfl
  have x10 : World.cell? w31 ⟨A, 10, none⟩ = some (.bool F.excl) := A5.out.cell rfl
  have x11 : World.cell? w31 ⟨A, 11, none⟩ = some (.int .i64 F.weight) := A5.out.cell rfl
  have x12 : World.cell? w31 ⟨A, 12, none⟩ = some (.int .u32 F.code) := A5.out.cell rfl
  have x13 : World.cell? w31 ⟨A, 13, none⟩ = some (.slice la F.list.length lc) := A5.out.cell rfl
  have x14 : World.cell? w31 ⟨A, 14, none⟩ = some (.int .i64 F.last) := A5.out.cell rfl
  have x15 : World.cell? w31 ⟨A, 15, none⟩ = some (.int .i64 F.inc) := A5.out.cell rfl
  have hAl := A5.out.lt
  go_upto_region 8 with fail
  obtain ⟨HX, hHX⟩ : ∃ H : Hid (May F), True := ⟨HM, trivial⟩
  have hm := HM.out
  clear HM HX hHX z0 z1 z2 z3 z4 z5 z6 z7 z8 z9 z10 z11 z12 z13 z14 z15 k1 k2 s1 s2 p1 p2 d1 d2 f1 f2 l1 l2 HST A5 hXl hAw
  cases hm with
  | data st pad fin pay h1 h2 =>
    dsimp only at *
    go_wp2_with fail
    go_ret
    exact ⟨rfl, C5.out⟩
  | heads st pad fin eh pay h1 h2 =>
    dsimp only at *
    go_wp2_with fail
    go_ret
    exact ⟨rfl, C5.out⟩
  | headp st pad d wt fin eh x pay h1 h2 h3 h4 =>
    have g1 : (1 : Int) ≤ (wt : Int) := by omega
    have g2 : (wt : Int) ≤ 256 := by omega
    dsimp only at *
    go_wp2_with fail
    go_ret
    exact ⟨rfl, C5.out⟩
  | prio st d wt x h1 h3 h4 =>
    have g1 : (1 : Int) ≤ (wt : Int) := by omega
    have g2 : (wt : Int) ≤ 256 := by omega
    dsimp only at *
    go_wp2_with fail
    go_ret
    exact ⟨rfl, C5.out⟩
  | reset st c h1 h2 =>
    dsimp only at *
    go_wp2_with fail
    go_ret
    exact ⟨rfl, C5.out⟩
  | sets ack l h1 h2 =>
    dsimp only at *
    have hany : Hid (l.any badS = false) := Lib.hid (by
      rw [List.any_eq_false]
      intro s hs
      obtain ⟨q1, q2, _, _⟩ := h1 s hs
      simp [badS]; omega)
    have H2 := Lib.hid h2
    clear h1 h2
    go_wp2_with fail
    refine (contains_any _ l (HL.out.chg0 C5.out) HLL.out).mono ?_; rintro e w6 ⟨rfl, c6⟩
    rw [hany.out]
    have y4 : World.cell? w6 ⟨A, 4, none⟩ = some (.bool ack) := (c6.cell hAl (by simp) _).trans x4
    have y13 : World.cell? w6 ⟨A, 13, none⟩ = some (.slice la l.length lc) := (c6.cell hAl (by simp) _).trans x13
    have C6 := Lib.hid (C5.out.trans' c6)
    clear c6 x0 x1 x2 x3 x4 x5 x6 x7 x8 x9 x10 x11 x12 x13 x14 x15
    cases ack with
    | true =>
      obtain rfl := H2.out rfl
      dsimp only at *
      go_wp2_with fail
      go_ret
      exact ⟨rfl, C6.out⟩
    | false =>
      go_wp2_with fail
      go_ret
      exact ⟨rfl, C6.out⟩
  | prom st pad last eh pay h1 h2 h3 =>
    have g1 : (0 : Int) < (last : Int) := by unfold StB at h3; omega
    have g2 : 0 < last := by omega
    have g3 : Hid (decide (0 < last) = true) := Lib.hid (decide_eq_true g2)
    dsimp only at *
    go_wp2_with fail
    go_ret
    exact ⟨by first | rfl | (simp; done) | (simp [g2]; done) | (simp [g1]; done) | (show Ending.returned (.bool (decide (0 < last))) = _; rw [g3.out]), C5.out⟩
  | ping ack pay h1 =>
    have g1 : (pay.length : Int) = 8 := by omega
    dsimp only at *
    rw [h1] at x6
    go_wp2_with fail
    go_ret
    exact ⟨rfl, C5.out⟩
  | away last c pay h1 h2 =>
    dsimp only at *
    go_wp2_with fail
    go_ret
    exact ⟨rfl, C5.out⟩
  | wind st inc h1 h2 =>
    have g1 : (1 : Int) ≤ (inc : Int) := by unfold StB at h2; omega
    have g2 : (inc : Int) ≤ 2147483647 := by unfold StB at h2; omega
    dsimp only at *
    go_wp2_with fail
    go_ret
    exact ⟨rfl, C5.out⟩
  | cont st eh pay h1 =>
    dsimp only at *
    go_wp2_with fail
    go_ret
    exact ⟨rfl, C5.out⟩
  | other k st fl pay h0 h1 h2 =>
    have e1 : ((k : Int) == 1) = false := by simp; omega
    have e2 : ((k : Int) == 2) = false := by simp; omega
    have e4 : ((k : Int) == 4) = false := by simp; omega
    have e5 : ((k : Int) == 5) = false := by simp; omega
    have e6 : ((k : Int) == 6) = false := by simp; omega
    have e8 : ((k : Int) == 8) = false := by simp; omega
    dsimp only at *
    go_wp2_with fail
    go_ret
    exact ⟨rfl, C5.out⟩
end Go.Proofs.Ythhgnipiaohplaa.Fr
