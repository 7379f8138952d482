/-
  SettingsApply: a setting changes what it does, or is a fault: any values, any settings.
-/
import Derived.Test.YtanfibaphoficaaRAll
import Derived.Test.YtanfibaphoficaaTold
import Derived.Test.YtanfibaphoficaaOwnR
import Derived.Test.YtanfibaphoficaaOpenW
namespace Go.Proofs.Ytanfibaphoficaa.ApplyS
open Go.ChangeShapes Go.WideShapes Go.ChangeAt Go.RowKit
open Go.Proofs.Ytanfibaphoficaa.B Go.Proofs.Ytanfibaphoficaa.Set Go.Proofs.Ytanfibaphoficaa.Back Go.Proofs.Ytanfibaphoficaa.Order Go.Proofs.Ytanfibaphoficaa.RA Go.Proofs.Ytanfibaphoficaa.RAll Go.Proofs.Ytanfibaphoficaa.Told
set_option linter.unusedVariables false
set_option linter.unusedSimpArgs false

theorem encS_len (s : S) : (encS s).length = 2 := rfl
theorem encS_one (s : S) : ∀ u ∈ encS s, u.oneCell' = true := by intro u hu; simp [encS] at hu; rcases hu with rfl | rfl <;> rfl
theorem infoS : (Try.prog.info? 30).map (fun i => (i.zero, i.size, i.bytes)) = some (some (.agg #[.int .i64 0, .int .u32 0]), 2, 16) := by kernel_rfl
theorem OwnR.empty {α : Type} {e : TypeId} {size : Nat} {enc : α → List Value} {w : World} {base : Nat} (hb : base ≤ w.heap.size) : OwnR e size enc (w.alloc (.cells #[] e)) base (.slice (some ⟨w.heap.size, 0, none⟩) 0 0) ([] : List α) := by
  refine ⟨by simp, Or.inr ⟨w.heap.size, 0, #[], rfl, hb, ?_, Nat.le_refl _, by simp [maxLen], by simp, by simp⟩⟩
  exact At.new w _
theorem At.threeX {w : World} {b : Nat} {F : Bool} {a : Int} (h : At w b (fX F a)) (fb : Bool) (c : Int) : At (((w.setCell ⟨b, 0, none⟩ (.bool fb)).setCell ⟨b, 1, none⟩ (.int .u32 c)).setCell ⟨b, 2, none⟩ (.int .i64 0)) b (fX fb c) :=
  ((h.set 0 _).set 1 _).set 2 _
set_option maxRecDepth 100000 in
set_option maxHeartbeats 8000000 in
theorem walk (v : V) (sv : Value) (l : List S) (server : Bool) (W : World) (hs : SliceOf W sv 2 encS l) (hlo : ∀ s ∈ l, s.Ok) (hlb : l.length * 16 ≤ 140737488351232) :
    Calls Try.prog 5 #[.agg (vA v), sv, .bool server] W fun e w' => e = .returned (.bool true) ∧ Below W.heap.size W w' := by
  have HS := Lib.hid hs; have HLO := Lib.hid hlo
  obtain ⟨a, cap, rfl, hc, hcm, hcell⟩ := hs
  have hm : l.length ≤ maxLen := by omega
  unfold maxLen at hm hcm
  have HCELL := Lib.hid hcell
  clear hcell hlo
  have a0 : At (W.alloc (vB v)) W.heap.size (vB v) := At.new _ _
  have hb0 : Below W.heap.size W (W.alloc (vB v)) := ((Chg.refl W).alloc (l := []) _).below_nil
  obtain ⟨M, hM⟩ : ∃ M, M = allV v l server := ⟨_, rfl⟩
  obtain ⟨C, hC⟩ : ∃ C, C = allC l server := ⟨_, rfl⟩
  obtain ⟨F, hF⟩ : ∃ F : Bool, F = decide (C ≠ 0) := ⟨_, rfl⟩
  have HFA0 : Hid (fA C = #[.bool F, .int .u32 C, .int .i64 0]) := Lib.hid (by rw [hF]; rfl)
  have HMM := Lib.hid hM; have HCC0 := Lib.hid hC
  clear hM hC hF
  unfold vA
  go_enter Try.func5, Try.ntmps5
  go_wp2_with fail
  refine (shown_any _).mono ?_; rintro e w1 ⟨rfl, h1⟩
  have a1 := a0.chg h1 (by simp)
  have hb1 := hb0.chg h1 (Nat.le_refl _) (by simp)
  clear h1 a0 hb0
  generalize hV : W.heap.size = V1 at a1 ⊢
  have HB := Lib.hid hV
  clear hV
  have A1 := Lib.hid a1; have HB1 := Lib.hid hb1
  clear a1 hb1
  go_wp2_with (at_builtin; refine app_row encS_len encS_one 25 Try.underlying25 infoS (by decide) (by omega) rfl _ _ rfl w1.heap.size (.slice (some ⟨w1.heap.size, 0, none⟩) 0 0) [] rfl (OwnR.empty (Nat.le_refl _)) _ l rfl (slice_below HS.out (HB1.out.alloc HB1.out.size _)) (by simp [maxLen]; omega) (by simp; omega) (by simp) ?_)
  intro v2 w2 own2 ch2 _
  have c2 : Chg [] w1 w2 := ((Chg.refl w1).alloc _).trans ch2 (fun x hx => Or.inr (by simp [Value.ownBlock] at hx; omega))
  have own2' : OwnR 30 2 encS w2 w1.heap.size v2 l := own2
  have O2 := Lib.hid (own2'.sl encS_len (by omega))
  have a2 := A1.out.chg c2 (by simp)
  have hb2 := HB1.out.chg c2 (Nat.le_refl _) (by simp)
  have HB2 := Lib.hid hb2; have A2 := Lib.hid a2
  have tV := a2.lt
  have p0 : World.cell? w2 ⟨V1, 0, none⟩ = some (.int .i64 (v).table) := (a2).cell rfl
  have p1 : World.cell? w2 ⟨V1, 1, none⟩ = some (.bool (v).push) := (a2).cell rfl
  have p2 : World.cell? w2 ⟨V1, 2, none⟩ = some (.int .i64 (v).streams) := (a2).cell rfl
  have p3 : World.cell? w2 ⟨V1, 3, none⟩ = some (.int .i64 (v).window) := (a2).cell rfl
  have p4 : World.cell? w2 ⟨V1, 4, none⟩ = some (.int .i64 (v).frame) := (a2).cell rfl
  have p5 : World.cell? w2 ⟨V1, 5, none⟩ = some (.int .i64 (v).list) := (a2).cell rfl
  clear own2 own2' ch2 c2 a2 hb2 A1 HB1
  go_wp2_with fail
  refine (all_any v _ l server _ O2.out HLO.out).mono ?_
  rintro e w3 ⟨he, h3⟩
  rw [← HMM.out, ← HCC0.out, HFA0.out] at he
  subst he
  have a3 := A2.out.chg h3 (by simp)
  have hb3 := HB2.out.chg h3 (Nat.le_refl _) (by simp)
  have o3 := O2.out.chg0 h3
  have tV3 := a3.lt
  have tV4 : V1 < w3.heap.size + 1 := by omega
  have tV5 : V1 < w3.heap.size + 1 + 1 := by omega
  clear p0 p1 p2 p3 p4 p5 tV
  have p0 : World.cell? w3 ⟨V1, 0, none⟩ = some (.int .i64 (v).table) := (a3).cell rfl
  have p1 : World.cell? w3 ⟨V1, 1, none⟩ = some (.bool (v).push) := (a3).cell rfl
  have p2 : World.cell? w3 ⟨V1, 2, none⟩ = some (.int .i64 (v).streams) := (a3).cell rfl
  have p3 : World.cell? w3 ⟨V1, 3, none⟩ = some (.int .i64 (v).window) := (a3).cell rfl
  have p4 : World.cell? w3 ⟨V1, 4, none⟩ = some (.int .i64 (v).frame) := (a3).cell rfl
  have p5 : World.cell? w3 ⟨V1, 5, none⟩ = some (.int .i64 (v).list) := (a3).cell rfl
  have A3 := Lib.hid a3; have HB3 := Lib.hid hb3; have O3 := Lib.hid o3
  clear a3 hb3 o3 h3 A2 HB2 O2
  unfold vA
  go_wp2_with fail
  have hb3' : Below W.heap.size W ((w3.alloc (vB M)).alloc (fX F C)) := (HB3.out.alloc HB3.out.size (vB M)).alloc (HB3.out.alloc HB3.out.size (vB M)).size (fX F C)
  refine (rall_any v _ l server _ (slice_below HS.out hb3') HLO.out).mono ?_
  rintro e w4 ⟨he, h4⟩
  rw [← HMM.out, ← HCC0.out, HFA0.out] at he
  subst he
  have a4 := ((A3.out.alloc (vB M)).alloc (fX F C)).chg h4 (by simp)
  have h9 := ((At.new w3 (vB M)).alloc (fX F C)).chg h4 (by simp)
  have h10 := (At.new' (w := w3.alloc (vB M)) (o := fX F C) (k := w3.heap.size + 1) (by simp)).chg h4 (by simp)
  have hb4 := hb3'.chg h4 (Nat.le_refl _) (by simp)
  have o4 := (O3.out.chg0 (((Chg.refl w3).alloc (vB M)).alloc (fX F C))).chg0 h4
  have hA : w3.heap.size < w3.heap.size + 1 := by omega
  generalize w3.heap.size + 1 = A10 at *
  generalize w3.heap.size = A9 at *
  clear p0 p1 p2 p3 p4 p5 tV4 tV5 hb3' h4 A3 HB3 O3
  have t9 := h9.lt; have t10 := h10.lt; have t1 := a4.lt
  have q0 : World.cell? w4 ⟨A9, 0, none⟩ = some (.int .i64 (M).table) := (h9).cell rfl
  have q1 : World.cell? w4 ⟨A9, 1, none⟩ = some (.bool (M).push) := (h9).cell rfl
  have q2 : World.cell? w4 ⟨A9, 2, none⟩ = some (.int .i64 (M).streams) := (h9).cell rfl
  have q3 : World.cell? w4 ⟨A9, 3, none⟩ = some (.int .i64 (M).window) := (h9).cell rfl
  have q4 : World.cell? w4 ⟨A9, 4, none⟩ = some (.int .i64 (M).frame) := (h9).cell rfl
  have q5 : World.cell? w4 ⟨A9, 5, none⟩ = some (.int .i64 (M).list) := (h9).cell rfl
  have x0 : World.cell? w4 ⟨A10, 0, none⟩ = some (.bool F) := h10.cell rfl
  have x1 : World.cell? w4 ⟨A10, 1, none⟩ = some (.int .u32 C) := h10.cell rfl
  have x2 : World.cell? w4 ⟨A10, 2, none⟩ = some (.int .i64 0) := h10.cell rfl
  have r9 : A9 < w4.heap.size + 1 := by omega
  have r10 : A10 < w4.heap.size + 1 := by omega
  have HA4 := Lib.hid a4; have H9 := Lib.hid h9; have H10 := Lib.hid h10; have HB4 := Lib.hid hb4; have O4 := Lib.hid o4
  clear a4 h9 h10 hb4 o4
  unfold vA
  go_wp2_with fail
  have hb5 : Below W.heap.size W ((w4.alloc (vB M)).alloc (fX F C)) := (HB4.out.alloc HB4.out.size (vB M)).alloc (HB4.out.alloc HB4.out.size (vB M)).size (fX F C)
  refine (same_eq v2 _ l _ (O4.out.chg0 (((Chg.refl w4).alloc (vB M)).alloc (fX F C))) (slice_below HS.out hb5)).mono ?_
  rintro e w5 ⟨rfl, n5, rfl⟩
  have a5 : At (((w4.alloc (vB M)).alloc (fX F C)).drewN n5) V1 (vB v) := ((HA4.out.alloc (vB M)).alloc (fX F C)).drewN n5
  have g9 : At (((w4.alloc (vB M)).alloc (fX F C)).drewN n5) A9 (vB M) := ((H9.out.alloc (vB M)).alloc (fX F C)).drewN n5
  have g10 : At (((w4.alloc (vB M)).alloc (fX F C)).drewN n5) A10 (fX F C) := ((H10.out.alloc (vB M)).alloc (fX F C)).drewN n5
  have g11 : At (((w4.alloc (vB M)).alloc (fX F C)).drewN n5) w4.heap.size (vB M) := ((At.new w4 (vB M)).alloc (fX F C)).drewN n5
  have g12 : At (((w4.alloc (vB M)).alloc (fX F C)).drewN n5) (w4.heap.size + 1) (fX F C) := (At.new' (w := w4.alloc (vB M)) (o := fX F C) (k := w4.heap.size + 1) (by simp)).drewN n5
  have hb6 := hb5.drewN n5
  have A5 := Lib.hid a5; have G9 := Lib.hid g9; have G10 := Lib.hid g10; have G11 := Lib.hid g11; have G12 := Lib.hid g12; have HB6 := Lib.hid hb6
  clear a5 g9 g10 g11 g12 hb6 hb5 q0 q1 q2 q3 q4 q5 x0 x1 x2
  go_wp2_with fail
  have u1 : A10 < w4.heap.size := t10
  have u2 : w4.heap.size < w4.heap.size + 1 := by omega
  generalize w4.heap.size + 1 = A12 at *
  generalize w4.heap.size = A11 at *
  clear t1 t9 t10 r9 r10
  go_loopw [13] (fun iv wr => ∃ (k : Nat) (M : V) (F : Bool) (C : Int), k ≤ l.length ∧ iv = .int .i64 k ∧ At wr V1 (vB v) ∧ At wr A9 (vB M) ∧ At wr A10 (fX F C) ∧ At wr A11 (vB M) ∧ At wr A12 (fX F C) ∧ Below W.heap.size W wr) (fun iv _ => l.length - (intOf iv).toNat)
  case atStart => exact ⟨0, M, F, C, Nat.zero_le _, rfl, A5.out, G9.out, G10.out, G11.out, G12.out, HB6.out⟩
  case round =>
    clear A5 G9 G10 G11 G12 HB6 HMM HCC0 HFA0 HA4 H9 H10 HB4 O4
    obtain ⟨k, M, F, C, hk, rfl, ha, h9, h10, h11, h12, hbl⟩ := hrel
    by_cases hlt : k < l.length
    · by_cases h1000 : k < 1000
      · obtain ⟨b, off, rfl, hb, hcells⟩ := HCELL.out (by omega)
        obtain ⟨z, hz⟩ : ∃ z, l[k]? = some z := ⟨_, List.getElem?_eq_getElem hlt⟩
        have hzo := HLO.out z (List.mem_of_getElem? hz)
        have hbw : b < wr.heap.size := Nat.lt_of_lt_of_le hb hbl.size
        have s0 : World.cell? wr ⟨b, off + k * 2, none⟩ = some (.int .i64 z.id) := by rw [hbl.cell hb]; exact hcells k z hz 0 (by omega)
        have s1 : World.cell? wr ⟨b, off + k * 2 + 1, none⟩ = some (.int .u32 z.val) := by rw [hbl.cell hb]; exact hcells k z hz 1 (by omega)
        have hbV : b < V1 := by have := HB.out; omega
        have HZO := Lib.hid hzo; have HCS := Lib.hid hcells; have HZ := Lib.hid hz
        clear hz hzo hcells
        have p0 : World.cell? wr ⟨V1, 0, none⟩ = some (.int .i64 (v).table) := (ha).cell rfl
        have p1 : World.cell? wr ⟨V1, 1, none⟩ = some (.bool (v).push) := (ha).cell rfl
        have p2 : World.cell? wr ⟨V1, 2, none⟩ = some (.int .i64 (v).streams) := (ha).cell rfl
        have p3 : World.cell? wr ⟨V1, 3, none⟩ = some (.int .i64 (v).window) := (ha).cell rfl
        have p4 : World.cell? wr ⟨V1, 4, none⟩ = some (.int .i64 (v).frame) := (ha).cell rfl
        have p5 : World.cell? wr ⟨V1, 5, none⟩ = some (.int .i64 (v).list) := (ha).cell rfl
        obtain ⟨m2, hm2⟩ : ∃ m2, m2 = applyV v z server := ⟨_, rfl⟩
        obtain ⟨c, hcc⟩ : ∃ c, c = wrongC z server := ⟨_, rfl⟩
        obtain ⟨fb, hfb⟩ : ∃ fb : Bool, fb = decide (c ≠ 0) := ⟨_, rfl⟩
        have HFA : Hid (fA c = #[.bool fb, .int .u32 c, .int .i64 0]) := Lib.hid (by rw [hfb]; rfl)
        have HM2 := Lib.hid hm2; have HCC := Lib.hid hcc
        clear hm2 hcc hfb
        have na0 : ¬ V1 = A9 := by omega
        have nb0 : ¬ A9 = V1 := by omega
        have na1 : ¬ V1 = A10 := by omega
        have nb1 : ¬ A10 = V1 := by omega
        have na2 : ¬ b = A9 := by omega
        have nb2 : ¬ A9 = b := by omega
        have na3 : ¬ b = A10 := by omega
        have nb3 : ¬ A10 = b := by omega
        have na4 : ¬ A9 = A10 := by omega
        have nb4 : ¬ A10 = A9 := by omega
        go_upto_region 10 with fail
        go_cut [] (fun wx => At wx V1 (vB v) ∧ At wx A9 (vB m2) ∧ At wx A10 (fX fb c) ∧ At wx A11 (vB M) ∧ At wx A12 (fX F C) ∧ Below W.heap.size W wx)
        case first =>
          skip
          go_region_held3 (fun w' => World.cell? w' ⟨V1, 0, none⟩ = some (.int .i64 v.table) ∧ World.cell? w' ⟨V1, 1, none⟩ = some (.bool v.push) ∧ World.cell? w' ⟨V1, 2, none⟩ = some (.int .i64 v.streams) ∧ World.cell? w' ⟨V1, 3, none⟩ = some (.int .i64 v.window) ∧ World.cell? w' ⟨V1, 4, none⟩ = some (.int .i64 v.frame) ∧ World.cell? w' ⟨V1, 5, none⟩ = some (.int .i64 v.list) ∧ World.cell? w' ⟨b, off + k * 2, none⟩ = some (.int .i64 z.id) ∧ World.cell? w' ⟨b, off + k * 2 + 1, none⟩ = some (.int .u32 z.val)) (go_keep) (first
            |
            (
              go_at_call 13
              refine (apply_any v z server _ HZO.out).mono ?_
              rintro e w2 ⟨he, h2⟩
              rw [← HM2.out, ← HCC.out, HFA.out] at he
              subst he
              have hc4 := ((Chg.refl wr).drew).trans' h2
              have a4 := ha.chg hc4 (by simp)
              have b9 := h9.chg hc4 (by simp)
              have b10 := h10.chg hc4 (by simp)
              have b11 := h11.chg hc4 (by simp)
              have b12 := h12.chg hc4 (by simp)
              have hb4 : Below W.heap.size W w2 := hbl.chg hc4 (Nat.le_refl _) (by simp)
              have t1 : V1 < w2.heap.size := a4.lt
              have t2 : A9 < w2.heap.size := (b9).lt
              have t3 : A10 < w2.heap.size := (b10).lt
              have c0 : World.cell? w2 ⟨V1, 0, none⟩ = some (.int .i64 (v).table) := (a4).cell rfl
              have c1 : World.cell? w2 ⟨V1, 1, none⟩ = some (.bool (v).push) := (a4).cell rfl
              have c2 : World.cell? w2 ⟨V1, 2, none⟩ = some (.int .i64 (v).streams) := (a4).cell rfl
              have c3 : World.cell? w2 ⟨V1, 3, none⟩ = some (.int .i64 (v).window) := (a4).cell rfl
              have c4 : World.cell? w2 ⟨V1, 4, none⟩ = some (.int .i64 (v).frame) := (a4).cell rfl
              have c5 : World.cell? w2 ⟨V1, 5, none⟩ = some (.int .i64 (v).list) := (a4).cell rfl
              have yf : ∀ j, World.frozen? w2 ⟨A9, j, none⟩ = false := fun j => (b9).free j
              have zf : ∀ j, World.frozen? w2 ⟨A10, j, none⟩ = false := fun j => (b10).free j
              have y0 : World.cell? w2 ⟨A9, 0, none⟩ = some (.int .i64 M.table) := (b9).cell rfl
              have y1 : World.cell? w2 ⟨A9, 1, none⟩ = some (.bool M.push) := (b9).cell rfl
              have y2 : World.cell? w2 ⟨A9, 2, none⟩ = some (.int .i64 M.streams) := (b9).cell rfl
              have y3 : World.cell? w2 ⟨A9, 3, none⟩ = some (.int .i64 M.window) := (b9).cell rfl
              have y4 : World.cell? w2 ⟨A9, 4, none⟩ = some (.int .i64 M.frame) := (b9).cell rfl
              have y5 : World.cell? w2 ⟨A9, 5, none⟩ = some (.int .i64 M.list) := (b9).cell rfl
              have z0 : World.cell? w2 ⟨A10, 0, none⟩ = some (.bool F) := (b10).cell rfl
              have z1 : World.cell? w2 ⟨A10, 1, none⟩ = some (.int .u32 C) := (b10).cell rfl
              have z2 : World.cell? w2 ⟨A10, 2, none⟩ = some (.int .i64 0) := (b10).cell rfl
              have t8 : b < w2.heap.size := by have := hc4.size; omega
              have s4 : World.cell? w2 ⟨b, off + k * 2, none⟩ = some (.int .i64 z.id) := by rw [hc4.cell hbw (by simp)]; exact s0
              have s5 : World.cell? w2 ⟨b, off + k * 2 + 1, none⟩ = some (.int .u32 z.val) := by rw [hc4.cell hbw (by simp)]; exact s1
              unfold vA
              skip)
            | fail)
          go_wp2_with fail
          go_meet
          refine ⟨At.three_ne (At.six_ne a4 (by omega) m2) (by omega) fb c, At.three_ne (At.six b9 m2) (by omega) fb c, At.threeX (At.six_ne b10 (by omega) m2) fb c, At.three_ne (At.six_ne b11 (by omega) m2) (by omega) fb c, At.three_ne (At.six_ne b12 (by omega) m2) (by omega) fb c, ?_⟩
          skip
          (repeat (first | with_reducible exact hb4 | with_reducible refine Below.setCell ?_ (by dsimp only; have := HB.out; omega) _))
        case rest =>
          clear p0 p1 p2 p3 p4 p5 ha h9 h10 h11 h12 hbl na0 na1 na2 na3 na4 nb0 nb1 nb2 nb3 nb4 s0 s1 hbw
          obtain ⟨ha, h9, h10, h11, h12, hbl⟩ := hcut
          have hbw : b < wc.heap.size := Nat.lt_of_lt_of_le hb hbl.size
          have s0 : World.cell? wc ⟨b, off + k * 2, none⟩ = some (.int .i64 z.id) := by rw [hbl.cell hb]; exact HCS.out k z HZ.out 0 (by omega)
          have s1 : World.cell? wc ⟨b, off + k * 2 + 1, none⟩ = some (.int .u32 z.val) := by rw [hbl.cell hb]; exact HCS.out k z HZ.out 1 (by omega)
          have p0 : World.cell? wc ⟨V1, 0, none⟩ = some (.int .i64 (v).table) := (ha).cell rfl
          have p1 : World.cell? wc ⟨V1, 1, none⟩ = some (.bool (v).push) := (ha).cell rfl
          have p2 : World.cell? wc ⟨V1, 2, none⟩ = some (.int .i64 (v).streams) := (ha).cell rfl
          have p3 : World.cell? wc ⟨V1, 3, none⟩ = some (.int .i64 (v).window) := (ha).cell rfl
          have p4 : World.cell? wc ⟨V1, 4, none⟩ = some (.int .i64 (v).frame) := (ha).cell rfl
          have p5 : World.cell? wc ⟨V1, 5, none⟩ = some (.int .i64 (v).list) := (ha).cell rfl
          have na0 : ¬ V1 = A11 := by omega
          have nb0 : ¬ A11 = V1 := by omega
          have na1 : ¬ V1 = A12 := by omega
          have nb1 : ¬ A12 = V1 := by omega
          have na2 : ¬ b = A11 := by omega
          have nb2 : ¬ A11 = b := by omega
          have na3 : ¬ b = A12 := by omega
          have nb3 : ¬ A12 = b := by omega
          have na4 : ¬ A11 = A12 := by omega
          have nb4 : ¬ A12 = A11 := by omega
          go_upto_region 11 with fail
          go_cut [] (fun wx => At wx V1 (vB v) ∧ At wx A9 (vB m2) ∧ At wx A10 (fX fb c) ∧ At wx A11 (vB m2) ∧ At wx A12 (fX fb c) ∧ Below W.heap.size W wx)
          case first =>
            skip
            go_region_held3 (fun w' => World.cell? w' ⟨V1, 0, none⟩ = some (.int .i64 v.table) ∧ World.cell? w' ⟨V1, 1, none⟩ = some (.bool v.push) ∧ World.cell? w' ⟨V1, 2, none⟩ = some (.int .i64 v.streams) ∧ World.cell? w' ⟨V1, 3, none⟩ = some (.int .i64 v.window) ∧ World.cell? w' ⟨V1, 4, none⟩ = some (.int .i64 v.frame) ∧ World.cell? w' ⟨V1, 5, none⟩ = some (.int .i64 v.list) ∧ World.cell? w' ⟨b, off + k * 2, none⟩ = some (.int .i64 z.id) ∧ World.cell? w' ⟨b, off + k * 2 + 1, none⟩ = some (.int .u32 z.val)) (go_keep) (first
              |
              (
                go_at_call 16
                refine (rapply_any v z server _ HZO.out).mono ?_
                rintro e w2 ⟨he, h2⟩
                rw [← HM2.out, ← HCC.out, HFA.out] at he
                subst he
                have hc4 := ((Chg.refl wc).drew).trans' h2
                have a4 := ha.chg hc4 (by simp)
                have b9 := h9.chg hc4 (by simp)
                have b10 := h10.chg hc4 (by simp)
                have b11 := h11.chg hc4 (by simp)
                have b12 := h12.chg hc4 (by simp)
                have hb4 : Below W.heap.size W w2 := hbl.chg hc4 (Nat.le_refl _) (by simp)
                have t1 : V1 < w2.heap.size := a4.lt
                have t2 : A11 < w2.heap.size := (b11).lt
                have t3 : A12 < w2.heap.size := (b12).lt
                have c0 : World.cell? w2 ⟨V1, 0, none⟩ = some (.int .i64 (v).table) := (a4).cell rfl
                have c1 : World.cell? w2 ⟨V1, 1, none⟩ = some (.bool (v).push) := (a4).cell rfl
                have c2 : World.cell? w2 ⟨V1, 2, none⟩ = some (.int .i64 (v).streams) := (a4).cell rfl
                have c3 : World.cell? w2 ⟨V1, 3, none⟩ = some (.int .i64 (v).window) := (a4).cell rfl
                have c4 : World.cell? w2 ⟨V1, 4, none⟩ = some (.int .i64 (v).frame) := (a4).cell rfl
                have c5 : World.cell? w2 ⟨V1, 5, none⟩ = some (.int .i64 (v).list) := (a4).cell rfl
                have yf : ∀ j, World.frozen? w2 ⟨A11, j, none⟩ = false := fun j => (b11).free j
                have zf : ∀ j, World.frozen? w2 ⟨A12, j, none⟩ = false := fun j => (b12).free j
                have y0 : World.cell? w2 ⟨A11, 0, none⟩ = some (.int .i64 M.table) := (b11).cell rfl
                have y1 : World.cell? w2 ⟨A11, 1, none⟩ = some (.bool M.push) := (b11).cell rfl
                have y2 : World.cell? w2 ⟨A11, 2, none⟩ = some (.int .i64 M.streams) := (b11).cell rfl
                have y3 : World.cell? w2 ⟨A11, 3, none⟩ = some (.int .i64 M.window) := (b11).cell rfl
                have y4 : World.cell? w2 ⟨A11, 4, none⟩ = some (.int .i64 M.frame) := (b11).cell rfl
                have y5 : World.cell? w2 ⟨A11, 5, none⟩ = some (.int .i64 M.list) := (b11).cell rfl
                have z0 : World.cell? w2 ⟨A12, 0, none⟩ = some (.bool F) := (b12).cell rfl
                have z1 : World.cell? w2 ⟨A12, 1, none⟩ = some (.int .u32 C) := (b12).cell rfl
                have z2 : World.cell? w2 ⟨A12, 2, none⟩ = some (.int .i64 0) := (b12).cell rfl
                have t8 : b < w2.heap.size := by have := hc4.size; omega
                have s4 : World.cell? w2 ⟨b, off + k * 2, none⟩ = some (.int .i64 z.id) := by rw [hc4.cell hbw (by simp)]; exact s0
                have s5 : World.cell? w2 ⟨b, off + k * 2 + 1, none⟩ = some (.int .u32 z.val) := by rw [hc4.cell hbw (by simp)]; exact s1
                unfold vA
                skip)
              | fail)
            go_wp2_with fail
            go_meet
            refine ⟨At.three_ne (At.six_ne a4 (by omega) m2) (by omega) fb c, At.three_ne (At.six_ne b9 (by omega) m2) (by omega) fb c, At.three_ne (At.six_ne b10 (by omega) m2) (by omega) fb c, At.three_ne (At.six b11 m2) (by omega) fb c, At.threeX (At.six_ne b12 (by omega) m2) fb c, ?_⟩
            skip
            (repeat (first | with_reducible exact hb4 | with_reducible refine Below.setCell ?_ (by dsimp only; have := HB.out; omega) _))
          case rest =>
            clear p0 p1 p2 p3 p4 p5 ha h9 h10 h11 h12 hbl na0 na1 na2 na3 na4 nb0 nb1 nb2 nb3 nb4 s0 s1 hbw
            obtain ⟨ha, h9, h10, h11, h12, hbl⟩ := hcut
            have p0 : World.cell? wc ⟨A9, 0, none⟩ = some (.int .i64 (m2).table) := (h9).cell rfl
            have p1 : World.cell? wc ⟨A9, 1, none⟩ = some (.bool (m2).push) := (h9).cell rfl
            have p2 : World.cell? wc ⟨A9, 2, none⟩ = some (.int .i64 (m2).streams) := (h9).cell rfl
            have p3 : World.cell? wc ⟨A9, 3, none⟩ = some (.int .i64 (m2).window) := (h9).cell rfl
            have p4 : World.cell? wc ⟨A9, 4, none⟩ = some (.int .i64 (m2).frame) := (h9).cell rfl
            have p5 : World.cell? wc ⟨A9, 5, none⟩ = some (.int .i64 (m2).list) := (h9).cell rfl
            have q0 : World.cell? wc ⟨A11, 0, none⟩ = some (.int .i64 (m2).table) := (h11).cell rfl
            have q1 : World.cell? wc ⟨A11, 1, none⟩ = some (.bool (m2).push) := (h11).cell rfl
            have q2 : World.cell? wc ⟨A11, 2, none⟩ = some (.int .i64 (m2).streams) := (h11).cell rfl
            have q3 : World.cell? wc ⟨A11, 3, none⟩ = some (.int .i64 (m2).window) := (h11).cell rfl
            have q4 : World.cell? wc ⟨A11, 4, none⟩ = some (.int .i64 (m2).frame) := (h11).cell rfl
            have q5 : World.cell? wc ⟨A11, 5, none⟩ = some (.int .i64 (m2).list) := (h11).cell rfl
            have x0 : World.cell? wc ⟨A10, 0, none⟩ = some (.bool fb) := h10.cell rfl
            have x1 : World.cell? wc ⟨A10, 1, none⟩ = some (.int .u32 c) := h10.cell rfl
            have x2 : World.cell? wc ⟨A10, 2, none⟩ = some (.int .i64 0) := h10.cell rfl
            have y0 : World.cell? wc ⟨A12, 0, none⟩ = some (.bool fb) := h12.cell rfl
            have y1 : World.cell? wc ⟨A12, 1, none⟩ = some (.int .u32 c) := h12.cell rfl
            have y2 : World.cell? wc ⟨A12, 2, none⟩ = some (.int .i64 0) := h12.cell rfl
            go_wp2_with fail
            go_roundw
            case rel => exact ⟨k + 1, m2, fb, c, by omega, by go_num, ha, h9, h10, h11, h12, hbl⟩
            case measure => simp [intOf]; omega
      · go_wp2_with fail
        go_ret
        exact ⟨rfl, hbl⟩
    · go_wp2_with fail
      go_ret
      exact ⟨rfl, hbl⟩
theorem decV_w {H : Type} {enc : TypeId × Value → H} {W : World} (n : Nat) (cs : List Value) (x : DataW H × List MemPlace) (hl : cs.length = 2)
    (h : DataW.trod enc Try.prog W 0 (fun _ => true) true n 30 cs = some x) : ∃ z, cs = encS z ∧ (Small' Try.prog 30 x.1 → S.Ok z) := by
  obtain ⟨z, h1, h2⟩ := decS n cs x hl h
  exact ⟨z, h1, fun _ => h2⟩

/-! ### The row's step -/
theorem own : ownKnob Try.prog.godebug = none := by kernel_rfl
theorem laid : laidOutB Try.prog = true := by kernel_rfl

set_option maxRecDepth 100000 in
theorem lifted (os : Os) (started : os.Started) (H : Type) (enc : TypeId × Value → H) :
    ReturnsInHanded {} Try.checked os 5 .any (Rows.settingsApplySpec.pre6 enc Try.prog Try.f5 Rows.settingsApplyRow.domain false) (Rows.settingsApplySpec.post enc Try.prog Try.f5 false true false false) := by
  refine lift_law (C := Try.checked) (tb := 4) own started (by kernel_rfl) Try.func5
    (ChangeSpec.witness6 (enc := enc) (C := Try.checked) false ⟨#[], #[.agg #[.int .i64 0, .bool false, .int .i64 0, .int .i64 0, .int .i64 0, .int .i64 0], .slice none 0 0, .bool false], []⟩ 8 (by kernel_rfl) (by kernel_rfl) (by kernel_rfl) (by kernel_rfl))
    laid (by rw [Try.params5]; intro t ht; simp only [List.mem_cons, List.not_mem_nil, or_false] at ht; rcases ht with rfl | rfl | rfl <;> exact ⟨by kernel_rfl, of_decide_eq_true (by kernel_rfl)⟩) (by kernel_rfl) Try.underlying4 rfl
    (fun ds h => by rw [Try.params5] at h; match ds, h with | [d0, d1, d2], _ => rfl) ?_
  intro W base args ds before hval hA hlt hsz
  rw [Try.params5] at hA hval
  try rw [Try.params5] at hsz
  have hlt0 := hlt
  obtain ⟨v0, vs0, d0, ds0, p0, q0, hargs, rfl, rfl, h0, r0⟩ := trodAll_cons hA
  obtain ⟨v1, vs1, d1, ds1, p1, q1, rfl, rfl, rfl, h1, r1⟩ := trodAll_cons r0
  obtain ⟨v2, vs2, d2, ds2, p2, q2, rfl, rfl, rfl, h2, r2⟩ := trodAll_cons r1
  obtain ⟨rfl, rfl, rfl⟩ := trodAll_nil r2
  obtain rfl : args = #[v0, v1, v2] := by cases args; simp_all
  have l0 : ∀ p ∈ p0, p.block < W.heap.size := fun x hx => hlt x (by simp [hx])
  have l1 : ∀ p ∈ p1, p.block < W.heap.size := fun x hx => hlt x (by simp [hx])
  have l2 : ∀ p ∈ p2, p.block < W.heap.size := fun x hx => hlt x (by simp [hx])
  obtain ⟨z0, rfl, zo0⟩ := open_arg_struct 6 encV V.Ok Try.underlying23 (by kernel_rfl) (hval 0 23 v0 rfl rfl) decV h0
  obtain ⟨zs, zg, zb, zm, zs1⟩ := open_slice_w 2 encS S.Ok Try.underlying25 (by kernel_rfl) (by omega) (hval 1 25 v1 rfl rfl) decV_w h1 l1 (small_of hsz (j := 1) rfl rfl)
  obtain ⟨b2, rfl, rfl, rfl⟩ := open_bool Try.underlying4 (hval 2 4 v2 rfl rfl) h2
  exact walk z0 v1 zs b2 W zs1 zg (by rw [show Try.prog.bytesOf 30 = 16 by kernel_rfl] at zb; exact zb)

theorem over : Rows.settingsApplyRow.holds Try.pinned (OpenSpec.ofChange Rows.settingsApplySpec) :=
  OpenClaim.holds_of_wide 5 Try.f5 rfl rfl rfl rfl rfl rfl rfl ⟨rfl, rfl, rfl, rfl, rfl⟩ rfl rfl rfl rfl rfl (by kernel_rfl) Try.func5 (by kernel_rfl)
    (of_decide_eq_true (by kernel_rfl)) (by unfold Func.isWrapper; first | (rw [if_pos (by decide +kernel)]; kernel_rfl) | (rw [if_neg (by decide +kernel)]; exact ⟨rfl, rfl⟩))
    (fun os started H enc _ => lifted os started H enc)

/-- The statement. -/
theorem proved : Rows.SettingsApplySaid :=
  over
#print axioms proved

end Go.Proofs.Ytanfibaphoficaa.ApplyS
