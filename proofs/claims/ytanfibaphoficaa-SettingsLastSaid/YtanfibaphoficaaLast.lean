/-
  SettingsLast: of one setting the last one counts: any values, any ID and two values.
-/
import Derived.Test.YtanfibaphoficaaShown
import Derived.Test.YtanfibaphoficaaArg
namespace Go.Proofs.Ytanfibaphoficaa.Last
open Go.ChangeShapes Go.WideShapes Go.ChangeAt Go.RowKit
open Go.Proofs.Ytanfibaphoficaa.B Go.Proofs.Ytanfibaphoficaa.Set
set_option linter.unusedVariables false
set_option linter.unusedSimpArgs false

theorem putV_putV (v : V) (d a b : Int) : putV (putV v ⟨d, a⟩) ⟨d, b⟩ = putV v ⟨d, b⟩ := by
  by_cases h1 : d = 1
  · subst h1; rfl
  by_cases h2 : d = 2
  · subst h2; rfl
  by_cases h3 : d = 3
  · subst h3; rfl
  by_cases h4 : d = 4
  · subst h4; rfl
  by_cases h5 : d = 5
  · subst h5; rfl
  by_cases h6 : d = 6
  · subst h6; rfl
  unfold putV
  simp [h1, h2, h3, h4, h5, h6]
/-- A fault, told by whether it is one. -/
theorem flt (c : Int) : ∃ t : Bool, fA c = #[.bool t, .int .u32 c, .int .i64 0] ∧ (t = true ↔ ¬ c = 0) := ⟨decide (c ≠ 0), rfl, by simp⟩

set_option maxRecDepth 100000 in
set_option maxHeartbeats 4000000 in
theorem walk (v : V) (d a b : Int) (server : Bool) (W : World) (o1 : S.Ok ⟨d, a⟩) (o2 : S.Ok ⟨d, b⟩) :
    Calls Try.prog 4 #[.agg (vA v), .int .i64 d, .int .u32 a, .int .u32 b, .bool server] W fun e w' => e = .returned (.bool true) ∧ Below W.heap.size W w' := by
  obtain ⟨x, hx⟩ : ∃ x, x = applyV v ⟨d, a⟩ server := ⟨_, rfl⟩
  obtain ⟨y, hy⟩ : ∃ y, y = applyV x ⟨d, b⟩ server := ⟨_, rfl⟩
  obtain ⟨z, hz⟩ : ∃ z, z = applyV v ⟨d, b⟩ server := ⟨_, rfl⟩
  obtain ⟨c1, hc1⟩ : ∃ c, c = wrongC ⟨d, a⟩ server := ⟨_, rfl⟩
  obtain ⟨c2, hc2⟩ : ∃ c, c = wrongC ⟨d, b⟩ server := ⟨_, rfl⟩
  obtain ⟨t1, hf1, ht1⟩ := flt c1
  obtain ⟨t2, hf2, ht2⟩ := flt c2
  have key : (t1 = true ∧ x = v) ∨ (t1 = false ∧ t2 = true ∧ y = x ∧ z = v) ∨ (t1 = false ∧ t2 = false ∧ y = z) := by
    by_cases k1 : c1 = 0
    · by_cases k2 : c2 = 0
      · refine Or.inr (Or.inr ⟨by cases t1 <;> simp_all, by cases t2 <;> simp_all, ?_⟩)
        rw [hy, hz, hx]; unfold applyV; rw [← hc1, ← hc2, if_pos k1, if_pos k2, if_pos k2, putV_putV]
      · exact Or.inr (Or.inl ⟨by cases t1 <;> simp_all, ht2.2 k2, by rw [hy]; unfold applyV; rw [← hc2, if_neg k2], by rw [hz]; unfold applyV; rw [← hc2, if_neg k2]⟩)
    · exact Or.inl ⟨ht1.2 k1, by rw [hx]; unfold applyV; rw [← hc1, if_neg k1]⟩
  have HX := Lib.hid hx; have HY := Lib.hid hy; have HZ := Lib.hid hz; have HC1 := Lib.hid hc1; have HC2 := Lib.hid hc2; have HF1 := Lib.hid hf1; have HF2 := Lib.hid hf2
  clear hx hy hz hc1 hc2 hf1 hf2 ht1 ht2
  have a0 : At (W.alloc (vB v)) W.heap.size (vB v) := At.new _ _
  have hb0 : Chg [] W (W.alloc (vB v)) := (Chg.refl W).alloc _
  have KEY := Lib.hid key
  clear key
  unfold vA
  go_enter Try.func4, Try.ntmps4
  go_wp2_with fail
  refine (shown_any _).mono ?_; rintro e w1 ⟨rfl, h1⟩
  have a1 := a0.chg h1 (by simp)
  have hb1 := hb0.trans' h1
  clear a0 hb0 h1
  generalize hV : W.heap.size = V0 at a1 ⊢
  have HV := Lib.hid hV
  clear hV
  have p0 : World.cell? w1 ⟨V0, 0, none⟩ = some (.int .i64 (v).table) := (a1).cell rfl
  have p1 : World.cell? w1 ⟨V0, 1, none⟩ = some (.bool (v).push) := (a1).cell rfl
  have p2 : World.cell? w1 ⟨V0, 2, none⟩ = some (.int .i64 (v).streams) := (a1).cell rfl
  have p3 : World.cell? w1 ⟨V0, 3, none⟩ = some (.int .i64 (v).window) := (a1).cell rfl
  have p4 : World.cell? w1 ⟨V0, 4, none⟩ = some (.int .i64 (v).frame) := (a1).cell rfl
  have p5 : World.cell? w1 ⟨V0, 5, none⟩ = some (.int .i64 (v).list) := (a1).cell rfl
  go_wp2_with fail
  refine (apply_any v ⟨d, a⟩ server _ o1).mono ?_; rintro e w2 ⟨he, h2⟩
  rw [← HX.out, ← HC1.out, HF1.out] at he
  subst he
  have a2 := a1.chg h2 (by simp)
  have hb2 := hb1.trans' h2
  clear a1 h2 hb1 p0 p1 p2 p3 p4 p5
  unfold vA
  go_wp2_with fail
  refine (apply_any x ⟨d, b⟩ server _ o2).mono ?_; rintro e w3 ⟨he, h3⟩
  rw [← HY.out, ← HC2.out, HF2.out] at he
  subst he
  have a3 := ((a2.alloc (vB x)).alloc (.cells #[.bool t1, .int .u32 c1, .int .i64 0] 34)).chg h3 (by simp)
  have x3 : At w3 w2.heap.size (vB x) := ((At.new _ _).alloc (.cells #[.bool t1, .int .u32 c1, .int .i64 0] 34)).chg h3 (by simp)
  have f3 : At w3 (w2.heap.size + 1) (.cells #[.bool t1, .int .u32 c1, .int .i64 0] 34 (0, 0)) := (At.new' (by simp)).chg h3 (by simp)
  have hb3 := ((hb2.alloc _).alloc _).trans' h3
  clear a2 h3 hb2
  generalize w2.heap.size + 1 = F at *
  generalize w2.heap.size = X at *
  have t0 := a3.lt
  have t00 : V0 < w3.heap.size + 1 := by omega
  have p0 : World.cell? w3 ⟨V0, 0, none⟩ = some (.int .i64 (v).table) := (a3).cell rfl
  have p1 : World.cell? w3 ⟨V0, 1, none⟩ = some (.bool (v).push) := (a3).cell rfl
  have p2 : World.cell? w3 ⟨V0, 2, none⟩ = some (.int .i64 (v).streams) := (a3).cell rfl
  have p3 : World.cell? w3 ⟨V0, 3, none⟩ = some (.int .i64 (v).window) := (a3).cell rfl
  have p4 : World.cell? w3 ⟨V0, 4, none⟩ = some (.int .i64 (v).frame) := (a3).cell rfl
  have p5 : World.cell? w3 ⟨V0, 5, none⟩ = some (.int .i64 (v).list) := (a3).cell rfl
  unfold vA
  go_wp2_with fail
  refine (apply_any v ⟨d, b⟩ server _ o2).mono ?_; rintro e w4 ⟨he, h4⟩
  rw [← HZ.out, ← HC2.out, HF2.out] at he
  subst he
  have a4 := ((a3.alloc (vB y)).alloc (.cells #[.bool t2, .int .u32 c2, .int .i64 0] 34)).chg h4 (by simp)
  have x4 := ((x3.alloc (vB y)).alloc (.cells #[.bool t2, .int .u32 c2, .int .i64 0] 34)).chg h4 (by simp)
  have f4 := ((f3.alloc (vB y)).alloc (.cells #[.bool t2, .int .u32 c2, .int .i64 0] 34)).chg h4 (by simp)
  have y4 : At w4 w3.heap.size (vB y) := ((At.new _ _).alloc (.cells #[.bool t2, .int .u32 c2, .int .i64 0] 34)).chg h4 (by simp)
  have g4 : At w4 (w3.heap.size + 1) (.cells #[.bool t2, .int .u32 c2, .int .i64 0] 34 (0, 0)) := (At.new' (by simp)).chg h4 (by simp)
  have hb4 := ((hb3.alloc _).alloc _).trans' h4
  clear a3 x3 f3 h4 hb3 p0 p1 p2 p3 p4 p5 t0 t00
  generalize w3.heap.size + 1 = G at *
  generalize w3.heap.size = Y at *
  have l1 := a4.lt; have l2 := x4.lt; have l3 := f4.lt; have l4 := y4.lt; have l5 := g4.lt
  have t11 : V0 < w4.heap.size + 1 := by omega
  have t12 : X < w4.heap.size + 1 := by omega
  have t13 : F < w4.heap.size + 1 := by omega
  have t14 : Y < w4.heap.size + 1 := by omega
  have t15 : G < w4.heap.size + 1 := by omega
  have p0 : World.cell? w4 ⟨V0, 0, none⟩ = some (.int .i64 (v).table) := (a4).cell rfl
  have p1 : World.cell? w4 ⟨V0, 1, none⟩ = some (.bool (v).push) := (a4).cell rfl
  have p2 : World.cell? w4 ⟨V0, 2, none⟩ = some (.int .i64 (v).streams) := (a4).cell rfl
  have p3 : World.cell? w4 ⟨V0, 3, none⟩ = some (.int .i64 (v).window) := (a4).cell rfl
  have p4 : World.cell? w4 ⟨V0, 4, none⟩ = some (.int .i64 (v).frame) := (a4).cell rfl
  have p5 : World.cell? w4 ⟨V0, 5, none⟩ = some (.int .i64 (v).list) := (a4).cell rfl
  have q0 : World.cell? w4 ⟨X, 0, none⟩ = some (.int .i64 (x).table) := (x4).cell rfl
  have q1 : World.cell? w4 ⟨X, 1, none⟩ = some (.bool (x).push) := (x4).cell rfl
  have q2 : World.cell? w4 ⟨X, 2, none⟩ = some (.int .i64 (x).streams) := (x4).cell rfl
  have q3 : World.cell? w4 ⟨X, 3, none⟩ = some (.int .i64 (x).window) := (x4).cell rfl
  have q4 : World.cell? w4 ⟨X, 4, none⟩ = some (.int .i64 (x).frame) := (x4).cell rfl
  have q5 : World.cell? w4 ⟨X, 5, none⟩ = some (.int .i64 (x).list) := (x4).cell rfl
  have r0 : World.cell? w4 ⟨Y, 0, none⟩ = some (.int .i64 (y).table) := (y4).cell rfl
  have r1 : World.cell? w4 ⟨Y, 1, none⟩ = some (.bool (y).push) := (y4).cell rfl
  have r2 : World.cell? w4 ⟨Y, 2, none⟩ = some (.int .i64 (y).streams) := (y4).cell rfl
  have r3 : World.cell? w4 ⟨Y, 3, none⟩ = some (.int .i64 (y).window) := (y4).cell rfl
  have r4 : World.cell? w4 ⟨Y, 4, none⟩ = some (.int .i64 (y).frame) := (y4).cell rfl
  have r5 : World.cell? w4 ⟨Y, 5, none⟩ = some (.int .i64 (y).list) := (y4).cell rfl
  have f0 : w4.cell? ⟨F, 0, none⟩ = some (.bool t1) := f4.cell rfl
  have g0 : w4.cell? ⟨G, 0, none⟩ = some (.bool t2) := g4.cell rfl
  have g1 : w4.cell? ⟨G, 1, none⟩ = some (.int .u32 c2) := g4.cell rfl
  have g2 : w4.cell? ⟨G, 2, none⟩ = some (.int .i64 0) := g4.cell rfl
  unfold vA
  clear a4 x4 f4 y4 g4
  have hbl := ((hb4.alloc (vB z)).alloc (.cells #[.bool t2, .int .u32 c2, .int .i64 0] 34)).below_nil
  rcases KEY.out with ⟨k1, k2⟩ | ⟨k1, k2, k3, k4⟩ | ⟨k1, k2, k3⟩
  · clear KEY
    subst k1; subst k2
    go_wp2_with fail
    go_ret
    exact ⟨by simp, hbl⟩
  · clear KEY
    subst k1; subst k2; subst k3; subst k4
    go_wp2_with fail
    go_ret
    exact ⟨by simp, hbl⟩
  · clear KEY
    subst k1; subst k2; subst k3
    go_wp2_with fail
    go_ret
    exact ⟨by simp, hbl⟩

/-! ### The row's step -/
theorem own : ownKnob Try.prog.godebug = none := by kernel_rfl
theorem laid : laidOutB Try.prog = true := by kernel_rfl

set_option maxRecDepth 100000 in
theorem lifted (os : Os) (started : os.Started) (H : Type) (enc : TypeId × Value → H) :
    ReturnsInHanded {} Try.checked os 4 .any (Rows.settingsLastSpec.pre6 enc Try.prog Try.f4 Rows.settingsLastRow.domain false) (Rows.settingsLastSpec.post enc Try.prog Try.f4 false true false false) := by
  refine lift_law (C := Try.checked) (tb := 4) own started (by kernel_rfl) Try.func4
    (ChangeSpec.witness6 (enc := enc) (C := Try.checked) false ⟨#[], #[.agg #[.int .i64 0, .bool false, .int .i64 0, .int .i64 0, .int .i64 0, .int .i64 0], .int .i64 0, .int .u32 0, .int .u32 0, .bool false], []⟩ 8 (by kernel_rfl) (by kernel_rfl) (by kernel_rfl) (by kernel_rfl))
    laid (by rw [Try.params4]; intro t ht; simp only [List.mem_cons, List.not_mem_nil, or_false] at ht; rcases ht with rfl | rfl | rfl | rfl | rfl <;> exact ⟨by kernel_rfl, of_decide_eq_true (by kernel_rfl)⟩) (by kernel_rfl) Try.underlying4 rfl
    (fun ds h => by rw [Try.params4] at h; match ds, h with | [d0, d1, d2, d3, d4], _ => rfl) ?_
  intro W base args ds before hval hA hlt hsz
  rw [Try.params4] at hA hval
  have hlt0 := hlt
  obtain ⟨v0, vs0, d0, ds0, p0, q0, hargs, rfl, rfl, h0, r0⟩ := trodAll_cons hA
  obtain ⟨v1, vs1, d1, ds1, p1, q1, rfl, rfl, rfl, h1, r1⟩ := trodAll_cons r0
  obtain ⟨v2, vs2, d2, ds2, p2, q2, rfl, rfl, rfl, h2, r2⟩ := trodAll_cons r1
  obtain ⟨v3, vs3, d3, ds3, p3, q3, rfl, rfl, rfl, h3, r3⟩ := trodAll_cons r2
  obtain ⟨v4, vs4, d4, ds4, p4, q4, rfl, rfl, rfl, h4, r4⟩ := trodAll_cons r3
  obtain ⟨rfl, rfl, rfl⟩ := trodAll_nil r4
  obtain rfl : args = #[v0, v1, v2, v3, v4] := by cases args; simp_all
  have l0 : ∀ p ∈ p0, p.block < W.heap.size := fun x hx => hlt x (by simp [hx])
  have l1 : ∀ p ∈ p1, p.block < W.heap.size := fun x hx => hlt x (by simp [hx])
  have l2 : ∀ p ∈ p2, p.block < W.heap.size := fun x hx => hlt x (by simp [hx])
  have l3 : ∀ p ∈ p3, p.block < W.heap.size := fun x hx => hlt x (by simp [hx])
  have l4 : ∀ p ∈ p4, p.block < W.heap.size := fun x hx => hlt x (by simp [hx])
  obtain ⟨z0, rfl, zo⟩ := open_arg_struct 6 encV V.Ok Try.underlying23 (by kernel_rfl) (hval 0 23 v0 rfl rfl) decV h0
  obtain ⟨a1, rfl, rfl, rfl, wa1⟩ := open_int Try.underlying3 (hval 1 3 v1 rfl rfl) h1
  obtain ⟨a2, rfl, rfl, rfl, wa2⟩ := open_int Try.underlying28 (hval 2 28 v2 rfl rfl) h2
  obtain ⟨a3, rfl, rfl, rfl, wa3⟩ := open_int Try.underlying28 (hval 3 28 v3 rfl rfl) h3
  obtain ⟨b4, rfl, rfl, rfl⟩ := open_bool Try.underlying4 (hval 4 4 v4 rfl rfl) h4
  exact walk z0 a1 a2 a3 b4 W ⟨(i64_bounds wa1).1, (i64_bounds wa1).2, (u32_bounds wa2).1, (u32_bounds wa2).2⟩ ⟨(i64_bounds wa1).1, (i64_bounds wa1).2, (u32_bounds wa3).1, (u32_bounds wa3).2⟩

theorem over : Rows.settingsLastRow.holds Try.pinned (OpenSpec.ofChange Rows.settingsLastSpec) :=
  OpenClaim.holds_of_wide 4 Try.f4 rfl rfl rfl rfl rfl rfl rfl ⟨rfl, rfl, rfl, rfl, rfl⟩ rfl rfl rfl rfl rfl (by kernel_rfl) Try.func4 (by kernel_rfl)
    (of_decide_eq_true (by kernel_rfl)) (by unfold Func.isWrapper; first | (rw [if_pos (by decide +kernel)]; kernel_rfl) | (rw [if_neg (by decide +kernel)]; exact ⟨rfl, rfl⟩))
    (fun os started H enc _ => lifted os started H enc)

/-- The statement. -/
theorem proved : Rows.SettingsLastSaid :=
  over
#print axioms proved

end Go.Proofs.Ytanfibaphoficaa.Last
