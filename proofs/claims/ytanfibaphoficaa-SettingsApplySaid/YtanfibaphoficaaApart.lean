/-
  SettingsApart: settings of unlike numbers have nothing to do with one another: any values, two settings of unlike numbers.
-/
import Derived.Test.YtanfibaphoficaaBack
namespace Go.Proofs.Ytanfibaphoficaa.Apart
open Go.ChangeShapes Go.WideShapes Go.ChangeAt Go.RowKit
open Go.Proofs.Ytanfibaphoficaa.B Go.Proofs.Ytanfibaphoficaa.Set Go.Proofs.Ytanfibaphoficaa.Back
set_option linter.unusedVariables false
set_option linter.unusedSimpArgs false

/-- A fault, told by whether it is one. -/
theorem flt (c : Int) : ∃ t : Bool, fA c = #[.bool t, .int .u32 c, .int .i64 0] ∧ (t = true ↔ ¬ c = 0) := ⟨decide (c ≠ 0), rfl, by simp⟩
theorem two_slice (w : World) (s t : S) : SliceOf (w.alloc (.cells #[.int .i64 s.id, .int .u32 s.val, .int .i64 t.id, .int .u32 t.val] 30)) (.slice (some ⟨w.heap.size, 0, none⟩) 2 2) 2 encS [s, t] := by
  refine ⟨_, _, rfl, by simp, by simp [maxLen], fun _ => ⟨_, _, rfl, by simp, fun i z hz j hj => ?_⟩⟩
  have ha := At.new w (.cells #[.int .i64 s.id, .int .u32 s.val, .int .i64 t.id, .int .u32 t.val] 30)
  match i, hz, j, hj with
  | 0, hz, 0, _ => simp at hz; subst hz; exact ha.cell rfl
  | 0, hz, 1, _ => simp at hz; subst hz; exact ha.cell rfl
  | 1, hz, 0, _ => simp at hz; subst hz; exact ha.cell rfl
  | 1, hz, 1, _ => simp at hz; subst hz; exact ha.cell rfl
theorem two_slice' (w : World) (s t : S) (k : Nat) (h : w.heap.size = k) : SliceOf (w.alloc (.cells #[.int .i64 s.id, .int .u32 s.val, .int .i64 t.id, .int .u32 t.val] 30)) (.slice (some ⟨k, 0, none⟩) 2 2) 2 encS [s, t] := h ▸ two_slice w s t
theorem other (v : V) (n m : Int) (server : Bool) : wrongC ⟨bits .or .i64 n 64, m⟩ server = 0 ∧ applyV v ⟨bits .or .i64 n 64, m⟩ server = v := by
  obtain ⟨h1, h2, h3, h4, h5, h6⟩ := or64 n
  generalize bits .or .i64 n 64 = k at *
  have hw : wrongC ⟨k, m⟩ server = 0 := by unfold wrongC; simp [h2, h4, h5]
  refine ⟨hw, ?_⟩
  unfold applyV; rw [if_pos hw]; unfold putV; simp [h1, h2, h3, h4, h5, h6]
theorem or_range (n m : Int) : -9223372036854775808 ≤ bits .or .i64 n m ∧ bits .or .i64 n m ≤ 9223372036854775807 := by
  show -9223372036854775808 ≤ IntKind.i64.wrap _ ∧ IntKind.i64.wrap _ ≤ 9223372036854775807
  rw [IntKind.wrap_i64]; omega
set_option maxRecDepth 100000 in
set_option maxHeartbeats 4000000 in
theorem walk (v : V) (s t : S) (server : Bool) (W : World) (os : s.Ok) (ot : t.Ok) :
    Calls Try.prog 8 #[.agg (vA v), .agg (sA s), .agg (sA t), .bool server] W fun e w' => e = .returned (.bool true) ∧ Below W.heap.size W w' := by
  have a0 : At (((W.alloc (vB v)).alloc (sB s)).alloc (sB t)) W.heap.size (vB v) := ((At.new _ _).alloc _).alloc _
  have s0 : At (((W.alloc (vB v)).alloc (sB s)).alloc (sB t)) (W.heap.size + 1) (sB s) := (At.new' (by simp)).alloc _
  have t0 : At (((W.alloc (vB v)).alloc (sB s)).alloc (sB t)) (W.heap.size + 1 + 1) (sB t) := At.new' (by simp)
  have hb0 : Below W.heap.size W (((W.alloc (vB v)).alloc (sB s)).alloc (sB t)) := ((((Chg.refl W).alloc _).alloc _).alloc (l := []) _).below_nil
  unfold vA sA
  go_enter Try.func8, Try.ntmps8
  go_wp2_with fail
  refine (shown_any _).mono ?_; rintro e w1 ⟨rfl, h1⟩
  have a1 := a0.chg h1 (by simp)
  have s1 := s0.chg h1 (by simp)
  have t1 := t0.chg h1 (by simp)
  have hb1 := hb0.chg h1 (Nat.le_refl _) (by simp)
  clear h1 a0 s0 t0 hb0
  generalize W.heap.size + 1 + 1 = V3 at t1 ⊢
  generalize W.heap.size + 1 = V2 at s1 ⊢
  generalize hV : W.heap.size = V1 at a1 ⊢
  have HB := Lib.hid hV
  clear hV
  have p0 : World.cell? w1 ⟨V1, 0, none⟩ = some (.int .i64 (v).table) := (a1).cell rfl
  have p1 : World.cell? w1 ⟨V1, 1, none⟩ = some (.bool (v).push) := (a1).cell rfl
  have p2 : World.cell? w1 ⟨V1, 2, none⟩ = some (.int .i64 (v).streams) := (a1).cell rfl
  have p3 : World.cell? w1 ⟨V1, 3, none⟩ = some (.int .i64 (v).window) := (a1).cell rfl
  have p4 : World.cell? w1 ⟨V1, 4, none⟩ = some (.int .i64 (v).frame) := (a1).cell rfl
  have p5 : World.cell? w1 ⟨V1, 5, none⟩ = some (.int .i64 (v).list) := (a1).cell rfl
  have m0 : World.cell? w1 ⟨V2, 0, none⟩ = some (.int .i64 (s).id) := (s1).cell rfl
  have m1 : World.cell? w1 ⟨V2, 1, none⟩ = some (.int .u32 (s).val) := (s1).cell rfl
  have n0 : World.cell? w1 ⟨V3, 0, none⟩ = some (.int .i64 (t).id) := (t1).cell rfl
  have n1 : World.cell? w1 ⟨V3, 1, none⟩ = some (.int .u32 (t).val) := (t1).cell rfl
  rcases eqC s.id t.id with ⟨hid, eid⟩ | ⟨hid, eid⟩
  · clear hid
    go_wp2_with fail
    go_ret
    exact ⟨rfl, hb1⟩
  have hap := apart v s t server hid
  obtain ⟨c1, hc1⟩ : ∃ c, c = allC [s, t] server := ⟨_, rfl⟩
  obtain ⟨c2, hc2⟩ : ∃ c, c = allC [t, s] server := ⟨_, rfl⟩
  obtain ⟨x, hx⟩ : ∃ x, x = allV v [s, t] server := ⟨_, rfl⟩
  obtain ⟨y, hy⟩ : ∃ y, y = allV v [t, s] server := ⟨_, rfl⟩
  rw [← hc1, ← hc2, ← hx, ← hy] at hap
  obtain ⟨b1, hf1, hq1⟩ := flt c1
  obtain ⟨b2, hf2, hq2⟩ := flt c2
  have key : (b1 = true ∧ b2 = true ∧ x = v ∧ y = v) ∨ (b1 = false ∧ b2 = false ∧ x = y) := by
    rcases hap with ⟨g1, g2, g3, g4⟩ | ⟨g1, g2, g3⟩
    · exact Or.inl ⟨hq1.2 g1, hq2.2 g2, g3, g4⟩
    · exact Or.inr ⟨by cases b1 <;> simp_all, by cases b2 <;> simp_all, g3⟩
  have HC1 := Lib.hid hc1; have HC2 := Lib.hid hc2; have HX := Lib.hid hx; have HY := Lib.hid hy; have HF1 := Lib.hid hf1; have HF2 := Lib.hid hf2; have KEY := Lib.hid key
  clear hc1 hc2 hx hy hf1 hf2 hq1 hq2 hap key hid
  have HLO : Hid (∀ z ∈ [s, t], z.Ok) := Lib.hid (by intro z hz; simp at hz; rcases hz with rfl | rfl <;> assumption)
  have HLO2 : Hid (∀ z ∈ [t, s], z.Ok) := Lib.hid (by intro z hz; simp at hz; rcases hz with rfl | rfl <;> assumption)
  go_wp2_with fail
  refine (all_any v _ [s, t] server _ (two_slice _ s t) HLO.out).mono ?_; rintro e w2 ⟨he, h2⟩
  rw [← HX.out, ← HC1.out, HF1.out] at he
  subst he
  have a2 := (a1.alloc _).chg h2 (by simp)
  have s2 := (s1.alloc _).chg h2 (by simp)
  have t2 := (t1.alloc _).chg h2 (by simp)
  have hb2 := hb1.chg (((Chg.refl w1).alloc (l := []) _).trans' h2) (Nat.le_refl _) (by simp)
  clear p0 p1 p2 p3 p4 p5 m0 m1 n0 n1 h2 a1 s1 t1 hb1
  have l1 := a2.lt; have l2 := s2.lt; have l3 := t2.lt
  have l11 : V1 < w2.heap.size + 1 := by omega
  have l12 : V2 < w2.heap.size + 1 := by omega
  have l13 : V3 < w2.heap.size + 1 := by omega
  have l21 : V1 < w2.heap.size + 1 + 1 := by omega
  have l22 : V2 < w2.heap.size + 1 + 1 := by omega
  have l23 : V3 < w2.heap.size + 1 + 1 := by omega
  have p0 : World.cell? w2 ⟨V1, 0, none⟩ = some (.int .i64 (v).table) := (a2).cell rfl
  have p1 : World.cell? w2 ⟨V1, 1, none⟩ = some (.bool (v).push) := (a2).cell rfl
  have p2 : World.cell? w2 ⟨V1, 2, none⟩ = some (.int .i64 (v).streams) := (a2).cell rfl
  have p3 : World.cell? w2 ⟨V1, 3, none⟩ = some (.int .i64 (v).window) := (a2).cell rfl
  have p4 : World.cell? w2 ⟨V1, 4, none⟩ = some (.int .i64 (v).frame) := (a2).cell rfl
  have p5 : World.cell? w2 ⟨V1, 5, none⟩ = some (.int .i64 (v).list) := (a2).cell rfl
  have m0 : World.cell? w2 ⟨V2, 0, none⟩ = some (.int .i64 (s).id) := (s2).cell rfl
  have m1 : World.cell? w2 ⟨V2, 1, none⟩ = some (.int .u32 (s).val) := (s2).cell rfl
  have n0 : World.cell? w2 ⟨V3, 0, none⟩ = some (.int .i64 (t).id) := (t2).cell rfl
  have n1 : World.cell? w2 ⟨V3, 1, none⟩ = some (.int .u32 (t).val) := (t2).cell rfl
  unfold vA
  go_wp2_with fail
  refine (all_any v _ [t, s] server _ (two_slice' ((w2.alloc (vB x)).alloc (.cells #[.bool b1, .int .u32 c1, .int .i64 0] 34)) t s _ (by simp)) HLO2.out).mono ?_; rintro e w3 ⟨he, h3⟩
  rw [← HY.out, ← HC2.out, HF2.out] at he
  subst he
  have a3 := (((a2.alloc (vB x)).alloc (.cells #[.bool b1, .int .u32 c1, .int .i64 0] 34)).alloc _).chg h3 (by simp)
  have s3 := (((s2.alloc (vB x)).alloc (.cells #[.bool b1, .int .u32 c1, .int .i64 0] 34)).alloc _).chg h3 (by simp)
  have t3 := (((t2.alloc (vB x)).alloc (.cells #[.bool b1, .int .u32 c1, .int .i64 0] 34)).alloc _).chg h3 (by simp)
  have x3 : At w3 w2.heap.size (vB x) := (((At.new _ _).alloc (.cells #[.bool b1, .int .u32 c1, .int .i64 0] 34)).alloc _).chg h3 (by simp)
  have f3 : At w3 (w2.heap.size + 1) (.cells #[.bool b1, .int .u32 c1, .int .i64 0] 34 (0, 0)) := ((At.new' (by simp)).alloc _).chg h3 (by simp)
  have hb3 := hb2.chg (((((Chg.refl w2).alloc (l := []) _).alloc _).alloc _).trans' h3) (Nat.le_refl _) (by simp)
  clear p0 p1 p2 p3 p4 p5 m0 m1 n0 n1 h3 a2 s2 t2 hb2 l1 l2 l3 l11 l12 l13 l21 l22 l23
  generalize w2.heap.size + 1 = F at *
  generalize w2.heap.size = X at *
  have l1 := a3.lt; have l2 := s3.lt; have l3 := t3.lt; have l4 := x3.lt; have l5 := f3.lt
  have l11 : V1 < w3.heap.size + 1 := by omega
  have l12 : V2 < w3.heap.size + 1 := by omega
  have l13 : V3 < w3.heap.size + 1 := by omega
  have p0 : World.cell? w3 ⟨V1, 0, none⟩ = some (.int .i64 (v).table) := (a3).cell rfl
  have p1 : World.cell? w3 ⟨V1, 1, none⟩ = some (.bool (v).push) := (a3).cell rfl
  have p2 : World.cell? w3 ⟨V1, 2, none⟩ = some (.int .i64 (v).streams) := (a3).cell rfl
  have p3 : World.cell? w3 ⟨V1, 3, none⟩ = some (.int .i64 (v).window) := (a3).cell rfl
  have p4 : World.cell? w3 ⟨V1, 4, none⟩ = some (.int .i64 (v).frame) := (a3).cell rfl
  have p5 : World.cell? w3 ⟨V1, 5, none⟩ = some (.int .i64 (v).list) := (a3).cell rfl
  have n0 : World.cell? w3 ⟨V3, 0, none⟩ = some (.int .i64 (t).id) := (t3).cell rfl
  have n1 : World.cell? w3 ⟨V3, 1, none⟩ = some (.int .u32 (t).val) := (t3).cell rfl
  unfold vA
  go_wp2_with fail
  refine (apply_any v ⟨bits .or .i64 t.id 64, t.val⟩ server _ ⟨(or_range _ _).1, (or_range _ _).2, ot.v0, ot.v1⟩).mono ?_; rintro e w4 ⟨he, h4⟩
  rw [(other v t.id t.val server).1, (other v t.id t.val server).2, fA_zero] at he
  subst he
  have a4 := ((a3.alloc (vB y)).alloc (.cells #[.bool b2, .int .u32 c2, .int .i64 0] 34)).chg h4 (by simp)
  have x4 := ((x3.alloc (vB y)).alloc (.cells #[.bool b2, .int .u32 c2, .int .i64 0] 34)).chg h4 (by simp)
  have f4 := ((f3.alloc (vB y)).alloc (.cells #[.bool b2, .int .u32 c2, .int .i64 0] 34)).chg h4 (by simp)
  have y4 : At w4 w3.heap.size (vB y) := ((At.new _ _).alloc (.cells #[.bool b2, .int .u32 c2, .int .i64 0] 34)).chg h4 (by simp)
  have g4 : At w4 (w3.heap.size + 1) (.cells #[.bool b2, .int .u32 c2, .int .i64 0] 34 (0, 0)) := (At.new' (by simp)).chg h4 (by simp)
  have hb4 := hb3.chg ((((Chg.refl w3).alloc (l := []) _).alloc _).trans' h4) (Nat.le_refl _) (by simp)
  clear p0 p1 p2 p3 p4 p5 n0 n1 h4 a3 s3 t3 x3 f3 hb3 l1 l2 l3 l4 l5 l11 l12 l13
  generalize w3.heap.size + 1 = G at *
  generalize w3.heap.size = Y at *
  have l1 := a4.lt; have l2 := x4.lt; have l3 := f4.lt; have l4 := y4.lt; have l5 := g4.lt
  have l11 : V1 < w4.heap.size + 1 := by omega
  have l12 : X < w4.heap.size + 1 := by omega
  have l13 : F < w4.heap.size + 1 := by omega
  have l14 : Y < w4.heap.size + 1 := by omega
  have l15 : G < w4.heap.size + 1 := by omega
  have p0 : World.cell? w4 ⟨V1, 0, none⟩ = some (.int .i64 (v).table) := (a4).cell rfl
  have p1 : World.cell? w4 ⟨V1, 1, none⟩ = some (.bool (v).push) := (a4).cell rfl
  have p2 : World.cell? w4 ⟨V1, 2, none⟩ = some (.int .i64 (v).streams) := (a4).cell rfl
  have p3 : World.cell? w4 ⟨V1, 3, none⟩ = some (.int .i64 (v).window) := (a4).cell rfl
  have p4 : World.cell? w4 ⟨V1, 4, none⟩ = some (.int .i64 (v).frame) := (a4).cell rfl
  have p5 : World.cell? w4 ⟨V1, 5, none⟩ = some (.int .i64 (v).list) := (a4).cell rfl
  have q0 : World.cell? w4 ⟨X, 0, none⟩ = some (.int .i64 (x).table) := (x4).cell rfl
  have q1 : World.cell? w4 ⟨X, 1, none⟩ = some (.bool (x).push) := (x4).cell rfl
  have q2 : World.cell? w4 ⟨X, 2, none⟩ = some (.int .i64 (x).streams) := (x4).cell rfl
  have q3 : World.cell? w4 ⟨X, 3, none⟩ = some (.int .i64 (x).window) := (x4).cell rfl
  have q4 : World.cell? w4 ⟨X, 4, none⟩ = some (.int .i64 (x).frame) := (x4).cell rfl
  have q5 : World.cell? w4 ⟨X, 5, none⟩ = some (.int .i64 (x).list) := (x4).cell rfl
  have r0 : World.cell? w4 ⟨Y, 0, none⟩ = some (.int .i64 (y).table) := (y4).cell rfl
  have r1 : World.cell? w4 ⟨Y, 1, none⟩ = some (.bool (y).push) := (y4).cell rfl
  have r2 : World.cell? w4 ⟨Y, 2, none⟩ = some (.int .i64 (y).streams) := (y4).cell rfl
  have r3 : World.cell? w4 ⟨Y, 3, none⟩ = some (.int .i64 (y).window) := (y4).cell rfl
  have r4 : World.cell? w4 ⟨Y, 4, none⟩ = some (.int .i64 (y).frame) := (y4).cell rfl
  have r5 : World.cell? w4 ⟨Y, 5, none⟩ = some (.int .i64 (y).list) := (y4).cell rfl
  have f0 : w4.cell? ⟨F, 0, none⟩ = some (.bool b1) := f4.cell rfl
  have g0 : w4.cell? ⟨G, 0, none⟩ = some (.bool b2) := g4.cell rfl
  unfold vA
  clear a4 x4 f4 y4 g4
  have hbl := hb4.chg (((Chg.refl w4).alloc (l := []) (vB v)).alloc (fB 0)) (Nat.le_refl _) (by simp)
  rcases KEY.out with ⟨k1, k2, k3, k4⟩ | ⟨k1, k2, k3⟩
  · clear KEY
    subst k1; subst k2; subst k3; subst k4
    go_wp2_with fail
    go_ret
    exact ⟨by simp, hbl⟩
  · clear KEY
    subst k1; subst k2; subst k3
    go_wp2_with fail
    go_ret
    exact ⟨by simp, hbl⟩

/-! ### The row's step -/
theorem own : ownKnob Try.prog.godebug = none := by kernel_rfl
theorem laid : laidOutB Try.prog = true := by kernel_rfl

set_option maxRecDepth 100000 in
theorem lifted (os : Os) (started : os.Started) (H : Type) (enc : TypeId × Value → H) :
    ReturnsInHanded {} Try.checked os 8 .any (Rows.settingsApartSpec.pre6 enc Try.prog Try.f8 Rows.settingsApartRow.domain false) (Rows.settingsApartSpec.post enc Try.prog Try.f8 false true false false) := by
  refine lift_law (C := Try.checked) (tb := 4) own started (by kernel_rfl) Try.func8
    (ChangeSpec.witness6 (enc := enc) (C := Try.checked) false ⟨#[], #[.agg #[.int .i64 0, .bool false, .int .i64 0, .int .i64 0, .int .i64 0, .int .i64 0], .agg #[.int .i64 0, .int .u32 0], .agg #[.int .i64 0, .int .u32 0], .bool false], []⟩ 8 (by kernel_rfl) (by kernel_rfl) (by kernel_rfl) (by kernel_rfl))
    laid (by rw [Try.params8]; intro t ht; simp only [List.mem_cons, List.not_mem_nil, or_false] at ht; rcases ht with rfl | rfl | rfl | rfl <;> exact ⟨by kernel_rfl, of_decide_eq_true (by kernel_rfl)⟩) (by kernel_rfl) Try.underlying4 rfl
    (fun ds h => by rw [Try.params8] at h; match ds, h with | [d0, d1, d2, d3], _ => rfl) ?_
  intro W base args ds before hval hA hlt hsz
  rw [Try.params8] at hA hval
  try rw [Try.params8] at hsz
  have hlt0 := hlt
  obtain ⟨v0, vs0, d0, ds0, p0, q0, hargs, rfl, rfl, h0, r0⟩ := trodAll_cons hA
  obtain ⟨v1, vs1, d1, ds1, p1, q1, rfl, rfl, rfl, h1, r1⟩ := trodAll_cons r0
  obtain ⟨v2, vs2, d2, ds2, p2, q2, rfl, rfl, rfl, h2, r2⟩ := trodAll_cons r1
  obtain ⟨v3, vs3, d3, ds3, p3, q3, rfl, rfl, rfl, h3, r3⟩ := trodAll_cons r2
  obtain ⟨rfl, rfl, rfl⟩ := trodAll_nil r3
  obtain rfl : args = #[v0, v1, v2, v3] := by cases args; simp_all
  have l0 : ∀ p ∈ p0, p.block < W.heap.size := fun x hx => hlt x (by simp [hx])
  have l1 : ∀ p ∈ p1, p.block < W.heap.size := fun x hx => hlt x (by simp [hx])
  have l2 : ∀ p ∈ p2, p.block < W.heap.size := fun x hx => hlt x (by simp [hx])
  have l3 : ∀ p ∈ p3, p.block < W.heap.size := fun x hx => hlt x (by simp [hx])
  obtain ⟨z0, rfl, zo0⟩ := open_arg_struct 6 encV V.Ok Try.underlying23 (by kernel_rfl) (hval 0 23 v0 rfl rfl) decV h0
  obtain ⟨z1, rfl, zo1⟩ := open_arg_struct 2 encS S.Ok Try.underlying30 (by kernel_rfl) (hval 1 30 v1 rfl rfl) decS h1
  obtain ⟨z2, rfl, zo2⟩ := open_arg_struct 2 encS S.Ok Try.underlying30 (by kernel_rfl) (hval 2 30 v2 rfl rfl) decS h2
  obtain ⟨b4, rfl, rfl, rfl⟩ := open_bool Try.underlying4 (hval 3 4 v3 rfl rfl) h3
  exact walk z0 z1 z2 b4 W zo1 zo2

theorem over : Rows.settingsApartRow.holds Try.pinned (OpenSpec.ofChange Rows.settingsApartSpec) :=
  OpenClaim.holds_of_wide 8 Try.f8 rfl rfl rfl rfl rfl rfl rfl ⟨rfl, rfl, rfl, rfl, rfl⟩ rfl rfl rfl rfl rfl (by kernel_rfl) Try.func8 (by kernel_rfl)
    (of_decide_eq_true (by kernel_rfl)) (by unfold Func.isWrapper; first | (rw [if_pos (by decide +kernel)]; kernel_rfl) | (rw [if_neg (by decide +kernel)]; exact ⟨rfl, rfl⟩))
    (fun os started H enc _ => lifted os started H enc)

/-- The statement. -/
theorem proved : Rows.SettingsApartSaid :=
  over
#print axioms proved

end Go.Proofs.Ytanfibaphoficaa.Apart
