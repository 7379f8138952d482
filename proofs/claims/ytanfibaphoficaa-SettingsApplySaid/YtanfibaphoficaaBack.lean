/-
  SettingsBack: values that are told and applied are what they were: any two values that may be.
-/
import Derived.Test.YtanfibaphoficaaMay
namespace Go.Proofs.Ytanfibaphoficaa.Back
open Go.ChangeShapes Go.WideShapes Go.ChangeAt Go.RowKit
open Go.Proofs.Ytanfibaphoficaa.B Go.Proofs.Ytanfibaphoficaa.Set
set_option linter.unusedVariables false
set_option linter.unusedSimpArgs false

/-- A row of settings, read as a slice. -/
theorem rowS_get (l : List S) : ∀ (i : Nat) (z : S), l[i]? = some z → ∀ j, j < 2 → (rowS l)[i * 2 + j]? = (encS z)[j]? := by
  induction l with
  | nil => intro i z h; simp at h
  | cons s l ih =>
    intro i z h j hj
    have hr : rowS (s :: l) = [Value.int .i64 s.id, Value.int .u32 s.val] ++ rowS l := rfl
    rw [hr]
    cases i with
    | zero =>
      simp at h; subst h
      rw [List.getElem?_append_left (by simp; omega)]
      simp [encS]
    | succ i =>
      rw [List.getElem?_append_right (by simp; omega)]
      have := ih i z (by simpa using h) j hj
      rw [← this]; congr 1; simp; omega
theorem owns_sliceOf {w : World} {base : Nat} {v : Value} {l : List S} (h : w.ownsRow base 30 2 v l.length (rowS l)) : SliceOf w v 2 encS l := by
  obtain ⟨a, cap, rfl, hc, hm, hr⟩ := owns_val h
  refine ⟨a, cap, rfl, hc, hm, fun h0 => ?_⟩
  obtain ⟨g, rfl, hg, hcell, _⟩ := hr h0
  refine ⟨g, 0, rfl, (h.lt g hg).2, fun i z hz j hj => ?_⟩
  have hi : i < l.length := (List.getElem?_eq_some_iff.1 hz).1
  rw [Nat.zero_add, hcell _ (by omega)]
  exact rowS_get l i z hz j hj
theorem slice_chg {w w' : World} {v : Value} {l : List S} (h : SliceOf w v 2 encS l) (hc : Chg [] w w') : SliceOf w' v 2 encS l := by
  obtain ⟨a, cap, rfl, h1, h2, h3⟩ := h
  refine ⟨a, cap, rfl, h1, h2, fun h0 => ?_⟩
  obtain ⟨b, off, rfl, hb, hcell⟩ := h3 h0
  exact ⟨b, off, rfl, Nat.lt_of_lt_of_le hb hc.size, fun i z hz j hj => by rw [hc.cell hb (by simp)]; exact hcell i z hz j hj⟩
set_option maxRecDepth 100000 in
set_option maxHeartbeats 4000000 in
theorem walk (v u : V) (W : World) :
    Calls Try.prog 6 #[.agg (vA v), .agg (vA u)] W fun e w' => e = .returned (.bool true) ∧ Below W.heap.size W w' := by
  unfold vA
  go_enter Try.func6, Try.ntmps6
  go_wp2_with fail
  refine (shown_any _).mono ?_; rintro e w1 ⟨rfl, h1⟩
  have a1 : At w1 W.heap.size (vB v) := ((At.new _ _).alloc (vB u)).chg h1 (by simp)
  have b1 : At w1 (W.heap.size + 1) (vB u) := (At.new' (by simp)).chg h1 (by simp)
  have hb1 : Below W.heap.size W w1 := ((((Chg.refl W).alloc _).alloc _).trans' h1).below_nil
  have qq : W.heap.size < W.heap.size + 1 := by omega
  generalize hV2 : W.heap.size + 1 = V2 at b1 qq ⊢
  generalize hV : W.heap.size = V1 at a1 qq ⊢
  have HB := Lib.hid hV
  clear hV hV2 h1
  have p0 : World.cell? w1 ⟨V1, 0, none⟩ = some (.int .i64 (v).table) := (a1).cell rfl
  have p1 : World.cell? w1 ⟨V1, 1, none⟩ = some (.bool (v).push) := (a1).cell rfl
  have p2 : World.cell? w1 ⟨V1, 2, none⟩ = some (.int .i64 (v).streams) := (a1).cell rfl
  have p3 : World.cell? w1 ⟨V1, 3, none⟩ = some (.int .i64 (v).window) := (a1).cell rfl
  have p4 : World.cell? w1 ⟨V1, 4, none⟩ = some (.int .i64 (v).frame) := (a1).cell rfl
  have p5 : World.cell? w1 ⟨V1, 5, none⟩ = some (.int .i64 (v).list) := (a1).cell rfl
  have pf : ∀ j, w1.frozen? ⟨V1, j, none⟩ = false := fun j => a1.free j
  go_wp2_with fail
  refine (may_any v _).mono ?_; rintro e w2 ⟨rfl, h2⟩
  have a2 := a1.chg h2 (by simp)
  have b2 := b1.chg h2 (by simp)
  have hb2 := hb1.chg h2 (Nat.le_refl _) (by simp)
  clear p0 p1 p2 p3 p4 p5 pf h2 a1 b1 hb1
  obtain ⟨m, hm⟩ : ∃ m, m = mayV v := ⟨_, rfl⟩
  have Hm := Lib.hid hm
  rw [← hm]
  clear hm
  unfold vA
  have p0 : World.cell? w2 ⟨V1, 0, none⟩ = some (.int .i64 (v).table) := (a2).cell rfl
  have p1 : World.cell? w2 ⟨V1, 1, none⟩ = some (.bool (v).push) := (a2).cell rfl
  have p2 : World.cell? w2 ⟨V1, 2, none⟩ = some (.int .i64 (v).streams) := (a2).cell rfl
  have p3 : World.cell? w2 ⟨V1, 3, none⟩ = some (.int .i64 (v).window) := (a2).cell rfl
  have p4 : World.cell? w2 ⟨V1, 4, none⟩ = some (.int .i64 (v).frame) := (a2).cell rfl
  have p5 : World.cell? w2 ⟨V1, 5, none⟩ = some (.int .i64 (v).list) := (a2).cell rfl
  have q0 : World.cell? w2 ⟨V2, 0, none⟩ = some (.int .i64 (u).table) := (b2).cell rfl
  have q1 : World.cell? w2 ⟨V2, 1, none⟩ = some (.bool (u).push) := (b2).cell rfl
  have q2 : World.cell? w2 ⟨V2, 2, none⟩ = some (.int .i64 (u).streams) := (b2).cell rfl
  have q3 : World.cell? w2 ⟨V2, 3, none⟩ = some (.int .i64 (u).window) := (b2).cell rfl
  have q4 : World.cell? w2 ⟨V2, 4, none⟩ = some (.int .i64 (u).frame) := (b2).cell rfl
  have q5 : World.cell? w2 ⟨V2, 5, none⟩ = some (.int .i64 (u).list) := (b2).cell rfl
  have pf : ∀ j, w2.frozen? ⟨V1, j, none⟩ = false := fun j => a2.free j
  go_wp2_with fail
  refine (may_any u _).mono ?_; rintro e w3 ⟨rfl, h3⟩
  have a3 : At w3 V1 (vB m) := ((((((a2.set 0 _).set 1 _).set 2 _).set 3 _).set 4 _).set 5 _).chg h3 (by simp)
  have b3 : At w3 V2 (vB u) := ((((((b2.set_ne (by dsimp only; omega) _).set_ne (by dsimp only; omega) _).set_ne (by dsimp only; omega) _).set_ne (by dsimp only; omega) _).set_ne (by dsimp only; omega) _).set_ne (by dsimp only; omega) _).chg h3 (by simp)
  have hb3 : Below W.heap.size W w3 := Below.chg (by (repeat (refine Below.setCell ?_ (by dsimp only; have := HB.out; omega) _)); exact hb2) h3 (Nat.le_refl _) (by simp)
  clear p0 p1 p2 p3 p4 p5 q0 q1 q2 q3 q4 q5 pf h3 a2 b2 hb2
  obtain ⟨n, hn⟩ : ∃ n, n = mayV u := ⟨_, rfl⟩
  have hmay : n.May := by rw [hn]; exact mayV_may u
  have Hn := Lib.hid hn
  rw [← hn]
  clear hn
  unfold vA
  have p0 : World.cell? w3 ⟨V1, 0, none⟩ = some (.int .i64 (m).table) := (a3).cell rfl
  have p1 : World.cell? w3 ⟨V1, 1, none⟩ = some (.bool (m).push) := (a3).cell rfl
  have p2 : World.cell? w3 ⟨V1, 2, none⟩ = some (.int .i64 (m).streams) := (a3).cell rfl
  have p3 : World.cell? w3 ⟨V1, 3, none⟩ = some (.int .i64 (m).window) := (a3).cell rfl
  have p4 : World.cell? w3 ⟨V1, 4, none⟩ = some (.int .i64 (m).frame) := (a3).cell rfl
  have p5 : World.cell? w3 ⟨V1, 5, none⟩ = some (.int .i64 (m).list) := (a3).cell rfl
  have q0 : World.cell? w3 ⟨V2, 0, none⟩ = some (.int .i64 (u).table) := (b3).cell rfl
  have q1 : World.cell? w3 ⟨V2, 1, none⟩ = some (.bool (u).push) := (b3).cell rfl
  have q2 : World.cell? w3 ⟨V2, 2, none⟩ = some (.int .i64 (u).streams) := (b3).cell rfl
  have q3 : World.cell? w3 ⟨V2, 3, none⟩ = some (.int .i64 (u).window) := (b3).cell rfl
  have q4 : World.cell? w3 ⟨V2, 4, none⟩ = some (.int .i64 (u).frame) := (b3).cell rfl
  have q5 : World.cell? w3 ⟨V2, 5, none⟩ = some (.int .i64 (u).list) := (b3).cell rfl
  have pf : ∀ j, w3.frozen? ⟨V2, j, none⟩ = false := fun j => b3.free j
  go_wp2_with fail
  refine (tell_any m n W.heap.size _ (by simp; exact hb3.size)).mono ?_; rintro e w4 ⟨sv, rfl, h4, hown⟩
  have a4 : At w4 V1 (vB m) := ((((((a3.set_ne (by dsimp only; omega) _).set_ne (by dsimp only; omega) _).set_ne (by dsimp only; omega) _).set_ne (by dsimp only; omega) _).set_ne (by dsimp only; omega) _).set_ne (by dsimp only; omega) _).chg h4 (by simp)
  have b4 : At w4 V2 (vB n) := ((((((b3.set 0 _).set 1 _).set 2 _).set 3 _).set 4 _).set 5 _).chg h4 (by simp)
  have hb4 : Below W.heap.size W w4 := Below.chg (by (repeat (refine Below.setCell ?_ (by dsimp only; have := HB.out; omega) _)); exact hb3) h4 (Nat.le_refl _) (by simp)
  clear p0 p1 p2 p3 p4 p5 q0 q1 q2 q3 q4 q5 pf h4 a3 b3 hb3
  obtain ⟨k1, k2, k3⟩ := back m n hmay
  have hlo := tellR_ok m n hmay
  have hll : (tellR m n).length ≤ 6 := tellK_len m n 6
  have HS := Lib.hid (owns_sliceOf hown)
  obtain ⟨sa, cap, rfl⟩ := owns_slice hown
  generalize tellR m n = l at *
  have K1 := Lib.hid k1; have K2 := Lib.hid k2; have K3 := Lib.hid k3; have HLO := Lib.hid hlo; have HM := Lib.hid hmay
  clear k1 k2 k3 hlo hown hmay
  have p0 : World.cell? w4 ⟨V1, 0, none⟩ = some (.int .i64 (m).table) := (a4).cell rfl
  have p1 : World.cell? w4 ⟨V1, 1, none⟩ = some (.bool (m).push) := (a4).cell rfl
  have p2 : World.cell? w4 ⟨V1, 2, none⟩ = some (.int .i64 (m).streams) := (a4).cell rfl
  have p3 : World.cell? w4 ⟨V1, 3, none⟩ = some (.int .i64 (m).window) := (a4).cell rfl
  have p4 : World.cell? w4 ⟨V1, 4, none⟩ = some (.int .i64 (m).frame) := (a4).cell rfl
  have p5 : World.cell? w4 ⟨V1, 5, none⟩ = some (.int .i64 (m).list) := (a4).cell rfl
  go_wp2_with fail
  refine (all_any m _ l false _ HS.out HLO.out).mono ?_; rintro e w5 ⟨he, h5⟩
  rw [K1.out, K2.out, fA_zero] at he
  subst he
  have b5 := b4.chg h5 (by simp)
  have hb5 := hb4.chg h5 (Nat.le_refl _) (by simp)
  have HS5 := Lib.hid (slice_chg HS.out h5)
  clear p0 p1 p2 p3 p4 p5 h5 a4 b4 hb4 HS
  unfold vA
  go_wp2_with fail
  refine (all_any n _ l false _ (slice_chg HS5.out (((Chg.refl w5).alloc (l := []) (vB n)).alloc (fB 0))) HLO.out).mono ?_; rintro e w6 ⟨he, h6⟩
  rw [K1.out, K3.out, fA_zero] at he
  subst he
  have b6 := ((b5.alloc (vB n)).alloc (fB 0)).chg h6 (by simp)
  have x6 : At w6 w5.heap.size (vB n) := ((At.new _ _).alloc (fB 0)).chg h6 (by simp)
  have f6 : At w6 (w5.heap.size + 1) (fB 0) := (At.new' (by simp)).chg h6 (by simp)
  have hb6 := hb5.chg (((Chg.refl w5).alloc (l := []) (vB n)).alloc (fB 0) |>.trans' h6) (Nat.le_refl _) (by simp)
  clear h6 b5 hb5 HS5
  generalize w5.heap.size + 1 = F at *
  generalize w5.heap.size = X at *
  have t1 := b6.lt; have t2 := x6.lt; have t3 := f6.lt
  have t4 : V2 < w6.heap.size + 1 := by omega
  have t5 : X < w6.heap.size + 1 := by omega
  have t6 : F < w6.heap.size + 1 := by omega
  have q0 : World.cell? w6 ⟨V2, 0, none⟩ = some (.int .i64 (n).table) := (b6).cell rfl
  have q1 : World.cell? w6 ⟨V2, 1, none⟩ = some (.bool (n).push) := (b6).cell rfl
  have q2 : World.cell? w6 ⟨V2, 2, none⟩ = some (.int .i64 (n).streams) := (b6).cell rfl
  have q3 : World.cell? w6 ⟨V2, 3, none⟩ = some (.int .i64 (n).window) := (b6).cell rfl
  have q4 : World.cell? w6 ⟨V2, 4, none⟩ = some (.int .i64 (n).frame) := (b6).cell rfl
  have q5 : World.cell? w6 ⟨V2, 5, none⟩ = some (.int .i64 (n).list) := (b6).cell rfl
  have r0 : World.cell? w6 ⟨X, 0, none⟩ = some (.int .i64 (n).table) := (x6).cell rfl
  have r1 : World.cell? w6 ⟨X, 1, none⟩ = some (.bool (n).push) := (x6).cell rfl
  have r2 : World.cell? w6 ⟨X, 2, none⟩ = some (.int .i64 (n).streams) := (x6).cell rfl
  have r3 : World.cell? w6 ⟨X, 3, none⟩ = some (.int .i64 (n).window) := (x6).cell rfl
  have r4 : World.cell? w6 ⟨X, 4, none⟩ = some (.int .i64 (n).frame) := (x6).cell rfl
  have r5 : World.cell? w6 ⟨X, 5, none⟩ = some (.int .i64 (n).list) := (x6).cell rfl
  have g0 : w6.cell? ⟨F, 0, none⟩ = some (.bool false) := f6.cell rfl
  unfold vA
  go_wp2_with fail
  refine (tell_any n n W.heap.size _ (by have := hb6.size; simp; omega)).mono ?_; rintro e w7 ⟨sv, rfl, h7, hown⟩
  rw [tellR_same] at hown
  obtain ⟨sb, capb, rfl⟩ := owns_slice hown
  have hb7 := (hb6.chg ((((Chg.refl w6).alloc (l := []) _).alloc _).trans' h7) (Nat.le_refl _) (by simp))
  go_wp2_with fail
  go_ret
  exact ⟨by simp; omega, hb7⟩

/-! ### The row's step -/
theorem own : ownKnob Try.prog.godebug = none := by kernel_rfl
theorem laid : laidOutB Try.prog = true := by kernel_rfl

set_option maxRecDepth 100000 in
theorem lifted (os : Os) (started : os.Started) (H : Type) (enc : TypeId × Value → H) :
    ReturnsInHanded {} Try.checked os 6 .any (Rows.settingsBackSpec.pre6 enc Try.prog Try.f6 Rows.settingsBackRow.domain false) (Rows.settingsBackSpec.post enc Try.prog Try.f6 false true false false) := by
  refine lift_law (C := Try.checked) (tb := 4) own started (by kernel_rfl) Try.func6
    (ChangeSpec.witness6 (enc := enc) (C := Try.checked) false ⟨#[], #[.agg #[.int .i64 0, .bool false, .int .i64 0, .int .i64 0, .int .i64 0, .int .i64 0], .agg #[.int .i64 0, .bool false, .int .i64 0, .int .i64 0, .int .i64 0, .int .i64 0]], []⟩ 8 (by kernel_rfl) (by kernel_rfl) (by kernel_rfl) (by kernel_rfl))
    laid (by rw [Try.params6]; intro t ht; simp only [List.mem_cons, List.not_mem_nil, or_false] at ht; rcases ht with rfl | rfl <;> exact ⟨by kernel_rfl, of_decide_eq_true (by kernel_rfl)⟩) (by kernel_rfl) Try.underlying4 rfl
    (fun ds h => by rw [Try.params6] at h; match ds, h with | [d0, d1], _ => rfl) ?_
  intro W base args ds before hval hA hlt hsz
  rw [Try.params6] at hA hval
  try rw [Try.params6] at hsz
  have hlt0 := hlt
  obtain ⟨v0, vs0, d0, ds0, p0, q0, hargs, rfl, rfl, h0, r0⟩ := trodAll_cons hA
  obtain ⟨v1, vs1, d1, ds1, p1, q1, rfl, rfl, rfl, h1, r1⟩ := trodAll_cons r0
  obtain ⟨rfl, rfl, rfl⟩ := trodAll_nil r1
  obtain rfl : args = #[v0, v1] := by cases args; simp_all
  have l0 : ∀ p ∈ p0, p.block < W.heap.size := fun x hx => hlt x (by simp [hx])
  have l1 : ∀ p ∈ p1, p.block < W.heap.size := fun x hx => hlt x (by simp [hx])
  obtain ⟨z0, rfl, zo0⟩ := open_arg_struct 6 encV V.Ok Try.underlying23 (by kernel_rfl) (hval 0 23 v0 rfl rfl) decV h0
  obtain ⟨z1, rfl, zo1⟩ := open_arg_struct 6 encV V.Ok Try.underlying23 (by kernel_rfl) (hval 1 23 v1 rfl rfl) decV h1
  exact walk z0 z1 W

theorem over : Rows.settingsBackRow.holds Try.pinned (OpenSpec.ofChange Rows.settingsBackSpec) :=
  OpenClaim.holds_of_wide 6 Try.f6 rfl rfl rfl rfl rfl rfl rfl ⟨rfl, rfl, rfl, rfl, rfl⟩ rfl rfl rfl rfl rfl (by kernel_rfl) Try.func6 (by kernel_rfl)
    (of_decide_eq_true (by kernel_rfl)) (by unfold Func.isWrapper; first | (rw [if_pos (by decide +kernel)]; kernel_rfl) | (rw [if_neg (by decide +kernel)]; exact ⟨rfl, rfl⟩))
    (fun os started H enc _ => lifted os started H enc)

/-- The statement. -/
theorem proved : Rows.SettingsBackSaid :=
  over
#print axioms proved

end Go.Proofs.Ytanfibaphoficaa.Back
