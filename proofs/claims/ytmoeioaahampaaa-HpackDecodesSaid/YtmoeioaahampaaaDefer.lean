/-
  A deferred closure whose one statement draws its order: 'e = caught(recover(), e)'.
-/
import Derived.Test.YtmoeioaahampaaaLift
import Derived.Test.YtmoeioaahampaaaRows
import Derived.Recover
import Derived.Defers
namespace Go.Proofs.Ytmoeioaahampaaa.Hi
open Go.ChangeShapes Go.WideShapes Go.ChangeAt Go.RowKit
open Go.Proofs.Ytmoeioaahampaaa.B
set_option linter.unusedVariables false
set_option linter.unusedSimpArgs false

section
variable {P : Program} {Q : Exit → Act → List Frame → World → Prop} {a : Act} {cs : List Frame} {w : World}
set_option maxRecDepth 100000 in
/-- A region that draws its order, in the calculus for 'recover'. -/
theorem wpS_region_draw {id : Nat} {ops : Array Oper} (h : ∀ t, wpOpsS P ops Q (Region.schedule (P.follows .mixedOrders) ops t) a cs { w with drawn := w.drawn + 1 }) : (Code.region id ops true).wpS P Q a cs w :=
  fun b k hb hr => let ⟨e, a', cs', w', q, r⟩ := wp_opsS _ a cs _ (h _) b k hb hr; ⟨e, a', cs', w', q, .of_steps (.one step_region_draw) r⟩
end

/-- The value that is given up with. -/
abbrev wrongV (c : Int) : Value := .iface 119 (.agg #[.int .i64 c])
set_option maxRecDepth 100000 in
theorem caught_nil (c : Int) (w : World) : Calls Try.prog 68 #[.nilIface, .int .i64 c] w fun e w' => e = .returned (.int .i64 c) ∧ w' = w := by
  go_enter Try.func68, Try.ntmps68
  go_wp2_with fail
  go_ret
  exact ⟨rfl, rfl⟩
set_option maxRecDepth 100000 in
theorem caught_wrong (c x : Int) (w : World) : Calls Try.prog 68 #[wrongV c, .int .i64 x] w fun e w' => e = .returned (.int .i64 c) ∧ w' = w.alloc (.cells #[.int .i64 c] 119) := by
  unfold wrongV
  have hta : ∀ t w, (Instr.typeAssert (.iface 119 (.agg #[.int .i64 c])) t 119 true).run Try.prog w = .ok (.tuple #[.agg #[.int .i64 c], .bool true]) w := fun _ _ => rfl
  go_enter Try.func68, Try.ntmps68
  go_wp2_with fail
  go_ret
  exact ⟨rfl, rfl⟩

/-! ### The two orders -/
set_option maxRecDepth 100000 in
theorem go_one {ops : Array Oper} {f s i : Nat} {listed : Array Bool} {acc : List Nat} (h : Region.ready .any ops listed = [i]) :
    Region.linearise.go .any ops (f + 1) s listed acc = Region.linearise.go .any ops f s (listed.setIfInBounds i true) (i :: acc) := by
  unfold Region.ready at h
  rw [Region.linearise.go]
  simp only [h, List.length_singleton, Nat.mod_one, Nat.div_one, List.getElem?_cons_zero]
set_option maxRecDepth 100000 in
theorem go_two {ops : Array Oper} {f t i j : Nat} {listed : Array Bool} {acc : List Nat} (h : Region.ready .any ops listed = [i, j]) :
    Region.linearise.go .any ops (f + 1) t listed acc = if t % 2 = 0 then Region.linearise.go .any ops f (t / 2) (listed.setIfInBounds i true) (i :: acc) else Region.linearise.go .any ops f (t / 2) (listed.setIfInBounds j true) (j :: acc) := by
  unfold Region.ready at h
  rw [Region.linearise.go]
  simp only [h, List.length_cons, List.length_nil]
  rcases Nat.mod_two_eq_zero_or_one t with q | q <;> simp [q]
set_option maxRecDepth 100000 in
theorem ord4 {ops : Array Oper} (h4 : ops.size = 4) (h0 : Region.ready .any ops #[false, false, false, false] = [0, 1]) (h1 : Region.ready .any ops #[true, false, false, false] = [1]) (h2 : Region.ready .any ops #[false, true, false, false] = [0])
    (h3 : Region.ready .any ops #[true, true, false, false] = [2]) (h5 : Region.ready .any ops #[true, true, true, false] = [3]) (t : Nat) :
    Region.schedule true ops t = [0, 1, 2, 3] ∨ Region.schedule true ops t = [1, 0, 2, 3] := by
  have : Region.schedule true ops t = Region.linearise.go .any ops 4 t #[false, false, false, false] [] := by
    rw [Region.schedule, if_pos (by simp), Region.linearise, h4]; rfl
  rw [this, go_two h0]
  split
  · refine Or.inl ?_
    show Region.linearise.go .any ops 3 (t / 2) #[true, false, false, false] [0] = _
    rw [go_one (f := 2) (i := 1) h1]
    show Region.linearise.go .any ops 2 (t / 2) #[true, true, false, false] [1, 0] = _
    rw [go_one (f := 1) (i := 2) h3]
    show Region.linearise.go .any ops 1 (t / 2) #[true, true, true, false] [2, 1, 0] = _
    rw [go_one (f := 0) (i := 3) h5]; rfl
  · refine Or.inr ?_
    show Region.linearise.go .any ops 3 (t / 2) #[false, true, false, false] [1] = _
    rw [go_one (f := 2) (i := 0) h2]
    show Region.linearise.go .any ops 2 (t / 2) #[true, true, false, false] [0, 1] = _
    rw [go_one (f := 1) (i := 2) h3]
    show Region.linearise.go .any ops 1 (t / 2) #[true, true, true, false] [2, 0, 1] = _
    rw [go_one (f := 0) (i := 3) h5]; rfl
set_option maxRecDepth 100000 in
theorem wpS_two {P : Program} {Q : Exit → Act → List Frame → World → Prop} {a : Act} {cs : List Frame} {w : World} {id : Nat} {ops : Array Oper} (hm : P.follows .mixedOrders = true)
    (h4 : ops.size = 4) (h0 : Region.ready .any ops #[false, false, false, false] = [0, 1]) (h1 : Region.ready .any ops #[true, false, false, false] = [1]) (h2 : Region.ready .any ops #[false, true, false, false] = [0])
    (h3 : Region.ready .any ops #[true, true, false, false] = [2]) (h5 : Region.ready .any ops #[true, true, true, false] = [3])
    (hA : wpOpsS P ops Q [0, 1, 2, 3] a cs { w with drawn := w.drawn + 1 }) (hB : wpOpsS P ops Q [1, 0, 2, 3] a cs { w with drawn := w.drawn + 1 }) : (Code.region id ops true).wpS P Q a cs w := by
  refine wpS_region_draw fun t => ?_
  rw [hm]
  rcases ord4 h4 h0 h1 h2 h3 h5 t with h | h <;> rw [h]
  · exact hA
  · exact hB

theorem catchI_idle (B : Nat) (c : Int) (w : World) (h : At w B (.cells #[.int .i64 c] 27 (0, 0))) :
    CallsD Try.prog 67 #[.pointer (some ⟨B, 0, none⟩)] .returning w fun e u' w' => e = .returned (.tuple #[]) ∧ u' = .returning ∧ Chg [B] w w' ∧ At w' B (.cells #[.int .i64 c] 27 (0, 0)) := by
  have hp : Chg [B] w (w.drew.setCell ⟨B, 0, none⟩ (.int .i64 c)) ∧ At (w.drew.setCell ⟨B, 0, none⟩ (.int .i64 c)) B (.cells #[.int .i64 c] 27 (0, 0)) := ⟨(Chg.refl w).drew.setCell (Or.inl (by simp)) _, h.drew.set 0 _⟩
  have hq : ∀ w', w' = w.drew.setCell ⟨B, 0, none⟩ (.int .i64 c) → Chg [B] w w' ∧ At w' B (.cells #[.int .i64 c] 27 (0, 0)) := fun w' he => he ▸ hp
  have h1 : w.drew.cell? ⟨B, 0, none⟩ = some (.int .i64 c) := h.drew.cell rfl
  have h2 : w.drew.frozen? ⟨B, 0, none⟩ = false := h.drew.free 0
  clear hp
  refine CallsD.mono (R := fun e u' w' => e = .returned (.tuple #[]) ∧ u' = .returning ∧ w' = w.drew.setCell ⟨B, 0, none⟩ (.int .i64 c)) ?_ (fun e u' w' q => ⟨q.1, q.2.1, hq w' q.2.2⟩)
  refine callsD_of_wpS Try.func67 rfl fun c₀ cs hu => ?_
  refine wpS_two (by kernel_rfl) rfl (by kernel_rfl) (by kernel_rfl) (by kernel_rfl) (by kernel_rfl) (by kernel_rfl) ?_ ?_
  all_goals
    change wpOpsS _ _ _ _ _ _ w.drew
    generalize w.drew = w1 at *
    simp [wpOpsS, go_sem, recoverD, hu, h1]
    refine (caught_nil c _).mono ?_
    rintro e w' ⟨rfl, rfl⟩
    simp [wpOpsS, go_sem, h1, h2, bodyPostS, results, Try.results67]
    cases c₀
    simp_all
theorem catchI_wrong (B : Nat) (c x : Int) (older : List PanicEntry) (w : World) (h : At w B (.cells #[.int .i64 x] 27 (0, 0))) :
    CallsD Try.prog 67 #[.pointer (some ⟨B, 0, none⟩)] (.panicking ({ v := wrongV c, recovered := false } :: older)) w fun e u' w' =>
      e = .returned (.tuple #[]) ∧ u' = .panicking ({ v := wrongV c, recovered := true } :: older) ∧ Chg [B] w w' ∧ At w' B (.cells #[.int .i64 c] 27 (0, 0)) := by
  have hp : Chg [B] w ((w.drew.alloc (.cells #[.int .i64 c] 119)).setCell ⟨B, 0, none⟩ (.int .i64 c)) ∧ At ((w.drew.alloc (.cells #[.int .i64 c] 119)).setCell ⟨B, 0, none⟩ (.int .i64 c)) B (.cells #[.int .i64 c] 27 (0, 0)) := ⟨((Chg.refl w).drew.alloc _).setCell (Or.inl (by simp)) _, (h.drew.alloc _).set 0 _⟩
  have hq : ∀ w', w' = (w.drew.alloc (.cells #[.int .i64 c] 119)).setCell ⟨B, 0, none⟩ (.int .i64 c) → Chg [B] w w' ∧ At w' B (.cells #[.int .i64 c] 27 (0, 0)) := fun w' he => he ▸ hp
  have h0 : w.drew.cell? ⟨B, 0, none⟩ = some (.int .i64 x) := h.drew.cell rfl
  have h1 : (w.drew.alloc (.cells #[.int .i64 c] 119)).cell? ⟨B, 0, none⟩ = some (.int .i64 x) := (h.drew.alloc _).cell rfl
  have h2 : (w.drew.alloc (.cells #[.int .i64 c] 119)).frozen? ⟨B, 0, none⟩ = false := (h.drew.alloc _).free 0
  clear hp
  refine CallsD.mono (R := fun e u' w' => e = .returned (.tuple #[]) ∧ u' = .panicking ({ v := wrongV c, recovered := true } :: older) ∧ w' = (w.drew.alloc (.cells #[.int .i64 c] 119)).setCell ⟨B, 0, none⟩ (.int .i64 c)) ?_ (fun e u' w' q => ⟨q.1, q.2.1, hq w' q.2.2⟩)
  refine callsD_of_wpS Try.func67 rfl fun c₀ cs hu => ?_
  refine wpS_two (by kernel_rfl) rfl (by kernel_rfl) (by kernel_rfl) (by kernel_rfl) (by kernel_rfl) (by kernel_rfl) ?_ ?_
  all_goals
    change wpOpsS _ _ _ _ _ _ w.drew
    generalize w.drew = w1 at *
    simp [wpOpsS, go_sem, recoverD, hu, h0]
    refine (caught_wrong c x _).mono ?_
    rintro e w' ⟨rfl, rfl⟩
    generalize w1.alloc (.cells #[.int .i64 c] 119) = w2 at *
    simp [wpOpsS, go_sem, h1, h2, bodyPostS, results, Try.results67]
theorem catchT_idle (B : Nat) (c : Int) (w : World) (h : At w B (.cells #[.int .i64 c] 27 (0, 0))) :
    CallsD Try.prog 80 #[.pointer (some ⟨B, 0, none⟩)] .returning w fun e u' w' => e = .returned (.tuple #[]) ∧ u' = .returning ∧ Chg [B] w w' ∧ At w' B (.cells #[.int .i64 c] 27 (0, 0)) := by
  have hp : Chg [B] w (w.drew.setCell ⟨B, 0, none⟩ (.int .i64 c)) ∧ At (w.drew.setCell ⟨B, 0, none⟩ (.int .i64 c)) B (.cells #[.int .i64 c] 27 (0, 0)) := ⟨(Chg.refl w).drew.setCell (Or.inl (by simp)) _, h.drew.set 0 _⟩
  have hq : ∀ w', w' = w.drew.setCell ⟨B, 0, none⟩ (.int .i64 c) → Chg [B] w w' ∧ At w' B (.cells #[.int .i64 c] 27 (0, 0)) := fun w' he => he ▸ hp
  have h1 : w.drew.cell? ⟨B, 0, none⟩ = some (.int .i64 c) := h.drew.cell rfl
  have h2 : w.drew.frozen? ⟨B, 0, none⟩ = false := h.drew.free 0
  clear hp
  refine CallsD.mono (R := fun e u' w' => e = .returned (.tuple #[]) ∧ u' = .returning ∧ w' = w.drew.setCell ⟨B, 0, none⟩ (.int .i64 c)) ?_ (fun e u' w' q => ⟨q.1, q.2.1, hq w' q.2.2⟩)
  refine callsD_of_wpS Try.func80 rfl fun c₀ cs hu => ?_
  refine wpS_two (by kernel_rfl) rfl (by kernel_rfl) (by kernel_rfl) (by kernel_rfl) (by kernel_rfl) (by kernel_rfl) ?_ ?_
  all_goals
    change wpOpsS _ _ _ _ _ _ w.drew
    generalize w.drew = w1 at *
    simp [wpOpsS, go_sem, recoverD, hu, h1]
    refine (caught_nil c _).mono ?_
    rintro e w' ⟨rfl, rfl⟩
    simp [wpOpsS, go_sem, h1, h2, bodyPostS, results, Try.results80]
    cases c₀
    simp_all
theorem catchT_wrong (B : Nat) (c x : Int) (older : List PanicEntry) (w : World) (h : At w B (.cells #[.int .i64 x] 27 (0, 0))) :
    CallsD Try.prog 80 #[.pointer (some ⟨B, 0, none⟩)] (.panicking ({ v := wrongV c, recovered := false } :: older)) w fun e u' w' =>
      e = .returned (.tuple #[]) ∧ u' = .panicking ({ v := wrongV c, recovered := true } :: older) ∧ Chg [B] w w' ∧ At w' B (.cells #[.int .i64 c] 27 (0, 0)) := by
  have hp : Chg [B] w ((w.drew.alloc (.cells #[.int .i64 c] 119)).setCell ⟨B, 0, none⟩ (.int .i64 c)) ∧ At ((w.drew.alloc (.cells #[.int .i64 c] 119)).setCell ⟨B, 0, none⟩ (.int .i64 c)) B (.cells #[.int .i64 c] 27 (0, 0)) := ⟨((Chg.refl w).drew.alloc _).setCell (Or.inl (by simp)) _, (h.drew.alloc _).set 0 _⟩
  have hq : ∀ w', w' = (w.drew.alloc (.cells #[.int .i64 c] 119)).setCell ⟨B, 0, none⟩ (.int .i64 c) → Chg [B] w w' ∧ At w' B (.cells #[.int .i64 c] 27 (0, 0)) := fun w' he => he ▸ hp
  have h0 : w.drew.cell? ⟨B, 0, none⟩ = some (.int .i64 x) := h.drew.cell rfl
  have h1 : (w.drew.alloc (.cells #[.int .i64 c] 119)).cell? ⟨B, 0, none⟩ = some (.int .i64 x) := (h.drew.alloc _).cell rfl
  have h2 : (w.drew.alloc (.cells #[.int .i64 c] 119)).frozen? ⟨B, 0, none⟩ = false := (h.drew.alloc _).free 0
  clear hp
  refine CallsD.mono (R := fun e u' w' => e = .returned (.tuple #[]) ∧ u' = .panicking ({ v := wrongV c, recovered := true } :: older) ∧ w' = (w.drew.alloc (.cells #[.int .i64 c] 119)).setCell ⟨B, 0, none⟩ (.int .i64 c)) ?_ (fun e u' w' q => ⟨q.1, q.2.1, hq w' q.2.2⟩)
  refine callsD_of_wpS Try.func80 rfl fun c₀ cs hu => ?_
  refine wpS_two (by kernel_rfl) rfl (by kernel_rfl) (by kernel_rfl) (by kernel_rfl) (by kernel_rfl) (by kernel_rfl) ?_ ?_
  all_goals
    change wpOpsS _ _ _ _ _ _ w.drew
    generalize w.drew = w1 at *
    simp [wpOpsS, go_sem, recoverD, hu, h0]
    refine (caught_wrong c x _).mono ?_
    rintro e w' ⟨rfl, rfl⟩
    generalize w1.alloc (.cells #[.int .i64 c] 119) = w2 at *
    simp [wpOpsS, go_sem, h1, h2, bodyPostS, results, Try.results80]
end Go.Proofs.Ytmoeioaahampaaa.Hi
