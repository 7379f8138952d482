/-
  SettingsOrder: All is Apply of each, one behind the other, up to a fault: any values, any settings.
-/
import Derived.Test.YtanfibaphoficaaApart
import Derived.Deep.DeepCutAuto
import Derived.Deep.DrawnRows
namespace Go.Proofs.Ytanfibaphoficaa.Order
open Go.ChangeShapes Go.WideShapes Go.ChangeAt Go.RowKit
open Go.Proofs.Ytanfibaphoficaa.B Go.Proofs.Ytanfibaphoficaa.Set Go.Proofs.Ytanfibaphoficaa.Back
set_option linter.unusedVariables false
set_option linter.unusedSimpArgs false

theorem nowK_take (v : V) (l : List S) (k : Nat) : nowK v (l.take k) (l.take k).length = nowK v l k := by
  unfold nowK; rw [List.take_length]
theorem all_take {v : V} {l : List S} {server : Bool} {k : Nat} (h : ∀ (i : Nat) (t : S), i < k → l[i]? = some t → wrongC t server = 0) : allC (l.take k) server = 0 ∧ allV v (l.take k) server = nowK v l k := by
  have h0 : allC (l.take k) server = 0 := allC_ok (by
    intro s hs
    obtain ⟨i, hi⟩ := List.getElem?_of_mem hs
    have hik : i < k := by
      have := (List.getElem?_eq_some_iff.1 hi).1
      simp at this; omega
    exact h i s hik (by rw [List.getElem?_take_of_lt hik] at hi; exact hi))
  exact ⟨h0, by unfold allV; rw [if_pos h0, nowK_take]⟩
theorem all_first {v : V} {l : List S} {server : Bool} {k : Nat} {z : S} (h : ∀ (i : Nat) (t : S), i < k → l[i]? = some t → wrongC t server = 0) (hz : l[k]? = some z) (hw : ¬ wrongC z server = 0) : allC l server = wrongC z server ∧ allV v l server = v := by
  rcases allC_first (l := l) (server := server) with h1 | ⟨j, x, h1, h2, h3, h4⟩
  · exact absurd (h1 z (List.mem_of_getElem? hz)) hw
  · have hjk : j = k := by
      rcases Nat.lt_trichotomy j k with h5 | h5 | h5
      · exact absurd (h j x h5 h1) h2
      · exact h5
      · exact absurd (h3 k z h5 hz) hw
    subst hjk
    obtain rfl : x = z := by rw [h1] at hz; exact Option.some.inj hz
    exact ⟨h4, by unfold allV; rw [if_neg (by rw [h4]; exact hw)]⟩
theorem slice_below {w w' : World} {v : Value} {l : List S} (h : SliceOf w v 2 encS l) (hb : Below w.heap.size w w') : SliceOf w' v 2 encS l := slice_chg h (Below.chg_nil hb)
theorem slice_take {w : World} {a : Option Addr} {cap : Nat} {l : List S} (h : SliceOf w (.slice a l.length cap) 2 encS l) (k : Nat) (hk : k ≤ l.length) : SliceOf w (.slice a k cap) 2 encS (l.take k) := by
  obtain ⟨a', cap', he, h1, h2, h3⟩ := h
  simp only [Value.slice.injEq, true_and] at he
  obtain ⟨rfl, rfl⟩ := he
  have hl : (l.take k).length = k := by simp; omega
  refine ⟨a, cap, by rw [hl], by omega, h2, fun h0 => ?_⟩
  obtain ⟨b, off, rfl, hb, hcell⟩ := h3 (by omega)
  refine ⟨b, off, rfl, hb, fun i z hz j hj => hcell i z ?_ j hj⟩
  have hik : i < k := by have := (List.getElem?_eq_some_iff.1 hz).1; omega
  rw [List.getElem?_take_of_lt hik] at hz; exact hz
theorem At.six {w : World} {b : Nat} {a : V} (h : At w b (vB a)) (m : V) : At ((((((w.setCell ⟨b, 0, none⟩ (.int .i64 m.table)).setCell ⟨b, 1, none⟩ (.bool m.push)).setCell ⟨b, 2, none⟩ (.int .i64 m.streams)).setCell ⟨b, 3, none⟩ (.int .i64 m.window)).setCell ⟨b, 4, none⟩ (.int .i64 m.frame)).setCell ⟨b, 5, none⟩ (.int .i64 m.list)) b (vB m) :=
  (((((h.set 0 _).set 1 _).set 2 _).set 3 _).set 4 _).set 5 _
theorem At.six_ne {w : World} {c : Nat} {o : Obj} (h : At w c o) {b : Nat} (hne : c ≠ b) (m : V) : At ((((((w.setCell ⟨b, 0, none⟩ (.int .i64 m.table)).setCell ⟨b, 1, none⟩ (.bool m.push)).setCell ⟨b, 2, none⟩ (.int .i64 m.streams)).setCell ⟨b, 3, none⟩ (.int .i64 m.window)).setCell ⟨b, 4, none⟩ (.int .i64 m.frame)).setCell ⟨b, 5, none⟩ (.int .i64 m.list)) c o :=
  (((((h.set_ne hne _).set_ne hne _).set_ne hne _).set_ne hne _).set_ne hne _).set_ne hne _
def fX (fb : Bool) (c : Int) : Obj := .cells #[.bool fb, .int .u32 c, .int .i64 0] 34 (0, 0)
theorem At.three {w : World} {b : Nat} {a : Int} (h : At w b (fB a)) (fb : Bool) (c : Int) : At (((w.setCell ⟨b, 0, none⟩ (.bool fb)).setCell ⟨b, 1, none⟩ (.int .u32 c)).setCell ⟨b, 2, none⟩ (.int .i64 0)) b (fX fb c) :=
  ((h.set 0 _).set 1 _).set 2 _
theorem At.three_ne {w : World} {e : Nat} {o : Obj} (h : At w e o) {b : Nat} (hne : e ≠ b) (fb : Bool) (c : Int) : At (((w.setCell ⟨b, 0, none⟩ (.bool fb)).setCell ⟨b, 1, none⟩ (.int .u32 c)).setCell ⟨b, 2, none⟩ (.int .i64 0)) e o :=
  ((h.set_ne hne _).set_ne hne _).set_ne hne _
theorem At.three0 {w : World} {b : Nat} {a : Int} (h : At w b (fB a)) : At (((w.setCell ⟨b, 0, none⟩ (.bool false)).setCell ⟨b, 1, none⟩ (.int .u32 0)).setCell ⟨b, 2, none⟩ (.int .i64 0)) b (fB 0) :=
  ((h.set 0 _).set 1 _).set 2 _
theorem At.three_ne0 {w : World} {e : Nat} {o : Obj} (h : At w e o) {b : Nat} (hne : e ≠ b) : At (((w.setCell ⟨b, 0, none⟩ (.bool false)).setCell ⟨b, 1, none⟩ (.int .u32 0)).setCell ⟨b, 2, none⟩ (.int .i64 0)) e o :=
  ((h.set_ne hne _).set_ne hne _).set_ne hne _
theorem At.eq {w : World} {b : Nat} {o o' : Obj} (h : At w b o) (e : o = o') : At w b o' := e ▸ h
attribute [local go_sem ↓] Go.wp_at_zero Go.wp_at_succ
set_option maxRecDepth 100000 in
set_option maxHeartbeats 8000000 in
theorem walk (v : V) (sv : Value) (l : List S) (server : Bool) (W : World) (hs : SliceOf W sv 2 encS l) (hlo : ∀ s ∈ l, s.Ok) :
    Calls Try.prog 7 #[.agg (vA v), sv, .bool server] W fun e w' => e = .returned (.bool true) ∧ Below W.heap.size W w' := by
  have HS := Lib.hid hs; have HLO := Lib.hid hlo
  obtain ⟨a, cap, rfl, hc, hcm, hcell⟩ := hs
  have hm : l.length ≤ maxLen := by omega
  unfold maxLen at hm hcm
  have HCELL := Lib.hid hcell
  clear hcell hlo
  have a0 : At (W.alloc (vB v)) W.heap.size (vB v) := At.new _ _
  have hb0 : Below W.heap.size W (W.alloc (vB v)) := ((Chg.refl W).alloc (l := []) _).below_nil
  unfold vA
  go_enter Try.func7, Try.ntmps7
  go_wp2_with fail
  refine (shown_any _).mono ?_; rintro e w1 ⟨rfl, h1⟩
  have a1 := a0.chg h1 (by simp)
  have hb1 := hb0.chg h1 (Nat.le_refl _) (by simp)
  clear h1 a0 hb0
  generalize hV : W.heap.size = V1 at a1 ⊢
  have HB := Lib.hid hV
  clear hV
  have p0 : World.cell? w1 ⟨V1, 0, none⟩ = some (.int .i64 (v).table) := (a1).cell rfl
  have p1 : World.cell? w1 ⟨V1, 1, none⟩ = some (.bool (v).push) := (a1).cell rfl
  have p2 : World.cell? w1 ⟨V1, 2, none⟩ = some (.int .i64 (v).streams) := (a1).cell rfl
  have p3 : World.cell? w1 ⟨V1, 3, none⟩ = some (.int .i64 (v).window) := (a1).cell rfl
  have p4 : World.cell? w1 ⟨V1, 4, none⟩ = some (.int .i64 (v).frame) := (a1).cell rfl
  have p5 : World.cell? w1 ⟨V1, 5, none⟩ = some (.int .i64 (v).list) := (a1).cell rfl
  go_wp2_with fail
  have a2 : At (w1.alloc (vB v)) V1 (vB v) := a1.alloc _
  have n2 : At (w1.alloc (vB v)) w1.heap.size (vB (nowK v l 0)) := At.new _ _
  have hb2 := hb1.alloc hb1.size (vB v)
  have q0 : V1 < w1.heap.size := a1.lt
  have q1 : W.heap.size ≤ w1.heap.size := hb1.size
  generalize w1.heap.size = N at *
  clear p0 p1 p2 p3 p4 p5 a1 hb1
  have HVN : Hid (V1 < N) := Lib.hid q0
  go_loopw [9] (fun i wr => ∃ k : Nat, k ≤ l.length ∧ i = .int .i64 k ∧ At wr V1 (vB v) ∧ At wr N (vB (nowK v l k)) ∧ (∀ (i : Nat) (t : S), i < k → l[i]? = some t → wrongC t server = 0) ∧ Below W.heap.size W wr) (fun i _ => l.length - (intOf i).toNat)
  case atStart => exact ⟨0, Nat.zero_le _, rfl, a2, n2, fun i t hi => by omega, hb2⟩
  case round =>
    clear a2 n2 hb2
    obtain ⟨k, hk, rfl, a3, n3, hok, hbl⟩ := hrel
    have HOK := Lib.hid hok
    clear hok
    by_cases hlt : k < l.length
    · by_cases h500 : k < 500
      · obtain ⟨b, off, rfl, hb, hcells⟩ := HCELL.out (by omega)
        obtain ⟨z, hz⟩ : ∃ z, l[k]? = some z := ⟨_, List.getElem?_eq_getElem hlt⟩
        have hzo := HLO.out z (List.mem_of_getElem? hz)
        have hkc : (k : Int) ≤ cap := by omega
        have hk0 : (0 : Int) ≤ k := by omega
        have HZ := Lib.hid hz; have HZO := Lib.hid hzo
        have HCL := Lib.hid hcells
        have hbw : b < wr.heap.size := Nat.lt_of_lt_of_le hb hbl.size
        clear hz hcells hzo
        obtain ⟨m, hmm⟩ : ∃ m, m = nowK v l k := ⟨_, rfl⟩
        rw [← hmm] at n3
        have HM := Lib.hid hmm
        clear hmm
        have p0 : World.cell? wr ⟨V1, 0, none⟩ = some (.int .i64 (v).table) := (a3).cell rfl
        have p1 : World.cell? wr ⟨V1, 1, none⟩ = some (.bool (v).push) := (a3).cell rfl
        have p2 : World.cell? wr ⟨V1, 2, none⟩ = some (.int .i64 (v).streams) := (a3).cell rfl
        have p3 : World.cell? wr ⟨V1, 3, none⟩ = some (.int .i64 (v).window) := (a3).cell rfl
        have p4 : World.cell? wr ⟨V1, 4, none⟩ = some (.int .i64 (v).frame) := (a3).cell rfl
        have p5 : World.cell? wr ⟨V1, 5, none⟩ = some (.int .i64 (v).list) := (a3).cell rfl
        have ha := a3; have hn := n3
        have HSW : Hid (SliceOf wr (.slice (some ⟨b, off, none⟩) k cap) 2 encS (l.take k)) := Lib.hid (slice_take (slice_below HS.out hbl) k hk)
        have HLT : Hid (∀ s ∈ l.take k, s.Ok) := Lib.hid (fun s hs => HLO.out s (List.mem_of_mem_take hs))
        go_wp2_with fail
        have tV0 := a3.lt; have tN := n3.lt
        have tN1 : N < wr.heap.size + 1 := by omega
        have tV : V1 < (wr).heap.size := by omega
        have tV1 : V1 < (wr).heap.size + 1 := by omega
        have ne1 : ¬ V1 = (wr).heap.size := by omega
        have ne2 : ¬ V1 = (wr).heap.size + 1 := by omega
        have ne3 : ¬ (wr).heap.size = V1 := by omega
        have ne4 : ¬ (wr).heap.size + 1 = V1 := by omega
        go_upto_region 6 with fail
        go_cut [10, 11] (fun p q wx => ∃ B C : Nat, p = .pointer (some ⟨B, 0, none⟩) ∧ q = .pointer (some ⟨C, 0, none⟩) ∧ At wx V1 (vB v) ∧ At wx N (vB m) ∧ At wx B (vB m) ∧ At wx C (fB 0) ∧ Below W.heap.size W wx)
        case first =>
          go_region_held3 (fun w' => World.cell? w' ⟨V1, 0, none⟩ = some (.int .i64 v.table) ∧ World.cell? w' ⟨V1, 1, none⟩ = some (.bool v.push) ∧ World.cell? w' ⟨V1, 2, none⟩ = some (.int .i64 v.streams) ∧ World.cell? w' ⟨V1, 3, none⟩ = some (.int .i64 v.window) ∧ World.cell? w' ⟨V1, 4, none⟩ = some (.int .i64 v.frame) ∧ World.cell? w' ⟨V1, 5, none⟩ = some (.int .i64 v.list)) (go_keep) (first
            | (
              go_at_call 14
              refine (all_any v _ (l.take k) server _ (slice_chg HSW.out ((Chg.refl wr).drew)) HLT.out).mono ?_
              rintro e w2 ⟨he, h2⟩
              rw [(all_take (v := v) HOK.out).1, (all_take (v := v) HOK.out).2, fA_zero, ← HM.out] at he
              subst he
              have hc4 := ((Chg.refl wr).drew).trans' h2
              have a4 := ha.chg hc4 (by simp)
              have n4 := hn.chg hc4 (by simp)
              have hb4 : Below W.heap.size W w2 := hbl.chg hc4 (Nat.le_refl _) (by simp)
              have t4 : V1 < w2.heap.size := a4.lt
              have t5 : V1 < w2.heap.size + 1 := by omega
              have t6 : N < w2.heap.size := n4.lt
              have t7 : N < w2.heap.size + 1 := by omega
              have c0 : World.cell? w2 ⟨V1, 0, none⟩ = some (.int .i64 (v).table) := (a4).cell rfl
              have c1 : World.cell? w2 ⟨V1, 1, none⟩ = some (.bool (v).push) := (a4).cell rfl
              have c2 : World.cell? w2 ⟨V1, 2, none⟩ = some (.int .i64 (v).streams) := (a4).cell rfl
              have c3 : World.cell? w2 ⟨V1, 3, none⟩ = some (.int .i64 (v).window) := (a4).cell rfl
              have c4 : World.cell? w2 ⟨V1, 4, none⟩ = some (.int .i64 (v).frame) := (a4).cell rfl
              have c5 : World.cell? w2 ⟨V1, 5, none⟩ = some (.int .i64 (v).list) := (a4).cell rfl
              unfold vA
              skip)
            | (
              go_at_call 14
              refine (all_any v _ (l.take k) server _ (slice_chg HSW.out (((Chg.refl wr).alloc (l := []) (vB v0)).drew)) HLT.out).mono ?_
              rintro e w2 ⟨he, h2⟩
              rw [(all_take (v := v) HOK.out).1, (all_take (v := v) HOK.out).2, fA_zero, ← HM.out] at he
              subst he
              have hc4 := (((Chg.refl wr).alloc (l := []) (vB v0)).drew).trans' h2
              have a4 := ha.chg hc4 (by simp)
              have n4 := hn.chg hc4 (by simp)
              have hb4 : Below W.heap.size W w2 := hbl.chg hc4 (Nat.le_refl _) (by simp)
              have t4 : V1 < w2.heap.size := a4.lt
              have t5 : V1 < w2.heap.size + 1 := by omega
              have t6 : N < w2.heap.size := n4.lt
              have t7 : N < w2.heap.size + 1 := by omega
              have c0 : World.cell? w2 ⟨V1, 0, none⟩ = some (.int .i64 (v).table) := (a4).cell rfl
              have c1 : World.cell? w2 ⟨V1, 1, none⟩ = some (.bool (v).push) := (a4).cell rfl
              have c2 : World.cell? w2 ⟨V1, 2, none⟩ = some (.int .i64 (v).streams) := (a4).cell rfl
              have c3 : World.cell? w2 ⟨V1, 3, none⟩ = some (.int .i64 (v).window) := (a4).cell rfl
              have c4 : World.cell? w2 ⟨V1, 4, none⟩ = some (.int .i64 (v).frame) := (a4).cell rfl
              have c5 : World.cell? w2 ⟨V1, 5, none⟩ = some (.int .i64 (v).list) := (a4).cell rfl
              unfold vA
              have bA : At w2 (wr).heap.size (vB v0) := ((At.new wr (vB v0)).drew).chg h2 (by simp)
              have tA : (wr).heap.size < w2.heap.size := bA.lt
              have y0 : World.cell? w2 ⟨(wr).heap.size, 0, none⟩ = some (.int .i64 v0.table) := bA.cell rfl
              have y1 : World.cell? w2 ⟨(wr).heap.size, 1, none⟩ = some (.bool v0.push) := bA.cell rfl
              have y2 : World.cell? w2 ⟨(wr).heap.size, 2, none⟩ = some (.int .i64 v0.streams) := bA.cell rfl
              have y3 : World.cell? w2 ⟨(wr).heap.size, 3, none⟩ = some (.int .i64 v0.window) := bA.cell rfl
              have y4 : World.cell? w2 ⟨(wr).heap.size, 4, none⟩ = some (.int .i64 v0.frame) := bA.cell rfl
              have y5 : World.cell? w2 ⟨(wr).heap.size, 5, none⟩ = some (.int .i64 v0.list) := bA.cell rfl
              have yf : ∀ j, World.frozen? w2 ⟨(wr).heap.size, j, none⟩ = false := fun j => bA.free j
              skip)
            | (
              go_at_call 14
              refine (all_any v _ (l.take k) server _ (slice_chg HSW.out (((Chg.refl wr).alloc (l := []) (fB 0)).drew)) HLT.out).mono ?_
              rintro e w2 ⟨he, h2⟩
              rw [(all_take (v := v) HOK.out).1, (all_take (v := v) HOK.out).2, fA_zero, ← HM.out] at he
              subst he
              have hc4 := (((Chg.refl wr).alloc (l := []) (fB 0)).drew).trans' h2
              have a4 := ha.chg hc4 (by simp)
              have n4 := hn.chg hc4 (by simp)
              have hb4 : Below W.heap.size W w2 := hbl.chg hc4 (Nat.le_refl _) (by simp)
              have t4 : V1 < w2.heap.size := a4.lt
              have t5 : V1 < w2.heap.size + 1 := by omega
              have t6 : N < w2.heap.size := n4.lt
              have t7 : N < w2.heap.size + 1 := by omega
              have c0 : World.cell? w2 ⟨V1, 0, none⟩ = some (.int .i64 (v).table) := (a4).cell rfl
              have c1 : World.cell? w2 ⟨V1, 1, none⟩ = some (.bool (v).push) := (a4).cell rfl
              have c2 : World.cell? w2 ⟨V1, 2, none⟩ = some (.int .i64 (v).streams) := (a4).cell rfl
              have c3 : World.cell? w2 ⟨V1, 3, none⟩ = some (.int .i64 (v).window) := (a4).cell rfl
              have c4 : World.cell? w2 ⟨V1, 4, none⟩ = some (.int .i64 (v).frame) := (a4).cell rfl
              have c5 : World.cell? w2 ⟨V1, 5, none⟩ = some (.int .i64 (v).list) := (a4).cell rfl
              unfold vA
              have bF : At w2 (wr).heap.size (fB 0) := ((At.new wr (fB 0)).drew).chg h2 (by simp)
              have tA : (wr).heap.size < w2.heap.size := bF.lt
              have z0 : World.cell? w2 ⟨(wr).heap.size, 0, none⟩ = some (.bool false) := bF.cell rfl
              have z1 : World.cell? w2 ⟨(wr).heap.size, 1, none⟩ = some (.int .u32 0) := bF.cell rfl
              have z2 : World.cell? w2 ⟨(wr).heap.size, 2, none⟩ = some (.int .i64 0) := bF.cell rfl
              have zf : ∀ j, World.frozen? w2 ⟨(wr).heap.size, j, none⟩ = false := fun j => bF.free j
              skip)
            | (
              go_at_call 14
              refine (all_any v _ (l.take k) server _ (slice_chg HSW.out ((((Chg.refl wr).alloc (l := []) (vB v0)).alloc (fB 0)).drew)) HLT.out).mono ?_
              rintro e w2 ⟨he, h2⟩
              rw [(all_take (v := v) HOK.out).1, (all_take (v := v) HOK.out).2, fA_zero, ← HM.out] at he
              subst he
              have hc4 := ((((Chg.refl wr).alloc (l := []) (vB v0)).alloc (fB 0)).drew).trans' h2
              have a4 := ha.chg hc4 (by simp)
              have n4 := hn.chg hc4 (by simp)
              have hb4 : Below W.heap.size W w2 := hbl.chg hc4 (Nat.le_refl _) (by simp)
              have t4 : V1 < w2.heap.size := a4.lt
              have t5 : V1 < w2.heap.size + 1 := by omega
              have t6 : N < w2.heap.size := n4.lt
              have t7 : N < w2.heap.size + 1 := by omega
              have c0 : World.cell? w2 ⟨V1, 0, none⟩ = some (.int .i64 (v).table) := (a4).cell rfl
              have c1 : World.cell? w2 ⟨V1, 1, none⟩ = some (.bool (v).push) := (a4).cell rfl
              have c2 : World.cell? w2 ⟨V1, 2, none⟩ = some (.int .i64 (v).streams) := (a4).cell rfl
              have c3 : World.cell? w2 ⟨V1, 3, none⟩ = some (.int .i64 (v).window) := (a4).cell rfl
              have c4 : World.cell? w2 ⟨V1, 4, none⟩ = some (.int .i64 (v).frame) := (a4).cell rfl
              have c5 : World.cell? w2 ⟨V1, 5, none⟩ = some (.int .i64 (v).list) := (a4).cell rfl
              unfold vA
              have bA : At w2 (wr).heap.size (vB v0) := (((At.new wr (vB v0)).alloc (fB 0)).drew).chg h2 (by simp)
              have bF : At w2 ((wr).heap.size + 1) (fB 0) := ((At.new' (w := (wr).alloc (vB v0)) (by simp)).drew).chg h2 (by simp)
              have tA : (wr).heap.size < w2.heap.size := bA.lt
              have tB : (wr).heap.size + 1 < w2.heap.size := bF.lt
              have y0 : World.cell? w2 ⟨(wr).heap.size, 0, none⟩ = some (.int .i64 v0.table) := bA.cell rfl
              have y1 : World.cell? w2 ⟨(wr).heap.size, 1, none⟩ = some (.bool v0.push) := bA.cell rfl
              have y2 : World.cell? w2 ⟨(wr).heap.size, 2, none⟩ = some (.int .i64 v0.streams) := bA.cell rfl
              have y3 : World.cell? w2 ⟨(wr).heap.size, 3, none⟩ = some (.int .i64 v0.window) := bA.cell rfl
              have y4 : World.cell? w2 ⟨(wr).heap.size, 4, none⟩ = some (.int .i64 v0.frame) := bA.cell rfl
              have y5 : World.cell? w2 ⟨(wr).heap.size, 5, none⟩ = some (.int .i64 v0.list) := bA.cell rfl
              have yf : ∀ j, World.frozen? w2 ⟨(wr).heap.size, j, none⟩ = false := fun j => bA.free j
              have z0 : World.cell? w2 ⟨(wr).heap.size + 1, 0, none⟩ = some (.bool false) := bF.cell rfl
              have z1 : World.cell? w2 ⟨(wr).heap.size + 1, 1, none⟩ = some (.int .u32 0) := bF.cell rfl
              have z2 : World.cell? w2 ⟨(wr).heap.size + 1, 2, none⟩ = some (.int .i64 0) := bF.cell rfl
              have zf : ∀ j, World.frozen? w2 ⟨(wr).heap.size + 1, j, none⟩ = false := fun j => bF.free j
              skip)
            | (
              go_at_call 14
              refine (all_any v _ (l.take k) server _ (slice_chg HSW.out ((((Chg.refl wr).alloc (l := []) (fB 0)).alloc (vB v0)).drew)) HLT.out).mono ?_
              rintro e w2 ⟨he, h2⟩
              rw [(all_take (v := v) HOK.out).1, (all_take (v := v) HOK.out).2, fA_zero, ← HM.out] at he
              subst he
              have hc4 := ((((Chg.refl wr).alloc (l := []) (fB 0)).alloc (vB v0)).drew).trans' h2
              have a4 := ha.chg hc4 (by simp)
              have n4 := hn.chg hc4 (by simp)
              have hb4 : Below W.heap.size W w2 := hbl.chg hc4 (Nat.le_refl _) (by simp)
              have t4 : V1 < w2.heap.size := a4.lt
              have t5 : V1 < w2.heap.size + 1 := by omega
              have t6 : N < w2.heap.size := n4.lt
              have t7 : N < w2.heap.size + 1 := by omega
              have c0 : World.cell? w2 ⟨V1, 0, none⟩ = some (.int .i64 (v).table) := (a4).cell rfl
              have c1 : World.cell? w2 ⟨V1, 1, none⟩ = some (.bool (v).push) := (a4).cell rfl
              have c2 : World.cell? w2 ⟨V1, 2, none⟩ = some (.int .i64 (v).streams) := (a4).cell rfl
              have c3 : World.cell? w2 ⟨V1, 3, none⟩ = some (.int .i64 (v).window) := (a4).cell rfl
              have c4 : World.cell? w2 ⟨V1, 4, none⟩ = some (.int .i64 (v).frame) := (a4).cell rfl
              have c5 : World.cell? w2 ⟨V1, 5, none⟩ = some (.int .i64 (v).list) := (a4).cell rfl
              unfold vA
              have bF : At w2 (wr).heap.size (fB 0) := (((At.new wr (fB 0)).alloc (vB v0)).drew).chg h2 (by simp)
              have bA : At w2 ((wr).heap.size + 1) (vB v0) := ((At.new' (w := (wr).alloc (fB 0)) (by simp)).drew).chg h2 (by simp)
              have tA : (wr).heap.size < w2.heap.size := bF.lt
              have tB : (wr).heap.size + 1 < w2.heap.size := bA.lt
              have y0 : World.cell? w2 ⟨(wr).heap.size + 1, 0, none⟩ = some (.int .i64 v0.table) := bA.cell rfl
              have y1 : World.cell? w2 ⟨(wr).heap.size + 1, 1, none⟩ = some (.bool v0.push) := bA.cell rfl
              have y2 : World.cell? w2 ⟨(wr).heap.size + 1, 2, none⟩ = some (.int .i64 v0.streams) := bA.cell rfl
              have y3 : World.cell? w2 ⟨(wr).heap.size + 1, 3, none⟩ = some (.int .i64 v0.window) := bA.cell rfl
              have y4 : World.cell? w2 ⟨(wr).heap.size + 1, 4, none⟩ = some (.int .i64 v0.frame) := bA.cell rfl
              have y5 : World.cell? w2 ⟨(wr).heap.size + 1, 5, none⟩ = some (.int .i64 v0.list) := bA.cell rfl
              have yf : ∀ j, World.frozen? w2 ⟨(wr).heap.size + 1, j, none⟩ = false := fun j => bA.free j
              have z0 : World.cell? w2 ⟨(wr).heap.size, 0, none⟩ = some (.bool false) := bF.cell rfl
              have z1 : World.cell? w2 ⟨(wr).heap.size, 1, none⟩ = some (.int .u32 0) := bF.cell rfl
              have z2 : World.cell? w2 ⟨(wr).heap.size, 2, none⟩ = some (.int .i64 0) := bF.cell rfl
              have zf : ∀ j, World.frozen? w2 ⟨(wr).heap.size, j, none⟩ = false := fun j => bF.free j
              skip)
            )
          all_goals (go_wp2_with fail; go_meet)
          · refine ⟨_, _, rfl, rfl, ?_, ?_, ?_, ?_, ?_⟩
            · exact (a4.alloc _).alloc _
            · exact (n4.alloc _).alloc _
            · exact (At.new w2 (vB m)).alloc (fB 0)
            · exact At.new' (w := w2.alloc (vB m)) (by simp)
            · skip
              (repeat (first | with_reducible exact hb4 | with_reducible refine Below.setCell ?_ (by dsimp only; have := HB.out; omega) _ | with_reducible refine Below.chg (l := []) ?_ ((Chg.refl _).alloc _) (Nat.le_refl _) (by simp)))
          · refine ⟨_, _, rfl, rfl, ?_, ?_, ?_, ?_, ?_⟩
            · exact (a4.alloc _).alloc _
            · exact (n4.alloc _).alloc _
            · exact At.new' (w := w2.alloc (fB 0)) (by simp)
            · exact (At.new w2 (fB 0)).alloc (vB m)
            · skip
              (repeat (first | with_reducible exact hb4 | with_reducible refine Below.setCell ?_ (by dsimp only; have := HB.out; omega) _ | with_reducible refine Below.chg (l := []) ?_ ((Chg.refl _).alloc _) (Nat.le_refl _) (by simp)))
          · refine ⟨_, _, rfl, rfl, ?_, ?_, ?_, ?_, ?_⟩
            · exact (At.six_ne a4 (by omega) m).alloc _
            · exact (At.six_ne n4 (by omega) m).alloc _
            · exact (At.six bA m).alloc _
            · exact At.new' (by simp [World.setCell])
            · skip
              (repeat (first | with_reducible exact hb4 | with_reducible refine Below.setCell ?_ (by dsimp only; have := HB.out; omega) _ | with_reducible refine Below.chg (l := []) ?_ ((Chg.refl _).alloc _) (Nat.le_refl _) (by simp)))
          · refine ⟨_, _, rfl, rfl, ?_, ?_, ?_, ?_, ?_⟩
            · exact At.three_ne0 (At.six_ne a4 (by omega) m) (by omega)
            · exact At.three_ne0 (At.six_ne n4 (by omega) m) (by omega)
            · exact At.three_ne0 (At.six bA m) (by omega)
            · exact At.three0 (At.six_ne bF (by omega) m)
            · skip
              (repeat (first | with_reducible exact hb4 | with_reducible refine Below.setCell ?_ (by dsimp only; have := HB.out; omega) _ | with_reducible refine Below.chg (l := []) ?_ ((Chg.refl _).alloc _) (Nat.le_refl _) (by simp)))
          · refine ⟨_, _, rfl, rfl, ?_, ?_, ?_, ?_, ?_⟩
            · exact (At.three_ne0 a4 (by omega)).alloc _
            · exact (At.three_ne0 n4 (by omega)).alloc _
            · exact At.new' (by simp [World.setCell])
            · exact (At.three0 bF).alloc _
            · skip
              (repeat (first | with_reducible exact hb4 | with_reducible refine Below.setCell ?_ (by dsimp only; have := HB.out; omega) _ | with_reducible refine Below.chg (l := []) ?_ ((Chg.refl _).alloc _) (Nat.le_refl _) (by simp)))
          · refine ⟨_, _, rfl, rfl, ?_, ?_, ?_, ?_, ?_⟩
            · exact At.three_ne0 (At.six_ne a4 (by omega) m) (by omega)
            · exact At.three_ne0 (At.six_ne n4 (by omega) m) (by omega)
            · exact At.three_ne0 (At.six bA m) (by omega)
            · exact At.three0 (At.six_ne bF (by omega) m)
            · skip
              (repeat (first | with_reducible exact hb4 | with_reducible refine Below.setCell ?_ (by dsimp only; have := HB.out; omega) _ | with_reducible refine Below.chg (l := []) ?_ ((Chg.refl _).alloc _) (Nat.le_refl _) (by simp)))
        case rest =>
          clear p0 p1 p2 p3 p4 p5 ha hn a3 n3 hbl tV0 tN tN1 tV tV1 ne1 ne2 ne3 ne4
          obtain ⟨B, C, rfl, rfl, ha, hn, hB, hC, hbl⟩ := hcut
          have q0 : World.cell? wc ⟨B, 0, none⟩ = some (.int .i64 (m).table) := (hB).cell rfl
          have q1 : World.cell? wc ⟨B, 1, none⟩ = some (.bool (m).push) := (hB).cell rfl
          have q2 : World.cell? wc ⟨B, 2, none⟩ = some (.int .i64 (m).streams) := (hB).cell rfl
          have q3 : World.cell? wc ⟨B, 3, none⟩ = some (.int .i64 (m).window) := (hB).cell rfl
          have q4 : World.cell? wc ⟨B, 4, none⟩ = some (.int .i64 (m).frame) := (hB).cell rfl
          have q5 : World.cell? wc ⟨B, 5, none⟩ = some (.int .i64 (m).list) := (hB).cell rfl
          have p0 : World.cell? wc ⟨N, 0, none⟩ = some (.int .i64 (m).table) := (hn).cell rfl
          have p1 : World.cell? wc ⟨N, 1, none⟩ = some (.bool (m).push) := (hn).cell rfl
          have p2 : World.cell? wc ⟨N, 2, none⟩ = some (.int .i64 (m).streams) := (hn).cell rfl
          have p3 : World.cell? wc ⟨N, 3, none⟩ = some (.int .i64 (m).window) := (hn).cell rfl
          have p4 : World.cell? wc ⟨N, 4, none⟩ = some (.int .i64 (m).frame) := (hn).cell rfl
          have p5 : World.cell? wc ⟨N, 5, none⟩ = some (.int .i64 (m).list) := (hn).cell rfl
          have g0 : World.cell? wc ⟨C, 0, none⟩ = some (.bool false) := hC.cell rfl
          have hbw : b < wc.heap.size := Nat.lt_of_lt_of_le hb hbl.size
          have s0 : World.cell? wc ⟨b, off + k * 2, none⟩ = some (.int .i64 z.id) := by rw [hbl.cell hb]; exact HCL.out k z HZ.out 0 (by omega)
          have s1 : World.cell? wc ⟨b, off + k * 2 + 1, none⟩ = some (.int .u32 z.val) := by rw [hbl.cell hb]; exact HCL.out k z HZ.out 1 (by omega)
          have tV0 := ha.lt; have tN := hn.lt
          have tV1' : V1 < wc.heap.size + 1 := by omega
          have me1 : ¬ V1 = wc.heap.size := by omega
          have me2 : ¬ V1 = wc.heap.size + 1 := by omega
          have tV : N < (wc).heap.size := by omega
          have tV1 : N < (wc).heap.size + 1 := by omega
          have ne1 : ¬ N = (wc).heap.size := by omega
          have ne2 : ¬ N = (wc).heap.size + 1 := by omega
          have ne3 : ¬ (wc).heap.size = N := by omega
          have ne4 : ¬ (wc).heap.size + 1 = N := by omega
          have be1 : ¬ b = wc.heap.size := by omega
          have be2 : ¬ b = wc.heap.size + 1 := by omega
          have be3 : b < wc.heap.size + 1 := by omega
          have be4 : ¬ wc.heap.size = b := by omega
          have be5 : ¬ wc.heap.size + 1 = b := by omega
          obtain ⟨m2, hm2⟩ : ∃ m2, m2 = applyV m z server := ⟨_, rfl⟩
          obtain ⟨c, hcc⟩ : ∃ c, c = wrongC z server := ⟨_, rfl⟩
          obtain ⟨fb, hfb⟩ : ∃ fb : Bool, fb = decide (c ≠ 0) := ⟨_, rfl⟩
          have HFA : Hid (fA c = #[.bool fb, .int .u32 c, .int .i64 0]) := Lib.hid (by rw [hfb]; rfl)
          have HM2 := Lib.hid hm2; have HCC := Lib.hid hcc; have HFB := Lib.hid hfb
          clear hm2 hcc hfb
          go_upto_region 9 with fail
          clear q0 q1 q2 q3 q4 q5 g0 hB hC
          go_cut [12, 13] (fun p q wx => ∃ D E : Nat, p = .pointer (some ⟨D, 0, none⟩) ∧ q = .pointer (some ⟨E, 0, none⟩) ∧ At wx V1 (vB v) ∧ At wx N (vB m) ∧ At wx D (vB m2) ∧ At wx E (fX fb c) ∧ Below W.heap.size W wx)
          case first =>
            go_region_held3 (fun w' => World.cell? w' ⟨N, 0, none⟩ = some (.int .i64 m.table) ∧ World.cell? w' ⟨N, 1, none⟩ = some (.bool m.push) ∧ World.cell? w' ⟨N, 2, none⟩ = some (.int .i64 m.streams) ∧ World.cell? w' ⟨N, 3, none⟩ = some (.int .i64 m.window) ∧ World.cell? w' ⟨N, 4, none⟩ = some (.int .i64 m.frame) ∧ World.cell? w' ⟨N, 5, none⟩ = some (.int .i64 m.list) ∧ World.cell? w' ⟨b, off + k * 2, none⟩ = some (.int .i64 z.id) ∧ World.cell? w' ⟨b, off + k * 2 + 1, none⟩ = some (.int .u32 z.val)) (go_keep) (first
              | (
                go_at_call 13
                refine (apply_any m z server _ HZO.out).mono ?_
                rintro e w2 ⟨he, h2⟩
                rw [← HM2.out, ← HCC.out, HFA.out] at he
                subst he
                have hc4 := ((Chg.refl wc).drew).trans' h2
                have a4 := ha.chg hc4 (by simp)
                have n4 := hn.chg hc4 (by simp)
                have hb4 : Below W.heap.size W w2 := hbl.chg hc4 (Nat.le_refl _) (by simp)
                have t4 : V1 < w2.heap.size := a4.lt
                have t5 : V1 < w2.heap.size + 1 := by omega
                have t6 : N < w2.heap.size := n4.lt
                have t7 : N < w2.heap.size + 1 := by omega
                have c0 : World.cell? w2 ⟨N, 0, none⟩ = some (.int .i64 (m).table) := (n4).cell rfl
                have c1 : World.cell? w2 ⟨N, 1, none⟩ = some (.bool (m).push) := (n4).cell rfl
                have c2 : World.cell? w2 ⟨N, 2, none⟩ = some (.int .i64 (m).streams) := (n4).cell rfl
                have c3 : World.cell? w2 ⟨N, 3, none⟩ = some (.int .i64 (m).window) := (n4).cell rfl
                have c4 : World.cell? w2 ⟨N, 4, none⟩ = some (.int .i64 (m).frame) := (n4).cell rfl
                have c5 : World.cell? w2 ⟨N, 5, none⟩ = some (.int .i64 (m).list) := (n4).cell rfl
                have t8 : b < w2.heap.size := by have := hc4.size; omega
                have t9 : b < w2.heap.size + 1 := by omega
                have s4 : World.cell? w2 ⟨b, off + k * 2, none⟩ = some (.int .i64 z.id) := by rw [hc4.cell hbw (by simp)]; exact s0
                have s5 : World.cell? w2 ⟨b, off + k * 2 + 1, none⟩ = some (.int .u32 z.val) := by rw [hc4.cell hbw (by simp)]; exact s1
                unfold vA
                skip)
              | (
                go_at_call 13
                refine (apply_any m z server _ HZO.out).mono ?_
                rintro e w2 ⟨he, h2⟩
                rw [← HM2.out, ← HCC.out, HFA.out] at he
                subst he
                have hc4 := (((Chg.refl wc).alloc (l := []) (vB v0)).drew).trans' h2
                have a4 := ha.chg hc4 (by simp)
                have n4 := hn.chg hc4 (by simp)
                have hb4 : Below W.heap.size W w2 := hbl.chg hc4 (Nat.le_refl _) (by simp)
                have t4 : V1 < w2.heap.size := a4.lt
                have t5 : V1 < w2.heap.size + 1 := by omega
                have t6 : N < w2.heap.size := n4.lt
                have t7 : N < w2.heap.size + 1 := by omega
                have c0 : World.cell? w2 ⟨N, 0, none⟩ = some (.int .i64 (m).table) := (n4).cell rfl
                have c1 : World.cell? w2 ⟨N, 1, none⟩ = some (.bool (m).push) := (n4).cell rfl
                have c2 : World.cell? w2 ⟨N, 2, none⟩ = some (.int .i64 (m).streams) := (n4).cell rfl
                have c3 : World.cell? w2 ⟨N, 3, none⟩ = some (.int .i64 (m).window) := (n4).cell rfl
                have c4 : World.cell? w2 ⟨N, 4, none⟩ = some (.int .i64 (m).frame) := (n4).cell rfl
                have c5 : World.cell? w2 ⟨N, 5, none⟩ = some (.int .i64 (m).list) := (n4).cell rfl
                have t8 : b < w2.heap.size := by have := hc4.size; omega
                have t9 : b < w2.heap.size + 1 := by omega
                have s4 : World.cell? w2 ⟨b, off + k * 2, none⟩ = some (.int .i64 z.id) := by rw [hc4.cell hbw (by simp)]; exact s0
                have s5 : World.cell? w2 ⟨b, off + k * 2 + 1, none⟩ = some (.int .u32 z.val) := by rw [hc4.cell hbw (by simp)]; exact s1
                unfold vA
                have bA : At w2 (wc).heap.size (vB v0) := ((At.new wc (vB v0)).drew).chg h2 (by simp)
                have tA : (wc).heap.size < w2.heap.size := bA.lt
                have y0 : World.cell? w2 ⟨(wc).heap.size, 0, none⟩ = some (.int .i64 v0.table) := bA.cell rfl
                have y1 : World.cell? w2 ⟨(wc).heap.size, 1, none⟩ = some (.bool v0.push) := bA.cell rfl
                have y2 : World.cell? w2 ⟨(wc).heap.size, 2, none⟩ = some (.int .i64 v0.streams) := bA.cell rfl
                have y3 : World.cell? w2 ⟨(wc).heap.size, 3, none⟩ = some (.int .i64 v0.window) := bA.cell rfl
                have y4 : World.cell? w2 ⟨(wc).heap.size, 4, none⟩ = some (.int .i64 v0.frame) := bA.cell rfl
                have y5 : World.cell? w2 ⟨(wc).heap.size, 5, none⟩ = some (.int .i64 v0.list) := bA.cell rfl
                have yf : ∀ j, World.frozen? w2 ⟨(wc).heap.size, j, none⟩ = false := fun j => bA.free j
                skip)
              | (
                go_at_call 13
                refine (apply_any m z server _ HZO.out).mono ?_
                rintro e w2 ⟨he, h2⟩
                rw [← HM2.out, ← HCC.out, HFA.out] at he
                subst he
                have hc4 := (((Chg.refl wc).alloc (l := []) (fB 0)).drew).trans' h2
                have a4 := ha.chg hc4 (by simp)
                have n4 := hn.chg hc4 (by simp)
                have hb4 : Below W.heap.size W w2 := hbl.chg hc4 (Nat.le_refl _) (by simp)
                have t4 : V1 < w2.heap.size := a4.lt
                have t5 : V1 < w2.heap.size + 1 := by omega
                have t6 : N < w2.heap.size := n4.lt
                have t7 : N < w2.heap.size + 1 := by omega
                have c0 : World.cell? w2 ⟨N, 0, none⟩ = some (.int .i64 (m).table) := (n4).cell rfl
                have c1 : World.cell? w2 ⟨N, 1, none⟩ = some (.bool (m).push) := (n4).cell rfl
                have c2 : World.cell? w2 ⟨N, 2, none⟩ = some (.int .i64 (m).streams) := (n4).cell rfl
                have c3 : World.cell? w2 ⟨N, 3, none⟩ = some (.int .i64 (m).window) := (n4).cell rfl
                have c4 : World.cell? w2 ⟨N, 4, none⟩ = some (.int .i64 (m).frame) := (n4).cell rfl
                have c5 : World.cell? w2 ⟨N, 5, none⟩ = some (.int .i64 (m).list) := (n4).cell rfl
                have t8 : b < w2.heap.size := by have := hc4.size; omega
                have t9 : b < w2.heap.size + 1 := by omega
                have s4 : World.cell? w2 ⟨b, off + k * 2, none⟩ = some (.int .i64 z.id) := by rw [hc4.cell hbw (by simp)]; exact s0
                have s5 : World.cell? w2 ⟨b, off + k * 2 + 1, none⟩ = some (.int .u32 z.val) := by rw [hc4.cell hbw (by simp)]; exact s1
                unfold vA
                have bF : At w2 (wc).heap.size (fB 0) := ((At.new wc (fB 0)).drew).chg h2 (by simp)
                have tA : (wc).heap.size < w2.heap.size := bF.lt
                have z0 : World.cell? w2 ⟨(wc).heap.size, 0, none⟩ = some (.bool false) := bF.cell rfl
                have z1 : World.cell? w2 ⟨(wc).heap.size, 1, none⟩ = some (.int .u32 0) := bF.cell rfl
                have z2 : World.cell? w2 ⟨(wc).heap.size, 2, none⟩ = some (.int .i64 0) := bF.cell rfl
                have zf : ∀ j, World.frozen? w2 ⟨(wc).heap.size, j, none⟩ = false := fun j => bF.free j
                skip)
              | (
                go_at_call 13
                refine (apply_any m z server _ HZO.out).mono ?_
                rintro e w2 ⟨he, h2⟩
                rw [← HM2.out, ← HCC.out, HFA.out] at he
                subst he
                have hc4 := ((((Chg.refl wc).alloc (l := []) (vB v0)).alloc (fB 0)).drew).trans' h2
                have a4 := ha.chg hc4 (by simp)
                have n4 := hn.chg hc4 (by simp)
                have hb4 : Below W.heap.size W w2 := hbl.chg hc4 (Nat.le_refl _) (by simp)
                have t4 : V1 < w2.heap.size := a4.lt
                have t5 : V1 < w2.heap.size + 1 := by omega
                have t6 : N < w2.heap.size := n4.lt
                have t7 : N < w2.heap.size + 1 := by omega
                have c0 : World.cell? w2 ⟨N, 0, none⟩ = some (.int .i64 (m).table) := (n4).cell rfl
                have c1 : World.cell? w2 ⟨N, 1, none⟩ = some (.bool (m).push) := (n4).cell rfl
                have c2 : World.cell? w2 ⟨N, 2, none⟩ = some (.int .i64 (m).streams) := (n4).cell rfl
                have c3 : World.cell? w2 ⟨N, 3, none⟩ = some (.int .i64 (m).window) := (n4).cell rfl
                have c4 : World.cell? w2 ⟨N, 4, none⟩ = some (.int .i64 (m).frame) := (n4).cell rfl
                have c5 : World.cell? w2 ⟨N, 5, none⟩ = some (.int .i64 (m).list) := (n4).cell rfl
                have t8 : b < w2.heap.size := by have := hc4.size; omega
                have t9 : b < w2.heap.size + 1 := by omega
                have s4 : World.cell? w2 ⟨b, off + k * 2, none⟩ = some (.int .i64 z.id) := by rw [hc4.cell hbw (by simp)]; exact s0
                have s5 : World.cell? w2 ⟨b, off + k * 2 + 1, none⟩ = some (.int .u32 z.val) := by rw [hc4.cell hbw (by simp)]; exact s1
                unfold vA
                have bA : At w2 (wc).heap.size (vB v0) := (((At.new wc (vB v0)).alloc (fB 0)).drew).chg h2 (by simp)
                have bF : At w2 ((wc).heap.size + 1) (fB 0) := ((At.new' (w := (wc).alloc (vB v0)) (by simp)).drew).chg h2 (by simp)
                have tA : (wc).heap.size < w2.heap.size := bA.lt
                have tB : (wc).heap.size + 1 < w2.heap.size := bF.lt
                have y0 : World.cell? w2 ⟨(wc).heap.size, 0, none⟩ = some (.int .i64 v0.table) := bA.cell rfl
                have y1 : World.cell? w2 ⟨(wc).heap.size, 1, none⟩ = some (.bool v0.push) := bA.cell rfl
                have y2 : World.cell? w2 ⟨(wc).heap.size, 2, none⟩ = some (.int .i64 v0.streams) := bA.cell rfl
                have y3 : World.cell? w2 ⟨(wc).heap.size, 3, none⟩ = some (.int .i64 v0.window) := bA.cell rfl
                have y4 : World.cell? w2 ⟨(wc).heap.size, 4, none⟩ = some (.int .i64 v0.frame) := bA.cell rfl
                have y5 : World.cell? w2 ⟨(wc).heap.size, 5, none⟩ = some (.int .i64 v0.list) := bA.cell rfl
                have yf : ∀ j, World.frozen? w2 ⟨(wc).heap.size, j, none⟩ = false := fun j => bA.free j
                have z0 : World.cell? w2 ⟨(wc).heap.size + 1, 0, none⟩ = some (.bool false) := bF.cell rfl
                have z1 : World.cell? w2 ⟨(wc).heap.size + 1, 1, none⟩ = some (.int .u32 0) := bF.cell rfl
                have z2 : World.cell? w2 ⟨(wc).heap.size + 1, 2, none⟩ = some (.int .i64 0) := bF.cell rfl
                have zf : ∀ j, World.frozen? w2 ⟨(wc).heap.size + 1, j, none⟩ = false := fun j => bF.free j
                skip)
              | (
                go_at_call 13
                refine (apply_any m z server _ HZO.out).mono ?_
                rintro e w2 ⟨he, h2⟩
                rw [← HM2.out, ← HCC.out, HFA.out] at he
                subst he
                have hc4 := ((((Chg.refl wc).alloc (l := []) (fB 0)).alloc (vB v0)).drew).trans' h2
                have a4 := ha.chg hc4 (by simp)
                have n4 := hn.chg hc4 (by simp)
                have hb4 : Below W.heap.size W w2 := hbl.chg hc4 (Nat.le_refl _) (by simp)
                have t4 : V1 < w2.heap.size := a4.lt
                have t5 : V1 < w2.heap.size + 1 := by omega
                have t6 : N < w2.heap.size := n4.lt
                have t7 : N < w2.heap.size + 1 := by omega
                have c0 : World.cell? w2 ⟨N, 0, none⟩ = some (.int .i64 (m).table) := (n4).cell rfl
                have c1 : World.cell? w2 ⟨N, 1, none⟩ = some (.bool (m).push) := (n4).cell rfl
                have c2 : World.cell? w2 ⟨N, 2, none⟩ = some (.int .i64 (m).streams) := (n4).cell rfl
                have c3 : World.cell? w2 ⟨N, 3, none⟩ = some (.int .i64 (m).window) := (n4).cell rfl
                have c4 : World.cell? w2 ⟨N, 4, none⟩ = some (.int .i64 (m).frame) := (n4).cell rfl
                have c5 : World.cell? w2 ⟨N, 5, none⟩ = some (.int .i64 (m).list) := (n4).cell rfl
                have t8 : b < w2.heap.size := by have := hc4.size; omega
                have t9 : b < w2.heap.size + 1 := by omega
                have s4 : World.cell? w2 ⟨b, off + k * 2, none⟩ = some (.int .i64 z.id) := by rw [hc4.cell hbw (by simp)]; exact s0
                have s5 : World.cell? w2 ⟨b, off + k * 2 + 1, none⟩ = some (.int .u32 z.val) := by rw [hc4.cell hbw (by simp)]; exact s1
                unfold vA
                have bF : At w2 (wc).heap.size (fB 0) := (((At.new wc (fB 0)).alloc (vB v0)).drew).chg h2 (by simp)
                have bA : At w2 ((wc).heap.size + 1) (vB v0) := ((At.new' (w := (wc).alloc (fB 0)) (by simp)).drew).chg h2 (by simp)
                have tA : (wc).heap.size < w2.heap.size := bF.lt
                have tB : (wc).heap.size + 1 < w2.heap.size := bA.lt
                have y0 : World.cell? w2 ⟨(wc).heap.size + 1, 0, none⟩ = some (.int .i64 v0.table) := bA.cell rfl
                have y1 : World.cell? w2 ⟨(wc).heap.size + 1, 1, none⟩ = some (.bool v0.push) := bA.cell rfl
                have y2 : World.cell? w2 ⟨(wc).heap.size + 1, 2, none⟩ = some (.int .i64 v0.streams) := bA.cell rfl
                have y3 : World.cell? w2 ⟨(wc).heap.size + 1, 3, none⟩ = some (.int .i64 v0.window) := bA.cell rfl
                have y4 : World.cell? w2 ⟨(wc).heap.size + 1, 4, none⟩ = some (.int .i64 v0.frame) := bA.cell rfl
                have y5 : World.cell? w2 ⟨(wc).heap.size + 1, 5, none⟩ = some (.int .i64 v0.list) := bA.cell rfl
                have yf : ∀ j, World.frozen? w2 ⟨(wc).heap.size + 1, j, none⟩ = false := fun j => bA.free j
                have z0 : World.cell? w2 ⟨(wc).heap.size, 0, none⟩ = some (.bool false) := bF.cell rfl
                have z1 : World.cell? w2 ⟨(wc).heap.size, 1, none⟩ = some (.int .u32 0) := bF.cell rfl
                have z2 : World.cell? w2 ⟨(wc).heap.size, 2, none⟩ = some (.int .i64 0) := bF.cell rfl
                have zf : ∀ j, World.frozen? w2 ⟨(wc).heap.size, j, none⟩ = false := fun j => bF.free j
                skip)
              )
            all_goals (go_wp2_with fail; go_meet)
            · refine ⟨_, _, rfl, rfl, ?_, ?_, ?_, ?_, ?_⟩
              · exact (a4.alloc _).alloc _
              · exact (n4.alloc _).alloc _
              · exact (At.new w2 (vB m2)).alloc (fX fb c)
              · exact At.new' (w := w2.alloc (vB m2)) (by simp)
              · skip
                (repeat (first | with_reducible exact hb4 | with_reducible refine Below.setCell ?_ (by dsimp only; have := HB.out; omega) _ | with_reducible refine Below.chg (l := []) ?_ ((Chg.refl _).alloc _) (Nat.le_refl _) (by simp)))
            · refine ⟨_, _, rfl, rfl, ?_, ?_, ?_, ?_, ?_⟩
              · exact (a4.alloc _).alloc _
              · exact (n4.alloc _).alloc _
              · exact At.new' (w := w2.alloc (fX fb c)) (by simp)
              · exact (At.new w2 (fX fb c)).alloc (vB m2)
              · skip
                (repeat (first | with_reducible exact hb4 | with_reducible refine Below.setCell ?_ (by dsimp only; have := HB.out; omega) _ | with_reducible refine Below.chg (l := []) ?_ ((Chg.refl _).alloc _) (Nat.le_refl _) (by simp)))
            · refine ⟨_, _, rfl, rfl, ?_, ?_, ?_, ?_, ?_⟩
              · exact (At.six_ne a4 (by omega) m2).alloc _
              · exact (At.six_ne n4 (by omega) m2).alloc _
              · exact (At.six bA m2).alloc _
              · exact At.new' (by simp [World.setCell])
              · skip
                (repeat (first | with_reducible exact hb4 | with_reducible refine Below.setCell ?_ (by dsimp only; have := HB.out; omega) _ | with_reducible refine Below.chg (l := []) ?_ ((Chg.refl _).alloc _) (Nat.le_refl _) (by simp)))
            · refine ⟨_, _, rfl, rfl, ?_, ?_, ?_, ?_, ?_⟩
              · exact At.three_ne (At.six_ne a4 (by omega) m2) (by omega) fb c
              · exact At.three_ne (At.six_ne n4 (by omega) m2) (by omega) fb c
              · exact At.three_ne (At.six bA m2) (by omega) fb c
              · exact At.three (At.six_ne bF (by omega) m2) fb c
              · skip
                (repeat (first | with_reducible exact hb4 | with_reducible refine Below.setCell ?_ (by dsimp only; have := HB.out; omega) _ | with_reducible refine Below.chg (l := []) ?_ ((Chg.refl _).alloc _) (Nat.le_refl _) (by simp)))
            · refine ⟨_, _, rfl, rfl, ?_, ?_, ?_, ?_, ?_⟩
              · exact (At.three_ne a4 (by omega) fb c).alloc _
              · exact (At.three_ne n4 (by omega) fb c).alloc _
              · exact At.new' (by simp [World.setCell])
              · exact (At.three bF fb c).alloc _
              · skip
                (repeat (first | with_reducible exact hb4 | with_reducible refine Below.setCell ?_ (by dsimp only; have := HB.out; omega) _ | with_reducible refine Below.chg (l := []) ?_ ((Chg.refl _).alloc _) (Nat.le_refl _) (by simp)))
            · refine ⟨_, _, rfl, rfl, ?_, ?_, ?_, ?_, ?_⟩
              · exact At.three_ne (At.six_ne a4 (by omega) m2) (by omega) fb c
              · exact At.three_ne (At.six_ne n4 (by omega) m2) (by omega) fb c
              · exact At.three_ne (At.six bA m2) (by omega) fb c
              · exact At.three (At.six_ne bF (by omega) m2) fb c
              · skip
                (repeat (first | with_reducible exact hb4 | with_reducible refine Below.setCell ?_ (by dsimp only; have := HB.out; omega) _ | with_reducible refine Below.chg (l := []) ?_ ((Chg.refl _).alloc _) (Nat.le_refl _) (by simp)))
          case rest =>
            clear p0 p1 p2 p3 p4 p5 ha hn hbl tV0 tV1' tN tV tV1 ne1 ne2 ne3 ne4 be1 be2 be3 be4 be5 me1 me2 s0 s1 hbw
            obtain ⟨D, E, rfl, rfl, ha, hn, hd3, he3, hbl⟩ := hcut
            have g0 : World.cell? wc ⟨E, 0, none⟩ = some (.bool fb) := he3.cell rfl
            by_cases hw0 : wrongC z server = 0
            · have hfb : fb = false := by rw [HFB.out, HCC.out, hw0]; rfl
              have hm2 : m2 = nowK v l (k + 1) := by
                rw [nowK_succ v l k z HZ.out, ← HM.out, HM2.out]; unfold applyV; rw [if_pos hw0]
              have hok2 : ∀ (i : Nat) (t : S), i < k + 1 → l[i]? = some t → wrongC t server = 0 := by
                intro i t hi ht
                rcases Nat.lt_or_eq_of_le (Nat.le_of_lt_succ hi) with h | h
                · exact HOK.out i t h ht
                · rw [h, HZ.out] at ht; obtain rfl := Option.some.inj ht; exact hw0
              subst hfb
              have HM3 := Lib.hid hm2; have HOK2 := Lib.hid hok2
              clear hm2 hok2 hw0
              have q0 : World.cell? wc ⟨D, 0, none⟩ = some (.int .i64 (m2).table) := (hd3).cell rfl
              have q1 : World.cell? wc ⟨D, 1, none⟩ = some (.bool (m2).push) := (hd3).cell rfl
              have q2 : World.cell? wc ⟨D, 2, none⟩ = some (.int .i64 (m2).streams) := (hd3).cell rfl
              have q3 : World.cell? wc ⟨D, 3, none⟩ = some (.int .i64 (m2).window) := (hd3).cell rfl
              have q4 : World.cell? wc ⟨D, 4, none⟩ = some (.int .i64 (m2).frame) := (hd3).cell rfl
              have q5 : World.cell? wc ⟨D, 5, none⟩ = some (.int .i64 (m2).list) := (hd3).cell rfl
              have p0 : World.cell? wc ⟨N, 0, none⟩ = some (.int .i64 (m).table) := (hn).cell rfl
              have p1 : World.cell? wc ⟨N, 1, none⟩ = some (.bool (m).push) := (hn).cell rfl
              have p2 : World.cell? wc ⟨N, 2, none⟩ = some (.int .i64 (m).streams) := (hn).cell rfl
              have p3 : World.cell? wc ⟨N, 3, none⟩ = some (.int .i64 (m).window) := (hn).cell rfl
              have p4 : World.cell? wc ⟨N, 4, none⟩ = some (.int .i64 (m).frame) := (hn).cell rfl
              have p5 : World.cell? wc ⟨N, 5, none⟩ = some (.int .i64 (m).list) := (hn).cell rfl
              have pf : ∀ j, World.frozen? wc ⟨N, j, none⟩ = false := fun j => hn.free j
              have hVN : ¬ V1 = N := by have := HVN.out; omega
              have HVN2 := Lib.hid hVN
              clear hVN
              go_wp2_with fail
              go_roundw
              case rel =>
                refine ⟨k + 1, by omega, by go_num, At.six_ne ha HVN2.out m2, by rw [← HM3.out]; exact At.six hn m2, HOK2.out, ?_⟩
                (repeat (refine Below.setCell ?_ (by dsimp only; have := HB.out; have := HVN.out; omega) _)); exact hbl
              case measure => simp [intOf]; omega
            · have hfb : fb = true := by rw [HFB.out, HCC.out]; simp [hw0]
              have hm2 : m2 = m := by rw [HM2.out]; unfold applyV; rw [if_neg hw0]
              obtain ⟨q1, q2⟩ := all_first (v := v) HOK.out HZ.out hw0
              have HQ1 := Lib.hid (q1.trans HCC.out.symm); have HQ2 := Lib.hid q2
              rw [hm2] at hd3
              clear hm2 q1 q2 hw0
              subst hfb
              have HSW : Hid (SliceOf wc (.slice (some ⟨b, off, none⟩) l.length cap) 2 encS l) := Lib.hid (slice_below HS.out hbl)
              have p0 : World.cell? wc ⟨V1, 0, none⟩ = some (.int .i64 (v).table) := (ha).cell rfl
              have p1 : World.cell? wc ⟨V1, 1, none⟩ = some (.bool (v).push) := (ha).cell rfl
              have p2 : World.cell? wc ⟨V1, 2, none⟩ = some (.int .i64 (v).streams) := (ha).cell rfl
              have p3 : World.cell? wc ⟨V1, 3, none⟩ = some (.int .i64 (v).window) := (ha).cell rfl
              have p4 : World.cell? wc ⟨V1, 4, none⟩ = some (.int .i64 (v).frame) := (ha).cell rfl
              have p5 : World.cell? wc ⟨V1, 5, none⟩ = some (.int .i64 (v).list) := (ha).cell rfl
              have tV0 := ha.lt; have tN := hn.lt
              have tD := hd3.lt; have tE := he3.lt
              have tN1 : N < wc.heap.size + 1 := by omega
              have tV : V1 < (wc).heap.size := by omega
              have tV1 : V1 < (wc).heap.size + 1 := by omega
              have ne1 : ¬ V1 = (wc).heap.size := by omega
              have ne2 : ¬ V1 = (wc).heap.size + 1 := by omega
              have ne3 : ¬ (wc).heap.size = V1 := by omega
              have ne4 : ¬ (wc).heap.size + 1 = V1 := by omega
              go_wp2_with fail
              refine (all_any v _ l server _ HSW.out HLO.out).mono ?_
              rintro e w2 ⟨he, h2⟩
              rw [HQ1.out, HQ2.out, HFA.out] at he
              subst he
              have a4 := ha.chg h2 (by simp)
              have n4 := hn.chg h2 (by simp)
              have d4 := hd3.chg h2 (by simp)
              have e4 := he3.chg h2 (by simp)
              have hb4 : Below W.heap.size W w2 := hbl.chg h2 (Nat.le_refl _) (by simp)
              clear p0 p1 p2 p3 p4 p5 ha hn hd3 he3 hbl tV0 tN tN1 tD tE tV tV1 ne1 ne2 ne3 ne4 h2 g0
              have t1 := a4.lt; have t2 := n4.lt; have t3 := d4.lt; have t4 := e4.lt
              have t5 : V1 < w2.heap.size + 1 := by omega
              have t6 : N < w2.heap.size + 1 := by omega
              have t7 : D < w2.heap.size + 1 := by omega
              have t8 : E < w2.heap.size + 1 := by omega
              have p0 : World.cell? w2 ⟨V1, 0, none⟩ = some (.int .i64 (v).table) := (a4).cell rfl
              have p1 : World.cell? w2 ⟨V1, 1, none⟩ = some (.bool (v).push) := (a4).cell rfl
              have p2 : World.cell? w2 ⟨V1, 2, none⟩ = some (.int .i64 (v).streams) := (a4).cell rfl
              have p3 : World.cell? w2 ⟨V1, 3, none⟩ = some (.int .i64 (v).window) := (a4).cell rfl
              have p4 : World.cell? w2 ⟨V1, 4, none⟩ = some (.int .i64 (v).frame) := (a4).cell rfl
              have p5 : World.cell? w2 ⟨V1, 5, none⟩ = some (.int .i64 (v).list) := (a4).cell rfl
              have q0 : World.cell? w2 ⟨N, 0, none⟩ = some (.int .i64 (m).table) := (n4).cell rfl
              have q1 : World.cell? w2 ⟨N, 1, none⟩ = some (.bool (m).push) := (n4).cell rfl
              have q2 : World.cell? w2 ⟨N, 2, none⟩ = some (.int .i64 (m).streams) := (n4).cell rfl
              have q3 : World.cell? w2 ⟨N, 3, none⟩ = some (.int .i64 (m).window) := (n4).cell rfl
              have q4 : World.cell? w2 ⟨N, 4, none⟩ = some (.int .i64 (m).frame) := (n4).cell rfl
              have q5 : World.cell? w2 ⟨N, 5, none⟩ = some (.int .i64 (m).list) := (n4).cell rfl
              have s0 : World.cell? w2 ⟨D, 0, none⟩ = some (.int .i64 (m).table) := (d4).cell rfl
              have s1 : World.cell? w2 ⟨D, 1, none⟩ = some (.bool (m).push) := (d4).cell rfl
              have s2 : World.cell? w2 ⟨D, 2, none⟩ = some (.int .i64 (m).streams) := (d4).cell rfl
              have s3 : World.cell? w2 ⟨D, 3, none⟩ = some (.int .i64 (m).window) := (d4).cell rfl
              have s4 : World.cell? w2 ⟨D, 4, none⟩ = some (.int .i64 (m).frame) := (d4).cell rfl
              have s5 : World.cell? w2 ⟨D, 5, none⟩ = some (.int .i64 (m).list) := (d4).cell rfl
              have x0 : World.cell? w2 ⟨E, 0, none⟩ = some (.bool true) := e4.cell rfl
              have x1 : World.cell? w2 ⟨E, 1, none⟩ = some (.int .u32 c) := e4.cell rfl
              have x2 : World.cell? w2 ⟨E, 2, none⟩ = some (.int .i64 0) := e4.cell rfl
              unfold vA
              go_wp2_with fail
              go_ret
              refine ⟨by simp, ?_⟩
              (repeat (first | with_reducible exact hb4 | with_reducible refine Below.setCell ?_ (by dsimp only; have := HB.out; omega) _ | with_reducible refine Below.chg (l := []) ?_ ((Chg.refl _).alloc _) (Nat.le_refl _) (by simp)))
      · go_wp2_with fail
        go_ret
        exact ⟨rfl, hbl⟩
    · go_wp2_with fail
      go_ret
      exact ⟨rfl, hbl⟩

/-! ### The row's step -/
theorem own : ownKnob Try.prog.godebug = none := by kernel_rfl
theorem laid : laidOutB Try.prog = true := by kernel_rfl

set_option maxRecDepth 100000 in
theorem lifted (os : Os) (started : os.Started) (H : Type) (enc : TypeId × Value → H) :
    ReturnsInHanded {} Try.checked os 7 .any (Rows.settingsOrderSpec.pre6 enc Try.prog Try.f7 Rows.settingsOrderRow.domain false) (Rows.settingsOrderSpec.post enc Try.prog Try.f7 false true false false) := by
  refine lift_law (C := Try.checked) (tb := 4) own started (by kernel_rfl) Try.func7
    (ChangeSpec.witness6 (enc := enc) (C := Try.checked) false ⟨#[], #[.agg #[.int .i64 0, .bool false, .int .i64 0, .int .i64 0, .int .i64 0, .int .i64 0], .slice none 0 0, .bool false], []⟩ 8 (by kernel_rfl) (by kernel_rfl) (by kernel_rfl) (by kernel_rfl))
    laid (by rw [Try.params7]; intro t ht; simp only [List.mem_cons, List.not_mem_nil, or_false] at ht; rcases ht with rfl | rfl | rfl <;> exact ⟨by kernel_rfl, of_decide_eq_true (by kernel_rfl)⟩) (by kernel_rfl) Try.underlying4 rfl
    (fun ds h => by rw [Try.params7] at h; match ds, h with | [d0, d1, d2], _ => rfl) ?_
  intro W base args ds before hval hA hlt hsz
  rw [Try.params7] at hA hval
  try rw [Try.params7] at hsz
  have hlt0 := hlt
  obtain ⟨v0, vs0, d0, ds0, p0, q0, hargs, rfl, rfl, h0, r0⟩ := trodAll_cons hA
  obtain ⟨v1, vs1, d1, ds1, p1, q1, rfl, rfl, rfl, h1, r1⟩ := trodAll_cons r0
  obtain ⟨v2, vs2, d2, ds2, p2, q2, rfl, rfl, rfl, h2, r2⟩ := trodAll_cons r1
  obtain ⟨rfl, rfl, rfl⟩ := trodAll_nil r2
  obtain rfl : args = #[v0, v1, v2] := by cases args; simp_all
  have l0 : ∀ p ∈ p0, p.block < W.heap.size := fun x hx => hlt x (by simp [hx])
  have l1 : ∀ p ∈ p1, p.block < W.heap.size := fun x hx => hlt x (by simp [hx])
  have l2 : ∀ p ∈ p2, p.block < W.heap.size := fun x hx => hlt x (by simp [hx])
  obtain ⟨z0, rfl, zo0⟩ := open_arg_struct 6 encV V.Ok Try.underlying23 (by kernel_rfl) (hval 0 23 v0 rfl rfl) decV h0
  obtain ⟨zs, zg, zm, zs1⟩ := open_arg_slice 2 encS S.Ok Try.underlying25 (by kernel_rfl) (by omega) (hval 1 25 v1 rfl rfl) decS h1 l1
  obtain ⟨b2, rfl, rfl, rfl⟩ := open_bool Try.underlying4 (hval 2 4 v2 rfl rfl) h2
  exact walk z0 v1 zs b2 W zs1 zg

theorem over : Rows.settingsOrderRow.holds Try.pinned (OpenSpec.ofChange Rows.settingsOrderSpec) :=
  OpenClaim.holds_of_wide 7 Try.f7 rfl rfl rfl rfl rfl rfl rfl ⟨rfl, rfl, rfl, rfl, rfl⟩ rfl rfl rfl rfl rfl (by kernel_rfl) Try.func7 (by kernel_rfl)
    (of_decide_eq_true (by kernel_rfl)) (by unfold Func.isWrapper; first | (rw [if_pos (by decide +kernel)]; kernel_rfl) | (rw [if_neg (by decide +kernel)]; exact ⟨rfl, rfl⟩))
    (fun os started H enc _ => lifted os started H enc)

/-- The statement. -/
theorem proved : Rows.SettingsOrderSaid :=
  over
#print axioms proved

end Go.Proofs.Ytanfibaphoficaa.Order
