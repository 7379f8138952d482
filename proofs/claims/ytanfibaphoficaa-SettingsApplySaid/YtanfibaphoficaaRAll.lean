/-
  The document's Apply and All.
-/
import Derived.Test.YtanfibaphoficaaOrder
import Derived.Test.YtanfibaphoficaaRApply
namespace Go.Proofs.Ytanfibaphoficaa.RAll
open Go.ChangeShapes Go.WideShapes Go.ChangeAt Go.RowKit
open Go.Proofs.Ytanfibaphoficaa.B Go.Proofs.Ytanfibaphoficaa.Set Go.Proofs.Ytanfibaphoficaa.Back Go.Proofs.Ytanfibaphoficaa.Order Go.Proofs.Ytanfibaphoficaa.RA
set_option linter.unusedVariables false
set_option linter.unusedSimpArgs false

theorem rapply_any (v : V) (s : S) (server : Bool) (w : World) (ho : s.Ok) :
    Calls Try.prog 16 #[.agg (vA v), .agg #[.int .i64 s.id, .int .u32 s.val], .bool server] w fun e w' => e = .returned (.tuple #[.agg (vA (applyV v s server)), .agg (fA (wrongC s server))]) ∧ Chg [] w w' := by
  by_cases hw : wrongC s server = 0
  · rw [hw, fA_zero]; exact rapply_ok v s server w ho hw
  · rw [fA_some hw, show applyV v s server = v from if_neg hw]; exact rapply_bad v s server w ho hw
set_option maxRecDepth 100000 in
set_option maxHeartbeats 8000000 in
theorem rall_any (v : V) (sv : Value) (l : List S) (server : Bool) (w : World) (hs : SliceOf w sv 2 encS l) (hlo : ∀ s ∈ l, s.Ok) :
    Calls Try.prog 15 #[.agg (vA v), sv, .bool server] w fun e w' => e = .returned (.tuple #[.agg (vA (allV v l server)), .agg (fA (allC l server))]) ∧ Chg [] w w' := by
  obtain ⟨a, cap, rfl, hc, hcm, hcell⟩ := hs
  have hm : l.length ≤ maxLen := by omega
  unfold maxLen at hm hcm
  have HCELL := Lib.hid hcell; have HLO := Lib.hid hlo
  clear hcell hlo
  have a0 : At ((((w.alloc (vB v)).alloc (vB v0)).alloc (fB 0)).alloc (vB v)) w.heap.size (vB v) := (((At.new' rfl).alloc _).alloc _).alloc _
  have a1 : At ((((w.alloc (vB v)).alloc (vB v0)).alloc (fB 0)).alloc (vB v)) (w.heap.size + 1) (vB v0) := ((At.new' (by simp)).alloc _).alloc _
  have a2 : At ((((w.alloc (vB v)).alloc (vB v0)).alloc (fB 0)).alloc (vB v)) (w.heap.size + 1 + 1) (fB 0) := (At.new' (by simp)).alloc _
  have a3 : At ((((w.alloc (vB v)).alloc (vB v0)).alloc (fB 0)).alloc (vB v)) (w.heap.size + 1 + 1 + 1) (vB (nowK v l 0)) := At.new' (by simp)
  have hbl : Below w.heap.size w ((((w.alloc (vB v)).alloc (vB v0)).alloc (fB 0)).alloc (vB v)) := ((((Chg.refl w).alloc _).alloc _).alloc _).alloc (l := []) _ |>.below_nil
  have p0 : w.heap.size ≤ w.heap.size ∧ w.heap.size < w.heap.size + 1 := by omega
  have p1 : w.heap.size + 1 < w.heap.size + 1 + 1 := by omega
  have p2 : w.heap.size + 1 + 1 < w.heap.size + 1 + 1 + 1 := by omega
  unfold vA
  go_enter Try.func15, Try.ntmps15
  go_wp2_with fail
  generalize h3 : w.heap.size + 1 + 1 + 1 = N at *
  generalize h2 : w.heap.size + 1 + 1 = B2 at *
  generalize h1 : w.heap.size + 1 = B1 at *
  have q0 : w.heap.size ≤ w.heap.size := Nat.le_refl _
  generalize h0 : w.heap.size = B0 at p0 p1 p2 a0 a1 a2 a3 q0 h1 h2 h3 ⊢
  clear h1 h2 h3
  have HB := Lib.hid h0
  clear h0
  go_loopw [9] (fun i wr => ∃ k : Nat, k ≤ l.length ∧ i = .int .i64 k ∧ At wr B0 (vB v) ∧ At wr B1 (vB v0) ∧ At wr B2 (fB 0) ∧ At wr N (vB (nowK v l k)) ∧ (∀ (i : Nat) (t : S), i < k → l[i]? = some t → wrongC t server = 0) ∧ Below w.heap.size w wr) (fun i _ => l.length - (intOf i).toNat)
  case atStart => exact ⟨0, Nat.zero_le _, rfl, a0, a1, a2, a3, fun i t hi => by omega, hbl⟩
  case round =>
    clear a0 a1 a2 a3 hbl
    obtain ⟨k, hk, rfl, ha, hr, hu, hn, hok, hbl⟩ := hrel
    have HOK := Lib.hid hok
    clear hok
    by_cases hlt : k < l.length
    · obtain ⟨b, off, rfl, hb, hcells⟩ := HCELL.out (by omega)
      obtain ⟨z, hz⟩ : ∃ z, l[k]? = some z := ⟨_, List.getElem?_eq_getElem hlt⟩
      have hzo := HLO.out z (List.mem_of_getElem? hz)
      have HZ := Lib.hid hz; have HZO := Lib.hid hzo
      have hbw : b < wr.heap.size := Nat.lt_of_lt_of_le hb hbl.size
      have s0 : World.cell? wr ⟨b, off + k * 2, none⟩ = some (.int .i64 z.id) := by rw [hbl.cell hb]; exact hcells k z hz 0 (by omega)
      have s1 : World.cell? wr ⟨b, off + k * 2 + 1, none⟩ = some (.int .u32 z.val) := by rw [hbl.cell hb]; exact hcells k z hz 1 (by omega)
      clear hz hcells hzo
      obtain ⟨m, hmm⟩ : ∃ m, m = nowK v l k := ⟨_, rfl⟩
      rw [← hmm] at hn
      have HM := Lib.hid hmm
      clear hmm
      have tB0 := ha.lt; have tB1 := hr.lt; have tB2 := hu.lt; have tN := hn.lt
      have p0 : World.cell? wr ⟨N, 0, none⟩ = some (.int .i64 (m).table) := (hn).cell rfl
      have p1 : World.cell? wr ⟨N, 1, none⟩ = some (.bool (m).push) := (hn).cell rfl
      have p2 : World.cell? wr ⟨N, 2, none⟩ = some (.int .i64 (m).streams) := (hn).cell rfl
      have p3 : World.cell? wr ⟨N, 3, none⟩ = some (.int .i64 (m).window) := (hn).cell rfl
      have p4 : World.cell? wr ⟨N, 4, none⟩ = some (.int .i64 (m).frame) := (hn).cell rfl
      have p5 : World.cell? wr ⟨N, 5, none⟩ = some (.int .i64 (m).list) := (hn).cell rfl
      have tV : N < (wr).heap.size := by omega
      have tV1 : N < (wr).heap.size + 1 := by omega
      have ne1 : ¬ N = (wr).heap.size := by omega
      have ne2 : ¬ N = (wr).heap.size + 1 := by omega
      have ne3 : ¬ (wr).heap.size = N := by omega
      have ne4 : ¬ (wr).heap.size + 1 = N := by omega
      have be1 : ¬ b = wr.heap.size := by omega
      have be2 : ¬ b = wr.heap.size + 1 := by omega
      have be3 : b < wr.heap.size + 1 := by omega
      have be4 : ¬ wr.heap.size = b := by omega
      have be5 : ¬ wr.heap.size + 1 = b := by omega
      obtain ⟨m2, hm2⟩ : ∃ m2, m2 = applyV m z server := ⟨_, rfl⟩
      obtain ⟨c, hcc⟩ : ∃ c, c = wrongC z server := ⟨_, rfl⟩
      obtain ⟨fb, hfb⟩ : ∃ fb : Bool, fb = decide (c ≠ 0) := ⟨_, rfl⟩
      have HFA : Hid (fA c = #[.bool fb, .int .u32 c, .int .i64 0]) := Lib.hid (by rw [hfb]; rfl)
      have HM2 := Lib.hid hm2; have HCC := Lib.hid hcc; have HFB := Lib.hid hfb
      clear hm2 hcc hfb
      go_upto_region 5 with fail
      go_cut [10, 11] (fun p q wx => ∃ D E : Nat, p = .pointer (some ⟨D, 0, none⟩) ∧ q = .pointer (some ⟨E, 0, none⟩) ∧ (N < D ∧ N < E) ∧ At wx B0 (vB v) ∧ At wx B1 (vB v0) ∧ At wx B2 (fB 0) ∧ At wx N (vB m) ∧ At wx D (vB m2) ∧ At wx E (fX fb c) ∧ Below w.heap.size w wx)
      case first =>
        go_region_held3 (fun w' => World.cell? w' ⟨N, 0, none⟩ = some (.int .i64 m.table) ∧ World.cell? w' ⟨N, 1, none⟩ = some (.bool m.push) ∧ World.cell? w' ⟨N, 2, none⟩ = some (.int .i64 m.streams) ∧ World.cell? w' ⟨N, 3, none⟩ = some (.int .i64 m.window) ∧ World.cell? w' ⟨N, 4, none⟩ = some (.int .i64 m.frame) ∧ World.cell? w' ⟨N, 5, none⟩ = some (.int .i64 m.list) ∧ World.cell? w' ⟨b, off + k * 2, none⟩ = some (.int .i64 z.id) ∧ World.cell? w' ⟨b, off + k * 2 + 1, none⟩ = some (.int .u32 z.val)) (go_keep) (first
          | (
            go_at_call 16
            refine (rapply_any m z server _ HZO.out).mono ?_
            rintro e w2 ⟨he, h2⟩
            rw [← HM2.out, ← HCC.out, HFA.out] at he
            subst he
            have hc4 := ((Chg.refl wr).drew).trans' h2
            have a4 := ha.chg hc4 (by simp)
            have n4 := hn.chg hc4 (by simp)
            have r4 := hr.chg hc4 (by simp)
            have u4 := hu.chg hc4 (by simp)
            have hb4 : Below w.heap.size w w2 := hbl.chg hc4 (Nat.le_refl _) (by simp)
            have t1 : B0 < w2.heap.size := a4.lt
            have t2 : B0 < w2.heap.size + 1 := by omega
            have t3 : N < w2.heap.size := n4.lt
            have t4 : N < w2.heap.size + 1 := by omega
            have t5 : B1 < w2.heap.size := r4.lt
            have t6 : B1 < w2.heap.size + 1 := by omega
            have t7 : B2 < w2.heap.size := u4.lt
            have t9 : B2 < w2.heap.size + 1 := by omega
            have c0 : World.cell? w2 ⟨N, 0, none⟩ = some (.int .i64 (m).table) := (n4).cell rfl
            have c1 : World.cell? w2 ⟨N, 1, none⟩ = some (.bool (m).push) := (n4).cell rfl
            have c2 : World.cell? w2 ⟨N, 2, none⟩ = some (.int .i64 (m).streams) := (n4).cell rfl
            have c3 : World.cell? w2 ⟨N, 3, none⟩ = some (.int .i64 (m).window) := (n4).cell rfl
            have c4 : World.cell? w2 ⟨N, 4, none⟩ = some (.int .i64 (m).frame) := (n4).cell rfl
            have c5 : World.cell? w2 ⟨N, 5, none⟩ = some (.int .i64 (m).list) := (n4).cell rfl
            have t8 : b < w2.heap.size := by have := hc4.size; omega
            have t10 : b < w2.heap.size + 1 := by omega
            have s4 : World.cell? w2 ⟨b, off + k * 2, none⟩ = some (.int .i64 z.id) := by rw [hc4.cell hbw (by simp)]; exact s0
            have s5 : World.cell? w2 ⟨b, off + k * 2 + 1, none⟩ = some (.int .u32 z.val) := by rw [hc4.cell hbw (by simp)]; exact s1
            unfold vA
            skip)
          | (
            go_at_call 16
            refine (rapply_any m z server _ HZO.out).mono ?_
            rintro e w2 ⟨he, h2⟩
            rw [← HM2.out, ← HCC.out, HFA.out] at he
            subst he
            have hc4 := (((Chg.refl wr).alloc (l := []) (vB v0)).drew).trans' h2
            have a4 := ha.chg hc4 (by simp)
            have n4 := hn.chg hc4 (by simp)
            have r4 := hr.chg hc4 (by simp)
            have u4 := hu.chg hc4 (by simp)
            have hb4 : Below w.heap.size w w2 := hbl.chg hc4 (Nat.le_refl _) (by simp)
            have t1 : B0 < w2.heap.size := a4.lt
            have t2 : B0 < w2.heap.size + 1 := by omega
            have t3 : N < w2.heap.size := n4.lt
            have t4 : N < w2.heap.size + 1 := by omega
            have t5 : B1 < w2.heap.size := r4.lt
            have t6 : B1 < w2.heap.size + 1 := by omega
            have t7 : B2 < w2.heap.size := u4.lt
            have t9 : B2 < w2.heap.size + 1 := by omega
            have c0 : World.cell? w2 ⟨N, 0, none⟩ = some (.int .i64 (m).table) := (n4).cell rfl
            have c1 : World.cell? w2 ⟨N, 1, none⟩ = some (.bool (m).push) := (n4).cell rfl
            have c2 : World.cell? w2 ⟨N, 2, none⟩ = some (.int .i64 (m).streams) := (n4).cell rfl
            have c3 : World.cell? w2 ⟨N, 3, none⟩ = some (.int .i64 (m).window) := (n4).cell rfl
            have c4 : World.cell? w2 ⟨N, 4, none⟩ = some (.int .i64 (m).frame) := (n4).cell rfl
            have c5 : World.cell? w2 ⟨N, 5, none⟩ = some (.int .i64 (m).list) := (n4).cell rfl
            have t8 : b < w2.heap.size := by have := hc4.size; omega
            have t10 : b < w2.heap.size + 1 := by omega
            have s4 : World.cell? w2 ⟨b, off + k * 2, none⟩ = some (.int .i64 z.id) := by rw [hc4.cell hbw (by simp)]; exact s0
            have s5 : World.cell? w2 ⟨b, off + k * 2 + 1, none⟩ = some (.int .u32 z.val) := by rw [hc4.cell hbw (by simp)]; exact s1
            unfold vA
            have bA : At w2 (wr).heap.size (vB v0) := ((At.new wr (vB v0)).drew).chg h2 (by simp)
            have tA : (wr).heap.size < w2.heap.size := bA.lt
            have y0 : World.cell? w2 ⟨(wr).heap.size, 0, none⟩ = some (.int .i64 v0.table) := bA.cell rfl
            have y1 : World.cell? w2 ⟨(wr).heap.size, 1, none⟩ = some (.bool v0.push) := bA.cell rfl
            have y2 : World.cell? w2 ⟨(wr).heap.size, 2, none⟩ = some (.int .i64 v0.streams) := bA.cell rfl
            have y3 : World.cell? w2 ⟨(wr).heap.size, 3, none⟩ = some (.int .i64 v0.window) := bA.cell rfl
            have y4 : World.cell? w2 ⟨(wr).heap.size, 4, none⟩ = some (.int .i64 v0.frame) := bA.cell rfl
            have y5 : World.cell? w2 ⟨(wr).heap.size, 5, none⟩ = some (.int .i64 v0.list) := bA.cell rfl
            have yf : ∀ j, World.frozen? w2 ⟨(wr).heap.size, j, none⟩ = false := fun j => bA.free j
            skip)
          | (
            go_at_call 16
            refine (rapply_any m z server _ HZO.out).mono ?_
            rintro e w2 ⟨he, h2⟩
            rw [← HM2.out, ← HCC.out, HFA.out] at he
            subst he
            have hc4 := (((Chg.refl wr).alloc (l := []) (fB 0)).drew).trans' h2
            have a4 := ha.chg hc4 (by simp)
            have n4 := hn.chg hc4 (by simp)
            have r4 := hr.chg hc4 (by simp)
            have u4 := hu.chg hc4 (by simp)
            have hb4 : Below w.heap.size w w2 := hbl.chg hc4 (Nat.le_refl _) (by simp)
            have t1 : B0 < w2.heap.size := a4.lt
            have t2 : B0 < w2.heap.size + 1 := by omega
            have t3 : N < w2.heap.size := n4.lt
            have t4 : N < w2.heap.size + 1 := by omega
            have t5 : B1 < w2.heap.size := r4.lt
            have t6 : B1 < w2.heap.size + 1 := by omega
            have t7 : B2 < w2.heap.size := u4.lt
            have t9 : B2 < w2.heap.size + 1 := by omega
            have c0 : World.cell? w2 ⟨N, 0, none⟩ = some (.int .i64 (m).table) := (n4).cell rfl
            have c1 : World.cell? w2 ⟨N, 1, none⟩ = some (.bool (m).push) := (n4).cell rfl
            have c2 : World.cell? w2 ⟨N, 2, none⟩ = some (.int .i64 (m).streams) := (n4).cell rfl
            have c3 : World.cell? w2 ⟨N, 3, none⟩ = some (.int .i64 (m).window) := (n4).cell rfl
            have c4 : World.cell? w2 ⟨N, 4, none⟩ = some (.int .i64 (m).frame) := (n4).cell rfl
            have c5 : World.cell? w2 ⟨N, 5, none⟩ = some (.int .i64 (m).list) := (n4).cell rfl
            have t8 : b < w2.heap.size := by have := hc4.size; omega
            have t10 : b < w2.heap.size + 1 := by omega
            have s4 : World.cell? w2 ⟨b, off + k * 2, none⟩ = some (.int .i64 z.id) := by rw [hc4.cell hbw (by simp)]; exact s0
            have s5 : World.cell? w2 ⟨b, off + k * 2 + 1, none⟩ = some (.int .u32 z.val) := by rw [hc4.cell hbw (by simp)]; exact s1
            unfold vA
            have bF : At w2 (wr).heap.size (fB 0) := ((At.new wr (fB 0)).drew).chg h2 (by simp)
            have tA : (wr).heap.size < w2.heap.size := bF.lt
            have z0 : World.cell? w2 ⟨(wr).heap.size, 0, none⟩ = some (.bool false) := bF.cell rfl
            have z1 : World.cell? w2 ⟨(wr).heap.size, 1, none⟩ = some (.int .u32 0) := bF.cell rfl
            have z2 : World.cell? w2 ⟨(wr).heap.size, 2, none⟩ = some (.int .i64 0) := bF.cell rfl
            have zf : ∀ j, World.frozen? w2 ⟨(wr).heap.size, j, none⟩ = false := fun j => bF.free j
            skip)
          | (
            go_at_call 16
            refine (rapply_any m z server _ HZO.out).mono ?_
            rintro e w2 ⟨he, h2⟩
            rw [← HM2.out, ← HCC.out, HFA.out] at he
            subst he
            have hc4 := ((((Chg.refl wr).alloc (l := []) (vB v0)).alloc (fB 0)).drew).trans' h2
            have a4 := ha.chg hc4 (by simp)
            have n4 := hn.chg hc4 (by simp)
            have r4 := hr.chg hc4 (by simp)
            have u4 := hu.chg hc4 (by simp)
            have hb4 : Below w.heap.size w w2 := hbl.chg hc4 (Nat.le_refl _) (by simp)
            have t1 : B0 < w2.heap.size := a4.lt
            have t2 : B0 < w2.heap.size + 1 := by omega
            have t3 : N < w2.heap.size := n4.lt
            have t4 : N < w2.heap.size + 1 := by omega
            have t5 : B1 < w2.heap.size := r4.lt
            have t6 : B1 < w2.heap.size + 1 := by omega
            have t7 : B2 < w2.heap.size := u4.lt
            have t9 : B2 < w2.heap.size + 1 := by omega
            have c0 : World.cell? w2 ⟨N, 0, none⟩ = some (.int .i64 (m).table) := (n4).cell rfl
            have c1 : World.cell? w2 ⟨N, 1, none⟩ = some (.bool (m).push) := (n4).cell rfl
            have c2 : World.cell? w2 ⟨N, 2, none⟩ = some (.int .i64 (m).streams) := (n4).cell rfl
            have c3 : World.cell? w2 ⟨N, 3, none⟩ = some (.int .i64 (m).window) := (n4).cell rfl
            have c4 : World.cell? w2 ⟨N, 4, none⟩ = some (.int .i64 (m).frame) := (n4).cell rfl
            have c5 : World.cell? w2 ⟨N, 5, none⟩ = some (.int .i64 (m).list) := (n4).cell rfl
            have t8 : b < w2.heap.size := by have := hc4.size; omega
            have t10 : b < w2.heap.size + 1 := by omega
            have s4 : World.cell? w2 ⟨b, off + k * 2, none⟩ = some (.int .i64 z.id) := by rw [hc4.cell hbw (by simp)]; exact s0
            have s5 : World.cell? w2 ⟨b, off + k * 2 + 1, none⟩ = some (.int .u32 z.val) := by rw [hc4.cell hbw (by simp)]; exact s1
            unfold vA
            have bA : At w2 (wr).heap.size (vB v0) := (((At.new wr (vB v0)).alloc (fB 0)).drew).chg h2 (by simp)
            have bF : At w2 ((wr).heap.size + 1) (fB 0) := ((At.new' (w := (wr).alloc (vB v0)) (by simp)).drew).chg h2 (by simp)
            have tA : (wr).heap.size < w2.heap.size := bA.lt
            have tB : (wr).heap.size + 1 < w2.heap.size := bF.lt
            have y0 : World.cell? w2 ⟨(wr).heap.size, 0, none⟩ = some (.int .i64 v0.table) := bA.cell rfl
            have y1 : World.cell? w2 ⟨(wr).heap.size, 1, none⟩ = some (.bool v0.push) := bA.cell rfl
            have y2 : World.cell? w2 ⟨(wr).heap.size, 2, none⟩ = some (.int .i64 v0.streams) := bA.cell rfl
            have y3 : World.cell? w2 ⟨(wr).heap.size, 3, none⟩ = some (.int .i64 v0.window) := bA.cell rfl
            have y4 : World.cell? w2 ⟨(wr).heap.size, 4, none⟩ = some (.int .i64 v0.frame) := bA.cell rfl
            have y5 : World.cell? w2 ⟨(wr).heap.size, 5, none⟩ = some (.int .i64 v0.list) := bA.cell rfl
            have yf : ∀ j, World.frozen? w2 ⟨(wr).heap.size, j, none⟩ = false := fun j => bA.free j
            have z0 : World.cell? w2 ⟨(wr).heap.size + 1, 0, none⟩ = some (.bool false) := bF.cell rfl
            have z1 : World.cell? w2 ⟨(wr).heap.size + 1, 1, none⟩ = some (.int .u32 0) := bF.cell rfl
            have z2 : World.cell? w2 ⟨(wr).heap.size + 1, 2, none⟩ = some (.int .i64 0) := bF.cell rfl
            have zf : ∀ j, World.frozen? w2 ⟨(wr).heap.size + 1, j, none⟩ = false := fun j => bF.free j
            skip)
          | (
            go_at_call 16
            refine (rapply_any m z server _ HZO.out).mono ?_
            rintro e w2 ⟨he, h2⟩
            rw [← HM2.out, ← HCC.out, HFA.out] at he
            subst he
            have hc4 := ((((Chg.refl wr).alloc (l := []) (fB 0)).alloc (vB v0)).drew).trans' h2
            have a4 := ha.chg hc4 (by simp)
            have n4 := hn.chg hc4 (by simp)
            have r4 := hr.chg hc4 (by simp)
            have u4 := hu.chg hc4 (by simp)
            have hb4 : Below w.heap.size w w2 := hbl.chg hc4 (Nat.le_refl _) (by simp)
            have t1 : B0 < w2.heap.size := a4.lt
            have t2 : B0 < w2.heap.size + 1 := by omega
            have t3 : N < w2.heap.size := n4.lt
            have t4 : N < w2.heap.size + 1 := by omega
            have t5 : B1 < w2.heap.size := r4.lt
            have t6 : B1 < w2.heap.size + 1 := by omega
            have t7 : B2 < w2.heap.size := u4.lt
            have t9 : B2 < w2.heap.size + 1 := by omega
            have c0 : World.cell? w2 ⟨N, 0, none⟩ = some (.int .i64 (m).table) := (n4).cell rfl
            have c1 : World.cell? w2 ⟨N, 1, none⟩ = some (.bool (m).push) := (n4).cell rfl
            have c2 : World.cell? w2 ⟨N, 2, none⟩ = some (.int .i64 (m).streams) := (n4).cell rfl
            have c3 : World.cell? w2 ⟨N, 3, none⟩ = some (.int .i64 (m).window) := (n4).cell rfl
            have c4 : World.cell? w2 ⟨N, 4, none⟩ = some (.int .i64 (m).frame) := (n4).cell rfl
            have c5 : World.cell? w2 ⟨N, 5, none⟩ = some (.int .i64 (m).list) := (n4).cell rfl
            have t8 : b < w2.heap.size := by have := hc4.size; omega
            have t10 : b < w2.heap.size + 1 := by omega
            have s4 : World.cell? w2 ⟨b, off + k * 2, none⟩ = some (.int .i64 z.id) := by rw [hc4.cell hbw (by simp)]; exact s0
            have s5 : World.cell? w2 ⟨b, off + k * 2 + 1, none⟩ = some (.int .u32 z.val) := by rw [hc4.cell hbw (by simp)]; exact s1
            unfold vA
            have bF : At w2 (wr).heap.size (fB 0) := (((At.new wr (fB 0)).alloc (vB v0)).drew).chg h2 (by simp)
            have bA : At w2 ((wr).heap.size + 1) (vB v0) := ((At.new' (w := (wr).alloc (fB 0)) (by simp)).drew).chg h2 (by simp)
            have tA : (wr).heap.size < w2.heap.size := bF.lt
            have tB : (wr).heap.size + 1 < w2.heap.size := bA.lt
            have y0 : World.cell? w2 ⟨(wr).heap.size + 1, 0, none⟩ = some (.int .i64 v0.table) := bA.cell rfl
            have y1 : World.cell? w2 ⟨(wr).heap.size + 1, 1, none⟩ = some (.bool v0.push) := bA.cell rfl
            have y2 : World.cell? w2 ⟨(wr).heap.size + 1, 2, none⟩ = some (.int .i64 v0.streams) := bA.cell rfl
            have y3 : World.cell? w2 ⟨(wr).heap.size + 1, 3, none⟩ = some (.int .i64 v0.window) := bA.cell rfl
            have y4 : World.cell? w2 ⟨(wr).heap.size + 1, 4, none⟩ = some (.int .i64 v0.frame) := bA.cell rfl
            have y5 : World.cell? w2 ⟨(wr).heap.size + 1, 5, none⟩ = some (.int .i64 v0.list) := bA.cell rfl
            have yf : ∀ j, World.frozen? w2 ⟨(wr).heap.size + 1, j, none⟩ = false := fun j => bA.free j
            have z0 : World.cell? w2 ⟨(wr).heap.size, 0, none⟩ = some (.bool false) := bF.cell rfl
            have z1 : World.cell? w2 ⟨(wr).heap.size, 1, none⟩ = some (.int .u32 0) := bF.cell rfl
            have z2 : World.cell? w2 ⟨(wr).heap.size, 2, none⟩ = some (.int .i64 0) := bF.cell rfl
            have zf : ∀ j, World.frozen? w2 ⟨(wr).heap.size, j, none⟩ = false := fun j => bF.free j
            skip)
          )
        all_goals (go_wp2_with fail; go_meet)
        · refine ⟨_, _, rfl, rfl, by first | omega | (simp; omega), ?_, ?_, ?_, ?_, ?_, ?_, ?_⟩
          · exact (a4.alloc _).alloc _
          · exact (r4.alloc _).alloc _
          · exact (u4.alloc _).alloc _
          · exact (n4.alloc _).alloc _
          · exact (At.new w2 (vB m2)).alloc (fX fb c)
          · exact At.new' (w := w2.alloc (vB m2)) (by simp)
          · skip
            (repeat (first | with_reducible exact hb4 | with_reducible refine Below.setCell ?_ (by dsimp only; have := HB.out; omega) _ | with_reducible refine Below.chg (l := []) ?_ ((Chg.refl _).alloc _) (Nat.le_refl _) (by simp)))
        · refine ⟨_, _, rfl, rfl, by first | omega | (simp; omega), ?_, ?_, ?_, ?_, ?_, ?_, ?_⟩
          · exact (a4.alloc _).alloc _
          · exact (r4.alloc _).alloc _
          · exact (u4.alloc _).alloc _
          · exact (n4.alloc _).alloc _
          · exact At.new' (w := w2.alloc (fX fb c)) (by simp)
          · exact (At.new w2 (fX fb c)).alloc (vB m2)
          · skip
            (repeat (first | with_reducible exact hb4 | with_reducible refine Below.setCell ?_ (by dsimp only; have := HB.out; omega) _ | with_reducible refine Below.chg (l := []) ?_ ((Chg.refl _).alloc _) (Nat.le_refl _) (by simp)))
        · refine ⟨_, _, rfl, rfl, by first | omega | (simp; omega), ?_, ?_, ?_, ?_, ?_, ?_, ?_⟩
          · exact (At.six_ne a4 (by omega) m2).alloc _
          · exact (At.six_ne r4 (by omega) m2).alloc _
          · exact (At.six_ne u4 (by omega) m2).alloc _
          · exact (At.six_ne n4 (by omega) m2).alloc _
          · exact (At.six bA m2).alloc _
          · exact At.new' (by simp [World.setCell])
          · skip
            (repeat (first | with_reducible exact hb4 | with_reducible refine Below.setCell ?_ (by dsimp only; have := HB.out; omega) _ | with_reducible refine Below.chg (l := []) ?_ ((Chg.refl _).alloc _) (Nat.le_refl _) (by simp)))
        · refine ⟨_, _, rfl, rfl, by first | omega | (simp; omega), ?_, ?_, ?_, ?_, ?_, ?_, ?_⟩
          · exact At.three_ne (At.six_ne a4 (by omega) m2) (by omega) fb c
          · exact At.three_ne (At.six_ne r4 (by omega) m2) (by omega) fb c
          · exact At.three_ne (At.six_ne u4 (by omega) m2) (by omega) fb c
          · exact At.three_ne (At.six_ne n4 (by omega) m2) (by omega) fb c
          · exact At.three_ne (At.six bA m2) (by omega) fb c
          · exact At.three (At.six_ne bF (by omega) m2) fb c
          · skip
            (repeat (first | with_reducible exact hb4 | with_reducible refine Below.setCell ?_ (by dsimp only; have := HB.out; omega) _ | with_reducible refine Below.chg (l := []) ?_ ((Chg.refl _).alloc _) (Nat.le_refl _) (by simp)))
        · refine ⟨_, _, rfl, rfl, by first | omega | (simp; omega), ?_, ?_, ?_, ?_, ?_, ?_, ?_⟩
          · exact (At.three_ne a4 (by omega) fb c).alloc _
          · exact (At.three_ne r4 (by omega) fb c).alloc _
          · exact (At.three_ne u4 (by omega) fb c).alloc _
          · exact (At.three_ne n4 (by omega) fb c).alloc _
          · exact At.new' (by simp [World.setCell])
          · exact (At.three bF fb c).alloc _
          · skip
            (repeat (first | with_reducible exact hb4 | with_reducible refine Below.setCell ?_ (by dsimp only; have := HB.out; omega) _ | with_reducible refine Below.chg (l := []) ?_ ((Chg.refl _).alloc _) (Nat.le_refl _) (by simp)))
        · refine ⟨_, _, rfl, rfl, by first | omega | (simp; omega), ?_, ?_, ?_, ?_, ?_, ?_, ?_⟩
          · exact At.three_ne (At.six_ne a4 (by omega) m2) (by omega) fb c
          · exact At.three_ne (At.six_ne r4 (by omega) m2) (by omega) fb c
          · exact At.three_ne (At.six_ne u4 (by omega) m2) (by omega) fb c
          · exact At.three_ne (At.six_ne n4 (by omega) m2) (by omega) fb c
          · exact At.three_ne (At.six bA m2) (by omega) fb c
          · exact At.three (At.six_ne bF (by omega) m2) fb c
          · skip
            (repeat (first | with_reducible exact hb4 | with_reducible refine Below.setCell ?_ (by dsimp only; have := HB.out; omega) _ | with_reducible refine Below.chg (l := []) ?_ ((Chg.refl _).alloc _) (Nat.le_refl _) (by simp)))
      case rest =>
        clear p0 p1 p2 p3 p4 p5 ha hr hu hn hbl tB0 tB1 tB2 tN tV tV1 ne1 ne2 ne3 ne4 be1 be2 be3 be4 be5 s0 s1 hbw
        obtain ⟨D, E, rfl, rfl, ⟨hND, hNE⟩, ha, hr, hu, hn, hd3, he3, hbl⟩ := hcut
        have g0 : World.cell? wc ⟨E, 0, none⟩ = some (.bool fb) := he3.cell rfl
        by_cases hw0 : wrongC z server = 0
        · have hfb : fb = false := by rw [HFB.out, HCC.out, hw0]; rfl
          have hm2 : m2 = nowK v l (k + 1) := by
            rw [nowK_succ v l k z HZ.out, ← HM.out, HM2.out]; unfold applyV; rw [if_pos hw0]
          have hok2 : ∀ (i : Nat) (t : S), i < k + 1 → l[i]? = some t → wrongC t server = 0 := by
            intro i t hi ht
            rcases Nat.lt_or_eq_of_le (Nat.le_of_lt_succ hi) with h | h
            · exact HOK.out i t h ht
            · rw [h, HZ.out] at ht; obtain rfl := Option.some.inj ht; exact hw0
          subst hfb
          have HM3 := Lib.hid hm2; have HOK2 := Lib.hid hok2
          clear hm2 hok2 hw0
          have q0 : World.cell? wc ⟨D, 0, none⟩ = some (.int .i64 (m2).table) := (hd3).cell rfl
          have q1 : World.cell? wc ⟨D, 1, none⟩ = some (.bool (m2).push) := (hd3).cell rfl
          have q2 : World.cell? wc ⟨D, 2, none⟩ = some (.int .i64 (m2).streams) := (hd3).cell rfl
          have q3 : World.cell? wc ⟨D, 3, none⟩ = some (.int .i64 (m2).window) := (hd3).cell rfl
          have q4 : World.cell? wc ⟨D, 4, none⟩ = some (.int .i64 (m2).frame) := (hd3).cell rfl
          have q5 : World.cell? wc ⟨D, 5, none⟩ = some (.int .i64 (m2).list) := (hd3).cell rfl
          have p0 : World.cell? wc ⟨N, 0, none⟩ = some (.int .i64 (m).table) := (hn).cell rfl
          have p1 : World.cell? wc ⟨N, 1, none⟩ = some (.bool (m).push) := (hn).cell rfl
          have p2 : World.cell? wc ⟨N, 2, none⟩ = some (.int .i64 (m).streams) := (hn).cell rfl
          have p3 : World.cell? wc ⟨N, 3, none⟩ = some (.int .i64 (m).window) := (hn).cell rfl
          have p4 : World.cell? wc ⟨N, 4, none⟩ = some (.int .i64 (m).frame) := (hn).cell rfl
          have p5 : World.cell? wc ⟨N, 5, none⟩ = some (.int .i64 (m).list) := (hn).cell rfl
          have pf : ∀ j, World.frozen? wc ⟨N, j, none⟩ = false := fun j => hn.free j
          go_wp2_with fail
          go_roundw
          case rel =>
            refine ⟨k + 1, by omega, by go_num, At.six_ne ha (by omega) m2, At.six_ne hr (by omega) m2, At.six_ne hu (by omega) m2, by rw [← HM3.out]; exact At.six hn m2, HOK2.out, ?_⟩
            (repeat (refine Below.setCell ?_ (by dsimp only; have := HB.out; omega) _)); exact hbl
          case measure => simp [intOf]; omega
        · have hfb : fb = true := by rw [HFB.out, HCC.out]; simp [hw0]
          obtain ⟨q1, q2⟩ := all_first (v := v) HOK.out HZ.out hw0
          have HQ1 := Lib.hid (q1.trans HCC.out.symm); have HQ2 := Lib.hid q2
          have HW0 := Lib.hid hw0
          clear q1 q2 hw0
          subst hfb
          have p0 : World.cell? wc ⟨B0, 0, none⟩ = some (.int .i64 (v).table) := (ha).cell rfl
          have p1 : World.cell? wc ⟨B0, 1, none⟩ = some (.bool (v).push) := (ha).cell rfl
          have p2 : World.cell? wc ⟨B0, 2, none⟩ = some (.int .i64 (v).streams) := (ha).cell rfl
          have p3 : World.cell? wc ⟨B0, 3, none⟩ = some (.int .i64 (v).window) := (ha).cell rfl
          have p4 : World.cell? wc ⟨B0, 4, none⟩ = some (.int .i64 (v).frame) := (ha).cell rfl
          have p5 : World.cell? wc ⟨B0, 5, none⟩ = some (.int .i64 (v).list) := (ha).cell rfl
          have y0 : World.cell? wc ⟨B1, 0, none⟩ = some (.int .i64 (v0).table) := (hr).cell rfl
          have y1 : World.cell? wc ⟨B1, 1, none⟩ = some (.bool (v0).push) := (hr).cell rfl
          have y2 : World.cell? wc ⟨B1, 2, none⟩ = some (.int .i64 (v0).streams) := (hr).cell rfl
          have y3 : World.cell? wc ⟨B1, 3, none⟩ = some (.int .i64 (v0).window) := (hr).cell rfl
          have y4 : World.cell? wc ⟨B1, 4, none⟩ = some (.int .i64 (v0).frame) := (hr).cell rfl
          have y5 : World.cell? wc ⟨B1, 5, none⟩ = some (.int .i64 (v0).list) := (hr).cell rfl
          have x0 : World.cell? wc ⟨E, 0, none⟩ = some (.bool true) := he3.cell rfl
          have x1 : World.cell? wc ⟨E, 1, none⟩ = some (.int .u32 c) := he3.cell rfl
          have x2 : World.cell? wc ⟨E, 2, none⟩ = some (.int .i64 0) := he3.cell rfl
          have u0 : World.cell? wc ⟨B2, 0, none⟩ = some (.bool false) := hu.cell rfl
          have u1 : World.cell? wc ⟨B2, 1, none⟩ = some (.int .u32 0) := hu.cell rfl
          have u2 : World.cell? wc ⟨B2, 2, none⟩ = some (.int .i64 0) := hu.cell rfl
          have yf : ∀ j, World.frozen? wc ⟨B1, j, none⟩ = false := fun j => hr.free j
          have uf : ∀ j, World.frozen? wc ⟨B2, j, none⟩ = false := fun j => hu.free j
          have nE1 : ¬ E = B1 := by omega
          have nE2 : ¬ E = B2 := by omega
          have nB1 : ¬ B1 = E := by omega
          have nB2 : ¬ B2 = E := by omega
          have nB3 : ¬ B0 = B1 := by omega
          have nB4 : ¬ B0 = B2 := by omega
          have nB5 : ¬ B1 = B2 := by omega
          have nB6 : ¬ B2 = B1 := by omega
          clear g0
          go_wp2_with fail
          go_region
          go_wp2_with fail
          refine bodyPost_ret (v := .tuple #[.agg (vA v), .agg #[.bool true, .int .u32 c, .int .i64 0]]) (by simp [results, Try.results15, go_sem, vA, y0, y1, y2, y3, y4, y5, u0, u1, u2]) rfl ⟨?_, ?_⟩
          · rw [HQ2.out, HQ1.out, fA_some (by rw [HCC.out]; exact HW0.out)]; rfl
          · refine Below.chg_nil (Below.drew ?_)
            (repeat (refine Below.setCell ?_ (by dsimp only; have := HB.out; omega) _)); exact hbl
    · obtain rfl : k = l.length := by omega
      have hq := all_take (v := v) (server := server) HOK.out
      rw [List.take_length] at hq
      obtain ⟨q1, q2⟩ := hq
      obtain ⟨m, hmm⟩ : ∃ m, m = nowK v l l.length := ⟨_, rfl⟩
      rw [← hmm] at hn q2
      have HQ1 := Lib.hid q1; have HQ2 := Lib.hid q2
      clear q1 q2 hmm
      have p0 : World.cell? wr ⟨N, 0, none⟩ = some (.int .i64 (m).table) := (hn).cell rfl
      have p1 : World.cell? wr ⟨N, 1, none⟩ = some (.bool (m).push) := (hn).cell rfl
      have p2 : World.cell? wr ⟨N, 2, none⟩ = some (.int .i64 (m).streams) := (hn).cell rfl
      have p3 : World.cell? wr ⟨N, 3, none⟩ = some (.int .i64 (m).window) := (hn).cell rfl
      have p4 : World.cell? wr ⟨N, 4, none⟩ = some (.int .i64 (m).frame) := (hn).cell rfl
      have p5 : World.cell? wr ⟨N, 5, none⟩ = some (.int .i64 (m).list) := (hn).cell rfl
      have y0 : World.cell? wr ⟨B1, 0, none⟩ = some (.int .i64 (v0).table) := (hr).cell rfl
      have y1 : World.cell? wr ⟨B1, 1, none⟩ = some (.bool (v0).push) := (hr).cell rfl
      have y2 : World.cell? wr ⟨B1, 2, none⟩ = some (.int .i64 (v0).streams) := (hr).cell rfl
      have y3 : World.cell? wr ⟨B1, 3, none⟩ = some (.int .i64 (v0).window) := (hr).cell rfl
      have y4 : World.cell? wr ⟨B1, 4, none⟩ = some (.int .i64 (v0).frame) := (hr).cell rfl
      have y5 : World.cell? wr ⟨B1, 5, none⟩ = some (.int .i64 (v0).list) := (hr).cell rfl
      have u0 : World.cell? wr ⟨B2, 0, none⟩ = some (.bool false) := hu.cell rfl
      have u1 : World.cell? wr ⟨B2, 1, none⟩ = some (.int .u32 0) := hu.cell rfl
      have u2 : World.cell? wr ⟨B2, 2, none⟩ = some (.int .i64 0) := hu.cell rfl
      have yf : ∀ j, World.frozen? wr ⟨B1, j, none⟩ = false := fun j => hr.free j
      have uf : ∀ j, World.frozen? wr ⟨B2, j, none⟩ = false := fun j => hu.free j
      go_wp2_with fail
      refine bodyPost_ret (v := .tuple #[.agg (vA m), .agg #[.bool false, .int .u32 0, .int .i64 0]]) (by simp [results, Try.results15, go_sem, vA, y0, y1, y2, y3, y4, y5, u0, u1, u2]) rfl ⟨?_, ?_⟩
      · rw [HQ2.out, HQ1.out]; rfl
      · refine Below.chg_nil ?_
        (repeat (refine Below.setCell ?_ (by dsimp only; have := HB.out; omega) _)); exact hbl
end Go.Proofs.Ytanfibaphoficaa.RAll
