/-
  SettingsTell: what is other is told: any values; what came out is its owner's.
-/
import Derived.Test.YtanfibaphoficaaRTell
import Derived.Deep.DeepCutAuto
import Derived.Deep.DrawnRows
namespace Go.Proofs.Ytanfibaphoficaa.Told
open Go.ChangeShapes Go.WideShapes Go.ChangeAt Go.RowKit
open Go.Proofs.Ytanfibaphoficaa.B Go.Proofs.Ytanfibaphoficaa.Set Go.Proofs.Ytanfibaphoficaa.Back Go.Proofs.Ytanfibaphoficaa.RT
set_option linter.unusedVariables false
set_option linter.unusedSimpArgs false

set_option maxRecDepth 100000 in
set_option maxHeartbeats 4000000 in
theorem same_eq (av bv : Value) (l : List S) (W : World) (ha : SliceOf W av 2 encS l) (hb : SliceOf W bv 2 encS l) :
    Calls Try.prog 11 #[av, bv] W fun e w' => e = .returned (.bool true) ∧ ∃ n, w' = W.drewN n := by
  obtain ⟨a, cap, rfl, hc, hcm, hcell⟩ := ha
  obtain ⟨a2, cap2, rfl, hc2, hcm2, hcell2⟩ := hb
  have hm : l.length ≤ maxLen := by omega
  unfold maxLen at hm hcm hcm2
  have HC := Lib.hid hcell; have HC2 := Lib.hid hcell2
  clear hcell hcell2
  go_enter Try.func11, Try.ntmps11
  go_wp2_with fail
  go_loopw [5] (fun i wr => ∃ k n : Nat, k ≤ l.length ∧ i = .int .i64 k ∧ wr = W.drewN n) (fun i _ => l.length - (intOf i).toNat)
  case atStart => exact ⟨0, 0, Nat.zero_le _, rfl, rfl⟩
  case round =>
    obtain ⟨k, n, hk, rfl, hwr⟩ := hrel
    by_cases hlt : k < l.length
    · obtain ⟨z, hz⟩ : ∃ z, l[k]? = some z := ⟨_, List.getElem?_eq_getElem hlt⟩
      obtain ⟨b, off, rfl, hb, hcells⟩ := HC.out (by omega)
      obtain ⟨b2, off2, rfl, hb2, hcells2⟩ := HC2.out (by omega)
      have c0 : wr.cell? ⟨b, off + k * 2, none⟩ = some (.int .i64 z.id) := by rw [hwr]; exact hcells k z hz 0 (by omega)
      have c1 : wr.cell? ⟨b, off + k * 2 + 1, none⟩ = some (.int .u32 z.val) := by rw [hwr]; exact hcells k z hz 1 (by omega)
      have d0 : wr.cell? ⟨b2, off2 + k * 2, none⟩ = some (.int .i64 z.id) := by rw [hwr]; exact hcells2 k z hz 0 (by omega)
      have d1 : wr.cell? ⟨b2, off2 + k * 2 + 1, none⟩ = some (.int .u32 z.val) := by rw [hwr]; exact hcells2 k z hz 1 (by omega)
      have HWR := Lib.hid hwr
      have hk0 : (0 : Int) ≤ k := by omega
      have hk1 : (k : Int) < l.length := by omega
      clear hz hcells hcells2 hwr
      go_wp2_with fail
      go_quiet (fail)
      go_wp2_with fail
      go_roundw
      case rel => exact ⟨k + 1, n + nq, by omega, by go_num, by rw [HWR.out]; simp [World.drewN, Nat.add_assoc]⟩
      case measure => simp [intOf]; omega
    · obtain rfl : k = l.length := by omega
      go_wp2_with fail
      go_ret
      exact ⟨rfl, n, rfl⟩
set_option maxRecDepth 100000 in
set_option maxHeartbeats 8000000 in
theorem walk (a b : V) (W : World) :
    Calls Try.prog 3 #[.agg (vA a), .agg (vA b)] W fun e w' => e = .returned (.bool true) ∧ Below W.heap.size W w' := by
  have a0 : At ((W.alloc (vB a)).alloc (vB b)) W.heap.size (vB a) := (At.new _ _).alloc _
  have b0 : At ((W.alloc (vB a)).alloc (vB b)) (W.heap.size + 1) (vB b) := At.new' (by simp)
  have hb0 : Below W.heap.size W ((W.alloc (vB a)).alloc (vB b)) := (((Chg.refl W).alloc (l := []) _).alloc _).below_nil
  unfold vA
  go_enter Try.func3, Try.ntmps3
  go_wp2_with fail
  refine (shown_any _).mono ?_; rintro e w1 ⟨rfl, h1⟩
  have a1 := a0.chg h1 (by simp)
  have b1 := b0.chg h1 (by simp)
  have hb1 := hb0.chg h1 (Nat.le_refl _) (by simp)
  clear h1 a0 b0 hb0
  have hV0 : W.heap.size ≤ W.heap.size := Nat.le_refl _
  have hAB : W.heap.size < W.heap.size + 1 := by omega
  generalize hB : W.heap.size + 1 = B1 at *
  have HB1 := Lib.hid hB
  clear hB
  generalize hV : W.heap.size = B0 at a1 hAB ⊢
  have HB := Lib.hid hV
  clear hV
  have p0 : World.cell? w1 ⟨B0, 0, none⟩ = some (.int .i64 (a).table) := (a1).cell rfl
  have p1 : World.cell? w1 ⟨B0, 1, none⟩ = some (.bool (a).push) := (a1).cell rfl
  have p2 : World.cell? w1 ⟨B0, 2, none⟩ = some (.int .i64 (a).streams) := (a1).cell rfl
  have p3 : World.cell? w1 ⟨B0, 3, none⟩ = some (.int .i64 (a).window) := (a1).cell rfl
  have p4 : World.cell? w1 ⟨B0, 4, none⟩ = some (.int .i64 (a).frame) := (a1).cell rfl
  have p5 : World.cell? w1 ⟨B0, 5, none⟩ = some (.int .i64 (a).list) := (a1).cell rfl
  have q0 : World.cell? w1 ⟨B1, 0, none⟩ = some (.int .i64 (b).table) := (b1).cell rfl
  have q1 : World.cell? w1 ⟨B1, 1, none⟩ = some (.bool (b).push) := (b1).cell rfl
  have q2 : World.cell? w1 ⟨B1, 2, none⟩ = some (.int .i64 (b).streams) := (b1).cell rfl
  have q3 : World.cell? w1 ⟨B1, 3, none⟩ = some (.int .i64 (b).window) := (b1).cell rfl
  have q4 : World.cell? w1 ⟨B1, 4, none⟩ = some (.int .i64 (b).frame) := (b1).cell rfl
  have q5 : World.cell? w1 ⟨B1, 5, none⟩ = some (.int .i64 (b).list) := (b1).cell rfl
  go_wp2_with fail
  refine (tell_any a b w1.heap.size _ (Nat.le_refl _)).mono ?_; rintro e w2 ⟨sv, rfl, h2, hown⟩
  obtain ⟨sa, cap, rfl, hcl, hcm, hrow⟩ := owns_val hown
  have a2 := a1.chg h2 (by simp)
  have b2 := b1.chg h2 (by simp)
  have hb2 := hb1.chg h2 (Nat.le_refl _) (by simp)
  have hs2 := owns_sliceOf hown
  have tA := a1.lt; have tB := b1.lt
  have HTA := Lib.hid tA; have HTB := Lib.hid tB
  have HOWN := Lib.hid hown
  clear h2 p0 p1 p2 p3 p4 p5 q0 q1 q2 q3 q4 q5 a1 b1 hb1 hrow hown tA tB
  generalize hN1 : w1.heap.size = NB at *
  have HN1 := Lib.hid hN1
  clear hN1
  have p0 : World.cell? w2 ⟨B0, 0, none⟩ = some (.int .i64 (a).table) := (a2).cell rfl
  have p1 : World.cell? w2 ⟨B0, 1, none⟩ = some (.bool (a).push) := (a2).cell rfl
  have p2 : World.cell? w2 ⟨B0, 2, none⟩ = some (.int .i64 (a).streams) := (a2).cell rfl
  have p3 : World.cell? w2 ⟨B0, 3, none⟩ = some (.int .i64 (a).window) := (a2).cell rfl
  have p4 : World.cell? w2 ⟨B0, 4, none⟩ = some (.int .i64 (a).frame) := (a2).cell rfl
  have p5 : World.cell? w2 ⟨B0, 5, none⟩ = some (.int .i64 (a).list) := (a2).cell rfl
  have q0 : World.cell? w2 ⟨B1, 0, none⟩ = some (.int .i64 (b).table) := (b2).cell rfl
  have q1 : World.cell? w2 ⟨B1, 1, none⟩ = some (.bool (b).push) := (b2).cell rfl
  have q2 : World.cell? w2 ⟨B1, 2, none⟩ = some (.int .i64 (b).streams) := (b2).cell rfl
  have q3 : World.cell? w2 ⟨B1, 3, none⟩ = some (.int .i64 (b).window) := (b2).cell rfl
  have q4 : World.cell? w2 ⟨B1, 4, none⟩ = some (.int .i64 (b).frame) := (b2).cell rfl
  have q5 : World.cell? w2 ⟨B1, 5, none⟩ = some (.int .i64 (b).list) := (b2).cell rfl
  go_wp2_with fail
  refine (rtell_any a b w2.heap.size _ (Nat.le_refl _)).mono ?_; rintro e w3 ⟨sv2, rfl, h3, hown2⟩
  have hs3 := slice_chg hs2 h3
  have ht3 := owns_sliceOf hown2
  obtain ⟨sa2, cap2, rfl⟩ := owns_slice hown2
  have a3 := a2.chg h3 (by simp)
  have b3 := b2.chg h3 (by simp)
  have hb3 := hb2.chg h3 (Nat.le_refl _) (by simp)
  have hown3 : Hid (w3.ownsRow NB 30 2 (.slice sa (tellR a b).length cap) (tellR a b).length (rowS (tellR a b))) := Lib.hid (owns_chg HOWN.out h3 (by simp))
  clear hown2 h3 p0 p1 p2 p3 p4 p5 q0 q1 q2 q3 q4 q5 a2 b2 hb2 hs2 HOWN
  go_wp2_with fail
  refine (same_eq _ _ (tellR a b) _ hs3 ht3).mono ?_; rintro e w4 ⟨rfl, n4, hw4⟩
  have a4 : At w4 B0 (vB a) := by rw [hw4]; exact a3.drewN _
  have b4 : At w4 B1 (vB b) := by rw [hw4]; exact b3.drewN _
  have hb4 : Below W.heap.size W w4 := by rw [hw4]; exact hb3.drewN _
  have hrow4 : w4.ownsRow NB 30 2 (.slice sa (tellR a b).length cap) (tellR a b).length (rowS (tellR a b)) := by rw [hw4]; exact owns_drewN hown3.out _
  have hg4 : 0 < (tellR a b).length → ∃ g cur, sa = some ⟨g, 0, none⟩ ∧ NB ≤ g ∧ At w4 g (.cells cur 30 (0, 0)) ∧ (tellR a b).length * 2 ≤ cur.size := by
    intro h0
    rcases hrow4.2 with ⟨hn, _⟩ | ⟨g, cap', cur, hv, hbg, hg, hnc, hcm, hcs, htake⟩
    · simp only [Value.slice.injEq] at hn; omega
    · simp only [Value.slice.injEq] at hv
      exact ⟨g, cur, hv.1, hbg, hg, by rw [hcs]; omega⟩
  obtain ⟨n, hn⟩ : ∃ n, n = (tellR a b).length := ⟨_, rfl⟩
  rw [← hn] at hg4 hcl ⊢
  clear a3 b3 hb3 hs3 ht3 hown3 hw4 hrow4
  have HN := Lib.hid hn
  clear hn
  unfold maxLen at hcm
  have hn63 : n ≤ 9223372036854775807 := by omega
  go_wp2_with fail
  go_loopw [8] (fun i wr => ∃ k : Nat, k ≤ n ∧ i = .int .i64 k ∧ At wr B0 (vB a) ∧ At wr B1 (vB b) ∧ Below W.heap.size W wr ∧ (0 < n → ∃ g cur, sa = some ⟨g, 0, none⟩ ∧ NB ≤ g ∧ At wr g (.cells cur 30 (0, 0)) ∧ n * 2 ≤ cur.size)) (fun i _ => n - (intOf i).toNat)
  case atStart => exact ⟨0, Nat.zero_le _, rfl, a4, b4, hb4, hg4⟩
  case round =>
    clear a4 b4 hb4 hg4
    obtain ⟨k, hk, rfl, ha, hb, hbl, hg⟩ := hrel
    by_cases hlt : k < n
    · obtain ⟨g, cur, rfl, hNg, hcur, hsz⟩ := hg (by omega)
      have hget : cur[k * 2]? = some (cur[k * 2]'(by omega)) := Array.getElem?_eq_getElem _
      obtain ⟨y, hy⟩ : ∃ y, y = cur[k * 2]'(by omega) := ⟨_, rfl⟩
      rw [← hy] at hget
      have c0 := hcur.cell hget
      have f0 := hcur.free (k * 2)
      have hB0g : B0 ≠ g := by have := HTA.out; have := HN1.out; omega
      have hB1g : B1 ≠ g := by have := HTB.out; have := HN1.out; omega
      have H0g := Lib.hid hB0g; have H1g := Lib.hid hB1g
      have hk0 : (0 : Int) ≤ k := by omega
      have hk1 : (k : Int) < n := by omega
      clear hy hget hB0g hB1g hg
      go_wp2_with fail
      go_roundw
      case rel => exact ⟨k + 1, by omega, by go_num, ha.set_ne H0g.out _, hb.set_ne H1g.out _, hbl.setCell (by dsimp only; have := HTA.out; have := HB.out; have := HN1.out; omega) _, fun _ => ⟨g, _, rfl, hNg, hcur.set _ _, by simpa using hsz⟩⟩
      case measure => simp [intOf]; omega
    · obtain rfl : k = n := by omega
      clear hg
      have p0 : World.cell? wr ⟨B0, 0, none⟩ = some (.int .i64 (a).table) := (ha).cell rfl
      have p1 : World.cell? wr ⟨B0, 1, none⟩ = some (.bool (a).push) := (ha).cell rfl
      have p2 : World.cell? wr ⟨B0, 2, none⟩ = some (.int .i64 (a).streams) := (ha).cell rfl
      have p3 : World.cell? wr ⟨B0, 3, none⟩ = some (.int .i64 (a).window) := (ha).cell rfl
      have p4 : World.cell? wr ⟨B0, 4, none⟩ = some (.int .i64 (a).frame) := (ha).cell rfl
      have p5 : World.cell? wr ⟨B0, 5, none⟩ = some (.int .i64 (a).list) := (ha).cell rfl
      have q0 : World.cell? wr ⟨B1, 0, none⟩ = some (.int .i64 (b).table) := (hb).cell rfl
      have q1 : World.cell? wr ⟨B1, 1, none⟩ = some (.bool (b).push) := (hb).cell rfl
      have q2 : World.cell? wr ⟨B1, 2, none⟩ = some (.int .i64 (b).streams) := (hb).cell rfl
      have q3 : World.cell? wr ⟨B1, 3, none⟩ = some (.int .i64 (b).window) := (hb).cell rfl
      have q4 : World.cell? wr ⟨B1, 4, none⟩ = some (.int .i64 (b).frame) := (hb).cell rfl
      have q5 : World.cell? wr ⟨B1, 5, none⟩ = some (.int .i64 (b).list) := (hb).cell rfl
      go_upto_region 8 with fail
      go_cut [9] (fun p wx => p = .bool true ∧ Below W.heap.size W wx)
      case first =>
        go_region_held3 (fun w' => World.cell? w' ⟨B0, 0, none⟩ = some (.int .i64 a.table) ∧ World.cell? w' ⟨B0, 1, none⟩ = some (.bool a.push) ∧ World.cell? w' ⟨B0, 2, none⟩ = some (.int .i64 a.streams) ∧ World.cell? w' ⟨B0, 3, none⟩ = some (.int .i64 a.window) ∧ World.cell? w' ⟨B0, 4, none⟩ = some (.int .i64 a.frame) ∧ World.cell? w' ⟨B0, 5, none⟩ = some (.int .i64 a.list) ∧ World.cell? w' ⟨B1, 0, none⟩ = some (.int .i64 b.table) ∧ World.cell? w' ⟨B1, 1, none⟩ = some (.bool b.push) ∧ World.cell? w' ⟨B1, 2, none⟩ = some (.int .i64 b.streams) ∧ World.cell? w' ⟨B1, 3, none⟩ = some (.int .i64 b.window) ∧ World.cell? w' ⟨B1, 4, none⟩ = some (.int .i64 b.frame) ∧ World.cell? w' ⟨B1, 5, none⟩ = some (.int .i64 b.list)) (go_keep) (first
          | (
            go_at_call 10
            refine (tell_any a b 0 wr.drew (Nat.zero_le _)).mono ?_
            rintro e x2 ⟨sv1, rfl, h5, o5⟩
            have a5 : At x2 B0 (vB a) := (ha.drew).chg h5 (by simp)
            have b5 : At x2 B1 (vB b) := (hb.drew).chg h5 (by simp)
            have f5 : Below W.heap.size W x2 := (hbl.drew).chg h5 (Nat.le_refl _) (by simp)
            have p0 : World.cell? x2 ⟨B0, 0, none⟩ = some (.int .i64 (a).table) := (a5).cell rfl
            have p1 : World.cell? x2 ⟨B0, 1, none⟩ = some (.bool (a).push) := (a5).cell rfl
            have p2 : World.cell? x2 ⟨B0, 2, none⟩ = some (.int .i64 (a).streams) := (a5).cell rfl
            have p3 : World.cell? x2 ⟨B0, 3, none⟩ = some (.int .i64 (a).window) := (a5).cell rfl
            have p4 : World.cell? x2 ⟨B0, 4, none⟩ = some (.int .i64 (a).frame) := (a5).cell rfl
            have p5 : World.cell? x2 ⟨B0, 5, none⟩ = some (.int .i64 (a).list) := (a5).cell rfl
            have q0 : World.cell? x2 ⟨B1, 0, none⟩ = some (.int .i64 (b).table) := (b5).cell rfl
            have q1 : World.cell? x2 ⟨B1, 1, none⟩ = some (.bool (b).push) := (b5).cell rfl
            have q2 : World.cell? x2 ⟨B1, 2, none⟩ = some (.int .i64 (b).streams) := (b5).cell rfl
            have q3 : World.cell? x2 ⟨B1, 3, none⟩ = some (.int .i64 (b).window) := (b5).cell rfl
            have q4 : World.cell? x2 ⟨B1, 4, none⟩ = some (.int .i64 (b).frame) := (b5).cell rfl
            have q5 : World.cell? x2 ⟨B1, 5, none⟩ = some (.int .i64 (b).list) := (b5).cell rfl
            have s1 := owns_sliceOf o5
            obtain ⟨g1, d1, rfl⟩ := owns_slice o5
            skip)
          | (
            go_at_call 12
            refine (rtell_any a b 0 wr.drew (Nat.zero_le _)).mono ?_
            rintro e x2 ⟨sv1, rfl, h5, o5⟩
            have a5 : At x2 B0 (vB a) := (ha.drew).chg h5 (by simp)
            have b5 : At x2 B1 (vB b) := (hb.drew).chg h5 (by simp)
            have f5 : Below W.heap.size W x2 := (hbl.drew).chg h5 (Nat.le_refl _) (by simp)
            have p0 : World.cell? x2 ⟨B0, 0, none⟩ = some (.int .i64 (a).table) := (a5).cell rfl
            have p1 : World.cell? x2 ⟨B0, 1, none⟩ = some (.bool (a).push) := (a5).cell rfl
            have p2 : World.cell? x2 ⟨B0, 2, none⟩ = some (.int .i64 (a).streams) := (a5).cell rfl
            have p3 : World.cell? x2 ⟨B0, 3, none⟩ = some (.int .i64 (a).window) := (a5).cell rfl
            have p4 : World.cell? x2 ⟨B0, 4, none⟩ = some (.int .i64 (a).frame) := (a5).cell rfl
            have p5 : World.cell? x2 ⟨B0, 5, none⟩ = some (.int .i64 (a).list) := (a5).cell rfl
            have q0 : World.cell? x2 ⟨B1, 0, none⟩ = some (.int .i64 (b).table) := (b5).cell rfl
            have q1 : World.cell? x2 ⟨B1, 1, none⟩ = some (.bool (b).push) := (b5).cell rfl
            have q2 : World.cell? x2 ⟨B1, 2, none⟩ = some (.int .i64 (b).streams) := (b5).cell rfl
            have q3 : World.cell? x2 ⟨B1, 3, none⟩ = some (.int .i64 (b).window) := (b5).cell rfl
            have q4 : World.cell? x2 ⟨B1, 4, none⟩ = some (.int .i64 (b).frame) := (b5).cell rfl
            have q5 : World.cell? x2 ⟨B1, 5, none⟩ = some (.int .i64 (b).list) := (b5).cell rfl
            have s1 := owns_sliceOf o5
            obtain ⟨g1, d1, rfl⟩ := owns_slice o5
            skip)
          | (
            go_at_call 10
            refine (tell_any a b 0 x2 (Nat.zero_le _)).mono ?_
            rintro e x3 ⟨sv2, rfl, h5, o5⟩
            have a5 : At x3 B0 (vB a) := (a5).chg h5 (by simp)
            have b5 : At x3 B1 (vB b) := (b5).chg h5 (by simp)
            have f5 : Below W.heap.size W x3 := (f5).chg h5 (Nat.le_refl _) (by simp)
            have p0 : World.cell? x3 ⟨B0, 0, none⟩ = some (.int .i64 (a).table) := (a5).cell rfl
            have p1 : World.cell? x3 ⟨B0, 1, none⟩ = some (.bool (a).push) := (a5).cell rfl
            have p2 : World.cell? x3 ⟨B0, 2, none⟩ = some (.int .i64 (a).streams) := (a5).cell rfl
            have p3 : World.cell? x3 ⟨B0, 3, none⟩ = some (.int .i64 (a).window) := (a5).cell rfl
            have p4 : World.cell? x3 ⟨B0, 4, none⟩ = some (.int .i64 (a).frame) := (a5).cell rfl
            have p5 : World.cell? x3 ⟨B0, 5, none⟩ = some (.int .i64 (a).list) := (a5).cell rfl
            have q0 : World.cell? x3 ⟨B1, 0, none⟩ = some (.int .i64 (b).table) := (b5).cell rfl
            have q1 : World.cell? x3 ⟨B1, 1, none⟩ = some (.bool (b).push) := (b5).cell rfl
            have q2 : World.cell? x3 ⟨B1, 2, none⟩ = some (.int .i64 (b).streams) := (b5).cell rfl
            have q3 : World.cell? x3 ⟨B1, 3, none⟩ = some (.int .i64 (b).window) := (b5).cell rfl
            have q4 : World.cell? x3 ⟨B1, 4, none⟩ = some (.int .i64 (b).frame) := (b5).cell rfl
            have q5 : World.cell? x3 ⟨B1, 5, none⟩ = some (.int .i64 (b).list) := (b5).cell rfl
            have s2 := owns_sliceOf o5
            have s3 := slice_chg s1 h5
            obtain ⟨g2, d2, rfl⟩ := owns_slice o5
            skip)
          | (
            go_at_call 12
            refine (rtell_any a b 0 x2 (Nat.zero_le _)).mono ?_
            rintro e x3 ⟨sv2, rfl, h5, o5⟩
            have a5 : At x3 B0 (vB a) := (a5).chg h5 (by simp)
            have b5 : At x3 B1 (vB b) := (b5).chg h5 (by simp)
            have f5 : Below W.heap.size W x3 := (f5).chg h5 (Nat.le_refl _) (by simp)
            have p0 : World.cell? x3 ⟨B0, 0, none⟩ = some (.int .i64 (a).table) := (a5).cell rfl
            have p1 : World.cell? x3 ⟨B0, 1, none⟩ = some (.bool (a).push) := (a5).cell rfl
            have p2 : World.cell? x3 ⟨B0, 2, none⟩ = some (.int .i64 (a).streams) := (a5).cell rfl
            have p3 : World.cell? x3 ⟨B0, 3, none⟩ = some (.int .i64 (a).window) := (a5).cell rfl
            have p4 : World.cell? x3 ⟨B0, 4, none⟩ = some (.int .i64 (a).frame) := (a5).cell rfl
            have p5 : World.cell? x3 ⟨B0, 5, none⟩ = some (.int .i64 (a).list) := (a5).cell rfl
            have q0 : World.cell? x3 ⟨B1, 0, none⟩ = some (.int .i64 (b).table) := (b5).cell rfl
            have q1 : World.cell? x3 ⟨B1, 1, none⟩ = some (.bool (b).push) := (b5).cell rfl
            have q2 : World.cell? x3 ⟨B1, 2, none⟩ = some (.int .i64 (b).streams) := (b5).cell rfl
            have q3 : World.cell? x3 ⟨B1, 3, none⟩ = some (.int .i64 (b).window) := (b5).cell rfl
            have q4 : World.cell? x3 ⟨B1, 4, none⟩ = some (.int .i64 (b).frame) := (b5).cell rfl
            have q5 : World.cell? x3 ⟨B1, 5, none⟩ = some (.int .i64 (b).list) := (b5).cell rfl
            have s2 := owns_sliceOf o5
            have s3 := slice_chg s1 h5
            obtain ⟨g2, d2, rfl⟩ := owns_slice o5
            skip)
          | (
            go_at_call 11
            first
              | refine (same_eq _ _ (tellR a b) x3 s3 s2).mono ?_
              | refine (same_eq _ _ (tellR a b) x3 s2 s3).mono ?_
            rintro e x9 ⟨rfl, n9, hx9⟩
            have f9 : Below W.heap.size W x9 := by rw [hx9]; exact f5.drewN _
            have a9 : At x9 B0 (vB a) := by rw [hx9]; exact a5.drewN _
            have b9 : At x9 B1 (vB b) := by rw [hx9]; exact b5.drewN _
            have p0 : World.cell? x9 ⟨B0, 0, none⟩ = some (.int .i64 (a).table) := (a9).cell rfl
            have p1 : World.cell? x9 ⟨B0, 1, none⟩ = some (.bool (a).push) := (a9).cell rfl
            have p2 : World.cell? x9 ⟨B0, 2, none⟩ = some (.int .i64 (a).streams) := (a9).cell rfl
            have p3 : World.cell? x9 ⟨B0, 3, none⟩ = some (.int .i64 (a).window) := (a9).cell rfl
            have p4 : World.cell? x9 ⟨B0, 4, none⟩ = some (.int .i64 (a).frame) := (a9).cell rfl
            have p5 : World.cell? x9 ⟨B0, 5, none⟩ = some (.int .i64 (a).list) := (a9).cell rfl
            have q0 : World.cell? x9 ⟨B1, 0, none⟩ = some (.int .i64 (b).table) := (b9).cell rfl
            have q1 : World.cell? x9 ⟨B1, 1, none⟩ = some (.bool (b).push) := (b9).cell rfl
            have q2 : World.cell? x9 ⟨B1, 2, none⟩ = some (.int .i64 (b).streams) := (b9).cell rfl
            have q3 : World.cell? x9 ⟨B1, 3, none⟩ = some (.int .i64 (b).window) := (b9).cell rfl
            have q4 : World.cell? x9 ⟨B1, 4, none⟩ = some (.int .i64 (b).frame) := (b9).cell rfl
            have q5 : World.cell? x9 ⟨B1, 5, none⟩ = some (.int .i64 (b).list) := (b9).cell rfl
            clear hx9
            skip)
          | fail)
        all_goals (go_wp2_with fail; go_meet)
        all_goals exact ⟨rfl, f9⟩
      case rest =>
        obtain ⟨rfl, hbx⟩ := hcut
        go_wp2_with fail
        go_ret
        exact ⟨rfl, hbx⟩

/-! ### The row's step -/
theorem own : ownKnob Try.prog.godebug = none := by kernel_rfl
theorem laid : laidOutB Try.prog = true := by kernel_rfl

set_option maxRecDepth 100000 in
theorem lifted (os : Os) (started : os.Started) (H : Type) (enc : TypeId × Value → H) :
    ReturnsInHanded {} Try.checked os 3 .any (Rows.settingsTellSpec.pre6 enc Try.prog Try.f3 Rows.settingsTellRow.domain false) (Rows.settingsTellSpec.post enc Try.prog Try.f3 false true false false) := by
  refine lift_law (C := Try.checked) (tb := 4) own started (by kernel_rfl) Try.func3
    (ChangeSpec.witness6 (enc := enc) (C := Try.checked) false ⟨#[], #[.agg #[.int .i64 0, .bool false, .int .i64 0, .int .i64 0, .int .i64 0, .int .i64 0], .agg #[.int .i64 0, .bool false, .int .i64 0, .int .i64 0, .int .i64 0, .int .i64 0]], []⟩ 8 (by kernel_rfl) (by kernel_rfl) (by kernel_rfl) (by kernel_rfl))
    laid (by rw [Try.params3]; intro t ht; simp only [List.mem_cons, List.not_mem_nil, or_false] at ht; rcases ht with rfl | rfl <;> exact ⟨by kernel_rfl, of_decide_eq_true (by kernel_rfl)⟩) (by kernel_rfl) Try.underlying4 rfl
    (fun ds h => by rw [Try.params3] at h; match ds, h with | [d0, d1], _ => rfl) ?_
  intro W base args ds before hval hA hlt hsz
  rw [Try.params3] at hA hval
  try rw [Try.params3] at hsz
  have hlt0 := hlt
  obtain ⟨v0, vs0, d0, ds0, p0, q0, hargs, rfl, rfl, h0, r0⟩ := trodAll_cons hA
  obtain ⟨v1, vs1, d1, ds1, p1, q1, rfl, rfl, rfl, h1, r1⟩ := trodAll_cons r0
  obtain ⟨rfl, rfl, rfl⟩ := trodAll_nil r1
  obtain rfl : args = #[v0, v1] := by cases args; simp_all
  have l0 : ∀ p ∈ p0, p.block < W.heap.size := fun x hx => hlt x (by simp [hx])
  have l1 : ∀ p ∈ p1, p.block < W.heap.size := fun x hx => hlt x (by simp [hx])
  obtain ⟨z0, rfl, zo0⟩ := open_arg_struct 6 encV V.Ok Try.underlying23 (by kernel_rfl) (hval 0 23 v0 rfl rfl) decV h0
  obtain ⟨z1, rfl, zo1⟩ := open_arg_struct 6 encV V.Ok Try.underlying23 (by kernel_rfl) (hval 1 23 v1 rfl rfl) decV h1
  exact walk z0 z1 W

theorem over : Rows.settingsTellRow.holds Try.pinned (OpenSpec.ofChange Rows.settingsTellSpec) :=
  OpenClaim.holds_of_wide 3 Try.f3 rfl rfl rfl rfl rfl rfl rfl ⟨rfl, rfl, rfl, rfl, rfl⟩ rfl rfl rfl rfl rfl (by kernel_rfl) Try.func3 (by kernel_rfl)
    (of_decide_eq_true (by kernel_rfl)) (by unfold Func.isWrapper; first | (rw [if_pos (by decide +kernel)]; kernel_rfl) | (rw [if_neg (by decide +kernel)]; exact ⟨rfl, rfl⟩))
    (fun os started H enc _ => lifted os started H enc)

/-- The statement. -/
theorem proved : Rows.SettingsTellSaid :=
  over
#print axioms proved

end Go.Proofs.Ytanfibaphoficaa.Told
