/-
  PoolPlaces: nobody gets a place that there is not, and who has one keeps it: any steps on a pool of eight: the walk.
-/
import Derived.Test.YthinceoklkjcpaaPlaces
import Derived.Deep.WholeRow
import Derived.Deep.DeepCutAuto
namespace Go.Proofs.Ythinceoklkjcpaa.Places
open Go.ChangeShapes Go.WideShapes Go.ChangeAt Go.RowKit
open Go.Proofs.Ythinceoklkjcpaa.B Go.Proofs.Ythinceoklkjcpaa.Pool
set_option linter.unusedVariables false
set_option linter.unusedSimpArgs false

theorem Has.put {W w : World} {p : Nat} {most : Int} {cs : List Cn} (h : Has W w p most cs) {b : Nat} {c : Array Value} {T : TypeId} (hB : W.heap.size ≤ b) (ha : Alien T) (hat : At w b (.cells c T (0, 0))) (o : Nat) (v : Value) : Has W (w.setCell ⟨b, o, none⟩ v) p most cs :=
  h.keep (l := [b]) ((Chg.refl w).setCell (Or.inl (by simp)) v) (by simp; exact hB) (fun x hx => by simp at hx; subst hx; exact ⟨c, T, _, ha, hat⟩)
structure Arr (w : World) (B5 B6 B7 B8 : Nat) (S U : Nat → Int) (D I : Nat → Bool) : Prop where
  a5 : At w B5 (.cells (cI S) 42 (0, 0))
  a6 : At w B6 (.cells (cI U) 42 (0, 0))
  a7 : At w B7 (.cells (cB D) 43 (0, 0))
  a8 : At w B8 (.cells (cB I) 43 (0, 0))
section
variable {w w' : World} {B5 B6 B7 B8 : Nat} {S U : Nat → Int} {D I : Nat → Bool}
theorem Arr.keeps (h : Arr w B5 B6 B7 B8 S U D I) (k : Keeps w w') : Arr w' B5 B6 B7 B8 S U D I :=
  ⟨k _ _ _ _ alienI h.a5, k _ _ _ _ alienI h.a6, k _ _ _ _ alienB h.a7, k _ _ _ _ alienB h.a8⟩
theorem Arr.alloc (h : Arr w B5 B6 B7 B8 S U D I) (o : Obj) : Arr (w.alloc o) B5 B6 B7 B8 S U D I := ⟨h.a5.alloc o, h.a6.alloc o, h.a7.alloc o, h.a8.alloc o⟩
theorem Arr.drewN (h : Arr w B5 B6 B7 B8 S U D I) (n : Nat) : Arr (w.drewN n) B5 B6 B7 B8 S U D I := ⟨h.a5.drewN n, h.a6.drewN n, h.a7.drewN n, h.a8.drewN n⟩
theorem Arr.set5 (h : Arr w B5 B6 B7 B8 S U D I) (h1 : B5 < B6) (h2 : B6 < B7) (h3 : B7 < B8) {k : Nat} (hk : k < 16) (v : Int) : Arr (w.setCell ⟨B5, k, none⟩ (.int .i64 v)) B5 B6 B7 B8 (put S k v) U D I :=
  ⟨by have := h.a5.set k (.int .i64 v); rw [cI_set _ _ hk] at this; exact this, h.a6.set_ne (by dsimp only; omega) _, h.a7.set_ne (by dsimp only; omega) _, h.a8.set_ne (by dsimp only; omega) _⟩
theorem Arr.set6 (h : Arr w B5 B6 B7 B8 S U D I) (h1 : B5 < B6) (h2 : B6 < B7) (h3 : B7 < B8) {k : Nat} (hk : k < 16) (v : Int) : Arr (w.setCell ⟨B6, k, none⟩ (.int .i64 v)) B5 B6 B7 B8 S (put U k v) D I :=
  ⟨h.a5.set_ne (by dsimp only; omega) _, by have := h.a6.set k (.int .i64 v); rw [cI_set _ _ hk] at this; exact this, h.a7.set_ne (by dsimp only; omega) _, h.a8.set_ne (by dsimp only; omega) _⟩
theorem Arr.set7 (h : Arr w B5 B6 B7 B8 S U D I) (h1 : B5 < B6) (h2 : B6 < B7) (h3 : B7 < B8) {k : Nat} (hk : k < 16) (v : Bool) : Arr (w.setCell ⟨B7, k, none⟩ (.bool v)) B5 B6 B7 B8 S U (put D k v) I :=
  ⟨h.a5.set_ne (by dsimp only; omega) _, h.a6.set_ne (by dsimp only; omega) _, by have := h.a7.set k (.bool v); rw [cB_set _ _ hk] at this; exact this, h.a8.set_ne (by dsimp only; omega) _⟩
theorem Arr.set8 (h : Arr w B5 B6 B7 B8 S U D I) (h1 : B5 < B6) (h2 : B6 < B7) (h3 : B7 < B8) {k : Nat} (hk : k < 16) (v : Bool) : Arr (w.setCell ⟨B8, k, none⟩ (.bool v)) B5 B6 B7 B8 S U D (put I k v) :=
  ⟨h.a5.set_ne (by dsimp only; omega) _, h.a6.set_ne (by dsimp only; omega) _, h.a7.set_ne (by dsimp only; omega) _, by have := h.a8.set k (.bool v); rw [cB_set _ _ hk] at this; exact this⟩
end
theorem mask (n : Int) (m : Nat) (hm : m < 9223372036854775808) : ∃ A : Nat, Go.bits .and .i64 n (m : Int) = (A : Int) ∧ A ≤ m := by
  have h := i64_and_le n m hm
  exact ⟨(Go.bits .and .i64 n (m : Int)).toNat, by omega, by omega⟩

set_option maxRecDepth 100000 in
set_option maxHeartbeats 16000000 in
theorem walk (v : Value) (l : List O) (W : World) (hm : l.length ≤ maxLen) (hs : SliceOf W v 3 encO l) (hok : ∀ o ∈ l, o.Ok) :
    Calls Try.prog 6 #[v] W fun e w' => e = .returned (.bool true) ∧ Below W.heap.size W w' := by
  unfold maxLen at hm
  obtain ⟨a, cap, rfl, hc, hcm, hcell⟩ := hs
  have HCELL := Lib.hid hcell; have HOK := Lib.hid hok
  clear hcell hok
  have hz1 := (zero_of_info info_I).1
  have hz2 := (zero_of_info info_B).1
  go_enter Try.func6, Try.ntmps6
  go_wp2_with fail
  refine (shown_any _).mono ?_; rintro e w1 ⟨rfl, hb1⟩
  go_wp2_with fail
  refine (H_new 8 w1 hb1).mono ?_; rintro e w2 ⟨rfl, h2⟩
  have h2 : Has W w2 w1.heap.size 8 [] := h2
  generalize w1.heap.size = p at *
  have hlo := h2.lo
  have r2 : Arr ((((w2.alloc (.cells (cI fun _ => 0) 42)).alloc (.cells (cI fun _ => 0) 42)).alloc (.cells (cB fun _ => false) 43)).alloc (.cells (cB fun _ => false) 43)) w2.heap.size (w2.heap.size + 1) (w2.heap.size + 1 + 1) (w2.heap.size + 1 + 1 + 1) (fun _ => 0) (fun _ => 0) (fun _ => false) (fun _ => false) :=
    ⟨(((At.new' rfl).alloc _).alloc _).alloc _, ((At.new' (by simp)).alloc _).alloc _, (At.new' (by simp)).alloc _, At.new' (by simp)⟩
  have h3 := h2.step (((((Chg.refl w2).alloc (l := []) (.cells (cI fun _ => 0) 42)).alloc (.cells (cI fun _ => 0) 42)).alloc (.cells (cB fun _ => false) 43)).alloc (.cells (cB fun _ => false) 43))
  clear h2
  go_wp2_with fail
  have k1 : w2.heap.size < w2.heap.size + 1 := by omega
  have k2 : w2.heap.size + 1 < w2.heap.size + 1 + 1 := by omega
  have k3 : w2.heap.size + 1 + 1 < w2.heap.size + 1 + 1 + 1 := by omega
  generalize (((w2.alloc (.cells (cI fun _ => 0) 42)).alloc (.cells (cI fun _ => 0) 42)).alloc (.cells (cB fun _ => false) 43)).alloc (.cells (cB fun _ => false) 43) = w3 at *
  generalize w2.heap.size + 1 + 1 + 1 = B8 at *
  generalize w2.heap.size + 1 + 1 = B7 at *
  generalize w2.heap.size + 1 = B6 at *
  generalize w2.heap.size = B5 at *
  have n56 : ¬ B5 = B6 := by omega
  have n57 : ¬ B5 = B7 := by omega
  have n58 : ¬ B5 = B8 := by omega
  have n67 : ¬ B6 = B7 := by omega
  have n68 : ¬ B6 = B8 := by omega
  have n78 : ¬ B7 = B8 := by omega
  have n65 : ¬ B6 = B5 := by omega
  have n75 : ¬ B7 = B5 := by omega
  have n85 : ¬ B8 = B5 := by omega
  have n76 : ¬ B7 = B6 := by omega
  have n86 : ¬ B8 = B6 := by omega
  have n87 : ¬ B8 = B7 := by omega
  have l6 : W.heap.size ≤ B6 := by omega
  have l7 : W.heap.size ≤ B7 := by omega
  have l8 : W.heap.size ≤ B8 := by omega
  clear hz1 hz2
  go_loopw [9] (fun iv wr => ∃ (k : Nat) (cs : List Cn) (S U : Nat → Int) (D I : Nat → Bool), k ≤ l.length ∧ k ≤ 400 ∧ iv = .int .i64 k ∧ Has W wr p 8 cs ∧ Inv 8 cs ∧ Tab cs S U D I ∧ Arr wr B5 B6 B7 B8 S U D I) (fun iv _ => l.length - (intOf iv).toNat)
  case atStart => exact ⟨0, [], _, _, _, _, by omega, by omega, rfl, h3, Inv.nil (by decide) (by decide), Tab.nil, r2⟩
  case round =>
    clear h3 r2
    obtain ⟨k, cs, S, U, D, I, hk, hk2, rfl, hh, hi, ht, hr⟩ := hrel
    by_cases hlt : k < l.length ∧ k < 400
    · obtain ⟨hlt, h20⟩ := hlt
      obtain ⟨b, off, rfl, hb, hcells⟩ := HCELL.out (by omega)
      obtain ⟨z, hz⟩ : ∃ z, l[k]? = some z := ⟨_, List.getElem?_eq_getElem hlt⟩
      have c0 : wr.cell? ⟨b, off + k * 3, none⟩ = some (.int .i64 z.kind) := by rw [hh.below.cell hb]; exact hcells k z hz 0 (by omega)
      have c1 : wr.cell? ⟨b, off + k * 3 + 1, none⟩ = some (.int .i64 z.id) := by rw [hh.below.cell hb]; exact hcells k z hz 1 (by omega)
      have c2 : wr.cell? ⟨b, off + k * 3 + 2, none⟩ = some (.int .i64 z.n) := by rw [hh.below.cell hb]; exact hcells k z hz 2 (by omega)
      obtain ⟨oa, ob, oc⟩ := HOK.out z (List.mem_of_getElem? hz)
      have h3 := Lib.hid (hh.step ((Chg.refl wr).alloc (l := []) (.cells #[.int .i64 z.kind, .int .i64 z.id, .int .i64 z.n] 36)))
      have R3 := Lib.hid (hr.alloc (.cells #[.int .i64 z.kind, .int .i64 z.id, .int .i64 z.n] 36))
      have HI := Lib.hid hi; have HT := Lib.hid ht
      clear hz hcells hh hi ht hr
      obtain ⟨kd, hkd⟩ : ∃ kd, kd = z.kind := ⟨_, rfl⟩
      obtain ⟨zd, hzd⟩ : ∃ zd, zd = z.id := ⟨_, rfl⟩
      obtain ⟨zn, hzn⟩ : ∃ zn, zn = z.n := ⟨_, rfl⟩
      rw [← hkd, ← hzd, ← hzn] at h3 R3
      rw [← hkd] at c0 oa
      rw [← hzd] at c1 ob
      rw [← hzn] at c2 oc
      clear hkd hzd hzn
      obtain ⟨K, eK, hK⟩ : ∃ K : Nat, Go.bits .and .i64 zd 15 = (K : Int) ∧ K < 16 := by
        obtain ⟨A, h1, h2⟩ := mask zd 15 (by decide); exact ⟨A, h1, by omega⟩
      obtain ⟨N, eN, hN⟩ : ∃ N : Nat, Go.bits .and .i64 zn 7 = (N : Int) ∧ N ≤ 7 := by
        obtain ⟨A, h1, h2⟩ := mask zn 7 (by decide); exact ⟨A, h1, h2⟩
      have hK2 : (K : Int) < 16 := by omega
      rcases eqC kd 1 with ⟨rfl, _⟩ | ⟨d1, g1⟩
      · go_wp2_with fail
        clear eK eN
        refine (X_add _ _ _ h3.out HI.out).mono ?_; rintro e w4 ⟨rfl, h4, kk⟩
        have r4 := R3.out.keeps kk
        clear kk h3 R3 c0 c1 c2
        have IZ := Lib.hid (HI.out.add (K : Int) (N : Int) (by omega))
        cases had : addR 8 cs K
        · have TZ := Lib.hid (HT.out.add_no (n := (N : Int)) had)
          obtain ⟨wz, hwz⟩ : ∃ wz, wz = w4 := ⟨_, rfl⟩
          rw [← hwz] at h4 r4 ⊢
          have HZ := Lib.hid h4; have RZ := Lib.hid r4
          clear h4 r4 hwz
          clear had
          -- wz, HZ : Has, RZ : Arr, TZ : Tab, IZ : Inv
          have hik : ∃ b, b = (I) K := ⟨_, rfl⟩
          obtain ⟨ik, hik⟩ := hik
          have g8 : World.cell? wz ⟨B8, K, none⟩ = some (.bool ik) := by rw [hik]; exact RZ.out.a8.cell (cB_get _ hK)
          have g6 : World.cell? wz ⟨B6, K, none⟩ = some (.int .i64 ((U) K)) := RZ.out.a6.cell (cI_get _ hK)
          obtain ⟨uk, huk⟩ : ∃ u, u = (U) K := ⟨_, rfl⟩
          rw [← huk] at g6
          cases ik
          · clear hik huk
            go_wp2_with fail
            go_quiet (fail)
            go_wp2_with fail
            go_roundw
            case rel => exact ⟨k + 1, _, S, U, D, I, by omega, by omega, by go_num, HZ.out.drewN _, IZ.out, TZ.out, RZ.out.drewN _⟩
            case measure => simp [intOf]; omega
          · have hus := TZ.out.used IZ.out hK hik.symm
            rw [← huk] at hus
            have hcon : ∀ n, Calls Try.prog 13 #[.pointer (some ⟨p, 0, none⟩), .int .i64 (K : Int)] (wz.drewN n) fun e w' => e = .returned (.int .i64 uk) ∧ ∃ m, w' = (wz.drewN n).drewN m :=
              fun n => (X_used (K : Int) _ (HZ.out.drewN n)).mono fun e w' ⟨he, hw⟩ => ⟨by rw [he, hus], 0, hw ▸ rfl⟩
            have HCON := Lib.hid hcon
            clear hik huk hus hcon
            go_wp2_with fail
            go_quiet ((go_at_call 13; exact Calls.quiet_of (HCON.out _)))
            go_wp2_with fail
            go_roundw
            case rel => exact ⟨k + 1, _, S, U, D, I, by omega, by omega, by go_num, HZ.out.drewN _, IZ.out, TZ.out, RZ.out.drewN _⟩
            case measure => simp [intOf]; omega
        · have TZ := Lib.hid (HT.out.add hK (n := (N : Int)) (by omega) had)
          have e5 : World.cell? w4 ⟨B5, K, none⟩ = some (.int .i64 (S K)) := (r4).a5.cell (cI_get _ hK)
          have e6 : World.cell? w4 ⟨B6, K, none⟩ = some (.int .i64 (U K)) := (r4).a6.cell (cI_get _ hK)
          have e7 : World.cell? w4 ⟨B7, K, none⟩ = some (.bool (D K)) := (r4).a7.cell (cB_get _ hK)
          have e8 : World.cell? w4 ⟨B8, K, none⟩ = some (.bool (I K)) := (r4).a8.cell (cB_get _ hK)
          have f5 : ∀ j, World.frozen? w4 ⟨B5, j, none⟩ = false := fun j => (r4).a5.free j
          have f6 : ∀ j, World.frozen? w4 ⟨B6, j, none⟩ = false := fun j => (r4).a6.free j
          have f7 : ∀ j, World.frozen? w4 ⟨B7, j, none⟩ = false := fun j => (r4).a7.free j
          have f8 : ∀ j, World.frozen? w4 ⟨B8, j, none⟩ = false := fun j => (r4).a8.free j
          go_upto_region 38 with fail
          have p1 := Has.put h4 l8 alienB r4.a8 K (.bool true)
          have q1 := r4.set8 k1 k2 k3 hK true
          have p2 := Has.put p1 hlo alienI q1.a5 K (.int .i64 N)
          have q2 := q1.set5 k1 k2 k3 hK N
          have p3 := Has.put p2 l6 alienI q2.a6 K (.int .i64 0)
          have q3 := q2.set6 k1 k2 k3 hK 0
          have p4 := Has.put p3 l7 alienB q3.a7 K (.bool false)
          have q4 := q3.set7 k1 k2 k3 hK false
          obtain ⟨wz, hwz⟩ : ∃ wz, wz = ((((w4.setCell ⟨B8, K, none⟩ (.bool true)).setCell ⟨B5, K, none⟩ (.int .i64 N)).setCell ⟨B6, K, none⟩ (.int .i64 0)).setCell ⟨B7, K, none⟩ (.bool false)) := ⟨_, rfl⟩
          rw [← hwz] at p4 q4 ⊢
          have HZ := Lib.hid p4; have RZ := Lib.hid q4
          clear p4 q4 hwz
          clear p1 q1 p2 q2 p3 q3 h4 r4 had e5 e6 e7 e8 f5 f6 f7 f8
          -- wz, HZ : Has, RZ : Arr, TZ : Tab, IZ : Inv
          have hik : ∃ b, b = (put I K true) K := ⟨_, rfl⟩
          obtain ⟨ik, hik⟩ := hik
          have g8 : World.cell? wz ⟨B8, K, none⟩ = some (.bool ik) := by rw [hik]; exact RZ.out.a8.cell (cB_get _ hK)
          have g6 : World.cell? wz ⟨B6, K, none⟩ = some (.int .i64 ((put U K 0) K)) := RZ.out.a6.cell (cI_get _ hK)
          obtain ⟨uk, huk⟩ : ∃ u, u = (put U K 0) K := ⟨_, rfl⟩
          rw [← huk] at g6
          cases ik
          · clear hik huk
            go_wp2_with fail
            go_quiet (fail)
            go_wp2_with fail
            go_roundw
            case rel => exact ⟨k + 1, _, put S K N, put U K 0, put D K false, put I K true, by omega, by omega, by go_num, HZ.out.drewN _, IZ.out, TZ.out, RZ.out.drewN _⟩
            case measure => simp [intOf]; omega
          · have hus := TZ.out.used IZ.out hK hik.symm
            rw [← huk] at hus
            have hcon : ∀ n, Calls Try.prog 13 #[.pointer (some ⟨p, 0, none⟩), .int .i64 (K : Int)] (wz.drewN n) fun e w' => e = .returned (.int .i64 uk) ∧ ∃ m, w' = (wz.drewN n).drewN m :=
              fun n => (X_used (K : Int) _ (HZ.out.drewN n)).mono fun e w' ⟨he, hw⟩ => ⟨by rw [he, hus], 0, hw ▸ rfl⟩
            have HCON := Lib.hid hcon
            clear hik huk hus hcon
            go_wp2_with fail
            go_quiet ((go_at_call 13; exact Calls.quiet_of (HCON.out _)))
            go_wp2_with fail
            go_roundw
            case rel => exact ⟨k + 1, _, put S K N, put U K 0, put D K false, put I K true, by omega, by omega, by go_num, HZ.out.drewN _, IZ.out, TZ.out, RZ.out.drewN _⟩
            case measure => simp [intOf]; omega
      rcases eqC kd 2 with ⟨rfl, _⟩ | ⟨d2, g2⟩
      · go_wp2_with fail
        clear eK eN
        refine (X_slots _ _ _ h3.out).mono ?_; rintro e w4 ⟨rfl, h4, kk⟩
        have r4 := R3.out.keeps kk
        clear kk h3 R3 c0 c1 c2
        have IZ := Lib.hid (HI.out.slots (K : Int) (N : Int) (by omega))
        cases had : hasR cs K
        · have TZ := Lib.hid (HT.out.slots_no (n := (N : Int)) had)
          obtain ⟨wz, hwz⟩ : ∃ wz, wz = w4 := ⟨_, rfl⟩
          rw [← hwz] at h4 r4 ⊢
          have HZ := Lib.hid h4; have RZ := Lib.hid r4
          clear h4 r4 hwz
          clear had
          -- wz, HZ : Has, RZ : Arr, TZ : Tab, IZ : Inv
          have hik : ∃ b, b = (I) K := ⟨_, rfl⟩
          obtain ⟨ik, hik⟩ := hik
          have g8 : World.cell? wz ⟨B8, K, none⟩ = some (.bool ik) := by rw [hik]; exact RZ.out.a8.cell (cB_get _ hK)
          have g6 : World.cell? wz ⟨B6, K, none⟩ = some (.int .i64 ((U) K)) := RZ.out.a6.cell (cI_get _ hK)
          obtain ⟨uk, huk⟩ : ∃ u, u = (U) K := ⟨_, rfl⟩
          rw [← huk] at g6
          cases ik
          · clear hik huk
            go_wp2_with fail
            go_quiet (fail)
            go_wp2_with fail
            go_roundw
            case rel => exact ⟨k + 1, _, S, U, D, I, by omega, by omega, by go_num, HZ.out.drewN _, IZ.out, TZ.out, RZ.out.drewN _⟩
            case measure => simp [intOf]; omega
          · have hus := TZ.out.used IZ.out hK hik.symm
            rw [← huk] at hus
            have hcon : ∀ n, Calls Try.prog 13 #[.pointer (some ⟨p, 0, none⟩), .int .i64 (K : Int)] (wz.drewN n) fun e w' => e = .returned (.int .i64 uk) ∧ ∃ m, w' = (wz.drewN n).drewN m :=
              fun n => (X_used (K : Int) _ (HZ.out.drewN n)).mono fun e w' ⟨he, hw⟩ => ⟨by rw [he, hus], 0, hw ▸ rfl⟩
            have HCON := Lib.hid hcon
            clear hik huk hus hcon
            go_wp2_with fail
            go_quiet ((go_at_call 13; exact Calls.quiet_of (HCON.out _)))
            go_wp2_with fail
            go_roundw
            case rel => exact ⟨k + 1, _, S, U, D, I, by omega, by omega, by go_num, HZ.out.drewN _, IZ.out, TZ.out, RZ.out.drewN _⟩
            case measure => simp [intOf]; omega
        · have TZ := Lib.hid (HT.out.slots HI.out (n := (N : Int)) (by omega) had)
          have e5 : World.cell? w4 ⟨B5, K, none⟩ = some (.int .i64 (S K)) := (r4).a5.cell (cI_get _ hK)
          have e6 : World.cell? w4 ⟨B6, K, none⟩ = some (.int .i64 (U K)) := (r4).a6.cell (cI_get _ hK)
          have e7 : World.cell? w4 ⟨B7, K, none⟩ = some (.bool (D K)) := (r4).a7.cell (cB_get _ hK)
          have e8 : World.cell? w4 ⟨B8, K, none⟩ = some (.bool (I K)) := (r4).a8.cell (cB_get _ hK)
          have f5 : ∀ j, World.frozen? w4 ⟨B5, j, none⟩ = false := fun j => (r4).a5.free j
          have f6 : ∀ j, World.frozen? w4 ⟨B6, j, none⟩ = false := fun j => (r4).a6.free j
          have f7 : ∀ j, World.frozen? w4 ⟨B7, j, none⟩ = false := fun j => (r4).a7.free j
          have f8 : ∀ j, World.frozen? w4 ⟨B8, j, none⟩ = false := fun j => (r4).a8.free j
          go_upto_region 38 with fail
          have p4 := Has.put h4 hlo alienI r4.a5 K (.int .i64 N)
          have q4 := r4.set5 k1 k2 k3 hK N
          obtain ⟨wz, hwz⟩ : ∃ wz, wz = (w4.setCell ⟨B5, K, none⟩ (.int .i64 N)) := ⟨_, rfl⟩
          rw [← hwz] at p4 q4 ⊢
          have HZ := Lib.hid p4; have RZ := Lib.hid q4
          clear p4 q4 hwz
          clear h4 r4 had e5 e6 e7 e8 f5 f6 f7 f8
          -- wz, HZ : Has, RZ : Arr, TZ : Tab, IZ : Inv
          have hik : ∃ b, b = (I) K := ⟨_, rfl⟩
          obtain ⟨ik, hik⟩ := hik
          have g8 : World.cell? wz ⟨B8, K, none⟩ = some (.bool ik) := by rw [hik]; exact RZ.out.a8.cell (cB_get _ hK)
          have g6 : World.cell? wz ⟨B6, K, none⟩ = some (.int .i64 ((U) K)) := RZ.out.a6.cell (cI_get _ hK)
          obtain ⟨uk, huk⟩ : ∃ u, u = (U) K := ⟨_, rfl⟩
          rw [← huk] at g6
          cases ik
          · clear hik huk
            go_wp2_with fail
            go_quiet (fail)
            go_wp2_with fail
            go_roundw
            case rel => exact ⟨k + 1, _, put S K N, U, D, I, by omega, by omega, by go_num, HZ.out.drewN _, IZ.out, TZ.out, RZ.out.drewN _⟩
            case measure => simp [intOf]; omega
          · have hus := TZ.out.used IZ.out hK hik.symm
            rw [← huk] at hus
            have hcon : ∀ n, Calls Try.prog 13 #[.pointer (some ⟨p, 0, none⟩), .int .i64 (K : Int)] (wz.drewN n) fun e w' => e = .returned (.int .i64 uk) ∧ ∃ m, w' = (wz.drewN n).drewN m :=
              fun n => (X_used (K : Int) _ (HZ.out.drewN n)).mono fun e w' ⟨he, hw⟩ => ⟨by rw [he, hus], 0, hw ▸ rfl⟩
            have HCON := Lib.hid hcon
            clear hik huk hus hcon
            go_wp2_with fail
            go_quiet ((go_at_call 13; exact Calls.quiet_of (HCON.out _)))
            go_wp2_with fail
            go_roundw
            case rel => exact ⟨k + 1, _, put S K N, U, D, I, by omega, by omega, by go_num, HZ.out.drewN _, IZ.out, TZ.out, RZ.out.drewN _⟩
            case measure => simp [intOf]; omega
      rcases eqC kd 3 with ⟨rfl, _⟩ | ⟨d3, g3⟩
      · go_wp2_with fail
        clear eK eN
        refine (X_drain _ _ h3.out).mono ?_; rintro e w4 ⟨rfl, h4, kk⟩
        have r4 := R3.out.keeps kk
        clear kk h3 R3 c0 c1 c2
        have IZ := Lib.hid (HI.out.drain (K : Int))
        have hT2 := HT.out.drain HI.out (k := K)
        cases had : hasR cs K
        · rw [had] at hT2
          have TZ : Hid (Tab (drainS cs K) S U (put D K (D K)) I) := Lib.hid hT2
          have e5 : World.cell? w4 ⟨B5, K, none⟩ = some (.int .i64 (S K)) := (r4).a5.cell (cI_get _ hK)
          have e6 : World.cell? w4 ⟨B6, K, none⟩ = some (.int .i64 (U K)) := (r4).a6.cell (cI_get _ hK)
          have e7 : World.cell? w4 ⟨B7, K, none⟩ = some (.bool (D K)) := (r4).a7.cell (cB_get _ hK)
          have e8 : World.cell? w4 ⟨B8, K, none⟩ = some (.bool (I K)) := (r4).a8.cell (cB_get _ hK)
          have f5 : ∀ j, World.frozen? w4 ⟨B5, j, none⟩ = false := fun j => (r4).a5.free j
          have f6 : ∀ j, World.frozen? w4 ⟨B6, j, none⟩ = false := fun j => (r4).a6.free j
          have f7 : ∀ j, World.frozen? w4 ⟨B7, j, none⟩ = false := fun j => (r4).a7.free j
          have f8 : ∀ j, World.frozen? w4 ⟨B8, j, none⟩ = false := fun j => (r4).a8.free j
          obtain ⟨dk, hdk⟩ : ∃ dk, dk = D K := ⟨_, rfl⟩
          rw [← hdk] at e7
          have HDK := Lib.hid hdk
          clear hT2 had hdk
          go_upto_region 38 with fail
          have p4 := Has.put h4 l7 alienB r4.a7 K (.bool dk)
          have q4 := r4.set7 k1 k2 k3 hK dk
          obtain ⟨wz, hwz⟩ : ∃ wz, wz = (w4.setCell ⟨B7, K, none⟩ (.bool dk)) := ⟨_, rfl⟩
          rw [← hwz] at p4 q4 ⊢
          have HZ := Lib.hid p4; have RZ := Lib.hid q4
          clear p4 q4 hwz
          have RZ : Hid (Arr wz B5 B6 B7 B8 S U (put D K (D K)) I) := by rw [← HDK.out]; exact RZ
          clear e5 e6 e7 e8 f5 f6 f7 f8
          -- wz, HZ : Has, RZ : Arr, TZ : Tab, IZ : Inv
          have hik : ∃ b, b = (I) K := ⟨_, rfl⟩
          obtain ⟨ik, hik⟩ := hik
          have g8 : World.cell? wz ⟨B8, K, none⟩ = some (.bool ik) := by rw [hik]; exact RZ.out.a8.cell (cB_get _ hK)
          have g6 : World.cell? wz ⟨B6, K, none⟩ = some (.int .i64 ((U) K)) := RZ.out.a6.cell (cI_get _ hK)
          obtain ⟨uk, huk⟩ : ∃ u, u = (U) K := ⟨_, rfl⟩
          rw [← huk] at g6
          cases ik
          · clear hik huk
            go_wp2_with fail
            go_quiet (fail)
            go_wp2_with fail
            go_roundw
            case rel => exact ⟨k + 1, _, S, U, put D K (D K), I, by omega, by omega, by go_num, HZ.out.drewN _, IZ.out, TZ.out, RZ.out.drewN _⟩
            case measure => simp [intOf]; omega
          · have hus := TZ.out.used IZ.out hK hik.symm
            rw [← huk] at hus
            have hcon : ∀ n, Calls Try.prog 13 #[.pointer (some ⟨p, 0, none⟩), .int .i64 (K : Int)] (wz.drewN n) fun e w' => e = .returned (.int .i64 uk) ∧ ∃ m, w' = (wz.drewN n).drewN m :=
              fun n => (X_used (K : Int) _ (HZ.out.drewN n)).mono fun e w' ⟨he, hw⟩ => ⟨by rw [he, hus], 0, hw ▸ rfl⟩
            have HCON := Lib.hid hcon
            clear hik huk hus hcon
            go_wp2_with fail
            go_quiet ((go_at_call 13; exact Calls.quiet_of (HCON.out _)))
            go_wp2_with fail
            go_roundw
            case rel => exact ⟨k + 1, _, S, U, put D K (D K), I, by omega, by omega, by go_num, HZ.out.drewN _, IZ.out, TZ.out, RZ.out.drewN _⟩
            case measure => simp [intOf]; omega
        · rw [had] at hT2
          have TZ : Hid (Tab (drainS cs K) S U (put D K true) I) := Lib.hid hT2
          have e5 : World.cell? w4 ⟨B5, K, none⟩ = some (.int .i64 (S K)) := (r4).a5.cell (cI_get _ hK)
          have e6 : World.cell? w4 ⟨B6, K, none⟩ = some (.int .i64 (U K)) := (r4).a6.cell (cI_get _ hK)
          have e7 : World.cell? w4 ⟨B7, K, none⟩ = some (.bool (D K)) := (r4).a7.cell (cB_get _ hK)
          have e8 : World.cell? w4 ⟨B8, K, none⟩ = some (.bool (I K)) := (r4).a8.cell (cB_get _ hK)
          have f5 : ∀ j, World.frozen? w4 ⟨B5, j, none⟩ = false := fun j => (r4).a5.free j
          have f6 : ∀ j, World.frozen? w4 ⟨B6, j, none⟩ = false := fun j => (r4).a6.free j
          have f7 : ∀ j, World.frozen? w4 ⟨B7, j, none⟩ = false := fun j => (r4).a7.free j
          have f8 : ∀ j, World.frozen? w4 ⟨B8, j, none⟩ = false := fun j => (r4).a8.free j
          clear hT2 had
          go_upto_region 38 with fail
          have p4 := Has.put h4 l7 alienB r4.a7 K (.bool true)
          have q4 := r4.set7 k1 k2 k3 hK true
          obtain ⟨wz, hwz⟩ : ∃ wz, wz = (w4.setCell ⟨B7, K, none⟩ (.bool true)) := ⟨_, rfl⟩
          rw [← hwz] at p4 q4 ⊢
          have HZ := Lib.hid p4; have RZ := Lib.hid q4
          clear p4 q4 hwz
          clear h4 r4 e5 e6 e7 e8 f5 f6 f7 f8
          -- wz, HZ : Has, RZ : Arr, TZ : Tab, IZ : Inv
          have hik : ∃ b, b = (I) K := ⟨_, rfl⟩
          obtain ⟨ik, hik⟩ := hik
          have g8 : World.cell? wz ⟨B8, K, none⟩ = some (.bool ik) := by rw [hik]; exact RZ.out.a8.cell (cB_get _ hK)
          have g6 : World.cell? wz ⟨B6, K, none⟩ = some (.int .i64 ((U) K)) := RZ.out.a6.cell (cI_get _ hK)
          obtain ⟨uk, huk⟩ : ∃ u, u = (U) K := ⟨_, rfl⟩
          rw [← huk] at g6
          cases ik
          · clear hik huk
            go_wp2_with fail
            go_quiet (fail)
            go_wp2_with fail
            go_roundw
            case rel => exact ⟨k + 1, _, S, U, put D K true, I, by omega, by omega, by go_num, HZ.out.drewN _, IZ.out, TZ.out, RZ.out.drewN _⟩
            case measure => simp [intOf]; omega
          · have hus := TZ.out.used IZ.out hK hik.symm
            rw [← huk] at hus
            have hcon : ∀ n, Calls Try.prog 13 #[.pointer (some ⟨p, 0, none⟩), .int .i64 (K : Int)] (wz.drewN n) fun e w' => e = .returned (.int .i64 uk) ∧ ∃ m, w' = (wz.drewN n).drewN m :=
              fun n => (X_used (K : Int) _ (HZ.out.drewN n)).mono fun e w' ⟨he, hw⟩ => ⟨by rw [he, hus], 0, hw ▸ rfl⟩
            have HCON := Lib.hid hcon
            clear hik huk hus hcon
            go_wp2_with fail
            go_quiet ((go_at_call 13; exact Calls.quiet_of (HCON.out _)))
            go_wp2_with fail
            go_roundw
            case rel => exact ⟨k + 1, _, S, U, put D K true, I, by omega, by omega, by go_num, HZ.out.drewN _, IZ.out, TZ.out, RZ.out.drewN _⟩
            case measure => simp [intOf]; omega
      rcases eqC kd 4 with ⟨rfl, _⟩ | ⟨d4, g4⟩
      · go_wp2_with fail
        clear eK eN
        refine (X_remove _ _ h3.out).mono ?_; rintro e w4 ⟨rfl, h4, kk⟩
        have r4 := R3.out.keeps kk
        clear kk h3 R3 c0 c1 c2
        have IZ := Lib.hid (HI.out.remove (K : Int))
        by_cases hrr : 0 ≤ removeR cs K
        · have TZ := Lib.hid (HT.out.remove HI.out hrr)
          have e5 : World.cell? w4 ⟨B5, K, none⟩ = some (.int .i64 (S K)) := (r4).a5.cell (cI_get _ hK)
          have e6 : World.cell? w4 ⟨B6, K, none⟩ = some (.int .i64 (U K)) := (r4).a6.cell (cI_get _ hK)
          have e7 : World.cell? w4 ⟨B7, K, none⟩ = some (.bool (D K)) := (r4).a7.cell (cB_get _ hK)
          have e8 : World.cell? w4 ⟨B8, K, none⟩ = some (.bool (I K)) := (r4).a8.cell (cB_get _ hK)
          have f5 : ∀ j, World.frozen? w4 ⟨B5, j, none⟩ = false := fun j => (r4).a5.free j
          have f6 : ∀ j, World.frozen? w4 ⟨B6, j, none⟩ = false := fun j => (r4).a6.free j
          have f7 : ∀ j, World.frozen? w4 ⟨B7, j, none⟩ = false := fun j => (r4).a7.free j
          have f8 : ∀ j, World.frozen? w4 ⟨B8, j, none⟩ = false := fun j => (r4).a8.free j
          go_upto_region 38 with fail
          have p4 := Has.put h4 l8 alienB r4.a8 K (.bool false)
          have q4 := r4.set8 k1 k2 k3 hK false
          obtain ⟨wz, hwz⟩ : ∃ wz, wz = (w4.setCell ⟨B8, K, none⟩ (.bool false)) := ⟨_, rfl⟩
          rw [← hwz] at p4 q4 ⊢
          have HZ := Lib.hid p4; have RZ := Lib.hid q4
          clear p4 q4 hwz
          clear h4 r4 hrr e5 e6 e7 e8 f5 f6 f7 f8
          -- wz, HZ : Has, RZ : Arr, TZ : Tab, IZ : Inv
          have hik : ∃ b, b = (put I K false) K := ⟨_, rfl⟩
          obtain ⟨ik, hik⟩ := hik
          have g8 : World.cell? wz ⟨B8, K, none⟩ = some (.bool ik) := by rw [hik]; exact RZ.out.a8.cell (cB_get _ hK)
          have g6 : World.cell? wz ⟨B6, K, none⟩ = some (.int .i64 ((U) K)) := RZ.out.a6.cell (cI_get _ hK)
          obtain ⟨uk, huk⟩ : ∃ u, u = (U) K := ⟨_, rfl⟩
          rw [← huk] at g6
          cases ik
          · clear hik huk
            go_wp2_with fail
            go_quiet (fail)
            go_wp2_with fail
            go_roundw
            case rel => exact ⟨k + 1, _, S, U, D, put I K false, by omega, by omega, by go_num, HZ.out.drewN _, IZ.out, TZ.out, RZ.out.drewN _⟩
            case measure => simp [intOf]; omega
          · have hus := TZ.out.used IZ.out hK hik.symm
            rw [← huk] at hus
            have hcon : ∀ n, Calls Try.prog 13 #[.pointer (some ⟨p, 0, none⟩), .int .i64 (K : Int)] (wz.drewN n) fun e w' => e = .returned (.int .i64 uk) ∧ ∃ m, w' = (wz.drewN n).drewN m :=
              fun n => (X_used (K : Int) _ (HZ.out.drewN n)).mono fun e w' ⟨he, hw⟩ => ⟨by rw [he, hus], 0, hw ▸ rfl⟩
            have HCON := Lib.hid hcon
            clear hik huk hus hcon
            go_wp2_with fail
            go_quiet ((go_at_call 13; exact Calls.quiet_of (HCON.out _)))
            go_wp2_with fail
            go_roundw
            case rel => exact ⟨k + 1, _, S, U, D, put I K false, by omega, by omega, by go_num, HZ.out.drewN _, IZ.out, TZ.out, RZ.out.drewN _⟩
            case measure => simp [intOf]; omega
        · have TZ := Lib.hid (HT.out.remove_no (k := K) HI.out (by omega))
          obtain ⟨wz, hwz⟩ : ∃ wz, wz = w4 := ⟨_, rfl⟩
          rw [← hwz] at h4 r4 ⊢
          have HZ := Lib.hid h4; have RZ := Lib.hid r4
          clear h4 r4 hwz
          -- wz, HZ : Has, RZ : Arr, TZ : Tab, IZ : Inv
          have hik : ∃ b, b = (I) K := ⟨_, rfl⟩
          obtain ⟨ik, hik⟩ := hik
          have g8 : World.cell? wz ⟨B8, K, none⟩ = some (.bool ik) := by rw [hik]; exact RZ.out.a8.cell (cB_get _ hK)
          have g6 : World.cell? wz ⟨B6, K, none⟩ = some (.int .i64 ((U) K)) := RZ.out.a6.cell (cI_get _ hK)
          obtain ⟨uk, huk⟩ : ∃ u, u = (U) K := ⟨_, rfl⟩
          rw [← huk] at g6
          cases ik
          · clear hik huk
            go_wp2_with fail
            go_quiet (fail)
            go_wp2_with fail
            go_roundw
            case rel => exact ⟨k + 1, _, S, U, D, I, by omega, by omega, by go_num, HZ.out.drewN _, IZ.out, TZ.out, RZ.out.drewN _⟩
            case measure => simp [intOf]; omega
          · have hus := TZ.out.used IZ.out hK hik.symm
            rw [← huk] at hus
            have hcon : ∀ n, Calls Try.prog 13 #[.pointer (some ⟨p, 0, none⟩), .int .i64 (K : Int)] (wz.drewN n) fun e w' => e = .returned (.int .i64 uk) ∧ ∃ m, w' = (wz.drewN n).drewN m :=
              fun n => (X_used (K : Int) _ (HZ.out.drewN n)).mono fun e w' ⟨he, hw⟩ => ⟨by rw [he, hus], 0, hw ▸ rfl⟩
            have HCON := Lib.hid hcon
            clear hik huk hus hcon
            go_wp2_with fail
            go_quiet ((go_at_call 13; exact Calls.quiet_of (HCON.out _)))
            go_wp2_with fail
            go_roundw
            case rel => exact ⟨k + 1, _, S, U, D, I, by omega, by omega, by go_num, HZ.out.drewN _, IZ.out, TZ.out, RZ.out.drewN _⟩
            case measure => simp [intOf]; omega
      rcases eqC kd 5 with ⟨rfl, _⟩ | ⟨d5, g5⟩
      · go_wp2_with fail
        clear eK eN
        refine (X_free _ _ h3.out HI.out).mono ?_; rintro e w4 ⟨rfl, h4, kk⟩
        have r4 := R3.out.keeps kk
        clear kk h3 R3 c0 c1 c2
        have IZ := Lib.hid (HI.out.free (K : Int))
        cases had : freeR cs K
        · have TZ := Lib.hid (HT.out.free_no had)
          obtain ⟨wz, hwz⟩ : ∃ wz, wz = w4 := ⟨_, rfl⟩
          rw [← hwz] at h4 r4 ⊢
          have HZ := Lib.hid h4; have RZ := Lib.hid r4
          clear h4 r4 hwz
          clear had
          -- wz, HZ : Has, RZ : Arr, TZ : Tab, IZ : Inv
          have hik : ∃ b, b = (I) K := ⟨_, rfl⟩
          obtain ⟨ik, hik⟩ := hik
          have g8 : World.cell? wz ⟨B8, K, none⟩ = some (.bool ik) := by rw [hik]; exact RZ.out.a8.cell (cB_get _ hK)
          have g6 : World.cell? wz ⟨B6, K, none⟩ = some (.int .i64 ((U) K)) := RZ.out.a6.cell (cI_get _ hK)
          obtain ⟨uk, huk⟩ : ∃ u, u = (U) K := ⟨_, rfl⟩
          rw [← huk] at g6
          cases ik
          · clear hik huk
            go_wp2_with fail
            go_quiet (fail)
            go_wp2_with fail
            go_roundw
            case rel => exact ⟨k + 1, _, S, U, D, I, by omega, by omega, by go_num, HZ.out.drewN _, IZ.out, TZ.out, RZ.out.drewN _⟩
            case measure => simp [intOf]; omega
          · have hus := TZ.out.used IZ.out hK hik.symm
            rw [← huk] at hus
            have hcon : ∀ n, Calls Try.prog 13 #[.pointer (some ⟨p, 0, none⟩), .int .i64 (K : Int)] (wz.drewN n) fun e w' => e = .returned (.int .i64 uk) ∧ ∃ m, w' = (wz.drewN n).drewN m :=
              fun n => (X_used (K : Int) _ (HZ.out.drewN n)).mono fun e w' ⟨he, hw⟩ => ⟨by rw [he, hus], 0, hw ▸ rfl⟩
            have HCON := Lib.hid hcon
            clear hik huk hus hcon
            go_wp2_with fail
            go_quiet ((go_at_call 13; exact Calls.quiet_of (HCON.out _)))
            go_wp2_with fail
            go_roundw
            case rel => exact ⟨k + 1, _, S, U, D, I, by omega, by omega, by go_num, HZ.out.drewN _, IZ.out, TZ.out, RZ.out.drewN _⟩
            case measure => simp [intOf]; omega
        · obtain ⟨t1, t2, t3⟩ := HT.out.free HI.out hK had
          have TZ := Lib.hid t1
          have e5 : World.cell? w4 ⟨B5, K, none⟩ = some (.int .i64 (S K)) := (r4).a5.cell (cI_get _ hK)
          have e6 : World.cell? w4 ⟨B6, K, none⟩ = some (.int .i64 (U K)) := (r4).a6.cell (cI_get _ hK)
          have e7 : World.cell? w4 ⟨B7, K, none⟩ = some (.bool (D K)) := (r4).a7.cell (cB_get _ hK)
          have e8 : World.cell? w4 ⟨B8, K, none⟩ = some (.bool (I K)) := (r4).a8.cell (cB_get _ hK)
          have f5 : ∀ j, World.frozen? w4 ⟨B5, j, none⟩ = false := fun j => (r4).a5.free j
          have f6 : ∀ j, World.frozen? w4 ⟨B6, j, none⟩ = false := fun j => (r4).a6.free j
          have f7 : ∀ j, World.frozen? w4 ⟨B7, j, none⟩ = false := fun j => (r4).a7.free j
          have f8 : ∀ j, World.frozen? w4 ⟨B8, j, none⟩ = false := fun j => (r4).a8.free j
          clear t1 had
          go_upto_region 38 with fail
          have p4 := Has.put h4 l6 alienI r4.a6 K (.int .i64 (U K - 1))
          have q4 := r4.set6 k1 k2 k3 hK (U K - 1)
          obtain ⟨wz, hwz⟩ : ∃ wz, wz = (w4.setCell ⟨B6, K, none⟩ (.int .i64 (U K - 1))) := ⟨_, rfl⟩
          rw [← hwz] at p4 q4 ⊢
          have HZ := Lib.hid p4; have RZ := Lib.hid q4
          clear p4 q4 hwz
          clear h4 r4 e5 e6 e7 e8 f5 f6 f7 f8
          -- wz, HZ : Has, RZ : Arr, TZ : Tab, IZ : Inv
          have hik : ∃ b, b = (I) K := ⟨_, rfl⟩
          obtain ⟨ik, hik⟩ := hik
          have g8 : World.cell? wz ⟨B8, K, none⟩ = some (.bool ik) := by rw [hik]; exact RZ.out.a8.cell (cB_get _ hK)
          have g6 : World.cell? wz ⟨B6, K, none⟩ = some (.int .i64 ((put U K (U K - 1)) K)) := RZ.out.a6.cell (cI_get _ hK)
          obtain ⟨uk, huk⟩ : ∃ u, u = (put U K (U K - 1)) K := ⟨_, rfl⟩
          rw [← huk] at g6
          cases ik
          · clear hik huk
            go_wp2_with fail
            go_quiet (fail)
            go_wp2_with fail
            go_roundw
            case rel => exact ⟨k + 1, _, S, put U K (U K - 1), D, I, by omega, by omega, by go_num, HZ.out.drewN _, IZ.out, TZ.out, RZ.out.drewN _⟩
            case measure => simp [intOf]; omega
          · have hus := TZ.out.used IZ.out hK hik.symm
            rw [← huk] at hus
            have hcon : ∀ n, Calls Try.prog 13 #[.pointer (some ⟨p, 0, none⟩), .int .i64 (K : Int)] (wz.drewN n) fun e w' => e = .returned (.int .i64 uk) ∧ ∃ m, w' = (wz.drewN n).drewN m :=
              fun n => (X_used (K : Int) _ (HZ.out.drewN n)).mono fun e w' ⟨he, hw⟩ => ⟨by rw [he, hus], 0, hw ▸ rfl⟩
            have HCON := Lib.hid hcon
            clear hik huk hus hcon
            go_wp2_with fail
            go_quiet ((go_at_call 13; exact Calls.quiet_of (HCON.out _)))
            go_wp2_with fail
            go_roundw
            case rel => exact ⟨k + 1, _, S, put U K (U K - 1), D, I, by omega, by omega, by go_num, HZ.out.drewN _, IZ.out, TZ.out, RZ.out.drewN _⟩
            case measure => simp [intOf]; omega
      go_wp2_with fail
      clear eK eN
      refine (X_take _ h3.out HI.out).mono ?_; rintro e w4 ⟨he, h4, kk⟩
      have r4 := R3.out.keeps kk
      clear kk h3 R3 c0 c1 c2
      have IZ := Lib.hid HI.out.take
      have htk := HT.out.take HI.out
      have htn := @Tab.take_no cs S U D I HT.out
      obtain ⟨id, ok, hr⟩ : ∃ id ok, takeR cs = (id, ok) := ⟨_, _, rfl⟩
      rw [hr] at he htk htn
      simp only at he htk htn
      subst he
      cases ok
      · have TZ := Lib.hid (htn rfl)
        obtain ⟨wz, hwz⟩ : ∃ wz, wz = w4 := ⟨_, rfl⟩
        rw [← hwz] at h4 r4 ⊢
        have HZ := Lib.hid h4; have RZ := Lib.hid r4
        clear h4 r4 hwz
        clear htk htn hr
        go_wp2_with fail
        go_roundw
        case rel => exact ⟨k + 1, _, S, U, D, I, by omega, by omega, by go_num, HZ.out, IZ.out, TZ.out, RZ.out⟩
        case measure => simp [intOf]; omega
      · obtain ⟨q, hq, rfl, b1, b2, b3, b4, b5, tz⟩ := htk rfl
        have TZ := Lib.hid tz
        have e5 : World.cell? w4 ⟨B5, q, none⟩ = some (.int .i64 (S q)) := r4.a5.cell (cI_get _ hq)
        have e6 : World.cell? w4 ⟨B6, q, none⟩ = some (.int .i64 (U q)) := r4.a6.cell (cI_get _ hq)
        have e7 : World.cell? w4 ⟨B7, q, none⟩ = some (.bool false) := by rw [← b2]; exact r4.a7.cell (cB_get _ hq)
        have e8 : World.cell? w4 ⟨B8, q, none⟩ = some (.bool true) := by rw [← b1]; exact r4.a8.cell (cB_get _ hq)
        have f6 : ∀ j, World.frozen? w4 ⟨B6, j, none⟩ = false := fun j => r4.a6.free j
        have hq2 : ¬ (q : Int) < 0 := by omega
        have hq3 : ¬ (15 : Int) < q := by omega
        have hsu : ¬ S q ≤ U q := by omega
        have hd1 : decide ((q : Int) < 0) = false := by simp
        have hd2 : decide ((15 : Int) < (q : Int)) = false := by simp; omega
        have hd3 : decide (S q ≤ U q) = false := by simp; omega
        have B1 := Lib.hid b1; have B2 := Lib.hid b2
        clear tz htk htn hr b1 b2
        go_wp2_with fail
        go_quiet (fail)
        go_upto_region 38 with fail
        have p4 := Has.put (h4.drewN nq) l6 alienI (r4.drewN nq).a6 q (.int .i64 (U q + 1))
        have q4 := (r4.drewN nq).set6 k1 k2 k3 hq (U q + 1)
        obtain ⟨wz, hwz⟩ : ∃ wz, wz = ((w4.drewN nq).setCell ⟨B6, q, none⟩ (.int .i64 (U q + 1))) := ⟨_, rfl⟩
        rw [← hwz] at p4 q4 ⊢
        have HZ := Lib.hid p4; have RZ := Lib.hid q4
        clear p4 q4 hwz
        clear h4 r4 e5 e6 e7 e8 f6 hq2 hq3 hsu hd1 hd2 hd3
        -- wz, HZ : Has, RZ : Arr, TZ : Tab, IZ : Inv
        have hik : ∃ b, b = (I) K := ⟨_, rfl⟩
        obtain ⟨ik, hik⟩ := hik
        have g8 : World.cell? wz ⟨B8, K, none⟩ = some (.bool ik) := by rw [hik]; exact RZ.out.a8.cell (cB_get _ hK)
        have g6 : World.cell? wz ⟨B6, K, none⟩ = some (.int .i64 ((put U q (U q + 1)) K)) := RZ.out.a6.cell (cI_get _ hK)
        obtain ⟨uk, huk⟩ : ∃ u, u = (put U q (U q + 1)) K := ⟨_, rfl⟩
        rw [← huk] at g6
        cases ik
        · clear hik huk
          go_wp2_with fail
          go_quiet (fail)
          go_wp2_with fail
          go_roundw
          case rel => exact ⟨k + 1, _, S, put U q (U q + 1), D, I, by omega, by omega, by go_num, HZ.out.drewN _, IZ.out, TZ.out, RZ.out.drewN _⟩
          case measure => simp [intOf]; omega
        · have hus := TZ.out.used IZ.out hK hik.symm
          rw [← huk] at hus
          have hcon : ∀ n, Calls Try.prog 13 #[.pointer (some ⟨p, 0, none⟩), .int .i64 (K : Int)] (wz.drewN n) fun e w' => e = .returned (.int .i64 uk) ∧ ∃ m, w' = (wz.drewN n).drewN m :=
            fun n => (X_used (K : Int) _ (HZ.out.drewN n)).mono fun e w' ⟨he, hw⟩ => ⟨by rw [he, hus], 0, hw ▸ rfl⟩
          have HCON := Lib.hid hcon
          clear hik huk hus hcon
          go_wp2_with fail
          go_quiet ((go_at_call 13; exact Calls.quiet_of (HCON.out _)))
          go_wp2_with fail
          go_roundw
          case rel => exact ⟨k + 1, _, S, put U q (U q + 1), D, I, by omega, by omega, by go_num, HZ.out.drewN _, IZ.out, TZ.out, RZ.out.drewN _⟩
          case measure => simp [intOf]; omega
    · by_cases hlt2 : k < l.length
      · have h20 : ¬ k < 400 := by omega
        clear hlt
        go_wp2_with fail
        go_ret
        exact ⟨rfl, hh.below⟩
      · clear hlt
        go_wp2_with fail
        go_ret
        exact ⟨rfl, hh.below⟩

/-! ### The row's step -/
theorem own : ownKnob Try.prog.godebug = none := by kernel_rfl
theorem laid : laidOutB Try.prog = true := by kernel_rfl

set_option maxRecDepth 100000 in
theorem lifted (os : Os) (started : os.Started) (H : Type) (enc : TypeId × Value → H) :
    ReturnsInHanded {} Try.checked os 6 .any (Rows.poolPlacesSpec.pre6 enc Try.prog Try.f6 Rows.poolPlacesRow.domain false) (Rows.poolPlacesSpec.post enc Try.prog Try.f6 false true false false) := by
  refine lift_law (C := Try.checked) (tb := 4) own started (by kernel_rfl) Try.func6
    (ChangeSpec.witness6 (enc := enc) (C := Try.checked) false ⟨#[], #[.slice none 0 0], []⟩ 8 (by kernel_rfl) (by kernel_rfl) (by kernel_rfl) (by kernel_rfl))
    laid (by rw [Try.params6]; intro t ht; simp only [List.mem_cons, List.not_mem_nil, or_false] at ht; rcases ht with rfl <;> exact ⟨by kernel_rfl, of_decide_eq_true (by kernel_rfl)⟩) (by kernel_rfl) Try.underlying4 rfl
    (fun ds h => by rw [Try.params6] at h; match ds, h with | [d0], _ => rfl) ?_
  intro W base args ds before hval hA hlt hsz
  rw [Try.params6] at hA hval
  have hlt0 := hlt
  obtain ⟨v0, vs0, d0, ds0, p0, q0, hargs, rfl, rfl, h0, r0⟩ := trodAll_cons hA
  obtain ⟨rfl, rfl, rfl⟩ := trodAll_nil r0
  obtain rfl : args = #[v0] := by cases args; simp_all
  have l0 : ∀ p ∈ p0, p.block < W.heap.size := fun x hx => hlt x (by simp [hx])
  obtain ⟨zs, zg, zm, zs1⟩ := open_arg_slice 3 encO O.Ok Try.underlying31 (by kernel_rfl) (by omega) (hval 0 31 v0 rfl rfl) decO h0 l0
  exact walk v0 zs W zm zs1 zg

theorem over : Rows.poolPlacesRow.holds Try.pinned (OpenSpec.ofChange Rows.poolPlacesSpec) :=
  OpenClaim.holds_of_wide 6 Try.f6 rfl rfl rfl rfl rfl rfl rfl ⟨rfl, rfl, rfl, rfl, rfl⟩ rfl rfl rfl rfl rfl (by kernel_rfl) Try.func6 (by kernel_rfl)
    (of_decide_eq_true (by kernel_rfl)) (by unfold Func.isWrapper; first | (rw [if_pos (by decide +kernel)]; kernel_rfl) | (rw [if_neg (by decide +kernel)]; exact ⟨rfl, rfl⟩))
    (fun os started H enc _ => lifted os started H enc)

/-- The statement. -/
theorem proved : Rows.PoolPlacesSaid :=
  over
#print axioms proved

end Go.Proofs.Ythinceoklkjcpaa.Places
