/-
  Next at large, where something is read.
-/
import Derived.Test.YthhgnipiaohplaaFnn
import Derived.Laws.EntriesVeiled
import Derived.Deep.DeepCutAuto
namespace Go.Proofs.Ythhgnipiaohplaa.Fr
open Go.ChangeShapes Go.WideShapes Go.ChangeAt Go.RowKit
open Go.Proofs.Ythhgnipiaohplaa.B
set_option linter.unusedVariables false
set_option linter.unusedSimpArgs false
theorem head_parts {w : World} {bb off cap : Nat} {a b c k fl s1 s2 s3 s4 : UInt8} {r : List UInt8} (h : BytesOf w (.slice (some ⟨bb, off, none⟩) (r.length + 9) cap) (a :: b :: c :: k :: fl :: s1 :: s2 :: s3 :: s4 :: r)) (hc : r.length + 9 ≤ cap) (hm : cap ≤ maxLen) :
    w.cell? ⟨bb, off + 3, none⟩ = some (.int .u8 ((k.toNat : Nat) : Int)) ∧ w.cell? ⟨bb, off + 4, none⟩ = some (.int .u8 ((fl.toNat : Nat) : Int)) ∧ BytesOf w (.slice (some ⟨bb, off + 5, none⟩) (r.length + 4) (cap - 5)) (s1 :: s2 :: s3 :: s4 :: r) ∧
      ∀ N, N ≤ r.length → BytesOf w (.slice (some ⟨bb, off + 9, none⟩) N (cap - 9)) (r.take N) ∧ BytesOf w (.slice (some ⟨bb, off + (9 + N), none⟩) (r.length - N) (cap - (9 + N))) (r.drop N) := by
  have hl : (a :: b :: c :: k :: fl :: s1 :: s2 :: s3 :: s4 :: r).length = r.length + 9 := rfl
  refine ⟨byte_at h (by rw [hl]; omega) 3 k rfl, byte_at h (by rw [hl]; omega) 4 fl rfl, ?_, fun N hN => ⟨?_, ?_⟩⟩
  · have := bytes_drop h 5 (by rw [hl]; omega) (by rw [hl]; exact hc) hm
    rw [hl, show r.length + 9 - 5 = r.length + 4 by omega] at this
    exact this
  · have := BytesOf.cut h 9 (9 + N) (by omega) (by rw [hl]; omega) (c' := cap - 9) (by omega) (by omega)
    rw [show 9 + N - 9 = N by omega] at this
    exact this
  · have := bytes_drop h (9 + N) (by rw [hl]; omega) (by rw [hl]; exact hc) hm
    rw [hl, show r.length + 9 - (9 + N) = r.length - N by omega, show (a :: b :: c :: k :: fl :: s1 :: s2 :: s3 :: s4 :: r).drop (9 + N) = r.drop N by rw [← List.drop_drop]; rfl] at this
    exact this
theorem rest_at {w : World} {bb off cap N : Nat} {a b c k fl s1 s2 s3 s4 : UInt8} {r : List UInt8} (h : BytesOf w (.slice (some ⟨bb, off, none⟩) (r.length + 9) cap) (a :: b :: c :: k :: fl :: s1 :: s2 :: s3 :: s4 :: r)) (hc : r.length + 9 ≤ cap) (hm : cap ≤ maxLen) (hr : N ≤ r.length) :
    BytesOf w (.slice (if cap = 9 + N then some ⟨bb, off, none⟩ else some ⟨bb, off + (9 + N), none⟩) (r.length + 9 - (9 + N)) (cap - (9 + N))) (r.drop N) := by
  have hl : (r.drop N).length = r.length + 9 - (9 + N) := by rw [List.length_drop]; omega
  by_cases hc9 : cap = 9 + N
  · rw [if_pos hc9]
    refine ⟨some ⟨bb, off, none⟩, cap - (9 + N), by rw [hl], by rw [hl]; omega, by omega, fun h0 => ?_⟩
    rw [hl] at h0; omega
  · rw [if_neg hc9]
    have := (head_parts h hc hm).2.2.2 N hr
    rw [show r.length + 9 - (9 + N) = r.length - N by omega]
    exact this.2
theorem wp_whole {P : Program} {o : Oper} {a : Act} {w : World} {K : Act → World → Prop} {Q : Exit → Act → World → Prop} (ty : TypeId) (x y : Operand) (ho : o.op = .store ty x y)
    (g : Nat) (cells old : Array Value) (t : TypeId) (hx : a.eval x = .pointer (some ⟨g, 0, none⟩)) (hy : a.eval y = .agg cells)
    (hg : At w g (.cells old t (0, 0))) (hi : (P.info? ty).map (·.size) = some cells.size) (hold : old.size = cells.size) (h1 : cells.all (·.oneCell') = true)
    (h : ∀ w', At w' g (.cells cells t (0, 0)) → Chg [g] w w' → K (a.put o.dst undef) w') : Oper.wp P o a w K Q :=
  wp_store_row ty x y ho g cells hx hy t old hg hi hold h1 (h _ (setRow_heap w g old _ t _ hg)
    ⟨rfl, rfl, rfl, by simp, fun k _ hk => setRow_other w g k _ (fun e => hk (by simp [e]))⟩)
/-- Who reads which kind. -/
abbrev RDS : Array Value := #[.func (.func 55) #[] #[], .func (.func 56) #[] #[], .func (.func 57) #[] #[], .func (.func 58) #[] #[], .func (.func 59) #[] #[], .func (.func 60) #[] #[], .func (.func 61) #[] #[], .func (.func 62) #[] #[], .func (.func 63) #[] #[], .func (.func 64) #[] #[]]
set_option maxRecDepth 100000 in
set_option maxHeartbeats 4000000 in
theorem readers_any (w : World) : Calls Try.prog 41 #[] w fun e w' => e = .returned (.agg RDS) ∧ Chg [] w w' := by
  go_enter Try.func41, Try.ntmps41
  go_wp2_with fail
  refine bodyPost_ret (v := .agg RDS) (by simp [results, Try.results41, go_sem]) rfl ⟨rfl, ?_⟩
  first | exact (Chg.refl w).alloc _ | ((repeat (refine Chg.setCell ?_ (Or.inr (by simp)) _)); exact (Chg.refl w).alloc _)
theorem RDS_at (k : Nat) (h : k < 10) : RDS[k]? = some (.func (.func (rdF k)) #[] #[]) := by
  match k, h with
  | 0, _ | 1, _ | 2, _ | 3, _ | 4, _ | 5, _ | 6, _ | 7, _ | 8, _ | 9, _ => rfl
theorem rdF_other (k : Nat) (h : 10 ≤ k) : rdF k = 40 := by
  match k, h with
  | n + 10, _ => rfl
theorem rdF_enters (k : Nat) : ∀ (args : Array Value) (w : World), (callFunc (rdF k) args).run Try.prog w = .ok (.enter (rdF k) args) w := by
  match k with
  | 0 => exact enters_of Try.func55 (by kernel_rfl) rfl
  | 1 => exact enters_of Try.func56 (by kernel_rfl) rfl
  | 2 => exact enters_of Try.func57 (by kernel_rfl) rfl
  | 3 => exact enters_of Try.func58 (by kernel_rfl) rfl
  | 4 => exact enters_of Try.func59 (by kernel_rfl) rfl
  | 5 => exact enters_of Try.func60 (by kernel_rfl) rfl
  | 6 => exact enters_of Try.func61 (by kernel_rfl) rfl
  | 7 => exact enters_of Try.func62 (by kernel_rfl) rfl
  | 8 => exact enters_of Try.func63 (by kernel_rfl) rfl
  | 9 => exact enters_of Try.func64 (by kernel_rfl) rfl
  | n + 10 => exact enters_of Try.func40 (by kernel_rfl) rfl
theorem owns_below {w w' : World} {base B : Nat} {e : TypeId} {size : Nat} {v : Value} {n : Nat} {xs : List Value} (h : w.ownsRow base e size v n xs) (hc : Below B w w') (hn : ∀ g, v.ownBlock = some g → g < B) : w'.ownsRow base e size v n xs := by
  refine ⟨h.1, ?_⟩
  rcases h.2 with h2 | ⟨g, cap, cur, rfl, hb, hg, rest⟩
  · exact Or.inl h2
  · exact Or.inr ⟨g, cap, cur, rfl, hb, At.below (o := .cells cur e (0, 0)) hg hc (hn g rfl), rest⟩
theorem _root_.Go.Proofs.Ythhgnipiaohplaa.B.Chg.thenBelow {l : List Nat} {a b c : World} {B : Nat} (h : Chg l a b) (k : Below B b c) (hB : a.heap.size ≤ B) : Chg l a c :=
  ⟨k.os.trans h.os, k.tape.trans h.tape, k.output.trans h.output, Nat.le_trans h.size k.size, fun x hx hn => (k.block x (Nat.lt_of_lt_of_le hx hB)).trans (h.block x hx hn)⟩
theorem PH.below {W w w' : World} {p : Nat} {hv : Value} {l : List UInt8} {mx : Nat} {dn : Bool} {B : Nat} (h : PH W w p hv l mx dn) (hc : Below B w w') (hd : ∀ x ∈ footP p hv, x < B) : PH W w' p hv l mx dn :=
  ⟨h.head.below hc (hd p (by simp [footP])), owns_below h.row hc (fun g hg => hd g (by simp [footP, hg])), h.lo, h.b1, h.b2⟩
set_option maxRecDepth 100000 in
set_option maxHeartbeats 4000000 in
theorem next_read {W w : World} {p : Nat} {hv : Value} {a b c k fl s1 s2 s3 s4 : UInt8} {r : List UInt8} {mx : Nat} {dn : Bool} (h : PH W w p hv (a :: b :: c :: k :: fl :: s1 :: s2 :: s3 :: s4 :: r) mx dn) (hn : threeN a b c ≤ mx) (hr : threeN a b c ≤ r.length) (hrl : r.length ≤ 100000000) :
    Calls Try.prog 21 #[.pointer (some ⟨p, 0, none⟩)] w fun e w' => NextPost W w p hv (a :: b :: c :: k :: fl :: s1 :: s2 :: s3 :: s4 :: r) mx dn e w' (nxt9 mx a b c k fl s1 s2 s3 s4 r) := by
  have HRL := Lib.hid hrl
  clear hrl
  obtain ⟨ad, cap, rfl, hc, hcm⟩ := (OwnB.bytes h.row).slice
  obtain ⟨bb, off, rfl, hbb, hcell⟩ := (OwnB.bytes h.row).cell (by simp)
  have q0 := hcell 0 a rfl
  have q1 := hcell 1 b rfl
  have q2 := hcell 2 c rfl
  have hlen : (a :: b :: c :: k :: fl :: s1 :: s2 :: s3 :: s4 :: r).length = r.length + 9 := by simp
  have x0 : World.cell? w ⟨p, 0, none⟩ = some (.slice (some ⟨bb, off, none⟩) (a :: b :: c :: k :: fl :: s1 :: s2 :: s3 :: s4 :: r).length cap) := h.head.cell rfl
  have x1 : World.cell? w ⟨p, 1, none⟩ = some (.int .i64 mx) := h.head.cell rfl
  have hmx := h.b2
  rw [hlen] at x0 hc
  have hpl := h.head.lt
  obtain ⟨A, hA⟩ : ∃ A : Nat, A = a.toNat := ⟨_, rfl⟩
  obtain ⟨B, hB⟩ : ∃ A : Nat, A = b.toNat := ⟨_, rfl⟩
  obtain ⟨C, hC⟩ : ∃ A : Nat, A = c.toNat := ⟨_, rfl⟩
  have hA6 : A < 256 := by rw [hA]; exact a.toNat_lt
  have hB6 : B < 256 := by rw [hB]; exact b.toNat_lt
  have hC6 : C < 256 := by rw [hC]; exact c.toNat_lt
  rw [← hA] at q0
  rw [← hB] at q1
  rw [← hC] at q2
  simp only [Nat.add_zero] at q0
  have e1 : Go.bits .or .i64 ((A : Int) * 65536) ((B : Int) * 256) = ((A * 65536 + B * 256 : Nat) : Int) := by
    have := or64_add 16 A (B * 256) (by omega) (by omega)
    rw [show ((2 ^ 16 * A : Nat) : Int) = (A : Int) * 65536 by omega, show ((B * 256 : Nat) : Int) = (B : Int) * 256 by omega] at this
    rw [this]; omega
  have e2 : Go.bits .or .i64 ((A * 65536 + B * 256 : Nat) : Int) (C : Int) = ((A * 65536 + B * 256 + C : Nat) : Int) := by
    have := or64_add 8 (A * 256 + B) C (by omega) (by omega)
    rw [show ((2 ^ 8 * (A * 256 + B) : Nat) : Int) = ((A * 65536 + B * 256 : Nat) : Int) by omega] at this
    rw [this]; omega
  obtain ⟨N2, hN2⟩ : ∃ N, N = A * 65536 + B * 256 := ⟨_, rfl⟩
  obtain ⟨N, hN⟩ : ∃ N, N = threeN a b c := ⟨_, rfl⟩
  have hN3 : A * 65536 + B * 256 + C = N := by rw [hN]; unfold threeN; rw [← hA, ← hB, ← hC]; omega
  rw [← hN2] at e1
  rw [hN3, ← hN2] at e2
  have g : decide (mx < N) = false := decide_eq_false (by omega)
  have HLT := Lib.hid h.lt
  have HH := Lib.hid h; have HN := Lib.hid hN
  clear h hcell hA hB hC hlen hN hN2 hN3 hn
  go_enter Try.func21, Try.ntmps21
  go_wp2_with fail
  go_quiet (fail)
  have c0 : Chg [] w (((w.alloc (.cells noF 27)).alloc (.cells noX 46)).drewN nq) := (((Chg.refl w).alloc _).alloc _).drewN nq
  have b1 : At (((w.alloc (.cells noF 27)).alloc (.cells noX 46)).drewN nq) w.heap.size (.cells noF 27) := (At.new w _).alloc _
  have b2 : At (((w.alloc (.cells noF 27)).alloc (.cells noX 46)).drewN nq) (w.heap.size + 1) (.cells noX 46) := At.new' (w := w.alloc (.cells noF 27)) (by simp)
  have H3 := Lib.hid (HH.out.chg0 c0); have C0 := Lib.hid c0; have B1 := Lib.hid b1; have B2 := Lib.hid b2
  have x1' : World.cell? (((w.alloc (.cells noF 27)).alloc (.cells noX 46)).drewN nq) ⟨p, 1, none⟩ = some (.int .i64 mx) := H3.out.head.cell rfl
  have hp3 := H3.out.head.lt
  clear c0 b1 b2 x0 x1 q0 q1 q2 HH
  generalize ((w.alloc (.cells noF 27)).alloc (.cells noX 46)).drewN nq = w3 at *
  have HCM : Hid (cap ≤ maxLen) := Lib.hid hcm
  unfold maxLen at hcm
  have w8 : wrap64 (r.length : Int) = (r.length : Int) := by unfold wrap64; omega
  clear hcm e1 e2 hA6 hB6 hC6
  rw [← HN.out] at hr
  have g7 : decide (r.length < N) = false := decide_eq_false (by omega)
  obtain ⟨u3, u4, hd5, hd9⟩ := head_parts (show BytesOf w3 (.slice (some ⟨bb, off, none⟩) (r.length + 9) cap) _ from OwnB.bytes H3.out.row) hc HCM.out
  have D5 := Lib.hid hd5; have D9 := Lib.hid (hd9 N (by omega))
  obtain ⟨KN, hKN⟩ : ∃ K : Nat, K = k.toNat := ⟨_, rfl⟩
  obtain ⟨FN, hFN⟩ : ∃ K : Nat, K = fl.toNat := ⟨_, rfl⟩
  have hK6 : KN < 256 := by rw [hKN]; exact k.toNat_lt
  have hF6 : FN < 256 := by rw [hFN]; exact fl.toNat_lt
  rw [← hKN] at u3
  rw [← hFN] at u4
  obtain ⟨SN, hSN⟩ : ∃ S, S = fourN s1 s2 s3 s4 := ⟨_, rfl⟩
  have hS6 : SN < 4294967296 := by rw [hSN]; exact fourN_lt s1 s2 s3 s4
  have ha31 := and31 SN hS6
  obtain ⟨ST, hST⟩ : ∃ S : Nat, S = SN % 2147483648 := ⟨_, rfl⟩
  rw [← hST] at ha31
  have hT6 : ST < 2147483648 := by omega
  have HA31 := Lib.hid ha31
  clear ha31
  have HKN := Lib.hid hKN; have HFN := Lib.hid hFN; have HSN := Lib.hid hSN; have HST := Lib.hid hST
  have hbb3 : bb < w3.heap.size := Nat.lt_of_lt_of_le hbb C0.out.size
  have hcapI : (9 : Int) + (N : Int) ≤ (cap : Int) := by omega
  have hN16 : N ≤ 16777215 := by have := of_decide_eq_false g; omega
  skip
  have i3 : (3 : Int) < (r.length : Int) + 9 := by omega
  have i4 : (4 : Int) < (r.length : Int) + 9 := by omega
  have i5 : (5 : Int) ≤ (r.length : Int) + 9 := by omega
  have i9 : (9 : Int) ≤ 9 + (N : Int) := by omega
  have i10 : (0 : Int) ≤ 9 + (N : Int) := by omega
  have hne5 : ¬ cap = 5 := by omega
  have wK : IntKind.i64.wrap (KN : Int) = (KN : Int) := by rw [IntKind.wrap_i64]; omega
  have wS : IntKind.i64.wrap (ST : Int) = (ST : Int) := by rw [IntKind.wrap_i64]; omega
  have wF : IntKind.i64.wrap (FN : Int) = (FN : Int) := by rw [IntKind.wrap_i64]; omega
  have i11 : (9 : Int) ≤ (cap : Int) := by omega
  have wN : IntKind.i64.wrap (9 + (N : Int)) = 9 + (N : Int) := by rw [IntKind.wrap_i64]; omega
  have m9 : max (9 + (N : Int)) 0 = 9 + (N : Int) := by omega
  have tN : (9 + (N : Int)).toNat - 9 = N := by omega
  clear hd5 hd9 hKN hFN hSN hST hbb
  obtain ⟨o9, e9, d9⟩ : ∃ o9, (if cap = 9 then some (⟨bb, off, none⟩ : Addr) else some ⟨bb, off + 9, none⟩) = some ⟨bb, o9, none⟩ ∧ BytesOf w3 (.slice (some ⟨bb, o9, none⟩) N (cap - 9)) (r.take N) := by
    by_cases hc9 : cap = 9
    · have hN0 : N = 0 := by omega
      have hl : (r.take N).length = N := by rw [List.length_take]; omega
      refine ⟨off, if_pos hc9, some ⟨bb, off, none⟩, cap - 9, by rw [hl], by rw [hl]; omega, ?_, fun h0 => ?_⟩
      · unfold maxLen; omega
      · rw [hl] at h0; omega
    · exact ⟨off + 9, if_neg hc9, D9.out.1⟩
  have DD9 := Lib.hid d9
  clear d9
  go_wp2_with fail
  clear w8
  have hS3 : World.cell? w3.drew ⟨bb, off + 3, none⟩ = some (.int .u8 (KN : Int)) ∧ World.cell? w3.drew ⟨bb, off + 4, none⟩ = some (.int .u8 (FN : Int)) := ⟨u3, u4⟩
  refine wp_region_held_drew (S := fun w' => World.cell? w' ⟨bb, off + 3, none⟩ = some (.int .u8 (KN : Int)) ∧ World.cell? w' ⟨bb, off + 4, none⟩ = some (.int .u8 (FN : Int))) (by kernel_rfl) hS3 (fun hHeld => ?_)
  refine take_nth (i := 0) (v := ?_) rfl (by kernel_rfl) (by kernel_rfl) (by kernel_rfl) (fun _ _ _ h => h) rfl ?hy (by assumption) ?_
  case hy => (intro w hSw; (try dsimp only at hSw); go_simp); with_reducible rfl
  simp only [Act.put, List.setIfInBounds_toArray, List.set_cons_zero, List.set_cons_succ]
  refine take_nth (i := 1) (v := ?_) rfl (by kernel_rfl) (by kernel_rfl) (by kernel_rfl) (fun _ _ _ h => h) rfl ?hy (by assumption) ?_
  case hy => (intro w hSw; (try dsimp only at hSw); go_simp); with_reducible rfl
  simp only [Act.put, List.setIfInBounds_toArray, List.set_cons_zero, List.set_cons_succ]
  refine take_nth (i := 2) (v := ?_) rfl (by kernel_rfl) (by kernel_rfl) (by kernel_rfl) (fun _ _ _ h => h) rfl ?hy (by assumption) ?_
  case hy => (intro w hSw; (try dsimp only at hSw); go_simp); with_reducible rfl
  simp only [Act.put, List.setIfInBounds_toArray, List.set_cons_zero, List.set_cons_succ]
  refine take_nth (i := 3) (v := ?_) rfl (by kernel_rfl) (by kernel_rfl) (by kernel_rfl) (fun _ _ _ h => h) rfl ?hy (by assumption) ?_
  case hy => (intro w hSw; (try dsimp only at hSw); go_simp); with_reducible rfl
  simp only [Act.put, List.setIfInBounds_toArray, List.set_cons_zero, List.set_cons_succ]
  refine take_nth (i := 4) (v := ?_) rfl (by kernel_rfl) (by kernel_rfl) (by kernel_rfl) (fun _ _ _ h => h) rfl ?hy (by assumption) ?_
  case hy => (intro w hSw; (try dsimp only at hSw); go_simp); with_reducible rfl
  simp only [Act.put, List.setIfInBounds_toArray, List.set_cons_zero, List.set_cons_succ]
  refine take_nth (i := 5) (v := ?_) rfl (by kernel_rfl) (by kernel_rfl) (by kernel_rfl) (fun _ _ _ h => h) rfl ?hy (by assumption) ?_
  case hy => (intro w hSw; (try dsimp only at hSw); go_simp); with_reducible rfl
  simp only [Act.put, List.setIfInBounds_toArray, List.set_cons_zero, List.set_cons_succ]
  refine take_nth (i := 10) (v := ?_) rfl (by kernel_rfl) (by kernel_rfl) (by kernel_rfl) (fun _ _ _ h => h) rfl ?hy (by assumption) ?_
  case hy => (intro w hSw; (try dsimp only at hSw); go_simp); with_reducible rfl
  simp only [Act.put, List.setIfInBounds_toArray, List.set_cons_zero, List.set_cons_succ]
  refine take_nth (i := 11) (v := ?_) rfl (by kernel_rfl) (by kernel_rfl) (by kernel_rfl) (fun _ _ _ h => h) rfl ?hy (by assumption) ?_
  case hy => (intro w hSw; (try dsimp only at hSw); go_simp); with_reducible rfl
  simp only [Act.put, List.setIfInBounds_toArray, List.set_cons_zero, List.set_cons_succ]
  refine take_nth (i := 12) (v := ?_) rfl (by kernel_rfl) (by kernel_rfl) (by kernel_rfl) (fun _ _ _ h => h) rfl ?hy (by assumption) ?_
  case hy => (intro w hSw; (try dsimp only at hSw); go_simp); with_reducible rfl
  simp only [Act.put, List.setIfInBounds_toArray, List.set_cons_zero, List.set_cons_succ]
  refine take_nth (i := 13) (v := ?_) rfl (by kernel_rfl) (by kernel_rfl) (by kernel_rfl) (fun _ _ _ h => h) rfl ?hy (by assumption) ?_
  case hy => (intro w hSw; (try dsimp only at hSw); go_simp); with_reducible rfl
  simp only [Act.put, List.setIfInBounds_toArray, List.set_cons_zero, List.set_cons_succ]
  refine take_nth (i := 14) (v := ?_) rfl (by kernel_rfl) (by kernel_rfl) (by kernel_rfl) (fun _ _ _ h => h) rfl ?hy (by assumption) ?_
  case hy => (intro w hSw; (try dsimp only at hSw); go_simp); with_reducible rfl
  simp only [Act.put, List.setIfInBounds_toArray, List.set_cons_zero, List.set_cons_succ]
  refine take_nth (i := 15) (v := ?_) rfl (by kernel_rfl) (by kernel_rfl) (by kernel_rfl) (fun _ _ _ h => h) rfl ?hy (by assumption) ?_
  case hy => (intro w hSw; (try dsimp only at hSw); go_simp); with_reducible rfl
  simp only [Act.put, List.setIfInBounds_toArray, List.set_cons_zero, List.set_cons_succ]
  refine take_nth (i := 16) (v := ?_) rfl (by kernel_rfl) (by kernel_rfl) (by kernel_rfl) (fun _ _ _ h => h) rfl ?hy (by assumption) ?_
  case hy => (intro w hSw; (try dsimp only at hSw); go_simp); with_reducible rfl
  simp only [Act.put, List.setIfInBounds_toArray, List.set_cons_zero, List.set_cons_succ]
  refine take_nth (i := 17) (v := ?_) rfl (by kernel_rfl) (by kernel_rfl) (by kernel_rfl) (fun _ _ _ h => h) rfl ?hy (by assumption) ?_
  case hy => (intro w hSw; (try dsimp only at hSw); go_simp); with_reducible rfl
  simp only [Act.put, List.setIfInBounds_toArray, List.set_cons_zero, List.set_cons_succ]
  clear wN m9 tN
  refine wpAnyH_ready (rs := [6]) (by kernel_rfl) (by simp) ?_
  refine step_nth rfl rfl (fun K hK => ?_) AllReadyH.nil
  go_simp
  refine (four_any (D5.out.drewN 1)).mono ?_; rintro e w4 ⟨he, n4, hw4⟩
  rw [← HSN.out] at he
  subst he
  dsimp only
  have c4 : Chg [] w3 w4 := by rw [hw4]; exact ((Chg.refl w3).drew).drewN n4
  have v3 : World.cell? w4 ⟨bb, off + 3, none⟩ = some (.int .u8 (KN : Int)) := by rw [hw4]; exact u3
  have v4 : World.cell? w4 ⟨bb, off + 4, none⟩ = some (.int .u8 (FN : Int)) := by rw [hw4]; exact u4
  refine hK.out _ _ ⟨v3, v4⟩ (fun hHeld2 => ?_)
  try simp only [Act.put, List.setIfInBounds_toArray, List.set_cons_zero, List.set_cons_succ]
  clear hK K hw4
  refine take_nth (i := 7) (v := ?_) rfl (by kernel_rfl) (by kernel_rfl) (by kernel_rfl) (fun _ _ _ h => h) rfl ?hy (by assumption) ?_
  case hy => (intro w hSw; (try dsimp only at hSw); go_simp); with_reducible rfl
  simp only [Act.put, List.setIfInBounds_toArray, List.set_cons_zero, List.set_cons_succ]
  refine take_nth (i := 8) (v := ?_) rfl (by kernel_rfl) (by kernel_rfl) (by kernel_rfl) (fun _ _ _ h => h) rfl ?hy (by assumption) ?_
  case hy => (intro w hSw; (try dsimp only at hSw); go_simp); with_reducible rfl
  simp only [Act.put, List.setIfInBounds_toArray, List.set_cons_zero, List.set_cons_succ]
  refine take_nth (i := 9) (v := ?_) rfl (by kernel_rfl) (by kernel_rfl) (by kernel_rfl) (fun _ _ _ h => h) rfl ?hy (by assumption) ?_
  case hy => (intro w hSw; (try dsimp only at hSw); go_simp); with_reducible rfl
  simp only [Act.put, List.setIfInBounds_toArray, List.set_cons_zero, List.set_cons_succ]
  refine take_nth (i := 18) (v := ?_) rfl (by kernel_rfl) (by kernel_rfl) (by kernel_rfl) (fun _ _ _ h => h) rfl ?hy (by assumption) ?_
  case hy => (intro w hSw; (try dsimp only at hSw); go_simp); with_reducible rfl
  simp only [Act.put, List.setIfInBounds_toArray, List.set_cons_zero, List.set_cons_succ]
  refine wpAnyH_ready (rs := [19]) (by kernel_rfl) (by simp) ?_
  refine step_nth rfl rfl (fun K hK => ?_) AllReadyH.nil
  go_simp
  simp only [HA31.out, wK, wS, wF]
  have cA : Chg [] w4 (w4.alloc (.cells #[.int .i64 (KN : Int), .int .i64 (ST : Int), .bool false, .bool false, .bool false, .bool false, .slice none 0 0, .int .i64 0, .int .i64 0, .int .i64 0, .bool false, .int .i64 0, .int .u32 0, .slice none 0 0, .int .i64 0, .int .i64 0, .int .i64 (FN : Int), (.slice (some ⟨bb, o9, none⟩) N (cap - 9)), .int .i64 0, .int .u32 0] 87)) := (Chg.refl w4).alloc _
  have hrm : RM (w4.alloc (.cells #[.int .i64 (KN : Int), .int .i64 (ST : Int), .bool false, .bool false, .bool false, .bool false, .slice none 0 0, .int .i64 0, .int .i64 0, .int .i64 0, .bool false, .int .i64 0, .int .u32 0, .slice none 0 0, .int .i64 0, .int .i64 0, .int .i64 (FN : Int), (.slice (some ⟨bb, o9, none⟩) N (cap - 9)), .int .i64 0, .int .u32 0] 87)) w4.heap.size (.slice none 0 0) (.slice none 0 0) (.slice (some ⟨bb, o9, none⟩) N (cap - 9)) (rg0 KN ST fl (r.take N)) := by
    refine ⟨⟨?_, ?_, ?_⟩, OwnB.nil _ _, OwnR.nil _ _⟩
    · rw [show (((rg0 KN ST fl (r.take N)).fl.toNat : Nat) : Int) = (FN : Int) by rw [HFN.out]; rfl]
      exact At.new w4 _
    · exact BytesOf.chg0 (BytesOf.chg0 DD9.out c4) cA
    · intro a n c he
      cases he
      exact Nat.lt_of_lt_of_le hbb3 c4.size
  have CA := Lib.hid (c4.trans' cA); have HRM := Lib.hid hrm
  refine hK.out _ _ ⟨(Chg.cell cA (Nat.lt_of_lt_of_le hbb3 c4.size) (by simp) _).trans v3, (Chg.cell cA (Nat.lt_of_lt_of_le hbb3 c4.size) (by simp) _).trans v4⟩ (fun hHeld3 => ?_)
  try simp only [Act.put, List.setIfInBounds_toArray, List.set_cons_zero, List.set_cons_succ]
  have hR9 : w3.heap.size ≤ w4.heap.size := c4.size
  clear hK K hHeld hHeld2 hrm cA c4 v3 v4 u3 u4 hS3
  obtain ⟨R, hR⟩ : ∃ R, R = w4.heap.size := ⟨_, rfl⟩
  rw [← hR] at HRM hR9 ⊢
  have hsz5 : (w4.alloc (.cells #[.int .i64 (KN : Int), .int .i64 (ST : Int), .bool false, .bool false, .bool false, .bool false, .slice none 0 0, .int .i64 0, .int .i64 0, .int .i64 0, .bool false, .int .i64 0, .int .u32 0, .slice none 0 0, .int .i64 0, .int .i64 0, .int .i64 (FN : Int), (.slice (some ⟨bb, o9, none⟩) N (cap - 9)), .int .i64 0, .int .u32 0] 87)).heap.size = R + 1 := by rw [hR]; simp
  clear hR
  generalize w4.alloc (.cells #[.int .i64 (KN : Int), .int .i64 (ST : Int), .bool false, .bool false, .bool false, .bool false, .slice none 0 0, .int .i64 0, .int .i64 0, .int .i64 0, .bool false, .int .i64 0, .int .u32 0, .slice none 0 0, .int .i64 0, .int .i64 0, .int .i64 (FN : Int), (.slice (some ⟨bb, o9, none⟩) N (cap - 9)), .int .i64 0, .int .u32 0] 87) = w5 at *
  refine take_nth (i := 20) (v := ?_) rfl (by kernel_rfl) (by kernel_rfl) (by kernel_rfl) (fun _ _ _ h => h) rfl ?hy (by assumption) ?_
  case hy => (intro w hSw; (try dsimp only at hSw); go_simp); with_reducible rfl
  simp only [Act.put, List.setIfInBounds_toArray, List.set_cons_zero, List.set_cons_succ]
  refine wpAnyH_done (by kernel_rfl) ?_ _
  obtain ⟨sb, hsb⟩ : ∃ sb, sb = strayB (KN : Int) (ST : Int) := ⟨_, rfl⟩
  have STR : Hid (∀ w', Calls Try.prog 39 #[.int .i64 (KN : Int), .int .i64 (ST : Int)] w' fun e w'' => e = .returned (.bool sb) ∧ w'' = w') := Lib.hid (fun w' => by rw [hsb]; exact stray_any _ _ w')
  have HSB := Lib.hid hsb
  have r0 : World.cell? w5 ⟨R, 0, none⟩ = some (.int .i64 (KN : Int)) := HRM.out.h.head.cell rfl
  have r1 : World.cell? w5 ⟨R, 1, none⟩ = some (.int .i64 (ST : Int)) := HRM.out.h.head.cell rfl
  clear hsb e9 i3 i4 i5 i9 i10 hne5 wK wS wF i11 hcapI hK6 hF6 hS6 hT6
  go_wp2_with fail
  go_quiet ((go_at_call 39; exact Calls.quiet_of_same (STR.out _)))
  have c6 : Chg [] w3 (w5.drewN nq) := CA.out.drewN nq
  have C6 := Lib.hid c6; have H6 := Lib.hid (H3.out.chg0 c6); have RM6 := Lib.hid (HRM.out.chg0 ((Chg.refl w5).drewN nq))
  have B16 := Lib.hid (B1.out.chg c6 (by simp)); have B26 := Lib.hid (B2.out.chg c6 (by simp))
  clear c6 r0 r1 HRM CA
  generalize w5.drewN nq = w6 at *
  cases sb with
  | true =>
    as_aux_lemma =>
      have hnx : Hid (nxt9 mx a b c k fl s1 s2 s3 s4 r = .broken 1) := Lib.hid (by
        have h1 := HN.out; have h2 := HSB.out
        rw [HKN.out, HST.out, HSN.out] at h2
        unfold nxt9
        rw [← h1, if_neg (by have := of_decide_eq_false g; omega), if_neg (by omega), if_pos h2.symm])
      go_wp2_with fail
      refine (broken_any H6.out 1).mono ?_; rintro e w7 ⟨rfl, h7, c7⟩
      have b17 := B16.out.chg c7 (by simp; omega)
      have b27 := B26.out.chg c7 (by simp; omega)
      have H7 := Lib.hid h7; have C7 := Lib.hid c7
      clear h7 c7
      go_wp2_with (refine store_whole rfl 27 _ _ rfl w.heap.size _ _ 27 rfl rfl b17 infoFr rfl (by simp [Value.oneCell']) ?_)
      intro w31 s31 c31
      have b231 := At.chg b27 c31 (by simp)
      go_wp2_with (refine store_whole rfl 46 _ _ rfl (w.heap.size + 1) _ _ 46 rfl rfl b231 infoFa rfl (by simp [Value.oneCell']) ?_)
      intro w32 s32 c32
      have s33 := At.chg s31 c32 (by simp)
      have c33 : Chg [w.heap.size, w.heap.size + 1] w7 w32 := (c31.mono (by simp)).trans' (c32.mono (by simp))
      have C33 := Lib.hid c33
      clear c31 c32 c33 b231 s31
      go_wp2_with fail
      have z0 := s33.cell (o := 0) rfl
      have z1 := s33.cell (o := 1) rfl
      have z2 := s33.cell (o := 2) rfl
      have z3 := s33.cell (o := 3) rfl
      have z4 := s33.cell (o := 4) rfl
      have z5 := s33.cell (o := 5) rfl
      have z6 := s33.cell (o := 6) rfl
      have z7 := s33.cell (o := 7) rfl
      have z8 := s33.cell (o := 8) rfl
      have z9 := s33.cell (o := 9) rfl
      have z10 := s33.cell (o := 10) rfl
      have z11 := s33.cell (o := 11) rfl
      have z12 := s33.cell (o := 12) rfl
      have z13 := s33.cell (o := 13) rfl
      have z14 := s33.cell (o := 14) rfl
      have z15 := s33.cell (o := 15) rfl
      have y0 := s32.cell (o := 0) rfl
      have y1 := s32.cell (o := 1) rfl
      have y2 := s32.cell (o := 2) rfl
      refine bodyPost_ret (v := .tuple #[.agg noF, .agg #[.bool true, .int .u32 1, .int .i64 0], .bool true]) (by simp [results, Try.results21, go_sem, z0, z1, z2, z3, z4, z5, z6, z7, z8, z9, z10, z11, z12, z13, z14, z15, y0, y1, y2]) rfl ?_
      rw [hnx.out]
      refine ⟨rfl, H7.out.chg C33.out (fun x hx he => ?_), ?_⟩
      · have hx' : x = p := by simpa [footP, Value.ownBlock] using hx
        subst hx'
        simp at he; omega
      · exact (((C0.out.trans' C6.out).mono (by simp)).trans' C7.out).trans C33.out (fun x hx => Or.inr (by simp at hx; omega))
  | false =>
    obtain ⟨f, hf⟩ : ∃ f, f = rdF KN := ⟨_, rfl⟩
    obtain ⟨RR, hRR⟩ : ∃ RR, RR = kindR KN (rg0 KN ST fl (r.take N)) := ⟨_, rfl⟩
    have hsame : sameK RR (rg0 KN ST fl (r.take N)) := by rw [hRR]; exact kindR_k _ _
    have hkk : RR.F.kind = (KN : Int) := hsame.1
    have hkt : RR.F.stream = (ST : Int) := hsame.2
    have hnx : Hid (nxt9 mx a b c k fl s1 s2 s3 s4 r = outR KN ST RR (r.drop N)) := Lib.hid (by
      have h1 := HN.out; have h2 := HSB.out
      rw [HKN.out, HST.out, HSN.out] at h2
      rw [hRR]
      unfold nxt9
      rw [← h1, if_neg (by have := of_decide_eq_false g; omega), if_neg (by omega), if_neg (by rw [← h2]; simp), ← HKN.out, ← HSN.out, ← HST.out])
    have RD : Hid (∀ w', RM w' R (.slice none 0 0) (.slice none 0 0) (.slice (some ⟨bb, o9, none⟩) N (cap - 9)) (rg0 KN ST fl (r.take N)) → Calls Try.prog f #[.pointer (some ⟨R, 0, none⟩)] w' fun e w'' => e = .returned (.tuple #[]) ∧ RX w' w'' R RR) := Lib.hid (fun w' hh => by
      rw [hf, hRR]
      exact read_any hh (show (r.take N).length ≤ 16777215 by rw [List.length_take]; omega) rfl rfl KN)
    have HKK := Lib.hid hkk; have HKT := Lib.hid hkt; have HF := Lib.hid hf; have HRR := Lib.hid hRR
    have ENT : ∀ (args : Array Value) (w : World), (callFunc f args).run Try.prog w = .ok (.enter f args) w := by rw [hf]; exact rdF_enters KN
    clear hf hRR hsame hkk hkt
    go_upto_region 12 with fail
    iterate 8 go_step
    go_cut [8] (fun v wx => v = .func (.func f) #[] #[] ∧ RM wx R (.slice none 0 0) (.slice none 0 0) (.slice (some ⟨bb, o9, none⟩) N (cap - 9)) (rg0 KN ST fl (r.take N)) ∧ Chg [] w6 wx)
    case first =>
      as_aux_lemma =>
        by_cases hk10 : KN < 10
        · have hkI : (KN : Int) < 10 := by omega
          have gk : decide ((KN : Int) < 10) = true := decide_eq_true hkI
          go_wp2_with fail
          refine (readers_any _).mono ?_; rintro e w7 ⟨rfl, c7⟩
          go_upto_region 14 with fail
          have c8 : Chg [] w6 (w7.alloc (.cells RDS 90)) := c7.alloc _
          have AR : Hid (At (w7.alloc (.cells RDS 90)) w7.heap.size (.cells RDS 90 (0, 0))) := Lib.hid (At.new w7 _)
          have C8 := Lib.hid c8; have RM8 := Lib.hid (RM6.out.chg0 c8)
          have r0 : World.cell? (w7.alloc (.cells RDS 90)) ⟨R, 0, none⟩ = some (.int .i64 (KN : Int)) := RM8.out.h.head.cell rfl
          clear c8 c7
          generalize w7.alloc (.cells RDS 90) = w8 at *
          have af : World.cell? w8 ⟨w7.heap.size, KN, none⟩ = some (.func (.func f) #[] #[]) := by rw [HF.out]; exact AR.out.cell (RDS_at KN hk10)
          have afl := AR.out.lt
          go_wp2_with fail
          go_meet
          case rel => exact ⟨rfl, RM8.out, C8.out⟩
        · have hkI : ¬ (KN : Int) < 10 := by omega
          have gk : decide ((KN : Int) < 10) = false := decide_eq_false hkI
          go_wp2_with fail
          refine (readers_any _).mono ?_; rintro e w7 ⟨rfl, c7⟩
          go_upto_region 14 with fail
          have c8 : Chg [] w6 (w7.alloc (.cells RDS 90)) := c7.alloc _
          have AR : Hid (At (w7.alloc (.cells RDS 90)) w7.heap.size (.cells RDS 90 (0, 0))) := Lib.hid (At.new w7 _)
          have C8 := Lib.hid c8; have RM8 := Lib.hid (RM6.out.chg0 c8)
          have r0 : World.cell? (w7.alloc (.cells RDS 90)) ⟨R, 0, none⟩ = some (.int .i64 (KN : Int)) := RM8.out.h.head.cell rfl
          clear c8 c7
          generalize w7.alloc (.cells RDS 90) = w8 at *
          go_wp2_with fail
          go_meet
          case rel => exact ⟨by rw [HF.out, rdF_other KN (by omega)], RM8.out, C8.out⟩
    case rest =>
      obtain ⟨rfl, h8, c8⟩ := hcut
      have H8 := Lib.hid (H6.out.chg0 c8); have RM8 := Lib.hid h8; have CW8 := Lib.hid (C0.out.trans' (C6.out.trans' c8))
      have B18 := Lib.hid (B16.out.chg c8 (by simp)); have B28 := Lib.hid (B26.out.chg c8 (by simp))
      clear h8 c8 H6 RM6 B16 B26 C6
      go_wp2_with fail
      refine (RD.out _ RM8.out).mono ?_; rintro e w9 ⟨rfl, ⟨⟨pv, lv, bv, h9⟩, b9⟩⟩
      have hB2 := B2.out.lt
      have lw : w.heap.size + 1 < R := by omega
      have CW9 : Hid (Chg [] w w9) := Lib.hid (CW8.out.thenBelow b9 (by omega))
      have H9 := Lib.hid (H8.out.below b9 (fun x hx => by have := HLT.out x hx; omega))
      have B19 := Lib.hid (B18.out.below b9 (by omega)); have B29 := Lib.hid (B28.out.below b9 lw)
      have hRw : w.heap.size ≤ R := by omega
      have rr0 : World.cell? w9 ⟨R, 0, none⟩ = some (.int .i64 RR.F.kind) := h9.h.head.cell rfl
      have rr1 : World.cell? w9 ⟨R, 1, none⟩ = some (.int .i64 RR.F.stream) := h9.h.head.cell rfl
      have rr19 : World.cell? w9 ⟨R, 19, none⟩ = some (.int .u32 ((RR.code : Nat) : Int)) := h9.h.head.cell rfl
      rw [HKK.out] at rr0
      rw [HKT.out] at rr1
      obtain ⟨CD, hCD⟩ : ∃ CD, CD = RR.code := ⟨_, rfl⟩
      rw [← hCD] at rr19
      obtain ⟨OW, hOW⟩ : ∃ OW, OW = ownK KN ST CD := ⟨_, rfl⟩
      have HCD := Lib.hid hCD; have HOW := Lib.hid hOW; have HM9 := Lib.hid h9
      clear hCD hOW h9 b9 CW8 H8 RM8 B18 B28 hB2 ENT
      go_upto_region 17 with fail
      go_cut [10] (fun v wx => v = .bool OW ∧ wx = w9)
      case first =>
        as_aux_lemma =>
          by_cases k2 : KN = 2
          · have hO : OW = true := by rw [HOW.out]; unfold ownK; simp [k2]
            have g1 : ((KN : Int) == 2) = true := by rw [k2]; rfl
            have g2 : (KN : Int) = 2 := by omega
            clear k2
            go_wp2_with fail
            go_meet
            case rel => exact ⟨by rw [hO], rfl⟩
          · have g1 : ((KN : Int) == 2) = false := by simp; omega
            have g2 : ¬ (KN : Int) = 2 := by omega
            by_cases k8 : KN = 8
            · have g3 : ((KN : Int) == 8) = true := by rw [k8]; rfl
              have g4 : (KN : Int) = 8 := by omega
              by_cases c1 : CD = 1
              · have g5 : ((CD : Int) == 1) = true := by rw [c1]; rfl
                have g6 : (CD : Int) = 1 := by omega
                have hO : OW = decide (0 < ST) := by rw [HOW.out]; unfold ownK; simp [k8, c1]
                clear k2 k8 c1
                go_wp2_with fail
                go_meet
                case rel => exact ⟨by rw [hO], rfl⟩
              · have g5 : ((CD : Int) == 1) = false := by simp; omega
                have g6 : ¬ (CD : Int) = 1 := by omega
                have hO : OW = false := by rw [HOW.out]; unfold ownK; simp [k2, c1]
                clear k2 k8 c1
                go_wp2_with fail
                go_meet
                case rel => exact ⟨by rw [hO], rfl⟩
            · have g3 : ((KN : Int) == 8) = false := by simp; omega
              have g4 : ¬ (KN : Int) = 8 := by omega
              have hO : OW = false := by rw [HOW.out]; unfold ownK; simp [k2, k8]
              clear k2 k8
              go_wp2_with fail
              go_meet
              case rel => exact ⟨by rw [hO], rfl⟩
      case rest =>
        obtain ⟨rfl, hwc⟩ := hcut
        have hwc' := hwc.symm
        subst hwc'
        clear hwc
        have d20 := rest_at (show BytesOf w9 (.slice (some ⟨bb, off, none⟩) (r.length + 9) cap) _ from OwnB.bytes H9.out.row) hc HCM.out hr
        obtain ⟨o20, e20⟩ : ∃ o20, (if cap = 9 + N then some (⟨bb, off, none⟩ : Addr) else some ⟨bb, off + (9 + N), none⟩) = some ⟨bb, o20, none⟩ := by
          by_cases hc9 : cap = 9 + N
          · exact ⟨off, if_pos hc9⟩
          · exact ⟨off + (9 + N), if_neg hc9⟩
        obtain ⟨DL, hDL⟩ : ∃ D, D = r.drop N := ⟨_, rfl⟩
        rw [e20, ← hDL] at d20
        have D20 := Lib.hid d20
        have pp0 : World.cell? w9 ⟨p, 0, none⟩ = some (.slice (some ⟨bb, off, none⟩) (r.length + 9) cap) := H9.out.head.cell rfl
        have hlen20 : DL.length ≤ 100000000000000 := Nat.le_trans (by rw [hDL, List.length_drop]; exact Nat.sub_le _ _) (Nat.le_trans HRL.out (by omega))
        have HDL := Lib.hid hDL
        clear d20 hDL
        by_cases hcd : CD = 0
        · as_aux_lemma =>
            have g1 : ((CD : Int) != 0) = false := by simp; omega
            have g2 : (CD : Int) = 0 := by omega
            have HO : Hid (outR KN ST RR DL = .frame RR.F DL) := Lib.hid (by unfold outR; rw [if_pos (by rw [← HCD.out]; exact hcd)])
            clear hcd
            go_upto_region 20 with fail
            iterate 18 go_step
            try simp only [e20]
            refine (clone_any D20.out hlen20).mono ?_; rintro e w10 ⟨rv, rfl, o10, c10⟩
            obtain ⟨rva, rvc, hrv, _, _⟩ := (OwnB.bytes o10).slice
            subst hrv
            have pp10 : World.cell? w10 ⟨p, 0, none⟩ = some (.slice (some ⟨bb, off, none⟩) (r.length + 9) cap) := (H9.out.chg0 c10).head.cell rfl
            have pf10 : ∀ j, World.frozen? w10 ⟨p, j, none⟩ = false := fun j => (H9.out.chg0 c10).head.free j
            have hpl10 := (H9.out.chg0 c10).head.lt
            have O10 := Lib.hid o10; have C10 := Lib.hid c10
            have cp : Chg [p] w10 (w10.setCell ⟨p, 0, none⟩ (.slice rva DL.length rvc)) := (Chg.refl w10).setCell (Or.inl (by simp)) _
            have hpR : p ≠ R := by omega
            have HD11 := Lib.hid ((HM9.out.h.head.chg c10 (by simp)).chg cp (by simp; omega))
            have hnp : ∀ g, (Value.slice rva DL.length rvc).ownBlock = some g → g ∉ [p] := fun g hg hx => by
              have := OwnB.lo o10 g (by simp [hg])
              have := H9.out.head.lt
              simp at hx; omega
            have hp11 : PH W (w10.setCell ⟨p, 0, none⟩ (.slice rva DL.length rvc)) p (.slice rva DL.length rvc) DL mx dn :=
              ⟨((H9.out.chg0 c10).head).set 0 _, OwnB.chg (owns_mono o10 (by have := H9.out.los p (by simp [footP]); have := H9.out.head.lt; omega)) cp hnp, H9.out.lo, H9.out.b1, H9.out.b2⟩
            have P11 := Lib.hid hp11
            have C11 : Hid (Chg [p] w (w10.setCell ⟨p, 0, none⟩ (.slice rva DL.length rvc))) := Lib.hid (((CW9.out.trans' c10).mono (by simp)).trans' cp)
            have B111 := Lib.hid ((B19.out.chg c10 (by simp)).chg cp (by simp; omega))
            have B211 := Lib.hid ((B29.out.chg c10 (by simp)).chg cp (by simp; omega))
            have hgp : ∀ g, pv.ownBlock = some g → R ≤ g := fun g hg => OwnB.lo HM9.out.p g (by simp [hg])
            have hgl : ∀ g, lv.ownBlock = some g → R ≤ g := fun g hg => HM9.out.s.lo g (by simp [hg])
            have PV11 := Lib.hid (OwnB.chg (OwnB.chg0' HM9.out.p c10) cp (fun g hg hx => by have := hgp g hg; simp at hx; omega))
            have LV11 := Lib.hid (OwnR.chg (HM9.out.s.chg0 c10) cp (fun g hg hx => by have := hgl g hg; simp at hx; omega))
            have RV11 := Lib.hid (OwnB.chg o10 cp hnp)
            have PVL : Hid (∀ g ∈ pv.ownBlock.toList, g < w9.heap.size) := Lib.hid (fun g hg => (World.ownsRow.lt HM9.out.p g (by simpa using hg)).2)
            have RVL : Hid (∀ g ∈ (Value.slice rva DL.length rvc).ownBlock.toList, w9.heap.size ≤ g) := Lib.hid (OwnB.lo o10)
            clear o10 c10 cp hnp hp11 pp0 rr0 rr1 rr19 e20
            go_upto_region 21 with fail
            clear pp10 pf10 hpl10
            generalize w10.setCell ⟨p, 0, none⟩ (.slice rva DL.length rvc) = w11 at *
            have s19 : World.cell? w11 ⟨R, 19, none⟩ = some (.int .u32 (CD : Int)) := by rw [HCD.out]; exact HD11.out.cell rfl
            obtain ⟨pa, pc, hpv, _, _⟩ := (OwnB.bytes PV11.out).slice
            obtain ⟨lla, llc, hlv, _, _⟩ := LV11.out.slice
            have s0 : World.cell? w11 ⟨R, 0, none⟩ = some (.int .i64 RR.F.kind) := HD11.out.cell rfl
            have s1 : World.cell? w11 ⟨R, 1, none⟩ = some (.int .i64 RR.F.stream) := HD11.out.cell rfl
            have s2 : World.cell? w11 ⟨R, 2, none⟩ = some (.bool RR.F.fin) := HD11.out.cell rfl
            have s3 : World.cell? w11 ⟨R, 3, none⟩ = some (.bool RR.F.eh) := HD11.out.cell rfl
            have s4 : World.cell? w11 ⟨R, 4, none⟩ = some (.bool RR.F.ack) := HD11.out.cell rfl
            have s5 : World.cell? w11 ⟨R, 5, none⟩ = some (.bool RR.F.prio) := HD11.out.cell rfl
            have s6 : World.cell? w11 ⟨R, 6, none⟩ = some pv := HD11.out.cell rfl
            have s7 : World.cell? w11 ⟨R, 7, none⟩ = some (.int .i64 RR.F.flags) := HD11.out.cell rfl
            have s8 : World.cell? w11 ⟨R, 8, none⟩ = some (.int .i64 RR.F.pad) := HD11.out.cell rfl
            have s9 : World.cell? w11 ⟨R, 9, none⟩ = some (.int .i64 RR.F.depend) := HD11.out.cell rfl
            have s10 : World.cell? w11 ⟨R, 10, none⟩ = some (.bool RR.F.excl) := HD11.out.cell rfl
            have s11 : World.cell? w11 ⟨R, 11, none⟩ = some (.int .i64 RR.F.weight) := HD11.out.cell rfl
            have s12 : World.cell? w11 ⟨R, 12, none⟩ = some (.int .u32 RR.F.code) := HD11.out.cell rfl
            have s13 : World.cell? w11 ⟨R, 13, none⟩ = some lv := HD11.out.cell rfl
            have s14 : World.cell? w11 ⟨R, 14, none⟩ = some (.int .i64 RR.F.last) := HD11.out.cell rfl
            have s15 : World.cell? w11 ⟨R, 15, none⟩ = some (.int .i64 RR.F.inc) := HD11.out.cell rfl
            rw [hpv] at s6
            rw [hlv] at s13
            have HPV := Lib.hid hpv; have HLV := Lib.hid hlv
            clear hpv hlv
            go_upto_region 23 with fail
            go_wp2_with (refine store_whole rfl 27 _ _ rfl w.heap.size _ _ 27 rfl rfl B111.out infoFr rfl (by simp [Value.oneCell']) ?_)
            intro w31 s31 c31
            have b231 := At.chg B211.out c31 (by simp)
            go_wp2_with (refine store_whole rfl 46 _ _ rfl (w.heap.size + 1) _ _ 46 rfl rfl b231 infoFa rfl (by simp [Value.oneCell']) ?_)
            intro w32 s32 c32
            have s33 := At.chg s31 c32 (by simp)
            have c33 : Chg [w.heap.size, w.heap.size + 1] w11 w32 := (c31.mono (by simp)).trans' (c32.mono (by simp))
            have C33 := Lib.hid c33
            clear c31 c32 c33 b231 s31
            go_wp2_with fail
            have z0 := s33.cell (o := 0) rfl
            have z1 := s33.cell (o := 1) rfl
            have z2 := s33.cell (o := 2) rfl
            have z3 := s33.cell (o := 3) rfl
            have z4 := s33.cell (o := 4) rfl
            have z5 := s33.cell (o := 5) rfl
            have z6 := s33.cell (o := 6) rfl
            have z7 := s33.cell (o := 7) rfl
            have z8 := s33.cell (o := 8) rfl
            have z9 := s33.cell (o := 9) rfl
            have z10 := s33.cell (o := 10) rfl
            have z11 := s33.cell (o := 11) rfl
            have z12 := s33.cell (o := 12) rfl
            have z13 := s33.cell (o := 13) rfl
            have z14 := s33.cell (o := 14) rfl
            have z15 := s33.cell (o := 15) rfl
            have y0 := s32.cell (o := 0) rfl
            have y1 := s32.cell (o := 1) rfl
            have y2 := s32.cell (o := 2) rfl
            refine bodyPost_ret (v := .tuple #[.agg #[.int .i64 RR.F.kind, .int .i64 RR.F.stream, .bool RR.F.fin, .bool RR.F.eh, .bool RR.F.ack, .bool RR.F.prio, .slice pa RR.F.pay.length pc, .int .i64 RR.F.flags, .int .i64 RR.F.pad, .int .i64 RR.F.depend, .bool RR.F.excl, .int .i64 RR.F.weight, .int .u32 RR.F.code, .slice lla RR.F.list.length llc, .int .i64 RR.F.last, .int .i64 RR.F.inc], .agg noX, .bool true]) (by simp [results, Try.results21, go_sem, z0, z1, z2, z3, z4, z5, z6, z7, z8, z9, z10, z11, z12, z13, z14, z15, y0, y1, y2]) rfl ?_
            rw [hnx.out, ← HDL.out, HO.out]
            have hR9l := HM9.out.lt
            have hRw9 : w.heap.size ≤ w9.heap.size := by omega
            have hrv33 : ∀ g, (Value.slice rva DL.length rvc).ownBlock = some g → g ∉ [w.heap.size, w.heap.size + 1] := fun g hg hx => by
              have := RVL.out g (by simp [hg])
              simp at hx; omega
            have hfp : ∀ x ∈ footP p (.slice rva DL.length rvc), x ∉ [w.heap.size, w.heap.size + 1] := fun x hx he => by
              rcases List.mem_cons.1 hx with rfl | hx
              · simp at he; omega
              · exact hrv33 x (by simpa using hx) he
            have hnew : ∀ x ∈ [w.heap.size, w.heap.size + 1], x ∈ [p] ∨ w.heap.size ≤ x := fun x hx => Or.inr (by simp at hx; omega)
            refine ⟨.slice rva DL.length rvc, pv, lv, by rw [HPV.out, HLV.out]; rfl, P11.out.chg C33.out hfp, C11.out.trans C33.out hnew, OwnB.chg (owns_mono RV11.out hRw9) C33.out hrv33, OwnB.chg (owns_mono PV11.out hRw) C33.out (fun g hg hx => by have := hgp g hg; simp at hx; omega), OwnR.chg (owns_mono LV11.out hRw) C33.out (fun g hg hx => by have := hgl g hg; simp at hx; omega), fun g hg hx => by have := PVL.out g hg; have := RVL.out g hx; omega⟩
        · have g1 : ((CD : Int) != 0) = true := by simp; omega
          have g2 : ¬ (CD : Int) = 0 := by omega
          cases OW with
          | true =>
            as_aux_lemma =>
              have HO : Hid (outR KN ST RR DL = .fault CD ST DL) := Lib.hid (by unfold outR; rw [if_neg (by rw [← HCD.out]; exact hcd), ← HCD.out, if_pos HOW.out.symm])
              clear hcd
              go_upto_region 20 with fail
              iterate 18 go_step
              try simp only [e20]
              refine (clone_any D20.out hlen20).mono ?_; rintro e w10 ⟨rv, rfl, o10, c10⟩
              obtain ⟨rva, rvc, hrv, _, _⟩ := (OwnB.bytes o10).slice
              subst hrv
              have pp10 : World.cell? w10 ⟨p, 0, none⟩ = some (.slice (some ⟨bb, off, none⟩) (r.length + 9) cap) := (H9.out.chg0 c10).head.cell rfl
              have pf10 : ∀ j, World.frozen? w10 ⟨p, j, none⟩ = false := fun j => (H9.out.chg0 c10).head.free j
              have hpl10 := (H9.out.chg0 c10).head.lt
              have O10 := Lib.hid o10; have C10 := Lib.hid c10
              have cp : Chg [p] w10 (w10.setCell ⟨p, 0, none⟩ (.slice rva DL.length rvc)) := (Chg.refl w10).setCell (Or.inl (by simp)) _
              have hpR : p ≠ R := by omega
              have HD11 := Lib.hid ((HM9.out.h.head.chg c10 (by simp)).chg cp (by simp; omega))
              have hnp : ∀ g, (Value.slice rva DL.length rvc).ownBlock = some g → g ∉ [p] := fun g hg hx => by
                have := OwnB.lo o10 g (by simp [hg])
                have := H9.out.head.lt
                simp at hx; omega
              have hp11 : PH W (w10.setCell ⟨p, 0, none⟩ (.slice rva DL.length rvc)) p (.slice rva DL.length rvc) DL mx dn :=
                ⟨((H9.out.chg0 c10).head).set 0 _, OwnB.chg (owns_mono o10 (by have := H9.out.los p (by simp [footP]); have := H9.out.head.lt; omega)) cp hnp, H9.out.lo, H9.out.b1, H9.out.b2⟩
              have P11 := Lib.hid hp11
              have C11 : Hid (Chg [p] w (w10.setCell ⟨p, 0, none⟩ (.slice rva DL.length rvc))) := Lib.hid (((CW9.out.trans' c10).mono (by simp)).trans' cp)
              have B111 := Lib.hid ((B19.out.chg c10 (by simp)).chg cp (by simp; omega))
              have B211 := Lib.hid ((B29.out.chg c10 (by simp)).chg cp (by simp; omega))
              have hgp : ∀ g, pv.ownBlock = some g → R ≤ g := fun g hg => OwnB.lo HM9.out.p g (by simp [hg])
              have hgl : ∀ g, lv.ownBlock = some g → R ≤ g := fun g hg => HM9.out.s.lo g (by simp [hg])
              have PV11 := Lib.hid (OwnB.chg (OwnB.chg0' HM9.out.p c10) cp (fun g hg hx => by have := hgp g hg; simp at hx; omega))
              have LV11 := Lib.hid (OwnR.chg (HM9.out.s.chg0 c10) cp (fun g hg hx => by have := hgl g hg; simp at hx; omega))
              have RV11 := Lib.hid (OwnB.chg o10 cp hnp)
              have PVL : Hid (∀ g ∈ pv.ownBlock.toList, g < w9.heap.size) := Lib.hid (fun g hg => (World.ownsRow.lt HM9.out.p g (by simpa using hg)).2)
              have RVL : Hid (∀ g ∈ (Value.slice rva DL.length rvc).ownBlock.toList, w9.heap.size ≤ g) := Lib.hid (OwnB.lo o10)
              clear o10 c10 cp hnp hp11 pp0 rr0 rr1 rr19 e20
              go_upto_region 21 with fail
              clear pp10 pf10 hpl10
              generalize w10.setCell ⟨p, 0, none⟩ (.slice rva DL.length rvc) = w11 at *
              have s19 : World.cell? w11 ⟨R, 19, none⟩ = some (.int .u32 (CD : Int)) := by rw [HCD.out]; exact HD11.out.cell rfl
              have s1' : World.cell? w11 ⟨R, 1, none⟩ = some (.int .i64 (ST : Int)) := by rw [← HKT.out]; exact HD11.out.cell rfl
              go_upto_region 22 with fail
              have hS22 : World.cell? w11.drew ⟨R, 19, none⟩ = some (.int .u32 (CD : Int)) ∧ World.cell? w11.drew ⟨R, 1, none⟩ = some (.int .i64 (ST : Int)) := ⟨s19, s1'⟩
              have B112 := Lib.hid (B111.out.drew); have B212 := Lib.hid (B211.out.drew)
              have CE : Hid (Chg [] w11 w11.drew) := Lib.hid ((Chg.refl w11).drew)
              have hRl11 := HD11.out.lt
              refine wp_region_held_drew (S := fun w' => World.cell? w' ⟨R, 19, none⟩ = some (.int .u32 (CD : Int)) ∧ World.cell? w' ⟨R, 1, none⟩ = some (.int .i64 (ST : Int))) (by kernel_rfl) hS22 (fun hHeld => ?_)
              clear s19 s1' hS22
              generalize w11.drew = w12 at *
              refine take_nth (i := 0) (v := ?_) rfl (by kernel_rfl) (by kernel_rfl) (by kernel_rfl) (fun _ _ _ h => h) rfl ?hy (by assumption) ?_
              case hy => (intro w hSw; (try dsimp only at hSw); go_simp); with_reducible rfl
              simp only [Act.put, List.setIfInBounds_toArray, List.set_cons_zero, List.set_cons_succ]
              refine take_nth (i := 1) (v := ?_) rfl (by kernel_rfl) (by kernel_rfl) (by kernel_rfl) (fun _ _ _ h => h) rfl ?hy (by assumption) ?_
              case hy => (intro w hSw; (try dsimp only at hSw); go_simp); with_reducible rfl
              simp only [Act.put, List.setIfInBounds_toArray, List.set_cons_zero, List.set_cons_succ]
              refine take_nth (i := 2) (v := ?_) rfl (by kernel_rfl) (by kernel_rfl) (by kernel_rfl) (fun _ _ _ h => h) rfl ?hy (by assumption) ?_
              case hy => (intro w hSw; (try dsimp only at hSw); go_simp); with_reducible rfl
              simp only [Act.put, List.setIfInBounds_toArray, List.set_cons_zero, List.set_cons_succ]
              refine take_nth (i := 3) (v := ?_) rfl (by kernel_rfl) (by kernel_rfl) (by kernel_rfl) (fun _ _ _ h => h) rfl ?hy (by assumption) ?_
              case hy => (intro w hSw; (try dsimp only at hSw); go_simp); with_reducible rfl
              simp only [Act.put, List.setIfInBounds_toArray, List.set_cons_zero, List.set_cons_succ]
              refine take_nth (i := 4) (v := ?_) rfl (by kernel_rfl) (by kernel_rfl) (by kernel_rfl) (fun _ _ _ h => h) rfl ?hy (by assumption) ?_
              case hy => (intro w hSw; (try dsimp only at hSw); go_simp); with_reducible rfl
              simp only [Act.put, List.setIfInBounds_toArray, List.set_cons_zero, List.set_cons_succ]
              refine take_nth (i := 5) (v := ?_) rfl (by kernel_rfl) (by kernel_rfl) (by kernel_rfl) (fun _ _ _ h => h) rfl ?hy (by assumption) ?_
              case hy => (intro w hSw; (try dsimp only at hSw); go_simp); with_reducible rfl
              simp only [Act.put, List.setIfInBounds_toArray, List.set_cons_zero, List.set_cons_succ]
              refine take_nth (i := 6) (v := ?_) rfl (by kernel_rfl) (by kernel_rfl) (by kernel_rfl) (fun _ _ _ h => h) rfl ?hy (by assumption) ?_
              case hy => (intro w hSw; (try dsimp only at hSw); go_simp); with_reducible rfl
              simp only [Act.put, List.setIfInBounds_toArray, List.set_cons_zero, List.set_cons_succ]
              refine take_nth (i := 7) (v := ?_) rfl (by kernel_rfl) (by kernel_rfl) (by kernel_rfl) (fun _ _ _ h => h) rfl ?hy (by assumption) ?_
              case hy => (intro w hSw; (try dsimp only at hSw); go_simp); with_reducible rfl
              simp only [Act.put, List.setIfInBounds_toArray, List.set_cons_zero, List.set_cons_succ]
              refine take_nth (i := 8) (v := ?_) rfl (by kernel_rfl) (by kernel_rfl) (by kernel_rfl) (fun _ _ _ h => h) rfl ?hy (by assumption) ?_
              case hy => (intro w hSw; (try dsimp only at hSw); go_simp); with_reducible rfl
              simp only [Act.put, List.setIfInBounds_toArray, List.set_cons_zero, List.set_cons_succ]
              refine take_nth (i := 9) (v := ?_) rfl (by kernel_rfl) (by kernel_rfl) (by kernel_rfl) (fun _ _ _ h => h) rfl ?hy (by assumption) ?_
              case hy => (intro w hSw; (try dsimp only at hSw); go_simp); with_reducible rfl
              simp only [Act.put, List.setIfInBounds_toArray, List.set_cons_zero, List.set_cons_succ]
              refine take_nth (i := 10) (v := ?_) rfl (by kernel_rfl) (by kernel_rfl) (by kernel_rfl) (fun _ _ _ h => h) rfl ?hy (by assumption) ?_
              case hy => (intro w hSw; (try dsimp only at hSw); go_simp); with_reducible rfl
              simp only [Act.put, List.setIfInBounds_toArray, List.set_cons_zero, List.set_cons_succ]
              refine wpAnyH_ready (rs := [11]) (by kernel_rfl) (by simp) ?_
              refine step_nth rfl rfl (fun K hK => ?_) AllReadyH.nil
              refine wp_whole 27 _ _ rfl w.heap.size _ _ 27 rfl rfl B112.out infoFr rfl (by simp [Value.oneCell']) ?_
              intro w31 s31 c31
              have b231 := B212.out.chg c31 (by simp)
              refine hK.out _ _ ⟨(c31.cell (Nat.lt_of_lt_of_le hRl11 CE.out.size) (by simp; omega) _).trans hHeld.1, (c31.cell (Nat.lt_of_lt_of_le hRl11 CE.out.size) (by simp; omega) _).trans hHeld.2⟩ (fun hHeld2 => ?_)
              try simp only [Act.put, List.setIfInBounds_toArray, List.set_cons_zero, List.set_cons_succ]
              clear hK K
              refine wpAnyH_ready (rs := [12]) (by kernel_rfl) (by simp) ?_
              refine step_nth rfl rfl (fun K hK => ?_) AllReadyH.nil
              refine wp_whole 46 _ _ rfl (w.heap.size + 1) _ _ 46 rfl rfl b231 infoFa rfl (by simp [Value.oneCell']) ?_
              intro w32 s32 c32
              have s33 := At.chg s31 c32 (by simp)
              have c33 : Chg [w.heap.size, w.heap.size + 1] w11 w32 := ((CE.out.mono (by simp)).trans' (c31.mono (by simp))).trans' (c32.mono (by simp))
              have C33 := Lib.hid c33
              refine hK.out _ _ ⟨(c32.cell (Nat.lt_of_lt_of_le (Nat.lt_of_lt_of_le hRl11 CE.out.size) c31.size) (by simp; omega) _).trans hHeld2.1, (c32.cell (Nat.lt_of_lt_of_le (Nat.lt_of_lt_of_le hRl11 CE.out.size) c31.size) (by simp; omega) _).trans hHeld2.2⟩ (fun hHeld3 => ?_)
              try simp only [Act.put, List.setIfInBounds_toArray, List.set_cons_zero, List.set_cons_succ]
              clear hK K c31 c32 c33 b231 s31
              refine take_nth (i := 13) (v := ?_) rfl (by kernel_rfl) (by kernel_rfl) (by kernel_rfl) (fun _ _ _ h => h) rfl ?hy (by assumption) ?_
              case hy => (intro w hSw; (try dsimp only at hSw); go_simp); with_reducible rfl
              simp only [Act.put, List.setIfInBounds_toArray, List.set_cons_zero, List.set_cons_succ]
              refine wpAnyH_done (by kernel_rfl) ?_ _
              go_wp2_with fail
              have z0 := s33.cell (o := 0) rfl
              have z1 := s33.cell (o := 1) rfl
              have z2 := s33.cell (o := 2) rfl
              have z3 := s33.cell (o := 3) rfl
              have z4 := s33.cell (o := 4) rfl
              have z5 := s33.cell (o := 5) rfl
              have z6 := s33.cell (o := 6) rfl
              have z7 := s33.cell (o := 7) rfl
              have z8 := s33.cell (o := 8) rfl
              have z9 := s33.cell (o := 9) rfl
              have z10 := s33.cell (o := 10) rfl
              have z11 := s33.cell (o := 11) rfl
              have z12 := s33.cell (o := 12) rfl
              have z13 := s33.cell (o := 13) rfl
              have z14 := s33.cell (o := 14) rfl
              have z15 := s33.cell (o := 15) rfl
              have y0 := s32.cell (o := 0) rfl
              have y1 := s32.cell (o := 1) rfl
              have y2 := s32.cell (o := 2) rfl
              refine bodyPost_ret (v := .tuple #[.agg noF, .agg #[.bool true, .int .u32 (CD : Int), .int .i64 (ST : Int)], .bool true]) (by simp [results, Try.results21, go_sem, z0, z1, z2, z3, z4, z5, z6, z7, z8, z9, z10, z11, z12, z13, z14, z15, y0, y1, y2]) rfl ?_
              rw [hnx.out, ← HDL.out, HO.out]
              have hR9l := HM9.out.lt
              have hRw9 : w.heap.size ≤ w9.heap.size := by omega
              have hrv33 : ∀ g, (Value.slice rva DL.length rvc).ownBlock = some g → g ∉ [w.heap.size, w.heap.size + 1] := fun g hg hx => by
                have := RVL.out g (by simp [hg])
                simp at hx; omega
              have hfp : ∀ x ∈ footP p (.slice rva DL.length rvc), x ∉ [w.heap.size, w.heap.size + 1] := fun x hx he => by
                rcases List.mem_cons.1 hx with rfl | hx
                · simp at he; omega
                · exact hrv33 x (by simpa using hx) he
              have hnew : ∀ x ∈ [w.heap.size, w.heap.size + 1], x ∈ [p] ∨ w.heap.size ≤ x := fun x hx => Or.inr (by simp at hx; omega)
              exact ⟨.slice rva DL.length rvc, rfl, P11.out.chg C33.out hfp, C11.out.trans C33.out hnew, OwnB.chg (owns_mono RV11.out hRw9) C33.out hrv33⟩
          | false =>
            as_aux_lemma =>
              have HO : Hid (outR KN ST RR DL = .broken CD) := Lib.hid (by unfold outR; rw [if_neg (by rw [← HCD.out]; exact hcd), ← HCD.out, if_neg (by rw [← HOW.out]; simp)])
              clear hcd
              go_wp2_with fail
              refine (broken_any H9.out (CD : Int)).mono ?_; rintro e w10 ⟨rfl, h10, c10⟩
              have b110 := B19.out.chg c10 (by simp; omega)
              have b210 := B29.out.chg c10 (by simp; omega)
              have H10 := Lib.hid h10; have C10 := Lib.hid c10
              clear h10 c10
              go_wp2_with (refine store_whole rfl 27 _ _ rfl w.heap.size _ _ 27 rfl rfl b110 infoFr rfl (by simp [Value.oneCell']) ?_)
              intro w31 s31 c31
              have b231 := At.chg b210 c31 (by simp)
              go_wp2_with (refine store_whole rfl 46 _ _ rfl (w.heap.size + 1) _ _ 46 rfl rfl b231 infoFa rfl (by simp [Value.oneCell']) ?_)
              intro w32 s32 c32
              have s33 := At.chg s31 c32 (by simp)
              have c33 : Chg [w.heap.size, w.heap.size + 1] w10 w32 := (c31.mono (by simp)).trans' (c32.mono (by simp))
              have C33 := Lib.hid c33
              clear c31 c32 c33 b231 s31
              go_wp2_with fail
              have z0 := s33.cell (o := 0) rfl
              have z1 := s33.cell (o := 1) rfl
              have z2 := s33.cell (o := 2) rfl
              have z3 := s33.cell (o := 3) rfl
              have z4 := s33.cell (o := 4) rfl
              have z5 := s33.cell (o := 5) rfl
              have z6 := s33.cell (o := 6) rfl
              have z7 := s33.cell (o := 7) rfl
              have z8 := s33.cell (o := 8) rfl
              have z9 := s33.cell (o := 9) rfl
              have z10 := s33.cell (o := 10) rfl
              have z11 := s33.cell (o := 11) rfl
              have z12 := s33.cell (o := 12) rfl
              have z13 := s33.cell (o := 13) rfl
              have z14 := s33.cell (o := 14) rfl
              have z15 := s33.cell (o := 15) rfl
              have y0 := s32.cell (o := 0) rfl
              have y1 := s32.cell (o := 1) rfl
              have y2 := s32.cell (o := 2) rfl
              refine bodyPost_ret (v := .tuple #[.agg noF, .agg #[.bool true, .int .u32 (CD : Int), .int .i64 0], .bool true]) (by simp [results, Try.results21, go_sem, z0, z1, z2, z3, z4, z5, z6, z7, z8, z9, z10, z11, z12, z13, z14, z15, y0, y1, y2]) rfl ?_
              rw [hnx.out, ← HDL.out, HO.out]
              refine ⟨rfl, H10.out.chg C33.out (fun x hx he => ?_), ?_⟩
              · have hx' : x = p := by simpa [footP, Value.ownBlock] using hx
                subst hx'
                simp at he; omega
              · exact ((CW9.out.mono (by simp)).trans' C10.out).trans C33.out (fun x hx => Or.inr (by simp at hx; omega))
end Go.Proofs.Ythhgnipiaohplaa.Fr
