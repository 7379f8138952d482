/-
  Next at large, where nothing is read: a frame that is not all there; a stream that is not as its kind needs it.
-/
import Derived.Test.YthhgnipiaohplaaFnt
namespace Go.Proofs.Ythhgnipiaohplaa.Fr
open Go.ChangeShapes Go.WideShapes Go.ChangeAt Go.RowKit
open Go.Proofs.Ythhgnipiaohplaa.B
set_option linter.unusedVariables false
set_option linter.unusedSimpArgs false
theorem store_whole {P : Program} {ops : Array Oper} {rest : List Oper} {o : Oper} {a : Act} {w : World} {Q : Exit → Act → World → Prop} (hgd : o.guard = none) (ty : TypeId) (x y : Operand) (ho : o.op = .store ty x y)
    (g : Nat) (cells old : Array Value) (t : TypeId) (hx : a.eval x = .pointer (some ⟨g, 0, none⟩)) (hy : a.eval y = .agg cells)
    (hg : At w g (.cells old t (0, 0))) (hi : (P.info? ty).map (·.size) = some cells.size) (hold : old.size = cells.size) (h1 : cells.all (·.oneCell') = true)
    (h : ∀ w', At w' g (.cells cells t (0, 0)) → Chg [g] w w' → wpList P ops Q rest (a.put o.dst undef) w') : wpList P ops Q (o :: rest) a w :=
  wpList_store_row hgd ty x y ho g cells hx hy t old hg hi hold h1 (h _ (setRow_heap w g old _ t _ hg)
    ⟨rfl, rfl, rfl, by simp, fun k _ hk => setRow_other w g k _ (fun e => hk (by simp [e]))⟩)
theorem infoFr : (Try.prog.info? 27).map (·.size) = some 16 := by kernel_rfl
theorem infoFa : (Try.prog.info? 46).map (·.size) = some 3 := by kernel_rfl
set_option maxRecDepth 100000 in
set_option maxHeartbeats 4000000 in
theorem next_wait {W w : World} {p : Nat} {hv : Value} {a b c k fl s1 s2 s3 s4 : UInt8} {r : List UInt8} {mx : Nat} {dn : Bool} (h : PH W w p hv (a :: b :: c :: k :: fl :: s1 :: s2 :: s3 :: s4 :: r) mx dn) (hn : threeN a b c ≤ mx) (hr : r.length < threeN a b c) :
    Calls Try.prog 21 #[.pointer (some ⟨p, 0, none⟩)] w fun e w' => e = .returned (.tuple #[.agg noF, .agg noX, .bool false]) ∧ PH W w' p hv (a :: b :: c :: k :: fl :: s1 :: s2 :: s3 :: s4 :: r) mx dn ∧ Chg [] w w' := by
  obtain ⟨ad, cap, rfl, hc, hcm⟩ := (OwnB.bytes h.row).slice
  obtain ⟨bb, off, rfl, hbb, hcell⟩ := (OwnB.bytes h.row).cell (by simp)
  have q0 := hcell 0 a rfl
  have q1 := hcell 1 b rfl
  have q2 := hcell 2 c rfl
  have hlen : (a :: b :: c :: k :: fl :: s1 :: s2 :: s3 :: s4 :: r).length = r.length + 9 := by simp
  have x0 : World.cell? w ⟨p, 0, none⟩ = some (.slice (some ⟨bb, off, none⟩) (a :: b :: c :: k :: fl :: s1 :: s2 :: s3 :: s4 :: r).length cap) := h.head.cell rfl
  have x1 : World.cell? w ⟨p, 1, none⟩ = some (.int .i64 mx) := h.head.cell rfl
  have hmx := h.b2
  rw [hlen] at x0 hc
  have hpl := h.head.lt
  obtain ⟨A, hA⟩ : ∃ A : Nat, A = a.toNat := ⟨_, rfl⟩
  obtain ⟨B, hB⟩ : ∃ A : Nat, A = b.toNat := ⟨_, rfl⟩
  obtain ⟨C, hC⟩ : ∃ A : Nat, A = c.toNat := ⟨_, rfl⟩
  have hA6 : A < 256 := by rw [hA]; exact a.toNat_lt
  have hB6 : B < 256 := by rw [hB]; exact b.toNat_lt
  have hC6 : C < 256 := by rw [hC]; exact c.toNat_lt
  rw [← hA] at q0
  rw [← hB] at q1
  rw [← hC] at q2
  simp only [Nat.add_zero] at q0
  have e1 : Go.bits .or .i64 ((A : Int) * 65536) ((B : Int) * 256) = ((A * 65536 + B * 256 : Nat) : Int) := by
    have := or64_add 16 A (B * 256) (by omega) (by omega)
    rw [show ((2 ^ 16 * A : Nat) : Int) = (A : Int) * 65536 by omega, show ((B * 256 : Nat) : Int) = (B : Int) * 256 by omega] at this
    rw [this]; omega
  have e2 : Go.bits .or .i64 ((A * 65536 + B * 256 : Nat) : Int) (C : Int) = ((A * 65536 + B * 256 + C : Nat) : Int) := by
    have := or64_add 8 (A * 256 + B) C (by omega) (by omega)
    rw [show ((2 ^ 8 * (A * 256 + B) : Nat) : Int) = ((A * 65536 + B * 256 : Nat) : Int) by omega] at this
    rw [this]; omega
  obtain ⟨N2, hN2⟩ : ∃ N, N = A * 65536 + B * 256 := ⟨_, rfl⟩
  obtain ⟨N, hN⟩ : ∃ N, N = threeN a b c := ⟨_, rfl⟩
  have hN3 : A * 65536 + B * 256 + C = N := by rw [hN]; unfold threeN; rw [← hA, ← hB, ← hC]; omega
  rw [← hN2] at e1
  rw [hN3, ← hN2] at e2
  have g : decide (mx < N) = false := decide_eq_false (by omega)
  have HLT := Lib.hid h.lt
  have HH := Lib.hid h; have HN := Lib.hid hN
  clear h hcell hA hB hC hlen hN hN2 hN3 hn
  go_enter Try.func21, Try.ntmps21
  go_wp2_with fail
  go_quiet (fail)
  have c0 : Chg [] w (((w.alloc (.cells noF 27)).alloc (.cells noX 46)).drewN nq) := (((Chg.refl w).alloc _).alloc _).drewN nq
  have b1 : At (((w.alloc (.cells noF 27)).alloc (.cells noX 46)).drewN nq) w.heap.size (.cells noF 27) := (At.new w _).alloc _
  have b2 : At (((w.alloc (.cells noF 27)).alloc (.cells noX 46)).drewN nq) (w.heap.size + 1) (.cells noX 46) := At.new' (w := w.alloc (.cells noF 27)) (by simp)
  have H3 := Lib.hid (HH.out.chg0 c0); have C0 := Lib.hid c0; have B1 := Lib.hid b1; have B2 := Lib.hid b2
  have x1' : World.cell? (((w.alloc (.cells noF 27)).alloc (.cells noX 46)).drewN nq) ⟨p, 1, none⟩ = some (.int .i64 mx) := H3.out.head.cell rfl
  have hp3 := H3.out.head.lt
  clear c0 b1 b2 x0 x1 q0 q1 q2 HH
  generalize ((w.alloc (.cells noF 27)).alloc (.cells noX 46)).drewN nq = w3 at *
  unfold maxLen at hcm
  have w8 : wrap64 (r.length : Int) = (r.length : Int) := by unfold wrap64; omega
  clear hcm
  rw [← HN.out] at hr
  have g7 : decide (r.length < N) = true := decide_eq_true hr
  go_wp2_with (refine store_whole rfl 27 _ _ rfl w.heap.size _ _ 27 rfl rfl B1.out infoFr rfl (by simp [Value.oneCell']) ?_)
  intro w31 s31 c31
  have b231 := At.chg B2.out c31 (by simp)
  go_wp2_with (refine store_whole rfl 46 _ _ rfl (w.heap.size + 1) _ _ 46 rfl rfl b231 infoFa rfl (by simp [Value.oneCell']) ?_)
  intro w32 s32 c32
  have s33 := At.chg s31 c32 (by simp)
  have c33 : Chg [w.heap.size, w.heap.size + 1] w3 w32 := (c31.mono (by simp)).trans' (c32.mono (by simp))
  have C33 := Lib.hid c33
  clear c31 c32 c33 b231 s31
  go_wp2_with fail
  have z0 := s33.cell (o := 0) rfl
  have z1 := s33.cell (o := 1) rfl
  have z2 := s33.cell (o := 2) rfl
  have z3 := s33.cell (o := 3) rfl
  have z4 := s33.cell (o := 4) rfl
  have z5 := s33.cell (o := 5) rfl
  have z6 := s33.cell (o := 6) rfl
  have z7 := s33.cell (o := 7) rfl
  have z8 := s33.cell (o := 8) rfl
  have z9 := s33.cell (o := 9) rfl
  have z10 := s33.cell (o := 10) rfl
  have z11 := s33.cell (o := 11) rfl
  have z12 := s33.cell (o := 12) rfl
  have z13 := s33.cell (o := 13) rfl
  have z14 := s33.cell (o := 14) rfl
  have z15 := s33.cell (o := 15) rfl
  have y0 := s32.cell (o := 0) rfl
  have y1 := s32.cell (o := 1) rfl
  have y2 := s32.cell (o := 2) rfl
  refine bodyPost_ret (v := .tuple #[.agg noF, .agg noX, .bool false]) (by simp [results, Try.results21, go_sem, z0, z1, z2, z3, z4, z5, z6, z7, z8, z9, z10, z11, z12, z13, z14, z15, y0, y1, y2]) rfl ?_
  refine ⟨rfl, H3.out.chg C33.out (fun x hx he => ?_), C0.out.trans C33.out (fun x hx => Or.inr ?_)⟩
  · have := HLT.out x hx
    simp at he; omega
  · simp at hx; omega
end Go.Proofs.Ythhgnipiaohplaa.Fr
