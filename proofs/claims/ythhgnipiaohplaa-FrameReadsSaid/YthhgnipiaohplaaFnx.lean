/-
  Next where there is no frame: too few octets; a head that is too long.
-/
import Derived.Test.YthhgnipiaohplaaFbr
namespace Go.Proofs.Ythhgnipiaohplaa.Fr
open Go.ChangeShapes Go.WideShapes Go.ChangeAt Go.RowKit
open Go.Proofs.Ythhgnipiaohplaa.B
set_option linter.unusedVariables false
set_option linter.unusedSimpArgs false

abbrev noX : Array Value := #[.bool false, .int .u32 0, .int .i64 0]
set_option maxRecDepth 100000 in
set_option maxHeartbeats 4000000 in
theorem next_short {W w : World} {p : Nat} {hv : Value} {l : List UInt8} {mx : Nat} {dn : Bool} (h : PH W w p hv l mx dn) (hl : l.length < 9) :
    Calls Try.prog 21 #[.pointer (some ⟨p, 0, none⟩)] w fun e w' => e = .returned (.tuple #[.agg noF, .agg noX, .bool false]) ∧ PH W w' p hv l mx dn ∧ Chg [] w w' := by
  obtain ⟨a, cap, rfl, hc, hcm⟩ := (OwnB.bytes h.row).slice
  have x0 : World.cell? w ⟨p, 0, none⟩ = some (.slice a l.length cap) := h.head.cell rfl
  have hpl := h.head.lt
  have hlI : (l.length : Int) < 9 := by omega
  have HH := Lib.hid h
  clear h
  go_enter Try.func21, Try.ntmps21
  go_wp2_with fail
  refine bodyPost_ret (v := .tuple #[.agg noF, .agg noX, .bool false]) (by simp [results, Try.results21, go_sem]) rfl ⟨rfl, ?_, ?_⟩
  · exact HH.out.chg0 (((Chg.refl w).alloc (.cells noF 27)).alloc (.cells noX 46))
  · exact (((Chg.refl w).alloc (.cells noF 27)).alloc (.cells noX 46))
theorem or64_nat (x y : Nat) (hx : x < 4294967296) (hy : y < 4294967296) : Go.bits .or .i64 (x : Int) (y : Int) = ((x ||| y : Nat) : Int) := by
  have key : (BitVec.ofInt 64 (x : Int) ||| BitVec.ofInt 64 (y : Int)).toNat = x ||| y := by
    rw [BitVec.toNat_or, BitVec.toNat_ofInt, BitVec.toNat_ofInt]
    have a1 : ((x : Int) % ((2 ^ 64 : Nat) : Int)).toNat = x := by omega
    have a2 : ((y : Int) % ((2 ^ 64 : Nat) : Int)).toNat = y := by omega
    rw [a1, a2]
  show IntKind.i64.wrap ((BitVec.ofInt 64 (x : Int) ||| BitVec.ofInt 64 (y : Int)).toNat : Nat) = _
  have := Nat.or_lt_two_pow (n := 32) hx hy
  rw [key, IntKind.wrap_i64]; omega
theorem or64_add (k a b : Nat) (hb : b < 2 ^ k) (hs : 2 ^ k * a + b < 4294967296) : Go.bits .or .i64 ((2 ^ k * a : Nat) : Int) (b : Int) = ((2 ^ k * a + b : Nat) : Int) := by
  rw [or64_nat _ _ (by omega) (by omega), Nat.two_pow_add_eq_or_of_lt hb]
def threeN (a b c : UInt8) : Nat := (a.toNat * 256 + b.toNat) * 256 + c.toNat
set_option maxRecDepth 100000 in
set_option maxHeartbeats 4000000 in
theorem next_big {W w : World} {p : Nat} {hv : Value} {a b c : UInt8} {r : List UInt8} {mx : Nat} {dn : Bool} (h : PH W w p hv (a :: b :: c :: r) mx dn) (hl : 6 ≤ r.length) (hn : mx < threeN a b c) :
    Calls Try.prog 21 #[.pointer (some ⟨p, 0, none⟩)] w fun e w' => e = .returned (.tuple #[.agg noF, .agg #[.bool true, .int .u32 6, .int .i64 0], .bool true]) ∧ PH W w' p (.slice none 0 0) [] mx true ∧ Chg [p] w w' := by
  obtain ⟨ad, cap, rfl, hc, hcm⟩ := (OwnB.bytes h.row).slice
  obtain ⟨bb, off, rfl, hbb, hcell⟩ := (OwnB.bytes h.row).cell (by simp)
  have q0 := hcell 0 a rfl
  have q1 := hcell 1 b rfl
  have q2 := hcell 2 c rfl
  have hlen : (a :: b :: c :: r).length = r.length + 3 := by simp
  have x0 : World.cell? w ⟨p, 0, none⟩ = some (.slice (some ⟨bb, off, none⟩) (a :: b :: c :: r).length cap) := h.head.cell rfl
  have x1 : World.cell? w ⟨p, 1, none⟩ = some (.int .i64 mx) := h.head.cell rfl
  rw [hlen] at x0
  have hpl := h.head.lt
  obtain ⟨A, hA⟩ : ∃ A : Nat, A = a.toNat := ⟨_, rfl⟩
  obtain ⟨B, hB⟩ : ∃ A : Nat, A = b.toNat := ⟨_, rfl⟩
  obtain ⟨C, hC⟩ : ∃ A : Nat, A = c.toNat := ⟨_, rfl⟩
  have hA6 : A < 256 := by rw [hA]; exact a.toNat_lt
  have hB6 : B < 256 := by rw [hB]; exact b.toNat_lt
  have hC6 : C < 256 := by rw [hC]; exact c.toNat_lt
  rw [← hA] at q0
  rw [← hB] at q1
  rw [← hC] at q2
  simp only [Nat.add_zero] at q0
  have e1 : Go.bits .or .i64 ((A : Int) * 65536) ((B : Int) * 256) = ((A * 65536 + B * 256 : Nat) : Int) := by
    have := or64_add 16 A (B * 256) (by omega) (by omega)
    rw [show ((2 ^ 16 * A : Nat) : Int) = (A : Int) * 65536 by omega, show ((B * 256 : Nat) : Int) = (B : Int) * 256 by omega] at this
    rw [this]; omega
  have e2 : Go.bits .or .i64 ((A * 65536 + B * 256 : Nat) : Int) (C : Int) = ((A * 65536 + B * 256 + C : Nat) : Int) := by
    have := or64_add 8 (A * 256 + B) C (by omega) (by omega)
    rw [show ((2 ^ 8 * (A * 256 + B) : Nat) : Int) = ((A * 65536 + B * 256 : Nat) : Int) by omega] at this
    rw [this]; omega
  obtain ⟨N2, hN2⟩ : ∃ N, N = A * 65536 + B * 256 := ⟨_, rfl⟩
  obtain ⟨N, hN⟩ : ∃ N, N = A * 65536 + B * 256 + C := ⟨_, rfl⟩
  rw [← hN2] at e1
  rw [← hN, ← hN2] at e2
  have hNm : mx < N := by
    have : threeN a b c = N := by unfold threeN; rw [hN, ← hA, ← hB, ← hC]; omega
    omega
  have g : decide (mx < N) = true := decide_eq_true hNm
  have HH := Lib.hid h
  clear h hcell hA hB hC hlen hN hN2 hn
  go_enter Try.func21, Try.ntmps21
  go_wp2_with fail
  go_quiet (fail)
  have c0 : Chg [] w (((w.alloc (.cells noF 27)).alloc (.cells noX 46)).drewN nq) := (((Chg.refl w).alloc _).alloc _).drewN nq
  have b1 : At (((w.alloc (.cells noF 27)).alloc (.cells noX 46)).drewN nq) w.heap.size (.cells noF 27) := (At.new w _).alloc _
  have b2 : At (((w.alloc (.cells noF 27)).alloc (.cells noX 46)).drewN nq) (w.heap.size + 1) (.cells noX 46) := At.new' (w := w.alloc (.cells noF 27)) (by simp)
  have H3 := Lib.hid (HH.out.chg0 c0); have C0 := Lib.hid c0; have B1 := Lib.hid b1; have B2 := Lib.hid b2
  have x1' : World.cell? (((w.alloc (.cells noF 27)).alloc (.cells noX 46)).drewN nq) ⟨p, 1, none⟩ = some (.int .i64 mx) := H3.out.head.cell rfl
  have hp3 := H3.out.head.lt
  clear c0 b1 b2 x0 x1 q0 q1 q2 HH
  generalize ((w.alloc (.cells noF 27)).alloc (.cells noX 46)).drewN nq = w3 at *
  go_wp2_with fail
  refine (broken_any H3.out 6).mono ?_; rintro e w5 ⟨rfl, h5, c5⟩
  have h51 := B1.out.chg c5 (by simp; omega)
  have h52 := B2.out.chg c5 (by simp; omega)
  have z0 := h51.cell (o := 0) rfl
  have z1 := h51.cell (o := 1) rfl
  have z2 := h51.cell (o := 2) rfl
  have z3 := h51.cell (o := 3) rfl
  have z4 := h51.cell (o := 4) rfl
  have z5 := h51.cell (o := 5) rfl
  have z6 := h51.cell (o := 6) rfl
  have z7 := h51.cell (o := 7) rfl
  have z8 := h51.cell (o := 8) rfl
  have z9 := h51.cell (o := 9) rfl
  have z10 := h51.cell (o := 10) rfl
  have z11 := h51.cell (o := 11) rfl
  have z12 := h51.cell (o := 12) rfl
  have z13 := h51.cell (o := 13) rfl
  have z14 := h51.cell (o := 14) rfl
  have z15 := h51.cell (o := 15) rfl
  have y0 := h52.cell (o := 0) rfl
  have y1 := h52.cell (o := 1) rfl
  have y2 := h52.cell (o := 2) rfl
  have zf : ∀ j, World.frozen? w5 ⟨w.heap.size, j, none⟩ = false := fun j => h51.free j
  have yf : ∀ j, World.frozen? w5 ⟨w.heap.size + 1, j, none⟩ = false := fun j => h52.free j
  have hl5 := h52.lt
  have H5 := Lib.hid h5; have C5 : Hid (Chg [p] w w5) := Lib.hid ((C0.out.mono (by simp)).trans' c5)
  clear h5 c5 h51 h52 B1 B2 H3 C0 x1'
  go_wp2_with fail
  refine bodyPost_ret (v := .tuple #[.agg noF, .agg #[.bool true, .int .u32 6, .int .i64 0], .bool true]) (by simp [results, Try.results21, go_sem, z0, z1, z2, z3, z4, z5, z6, z7, z8, z9, z10, z11, z12, z13, z14, z15, y0, y1, y2]) rfl ⟨rfl, ?_, ?_⟩
  · refine H5.out.chg (ls := [w.heap.size, w.heap.size + 1]) ?_ (fun x hx he => by
      simp [footP, Value.ownBlock] at hx he; omega)
    (repeat (refine Chg.setCell ?_ (Or.inl (by simp)) _)); exact Chg.refl _
  · (repeat (refine Chg.setCell ?_ (Or.inr (by simp)) _)); exact C5.out
end Go.Proofs.Ythhgnipiaohplaa.Fr
