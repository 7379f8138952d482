/-
  The walk of PutInt.
-/
import Derived.Test.YtmoeioaahampaaaGet
namespace Go.Proofs.Ytmoeioaahampaaa.Hi
open Go.ChangeShapes Go.WideShapes Go.ChangeAt Go.RowKit
open Go.Proofs.Ytmoeioaahampaaa.B
set_option linter.unusedVariables false
set_option linter.unusedSimpArgs false

/-- The octets behind the first one. -/
def more (n : Nat) : List UInt8 := if h : 128 ≤ n then UInt8.ofNat (n % 128 + 128) :: more (n / 128) else [UInt8.ofNat n]
termination_by n
decreasing_by omega
theorem more_big {n : Nat} (h : 128 ≤ n) : more n = UInt8.ofNat (n % 128 + 128) :: more (n / 128) := by rw [more, dif_pos h]
theorem more_low {n : Nat} (h : n < 128) : more n = [UInt8.ofNat n] := by rw [more, dif_neg (by omega)]
/-- The octets of a number, with the bits beside the prefix that the first octet has. -/
def putN (f P V : Nat) : List UInt8 := if V < 2 ^ P - 1 then [UInt8.ofNat (f / 2 ^ P * 2 ^ P + V)] else UInt8.ofNat (f / 2 ^ P * 2 ^ P + (2 ^ P - 1)) :: more (V - (2 ^ P - 1))
def putI (f : UInt8) (p v : Int) : List UInt8 × Nat := if p < 1 ∨ 8 < p ∨ v < 0 ∨ 2147483647 < v then ([], 1) else (putN f.toNat p.toNat v.toNat, 0)
theorem putI_in {f : UInt8} {P V : Nat} (h1 : 1 ≤ P) (h2 : P ≤ 8) (h3 : (V : Int) ≤ 2147483647) : putI f P V = (putN f.toNat P V, 0) := by
  unfold putI; rw [if_neg (by omega)]; rfl
theorem more_len : ∀ (k n : Nat), n < 128 ^ (k + 1) → (more n).length ≤ k + 1 := by
  intro k
  induction k with
  | zero => intro n h; rw [more_low (by simpa using h)]; simp
  | succ k ih =>
    intro n h
    by_cases h1 : 128 ≤ n
    · rw [more_big h1]
      have : n / 128 < 128 ^ (k + 1) := by
        rw [Nat.div_lt_iff_lt_mul (by omega), ← Nat.pow_succ]; exact h
      have := ih _ this
      simp; omega
    · rw [more_low (by omega)]; simp
theorem more_len5 (n : Nat) (h : n ≤ 2147483647) : (more n).length ≤ 5 := more_len 4 n (by omega)

theorem tabA : (List.range 9).all (fun P => (List.range 256).all fun f => Go.bits .andNot .u8 (f : Int) ((2 ^ P - 1 : Nat) : Int) == ((f / 2 ^ P * 2 ^ P : Nat) : Int)) = true := by decide +kernel
theorem tabO : (List.range 9).all (fun P => (List.range 256).all fun f => Go.bits .or .u8 (f : Int) ((2 ^ P - 1 : Nat) : Int) == ((f / 2 ^ P * 2 ^ P + (2 ^ P - 1) : Nat) : Int)) = true := by decide +kernel
theorem tabH : (List.range 256).all (fun x => Go.bits .or .u8 (x : Int) 128 == ((x % 128 + 128 : Nat) : Int)) = true := by decide +kernel
theorem allR {n : Nat} {q : Nat → Bool} (h : (List.range n).all q = true) {k : Nat} (hk : k < n) : q k = true := List.all_eq_true.1 h k (List.mem_range.2 hk)
theorem top_or {f P V : Nat} (hf : f < 256) (hP : P ≤ 8) (hV : V < 2 ^ P) : Go.bits .or .u8 ((f / 2 ^ P * 2 ^ P : Nat) : Int) (V : Int) = ((f / 2 ^ P * 2 ^ P + V : Nat) : Int) := by
  have hpos : 0 < 2 ^ P := Nat.pow_pos (by omega)
  have hp : 2 ^ P ≤ 256 := Nat.pow_le_pow_right (by omega) hP (n := 2)
  have ht : f / 2 ^ P * 2 ^ P ≤ f := Nat.div_mul_le_self f _
  have hsum : f / 2 ^ P * 2 ^ P + V < 256 := by
    have hd : 256 = 2 ^ (8 - P) * 2 ^ P := by rw [← Nat.pow_add, Nat.sub_add_cancel hP]
    have hq : f / 2 ^ P < 2 ^ (8 - P) := by rw [Nat.div_lt_iff_lt_mul hpos, ← hd]; exact hf
    have : (f / 2 ^ P + 1) * 2 ^ P ≤ 2 ^ (8 - P) * 2 ^ P := Nat.mul_le_mul_right _ hq
    rw [← hd, Nat.add_mul, Nat.one_mul] at this
    omega
  obtain ⟨q, hq⟩ : ∃ q, q = f / 2 ^ P := ⟨_, rfl⟩
  rw [← hq] at ht hsum ⊢
  have key : (BitVec.ofInt 8 ((q * 2 ^ P : Nat) : Int) ||| BitVec.ofInt 8 (V : Int)).toNat = q * 2 ^ P + V := by
    rw [BitVec.toNat_or, BitVec.toNat_ofInt, BitVec.toNat_ofInt]
    have a1 : (((q * 2 ^ P : Nat) : Int) % ((2 ^ 8 : Nat) : Int)).toNat = q * 2 ^ P := by generalize q * 2 ^ P = y at *; omega
    have a2 : ((V : Int) % ((2 ^ 8 : Nat) : Int)).toNat = V := by omega
    rw [a1, a2, ← Nat.shiftLeft_eq, Nat.shiftLeft_add_eq_or_of_lt hV]
  show IntKind.u8.wrap ((BitVec.ofInt 8 ((q * 2 ^ P : Nat) : Int) ||| BitVec.ofInt 8 (V : Int)).toNat : Nat) = _
  rw [key, IntKind.wrap_u8]; generalize q * 2 ^ P = y at *; omega
theorem OwnB.one (w : World) {base : Nat} (hb : base ≤ w.heap.size) (c : UInt8) : OwnB (w.alloc (.cells #[.int .u8 (c.toNat : Int)] 5)) base (.slice (some ⟨w.heap.size, 0, none⟩) 1 1) [c] := by
  refine ⟨rfl, Or.inr ⟨w.heap.size, 1, #[.int .u8 (c.toNat : Int)], rfl, hb, ?_, Nat.le_refl _, by simp [maxLen], rfl, rfl⟩⟩
  exact At.new w _
theorem oct_num {n : Nat} (h : n < 256) : ((UInt8.ofNat n).toNat : Int) = (n : Int) := by simp; omega
theorem OwnB.weak {w : World} {b1 b2 : Nat} {v : Value} {l : List UInt8} (h : OwnB w b2 v l) (hb : b1 ≤ b2) : OwnB w b1 v l := by
  refine ⟨h.1, ?_⟩
  rcases h.2 with h2 | ⟨g, cap, cur, q0, q1, q2⟩
  · exact Or.inl h2
  · exact Or.inr ⟨g, cap, cur, q0, Nat.le_trans hb q1, q2⟩
set_option maxRecDepth 100000 in
set_option maxHeartbeats 4000000 in
theorem putint_any (f : UInt8) (p v : Int) (w : World) :
    Calls Try.prog 45 #[.int .u8 (f.toNat : Int), .int .i64 p, .int .i64 v] w fun e w' => ∃ rv, e = .returned (.tuple #[rv, .int .i64 (putI f p v).2]) ∧ OwnB w' w.heap.size rv (putI f p v).1 ∧ Chg [] w w' := by
  have hc6 : (f.toNat : Int) < 256 := by have := f.toNat_lt; omega
  by_cases hbad : p < 1 ∨ 8 < p ∨ v < 0 ∨ 2147483647 < v
  · have hr : putI f p v = ([], 1) := by unfold putI; rw [if_pos hbad]
    rw [hr]
    have hb : p < 1 ∨ (¬ p < 1 ∧ 8 < p) ∨ (¬ p < 1 ∧ ¬ 8 < p ∧ v < 0) ∨ (¬ p < 1 ∧ ¬ 8 < p ∧ ¬ v < 0 ∧ 2147483647 < v) := by omega
    clear hbad hr
    rcases hb with h | ⟨h, h2⟩ | ⟨h, h2, h3⟩ | ⟨h, h2, h3, h4⟩
    all_goals
      go_enter Try.func45, Try.ntmps45
      go_wp2_with fail
      go_ret2
      exact ⟨_, rfl, OwnB.nil _ _, Chg.refl _⟩
  · obtain ⟨P, rfl⟩ := Int.eq_ofNat_of_zero_le (show 0 ≤ p by omega)
    obtain ⟨V, rfl⟩ := Int.eq_ofNat_of_zero_le (show 0 ≤ v by omega)
    have hP1 : 1 ≤ P := by omega
    have hP8 : P ≤ 8 := by omega
    have hVm : (V : Int) ≤ 2147483647 := by omega
    have hf6 : f.toNat < 256 := by omega
    rw [putI_in hP1 hP8 hVm]
    have qA := eq_of_beq (allR (allR tabA (show P < 9 by omega)) hf6)
    have qO := eq_of_beq (allR (allR tabO (show P < 9 by omega)) hf6)
    have hV0 : ∀ V : Nat, V < 2 ^ P → _ := fun V => top_or (V := V) hf6 hP8
    obtain ⟨M, hM⟩ : ∃ M, M = 2 ^ P - 1 := ⟨_, rfl⟩
    have hpp : 2 ^ P ≤ 256 := Nat.pow_le_pow_right (by omega) hP8 (n := 2)
    have hpos : 0 < 2 ^ P := Nat.pow_pos (by omega)
    have hM2 : (2 : Int) ^ P = (M : Int) + 1 := by
      have : (2 : Int) ^ P = ((2 ^ P : Nat) : Int) := by simp
      rw [this]; omega
    have hMb : M ≤ 255 := by omega
    obtain ⟨A, hA⟩ : ∃ A, A = f.toNat / 2 ^ P * 2 ^ P := ⟨_, rfl⟩
    have hAf : A ≤ f.toNat := by rw [hA]; exact Nat.div_mul_le_self _ _
    have hpn : putN f.toNat P V = if V < M then [UInt8.ofNat (A + V)] else UInt8.ofNat (A + M) :: more (V - M) := by unfold putN; rw [← hA, ← hM]
    rw [hpn]
    rw [← hM, ← hA] at qA qO
    rw [← hA] at hV0
    have e1 : decide ((P : Int) < 1) = false := decide_eq_false (by omega)
    have e2 : decide ((8 : Int) < (P : Int)) = false := decide_eq_false (by omega)
    have e3 : decide ((V : Int) < 0) = false := decide_eq_false (by omega)
    have e4 : decide ((2147483647 : Int) < (V : Int)) = false := decide_eq_false (by omega)
    by_cases hvm : V < M
    · rw [if_pos hvm]
      have qV := hV0 V (by omega)
      have hAV : A + V < 256 := by
        have := (IntKind.wrap_u8 (A + V : Nat))
        have h2 : Go.bits .or .u8 (A : Int) (V : Int) < 256 := by
          show IntKind.u8.wrap _ < 256
          rw [IntKind.wrap_u8]; omega
        rw [qV] at h2; omega
      have HN := Lib.hid (oct_num hAV)
      clear hV0 hM hpp hpos hA hpn qO
      go_enter Try.func45, Try.ntmps45
      go_wp2_with fail
      go_ret2
      refine ⟨_, rfl, ?_, (Chg.refl _).alloc _⟩
      have := OwnB.one w (Nat.le_refl _) (UInt8.ofNat (A + V))
      rw [HN.out, Int.natCast_add] at this
      exact this
    · rw [if_neg hvm]
      have hAM : A + M < 256 := by
        have h2 : Go.bits .or .u8 (f.toNat : Int) (M : Int) < 256 := by
          show IntKind.u8.wrap _ < 256
          rw [IntKind.wrap_u8]; omega
        rw [qO] at h2; omega
      have hown0 := OwnB.one w (Nat.le_refl _) (UInt8.ofNat (A + M))
      rw [oct_num hAM, Int.natCast_add] at hown0
      obtain ⟨Fl, hFl⟩ : ∃ Fl, Fl = UInt8.ofNat (A + M) :: more (V - M) := ⟨_, rfl⟩
      have hFb : Fl.length ≤ 6 := by rw [hFl]; have := more_len5 (V - M) (by omega); simp; omega
      rw [← hFl]
      have hmv : decide (V < M) = false := decide_eq_false hvm
      have hvs : ((V - M : Nat) : Int) = (V : Int) - (M : Int) := by omega
      obtain ⟨X0, hX0⟩ : ∃ X0, X0 = V - M := ⟨_, rfl⟩
      rw [← hX0] at hFl hvs
      have hX0b : (X0 : Int) ≤ 2147483647 := by omega
      have HF := Lib.hid hFl; have HOWN0 := Lib.hid hown0; have HX := Lib.hid hX0; have HVS := Lib.hid hvs.symm
      clear hV0 hM hpp hpos hA hpn hFl hown0 hX0 qA
      go_enter Try.func45, Try.ntmps45
      go_wp2_with fail
      go_loopw [2, 9] (fun vv ov wr => ∃ (x : Nat) (L : List UInt8), (x : Int) ≤ 2147483647 ∧ vv = .int .i64 x ∧ OwnB wr w.heap.size ov L ∧ L ++ more x = Fl ∧ Chg [] w wr) (fun vv _ _ => (intOf vv).toNat)
      case atStart => exact ⟨X0, _, hX0b, by go_num, HOWN0.out, HF.out.symm, (Chg.refl _).alloc _⟩
      case round =>
        clear HOWN0 HF
        obtain ⟨x, L, hx, rfl, hown, hL, hch⟩ := hrel
        have hLl : L.length ≤ 6 := by have : L.length ≤ Fl.length := by rw [← hL]; simp
                                      omega
        have HCH := Lib.hid hch; have HOWN := Lib.hid hown
        have hbw : w.heap.size ≤ wr.heap.size := hch.size
        by_cases hbig : 128 ≤ x
        · have hb : ((x : Int) % 256) = ((x % 256 : Nat) : Int) := by omega
          have qH := eq_of_beq (allR tabH (show x % 256 < 256 by omega))
          rw [show x % 256 % 128 = x % 128 by omega] at qH
          have hy6 : x % 128 + 128 < 256 := by omega
          have hcn := oct_num hy6
          obtain ⟨c, hc⟩ : ∃ c, c = UInt8.ofNat (x % 128 + 128) := ⟨_, rfl⟩
          rw [← hc] at hcn
          rw [more_big hbig, ← hc] at hL
          rw [← hcn, ← hb] at qH
          have HL := Lib.hid hL; have HCN := Lib.hid hcn
          have hcs : (c.toNat : Int) < 256 := by have := c.toNat_lt; omega
          clear hL hch hown hc hcn hb
          go_wp2_with (at_builtin; refine app_bytes rfl _ _ rfl w.heap.size u9 _ rfl (HOWN.out.alloc _) _ [c] rfl (BytesOf.new wr c) (by simp) (by simp; omega) (by simp; omega) ?_)
          intro v' w' hown' hch' hfr'
          go_wp2_with fail
          go_roundw
          case rel => exact ⟨x / 128, L ++ [c], by omega, by go_num, hown', by rw [List.append_assoc]; exact HL.out, (HCH.out.alloc _).trans hch' (fun y hy => Or.inr (HOWN.out.lo y hy))⟩
          case measure => simp [intOf] <;> omega
        · have hcn := oct_num (show x < 256 by omega)
          obtain ⟨c, hc⟩ : ∃ c, c = UInt8.ofNat x := ⟨_, rfl⟩
          rw [more_low (by omega), ← hc] at hL
          rw [← hc] at hcn
          have hd : decide ((128 : Int) ≤ (x : Int)) = false := decide_eq_false (by omega)
          have hu := BytesOf.new wr c
          rw [hcn] at hu
          have HL := Lib.hid hL; have HU := Lib.hid hu
          clear hL hch hown hc hcn hu
          go_wp2_with (at_builtin; refine app_bytes rfl _ _ rfl w.heap.size u9 _ rfl (HOWN.out.alloc _) _ [c] rfl HU.out (by simp) (by simp; omega) (by simp; omega) ?_)
          intro v' w' hown' hch' hfr'
          go_wp2_with fail
          go_ret2
          exact ⟨_, rfl, by rw [← HL.out]; exact hown', (HCH.out.alloc _).trans hch' (fun y hy => Or.inr (HOWN.out.lo y hy))⟩
end Go.Proofs.Ytmoeioaahampaaa.Hi
