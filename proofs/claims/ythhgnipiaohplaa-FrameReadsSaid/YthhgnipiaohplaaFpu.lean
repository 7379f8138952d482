/-
  A number in so many octets.
-/
import Derived.Test.YthhgnipiaohplaaFps
namespace Go.Proofs.Ythhgnipiaohplaa.Fr
open Go.ChangeShapes Go.WideShapes Go.ChangeAt Go.RowKit
open Go.Proofs.Ythhgnipiaohplaa.B
set_option linter.unusedVariables false
set_option linter.unusedSimpArgs false

/-- A number in so many octets, the highest first. -/
def be (v : Nat) : Nat → List UInt8
  | 0 => []
  | n + 1 => UInt8.ofNat (v / 256 ^ n) :: be v n
theorem be_len (v : Nat) : ∀ n, (be v n).length = n := by
  intro n
  induction n with
  | zero => rfl
  | succ n ih => simp [be, ih]
theorem OwnB.chg0' {w w' : World} {base : Nat} {v : Value} {xs : List UInt8} (h : OwnB w base v xs) (hc : Chg [] w w') : OwnB w' base v xs := OwnB.chg h hc (fun _ _ => by simp)
set_option maxRecDepth 100000 in
set_option maxHeartbeats 4000000 in
theorem put_any {w : World} {base : Nat} (ov : Value) (l : List UInt8) (ho : OwnB w base ov l) (v n : Nat) (hv : v < 18446744073709551616) (hn : n ≤ 8) (hl : l.length ≤ 1000000000) (hb : base ≤ w.heap.size) :
    Calls Try.prog 33 #[ov, .int .u64 v, .int .i64 n] w fun e w' => ∃ rv, e = .returned rv ∧ OwnB w' base rv (l ++ be v n) ∧ Chg ov.ownBlock.toList w w' ∧ ∀ k ∈ rv.ownBlock.toList, k ∈ ov.ownBlock.toList ∨ w.heap.size ≤ k := by
  have w0 : wrap64 ((n : Int) - 1) = (n : Int) - 1 := by unfold wrap64; omega
  have HO := Lib.hid ho
  clear ho
  go_enter Try.func33, Try.ntmps33
  go_wp2_with fail
  go_loopw [0, 2] (fun rv nv wr => ∃ (k : Nat) (pre : List UInt8), k ≤ n ∧ nv = .int .i64 ((k : Int) - 1) ∧ pre ++ be v k = be v n ∧ OwnB wr base rv (l ++ pre) ∧ Chg ov.ownBlock.toList w wr ∧ (∀ k ∈ rv.ownBlock.toList, k ∈ ov.ownBlock.toList ∨ w.heap.size ≤ k) ∧ w.heap.size ≤ wr.heap.size) (fun _ nv _ => (intOf nv + 1).toNat)
  case atStart => exact ⟨n, [], Nat.le_refl _, rfl, rfl, by rw [List.append_nil]; exact HO.out, Chg.refl _, fun k hk => Or.inl hk, Nat.le_refl _⟩
  case round =>
    clear HO
    obtain ⟨k, pre, hk, rfl, hp, ho, hc, hf, hs⟩ := hrel
    cases k with
    | zero =>
      have g : decide ((0 : Int) ≤ ((0 : Nat) : Int) - 1) = false := by decide
      have HO := Lib.hid ho; have HC := Lib.hid hc; have HF := Lib.hid hf; have HP := Lib.hid hp
      clear ho hc hf hp
      go_wp2_with fail
      go_ret
      have hpe : pre = be v n := by have := HP.out; rw [← this]; simp [be]
      exact ⟨_, rfl, by rw [← hpe]; exact HO.out, HC.out, HF.out⟩
    | succ k =>
      have g : decide ((0 : Int) ≤ ((k + 1 : Nat) : Int) - 1) = true := decide_eq_true (by omega)
      obtain ⟨c, hcc⟩ : ∃ c, c = UInt8.ofNat (v / 256 ^ k) := ⟨_, rfl⟩
      have hx : (v : Int) / 2 ^ (8 * k) % 256 = (c.toNat : Int) := by
        have h1 : (2 : Int) ^ (8 * k) = ((256 ^ k : Nat) : Int) := by
          have h2 : (2 : Nat) ^ (8 * k) = 256 ^ k := by rw [Nat.pow_mul]
          rw [← h2]; simp
        rw [h1, ← Int.natCast_ediv, hcc]
        have h3 : (UInt8.ofNat (v / 256 ^ k)).toNat = v / 256 ^ k % 256 := by simp
        rw [h3]; omega
      have hpe : Hid ((pre ++ [c]) ++ be v k = be v n) := Lib.hid (by rw [← hp, hcc]; simp [be])
      have HO := Lib.hid ho; have HC := Lib.hid hc; have HF := Lib.hid hf
      have hpl : Hid (pre.length ≤ 8) := Lib.hid (by
        have := congrArg List.length hp
        rw [List.length_append, be_len, be_len] at this; omega)
      have hpl2 := hpl.out
      have hbs : base ≤ wr.heap.size := by omega
      clear ho hc hf hp hcc
      go_wp2_with (at_builtin; refine app_any rfl _ _ rfl base _ (l ++ pre) rfl (OwnB.chg0' HO.out ((Chg.refl wr).alloc _)) _ [c] rfl (SliceOf.one (enc := encB) (x := c) (size := 1) rfl (cs := #[.int .u8 (c.toNat : Int)]) rfl wr) (by simp; omega) (by simp; omega) ?_)
      intro v' w6 own6 ch6 n6
      obtain ⟨a', cap', rfl, hc1, hc2⟩ := (OwnB.bytes own6).slice
      have hs6 := ch6.size
      have HO6 := Lib.hid own6; have HC6 := Lib.hid ch6; have HN6 := Lib.hid n6
      clear own6 ch6 n6
      go_wp2_with fail
      go_roundw
      case rel =>
        refine ⟨k, pre ++ [c], by omega, by go_num, hpe.out, by first | exact HO6.out | (rw [← List.append_assoc]; exact HO6.out) | (simpa using HO6.out), ?_, ?_, ?_⟩
        · exact (HC.out.alloc _).trans HC6.out (fun x hx => HF.out x hx)
        · intro x hx
          rcases HN6.out x (by simpa using hx) with h | h
          · exact HF.out x (by simp [h])
          · exact Or.inr (by omega)
        · simp at hs6; omega
      case measure => first | (simp [intOf]; done) | (simp [intOf]; omega)
end Go.Proofs.Ythhgnipiaohplaa.Fr
