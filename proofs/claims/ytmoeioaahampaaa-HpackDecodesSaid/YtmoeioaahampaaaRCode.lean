/-
  The document's Lengths, Bits and Code.
-/
import Derived.Test.YtmoeioaahampaaaDec
namespace Go.Proofs.Ytmoeioaahampaaa.Hf
open Go.ChangeShapes Go.WideShapes Go.ChangeAt Go.RowKit
open Go.Proofs.Ytmoeioaahampaaa.B
set_option linter.unusedVariables false
set_option linter.unusedSimpArgs false

def lenZ : List Int := LEN.map fun (n : Nat) => (n : Int)
def lenC : Array Value := (lenZ.map (Value.int .i64)).toArray
theorem lenC_get {s : Nat} (h : s < 257) : lenC[s]? = some (.int .i64 (len s)) := by
  have hl : LEN.length = 257 := by decide +kernel
  have : LEN[s]? = some (len s) := by
    rw [List.getElem?_eq_getElem (by omega)]; congr 1
    unfold len; rw [List.getD_eq_getElem?_getD, List.getElem?_eq_getElem (by omega)]; rfl
  unfold lenC lenZ
  rw [List.getElem?_toArray, List.getElem?_map, List.getElem?_map, this]; rfl
set_option maxRecDepth 100000 in
set_option maxHeartbeats 4000000 in
theorem lengths_any (w : World) :
    Calls Try.prog 92 #[] w fun e w' => e = .returned (.slice (some ⟨w.heap.size, 0, none⟩) 257 257) ∧ Chg [] w w' ∧ At w' w.heap.size (.cells lenC 3 (0, 0)) := by
  go_enter Try.func92, Try.ntmps92
  go_wp2_with (refine wpList_buildFlat rfl 88 3 257 _ rfl .i64 lenZ (by kernel_rfl) (by kernel_rfl) (by kernel_rfl) (by decide +kernel) (by decide) (by decide) (by kernel_rfl) ?_; rw [show (lenZ.map (Value.int .i64)).toArray = lenC from rfl])
  go_ret
  exact ⟨rfl, (Chg.refl _).alloc _, At.new _ _⟩
/-- Bits as a text. -/
def btext (t : List Bool) : List UInt8 := t.map fun b => if b then 49 else 48
theorem btext_append (a b : List Bool) : btext (a ++ b) = btext a ++ btext b := by simp [btext]
theorem btext_inj {a b : List Bool} (h : btext a = btext b) : a = b := by
  induction a generalizing b with
  | nil => cases b with
    | nil => rfl
    | cons c b => simp [btext] at h
  | cons c a ih => cases b with
    | nil => simp [btext] at h
    | cons d b =>
      simp only [btext, List.map_cons, List.cons.injEq] at h
      rw [ih h.2]
      have h1 := h.1
      cases c <;> cases d <;> simp_all
theorem int_eq {k : IntKind} {a b : Int} (h : a = b) : Value.int k a = Value.int k b := by rw [h]
def preB (n x j : Nat) : List Bool := (List.range j).map fun i => x.testBit (n - 1 - i)
theorem preB_succ (n x j : Nat) : preB n x (j + 1) = preB n x j ++ [x.testBit (n - 1 - j)] := by simp [preB, List.range_succ]
theorem preB_all (n x : Nat) : preB n x n = bits n x := rfl
theorem and1 (x q : Nat) (hx : x < 4294967296) : Go.bits BinOp.and IntKind.u32 ((x : Int) / 2 ^ q) 1 = ((x.testBit q).toNat : Int) := by
  have hd : x / 2 ^ q ≤ x := Nat.div_le_self _ _
  have e1 : ((x : Int) / 2 ^ q) = ((x / 2 ^ q : Nat) : Int) := by simp
  rw [e1]
  have key : (BitVec.ofInt 32 ((x / 2 ^ q : Nat) : Int) &&& BitVec.ofInt 32 1).toNat = x / 2 ^ q % 2 := by
    rw [BitVec.toNat_and, BitVec.toNat_ofInt, BitVec.toNat_ofInt]
    have a1 : (((x / 2 ^ q : Nat) : Int) % ((2 ^ 32 : Nat) : Int)).toNat = x / 2 ^ q := by generalize x / 2 ^ q = y at *; omega
    have a2 : ((1 : Int) % ((2 ^ 32 : Nat) : Int)).toNat = 2 ^ 1 - 1 := by decide
    rw [a1, a2, Nat.and_two_pow_sub_one_eq_mod]
  show IntKind.u32.wrap ((BitVec.ofInt 32 ((x / 2 ^ q : Nat) : Int) &&& BitVec.ofInt 32 1).toNat : Nat) = _
  rw [key, Nat.toNat_testBit x q, IntKind.wrap_u32]; omega
set_option maxHeartbeats 4000000 in
theorem bits_any (x n : Nat) (hx : x < 4294967296) (hn : n ≤ 31) (w : World) :
    Calls Try.prog 89 #[.int .u32 x, .int .i64 n] w fun e w' => e = .returned (.string ⟨(btext (bits n x)).toArray⟩) ∧ Chg [] w w' := by
  go_enter Try.func89, Try.ntmps89
  go_wp2_with fail
  go_loopw [5, 6] (fun tv iv wr => ∃ (j : Nat) (s : ByteArray), j ≤ n ∧ iv = .int .i64 ((n : Int) - 1 - j) ∧ s = ⟨(btext (preB n x j)).toArray⟩ ∧ tv = .string s ∧ Chg [] w wr) (fun _ iv _ => (intOf iv + 1).toNat)
  case atStart => exact ⟨0, ⟨#[]⟩, Nat.zero_le _, by simp, rfl, rfl, Chg.refl _⟩
  case round =>
    obtain ⟨j, s, hj, rfl, hs, rfl, hch⟩ := hrel
    by_cases hlt : j < n
    · obtain ⟨q, hq⟩ : ∃ q, q = n - 1 - j := ⟨_, rfl⟩
      rw [show (n : Int) - 1 - j = (q : Int) by omega]
      have hq31 : q < 32 := by omega
      obtain ⟨b, hb⟩ : ∃ b, b = x.testBit q := ⟨_, rfl⟩
      have e1 := and1 x q hx
      rw [← hb] at e1
      obtain ⟨c, hc⟩ : ∃ c : UInt8, c = if b then 49 else 48 := ⟨_, rfl⟩
      have hb1 : b.toNat ≤ 1 := by cases b <;> simp
      have e2 : (48 : Int) + (b.toNat : Int) = (c.toNat : Int) := by rw [hc]; cases b <;> rfl
      have k0 := (BytesOf.new wr c).str
      have hss : s.size ≤ 31 := by
        have h1 : s.size = (btext (preB n x j)).length := by rw [hs]; rfl
        rw [h1]; simp [btext, preB]; omega
      have HS := Lib.hid hs; have HB := Lib.hid hb; have HC := Lib.hid hc; have HQ := Lib.hid hq; have HCH := Lib.hid hch
      clear hs hb hc hq hch
      go_wp2_with fail
      go_roundw
      case rel =>
        have hq := HQ.out
        refine ⟨j + 1, s ++ ⟨#[c]⟩, hlt, ?_, ?_, rfl, HCH.out.alloc _⟩
        · exact int_eq (by omega)
        · have h1 : (s ++ ⟨#[c]⟩ : ByteArray).data = s.data ++ #[c] := by first | rfl | simp
          apply ByteArray.ext
          rw [h1, HS.out, preB_succ, btext_append, ← HQ.out, ← HB.out]
          apply Array.toList_inj.1
          have := HC.out
          simp [btext, this]
      case measure => simp [intOf] <;> omega
    · obtain rfl : j = n := by omega
      rw [preB_all] at hs
      have hd : decide ((0 : Int) ≤ (j : Int) - 1 - j) = false := by simp; omega
      have HS := Lib.hid hs; have HCH := Lib.hid hch
      clear hs hch
      go_wp2_with fail
      go_ret
      exact ⟨by rw [HS.out]; rfl, HCH.out⟩

/-! ### The codes as they are dealt out -/
/-- How many of the first s symbols have a code of this length. -/
def rk (n s : Nat) : Nat := ((List.range s).filter (fun t => len t == n)).length
theorem rk_succ (n s : Nat) : rk n (s + 1) = rk n s + if len s = n then 1 else 0 := by
  unfold rk
  rw [List.range_succ, List.filter_append]
  by_cases h : len s = n <;> simp [List.filter_cons, h]
theorem rk_zero (n : Nat) : rk n 0 = 0 := rfl
theorem tab_rk : (List.range 31).all (fun n => (List.range 257).filter (fun t => len t == n) == (List.range (cnt n)).map (fun i => sym (ats n + i))) = true := by decide +kernel
theorem rk_list {n : Nat} (h : n < 31) : (List.range 257).filter (fun t => len t == n) = (List.range (cnt n)).map (fun i => sym (ats n + i)) := eq_of_beq (all_lt tab_rk h)
theorem rk_all {n : Nat} (h : n < 31) : rk n 257 = cnt n := by unfold rk; rw [rk_list h]; simp
theorem rk_le (n s : Nat) : rk n s ≤ s := by unfold rk; have := List.length_filter_le (fun t => len t == n) (List.range s); simpa using this
theorem rk_mono (n : Nat) {s t : Nat} (h : s ≤ t) : rk n s ≤ rk n t := by
  obtain ⟨d, rfl⟩ := Nat.le.dest h
  clear h
  induction d with
  | zero => exact Nat.le_refl _
  | succ d ih => rw [← Nat.add_assoc, rk_succ]; omega
theorem code_rk {s : Nat} (h : s < 257) : code s = fst (len s) + rk (len s) s := by
  have h5 := of_sym h
  obtain ⟨n, hn⟩ : ∃ n, n = len s := ⟨_, rfl⟩
  have hn1 : n < 31 := by omega
  have hl := rk_list hn1
  have hsplit : List.range 257 = List.range s ++ List.range' s (257 - s) := by
    rw [List.range_eq_range', List.range_eq_range']
    have := List.range'_append_1 (s := 0) (m := s) (n := 257 - s)
    rw [Nat.zero_add] at this
    rw [this]; congr 1; omega
  have hs1 : List.range' s (257 - s) = s :: List.range' (s + 1) (256 - s) := by
    rw [show 257 - s = (256 - s) + 1 by omega, List.range'_succ]
  rw [hsplit, hs1, List.filter_append, List.filter_cons, if_pos (by simp [hn])] at hl
  have hg : ((List.range s).filter (fun t => len t == n) ++ s :: (List.range' (s + 1) (256 - s)).filter (fun t => len t == n))[rk n s]? = some s := by
    rw [List.getElem?_append_right (by exact Nat.le_refl _)]
    unfold rk; simp
  rw [hl, List.getElem?_map] at hg
  have hlt : rk n s < cnt n := by
    by_cases hc : rk n s < cnt n
    · exact hc
    · rw [List.getElem?_eq_none (by simp; omega)] at hg; simp at hg
  rw [List.getElem?_range hlt] at hg
  simp at hg
  have hp := pos_sym (k := ats n + rk n s) (by have := (fst_bd hn1).2; omega)
  rw [hg] at hp
  unfold pos at hp
  rw [← hn] at hp h5 ⊢
  omega
def txt (l : List UInt8) : Value := .string ⟨l.toArray⟩
end Go.Proofs.Ytmoeioaahampaaa.Hf
