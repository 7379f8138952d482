/-
  The document's Lengths, Bits and Code.
-/
import Derived.Test.YtbdimpakieejjaaShown
namespace Go.Proofs.Ytbdimpakieejjaa.Hf
open Go.ChangeShapes Go.WideShapes Go.ChangeAt Go.RowKit
open Go.Proofs.Ytbdimpakieejjaa.B
set_option linter.unusedVariables false
set_option linter.unusedSimpArgs false

def lenZ : List Int := LEN.map fun (n : Nat) => (n : Int)
def lenC : Array Value := (lenZ.map (Value.int .i64)).toArray
theorem lenC_get {s : Nat} (h : s < 257) : lenC[s]? = some (.int .i64 (len s)) := by
  have hl : LEN.length = 257 := by decide +kernel
  have : LEN[s]? = some (len s) := by
    rw [List.getElem?_eq_getElem (by omega)]; congr 1
    unfold len; rw [List.getD_eq_getElem?_getD, List.getElem?_eq_getElem (by omega)]; rfl
  unfold lenC lenZ
  rw [List.getElem?_toArray, List.getElem?_map, List.getElem?_map, this]; rfl
set_option maxRecDepth 100000 in
set_option maxHeartbeats 4000000 in
theorem lengths_any (w : World) :
    Calls Try.prog 22 #[] w fun e w' => e = .returned (.slice (some ⟨w.heap.size, 0, none⟩) 257 257) ∧ Chg [] w w' ∧ At w' w.heap.size (.cells lenC 3 (0, 0)) := by
  go_enter Try.func22, Try.ntmps22
  go_wp2_with (refine wpList_buildFlat rfl 52 3 257 _ rfl .i64 lenZ (by kernel_rfl) (by kernel_rfl) (by kernel_rfl) (by decide +kernel) (by decide) (by decide) (by kernel_rfl) ?_; rw [show (lenZ.map (Value.int .i64)).toArray = lenC from rfl])
  go_ret
  exact ⟨rfl, (Chg.refl _).alloc _, At.new _ _⟩
/-- Bits as a text. -/
def btext (t : List Bool) : List UInt8 := t.map fun b => if b then 49 else 48
theorem btext_append (a b : List Bool) : btext (a ++ b) = btext a ++ btext b := by simp [btext]
theorem btext_inj {a b : List Bool} (h : btext a = btext b) : a = b := by
  induction a generalizing b with
  | nil => cases b with
    | nil => rfl
    | cons c b => simp [btext] at h
  | cons c a ih => cases b with
    | nil => simp [btext] at h
    | cons d b =>
      simp only [btext, List.map_cons, List.cons.injEq] at h
      rw [ih h.2]
      have h1 := h.1
      cases c <;> cases d <;> simp_all
theorem int_eq {k : IntKind} {a b : Int} (h : a = b) : Value.int k a = Value.int k b := by rw [h]
def preB (n x j : Nat) : List Bool := (List.range j).map fun i => x.testBit (n - 1 - i)
theorem preB_succ (n x j : Nat) : preB n x (j + 1) = preB n x j ++ [x.testBit (n - 1 - j)] := by simp [preB, List.range_succ]
theorem preB_all (n x : Nat) : preB n x n = bits n x := rfl
theorem and1 (x q : Nat) (hx : x < 4294967296) : Go.bits BinOp.and IntKind.u32 ((x : Int) / 2 ^ q) 1 = ((x.testBit q).toNat : Int) := by
  have hd : x / 2 ^ q ≤ x := Nat.div_le_self _ _
  have e1 : ((x : Int) / 2 ^ q) = ((x / 2 ^ q : Nat) : Int) := by simp
  rw [e1]
  have key : (BitVec.ofInt 32 ((x / 2 ^ q : Nat) : Int) &&& BitVec.ofInt 32 1).toNat = x / 2 ^ q % 2 := by
    rw [BitVec.toNat_and, BitVec.toNat_ofInt, BitVec.toNat_ofInt]
    have a1 : (((x / 2 ^ q : Nat) : Int) % ((2 ^ 32 : Nat) : Int)).toNat = x / 2 ^ q := by generalize x / 2 ^ q = y at *; omega
    have a2 : ((1 : Int) % ((2 ^ 32 : Nat) : Int)).toNat = 2 ^ 1 - 1 := by decide
    rw [a1, a2, Nat.and_two_pow_sub_one_eq_mod]
  show IntKind.u32.wrap ((BitVec.ofInt 32 ((x / 2 ^ q : Nat) : Int) &&& BitVec.ofInt 32 1).toNat : Nat) = _
  rw [key, Nat.toNat_testBit x q, IntKind.wrap_u32]; omega
set_option maxHeartbeats 4000000 in
theorem bits_any (x n : Nat) (hx : x < 4294967296) (hn : n ≤ 31) (w : World) :
    Calls Try.prog 14 #[.int .u32 x, .int .i64 n] w fun e w' => e = .returned (.string ⟨(btext (bits n x)).toArray⟩) ∧ Chg [] w w' := by
  go_enter Try.func14, Try.ntmps14
  go_wp2_with fail
  go_loopw [5, 6] (fun tv iv wr => ∃ (j : Nat) (s : ByteArray), j ≤ n ∧ iv = .int .i64 ((n : Int) - 1 - j) ∧ s = ⟨(btext (preB n x j)).toArray⟩ ∧ tv = .string s ∧ Chg [] w wr) (fun _ iv _ => (intOf iv + 1).toNat)
  case atStart => exact ⟨0, ⟨#[]⟩, Nat.zero_le _, by simp, rfl, rfl, Chg.refl _⟩
  case round =>
    obtain ⟨j, s, hj, rfl, hs, rfl, hch⟩ := hrel
    by_cases hlt : j < n
    · obtain ⟨q, hq⟩ : ∃ q, q = n - 1 - j := ⟨_, rfl⟩
      rw [show (n : Int) - 1 - j = (q : Int) by omega]
      have hq31 : q < 32 := by omega
      obtain ⟨b, hb⟩ : ∃ b, b = x.testBit q := ⟨_, rfl⟩
      have e1 := and1 x q hx
      rw [← hb] at e1
      obtain ⟨c, hc⟩ : ∃ c : UInt8, c = if b then 49 else 48 := ⟨_, rfl⟩
      have hb1 : b.toNat ≤ 1 := by cases b <;> simp
      have e2 : (48 : Int) + (b.toNat : Int) = (c.toNat : Int) := by rw [hc]; cases b <;> rfl
      have k0 := (BytesOf.new wr c).str
      have hss : s.size ≤ 31 := by
        have h1 : s.size = (btext (preB n x j)).length := by rw [hs]; rfl
        rw [h1]; simp [btext, preB]; omega
      have HS := Lib.hid hs; have HB := Lib.hid hb; have HC := Lib.hid hc; have HQ := Lib.hid hq; have HCH := Lib.hid hch
      clear hs hb hc hq hch
      go_wp2_with fail
      go_roundw
      case rel =>
        have hq := HQ.out
        refine ⟨j + 1, s ++ ⟨#[c]⟩, hlt, ?_, ?_, rfl, HCH.out.alloc _⟩
        · exact int_eq (by omega)
        · have h1 : (s ++ ⟨#[c]⟩ : ByteArray).data = s.data ++ #[c] := by first | rfl | simp
          apply ByteArray.ext
          rw [h1, HS.out, preB_succ, btext_append, ← HQ.out, ← HB.out]
          apply Array.toList_inj.1
          have := HC.out
          simp [btext, this]
      case measure => simp [intOf] <;> omega
    · obtain rfl : j = n := by omega
      rw [preB_all] at hs
      have hd : decide ((0 : Int) ≤ (j : Int) - 1 - j) = false := by simp; omega
      have HS := Lib.hid hs; have HCH := Lib.hid hch
      clear hs hch
      go_wp2_with fail
      go_ret
      exact ⟨by rw [HS.out]; rfl, HCH.out⟩

/-! ### The codes as they are dealt out -/
/-- How many of the first s symbols have a code of this length. -/
def rk (n s : Nat) : Nat := ((List.range s).filter (fun t => len t == n)).length
theorem rk_succ (n s : Nat) : rk n (s + 1) = rk n s + if len s = n then 1 else 0 := by
  unfold rk
  rw [List.range_succ, List.filter_append]
  by_cases h : len s = n <;> simp [List.filter_cons, h]
theorem rk_zero (n : Nat) : rk n 0 = 0 := rfl
theorem tab_rk : (List.range 31).all (fun n => (List.range 257).filter (fun t => len t == n) == (List.range (cnt n)).map (fun i => sym (ats n + i))) = true := by decide +kernel
theorem rk_list {n : Nat} (h : n < 31) : (List.range 257).filter (fun t => len t == n) = (List.range (cnt n)).map (fun i => sym (ats n + i)) := eq_of_beq (all_lt tab_rk h)
theorem rk_all {n : Nat} (h : n < 31) : rk n 257 = cnt n := by unfold rk; rw [rk_list h]; simp
theorem rk_le (n s : Nat) : rk n s ≤ s := by unfold rk; have := List.length_filter_le (fun t => len t == n) (List.range s); simpa using this
theorem rk_mono (n : Nat) {s t : Nat} (h : s ≤ t) : rk n s ≤ rk n t := by
  obtain ⟨d, rfl⟩ := Nat.le.dest h
  clear h
  induction d with
  | zero => exact Nat.le_refl _
  | succ d ih => rw [← Nat.add_assoc, rk_succ]; omega
theorem code_rk {s : Nat} (h : s < 257) : code s = fst (len s) + rk (len s) s := by
  have h5 := of_sym h
  obtain ⟨n, hn⟩ : ∃ n, n = len s := ⟨_, rfl⟩
  have hn1 : n < 31 := by omega
  have hl := rk_list hn1
  have hsplit : List.range 257 = List.range s ++ List.range' s (257 - s) := by
    rw [List.range_eq_range', List.range_eq_range']
    have := List.range'_append_1 (s := 0) (m := s) (n := 257 - s)
    rw [Nat.zero_add] at this
    rw [this]; congr 1; omega
  have hs1 : List.range' s (257 - s) = s :: List.range' (s + 1) (256 - s) := by
    rw [show 257 - s = (256 - s) + 1 by omega, List.range'_succ]
  rw [hsplit, hs1, List.filter_append, List.filter_cons, if_pos (by simp [hn])] at hl
  have hg : ((List.range s).filter (fun t => len t == n) ++ s :: (List.range' (s + 1) (256 - s)).filter (fun t => len t == n))[rk n s]? = some s := by
    rw [List.getElem?_append_right (by exact Nat.le_refl _)]
    unfold rk; simp
  rw [hl, List.getElem?_map] at hg
  have hlt : rk n s < cnt n := by
    by_cases hc : rk n s < cnt n
    · exact hc
    · rw [List.getElem?_eq_none (by simp; omega)] at hg; simp at hg
  rw [List.getElem?_range hlt] at hg
  simp at hg
  have hp := pos_sym (k := ats n + rk n s) (by have := (fst_bd hn1).2; omega)
  rw [hg] at hp
  unfold pos at hp
  rw [← hn] at hp h5 ⊢
  omega
def txt (l : List UInt8) : Value := .string ⟨l.toArray⟩
set_option maxRecDepth 100000 in
set_option maxHeartbeats 4000000 in
theorem rcode_ok (s : Nat) (hs : s < 257) (w : World) :
    Calls Try.prog 13 #[.int .i64 s] w fun e w' => e = .returned (txt (btext (cb s))) ∧ Chg [] w w' := by
  obtain ⟨k1, k2, k3, k4, _⟩ := of_sym hs
  have hck := code_rk hs
  obtain ⟨n0, hn0⟩ : ∃ n, n = len s := ⟨_, rfl⟩
  rw [← hn0] at k1 k2 hck
  have HN0 := Lib.hid hn0; have HCK := Lib.hid hck
  clear hn0 hck k3 k4
  go_enter Try.func13, Try.ntmps13
  go_wp2_with fail
  refine (lengths_any _).mono ?_; rintro e w1 ⟨rfl, h1, a1⟩
  generalize hL : w.heap.size = L at *
  clear hL
  have hlL : L < w1.heap.size := a1.lt
  have HA := Lib.hid a1; have HC := Lib.hid h1
  clear a1 h1
  have hs0 : (0 : Int) ≤ (s : Int) := by omega
  go_wp2_with fail
  go_loopw [4, 5] (fun cv nv wr => ∃ n C : Nat, 1 ≤ n ∧ n ≤ n0 ∧ nv = .int .i64 n ∧ C = fse (n - 1) ∧ cv = .int .u32 C ∧ wr = w1) (fun _ nv _ => 31 - (intOf nv).toNat)
  case atStart => exact ⟨1, 0, by omega, by omega, rfl, by rw [fse_zero], rfl, rfl⟩
  case round =>
    obtain ⟨n, C, hn1, hn2, rfl, hC, rfl, rfl⟩ := hrel
    have hf := fse_fst (n := n - 1) (by omega)
    rw [show n - 1 + 1 = n by omega, ← hC] at hf
    have hfb := (pre_fst (n := n) (by omega)).2.2.2
    obtain ⟨F, hF⟩ : ∃ F, F = fst n := ⟨_, rfl⟩
    rw [← hF] at hf hfb
    have hC2 : C * 2 = F := by omega
    have hC3 : (C : Int) * 2 = (F : Int) := by omega
    have HC1 := Lib.hid hC; have HF := Lib.hid hF
    clear hC hf hF hC2
    go_wp2_with fail
    go_loopw [4, 6] (fun cv tv wt => ∃ t X : Nat, t ≤ 257 ∧ (n = n0 → t ≤ s) ∧ tv = .int .i64 t ∧ X = F + rk n t ∧ cv = .int .u32 X ∧ wt = wr) (fun _ tv _ => 257 - (intOf tv).toNat)
    case atStart => exact ⟨0, F, by omega, by omega, rfl, by rw [rk_zero]; rfl, rfl, rfl⟩
    case round =>
      obtain ⟨t, X, ht, hts, rfl, hX, rfl, rfl⟩ := hrel
      rename_i wt
      have hXb : X ≤ 1073741824 := by rw [hX]; have := rk_mono n ht; rw [rk_all (by omega)] at this; omega
      by_cases hlt : t < 257
      · have q0 := HA.out.cell (lenC_get hlt)
        have hrk := rk_succ n t
        have hXb1 := rk_mono n (show t + 1 ≤ 257 by omega)
        rw [rk_all (by omega)] at hXb1
        by_cases hl : len t = n
        · rw [hl] at q0
          rw [if_pos hl] at hrk
          have hXb2 : X < 1073741824 := by omega
          by_cases hst : t = s
          · have hnn : n = n0 := by rw [← hl, hst, HN0.out]
            have hXc : X = code s := by rw [hX, HCK.out, HF.out, ← hnn, hst]
            have hXl : X < 4294967296 := by omega
            subst hst
            have HX := Lib.hid hXc; have HNN := Lib.hid hnn
            clear hX hl hrk hXc hnn
            go_wp2_with fail
            refine (bits_any X n hXl (by omega) _).mono ?_; rintro e w2 ⟨rfl, h2⟩
            go_wp2_with fail
            go_ret
            refine ⟨?_, HC.out.trans' h2⟩
            show Ending.returned (.string _) = Ending.returned (.string _)
            unfold cb
            rw [HX.out, HNN.out, HN0.out]
          · have he : ((t : Int) == s) = false := by simp; omega
            have HTS : Hid (n = n0 → t + 1 ≤ s) := fun h => by have := hts h; omega
            have HX := Lib.hid hX; have HRK := Lib.hid hrk
            clear hX hl hrk hst
            go_wp2_with fail
            go_roundw
            case rel => exact ⟨t + 1, X + 1, by omega, HTS.out, by go_num, by rw [HRK.out, HX.out]; omega, by go_num, trivial⟩
            case measure => simp [intOf] <;> omega
        · have hne : ((len t : Int) != n) = true := by simp; omega
          rw [if_neg hl] at hrk
          have HX := Lib.hid hX; have HRK := Lib.hid hrk
          clear hX hrk
          by_cases hst : t = s
          · have hnn : n ≠ n0 := fun hc => hl (by rw [hst, hc, HN0.out])
            have HTS : Hid (n = n0 → t + 1 ≤ s) := fun h => absurd h hnn
            clear hl hst hnn
            go_wp2_with fail
            go_roundw
            case rel => exact ⟨t + 1, X, by omega, HTS.out, by go_num, by rw [HRK.out, HX.out]; omega, by go_num, trivial⟩
            case measure => simp [intOf] <;> omega
          · have HTS : Hid (n = n0 → t + 1 ≤ s) := fun h => by have := hts h; omega
            clear hl hst
            go_wp2_with fail
            go_roundw
            case rel => exact ⟨t + 1, X, by omega, HTS.out, by go_num, by rw [HRK.out, HX.out]; omega, by go_num, trivial⟩
            case measure => simp [intOf] <;> omega
      · obtain rfl : t = 257 := by omega
        have hnn : n ≠ n0 := by omega
        rw [rk_all (by omega), HF.out] at hX
        have hXf : X = fse n := hX
        have HX := Lib.hid hXf
        clear hX hXf
        go_wp2_with fail
        go_roundw
        case rel => exact ⟨n + 1, X, by omega, by omega, by go_num, by rw [show n + 1 - 1 = n by omega]; exact HX.out, rfl, by first | trivial | rfl⟩
        case measure => simp [intOf] <;> omega
end Go.Proofs.Ytbdimpakieejjaa.Hf
