/-
  The document's Encode.
-/
import Derived.Test.YtmoeioaahampaaaRSpell
namespace Go.Proofs.Ytmoeioaahampaaa.Hf
open Go.ChangeShapes Go.WideShapes Go.ChangeAt Go.RowKit
open Go.Proofs.Ytmoeioaahampaaa.B
set_option linter.unusedVariables false
set_option linter.unusedSimpArgs false

def bch (b : Bool) : UInt8 := if b then 49 else 48
theorem btext_get {t : List Bool} {i : Nat} {b : Bool} (h : t[i]? = some b) : (btext t)[i]? = some (bch b) := by
  unfold btext; rw [List.getElem?_map, h]; rfl
theorem bch_num (b : Bool) : ((bch b).toNat : Int) = 48 + (b.toNat : Int) := by cases b <;> rfl
theorem u8_step (x : Nat) (b : Bool) (hx : x ≤ 127) : (((x : Int) * 2 + ((bch b).toNat : Int)) % 256 - 48) % 256 = ((2 * x + b.toNat : Nat) : Int) := by
  rw [bch_num]
  have : b.toNat ≤ 1 := by cases b <;> simp
  omega
def pad (l : List UInt8) : Nat := 8 * need l - (spell l).length
theorem pad_bd (l : List UInt8) : (spell l).length + pad l = 8 * need l ∧ pad l ≤ 7 := by unfold pad need; omega
def padded (l : List UInt8) : List Bool := spell l ++ List.replicate (pad l) true
theorem padded_len (l : List UInt8) : (padded l).length = 8 * need l := by unfold padded; have := (pad_bd l).1; simp; exact this
theorem padded_enc (l : List UInt8) : chunks (need l) (padded l) = enc l := by
  have h1 := enc_bits l
  have h2 := chunks_bitsOf (enc l)
  rw [enc_length, h1] at h2
  exact h2
set_option maxRecDepth 100000 in
set_option maxHeartbeats 8000000 in
theorem rencode_any (s : ByteArray) (hs : s.size ≤ 1000000) (w : World) :
    Calls Try.prog 84 #[.string s] w fun e w' => e = .returned (txt (enc (bx s))) ∧ Chg [] w w' := by
  obtain ⟨P0, hP0⟩ : ∃ P, P = padded (bx s) := ⟨_, rfl⟩
  have hpl : P0.length = 8 * need (bx s) := by rw [hP0]; exact padded_len _
  obtain ⟨hp1, hp2⟩ := pad_bd (bx s)
  have hsl : (spell (bx s)).length ≤ 30000000 := by
    have h1 : (spell (bx s)).length ≤ 30 * (bx s).length := sl_le _
    have h2 : (bx s).length = s.size := by simp [bx]
    omega
  obtain ⟨N, hN⟩ : ∃ N, N = need (bx s) := ⟨_, rfl⟩
  obtain ⟨J, hJ⟩ : ∃ J, J = pad (bx s) := ⟨_, rfl⟩
  obtain ⟨L, hL⟩ : ∃ L, L = (spell (bx s)).length := ⟨_, rfl⟩
  rw [← hN] at hpl hp1
  rw [← hJ] at hp1 hp2
  rw [← hL] at hp1 hsl
  have HP0 := Lib.hid hP0; have HPL := Lib.hid hpl; have HN := Lib.hid hN; have HJ := Lib.hid hJ; have HL := Lib.hid hL; have HP1 := Lib.hid hp1
  have hN3 : N ≤ 3750001 := by omega
  have hpa : L + J ≤ 8 * N := by omega
  have hpb : 8 * N ≤ L + J := by omega
  clear hP0 hpl hN hJ hL hp1
  go_enter Try.func84, Try.ntmps84
  go_wp2_with fail
  refine (spelt_any s hs _).mono ?_; rintro e w1 ⟨rfl, h1⟩
  unfold txt
  have HC1 := Lib.hid h1
  clear h1
  go_wp2_with fail
  go_loop [3] (fun tv => ∃ (j : Nat) (t : ByteArray), j ≤ J ∧ t = ⟨(btext (spell (bx s) ++ List.replicate j true)).toArray⟩ ∧ tv = .string t) (fun tv => 30000008 - (match tv with | .string t => t.size | _ => 0))
  case atStart => exact ⟨0, _, by omega, rfl, by simp⟩
  case round =>
    obtain ⟨j, t, hj, ht, rfl⟩ := hrel
    have hts : t.size = L + j := by
      have : t.size = (btext (spell (bx s) ++ List.replicate j true)).length := by rw [ht]; rfl
      rw [this, HL.out]; simp [btext]
    have htb : t.size ≤ 30000007 := by omega
    by_cases hlt : j < J
    · have e1 : (((t.size : Int) % 8) != 0) = true := by
        have : ¬ ((t.size : Int) % 8 = 0) := by rw [hts]; omega
        simpa using this
      have HT := Lib.hid ht; have HTS := Lib.hid hts
      clear ht hts
      go_wp2_with fail
      refine ⟨⟨j + 1, t ++ ⟨#[49]⟩, hlt, ?_, rfl⟩, ?_⟩
      · have h1 : (t ++ ⟨#[49]⟩ : ByteArray).data = t.data ++ #[49] := by first | rfl | simp
        apply ByteArray.ext
        rw [h1, HT.out]
        apply Array.toList_inj.1
        simp [btext, List.replicate_succ']
      · have h1 : (t ++ ⟨#[49]⟩ : ByteArray).size = t.size + 1 := by rw [ByteArray.size_append]; rfl
        simp only [h1]
        omega
    · obtain rfl : j = J := by omega
      rw [show spell (bx s) ++ List.replicate j true = P0 by rw [HP0.out, padded, ← HJ.out]] at ht
      have htl : t.size = 8 * N := by rw [hts]; omega
      have e1 : (((t.size : Int) % 8) != 0) = false := by
        have : ((t.size : Int) % 8 = 0) := by rw [htl]; omega
        simpa using this
      have htget : ∀ (i : Nat) (b : Bool), P0[i]? = some b → ∃ h : i < t.size, t[i] = bch b := fun i b hb => by
        have h1 := btext_get hb
        have hi : i < t.size := by rw [htl, ← HPL.out]; exact (List.getElem?_eq_some_iff.1 hb).1
        refine ⟨hi, ?_⟩
        have h2 : t.data.toList[i]? = some (bch b) := by rw [ht]; exact h1
        have h3 : t.data[i]? = some (bch b) := by simpa using h2
        have h4 := (Array.getElem?_eq_some_iff.1 h3)
        exact h4.2
      have HT := Lib.hid ht; have HTL := Lib.hid htl; have HTG := Lib.hid htget
      clear ht hts htl htget
      go_wp2_with fail
      have hown0 : OwnB (w1.alloc (.cells #[] 5)) w1.heap.size (.slice (some ⟨w1.heap.size, 0, none⟩) 0 0) [] := OwnB.empty (Nat.le_refl _)
      have hch0 : Chg [] w1 (w1.alloc (.cells #[] 5)) := (Chg.refl w1).alloc _
      have HOWN0 := Lib.hid hown0; have HCH0 := Lib.hid hch0
      clear hown0 hch0
      go_loopw [4, 5] (fun ov iv wr => ∃ m I : Nat, m ≤ N ∧ I = 8 * m ∧ iv = .int .i64 I ∧ OwnB wr w1.heap.size ov (chunks m P0) ∧ Chg [] w1 wr) (fun _ iv _ => t.size - (intOf iv).toNat)
      case atStart => exact ⟨0, 0, by omega, rfl, rfl, HOWN0.out, HCH0.out⟩
      case round =>
        clear HOWN0 HCH0
        obtain ⟨m, I, hm, hI, rfl, hown, hch⟩ := hrel
        by_cases hlt2 : m < N
        · have hI7 : I + 8 ≤ t.size := by rw [HTL.out]; omega
          have hI8 : I < t.size := by omega
          have hd : decide (I < t.size) = true := by simp; omega
          have HI := Lib.hid hI; have HOWN := Lib.hid hown; have HCH := Lib.hid hch
          clear hI hown hch
          go_wp2_with fail
          go_loop [6, 7] (fun xv kv => ∃ k X : Nat, k ≤ 8 ∧ kv = .int .i64 k ∧ X = val ((P0.drop I).take k) ∧ xv = .int .u8 X) (fun _ kv => 8 - (intOf kv).toNat)
          case atStart => exact ⟨0, 0, by omega, rfl, by simp [val], rfl⟩
          case round =>
            obtain ⟨k, X, hk, rfl, hX, rfl⟩ := hrel
            by_cases hlt3 : k < 8
            · obtain ⟨b, hb⟩ : ∃ b, P0[I + k]? = some b := ⟨_, List.getElem?_eq_getElem (by rw [HPL.out, ← HTL.out]; omega)⟩
              obtain ⟨hik, htk⟩ := HTG.out _ _ hb
              have hXb : X ≤ 127 := by
                have h1 := val_lt ((P0.drop I).take k)
                rw [← hX] at h1
                have h2 : ((P0.drop I).take k).length ≤ 7 := by rw [List.length_take]; omega
                have h3 := Nat.pow_le_pow_right (n := 2) (by omega) h2
                omega
              have hstep := u8_step X b hXb
              have hXn : val ((P0.drop I).take (k + 1)) = 2 * X + b.toNat := by
                have hg : (P0.drop I)[k]? = some b := by rw [List.getElem?_drop]; exact hb
                obtain ⟨h1, h2⟩ := List.getElem?_eq_some_iff.1 hg
                rw [List.take_succ_eq_append_getElem h1, val_snoc, ← hX, h2]
              rw [← htk] at hstep
              have HX := Lib.hid hX; have HXN := Lib.hid hXn; have HST := Lib.hid hstep
              clear hX hXn htk hb hstep
              go_wp2_with fail
              go_round
              case rel => exact ⟨k + 1, 2 * X + b.toNat, by omega, by go_num, HXN.out.symm, int_eq HST.out⟩
              case measure => simp [intOf] <;> omega
            · obtain rfl : k = 8 := by omega
              obtain ⟨c, hc⟩ : ∃ c, c = oct (P0.drop I) := ⟨_, rfl⟩
              have hcn : (c.toNat : Int) = (X : Int) := by
                have h1 := val_lt ((P0.drop I).take 8)
                have h2 : ((P0.drop I).take 8).length ≤ 8 := by rw [List.length_take]; omega
                have h3 := Nat.pow_le_pow_right (n := 2) (by omega) h2
                rw [← hX] at h1
                rw [hc]
                unfold oct
                rw [← hX]; simp; omega
              rw [← hcn]
              have hml : (chunks m P0).length = m := chunks_length _ _
              have HC := Lib.hid hc; have HML := Lib.hid hml
              clear hX hcn hc hml
              go_wp2_with (at_builtin; refine app_bytes rfl _ _ rfl w1.heap.size _ _ rfl (HOWN.out.alloc _) _ [c] rfl (BytesOf.new _ _) (by simp) (by rw [HML.out]; simp; omega) (by have := HCH.out.size; simp; omega) ?_)
              intro v' w' hown' hch' hfr'
              go_wp2_with fail
              go_roundw
              case rel => exact ⟨m + 1, I + 8, by omega, by rw [HI.out]; omega, by go_num, by rw [chunks_succ, ← HI.out, ← HC.out]; exact hown', (HCH.out.alloc _).trans hch' (fun x hx => Or.inr (owns_lo HOWN.out x hx))⟩
              case measure => simp [intOf] <;> omega
        · obtain rfl : m = N := by omega
          have hd : decide (I < t.size) = false := by simp; rw [HTL.out]; omega
          have hIt : ¬ I < t.size := by rw [HTL.out]; omega
          have hcv := hown.bytes.str
          have henc : chunks m P0 = enc (bx s) := by rw [HP0.out, HN.out]; exact padded_enc _
          rw [henc] at hcv
          have HCH := Lib.hid hch
          clear hown hch henc hI
          go_wp2_with fail
          go_ret
          exact ⟨rfl, HC1.out.trans' HCH.out⟩
end Go.Proofs.Ytmoeioaahampaaa.Hf
