/-
  HuffmanTurned: one bit of the padding that is 0 is told: any text, any bit of what is left over.
-/
import Derived.Test.YtbdimpakieejjaaOne
import Derived.ChangeMaps5
namespace Go.Proofs.Ytbdimpakieejjaa.Hf
/-- With bits behind the text that are not all ones: a fault, or another text. -/
theorem dec_turned {x : List UInt8} {r : List Bool} (hr : r.length ≤ 7) (hn : r.all id = false) (most : Int) (hm : most = (x.length : Int) + 1) :
    dec most (spell x ++ r) = ([], 3) ∨ ∃ y, dec most (spell x ++ r) = (y, 0) ∧ y ≠ x := by
  unfold dec
  rw [drun_spell most [] x r (by simp; omega), List.nil_append]
  rcases part r with hf | ⟨a, q, ha, rfl⟩
  · rw [fin_free most x hf, if_pos (Or.inr hn)]; exact Or.inl rfl
  · rw [drun_hit most x ha]
    by_cases h6 : a = 256
    · rw [if_pos h6]; exact Or.inl rfl
    · rw [if_neg h6, if_neg (by omega)]
      have hq : q.length ≤ 2 := by have := (of_sym ha).1; simp [cb_length] at hr; omega
      have hqf : Free q := fun s hs ⟨u, hu⟩ => by
        have := (of_sym hs).1
        have h2 := congrArg List.length hu
        simp [cb_length] at h2; omega
      rw [fin_free most _ hqf]
      split
      · exact Or.inl rfl
      · exact Or.inr ⟨_, rfl, fun h => by have := congrArg List.length h; simp at this⟩
/-- Without the last octet it is another text. -/
theorem dec_less {x : List UInt8} (hx : x ≠ []) {most : Int} {y : List UInt8} (h : dec most (bitsOf (enc x).dropLast) = (y, 0)) : y ≠ x := by
  rintro rfl
  obtain ⟨_, k, hk, h2⟩ := One.dec_ok h
  have h3 := congrArg List.length h2
  rw [bitsOf_length, List.length_append, List.length_dropLast, enc_length] at h3
  have h5 := spell_len y
  have : 0 < y.length := List.length_pos_iff.2 hx
  unfold need at h3
  simp at h3
  omega
theorem bits8_get (c i : Nat) (h : i < 8) : (bits 8 c)[i]? = some (c.testBit (7 - i)) := by
  unfold bits
  rw [List.getElem?_map, List.getElem?_range h]
  rfl
/-- The last octet turned in a bit of the padding. -/
theorem turned_bits {x : List UInt8} (hx : x ≠ []) {j : Nat} (hj : j < 8 * need x - (spell x).length) {c d : UInt8} (hc : (enc x)[need x - 1]? = some c) (hd : d.toNat = c.toNat ^^^ 2 ^ j) :
    ∃ r, bitsOf ((enc x).set (need x - 1) d) = spell x ++ r ∧ r.length ≤ 7 ∧ r.all id = false := by
  obtain ⟨k, hk⟩ : ∃ k, k = 8 * need x - (spell x).length := ⟨_, rfl⟩
  have h5 := spell_len x
  have hxl : 0 < x.length := List.length_pos_iff.2 hx
  have hn1 : 1 ≤ need x := by unfold need; omega
  have hk7 : k ≤ 7 := by rw [hk]; unfold need; omega
  have hkl : (spell x).length = 8 * need x - k := by rw [hk]; unfold need; omega
  have hel : (enc x).length = need x := enc_length x
  have hset : (enc x).set (need x - 1) d = (enc x).take (need x - 1) ++ [d] := by
    rw [List.set_eq_take_append_cons_drop, if_pos (by omega), List.drop_of_length_le (by omega)]
  have hold : enc x = (enc x).take (need x - 1) ++ [c] := by
    have h1 : (enc x).take (need x - 1 + 1) = (enc x).take (need x - 1) ++ [c] := by
      rw [List.take_add_one, hc]; rfl
    rw [show need x - 1 + 1 = need x by omega, List.take_of_length_le (by omega)] at h1
    exact h1
  have hb1 : ∀ e : UInt8, bitsOf [e] = bits 8 e.toNat := fun e => by simp [bitsOf]
  have hb := enc_bits x
  rw [← hk] at hb
  have hall : bitsOf (enc x) = bitsOf ((enc x).take (need x - 1)) ++ bits 8 c.toNat :=
    calc bitsOf (enc x) = bitsOf ((enc x).take (need x - 1) ++ [c]) := by rw [← hold]
      _ = _ := by rw [bitsOf_append, hb1]
  have hsame : ∀ i, i < 8 → i < 8 - k → (bits 8 d.toNat)[i]? = (bits 8 c.toNat)[i]? := by
    intro i hi hik
    rw [bits8_get _ i hi, bits8_get _ i hi, hd, Nat.testBit_xor, Nat.testBit_two_pow]
    have : decide (j = 7 - i) = false := by simp; omega
    rw [this, Bool.xor_false]
  refine ⟨(bits 8 d.toNat).drop (8 - k), ?_, by rw [List.length_drop, bits_length]; omega, ?_⟩
  · have e1 : bitsOf ((enc x).set (need x - 1) d) = bitsOf ((enc x).take (need x - 1)) ++ ((bits 8 d.toNat).take (8 - k) ++ (bits 8 d.toNat).drop (8 - k)) := by
      rw [hset, bitsOf_append, hb1, List.take_append_drop]
    have e2 : (bits 8 d.toNat).take (8 - k) = (bits 8 c.toNat).take (8 - k) := by
      apply List.ext_getElem?
      intro i
      rw [List.getElem?_take, List.getElem?_take]
      by_cases hi : i < 8 - k
      · rw [if_pos hi, if_pos hi, hsame i (by omega) hi]
      · rw [if_neg hi, if_neg hi]
    have e3 : bitsOf ((enc x).take (need x - 1)) ++ (bits 8 c.toNat).take (8 - k) = spell x := by
      have hA : (bitsOf ((enc x).take (need x - 1))).length = 8 * (need x - 1) := by rw [bitsOf_length, List.length_take, hel]; omega
      have h6 : (bitsOf (enc x)).take (8 * need x - k) = bitsOf ((enc x).take (need x - 1)) ++ (bits 8 c.toNat).take (8 - k) := by
        rw [hall, List.take_append, hA, List.take_of_length_le (by omega)]
        congr 2
        omega
      rw [← h6, hb, List.take_append_of_le_length (by omega), List.take_of_length_le (by omega)]
    rw [e1, e2, ← List.append_assoc, e3]
  · have hi : (bits 8 d.toNat)[7 - j]? = some false := by
      rw [bits8_get _ _ (by omega), hd, Nat.testBit_xor, Nat.testBit_two_pow, show 7 - (7 - j) = j by omega]
      have hone : c.toNat.testBit j = true := by
        have h7 : (bitsOf (enc x))[8 * (need x - 1) + (7 - j)]? = some true := by
          rw [hb, List.getElem?_append_right (by omega), List.getElem?_replicate, if_pos (by omega)]
        have hA : (bitsOf ((enc x).take (need x - 1))).length = 8 * (need x - 1) := by rw [bitsOf_length, List.length_take, hel]; omega
        rw [hall, List.getElem?_append_right (by omega), hA, show 8 * (need x - 1) + (7 - j) - 8 * (need x - 1) = 7 - j by omega, bits8_get _ _ (by omega), show 7 - (7 - j) = j by omega] at h7
        exact Option.some.inj h7
      simp [hone]
    rw [List.all_eq_false]
    refine ⟨false, ?_, by simp⟩
    rw [List.mem_iff_getElem?]
    exact ⟨7 - j - (8 - k), by rw [List.getElem?_drop, show 8 - k + (7 - j - (8 - k)) = 7 - j by omega]; exact hi⟩
end Go.Proofs.Ytbdimpakieejjaa.Hf
namespace Go.Proofs.Ytbdimpakieejjaa.Turned
open Go.ChangeShapes Go.WideShapes Go.ChangeAt Go.RowKit
open Go.ChangeMaps (open_string)
open Go.Proofs.Ytbdimpakieejjaa.B Go.Proofs.Ytbdimpakieejjaa.Hf
set_option linter.unusedVariables false
set_option linter.unusedSimpArgs false

theorem bytes_row {w : World} {g n cap : Nat} {cur : Array Value} {fz : Nat × Nat} {l : List UInt8} (hg : At w g (.cells cur 5 fz)) (hl : l.length = n) (hc : n ≤ cap) (hm : cap ≤ maxLen) (ht : cur.toList.take n = rowB l) : BytesOf w (.slice (some ⟨g, 0, none⟩) n cap) l := by
  subst hl
  refine ⟨_, cap, rfl, hc, hm, fun h0 => ⟨g, 0, rfl, hg.lt, fun i z hz j hj => ?_⟩⟩
  obtain rfl : j = 0 := by omega
  have hi : i < l.length := (List.getElem?_eq_some_iff.1 hz).1
  have h1 : (cur.toList.take l.length)[i]? = some (.int .u8 (z.toNat : Int)) := by rw [ht, rowB_get, hz]; rfl
  rw [List.getElem?_take_of_lt hi] at h1
  rw [show 0 + i * 1 + 0 = i by omega, hg.cell (v := .int .u8 (z.toNat : Int)) (by simpa using h1)]
  rfl
theorem row_set {cur : Array Value} {l : List UInt8} {n : Nat} (ht : cur.toList.take n = rowB l) (i : Nat) (d : UInt8) : (cur.setIfInBounds i (.int .u8 (d.toNat : Int))).toList.take n = rowB (l.set i d) := by
  have e1 : rowB (l.set i d) = (rowB l).set i (.int .u8 (d.toNat : Int)) := by simp [rowB, List.map_set]
  rw [e1, ← ht, Array.toList_setIfInBounds, List.take_set]
theorem mask8 (n : Int) : ∃ A : Nat, Go.bits .and .i64 n 255 = (A : Int) ∧ A < 256 := by
  have h : 0 ≤ Go.bits .and .i64 n 255 ∧ Go.bits .and .i64 n 255 ≤ 255 := i64_and_le n 255 (by decide)
  exact ⟨(Go.bits .and .i64 n 255).toNat, by omega, by omega⟩
theorem xor_u8 (c : UInt8) (J : Nat) (hJ : J < 8) : Go.bits BinOp.xor IntKind.u8 (c.toNat : Int) ((2 : Int) ^ J % 256) = ((c.toNat ^^^ 2 ^ J : Nat) : Int) := by
  have hp : 2 ^ J < 2 ^ 8 := Nat.pow_lt_pow_right (by omega) hJ
  have e1 : ((2 : Int) ^ J % 256) = ((2 ^ J : Nat) : Int) := by
    have : ((2 : Int) ^ J) = ((2 ^ J : Nat) : Int) := by simp
    rw [this]
    have h9 : 2 ^ J < 256 := hp
    generalize 2 ^ J = z at *
    omega
  have hc := c.toNat_lt
  have hx : c.toNat ^^^ 2 ^ J < 2 ^ 8 := Nat.xor_lt_two_pow hc hp
  have key : (BitVec.ofInt 8 (c.toNat : Int) ^^^ BitVec.ofInt 8 ((2 ^ J : Nat) : Int)).toNat = c.toNat ^^^ 2 ^ J := by
    rw [BitVec.toNat_xor, BitVec.toNat_ofInt, BitVec.toNat_ofInt]
    have a1 : (((c.toNat : Nat) : Int) % ((2 ^ 8 : Nat) : Int)).toNat = c.toNat := by omega
    have a2 : (((2 ^ J : Nat) : Int) % ((2 ^ 8 : Nat) : Int)).toNat = 2 ^ J := by omega
    rw [a1, a2]
  rw [e1]
  show IntKind.u8.wrap ((BitVec.ofInt 8 (c.toNat : Int) ^^^ BitVec.ofInt 8 ((2 ^ J : Nat) : Int)).toNat : Nat) = _
  rw [key, IntKind.wrap_u8]; omega
set_option maxRecDepth 100000 in
set_option maxHeartbeats 4000000 in
theorem walk (s : ByteArray) (which : Int) (W : World) (hs : s.size ≤ maxLen) :
    Calls Try.prog 7 #[.string s, .int .i64 which] W fun e w' => e = .returned (.bool true) ∧ Below W.heap.size W w' := by
  unfold maxLen at hs
  go_enter Try.func7, Try.ntmps7
  go_wp2_with fail
  refine (shown_any _).mono ?_; rintro e w1 ⟨rfl, c1⟩
  by_cases h0 : s.size = 0
  · have e0 : s.toList.isEmpty = true := by
      rw [ByteArray.toList_eq, show s = ⟨#[]⟩ from by apply ByteArray.ext; exact Array.eq_empty_of_size_eq_zero h0]; rfl
    clear h0
    go_wp2_with fail
    go_ret
    exact ⟨rfl, c1.below_nil⟩
  have e0 : s.toList.isEmpty = false := by
    rw [ByteArray.toList_eq]
    cases hl : s.data.toList with
    | nil =>
      have h1 : s.data.toList.length = s.size := by simp
      rw [hl] at h1; simp at h1; omega
    | cons _ _ => rfl
  by_cases hbig : 100000 < s.size
  · have hb' : (100000 : Int) < s.size := by omega
    go_wp2_with fail
    go_ret
    exact ⟨rfl, c1.below_nil⟩
  have hb' : ¬ (100000 : Int) < s.size := by omega
  have hpos : 0 < s.size := by omega
  have hbl : (bx s).length = s.size := by simp [bx]
  have HBL := Lib.hid hbl
  clear h0 hbig hbl
  go_wp2_with fail
  go_loopw [6, 7] (fun nv iv wr => ∃ k N : Nat, k ≤ s.size ∧ iv = .int .i64 k ∧ N = sl ((bx s).take k) ∧ nv = .int .i64 N ∧ Chg [] W wr) (fun _ iv _ => s.size - (intOf iv).toNat)
  case atStart => exact ⟨0, 0, Nat.zero_le _, rfl, rfl, rfl, c1⟩
  case round =>
    clear c1
    obtain ⟨k, N, hk, rfl, hN, rfl, hch⟩ := hrel
    have hN1 : N ≤ 30 * k := by
      rw [hN]; exact Nat.le_trans (sl_le _) (by simp; omega)
    by_cases hlt : k < s.size
    · obtain ⟨c, hcc⟩ : ∃ c, c = s[k] := ⟨_, rfl⟩
      have hc7 : c.toNat < 257 := by have := c.toNat_lt; omega
      have hc6 : (c.toNat : Int) < 256 := by have := c.toNat_lt; omega
      have hl1 : len c.toNat ≤ 30 := (of_sym hc7).2.1
      have hsn := sl_snoc ((bx s).take k) s[k]
      have htk : (bx s).take (k + 1) = (bx s).take k ++ [s[k]] := take_snoc s k hlt
      rw [← htk, ← hN, ← hcc] at hsn
      rw [hcc] at hl1 hc6 hc7
      have HS := Lib.hid hsn; have HN := Lib.hid hN; have HC := Lib.hid hch; have HCC := Lib.hid hcc
      clear hsn hN hch hcc htk
      go_wp2_with fail
      refine (code_ok s[k].toNat hc7 _).mono ?_; rintro e w2 ⟨rfl, c2⟩
      go_wp2_with fail
      go_roundw
      case rel => exact ⟨k + 1, N + len s[k].toNat, by omega, by go_num, by rw [HS.out, HCC.out], by go_num, HC.out.trans' c2⟩
      case measure => simp [intOf]; omega
    · obtain rfl : k = s.size := by omega
      have hN2 : N = (spell (bx s)).length := by rw [hN, List.take_of_length_le (by simp [bx])]; rfl
      have hx0 : bx s ≠ [] := fun h => by have := HBL.out; rw [h] at this; simp at this; omega
      have hel := enc_length (bx s)
      obtain ⟨n, hn⟩ : ∃ n, n = need (bx s) := ⟨_, rfl⟩
      have hn1 : 8 * n ≤ N + 7 ∧ N ≤ 8 * n := by rw [hn, hN2]; unfold need; omega
      have h5 := spell_len (bx s)
      have hn0 : 1 ≤ n := by have := HBL.out; omega
      have hn2 : n ≤ 375001 := by omega
      obtain ⟨K, hK⟩ : ∃ K, K = 8 * n - N := ⟨_, rfl⟩
      have eK : 8 * (n : Int) - N = (K : Int) := by omega
      have hK7 : K ≤ 7 := by omega
      obtain ⟨M, hM⟩ : ∃ M, M = n - 1 := ⟨_, rfl⟩
      have en1 : (n : Int) - 1 = (M : Int) := by omega
      have hMn : M < n := by omega
      have HCH := Lib.hid hch; have HN := Lib.hid hN2; have HX := Lib.hid hx0; have HNN := Lib.hid hn; have HKK := Lib.hid hK; have HM := Lib.hid hM; have HEL := Lib.hid hel
      clear hN hN2 hch hx0 hn1 h5 hn hK hk hlt hM hel
      go_wp2_with fail
      refine (encode_any s W.heap.size _ (by omega) HCH.out.size).mono ?_; rintro e w2 ⟨v, rfl, c2, o2⟩
      have o2' : w2.ownsRow W.heap.size 5 1 v n (rowB (enc (bx s))) := by rw [HNN.out, ← HEL.out]; exact o2
      rcases o2'.2 with ⟨_, hz⟩ | ⟨g, vc, cur, rfl, hbg, hg, hnc, hcm, hcs, htk⟩
      · omega
      have hg : At w2 g (.cells cur 5 (0, 0)) := hg
      rw [Nat.mul_one] at htk
      have hcap : n ≤ cur.size := by omega
      have hlen : (enc (bx s)).length = n := by rw [HEL.out, HNN.out]
      have hdl : (enc (bx s)).dropLast = (enc (bx s)).take M := by rw [List.dropLast_eq_take, hlen, HM.out]
      have bl : BytesOf w2 (.slice (some ⟨g, 0, none⟩) M vc) (enc (bx s)).dropLast := by
        rw [hdl]
        refine bytes_row hg (by rw [List.length_take]; omega) (by omega) hcm ?_
        have := congrArg (List.take M) htk
        rw [List.take_take, Nat.min_eq_left (by omega)] at this
        rw [this]; simp [rowB, List.map_take]
      have e1 : ((n : Int) == 0) = false := by simp; omega
      have C2 := Lib.hid (HCH.out.trans' c2)
      have HG := Lib.hid hg; have HTK := Lib.hid htk; have HLEN := Lib.hid hlen; have HBL2 := Lib.hid bl; have HCAP := Lib.hid hcap
      clear o2 o2' hg htk hlen hdl bl hcs c2 HCH
      go_wp2_with fail
      refine (decode_any _ _ (s.size : Int) _ HBL2.out (by rw [List.length_dropLast, HLEN.out]; omega)).mono ?_; rintro e w3 ⟨he, c3⟩
      obtain ⟨y, er, hd⟩ : ∃ y er, dec (s.size : Int) (bitsOf (enc (bx s)).dropLast) = (y, er) := ⟨_, _, rfl⟩
      rw [hd] at he
      subst he
      have hne : er = 0 → y ≠ bx s := fun h => by subst h; exact dec_less HX.out hd
      have HG3 := Lib.hid (HG.out.chg c3 (by simp))
      have C3 := Lib.hid (C2.out.trans' c3)
      clear hd c3 C2 HG HBL2
      by_cases her : er = 0
      · subst her
        have hyn := hne rfl
        have hs1 : ((⟨(y).toArray⟩ : ByteArray).toList == s.toList) = false := by
          rw [ByteArray.toList_eq, ByteArray.toList_eq, beq_eq_false_iff_ne]
          intro h; exact hyn (by simpa [bx] using h)
        have hs2 : (y == s.toList) = false := by
          rw [ByteArray.toList_eq, beq_eq_false_iff_ne]
          intro h; exact hyn (by simpa [bx] using h)
        have hs3 : ¬ y = s.toList := by
          rw [ByteArray.toList_eq]
          intro h; exact hyn (by simpa [bx] using h)
        have hs4 : ¬ s.toList = y := fun h => hs3 h.symm
        have hs5 : ¬ (⟨(y).toArray⟩ : ByteArray).toList = s.toList := by simpa using hs1
        clear hne hyn
        by_cases hK0 : K = 0
        · have ek0 : ((K : Int) == 0) = true := by simp; omega
          clear hK0
          go_wp2_with fail
          go_ret
          exact ⟨rfl, C3.out.below_nil⟩
        · have ek0 : ((K : Int) == 0) = false := by simp; omega
          obtain ⟨A, hA, hA6⟩ := mask8 which
          obtain ⟨J, hJ⟩ : ∃ J, J = A % K := ⟨_, rfl⟩
          have hJK : J < K := by rw [hJ]; exact Nat.mod_lt _ (by omega)
          have eJ : (A : Int).tmod (K : Int) = (J : Int) := by rw [Int.tmod_eq_emod_of_nonneg (by omega), hJ]; simp
          have eJ2 : (A : Int) % (K : Int) = (J : Int) := by rw [hJ]; simp
          have ew1 : IntKind.i64.wrap ((n : Int) - 1) = (M : Int) := by rw [IntKind.wrap_i64]; omega
          have hcg : M < (enc (bx s)).length := by rw [HLEN.out]; exact hMn
          obtain ⟨c, hc⟩ : ∃ c, (enc (bx s))[M]? = some c := ⟨_, List.getElem?_eq_getElem hcg⟩
          have q0 : w3.cell? ⟨g, M, none⟩ = some (.int .u8 (c.toNat : Int)) := by
            refine HG3.out.cell ?_
            have h1 : (cur.toList.take n)[M]? = some (.int .u8 (c.toNat : Int)) := by rw [HTK.out, rowB_get, hc]; rfl
            rw [List.getElem?_take_of_lt hMn] at h1
            simpa using h1
          have qf := HG3.out.free M
          have hc6 : (c.toNat : Int) < 256 := by have := c.toNat_lt; omega
          have HC := Lib.hid hc; have HJ := Lib.hid hJ
          clear hK0 hc hJ hcg
          go_wp2_with fail
          go_region
          all_goals go_wp2_with fail
          rw [xor_u8 c J (by omega)]
          obtain ⟨d, hd⟩ : ∃ d : UInt8, d.toNat = c.toNat ^^^ 2 ^ J := ⟨UInt8.ofNat (c.toNat ^^^ 2 ^ J), by
            have : c.toNat ^^^ 2 ^ J < 2 ^ 8 := Nat.xor_lt_two_pow c.toNat_lt (Nat.pow_lt_pow_right (by omega) (by omega))
            rw [UInt8.toNat_ofNat']
            exact Nat.mod_eq_of_lt this⟩
          rw [← hd]
          have hb4 : BytesOf ((w3.setCell ⟨g, M, none⟩ (.int .u8 (d.toNat : Int))).drew) (.slice (some ⟨g, 0, none⟩) n vc) ((enc (bx s)).set M d) :=
            bytes_row ((HG3.out.set M (.int .u8 (d.toNat : Int))).drew) (by rw [List.length_set]; exact HLEN.out) hnc hcm (row_set HTK.out M d)
          refine (decode_any _ ((enc (bx s)).set M d) ((s.size : Int) + 1) _ hb4 (by rw [List.length_set, HLEN.out]; omega)).mono ?_; rintro e w5 ⟨he, c5⟩
          obtain ⟨r, hr1, hr2, hr3⟩ := turned_bits (x := bx s) HX.out (j := J) (c := c) (d := d) (by rw [← HNN.out, ← HN.out, ← HKK.out]; exact hJK) (by rw [← HNN.out, ← HM.out]; exact HC.out) hd
          rw [← HNN.out, ← HM.out] at hr1
          rw [hr1] at he
          have hfin := dec_turned (x := bx s) hr2 hr3 ((s.size : Int) + 1) (by rw [HBL.out])
          have C5 := Lib.hid ((C3.out.setCell (p := ⟨g, M, none⟩) (Or.inr hbg) (.int .u8 (d.toNat : Int))).drew.trans' c5)
          clear hr1 hr2 hr3 hb4 hd c5 q0 qf
          rcases hfin with hf | ⟨y2, hf, hy2⟩
          · rw [hf] at he
            subst he
            clear hf
            go_wp2_with fail
            go_ret
            exact ⟨rfl, C5.out.below_nil⟩
          · rw [hf] at he
            subst he
            clear hf
            have hs1 : ((⟨(y2).toArray⟩ : ByteArray).toList == s.toList) = false := by
              rw [ByteArray.toList_eq, ByteArray.toList_eq, beq_eq_false_iff_ne]
              intro h; exact hy2 (by simpa [bx] using h)
            have hs2 : (y2 == s.toList) = false := by
              rw [ByteArray.toList_eq, beq_eq_false_iff_ne]
              intro h; exact hy2 (by simpa [bx] using h)
            have hs3 : ¬ y2 = s.toList := by
              rw [ByteArray.toList_eq]
              intro h; exact hy2 (by simpa [bx] using h)
            have hs4 : ¬ s.toList = y2 := fun h => hs3 h.symm
            have hs5 : ¬ (⟨(y2).toArray⟩ : ByteArray).toList = s.toList := by simpa using hs1
            clear hy2
            go_wp2_with fail
            go_ret
            exact ⟨rfl, C5.out.below_nil⟩
      · have her1 : (((er : Nat) : Int) == 0) = false := by simp; omega
        have her2 : ¬ ((er : Nat) : Int) = 0 := by omega
        clear hne her
        by_cases hK0 : K = 0
        · have ek0 : ((K : Int) == 0) = true := by simp; omega
          clear hK0
          go_wp2_with fail
          go_ret
          exact ⟨rfl, C3.out.below_nil⟩
        · have ek0 : ((K : Int) == 0) = false := by simp; omega
          obtain ⟨A, hA, hA6⟩ := mask8 which
          obtain ⟨J, hJ⟩ : ∃ J, J = A % K := ⟨_, rfl⟩
          have hJK : J < K := by rw [hJ]; exact Nat.mod_lt _ (by omega)
          have eJ : (A : Int).tmod (K : Int) = (J : Int) := by rw [Int.tmod_eq_emod_of_nonneg (by omega), hJ]; simp
          have eJ2 : (A : Int) % (K : Int) = (J : Int) := by rw [hJ]; simp
          have ew1 : IntKind.i64.wrap ((n : Int) - 1) = (M : Int) := by rw [IntKind.wrap_i64]; omega
          have hcg : M < (enc (bx s)).length := by rw [HLEN.out]; exact hMn
          obtain ⟨c, hc⟩ : ∃ c, (enc (bx s))[M]? = some c := ⟨_, List.getElem?_eq_getElem hcg⟩
          have q0 : w3.cell? ⟨g, M, none⟩ = some (.int .u8 (c.toNat : Int)) := by
            refine HG3.out.cell ?_
            have h1 : (cur.toList.take n)[M]? = some (.int .u8 (c.toNat : Int)) := by rw [HTK.out, rowB_get, hc]; rfl
            rw [List.getElem?_take_of_lt hMn] at h1
            simpa using h1
          have qf := HG3.out.free M
          have hc6 : (c.toNat : Int) < 256 := by have := c.toNat_lt; omega
          have HC := Lib.hid hc; have HJ := Lib.hid hJ
          clear hK0 hc hJ hcg
          go_wp2_with fail
          go_region
          all_goals go_wp2_with fail
          rw [xor_u8 c J (by omega)]
          obtain ⟨d, hd⟩ : ∃ d : UInt8, d.toNat = c.toNat ^^^ 2 ^ J := ⟨UInt8.ofNat (c.toNat ^^^ 2 ^ J), by
            have : c.toNat ^^^ 2 ^ J < 2 ^ 8 := Nat.xor_lt_two_pow c.toNat_lt (Nat.pow_lt_pow_right (by omega) (by omega))
            rw [UInt8.toNat_ofNat']
            exact Nat.mod_eq_of_lt this⟩
          rw [← hd]
          have hb4 : BytesOf ((w3.setCell ⟨g, M, none⟩ (.int .u8 (d.toNat : Int))).drew) (.slice (some ⟨g, 0, none⟩) n vc) ((enc (bx s)).set M d) :=
            bytes_row ((HG3.out.set M (.int .u8 (d.toNat : Int))).drew) (by rw [List.length_set]; exact HLEN.out) hnc hcm (row_set HTK.out M d)
          refine (decode_any _ ((enc (bx s)).set M d) ((s.size : Int) + 1) _ hb4 (by rw [List.length_set, HLEN.out]; omega)).mono ?_; rintro e w5 ⟨he, c5⟩
          obtain ⟨r, hr1, hr2, hr3⟩ := turned_bits (x := bx s) HX.out (j := J) (c := c) (d := d) (by rw [← HNN.out, ← HN.out, ← HKK.out]; exact hJK) (by rw [← HNN.out, ← HM.out]; exact HC.out) hd
          rw [← HNN.out, ← HM.out] at hr1
          rw [hr1] at he
          have hfin := dec_turned (x := bx s) hr2 hr3 ((s.size : Int) + 1) (by rw [HBL.out])
          have C5 := Lib.hid ((C3.out.setCell (p := ⟨g, M, none⟩) (Or.inr hbg) (.int .u8 (d.toNat : Int))).drew.trans' c5)
          clear hr1 hr2 hr3 hb4 hd c5 q0 qf
          rcases hfin with hf | ⟨y2, hf, hy2⟩
          · rw [hf] at he
            subst he
            clear hf
            go_wp2_with fail
            go_ret
            exact ⟨rfl, C5.out.below_nil⟩
          · rw [hf] at he
            subst he
            clear hf
            have hs1 : ((⟨(y2).toArray⟩ : ByteArray).toList == s.toList) = false := by
              rw [ByteArray.toList_eq, ByteArray.toList_eq, beq_eq_false_iff_ne]
              intro h; exact hy2 (by simpa [bx] using h)
            have hs2 : (y2 == s.toList) = false := by
              rw [ByteArray.toList_eq, beq_eq_false_iff_ne]
              intro h; exact hy2 (by simpa [bx] using h)
            have hs3 : ¬ y2 = s.toList := by
              rw [ByteArray.toList_eq]
              intro h; exact hy2 (by simpa [bx] using h)
            have hs4 : ¬ s.toList = y2 := fun h => hs3 h.symm
            have hs5 : ¬ (⟨(y2).toArray⟩ : ByteArray).toList = s.toList := by simpa using hs1
            clear hy2
            go_wp2_with fail
            go_ret
            exact ⟨rfl, C5.out.below_nil⟩

/-! ### The row's step -/
theorem own : ownKnob Try.prog.godebug = none := by kernel_rfl
theorem laid : laidOutB Try.prog = true := by kernel_rfl

set_option maxRecDepth 100000 in
theorem lifted (os : Os) (started : os.Started) (H : Type) (enc : TypeId × Value → H) :
    ReturnsInHanded {} Try.checked os 7 .any (Rows.huffmanTurnedSpec.pre6 enc Try.prog Try.f7 Rows.huffmanTurnedRow.domain false) (Rows.huffmanTurnedSpec.post enc Try.prog Try.f7 false true false false) := by
  refine lift_law (C := Try.checked) (tb := 4) own started (by kernel_rfl) Try.func7
    (ChangeSpec.witness6 (enc := enc) (C := Try.checked) false ⟨#[], #[.string ⟨#[]⟩, .int .i64 0], []⟩ 8 (by kernel_rfl) (by kernel_rfl) (by kernel_rfl) (by kernel_rfl))
    laid (by rw [Try.params7]; intro t ht; simp only [List.mem_cons, List.not_mem_nil, or_false] at ht; rcases ht with rfl | rfl <;> exact ⟨by kernel_rfl, of_decide_eq_true (by kernel_rfl)⟩) (by kernel_rfl) Try.underlying4 rfl
    (fun ds h => by rw [Try.params7] at h; match ds, h with | [d0, d1], _ => rfl) ?_
  intro W base args ds before hval hA hlt hsz
  rw [Try.params7] at hA hval
  have hlt0 := hlt
  obtain ⟨v0, vs0, d0, ds0, p0, q0, hargs, rfl, rfl, h0, r0⟩ := trodAll_cons hA
  obtain ⟨v1, vs1, d1, ds1, p1, q1, rfl, rfl, rfl, h1, r1⟩ := trodAll_cons r0
  obtain ⟨rfl, rfl, rfl⟩ := trodAll_nil r1
  obtain rfl : args = #[v0, v1] := by cases args; simp_all
  have l0 : ∀ p ∈ p0, p.block < W.heap.size := fun x hx => hlt x (by simp [hx])
  have l1 : ∀ p ∈ p1, p.block < W.heap.size := fun x hx => hlt x (by simp [hx])
  obtain ⟨s0, rfl, rfl, rfl, m0⟩ := open_string Try.underlying9 (hval 0 9 v0 rfl rfl) h0
  obtain ⟨a1, rfl, rfl, rfl, wa1⟩ := open_int Try.underlying3 (hval 1 3 v1 rfl rfl) h1
  exact walk s0 a1 W m0

theorem over : Rows.huffmanTurnedRow.holds Try.pinned (OpenSpec.ofChange Rows.huffmanTurnedSpec) :=
  OpenClaim.holds_of_wide 7 Try.f7 rfl rfl rfl rfl rfl rfl rfl ⟨rfl, rfl, rfl, rfl, rfl⟩ rfl rfl rfl rfl rfl (by kernel_rfl) Try.func7 (by kernel_rfl)
    (of_decide_eq_true (by kernel_rfl)) (by unfold Func.isWrapper; first | (rw [if_pos (by decide +kernel)]; kernel_rfl) | (rw [if_neg (by decide +kernel)]; exact ⟨rfl, rfl⟩))
    (fun os started H enc _ => lifted os started H enc)

/-- The statement. -/
theorem proved : Rows.HuffmanTurnedSaid :=
  over
#print axioms proved

end Go.Proofs.Ytbdimpakieejjaa.Turned
