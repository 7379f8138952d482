/-
  The document's Decode.
-/
import Derived.Test.YtmoeioaahampaaaREnc
import Derived.Test.YtmoeioaahampaaaDec
import Derived.Laws.DeepStrings4
namespace Go.Proofs.Ytmoeioaahampaaa.Hf
open Go.ChangeShapes Go.WideShapes Go.ChangeAt Go.RowKit
open Go.Proofs.Ytmoeioaahampaaa.B
set_option linter.unusedVariables false
set_option linter.unusedSimpArgs false

def bstr (t : List Bool) : ByteArray := ⟨(btext t).toArray⟩
theorem bstr_size (t : List Bool) : (bstr t).size = t.length := by
  show (btext t).toArray.size = _
  simp [btext]
theorem bstr_toList (t : List Bool) : (bstr t).toList = btext t := by rw [ByteArray.toList_eq]; rfl
theorem bstr_extract (t : List Bool) (a n : Nat) : ((bstr t).extract a (a + n)).toList = btext ((t.drop a).take n) := by
  rw [ByteArray.toList_eq]
  have : ((bstr t).extract a (a + n)).data = (bstr t).data.extract a (a + n) := by first | rfl | simp
  rw [this]
  show ((btext t).toArray.extract a (a + n)).toList = _
  simp [btext, List.map_take, List.map_drop, List.extract_eq_take_drop]
theorem cut_str (s : ByteArray) (a n : Nat) (h : a + n ≤ s.size) (w : World) : (Instr.slice 9 (.string s) (some (.int .i64 (a : Int))) (some (.int .i64 ((a : Int) + (n : Int)))) none).run Try.prog w = .ok (.string (s.extract a (a + n))) w := by
  have e1 : (0 : Int) ≤ (a : Int) + (n : Int) ∧ (a : Int) + (n : Int) ≤ (s.size : Int) := by omega
  have e2 : (0 : Int) ≤ (a : Int) ∧ (a : Int) ≤ (a : Int) + (n : Int) := by omega
  rw [run_slice_string_if _ _ _ _ _ _ _ Try.underlying9, if_pos e1, if_pos e2]
  congr 3
/-- Does another row of bits stand at a place? -/
def beg (t : List Bool) (a : Nat) (c : List Bool) : Bool := decide (0 < c.length ∧ c.length ≤ t.length - a ∧ (t.drop a).take c.length = c)
set_option maxHeartbeats 4000000 in
theorem begins_any (t c : List Bool) (a : Nat) (ht : t.length ≤ 1000000) (ha : a ≤ t.length) (hc : c.length ≤ 1000) (w : World) :
    Calls Try.prog 93 #[.string (bstr t), .int .i64 a, .string (bstr c)] w fun e w' => e = .returned (.bool (beg t a c)) ∧ w = w' := by
  obtain ⟨T, hT⟩ : ∃ T, T = bstr t := ⟨_, rfl⟩
  obtain ⟨C, hC⟩ : ∃ C, C = bstr c := ⟨_, rfl⟩
  have hTs : T.size = t.length := by rw [hT, bstr_size]
  have hCs : C.size = c.length := by rw [hC, bstr_size]
  rw [← hT, ← hC]
  have hTb : T.size ≤ 1000000 := by omega
  have hCb : C.size ≤ 1000 := by omega
  have haT : a ≤ T.size := by omega
  have ha2 : (a : Int) ≤ (T.size : Int) := by omega
  have heq : ((T.extract a (a + C.size)).toList = C.toList) ↔ ((t.drop a).take c.length = c) := by
    rw [hCs, hT, bstr_extract, hC, bstr_toList]
    exact ⟨btext_inj, fun h => by rw [h]⟩
  have HT := Lib.hid hT; have HC := Lib.hid hC; have HTS := Lib.hid hTs; have HCS := Lib.hid hCs; have HEQ := Lib.hid heq
  clear hT hC hTs hCs heq
  by_cases h0 : 0 < C.size
  · have d0 : decide ((0 : Int) < (C.size : Int)) = true := by simp; omega
    have d0n : decide (0 < C.size) = true := by simpa using h0
    by_cases h1 : C.size ≤ T.size - a
    · have d1 : decide ((C.size : Int) ≤ (T.size : Int) - (a : Int)) = true := by simp; omega
      have hsum : (a : Int) + (C.size : Int) ≤ (T.size : Int) := by omega
      have hsl := fun w => cut_str T a C.size (by omega) w
      by_cases h2 : (T.extract a (a + C.size)).toList = C.toList
      · have e2 : ((T.extract a (a + C.size)).toList == C.toList) = true := by simpa using h2
        have hb : beg t a c = true := by unfold beg; exact decide_eq_true ⟨by have q1 := HCS.out; omega, by have q1 := HCS.out; have q2 := HTS.out; omega, HEQ.out.1 h2⟩
        rw [hb]
        clear h2 hb
        go_enter Try.func93, Try.ntmps93
        go_wp2_with fail
        go_ret
        exact ⟨rfl, rfl⟩
      · have e2 : ((T.extract a (a + C.size)).toList == C.toList) = false := by simpa using h2
        have hb : beg t a c = false := by unfold beg; exact decide_eq_false (fun h => h2 (HEQ.out.2 h.2.2))
        rw [hb]
        clear h2 hb
        go_enter Try.func93, Try.ntmps93
        go_wp2_with fail
        go_ret
        exact ⟨rfl, rfl⟩
    · have d1 : decide ((C.size : Int) ≤ (T.size : Int) - (a : Int)) = false := decide_eq_false (by omega)
      have hb : beg t a c = false := by unfold beg; exact decide_eq_false (fun h => h1 (by have q1 := HCS.out; have q2 := HTS.out; have q3 := h.2.1; omega))
      rw [hb]
      clear hb
      go_enter Try.func93, Try.ntmps93
      go_wp2_with fail
      go_ret
      exact ⟨rfl, rfl⟩
  · have d0 : decide ((0 : Int) < (C.size : Int)) = false := decide_eq_false (by omega)
    have hb : beg t a c = false := by unfold beg; exact decide_eq_false (fun h => h0 (by rw [HCS.out]; exact h.1))
    rw [hb]
    clear hb
    go_enter Try.func93, Try.ntmps93
    go_wp2_with fail
    go_ret
    exact ⟨rfl, rfl⟩
theorem beg_iff {t : List Bool} {a s : Nat} (hs : s < 257) : beg t a (cb s) = true ↔ cb s <+: t.drop a := by
  have h5 := of_sym hs
  have hl := cb_length s
  unfold beg
  rw [decide_eq_true_iff]
  constructor
  · rintro ⟨_, _, h⟩
    rw [← h]; exact List.take_prefix _ _
  · intro h
    refine ⟨by omega, ?_, ?_⟩
    · have := h.length_le; simpa using this
    · exact (List.prefix_iff_eq_take.1 h).symm
/-- The symbol at a place: -1: none. -/
theorem next_hit {t : List Bool} {a s : Nat} {r : List Bool} (g cap : Nat) (w : World) (ht : t.length ≤ 1000000) (ha : a ≤ t.length) (hc1 : 257 ≤ cap) (hc2 : cap ≤ maxLen) (hcell : ∀ s, s < 257 → w.cell? ⟨g, s, none⟩ = some (txt (btext (cb s))))
    (hs : s < 257) (hr : t.drop a = cb s ++ r) :
    Calls Try.prog 91 #[.string (bstr t), .int .i64 a, .slice (some ⟨g, 0, none⟩) 257 cap] w fun e w' => e = .returned (.int .i64 s) ∧ w = w' := by
  unfold maxLen at hc2
  have HC := Lib.hid hcell; have HR := Lib.hid hr
  obtain ⟨T, hT⟩ : ∃ T, T = bstr t := ⟨_, rfl⟩
  rw [← hT]
  have HT := Lib.hid hT
  clear hcell hr hT
  go_enter Try.func91, Try.ntmps91
  go_wp2_with fail
  go_loop [7] (fun kv => ∃ k : Nat, k ≤ s ∧ kv = .int .i64 k) (fun kv => 257 - (intOf kv).toNat)
  case atStart => exact ⟨0, by omega, rfl⟩
  case round =>
    obtain ⟨k, hk, rfl⟩ := hrel
    have hk7 : k < 257 := by omega
    have q0 := HC.out k hk7
    have hcl : (cb k).length ≤ 1000 := by rw [cb_length]; have := (of_sym hk7).2.1; omega
    obtain ⟨C, hC⟩ : ∃ C, C = bstr (cb k) := ⟨_, rfl⟩
    have q1 : w.cell? ⟨g, k, none⟩ = some (.string C) := by rw [q0, hC]; rfl
    have HCC := Lib.hid hC
    clear q0 hC
    go_wp2_with fail
    rw [HT.out, HCC.out]
    refine (begins_any t (cb k) a ht ha hcl _).mono ?_; rintro e w1 ⟨he, rfl⟩
    rw [← HT.out, ← HCC.out]
    by_cases hks : k = s
    · have hb : beg t a (cb k) = true := (beg_iff hk7).2 (by rw [HR.out, hks]; exact List.prefix_append _ _)
      rw [hb] at he
      subst he
      have HKS := Lib.hid hks
      clear hks hb
      go_wp2_with fail
      go_ret
      exact ⟨ret_int (by rw [HKS.out]), rfl⟩
    · have hb : beg t a (cb k) = false := by
        cases hq : beg t a (cb k) with
        | false => rfl
        | true =>
          obtain ⟨u, hu⟩ := (beg_iff hk7).1 hq
          rw [HR.out] at hu
          exact absurd (cb_inj hk7 hs hu).1 hks
      rw [hb] at he
      subst he
      clear hb
      go_wp2_with fail
      go_round
      case rel => exact ⟨k + 1, by omega, by go_num⟩
      case measure => simp [intOf] <;> omega
theorem next_none {t : List Bool} {a : Nat} (g cap : Nat) (w : World) (ht : t.length ≤ 1000000) (ha : a ≤ t.length) (hc1 : 257 ≤ cap) (hc2 : cap ≤ maxLen) (hcell : ∀ s, s < 257 → w.cell? ⟨g, s, none⟩ = some (txt (btext (cb s))))
    (hr : Free (t.drop a)) :
    Calls Try.prog 91 #[.string (bstr t), .int .i64 a, .slice (some ⟨g, 0, none⟩) 257 cap] w fun e w' => e = .returned (.int .i64 (-1)) ∧ w = w' := by
  unfold maxLen at hc2
  have HC := Lib.hid hcell; have HR := Lib.hid hr
  obtain ⟨T, hT⟩ : ∃ T, T = bstr t := ⟨_, rfl⟩
  rw [← hT]
  have HT := Lib.hid hT
  clear hcell hr hT
  go_enter Try.func91, Try.ntmps91
  go_wp2_with fail
  go_loop [7] (fun kv => ∃ k : Nat, k ≤ 257 ∧ kv = .int .i64 k) (fun kv => 257 - (intOf kv).toNat)
  case atStart => exact ⟨0, by omega, rfl⟩
  case round =>
    obtain ⟨k, hk, rfl⟩ := hrel
    by_cases hk7 : k < 257
    · have q0 := HC.out k hk7
      have hcl : (cb k).length ≤ 1000 := by rw [cb_length]; have := (of_sym hk7).2.1; omega
      obtain ⟨C, hC⟩ : ∃ C, C = bstr (cb k) := ⟨_, rfl⟩
      have q1 : w.cell? ⟨g, k, none⟩ = some (.string C) := by rw [q0, hC]; rfl
      have HCC := Lib.hid hC
      clear q0 hC
      go_wp2_with fail
      rw [HT.out, HCC.out]
      refine (begins_any t (cb k) a ht ha hcl _).mono ?_; rintro e w1 ⟨he, rfl⟩
      rw [← HT.out, ← HCC.out]
      have hb : beg t a (cb k) = false := by
        cases hq : beg t a (cb k) with
        | false => rfl
        | true => exact absurd ((beg_iff hk7).1 hq) (HR.out k hk7)
      rw [hb] at he
      subst he
      clear hb
      go_wp2_with fail
      go_round
      case rel => exact ⟨k + 1, by omega, by go_num⟩
      case measure => simp [intOf] <;> omega
    · go_wp2_with fail
      go_ret
      exact ⟨rfl, rfl⟩
/-- What the document's Decode comes to, from a place on. -/
theorem dec_at {most : Int} {t : List Bool} {out : List UInt8} {a s : Nat} {r : List Bool} (hs : s < 257) (h : dec most t = fin (drun most (st0 out) (t.drop a))) (hr : t.drop a = cb s ++ r) :
    (s = 256 → dec most t = ([], 3)) ∧ (s ≠ 256 → most ≤ (out.length : Int) → dec most t = ([], 4)) ∧ (s ≠ 256 → ¬ most ≤ (out.length : Int) → dec most t = fin (drun most (st0 (out ++ [UInt8.ofNat s])) (t.drop (a + len s)))) := by
  rw [hr, drun_hit most out hs] at h
  have hd : t.drop (a + len s) = r := by rw [← List.drop_drop, hr, List.drop_append_of_le_length (by rw [cb_length]; exact Nat.le_refl _), List.drop_of_length_le (by rw [cb_length]; exact Nat.le_refl _), List.nil_append]
  refine ⟨fun h6 => by rw [h, if_pos h6]; rfl, fun h6 hm => by rw [h, if_neg h6, if_pos hm]; rfl, fun h6 hm => by rw [h, if_neg h6, if_neg hm, hd]⟩
theorem take_bits (s : ByteArray) (k : Nat) (h : k < s.size) : bitsOf ((bx s).take (k + 1)) = bitsOf ((bx s).take k) ++ Hf.bits 8 s[k].toNat := by
  unfold bx
  rw [take_snoc s k h, bitsOf_append]; simp [bitsOf]
set_option maxRecDepth 100000 in
set_option maxHeartbeats 16000000 in
theorem rdecode_any (s : ByteArray) (most : Int) (hs : s.size ≤ 100000) (w : World) :
    Calls Try.prog 87 #[.string s, .int .i64 most] w fun e w' => e = .returned (.tuple #[txt (dec most (bitsOf (bx s))).1, .int .i64 ((dec most (bitsOf (bx s))).2 : Nat)]) ∧ Chg [] w w' := by
  obtain ⟨t, ht⟩ : ∃ t, t = bitsOf (bx s) := ⟨_, rfl⟩
  have htl : t.length ≤ 800000 := by
    have : (bx s).length = s.size := by simp [bx]
    rw [ht, bitsOf_length]; omega
  rw [← ht]
  have HTT := Lib.hid ht
  clear ht
  go_enter Try.func87, Try.ntmps87
  go_wp2_with fail
  have hown0 : OwnB (w.alloc (.cells #[] 5)) w.heap.size (.slice (some ⟨w.heap.size, 0, none⟩) 0 0) [] := OwnB.empty (Nat.le_refl _)
  have hch0 : Chg [] w (w.alloc (.cells #[] 5)) := (Chg.refl w).alloc _
  have HOWN0 := Lib.hid hown0; have HCH0 := Lib.hid hch0
  clear hown0 hch0
  go_loopw [6, 7] (fun bv iv wr => ∃ k : Nat, k ≤ s.size ∧ iv = .int .i64 k ∧ OwnB wr w.heap.size bv (btext (bitsOf ((bx s).take k))) ∧ Chg [] w wr) (fun _ iv _ => s.size - (intOf iv).toNat)
  case atStart => exact ⟨0, by omega, rfl, by simpa [bitsOf, btext] using HOWN0.out, HCH0.out⟩
  case round =>
    clear HOWN0 HCH0
    obtain ⟨k, hk, rfl, hown, hch⟩ := hrel
    by_cases hlt : k < s.size
    · have htb := take_bits s k hlt
      have hc6 : (s[k].toNat : Int) < 256 := by have := s[k].toNat_lt; omega
      have hcx : s[k].toNat < 4294967296 := by have := s[k].toNat_lt; omega
      have hl1 : (btext (bitsOf ((bx s).take k))).length ≤ 800000 := by
        have h2 : ((bx s).take k).length ≤ k := by simp; omega
        simp only [btext, List.length_map, bitsOf_length]; omega
      have HOWN := Lib.hid hown; have HCH := Lib.hid hch; have HTB := Lib.hid htb
      clear hown hch htb
      go_wp2_with fail
      refine (bits_any s[k].toNat 8 hcx (by omega) _).mono ?_; rintro e w1 ⟨rfl, h1⟩
      obtain ⟨C, hC⟩ : ∃ C : ByteArray, C = ⟨(btext (Hf.bits 8 s[k].toNat)).toArray⟩ := ⟨_, rfl⟩
      have hCl : C.data.toList = btext (Hf.bits 8 s[k].toNat) := by rw [hC]
      have hCs : C.size = 8 := by
        have : C.size = C.data.toList.length := by rw [Array.length_toList]; rfl
        rw [this, hCl]; simp [btext, bits_length]
      have hCs2 : C.size ≤ 8 := by omega
      rw [← hC]
      have hown1 := HOWN.out.chg h1 (fun _ _ => by simp)
      have hch1 := HCH.out.trans' h1
      have hsz1 := hch1.size
      have HOWN1 := Lib.hid hown1; have HCH1 := Lib.hid hch1; have HCL := Lib.hid hCl
      clear hown1 hch1 h1 hC hCl hCs HOWN HCH
      go_wp2_with (at_builtin; refine app_str rfl _ _ rfl w.heap.size _ _ rfl HOWN1.out C rfl (by omega) hsz1 ?_)
      intro v' w' hown' hch'
      go_wp2_with fail
      go_roundw
      case rel => exact ⟨k + 1, by omega, by go_num, by rw [HTB.out, btext_append, ← HCL.out]; exact hown', HCH1.out.trans hch' (fun x hx => Or.inr (owns_lo HOWN1.out x hx))⟩
      case measure => simp [intOf] <;> omega
    · obtain rfl : k = s.size := by omega
      rw [List.take_of_length_le (by simp [bx])] at hown
      rw [← HTT.out] at hown
      have hcv : (convert 22 9 u6).run Try.prog wr = .ok (.string (bstr t)) wr := hown.bytes.str
      have HCH := Lib.hid hch
      obtain ⟨S, hS⟩ : ∃ S, S = bstr t := ⟨_, rfl⟩
      have hSs : S.size = t.length := by rw [hS, bstr_size]
      have hSget : ∀ (i : Nat) (b : Bool), t[i]? = some b → ∃ h : i < S.size, S[i] = bch b := fun i b hb => by
        have h1 := btext_get hb
        have hi : i < S.size := by rw [hSs]; exact (List.getElem?_eq_some_iff.1 hb).1
        refine ⟨hi, ?_⟩
        have h2 : S.data.toList[i]? = some (bch b) := by rw [hS]; exact h1
        have h3 : S.data[i]? = some (bch b) := by simpa using h2
        exact (Array.getElem?_eq_some_iff.1 h3).2
      rw [← hS] at hcv
      have HS := Lib.hid hS; have HSS := Lib.hid hSs; have HSG := Lib.hid hSget
      have hSb : S.size ≤ 800000 := by omega
      clear hown hch hS hSs hSget
      go_wp2_with fail
      refine (codes_any _).mono ?_; rintro e w1 ⟨g, cap, rfl, h1, hg, hc1, hc2, hcell⟩
      have HC1 := Lib.hid (HCH.out.trans' h1); have HCELL := Lib.hid hcell
      unfold maxLen at hc2
      clear h1 hcell hcv
      go_wp2_with fail
      have hown0 : OwnB (w1.alloc (.cells #[] 5)) w1.heap.size (.slice (some ⟨w1.heap.size, 0, none⟩) 0 0) [] := OwnB.empty (Nat.le_refl _)
      have hch0 : Chg [] w1 (w1.alloc (.cells #[] 5)) := (Chg.refl w1).alloc _
      have HOWN0 := Lib.hid hown0; have HCH0 := Lib.hid hch0
      clear hown0 hch0
      go_loopw [10, 11] (fun ov av wt => ∃ (out : List UInt8) (a : Nat), a ≤ t.length ∧ out.length ≤ a ∧ av = .int .i64 a ∧ dec most t = fin (drun most (st0 out) (t.drop a)) ∧ OwnB wt w1.heap.size ov out ∧ Chg [] w1 wt) (fun _ av _ => 800001 - (intOf av).toNat)
      case atStart => exact ⟨[], 0, by omega, by simp, rfl, rfl, HOWN0.out, HCH0.out⟩
      case round =>
        clear HOWN0 HCH0
        obtain ⟨out, a, hat, hol, rfl, hdec, hown, hch⟩ := hrel
        obtain ⟨oa, oc, rfl⟩ := hown.slice
        have hcell : ∀ s, s < 257 → wr.cell? ⟨g, s, none⟩ = some (txt (btext (cb s))) := fun s hs => by rw [hch.cell hg (by simp)]; exact HCELL.out s hs
        have HDEC := Lib.hid hdec; have HOWN := Lib.hid hown; have HCH2 := Lib.hid hch; have HCE := Lib.hid hcell
        clear hdec hown hch hcell
        rcases part (t.drop a) with hfree | ⟨y, r, hy, hr⟩
        · go_wp2_with fail
          rw [HS.out]
          refine (next_none g cap _ (by omega) hat hc1 (by unfold maxLen; omega) HCE.out hfree).mono ?_; rintro e w2 ⟨rfl, rfl⟩
          rw [← HS.out]
          have hfin := fin_free most out hfree
          rw [← HDEC.out] at hfin
          have HFIN := Lib.hid hfin
          clear hfin hfree
          have hcv := HOWN.out.bytes.str
          have HCH3 := Lib.hid (HC1.out.trans' HCH2.out)
          clear HOWN HCH2 HCE HDEC
          by_cases h8 : 8 ≤ t.length - a
          · have hd : dec most t = ([], 3) := by rw [HFIN.out, if_pos (Or.inl (by rw [List.length_drop]; exact h8))]
            have e8 : decide ((8 : Int) ≤ (S.size : Int) - (a : Int)) = true := decide_eq_true (by have := HSS.out; omega)
            have HD := Lib.hid hd
            clear hd
            go_wp2_with fail
            go_ret2
            rw [HD.out]
            exact ⟨rfl, HCH3.out⟩
          · have e8 : decide ((8 : Int) ≤ (S.size : Int) - (a : Int)) = false := decide_eq_false (by have := HSS.out; omega)
            have haS : a ≤ S.size := by have := HSS.out; omega
            go_wp2_with fail
            go_loop [13] (fun iv => ∃ k : Nat, a ≤ k ∧ k ≤ t.length ∧ iv = .int .i64 k ∧ ∀ j, a ≤ j → j < k → t[j]? = some true) (fun iv => 800001 - (intOf iv).toNat)
            case atStart => exact ⟨a, Nat.le_refl _, hat, rfl, fun j h1 h2 => by omega⟩
            case round =>
              obtain ⟨k, hk1, hk2, rfl, hall⟩ := hrel
              by_cases hkt : k < t.length
              · obtain ⟨b, hb⟩ : ∃ b, t[k]? = some b := ⟨_, List.getElem?_eq_getElem hkt⟩
                obtain ⟨hkS, hkb⟩ := HSG.out k b hb
                have hdk : decide (k < S.size) = true := by simpa using hkS
                have HALL := Lib.hid hall; have HBK := Lib.hid hb
                cases b with
                | false =>
                  have e1 : ((S[k].toNat : Int) == 48) = true := by rw [hkb]; rfl
                  have hd : dec most t = ([], 3) := by
                    rw [HFIN.out, if_pos (Or.inr ?_)]
                    rw [List.all_eq_false]
                    refine ⟨false, ?_, by simp⟩
                    refine List.mem_of_getElem? (i := k - a) ?_
                    rw [List.getElem?_drop, show a + (k - a) = k by omega]; exact hb
                  have HD := Lib.hid hd
                  clear hd hkb hb hall
                  go_wp2_with fail
                  go_ret2
                  rw [HD.out]
                  exact ⟨rfl, HCH3.out⟩
                | true =>
                  have e1 : ((S[k].toNat : Int) == 48) = false := by rw [hkb]; rfl
                  clear hkb hb hall
                  go_wp2_with fail
                  go_round
                  case rel =>
                    refine ⟨k + 1, by omega, by omega, by go_num, fun j h1 h2 => ?_⟩
                    rcases Nat.lt_or_ge j k with h3 | h3
                    · exact HALL.out j h1 h3
                    · obtain rfl : j = k := by omega
                      exact HBK.out
                  case measure => simp [intOf] <;> omega
              · obtain rfl : k = t.length := by omega
                have hd : dec most t = (out, 0) := by
                  rw [HFIN.out, if_neg]
                  rintro (h | h)
                  · rw [List.length_drop] at h; exact h8 h
                  · rw [List.all_eq_false] at h
                    obtain ⟨x, hx, hx2⟩ := h
                    obtain ⟨j, hj⟩ := List.getElem?_of_mem hx
                    rw [List.getElem?_drop] at hj
                    have hjl := (List.getElem?_eq_some_iff.1 hj).1
                    have := hall (a + j) (by omega) hjl
                    rw [this] at hj
                    rw [← Option.some.inj hj] at hx2
                    simp at hx2
                have hkS : ¬ t.length < S.size := by have := HSS.out; omega
                have HD := Lib.hid hd
                clear hd hall
                go_wp2_with fail
                go_ret2
                rw [HD.out]
                exact ⟨rfl, HCH3.out⟩
        · obtain ⟨k1, k2, k3⟩ := dec_at hy HDEC.out hr
          have hlen5 := (of_sym hy).1
          have hlen30 := (of_sym hy).2.1
          have hal : a + len y ≤ t.length := by
            have h1 : (t.drop a).length = (cb y ++ r).length := by rw [hr]
            rw [List.length_drop, List.length_append, cb_length] at h1
            omega
          go_wp2_with fail
          rw [HS.out]
          refine (next_hit g cap _ (by omega) hat hc1 (by unfold maxLen; omega) HCE.out hy hr).mono ?_; rintro e w2 ⟨rfl, rfl⟩
          rw [← HS.out]
          have K1 := Lib.hid k1; have K2 := Lib.hid k2; have K3 := Lib.hid k3
          clear k1 k2 k3 hr
          have hy0 : ¬ (y : Int) < 0 := by omega
          by_cases h6 : y = 256
          · have hd := K1.out h6
            have HD := Lib.hid hd
            have e6 : ((y : Int) == 256) = true := by rw [h6]; rfl
            have HCH3 := Lib.hid (HC1.out.trans' HCH2.out)
            clear hd h6
            go_wp2_with fail
            go_ret2
            rw [HD.out]
            exact ⟨rfl, HCH3.out⟩
          · have e6 : ((y : Int) == 256) = false := by simp; omega
            by_cases hml : most ≤ (out.length : Int)
            · have hd := K2.out h6 hml
              have HD := Lib.hid hd
              have HCH3 := Lib.hid (HC1.out.trans' HCH2.out)
              clear hd h6
              go_wp2_with fail
              go_ret2
              rw [HD.out]
              exact ⟨rfl, HCH3.out⟩
            · have hd := K3.out h6 (by omega)
              obtain ⟨d, hdd⟩ : ∃ d : UInt8, d.toNat = y := ⟨UInt8.ofNat y, by simp; omega⟩
              have hdo : UInt8.ofNat y = d := by rw [← hdd]; simp
              rw [hdo] at hd
              have hdl : ¬ most ≤ (out.length : Int) := hml
              have q0 : wr.cell? ⟨g, y, none⟩ = some (.string (bstr (cb y))) := HCE.out y hy
              obtain ⟨C, hC⟩ : ∃ C, C = bstr (cb y) := ⟨_, rfl⟩
              have hCs : C.size = len y := by rw [hC, bstr_size, cb_length]
              rw [← hC] at q0
              have hCb : C.size ≤ 30 := by omega
              have HD := Lib.hid hd; have HDD := Lib.hid hdd; have HCS := Lib.hid hCs
              have hy6 : (y : Int) < 256 := by omega
              have hgw : g < wr.heap.size := Nat.lt_of_lt_of_le hg HCH2.out.size
              clear hd hdd hdo hC hCs h6 K1 K2 K3
              have hwy : IntKind.u8.wrap (y : Int) = (d.toNat : Int) := by rw [IntKind.wrap_u8, HDD.out]; omega
              have hq : ∀ w', Chg [] wr w' → w'.cell? ⟨g, y, none⟩ = some (.string C) := fun w' h => by rw [h.cell hgw (by simp)]; exact q0
              have HQ := Lib.hid hq
              clear hq q0
              rw [← HDD.out]
              have hd6 : (d.toNat : Int) < 256 := by have := d.toNat_lt; omega
              go_wp2_with (at_builtin; refine app_bytes rfl _ _ rfl w1.heap.size _ _ rfl (HOWN.out.alloc _) _ [d] rfl (BytesOf.new _ _) (by simp) (by simp; omega) (by have := HCH2.out.size; simp; omega) ?_)
              intro v' w' hown' hch' hfr'
              have hno : ∀ x ∈ (Value.slice oa out.length oc).ownBlock.toList, w1.heap.size ≤ x := owns_lo HOWN.out
              have q1 : w'.cell? ⟨g, d.toNat, none⟩ = some (.string C) := by
                rw [hch'.cell (by simp; omega) (fun hx => by have := hno g hx; omega) d.toNat, HDD.out]
                exact HQ.out _ ((Chg.refl wr).alloc _)
              have hch3 := (HCH2.out.alloc _).trans hch' (fun x hx => Or.inr (hno x hx))
              have HO3 := Lib.hid hown'; have HC3 := Lib.hid hch3
              have hgw3 : g < w'.heap.size := Nat.lt_of_lt_of_le hg hch3.size
              have hd7 : d.toNat < 257 := by omega
              clear hown' hch3 hch' hfr' hno
              go_wp2_with fail
              go_roundw
              case rel => exact ⟨out ++ [d], a + C.size, by have := HCS.out; omega, by have := HCS.out; simp; omega, by go_num, by rw [HCS.out]; exact HD.out, HO3.out, HC3.out⟩
              case measure => simp [intOf]; have := HCS.out; omega
end Go.Proofs.Ytmoeioaahampaaa.Hf
