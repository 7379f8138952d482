/-
  The walk of huffman.Encode.
-/
import Derived.Test.YtmoeioaahampaaaCode
import Derived.Test.YtmoeioaahampaaaByte
namespace Go.Proofs.Ytmoeioaahampaaa.Hf
open Go.ChangeShapes Go.WideShapes Go.ChangeAt Go.RowKit
open Go.Proofs.Ytmoeioaahampaaa.B
set_option linter.unusedVariables false
set_option linter.unusedSimpArgs false

def bx (s : ByteArray) : List UInt8 := s.data.toList
/-- The bits of the first k octets of a text. -/
def T (s : ByteArray) (k : Nat) : List Bool := spell ((bx s).take k)
theorem T_succ (s : ByteArray) (k : Nat) (h : k < s.size) : T s (k + 1) = T s k ++ cb s[k].toNat := by
  unfold T bx
  rw [take_snoc s k h, spell_snoc]
theorem val_split (t : List Bool) (d : Nat) (h : d ≤ t.length) : val t = val (t.take d) * 2 ^ (t.length - d) + val (t.drop d) := by
  have := val_append (t.take d) (t.drop d)
  rw [List.take_append_drop, List.length_drop] at this
  exact this
theorem val_drop (t : List Bool) (d : Nat) (h : d ≤ t.length) : val (t.drop d) = val t % 2 ^ (t.length - d) := by
  have h1 := val_lt (t.drop d)
  rw [List.length_drop] at h1
  rw [val_split t d h, Nat.mul_comm, Nat.mul_add_mod, Nat.mod_eq_of_lt h1]
theorem val_take (t : List Bool) (d : Nat) (h : d ≤ t.length) : val (t.take d) = val t / 2 ^ (t.length - d) := by
  have h1 := val_lt (t.drop d)
  rw [List.length_drop] at h1
  rw [val_split t d h, Nat.mul_comm, Nat.mul_add_div (Nat.pow_pos (by omega)), Nat.div_eq_of_lt h1, Nat.add_zero]
theorem oct_at (t : List Bool) (d : Nat) (h : d + 8 ≤ t.length) : ((oct (t.drop d)).toNat : Nat) = val t / 2 ^ (t.length - d - 8) % 256 := by
  have h1 : val ((t.drop d).take 8) = val (t.drop d) / 2 ^ (t.length - d - 8) := by
    rw [val_take _ _ (by rw [List.length_drop]; omega), List.length_drop]
  have h2 := val_lt ((t.drop d).take 8)
  have h3 : ((t.drop d).take 8).length = 8 := by rw [List.length_take, List.length_drop]; omega
  rw [h3] at h2
  have h4 : ((oct (t.drop d)).toNat : Nat) = val ((t.drop d).take 8) := by unfold oct; simp; omega
  rw [h4, h1, val_drop t d (by omega)]
  have e : t.length - d = (t.length - d - 8) + 8 := by omega
  rw [e, Nat.pow_add, Nat.add_sub_cancel, Nat.mod_mul_right_div_self]
theorem u64_wrap (x : Nat) (h : x < 18446744073709551616) : IntKind.u64.wrap (x : Int) = x := by
  rw [IntKind.wrap_u64]; omega
theorem or_u64 (H L C : Nat) (hH : H < 256) (hL : L ≤ 30) (hC : C < 2 ^ L) : Go.bits .or .u64 (IntKind.u64.wrap ((H : Int) * 2 ^ L)) (IntKind.u64.wrap (C : Int)) = ((H * 2 ^ L + C : Nat) : Int) := by
  have hp := two_pow_le (n := L) hL
  have hHL : H * 2 ^ L ≤ 255 * 1073741824 := Nat.mul_le_mul (by omega) hp
  have e1 : ((H : Int) * 2 ^ L) = ((H * 2 ^ L : Nat) : Int) := by simp
  rw [e1, u64_wrap _ (by omega), u64_wrap _ (by omega)]
  have key : (BitVec.ofInt 64 ((H * 2 ^ L : Nat) : Int) ||| BitVec.ofInt 64 (C : Int)).toNat = H * 2 ^ L + C := by
    rw [BitVec.toNat_or, BitVec.toNat_ofInt, BitVec.toNat_ofInt]
    have a1 : (((H * 2 ^ L : Nat) : Int) % ((2 ^ 64 : Nat) : Int)).toNat = H * 2 ^ L := by omega
    have a2 : (((C : Nat) : Int) % ((2 ^ 64 : Nat) : Int)).toNat = C := by omega
    rw [a1, a2, ← Nat.shiftLeft_eq, Nat.shiftLeft_add_eq_or_of_lt hC]
  show IntKind.u64.wrap ((BitVec.ofInt 64 ((H * 2 ^ L : Nat) : Int) ||| BitVec.ofInt 64 (C : Int)).toNat : Nat) = _
  rw [key, u64_wrap _ (by omega)]

theorem and_u64 (V E : Nat) (hV : V < 18446744073709551616) (hE : E ≤ 30) : Go.bits .and .u64 (V : Int) (IntKind.u64.wrap (IntKind.u64.wrap ((2 : Int) ^ E) - 1)) = ((V % 2 ^ E : Nat) : Int) := by
  have hp := two_pow_le (n := E) hE
  have hpos : 0 < 2 ^ E := Nat.pow_pos (by omega)
  have e1 : ((2 : Int) ^ E) = ((2 ^ E : Nat) : Int) := by simp
  rw [e1, u64_wrap _ (by omega), show ((2 ^ E : Nat) : Int) - 1 = ((2 ^ E - 1 : Nat) : Int) by omega, u64_wrap _ (by omega)]
  have key : (BitVec.ofInt 64 (V : Int) &&& BitVec.ofInt 64 ((2 ^ E - 1 : Nat) : Int)).toNat = V % 2 ^ E := by
    rw [BitVec.toNat_and, BitVec.toNat_ofInt, BitVec.toNat_ofInt]
    have a1 : (((2 ^ E - 1 : Nat) : Int) % ((2 ^ 64 : Nat) : Int)).toNat = 2 ^ E - 1 := by omega
    have a2 : (((V : Nat) : Int) % ((2 ^ 64 : Nat) : Int)).toNat = V := by omega
    rw [a1, a2, Nat.and_two_pow_sub_one_eq_mod]
  show IntKind.u64.wrap ((BitVec.ofInt 64 (V : Int) &&& BitVec.ofInt 64 ((2 ^ E - 1 : Nat) : Int)).toNat : Nat) = _
  have := Nat.mod_lt V hpos
  rw [key, u64_wrap _ (by omega)]

theorem last_oct (t : List Bool) (n H B R : Nat) (hn : n = t.length / 8) (hB : B = t.length % 8) (hH : H = val (t.drop (8 * n))) (hR : R = 8 - B) (h0 : 0 < B) :
    IntKind.u8.wrap (Go.bits BinOp.or IntKind.u64 (IntKind.u64.wrap ((H : Int) * 2 ^ R)) (IntKind.u64.wrap (IntKind.u64.wrap ((2 : Int) ^ R) - 1))) = ((oct ((t ++ ones7).drop (8 * n))).toNat : Int) := by
  have hl : (t.drop (8 * n)).length = B := by rw [List.length_drop]; omega
  have hHlt : H < 2 ^ B := by rw [hH, ← hl]; exact val_lt _
  have hp := two_pow_le (n := R) (by omega)
  have hpos : 0 < 2 ^ R := Nat.pow_pos (by omega)
  have hpB : 2 ^ B ≤ 2 ^ 7 := Nat.pow_le_pow_right (by omega) (by omega)
  have e1 : ((2 : Int) ^ R) = ((2 ^ R : Nat) : Int) := by simp
  have e2 : IntKind.u64.wrap (IntKind.u64.wrap ((2 : Int) ^ R) - 1) = IntKind.u64.wrap ((2 ^ R - 1 : Nat) : Int) := by
    rw [e1, u64_wrap _ (by omega), show ((2 ^ R : Nat) : Int) - 1 = ((2 ^ R - 1 : Nat) : Int) by omega]
  rw [e2, or_u64 H R (2 ^ R - 1) (by omega) (by omega) (by omega)]
  have htk : ((t ++ ones7).drop (8 * n)).take 8 = t.drop (8 * n) ++ List.replicate R true := by
    rw [List.drop_append_of_le_length (by omega), List.take_append, hl, List.take_of_length_le (by omega), ones7, List.take_replicate]
    congr 2; omega
  have hv : val (((t ++ ones7).drop (8 * n)).take 8) = H * 2 ^ R + (2 ^ R - 1) := by
    rw [htk, val_append, val_ones, ← hH, List.length_replicate]
  have hlt : H * 2 ^ R + (2 ^ R - 1) < 256 := by
    have := val_lt (((t ++ ones7).drop (8 * n)).take 8)
    rw [hv] at this
    have h8 : (((t ++ ones7).drop (8 * n)).take 8).length = 8 := by rw [htk, List.length_append, hl, List.length_replicate]; omega
    rw [h8] at this; exact this
  have ho : (oct ((t ++ ones7).drop (8 * n))).toNat = H * 2 ^ R + (2 ^ R - 1) := by
    unfold oct; rw [hv]; simp; omega
  rw [ho, IntKind.wrap_u8]; omega

set_option maxRecDepth 100000 in
set_option maxHeartbeats 4000000 in
theorem encode_any (s : ByteArray) (base : Nat) (w : World) (hs : s.size ≤ 17592186044416) (hbs : base ≤ w.heap.size) :
    Calls Try.prog 73 #[.string s] w fun e w' => ∃ v, e = .returned v ∧ Chg [] w w' ∧ OwnB w' base v (enc (bx s)) := by
  go_enter Try.func73, Try.ntmps73
  go_wp2_with fail
  refine (made_any _).mono ?_; rintro e w1 ⟨b, rfl, hb, hc, hat⟩
  have HC1 := Lib.hid hc
  have hbw : b < w1.heap.size := hat.lt
  clear hc
  go_wp2_with fail
  go_loopw [4, 5, 6, 11] (fun ov hv bv iv wr => ∃ (k n H B : Nat) , k ≤ s.size ∧ iv = .int .i64 k ∧ n = (T s k).length / 8 ∧ B = (T s k).length % 8 ∧ bv = .int .i64 B ∧ H = val ((T s k).drop (8 * n)) ∧ hv = .int .u64 H ∧ OwnB wr base ov (chunks n (T s k)) ∧ (∀ g, ov.ownBlock = some g → w1.heap.size ≤ g) ∧ At wr b (bookO 257) ∧ Chg [] w1 wr) (fun _ _ _ iv _ => s.size - (intOf iv).toNat)
  case atStart =>
    have hT0 : T s 0 = [] := by simp [T, spell]
    refine ⟨0, 0, 0, 0, by omega, rfl, by rw [hT0]; rfl, by rw [hT0]; rfl, rfl, by rw [hT0]; rfl, rfl, OwnB.nil _ _, by simp [Value.ownBlock], hat, Chg.refl _⟩
  case round =>
    clear hat
    obtain ⟨k, n, H, B, hk, rfl, hn, hB, rfl, hH, rfl, hown, hfr, hat, hch⟩ := hrel
    by_cases hlt : k < s.size
    · obtain ⟨c, hcc⟩ : ∃ c, c = s[k] := ⟨_, rfl⟩
      have hc7 : c.toNat < 257 := by have := c.toNat_lt; omega
      have hc6 : (c.toNat : Int) < 256 := by have := c.toNat_lt; omega
      have c0 : wr.cell? ⟨b, c.toNat, none⟩ = some (.int .u32 (code c.toNat)) := hat.cell (book_code hc7)
      have c1 : wr.cell? ⟨b, 257 + c.toNat, none⟩ = some (.int .u8 (len c.toNat)) := hat.cell (book_len hc7)
      have hl1 : len c.toNat ≤ 30 := (of_sym hc7).2.1
      have hB8 : B < 8 := by omega
      obtain ⟨L, hL⟩ : ∃ L, L = len c.toNat := ⟨_, rfl⟩
      obtain ⟨C, hC⟩ : ∃ C, C = code c.toNat := ⟨_, rfl⟩
      rw [← hL] at c1 hl1
      rw [← hC] at c0
      rw [hcc] at c0 c1 hc6 hc7
      have HOWN := Lib.hid hown; have HFR := Lib.hid hfr; have HAT := Lib.hid hat; have HCH := Lib.hid hch; have HN := Lib.hid hn; have HB := Lib.hid hB; have HH := Lib.hid hH; have HCC := Lib.hid hcc; have HL := Lib.hid hL; have HC := Lib.hid hC
      clear hown hfr hat hch hn hB hH hcc hL hC
      go_wp2_with fail
      go_quiet (fail)
      go_wp2_with fail
      go_quiet (fail)
      go_wp2_with fail
      obtain ⟨D, hD⟩ : ∃ D, D = (T s (k + 1)).drop (8 * n) := ⟨_, rfl⟩
      have hT := T_succ s k hlt
      have hDl : D.length = B + L := by
        rw [hD, hT, List.length_drop, List.length_append, cb_length, HL.out, HCC.out]
        have := HN.out; have := HB.out; omega
      have hV : val D = H * 2 ^ L + C := by
        have e1 : D = (T s k).drop (8 * n) ++ cb s[k].toNat := by
          rw [hD, hT, List.drop_append_of_le_length (by have := HN.out; omega)]
        rw [e1, val_append, val_cb hc7, cb_length, ← HH.out, HC.out, HL.out, HCC.out]
      have hH2 : H < 256 := by
        have h1 := val_lt ((T s k).drop (8 * n))
        rw [← HH.out, List.length_drop] at h1
        have h2 : (T s k).length - 8 * n ≤ 8 := by have := HN.out; omega
        have h3 := Nat.pow_le_pow_right (n := 2) (by omega) h2
        omega
      have hC2 : C < 2 ^ L := by rw [HC.out, HL.out, HCC.out]; exact code_lt hc7
      rw [or_u64 H L C hH2 hl1 hC2, ← hV]
      have hvd := val_lt D
      have hp := two_pow_le (n := L) hl1
      have hvd2 : val D < 274877906944 := by
        rw [hV]
        have : H * 2 ^ L ≤ 255 * 1073741824 := Nat.mul_le_mul (by omega) hp
        omega
      obtain ⟨V, hVV⟩ : ∃ V, V = val D := ⟨_, rfl⟩
      rw [← hVV] at hvd2 ⊢
      have HD := Lib.hid hD; have HDL := Lib.hid hDl; have HV := Lib.hid hVV
      clear hT hV hVV hH2 hC2 hvd hp hDl hD c0 c1
      go_loopw [4, 6] (fun ov bv wr => ∃ (m E : Nat), n ≤ m ∧ 8 * (m - n) + E = B + L ∧ bv = .int .i64 E ∧ OwnB wr base ov (chunks m (T s (k + 1))) ∧ (∀ g, ov.ownBlock = some g → w1.heap.size ≤ g) ∧ At wr b (bookO 257) ∧ Chg [] w1 wr) (fun _ bv _ => (intOf bv).toNat)
      case atStart => exact ⟨n, B + L, Nat.le_refl _, by omega, by go_num, by rw [T_succ s k hlt, chunks_append _ _ _ (by have := HN.out; omega)]; exact HOWN.out.drewN _ |>.drewN _, HFR.out, (HAT.out.drewN _).drewN _, (HCH.out.drewN _).drewN _⟩
      case round =>
        clear HOWN HFR HAT HCH
        obtain ⟨m, E, hm, hE, rfl, hown, hfr, hat, hch⟩ := hrel
        have hE1 : E ≤ 38 := by omega
        have HOWN := Lib.hid hown; have HFR := Lib.hid hfr; have HAT := Lib.hid hat; have HCH := Lib.hid hch
        clear hown hfr hat hch
        by_cases h8 : 8 ≤ E
        · obtain ⟨c, hc⟩ : ∃ c, c = oct (D.drop (8 * (m - n))) := ⟨_, rfl⟩
          have hq : (V : Int) / 2 ^ (E - 8) % 256 = (c.toNat : Int) := by
            have h1 := oct_at D (8 * (m - n)) (by have := HDL.out; omega)
            rw [show D.length - 8 * (m - n) - 8 = E - 8 by have := HDL.out; omega, ← hc, ← HV.out] at h1
            rw [h1]; simp
          have HC := Lib.hid hc
          have hml : (chunks m (T s (k + 1))).length = m := chunks_length _ _
          have hml2 : m ≤ 70368744177664 := by
            have h1 : sl ((bx s).take (k + 1)) ≤ 30 * ((bx s).take (k + 1)).length := sl_le _
            have h2 : ((bx s).take (k + 1)).length ≤ k + 1 := by simp; omega
            have h3 : (T s (k + 1)).length = sl ((bx s).take (k + 1)) := rfl
            have h4 : 8 * m ≤ (T s (k + 1)).length := by
              have h5 := HDL.out
              rw [HD.out, List.length_drop] at h5
              omega
            omega
          have HML := Lib.hid hml
          clear hc hml
          have hsz1 : base ≤ wr.heap.size := by have h1 := HCH.out.size; have := HC1.out.size; omega
          go_wp2_with (at_builtin; refine app_bytes rfl _ _ rfl base _ _ rfl (HOWN.out.alloc _) _ [c] rfl (BytesOf.new _ _) (by simp) (by rw [HML.out]; simp; omega) (by simp; omega) ?_)
          intro v' w' hown' hch' hfr'
          go_wp2_with fail
          go_roundw
          case rel =>
            have hlo : ∀ x ∈ u4.ownBlock.toList, w1.heap.size ≤ x := fun x hx => HFR.out x (by simpa using hx)
            refine ⟨m + 1, E - 8, by omega, by omega, by rw [Int.natCast_sub h8]; rfl, ?_, ?_, (HAT.out.alloc _).chg hch' (fun hx => by have := hlo _ hx; omega), (HCH.out.alloc _).trans hch' (fun x hx => Or.inr (hlo x hx))⟩
            · have e1 : chunks (m + 1) (T s (k + 1)) = chunks m (T s (k + 1)) ++ [c] := by
                rw [chunks_succ, HC.out, HD.out, List.drop_drop]
                first | rw [show 8 * n + 8 * (m - n) = 8 * m by omega] | rw [show 8 * (m - n) + 8 * n = 8 * m by omega]
              rw [e1]; exact hown'
            · intro g hg
              rcases hfr' g hg with h1 | h1
              · exact HFR.out g h1
              · have := HCH.out.size; first | omega | (simp at h1; omega)
          case measure => simp [intOf]; omega
        · go_wp2_with fail
          rw [and_u64 V E (by omega) (by omega)]
          go_roundw
          case rel =>
            have hdl := HDL.out
            have hd := HD.out
            have hv := HV.out
            have hT1 : (T s (k + 1)).length = (T s k).length + len s[k].toNat := by rw [T_succ s k hlt, List.length_append, cb_length]
            have hl : (T s (k + 1)).length = 8 * m + E := by rw [hd, List.length_drop] at hdl; have := HN.out; omega
            refine ⟨k + 1, m, V % 2 ^ E, E, by omega, by go_num, by omega, by omega, rfl, ?_, rfl, HOWN.out, HFR.out, HAT.out, HCH.out⟩
            have e1 : (T s (k + 1)).drop (8 * m) = D.drop (8 * (m - n)) := by
              rw [hd, List.drop_drop]
              congr 1; omega
            rw [e1, val_drop D _ (by omega), hv]
            congr 2; omega
          case measure => simp [intOf]; omega
    · obtain rfl : k = s.size := by omega
      have hT : T s s.size = spell (bx s) := by unfold T bx; rw [List.take_of_length_le (by simp)]
      rw [hT] at hn hB hH hown
      have hsl : (spell (bx s)).length ≤ 30 * s.size := by
        have h1 := sl_le (bx s)
        have h2 : (bx s).length = s.size := by simp [bx]
        rw [h2] at h1; exact h1
      have HOWN := Lib.hid hown; have HFR := Lib.hid hfr; have HAT := Lib.hid hat; have HCH := Lib.hid hch; have HN := Lib.hid hn; have HB := Lib.hid hB; have HH := Lib.hid hH
      have hn0 : n ≤ 70368744177664 := by omega
      have hB7 : B ≤ 7 := by omega
      clear hown hfr hat hch hn hB hH hT
      by_cases hB0 : 0 < B
      · obtain ⟨R, hR⟩ : ∃ R, R = 8 - B := ⟨_, rfl⟩
        have hw8 : IntKind.i64.wrap (8 - (B : Int)) = (R : Int) := by rw [IntKind.wrap_i64]; omega
        have hR8 : R ≤ 8 := by omega
        have HR := Lib.hid hR
        clear hR
        go_wp2_with fail
        obtain ⟨c, hc⟩ : ∃ c, c = oct ((spell (bx s) ++ ones7).drop (8 * n)) := ⟨_, rfl⟩
        have heq : IntKind.u8.wrap (Go.bits BinOp.or IntKind.u64 (IntKind.u64.wrap ((H : Int) * 2 ^ R)) (IntKind.u64.wrap (IntKind.u64.wrap ((2 : Int) ^ R) - 1))) = (c.toNat : Int) := by
          rw [hc]; exact last_oct (spell (bx s)) n H B R HN.out HB.out HH.out HR.out hB0
        have HEQ := Lib.hid heq; have HC := Lib.hid hc
        have hlen : (chunks n (spell (bx s))).length + 1 ≤ 140737488355328 := by rw [chunks_length]; omega
        have hsz1 : base ≤ wr.heap.size + 1 := by have h1 := HCH.out.size; have := HC1.out.size; omega
        clear heq hc
        go_region_law (first
          | (refine step_bytes rfl _ _ rfl base u4 (chunks n (spell (bx s))) rfl (HOWN.out.alloc _) _ [c] rfl (by rw [HEQ.out]; exact (BytesOf.new _ _).chg0 ((Chg.refl _).drew)) (by simp) hlen (by simp; exact hsz1) ?_; intro v' w' hown' hch' hfr')
          | fail)
        go_wp2_with fail
        go_ret
        have hlo : ∀ x ∈ u4.ownBlock.toList, w1.heap.size ≤ x := fun x hx => HFR.out x (by simpa using hx)
        refine ⟨v', rfl, HC1.out.trans' ((HCH.out.alloc _).drew.trans hch' (fun x hx => Or.inr (hlo x hx))), ?_⟩
        have he : enc (bx s) = chunks n (spell (bx s)) ++ [c] := by
          have := HN.out; have := HB.out
          unfold enc need
          rw [show ((spell (bx s)).length + 7) / 8 = n + 1 by omega, chunks_succ, chunks_append _ _ _ (by omega), HC.out]
        rw [he]; exact hown'
      · go_wp2_with fail
        go_ret
        have h0 : B = 0 := by omega
        have he : enc (bx s) = chunks n (spell (bx s)) := by
          unfold enc need
          have := HN.out; have := HB.out
          rw [show ((spell (bx s)).length + 7) / 8 = n by omega, chunks_append _ _ _ (by omega)]
        exact ⟨u4, rfl, HC1.out.trans' HCH.out, by rw [he]; exact HOWN.out⟩
end Go.Proofs.Ytmoeioaahampaaa.Hf
