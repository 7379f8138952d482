/-
  The walk of huffman.Decode.
-/
import Derived.Test.YtmoeioaahampaaaEnc
import Derived.Test.YtmoeioaahampaaaConv
namespace Go.Proofs.Ytmoeioaahampaaa.Hf
open Go.ChangeShapes Go.WideShapes Go.ChangeAt Go.RowKit
open Go.Proofs.Ytmoeioaahampaaa.B
set_option linter.unusedVariables false
set_option linter.unusedSimpArgs false

theorem bitsOf_get (l : List UInt8) (k : Nat) (c : UInt8) (h : l[k / 8]? = some c) : (bitsOf l)[k]? = some (c.toNat.testBit (7 - k % 8)) := by
  induction l generalizing k with
  | nil => simp at h
  | cons d l ih =>
    have h1 : bitsOf (d :: l) = bits 8 d.toNat ++ bitsOf l := by simp [bitsOf]
    rw [h1]
    rcases Nat.lt_or_ge k 8 with hk | hk
    · rw [List.getElem?_append_left (by rw [bits_length]; exact hk)]
      have h0 : k / 8 = 0 := by omega
      rw [h0] at h
      simp at h; subst h
      unfold bits
      rw [List.getElem?_map, List.getElem?_range hk]
      simp only [Option.map_some, Option.some.injEq]
      congr 1; omega
    · rw [List.getElem?_append_right (by rw [bits_length]; exact hk), bits_length]
      have := ih (k - 8) (by rw [show (k - 8) / 8 = k / 8 - 1 by omega]; rw [show k / 8 = (k / 8 - 1) + 1 by omega] at h; simpa using h)
      rw [this]
      congr 2; omega
theorem drun_next {most : Int} {st : St} {t : List Bool} {k : Nat} {x : Bool} (hx : t[k]? = some x) {s : St} (h : drun most (st0 []) (t.take k) = .go s) : drun most (st0 []) (t.take (k + 1)) = dstep most s x := by
  have hk := (List.getElem?_eq_some_iff.1 hx)
  rw [List.take_succ_eq_append_getElem hk.1, drun_append, h, hk.2]
  simp only [drun]
  cases dstep most s x <;> rfl
theorem dec_fail {most : Int} {t : List Bool} {k e : Nat} (h : drun most (st0 []) (t.take k) = .fail e) : dec most t = ([], e) := by
  unfold dec
  rw [← List.take_append_drop k t, drun_append, h]; rfl
theorem and1_u32 (c q : Nat) (hc : c < 256) : Go.bits BinOp.and IntKind.u32 ((c : Int) / 2 ^ q % 4294967296) 1 = ((c.testBit q).toNat : Int) := by
  have e1 : ((c : Int) / 2 ^ q % 4294967296) = ((c / 2 ^ q : Nat) : Int) := by
    have : c / 2 ^ q ≤ c := Nat.div_le_self _ _
    have e2 : ((c : Int) / 2 ^ q) = ((c / 2 ^ q : Nat) : Int) := by simp
    rw [e2]
    generalize c / 2 ^ q = y at *
    omega
  rw [e1]
  have key : (BitVec.ofInt 32 ((c / 2 ^ q : Nat) : Int) &&& BitVec.ofInt 32 1).toNat = c / 2 ^ q % 2 := by
    have : c / 2 ^ q ≤ c := Nat.div_le_self _ _
    rw [BitVec.toNat_and, BitVec.toNat_ofInt, BitVec.toNat_ofInt]
    have a1 : (((c / 2 ^ q : Nat) : Int) % ((2 ^ 32 : Nat) : Int)).toNat = c / 2 ^ q := by omega
    have a2 : ((1 : Int) % ((2 ^ 32 : Nat) : Int)).toNat = 2 ^ 1 - 1 := by decide
    rw [a1, a2, Nat.and_two_pow_sub_one_eq_mod]
  show IntKind.u32.wrap ((BitVec.ofInt 32 ((c / 2 ^ q : Nat) : Int) &&& BitVec.ofInt 32 1).toNat : Nat) = _
  have hb : (c.testBit q).toNat = c / 2 ^ q % 2 := Nat.toNat_testBit c q
  rw [key, hb, IntKind.wrap_u32]; omega
theorem or1_u32 (C : Nat) (x : Bool) (hC : C < 536870912) : Go.bits BinOp.or IntKind.u32 ((C : Int) * 2 % 4294967296) (x.toNat : Int) = ((2 * C + x.toNat : Nat) : Int) := by
  have key : (BitVec.ofInt 32 ((C : Int) * 2 % 4294967296) ||| BitVec.ofInt 32 (x.toNat : Int)).toNat = 2 * C + x.toNat := by
    rw [BitVec.toNat_or, BitVec.toNat_ofInt, BitVec.toNat_ofInt]
    have hx : x.toNat < 2 ^ 1 := by cases x <;> simp
    have a1 : (((C : Int) * 2 % 4294967296) % ((2 ^ 32 : Nat) : Int)).toNat = C * 2 ^ 1 := by omega
    have a2 : (((x.toNat : Nat) : Int) % ((2 ^ 32 : Nat) : Int)).toNat = x.toNat := by omega
    rw [a1, a2, ← Nat.shiftLeft_eq, ← Nat.shiftLeft_add_eq_or_of_lt hx, Nat.shiftLeft_eq]; omega
  show IntKind.u32.wrap ((BitVec.ofInt 32 ((C : Int) * 2 % 4294967296) ||| BitVec.ofInt 32 (x.toNat : Int)).toNat : Nat) = _
  have hx : x.toNat ≤ 1 := by cases x <;> simp
  rw [key, IntKind.wrap_u32]; omega

set_option maxRecDepth 100000 in
set_option maxHeartbeats 4000000 in
theorem decode_any (bv : Value) (l : List UInt8) (most : Int) (w : World) (hbv : BytesOf w bv l) (hl : l.length ≤ 17592186044416) :
    Calls Try.prog 81 #[bv, .int .i64 most] w fun e w' => e = .returned (.tuple #[.string ⟨(dec most (bitsOf l)).1.toArray⟩, .int .i64 ((dec most (bitsOf l)).2 : Nat)]) ∧ Chg [] w w' := by
  obtain ⟨ba, cap, rfl, hcap, hcapm⟩ := hbv.slice
  have hz2 := (zero_of_info info_sym).1
  have hz3 := (zero_of_info info_cnt).1
  have HBV := Lib.hid hbv
  clear hbv
  go_enter Try.func81, Try.ntmps81
  go_wp2_with fail
  refine (symbols_any _).mono ?_; rintro e w1 ⟨rfl, c1⟩
  go_wp2_with fail
  refine (counts_any _).mono ?_; rintro e w2 ⟨rfl, h2⟩
  have c2 := c1.trans' h2
  clear h2 c1
  have b2 : At ((w2.alloc (.cells symO 131)).alloc (.cells cntO 133)) w2.heap.size (.cells symO 131 (0, 0)) := At.alloc (At.new _ _) _
  have d2 : At ((w2.alloc (.cells symO 131)).alloc (.cells cntO 133)) (w2.heap.size + 1) (.cells cntO 133 (0, 0)) := At.new' (by simp)
  have b3 := At.row_ne (At.row b2 symC) (g := w2.heap.size + 1) cntC (by omega)
  have d3 := At.row (At.row_ne d2 (g := w2.heap.size) symC (by omega)) cntC
  have lt2 := c2.size
  have c3 := Chg.setRow (Chg.setRow ((c2.alloc (.cells symO 131)).alloc (.cells cntO 133)) (g := w2.heap.size) (Or.inr (by omega)) symC) (g := w2.heap.size + 1) (Or.inr (by omega)) cntC
  have HB2 := Lib.hid b2; have HD2 := Lib.hid (At.row_ne d2 (g := w2.heap.size) symC (by omega))
  clear c2 b2 d2
  go_wp2_with (first
    | (refine wpList_store_rowTo rfl 131 _ _ rfl rfl w2.heap.size symC (by rfl) (by rfl) 131 symO HB2.out sz_sym (by rw [symC_size, symO_size]) symC_one ?_)
    | (refine wpList_store_rowTo rfl 133 _ _ rfl rfl (w2.heap.size + 1) cntC (by rfl) (by rfl) 133 cntO HD2.out sz_cnt (by rw [cntC_size, cntO_size]) cntC_one ?_))
  clear HB2 HD2
  generalize (((w2.alloc (.cells symO 131)).alloc (.cells cntO 133)).setRow w2.heap.size symC).setRow (w2.heap.size + 1) cntC = w3 at *
  generalize w2.heap.size + 1 = B2 at *
  generalize w2.heap.size = B1 at *
  have l1 : B1 < w3.heap.size := b3.lt
  have l2 : B2 < w3.heap.size := d3.lt
  have C3 := Lib.hid c3
  clear c3 hz2 hz3
  obtain ⟨t, ht⟩ : ∃ t, t = bitsOf l := ⟨_, rfl⟩
  have hlen : t.length = 8 * l.length := by rw [ht, bitsOf_length]
  have HT := Lib.hid ht; have HLEN := Lib.hid hlen
  clear ht hlen
  go_loopw [8, 9, 10, 11, 12, 13, 23] (fun ov cv nv fv av xv iv wr => ∃ (k : Nat) (out : List UInt8) (C L : Nat) (X : Bool), k ≤ 8 * l.length ∧ drun most (st0 []) (t.take k) = .go ⟨out, C, L, X⟩ ∧ (St.mk out C L X).Inv ∧ out.length ≤ k ∧ iv = .int .i64 k ∧ cv = .int .u32 C ∧ nv = .int .i64 L ∧ fv = .int .u32 (fse L) ∧ av = .int .i64 (((ats L + cnt L : Nat) : Nat) : Int) ∧ xv = .bool X ∧ OwnB wr w3.heap.size ov out ∧ At wr B1 (.cells symC 131 (0, 0)) ∧ At wr B2 (.cells cntC 133 (0, 0)) ∧ Chg [] w3 wr) (fun _ _ _ _ _ _ iv _ => 8 * l.length - (intOf iv).toNat)
  case atStart => exact ⟨0, [], 0, 0, true, by omega, rfl, St.Inv.zero _, by simp, rfl, rfl, rfl, by rw [fse_zero]; rfl, rfl, rfl, OwnB.nil _ _, b3, d3, Chg.refl _⟩
  case round =>
    clear b3 d3
    obtain ⟨k, out, C, L, X, hk, hrun, hinv, hol, rfl, rfl, rfl, rfl, rfl, rfl, hown, b3, d3, hch⟩ := hrel
    by_cases hlt : k < 8 * l.length
    · obtain ⟨c, hc⟩ : ∃ c, l[k / 8]? = some c := ⟨_, List.getElem?_eq_getElem (by omega)⟩
      obtain ⟨bb, off, rfl, hbw, hcell⟩ := HBV.out.cell (by omega)
      have q0 : wr.cell? ⟨bb, off + k / 8, none⟩ = some (.int .u8 (c.toNat : Int)) := by
        have h1 := C3.out.trans' hch
        rw [h1.cell hbw (by simp)]; exact hcell _ _ hc
      have hc6 : (c.toNat : Int) < 256 := by have := c.toNat_lt; omega
      obtain ⟨x, hx⟩ : ∃ x, x = c.toNat.testBit (7 - k % 8) := ⟨_, rfl⟩
      have hget : t[k]? = some x := by rw [HT.out, bitsOf_get l k c hc, hx]
      obtain ⟨i1, i2, i3, i4⟩ := hinv.nums x
      simp only at i1 i2 i3 i4
      have q1 := d3.cell (cntC_get (n := L + 1) (by omega))
      clear hcell
      obtain ⟨f1, f2⟩ := (fst_bd (n := L + 1) (by omega))
      have hats := (fst_succ (n := L) (by omega)).2
      obtain ⟨A2, hA2⟩ : ∃ A, A = ats (L + 1) := ⟨_, rfl⟩
      obtain ⟨N, hN⟩ : ∃ N, N = cnt (L + 1) := ⟨_, rfl⟩
      obtain ⟨F, hF⟩ : ∃ F, F = fse L := ⟨_, rfl⟩
      obtain ⟨F2, hF1⟩ : ∃ F2, F2 = fst (L + 1) := ⟨_, rfl⟩
      obtain ⟨C2, hC2⟩ : ∃ C2, C2 = 2 * C + x.toNat := ⟨_, rfl⟩
      obtain ⟨J, hJ⟩ : ∃ J, J = C2 - F2 := ⟨_, rfl⟩
      rw [← hats]
      rw [← hA2] at f2 ⊢
      rw [← hN] at q1 f2
      rw [← hF]
      have hF2 : F2 = 2 * F := by rw [hF1, hF, i2]
      have hC9 : C < 536870912 := by
        have := hinv.hi; have := two_pow_le (n := L + 1) i1; simp only at *; rw [Nat.pow_succ] at this; omega
      have e1 := and1_u32 c.toNat (7 - k % 8) c.toNat_lt
      rw [← hx] at e1
      have e2 := or1_u32 C x hC9
      rw [← hC2, show (C : Int) * 2 % 4294967296 = (C : Int) * 2 by omega] at e2
      have hx1 : x.toNat ≤ 1 := by cases x <;> simp
      have hFC : F2 ≤ C2 := by rw [hF1, hC2]; exact i3
      have hC21 : C2 < 1073741824 := by omega
      have e3 : ((F : Int) * 2) = (F2 : Int) := by omega
      have hF9 : F < 536870912 := by omega
      have e7 : (C2 : Int) - F2 = (J : Int) := by omega
      have e4 : IntKind.u32.wrap ((C2 : Int) - F2) = (J : Int) := by rw [IntKind.wrap_u32]; omega
      have e5 : (((C2 : Int) - F2) % 4294967296) = (J : Int) := by omega
      have e6 : (((x.toNat : Nat) : Int) == 1) = x := by cases x <;> rfl
      have hN2 : N ≤ 257 := by omega
      have hA3 : A2 + N ≤ 257 := f2
      have hJ1 : J < 1073741824 := by omega
      have HOWN := Lib.hid hown; have HB3 := Lib.hid b3; have HD3 := Lib.hid d3; have HCH := Lib.hid hch; have HRUN := Lib.hid hrun; have HINV := Lib.hid hinv; have HX := Lib.hid hx; have HGET := Lib.hid hget; have HC := Lib.hid hc; have I2 := Lib.hid i2
      have HA2 := Lib.hid hA2; have HN := Lib.hid hN; have HF := Lib.hid hF; have HF1 := Lib.hid hF1; have HF2 := Lib.hid hF2; have HC2 := Lib.hid hC2; have HJ := Lib.hid hJ
      clear hown b3 d3 hch hrun hinv hx hget hc i2 hA2 hN hF hF1 hF2 hC2 hJ hats i3 i4 f1 f2
      cases X
      · skip
        -- no code of this length, or one
        by_cases hhit : J < N
        · have hk7 : A2 + J < 257 := by omega
          have q2 : wr.cell? ⟨B1, A2 + J, none⟩ = some (.int .u16 (sym (A2 + J))) := HB3.out.cell (symC_get hk7)
          have hs6 := sym_le hk7
          obtain ⟨s, hs⟩ : ∃ s, s = sym (A2 + J) := ⟨_, rfl⟩
          rw [← hs] at q2 hs6
          have HSM := Lib.hid hs
          clear hs
          have hstep : dstep most ⟨out, C, L, false⟩ x = if s = 256 then .fail 3 else if most ≤ (out.length : Int) then .fail 4 else .go ⟨out ++ [UInt8.ofNat s], 0, 0, true⟩ := by
            unfold dstep
            simp only
            rw [if_pos (by have h1 := HC2.out; have h2 := HF2.out; have h3 := HJ.out; have h4 := HN.out; unfold fse; rw [← HF1.out]; omega)]
            rw [show ats (L + 1) + (2 * C + x.toNat - fst (L + 1)) = A2 + J by rw [HA2.out, HJ.out, HC2.out, HF1.out], ← HSM.out]
          have HST := Lib.hid hstep
          clear hstep
          by_cases h6 : s = 256
          · subst h6
            go_wp2_with fail
            go_ret2
            have hd : dec most t = ([], 3) := dec_fail (k := k + 1) (by rw [drun_next (st := st0 []) HGET.out HRUN.out, HST.out]; rfl)
            rw [← HT.out, hd]
            exact ⟨rfl, C3.out.trans' HCH.out⟩
          · have h6b : ((s : Int) == 256) = false := by simp; omega
            by_cases hml : most ≤ (out.length : Int)
            · obtain ⟨oa, oc, rfl⟩ := HOWN.out.slice
              go_wp2_with fail
              go_ret2
              have hd : dec most t = ([], 4) := dec_fail (k := k + 1) (by rw [drun_next (st := st0 []) HGET.out HRUN.out, HST.out, if_neg h6, if_pos hml])
              rw [← HT.out, hd]
              exact ⟨rfl, C3.out.trans' HCH.out⟩
            · obtain ⟨d, hd⟩ : ∃ d : UInt8, d.toNat = s := ⟨UInt8.ofNat s, by simp; omega⟩
              have hdd : UInt8.ofNat s = d := by rw [← hd]; simp
              have HDD := Lib.hid hdd
              subst hd
              have hd6 : (d.toNat : Int) < 256 := by have := d.toNat_lt; omega
              clear hdd
              obtain ⟨oa, oc, rfl⟩ := HOWN.out.slice
              go_wp2_with (at_builtin; refine app_bytes rfl _ _ rfl w3.heap.size _ _ rfl (HOWN.out.alloc _) _ [d] rfl (BytesOf.new _ _) (by simp) (by simp; omega) (by simp; have := HCH.out.size; omega) ?_)
              intro v' w' hown' hch' hfr'
              go_wp2_with fail
              go_roundw
              case rel =>
                have hlo := owns_lo HOWN.out
                have hrun2 : drun most (st0 []) (t.take (k + 1)) = .go ⟨out ++ [d], 0, 0, true⟩ := by
                  rw [drun_next (st := st0 []) HGET.out HRUN.out, HST.out, if_neg h6, if_neg (by omega), HDD.out]
                exact ⟨k + 1, out ++ [d], 0, 0, true, by omega, hrun2, St.Inv.zero _, by simp; omega, by go_num, rfl, rfl, by rw [fse_zero]; rfl, rfl, rfl, hown', (HB3.out.alloc _).chg hch' (fun hx => by have := hlo _ hx; omega), (HD3.out.alloc _).chg hch' (fun hx => by have := hlo _ hx; omega), (HCH.out.alloc _).trans hch' (fun y hy => Or.inr (hlo y hy))⟩
              case measure => simp [intOf]; omega
        · go_wp2_with fail
          go_roundw
          case rel =>
            have hrun2 : drun most (st0 []) (t.take (k + 1)) = .go ⟨out, C2, L + 1, false && x⟩ := by
              rw [drun_next (st := st0 []) HGET.out HRUN.out]
              unfold dstep
              simp only
              rw [if_neg (by have h1 := HC2.out; have h2 := HF2.out; have h3 := HJ.out; have h4 := HN.out; unfold fse; rw [← HF1.out]; omega), HC2.out]
            have hst : dstep most ⟨out, C, L, false⟩ x = .go ⟨out, C2, L + 1, false && x⟩ := by rw [← drun_next (st := st0 []) HGET.out HRUN.out, hrun2]
            exact ⟨k + 1, out, C2, L + 1, false && x, by omega, hrun2, HINV.out.step hst, by omega, by go_num, rfl, by go_num, by unfold fse; rw [← HF1.out, ← HN.out]; go_num, by rw [HA2.out, HN.out]; go_num, by first | rfl | simp, HOWN.out, HB3.out, HD3.out, HCH.out⟩
          case measure => simp [intOf]; omega
      · skip
        -- no code of this length, or one
        by_cases hhit : J < N
        · have hk7 : A2 + J < 257 := by omega
          have q2 : wr.cell? ⟨B1, A2 + J, none⟩ = some (.int .u16 (sym (A2 + J))) := HB3.out.cell (symC_get hk7)
          have hs6 := sym_le hk7
          obtain ⟨s, hs⟩ : ∃ s, s = sym (A2 + J) := ⟨_, rfl⟩
          rw [← hs] at q2 hs6
          have HSM := Lib.hid hs
          clear hs
          have hstep : dstep most ⟨out, C, L, true⟩ x = if s = 256 then .fail 3 else if most ≤ (out.length : Int) then .fail 4 else .go ⟨out ++ [UInt8.ofNat s], 0, 0, true⟩ := by
            unfold dstep
            simp only
            rw [if_pos (by have h1 := HC2.out; have h2 := HF2.out; have h3 := HJ.out; have h4 := HN.out; unfold fse; rw [← HF1.out]; omega)]
            rw [show ats (L + 1) + (2 * C + x.toNat - fst (L + 1)) = A2 + J by rw [HA2.out, HJ.out, HC2.out, HF1.out], ← HSM.out]
          have HST := Lib.hid hstep
          clear hstep
          by_cases h6 : s = 256
          · subst h6
            go_wp2_with fail
            go_ret2
            have hd : dec most t = ([], 3) := dec_fail (k := k + 1) (by rw [drun_next (st := st0 []) HGET.out HRUN.out, HST.out]; rfl)
            rw [← HT.out, hd]
            exact ⟨rfl, C3.out.trans' HCH.out⟩
          · have h6b : ((s : Int) == 256) = false := by simp; omega
            by_cases hml : most ≤ (out.length : Int)
            · obtain ⟨oa, oc, rfl⟩ := HOWN.out.slice
              go_wp2_with fail
              go_ret2
              have hd : dec most t = ([], 4) := dec_fail (k := k + 1) (by rw [drun_next (st := st0 []) HGET.out HRUN.out, HST.out, if_neg h6, if_pos hml])
              rw [← HT.out, hd]
              exact ⟨rfl, C3.out.trans' HCH.out⟩
            · obtain ⟨d, hd⟩ : ∃ d : UInt8, d.toNat = s := ⟨UInt8.ofNat s, by simp; omega⟩
              have hdd : UInt8.ofNat s = d := by rw [← hd]; simp
              have HDD := Lib.hid hdd
              subst hd
              have hd6 : (d.toNat : Int) < 256 := by have := d.toNat_lt; omega
              clear hdd
              obtain ⟨oa, oc, rfl⟩ := HOWN.out.slice
              go_wp2_with (at_builtin; refine app_bytes rfl _ _ rfl w3.heap.size _ _ rfl (HOWN.out.alloc _) _ [d] rfl (BytesOf.new _ _) (by simp) (by simp; omega) (by simp; have := HCH.out.size; omega) ?_)
              intro v' w' hown' hch' hfr'
              go_wp2_with fail
              go_roundw
              case rel =>
                have hlo := owns_lo HOWN.out
                have hrun2 : drun most (st0 []) (t.take (k + 1)) = .go ⟨out ++ [d], 0, 0, true⟩ := by
                  rw [drun_next (st := st0 []) HGET.out HRUN.out, HST.out, if_neg h6, if_neg (by omega), HDD.out]
                exact ⟨k + 1, out ++ [d], 0, 0, true, by omega, hrun2, St.Inv.zero _, by simp; omega, by go_num, rfl, rfl, by rw [fse_zero]; rfl, rfl, rfl, hown', (HB3.out.alloc _).chg hch' (fun hx => by have := hlo _ hx; omega), (HD3.out.alloc _).chg hch' (fun hx => by have := hlo _ hx; omega), (HCH.out.alloc _).trans hch' (fun y hy => Or.inr (hlo y hy))⟩
              case measure => simp [intOf]; omega
        · go_wp2_with fail
          go_roundw
          case rel =>
            have hrun2 : drun most (st0 []) (t.take (k + 1)) = .go ⟨out, C2, L + 1, true && x⟩ := by
              rw [drun_next (st := st0 []) HGET.out HRUN.out]
              unfold dstep
              simp only
              rw [if_neg (by have h1 := HC2.out; have h2 := HF2.out; have h3 := HJ.out; have h4 := HN.out; unfold fse; rw [← HF1.out]; omega), HC2.out]
            have hst : dstep most ⟨out, C, L, true⟩ x = .go ⟨out, C2, L + 1, true && x⟩ := by rw [← drun_next (st := st0 []) HGET.out HRUN.out, hrun2]
            exact ⟨k + 1, out, C2, L + 1, true && x, by omega, hrun2, HINV.out.step hst, by omega, by go_num, rfl, by go_num, by unfold fse; rw [← HF1.out, ← HN.out]; go_num, by rw [HA2.out, HN.out]; go_num, by first | rfl | simp, HOWN.out, HB3.out, HD3.out, HCH.out⟩
          case measure => simp [intOf]; omega
    · obtain rfl : k = 8 * l.length := by omega
      have hdec : dec most t = fin (.go ⟨out, C, L, X⟩) := by
        unfold dec; rw [← hrun, List.take_of_length_le (by rw [HLEN.out]; omega)]
      have hcv := hown.bytes.str
      have HDEC := Lib.hid hdec; have HCH := Lib.hid hch
      clear hown b3 d3 hch hrun hinv hdec
      by_cases h8 : 8 ≤ L
      · go_wp2_with fail
        go_ret2
        rw [← HT.out, HDEC.out]
        exact ⟨by simp [fin, h8], C3.out.trans' HCH.out⟩
      · cases X
        · go_wp2_with fail
          go_ret2
          rw [← HT.out, HDEC.out]
          exact ⟨by simp [fin], C3.out.trans' HCH.out⟩
        · go_wp2_with fail
          go_ret2
          rw [← HT.out, HDEC.out]
          exact ⟨by simp [fin, h8], C3.out.trans' HCH.out⟩
end Go.Proofs.Ytmoeioaahampaaa.Hf
