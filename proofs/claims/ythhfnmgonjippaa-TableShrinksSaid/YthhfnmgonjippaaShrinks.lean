/-
  TableShrinks: who has less room keeps the newest: any fields, any two new Max.
-/
import Derived.Test.YthhfnmgonjippaaNew
namespace Go.Proofs.Ythhfnmgonjippaa.Tb.Shrinks
open Go.ChangeShapes Go.WideShapes Go.ChangeAt Go.RowKit
open Go.Proofs.Ythhfnmgonjippaa.B
set_option linter.unusedVariables false
set_option linter.unusedSimpArgs false

/-- How many of the newest have room. -/
structure Fits (R : Int) (es es3 : List Fd) (r : Nat) : Prop where
  le : r ≤ es.length
  len : es3.length = r
  get : ∀ k x, k < r → es.reverse[k]? = some x → es3.reverse[k]? = some x
  has : ∀ k, k ≤ r → r ≠ 0 → (tot (es.reverse.take k) : Int) ≤ R
  most : ∀ x, r < es.length → es.reverse[r]? = some x → R < tot (es.reverse.take r) + x.sz
theorem tot_take_succ {l : List Fd} {k : Nat} {f : Fd} (h : l[k]? = some f) : tot (l.take (k + 1)) = tot (l.take k) + f.sz := by
  obtain ⟨hk, rfl⟩ := List.getElem?_eq_some_iff.1 h
  rw [List.take_succ_eq_append_getElem hk, tot_append]; simp [tot]
theorem tot_take_mono (l : List Fd) {j k : Nat} (h : j ≤ k) : tot (l.take j) ≤ tot (l.take k) := by
  have h1 : l.take k = l.take j ++ (l.drop j).take (k - j) := by
    rw [← List.take_add]; congr 1; omega
  rw [h1, tot_append]; omega
/-- Two fits, one behind the other, are one to the lesser. -/
theorem fit_fit (a b : Nat) (es : List Fd) : fit 0 b (fit 0 a es) = fit 0 (min a b) es := by
  induction es with
  | nil => rfl
  | cons e es ih =>
    by_cases h1 : a < tot (e :: es) + 0
    · rw [fit, if_pos h1, ih]
      conv => rhs; rw [fit, if_pos (by omega)]
    · rw [fit, if_neg h1]
      by_cases h2 : b < tot (e :: es) + 0
      · rw [fit, if_pos h2]
        conv => rhs; rw [fit, if_pos (by omega)]
        have : ∀ l : List Fd, tot l ≤ tot (e :: es) → fit 0 b l = fit 0 (min a b) l := by
          intro l
          induction l with
          | nil => intro _; rfl
          | cons x l ih2 =>
            intro hl
            unfold fit
            by_cases h3 : b < tot (x :: l) + 0
            · rw [if_pos h3, if_pos (by omega)]
              exact ih2 (by simp [tot] at hl ⊢; omega)
            · rw [if_neg h3, if_neg (by omega)]
        exact this es (by simp [tot])
      · rw [fit, if_neg h2]
        conv => rhs; rw [fit, if_neg (by omega)]
theorem fits_of {a b : Int} {es es3 : List Fd} (ht : tot es ≤ 65536) (he : es3 = fit 0 (hgt b) (fit 0 (hgt a) es)) : ∃ r, Fits (min a b) es es3 r := by
  rw [fit_fit] at he
  obtain ⟨k, h1, h2, h3, h4⟩ := fit_spec 0 (min (hgt a) (hgt b)) es
  rw [h2] at he
  have hrev : es3.reverse = es.reverse.take (es.length - k) := by rw [he, drop_rev h1]
  have htk : tot (es.reverse.take (es.length - k)) = tot (es.drop k) := by rw [← hrev, he, tot_reverse]
  have hg : ∀ T : Nat, T ≤ 65536 → 0 < T → (T ≤ min (hgt a) (hgt b) ↔ (T : Int) ≤ min a b) := fun T hT h0 => by
    have e1 := hgt_cast a; have e2 := hgt_cast b
    omega
  refine ⟨es.length - k, by omega, by rw [he]; simp, fun j x hj hx => ?_, fun j hj hr => ?_, fun x hr hx => ?_⟩
  · rw [hrev, List.getElem?_take_of_lt hj]; exact hx
  · have hk : k < es.length := by omega
    have h5 := h4 hk
    have h6 := tot_take_mono es.reverse hj
    rw [htk] at h6
    have h7 := tot_drop_le es k
    have h8 : 0 < tot (es.drop k) := by
      obtain ⟨x, hx⟩ : ∃ x, es[k]? = some x := ⟨_, List.getElem?_eq_getElem hk⟩
      rw [tot_drop_succ hx]; simp [Fd.sz]; omega
    have h9 := (hg _ (by omega) h8).1 (by omega)
    omega
  · have hk : 0 < k := by omega
    have h5 := h3 (k - 1) (by omega)
    rw [List.getElem?_reverse hr, show es.length - 1 - (es.length - k) = k - 1 by omega] at hx
    have h6 := tot_drop_succ hx
    rw [show k - 1 + 1 = k by omega] at h6
    have h7 := tot_drop_le es (k - 1)
    rw [htk]
    have h8 : 0 < tot (es.drop (k - 1)) := by rw [h6]; simp [Fd.sz]; omega
    have h9 := mt (hg _ (by omega) h8).2 (by omega)
    omega
set_option maxRecDepth 100000 in
set_option maxHeartbeats 16000000 in
theorem walk (mx : Int) (v : Value) (zs : List Fd) (na nb : Int) (W : World) (ha : (Lit.int .i64 na).wf = true) (hb : (Lit.int .i64 nb).wf = true) (hzm : zs.length ≤ maxLen) (hsl : FdsOf W v zs) (hin : ∀ z ∈ zs, z.In) :
    Calls Try.prog 7 #[.int .i64 mx, v, .int .i64 na, .int .i64 nb] W fun e w' => e = .returned (.bool true) ∧ Below W.heap.size W w' := by
  obtain ⟨a, cap, rfl, hcap, hcapm⟩ := hsl.len
  obtain ⟨ha1, ha2⟩ := i64_bounds ha
  obtain ⟨hb1, hb2⟩ := i64_bounds hb
  have HSL := Lib.hid hsl; have HIN := Lib.hid hin
  unfold maxLen at hzm hcapm
  clear hsl hin ha hb
  go_enter Try.func7, Try.ntmps7
  go_wp2_with fail
  refine (shown_any _).mono ?_; rintro e w1 ⟨rfl, c1⟩
  go_wp2_with fail
  refine (H_new (W := W) mx _ c1.below_nil).mono ?_; rintro e w2 ⟨rfl, c2, F0, h2, f2⟩
  generalize w1.heap.size = p at *
  obtain ⟨m, hm⟩ : ∃ m, m = hgt mx := ⟨_, rfl⟩
  rw [← hm] at h2
  have hm6 : m ≤ 65536 := by rw [hm]; exact hgt_le mx
  have H2 := Lib.hid h2
  clear c1 c2 h2 f2 hm
  go_wp2_with fail
  go_loopw [11] (fun iv wr => ∃ (i : Nat) (F : List Nat) (es : List Fd), i ≤ zs.length ∧ i ≤ 60 ∧ iv = .int .i64 i ∧ es.length ≤ i ∧ Has W wr F p m es) (fun iv _ => 60 - (intOf iv).toNat)
  case atStart => exact ⟨0, F0, [], by omega, by omega, rfl, by simp, H2.out⟩
  case round =>
    clear H2
    obtain ⟨i, F, es, hi1, hi2, rfl, hel, hs⟩ := hrel
    by_cases hlt : i < zs.length ∧ i < 60
    · skip
      obtain ⟨hlt1, hlt2⟩ := hlt
      have hlt3 : (i : Int) < 60 := by omega
      obtain ⟨o, ho⟩ : ∃ o, zs[i]? = some o := ⟨_, List.getElem?_eq_getElem hlt1⟩
      obtain ⟨b, off, rfl, hbw, hcell⟩ := FdsOf.cells HSL.out (by omega)
      obtain ⟨d0, d1, d2⟩ := hcell i o ho
      have hbc : ∀ j, wr.cell? ⟨b, j, none⟩ = W.cell? ⟨b, j, none⟩ := fun j => hs.below.cell (p := ⟨b, j, none⟩) hbw
      rw [← hbc] at d0 d1 d2
      have hfs := (HIN.out o (List.mem_of_getElem? ho)).sz
      have HS := Lib.hid hs; have HO := Lib.hid ho
      clear hcell hs ho hbc
      go_wp2_with fail
      refine (H_add o _ HS.out hfs).mono ?_; rintro e w3 ⟨rfl, ⟨F3, h3, f3⟩, c3⟩
      have hl3 := addS_len o m es
      have H3 := Lib.hid h3
      clear h3 f3 c3
      go_wp2_with fail
      go_roundw
      case rel => exact ⟨i + 1, F3, _, by omega, by omega, by go_num, by omega, H3.out⟩
      case measure => simp [intOf] <;> omega
    · skip
      have hways : (i < zs.length ∧ ¬ (i : Int) < 60 ∧ decide (i < zs.length) = true ∧ decide ((i : Int) < 60) = false) ∨ (¬ i < zs.length ∧ (0 : Int) ≤ (i : Int) ∧ decide (i < zs.length) = false ∧ (0 : Int) ≤ 1) := by
        by_cases h1 : i < zs.length
        · have h2 := off_and hlt h1
          exact Or.inl ⟨h1, h2, by simpa using h1, by simp; omega⟩
        · exact Or.inr ⟨h1, by omega, by simpa using h1, by omega⟩
      have HS := Lib.hid hs
      have helm : es.length ≤ 60 := by omega
      have hinv := hs.inv
      have HINV := Lib.hid hinv
      clear hs hlt hel hi1 hi2 hinv
      rcases hways with ⟨h1, h2, hd1, hd2⟩ | ⟨h1, h2, hd1, hd2⟩
      all_goals
        go_wp2_with fail
        obtain ⟨Z, hZ⟩ : ∃ Z, Z = wr.heap.size := ⟨_, rfl⟩
        have hFZ : ∀ x ∈ F, x < Z := by rw [hZ]; exact HS.out.lt
        have hZw : Z ≤ wr.heap.size := by omega
        have hWZ : W.heap.size ≤ Z := by rw [hZ]; exact HS.out.below.size
        have HZ := Lib.hid hZ; have HFZ := Lib.hid hFZ
        clear hZ hFZ h1 h2 hd1 hd2
        go_loopw [12, 13] (fun ov kv wt => ∃ k : Nat, k ≤ es.length ∧ kv = .int .i64 k ∧ OwnF wt Z ov (es.reverse.take k) ∧ Z ≤ wt.heap.size ∧ Has W wt F p m es) (fun _ kv _ => es.length - (intOf kv).toNat)
        case atStart => exact ⟨0, by omega, rfl, OwnR.nil _ _, hZw, HS.out⟩
        case round =>
          clear HS hZw
          obtain ⟨k, hk, rfl, hown, hzt, hs⟩ := hrel
          by_cases hlt : k < es.length
          · skip
            obtain ⟨x, hx1, hx2⟩ := rev_get hlt
            have hat : atR es ((k : Int) + 62) = (x, true) := atR_high hx1 hlt
            have htk : es.reverse.take (k + 1) = es.reverse.take k ++ [x] := by
              obtain ⟨q1, q2⟩ := List.getElem?_eq_some_iff.1 hx2
              rw [List.take_succ_eq_append_getElem q1, q2]
            have hkl : (es.reverse.take k).length = k := by simp; omega
            have hd3 : decide (k < es.length) = true := by simpa using hlt
            have hk100 : (k : Int) < 100 := by omega
            have hd4 : decide ((k : Int) < 100) = true := by simpa using hk100
            have HS := Lib.hid hs; have HOWN := Lib.hid hown; have HAT := Lib.hid hat; have HTK := Lib.hid htk; have HKL := Lib.hid hkl
            clear hs hown hat htk hkl hx1 hx2
            go_wp2_with fail
            refine (H_len _ HS.out).mono ?_; rintro e w3 ⟨rfl, rfl⟩
            go_wp2_with fail
            rw [show (62 : Int) + (k : Int) = (k : Int) + 62 by omega]
            refine (H_at _ _ HS.out (by omega)).mono ?_; rintro e w4 ⟨he, hc⟩
            rw [HAT.out] at he
            simp only [aF] at he
            subst he
            have h4 := HS.out.chg0 hc
            have o4 : OwnF w4 Z u12 (es.reverse.take k) := OwnR.chg0 HOWN.out hc
            have z4 : Z ≤ w4.heap.size := Nat.le_trans hzt hc.size
            have H4 := Lib.hid h4; have O4 := Lib.hid o4
            clear h4 o4 hc HS HOWN
            go_wp2_with (at_builtin; refine app_row encF_len encF_one 25 Try.underlying25 infoF rfl (by decide) rfl _ _ rfl Z u12 _ rfl (OwnR.alloc (OwnR.alloc O4.out _) _) _ [x] rfl (one_field' _ x (k := w4.heap.size + 1) (by simp)) (by rw [HKL.out]; simp [maxLen]; omega) (by rw [HKL.out]; simp; omega) (by simp; omega) ?_)
            intro v' w' hown' hch' hfr'
            have hno : ∀ y ∈ (u12).ownBlock.toList, Z ≤ y := OwnR.lo O4.out
            have h5 := ((H4.out.alloc (.cells #[.string x.n, .string x.v, .bool x.nv] 23)).alloc (.cells #[.string x.n, .string x.v, .bool x.nv] 23)).chg hch' (fun y hy hy2 => by have := HFZ.out y hy; have := hno y hy2; omega) (fun y hy => by have := hno y hy; omega)
            have z5 : Z ≤ w'.heap.size := by have := hch'.size; simp at this; omega
            rw [← HTK.out] at hown'
            have H5 := Lib.hid h5; have O5 := Lib.hid hown'
            clear h5 hown' hch' hfr' hno H4 O4
            go_wp2_with fail
            go_roundw
            case rel => exact ⟨k + 1, by omega, by go_num, O5.out, z5, H5.out⟩
            case measure => simp [intOf] <;> omega
          · obtain rfl : k = es.length := by omega
            rw [List.take_of_length_le (by simp)] at hown
            have hd3 : decide (es.length < es.length) = false := by simp
            obtain ⟨wa, wc, rfl, hwc1, hwc2⟩ := OwnR.slice hown
            rw [List.length_reverse] at hown
            have HS := Lib.hid hs; have HOWN := Lib.hid hown
            clear hs hown hwc1
            unfold maxLen at hwc2
            go_wp2_with fail
            refine (H_len _ HS.out).mono ?_; rintro e w3 ⟨rfl, rfl⟩
            go_wp2_with fail
            refine (H_set na _ HS.out).mono ?_; rintro e w4 ⟨rfl, ⟨F4, h4, f4⟩, c4⟩
            have hown4 : OwnF w4 Z (.slice wa es.length wc) es.reverse := OwnR.chg HOWN.out c4 (fun g hg hx => by have := HFZ.out g hx; have := OwnR.lo HOWN.out g (by simpa using hg); omega)
            have hF4 : ∀ x ∈ F4, ∀ g, (Value.slice wa es.length wc).ownBlock = some g → x ≠ g := fun x hx g hg hxg => by
              rcases f4 x hx with h | h
              · have := HFZ.out x h; have := OwnR.lo HOWN.out g (by simpa using hg); omega
              · have := OwnR.lt HOWN.out g (by simpa using hg); omega
            have H4 := Lib.hid h4; have O4 := Lib.hid hown4; have F4' := Lib.hid hF4
            clear h4 f4 c4 hown4 hF4 HS HOWN
            go_wp2_with fail
            refine (H_set nb _ H4.out).mono ?_; rintro e w5 ⟨rfl, ⟨F5, h5, f5⟩, c5⟩
            have hown5 : OwnF w5 Z (.slice wa es.length wc) es.reverse := OwnR.chg O4.out c5 (fun g hg hx => F4'.out g hx g hg rfl)
            obtain ⟨es3, hes3⟩ : ∃ es3, es3 = fit 0 (hgt nb) (fit 0 (hgt na) es) := ⟨_, rfl⟩
            obtain ⟨m3, hm3⟩ : ∃ m3, m3 = hgt nb := ⟨_, rfl⟩
            rw [← hes3, ← hm3] at h5
            obtain ⟨r, hP⟩ := fits_of (a := na) (b := nb) (es := es) (by have := HINV.out.t; omega) hes3
            obtain ⟨R, hR⟩ : ∃ R, R = min na nb := ⟨_, rfl⟩
            rw [← hR] at hP
            have hRm : min na nb = R := hR.symm
            have hR1 : -9223372036854775808 ≤ R := by omega
            have hR2 : R ≤ 9223372036854775807 := by omega
            have hws5 := OwnF.sl hown5
            have H5 := Lib.hid h5; have W5 := Lib.hid hws5; have HP := Lib.hid hP; have HR := Lib.hid hRm
            have hrle := hP.le
            clear h5 f5 c5 hown5 hes3 hm3 hP hR hRm hws5 H4 O4 F4'
            go_wp2_with fail
            rw [HR.out]
            go_loopw [16, 17] (fun rv kv wt => ∃ (k : Nat) (P : Int), k ≤ r ∧ kv = .int .i64 k ∧ P = R - tot (es.reverse.take k) ∧ rv = .int .i64 P ∧ FdsOf wt (.slice wa es.length wc) es.reverse ∧ Has W wt F5 p m3 es3) (fun _ kv _ => r - (intOf kv).toNat)
            case atStart => exact ⟨0, R, by omega, rfl, by simp [tot], rfl, W5.out, H5.out⟩
            case round =>
              clear W5 H5
              obtain ⟨k, P, hkr, rfl, hP, rfl, hws, hs⟩ := hrel
              by_cases hke : k < es.length
              · obtain ⟨x, hx1, hx2⟩ := rev_get hke
                have hxs : x.sz ≤ 65536 := HINV.out.sz (List.mem_of_getElem? hx1)
                obtain ⟨bw, offw, rfl, hbw9, hcw⟩ := FdsOf.cells hws (by simp; omega)
                obtain ⟨g0, g1, g2⟩ := hcw k x hx2
                have hts := tot_take_succ hx2
                have hd3 : decide (k < es.length) = true := by simpa using hke
                have hk0 : (0 : Int) ≤ (k : Int) := by omega
                have hki : (k : Int) < (es.length : Int) := by omega
                by_cases hk2 : k < r
                · have hle : (x.sz : Int) ≤ P := by have := HP.out.has (k + 1) (by omega) (by omega); omega
                  have hd5 : decide ((x.sz : Int) ≤ P) = true := by simpa using hle
                  have hP2 : P - (x.sz : Int) = R - tot (es.reverse.take (k + 1)) := by omega
                  have hPb : P ≤ 9223372036854775807 := by omega
                  have HPP := Lib.hid hP2; have HS := Lib.hid hs; have HW := Lib.hid hws
                  clear hws hs hcw hx1 hx2 hts hP hP2
                  go_wp2_with fail
                  refine (size_any x _ (by omega)).mono ?_; rintro e w6 ⟨rfl, rfl⟩
                  go_wp2_with fail
                  refine (size_any x _ (by omega)).mono ?_; rintro e w6 ⟨rfl, rfl⟩
                  go_wp2_with fail
                  go_roundw
                  case rel => exact ⟨k + 1, P - x.sz, by omega, by go_num, HPP.out, rfl, SliceOf.chg0 HW.out (((Chg.refl _).alloc _).alloc _), (HS.out.alloc _).alloc _⟩
                  case measure => simp [intOf] <;> omega
                · obtain rfl : k = r := by omega
                  have hgt : P < (x.sz : Int) := by have := HP.out.most x hke hx2; omega
                  have hd5 : decide ((x.sz : Int) ≤ P) = false := by simp; omega
                  have hs9 := hs.alloc (.cells #[.string x.n, .string x.v, .bool x.nv] 23)
                  have hw9 := SliceOf.chg0 hws ((Chg.refl _).alloc (.cells #[.string x.n, .string x.v, .bool x.nv] 23))
                  have HS := Lib.hid hs9; have HW := Lib.hid hw9; have HL := Lib.hid HP.out.len
                  clear hws hs hcw hx1 hx2 hts hP hs9 hw9
                  go_wp2_with fail
                  refine (size_any x _ (by omega)).mono ?_; rintro e w6 ⟨rfl, rfl⟩
                  clear g0 g1 g2
                  go_wp2_with fail
                  refine (H_len _ HS.out).mono ?_; rintro e w7 ⟨he, rfl⟩
                  rw [HL.out] at he
                  subst he
                  go_wp2_with fail
                  go_loopw [18] (fun kv wt => ∃ q : Nat, q ≤ k ∧ kv = .int .i64 q ∧ FdsOf wt (.slice (some ⟨bw, offw, none⟩) es.length wc) es.reverse ∧ Has W wt F5 p m3 es3) (fun kv _ => k - (intOf kv).toNat)
                  case atStart => exact ⟨0, by omega, rfl, HW.out, HS.out⟩
                  case round =>
                    clear HS HW
                    obtain ⟨q, hq, rfl, hws, hs⟩ := hrel
                    by_cases hq2 : q < k
                    · obtain ⟨y, hy1, hy2⟩ := rev_get (es := es) (k := q) (by omega)
                      have hat := atR_rev (HP.out.get q y hq2 hy2)
                      have HWS := Lib.hid hws; have HS := Lib.hid hs; have HAT := Lib.hid hat; have HY := Lib.hid hy2
                      clear hws hs hat hy1 hy2
                      go_wp2_with fail
                      rw [show (62 : Int) + (q : Int) = (q : Int) + 62 by omega]
                      refine (H_at _ _ HS.out (by omega)).mono ?_; rintro e w9 ⟨he, c9⟩
                      rw [HAT.out] at he
                      simp only [aF] at he
                      subst he
                      have h9 := HS.out.chg0 c9
                      have s9 := SliceOf.chg0 HWS.out c9
                      obtain ⟨bz, offz, he, hbz, hcz⟩ := FdsOf.cells s9 (by simp; omega)
                      obtain ⟨rfl, rfl⟩ : bw = bz ∧ offw = offz := by simp at he; exact he
                      obtain ⟨g0, g1, g2⟩ := hcz q y HY.out
                      have H9 := Lib.hid h9; have S9 := Lib.hid s9
                      have hql : (q : Int) < (es.length : Int) := by omega
                      have hq0 : (0 : Int) ≤ (q : Int) := by omega
                      clear h9 s9 hcz c9 HWS HS
                      go_wp2_with fail
                      go_quiet (fail)
                      go_wp2_with fail
                      go_roundw
                      case rel => exact ⟨q + 1, by omega, by go_num, SliceOf.chg0 S9.out (((Chg.refl _).alloc _).drewN _), (H9.out.alloc _).drewN _⟩
                      case measure => simp [intOf] <;> omega
                    · obtain rfl : q = k := by omega
                      have HS := Lib.hid hs
                      clear hs hws
                      go_wp2_with fail
                      go_ret
                      exact ⟨rfl, HS.out.below⟩
              · obtain rfl : k = es.length := by omega
                have hd3 : decide (es.length < es.length) = false := by simp
                have hre : r = es.length := by omega
                subst hre
                by_cases hz : es.length = 0
                · obtain rfl : es = [] := List.length_eq_zero_iff.1 hz
                  have HS := Lib.hid hs; have HL := Lib.hid HP.out.len
                  clear hws hs hP
                  go_wp2_with fail
                  refine (H_len _ HS.out).mono ?_; rintro e w7 ⟨he, rfl⟩
                  rw [HL.out] at he
                  subst he
                  go_wp2_with fail
                  go_loop [18] (fun kv => kv = .int .i64 0) (fun kv => 0)
                  case atStart => exact rfl
                  case round =>
                    subst hrel
                    go_wp2_with fail
                    go_ret
                    exact ⟨rfl, HS.out.below⟩
                · obtain ⟨bw, offw, rfl, hbw9, hcw⟩ := FdsOf.cells hws (by simp; omega)
                  have HS := Lib.hid hs; have HW := Lib.hid hws; have HL := Lib.hid HP.out.len
                  clear hws hs hP hcw
                  go_wp2_with fail
                  refine (H_len _ HS.out).mono ?_; rintro e w7 ⟨he, rfl⟩
                  rw [HL.out] at he
                  subst he
                  go_wp2_with fail
                  go_loopw [18] (fun kv wt => ∃ q : Nat, q ≤ es.length ∧ kv = .int .i64 q ∧ FdsOf wt (.slice (some ⟨bw, offw, none⟩) es.length wc) es.reverse ∧ Has W wt F5 p m3 es3) (fun kv _ => es.length - (intOf kv).toNat)
                  case atStart => exact ⟨0, by omega, rfl, HW.out, HS.out⟩
                  case round =>
                    clear HS HW
                    obtain ⟨q, hq, rfl, hws, hs⟩ := hrel
                    by_cases hq2 : q < es.length
                    · obtain ⟨y, hy1, hy2⟩ := rev_get (es := es) (k := q) (by omega)
                      have hat := atR_rev (HP.out.get q y hq2 hy2)
                      have HWS := Lib.hid hws; have HS := Lib.hid hs; have HAT := Lib.hid hat; have HY := Lib.hid hy2
                      clear hws hs hat hy1 hy2
                      go_wp2_with fail
                      rw [show (62 : Int) + (q : Int) = (q : Int) + 62 by omega]
                      refine (H_at _ _ HS.out (by omega)).mono ?_; rintro e w9 ⟨he, c9⟩
                      rw [HAT.out] at he
                      simp only [aF] at he
                      subst he
                      have h9 := HS.out.chg0 c9
                      have s9 := SliceOf.chg0 HWS.out c9
                      obtain ⟨bz, offz, he, hbz, hcz⟩ := FdsOf.cells s9 (by simp; omega)
                      obtain ⟨rfl, rfl⟩ : bw = bz ∧ offw = offz := by simp at he; exact he
                      obtain ⟨g0, g1, g2⟩ := hcz q y HY.out
                      have H9 := Lib.hid h9; have S9 := Lib.hid s9
                      have hql : (q : Int) < (es.length : Int) := by omega
                      have hq0 : (0 : Int) ≤ (q : Int) := by omega
                      clear h9 s9 hcz c9 HWS HS
                      go_wp2_with fail
                      go_quiet (fail)
                      go_wp2_with fail
                      go_roundw
                      case rel => exact ⟨q + 1, by omega, by go_num, SliceOf.chg0 S9.out (((Chg.refl _).alloc _).drewN _), (H9.out.alloc _).drewN _⟩
                      case measure => simp [intOf] <;> omega
                    · obtain rfl : q = es.length := by omega
                      have HS := Lib.hid hs
                      clear hs hws
                      go_wp2_with fail
                      go_ret
                      exact ⟨rfl, HS.out.below⟩

/-! ### The row's step -/
theorem own : ownKnob Try.prog.godebug = none := by kernel_rfl
theorem laid : laidOutB Try.prog = true := by kernel_rfl

set_option maxRecDepth 100000 in
theorem lifted (os : Os) (started : os.Started) (H : Type) (enc : TypeId × Value → H) :
    ReturnsInHanded {} Try.checked os 7 .any (Rows.tableShrinksSpec.pre6 enc Try.prog Try.f7 Rows.tableShrinksRow.domain false) (Rows.tableShrinksSpec.post enc Try.prog Try.f7 false true false false) := by
  refine lift_law (C := Try.checked) (tb := 4) own started (by kernel_rfl) Try.func7
    (ChangeSpec.witness6 (enc := enc) (C := Try.checked) false ⟨#[], #[.int .i64 0, .slice none 0 0, .int .i64 0, .int .i64 0], []⟩ 8 (by kernel_rfl) (by kernel_rfl) (by kernel_rfl) (by kernel_rfl))
    laid (by rw [Try.params7]; intro t ht; simp only [List.mem_cons, List.not_mem_nil, or_false] at ht; rcases ht with rfl | rfl | rfl | rfl <;> exact ⟨by kernel_rfl, of_decide_eq_true (by kernel_rfl)⟩) (by kernel_rfl) Try.underlying4 rfl
    (fun ds h => by rw [Try.params7] at h; match ds, h with | [d0, d1, d2, d3], _ => rfl) ?_
  intro W base args ds before hval hA hlt hsz
  rw [Try.params7] at hA hval
  try rw [Try.params7] at hsz
  have hlt0 := hlt
  obtain ⟨v0, vs0, d0, ds0, p0, q0, hargs, rfl, rfl, h0, r0⟩ := trodAll_cons hA
  obtain ⟨v1, vs1, d1, ds1, p1, q1, rfl, rfl, rfl, h1, r1⟩ := trodAll_cons r0
  obtain ⟨v2, vs2, d2, ds2, p2, q2, rfl, rfl, rfl, h2, r2⟩ := trodAll_cons r1
  obtain ⟨v3, vs3, d3, ds3, p3, q3, rfl, rfl, rfl, h3, r3⟩ := trodAll_cons r2
  obtain ⟨rfl, rfl, rfl⟩ := trodAll_nil r3
  obtain rfl : args = #[v0, v1, v2, v3] := by cases args; simp_all
  have l0 : ∀ p ∈ p0, p.block < W.heap.size := fun x hx => hlt x (by simp [hx])
  have l1 : ∀ p ∈ p1, p.block < W.heap.size := fun x hx => hlt x (by simp [hx])
  have l2 : ∀ p ∈ p2, p.block < W.heap.size := fun x hx => hlt x (by simp [hx])
  have l3 : ∀ p ∈ p3, p.block < W.heap.size := fun x hx => hlt x (by simp [hx])
  obtain ⟨i0, rfl, rfl, rfl, wi0⟩ := open_int Try.underlying3 (hval 0 3 v0 rfl rfl) h0
  obtain ⟨zs, zg, zb, zm, zs1⟩ := open_slice_w 3 encF Fd.In Try.underlying25 (by kernel_rfl) (by omega) (hval 1 25 v1 rfl rfl) decF h1 l1 (small_of hsz (j := 1) rfl rfl)
  obtain ⟨i2, rfl, rfl, rfl, wi2⟩ := open_int Try.underlying3 (hval 2 3 v2 rfl rfl) h2
  obtain ⟨i3, rfl, rfl, rfl, wi3⟩ := open_int Try.underlying3 (hval 3 3 v3 rfl rfl) h3
  exact walk i0 v1 zs i2 i3 W wi2 wi3 zm zs1 zg

theorem over : Rows.tableShrinksRow.holds Try.pinned (OpenSpec.ofChange Rows.tableShrinksSpec) :=
  OpenClaim.holds_of_wide 7 Try.f7 rfl rfl rfl rfl rfl rfl rfl ⟨rfl, rfl, rfl, rfl, rfl⟩ rfl rfl rfl rfl rfl (by kernel_rfl) Try.func7 (by kernel_rfl)
    (of_decide_eq_true (by kernel_rfl)) (by unfold Func.isWrapper; first | (rw [if_pos (by decide +kernel)]; kernel_rfl) | (rw [if_neg (by decide +kernel)]; exact ⟨rfl, rfl⟩))
    (fun os started H enc _ => lifted os started H enc)

/-- The statement. -/
theorem proved : Rows.TableShrinksSaid :=
  over
#print axioms proved

end Go.Proofs.Ythhfnmgonjippaa.Tb.Shrinks
