/-
  The document's Next: a payload of a right size.
-/
import Derived.Test.YthhgnipiaohplaaFxe
import Derived.Test.YthhgnipiaohplaaFxg
import Derived.Deep.DeepCutAuto
namespace Go.Proofs.Ythhgnipiaohplaa.Fr
open Go.ChangeShapes Go.WideShapes Go.ChangeAt Go.RowKit
open Go.Proofs.Ythhgnipiaohplaa.B
set_option linter.unusedVariables false
set_option linter.unusedSimpArgs false

set_option maxRecDepth 100000 in
set_option maxHeartbeats 16000000 in
theorem rnext_good {W w : World} {p : Nat} {a b c k fl s1 s2 s3 s4 : UInt8} {r : List UInt8} {mx : Nat} (h : RP W w p (a :: b :: c :: k :: fl :: s1 :: s2 :: s3 :: s4 :: r) mx false) (hr : r.length ≤ 100000000) (q1 : ¬ mx < threeN a b c) (q2 : ¬ r.length < threeN a b c) (q3 : strayB (k.toNat : Nat) ((fourN s1 s2 s3 s4 % 2147483648 : Nat) : Int) = false) (q4 : badLen k.toNat fl (threeN a b c) = false) :
    Calls Try.prog 22 #[.pointer (some ⟨p, 0, none⟩)] w fun e w' => RNext W w p (a :: b :: c :: k :: fl :: s1 :: s2 :: s3 :: s4 :: r) mx false e w' (nxt9 mx a b c k fl s1 s2 s3 s4 r) := by
  have Q1 := Lib.hid q1; have Q2 := Lib.hid q2; have Q3 := Lib.hid q3; have Q4 := Lib.hid q4
  clear q1 q2 q3 q4
  obtain ⟨X, hX⟩ : ∃ X, X = bstr (a :: b :: c :: k :: fl :: s1 :: s2 :: s3 :: s4 :: r) := ⟨_, rfl⟩
  obtain ⟨RN, hRN⟩ : ∃ n, n = r.length := ⟨_, rfl⟩
  have zX : X.size = RN + 9 := by rw [hX, bstr_size, hRN]; simp
  obtain ⟨K, hK⟩ : ∃ n : Nat, n = k.toNat := ⟨_, rfl⟩
  obtain ⟨FL, hFL⟩ : ∃ n : Nat, n = fl.toNat := ⟨_, rfl⟩
  have hK8 : K < 256 := by rw [hK]; exact k.toNat_lt
  have hF8 : FL < 256 := by rw [hFL]; exact fl.toNat_lt
  have q3 : ∀ h, ((X[3]'h).toNat : Int) = (K : Int) := fun h => by subst hX; rw [bstr_at, hK]; rfl
  have q4 : ∀ h, ((X[4]'h).toNat : Int) = (FL : Int) := fun h => by subst hX; rw [bstr_at, hFL]; rfl
  obtain ⟨N, hN⟩ : ∃ N, N = threeN a b c := ⟨_, rfl⟩
  have hN3 : N < 16777216 := by rw [hN]; unfold threeN; have := a.toNat_lt; have := b.toNat_lt; have := c.toNat_lt; omega
  obtain ⟨V, hV⟩ : ∃ V, V = fourN s1 s2 s3 s4 := ⟨_, rfl⟩
  have hV4 : V < 4294967296 := by rw [hV]; exact get4_lt [s1, s2, s3, s4]
  obtain ⟨ST, hST⟩ : ∃ n, n = V % 2147483648 := ⟨_, rfl⟩
  have hST2 : ST < 2147483648 := by rw [hST]; omega
  have G3 : Hid (∀ w, Calls Try.prog 43 #[.string X, .int .i64 0, .int .i64 3] w fun e w' => e = .returned (.int .u64 (N : Int)) ∧ w' = w) := Lib.hid (fun w => by rw [hX, hN]; exact get3_any a b c _ (by simp; omega) w)
  have G5 : Hid (∀ w, Calls Try.prog 43 #[.string X, .int .i64 5, .int .i64 4] w fun e w' => e = .returned (.int .u64 (V : Int)) ∧ w' = w) := Lib.hid (fun w => by rw [hX, hV]; exact get5_any a b c k fl s1 s2 s3 s4 r hr w)
  have LOW : Hid (∀ w, Calls Try.prog 44 #[.int .u64 (V : Int)] w fun e w' => e = .returned (.int .i64 (ST : Int)) ∧ w' = w) := Lib.hid (fun w => by rw [hST]; exact low_any V w)
  obtain ⟨w3, hw3⟩ : ∃ w3, w3 = (w.alloc (.cells noF 27)).alloc (.cells noX 46) := ⟨_, rfl⟩
  have c0 : Chg [] w w3 := by rw [hw3]; exact ((Chg.refl w).alloc _).alloc _
  have b1 : At w3 w.heap.size (.cells noF 27 (0, 0)) := by rw [hw3]; exact (At.new w _).alloc _
  have b2 : At w3 (w.heap.size + 1) (.cells noX 46 (0, 0)) := by rw [hw3]; exact At.new' (w := w.alloc (.cells noF 27)) (by simp)
  have hpw := h.head.lt
  have H3 := Lib.hid (h.chg0 c0); have C0 := Lib.hid c0; have B1 := Lib.hid b1; have B2 := Lib.hid b2; have HW := Lib.hid hw3
  have x0 : World.cell? w3 ⟨p, 0, none⟩ = some (.string X) := by rw [hX]; exact H3.out.head.cell rfl
  have x1 : World.cell? w3 ⟨p, 1, none⟩ = some (.int .i64 (mx : Int)) := H3.out.head.cell rfl
  have x2 : World.cell? w3 ⟨p, 2, none⟩ = some (.bool false) := H3.out.head.cell rfl
  have hp3 := H3.out.head.lt
  have xf : True := trivial
  have HX := Lib.hid hX; have HRN := Lib.hid hRN; have HK := Lib.hid hK; have HFL := Lib.hid hFL; have HN := Lib.hid hN; have HV := Lib.hid hV; have HST := Lib.hid hST
  have hm2 := h.b2
  rw [← hRN] at hr
  clear h hX hRN hK hFL hN hV hST hw3 c0 b1 b2
  go_enter Try.func22, Try.ntmps22
  go_upto_region 1 with fail
  rw [← HW.out]
  go_upto_region 7 with (first
    | (go_at_call 43; first
      | (with_reducible refine (G3.out _).mono ?_; rintro e wx ⟨rfl, hw⟩; have hw' := hw.symm; subst hw')
      | (with_reducible refine (G5.out _).mono ?_; rintro e wx ⟨rfl, hw⟩; have hw' := hw.symm; subst hw'))
    | (go_at_call 44; with_reducible refine (LOW.out _).mono ?_; rintro e wx ⟨rfl, hw⟩; have hw' := hw.symm; subst hw'))
  have hm : ¬ mx < N := by rw [HN.out]; exact Q1.out
  have hw : ¬ RN < N := by rw [HN.out, HRN.out]; exact Q2.out
  have g7 : ¬ (mx : Int) < (N : Int) := by omega
  have g8 : ¬ (RN : Int) < (N : Int) := by omega
  have hsb : strayB (K : Int) (ST : Int) = false := by rw [HK.out, HST.out, HV.out]; exact Q3.out
  have RS : Hid (∀ w, Calls Try.prog 46 #[.int .i64 (K : Int), .int .i64 (ST : Int)] w fun e w' => e = .returned (.bool false) ∧ w' = w) := Lib.hid (fun w => by rw [← hsb]; exact rstray_any _ _ w)
  have HO : Hid (nxt9 mx a b c k fl s1 s2 s3 s4 r = docR K ST fl (r.take N) (r.drop N)) := Lib.hid (by unfold nxt9; rw [← HN.out, if_neg hm, ← HRN.out, if_neg hw, ← HV.out, ← HST.out, ← HK.out, hsb, if_neg (by simp), doc_out])
  clear hsb
  go_wp2_with fail
  refine (RS.out _).mono ?_; rintro e wx ⟨rfl, hw'⟩
  have hw2 := hw'.symm
  subst hw2
  clear RS
  obtain ⟨s, hs⟩ : ∃ s, s = r.take N := ⟨_, rfl⟩
  rw [← hs] at HO
  have hsl : s.length = N := by rw [hs, List.length_take, ← HRN.out]; omega
  obtain ⟨R, hR⟩ : ∃ R, R = r.drop N := ⟨_, rfl⟩
  rw [← hR] at HO
  obtain ⟨Y, hY⟩ : ∃ Y, Y = bstr s := ⟨_, rfl⟩
  obtain ⟨Z, hZ⟩ : ∃ Z, Z = bstr R := ⟨_, rfl⟩
  have eY : X.extract 9 (9 + N) = Y := by rw [HX.out, bstr_cut, hY, hs, Nat.add_comm 9 N]; rfl
  have eZ : X.extract (9 + N) (RN + 9) = Z := by
    rw [HX.out, bstr_cut, hZ, hR, HRN.out, List.take_of_length_le (by simp), ← List.drop_drop]; rfl
  obtain ⟨LE, hLE⟩ : ∃ n, n = leastN K fl := ⟨_, rfl⟩
  obtain ⟨JU, hJU⟩ : ∃ b, b = justK K := ⟨_, rfl⟩
  have hL14 : LE ≤ 14 := by rw [hLE]; exact leastN_le K fl
  have LST : Hid (∀ w, Calls Try.prog 47 #[.int .i64 (K : Int), .int .i64 (FL : Int)] w fun e w' => e = .returned (.tuple #[.int .i64 (LE : Nat), .bool JU]) ∧ Chg [] w w') := Lib.hid (fun w => by rw [hLE, hJU, HFL.out]; exact rleast_any K fl w)
  have RDA : Hid (badLen K fl N = false → badPad K fl s = false → ∀ w, Calls Try.prog 50 #[.int .i64 (K : Int), .int .i64 (FL : Int), .string Y] w (RdX (readF K fl s) w)) := Lib.hid (fun h1 h2 w => by rw [HFL.out, hY]; exact rread_any K fl s (by omega) (by rw [hsl]; exact h1) h2 w)
  have HLE := Lib.hid hLE; have HJU := Lib.hid hJU; have HS := Lib.hid hs; have HR := Lib.hid hR; have HY := Lib.hid hY; have HZ := Lib.hid hZ; have HSL := Lib.hid hsl
  clear hLE hJU hs hR hY hZ hsl
  go_upto_region 13 with fail
  go_cut [9] from 81 to 87 (fun v wx => v = .string Y ∧ wx = w3)
  case first =>
    go_wp2_with fail
    go_meet
    case rel => exact ⟨by rw [eY], rfl⟩
  obtain ⟨rfl, hwx⟩ := hcut
  have hwx' := hwx.symm
  subst hwx'
  clear eY
  iterate 2 go_step
  go_cut [10, 11] from 88 to 93 (fun va vb wx => va = .int .i64 (LE : Nat) ∧ vb = .bool JU ∧ Chg [] w3 wx)
  case first =>
    go_wp2_with fail
    refine (LST.out _).mono ?_; rintro e w4 ⟨rfl, c4⟩
    go_wp2_with fail
    go_meet
    case rel => exact ⟨rfl, rfl, c4⟩
  obtain ⟨rfl, rfl, c4⟩ := hcut
  obtain ⟨w4, rfl⟩ : ∃ w4, w4 = wc := ⟨_, rfl⟩
  clear x1 LST
  have H4 := Lib.hid (H3.out.chg0 c4); have C4 := Lib.hid (C0.out.trans' c4)
  have B14 := Lib.hid (B1.out.chg c4 (by simp)); have B24 := Lib.hid (B2.out.chg c4 (by simp))
  clear c4 x0 x2 xf hp3 H3 C0 B1 B2
  have x0 : World.cell? w4 ⟨p, 0, none⟩ = some (.string X) := by rw [HX.out]; exact H4.out.head.cell rfl
  have x2 : World.cell? w4 ⟨p, 2, none⟩ = some (.bool false) := H4.out.head.cell rfl
  have xf : ∀ j, World.frozen? w4 ⟨p, j, none⟩ = false := fun j => H4.out.head.free j
  have hp3 := H4.out.head.lt
  obtain ⟨g1, hg1⟩ : ∃ b, b = bitB fl 0 := ⟨_, rfl⟩
  have E1 : (Go.bits .and .i64 (FL : Int) 1 != 0) = g1 := by rw [HFL.out, hg1]; exact (bne_of _ 1 (by decide) _ (bit1 fl)).1
  have HBL : Hid (badLen K fl N = (decide (N < LE) || (JU && N != LE) || (K == 4 && (N % 6 != 0 || (g1 && decide (0 < N)))))) := Lib.hid (by unfold badLen; rw [← HLE.out, ← HJU.out, ← hg1])
  clear hg1
  have QB : Hid (badLen K fl N = false) := Lib.hid (by rw [HK.out, HN.out]; exact Q4.out)
  iterate 2 go_step
  go_cut [] from 94 to 142 (fun wx => wx = w4 ∧ badLen K fl N = false)
  case first =>
    cases JU with
    | true =>
      have hK4 : (K == 4) = false := by have := HJU.out; cases h : K == 4 with | false => rfl | true => (simp at h; rw [h] at this; simp [justK] at this)
      by_cases hE : N = LE
      · have k1 : ¬ (N : Int) < (LE : Int) := by omega
        have k2 : ((N : Int) != (LE : Int)) = false := by simp [hE]
        have k3 : ((K : Int) == 4) = false := by simp at hK4; simp; omega
        clear hE hK4 E1 HBL
        go_wp2_with fail
        go_meet
        case rel => exact ⟨rfl, QB.out⟩
      · exact absurd QB.out (by rw [HBL.out]; simp [hE])
    | false =>
      rcases Nat.lt_or_ge N LE with k1 | k1
      · exact absurd QB.out (by rw [HBL.out]; simp [k1])
      · have k1' : ¬ (N : Int) < (LE : Int) := by omega
        by_cases hK4 : K = 4
        · have k4 : ((K : Int) == 4) = true := by simp; omega
          by_cases h6 : N % 6 = 0
          · have k5 : ((N : Int) % 6 != 0) = false := by simp; omega
            have k5' : ((N : Int).tmod 6 != 0) = false := by rw [Int.tmod_eq_emod_of_nonneg (by omega)]; exact k5
            cases g1 with
            | true =>
              rcases Nat.eq_zero_or_pos N with h0 | h0
              · have k6 : ¬ (0 : Int) < (N : Int) := by omega
                clear HBL hK4 h6 h0
                go_wp2_with fail
                go_meet
                case rel => exact ⟨rfl, QB.out⟩
              · exact absurd QB.out (by rw [HBL.out]; simp [hK4, h0])
            | false =>
              clear HBL hK4 h6
              go_wp2_with fail
              go_meet
              case rel => exact ⟨rfl, QB.out⟩
          · exact absurd QB.out (by rw [HBL.out]; simp [hK4, h6])
        · have k4 : ((K : Int) == 4) = false := by simp; omega
          clear E1 HBL hK4
          go_wp2_with fail
          go_meet
          case rel => exact ⟨rfl, QB.out⟩
  obtain ⟨hwx, hbl⟩ := hcut
  have hwx' := hwx.symm
  subst hwx'
  have HBL := Lib.hid hbl
  clear hbl
  obtain ⟨PA, hPA⟩ : ∃ b, b = padK K := ⟨_, rfl⟩
  obtain ⟨g8, hg8⟩ : ∃ b, b = bitB fl 3 := ⟨_, rfl⟩
  have HBP : Hid (badPad K fl s = (PA && g8 && decide (N - LE < (s.headD 0).toNat))) := Lib.hid (by unfold badPad; rw [← hPA, ← hg8, HSL.out, ← HLE.out])
  have HL1 : Hid (PA = true → g8 = true → 1 ≤ LE ∧ LE ≤ N) := Lib.hid (fun h1 h2 => by
    have h3 := HBL.out
    rw [hPA] at h1
    rw [hg8] at h2
    have h4 : LE ≤ N := by
      rw [HLE.out]
      unfold badLen at h3
      simp at h3
      omega
    refine ⟨?_, h4⟩
    rw [HLE.out]
    unfold padK at h1
    simp at h1
    rcases h1 with (h1 | h1) | h1 <;> rw [h1] <;> simp [leastN, pb, h2])
  iterate 2 go_step
  go_cut [12] from 143 to 150 (fun v wx => v = .bool (PA && g8) ∧ Chg [] w4 wx)
  case first =>
    have E8 : (Go.bits .and .i64 (FL : Int) 8 != 0) = g8 := by rw [HFL.out, hg8]; exact (bne_of _ 8 (by decide) _ (bit8 fl)).1
    obtain ⟨S, hS⟩ : ∃ S, S = bstr (hasL (K : Int)) := ⟨_, rfl⟩
    have HA : Hid (∀ w, Calls Try.prog 49 #[.int .i64 (K : Int)] w fun e w' => e = .returned (.string S) ∧ Chg [] w w') := Lib.hid (fun w => by rw [hS]; exact rhas_any _ w)
    have Ip : Hid (∀ w, Calls Try.prog 48 #[.string S, .int .u8 112] w fun e w' => e = .returned (.bool PA) ∧ w' = w) := Lib.hid (fun w => by rw [hS, hPA]; exact in_has _ 112 _ (has_pad K) w)
    clear hS hPA hg8
    cases PA with
    | true =>
      cases g8 with
      | true =>
        go_wp2_with fail
        refine (HA.out _).mono ?_; rintro e w5 ⟨rfl, c5⟩
        go_wp2_with (go_at_call 48; with_reducible refine (Ip.out _).mono ?_; rintro e wx ⟨rfl, rfl⟩)
        go_meet
        case rel => exact ⟨rfl, c5⟩
      | false =>
        go_wp2_with fail
        refine (HA.out _).mono ?_; rintro e w5 ⟨rfl, c5⟩
        go_wp2_with (go_at_call 48; with_reducible refine (Ip.out _).mono ?_; rintro e wx ⟨rfl, rfl⟩)
        go_meet
        case rel => exact ⟨rfl, c5⟩
    | false =>
      clear E8
      go_wp2_with fail
      refine (HA.out _).mono ?_; rintro e w5 ⟨rfl, c5⟩
      go_wp2_with (go_at_call 48; with_reducible refine (Ip.out _).mono ?_; rintro e wx ⟨rfl, rfl⟩)
      go_meet
      case rel => exact ⟨rfl, c5⟩
  obtain ⟨rfl, c5⟩ := hcut
  obtain ⟨w5, rfl⟩ : ∃ w5, w5 = wc := ⟨_, rfl⟩
  clear hPA hg8
  have H5 := Lib.hid (H4.out.chg0 c5); have C5 := Lib.hid (C4.out.trans' c5)
  have B15 := Lib.hid (B14.out.chg c5 (by simp)); have B25 := Lib.hid (B24.out.chg c5 (by simp))
  clear c5 x0 x2 xf hp3 H4 C4 B14 B24
  have x0 : World.cell? w5 ⟨p, 0, none⟩ = some (.string X) := by rw [HX.out]; exact H5.out.head.cell rfl
  have x2 : World.cell? w5 ⟨p, 2, none⟩ = some (.bool false) := H5.out.head.cell rfl
  have xf : ∀ j, World.frozen? w5 ⟨p, j, none⟩ = false := fun j => H5.out.head.free j
  have hp3 := H5.out.head.lt
  iterate 2 go_step
  go_cut [12] from 151 to 165 (fun _ wx => wx = w5 ∧ badPad K fl s = false)
  case first =>
    cases hpg : (PA && g8) with
    | false =>
      have HB : Hid (badPad K fl s = false) := Lib.hid (by rw [HBP.out, hpg]; rfl)
      clear hpg
      go_wp2_with fail
      go_meet
      case rel => exact ⟨rfl, HB.out⟩
    | true =>
      simp only [Bool.and_eq_true] at hpg
      obtain ⟨l1, l2⟩ := HL1.out hpg.1 hpg.2
      obtain ⟨C, hC⟩ : ∃ C, C = (s.headD 0).toNat := ⟨_, rfl⟩
      have zY : Y.size = N := by rw [HY.out, bstr_size, HSL.out]
      have q0 : ∀ h, ((Y[0]'h).toNat : Int) = (C : Int) := fun h => by
        have e1 := HY.out
        subst e1
        rw [bstr_at, hC]
        cases s <;> rfl
      have hC8 : C < 256 := by rw [hC]; exact (s.headD 0).toNat_lt
      have HB : Hid (badPad K fl s = decide (N - LE < C)) := Lib.hid (by rw [HBP.out, hpg.1, hpg.2, hC]; rfl)
      clear hC hpg
      by_cases hc : N - LE < C
      · have hc' : (N : Int) - (LE : Int) < (C : Int) := by omega
        have HO : Hid (nxt9 mx a b c k fl s1 s2 s3 s4 r = .broken 1) := Lib.hid (by rw [HO.out]; exact docR_pad (by rw [HSL.out]; exact HBL.out) (by rw [HB.out]; simp [hc]))
        clear hc HB
        go_wp2_with fail
        refine (rbroken_any H5.out 1).mono ?_; rintro e w5 ⟨rfl, h5, c5⟩
        have b15 := B15.out.chg c5 (by simp; omega)
        have b25 := B25.out.chg c5 (by simp; omega)
        have H5 := Lib.hid h5; have C5 := Lib.hid ((C5.out.mono (m := [p]) (by simp)).trans' c5)
        clear h5 c5 x0 x2 xf
        go_wp2_with (refine store_whole rfl 27 _ _ rfl w.heap.size _ _ 27 rfl rfl b15 infoFr rfl (by simp [Value.oneCell']) ?_)
        intro w31 s31 c31
        have b231 := At.chg b25 c31 (by simp)
        go_wp2_with (refine store_whole rfl 46 _ _ rfl (w.heap.size + 1) _ _ 46 rfl rfl b231 infoFa rfl (by simp [Value.oneCell']) ?_)
        intro w32 s32 c32
        have s33 := At.chg s31 c32 (by simp)
        have c33 : Chg [w.heap.size, w.heap.size + 1] w5 w32 := (c31.mono (by simp)).trans' (c32.mono (by simp))
        have C33 := Lib.hid c33; have C31 := Lib.hid c31; have C32 := Lib.hid c32
        clear c31 c32 c33 b231 s31
        go_wp2_with fail
        have z0 := s33.cell (o := 0) rfl
        have z1 := s33.cell (o := 1) rfl
        have z2 := s33.cell (o := 2) rfl
        have z3 := s33.cell (o := 3) rfl
        have z4 := s33.cell (o := 4) rfl
        have z5 := s33.cell (o := 5) rfl
        have z6 := s33.cell (o := 6) rfl
        have z7 := s33.cell (o := 7) rfl
        have z8 := s33.cell (o := 8) rfl
        have z9 := s33.cell (o := 9) rfl
        have z10 := s33.cell (o := 10) rfl
        have z11 := s33.cell (o := 11) rfl
        have z12 := s33.cell (o := 12) rfl
        have z13 := s33.cell (o := 13) rfl
        have z14 := s33.cell (o := 14) rfl
        have z15 := s33.cell (o := 15) rfl
        have y0 := s32.cell (o := 0) rfl
        have y1 := s32.cell (o := 1) rfl
        have y2 := s32.cell (o := 2) rfl
        refine bodyPost_ret (v := .tuple #[.agg noF, .agg #[.bool true, .int .u32 1, .int .i64 0], .bool true]) (by simp [results, Try.results22, go_sem, z0, z1, z2, z3, z4, z5, z6, z7, z8, z9, z10, z11, z12, z13, z14, z15, y0, y1, y2]) rfl ?_
        rw [HO.out]
        exact ⟨rfl, H5.out.chg C33.out (by simp; omega), C5.out.trans C33.out (fun x hx => Or.inr (by simp at hx; omega))⟩
      · have hc' : ¬ (N : Int) - (LE : Int) < (C : Int) := by omega
        have HB2 : Hid (badPad K fl s = false) := Lib.hid (by rw [HB.out]; simp [hc])
        clear hc HB
        go_wp2_with fail
        go_meet
        case rel => exact ⟨rfl, HB2.out⟩
  as_aux_lemma =>
  obtain ⟨hwx, hbp⟩ := hcut
  have hwx' := hwx.symm
  subst hwx'
  have RD : Hid (∀ w, Calls Try.prog 50 #[.int .i64 (K : Int), .int .i64 (FL : Int), .string Y] w (RdX (readF K fl s) w)) := Lib.hid (RDA.out HBL.out hbp)
  have HO : Hid (nxt9 mx a b c k fl s1 s2 s3 s4 r = okR K ST (readF K fl s) R) := Lib.hid (by rw [HO.out]; exact docR_ok (by rw [HSL.out]; exact HBL.out) hbp)
  obtain ⟨F, hF⟩ : ∃ F, F = readF K fl s := ⟨_, rfl⟩
  rw [← hF] at RD HO
  clear RDA HBL hbp hF HL1 HBP
  go_wp2_with fail
  refine (RD.out _).mono ?_
  intro e w6 hrp
  obtain ⟨pv, lv, rfl, bp, sl, c6, hos⟩ := hrp
  have hO5 : Hid (∀ g, g < w5.heap.size → 0 < F.list.length → g ∉ lv.ownBlock.toList) := Lib.hid (fun g hg h0 hx => by have := owns_lo (hos h0) g hx; omega)
  have hB5 := B25.out.lt
  have hp5 := H5.out.head.lt
  have H6 := Lib.hid (H5.out.chg0 c6); have C6 := Lib.hid (C5.out.trans' c6)
  have B16 := Lib.hid (B15.out.chg c6 (by simp)); have B26 := Lib.hid (B25.out.chg c6 (by simp))
  clear c6 x0 x2 xf hp3 H5 C5 B15 B25
  have x0 : World.cell? w6 ⟨p, 0, none⟩ = some (.string X) := by rw [HX.out]; exact H6.out.head.cell rfl
  have x2 : World.cell? w6 ⟨p, 2, none⟩ = some (.bool false) := H6.out.head.cell rfl
  have xf : ∀ j, World.frozen? w6 ⟨p, j, none⟩ = false := fun j => H6.out.head.free j
  have hp3 := H6.out.head.lt
  obtain ⟨pa, pc, rfl, _, _⟩ := bp.slice
  obtain ⟨sa, sc, rfl, _, _⟩ := SliceOf.len sl
  have HBP := Lib.hid bp; have HSLI := Lib.hid sl
  clear bp sl RD
  have b1 : At (w6.alloc (.cells noF 27)) w6.heap.size (.cells noF 27) := At.new w6 _
  go_wp2_with (refine store_whole rfl 27 _ _ rfl w6.heap.size _ _ 27 rfl rfl b1 infoFr rfl (by simp [Value.oneCell', Fm.mem]) ?_)
  intro w31 s31 c31
  obtain ⟨BF, hBF⟩ : ∃ B, B = w6.heap.size := ⟨_, rfl⟩
  have c7 : Chg [] w6 w31 := ((Chg.refl w6).alloc _).trans c31 (fun x hx => Or.inr (by simp at hx; omega))
  have hpB : p < BF := by rw [hBF]; exact hp3
  have hwB : w.heap.size + 1 < BF := by rw [hBF]; exact B26.out.lt
  rw [← hBF] at s31 ⊢
  have C67 := Lib.hid c7
  have H7 := Lib.hid (H6.out.chg0 c7); have C7 := Lib.hid (C6.out.trans' c7)
  have B17 := Lib.hid (B16.out.chg c7 (by simp)); have B27 := Lib.hid (B26.out.chg c7 (by simp))
  clear c7 x0 x2 xf hp3 H6 C6 B16 B26
  have x0 : World.cell? w31 ⟨p, 0, none⟩ = some (.string X) := by rw [HX.out]; exact H7.out.head.cell rfl
  have x2 : World.cell? w31 ⟨p, 2, none⟩ = some (.bool false) := H7.out.head.cell rfl
  have xf : ∀ j, World.frozen? w31 ⟨p, j, none⟩ = false := fun j => H7.out.head.free j
  have hp3 := H7.out.head.lt
  have z1 : World.cell? w31 ⟨BF, 1, none⟩ = some (.int .i64 F.stream) := s31.cell rfl
  have zf : ∀ j, World.frozen? w31 ⟨BF, j, none⟩ = false := fun j => s31.free j
  have hBl := s31.lt
  have S31 := Lib.hid s31
  have hBF6 : Hid (w6.heap.size ≤ BF) := Lib.hid (by omega)
  clear b1 c31 s31 hBF
  go_upto_region 24 with fail
  go_cut [] from 170 to 171 (fun wx => wx = w31.setCell ⟨BF, 1, none⟩ (.int .i64 (ST : Nat)))
  case first =>
    go_wp2_with fail
    go_meet
    case rel => exact rfl
  obtain ⟨w7, rfl⟩ : ∃ w7, w7 = wc := ⟨_, rfl⟩
  have c8 : Chg [BF] w31 w7 := by rw [hcut]; exact (Chg.refl _).setCell (Or.inl (by simp)) _
  have a7 : At w7 BF (.cells (fcs ((atSt F ST).mem (.slice pa F.pay.length pc) (.slice sa F.list.length sc))) 27 (0, 0)) := by rw [hcut]; exact S31.out.set 1 _
  have c89 : Chg [] w6 w7 := C67.out.trans c8 (fun x hx => Or.inr (by simp at hx; rw [hx]; exact hBF6.out))
  have H8 := Lib.hid (H7.out.chg c8 (by simp; omega)); have C8 := Lib.hid (C7.out.trans c8 (fun x hx => Or.inr (by simp at hx; rw [hx]; omega)))
  have B18 := Lib.hid (B17.out.chg c8 (by simp; omega)); have B28 := Lib.hid (B27.out.chg c8 (by simp; omega))
  have BP8 := Lib.hid (HBP.out.chg0 c89); have SL8 := Lib.hid (HSLI.out.chg0 c89)
  clear hcut c8 c89 H7 C7 B17 B27 HBP HSLI C67 hBF6 S31 z1 zf hBl x0 x2 xf hp3
  have x0 : World.cell? w7 ⟨p, 0, none⟩ = some (.string X) := by rw [HX.out]; exact H8.out.head.cell rfl
  have x2 : World.cell? w7 ⟨p, 2, none⟩ = some (.bool false) := H8.out.head.cell rfl
  have xf : ∀ j, World.frozen? w7 ⟨p, j, none⟩ = false := fun j => H8.out.head.free j
  have hp3 := H8.out.head.lt
  obtain ⟨LA, hLA⟩ : ∃ z, z = F.last := ⟨_, rfl⟩
  obtain ⟨IN, hIN⟩ : ∃ z, z = F.inc := ⟨_, rfl⟩
  have z14 : World.cell? w7 ⟨BF, 14, none⟩ = some (.int .i64 LA) := by rw [hLA]; exact a7.cell rfl
  have z15 : World.cell? w7 ⟨BF, 15, none⟩ = some (.int .i64 IN) := by rw [hIN]; exact a7.cell rfl
  have hBl := a7.lt
  have A7 := Lib.hid a7; have HLA := Lib.hid hLA; have HIN := Lib.hid hIN
  clear a7 hLA hIN
  iterate 2 go_step
  go_cut [] from 172 to 196 (fun wx => wx = w7 ∧ ¬ ((K = 5 ∧ F.last = 0) ∨ (K = 8 ∧ F.inc = 0 ∧ ST = 0)))
  case first =>
    by_cases h5 : K = 5
    · have k5 : ((K : Int) == 5) = true := by simp; omega
      have k8 : ((K : Int) == 8) = false := by simp; omega
      by_cases hl : LA = 0
      · have HO : Hid (nxt9 mx a b c k fl s1 s2 s3 s4 r = .broken 1) := Lib.hid (by rw [HO.out]; unfold okR; rw [if_pos (Or.inl ⟨h5, by rw [← HLA.out]; exact hl⟩)])
        have kl : (LA == 0) = true := by simp [hl]
        clear h5 hl
        go_wp2_with fail
        refine (rbroken_any H8.out 1).mono ?_; rintro e w5 ⟨rfl, h5, c5⟩
        have b15 := B18.out.chg c5 (by simp; omega)
        have b25 := B28.out.chg c5 (by simp; omega)
        have H5 := Lib.hid h5; have C5 := Lib.hid ((C8.out.mono (m := [p]) (by simp)).trans' c5)
        clear h5 c5 x0 x2 xf
        go_wp2_with (refine store_whole rfl 27 _ _ rfl w.heap.size _ _ 27 rfl rfl b15 infoFr rfl (by simp [Value.oneCell']) ?_)
        intro w31 s31 c31
        have b231 := At.chg b25 c31 (by simp)
        go_wp2_with (refine store_whole rfl 46 _ _ rfl (w.heap.size + 1) _ _ 46 rfl rfl b231 infoFa rfl (by simp [Value.oneCell']) ?_)
        intro w32 s32 c32
        have s33 := At.chg s31 c32 (by simp)
        have c33 : Chg [w.heap.size, w.heap.size + 1] w5 w32 := (c31.mono (by simp)).trans' (c32.mono (by simp))
        have C33 := Lib.hid c33; have C31 := Lib.hid c31; have C32 := Lib.hid c32
        clear c31 c32 c33 b231 s31
        go_wp2_with fail
        have z0 := s33.cell (o := 0) rfl
        have z1 := s33.cell (o := 1) rfl
        have z2 := s33.cell (o := 2) rfl
        have z3 := s33.cell (o := 3) rfl
        have z4 := s33.cell (o := 4) rfl
        have z5 := s33.cell (o := 5) rfl
        have z6 := s33.cell (o := 6) rfl
        have z7 := s33.cell (o := 7) rfl
        have z8 := s33.cell (o := 8) rfl
        have z9 := s33.cell (o := 9) rfl
        have z10 := s33.cell (o := 10) rfl
        have z11 := s33.cell (o := 11) rfl
        have z12 := s33.cell (o := 12) rfl
        have z13 := s33.cell (o := 13) rfl
        have z14 := s33.cell (o := 14) rfl
        have z15 := s33.cell (o := 15) rfl
        have y0 := s32.cell (o := 0) rfl
        have y1 := s32.cell (o := 1) rfl
        have y2 := s32.cell (o := 2) rfl
        refine bodyPost_ret (v := .tuple #[.agg noF, .agg #[.bool true, .int .u32 1, .int .i64 0], .bool true]) (by simp [results, Try.results22, go_sem, z0, z1, z2, z3, z4, z5, z6, z7, z8, z9, z10, z11, z12, z13, z14, z15, y0, y1, y2]) rfl ?_
        rw [HO.out]
        exact ⟨rfl, H5.out.chg C33.out (by simp; omega), C5.out.trans C33.out (fun x hx => Or.inr (by simp at hx; omega))⟩
      · have HN : Hid (¬ ((K = 5 ∧ F.last = 0) ∨ (K = 8 ∧ F.inc = 0 ∧ ST = 0))) := Lib.hid (by rw [← HLA.out]; omega)
        have kl : (LA == 0) = false := by simp [hl]
        clear h5 hl
        go_wp2_with fail
        go_meet
        case rel => exact ⟨rfl, HN.out⟩
    · have k5 : ((K : Int) == 5) = false := by simp; omega
      by_cases h8 : K = 8
      · have k8 : ((K : Int) == 8) = true := by simp; omega
        by_cases hi : IN = 0
        · have ki : (IN == 0) = true := by simp [hi]
          by_cases hs : ST = 0
          · have ks : ((ST : Int) == 0) = true := by simp; omega
            have HO : Hid (nxt9 mx a b c k fl s1 s2 s3 s4 r = .broken 1) := Lib.hid (by rw [HO.out]; unfold okR; rw [if_pos (Or.inr ⟨h8, by rw [← HIN.out]; exact hi, hs⟩)])
            clear h5 h8 hi hs
            go_wp2_with fail
            refine (rbroken_any H8.out 1).mono ?_; rintro e w5 ⟨rfl, h5, c5⟩
            have b15 := B18.out.chg c5 (by simp; omega)
            have b25 := B28.out.chg c5 (by simp; omega)
            have H5 := Lib.hid h5; have C5 := Lib.hid ((C8.out.mono (m := [p]) (by simp)).trans' c5)
            clear h5 c5 x0 x2 xf
            go_wp2_with (refine store_whole rfl 27 _ _ rfl w.heap.size _ _ 27 rfl rfl b15 infoFr rfl (by simp [Value.oneCell']) ?_)
            intro w31 s31 c31
            have b231 := At.chg b25 c31 (by simp)
            go_wp2_with (refine store_whole rfl 46 _ _ rfl (w.heap.size + 1) _ _ 46 rfl rfl b231 infoFa rfl (by simp [Value.oneCell']) ?_)
            intro w32 s32 c32
            have s33 := At.chg s31 c32 (by simp)
            have c33 : Chg [w.heap.size, w.heap.size + 1] w5 w32 := (c31.mono (by simp)).trans' (c32.mono (by simp))
            have C33 := Lib.hid c33; have C31 := Lib.hid c31; have C32 := Lib.hid c32
            clear c31 c32 c33 b231 s31
            go_wp2_with fail
            have z0 := s33.cell (o := 0) rfl
            have z1 := s33.cell (o := 1) rfl
            have z2 := s33.cell (o := 2) rfl
            have z3 := s33.cell (o := 3) rfl
            have z4 := s33.cell (o := 4) rfl
            have z5 := s33.cell (o := 5) rfl
            have z6 := s33.cell (o := 6) rfl
            have z7 := s33.cell (o := 7) rfl
            have z8 := s33.cell (o := 8) rfl
            have z9 := s33.cell (o := 9) rfl
            have z10 := s33.cell (o := 10) rfl
            have z11 := s33.cell (o := 11) rfl
            have z12 := s33.cell (o := 12) rfl
            have z13 := s33.cell (o := 13) rfl
            have z14 := s33.cell (o := 14) rfl
            have z15 := s33.cell (o := 15) rfl
            have y0 := s32.cell (o := 0) rfl
            have y1 := s32.cell (o := 1) rfl
            have y2 := s32.cell (o := 2) rfl
            refine bodyPost_ret (v := .tuple #[.agg noF, .agg #[.bool true, .int .u32 1, .int .i64 0], .bool true]) (by simp [results, Try.results22, go_sem, z0, z1, z2, z3, z4, z5, z6, z7, z8, z9, z10, z11, z12, z13, z14, z15, y0, y1, y2]) rfl ?_
            rw [HO.out]
            exact ⟨rfl, H5.out.chg C33.out (by simp; omega), C5.out.trans C33.out (fun x hx => Or.inr (by simp at hx; omega))⟩
          · have ks : ((ST : Int) == 0) = false := by simp; omega
            have HN : Hid (¬ ((K = 5 ∧ F.last = 0) ∨ (K = 8 ∧ F.inc = 0 ∧ ST = 0))) := Lib.hid (by omega)
            clear h5 h8 hi hs
            go_wp2_with fail
            go_meet
            case rel => exact ⟨rfl, HN.out⟩
        · have ki : (IN == 0) = false := by simp [hi]
          have HN : Hid (¬ ((K = 5 ∧ F.last = 0) ∨ (K = 8 ∧ F.inc = 0 ∧ ST = 0))) := Lib.hid (by rw [← HIN.out]; omega)
          clear h5 h8 hi
          go_wp2_with fail
          go_meet
          case rel => exact ⟨rfl, HN.out⟩
      · have k8 : ((K : Int) == 8) = false := by simp; omega
        have HN : Hid (¬ ((K = 5 ∧ F.last = 0) ∨ (K = 8 ∧ F.inc = 0 ∧ ST = 0))) := Lib.hid (by omega)
        clear h5 h8
        go_wp2_with fail
        go_meet
        case rel => exact ⟨rfl, HN.out⟩
  as_aux_lemma =>
  obtain ⟨hwx, hno⟩ := hcut
  have hwx' := hwx.symm
  subst hwx'
  have HO : Hid (nxt9 mx a b c k fl s1 s2 s3 s4 r = if K = 8 ∧ F.inc = 0 then .fault 1 ST R else .frame (atSt F ST) R) := Lib.hid (by rw [HO.out]; unfold okR; rw [if_neg hno])
  clear hno
  iterate 2 go_step
  go_cut [] from 197 to 206 (fun wx => wx = w7.setCell ⟨p, 0, none⟩ (.string Z))
  case first =>
    go_wp2_with fail
    go_meet
    case rel => first | rfl | rw [eZ]
  obtain ⟨w8, rfl⟩ : ∃ w8, w8 = wc := ⟨_, rfl⟩
  have c9 : Chg [p] w7 w8 := by rw [hcut]; exact (Chg.refl _).setCell (Or.inl (by simp)) _
  have h9 : RP W w8 p R mx false := by rw [hcut, HZ.out]; exact ⟨H8.out.head.set 0 _, H8.out.lo, H8.out.b1, H8.out.b2⟩
  have H9 := Lib.hid h9; have C9 : Hid (Chg [p] w w8) := Lib.hid ((C8.out.mono (m := [p]) (by simp)).trans' c9)
  have B19 := Lib.hid (B18.out.chg c9 (by simp; omega)); have B29 := Lib.hid (B28.out.chg c9 (by simp; omega))
  have A9 := Lib.hid (A7.out.chg c9 (by simp; omega))
  have BP9 := Lib.hid (bytes_ne BP8.out H8.out.head (by simp) c9)
  have hol : ∀ g, g < w5.heap.size → ∀ {w1 w2 : World}, SliceOf w1 (.slice sa F.list.length sc) 2 encS F.list → Chg [g] w1 w2 → SliceOf w2 (.slice sa F.list.length sc) 2 encS F.list := fun g hg w1 w2 hs hc => by
    obtain ⟨a, cap, e0, h1, h2, h3⟩ := hs
    cases e0
    rcases Nat.eq_zero_or_pos F.list.length with h0 | h0
    · exact ⟨sa, sc, rfl, h1, h2, fun hh => by omega⟩
    · obtain ⟨b, off, rfl, _⟩ := h3 h0
      refine SliceOf.chg ⟨_, _, rfl, h1, h2, h3⟩ hc (fun a n cap e => ?_)
      cases e
      have hb : b ∈ (Value.slice (some ⟨b, off, none⟩) F.list.length sc).ownBlock.toList := by simp [Value.ownBlock]
      simp only [List.mem_singleton]
      rintro rfl
      exact hO5.out b hg h0 hb
  have HOL := Lib.hid hol
  have SL9 := Lib.hid (hol p hp5 SL8.out c9)
  have y14 : World.cell? w8 ⟨BF, 14, none⟩ = some (.int .i64 LA) := by rw [HLA.out]; exact A9.out.cell rfl
  have y15 : World.cell? w8 ⟨BF, 15, none⟩ = some (.int .i64 IN) := by rw [HIN.out]; exact A9.out.cell rfl
  have hBl8 := A9.out.lt
  clear hcut c9 h9 H8 B18 B28 C8 A7 BP8 SL8 x0 x2 xf hp3 z14 z15 hBl eZ hol
  have hp8 := H9.out.head.lt
  iterate 2 go_step
  by_cases hfi : K = 8 ∧ F.inc = 0
  · have HO : Hid (nxt9 mx a b c k fl s1 s2 s3 s4 r = .fault 1 ST R) := Lib.hid (by rw [HO.out, if_pos hfi])
    have k8 : ((K : Int) == 8) = true := by have := hfi.1; simp; omega
    have ki : (IN == 0) = true := by rw [HIN.out]; simp [hfi.2]
    clear hfi
    go_wp2_with (refine store_whole rfl 27 _ _ rfl w.heap.size _ _ 27 rfl rfl B19.out infoFr rfl (by simp [Value.oneCell']) ?_)
    intro w31 s31 c31
    have b231 := At.chg B29.out c31 (by simp)
    go_wp2_with (refine store_whole rfl 46 _ _ rfl (w.heap.size + 1) _ _ 46 rfl rfl b231 infoFa rfl (by simp [Value.oneCell']) ?_)
    intro w32 s32 c32
    have s33 := At.chg s31 c32 (by simp)
    have c33 : Chg [w.heap.size, w.heap.size + 1] w8 w32 := (c31.mono (by simp)).trans' (c32.mono (by simp))
    have C33 := Lib.hid c33; have C31 := Lib.hid c31; have C32 := Lib.hid c32
    clear c31 c32 c33 b231 s31
    go_wp2_with fail
    have z0 := s33.cell (o := 0) rfl
    have z1 := s33.cell (o := 1) rfl
    have z2 := s33.cell (o := 2) rfl
    have z3 := s33.cell (o := 3) rfl
    have z4 := s33.cell (o := 4) rfl
    have z5 := s33.cell (o := 5) rfl
    have z6 := s33.cell (o := 6) rfl
    have z7 := s33.cell (o := 7) rfl
    have z8 := s33.cell (o := 8) rfl
    have z9 := s33.cell (o := 9) rfl
    have z10 := s33.cell (o := 10) rfl
    have z11 := s33.cell (o := 11) rfl
    have z12 := s33.cell (o := 12) rfl
    have z13 := s33.cell (o := 13) rfl
    have z14 := s33.cell (o := 14) rfl
    have z15 := s33.cell (o := 15) rfl
    have y0 := s32.cell (o := 0) rfl
    have y1 := s32.cell (o := 1) rfl
    have y2 := s32.cell (o := 2) rfl
    refine bodyPost_ret (v := .tuple #[.agg noF, .agg #[.bool true, .int .u32 1, .int .i64 (ST : Nat)], .bool true]) (by simp [results, Try.results22, go_sem, z0, z1, z2, z3, z4, z5, z6, z7, z8, z9, z10, z11, z12, z13, z14, z15, y0, y1, y2]) rfl ?_
    rw [HO.out]
    exact ⟨rfl, H9.out.chg C33.out (by simp; omega), C9.out.trans C33.out (fun x hx => Or.inr (by simp at hx; omega))⟩
  · have HO : Hid (nxt9 mx a b c k fl s1 s2 s3 s4 r = .frame (atSt F ST) R) := Lib.hid (by rw [HO.out, if_neg hfi])
    have y0 : World.cell? w8 ⟨BF, 0, none⟩ = some (.int .i64 F.kind) := A9.out.cell rfl
    have y1 : World.cell? w8 ⟨BF, 1, none⟩ = some (.int .i64 (ST : Nat)) := A9.out.cell rfl
    have y2 : World.cell? w8 ⟨BF, 2, none⟩ = some (.bool F.fin) := A9.out.cell rfl
    have y3 : World.cell? w8 ⟨BF, 3, none⟩ = some (.bool F.eh) := A9.out.cell rfl
    have y4 : World.cell? w8 ⟨BF, 4, none⟩ = some (.bool F.ack) := A9.out.cell rfl
    have y5 : World.cell? w8 ⟨BF, 5, none⟩ = some (.bool F.prio) := A9.out.cell rfl
    have y6 : World.cell? w8 ⟨BF, 6, none⟩ = some (.slice pa F.pay.length pc) := A9.out.cell rfl
    have y7 : World.cell? w8 ⟨BF, 7, none⟩ = some (.int .i64 F.flags) := A9.out.cell rfl
    have y8 : World.cell? w8 ⟨BF, 8, none⟩ = some (.int .i64 F.pad) := A9.out.cell rfl
    have y9 : World.cell? w8 ⟨BF, 9, none⟩ = some (.int .i64 F.depend) := A9.out.cell rfl
    have y10 : World.cell? w8 ⟨BF, 10, none⟩ = some (.bool F.excl) := A9.out.cell rfl
    have y11 : World.cell? w8 ⟨BF, 11, none⟩ = some (.int .i64 F.weight) := A9.out.cell rfl
    have y12 : World.cell? w8 ⟨BF, 12, none⟩ = some (.int .u32 F.code) := A9.out.cell rfl
    have y13 : World.cell? w8 ⟨BF, 13, none⟩ = some (.slice sa F.list.length sc) := A9.out.cell rfl
    have hways : (((K : Int) == 8) = true ∧ (IN == 0) = false) ∨ (((K : Int) == 8) = false ∧ (0 : Int) ≤ 1) := by
      by_cases h8 : K = 8
      · exact Or.inl ⟨by simp; omega, by rw [HIN.out]; simp; exact fun h => hfi ⟨h8, h⟩⟩
      · exact Or.inr ⟨by simp; omega, by omega⟩
    clear hfi
    rcases hways with ⟨k8, ki⟩ | ⟨k8, ki⟩
    all_goals
      go_wp2_with (refine store_whole rfl 27 _ _ rfl w.heap.size _ _ 27 rfl rfl B19.out infoFr rfl (by simp [Value.oneCell']) ?_)
      intro w31 s31 c31
      have b231 := At.chg B29.out c31 (by simp)
      go_wp2_with (refine store_whole rfl 46 _ _ rfl (w.heap.size + 1) _ _ 46 rfl rfl b231 infoFa rfl (by simp [Value.oneCell']) ?_)
      intro w32 s32 c32
      have s33 := At.chg s31 c32 (by simp)
      have c33 : Chg [w.heap.size, w.heap.size + 1] w8 w32 := (c31.mono (by simp)).trans' (c32.mono (by simp))
      have C33 := Lib.hid c33; have C31 := Lib.hid c31; have C32 := Lib.hid c32
      clear c31 c32 c33 b231 s31
      go_wp2_with fail
      have z0 := s33.cell (o := 0) rfl
      have z1 := s33.cell (o := 1) rfl
      have z2 := s33.cell (o := 2) rfl
      have z3 := s33.cell (o := 3) rfl
      have z4 := s33.cell (o := 4) rfl
      have z5 := s33.cell (o := 5) rfl
      have z6 := s33.cell (o := 6) rfl
      have z7 := s33.cell (o := 7) rfl
      have z8 := s33.cell (o := 8) rfl
      have z9 := s33.cell (o := 9) rfl
      have z10 := s33.cell (o := 10) rfl
      have z11 := s33.cell (o := 11) rfl
      have z12 := s33.cell (o := 12) rfl
      have z13 := s33.cell (o := 13) rfl
      have z14 := s33.cell (o := 14) rfl
      have z15 := s33.cell (o := 15) rfl
      have y0 := s32.cell (o := 0) rfl
      have y1 := s32.cell (o := 1) rfl
      have y2 := s32.cell (o := 2) rfl
      refine bodyPost_ret (v := .tuple #[.agg #[.int .i64 F.kind, .int .i64 (ST : Nat), .bool F.fin, .bool F.eh, .bool F.ack, .bool F.prio, .slice pa F.pay.length pc, .int .i64 F.flags, .int .i64 F.pad, .int .i64 F.depend, .bool F.excl, .int .i64 F.weight, .int .u32 F.code, .slice sa F.list.length sc, .int .i64 LA, .int .i64 IN], .agg noX, .bool true]) (by simp [results, Try.results22, go_sem, z0, z1, z2, z3, z4, z5, z6, z7, z8, z9, z10, z11, z12, z13, z14, z15, y0, y1, y2]) rfl ?_
      rw [HO.out]
      have CF := Lib.hid (C9.out.trans C33.out (fun x hx => Or.inr (by simp at hx; omega)))
      have c1 : Chg [w.heap.size] w8 w31 := C31.out
      have c2 : Chg [w.heap.size + 1] w31 w32 := C32.out
      have B231 := B29.out.chg c1 (by simp)
      refine ⟨.slice pa F.pay.length pc, .slice sa F.list.length sc, (by rw [HLA.out, HIN.out]; rfl), ?_, ?_, H9.out.chg C33.out (by simp; omega), CF.out⟩
      · exact bytes_ne (bytes_ne BP9.out B19.out (by simp) c1) B231 (by simp) c2
      · exact HOL.out _ hB5 (HOL.out _ (by omega) SL9.out c1) c2
theorem rnext_nine {W w : World} {p : Nat} {a b c k fl s1 s2 s3 s4 : UInt8} {r : List UInt8} {mx : Nat} (h : RP W w p (a :: b :: c :: k :: fl :: s1 :: s2 :: s3 :: s4 :: r) mx false) (hr : r.length ≤ 100000000) :
    Calls Try.prog 22 #[.pointer (some ⟨p, 0, none⟩)] w fun e w' => RNext W w p (a :: b :: c :: k :: fl :: s1 :: s2 :: s3 :: s4 :: r) mx false e w' (nxt9 mx a b c k fl s1 s2 s3 s4 r) := by
  by_cases h1 : mx < threeN a b c
  · exact rnext_low h hr (Or.inl h1)
  by_cases h2 : r.length < threeN a b c
  · exact rnext_low h hr (Or.inr (Or.inl h2))
  cases h3 : strayB (k.toNat : Nat) ((fourN s1 s2 s3 s4 % 2147483648 : Nat) : Int) with
  | true => exact rnext_low h hr (Or.inr (Or.inr h3))
  | false =>
    cases h4 : badLen k.toNat fl (threeN a b c) with
    | true => exact rnext_len h hr h1 h2 h3 h4
    | false => exact rnext_good h hr h1 h2 h3 h4
end Go.Proofs.Ythhgnipiaohplaa.Fr
