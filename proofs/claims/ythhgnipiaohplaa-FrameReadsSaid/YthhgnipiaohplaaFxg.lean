/-
  The document's Next: a payload of a wrong size.
-/
import Derived.Test.YthhgnipiaohplaaFxe
import Derived.Deep.DeepCutAuto
namespace Go.Proofs.Ythhgnipiaohplaa.Fr
open Go.ChangeShapes Go.WideShapes Go.ChangeAt Go.RowKit
open Go.Proofs.Ythhgnipiaohplaa.B
set_option linter.unusedVariables false
set_option linter.unusedSimpArgs false

set_option maxRecDepth 100000 in
set_option maxHeartbeats 16000000 in
theorem rnext_len {W w : World} {p : Nat} {a b c k fl s1 s2 s3 s4 : UInt8} {r : List UInt8} {mx : Nat} (h : RP W w p (a :: b :: c :: k :: fl :: s1 :: s2 :: s3 :: s4 :: r) mx false) (hr : r.length ≤ 100000000) (q1 : ¬ mx < threeN a b c) (q2 : ¬ r.length < threeN a b c) (q3 : strayB (k.toNat : Nat) ((fourN s1 s2 s3 s4 % 2147483648 : Nat) : Int) = false) (q4 : badLen k.toNat fl (threeN a b c) = true) :
    Calls Try.prog 22 #[.pointer (some ⟨p, 0, none⟩)] w fun e w' => RNext W w p (a :: b :: c :: k :: fl :: s1 :: s2 :: s3 :: s4 :: r) mx false e w' (nxt9 mx a b c k fl s1 s2 s3 s4 r) := by
  have Q1 := Lib.hid q1; have Q2 := Lib.hid q2; have Q3 := Lib.hid q3; have Q4 := Lib.hid q4
  clear q1 q2 q3 q4
  obtain ⟨X, hX⟩ : ∃ X, X = bstr (a :: b :: c :: k :: fl :: s1 :: s2 :: s3 :: s4 :: r) := ⟨_, rfl⟩
  obtain ⟨RN, hRN⟩ : ∃ n, n = r.length := ⟨_, rfl⟩
  have zX : X.size = RN + 9 := by rw [hX, bstr_size, hRN]; simp
  obtain ⟨K, hK⟩ : ∃ n : Nat, n = k.toNat := ⟨_, rfl⟩
  obtain ⟨FL, hFL⟩ : ∃ n : Nat, n = fl.toNat := ⟨_, rfl⟩
  have hK8 : K < 256 := by rw [hK]; exact k.toNat_lt
  have hF8 : FL < 256 := by rw [hFL]; exact fl.toNat_lt
  have q3 : ∀ h, ((X[3]'h).toNat : Int) = (K : Int) := fun h => by subst hX; rw [bstr_at, hK]; rfl
  have q4 : ∀ h, ((X[4]'h).toNat : Int) = (FL : Int) := fun h => by subst hX; rw [bstr_at, hFL]; rfl
  obtain ⟨N, hN⟩ : ∃ N, N = threeN a b c := ⟨_, rfl⟩
  have hN3 : N < 16777216 := by rw [hN]; unfold threeN; have := a.toNat_lt; have := b.toNat_lt; have := c.toNat_lt; omega
  obtain ⟨V, hV⟩ : ∃ V, V = fourN s1 s2 s3 s4 := ⟨_, rfl⟩
  have hV4 : V < 4294967296 := by rw [hV]; exact get4_lt [s1, s2, s3, s4]
  obtain ⟨ST, hST⟩ : ∃ n, n = V % 2147483648 := ⟨_, rfl⟩
  have hST2 : ST < 2147483648 := by rw [hST]; omega
  have G3 : Hid (∀ w, Calls Try.prog 43 #[.string X, .int .i64 0, .int .i64 3] w fun e w' => e = .returned (.int .u64 (N : Int)) ∧ w' = w) := Lib.hid (fun w => by rw [hX, hN]; exact get3_any a b c _ (by simp; omega) w)
  have G5 : Hid (∀ w, Calls Try.prog 43 #[.string X, .int .i64 5, .int .i64 4] w fun e w' => e = .returned (.int .u64 (V : Int)) ∧ w' = w) := Lib.hid (fun w => by rw [hX, hV]; exact get5_any a b c k fl s1 s2 s3 s4 r hr w)
  have LOW : Hid (∀ w, Calls Try.prog 44 #[.int .u64 (V : Int)] w fun e w' => e = .returned (.int .i64 (ST : Int)) ∧ w' = w) := Lib.hid (fun w => by rw [hST]; exact low_any V w)
  obtain ⟨w3, hw3⟩ : ∃ w3, w3 = (w.alloc (.cells noF 27)).alloc (.cells noX 46) := ⟨_, rfl⟩
  have c0 : Chg [] w w3 := by rw [hw3]; exact ((Chg.refl w).alloc _).alloc _
  have b1 : At w3 w.heap.size (.cells noF 27 (0, 0)) := by rw [hw3]; exact (At.new w _).alloc _
  have b2 : At w3 (w.heap.size + 1) (.cells noX 46 (0, 0)) := by rw [hw3]; exact At.new' (w := w.alloc (.cells noF 27)) (by simp)
  have hpw := h.head.lt
  have H3 := Lib.hid (h.chg0 c0); have C0 := Lib.hid c0; have B1 := Lib.hid b1; have B2 := Lib.hid b2; have HW := Lib.hid hw3
  have x0 : World.cell? w3 ⟨p, 0, none⟩ = some (.string X) := by rw [hX]; exact H3.out.head.cell rfl
  have x1 : World.cell? w3 ⟨p, 1, none⟩ = some (.int .i64 (mx : Int)) := H3.out.head.cell rfl
  have x2 : World.cell? w3 ⟨p, 2, none⟩ = some (.bool false) := H3.out.head.cell rfl
  have hp3 := H3.out.head.lt
  have xf : True := trivial
  have HX := Lib.hid hX; have HRN := Lib.hid hRN; have HK := Lib.hid hK; have HFL := Lib.hid hFL; have HN := Lib.hid hN; have HV := Lib.hid hV; have HST := Lib.hid hST
  have hm2 := h.b2
  rw [← hRN] at hr
  clear h hX hRN hK hFL hN hV hST hw3 c0 b1 b2
  go_enter Try.func22, Try.ntmps22
  go_upto_region 1 with fail
  rw [← HW.out]
  go_upto_region 7 with (first
    | (go_at_call 43; first
      | (with_reducible refine (G3.out _).mono ?_; rintro e wx ⟨rfl, hw⟩; have hw' := hw.symm; subst hw')
      | (with_reducible refine (G5.out _).mono ?_; rintro e wx ⟨rfl, hw⟩; have hw' := hw.symm; subst hw'))
    | (go_at_call 44; with_reducible refine (LOW.out _).mono ?_; rintro e wx ⟨rfl, hw⟩; have hw' := hw.symm; subst hw'))
  have hm : ¬ mx < N := by rw [HN.out]; exact Q1.out
  have hw : ¬ RN < N := by rw [HN.out, HRN.out]; exact Q2.out
  have g7 : ¬ (mx : Int) < (N : Int) := by omega
  have g8 : ¬ (RN : Int) < (N : Int) := by omega
  have hsb : strayB (K : Int) (ST : Int) = false := by rw [HK.out, HST.out, HV.out]; exact Q3.out
  have RS : Hid (∀ w, Calls Try.prog 46 #[.int .i64 (K : Int), .int .i64 (ST : Int)] w fun e w' => e = .returned (.bool false) ∧ w' = w) := Lib.hid (fun w => by rw [← hsb]; exact rstray_any _ _ w)
  have HO : Hid (nxt9 mx a b c k fl s1 s2 s3 s4 r = docR K ST fl (r.take N) (r.drop N)) := Lib.hid (by unfold nxt9; rw [← HN.out, if_neg hm, ← HRN.out, if_neg hw, ← HV.out, ← HST.out, ← HK.out, hsb, if_neg (by simp), doc_out])
  clear hsb
  go_wp2_with fail
  refine (RS.out _).mono ?_; rintro e wx ⟨rfl, hw'⟩
  have hw2 := hw'.symm
  subst hw2
  clear RS
  obtain ⟨s, hs⟩ : ∃ s, s = r.take N := ⟨_, rfl⟩
  rw [← hs] at HO
  have hsl : s.length = N := by rw [hs, List.length_take, ← HRN.out]; omega
  obtain ⟨R, hR⟩ : ∃ R, R = r.drop N := ⟨_, rfl⟩
  rw [← hR] at HO
  obtain ⟨Y, hY⟩ : ∃ Y, Y = bstr s := ⟨_, rfl⟩
  obtain ⟨Z, hZ⟩ : ∃ Z, Z = bstr R := ⟨_, rfl⟩
  have eY : X.extract 9 (9 + N) = Y := by rw [HX.out, bstr_cut, hY, hs, Nat.add_comm 9 N]; rfl
  have eZ : X.extract (9 + N) (RN + 9) = Z := by
    rw [HX.out, bstr_cut, hZ, hR, HRN.out, List.take_of_length_le (by simp), ← List.drop_drop]; rfl
  obtain ⟨LE, hLE⟩ : ∃ n, n = leastN K fl := ⟨_, rfl⟩
  obtain ⟨JU, hJU⟩ : ∃ b, b = justK K := ⟨_, rfl⟩
  have hL14 : LE ≤ 14 := by rw [hLE]; exact leastN_le K fl
  have LST : Hid (∀ w, Calls Try.prog 47 #[.int .i64 (K : Int), .int .i64 (FL : Int)] w fun e w' => e = .returned (.tuple #[.int .i64 (LE : Nat), .bool JU]) ∧ Chg [] w w') := Lib.hid (fun w => by rw [hLE, hJU, HFL.out]; exact rleast_any K fl w)
  have RDA : Hid (badLen K fl N = false → badPad K fl s = false → ∀ w, Calls Try.prog 50 #[.int .i64 (K : Int), .int .i64 (FL : Int), .string Y] w (RdX (readF K fl s) w)) := Lib.hid (fun h1 h2 w => by rw [HFL.out, hY]; exact rread_any K fl s (by omega) (by rw [hsl]; exact h1) h2 w)
  have HLE := Lib.hid hLE; have HJU := Lib.hid hJU; have HS := Lib.hid hs; have HR := Lib.hid hR; have HY := Lib.hid hY; have HZ := Lib.hid hZ; have HSL := Lib.hid hsl
  clear hLE hJU hs hR hY hZ hsl
  go_upto_region 13 with fail
  go_cut [9] from 81 to 87 (fun v wx => v = .string Y ∧ wx = w3)
  case first =>
    go_wp2_with fail
    go_meet
    case rel => exact ⟨by rw [eY], rfl⟩
  obtain ⟨rfl, hwx⟩ := hcut
  have hwx' := hwx.symm
  subst hwx'
  clear eY
  iterate 2 go_step
  go_cut [10, 11] from 88 to 93 (fun va vb wx => va = .int .i64 (LE : Nat) ∧ vb = .bool JU ∧ Chg [] w3 wx)
  case first =>
    go_wp2_with fail
    refine (LST.out _).mono ?_; rintro e w4 ⟨rfl, c4⟩
    go_wp2_with fail
    go_meet
    case rel => exact ⟨rfl, rfl, c4⟩
  obtain ⟨rfl, rfl, c4⟩ := hcut
  obtain ⟨w4, rfl⟩ : ∃ w4, w4 = wc := ⟨_, rfl⟩
  clear x1 LST
  have H4 := Lib.hid (H3.out.chg0 c4); have C4 := Lib.hid (C0.out.trans' c4)
  have B14 := Lib.hid (B1.out.chg c4 (by simp)); have B24 := Lib.hid (B2.out.chg c4 (by simp))
  clear c4 x0 x2 xf hp3 H3 C0 B1 B2
  have x0 : World.cell? w4 ⟨p, 0, none⟩ = some (.string X) := by rw [HX.out]; exact H4.out.head.cell rfl
  have x2 : World.cell? w4 ⟨p, 2, none⟩ = some (.bool false) := H4.out.head.cell rfl
  have xf : ∀ j, World.frozen? w4 ⟨p, j, none⟩ = false := fun j => H4.out.head.free j
  have hp3 := H4.out.head.lt
  obtain ⟨g1, hg1⟩ : ∃ b, b = bitB fl 0 := ⟨_, rfl⟩
  have E1 : (Go.bits .and .i64 (FL : Int) 1 != 0) = g1 := by rw [HFL.out, hg1]; exact (bne_of _ 1 (by decide) _ (bit1 fl)).1
  have HBL : Hid (badLen K fl N = (decide (N < LE) || (JU && N != LE) || (K == 4 && (N % 6 != 0 || (g1 && decide (0 < N)))))) := Lib.hid (by unfold badLen; rw [← HLE.out, ← HJU.out, ← hg1])
  clear hg1
  have QB : Hid (badLen K fl N = true) := Lib.hid (by rw [HK.out, HN.out]; exact Q4.out)
  cases JU with
  | true =>
    have hK4 : (K == 4) = false := by have := HJU.out; cases h : K == 4 with | false => rfl | true => (simp at h; rw [h] at this; simp [justK] at this)
    by_cases hE : N = LE
    · have HB : Hid (badLen K fl N = false) := Lib.hid (by rw [HBL.out, hK4, hE]; simp)
      have k1 : ¬ (N : Int) < (LE : Int) := by omega
      have k2 : ((N : Int) != (LE : Int)) = false := by simp [hE]
      have k3 : ((K : Int) == 4) = false := by simp at hK4; simp; omega
      clear hE hK4 E1 HBL
      exact absurd (QB.out.symm.trans HB.out) (by simp)
    · have HB : badLen K fl N = true := by rw [HBL.out]; simp [hE]
      have k2 : ((N : Int) != (LE : Int)) = true := by simp; omega
      by_cases hK2 : K = 2
      · have HO : Hid (nxt9 mx a b c k fl s1 s2 s3 s4 r = .fault 6 ST R) := Lib.hid (by rw [HO.out]; exact docR_len2 (by rw [HSL.out]; exact HB) hK2)
        have k3 : ((K : Int) == 2) = true := by simp; omega
        clear HB hK2 hK4 E1 HBL
        as_aux_lemma =>
        rcases Nat.lt_or_ge N LE with k1 | k1
        · have k1' : (N : Int) < (LE : Int) := by omega
          go_upto_region 18 with fail
          obtain ⟨w5, hw5⟩ : ∃ w5, w5 = w4.setCell ⟨p, 0, none⟩ (.string Z) := ⟨_, rfl⟩
          have c5 : Chg [p] w4 w5 := by rw [hw5]; exact (Chg.refl _).setCell (Or.inl (by simp)) _
          have h5 : RP W w5 p R mx false := by rw [hw5, HZ.out]; exact ⟨H4.out.head.set 0 _, H4.out.lo, H4.out.b1, H4.out.b2⟩
          have b15 := B14.out.chg c5 (by simp; omega)
          have b25 := B24.out.chg c5 (by simp; omega)
          have H5 := Lib.hid h5; have C5 := Lib.hid ((C4.out.mono (m := [p]) (by simp)).trans' c5)
          rw [← hw5]
          clear h5 c5 x0 x2 xf hw5 eZ
          go_wp2_with (refine store_whole rfl 27 _ _ rfl w.heap.size _ _ 27 rfl rfl b15 infoFr rfl (by simp [Value.oneCell']) ?_)
          intro w31 s31 c31
          have b231 := At.chg b25 c31 (by simp)
          go_wp2_with (refine store_whole rfl 46 _ _ rfl (w.heap.size + 1) _ _ 46 rfl rfl b231 infoFa rfl (by simp [Value.oneCell']) ?_)
          intro w32 s32 c32
          have s33 := At.chg s31 c32 (by simp)
          have c33 : Chg [w.heap.size, w.heap.size + 1] w5 w32 := (c31.mono (by simp)).trans' (c32.mono (by simp))
          have C33 := Lib.hid c33; have C31 := Lib.hid c31; have C32 := Lib.hid c32
          clear c31 c32 c33 b231 s31
          go_wp2_with fail
          have z0 := s33.cell (o := 0) rfl
          have z1 := s33.cell (o := 1) rfl
          have z2 := s33.cell (o := 2) rfl
          have z3 := s33.cell (o := 3) rfl
          have z4 := s33.cell (o := 4) rfl
          have z5 := s33.cell (o := 5) rfl
          have z6 := s33.cell (o := 6) rfl
          have z7 := s33.cell (o := 7) rfl
          have z8 := s33.cell (o := 8) rfl
          have z9 := s33.cell (o := 9) rfl
          have z10 := s33.cell (o := 10) rfl
          have z11 := s33.cell (o := 11) rfl
          have z12 := s33.cell (o := 12) rfl
          have z13 := s33.cell (o := 13) rfl
          have z14 := s33.cell (o := 14) rfl
          have z15 := s33.cell (o := 15) rfl
          have y0 := s32.cell (o := 0) rfl
          have y1 := s32.cell (o := 1) rfl
          have y2 := s32.cell (o := 2) rfl
          refine bodyPost_ret (v := .tuple #[.agg noF, .agg #[.bool true, .int .u32 6, .int .i64 (ST : Nat)], .bool true]) (by simp [results, Try.results22, go_sem, z0, z1, z2, z3, z4, z5, z6, z7, z8, z9, z10, z11, z12, z13, z14, z15, y0, y1, y2]) rfl ?_
          rw [HO.out]
          exact ⟨rfl, H5.out.chg C33.out (by simp; omega), C5.out.trans C33.out (fun x hx => Or.inr (by simp at hx; omega))⟩
        · have k1' : ¬ (N : Int) < (LE : Int) := by omega
          go_upto_region 18 with fail
          obtain ⟨w5, hw5⟩ : ∃ w5, w5 = w4.setCell ⟨p, 0, none⟩ (.string Z) := ⟨_, rfl⟩
          have c5 : Chg [p] w4 w5 := by rw [hw5]; exact (Chg.refl _).setCell (Or.inl (by simp)) _
          have h5 : RP W w5 p R mx false := by rw [hw5, HZ.out]; exact ⟨H4.out.head.set 0 _, H4.out.lo, H4.out.b1, H4.out.b2⟩
          have b15 := B14.out.chg c5 (by simp; omega)
          have b25 := B24.out.chg c5 (by simp; omega)
          have H5 := Lib.hid h5; have C5 := Lib.hid ((C4.out.mono (m := [p]) (by simp)).trans' c5)
          rw [← hw5]
          clear h5 c5 x0 x2 xf hw5 eZ
          go_wp2_with (refine store_whole rfl 27 _ _ rfl w.heap.size _ _ 27 rfl rfl b15 infoFr rfl (by simp [Value.oneCell']) ?_)
          intro w31 s31 c31
          have b231 := At.chg b25 c31 (by simp)
          go_wp2_with (refine store_whole rfl 46 _ _ rfl (w.heap.size + 1) _ _ 46 rfl rfl b231 infoFa rfl (by simp [Value.oneCell']) ?_)
          intro w32 s32 c32
          have s33 := At.chg s31 c32 (by simp)
          have c33 : Chg [w.heap.size, w.heap.size + 1] w5 w32 := (c31.mono (by simp)).trans' (c32.mono (by simp))
          have C33 := Lib.hid c33; have C31 := Lib.hid c31; have C32 := Lib.hid c32
          clear c31 c32 c33 b231 s31
          go_wp2_with fail
          have z0 := s33.cell (o := 0) rfl
          have z1 := s33.cell (o := 1) rfl
          have z2 := s33.cell (o := 2) rfl
          have z3 := s33.cell (o := 3) rfl
          have z4 := s33.cell (o := 4) rfl
          have z5 := s33.cell (o := 5) rfl
          have z6 := s33.cell (o := 6) rfl
          have z7 := s33.cell (o := 7) rfl
          have z8 := s33.cell (o := 8) rfl
          have z9 := s33.cell (o := 9) rfl
          have z10 := s33.cell (o := 10) rfl
          have z11 := s33.cell (o := 11) rfl
          have z12 := s33.cell (o := 12) rfl
          have z13 := s33.cell (o := 13) rfl
          have z14 := s33.cell (o := 14) rfl
          have z15 := s33.cell (o := 15) rfl
          have y0 := s32.cell (o := 0) rfl
          have y1 := s32.cell (o := 1) rfl
          have y2 := s32.cell (o := 2) rfl
          refine bodyPost_ret (v := .tuple #[.agg noF, .agg #[.bool true, .int .u32 6, .int .i64 (ST : Nat)], .bool true]) (by simp [results, Try.results22, go_sem, z0, z1, z2, z3, z4, z5, z6, z7, z8, z9, z10, z11, z12, z13, z14, z15, y0, y1, y2]) rfl ?_
          rw [HO.out]
          exact ⟨rfl, H5.out.chg C33.out (by simp; omega), C5.out.trans C33.out (fun x hx => Or.inr (by simp at hx; omega))⟩
      · have HO : Hid (nxt9 mx a b c k fl s1 s2 s3 s4 r = .broken 6) := Lib.hid (by rw [HO.out]; exact docR_len (by rw [HSL.out]; exact HB) hK2)
        have k3 : ((K : Int) == 2) = false := by simp; omega
        clear HB hK2 hK4 E1 HBL
        as_aux_lemma =>
        rcases Nat.lt_or_ge N LE with k1 | k1
        · have k1' : (N : Int) < (LE : Int) := by omega
          go_wp2_with fail
          refine (rbroken_any H4.out 6).mono ?_; rintro e w5 ⟨rfl, h5, c5⟩
          have b15 := B14.out.chg c5 (by simp; omega)
          have b25 := B24.out.chg c5 (by simp; omega)
          have H5 := Lib.hid h5; have C5 := Lib.hid ((C4.out.mono (m := [p]) (by simp)).trans' c5)
          clear h5 c5 x0 x2 xf
          go_wp2_with (refine store_whole rfl 27 _ _ rfl w.heap.size _ _ 27 rfl rfl b15 infoFr rfl (by simp [Value.oneCell']) ?_)
          intro w31 s31 c31
          have b231 := At.chg b25 c31 (by simp)
          go_wp2_with (refine store_whole rfl 46 _ _ rfl (w.heap.size + 1) _ _ 46 rfl rfl b231 infoFa rfl (by simp [Value.oneCell']) ?_)
          intro w32 s32 c32
          have s33 := At.chg s31 c32 (by simp)
          have c33 : Chg [w.heap.size, w.heap.size + 1] w5 w32 := (c31.mono (by simp)).trans' (c32.mono (by simp))
          have C33 := Lib.hid c33; have C31 := Lib.hid c31; have C32 := Lib.hid c32
          clear c31 c32 c33 b231 s31
          go_wp2_with fail
          have z0 := s33.cell (o := 0) rfl
          have z1 := s33.cell (o := 1) rfl
          have z2 := s33.cell (o := 2) rfl
          have z3 := s33.cell (o := 3) rfl
          have z4 := s33.cell (o := 4) rfl
          have z5 := s33.cell (o := 5) rfl
          have z6 := s33.cell (o := 6) rfl
          have z7 := s33.cell (o := 7) rfl
          have z8 := s33.cell (o := 8) rfl
          have z9 := s33.cell (o := 9) rfl
          have z10 := s33.cell (o := 10) rfl
          have z11 := s33.cell (o := 11) rfl
          have z12 := s33.cell (o := 12) rfl
          have z13 := s33.cell (o := 13) rfl
          have z14 := s33.cell (o := 14) rfl
          have z15 := s33.cell (o := 15) rfl
          have y0 := s32.cell (o := 0) rfl
          have y1 := s32.cell (o := 1) rfl
          have y2 := s32.cell (o := 2) rfl
          refine bodyPost_ret (v := .tuple #[.agg noF, .agg #[.bool true, .int .u32 6, .int .i64 0], .bool true]) (by simp [results, Try.results22, go_sem, z0, z1, z2, z3, z4, z5, z6, z7, z8, z9, z10, z11, z12, z13, z14, z15, y0, y1, y2]) rfl ?_
          rw [HO.out]
          exact ⟨rfl, H5.out.chg C33.out (by simp; omega), C5.out.trans C33.out (fun x hx => Or.inr (by simp at hx; omega))⟩
        · have k1' : ¬ (N : Int) < (LE : Int) := by omega
          go_wp2_with fail
          refine (rbroken_any H4.out 6).mono ?_; rintro e w5 ⟨rfl, h5, c5⟩
          have b15 := B14.out.chg c5 (by simp; omega)
          have b25 := B24.out.chg c5 (by simp; omega)
          have H5 := Lib.hid h5; have C5 := Lib.hid ((C4.out.mono (m := [p]) (by simp)).trans' c5)
          clear h5 c5 x0 x2 xf
          go_wp2_with (refine store_whole rfl 27 _ _ rfl w.heap.size _ _ 27 rfl rfl b15 infoFr rfl (by simp [Value.oneCell']) ?_)
          intro w31 s31 c31
          have b231 := At.chg b25 c31 (by simp)
          go_wp2_with (refine store_whole rfl 46 _ _ rfl (w.heap.size + 1) _ _ 46 rfl rfl b231 infoFa rfl (by simp [Value.oneCell']) ?_)
          intro w32 s32 c32
          have s33 := At.chg s31 c32 (by simp)
          have c33 : Chg [w.heap.size, w.heap.size + 1] w5 w32 := (c31.mono (by simp)).trans' (c32.mono (by simp))
          have C33 := Lib.hid c33; have C31 := Lib.hid c31; have C32 := Lib.hid c32
          clear c31 c32 c33 b231 s31
          go_wp2_with fail
          have z0 := s33.cell (o := 0) rfl
          have z1 := s33.cell (o := 1) rfl
          have z2 := s33.cell (o := 2) rfl
          have z3 := s33.cell (o := 3) rfl
          have z4 := s33.cell (o := 4) rfl
          have z5 := s33.cell (o := 5) rfl
          have z6 := s33.cell (o := 6) rfl
          have z7 := s33.cell (o := 7) rfl
          have z8 := s33.cell (o := 8) rfl
          have z9 := s33.cell (o := 9) rfl
          have z10 := s33.cell (o := 10) rfl
          have z11 := s33.cell (o := 11) rfl
          have z12 := s33.cell (o := 12) rfl
          have z13 := s33.cell (o := 13) rfl
          have z14 := s33.cell (o := 14) rfl
          have z15 := s33.cell (o := 15) rfl
          have y0 := s32.cell (o := 0) rfl
          have y1 := s32.cell (o := 1) rfl
          have y2 := s32.cell (o := 2) rfl
          refine bodyPost_ret (v := .tuple #[.agg noF, .agg #[.bool true, .int .u32 6, .int .i64 0], .bool true]) (by simp [results, Try.results22, go_sem, z0, z1, z2, z3, z4, z5, z6, z7, z8, z9, z10, z11, z12, z13, z14, z15, y0, y1, y2]) rfl ?_
          rw [HO.out]
          exact ⟨rfl, H5.out.chg C33.out (by simp; omega), C5.out.trans C33.out (fun x hx => Or.inr (by simp at hx; omega))⟩
  | false =>
    have hK2 : ¬ K = 2 := fun h => by have := HJU.out; rw [h] at this; simp [justK] at this
    have k3 : ((K : Int) == 2) = false := by simp; omega
    have HO' : Hid (badLen K fl N = true → nxt9 mx a b c k fl s1 s2 s3 s4 r = .broken 6) := Lib.hid (fun h => by rw [HO.out]; exact docR_len (by rw [HSL.out]; exact h) hK2)
    clear hK2
    as_aux_lemma =>
    rcases Nat.lt_or_ge N LE with k1 | k1
    · have HO := Lib.hid (HO'.out (by rw [HBL.out]; simp [k1]))
      have k1' : (N : Int) < (LE : Int) := by omega
      clear E1 HBL HO'
      go_wp2_with fail
      refine (rbroken_any H4.out 6).mono ?_; rintro e w5 ⟨rfl, h5, c5⟩
      have b15 := B14.out.chg c5 (by simp; omega)
      have b25 := B24.out.chg c5 (by simp; omega)
      have H5 := Lib.hid h5; have C5 := Lib.hid ((C4.out.mono (m := [p]) (by simp)).trans' c5)
      clear h5 c5 x0 x2 xf
      go_wp2_with (refine store_whole rfl 27 _ _ rfl w.heap.size _ _ 27 rfl rfl b15 infoFr rfl (by simp [Value.oneCell']) ?_)
      intro w31 s31 c31
      have b231 := At.chg b25 c31 (by simp)
      go_wp2_with (refine store_whole rfl 46 _ _ rfl (w.heap.size + 1) _ _ 46 rfl rfl b231 infoFa rfl (by simp [Value.oneCell']) ?_)
      intro w32 s32 c32
      have s33 := At.chg s31 c32 (by simp)
      have c33 : Chg [w.heap.size, w.heap.size + 1] w5 w32 := (c31.mono (by simp)).trans' (c32.mono (by simp))
      have C33 := Lib.hid c33; have C31 := Lib.hid c31; have C32 := Lib.hid c32
      clear c31 c32 c33 b231 s31
      go_wp2_with fail
      have z0 := s33.cell (o := 0) rfl
      have z1 := s33.cell (o := 1) rfl
      have z2 := s33.cell (o := 2) rfl
      have z3 := s33.cell (o := 3) rfl
      have z4 := s33.cell (o := 4) rfl
      have z5 := s33.cell (o := 5) rfl
      have z6 := s33.cell (o := 6) rfl
      have z7 := s33.cell (o := 7) rfl
      have z8 := s33.cell (o := 8) rfl
      have z9 := s33.cell (o := 9) rfl
      have z10 := s33.cell (o := 10) rfl
      have z11 := s33.cell (o := 11) rfl
      have z12 := s33.cell (o := 12) rfl
      have z13 := s33.cell (o := 13) rfl
      have z14 := s33.cell (o := 14) rfl
      have z15 := s33.cell (o := 15) rfl
      have y0 := s32.cell (o := 0) rfl
      have y1 := s32.cell (o := 1) rfl
      have y2 := s32.cell (o := 2) rfl
      refine bodyPost_ret (v := .tuple #[.agg noF, .agg #[.bool true, .int .u32 6, .int .i64 0], .bool true]) (by simp [results, Try.results22, go_sem, z0, z1, z2, z3, z4, z5, z6, z7, z8, z9, z10, z11, z12, z13, z14, z15, y0, y1, y2]) rfl ?_
      rw [HO.out]
      exact ⟨rfl, H5.out.chg C33.out (by simp; omega), C5.out.trans C33.out (fun x hx => Or.inr (by simp at hx; omega))⟩
    · have k1' : ¬ (N : Int) < (LE : Int) := by omega
      have k1'' : ¬ N < LE := by omega
      by_cases hK4 : K = 4
      · have k4 : ((K : Int) == 4) = true := by simp; omega
        by_cases h6 : N % 6 = 0
        · have k5 : ((N : Int) % 6 != 0) = false := by simp; omega
          have k5' : ((N : Int).tmod 6 != 0) = false := by rw [Int.tmod_eq_emod_of_nonneg (by omega)]; exact k5
          cases g1 with
          | true =>
            rcases Nat.eq_zero_or_pos N with h0 | h0
            · have HB : Hid (badLen K fl N = false) := Lib.hid (by rw [HBL.out]; simp [k1'', h6, h0]; omega)
              have k6 : ¬ (0 : Int) < (N : Int) := by omega
              clear HBL HO' hK4 h6 h0 k1''
              exact absurd (QB.out.symm.trans HB.out) (by simp)
            · have HO := Lib.hid (HO'.out (by rw [HBL.out]; simp [hK4, h0]))
              have k6 : (0 : Int) < (N : Int) := by omega
              clear HBL HO' hK4 h6 k1''
              go_wp2_with fail
              refine (rbroken_any H4.out 6).mono ?_; rintro e w5 ⟨rfl, h5, c5⟩
              have b15 := B14.out.chg c5 (by simp; omega)
              have b25 := B24.out.chg c5 (by simp; omega)
              have H5 := Lib.hid h5; have C5 := Lib.hid ((C4.out.mono (m := [p]) (by simp)).trans' c5)
              clear h5 c5 x0 x2 xf
              go_wp2_with (refine store_whole rfl 27 _ _ rfl w.heap.size _ _ 27 rfl rfl b15 infoFr rfl (by simp [Value.oneCell']) ?_)
              intro w31 s31 c31
              have b231 := At.chg b25 c31 (by simp)
              go_wp2_with (refine store_whole rfl 46 _ _ rfl (w.heap.size + 1) _ _ 46 rfl rfl b231 infoFa rfl (by simp [Value.oneCell']) ?_)
              intro w32 s32 c32
              have s33 := At.chg s31 c32 (by simp)
              have c33 : Chg [w.heap.size, w.heap.size + 1] w5 w32 := (c31.mono (by simp)).trans' (c32.mono (by simp))
              have C33 := Lib.hid c33; have C31 := Lib.hid c31; have C32 := Lib.hid c32
              clear c31 c32 c33 b231 s31
              go_wp2_with fail
              have z0 := s33.cell (o := 0) rfl
              have z1 := s33.cell (o := 1) rfl
              have z2 := s33.cell (o := 2) rfl
              have z3 := s33.cell (o := 3) rfl
              have z4 := s33.cell (o := 4) rfl
              have z5 := s33.cell (o := 5) rfl
              have z6 := s33.cell (o := 6) rfl
              have z7 := s33.cell (o := 7) rfl
              have z8 := s33.cell (o := 8) rfl
              have z9 := s33.cell (o := 9) rfl
              have z10 := s33.cell (o := 10) rfl
              have z11 := s33.cell (o := 11) rfl
              have z12 := s33.cell (o := 12) rfl
              have z13 := s33.cell (o := 13) rfl
              have z14 := s33.cell (o := 14) rfl
              have z15 := s33.cell (o := 15) rfl
              have y0 := s32.cell (o := 0) rfl
              have y1 := s32.cell (o := 1) rfl
              have y2 := s32.cell (o := 2) rfl
              refine bodyPost_ret (v := .tuple #[.agg noF, .agg #[.bool true, .int .u32 6, .int .i64 0], .bool true]) (by simp [results, Try.results22, go_sem, z0, z1, z2, z3, z4, z5, z6, z7, z8, z9, z10, z11, z12, z13, z14, z15, y0, y1, y2]) rfl ?_
              rw [HO.out]
              exact ⟨rfl, H5.out.chg C33.out (by simp; omega), C5.out.trans C33.out (fun x hx => Or.inr (by simp at hx; omega))⟩
          | false =>
            have HB : Hid (badLen K fl N = false) := Lib.hid (by rw [HBL.out]; simp [k1'', h6])
            clear HBL HO' hK4 h6 k1''
            exact absurd (QB.out.symm.trans HB.out) (by simp)
        · have k5 : ((N : Int) % 6 != 0) = true := by simp; omega
          have k5' : ((N : Int).tmod 6 != 0) = true := by rw [Int.tmod_eq_emod_of_nonneg (by omega)]; exact k5
          have HO := Lib.hid (HO'.out (by rw [HBL.out]; simp [hK4, h6]))
          clear E1 HBL HO' hK4 h6 k1''
          go_wp2_with fail
          refine (rbroken_any H4.out 6).mono ?_; rintro e w5 ⟨rfl, h5, c5⟩
          have b15 := B14.out.chg c5 (by simp; omega)
          have b25 := B24.out.chg c5 (by simp; omega)
          have H5 := Lib.hid h5; have C5 := Lib.hid ((C4.out.mono (m := [p]) (by simp)).trans' c5)
          clear h5 c5 x0 x2 xf
          go_wp2_with (refine store_whole rfl 27 _ _ rfl w.heap.size _ _ 27 rfl rfl b15 infoFr rfl (by simp [Value.oneCell']) ?_)
          intro w31 s31 c31
          have b231 := At.chg b25 c31 (by simp)
          go_wp2_with (refine store_whole rfl 46 _ _ rfl (w.heap.size + 1) _ _ 46 rfl rfl b231 infoFa rfl (by simp [Value.oneCell']) ?_)
          intro w32 s32 c32
          have s33 := At.chg s31 c32 (by simp)
          have c33 : Chg [w.heap.size, w.heap.size + 1] w5 w32 := (c31.mono (by simp)).trans' (c32.mono (by simp))
          have C33 := Lib.hid c33; have C31 := Lib.hid c31; have C32 := Lib.hid c32
          clear c31 c32 c33 b231 s31
          go_wp2_with fail
          have z0 := s33.cell (o := 0) rfl
          have z1 := s33.cell (o := 1) rfl
          have z2 := s33.cell (o := 2) rfl
          have z3 := s33.cell (o := 3) rfl
          have z4 := s33.cell (o := 4) rfl
          have z5 := s33.cell (o := 5) rfl
          have z6 := s33.cell (o := 6) rfl
          have z7 := s33.cell (o := 7) rfl
          have z8 := s33.cell (o := 8) rfl
          have z9 := s33.cell (o := 9) rfl
          have z10 := s33.cell (o := 10) rfl
          have z11 := s33.cell (o := 11) rfl
          have z12 := s33.cell (o := 12) rfl
          have z13 := s33.cell (o := 13) rfl
          have z14 := s33.cell (o := 14) rfl
          have z15 := s33.cell (o := 15) rfl
          have y0 := s32.cell (o := 0) rfl
          have y1 := s32.cell (o := 1) rfl
          have y2 := s32.cell (o := 2) rfl
          refine bodyPost_ret (v := .tuple #[.agg noF, .agg #[.bool true, .int .u32 6, .int .i64 0], .bool true]) (by simp [results, Try.results22, go_sem, z0, z1, z2, z3, z4, z5, z6, z7, z8, z9, z10, z11, z12, z13, z14, z15, y0, y1, y2]) rfl ?_
          rw [HO.out]
          exact ⟨rfl, H5.out.chg C33.out (by simp; omega), C5.out.trans C33.out (fun x hx => Or.inr (by simp at hx; omega))⟩
      · have k4 : ((K : Int) == 4) = false := by simp; omega
        have HB : Hid (badLen K fl N = false) := Lib.hid (by rw [HBL.out]; simp [k1'', hK4])
        clear E1 HBL HO' hK4 k1''
        exact absurd (QB.out.symm.trans HB.out) (by simp)

end Go.Proofs.Ythhgnipiaohplaa.Fr
