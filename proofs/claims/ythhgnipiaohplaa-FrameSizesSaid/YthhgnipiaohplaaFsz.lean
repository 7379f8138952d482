/-
  FrameSizes: a frame that is too long is told by its head, and one of a wrong size is told.
-/
import Derived.Test.YthhgnipiaohplaaFsp
import Derived.Test.YthhgnipiaohplaaFst
import Derived.Test.YthhgnipiaohplaaOwnSet
import Derived.Laws.OwnMore
namespace Go.Proofs.Ythhgnipiaohplaa.Sizes
open Go.ChangeShapes Go.WideShapes Go.ChangeAt Go.RowKit
open Go.Proofs.Ythhgnipiaohplaa.B Go.Proofs.Ythhgnipiaohplaa.Fr
open Go.Proofs.Ythhgnipiaohplaa.Streams (and_nat u8_in)
set_option linter.unusedVariables false
set_option linter.unusedSimpArgs false
set_option maxRecDepth 100000 in
set_option maxHeartbeats 32000000 in
theorem walkA (kind max n0 fill : Int) (W : World) (hf : 0 ≤ fill ∧ fill ≤ 255) (k : Nat) (hk : Go.bits .and .i64 kind 255 = (k : Int)) (hk255 : k ≤ 255) (N0 : Nat) (hN0 : Go.bits .and .i64 n0 16777215 = (N0 : Int)) (hN0b : N0 ≤ 16777215) (N1 : Nat) (hN1 : Go.bits .and .i64 (N0 : Int) 63 = (N1 : Int)) (hN1b : N1 ≤ 63) (hbig : mxP max < N0) :
    Calls Try.prog 10 #[.int .i64 kind, .int .i64 max, .int .i64 n0, .int .u8 fill] W fun e w' => e = .returned (.bool true) ∧ Below W.heap.size W w' := by
  obtain ⟨c, hc, hodd⟩ := or1_u8 fill hf
  obtain ⟨mx, hmx⟩ : ∃ m, m = mxP max := ⟨_, rfl⟩
  have hb := mxP_bd max
  rw [← hmx] at hb
  obtain ⟨b1, b2⟩ := hb
  obtain ⟨m1, hm1⟩ : ∃ m1 : Int, m1 = if max < 16384 then 16384 else max := ⟨_, rfl⟩
  have hm2 : (mx : Int) = if 16777215 < m1 then 16777215 else m1 := by
    rw [hmx, hm1]; unfold mxP
    split <;> split <;> omega
  obtain ⟨st, hst⟩ : ∃ st, st = stOf k := ⟨_, rfl⟩
  have hst31 : st < 2147483648 := by rw [hst]; unfold stOf; split <;> omega
  have HMX := Lib.hid hmx; have HM1 := Lib.hid hm1; have HM2 := Lib.hid hm2; have HST := Lib.hid hst
  rw [← hmx] at hbig
  clear hmx hm1 hm2 hst
  go_enter Try.func10, Try.ntmps10
  go_wp2_with fail
  refine (shown_any W).mono ?_; rintro e w1 ⟨rfl, c1⟩
  go_wp2_with fail
  refine (pnew_any (W := W) max w1 c1.size).mono ?_; rintro e w2 ⟨p, hv0, rfl, h2, c2, f2⟩
  rw [← HMX.out] at h2
  have H2 := Lib.hid h2; have C2 := Lib.hid (c1.trans' c2)
  clear h2 c1 c2 f2
  go_upto_region 6 with fail
  iterate 8 go_step
  go_cut [11] (fun v wx => v = .int .i64 (st : Nat) ∧ wx = w2)
  case first =>
    by_cases k4 : k = 4
    · have hs : Hid ((st : Int) = 0) := Lib.hid (by rw [HST.out, k4]; rfl)
      subst k4
      go_wp2_with fail
      go_meet
      case rel => exact ⟨by rw [hs.out], rfl⟩
    by_cases k6 : k = 6
    · have hs : Hid ((st : Int) = 0) := Lib.hid (by rw [HST.out, k6]; rfl)
      subst k6
      go_wp2_with fail
      go_meet
      case rel => exact ⟨by rw [hs.out], rfl⟩
    by_cases k7 : k = 7
    · have hs : Hid ((st : Int) = 0) := Lib.hid (by rw [HST.out, k7]; rfl)
      subst k7
      go_wp2_with fail
      go_meet
      case rel => exact ⟨by rw [hs.out], rfl⟩
    have hs : Hid ((st : Int) = 7) := Lib.hid (by rw [HST.out]; unfold stOf; rw [if_neg (by omega)]; rfl)
    have e4 : ((k : Int) == 4) = false := by simp; omega
    have e6 : ((k : Int) == 6) = false := by simp; omega
    have e7 : ((k : Int) == 7) = false := by simp; omega
    go_wp2_with fail
    go_meet
    case rel => exact ⟨by rw [hs.out], rfl⟩
  case rest =>
    obtain ⟨rfl, hwx⟩ := hcut
    have hwx' := hwx.symm
    subst hwx'
    go_upto_region 9 with fail
    iterate 11 go_step
    go_cut [12] (fun v wx => v = .int .i64 m1 ∧ wx = w2)
    case first =>
      rcases ltC max 16384 with ⟨k1, _⟩ | ⟨k1, k1'⟩
      · have hx : Hid (m1 = 16384) := Lib.hid (by rw [HM1.out, if_pos k1])
        go_wp2_with fail
        go_meet
        case rel => exact ⟨by rw [hx.out], rfl⟩
      · have hx : Hid (m1 = max) := Lib.hid (by rw [HM1.out, if_neg k1])
        go_wp2_with fail
        go_meet
        case rel => exact ⟨by rw [hx.out], rfl⟩
    case rest =>
      obtain ⟨rfl, hwx⟩ := hcut
      have hwx' := hwx.symm
      subst hwx'
      iterate 2 go_step
      go_cut [12] (fun v wx => v = .int .i64 (mx : Nat) ∧ wx = w2)
      case first =>
        rcases ltC 16777215 m1 with ⟨k1, _⟩ | ⟨k1, k1'⟩
        · have hx : Hid ((mx : Int) = 16777215) := Lib.hid (by rw [HM2.out, if_pos k1])
          go_wp2_with fail
          go_meet
          case rel => exact ⟨by rw [hx.out], rfl⟩
        · have hx : Hid ((mx : Int) = m1) := Lib.hid (by rw [HM2.out, if_neg k1])
          go_wp2_with fail
          go_meet
          case rel => exact ⟨by rw [hx.out], rfl⟩
      case rest =>
        obtain ⟨rfl, hwx⟩ := hcut
        have hwx' := hwx.symm
        subst hwx'
        clear HM1 HM2 HMX hk
        have hbI : (mx : Int) < (N0 : Int) := by omega
        have hgd : decide ((mx : Int) < (N0 : Int)) = true := decide_eq_true hbI
        clear hN1
        go_wp2_with fail
        refine (head9_any N0 k 0 st (by omega) (by omega) (by omega) hst31 w2).mono ?_; rintro e w3 ⟨rv, rfl, o3, c3⟩
        have C3 := Lib.hid (C2.out.trans' c3); have H3 := Lib.hid (H2.out.chg0 c3); have O3 := Lib.hid o3
        clear o3 c3
        go_wp2_with fail
        refine (pfeed_any H3.out rv (h9 N0 k 0 st) (OwnB.bytes O3.out) (by simp) (by rw [h9_len]; decide)).mono ?_; rintro e w4 ⟨hv4, he, h4, c4, f4⟩
        have hfd : feedN mx false [] (h9 N0 k 0 st) = 9 := by unfold feedN; rw [if_neg (by simp), h9_len]; simp
        rw [hfd] at he
        rw [hfd, List.nil_append, List.take_of_length_le (by rw [h9_len]; decide)] at h4
        subst he
        have C4 := Lib.hid (C3.out.trans c4 (fun x hx => Or.inr (H3.out.los x hx))); have H4 := Lib.hid h4
        clear c4 h4 f4 hfd H3 C3
        go_wp2_with fail
        refine (next_any H4.out (by rw [h9_len]; decide)).mono ?_; rintro e w5 hp
        rw [nxt_big (by omega) (by omega) hst31 hbig] at hp
        obtain ⟨rfl, h5, c5⟩ := hp
        have C5 := Lib.hid (C4.out.trans c5 (fun x hx => Or.inr (H4.out.los x (by simp at hx; simp [footP, hx])))); have H5 := Lib.hid h5
        clear h5 c5
        go_wp2_with fail
        refine (psize_any (H5.out.chg0 (((Chg.refl w5).alloc _).alloc _))).mono ?_; rintro e w6 ⟨rfl, rfl⟩
        go_wp2_with fail
        go_ret
        exact ⟨rfl, ((C5.out.alloc _).alloc _).below_nil⟩
set_option maxRecDepth 100000 in
set_option maxHeartbeats 32000000 in
theorem walkB (kind max n0 fill : Int) (W : World) (hf : 0 ≤ fill ∧ fill ≤ 255) (k : Nat) (hk : Go.bits .and .i64 kind 255 = (k : Int)) (hk255 : k ≤ 255) (N0 : Nat) (hN0 : Go.bits .and .i64 n0 16777215 = (N0 : Int)) (hN0b : N0 ≤ 16777215) (N1 : Nat) (hN1 : Go.bits .and .i64 (N0 : Int) 63 = (N1 : Int)) (hN1b : N1 ≤ 63) (hbig : ¬ mxP max < N0) (hok : okSz k N1 = true) :
    Calls Try.prog 10 #[.int .i64 kind, .int .i64 max, .int .i64 n0, .int .u8 fill] W fun e w' => e = .returned (.bool true) ∧ Below W.heap.size W w' := by
  obtain ⟨c, hc, hodd⟩ := or1_u8 fill hf
  obtain ⟨mx, hmx⟩ : ∃ m, m = mxP max := ⟨_, rfl⟩
  have hb := mxP_bd max
  rw [← hmx] at hb
  obtain ⟨b1, b2⟩ := hb
  obtain ⟨m1, hm1⟩ : ∃ m1 : Int, m1 = if max < 16384 then 16384 else max := ⟨_, rfl⟩
  have hm2 : (mx : Int) = if 16777215 < m1 then 16777215 else m1 := by
    rw [hmx, hm1]; unfold mxP
    split <;> split <;> omega
  obtain ⟨st, hst⟩ : ∃ st, st = stOf k := ⟨_, rfl⟩
  have hst31 : st < 2147483648 := by rw [hst]; unfold stOf; split <;> omega
  have HMX := Lib.hid hmx; have HM1 := Lib.hid hm1; have HM2 := Lib.hid hm2; have HST := Lib.hid hst
  rw [← hmx] at hbig
  have HOK := Lib.hid hok
  clear hok
  clear hmx hm1 hm2 hst
  go_enter Try.func10, Try.ntmps10
  go_wp2_with fail
  refine (shown_any W).mono ?_; rintro e w1 ⟨rfl, c1⟩
  go_wp2_with fail
  refine (pnew_any (W := W) max w1 c1.size).mono ?_; rintro e w2 ⟨p, hv0, rfl, h2, c2, f2⟩
  rw [← HMX.out] at h2
  have H2 := Lib.hid h2; have C2 := Lib.hid (c1.trans' c2)
  clear h2 c1 c2 f2
  go_upto_region 6 with fail
  iterate 8 go_step
  go_cut [11] (fun v wx => v = .int .i64 (st : Nat) ∧ wx = w2)
  case first =>
    by_cases k4 : k = 4
    · have hs : Hid ((st : Int) = 0) := Lib.hid (by rw [HST.out, k4]; rfl)
      subst k4
      go_wp2_with fail
      go_meet
      case rel => exact ⟨by rw [hs.out], rfl⟩
    by_cases k6 : k = 6
    · have hs : Hid ((st : Int) = 0) := Lib.hid (by rw [HST.out, k6]; rfl)
      subst k6
      go_wp2_with fail
      go_meet
      case rel => exact ⟨by rw [hs.out], rfl⟩
    by_cases k7 : k = 7
    · have hs : Hid ((st : Int) = 0) := Lib.hid (by rw [HST.out, k7]; rfl)
      subst k7
      go_wp2_with fail
      go_meet
      case rel => exact ⟨by rw [hs.out], rfl⟩
    have hs : Hid ((st : Int) = 7) := Lib.hid (by rw [HST.out]; unfold stOf; rw [if_neg (by omega)]; rfl)
    have e4 : ((k : Int) == 4) = false := by simp; omega
    have e6 : ((k : Int) == 6) = false := by simp; omega
    have e7 : ((k : Int) == 7) = false := by simp; omega
    go_wp2_with fail
    go_meet
    case rel => exact ⟨by rw [hs.out], rfl⟩
  case rest =>
    obtain ⟨rfl, hwx⟩ := hcut
    have hwx' := hwx.symm
    subst hwx'
    go_upto_region 9 with fail
    iterate 11 go_step
    go_cut [12] (fun v wx => v = .int .i64 m1 ∧ wx = w2)
    case first =>
      rcases ltC max 16384 with ⟨k1, _⟩ | ⟨k1, k1'⟩
      · have hx : Hid (m1 = 16384) := Lib.hid (by rw [HM1.out, if_pos k1])
        go_wp2_with fail
        go_meet
        case rel => exact ⟨by rw [hx.out], rfl⟩
      · have hx : Hid (m1 = max) := Lib.hid (by rw [HM1.out, if_neg k1])
        go_wp2_with fail
        go_meet
        case rel => exact ⟨by rw [hx.out], rfl⟩
    case rest =>
      obtain ⟨rfl, hwx⟩ := hcut
      have hwx' := hwx.symm
      subst hwx'
      iterate 2 go_step
      go_cut [12] (fun v wx => v = .int .i64 (mx : Nat) ∧ wx = w2)
      case first =>
        rcases ltC 16777215 m1 with ⟨k1, _⟩ | ⟨k1, k1'⟩
        · have hx : Hid ((mx : Int) = 16777215) := Lib.hid (by rw [HM2.out, if_pos k1])
          go_wp2_with fail
          go_meet
          case rel => exact ⟨by rw [hx.out], rfl⟩
        · have hx : Hid ((mx : Int) = m1) := Lib.hid (by rw [HM2.out, if_neg k1])
          go_wp2_with fail
          go_meet
          case rel => exact ⟨by rw [hx.out], rfl⟩
      case rest =>
        obtain ⟨rfl, hwx⟩ := hcut
        have hwx' := hwx.symm
        subst hwx'
        clear HM1 HM2 HMX hk
        have hbI : ¬ (mx : Int) < (N0 : Int) := by omega
        have hgd : decide ((mx : Int) < (N0 : Int)) = false := decide_eq_false hbI
        obtain ⟨i, hi, hz, hsz, hby⟩ := info_parts Go.Proofs.Ythhgnipiaohplaa.B.infoB
        obtain ⟨wm, hmk, hown, hgr⟩ := run_make_full (P := Try.prog) w2 W.heap.size 22 5 i (.int .u8 0) 1 Try.underlying22 hi hz hsz .i64 .i64 N1 (by rw [hby]; omega) (by unfold maxLen; omega) C2.out.size
        obtain ⟨G, hG⟩ : ∃ G, G = w2.heap.size := ⟨_, rfl⟩
        have cm : Chg [] w2 wm := by have := Chg.grown hgr; simpa using this
        have om : OwnB wm W.heap.size (.slice (some ⟨G, 0, none⟩) N1 N1) (List.replicate N1 0) := by
          rw [hG]
          have h1 := hown
          rw [Nat.mul_one, show (Value.int .u8 0).cells = #[Value.int .u8 0] from rfl, toList_madeCells_one] at h1
          unfold OwnB
          rw [List.length_replicate]
          have e : rowB (List.replicate N1 0) = List.replicate N1 (Value.int .u8 0) := by simp [rowB]
          rw [e]; exact h1
        rw [← hG] at hmk
        have hpG : ∀ x ∈ footP p hv0, x < G := by rw [hG]; exact H2.out.lt
        have HPG := Lib.hid hpG
        have OM := Lib.hid om; have CM := Lib.hid (C2.out.trans' cm); have HM := Lib.hid (H2.out.chg0 cm)
        have hWG : W.heap.size ≤ G := by rw [hG]; exact C2.out.size
        have hGm : G < wm.heap.size := by
          have := (World.ownsRow.lt om G rfl).2
          exact this
        clear hown hgr cm om hpG H2 C2 hi hz hsz hby hG
        go_upto_region 22 with fail
        go_loopw [17] (fun iv wr => ∃ j : Nat, j ≤ N1 ∧ iv = .int .i64 j ∧ OwnB wr W.heap.size (.slice (some ⟨G, 0, none⟩) N1 N1) (List.replicate j c ++ List.replicate (N1 - j) 0) ∧ Chg [G] wm wr) (fun iv _ => N1 - (intOf iv).toNat)
        case atStart => exact ⟨0, by omega, rfl, by simpa using OM.out, Chg.refl _⟩
        case round =>
          obtain ⟨j, hj, rfl, ho, hcx⟩ := hrel
          obtain ⟨w3, rfl⟩ : ∃ w3, w3 = wr := ⟨_, rfl⟩
          by_cases hjn : j < N1
          · have hjI : (j : Int) < (N1 : Int) := by omega
            have hll : (List.replicate j c ++ List.replicate (N1 - j) 0).length = N1 := by simp; omega
            have hx : (List.replicate j c ++ List.replicate (N1 - j) (0 : UInt8))[j]? = some 0 := by
              rw [List.getElem?_append_right (by simp), List.length_replicate, Nat.sub_self, List.getElem?_replicate, if_pos (by omega)]
            have oR := ownB_R.1 ho
            have z0 : World.cell? w3 ⟨G, j, none⟩ = some (.int .u8 0) := by
              have := OwnR.cellAt encBl oR hx (j := 0) (by omega)
              simpa [encB] using this
            have zf : World.frozen? w3 ⟨G, j, none⟩ = false := by
              obtain ⟨g', cap', cur, h1, _, h3, _⟩ := OwnR.block (l := List.replicate j c ++ List.replicate (N1 - j) 0) oR (by rw [hll]; omega)
              simp only [Value.slice.injEq, Option.some.injEq, Addr.mk.injEq] at h1
              obtain ⟨⟨rfl, _, _⟩, _, _⟩ := h1
              exact h3.free j
            have hput := OwnR.put (enc := encB) encBl (g := G) (cap := N1) (l := List.replicate j c ++ List.replicate (N1 - j) 0) (w := w3) (base := W.heap.size) (e := 5) (by rw [hll]; exact oR) (i := j) (j := 0) (x := 0) (x' := c) (u := .int .u8 (c.toNat : Int)) hx (by omega) rfl
            have hset : (List.replicate j c ++ List.replicate (N1 - j) (0 : UInt8)).set j c = List.replicate (j + 1) c ++ List.replicate (N1 - (j + 1)) 0 := by
              rw [List.set_append_right _ _ (by simp), List.length_replicate, Nat.sub_self, show N1 - j = (N1 - (j + 1)) + 1 by omega, List.replicate_succ, List.set_cons_zero, List.replicate_succ', List.append_assoc]
              rfl
            rw [hset, Nat.mul_one, Nat.add_zero, hll] at hput
            have hgl : G < w3.heap.size := (World.ownsRow.lt ho G rfl).2
            have HPUT := Lib.hid (ownB_R.2 hput); have HCX := Lib.hid hcx
            clear hput hset hx hll oR ho hcx
            go_wp2_with fail
            go_roundw
            case rel => exact ⟨j + 1, by omega, by go_num, HPUT.out, HCX.out.setCell (Or.inl (by simp)) _⟩
            case measure => simp [intOf]; omega
          · obtain rfl : j = N1 := by omega
            have hjI : ¬ (j : Int) < (j : Int) := by omega
            rw [Nat.sub_self, List.replicate_zero, List.append_nil] at ho
            have O3 := Lib.hid ho
            have C3 := Lib.hid (CM.out.trans hcx (fun x hx => Or.inr (by simp at hx; omega)))
            have H3 := Lib.hid (HM.out.chg hcx (fun x hx he => by have := HPG.out x hx; simp at he; omega))
            clear ho hcx OM CM HM hmk hN1 hc
            go_wp2_with fail
            obtain ⟨N1, hNN⟩ : ∃ N1, N1 = j := ⟨_, rfl⟩
            subst hNN
            refine (head9_any N1 k 0 st (by omega) (by omega) (by omega) hst31 w3).mono ?_; rintro e w4 ⟨rv, rfl, o4, c4⟩
            have C4 := Lib.hid (C3.out.trans' c4); have H4 := Lib.hid (H3.out.chg0 c4); have RV := Lib.hid o4; have O4 := Lib.hid (OwnB.chg0' O3.out c4)
            clear o4 c4 C3 H3 O3
            go_wp2_with fail
            refine (pfeed_any H4.out rv (h9 N1 k 0 st) (OwnB.bytes RV.out) (by simp) (by rw [h9_len]; decide)).mono ?_; rintro e w5 ⟨hv5, he, h5, c5, f5⟩
            have hfd : feedN mx false [] (h9 N1 k 0 st) = 9 := by unfold feedN; rw [if_neg (by simp), h9_len]; simp
            rw [hfd] at he
            rw [hfd, List.nil_append, List.take_of_length_le (by rw [h9_len]; decide)] at h5
            subst he
            have C5 := Lib.hid (C4.out.trans c5 (fun x hx => Or.inr (H4.out.los x hx))); have H5 := Lib.hid h5
            have O5 := Lib.hid (OwnB.chg O4.out c5 (fun g hg hx => by have := HPG.out g hx; simp [Value.ownBlock] at hg; omega))
            clear c5 h5 f5 hfd H4 C4 O4 RV
            go_wp2_with fail
            refine (pfeed_any H5.out (.slice (some ⟨G, 0, none⟩) N1 N1) (List.replicate N1 c) (OwnB.bytes O5.out) (by rw [h9_len]; decide) (by simp; omega)).mono ?_; rintro e w6 ⟨hv6, he, h6, c6, f6⟩
            have hfd : feedN mx false (h9 N1 k 0 st) (List.replicate N1 c) = N1 := by unfold feedN; rw [if_neg (by simp), h9_len]; simp; omega
            rw [hfd] at he h6
            rw [List.take_of_length_le (by simp)] at h6
            subst he
            have C6 := Lib.hid (C5.out.trans c6 (fun x hx => Or.inr (H5.out.los x hx))); have H6 := Lib.hid h6
            clear c6 h6 f6 hfd H5 C5 O5
            go_wp2_with fail
            refine (next_any H6.out (by simp [h9_len]; omega)).mono ?_; rintro e w7 hp
            obtain ⟨hz1, hz2⟩ := nxt_sizes (mx := mx) (n := N1) (k := k) hodd (by omega) b1 (by omega)
            rw [← HST.out] at hz1 hz2
            have hpl : ∀ x ∈ [p], W.heap.size ≤ x := fun x hx => H6.out.los x (by simp at hx; simp [footP, hx])
            have hok := HOK.out
            obtain ⟨FF, hX⟩ := hz1 hok
            rw [hX] at hp
            obtain ⟨hv7, pv, lv, rfl, h7, c7, _, op7, os7, _⟩ := hp
            have C7 := Lib.hid (C6.out.trans c7 (fun x hx => Or.inr (hpl x hx)))
            clear h7 c7 H6 C6 hz1 hz2 hpl hX
            obtain ⟨pa, pc, rfl, _, _⟩ := (OwnB.bytes op7).slice
            obtain ⟨sa, sc, rfl, _, _⟩ := OwnR.slice os7
            have b1 : At ((w7.alloc (.cells noF 27)).alloc (.cells noX 46)) w7.heap.size (.cells noF 27) := (At.new w7 _).alloc _
            have b2 : At ((w7.alloc (.cells noF 27)).alloc (.cells noX 46)) (w7.heap.size + 1) (.cells noX 46) := At.new' (w := w7.alloc (.cells noF 27)) (by simp)
            go_wp2_with (refine store_whole rfl 27 _ _ rfl w7.heap.size _ _ 27 rfl rfl b1 infoFr rfl (by simp [Value.oneCell', Fm.mem]) ?_)
            intro w31 s31 c31
            have b231 := At.chg b2 c31 (by simp)
            go_wp2_with (refine store_whole rfl 46 _ _ rfl (w7.heap.size + 1) _ _ 46 rfl rfl b231 infoFa rfl (by simp [Value.oneCell']) ?_)
            intro w32 s32 c32
            have S31 := Lib.hid (s31.chg c32 (by simp)); have S32 := Lib.hid s32
            have C32 : Hid (Chg [] w7 w32) := Lib.hid ((((Chg.refl w7).alloc _).alloc _).trans ((c31.mono (m := [w7.heap.size, w7.heap.size + 1]) (by simp)).trans' (c32.mono (by simp))) (fun x hx => Or.inr (by simp at hx; omega)))
            clear b1 b2 b231 s31 c31 c32 s32
            have y0 : World.cell? w32 ⟨w7.heap.size + 1, 0, none⟩ = some (.bool false) := S32.out.cell rfl
            have y1 : World.cell? w32 ⟨w7.heap.size + 1, 1, none⟩ = some (.int .u32 0) := S32.out.cell rfl
            have y2 : World.cell? w32 ⟨w7.heap.size + 1, 2, none⟩ = some (.int .i64 0) := S32.out.cell rfl
            have hYl := S32.out.lt
            have CQ := Lib.hid (C7.out.trans' C32.out)
            clear op7 os7 C7 C32 S31 S32
            by_cases hk10 : k < 10
            · rcases Go.Proofs.Ythhgnipiaohplaa.Streams.ten hk10 with hkk | hkk | hkk | hkk | hkk | hkk | hkk | hkk | hkk | hkk
              · subst hkk
                clear hok
                go_wp2_with fail
                go_ret
                exact ⟨rfl, ((CQ.out.alloc _)).below_nil⟩
              · subst hkk
                clear hok
                go_wp2_with fail
                go_ret
                exact ⟨rfl, ((CQ.out.alloc _)).below_nil⟩
              · subst hkk
                have hN : (N1 : Int) = 5 := by have := hok; simp [okSz] at this; omega
                have g0 : ((N1 : Int) == 5) = true := by simp [hN]
                have g1 : ((N1 : Int) != 5) = false := by simp [hN]
                clear hok hN
                go_wp2_with fail
                go_ret
                exact ⟨rfl, ((CQ.out.alloc _)).below_nil⟩
              · subst hkk
                have hN : (N1 : Int) = 4 := by have := hok; simp [okSz] at this; omega
                have g0 : ((N1 : Int) == 4) = true := by simp [hN]
                have g1 : ((N1 : Int) != 4) = false := by simp [hN]
                clear hok hN
                go_wp2_with fail
                go_ret
                exact ⟨rfl, ((CQ.out.alloc _)).below_nil⟩
              · subst hkk
                have hN : (N1 : Int) % 6 = 0 := by have := hok; simp [okSz] at this; omega
                have hN2 : (N1 : Int).tmod 6 = 0 := by rw [Int.tmod_eq_emod_of_nonneg (by omega)]; exact hN
                clear hok
                go_wp2_with fail
                go_ret
                exact ⟨rfl, ((CQ.out.alloc _)).below_nil⟩
              · subst hkk
                have hN : (4 : Int) ≤ (N1 : Int) := by have := hok; simp [okSz] at this; omega
                have g0 : decide ((N1 : Int) < 4) = false := decide_eq_false (by omega)
                clear hok
                go_wp2_with fail
                go_ret
                exact ⟨rfl, ((CQ.out.alloc _)).below_nil⟩
              · subst hkk
                have hN : (N1 : Int) = 8 := by have := hok; simp [okSz] at this; omega
                have g0 : ((N1 : Int) == 8) = true := by simp [hN]
                have g1 : ((N1 : Int) != 8) = false := by simp [hN]
                clear hok hN
                go_wp2_with fail
                go_ret
                exact ⟨rfl, ((CQ.out.alloc _)).below_nil⟩
              · subst hkk
                have hN : (8 : Int) ≤ (N1 : Int) := by have := hok; simp [okSz] at this; omega
                have g0 : decide ((N1 : Int) < 8) = false := decide_eq_false (by omega)
                clear hok
                go_wp2_with fail
                go_ret
                exact ⟨rfl, ((CQ.out.alloc _)).below_nil⟩
              · subst hkk
                have hN : (N1 : Int) = 4 := by have := hok; simp [okSz] at this; omega
                have g0 : ((N1 : Int) == 4) = true := by simp [hN]
                have g1 : ((N1 : Int) != 4) = false := by simp [hN]
                clear hok hN
                go_wp2_with fail
                go_ret
                exact ⟨rfl, ((CQ.out.alloc _)).below_nil⟩
              · subst hkk
                clear hok
                go_wp2_with fail
                go_ret
                exact ⟨rfl, ((CQ.out.alloc _)).below_nil⟩
            · have e4 : ((k : Int) == 4) = false := by simp; omega
              have e5 : ((k : Int) == 5) = false := by simp; omega
              have e7 : ((k : Int) == 7) = false := by simp; omega
              have e10 : decide ((k : Int) < 10) = false := decide_eq_false (by omega)
              have hk10 : ¬ (k : Int) < 10 := by omega
              clear hok
              go_wp2_with fail
              go_ret
              exact ⟨rfl, ((CQ.out.alloc _)).below_nil⟩
set_option maxRecDepth 100000 in
set_option maxHeartbeats 32000000 in
theorem walkC (kind max n0 fill : Int) (W : World) (hf : 0 ≤ fill ∧ fill ≤ 255) (k : Nat) (hk : Go.bits .and .i64 kind 255 = (k : Int)) (hk255 : k ≤ 255) (N0 : Nat) (hN0 : Go.bits .and .i64 n0 16777215 = (N0 : Int)) (hN0b : N0 ≤ 16777215) (N1 : Nat) (hN1 : Go.bits .and .i64 (N0 : Int) 63 = (N1 : Int)) (hN1b : N1 ≤ 63) (hbig : ¬ mxP max < N0) (hok : okSz k N1 = false) :
    Calls Try.prog 10 #[.int .i64 kind, .int .i64 max, .int .i64 n0, .int .u8 fill] W fun e w' => e = .returned (.bool true) ∧ Below W.heap.size W w' := by
  obtain ⟨c, hc, hodd⟩ := or1_u8 fill hf
  obtain ⟨mx, hmx⟩ : ∃ m, m = mxP max := ⟨_, rfl⟩
  have hb := mxP_bd max
  rw [← hmx] at hb
  obtain ⟨b1, b2⟩ := hb
  obtain ⟨m1, hm1⟩ : ∃ m1 : Int, m1 = if max < 16384 then 16384 else max := ⟨_, rfl⟩
  have hm2 : (mx : Int) = if 16777215 < m1 then 16777215 else m1 := by
    rw [hmx, hm1]; unfold mxP
    split <;> split <;> omega
  obtain ⟨st, hst⟩ : ∃ st, st = stOf k := ⟨_, rfl⟩
  have hst31 : st < 2147483648 := by rw [hst]; unfold stOf; split <;> omega
  have HMX := Lib.hid hmx; have HM1 := Lib.hid hm1; have HM2 := Lib.hid hm2; have HST := Lib.hid hst
  rw [← hmx] at hbig
  have HOK := Lib.hid hok
  clear hok
  clear hmx hm1 hm2 hst
  go_enter Try.func10, Try.ntmps10
  go_wp2_with fail
  refine (shown_any W).mono ?_; rintro e w1 ⟨rfl, c1⟩
  go_wp2_with fail
  refine (pnew_any (W := W) max w1 c1.size).mono ?_; rintro e w2 ⟨p, hv0, rfl, h2, c2, f2⟩
  rw [← HMX.out] at h2
  have H2 := Lib.hid h2; have C2 := Lib.hid (c1.trans' c2)
  clear h2 c1 c2 f2
  go_upto_region 6 with fail
  iterate 8 go_step
  go_cut [11] (fun v wx => v = .int .i64 (st : Nat) ∧ wx = w2)
  case first =>
    by_cases k4 : k = 4
    · have hs : Hid ((st : Int) = 0) := Lib.hid (by rw [HST.out, k4]; rfl)
      subst k4
      go_wp2_with fail
      go_meet
      case rel => exact ⟨by rw [hs.out], rfl⟩
    by_cases k6 : k = 6
    · have hs : Hid ((st : Int) = 0) := Lib.hid (by rw [HST.out, k6]; rfl)
      subst k6
      go_wp2_with fail
      go_meet
      case rel => exact ⟨by rw [hs.out], rfl⟩
    by_cases k7 : k = 7
    · have hs : Hid ((st : Int) = 0) := Lib.hid (by rw [HST.out, k7]; rfl)
      subst k7
      go_wp2_with fail
      go_meet
      case rel => exact ⟨by rw [hs.out], rfl⟩
    have hs : Hid ((st : Int) = 7) := Lib.hid (by rw [HST.out]; unfold stOf; rw [if_neg (by omega)]; rfl)
    have e4 : ((k : Int) == 4) = false := by simp; omega
    have e6 : ((k : Int) == 6) = false := by simp; omega
    have e7 : ((k : Int) == 7) = false := by simp; omega
    go_wp2_with fail
    go_meet
    case rel => exact ⟨by rw [hs.out], rfl⟩
  case rest =>
    obtain ⟨rfl, hwx⟩ := hcut
    have hwx' := hwx.symm
    subst hwx'
    go_upto_region 9 with fail
    iterate 11 go_step
    go_cut [12] (fun v wx => v = .int .i64 m1 ∧ wx = w2)
    case first =>
      rcases ltC max 16384 with ⟨k1, _⟩ | ⟨k1, k1'⟩
      · have hx : Hid (m1 = 16384) := Lib.hid (by rw [HM1.out, if_pos k1])
        go_wp2_with fail
        go_meet
        case rel => exact ⟨by rw [hx.out], rfl⟩
      · have hx : Hid (m1 = max) := Lib.hid (by rw [HM1.out, if_neg k1])
        go_wp2_with fail
        go_meet
        case rel => exact ⟨by rw [hx.out], rfl⟩
    case rest =>
      obtain ⟨rfl, hwx⟩ := hcut
      have hwx' := hwx.symm
      subst hwx'
      iterate 2 go_step
      go_cut [12] (fun v wx => v = .int .i64 (mx : Nat) ∧ wx = w2)
      case first =>
        rcases ltC 16777215 m1 with ⟨k1, _⟩ | ⟨k1, k1'⟩
        · have hx : Hid ((mx : Int) = 16777215) := Lib.hid (by rw [HM2.out, if_pos k1])
          go_wp2_with fail
          go_meet
          case rel => exact ⟨by rw [hx.out], rfl⟩
        · have hx : Hid ((mx : Int) = m1) := Lib.hid (by rw [HM2.out, if_neg k1])
          go_wp2_with fail
          go_meet
          case rel => exact ⟨by rw [hx.out], rfl⟩
      case rest =>
        obtain ⟨rfl, hwx⟩ := hcut
        have hwx' := hwx.symm
        subst hwx'
        clear HM1 HM2 HMX hk
        have hbI : ¬ (mx : Int) < (N0 : Int) := by omega
        have hgd : decide ((mx : Int) < (N0 : Int)) = false := decide_eq_false hbI
        obtain ⟨i, hi, hz, hsz, hby⟩ := info_parts Go.Proofs.Ythhgnipiaohplaa.B.infoB
        obtain ⟨wm, hmk, hown, hgr⟩ := run_make_full (P := Try.prog) w2 W.heap.size 22 5 i (.int .u8 0) 1 Try.underlying22 hi hz hsz .i64 .i64 N1 (by rw [hby]; omega) (by unfold maxLen; omega) C2.out.size
        obtain ⟨G, hG⟩ : ∃ G, G = w2.heap.size := ⟨_, rfl⟩
        have cm : Chg [] w2 wm := by have := Chg.grown hgr; simpa using this
        have om : OwnB wm W.heap.size (.slice (some ⟨G, 0, none⟩) N1 N1) (List.replicate N1 0) := by
          rw [hG]
          have h1 := hown
          rw [Nat.mul_one, show (Value.int .u8 0).cells = #[Value.int .u8 0] from rfl, toList_madeCells_one] at h1
          unfold OwnB
          rw [List.length_replicate]
          have e : rowB (List.replicate N1 0) = List.replicate N1 (Value.int .u8 0) := by simp [rowB]
          rw [e]; exact h1
        rw [← hG] at hmk
        have hpG : ∀ x ∈ footP p hv0, x < G := by rw [hG]; exact H2.out.lt
        have HPG := Lib.hid hpG
        have OM := Lib.hid om; have CM := Lib.hid (C2.out.trans' cm); have HM := Lib.hid (H2.out.chg0 cm)
        have hWG : W.heap.size ≤ G := by rw [hG]; exact C2.out.size
        have hGm : G < wm.heap.size := by
          have := (World.ownsRow.lt om G rfl).2
          exact this
        clear hown hgr cm om hpG H2 C2 hi hz hsz hby hG
        go_upto_region 22 with fail
        go_loopw [17] (fun iv wr => ∃ j : Nat, j ≤ N1 ∧ iv = .int .i64 j ∧ OwnB wr W.heap.size (.slice (some ⟨G, 0, none⟩) N1 N1) (List.replicate j c ++ List.replicate (N1 - j) 0) ∧ Chg [G] wm wr) (fun iv _ => N1 - (intOf iv).toNat)
        case atStart => exact ⟨0, by omega, rfl, by simpa using OM.out, Chg.refl _⟩
        case round =>
          obtain ⟨j, hj, rfl, ho, hcx⟩ := hrel
          obtain ⟨w3, rfl⟩ : ∃ w3, w3 = wr := ⟨_, rfl⟩
          by_cases hjn : j < N1
          · have hjI : (j : Int) < (N1 : Int) := by omega
            have hll : (List.replicate j c ++ List.replicate (N1 - j) 0).length = N1 := by simp; omega
            have hx : (List.replicate j c ++ List.replicate (N1 - j) (0 : UInt8))[j]? = some 0 := by
              rw [List.getElem?_append_right (by simp), List.length_replicate, Nat.sub_self, List.getElem?_replicate, if_pos (by omega)]
            have oR := ownB_R.1 ho
            have z0 : World.cell? w3 ⟨G, j, none⟩ = some (.int .u8 0) := by
              have := OwnR.cellAt encBl oR hx (j := 0) (by omega)
              simpa [encB] using this
            have zf : World.frozen? w3 ⟨G, j, none⟩ = false := by
              obtain ⟨g', cap', cur, h1, _, h3, _⟩ := OwnR.block (l := List.replicate j c ++ List.replicate (N1 - j) 0) oR (by rw [hll]; omega)
              simp only [Value.slice.injEq, Option.some.injEq, Addr.mk.injEq] at h1
              obtain ⟨⟨rfl, _, _⟩, _, _⟩ := h1
              exact h3.free j
            have hput := OwnR.put (enc := encB) encBl (g := G) (cap := N1) (l := List.replicate j c ++ List.replicate (N1 - j) 0) (w := w3) (base := W.heap.size) (e := 5) (by rw [hll]; exact oR) (i := j) (j := 0) (x := 0) (x' := c) (u := .int .u8 (c.toNat : Int)) hx (by omega) rfl
            have hset : (List.replicate j c ++ List.replicate (N1 - j) (0 : UInt8)).set j c = List.replicate (j + 1) c ++ List.replicate (N1 - (j + 1)) 0 := by
              rw [List.set_append_right _ _ (by simp), List.length_replicate, Nat.sub_self, show N1 - j = (N1 - (j + 1)) + 1 by omega, List.replicate_succ, List.set_cons_zero, List.replicate_succ', List.append_assoc]
              rfl
            rw [hset, Nat.mul_one, Nat.add_zero, hll] at hput
            have hgl : G < w3.heap.size := (World.ownsRow.lt ho G rfl).2
            have HPUT := Lib.hid (ownB_R.2 hput); have HCX := Lib.hid hcx
            clear hput hset hx hll oR ho hcx
            go_wp2_with fail
            go_roundw
            case rel => exact ⟨j + 1, by omega, by go_num, HPUT.out, HCX.out.setCell (Or.inl (by simp)) _⟩
            case measure => simp [intOf]; omega
          · obtain rfl : j = N1 := by omega
            have hjI : ¬ (j : Int) < (j : Int) := by omega
            rw [Nat.sub_self, List.replicate_zero, List.append_nil] at ho
            have O3 := Lib.hid ho
            have C3 := Lib.hid (CM.out.trans hcx (fun x hx => Or.inr (by simp at hx; omega)))
            have H3 := Lib.hid (HM.out.chg hcx (fun x hx he => by have := HPG.out x hx; simp at he; omega))
            clear ho hcx OM CM HM hmk hN1 hc
            go_wp2_with fail
            obtain ⟨N1, hNN⟩ : ∃ N1, N1 = j := ⟨_, rfl⟩
            subst hNN
            refine (head9_any N1 k 0 st (by omega) (by omega) (by omega) hst31 w3).mono ?_; rintro e w4 ⟨rv, rfl, o4, c4⟩
            have C4 := Lib.hid (C3.out.trans' c4); have H4 := Lib.hid (H3.out.chg0 c4); have RV := Lib.hid o4; have O4 := Lib.hid (OwnB.chg0' O3.out c4)
            clear o4 c4 C3 H3 O3
            go_wp2_with fail
            refine (pfeed_any H4.out rv (h9 N1 k 0 st) (OwnB.bytes RV.out) (by simp) (by rw [h9_len]; decide)).mono ?_; rintro e w5 ⟨hv5, he, h5, c5, f5⟩
            have hfd : feedN mx false [] (h9 N1 k 0 st) = 9 := by unfold feedN; rw [if_neg (by simp), h9_len]; simp
            rw [hfd] at he
            rw [hfd, List.nil_append, List.take_of_length_le (by rw [h9_len]; decide)] at h5
            subst he
            have C5 := Lib.hid (C4.out.trans c5 (fun x hx => Or.inr (H4.out.los x hx))); have H5 := Lib.hid h5
            have O5 := Lib.hid (OwnB.chg O4.out c5 (fun g hg hx => by have := HPG.out g hx; simp [Value.ownBlock] at hg; omega))
            clear c5 h5 f5 hfd H4 C4 O4 RV
            go_wp2_with fail
            refine (pfeed_any H5.out (.slice (some ⟨G, 0, none⟩) N1 N1) (List.replicate N1 c) (OwnB.bytes O5.out) (by rw [h9_len]; decide) (by simp; omega)).mono ?_; rintro e w6 ⟨hv6, he, h6, c6, f6⟩
            have hfd : feedN mx false (h9 N1 k 0 st) (List.replicate N1 c) = N1 := by unfold feedN; rw [if_neg (by simp), h9_len]; simp; omega
            rw [hfd] at he h6
            rw [List.take_of_length_le (by simp)] at h6
            subst he
            have C6 := Lib.hid (C5.out.trans c6 (fun x hx => Or.inr (H5.out.los x hx))); have H6 := Lib.hid h6
            clear c6 h6 f6 hfd H5 C5 O5
            go_wp2_with fail
            refine (next_any H6.out (by simp [h9_len]; omega)).mono ?_; rintro e w7 hp
            obtain ⟨hz1, hz2⟩ := nxt_sizes (mx := mx) (n := N1) (k := k) hodd (by omega) b1 (by omega)
            rw [← HST.out] at hz1 hz2
            have hpl : ∀ x ∈ [p], W.heap.size ≤ x := fun x hx => H6.out.los x (by simp at hx; simp [footP, hx])
            have hok := HOK.out
            have hX := hz2 hok
            by_cases hk2 : k = 2
            · subst hk2
              rw [if_pos rfl] at hX
              rw [hX] at hp
              obtain ⟨hv7, rfl, h7, c7, _⟩ := hp
              have C7 := Lib.hid (C6.out.trans c7 (fun x hx => Or.inr (hpl x hx)))
              clear h7 c7 H6 C6 hz1 hz2 hpl hX
              go_upto_region 28 with fail
              have ct : At ((w7.alloc (.cells noF 27)).alloc (.cells #[.bool true, .int .u32 6, .int .i64 7] 46)) (w7.heap.size + 1) (.cells #[.bool true, .int .u32 6, .int .i64 7] 46) := At.new' (w := w7.alloc (.cells noF 27)) (by simp)
              have CQ : Hid (Chg [] W ((w7.alloc (.cells noF 27)).alloc (.cells #[.bool true, .int .u32 6, .int .i64 7] 46))) := Lib.hid ((C7.out.alloc _).alloc _)
              clear C7
              generalize ((w7.alloc (.cells noF 27)).alloc (.cells #[.bool true, .int .u32 6, .int .i64 7] 46)) = wq at *
              have y0 : World.cell? wq ⟨w7.heap.size + 1, 0, none⟩ = some (.bool true) := ct.cell rfl
              have y1 : World.cell? wq ⟨w7.heap.size + 1, 1, none⟩ = some (.int .u32 6) := ct.cell rfl
              have y2 : World.cell? wq ⟨w7.heap.size + 1, 2, none⟩ = some (.int .i64 7) := ct.cell rfl
              have hYl := ct.lt
              clear ct
              generalize w7.heap.size + 1 = Y at *
              have hYl2 : Y < wq.heap.size + 1 := by omega
              have hkk : (2 : Nat) = 2 := rfl
              have hN : ¬ (N1 : Int) = 5 := by have := hok; simp [okSz] at this; omega
              have g0 : ((N1 : Int) == 5) = false := by simp [hN]
              have g1 : ((N1 : Int) != 5) = true := by simp [hN]
              clear hok
              go_wp2_with fail
              go_ret
              exact ⟨rfl, ((CQ.out.alloc _).alloc _).below_nil⟩
            · rw [if_neg hk2] at hX
              rw [hX] at hp
              obtain ⟨rfl, h7, c7⟩ := hp
              have C7 := Lib.hid (C6.out.trans c7 (fun x hx => Or.inr (hpl x hx)))
              clear h7 c7 H6 C6 hz1 hz2 hpl hX
              go_upto_region 28 with fail
              have ct : At ((w7.alloc (.cells noF 27)).alloc (.cells #[.bool true, .int .u32 6, .int .i64 0] 46)) (w7.heap.size + 1) (.cells #[.bool true, .int .u32 6, .int .i64 0] 46) := At.new' (w := w7.alloc (.cells noF 27)) (by simp)
              have CQ : Hid (Chg [] W ((w7.alloc (.cells noF 27)).alloc (.cells #[.bool true, .int .u32 6, .int .i64 0] 46))) := Lib.hid ((C7.out.alloc _).alloc _)
              clear C7
              generalize ((w7.alloc (.cells noF 27)).alloc (.cells #[.bool true, .int .u32 6, .int .i64 0] 46)) = wq at *
              have y0 : World.cell? wq ⟨w7.heap.size + 1, 0, none⟩ = some (.bool true) := ct.cell rfl
              have y1 : World.cell? wq ⟨w7.heap.size + 1, 1, none⟩ = some (.int .u32 6) := ct.cell rfl
              have y2 : World.cell? wq ⟨w7.heap.size + 1, 2, none⟩ = some (.int .i64 0) := ct.cell rfl
              have hYl := ct.lt
              clear ct
              generalize w7.heap.size + 1 = Y at *
              have hYl2 : Y < wq.heap.size + 1 := by omega
              by_cases hk10 : k < 10
              · rcases Go.Proofs.Ythhgnipiaohplaa.Streams.ten hk10 with hkk | hkk | hkk | hkk | hkk | hkk | hkk | hkk | hkk | hkk
                · subst hkk; simp [okSz] at hok
                · subst hkk; simp [okSz] at hok
                · exact absurd hkk hk2
                · subst hkk
                  have hN : ¬ (N1 : Int) = 4 := by have := hok; simp [okSz] at this; omega
                  have g0 : ((N1 : Int) == 4) = false := by simp [hN]
                  have g1 : ((N1 : Int) != 4) = true := by simp [hN]
                  clear hok
                  go_wp2_with fail
                  go_ret
                  exact ⟨rfl, ((CQ.out.alloc _).alloc _).below_nil⟩
                · subst hkk
                  have hN : ¬ (N1 : Int) % 6 = 0 := by have := hok; simp [okSz] at this; omega
                  have hN2 : ¬ (N1 : Int).tmod 6 = 0 := by rw [Int.tmod_eq_emod_of_nonneg (by omega)]; exact hN
                  have g1 : ((N1 : Int) % 6 != 0) = true := by simp [hN]
                  have g2 : ((N1 : Int).tmod 6 != 0) = true := by simp [hN2]
                  clear hok
                  go_wp2_with fail
                  go_ret
                  exact ⟨rfl, ((CQ.out.alloc _)).below_nil⟩
                · subst hkk
                  have hN : (N1 : Int) < 4 := by have := hok; simp [okSz] at this; omega
                  have g0 : decide ((N1 : Int) < 4) = true := decide_eq_true hN
                  clear hok
                  go_wp2_with fail
                  go_ret
                  exact ⟨rfl, ((CQ.out.alloc _)).below_nil⟩
                · subst hkk
                  have hN : ¬ (N1 : Int) = 8 := by have := hok; simp [okSz] at this; omega
                  have g0 : ((N1 : Int) == 8) = false := by simp [hN]
                  have g1 : ((N1 : Int) != 8) = true := by simp [hN]
                  clear hok
                  go_wp2_with fail
                  go_ret
                  exact ⟨rfl, ((CQ.out.alloc _).alloc _).below_nil⟩
                · subst hkk
                  have hN : (N1 : Int) < 8 := by have := hok; simp [okSz] at this; omega
                  have g0 : decide ((N1 : Int) < 8) = true := decide_eq_true hN
                  clear hok
                  go_wp2_with fail
                  go_ret
                  exact ⟨rfl, ((CQ.out.alloc _)).below_nil⟩
                · subst hkk
                  have hN : ¬ (N1 : Int) = 4 := by have := hok; simp [okSz] at this; omega
                  have g0 : ((N1 : Int) == 4) = false := by simp [hN]
                  have g1 : ((N1 : Int) != 4) = true := by simp [hN]
                  clear hok
                  go_wp2_with fail
                  go_ret
                  exact ⟨rfl, ((CQ.out.alloc _).alloc _).below_nil⟩
                · subst hkk; simp [okSz] at hok
              · exfalso
                obtain ⟨q, rfl⟩ : ∃ q, k = q + 10 := ⟨k - 10, by omega⟩
                simp [okSz] at hok
theorem walk (kind max n0 fill : Int) (W : World) (hf : 0 ≤ fill ∧ fill ≤ 255) :
    Calls Try.prog 10 #[.int .i64 kind, .int .i64 max, .int .i64 n0, .int .u8 fill] W fun e w' => e = .returned (.bool true) ∧ Below W.heap.size W w' := by
  obtain ⟨k, hk, hk255⟩ := and_nat kind 255 255 rfl (by decide)
  obtain ⟨N0, hN0, hN0b⟩ := and_nat n0 16777215 16777215 rfl (by decide)
  obtain ⟨N1, hN1, hN1b⟩ := and_nat (N0 : Int) 63 63 rfl (by decide)
  by_cases hbig : mxP max < N0
  · exact walkA kind max n0 fill W hf k hk hk255 N0 hN0 hN0b N1 hN1 hN1b hbig
  · cases hok : okSz k N1 with
    | true => exact walkB kind max n0 fill W hf k hk hk255 N0 hN0 hN0b N1 hN1 hN1b hbig hok
    | false => exact walkC kind max n0 fill W hf k hk hk255 N0 hN0 hN0b N1 hN1 hN1b hbig hok

/-! ### The row's step -/
theorem own : ownKnob Try.prog.godebug = none := by kernel_rfl
theorem laid : laidOutB Try.prog = true := by kernel_rfl

set_option maxRecDepth 100000 in
theorem lifted (os : Os) (started : os.Started) (H : Type) (enc : TypeId × Value → H) :
    ReturnsInHanded {} Try.checked os 10 .any (Rows.frameSizesSpec.pre6 enc Try.prog Try.f10 Rows.frameSizesRow.domain false) (Rows.frameSizesSpec.post enc Try.prog Try.f10 false true false false) := by
  refine lift_law (C := Try.checked) (tb := 4) own started (by kernel_rfl) Try.func10
    (ChangeSpec.witness6 (enc := enc) (C := Try.checked) false ⟨#[], #[.int .i64 0, .int .i64 0, .int .i64 0, .int .u8 0], []⟩ 8 (by kernel_rfl) (by kernel_rfl) (by kernel_rfl) (by kernel_rfl))
    laid (by rw [Try.params10]; intro t ht; simp only [List.mem_cons, List.not_mem_nil, or_false] at ht; rcases ht with rfl | rfl | rfl | rfl <;> exact ⟨by kernel_rfl, of_decide_eq_true (by kernel_rfl)⟩) (by kernel_rfl) Try.underlying4 rfl
    (fun ds h => by rw [Try.params10] at h; match ds, h with | [d0, d1, d2, d3], _ => rfl) ?_
  intro W base args ds before hval hA hlt hsz
  rw [Try.params10] at hA hval
  try rw [Try.params10] at hsz
  have hlt0 := hlt
  obtain ⟨v0, vs0, d0, ds0, p0, q0, hargs, rfl, rfl, h0, r0⟩ := trodAll_cons hA
  obtain ⟨v1, vs1, d1, ds1, p1, q1, rfl, rfl, rfl, h1, r1⟩ := trodAll_cons r0
  obtain ⟨v2, vs2, d2, ds2, p2, q2, rfl, rfl, rfl, h2, r2⟩ := trodAll_cons r1
  obtain ⟨v3, vs3, d3, ds3, p3, q3, rfl, rfl, rfl, h3, r3⟩ := trodAll_cons r2
  obtain ⟨rfl, rfl, rfl⟩ := trodAll_nil r3
  obtain rfl : args = #[v0, v1, v2, v3] := by cases args; simp_all
  have l0 : ∀ p ∈ p0, p.block < W.heap.size := fun x hx => hlt x (by simp [hx])
  have l1 : ∀ p ∈ p1, p.block < W.heap.size := fun x hx => hlt x (by simp [hx])
  have l2 : ∀ p ∈ p2, p.block < W.heap.size := fun x hx => hlt x (by simp [hx])
  have l3 : ∀ p ∈ p3, p.block < W.heap.size := fun x hx => hlt x (by simp [hx])
  obtain ⟨n0, rfl, rfl, rfl, wn0⟩ := open_int Try.underlying3 (hval 0 3 v0 rfl rfl) h0
  obtain ⟨n1, rfl, rfl, rfl, wn1⟩ := open_int Try.underlying3 (hval 1 3 v1 rfl rfl) h1
  obtain ⟨n2, rfl, rfl, rfl, wn2⟩ := open_int Try.underlying3 (hval 2 3 v2 rfl rfl) h2
  obtain ⟨n3, rfl, rfl, rfl, wn3⟩ := open_int Try.underlying5 (hval 3 5 v3 rfl rfl) h3
  exact walk n0 n1 n2 n3 W (u8_in wn3)

theorem over : Rows.frameSizesRow.holds Try.pinned (OpenSpec.ofChange Rows.frameSizesSpec) :=
  OpenClaim.holds_of_wide 10 Try.f10 rfl rfl rfl rfl rfl rfl rfl ⟨rfl, rfl, rfl, rfl, rfl⟩ rfl rfl rfl rfl rfl (by kernel_rfl) Try.func10 (by kernel_rfl)
    (of_decide_eq_true (by kernel_rfl)) (by unfold Func.isWrapper; first | (rw [if_pos (by decide +kernel)]; kernel_rfl) | (rw [if_neg (by decide +kernel)]; exact ⟨rfl, rfl⟩))
    (fun os started H enc _ => lifted os started H enc)

/-- The statement. -/
theorem proved : Rows.FrameSizesSaid :=
  over
#print axioms proved

end Go.Proofs.Ythhgnipiaohplaa.Sizes
