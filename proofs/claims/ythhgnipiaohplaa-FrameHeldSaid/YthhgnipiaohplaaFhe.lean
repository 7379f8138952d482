/-
  FrameHeld: a parser holds no more than a frame: any Max, any octets fed again and again, Next or not between.
-/
import Derived.Test.YthhgnipiaohplaaFsn
import Derived.Test.YthhgnipiaohplaaFdr
import Derived.Test.YthhgnipiaohplaaOpenN
namespace Go.Proofs.Ythhgnipiaohplaa.Held
open Go.ChangeShapes Go.WideShapes Go.ChangeAt Go.RowKit
open Go.Proofs.Ythhgnipiaohplaa.B Go.Proofs.Ythhgnipiaohplaa.Fr
set_option linter.unusedVariables false
set_option linter.unusedSimpArgs false

/-- Octets that are an element of a slice. -/
structure Pc where
  v : Value
  b : List UInt8
def encP (z : Pc) : List Value := [z.v]
def encT (b : Bool) : List Value := [.bool b]
set_option maxRecDepth 100000 in
theorem decP {H : Type} {enc : TypeId × Value → H} {W : World} (n : Nat) (cs : List Value) (x : DataW H × List MemPlace) (hl : cs.length = 1)
    (h : DataW.trod enc Try.prog W 0 (fun _ => true) true n 22 cs = some x) (hlt : ∀ p ∈ x.2, p.block < W.heap.size) (hs : Small' Try.prog 22 x.1) : ∃ z : Pc, cs = encP z ∧ BytesOf W z.v z.b := by
  match cs, hl with
  | [v0], _ =>
    obtain ⟨l3, _, _, _, q3⟩ := open_slice_n 1 encB (fun _ => True) Try.underlying22 (by kernel_rfl) (by omega)
      (fun n cs x hl h _ hs => (Go.Proofs.Ythhgnipiaohplaa.B.decB n cs x hl h).imp fun z hz => ⟨hz.1, trivial⟩) h hlt hs
    exact ⟨⟨v0, l3⟩, rfl, q3⟩
set_option maxRecDepth 100000 in
theorem decT {H : Type} {enc : TypeId × Value → H} {W : World} (n : Nat) (cs : List Value) (x : DataW H × List MemPlace) (hl : cs.length = 1)
    (h : DataW.trod enc Try.prog W 0 (fun _ => true) true n 4 cs = some x) : ∃ z, cs = encT z ∧ True := by
  obtain ⟨c, hc, _⟩ := DataW.trod_bool Try.underlying4 h
  exact ⟨c, hc, trivial⟩
/-- One cell of each element. -/
theorem one_cells {α : Type} {enc : α → Value} {w : World} {a : Option Addr} {n cap : Nat} {zs : List α} (h : SliceOf w (.slice a n cap) 1 (fun z => [enc z]) zs) (h0 : 0 < zs.length) :
    ∃ b off, a = some ⟨b, off, none⟩ ∧ b < w.heap.size ∧ ∀ i z, zs[i]? = some z → w.cell? ⟨b, off + i, none⟩ = some (enc z) := by
  obtain ⟨b, off, rfl, hb, hc⟩ := h.at h0
  exact ⟨b, off, rfl, hb, fun i f hf => by have := hc i f hf 0 (by omega); simpa using this⟩
set_option maxRecDepth 100000 in
set_option maxHeartbeats 8000000 in
theorem walk (max : Int) (lv nv : Value) (ps : List Pc) (nx : List Bool) (W : World) (hsl : SliceOf W lv 1 encP ps) (hps : ∀ z ∈ ps, BytesOf W z.v z.b) (hnx : SliceOf W nv 1 encT nx) :
    Calls Try.prog 8 #[.int .i64 max, lv, nv] W fun e w' => e = .returned (.bool true) ∧ Below W.heap.size W w' := by
  obtain ⟨la, lc, rfl, hlc, hlcm⟩ := hsl.len
  obtain ⟨na, nc, rfl, hnc, hncm⟩ := hnx.len
  unfold maxLen at hlcm hncm
  have HSL := Lib.hid hsl; have HPS := Lib.hid hps; have HNX := Lib.hid hnx
  clear hsl hps hnx
  obtain ⟨mx, hmx⟩ : ∃ m, m = mxP max := ⟨_, rfl⟩
  have hb := mxP_bd max
  rw [← hmx] at hb
  obtain ⟨b1, b2⟩ := hb
  obtain ⟨m1, hm1⟩ : ∃ m1 : Int, m1 = if max < 16384 then 16384 else max := ⟨_, rfl⟩
  have hm2 : (mx : Int) = if 16777215 < m1 then 16777215 else m1 := by
    rw [hmx, hm1]; unfold mxP
    split <;> split <;> omega
  have HMX := Lib.hid hmx; have HM1 := Lib.hid hm1; have HM2 := Lib.hid hm2
  clear hmx hm1 hm2
  go_enter Try.func8, Try.ntmps8
  go_wp2_with fail
  refine (shown_any W).mono ?_; rintro e w1 ⟨rfl, c1⟩
  go_wp2_with fail
  refine (pnew_any (W := W) max w1 c1.size).mono ?_; rintro e w2 ⟨p, hv0, rfl, h2, c2, f2⟩
  rw [← HMX.out] at h2
  have H2 := Lib.hid h2; have C2 := Lib.hid (c1.trans' c2)
  clear h2 c1 c2 f2
  go_upto_region 5 with fail
  iterate 11 go_step
  go_cut [9] (fun v wx => v = .int .i64 m1 ∧ wx = w2)
  case first =>
    rcases ltC max 16384 with ⟨k1, _⟩ | ⟨k1, k1'⟩
    · have hx : Hid (m1 = 16384) := Lib.hid (by rw [HM1.out, if_pos k1])
      go_wp2_with fail
      go_meet
      case rel => exact ⟨by rw [hx.out], rfl⟩
    · have hx : Hid (m1 = max) := Lib.hid (by rw [HM1.out, if_neg k1])
      go_wp2_with fail
      go_meet
      case rel => exact ⟨by rw [hx.out], rfl⟩
  case rest =>
    obtain ⟨rfl, hwx⟩ := hcut
    have hwx' := hwx.symm
    subst hwx'
    iterate 2 go_step
    go_cut [9] (fun v wx => v = .int .i64 (mx : Nat) ∧ wx = w2)
    case first =>
      rcases ltC 16777215 m1 with ⟨k1, _⟩ | ⟨k1, k1'⟩
      · have hx : Hid ((mx : Int) = 16777215) := Lib.hid (by rw [HM2.out, if_pos k1])
        go_wp2_with fail
        go_meet
        case rel => exact ⟨by rw [hx.out], rfl⟩
      · have hx : Hid ((mx : Int) = m1) := Lib.hid (by rw [HM2.out, if_neg k1])
        go_wp2_with fail
        go_meet
        case rel => exact ⟨by rw [hx.out], rfl⟩
    case rest =>
      obtain ⟨rfl, hwx⟩ := hcut
      have hwx' := hwx.symm
      subst hwx'
      clear HM1 HM2 HMX
      go_wp2_with fail
      go_loopw [10, 11] (fun dv iv wr => ∃ (k : Nat) (L : List UInt8) (hv : Value) (dn : Bool), k ≤ ps.length ∧ k ≤ 60 ∧ dv = .bool dn ∧ iv = .int .i64 k ∧ PH W wr p hv L mx dn ∧ (dn = true → L = []) ∧ L.length ≤ mx + 9 ∧ Chg [] W wr) (fun _ iv _ => 60 - (intOf iv).toNat)
      case atStart => exact ⟨0, [], hv0, false, by omega, by omega, rfl, rfl, H2.out, by simp, by simp, C2.out⟩
      case round =>
        clear H2 C2
        obtain ⟨k, L, hv, dn, hk, hk2, rfl, rfl, hP, hdn, hLl, hC⟩ := hrel
        have HP := Lib.hid hP; have HDN := Lib.hid hdn; have HC := Lib.hid hC
        clear hP hdn hC
        by_cases hlt : k < ps.length ∧ k < 60
        · obtain ⟨hlt1, hlt2⟩ := hlt
          have hltI : (k : Int) < (ps.length : Int) := by omega
          have hlt3 : (k : Int) < 60 := by omega
          obtain ⟨o, ho⟩ : ∃ o, ps[k]? = some o := ⟨_, List.getElem?_eq_getElem hlt1⟩
          obtain ⟨b, off, rfl, hbw, hcell⟩ := one_cells (enc := fun z : Pc => z.v) HSL.out (by omega)
          have d0 := hcell k o ho
          have HD0 := Lib.hid d0
          have hbc : ∀ w', Below W.heap.size W w' → ∀ j, w'.cell? ⟨b, j, none⟩ = W.cell? ⟨b, j, none⟩ := fun w' h j => h.cell (p := ⟨b, j, none⟩) hbw
          have HBC := Lib.hid hbc
          have OB := Lib.hid (HPS.out o (List.mem_of_getElem? ho))
          obtain ⟨oa, oc, hov, hoc, hocm⟩ := OB.out.slice
          unfold maxLen at hocm
          have c0 := d0
          rw [← HBC.out wr HC.out.below_nil, hov] at c0
          have HOV := Lib.hid hov
          clear d0 hcell hbc ho hov
          cases dn with
          | true =>
            have hL0 : L = [] := HDN.out rfl
            subst hL0
            have K4E : Hid (True) := Lib.hid trivial
            go_wp2_with fail
            refine (psize_any HP.out).mono ?_; rintro e w3 ⟨rfl, rfl⟩
            go_wp2_with fail
            refine (pfeed_any HP.out (.slice oa o.b.length oc) o.b (by rw [← HOV.out]; exact OB.out.chg0 HC.out) (by simp) (by omega)).mono ?_; rintro e w4 ⟨hv4, he, h4, c4, f4⟩
            rw [show feedN mx true [] o.b = 0 from rfl] at he h4
            rw [show ([] : List UInt8) ++ o.b.take 0 = [] by simp] at h4
            subst he
            have C4 := Lib.hid (HC.out.trans c4 (fun x hx => Or.inr (HP.out.los x hx)))
            have H4 := Lib.hid h4
            have c0 : World.cell? w4 ⟨b, off + k, none⟩ = some (.slice oa o.b.length oc) := by rw [HBC.out w4 C4.out.below_nil, HD0.out, HOV.out]
            clear h4 c4 f4 HP HC
            have e1 : ∃ z, min (o.b.length : Int) ((mx : Int) + 9) = z := ⟨_, rfl⟩
            go_wp2_with fail
            refine (psize_any H4.out).mono ?_; rintro e w5 ⟨rfl, rfl⟩
            go_wp2_with fail
            refine (psize_any H4.out).mono ?_; rintro e w5 ⟨rfl, rfl⟩
            clear c0
            by_cases hkn : k < nx.length
            · have hknI : (k : Int) < (nx.length : Int) := by omega
              obtain ⟨t, ht⟩ : ∃ t, nx[k]? = some t := ⟨_, List.getElem?_eq_getElem hkn⟩
              obtain ⟨nb, noff, rfl, hnbw, hncell⟩ := one_cells (enc := fun z : Bool => Value.bool z) HNX.out (by omega)
              have d1 := hncell k t ht
              have hbc : w4.cell? ⟨nb, noff + k, none⟩ = W.cell? ⟨nb, noff + k, none⟩ := C4.out.below_nil.cell (p := ⟨nb, noff + k, none⟩) hnbw
              rw [← hbc] at d1
              clear hbc hncell ht
              cases t with
              | false =>
                go_wp2_with fail
                go_roundw
                case rel => exact ⟨k + 1, [], _, true, by omega, by omega, rfl, by go_num, H4.out, fun _ => rfl, by (try rw [K4E.out]); first | omega | simp, C4.out⟩
                case measure => simp [intOf]; omega
              | true =>
                go_wp2_with fail
                refine (next_any H4.out (by simp)).mono ?_; rintro e w5 hp
                have hp' : NextPost W w4 p hv4 [] mx true e w5 .none := hp
                obtain ⟨rfl, h5, c5⟩ := hp'
                have H5 := Lib.hid h5; have C5 := Lib.hid (C4.out.trans' c5)
                clear hp h5 c5 H4 C4 d1
                go_wp2_with fail
                have cB : Chg [] w5 ((w5.alloc (.cells noF 27)).alloc (.cells noX 46)) := ((Chg.refl w5).alloc _).alloc _
                have H6 := Lib.hid (H5.out.chg0 cB); have C6 := Lib.hid (C5.out.trans' cB)
                clear cB
                refine (psize_any H6.out).mono ?_; rintro e w6 ⟨rfl, rfl⟩
                go_wp2_with fail
                refine (psize_any H6.out).mono ?_; rintro e w6 ⟨rfl, rfl⟩
                go_wp2_with fail
                go_roundw
                case rel => exact ⟨k + 1, [], _, true, by omega, by omega, rfl, by go_num, H6.out, fun _ => rfl, by (try rw [K4E.out]); first | omega | simp, C6.out⟩
                case measure => simp [intOf]; omega
            · have hknI : ¬ (k : Int) < (nx.length : Int) := by omega
              go_wp2_with fail
              go_roundw
              case rel => exact ⟨k + 1, [], _, true, by omega, by omega, rfl, by go_num, H4.out, fun _ => rfl, by (try rw [K4E.out]); first | omega | simp, C4.out⟩
              case measure => simp [intOf]; omega
          | false =>
            obtain ⟨K, hK⟩ : ∃ K, L.length = K := ⟨_, rfl⟩
            obtain ⟨N, hN⟩ : ∃ N, feedN mx false L o.b = N := ⟨_, rfl⟩
            have hN2 : N = min o.b.length (mx + 9 - K) := by rw [← hN, ← hK]; rfl
            have e1 : min (o.b.length : Int) ((mx : Int) + 9 - (K : Int)) = (N : Int) := by omega
            obtain ⟨L4, hL4⟩ : ∃ L4, L ++ o.b.take N = L4 := ⟨_, rfl⟩
            have hl4 : L4.length = K + N := by rw [← hL4, List.length_append, List.length_take, hK]; omega
            obtain ⟨K4, hK4⟩ : ∃ K4, K4 = K + N := ⟨_, rfl⟩
            have hk4 : K4 ≤ mx + 9 := by omega
            rw [← hK4] at hl4
            have hkI : (K4 : Int) = (K : Int) + (N : Int) := by omega
            have KE := Lib.hid hK; have NE := Lib.hid hN; have LE := Lib.hid hL4; have K4E := Lib.hid hl4
            have g1 : ((K4 : Int) != (K : Int) + (N : Int)) = false := by simp [hkI]
            have g2 : (K4 : Int) ≤ (mx : Int) + 9 := by omega
            have HKI := Lib.hid hkI
            have hKb : K ≤ 20000000 := by omega
            have hNb : N ≤ 20000000 := by omega
            clear hK hN hN2 hL4 hl4 hkI hK4
            go_wp2_with fail
            refine (psize_any HP.out).mono ?_; rintro e w3 ⟨he, rfl⟩
            rw [KE.out] at he
            subst he
            go_wp2_with fail
            refine (pfeed_any HP.out (.slice oa o.b.length oc) o.b (by rw [← HOV.out]; exact OB.out.chg0 HC.out) (by rw [KE.out]; omega) (by omega)).mono ?_; rintro e w4 ⟨hv4, he, h4, c4, f4⟩
            rw [NE.out] at he h4
            rw [LE.out] at h4
            subst he
            have C4 := Lib.hid (HC.out.trans c4 (fun x hx => Or.inr (HP.out.los x hx)))
            have H4 := Lib.hid h4
            have c0 : World.cell? w4 ⟨b, off + k, none⟩ = some (.slice oa o.b.length oc) := by rw [HBC.out w4 C4.out.below_nil, HD0.out, HOV.out]
            clear h4 c4 f4 HP HC
            go_wp2_with fail
            refine (psize_any H4.out).mono ?_; rintro e w5 ⟨he, rfl⟩
            rw [K4E.out] at he
            subst he
            go_wp2_with fail
            refine (psize_any H4.out).mono ?_; rintro e w5 ⟨he, rfl⟩
            rw [K4E.out] at he
            subst he
            clear c0 e1
            by_cases hkn : k < nx.length
            · have hknI : (k : Int) < (nx.length : Int) := by omega
              obtain ⟨t, ht⟩ : ∃ t, nx[k]? = some t := ⟨_, List.getElem?_eq_getElem hkn⟩
              obtain ⟨nb, noff, rfl, hnbw, hncell⟩ := one_cells (enc := fun z : Bool => Value.bool z) HNX.out (by omega)
              have d1 := hncell k t ht
              have hbc : w4.cell? ⟨nb, noff + k, none⟩ = W.cell? ⟨nb, noff + k, none⟩ := C4.out.below_nil.cell (p := ⟨nb, noff + k, none⟩) hnbw
              rw [← hbc] at d1
              clear hbc hncell ht
              cases t with
              | false =>
                go_wp2_with fail
                go_roundw
                case rel => exact ⟨k + 1, L4, _, false, by omega, by omega, rfl, by go_num, H4.out, by simp, by (try rw [K4E.out]); first | omega | simp, C4.out⟩
                case measure => simp [intOf]; omega
              | true =>
                have hlx : L4.length ≤ 100000000 := by rw [K4E.out]; omega
                go_wp2_with fail
                refine (next_any H4.out hlx).mono ?_; rintro e w5 hp
                have hpl : ∀ x ∈ [p], W.heap.size ≤ x := fun x hx => H4.out.los x (by simp at hx; simp [footP, hx])
                clear d1 hlx
                cases hX : nxt mx L4 with
                | none =>
                  rw [hX] at hp
                  obtain ⟨rfl, h5, c5⟩ := hp
                  have H5 := Lib.hid h5; have C5 := Lib.hid (C4.out.trans' c5)
                  clear h5 c5 H4 C4 hX
                  go_wp2_with fail
                  have cB : Chg [] w5 ((w5.alloc (.cells noF 27)).alloc (.cells noX 46)) := ((Chg.refl w5).alloc _).alloc _
                  have H6 := Lib.hid (H5.out.chg0 cB); have C6 := Lib.hid (C5.out.trans' cB)
                  clear cB
                  refine (psize_any H6.out).mono ?_; rintro e w6 ⟨he, rfl⟩
                  rw [K4E.out] at he
                  subst he
                  go_wp2_with fail
                  go_roundw
                  case rel => exact ⟨k + 1, L4, _, false, by omega, by omega, rfl, by go_num, H6.out, by simp, by (try rw [K4E.out]); first | omega | simp, C6.out⟩
                  case measure => simp [intOf]; omega
                | broken c =>
                  rw [hX] at hp
                  obtain ⟨rfl, h5, c5⟩ := hp
                  have H5 := Lib.hid h5; have C5 := Lib.hid (C4.out.trans c5 (fun x hx => Or.inr (hpl x hx)))
                  clear h5 c5 H4 C4 hX
                  go_wp2_with fail
                  have cB : Chg [] w5 ((w5.alloc (.cells noF 27)).alloc (.cells #[.bool true, .int .u32 (c : Nat), .int .i64 0] 46)) := ((Chg.refl w5).alloc _).alloc _
                  have H6 := Lib.hid (H5.out.chg0 cB); have C6 := Lib.hid (C5.out.trans' cB)
                  clear cB
                  refine (psize_any H6.out).mono ?_; rintro e w6 ⟨rfl, rfl⟩
                  go_wp2_with fail
                  go_roundw
                  case rel => exact ⟨k + 1, [], _, true, by omega, by omega, rfl, by go_num, H6.out, fun _ => rfl, by (try rw [K4E.out]); first | omega | simp, C6.out⟩
                  case measure => simp [intOf]; omega
                | fault c st r =>
                  rw [hX] at hp
                  obtain ⟨hv5, rfl, h5, c5, _⟩ := hp
                  have hst := (nxt_takes.2.1 _ _ _ hX).1
                  have hrl := nxt_fault_len hX
                  rw [K4E.out] at hrl
                  have g5 : ((st : Int) == 0) = false := by simp; omega
                  have g6 : (r.length : Int) ≤ (K : Int) + (N : Int) - 9 := by have := HKI.out; omega
                  have H5 := Lib.hid h5; have C5 := Lib.hid (C4.out.trans c5 (fun x hx => Or.inr (hpl x hx)))
                  clear h5 c5 H4 C4 hX
                  go_wp2_with fail
                  have cB : Chg [] w5 ((w5.alloc (.cells noF 27)).alloc (.cells #[.bool true, .int .u32 (c : Nat), .int .i64 (st : Nat)] 46)) := ((Chg.refl w5).alloc _).alloc _
                  have H6 := Lib.hid (H5.out.chg0 cB); have C6 := Lib.hid (C5.out.trans' cB)
                  clear cB
                  refine (psize_any H6.out).mono ?_; rintro e w6 ⟨rfl, rfl⟩
                  clear K4E
                  have K4E : Hid (True) := Lib.hid trivial
                  go_wp2_with fail
                  go_roundw
                  case rel => exact ⟨k + 1, r, _, false, by omega, by omega, rfl, by go_num, H6.out, by simp, by (try rw [K4E.out]); first | omega | simp, C6.out⟩
                  case measure => simp [intOf]; omega
                | frame F r =>
                  rw [hX] at hp
                  obtain ⟨hv5, pv, lv, rfl, h5, c5, _, op5, os5, _⟩ := hp
                  have hrl := nxt_frame_len hX
                  rw [K4E.out] at hrl
                  have g6 : (r.length : Int) ≤ (K : Int) + (N : Int) - 9 := by have := HKI.out; omega
                  have H5 := Lib.hid h5; have C5 := Lib.hid (C4.out.trans c5 (fun x hx => Or.inr (hpl x hx)))
                  clear h5 c5 H4 C4 hX
                  obtain ⟨pa, pc, rfl, _, _⟩ := (OwnB.bytes op5).slice
                  obtain ⟨sa, sc, rfl, _, _⟩ := OwnR.slice os5
                  have b1 : At ((w5.alloc (.cells noF 27)).alloc (.cells noX 46)) w5.heap.size (.cells noF 27) := (At.new w5 _).alloc _
                  have b2 : At ((w5.alloc (.cells noF 27)).alloc (.cells noX 46)) (w5.heap.size + 1) (.cells noX 46) := At.new' (w := w5.alloc (.cells noF 27)) (by simp)
                  go_wp2_with (refine store_whole rfl 27 _ _ rfl w5.heap.size _ _ 27 rfl rfl b1 infoFr rfl (by simp [Value.oneCell', Fm.mem]) ?_)
                  intro w31 s31 c31
                  have b231 := At.chg b2 c31 (by simp)
                  go_wp2_with (refine store_whole rfl 46 _ _ rfl (w5.heap.size + 1) _ _ 46 rfl rfl b231 infoFa rfl (by simp [Value.oneCell']) ?_)
                  intro w32 s32 c32
                  have S31 := Lib.hid (s31.chg c32 (by simp)); have S32 := Lib.hid s32
                  have C32 : Hid (Chg [] w5 w32) := Lib.hid ((((Chg.refl w5).alloc _).alloc _).trans ((c31.mono (m := [w5.heap.size, w5.heap.size + 1]) (by simp)).trans' (c32.mono (by simp))) (fun x hx => Or.inr (by simp at hx; omega)))
                  clear b1 b2 b231 s31 c31 c32 s32
                  have H6 := Lib.hid (H5.out.chg0 C32.out); have C6 := Lib.hid (C5.out.trans' C32.out)
                  have y0 : World.cell? w32 ⟨w5.heap.size + 1, 0, none⟩ = some (.bool false) := S32.out.cell rfl
                  have y2 : World.cell? w32 ⟨w5.heap.size + 1, 2, none⟩ = some (.int .i64 0) := S32.out.cell rfl
                  clear op5 os5
                  go_wp2_with fail
                  refine (psize_any H6.out).mono ?_; rintro e w6 ⟨rfl, rfl⟩
                  clear K4E
                  have K4E : Hid (True) := Lib.hid trivial
                  go_wp2_with fail
                  go_roundw
                  case rel => exact ⟨k + 1, r, _, false, by omega, by omega, rfl, by go_num, H6.out, by simp, by (try rw [K4E.out]); first | omega | simp, C6.out⟩
                  case measure => simp [intOf]; omega
            · have hknI : ¬ (k : Int) < (nx.length : Int) := by omega
              go_wp2_with fail
              go_roundw
              case rel => exact ⟨k + 1, L4, _, false, by omega, by omega, rfl, by go_num, H4.out, by simp, by (try rw [K4E.out]); first | omega | simp, C4.out⟩
              case measure => simp [intOf]; omega
        · rcases Nat.lt_or_ge k ps.length with h1 | h1
          · have hkI : ¬ (k : Int) < 60 := by omega
            have hkI2 : (k : Int) < (ps.length : Int) := by omega
            go_wp2_with fail
            go_ret
            exact ⟨rfl, HC.out.below_nil⟩
          · have hkI : ¬ (k : Int) < (ps.length : Int) := by omega
            go_wp2_with fail
            go_ret
            exact ⟨rfl, HC.out.below_nil⟩

/-! ### The row's step -/
theorem own : ownKnob Try.prog.godebug = none := by kernel_rfl
theorem laid : laidOutB Try.prog = true := by kernel_rfl

set_option maxRecDepth 100000 in
theorem lifted (os : Os) (started : os.Started) (H : Type) (enc : TypeId × Value → H) :
    ReturnsInHanded {} Try.checked os 8 .any (Rows.frameHeldSpec.pre6 enc Try.prog Try.f8 Rows.frameHeldRow.domain false) (Rows.frameHeldSpec.post enc Try.prog Try.f8 false true false false) := by
  refine lift_law (C := Try.checked) (tb := 4) own started (by kernel_rfl) Try.func8
    (ChangeSpec.witness6 (enc := enc) (C := Try.checked) false ⟨#[], #[.int .i64 0, .slice none 0 0, .slice none 0 0], []⟩ 8 (by kernel_rfl) (by kernel_rfl) (by kernel_rfl) (by kernel_rfl))
    laid (by rw [Try.params8]; intro t ht; simp only [List.mem_cons, List.not_mem_nil, or_false] at ht; rcases ht with rfl | rfl | rfl <;> exact ⟨by kernel_rfl, of_decide_eq_true (by kernel_rfl)⟩) (by kernel_rfl) Try.underlying4 rfl
    (fun ds h => by rw [Try.params8] at h; match ds, h with | [d0, d1, d2], _ => rfl) ?_
  intro W base args ds before hval hA hlt hsz
  rw [Try.params8] at hA hval
  try rw [Try.params8] at hsz
  have hlt0 := hlt
  obtain ⟨v0, vs0, d0, ds0, p0, q0, hargs, rfl, rfl, h0, r0⟩ := trodAll_cons hA
  obtain ⟨v1, vs1, d1, ds1, p1, q1, rfl, rfl, rfl, h1, r1⟩ := trodAll_cons r0
  obtain ⟨v2, vs2, d2, ds2, p2, q2, rfl, rfl, rfl, h2, r2⟩ := trodAll_cons r1
  obtain ⟨rfl, rfl, rfl⟩ := trodAll_nil r2
  obtain rfl : args = #[v0, v1, v2] := by cases args; simp_all
  have l0 : ∀ p ∈ p0, p.block < W.heap.size := fun x hx => hlt x (by simp [hx])
  have l1 : ∀ p ∈ p1, p.block < W.heap.size := fun x hx => hlt x (by simp [hx])
  have l2 : ∀ p ∈ p2, p.block < W.heap.size := fun x hx => hlt x (by simp [hx])
  obtain ⟨n0, rfl, rfl, rfl, wn0⟩ := open_int Try.underlying3 (hval 0 3 v0 rfl rfl) h0
  obtain ⟨l1, g1, _, _, s1⟩ := open_slice_a 1 encP (fun z => BytesOf W z.v z.b) Try.underlying62 (by kernel_rfl) (by omega) (hval 1 62 v1 rfl rfl) decP h1 l1 (small_of hsz (j := 1) rfl rfl)
  obtain ⟨l2, _, _, s2⟩ := open_arg_slice 1 encT (fun _ => True) Try.underlying67 (by kernel_rfl) (by omega) (hval 2 67 v2 rfl rfl) decT h2 l2
  exact walk n0 v1 v2 l1 l2 W s1 g1 s2

theorem over : Rows.frameHeldRow.holds Try.pinned (OpenSpec.ofChange Rows.frameHeldSpec) :=
  OpenClaim.holds_of_wide 8 Try.f8 rfl rfl rfl rfl rfl rfl rfl ⟨rfl, rfl, rfl, rfl, rfl⟩ rfl rfl rfl rfl rfl (by kernel_rfl) Try.func8 (by kernel_rfl)
    (of_decide_eq_true (by kernel_rfl)) (by unfold Func.isWrapper; first | (rw [if_pos (by decide +kernel)]; kernel_rfl) | (rw [if_neg (by decide +kernel)]; exact ⟨rfl, rfl⟩))
    (fun os started H enc _ => lifted os started H enc)

/-- The statement. -/
theorem proved : Rows.FrameHeldSaid :=
  over
#print axioms proved

end Go.Proofs.Ythhgnipiaohplaa.Held
