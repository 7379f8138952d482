/-
  TableKeeps: what stands in a table are the last fields that were put in, as many as have room.
-/
import Derived.Test.YthhfnmgonjippaaNew
namespace Go.Proofs.Ythhfnmgonjippaa.Tb.Keeps
open Go.ChangeShapes Go.WideShapes Go.ChangeAt Go.RowKit
open Go.Proofs.Ythhfnmgonjippaa.B
set_option linter.unusedVariables false
set_option linter.unusedSimpArgs false

theorem fit_snoc {x : Fd} (m : Nat) (L : List Fd) (hx : x.sz ≤ m) : fit 0 m (L ++ [x]) = fit x.sz m L ++ [x] := by
  induction L with
  | nil =>
    show fit 0 m [x] = [] ++ [x]
    rw [fit, if_neg (by simp [tot]; omega)]; rfl
  | cons e L ih =>
    have ht : tot (e :: (L ++ [x])) = tot (e :: L) + x.sz := by rw [← List.cons_append, tot_append]; simp [tot]
    rw [List.cons_append, fit, ht, ih]
    conv => rhs; rw [fit]
    by_cases h : m < tot (e :: L) + x.sz
    · rw [if_pos (by omega), if_pos h]
    · rw [if_neg (by omega), if_neg h]; rfl
theorem fit_more (c m : Nat) (L : List Fd) : fit c m (fit 0 m L) = fit c m L := by
  induction L with
  | nil => rfl
  | cons e L ih =>
    by_cases h : m < tot (e :: L) + 0
    · rw [fit, if_pos h, ih]
      conv => rhs; rw [fit, if_pos (by omega)]
    · rw [fit, if_neg h]
/-- One more field that has room. -/
theorem addS_fit {f : Fd} {m : Nat} (L : List Fd) (h : f.sz ≤ m) : addS f m (fit 0 m L) = fit 0 m (L ++ [f.un]) := by
  rw [addS_small h, fit_more, fit_snoc m L (by rw [Fd.un_sz]; exact h), Fd.un_sz]
/-- What has room of the last ones. -/
theorem tot_last {L : List Fd} {n : Nat} {x : Fd} (hn : n < L.length) (h : L[L.length - 1 - n]? = some x) : tot (L.drop (L.length - (n + 1))) = x.sz + tot (L.drop (L.length - n)) := by
  have := tot_drop_succ h
  rw [show L.length - 1 - n + 1 = L.length - n by omega] at this
  rw [show L.length - (n + 1) = L.length - 1 - n by omega]; exact this
theorem tot_drop_mono (l : List Fd) {j k : Nat} (h : j ≤ k) : tot (l.drop k) ≤ tot (l.drop j) := by
  have : l.drop k = (l.drop j).drop (k - j) := by rw [List.drop_drop]; congr 1; omega
  rw [this]; exact tot_drop_le _ _
theorem fit_last {L : List Fd} {m n : Nat} (hn : n ≤ L.length) (h1 : tot (L.drop (L.length - n)) ≤ m) (h2 : ∀ x, n < L.length → L[L.length - 1 - n]? = some x → m < x.sz + tot (L.drop (L.length - n))) :
    fit 0 m L = L.drop (L.length - n) := by
  refine fit_drop (by omega) (fun j hj => ?_) (fun _ => by omega)
  have hnl : n < L.length := by omega
  obtain ⟨x, hx⟩ : ∃ x, L[L.length - 1 - n]? = some x := ⟨_, List.getElem?_eq_getElem (by omega)⟩
  have q1 := h2 x hnl hx
  rw [← tot_last hnl hx] at q1
  have q2 := tot_drop_mono L (j := j) (k := L.length - (n + 1)) (by omega)
  omega
theorem last_rev {L : List Fd} {n k : Nat} {x : Fd} (hk : k < n) (hn : n ≤ L.length) (h : L[L.length - 1 - k]? = some x) : (L.drop (L.length - n)).reverse[k]? = some x := by
  rw [List.getElem?_reverse (by rw [List.length_drop]; omega), List.length_drop, List.getElem?_drop, ← h]
  congr 1; omega
theorem take_sl {w : World} {a : Option Addr} {cap c2 : Nat} {l : List Fd} (n : Nat) (h : FdsOf w (.slice a l.length cap) l) (h1 : (l.take n).length ≤ c2) (h2 : c2 ≤ maxLen) : FdsOf w (.slice a (l.take n).length c2) (l.take n) := by
  refine ⟨a, c2, rfl, h1, h2, fun h0 => ?_⟩
  have hl : 0 < l.length := by rw [List.length_take] at h0; omega
  obtain ⟨b, off, rfl, hb, hcell⟩ := h.at hl
  refine ⟨b, off, rfl, hb, fun i z hz j hj => hcell i z ?_ j hj⟩
  have hi := (List.getElem?_eq_some_iff.1 hz).1
  rw [List.length_take] at hi
  rwa [List.getElem?_take_of_lt (by omega)] at hz
set_option maxRecDepth 100000 in
set_option maxHeartbeats 16000000 in
theorem walk (mx : Int) (v : Value) (zs : List Fd) (W : World) (hzm : zs.length ≤ maxLen) (hsl : FdsOf W v zs) (hin : ∀ z ∈ zs, z.In) :
    Calls Try.prog 6 #[.int .i64 mx, v] W fun e w' => e = .returned (.bool true) ∧ Below W.heap.size W w' := by
  obtain ⟨a, cap, rfl, hcap, hcapm⟩ := hsl.len
  have HSL := Lib.hid hsl; have HIN := Lib.hid hin
  unfold maxLen at hzm hcapm
  clear hsl hin
  go_enter Try.func6, Try.ntmps6
  go_wp2_with fail
  refine (shown_any _).mono ?_; rintro e w1 ⟨rfl, c1⟩
  go_wp2_with fail
  refine (H_new (W := W) mx _ c1.below_nil).mono ?_; rintro e w2 ⟨rfl, c2, F0, h2, f2⟩
  generalize w1.heap.size = p at *
  obtain ⟨m, hm⟩ : ∃ m, m = hgt mx := ⟨_, rfl⟩
  rw [← hm] at h2
  have hm6 : m ≤ 65536 := by rw [hm]; exact hgt_le mx
  have H2 := Lib.hid h2
  clear c1 c2 h2 f2 hm
  go_upto_if 24 with fail
  go_cut [1] (fun lv wx => wx = w2 ∧ ∃ cap', lv = .slice a (zs.take 60).length cap' ∧ (zs.take 60).length ≤ cap' ∧ cap' ≤ maxLen)
  case first =>
    by_cases hl6 : 60 < zs.length
    · have hlt : (zs.take 60).length = 60 := by simp; omega
      have hd6 : decide ((60 : Int) < (zs.length : Int)) = true := decide_eq_true (by omega)
      go_wp2_with fail
      go_meet
      case rel => exact ⟨rfl, cap, by rw [hlt], by rw [hlt]; omega, by unfold maxLen; omega⟩
    · have hlt : zs.take 60 = zs := List.take_of_length_le (by omega)
      have hd6 : decide ((60 : Int) < (zs.length : Int)) = false := decide_eq_false (by omega)
      go_wp2_with fail
      go_meet
      case rel => exact ⟨rfl, cap, by rw [hlt], by rw [hlt]; omega, by unfold maxLen; omega⟩
  case rest =>
    obtain ⟨rfl, cap', rfl, hc1, hc2⟩ := hcut
    have hYS := take_sl 60 HSL.out hc1 hc2
    have hIN : ∀ z ∈ zs.take 60, z.In := fun z hz => HIN.out z (List.mem_of_mem_take hz)
    have hy6 : (zs.take 60).length ≤ 60 := by simp; omega
    generalize zs.take 60 = ys at *
    have YS := Lib.hid hYS; have YIN := Lib.hid hIN
    clear hYS hIN HSL HIN
    go_wp2_with fail
    go_loopw [7, 8] (fun av iv wr => ∃ (i : Nat) (F : List Nat) (L : List Fd), i ≤ ys.length ∧ iv = .int .i64 i ∧ L.length ≤ i ∧ (∀ x ∈ L, x.sz ≤ m) ∧ OwnF wr W.heap.size av L ∧ (∀ x ∈ av.ownBlock.toList, x ∉ F) ∧ Has W wr F p m (fit 0 m L)) (fun _ iv _ => ys.length - (intOf iv).toNat)
    case atStart => exact ⟨0, F0, [], by omega, rfl, by simp, by simp, OwnR.nil _ _, by simp [Value.ownBlock], H2.out⟩
    case round =>
      clear H2
      obtain ⟨i, F, L, hi, rfl, hL, hLm, hown, hdis, hs⟩ := hrel
      have HLM := Lib.hid hLm
      clear hLm
      obtain ⟨aa, ac, rfl, hac1, hac2⟩ := OwnR.slice hown
      have hL6 : L.length ≤ 60 := by omega
      by_cases hlt : i < ys.length
      · obtain ⟨o, ho⟩ : ∃ o, ys[i]? = some o := ⟨_, List.getElem?_eq_getElem hlt⟩
        obtain ⟨b, off, rfl, hbw, hcell⟩ := FdsOf.cells YS.out (by omega)
        obtain ⟨d0, d1, d2⟩ := hcell i o ho
        have hbc : ∀ j, wr.cell? ⟨b, j, none⟩ = W.cell? ⟨b, j, none⟩ := fun j => hs.below.cell (p := ⟨b, j, none⟩) hbw
        have hD : Hid (W.cell? ⟨b, off + i * 3, none⟩ = some (.string o.n) ∧ W.cell? ⟨b, off + i * 3 + 1, none⟩ = some (.string o.v) ∧ W.cell? ⟨b, off + i * 3 + 2, none⟩ = some (.bool o.nv)) := Lib.hid ⟨d0, d1, d2⟩
        rw [← hbc] at d0 d1 d2
        have hfs := (YIN.out o (List.mem_of_getElem? ho)).sz
        have HS := Lib.hid hs; have HO := Lib.hid ho; have HOWN := Lib.hid hown; have HDIS := Lib.hid hdis
        clear hcell hs ho hbc hown hdis
        go_wp2_with fail
        refine (H_add o _ HS.out hfs).mono ?_; rintro e w3 ⟨rfl, ⟨F3, h3, f3⟩, c3⟩
        have o3 : OwnF w3 W.heap.size (.slice aa L.length ac) L := OwnR.chg HOWN.out c3 (fun g hg => HDIS.out g (by simpa using hg))
        have q3 : ∀ x ∈ (Value.slice aa L.length ac).ownBlock.toList, x ∉ F3 := fun x hx hx3 => by
          rcases f3 x hx3 with h | h
          · exact HDIS.out x hx h
          · have := OwnR.lt HOWN.out x hx; omega
        have hbc3 : ∀ j, w3.cell? ⟨b, j, none⟩ = W.cell? ⟨b, j, none⟩ := fun j => h3.below.cell (p := ⟨b, j, none⟩) hbw
        obtain ⟨d0', d1', d2'⟩ := hD.out
        rw [← hbc3] at d0' d1' d2'
        have H3 := Lib.hid h3; have O3 := Lib.hid o3; have Q3 := Lib.hid q3
        clear h3 f3 c3 o3 q3 hbc3 d0 d1 d2 hD HS HOWN HDIS
        go_wp2_with (at_builtin; refine app_row encF_len encF_one 25 Try.underlying25 infoF rfl (by decide) rfl _ _ rfl W.heap.size (.slice aa L.length ac) _ rfl (OwnR.alloc (OwnR.alloc O3.out _) _) _ [o.un] rfl (one_field' _ o.un (k := w3.heap.size + 1) (by simp)) (by simp [maxLen]; omega) (by simp; omega) (by simp; have := H3.out.below.size; omega) ?_)
        intro v' w' hown' hch' hfr'
        have hno : ∀ y ∈ (Value.slice aa L.length ac).ownBlock.toList, W.heap.size ≤ y ∧ y < w3.heap.size := fun y hy => ⟨OwnR.lo O3.out y hy, OwnR.lt O3.out y hy⟩
        have h5 := ((H3.out.alloc (.cells #[.string o.n, .string o.v, .bool false] 23)).alloc (.cells #[.string o.n, .string o.v, .bool false] 23)).chg hch' (fun y hy hy2 => Q3.out y hy2 hy) (fun y hy => (hno y hy).1)
        have b5 := ((At.new w3 (.cells #[.string o.n, .string o.v, .bool false] 23)).alloc (.cells #[.string o.n, .string o.v, .bool false] 23)).chg hch' (fun hy => by have := hno _ hy; omega)
        have q5 : ∀ x ∈ v'.ownBlock.toList, x ∉ F3 := fun x hx hx3 => by
          rcases hfr' x (by simpa using hx) with h | h
          · exact Q3.out x (by simpa using h) hx3
          · have := H3.out.lt x hx3; first | omega | (simp at h; omega)
        have e0 : w'.cell? ⟨w3.heap.size, 0, none⟩ = some (.string o.n) := b5.cell rfl
        have e1 : w'.cell? ⟨w3.heap.size, 1, none⟩ = some (.string o.v) := b5.cell rfl
        have e2 : w'.cell? ⟨w3.heap.size, 2, none⟩ = some (.bool false) := b5.cell rfl
        generalize w3.heap.size = fb at *
        have H5 := Lib.hid h5; have O5 := Lib.hid hown'; have Q5 := Lib.hid q5
        clear h5 hown' b5 q5 hch' hfr' hno H3 O3 Q3
        go_wp2_with fail
        obtain ⟨q, hq⟩ : ∃ q, q = o.sz := ⟨_, rfl⟩
        have hso : q = o.n.size + o.v.size + 32 := by rw [hq]; rfl
        have HQ := Lib.hid hq
        rw [← hq] at hfs
        clear hq
        have hcmp : decide ((m : Int) < (o.n.size : Int) + (o.v.size : Int) + 32) = decide (m < q) := decide_eq_decide.2 (by omega)
        have hw1 : IntKind.i64.wrap ((o.n.size : Int) + (o.v.size : Int)) = (o.n.size : Int) + (o.v.size : Int) := IntWalk.i64_in _ (by omega)
        have hw2 : IntKind.i64.wrap ((o.n.size : Int) + (o.v.size : Int) + 32) = (o.n.size : Int) + (o.v.size : Int) + 32 := IntWalk.i64_in _ (by omega)
        go_quiet ((go_at_call 21; exact Calls.quiet_of_same ((H_max _ (H5.out.drewN _)).mono (fun e w' h => ⟨h.1, h.2.symm⟩))))
        clear hw1 hw2
        have h6 := H5.out.drewN nq
        have o6 := OwnR.drewN O5.out nq
        generalize w'.drewN nq = w6 at *
        have H6 := Lib.hid h6; have O6 := Lib.hid o6
        clear h6 o6 H5 O5 e0 e1 e2
        by_cases hbig : m < q
        · have hcb : decide ((m : Int) < (o.n.size : Int) + (o.v.size : Int) + 32) = true := by rw [hcmp]; exact decide_eq_true hbig
          have h7 := H6.out
          rw [addS_big (by rw [← HQ.out]; exact hbig)] at h7
          have H7 := Lib.hid h7
          clear hcmp h7 H6
          go_wp2_with fail
          go_roundw
          case rel => exact ⟨i + 1, F3, [], by omega, by go_num, by simp, by simp, OwnR.nil _ _, by simp [Value.ownBlock], H7.out⟩
          case measure => simp [intOf] <;> omega
        · have hcb : decide ((m : Int) < (o.n.size : Int) + (o.v.size : Int) + 32) = false := by rw [hcmp]; exact decide_eq_false hbig
          have h7 := H6.out
          rw [addS_fit L (by rw [← HQ.out]; omega)] at h7
          have H7 := Lib.hid h7
          have hlm : ∀ x ∈ L ++ [o.un], x.sz ≤ m := fun x hx => by
            rcases List.mem_append.1 hx with hx | hx
            · exact HLM.out x hx
            · rw [List.mem_singleton.1 hx, Fd.un_sz, ← HQ.out]; omega
          have HLM2 := Lib.hid hlm
          clear hcmp h7 hlm H6
          go_wp2_with fail
          go_roundw
          case rel => exact ⟨i + 1, F3, L ++ [o.un], by omega, by go_num, by simp; omega, HLM2.out, O6.out, Q5.out, H7.out⟩
          case measure => simp [intOf] <;> omega
      · have hdl : decide (i < ys.length) = false := by simpa using hlt
        have hsl := OwnF.sl hown
        obtain ⟨es, hes⟩ : ∃ es, es = fit 0 m L := ⟨_, rfl⟩
        rw [← hes] at hs
        have HS := Lib.hid hs; have HSL := Lib.hid hsl; have HES := Lib.hid hes
        clear hs hsl hes hown hdis hL hi YS YIN hy6 hc1 hc2
        unfold maxLen at hac2
        go_wp2_with fail
        refine (H_max _ HS.out).mono ?_; rintro e w7 ⟨rfl, rfl⟩
        go_wp2_with fail
        go_loopw [10, 11] (fun nv rv wt => ∃ n R : Nat, n ≤ L.length ∧ nv = .int .i64 n ∧ rv = .int .i64 R ∧ R + tot (L.drop (L.length - n)) = m ∧ FdsOf wt (.slice aa L.length ac) L ∧ Has W wt F p m es) (fun nv _ _ => L.length - (intOf nv).toNat)
        case atStart => exact ⟨0, m, by omega, rfl, rfl, by simp [tot], HSL.out, HS.out⟩
        case round =>
          clear HSL HS
          obtain ⟨n, R, hn, rfl, rfl, hR, hsl, hs⟩ := hrel
          by_cases hnl : n < L.length
          · obtain ⟨x, hx⟩ : ∃ x, L[L.length - 1 - n]? = some x := ⟨_, List.getElem?_eq_getElem (by omega)⟩
            obtain ⟨b, off, rfl, hbw, hcell⟩ := FdsOf.cells hsl (by omega)
            obtain ⟨d0, d1, d2⟩ := hcell _ x hx
            have hxs := HLM.out x (List.mem_of_getElem? hx)
            have htl := tot_last hnl hx
            have hxx : x.sz = x.n.size + x.v.size + 32 := rfl
            have HR := Lib.hid hR; have HSL := Lib.hid hsl; have HS := Lib.hid hs; have HX := Lib.hid hx; have HTL := Lib.hid htl
            clear hR hsl hs hcell hx htl
            by_cases hxr : R < x.sz
            · have hes : es = L.drop (L.length - n) := by
                rw [HES.out]
                refine fit_last hn (by have := HR.out; omega) (fun y _ hy => ?_)
                rw [HX.out] at hy
                obtain rfl := Option.some.inj hy
                have := HR.out; omega
              have hT : tot es + R = m := by rw [hes]; have := HR.out; omega
              have hel : es.length = n := by rw [hes, List.length_drop]; omega
              have hcx : decide ((R : Int) < (x.n.size : Int) + (x.v.size : Int) + 32) = true := decide_eq_true (by omega)
              have HE := Lib.hid hes; have HT := Lib.hid hT; have HEL := Lib.hid hel
              clear hes hT hel HX HTL HR
              go_wp2_with fail
              have HS2 := Lib.hid (HS.out.alloc (.cells #[.string x.n, .string x.v, .bool x.nv] 23))
              have HSL2 := Lib.hid (SliceOf.chg0 HSL.out ((Chg.refl _).alloc (.cells #[.string x.n, .string x.v, .bool x.nv] 23)))
              generalize wr.alloc (.cells #[.string x.n, .string x.v, .bool x.nv] 23) = w8 at *
              obtain ⟨aa, haa⟩ : ∃ aa, aa = some (⟨b, off, none⟩ : Addr) := ⟨_, rfl⟩
              rw [← haa] at HSL2 ⊢
              clear haa d0 d1 d2
              obtain ⟨T, hTe⟩ : ∃ T, T = tot es := ⟨_, rfl⟩
              have hTR : T + R = m := by rw [hTe]; exact HT.out
              have HTE := Lib.hid hTe
              clear hTe
              have hq1 : ((T : Int) == (m : Int) - (R : Int)) = true := by simp; omega
              have hq2 : ((T : Int) != (m : Int) - (R : Int)) = false := by simp; omega
              have hnL : n ≤ 60 := by omega
              refine (H_len _ HS2.out).mono ?_; rintro e w9 ⟨he, rfl⟩
              rw [HEL.out] at he
              subst he
              go_wp2_with fail
              refine (H_size _ HS2.out).mono ?_; rintro e w9 ⟨he, rfl⟩
              rw [← HTE.out] at he
              subst he
              go_wp2_with fail
              refine (H_max _ HS2.out).mono ?_; rintro e w9 ⟨rfl, rfl⟩
              go_wp2_with fail
              go_loopw [14] (fun kv wt => ∃ k : Nat, k ≤ n ∧ kv = .int .i64 k ∧ FdsOf wt (.slice aa L.length ac) L ∧ Has W wt F p m es) (fun kv _ => n - (intOf kv).toNat)
              case atStart => exact ⟨0, by omega, rfl, HSL2.out, HS2.out⟩
              case round =>
                clear HS2 HSL2
                obtain ⟨k, hk, rfl, hws, hs⟩ := hrel
                by_cases hkn : k < n
                · obtain ⟨y, hy⟩ : ∃ y, L[L.length - 1 - k]? = some y := ⟨_, List.getElem?_eq_getElem (by omega)⟩
                  have hat := atR_rev (es := es) (k := k) (f := y) (by rw [HE.out]; exact last_rev hkn hn hy)
                  have HWS := Lib.hid hws; have HS := Lib.hid hs; have HAT := Lib.hid hat; have HY := Lib.hid hy
                  clear hws hs hat hy
                  go_wp2_with fail
                  rw [show (62 : Int) + (k : Int) = (k : Int) + 62 by omega]
                  refine (H_at _ _ HS.out (by omega)).mono ?_; rintro e w9 ⟨he, c9⟩
                  rw [HAT.out] at he
                  simp only [aF] at he
                  subst he
                  have h9 := HS.out.chg0 c9
                  have s9 := SliceOf.chg0 HWS.out c9
                  obtain ⟨bz, offz, rfl, hbz, hcz⟩ := FdsOf.cells s9 (by omega)
                  obtain ⟨g0, g1, g2⟩ := hcz _ y HY.out
                  have H9 := Lib.hid h9; have S9 := Lib.hid s9
                  have hz0 : (0 : Int) ≤ (L.length : Int) - 1 - (k : Int) := by omega
                  have hz1 : (L.length : Int) - 1 - (k : Int) < (L.length : Int) := by omega
                  clear h9 s9 hcz c9 HWS HS
                  go_wp2_with fail
                  go_quiet (fail)
                  go_wp2_with fail
                  go_roundw
                  case rel => exact ⟨k + 1, by omega, by go_num, SliceOf.chg0 S9.out (((Chg.refl _).alloc _).drewN _), (H9.out.alloc _).drewN _⟩
                  case measure => simp [intOf] <;> omega
                · obtain rfl : k = n := by omega
                  have HS := Lib.hid hs
                  clear hs hws
                  go_wp2_with fail
                  go_ret
                  exact ⟨rfl, HS.out.below⟩
            · have hcx : decide ((R : Int) < (x.n.size : Int) + (x.v.size : Int) + 32) = false := decide_eq_false (by omega)
              have hsub : ((R - x.sz : Nat) : Int) = (R : Int) - ((x.n.size : Int) + (x.v.size : Int) + 32) := by omega
              have hnew : R - x.sz + tot (L.drop (L.length - (n + 1))) = m := by have := HR.out; have := HTL.out; omega
              have hsb : wrap64 ((R : Int) - ((x.n.size : Int) + (x.v.size : Int) + 32)) = ((R - x.sz : Nat) : Int) := by rw [hsub]; unfold wrap64; omega
              have HN := Lib.hid hnew; have HSB := Lib.hid hsb
              clear hnew hsb
              go_wp2_with fail
              go_roundw
              case rel => exact ⟨n + 1, R - x.sz, by omega, by go_num, by rw [HSB.out], HN.out, SliceOf.chg0 HSL.out ((Chg.refl _).alloc _), HS.out.alloc _⟩
              case measure => simp [intOf] <;> omega
          · obtain rfl : n = L.length := by omega
            have hes : es = L.drop (L.length - L.length) := by
              rw [HES.out]
              exact fit_last hn (by omega) (fun y hy _ => by omega)
            have hT : tot es + R = m := by rw [hes]; omega
            have hel : es.length = L.length := by rw [hes, List.length_drop]; omega
            have hdn : decide (L.length < L.length) = false := by simp
            have HS2 := Lib.hid hs; have HSL2 := Lib.hid hsl
            have HE := Lib.hid hes; have HT := Lib.hid hT; have HEL := Lib.hid hel
            clear hes hT hel hR hs hsl
            go_wp2_with fail
            obtain ⟨T, hTe⟩ : ∃ T, T = tot es := ⟨_, rfl⟩
            have hTR : T + R = m := by rw [hTe]; exact HT.out
            have HTE := Lib.hid hTe
            clear hTe
            have hq1 : ((T : Int) == (m : Int) - (R : Int)) = true := by simp; omega
            have hq2 : ((T : Int) != (m : Int) - (R : Int)) = false := by simp; omega
            have hnL : L.length ≤ 60 := by omega
            refine (H_len _ HS2.out).mono ?_; rintro e w9 ⟨he, rfl⟩
            rw [HEL.out] at he
            subst he
            go_wp2_with fail
            refine (H_size _ HS2.out).mono ?_; rintro e w9 ⟨he, rfl⟩
            rw [← HTE.out] at he
            subst he
            go_wp2_with fail
            refine (H_max _ HS2.out).mono ?_; rintro e w9 ⟨rfl, rfl⟩
            go_wp2_with fail
            go_loopw [14] (fun kv wt => ∃ k : Nat, k ≤ L.length ∧ kv = .int .i64 k ∧ FdsOf wt (.slice aa L.length ac) L ∧ Has W wt F p m es) (fun kv _ => L.length - (intOf kv).toNat)
            case atStart => exact ⟨0, by omega, rfl, HSL2.out, HS2.out⟩
            case round =>
              clear HS2 HSL2
              obtain ⟨k, hk, rfl, hws, hs⟩ := hrel
              by_cases hkn : k < L.length
              · obtain ⟨y, hy⟩ : ∃ y, L[L.length - 1 - k]? = some y := ⟨_, List.getElem?_eq_getElem (by omega)⟩
                have hat := atR_rev (es := es) (k := k) (f := y) (by rw [HE.out]; exact last_rev hkn hn hy)
                have HWS := Lib.hid hws; have HS := Lib.hid hs; have HAT := Lib.hid hat; have HY := Lib.hid hy
                clear hws hs hat hy
                go_wp2_with fail
                rw [show (62 : Int) + (k : Int) = (k : Int) + 62 by omega]
                refine (H_at _ _ HS.out (by omega)).mono ?_; rintro e w9 ⟨he, c9⟩
                rw [HAT.out] at he
                simp only [aF] at he
                subst he
                have h9 := HS.out.chg0 c9
                have s9 := SliceOf.chg0 HWS.out c9
                obtain ⟨bz, offz, rfl, hbz, hcz⟩ := FdsOf.cells s9 (by omega)
                obtain ⟨g0, g1, g2⟩ := hcz _ y HY.out
                have H9 := Lib.hid h9; have S9 := Lib.hid s9
                have hz0 : (0 : Int) ≤ (L.length : Int) - 1 - (k : Int) := by omega
                have hz1 : (L.length : Int) - 1 - (k : Int) < (L.length : Int) := by omega
                clear h9 s9 hcz c9 HWS HS
                go_wp2_with fail
                go_quiet (fail)
                go_wp2_with fail
                go_roundw
                case rel => exact ⟨k + 1, by omega, by go_num, SliceOf.chg0 S9.out (((Chg.refl _).alloc _).drewN _), (H9.out.alloc _).drewN _⟩
                case measure => simp [intOf] <;> omega
              · obtain rfl : k = L.length := by omega
                have HS := Lib.hid hs
                clear hs hws
                go_wp2_with fail
                go_ret
                exact ⟨rfl, HS.out.below⟩

/-! ### The row's step -/
theorem own : ownKnob Try.prog.godebug = none := by kernel_rfl
theorem laid : laidOutB Try.prog = true := by kernel_rfl

set_option maxRecDepth 100000 in
theorem lifted (os : Os) (started : os.Started) (H : Type) (enc : TypeId × Value → H) :
    ReturnsInHanded {} Try.checked os 6 .any (Rows.tableKeepsSpec.pre6 enc Try.prog Try.f6 Rows.tableKeepsRow.domain false) (Rows.tableKeepsSpec.post enc Try.prog Try.f6 false true false false) := by
  refine lift_law (C := Try.checked) (tb := 4) own started (by kernel_rfl) Try.func6
    (ChangeSpec.witness6 (enc := enc) (C := Try.checked) false ⟨#[], #[.int .i64 0, .slice none 0 0], []⟩ 8 (by kernel_rfl) (by kernel_rfl) (by kernel_rfl) (by kernel_rfl))
    laid (by rw [Try.params6]; intro t ht; simp only [List.mem_cons, List.not_mem_nil, or_false] at ht; rcases ht with rfl | rfl <;> exact ⟨by kernel_rfl, of_decide_eq_true (by kernel_rfl)⟩) (by kernel_rfl) Try.underlying4 rfl
    (fun ds h => by rw [Try.params6] at h; match ds, h with | [d0, d1], _ => rfl) ?_
  intro W base args ds before hval hA hlt hsz
  rw [Try.params6] at hA hval
  try rw [Try.params6] at hsz
  have hlt0 := hlt
  obtain ⟨v0, vs0, d0, ds0, p0, q0, hargs, rfl, rfl, h0, r0⟩ := trodAll_cons hA
  obtain ⟨v1, vs1, d1, ds1, p1, q1, rfl, rfl, rfl, h1, r1⟩ := trodAll_cons r0
  obtain ⟨rfl, rfl, rfl⟩ := trodAll_nil r1
  obtain rfl : args = #[v0, v1] := by cases args; simp_all
  have l0 : ∀ p ∈ p0, p.block < W.heap.size := fun x hx => hlt x (by simp [hx])
  have l1 : ∀ p ∈ p1, p.block < W.heap.size := fun x hx => hlt x (by simp [hx])
  obtain ⟨i0, rfl, rfl, rfl, wi0⟩ := open_int Try.underlying3 (hval 0 3 v0 rfl rfl) h0
  obtain ⟨zs, zg, zb, zm, zs1⟩ := open_slice_w 3 encF Fd.In Try.underlying25 (by kernel_rfl) (by omega) (hval 1 25 v1 rfl rfl) decF h1 l1 (small_of hsz (j := 1) rfl rfl)
  exact walk i0 v1 zs W zm zs1 zg

theorem over : Rows.tableKeepsRow.holds Try.pinned (OpenSpec.ofChange Rows.tableKeepsSpec) :=
  OpenClaim.holds_of_wide 6 Try.f6 rfl rfl rfl rfl rfl rfl rfl ⟨rfl, rfl, rfl, rfl, rfl⟩ rfl rfl rfl rfl rfl (by kernel_rfl) Try.func6 (by kernel_rfl)
    (of_decide_eq_true (by kernel_rfl)) (by unfold Func.isWrapper; first | (rw [if_pos (by decide +kernel)]; kernel_rfl) | (rw [if_neg (by decide +kernel)]; exact ⟨rfl, rfl⟩))
    (fun os started H enc _ => lifted os started H enc)

/-- The statement. -/
theorem proved : Rows.TableKeepsSaid :=
  over
#print axioms proved

end Go.Proofs.Ythhfnmgonjippaa.Tb.Keeps
