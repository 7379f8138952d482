/-
  FrameAgain: what is told can be written, and is told the same.
-/
import Derived.Test.YthhgnipiaohplaaFtd
import Derived.Test.YthhgnipiaohplaaFsa
import Derived.Test.YthhgnipiaohplaaLater
import Derived.Test.YthhgnipiaohplaaFmi
import Derived.Test.YthhgnipiaohplaaFww
import Derived.Test.YthhgnipiaohplaaArg
namespace Go.Proofs.Ythhgnipiaohplaa.Again
open Go.ChangeShapes Go.WideShapes Go.ChangeAt Go.RowKit
open Go.Proofs.Ythhgnipiaohplaa.B Go.Proofs.Ythhgnipiaohplaa.Fr
set_option linter.unusedVariables false
set_option linter.unusedSimpArgs false

theorem nxt_code {mx : Nat} {l : List UInt8} : (∀ c, nxt mx l = .broken c → 0 < c) ∧ (∀ c st r, nxt mx l = .fault c st r → 0 < c ∧ 0 < st) := by
  by_cases h9 : nxt mx l = .none
  · rw [h9]; exact ⟨fun c h => (by cases h), fun c st r h => (by cases h)⟩
  have h9 := nxt_len (mx := mx) (l := l) h9
  obtain ⟨a, b, c, k, fl, s1, s2, s3, s4, r0, rfl⟩ := split9 h9
  show (∀ c', nxt9 mx a b c k fl s1 s2 s3 s4 r0 = .broken c' → 0 < c') ∧ (∀ c' st r, nxt9 mx a b c k fl s1 s2 s3 s4 r0 = .fault c' st r → 0 < c' ∧ 0 < st)
  unfold nxt9
  by_cases hb : mx < threeN a b c
  · rw [if_pos hb]; exact ⟨fun c h => (by cases h; omega), fun c st r h => (by cases h)⟩
  rw [if_neg hb]
  by_cases hn : r0.length < threeN a b c
  · rw [if_pos hn]; exact ⟨fun c h => (by cases h), fun c st r h => (by cases h)⟩
  rw [if_neg hn]
  cases hs : strayB (k.toNat : Nat) ((fourN s1 s2 s3 s4 % 2147483648 : Nat) : Int) with
  | true => rw [if_pos rfl]; exact ⟨fun c h => (by cases h; omega), fun c st r h => (by cases h)⟩
  | false =>
    rw [if_neg (by simp)]
    unfold outR
    by_cases hc : (kindR k.toNat (rg0 k.toNat (fourN s1 s2 s3 s4 % 2147483648) fl (r0.take (threeN a b c)))).code = 0
    · rw [if_pos hc]; exact ⟨fun c h => (by cases h), fun c st r h => (by cases h)⟩
    rw [if_neg hc]
    cases ho : ownK k.toNat (fourN s1 s2 s3 s4 % 2147483648) (kindR k.toNat (rg0 k.toNat (fourN s1 s2 s3 s4 % 2147483648) fl (r0.take (threeN a b c)))).code with
    | true =>
      rw [if_pos rfl]
      have := ownK_pos ho hs
      exact ⟨fun c h => (by cases h), fun c st r h => (by cases h; exact ⟨by omega, this⟩)⟩
    | false => rw [if_neg (by simp)]; exact ⟨fun c h => (by cases h; omega), fun c st r h => (by cases h)⟩
/-- What is told of octets: a frame that may be, or a fault. -/
def OutOk (mx : Nat) (r : List UInt8) (n i : Nat) (o : Out) : Prop :=
  (o.is = false ∧ May o.F ∧ (bodyF o.F).length ≤ mx) ∨ (o.is = true ∧ o.F = noFm ∧ 0 < o.code ∧ (o.st = 0 → i + 1 = n ∧ r = []))
theorem outs_ok {mx : Nat} {l : List UInt8} {os r d} (h : Dr mx l os r d) : ∀ i o, os[i]? = some o → OutOk mx r os.length i o := by
  induction h with
  | none h => intro i o hi; simp at hi
  | broken h =>
    intro i o hi
    have : i < 1 := (List.getElem?_eq_some_iff.1 hi).1
    obtain rfl : i = 0 := by omega
    simp at hi; subst hi
    exact Or.inr ⟨rfl, rfl, (nxt_code.1 _ h), fun _ => ⟨rfl, rfl⟩⟩
  | @fault l c st r o r' d h k ih =>
    intro i x hi
    cases i with
    | zero =>
      simp at hi; subst hi
      obtain ⟨h1, h2⟩ := nxt_code.2 _ _ _ h
      exact Or.inr ⟨rfl, rfl, h1, fun h0 => by simp only [badO] at h0; omega⟩
    | succ i =>
      simp at hi
      rcases ih i x hi with h1 | ⟨h1, h2, h3, h4⟩
      · exact Or.inl h1
      · exact Or.inr ⟨h1, h2, h3, fun h0 => ⟨by simp; have := (h4 h0).1; omega, (h4 h0).2⟩⟩
  | @frame l F r o r' d h k ih =>
    intro i x hi
    cases i with
    | zero =>
      simp at hi; subst hi
      obtain ⟨h1, h2⟩ := nxt_may h
      exact Or.inl ⟨rfl, h1, h2⟩
    | succ i =>
      simp at hi
      rcases ih i x hi with h1 | ⟨h1, h2, h3, h4⟩
      · exact Or.inl h1
      · exact Or.inr ⟨h1, h2, h3, fun h0 => ⟨by simp; have := (h4 h0).1; omega, (h4 h0).2⟩⟩
set_option maxRecDepth 100000 in
set_option maxHeartbeats 16000000 in
theorem walk (bv : Value) (b : List UInt8) (W : World) (hb : BytesOf W bv b) :
    Calls Try.prog 7 #[bv] W fun e w' => e = .returned (.bool true) ∧ Below W.heap.size W w' := by
  obtain ⟨ba, bc, rfl, hbc, hbcm⟩ := hb.slice
  unfold maxLen at hbcm
  have HB := Lib.hid hb
  clear hb
  by_cases h3 : 30000 < b.length
  · have h3I : (30000 : Int) < (b.length : Int) := by omega
    have h3d : decide ((30000 : Int) < (b.length : Int)) = true := decide_eq_true h3I
    go_enter Try.func7, Try.ntmps7
    go_wp2_with fail
    refine (shown_any W).mono ?_; rintro e w1 ⟨rfl, c1⟩
    go_wp2_with fail
    go_ret
    exact ⟨rfl, c1.below_nil⟩
  · have h3I : (b.length : Int) ≤ 30000 := by omega
    have h3d : decide ((30000 : Int) < (b.length : Int)) = false := decide_eq_false (by omega)
    go_enter Try.func7, Try.ntmps7
    go_wp2_with fail
    refine (shown_any W).mono ?_; rintro e w1 ⟨rfl, c1⟩
    go_wp2_with fail
    refine (pnew_any (W := W) 0 w1 c1.size).mono ?_; rintro e w3 ⟨p, hv0, rfl, h2, c2, f2⟩
    have P3 := Lib.hid h2; have C3 := Lib.hid (c1.trans' c2)
    have HL3 : Hid (∀ x ∈ footP p hv0, x < w3.heap.size) := Lib.hid h2.lt
    clear h2 c1 c2 f2 h3 h3d
    go_wp2_with fail
    have PE := Lib.hid (P3.out.chg0 ((Chg.refl w3).alloc (.cells #[.slice ba b.length bc] 22)))
    have CE : Hid (Chg [] W (w3.alloc (.cells #[.slice ba b.length bc] 22))) := Lib.hid (C3.out.alloc _)
    have SE := Lib.hid (SliceOf.one (T := 22) (enc := encP) (x := (⟨.slice ba b.length bc, b⟩ : Pc)) (size := 1) rfl (cs := #[.slice ba b.length bc]) rfl w3)
    have hblk : Hid (∀ x ∈ footP p hv0, x < w3.heap.size) := HL3
    have hsz3 : Hid (∃ Z, Z = w3.heap.size) := Lib.hid ⟨_, rfl⟩
    obtain ⟨Z, hZ⟩ := hsz3.out
    have HZ := Lib.hid hZ
    rw [← hZ] at SE hblk ⊢
    clear P3 C3 hZ hsz3
    generalize w3.alloc (.cells #[.slice ba b.length bc] 22) = we at *
    refine (told_any PE.out (.slice (some ⟨Z, 0, none⟩) 1 1) [⟨.slice ba b.length bc, b⟩] SE.out (fun _ a n c he hx => by cases he; have := hblk.out _ hx; simp at this) (fun z hz => by
      simp only [List.mem_singleton] at hz
      subst hz
      refine ⟨HB.out.chg0 CE.out, fun h0 a n c he hx => ?_⟩
      cases he
      obtain ⟨b0, o0, he, hlt, _⟩ := HB.out.cell h0
      cases he
      have := PE.out.los _ hx
      simp only at this hlt; omega) (by simp [cat]; omega)).mono ?_; rintro e w4 ⟨hv4, r1, d1, ts1, ov1, fv1, he1, hs1, hd1⟩
    subst he1
    rw [show cat [(⟨.slice ba b.length bc, b⟩ : Pc)] = b by simp [cat]] at hd1
    have CW4 : Hid (Chg [] W w4) := Lib.hid (CE.out.trans hs1.c (fun x hx => Or.inr (PE.out.los x hx)))
    obtain ⟨oa1, oc1, rfl, _, _⟩ := OwnR.slice hs1.o
    obtain ⟨fa1, fc1, rfl, _, _⟩ := OwnR.slice hs1.f
    have G6 : Hid (∀ x ∈ ts1, BytesOf w4 x.pv x.F.pay ∧ SliceOf w4 x.lv 2 encS x.F.list) := Lib.hid (fun x hx => ⟨OwnB.bytes (hs1.g x hx).p, OwnR.sl encS_len (by decide) (hs1.g x hx).l⟩)
    have O6 := Lib.hid hs1.o; have A6 := Lib.hid hs1.f; have P4 := Lib.hid hs1.h
    have OK := Lib.hid (outs_ok hd1)
    have TL : Hid (ts1.length ≤ 30000) := Lib.hid (by have := hd1.left.2.2.2; rw [List.length_map] at this; omega)
    clear hs1 hd1 PE SE CE
    go_wp2_with fail
    go_loopw [8] (fun iv wr => ∃ i : Nat, i ≤ ts1.length ∧ iv = .int .i64 i ∧ Chg [] w4 wr) (fun iv _ => ts1.length - (intOf iv).toNat)
    case atStart => exact ⟨0, by omega, rfl, Chg.refl _⟩
    case round =>
      obtain ⟨i, hi, rfl, hcr⟩ := hrel
      have HCR := Lib.hid hcr
      clear hcr
      by_cases hlt : i < ts1.length
      · have hltI : (i : Int) < (ts1.length : Int) := by omega
        have tlI : (ts1.length : Int) ≤ 30000 := by have := TL.out; omega
        obtain ⟨x, hx⟩ : ∃ x, ts1[i]? = some x := ⟨_, List.getElem?_eq_getElem hlt⟩
        have gx := G6.out x (List.mem_of_getElem? hx)
        obtain ⟨b1, o1, rfl, hb1, hc1⟩ := (OwnR.sl encFr_len (by decide) O6.out).at (by omega)
        obtain ⟨b3, o3, rfl, hb3, hc3⟩ := (OwnR.sl encFa_len (by decide) A6.out).at (by omega)
        have d1 := hc1 i x hx
        have d3 := hc3 i x hx
        have ok := OK.out i x.out (by rw [List.getElem?_map, hx]; rfl)
        rw [List.length_map] at ok
        obtain ⟨F, ga, gc, la, lc, is, code, st⟩ := x
        have D1 : b1 < w4.heap.size ∧ ∀ j, j < 16 → World.cell? w4 ⟨b1, o1 + i * 16 + j, none⟩ = (encFr ⟨F, ga, gc, la, lc, is, code, st⟩)[j]? := ⟨hb1, d1⟩
        have D3 : b3 < w4.heap.size ∧ ∀ j, j < 3 → World.cell? w4 ⟨b3, o3 + i * 3 + j, none⟩ = (encFa ⟨F, ga, gc, la, lc, is, code, st⟩)[j]? := ⟨hb3, d3⟩
        have HD1 := Lib.hid D1; have HD3 := Lib.hid D3
        have gx1 : BytesOf w4 (.slice ga F.pay.length gc) F.pay := gx.1
        have gx2 : SliceOf w4 (.slice la F.list.length lc) 2 encS F.list := gx.2
        have GX1 := Lib.hid gx1; have GX2 := Lib.hid gx2
        clear d1 d3 gx gx1 gx2 hc1 hc3 hb1 hb3 hx
        have z0 : World.cell? wr ⟨b3, o3 + i * 3, none⟩ = some (.bool is) := (HCR.out.cell D3.1 (by simp) _).trans (D3.2 0 (by omega))
        have z1 : World.cell? wr ⟨b3, o3 + i * 3 + 1, none⟩ = some (.int .u32 (code : Nat)) := (HCR.out.cell D3.1 (by simp) _).trans (D3.2 1 (by omega))
        have z2 : World.cell? wr ⟨b3, o3 + i * 3 + 2, none⟩ = some (.int .i64 (st : Nat)) := (HCR.out.cell D3.1 (by simp) _).trans (D3.2 2 (by omega))
        clear D1 D3
        rcases ok with ⟨h1, h2, h3⟩ | ⟨h1, h2, h3, h4⟩
        · simp only [Tv.out] at h1 h2 h3
          subst h1
          have hm0 : mxP 0 = 16384 := by unfold mxP; omega
          rw [hm0] at h3
          have x0 : World.cell? wr ⟨b1, o1 + i * 16, none⟩ = some (.int .i64 F.kind) := ((HCR.out).cell HD1.out.1 (by simp) _).trans (HD1.out.2 0 (by omega))
          have x1 : World.cell? wr ⟨b1, o1 + i * 16 + 1, none⟩ = some (.int .i64 F.stream) := ((HCR.out).cell HD1.out.1 (by simp) _).trans (HD1.out.2 1 (by omega))
          have x2 : World.cell? wr ⟨b1, o1 + i * 16 + 2, none⟩ = some (.bool F.fin) := ((HCR.out).cell HD1.out.1 (by simp) _).trans (HD1.out.2 2 (by omega))
          have x3 : World.cell? wr ⟨b1, o1 + i * 16 + 3, none⟩ = some (.bool F.eh) := ((HCR.out).cell HD1.out.1 (by simp) _).trans (HD1.out.2 3 (by omega))
          have x4 : World.cell? wr ⟨b1, o1 + i * 16 + 4, none⟩ = some (.bool F.ack) := ((HCR.out).cell HD1.out.1 (by simp) _).trans (HD1.out.2 4 (by omega))
          have x5 : World.cell? wr ⟨b1, o1 + i * 16 + 5, none⟩ = some (.bool F.prio) := ((HCR.out).cell HD1.out.1 (by simp) _).trans (HD1.out.2 5 (by omega))
          have x6 : World.cell? wr ⟨b1, o1 + i * 16 + 6, none⟩ = some (.slice ga F.pay.length gc) := ((HCR.out).cell HD1.out.1 (by simp) _).trans (HD1.out.2 6 (by omega))
          have x7 : World.cell? wr ⟨b1, o1 + i * 16 + 7, none⟩ = some (.int .i64 F.flags) := ((HCR.out).cell HD1.out.1 (by simp) _).trans (HD1.out.2 7 (by omega))
          have x8 : World.cell? wr ⟨b1, o1 + i * 16 + 8, none⟩ = some (.int .i64 F.pad) := ((HCR.out).cell HD1.out.1 (by simp) _).trans (HD1.out.2 8 (by omega))
          have x9 : World.cell? wr ⟨b1, o1 + i * 16 + 9, none⟩ = some (.int .i64 F.depend) := ((HCR.out).cell HD1.out.1 (by simp) _).trans (HD1.out.2 9 (by omega))
          have xa : World.cell? wr ⟨b1, o1 + i * 16 + 10, none⟩ = some (.bool F.excl) := ((HCR.out).cell HD1.out.1 (by simp) _).trans (HD1.out.2 10 (by omega))
          have xb : World.cell? wr ⟨b1, o1 + i * 16 + 11, none⟩ = some (.int .i64 F.weight) := ((HCR.out).cell HD1.out.1 (by simp) _).trans (HD1.out.2 11 (by omega))
          have xc : World.cell? wr ⟨b1, o1 + i * 16 + 12, none⟩ = some (.int .u32 F.code) := ((HCR.out).cell HD1.out.1 (by simp) _).trans (HD1.out.2 12 (by omega))
          have xd : World.cell? wr ⟨b1, o1 + i * 16 + 13, none⟩ = some (.slice la F.list.length lc) := ((HCR.out).cell HD1.out.1 (by simp) _).trans (HD1.out.2 13 (by omega))
          have xe : World.cell? wr ⟨b1, o1 + i * 16 + 14, none⟩ = some (.int .i64 F.last) := ((HCR.out).cell HD1.out.1 (by simp) _).trans (HD1.out.2 14 (by omega))
          have xf : World.cell? wr ⟨b1, o1 + i * 16 + 15, none⟩ = some (.int .i64 F.inc) := ((HCR.out).cell HD1.out.1 (by simp) _).trans (HD1.out.2 15 (by omega))
          have GB := Lib.hid (GX1.out.chg0 HCR.out); have GS := Lib.hid (GX2.out.chg0 HCR.out)
          have HM := Lib.hid h2
          have h3' : Hid ((bodyF F).length ≤ 16384) := Lib.hid h3
          have WR := write_any h2 ga gc la lc wr GB.out GS.out (by omega)
          clear h2 h3
          go_wp2_with fail
          refine WR.mono ?_; rintro e w5 ⟨rv, rfl, o5, c5⟩
          obtain ⟨ra, rc, rfl⟩ := o5.slice
          obtain ⟨L, hL⟩ : ∃ L, L = (wrO F).length := ⟨_, rfl⟩
          have hL2 : L ≤ 16393 := by rw [hL, wrO_len]; have := h3'.out; omega
          rw [← hL] at o5 ⊢
          have HL := Lib.hid hL
          have O5 := Lib.hid o5; have C5 := Lib.hid (HCR.out.trans' c5)
          have hLI : (L : Int) ≤ 16393 := by omega
          clear o5 c5 hL WR x0 x1 x2 x3 x4 x5 x6 x7 x8 x9 xa xb xc xd xe xf z0 z1 z2
          go_wp2_with fail
          refine (pnew_any (W := W) 0 w5 (Nat.le_trans CW4.out.size C5.out.size)).mono ?_; rintro e w6 ⟨q, hvq, rfl, h6, c6, f6⟩
          have Q6 := Lib.hid h6; have C6 := Lib.hid (C5.out.trans' c6)
          have O6' := Lib.hid (OwnB.chg O5.out c6 (fun _ _ => by simp)); have F6 := Lib.hid f6
          have S56 := Lib.hid c6.size; have S46 := Lib.hid C5.out.size
          clear h6 c6 f6
          go_wp2_with fail
          refine (pfeed_any Q6.out _ (wrO F) (OwnB.bytes O6'.out) (by simp) (by rw [← HL.out]; omega)).mono ?_; rintro e w7 ⟨hv7, rfl, h7, c7, k7⟩
          have hfn : feedN (mxP 0) false [] (wrO F) = L := by
            unfold feedN
            rw [hm0, if_neg (by simp), ← HL.out]
            simp; omega
          rw [hfn, List.nil_append, HL.out, List.take_length] at h7
          rw [hfn]
          have C7 : Hid (Chg [] w4 w7) := Lib.hid (C6.out.trans c7 (fun y hy => Or.inr (by have := F6.out y hy; have := S46.out; omega)))
          have Q7 := Lib.hid h7
          have S67 := Lib.hid c7.size
          have K7 := Lib.hid k7
          clear h7 c7 k7
          go_wp2_with fail
          have NX := next_any Q7.out (by rw [← HL.out]; omega)
          have hnx := nxt_wr HM.out (mx := mxP 0) (by rw [hm0]; exact h3'.out) (by rw [hm0]; omega) []
          rw [List.append_nil] at hnx
          rw [hnx] at NX
          clear hnx
          refine NX.mono ?_; rintro e w8 ⟨hv8, pv8, lv8, rfl, h8, c8, o8, op8, os8, a8⟩
          have C8 : Hid (Chg [] w4 w8) := Lib.hid (C7.out.trans c8 (fun y hy => Or.inr (by simp at hy; subst hy; have := F6.out y (by simp [footP]); have := S46.out; omega)))
          have Q8 := Lib.hid h8; have OP8 := Lib.hid op8; have OS8 := Lib.hid os8
          clear h8 c8 o8 op8 os8 a8 NX
          obtain ⟨pa, pc, rfl, _, _⟩ := (OwnB.bytes OP8.out).slice
          obtain ⟨sa, sc, rfl, _, _⟩ := OwnR.slice OS8.out
          have b1 : At ((w8.alloc (.cells noF 27)).alloc (.cells noX 46)) w8.heap.size (.cells noF 27) := (At.new w8 _).alloc _
          have b2 : At ((w8.alloc (.cells noF 27)).alloc (.cells noX 46)) (w8.heap.size + 1) (.cells noX 46) := At.new' (w := w8.alloc (.cells noF 27)) (by simp)
          go_wp2_with (refine store_whole rfl 27 _ _ rfl w8.heap.size _ _ 27 rfl rfl b1 infoFr rfl (by simp [Value.oneCell', Fm.mem]) ?_)
          intro w31 s31 c31
          have b231 := At.chg b2 c31 (by simp)
          go_wp2_with (refine store_whole rfl 46 _ _ rfl (w8.heap.size + 1) _ _ 46 rfl rfl b231 infoFa rfl (by simp [Value.oneCell']) ?_)
          intro w32 s32 c32
          have S31 := Lib.hid (s31.chg c32 (by simp)); have S32 := Lib.hid s32
          have C32 : Hid (Chg [] w8 w32) := Lib.hid ((((Chg.refl w8).alloc _).alloc _).trans ((c31.mono (m := [w8.heap.size, w8.heap.size + 1]) (by simp)).trans' (c32.mono (by simp))) (fun x hx => Or.inr (by simp at hx; omega)))
          clear b1 b2 b231 s31 c31 c32 s32
          have hB1 := S31.out.lt
          have hB2 := S32.out.lt
          have C9 := Lib.hid (C8.out.trans' C32.out)
          have D1 : b1 < w32.heap.size ∧ ∀ j, j < 16 → World.cell? w32 ⟨b1, o1 + i * 16 + j, none⟩ = (encFr ⟨F, ga, gc, la, lc, false, code, st⟩)[j]? := ⟨Nat.lt_of_lt_of_le HD1.out.1 C9.out.size, fun j hj => by rw [C9.out.cell HD1.out.1 (by simp)]; exact HD1.out.2 j hj⟩
          have x0 : ∀ q : Later [] w32, World.cell? q.world ⟨b1, o1 + i * 16, none⟩ = some (.int .i64 (F).kind) := fun q => (q.chg.cell (D1).1 (by simp) _).trans ((D1).2 0 (by omega))
          have x1 : ∀ q : Later [] w32, World.cell? q.world ⟨b1, o1 + i * 16 + 1, none⟩ = some (.int .i64 (F).stream) := fun q => (q.chg.cell (D1).1 (by simp) _).trans ((D1).2 1 (by omega))
          have x2 : ∀ q : Later [] w32, World.cell? q.world ⟨b1, o1 + i * 16 + 2, none⟩ = some (.bool (F).fin) := fun q => (q.chg.cell (D1).1 (by simp) _).trans ((D1).2 2 (by omega))
          have x3 : ∀ q : Later [] w32, World.cell? q.world ⟨b1, o1 + i * 16 + 3, none⟩ = some (.bool (F).eh) := fun q => (q.chg.cell (D1).1 (by simp) _).trans ((D1).2 3 (by omega))
          have x4 : ∀ q : Later [] w32, World.cell? q.world ⟨b1, o1 + i * 16 + 4, none⟩ = some (.bool (F).ack) := fun q => (q.chg.cell (D1).1 (by simp) _).trans ((D1).2 4 (by omega))
          have x5 : ∀ q : Later [] w32, World.cell? q.world ⟨b1, o1 + i * 16 + 5, none⟩ = some (.bool (F).prio) := fun q => (q.chg.cell (D1).1 (by simp) _).trans ((D1).2 5 (by omega))
          have x6 : ∀ q : Later [] w32, World.cell? q.world ⟨b1, o1 + i * 16 + 6, none⟩ = some (.slice ga F.pay.length gc) := fun q => (q.chg.cell (D1).1 (by simp) _).trans ((D1).2 6 (by omega))
          have x7 : ∀ q : Later [] w32, World.cell? q.world ⟨b1, o1 + i * 16 + 7, none⟩ = some (.int .i64 (F).flags) := fun q => (q.chg.cell (D1).1 (by simp) _).trans ((D1).2 7 (by omega))
          have x8 : ∀ q : Later [] w32, World.cell? q.world ⟨b1, o1 + i * 16 + 8, none⟩ = some (.int .i64 (F).pad) := fun q => (q.chg.cell (D1).1 (by simp) _).trans ((D1).2 8 (by omega))
          have x9 : ∀ q : Later [] w32, World.cell? q.world ⟨b1, o1 + i * 16 + 9, none⟩ = some (.int .i64 (F).depend) := fun q => (q.chg.cell (D1).1 (by simp) _).trans ((D1).2 9 (by omega))
          have xa : ∀ q : Later [] w32, World.cell? q.world ⟨b1, o1 + i * 16 + 10, none⟩ = some (.bool (F).excl) := fun q => (q.chg.cell (D1).1 (by simp) _).trans ((D1).2 10 (by omega))
          have xb : ∀ q : Later [] w32, World.cell? q.world ⟨b1, o1 + i * 16 + 11, none⟩ = some (.int .i64 (F).weight) := fun q => (q.chg.cell (D1).1 (by simp) _).trans ((D1).2 11 (by omega))
          have xc : ∀ q : Later [] w32, World.cell? q.world ⟨b1, o1 + i * 16 + 12, none⟩ = some (.int .u32 (F).code) := fun q => (q.chg.cell (D1).1 (by simp) _).trans ((D1).2 12 (by omega))
          have xd : ∀ q : Later [] w32, World.cell? q.world ⟨b1, o1 + i * 16 + 13, none⟩ = some (.slice la F.list.length lc) := fun q => (q.chg.cell (D1).1 (by simp) _).trans ((D1).2 13 (by omega))
          have xe : ∀ q : Later [] w32, World.cell? q.world ⟨b1, o1 + i * 16 + 14, none⟩ = some (.int .i64 (F).last) := fun q => (q.chg.cell (D1).1 (by simp) _).trans ((D1).2 14 (by omega))
          have xf : ∀ q : Later [] w32, World.cell? q.world ⟨b1, o1 + i * 16 + 15, none⟩ = some (.int .i64 (F).inc) := fun q => (q.chg.cell (D1).1 (by simp) _).trans ((D1).2 15 (by omega))
          have bx0 : ∀ q : Later [] w32, World.cell? q.world ⟨w8.heap.size, 0, none⟩ = some ((.int .i64 F.kind)) := fun q => (q.chg.cell hB1 (by simp) _).trans (S31.out.cell rfl)
          have bx1 : ∀ q : Later [] w32, World.cell? q.world ⟨w8.heap.size, 1, none⟩ = some ((.int .i64 F.stream)) := fun q => (q.chg.cell hB1 (by simp) _).trans (S31.out.cell rfl)
          have bx2 : ∀ q : Later [] w32, World.cell? q.world ⟨w8.heap.size, 2, none⟩ = some ((.bool F.fin)) := fun q => (q.chg.cell hB1 (by simp) _).trans (S31.out.cell rfl)
          have bx3 : ∀ q : Later [] w32, World.cell? q.world ⟨w8.heap.size, 3, none⟩ = some ((.bool F.eh)) := fun q => (q.chg.cell hB1 (by simp) _).trans (S31.out.cell rfl)
          have bx4 : ∀ q : Later [] w32, World.cell? q.world ⟨w8.heap.size, 4, none⟩ = some ((.bool F.ack)) := fun q => (q.chg.cell hB1 (by simp) _).trans (S31.out.cell rfl)
          have bx5 : ∀ q : Later [] w32, World.cell? q.world ⟨w8.heap.size, 5, none⟩ = some ((.bool F.prio)) := fun q => (q.chg.cell hB1 (by simp) _).trans (S31.out.cell rfl)
          have bx6 : ∀ q : Later [] w32, World.cell? q.world ⟨w8.heap.size, 6, none⟩ = some (.slice pa F.pay.length pc) := fun q => (q.chg.cell hB1 (by simp) _).trans (S31.out.cell rfl)
          have bx7 : ∀ q : Later [] w32, World.cell? q.world ⟨w8.heap.size, 7, none⟩ = some ((.int .i64 F.flags)) := fun q => (q.chg.cell hB1 (by simp) _).trans (S31.out.cell rfl)
          have bx8 : ∀ q : Later [] w32, World.cell? q.world ⟨w8.heap.size, 8, none⟩ = some ((.int .i64 F.pad)) := fun q => (q.chg.cell hB1 (by simp) _).trans (S31.out.cell rfl)
          have bx9 : ∀ q : Later [] w32, World.cell? q.world ⟨w8.heap.size, 9, none⟩ = some ((.int .i64 F.depend)) := fun q => (q.chg.cell hB1 (by simp) _).trans (S31.out.cell rfl)
          have bxa : ∀ q : Later [] w32, World.cell? q.world ⟨w8.heap.size, 10, none⟩ = some ((.bool F.excl)) := fun q => (q.chg.cell hB1 (by simp) _).trans (S31.out.cell rfl)
          have bxb : ∀ q : Later [] w32, World.cell? q.world ⟨w8.heap.size, 11, none⟩ = some ((.int .i64 F.weight)) := fun q => (q.chg.cell hB1 (by simp) _).trans (S31.out.cell rfl)
          have bxc : ∀ q : Later [] w32, World.cell? q.world ⟨w8.heap.size, 12, none⟩ = some ((.int .u32 F.code)) := fun q => (q.chg.cell hB1 (by simp) _).trans (S31.out.cell rfl)
          have bxd : ∀ q : Later [] w32, World.cell? q.world ⟨w8.heap.size, 13, none⟩ = some (.slice sa F.list.length sc) := fun q => (q.chg.cell hB1 (by simp) _).trans (S31.out.cell rfl)
          have bxe : ∀ q : Later [] w32, World.cell? q.world ⟨w8.heap.size, 14, none⟩ = some ((.int .i64 F.last)) := fun q => (q.chg.cell hB1 (by simp) _).trans (S31.out.cell rfl)
          have bxf : ∀ q : Later [] w32, World.cell? q.world ⟨w8.heap.size, 15, none⟩ = some ((.int .i64 F.inc)) := fun q => (q.chg.cell hB1 (by simp) _).trans (S31.out.cell rfl)
          have SM : Hid (∀ q : Later [] w32, Calls Try.prog 16 #[.agg (fcs (F.mem (.slice pa F.pay.length pc) (.slice sa F.list.length sc))), .agg (fcs (F.mem (.slice ga F.pay.length gc) (.slice la F.list.length lc)))] q.world fun e w' => e = .returned (.bool true) ∧ Chg [] q.world w') := Lib.hid (fun q => same_any F _ _ _ _ (((OwnB.bytes OP8.out).chg0 C32.out).chg0 q.chg) ((GX1.out.chg0 C9.out).chg0 q.chg) (((OwnR.sl encS_len (by decide) OS8.out).chg0 C32.out).chg0 q.chg) ((GX2.out.chg0 C9.out).chg0 q.chg))
          have y0 : ∀ q : Later [] w32, World.cell? q.world ⟨w8.heap.size + 1, 0, none⟩ = some (.bool false) := fun q => (q.chg.cell hB2 (by simp) _).trans (S32.out.cell rfl)
          have HY0 := Lib.hid y0
          clear y0 D1
          go_wp2_with fail
          refine wp_region_later (S := []) (by kernel_rfl) (by kernel_rfl) ?_
          repeat (go_big_quiet_step (first | (go_at_call 16; exact Calls.later (SM.out _))))
          refine wpQuiet_nil ?_
          intro _ hw'
          obtain ⟨xq, rfl⟩ := hw'
          have hcq := xq.chg
          have y0 := HY0.out xq
          generalize xq.world = w9 at *
          have Q9 := Lib.hid ((Q8.out.chg0 C32.out).chg0 hcq)
          have C10 := Lib.hid (C9.out.trans' hcq)
          clear hcq x0 x1 x2 x3 x4 x5 x6 x7 x8 x9 xa xb xc xd xe xf bx0 bx1 bx2 bx3 bx4 bx5 bx6 bx7 bx8 bx9 bxa bxb bxc bxd bxe bxf SM HY0
          go_wp2_with fail
          refine (psize_any Q9.out).mono ?_; rintro e w10 ⟨rfl, rfl⟩
          go_wp2_with fail
          go_roundw
          case rel => exact ⟨i + 1, by omega, by go_num, C10.out⟩
          case measure => simp [intOf]; omega
        · simp only [Tv.out] at h1 h2 h3 h4
          subst h1
          have HF := Lib.hid h2
          clear h2
          have x0 : World.cell? wr ⟨b1, o1 + i * 16, none⟩ = some (.int .i64 F.kind) := ((HCR.out).cell HD1.out.1 (by simp) _).trans (HD1.out.2 0 (by omega))
          have x1 : World.cell? wr ⟨b1, o1 + i * 16 + 1, none⟩ = some (.int .i64 F.stream) := ((HCR.out).cell HD1.out.1 (by simp) _).trans (HD1.out.2 1 (by omega))
          have x2 : World.cell? wr ⟨b1, o1 + i * 16 + 2, none⟩ = some (.bool F.fin) := ((HCR.out).cell HD1.out.1 (by simp) _).trans (HD1.out.2 2 (by omega))
          have x3 : World.cell? wr ⟨b1, o1 + i * 16 + 3, none⟩ = some (.bool F.eh) := ((HCR.out).cell HD1.out.1 (by simp) _).trans (HD1.out.2 3 (by omega))
          have x4 : World.cell? wr ⟨b1, o1 + i * 16 + 4, none⟩ = some (.bool F.ack) := ((HCR.out).cell HD1.out.1 (by simp) _).trans (HD1.out.2 4 (by omega))
          have x5 : World.cell? wr ⟨b1, o1 + i * 16 + 5, none⟩ = some (.bool F.prio) := ((HCR.out).cell HD1.out.1 (by simp) _).trans (HD1.out.2 5 (by omega))
          have x6 : World.cell? wr ⟨b1, o1 + i * 16 + 6, none⟩ = some (.slice ga F.pay.length gc) := ((HCR.out).cell HD1.out.1 (by simp) _).trans (HD1.out.2 6 (by omega))
          have x7 : World.cell? wr ⟨b1, o1 + i * 16 + 7, none⟩ = some (.int .i64 F.flags) := ((HCR.out).cell HD1.out.1 (by simp) _).trans (HD1.out.2 7 (by omega))
          have x8 : World.cell? wr ⟨b1, o1 + i * 16 + 8, none⟩ = some (.int .i64 F.pad) := ((HCR.out).cell HD1.out.1 (by simp) _).trans (HD1.out.2 8 (by omega))
          have x9 : World.cell? wr ⟨b1, o1 + i * 16 + 9, none⟩ = some (.int .i64 F.depend) := ((HCR.out).cell HD1.out.1 (by simp) _).trans (HD1.out.2 9 (by omega))
          have xa : World.cell? wr ⟨b1, o1 + i * 16 + 10, none⟩ = some (.bool F.excl) := ((HCR.out).cell HD1.out.1 (by simp) _).trans (HD1.out.2 10 (by omega))
          have xb : World.cell? wr ⟨b1, o1 + i * 16 + 11, none⟩ = some (.int .i64 F.weight) := ((HCR.out).cell HD1.out.1 (by simp) _).trans (HD1.out.2 11 (by omega))
          have xc : World.cell? wr ⟨b1, o1 + i * 16 + 12, none⟩ = some (.int .u32 F.code) := ((HCR.out).cell HD1.out.1 (by simp) _).trans (HD1.out.2 12 (by omega))
          have xd : World.cell? wr ⟨b1, o1 + i * 16 + 13, none⟩ = some (.slice la F.list.length lc) := ((HCR.out).cell HD1.out.1 (by simp) _).trans (HD1.out.2 13 (by omega))
          have xe : World.cell? wr ⟨b1, o1 + i * 16 + 14, none⟩ = some (.int .i64 F.last) := ((HCR.out).cell HD1.out.1 (by simp) _).trans (HD1.out.2 14 (by omega))
          have xf : World.cell? wr ⟨b1, o1 + i * 16 + 15, none⟩ = some (.int .i64 F.inc) := ((HCR.out).cell HD1.out.1 (by simp) _).trans (HD1.out.2 15 (by omega))
          have hcd : ((code : Int) == 0) = false := by simp; omega
          have GB := Lib.hid (GX1.out.chg0 HCR.out); have GS := Lib.hid (GX2.out.chg0 HCR.out)
          have H4 := Lib.hid h4
          clear h3 h4 GX1 GX2
          go_wp2_with fail
          have SM := same_any F _ _ (.slice none 0 0) (.slice none 0 0) GB.out (by rw [HF.out]; exact OwnB.bytes (OwnB.nil wr 0)) GS.out (by rw [HF.out]; exact OwnR.sl encS_len (by decide) (OwnR.nil (e := 50) wr 0))
          have e2 : fcs (F.mem (.slice none 0 0) (.slice none 0 0)) = noF := by rw [HF.out]; rfl
          rw [e2] at SM
          clear e2
          refine SM.mono ?_; rintro e w5 ⟨rfl, c5⟩
          have C5 := Lib.hid (HCR.out.trans' c5)
          have y1 : World.cell? w5 ⟨b3, o3 + i * 3 + 1, none⟩ = some (.int .u32 (code : Nat)) := (C5.out.cell HD3.out.1 (by simp) _).trans (HD3.out.2 1 (by omega))
          have y2 : World.cell? w5 ⟨b3, o3 + i * 3 + 2, none⟩ = some (.int .i64 (st : Nat)) := (C5.out.cell HD3.out.1 (by simp) _).trans (HD3.out.2 2 (by omega))
          clear c5 z0 z1 z2 x0 x1 x2 x3 x4 x5 x6 x7 x8 x9 xa xb xc xd xe xf
          rcases Nat.eq_zero_or_pos st with hst | hst
          · subst hst
            obtain ⟨hi1, hr1⟩ := H4.out rfl
            subst hr1
            have hli : (ts1.length : Int) - 1 = (i : Int) := by omega
            go_wp2_with fail
            refine (psize_any (P4.out.chg0 C5.out)).mono ?_; rintro e w6 ⟨rfl, rfl⟩
            go_wp2_with fail
            go_roundw
            case rel => exact ⟨i + 1, by omega, by go_num, C5.out⟩
            case measure => simp [intOf]; omega
          · have hs0 : ((st : Int) == 0) = false := by simp; omega
            go_wp2_with fail
            go_roundw
            case rel => exact ⟨i + 1, by omega, by go_num, C5.out⟩
            case measure => simp [intOf]; omega
      · have hltI : ¬ (i : Int) < (ts1.length : Int) := by omega
        go_wp2_with fail
        go_ret
        exact ⟨rfl, (CW4.out.trans' HCR.out).below_nil⟩

/-! ### The row's step -/
theorem own : ownKnob Try.prog.godebug = none := by kernel_rfl
theorem laid : laidOutB Try.prog = true := by kernel_rfl

set_option maxRecDepth 100000 in
theorem lifted (os : Os) (started : os.Started) (H : Type) (enc : TypeId × Value → H) :
    ReturnsInHanded {} Try.checked os 7 .any (Rows.frameAgainSpec.pre6 enc Try.prog Try.f7 Rows.frameAgainRow.domain false) (Rows.frameAgainSpec.post enc Try.prog Try.f7 false true false false) := by
  refine lift_law (C := Try.checked) (tb := 4) own started (by kernel_rfl) Try.func7
    (ChangeSpec.witness6 (enc := enc) (C := Try.checked) false ⟨#[], #[.slice none 0 0], []⟩ 8 (by kernel_rfl) (by kernel_rfl) (by kernel_rfl) (by kernel_rfl))
    laid (by rw [Try.params7]; intro t ht; simp only [List.mem_cons, List.not_mem_nil, or_false] at ht; rcases ht with rfl <;> exact ⟨by kernel_rfl, of_decide_eq_true (by kernel_rfl)⟩) (by kernel_rfl) Try.underlying4 rfl
    (fun ds h => by rw [Try.params7] at h; match ds, h with | [d0], _ => rfl) ?_
  intro W base args ds before hval hA hlt hsz
  rw [Try.params7] at hA hval
  try rw [Try.params7] at hsz
  have hlt0 := hlt
  obtain ⟨v0, vs0, d0, ds0, p0, q0, hargs, rfl, rfl, h0, r0⟩ := trodAll_cons hA
  obtain ⟨rfl, rfl, rfl⟩ := trodAll_nil r0
  obtain rfl : args = #[v0] := by cases args; simp_all
  have l0 : ∀ p ∈ p0, p.block < W.heap.size := fun x hx => hlt x (by simp [hx])
  obtain ⟨l0, m0, s0⟩ := open_bytes (hval 0 22 v0 rfl rfl) h0 l0
  exact walk v0 l0 W s0

theorem over : Rows.frameAgainRow.holds Try.pinned (OpenSpec.ofChange Rows.frameAgainSpec) :=
  OpenClaim.holds_of_wide 7 Try.f7 rfl rfl rfl rfl rfl rfl rfl ⟨rfl, rfl, rfl, rfl, rfl⟩ rfl rfl rfl rfl rfl (by kernel_rfl) Try.func7 (by kernel_rfl)
    (of_decide_eq_true (by kernel_rfl)) (by unfold Func.isWrapper; first | (rw [if_pos (by decide +kernel)]; kernel_rfl) | (rw [if_neg (by decide +kernel)]; exact ⟨rfl, rfl⟩))
    (fun os started H enc _ => lifted os started H enc)

/-- The statement. -/
theorem proved : Rows.FrameAgainSaid :=
  over
#print axioms proved

end Go.Proofs.Ythhgnipiaohplaa.Again
