/-
  FrameBack: frames that are written are told as they were, in whatever pieces they come.
-/
import Derived.Test.YthhgnipiaohplaaFpi
import Derived.Test.YthhgnipiaohplaaFsa
import Derived.Test.YthhgnipiaohplaaFsm
import Derived.Test.YthhgnipiaohplaaLater
import Derived.Test.YthhgnipiaohplaaFmi
import Derived.Test.YthhgnipiaohplaaFww
import Derived.Test.YthhgnipiaohplaaFwb
import Derived.Test.YthhgnipiaohplaaFfa
namespace Go.Proofs.Ythhgnipiaohplaa.Back
open Go.ChangeShapes Go.WideShapes Go.ChangeAt Go.RowKit
open Go.Proofs.Ythhgnipiaohplaa.B Go.Proofs.Ythhgnipiaohplaa.Fr
set_option linter.unusedVariables false
set_option linter.unusedSimpArgs false

theorem slice_map {α β : Type} {w : World} {v : Value} {s : Nat} {enc : α → List Value} {enc' : β → List Value} {f : α → β} {l : List α} (h : SliceOf w v s enc l) (he : ∀ x, enc' (f x) = enc x) : SliceOf w v s enc' (l.map f) := by
  obtain ⟨a, c, rfl, h1, h2, h3⟩ := h
  refine ⟨a, c, by rw [List.length_map], by rw [List.length_map]; exact h1, h2, fun h0 => ?_⟩
  rw [List.length_map] at h0
  obtain ⟨b, off, rfl, hb, hc⟩ := h3 h0
  refine ⟨b, off, rfl, hb, fun i z hz j hj => ?_⟩
  rw [List.getElem?_map] at hz
  obtain ⟨y, hy, rfl⟩ := Option.map_eq_some_iff.1 hz
  rw [he]; exact hc i y hy j hj
theorem own_blk {α : Type} {e : TypeId} {s : Nat} {enc : α → List Value} {w : World} {base n c : Nat} {a : Addr} {l : List α} (h : OwnR e s enc w base (.slice (some a) n c) l) (h0 : 0 < l.length) : base ≤ a.block := by
  obtain ⟨a', cap, he, _, _, hr⟩ := owns_val h
  obtain ⟨g, h1, h2, _⟩ := hr h0
  cases he
  cases h1
  exact (World.ownsRow.lt h g h2).1
theorem catS_mem {ps : List Ps} {z : Ps} (h : z ∈ ps) : z.b.length ≤ (catS ps).length := by
  obtain ⟨s, t, rfl⟩ := List.append_of_mem h
  unfold catS
  simp; omega

theorem dr_all {mx : Nat} (hm : mx ≤ 16777215) : ∀ (l : List Fm), (∀ F ∈ l, May F ∧ (bodyF F).length ≤ mx) → Dr mx (l.flatMap wrO) (l.map okO) [] false
  | [], _ => Dr.none rfl
  | F :: l, h => by
    rw [List.flatMap_cons, List.map_cons]
    exact Dr.frame (nxt_wr (h F (by simp)).1 (h F (by simp)).2 hm _) (dr_all hm l (fun G hG => h G (by simp [hG])))
theorem body_small {F : Fm} (h : May F) (hp : F.pay.length ≤ 3000) (hl : F.list.length ≤ 500) : (bodyF F).length ≤ 3300 := by
  have key : ∀ (m : List UInt8), midF F = m → m.length ≤ 10 → (bodyF F).length ≤ 3300 := by
    intro m hm h10
    have h1 : (padH F.pad.toNat).length ≤ 1 := by unfold padH; split <;> simp
    have h2 : (padT F.pad.toNat).length = F.pad.toNat - 1 := by unfold padT; simp
    have h3 := h.rng.1
    unfold bodyF
    rw [hm]
    simp only [List.length_append]
    omega
  cases h with
  | sets ack l h1 h2 =>
    have e : bodyF ⟨4, 0, false, false, ack, false, [], 0, 0, 0, false, 0, 0, l, 0, 0⟩ = setO l := by simp [bodyF, midF, padH, padT]
    rw [e, setO_len]
    simp only at hl
    omega
  | headp st pad d wt fin eh x pay h1 h2 h3 h4 => exact key (prioO d x wt) (by simp [midF]) (by rw [prioO_len]; omega)
  | prio st d wt x h1 h3 h4 => exact key (prioO d x wt) (by simp [midF]) (by rw [prioO_len]; omega)
  | reset st c h1 h2 => exact key (be c 4) (by simp [midF]) (by rw [be_len]; omega)
  | prom st pad last eh pay h1 h2 h3 => exact key (be last 4) (by simp [midF]) (by rw [be_len]; omega)
  | away last c pay h1 h2 => exact key (be last 4 ++ be c 4) (by simp [midF]) (by rw [List.length_append, be_len, be_len]; omega)
  | wind st inc h1 h2 => exact key (be inc 4) (by simp [midF]) (by rw [be_len]; omega)
  | other k st fl pay h0 h1 h2 =>
    refine key [] ?_ (by simp)
    unfold midF
    rw [if_neg (by dsimp only; omega), if_neg (by dsimp only; omega), if_neg (by dsimp only; omega), if_neg (by dsimp only; omega), if_neg (by dsimp only; omega), if_neg (by dsimp only; omega), if_neg (by dsimp only; omega)]
  | _ => exact key [] (by simp [midF]) (by simp)
theorem smF_wf {F : Fm} (h : F.Wf) : (smF F).Wf := ⟨h.1, fun s hs => h.2 s (List.mem_of_mem_take hs)⟩
theorem all_len {l : List Tv} (h : ∀ x ∈ l, May x.F ∧ (bodyF x.F).length ≤ 3300) : ((l.map (·.F)).flatMap wrO).length ≤ 3309 * l.length := by
  induction l with
  | nil => simp
  | cons x l ih =>
    rw [List.map_cons, List.flatMap_cons, List.length_append, wrO_len, List.length_cons]
    have h1 := (h x (by simp)).2
    have h2 := ih (fun y hy => h y (by simp [hy]))
    omega
theorem outs_eq {ts us : List Tv} (h : ts.map Tv.out = (us.map (·.F)).map okO) {i : Nat} {x y : Tv} (hx : ts[i]? = some x) (hy : us[i]? = some y) : x.F = y.F ∧ x.is = false := by
  have h1 : (ts.map Tv.out)[i]? = some x.out := by rw [List.getElem?_map, hx]; rfl
  have h2 : ((us.map (·.F)).map okO)[i]? = some (okO y.F) := by rw [List.getElem?_map, List.getElem?_map, hy]; rfl
  rw [h, h2] at h1
  have h3 := Option.some.inj h1
  unfold Tv.out okO at h3
  injection h3 with a b c d
  exact ⟨a.symm, b.symm⟩
/-- What stands in the two rows while frames are written. -/
structure BS (w0 : World) (av wv : Value) (A : List UInt8) (ts : List Tv) (w : World) : Prop where
  e : A = (ts.map (·.F)).flatMap wrO
  o : OwnB w w0.heap.size av A
  r : OwnR 27 16 encFr w w0.heap.size wv ts
  m : ∀ x ∈ ts, May x.F ∧ (bodyF x.F).length ≤ 3300
  g : ∀ x ∈ ts, Fr.Good w w0.heap.size av.ownBlock.toList x
  c : Chg [] w0 w
theorem BS.chg0 {w0 : World} {av wv : Value} {A : List UInt8} {ts : List Tv} {w w' : World} (h : BS w0 av wv A ts w) (hc : Chg [] w w') : BS w0 av wv A ts w' :=
  ⟨h.e, OwnB.chg0' h.o hc, h.r.chg0 hc, h.m, fun x hx => (h.g x hx).chg0 hc, h.c.trans' hc⟩
theorem good_fp {w : World} {b : Nat} {fp fp' : List Nat} {x : Tv} (h : Fr.Good w b fp x) (hf : ∀ g ∈ fp', g ∈ fp ∨ w.heap.size ≤ g) : Fr.Good w b fp' x :=
  ⟨h.p, h.l, fun g hg hx => (hf g hx).elim (h.a g hg) (fun h1 => by have := (World.ownsRow.lt h.p g (Option.mem_toList.1 hg)).2; omega)⟩
theorem BS.pushA {w0 : World} {av av' wv : Value} {A : List UInt8} {ts : List Tv} {w w' : World} (h : BS w0 av wv A ts w) {x : Tv} (hm : May x.F ∧ (bodyF x.F).length ≤ 3300) (hx : Fr.Good w w0.heap.size av.ownBlock.toList x)
    (ho : OwnB w' w0.heap.size av' (A ++ wrO x.F)) (hc : Chg av.ownBlock.toList w w') (hn : ∀ k, av'.ownBlock = some k → av.ownBlock = some k ∨ w.heap.size ≤ k) {wv' : Value} {w'' : World}
    (hr : OwnR 27 16 encFr w'' w0.heap.size wv' (ts ++ [x])) (hc2 : Chg wv.ownBlock.toList w' w'') : BS w0 av' wv' (A ++ wrO x.F) (ts ++ [x]) w'' := by
  have hr1 : OwnR 27 16 encFr w' w0.heap.size wv ts := OwnR.chg h.r hc (rows_apart h.r h.o (by decide))
  have one : ∀ y, Fr.Good w w0.heap.size av.ownBlock.toList y → Fr.Good w'' w0.heap.size av'.ownBlock.toList y := fun y hy => by
    have h1 : Fr.Good w w0.heap.size av'.ownBlock.toList y := good_fp hy (fun g hg => (hn g (Option.mem_toList.1 hg)).imp Option.mem_toList.2 id)
    have h2 := h1.chg hc (fun g hg => hy.a g (Option.mem_toList.2 hg)) (rows_apart hy.l h.o (by decide))
    exact h2.chg hc2 (rows_apart h2.p hr1 (by decide)) (rows_apart h2.l hr1 (by decide))
  refine ⟨by rw [h.e]; simp, OwnB.chg ho hc2 (rows_apart ho hr1 (by decide)), hr, fun y hy => ?_, fun y hy => ?_, (h.c.trans hc (fun y hy => Or.inr (owns_lo h.o y hy))).trans hc2 (fun y hy => Or.inr (OwnR.lo h.r y hy))⟩
  · rcases List.mem_append.1 hy with hy | hy
    · exact h.m y hy
    · simp at hy; subst hy; exact hm
  · rcases List.mem_append.1 hy with hy | hy
    · exact one y (h.g y hy)
    · simp at hy; subst hy; exact one _ hx

set_option maxRecDepth 100000 in
set_option maxHeartbeats 16000000 in
theorem walk (lv0 cv : Value) (zs : List Tv) (cs : List Int) (W : World) (hl : SliceOf W lv0 16 encFr zs) (hz : ∀ z ∈ zs, z.In W) (hc : SliceOf W cv 1 encI cs) (hci : ∀ z ∈ cs, I64 z) :
    Calls Try.prog 5 #[lv0, cv] W fun e w' => e = .returned (.bool true) ∧ Below W.heap.size W w' := by
  obtain ⟨za, zc, rfl, hzc, hzcm⟩ := hl.len
  unfold maxLen at hzcm
  have HL := Lib.hid hl; have HZ := Lib.hid hz; have HC := Lib.hid hc; have HCI := Lib.hid hci
  clear hl hz hc hci
  have hm0 : mxP 0 = 16384 := by unfold mxP; omega
  go_enter Try.func5, Try.ntmps5
  go_wp2_with fail
  refine (shown_any W).mono ?_; rintro e w1 ⟨rfl, c1⟩
  go_wp2_with fail
  refine (pnew_any (W := W) 0 w1 c1.size).mono ?_; rintro e w3 ⟨p, hv0, rfl, h2, c2, f2⟩
  rw [hm0] at h2
  have P3 := Lib.hid h2; have C3 := Lib.hid (c1.trans' c2)
  have HL3 : Hid (∀ x ∈ footP p hv0, x < w3.heap.size) := Lib.hid h2.lt
  clear h2 c1 c2 f2 hm0
  go_upto_region 6 with fail
  iterate 8 go_step
  go_cut [7, 8] (fun av wv wx => ∃ (A : List UInt8) (ts : List Tv), ts.length ≤ 40 ∧ BS w3 av wv A ts wx)
  case first =>
    go_wp2_with fail
    go_loopw [7, 8, 9] (fun av wv iv wr => ∃ (i : Nat) (A : List UInt8) (ts : List Tv), i ≤ zs.length ∧ i ≤ 40 ∧ ts.length ≤ i ∧ iv = .int .i64 i ∧ BS w3 av wv A ts wr) (fun _ _ iv _ => 40 - (intOf iv).toNat)
    case atStart => exact ⟨0, [], [], by omega, by omega, by simp, rfl, ⟨rfl, OwnB.nil _ _, OwnR.nil _ _, by simp, by simp, Chg.refl _⟩⟩
    case round =>
      obtain ⟨i, A, ts, hi, hi40, hti, rfl, hbs⟩ := hrel
      obtain ⟨aa, ac, rfl⟩ := OwnB.slice hbs.o
      obtain ⟨wa, wc, rfl, _, _⟩ := OwnR.slice hbs.r
      have HBS := Lib.hid hbs
      have hAl : Hid (A.length ≤ 132360) := Lib.hid (by have := all_len hbs.m; rw [← hbs.e] at this; omega)
      clear hbs
      by_cases hlt : i < zs.length ∧ i < 40
      · obtain ⟨hlt, hlt40⟩ := hlt
        have hltI : (i : Int) < (zs.length : Int) := by omega
        have hltI2 : (i : Int) < 40 := by omega
        obtain ⟨z, hz⟩ : ∃ z, zs[i]? = some z := ⟨_, List.getElem?_eq_getElem hlt⟩
        have hzin := (HZ.out z (List.mem_of_getElem? hz)).chg0 (C3.out.trans' HBS.out.c)
        obtain ⟨b1, o1, rfl, hb1, hc1⟩ := HL.out.at (by omega)
        have d1 := hc1 i z hz
        obtain ⟨F, pa, pc, la, lc, is, code, st⟩ := z
        have D1 : ∀ j, j < 16 → World.cell? wr ⟨b1, o1 + i * 16 + j, none⟩ = (encFr ⟨F, pa, pc, la, lc, is, code, st⟩)[j]? := fun j hj => by rw [(C3.out.trans' HBS.out.c).cell hb1 (by simp)]; exact d1 j hj
        have x0 : World.cell? wr ⟨b1, o1 + i * 16, none⟩ = some ((.int .i64 F.kind)) := D1 0 (by omega)
        have x1 : World.cell? wr ⟨b1, o1 + i * 16 + 1, none⟩ = some ((.int .i64 F.stream)) := D1 1 (by omega)
        have x2 : World.cell? wr ⟨b1, o1 + i * 16 + 2, none⟩ = some ((.bool F.fin)) := D1 2 (by omega)
        have x3 : World.cell? wr ⟨b1, o1 + i * 16 + 3, none⟩ = some ((.bool F.eh)) := D1 3 (by omega)
        have x4 : World.cell? wr ⟨b1, o1 + i * 16 + 4, none⟩ = some ((.bool F.ack)) := D1 4 (by omega)
        have x5 : World.cell? wr ⟨b1, o1 + i * 16 + 5, none⟩ = some ((.bool F.prio)) := D1 5 (by omega)
        have x6 : World.cell? wr ⟨b1, o1 + i * 16 + 6, none⟩ = some (.slice pa F.pay.length pc) := D1 6 (by omega)
        have x7 : World.cell? wr ⟨b1, o1 + i * 16 + 7, none⟩ = some ((.int .i64 F.flags)) := D1 7 (by omega)
        have x8 : World.cell? wr ⟨b1, o1 + i * 16 + 8, none⟩ = some ((.int .i64 F.pad)) := D1 8 (by omega)
        have x9 : World.cell? wr ⟨b1, o1 + i * 16 + 9, none⟩ = some ((.int .i64 F.depend)) := D1 9 (by omega)
        have xa : World.cell? wr ⟨b1, o1 + i * 16 + 10, none⟩ = some ((.bool F.excl)) := D1 10 (by omega)
        have xb : World.cell? wr ⟨b1, o1 + i * 16 + 11, none⟩ = some ((.int .i64 F.weight)) := D1 11 (by omega)
        have xc : World.cell? wr ⟨b1, o1 + i * 16 + 12, none⟩ = some ((.int .u32 F.code)) := D1 12 (by omega)
        have xd : World.cell? wr ⟨b1, o1 + i * 16 + 13, none⟩ = some (.slice la F.list.length lc) := D1 13 (by omega)
        have xe : World.cell? wr ⟨b1, o1 + i * 16 + 14, none⟩ = some ((.int .i64 F.last)) := D1 14 (by omega)
        have xf : World.cell? wr ⟨b1, o1 + i * 16 + 15, none⟩ = some ((.int .i64 F.inc)) := D1 15 (by omega)
        have hbl : b1 < wr.heap.size := Nat.lt_of_lt_of_le hb1 (C3.out.trans' HBS.out.c).size
        have ZIN := Lib.hid hzin
        clear hzin hc1 d1 D1 hz
        go_wp2_with fail
        refine (small_any F _ _ ZIN.out.p ZIN.out.l).mono ?_; rintro e w4 ⟨pv, lv, rfl, op, os, c4⟩
        obtain ⟨G, hG⟩ : ∃ G, G = smF F := ⟨_, rfl⟩
        have hGp : Hid (G.pay.length ≤ 3000 ∧ G.list.length ≤ 500 ∧ G.Wf) := Lib.hid (by rw [hG]; exact ⟨by simp [smF]; omega, by simp [smF]; omega, smF_wf ZIN.out.w⟩)
        rw [← hG] at op os ⊢
        obtain ⟨pa2, pc2, rfl⟩ := op.slice
        obtain ⟨la2, lc2, rfl, _, _⟩ := OwnR.slice os
        have GD : Hid (Fr.Good w4 w3.heap.size (Value.slice aa A.length ac).ownBlock.toList ⟨G, pa2, pc2, la2, lc2, false, 0, 0⟩) := Lib.hid ⟨owns_mono op HBS.out.c.size, owns_mono os HBS.out.c.size, fun g hg hx => by
          have h1 := owns_lo op g hg
          have h2 := (World.ownsRow.lt HBS.out.o g (Option.mem_toList.1 hx)).2
          omega⟩
        have B4 := Lib.hid (HBS.out.chg0 c4)
        have b4 : At (w4.alloc (.cells noF 27)) w4.heap.size (.cells noF 27) := At.new w4 _
        clear op os c4 hG x0 x1 x2 x3 x4 x5 x6 x7 x8 x9 xa xb xc xd xe xf HBS ZIN
        go_wp2_with (refine store_whole rfl 27 _ _ rfl w4.heap.size _ _ 27 rfl rfl b4 infoFr rfl (by simp [Value.oneCell', Fm.mem]) ?_)
        intro w31 s31 c31
        have c5 : Chg [] w4 w31 := ((Chg.refl w4).alloc _).trans c31 (fun x hx => Or.inr (by simp at hx; omega))
        have B5 := Lib.hid (B4.out.chg0 c5); have GD5 := Lib.hid (GD.out.chg0 c5)
        have S31 := Lib.hid s31
        have hXl := s31.lt
        have x0 : World.cell? w31 ⟨w4.heap.size, 0, none⟩ = some ((.int .i64 G.kind)) := (s31).cell rfl
        have x1 : World.cell? w31 ⟨w4.heap.size, 1, none⟩ = some ((.int .i64 G.stream)) := (s31).cell rfl
        have x2 : World.cell? w31 ⟨w4.heap.size, 2, none⟩ = some ((.bool G.fin)) := (s31).cell rfl
        have x3 : World.cell? w31 ⟨w4.heap.size, 3, none⟩ = some ((.bool G.eh)) := (s31).cell rfl
        have x4 : World.cell? w31 ⟨w4.heap.size, 4, none⟩ = some ((.bool G.ack)) := (s31).cell rfl
        have x5 : World.cell? w31 ⟨w4.heap.size, 5, none⟩ = some ((.bool G.prio)) := (s31).cell rfl
        have x6 : World.cell? w31 ⟨w4.heap.size, 6, none⟩ = some (.slice pa2 G.pay.length pc2) := (s31).cell rfl
        have x7 : World.cell? w31 ⟨w4.heap.size, 7, none⟩ = some ((.int .i64 G.flags)) := (s31).cell rfl
        have x8 : World.cell? w31 ⟨w4.heap.size, 8, none⟩ = some ((.int .i64 G.pad)) := (s31).cell rfl
        have x9 : World.cell? w31 ⟨w4.heap.size, 9, none⟩ = some ((.int .i64 G.depend)) := (s31).cell rfl
        have xa : World.cell? w31 ⟨w4.heap.size, 10, none⟩ = some ((.bool G.excl)) := (s31).cell rfl
        have xb : World.cell? w31 ⟨w4.heap.size, 11, none⟩ = some ((.int .i64 G.weight)) := (s31).cell rfl
        have xc : World.cell? w31 ⟨w4.heap.size, 12, none⟩ = some ((.int .u32 G.code)) := (s31).cell rfl
        have xd : World.cell? w31 ⟨w4.heap.size, 13, none⟩ = some (.slice la2 G.list.length lc2) := (s31).cell rfl
        have xe : World.cell? w31 ⟨w4.heap.size, 14, none⟩ = some ((.int .i64 G.last)) := (s31).cell rfl
        have xf : World.cell? w31 ⟨w4.heap.size, 15, none⟩ = some ((.int .i64 G.inc)) := (s31).cell rfl
        clear s31 c31 c5 B4 GD b4
        by_cases hm : May G
        · have hbd := body_small hm hGp.out.1 hGp.out.2.1
          have WR := Lib.hid (write_any hm pa2 pc2 la2 lc2 w31 (OwnB.bytes GD5.out.p) (OwnR.sl encS_len (by decide) GD5.out.l) (by omega))
          have HM := Lib.hid (And.intro hm hbd)
          clear hm hbd
          go_wp2_with fail
          refine WR.out.mono ?_; rintro e w6 ⟨rv, rfl, o6, c6⟩
          obtain ⟨ra, rc, rfl⟩ := o6.slice
          have hrl : Hid ((wrO G).length ≤ 3309) := Lib.hid (by rw [wrO_len]; have := HM.out.2; omega)
          have B6 := Lib.hid (B5.out.chg0 c6); have GD6 := Lib.hid (GD5.out.chg0 c6); have O6 := Lib.hid o6
          have S6 := Lib.hid (S31.out.chg c6 (by simp))
          have HU := Lib.hid (OwnB.bytes o6)
          clear o6 c6 WR B5 GD5 S31 x0 x1 x2 x3 x4 x5 x6 x7 x8 x9 xa xb xc xd xe xf
          obtain ⟨LW, hLW⟩ : ∃ n, n = (wrO G).length := ⟨_, rfl⟩
          rw [← hLW]
          rw [← hLW] at HU
          have HLW := Lib.hid hLW
          clear hLW
          go_wp2_with (at_builtin; refine app_any rfl _ _ rfl w3.heap.size _ A rfl B6.out.o _ (wrO G) rfl HU.out (by have := hAl.out; have := hrl.out; omega) B6.out.c.size ?_)
          intro v7 w7 own7 ch7 n7
          obtain ⟨A2, hA2⟩ : ∃ A2, A2 = A ++ wrO G := ⟨_, rfl⟩
          have own7' := own7
          rw [← hA2] at own7'
          obtain ⟨a7, c7, rfl⟩ := OwnB.slice own7'
          have OW7 := Lib.hid own7; have CH7 := Lib.hid ch7; have N7 := Lib.hid n7; have HA2 := Lib.hid hA2
          have s7 : At w7 w4.heap.size _ := S6.out.chg ch7 (owns_alien B6.out.o S6.out (by decide))
          have R7 := Lib.hid (OwnR.chg B6.out.r ch7 (rows_apart B6.out.r B6.out.o (by decide)))
          have hX7 := s7.lt
          have h37 : Hid (w3.heap.size ≤ w7.heap.size) := Lib.hid (Nat.le_trans B6.out.c.size ch7.size)
          have x0 : World.cell? w7 ⟨w4.heap.size, 0, none⟩ = some ((.int .i64 G.kind)) := (s7).cell rfl
          have x1 : World.cell? w7 ⟨w4.heap.size, 1, none⟩ = some ((.int .i64 G.stream)) := (s7).cell rfl
          have x2 : World.cell? w7 ⟨w4.heap.size, 2, none⟩ = some ((.bool G.fin)) := (s7).cell rfl
          have x3 : World.cell? w7 ⟨w4.heap.size, 3, none⟩ = some ((.bool G.eh)) := (s7).cell rfl
          have x4 : World.cell? w7 ⟨w4.heap.size, 4, none⟩ = some ((.bool G.ack)) := (s7).cell rfl
          have x5 : World.cell? w7 ⟨w4.heap.size, 5, none⟩ = some ((.bool G.prio)) := (s7).cell rfl
          have x6 : World.cell? w7 ⟨w4.heap.size, 6, none⟩ = some (.slice pa2 G.pay.length pc2) := (s7).cell rfl
          have x7 : World.cell? w7 ⟨w4.heap.size, 7, none⟩ = some ((.int .i64 G.flags)) := (s7).cell rfl
          have x8 : World.cell? w7 ⟨w4.heap.size, 8, none⟩ = some ((.int .i64 G.pad)) := (s7).cell rfl
          have x9 : World.cell? w7 ⟨w4.heap.size, 9, none⟩ = some ((.int .i64 G.depend)) := (s7).cell rfl
          have xa : World.cell? w7 ⟨w4.heap.size, 10, none⟩ = some ((.bool G.excl)) := (s7).cell rfl
          have xb : World.cell? w7 ⟨w4.heap.size, 11, none⟩ = some ((.int .i64 G.weight)) := (s7).cell rfl
          have xc : World.cell? w7 ⟨w4.heap.size, 12, none⟩ = some ((.int .u32 G.code)) := (s7).cell rfl
          have xd : World.cell? w7 ⟨w4.heap.size, 13, none⟩ = some (.slice la2 G.list.length lc2) := (s7).cell rfl
          have xe : World.cell? w7 ⟨w4.heap.size, 14, none⟩ = some ((.int .i64 G.last)) := (s7).cell rfl
          have xf : World.cell? w7 ⟨w4.heap.size, 15, none⟩ = some ((.int .i64 G.inc)) := (s7).cell rfl
          clear own7 own7' ch7 n7 hA2 s7 S6 HU
          have htl : Hid (ts.length ≤ 40) := Lib.hid (by omega)
          go_wp2_with (at_builtin; refine app_row encFr_len encFr_one 57 Try.underlying57 infoFrR rfl (by decide) rfl _ _ rfl w3.heap.size _ ts rfl (OwnR.alloc R7.out _) _ [(⟨G, pa2, pc2, la2, lc2, false, 0, 0⟩ : Tv)] rfl (SliceOf.one (T := 27) (enc := encFr) (x := (⟨G, pa2, pc2, la2, lc2, false, 0, 0⟩ : Tv)) (size := 16) rfl (cs := (encFr ⟨G, pa2, pc2, la2, lc2, false, 0, 0⟩).toArray) rfl w7) (by have := htl.out; simp [maxLen]; omega) (by have := htl.out; simp; omega) (Nat.le_trans h37.out (by simp)) ?_)
          intro v8 w8 own8 ch8 n8
          have ch8' : Chg (Value.slice wa ts.length wc).ownBlock.toList w7 w8 := ((Chg.refl w7).alloc _).trans' ch8
          have BN := B6.out.pushA (x := ⟨G, pa2, pc2, la2, lc2, false, 0, 0⟩) HM.out GD6.out OW7.out CH7.out N7.out own8 ch8'
          have BN' : BS w3 (.slice a7 A2.length c7) v8 A2 (ts ++ [⟨G, pa2, pc2, la2, lc2, false, 0, 0⟩]) w8 := by rw [HA2.out]; rw [HA2.out] at BN; exact BN
          obtain ⟨a8, c8, rfl, _, _⟩ := OwnR.slice own8
          have BNH := Lib.hid BN'
          clear own8 ch8 ch8' n8 BN BN' x0 x1 x2 x3 x4 x5 x6 x7 x8 x9 xa xb xc xd xe xf
          go_wp2_with fail
          go_roundw
          case rel => exact ⟨i + 1, A2, ts ++ [⟨G, pa2, pc2, la2, lc2, false, 0, 0⟩], by omega, by omega, by simp; omega, by go_num, BNH.out⟩
          case measure => simp [intOf]; omega
        · have WR := Lib.hid (write_bad hGp.out.2.2 hm pa2 pc2 la2 lc2 w31 (OwnR.sl encS_len (by decide) GD5.out.l) (by have := hGp.out.2.1; omega))
          clear hm
          go_wp2_with fail
          refine WR.out.mono ?_; rintro e w6 ⟨rfl, c6⟩
          have B6 := Lib.hid (B5.out.chg0 c6)
          clear c6 WR B5 GD5 S31 x0 x1 x2 x3 x4 x5 x6 x7 x8 x9 xa xb xc xd xe xf
          go_wp2_with fail
          go_roundw
          case rel => exact ⟨i + 1, A, ts, by omega, by omega, by omega, by go_num, B6.out⟩
          case measure => simp [intOf]; omega
      · have HBE := Lib.hid HBS.out
        rcases Nat.lt_or_ge i zs.length with h1 | h1
        · have h2 : (i : Int) < (zs.length : Int) := by omega
          have h3 : ¬ (i : Int) < 40 := by omega
          go_wp2_with fail
          go_meet
          case rel => exact ⟨A, ts, by omega, HBE.out⟩
        · have h2 : ¬ (i : Int) < (zs.length : Int) := by omega
          go_wp2_with fail
          go_meet
          case rel => exact ⟨A, ts, by omega, HBE.out⟩
  case rest =>
    as_aux_lemma =>
      obtain ⟨A, ts, htl, hbs⟩ := hcut
      obtain ⟨aa, ac, rfl⟩ := OwnB.slice hbs.o
      obtain ⟨wa, wc0, rfl, _, _⟩ := OwnR.slice hbs.r
      obtain ⟨w4, hw4⟩ : ∃ x, x = wc := ⟨_, rfl⟩
      subst hw4
      have hAl : A.length ≤ 132360 := by have := all_len hbs.m; rw [← hbs.e] at this; omega
      have HAL := Lib.hid hAl
      have HBS := Lib.hid hbs
      have hdr := dr_all (mx := 16384) (by omega) (ts.map (·.F)) (fun F hF => by
        obtain ⟨x, hx, rfl⟩ := List.mem_map.1 hF
        have := hbs.m x hx
        exact ⟨this.1, by omega⟩)
      rw [← hbs.e] at hdr
      have HDR := Lib.hid hdr
      have P4 := Lib.hid (P3.out.chg0 hbs.c); have C4 := Lib.hid (C3.out.trans' hbs.c)
      have HTL := Lib.hid htl
      clear hbs hdr hAl htl
      go_wp2_with fail
      refine (pieces_any (.slice aa A.length ac) A (OwnB.bytes HBS.out.o) (by have := HAL.out; omega) cv cs (HC.out.chg0 C4.out) HCI.out).mono ?_; rintro e w5 ⟨rv, ps, rfl, o5, hcat, hps, c5⟩
      have B5 := Lib.hid (HBS.out.chg0 c5); have P5 := Lib.hid (P4.out.chg0 c5); have C5 := Lib.hid (C4.out.trans' c5)
      have O5 := Lib.hid o5; have HCAT := Lib.hid hcat; have HPS := Lib.hid hps; have S34 := Lib.hid HBS.out.c.size
      have CP5 := Lib.hid c5
      clear o5 hcat hps c5 P4 HBS
      go_wp2_with fail
      refine (told_any P5.out rv (ps.map Ps.pc) (slice_map (OwnR.sl encPs_len (by decide) O5.out) (fun x => rfl)) (fun h0 a n c he hx => by
        subst he
        have h1 := own_blk O5.out (by simpa using h0)
        have h2 := HL3.out _ hx
        have := S34.out; omega) (fun z hz => by
        obtain ⟨y, hy, rfl⟩ := List.mem_map.1 hz
        obtain ⟨h1, h2⟩ := HPS.out y hy
        refine ⟨BytesOf.chg0 h1 CP5.out, fun h0 a n c he hx => ?_⟩
        have ha : y.a = some a := by
          have he' : Value.slice y.a y.b.length y.c = Value.slice (some a) n c := he
          injection he'
        obtain ⟨a', n', c', e1, e2⟩ := h2 h0 a ha
        have hbl : 0 < A.length := by have := catS_mem hy; rw [HCAT.out] at this; exact Nat.lt_of_lt_of_le h0 this
        have h3 : w3.heap.size ≤ a'.block := own_blk (ownB_R.1 (show OwnB w5 w3.heap.size (.slice (some a') A.length ac) A by have := B5.out.o; injection e1 with e3; rw [← e3]; exact this)) hbl
        have h4 := HL3.out _ hx
        omega) (by rw [catS_pc, HCAT.out]; have := HAL.out; omega)).mono ?_; rintro e w6 ⟨hv6, r2, d2, ts2, ov2, fv2, he2, hs2, hd2⟩
      subst he2
      rw [catS_pc, HCAT.out] at hd2
      obtain ⟨heq, hr2, hdd2⟩ := HDR.out.fn hd2
      subst hr2 hdd2
      have hlen : ts2.length = ts.length := by have := congrArg List.length heq; simpa using this.symm
      have HLO : Hid (∀ g, w3.heap.size ≤ g → g ∉ footP p hv0) := Lib.hid (fun g hg hx => by have := HL3.out g hx; omega)
      have WR6 := Lib.hid (OwnR.chg B5.out.r hs2.c (fun g hg => HLO.out g (OwnR.lo B5.out.r g (Option.mem_toList.2 hg))))
      have G6 : Hid (∀ x ∈ ts, BytesOf w6 x.pv x.F.pay ∧ SliceOf w6 x.lv 2 encS x.F.list) := Lib.hid (fun x hx => by
        have hg := B5.out.g x hx
        have hg2 := hg.chg hs2.c (fun g hgg => HLO.out g (World.ownsRow.lt hg.p g hgg).1) (fun g hgg => HLO.out g (World.ownsRow.lt hg.l g hgg).1)
        exact ⟨OwnB.bytes hg2.p, OwnR.sl encS_len (by decide) hg2.l⟩)
      have K6 : Hid (∀ x ∈ ts2, BytesOf w6 x.pv x.F.pay ∧ SliceOf w6 x.lv 2 encS x.F.list) := Lib.hid (fun x hx => by
        have hg := hs2.g x hx
        exact ⟨OwnB.bytes hg.p, OwnR.sl encS_len (by decide) hg.l⟩)
      have CW6 : Hid (Chg [] W w6) := Lib.hid (C5.out.trans hs2.c (fun x hx => Or.inr (P5.out.los x hx)))
      have O62 := Lib.hid hs2.o; have A62 := Lib.hid hs2.f; have Q6 := Lib.hid hs2.h
      obtain ⟨oa2, oc2, hov2, _, _⟩ := OwnR.slice hs2.o
      obtain ⟨fa2, fc2, hfv2, _, _⟩ := OwnR.slice hs2.f
      rw [hlen] at hov2 hfv2
      subst hov2 hfv2
      have HEQ := Lib.hid heq.symm; have HLEN := Lib.hid hlen
      clear hs2 hd2 heq hlen B5 P5 C5 CP5 O5 HPS HCAT HDR HLO
      go_wp2_with fail
      refine (psize_any Q6.out).mono ?_; rintro e w7 ⟨rfl, rfl⟩
      go_wp2_with fail
      go_loopw [16] (fun iv wr => ∃ i : Nat, i ≤ ts.length ∧ iv = .int .i64 i ∧ Chg [] w6 wr) (fun iv _ => ts.length - (intOf iv).toNat)
      case atStart => exact ⟨0, by omega, rfl, Chg.refl _⟩
      case round =>
        obtain ⟨i, hi, rfl, hcr⟩ := hrel
        have HCR := Lib.hid hcr
        clear hcr
        by_cases hlt : i < ts.length
        · have hltI : (i : Int) < (ts.length : Int) := by omega
          have tlI : (ts.length : Int) ≤ 40 := by have := HTL.out; omega
          obtain ⟨x, hx⟩ : ∃ x, ts2[i]? = some x := ⟨_, List.getElem?_eq_getElem (by rw [HLEN.out]; exact hlt)⟩
          obtain ⟨y, hy⟩ : ∃ y, ts[i]? = some y := ⟨_, List.getElem?_eq_getElem hlt⟩
          obtain ⟨e1, e2⟩ := outs_eq HEQ.out hx hy
          have gx := K6.out x (List.mem_of_getElem? hx)
          have gy := G6.out y (List.mem_of_getElem? hy)
          obtain ⟨b1, o1, rfl, hb1, hc1⟩ := (OwnR.sl encFr_len (by decide) O62.out).at (by rw [HLEN.out]; omega)
          obtain ⟨b2, o2, rfl, hb2, hc2⟩ := (OwnR.sl encFr_len (by decide) WR6.out).at (by omega)
          obtain ⟨b3, o3, rfl, hb3, hc3⟩ := (OwnR.sl encFa_len (by decide) A62.out).at (by rw [HLEN.out]; omega)
          have d1 := hc1 i x hx
          have d2 := hc2 i y hy
          have d3 := hc3 i x hx
          obtain ⟨F, pa, pc, la, lc, is, code, st⟩ := x
          obtain ⟨F', pa', pc', la', lc', is', code', st'⟩ := y
          simp only at e1 e2
          subst e1 e2
          have D1 : b1 < wr.heap.size ∧ ∀ j, j < 16 → World.cell? wr ⟨b1, o1 + i * 16 + j, none⟩ = (encFr ⟨F, pa, pc, la, lc, false, code, st⟩)[j]? := ⟨Nat.lt_of_lt_of_le hb1 HCR.out.size, fun j hj => by rw [HCR.out.cell hb1 (by simp)]; exact d1 j hj⟩
          have D2 : b2 < wr.heap.size ∧ ∀ j, j < 16 → World.cell? wr ⟨b2, o2 + i * 16 + j, none⟩ = (encFr ⟨F, pa', pc', la', lc', is', code', st'⟩)[j]? := ⟨Nat.lt_of_lt_of_le hb2 HCR.out.size, fun j hj => by rw [HCR.out.cell hb2 (by simp)]; exact d2 j hj⟩
          have D3 := Lib.hid (show b3 < w6.heap.size ∧ ∀ j, j < 3 → World.cell? w6 ⟨b3, o3 + i * 3 + j, none⟩ = (encFa ⟨F, pa, pc, la, lc, false, code, st⟩)[j]? from ⟨hb3, d3⟩)
          have x0 : ∀ q : Later [] wr, World.cell? q.world ⟨b1, o1 + i * 16, none⟩ = some (.int .i64 (F).kind) := fun q => (q.chg.cell (D1).1 (by simp) _).trans ((D1).2 0 (by omega))
          have x1 : ∀ q : Later [] wr, World.cell? q.world ⟨b1, o1 + i * 16 + 1, none⟩ = some (.int .i64 (F).stream) := fun q => (q.chg.cell (D1).1 (by simp) _).trans ((D1).2 1 (by omega))
          have x2 : ∀ q : Later [] wr, World.cell? q.world ⟨b1, o1 + i * 16 + 2, none⟩ = some (.bool (F).fin) := fun q => (q.chg.cell (D1).1 (by simp) _).trans ((D1).2 2 (by omega))
          have x3 : ∀ q : Later [] wr, World.cell? q.world ⟨b1, o1 + i * 16 + 3, none⟩ = some (.bool (F).eh) := fun q => (q.chg.cell (D1).1 (by simp) _).trans ((D1).2 3 (by omega))
          have x4 : ∀ q : Later [] wr, World.cell? q.world ⟨b1, o1 + i * 16 + 4, none⟩ = some (.bool (F).ack) := fun q => (q.chg.cell (D1).1 (by simp) _).trans ((D1).2 4 (by omega))
          have x5 : ∀ q : Later [] wr, World.cell? q.world ⟨b1, o1 + i * 16 + 5, none⟩ = some (.bool (F).prio) := fun q => (q.chg.cell (D1).1 (by simp) _).trans ((D1).2 5 (by omega))
          have x6 : ∀ q : Later [] wr, World.cell? q.world ⟨b1, o1 + i * 16 + 6, none⟩ = some (.slice pa F.pay.length pc) := fun q => (q.chg.cell (D1).1 (by simp) _).trans ((D1).2 6 (by omega))
          have x7 : ∀ q : Later [] wr, World.cell? q.world ⟨b1, o1 + i * 16 + 7, none⟩ = some (.int .i64 (F).flags) := fun q => (q.chg.cell (D1).1 (by simp) _).trans ((D1).2 7 (by omega))
          have x8 : ∀ q : Later [] wr, World.cell? q.world ⟨b1, o1 + i * 16 + 8, none⟩ = some (.int .i64 (F).pad) := fun q => (q.chg.cell (D1).1 (by simp) _).trans ((D1).2 8 (by omega))
          have x9 : ∀ q : Later [] wr, World.cell? q.world ⟨b1, o1 + i * 16 + 9, none⟩ = some (.int .i64 (F).depend) := fun q => (q.chg.cell (D1).1 (by simp) _).trans ((D1).2 9 (by omega))
          have xa : ∀ q : Later [] wr, World.cell? q.world ⟨b1, o1 + i * 16 + 10, none⟩ = some (.bool (F).excl) := fun q => (q.chg.cell (D1).1 (by simp) _).trans ((D1).2 10 (by omega))
          have xb : ∀ q : Later [] wr, World.cell? q.world ⟨b1, o1 + i * 16 + 11, none⟩ = some (.int .i64 (F).weight) := fun q => (q.chg.cell (D1).1 (by simp) _).trans ((D1).2 11 (by omega))
          have xc : ∀ q : Later [] wr, World.cell? q.world ⟨b1, o1 + i * 16 + 12, none⟩ = some (.int .u32 (F).code) := fun q => (q.chg.cell (D1).1 (by simp) _).trans ((D1).2 12 (by omega))
          have xd : ∀ q : Later [] wr, World.cell? q.world ⟨b1, o1 + i * 16 + 13, none⟩ = some (.slice la F.list.length lc) := fun q => (q.chg.cell (D1).1 (by simp) _).trans ((D1).2 13 (by omega))
          have xe : ∀ q : Later [] wr, World.cell? q.world ⟨b1, o1 + i * 16 + 14, none⟩ = some (.int .i64 (F).last) := fun q => (q.chg.cell (D1).1 (by simp) _).trans ((D1).2 14 (by omega))
          have xf : ∀ q : Later [] wr, World.cell? q.world ⟨b1, o1 + i * 16 + 15, none⟩ = some (.int .i64 (F).inc) := fun q => (q.chg.cell (D1).1 (by simp) _).trans ((D1).2 15 (by omega))
          have y0 : ∀ q : Later [] wr, World.cell? q.world ⟨b2, o2 + i * 16, none⟩ = some (.int .i64 (F).kind) := fun q => (q.chg.cell (D2).1 (by simp) _).trans ((D2).2 0 (by omega))
          have y1 : ∀ q : Later [] wr, World.cell? q.world ⟨b2, o2 + i * 16 + 1, none⟩ = some (.int .i64 (F).stream) := fun q => (q.chg.cell (D2).1 (by simp) _).trans ((D2).2 1 (by omega))
          have y2 : ∀ q : Later [] wr, World.cell? q.world ⟨b2, o2 + i * 16 + 2, none⟩ = some (.bool (F).fin) := fun q => (q.chg.cell (D2).1 (by simp) _).trans ((D2).2 2 (by omega))
          have y3 : ∀ q : Later [] wr, World.cell? q.world ⟨b2, o2 + i * 16 + 3, none⟩ = some (.bool (F).eh) := fun q => (q.chg.cell (D2).1 (by simp) _).trans ((D2).2 3 (by omega))
          have y4 : ∀ q : Later [] wr, World.cell? q.world ⟨b2, o2 + i * 16 + 4, none⟩ = some (.bool (F).ack) := fun q => (q.chg.cell (D2).1 (by simp) _).trans ((D2).2 4 (by omega))
          have y5 : ∀ q : Later [] wr, World.cell? q.world ⟨b2, o2 + i * 16 + 5, none⟩ = some (.bool (F).prio) := fun q => (q.chg.cell (D2).1 (by simp) _).trans ((D2).2 5 (by omega))
          have y6 : ∀ q : Later [] wr, World.cell? q.world ⟨b2, o2 + i * 16 + 6, none⟩ = some (.slice pa' F.pay.length pc') := fun q => (q.chg.cell (D2).1 (by simp) _).trans ((D2).2 6 (by omega))
          have y7 : ∀ q : Later [] wr, World.cell? q.world ⟨b2, o2 + i * 16 + 7, none⟩ = some (.int .i64 (F).flags) := fun q => (q.chg.cell (D2).1 (by simp) _).trans ((D2).2 7 (by omega))
          have y8 : ∀ q : Later [] wr, World.cell? q.world ⟨b2, o2 + i * 16 + 8, none⟩ = some (.int .i64 (F).pad) := fun q => (q.chg.cell (D2).1 (by simp) _).trans ((D2).2 8 (by omega))
          have y9 : ∀ q : Later [] wr, World.cell? q.world ⟨b2, o2 + i * 16 + 9, none⟩ = some (.int .i64 (F).depend) := fun q => (q.chg.cell (D2).1 (by simp) _).trans ((D2).2 9 (by omega))
          have ya : ∀ q : Later [] wr, World.cell? q.world ⟨b2, o2 + i * 16 + 10, none⟩ = some (.bool (F).excl) := fun q => (q.chg.cell (D2).1 (by simp) _).trans ((D2).2 10 (by omega))
          have yb : ∀ q : Later [] wr, World.cell? q.world ⟨b2, o2 + i * 16 + 11, none⟩ = some (.int .i64 (F).weight) := fun q => (q.chg.cell (D2).1 (by simp) _).trans ((D2).2 11 (by omega))
          have yc : ∀ q : Later [] wr, World.cell? q.world ⟨b2, o2 + i * 16 + 12, none⟩ = some (.int .u32 (F).code) := fun q => (q.chg.cell (D2).1 (by simp) _).trans ((D2).2 12 (by omega))
          have yd : ∀ q : Later [] wr, World.cell? q.world ⟨b2, o2 + i * 16 + 13, none⟩ = some (.slice la' F.list.length lc') := fun q => (q.chg.cell (D2).1 (by simp) _).trans ((D2).2 13 (by omega))
          have ye : ∀ q : Later [] wr, World.cell? q.world ⟨b2, o2 + i * 16 + 14, none⟩ = some (.int .i64 (F).last) := fun q => (q.chg.cell (D2).1 (by simp) _).trans ((D2).2 14 (by omega))
          have yf : ∀ q : Later [] wr, World.cell? q.world ⟨b2, o2 + i * 16 + 15, none⟩ = some (.int .i64 (F).inc) := fun q => (q.chg.cell (D2).1 (by simp) _).trans ((D2).2 15 (by omega))
          have gx1 : BytesOf w6 (.slice pa F.pay.length pc) F.pay := gx.1
          have gx2 : SliceOf w6 (.slice la F.list.length lc) 2 encS F.list := gx.2
          have gy1 : BytesOf w6 (.slice pa' F.pay.length pc') F.pay := gy.1
          have gy2 : SliceOf w6 (.slice la' F.list.length lc') 2 encS F.list := gy.2
          have SM : Hid (∀ q : Later [] wr, Calls Try.prog 16 #[.agg (fcs (F.mem (.slice pa F.pay.length pc) (.slice la F.list.length lc))), .agg (fcs (F.mem (.slice pa' F.pay.length pc') (.slice la' F.list.length lc')))] q.world fun e w' => e = .returned (.bool true) ∧ Chg [] q.world w') := Lib.hid (fun q => same_any F _ _ _ _ ((gx1.chg0 HCR.out).chg0 q.chg) ((gy1.chg0 HCR.out).chg0 q.chg) ((gx2.chg0 HCR.out).chg0 q.chg) ((gy2.chg0 HCR.out).chg0 q.chg))
          have hlt2 : Hid (i < ts2.length) := Lib.hid (by rw [HLEN.out]; exact hlt)
          clear d1 d2 d3 D1 D2 gx gy gx1 gx2 gy1 gy2 hc1 hc2 hc3 hb1 hb2 hb3 hx hy
          go_wp2_with fail
          refine wp_region_later (S := []) (by kernel_rfl) (by kernel_rfl) ?_
          repeat (go_big_quiet_step (first | (go_at_call 16; exact Calls.later (SM.out _))))
          refine wpQuiet_nil ?_
          intro _ hw'
          obtain ⟨xq, rfl⟩ := hw'
          have hcq := xq.chg
          generalize xq.world = w9 at *
          have C9 := Lib.hid (HCR.out.trans' hcq)
          clear hcq x0 x1 x2 x3 x4 x5 x6 x7 x8 x9 xa xb xc xd xe xf y0 y1 y2 y3 y4 y5 y6 y7 y8 y9 ya yb yc yd ye yf SM
          have z0 : World.cell? w9 ⟨b3, o3 + i * 3, none⟩ = some (.bool false) := (C9.out.cell D3.out.1 (by simp) _).trans (D3.out.2 0 (by omega))
          go_wp2_with fail
          go_roundw
          case rel => exact ⟨i + 1, by omega, by go_num, C9.out⟩
          case measure => simp [intOf]; omega
        · have hltI : ¬ (i : Int) < (ts.length : Int) := by omega
          go_wp2_with fail
          go_ret
          exact ⟨rfl, (CW6.out.trans' HCR.out).below_nil⟩

/-! ### The row's step -/
theorem own : ownKnob Try.prog.godebug = none := by kernel_rfl
theorem laid : laidOutB Try.prog = true := by kernel_rfl

set_option maxRecDepth 100000 in
theorem lifted (os : Os) (started : os.Started) (H : Type) (enc : TypeId × Value → H) :
    ReturnsInHanded {} Try.checked os 5 .any (Rows.frameBackSpec.pre6 enc Try.prog Try.f5 Rows.frameBackRow.domain false) (Rows.frameBackSpec.post enc Try.prog Try.f5 false true false false) := by
  refine lift_law (C := Try.checked) (tb := 4) own started (by kernel_rfl) Try.func5
    (ChangeSpec.witness6 (enc := enc) (C := Try.checked) false ⟨#[], #[.slice none 0 0, .slice none 0 0], []⟩ 8 (by kernel_rfl) (by kernel_rfl) (by kernel_rfl) (by kernel_rfl))
    laid (by rw [Try.params5]; intro t ht; simp only [List.mem_cons, List.not_mem_nil, or_false] at ht; rcases ht with rfl | rfl <;> exact ⟨by kernel_rfl, of_decide_eq_true (by kernel_rfl)⟩) (by kernel_rfl) Try.underlying4 rfl
    (fun ds h => by rw [Try.params5] at h; match ds, h with | [d0, d1], _ => rfl) ?_
  intro W base args ds before hval hA hlt hsz
  rw [Try.params5] at hA hval
  try rw [Try.params5] at hsz
  have hlt0 := hlt
  obtain ⟨v0, vs0, d0, ds0, p0, q0, hargs, rfl, rfl, h0, r0⟩ := trodAll_cons hA
  obtain ⟨v1, vs1, d1, ds1, p1, q1, rfl, rfl, rfl, h1, r1⟩ := trodAll_cons r0
  obtain ⟨rfl, rfl, rfl⟩ := trodAll_nil r1
  obtain rfl : args = #[v0, v1] := by cases args; simp_all
  have l0 : ∀ p ∈ p0, p.block < W.heap.size := fun x hx => hlt x (by simp [hx])
  have l1 : ∀ p ∈ p1, p.block < W.heap.size := fun x hx => hlt x (by simp [hx])
  obtain ⟨l0, g0, _, _, s0⟩ := open_slice_a 16 encFr (fun z => z.In W) Try.underlying57 (by kernel_rfl) (by omega) (hval 0 57 v0 rfl rfl) decFr h0 l0 (small_of hsz (j := 0) rfl rfl)
  obtain ⟨l1, g1, _, s1⟩ := open_arg_slice 1 encI I64 Try.underlying58 (by kernel_rfl) (by omega) (hval 1 58 v1 rfl rfl) decI h1 l1
  exact walk v0 v1 l0 l1 W s0 g0 s1 g1

theorem over : Rows.frameBackRow.holds Try.pinned (OpenSpec.ofChange Rows.frameBackSpec) :=
  OpenClaim.holds_of_wide 5 Try.f5 rfl rfl rfl rfl rfl rfl rfl ⟨rfl, rfl, rfl, rfl, rfl⟩ rfl rfl rfl rfl rfl (by kernel_rfl) Try.func5 (by kernel_rfl)
    (of_decide_eq_true (by kernel_rfl)) (by unfold Func.isWrapper; first | (rw [if_pos (by decide +kernel)]; kernel_rfl) | (rw [if_neg (by decide +kernel)]; exact ⟨rfl, rfl⟩))
    (fun os started H enc _ => lifted os started H enc)

/-- The statement. -/
theorem proved : Rows.FrameBackSaid :=
  over
#print axioms proved

end Go.Proofs.Ythhgnipiaohplaa.Back
