/-
  FramePieces: in which pieces octets come does not matter.
-/
import Derived.Test.YthhgnipiaohplaaFpi
import Derived.Test.YthhgnipiaohplaaFsa
import Derived.Test.YthhgnipiaohplaaLater
namespace Go.Proofs.Ythhgnipiaohplaa.Pieces
open Go.ChangeShapes Go.WideShapes Go.ChangeAt Go.RowKit
open Go.Proofs.Ythhgnipiaohplaa.B Go.Proofs.Ythhgnipiaohplaa.Fr
set_option linter.unusedVariables false
set_option linter.unusedSimpArgs false

theorem slice_map {α β : Type} {w : World} {v : Value} {s : Nat} {enc : α → List Value} {enc' : β → List Value} {f : α → β} {l : List α} (h : SliceOf w v s enc l) (he : ∀ x, enc' (f x) = enc x) : SliceOf w v s enc' (l.map f) := by
  obtain ⟨a, c, rfl, h1, h2, h3⟩ := h
  refine ⟨a, c, by rw [List.length_map], by rw [List.length_map]; exact h1, h2, fun h0 => ?_⟩
  rw [List.length_map] at h0
  obtain ⟨b, off, rfl, hb, hc⟩ := h3 h0
  refine ⟨b, off, rfl, hb, fun i z hz j hj => ?_⟩
  rw [List.getElem?_map] at hz
  obtain ⟨y, hy, rfl⟩ := Option.map_eq_some_iff.1 hz
  rw [he]; exact hc i y hy j hj
theorem own_blk {α : Type} {e : TypeId} {s : Nat} {enc : α → List Value} {w : World} {base n c : Nat} {a : Addr} {l : List α} (h : OwnR e s enc w base (.slice (some a) n c) l) (h0 : 0 < l.length) : base ≤ a.block := by
  obtain ⟨a', cap, he, _, _, hr⟩ := owns_val h
  obtain ⟨g, h1, h2, _⟩ := hr h0
  cases he
  cases h1
  exact (World.ownsRow.lt h g h2).1
theorem catS_mem {ps : List Ps} {z : Ps} (h : z ∈ ps) : z.b.length ≤ (catS ps).length := by
  obtain ⟨s, t, rfl⟩ := List.append_of_mem h
  unfold catS
  simp; omega
/-- Like outputs are of like frames and faults. -/
theorem out_eq {ts us : List Tv} (h : ts.map Tv.out = us.map Tv.out) {i : Nat} {x y : Tv} (hx : ts[i]? = some x) (hy : us[i]? = some y) : y.F = x.F ∧ y.is = x.is ∧ y.code = x.code ∧ y.st = x.st := by
  have h1 : (ts.map Tv.out)[i]? = some x.out := by rw [List.getElem?_map, hx]; rfl
  have h2 : (us.map Tv.out)[i]? = some y.out := by rw [List.getElem?_map, hy]; rfl
  rw [h, h2] at h1
  have h3 := Option.some.inj h1
  unfold Tv.out at h3
  injection h3 with a b c d
  exact ⟨a, b, c, d⟩
set_option maxRecDepth 100000 in
set_option maxHeartbeats 16000000 in
theorem walk (max : Int) (bv cv : Value) (b : List UInt8) (cs : List Int) (W : World) (hb : BytesOf W bv b) (hc : SliceOf W cv 1 encI cs) (hci : ∀ z ∈ cs, I64 z) :
    Calls Try.prog 6 #[.int .i64 max, bv, cv] W fun e w' => e = .returned (.bool true) ∧ Below W.heap.size W w' := by
  obtain ⟨ba, bc, rfl, hbc, hbcm⟩ := hb.slice
  unfold maxLen at hbcm
  have HB := Lib.hid hb; have HC := Lib.hid hc; have HCI := Lib.hid hci
  clear hb hc hci
  obtain ⟨mx, hmx⟩ : ∃ m, m = mxP max := ⟨_, rfl⟩
  have HMX := Lib.hid hmx
  clear hmx
  by_cases h3 : 30000 < b.length
  · have h3I : (30000 : Int) < (b.length : Int) := by omega
    have h3d : decide ((30000 : Int) < (b.length : Int)) = true := decide_eq_true h3I
    go_enter Try.func6, Try.ntmps6
    go_wp2_with fail
    refine (shown_any W).mono ?_; rintro e w1 ⟨rfl, c1⟩
    go_wp2_with fail
    go_ret
    exact ⟨rfl, c1.below_nil⟩
  · have h3I : (b.length : Int) ≤ 30000 := by omega
    have h3d : decide ((30000 : Int) < (b.length : Int)) = false := decide_eq_false (by omega)
    go_enter Try.func6, Try.ntmps6
    go_wp2_with fail
    refine (shown_any W).mono ?_; rintro e w1 ⟨rfl, c1⟩
    go_wp2_with fail
    refine (pnew_any (W := W) max w1 c1.size).mono ?_; rintro e w2 ⟨p, hv0, rfl, h2, c2, f2⟩
    rw [← HMX.out] at h2
    go_wp2_with fail
    refine (pnew_any (W := W) max w2 (Nat.le_trans c1.size c2.size)).mono ?_; rintro e w3 ⟨q, hq0, rfl, h3', c3, f3⟩
    rw [← HMX.out] at h3'
    have P3 := Lib.hid (h2.chg0 c3); have Q3 := Lib.hid h3'; have C3 := Lib.hid ((c1.trans' c2).trans' c3)
    have HL : ∀ x ∈ footP p hv0, x < w2.heap.size := h2.lt
    have F3 := Lib.hid f3; have HL3 := Lib.hid HL
    have hqlt : ∀ x ∈ footP q hq0, x < w3.heap.size := h3'.lt
    have HQL := Lib.hid hqlt
    have c23 := c3.size
    have C23 := Lib.hid c23
    clear h2 h3' c1 c2 c3 f2 f3 HL hqlt c23 h3 h3d
    go_wp2_with fail
    have PE := Lib.hid (P3.out.chg0 ((Chg.refl w3).alloc (.cells #[.slice ba b.length bc] 22))); have QE := Lib.hid (Q3.out.chg0 ((Chg.refl w3).alloc (.cells #[.slice ba b.length bc] 22)))
    have CE : Hid (Chg [] W (w3.alloc (.cells #[.slice ba b.length bc] 22))) := Lib.hid (C3.out.alloc _)
    have SE := Lib.hid (SliceOf.one (T := 22) (enc := encP) (x := (⟨.slice ba b.length bc, b⟩ : Pc)) (size := 1) rfl (cs := #[.slice ba b.length bc]) rfl w3)
    have hblk : Hid (∀ x ∈ footP p hv0, x < w3.heap.size) := Lib.hid (fun x hx => by have := HL3.out x hx; have := C23.out; omega)
    have HQE : Hid (∀ x ∈ footP q hq0, x < (w3.alloc (.cells #[.slice ba b.length bc] 22)).heap.size) := Lib.hid (fun x hx => by have := HQL.out x hx; simp; omega)
    have hsz3 : Hid (∃ Z, Z = w3.heap.size) := Lib.hid ⟨_, rfl⟩
    obtain ⟨Z, hZ⟩ := hsz3.out
    have HZ := Lib.hid hZ
    rw [← hZ] at SE hblk ⊢
    clear P3 Q3 C3 hZ hsz3 HQL
    generalize w3.alloc (.cells #[.slice ba b.length bc] 22) = we at *
    refine (told_any PE.out (.slice (some ⟨Z, 0, none⟩) 1 1) [⟨.slice ba b.length bc, b⟩] SE.out (fun _ a n c he hx => by cases he; have := hblk.out _ hx; simp at this) (fun z hz => by
      simp only [List.mem_singleton] at hz
      subst hz
      refine ⟨HB.out.chg0 CE.out, fun h0 a n c he hx => ?_⟩
      cases he
      obtain ⟨b0, o0, he, hlt, _⟩ := HB.out.cell h0
      cases he
      have := PE.out.los _ hx
      simp only at this hlt; omega) (by simp [cat]; omega)).mono ?_; rintro e w4 ⟨hv4, r1, d1, ts1, ov1, fv1, he1, hs1, hd1⟩
    subst he1
    rw [show cat [(⟨.slice ba b.length bc, b⟩ : Pc)] = b by simp [cat]] at hd1
    have S1 := Lib.hid hs1; have D1 := Lib.hid hd1
    have Q4 := Lib.hid (QE.out.chg hs1.c (fun x hx hy => by have h1 := HL3.out x hy; have h2 := F3.out x hx; omega))
    have CW4 : Hid (Chg [] W w4) := Lib.hid (CE.out.trans hs1.c (fun x hx => Or.inr (PE.out.los x hx)))
    obtain ⟨oa1, oc1, rfl, _, _⟩ := OwnR.slice hs1.o
    obtain ⟨fa1, fc1, rfl, _, _⟩ := OwnR.slice hs1.f
    clear hs1 hd1 QE SE PE CE
    go_wp2_with fail
    refine (pieces_any (.slice ba b.length bc) b (HB.out.chg0 CW4.out) (by omega) cv cs (HC.out.chg0 CW4.out) HCI.out).mono ?_; rintro e w5 ⟨rv, ps, rfl, o5, hcat, hps, c5⟩
    have S5 := Lib.hid (S1.out.same c5); have Q5 := Lib.hid (Q4.out.chg0 c5); have CW5 := Lib.hid (CW4.out.trans' c5)
    have O5 := Lib.hid o5; have HCAT := Lib.hid hcat; have HPS := Lib.hid hps
    have CP5 := Lib.hid c5
    have e4 : Hid (we.heap.size ≤ w4.heap.size) := Lib.hid S1.out.c.size
    clear o5 hcat hps c5 S1 Q4
    go_wp2_with fail
    refine (told_any Q5.out rv (ps.map Ps.pc) (slice_map (OwnR.sl encPs_len (by decide) O5.out) (fun x => rfl)) (fun h0 a n c he hx => by
      subst he
      have h1 := own_blk O5.out (by simpa using h0)
      have h2 := HQE.out _ hx
      have := e4.out; omega) (fun z hz => by
      obtain ⟨y, hy, rfl⟩ := List.mem_map.1 hz
      obtain ⟨h1, h2⟩ := HPS.out y hy
      refine ⟨BytesOf.chg0 h1 CP5.out, fun h0 a n c he hx => ?_⟩
      have ha : y.a = some a := by
        have he' : Value.slice y.a y.b.length y.c = Value.slice (some a) n c := he
        injection he'
      obtain ⟨a', n', c', e1, e2⟩ := h2 h0 a ha
      have hbl : 0 < b.length := by have := catS_mem hy; rw [HCAT.out] at this; exact Nat.lt_of_lt_of_le h0 this
      obtain ⟨b0, o0, e3, hlt, _⟩ := HB.out.cell hbl
      subst e3
      cases e1
      have := Q5.out.los _ hx
      rw [e2] at this
      simp only at this hlt; omega) (by rw [catS_pc, HCAT.out]; omega)).mono ?_; rintro e w6 ⟨hv6, r2, d2, ts2, ov2, fv2, he2, hs2, hd2⟩
    subst he2
    rw [catS_pc, HCAT.out] at hd2
    obtain ⟨heq, rfl, rfl⟩ := D1.out.fn hd2
    have hlen : ts2.length = ts1.length := by have := congrArg List.length heq; simpa using this.symm
    have S2 := Lib.hid hs2
    have P6 := Lib.hid (S5.out.h.chg hs2.c (fun x hx hy => by
      have hq := HQE.out x hy
      rcases S5.out.k x hx with h | h
      · have h1 := HL3.out x h; have h2 := F3.out x hy; omega
      · omega))
    have noq : ∀ {e : TypeId} {s n : Nat} {v : Value} {xs : List Value} {base : Nat}, w5.ownsRow base e s v n xs → e ≠ 5 → e ≠ 81 → ∀ g, v.ownBlock = some g → g ∉ footP q hq0 := fun h h1 h2 g hg hx => by
      rcases List.mem_cons.1 hx with rfl | hx
      · exact owns_alien h Q5.out.head (fun e => h2 e.symm) (by simp [hg])
      · exact rows_apart h Q5.out.row h1 g hg hx
    have O6 := Lib.hid (OwnR.chg S5.out.o hs2.c (noq S5.out.o (by decide) (by decide)))
    have A6 := Lib.hid (OwnR.chg S5.out.f hs2.c (noq S5.out.f (by decide) (by decide)))
    have G6 : Hid (∀ x ∈ ts1, BytesOf w6 x.pv x.F.pay ∧ SliceOf w6 x.lv 2 encS x.F.list) := Lib.hid (fun x hx => by
      have hg := S5.out.g x hx
      have hg2 := hg.chg hs2.c (fun g hgg hy => by
        have h1 := (World.ownsRow.lt hg.p g hgg).1
        have h2 := HQE.out g hy
        omega) (noq hg.l (by decide) (by decide))
      exact ⟨OwnB.bytes hg2.p, OwnR.sl encS_len (by decide) hg2.l⟩)
    have K6 : Hid (∀ x ∈ ts2, BytesOf w6 x.pv x.F.pay ∧ SliceOf w6 x.lv 2 encS x.F.list) := Lib.hid (fun x hx => by
      have hg := S2.out.g x hx
      exact ⟨OwnB.bytes hg.p, OwnR.sl encS_len (by decide) hg.l⟩)
    have CW6 : Hid (Chg [] W w6) := Lib.hid (CW5.out.trans hs2.c (fun x hx => Or.inr (Q5.out.los x hx)))
    have O62 := Lib.hid hs2.o; have A62 := Lib.hid hs2.f; have Q6 := Lib.hid hs2.h
    obtain ⟨oa2, oc2, hov2, _, _⟩ := OwnR.slice hs2.o
    obtain ⟨fa2, fc2, hfv2, _, _⟩ := OwnR.slice hs2.f
    rw [hlen] at hov2 hfv2
    subst hov2 hfv2
    have HEQ := Lib.hid heq; have HLEN := Lib.hid hlen
    have TL : Hid (ts1.length ≤ 30000) := Lib.hid (by have := D1.out.left.2.2.2; rw [List.length_map] at this; omega)
    clear hs2 hd2 heq hlen noq S2 S5 Q5 CW5 CW4 CP5 O5 HPS HCAT D1
    go_wp2_with fail
    refine (psize_any P6.out).mono ?_; rintro e w7 ⟨rfl, rfl⟩
    go_wp2_with fail
    refine (psize_any Q6.out).mono ?_; rintro e w7 ⟨rfl, rfl⟩
    go_wp2_with fail
    go_loopw [16] (fun iv wr => ∃ i : Nat, i ≤ ts1.length ∧ iv = .int .i64 i ∧ Chg [] w6 wr) (fun iv _ => ts1.length - (intOf iv).toNat)
    case atStart => exact ⟨0, by omega, rfl, Chg.refl _⟩
    case round =>
      obtain ⟨i, hi, rfl, hcr⟩ := hrel
      have HCR := Lib.hid hcr
      clear hcr
      by_cases hlt : i < ts1.length
      · have hltI : (i : Int) < (ts1.length : Int) := by omega
        have tlI : (ts1.length : Int) ≤ 30000 := by have := TL.out; omega
        obtain ⟨x, hx⟩ : ∃ x, ts1[i]? = some x := ⟨_, List.getElem?_eq_getElem hlt⟩
        obtain ⟨y, hy⟩ : ∃ y, ts2[i]? = some y := ⟨_, List.getElem?_eq_getElem (by rw [HLEN.out]; exact hlt)⟩
        obtain ⟨e1, e2, e3, e4⟩ := out_eq HEQ.out hx hy
        have gx := G6.out x (List.mem_of_getElem? hx)
        have gy := K6.out y (List.mem_of_getElem? hy)
        obtain ⟨b1, o1, rfl, hb1, hc1⟩ := (OwnR.sl encFr_len (by decide) O6.out).at (by omega)
        obtain ⟨b2, o2, rfl, hb2, hc2⟩ := (OwnR.sl encFr_len (by decide) O62.out).at (by rw [HLEN.out]; omega)
        obtain ⟨b3, o3, rfl, hb3, hc3⟩ := (OwnR.sl encFa_len (by decide) A6.out).at (by omega)
        obtain ⟨b4, o4, rfl, hb4, hc4⟩ := (OwnR.sl encFa_len (by decide) A62.out).at (by rw [HLEN.out]; omega)
        have d1 := hc1 i x hx
        have d2 := hc2 i y hy
        have d3 := hc3 i x hx
        have d4 := hc4 i y hy
        obtain ⟨F, pa, pc, la, lc, is, code, st⟩ := x
        obtain ⟨F', pa', pc', la', lc', is', code', st'⟩ := y
        simp only at e1 e2 e3 e4
        subst e1 e2 e3 e4
        have D1 : b1 < wr.heap.size ∧ ∀ j, j < 16 → World.cell? wr ⟨b1, o1 + i * 16 + j, none⟩ = (encFr ⟨F', pa, pc, la, lc, is', code', st'⟩)[j]? := ⟨Nat.lt_of_lt_of_le hb1 HCR.out.size, fun j hj => by rw [HCR.out.cell hb1 (by simp)]; exact d1 j hj⟩
        have D2 : b2 < wr.heap.size ∧ ∀ j, j < 16 → World.cell? wr ⟨b2, o2 + i * 16 + j, none⟩ = (encFr ⟨F', pa', pc', la', lc', is', code', st'⟩)[j]? := ⟨Nat.lt_of_lt_of_le hb2 HCR.out.size, fun j hj => by rw [HCR.out.cell hb2 (by simp)]; exact d2 j hj⟩
        have D3 := Lib.hid (show b3 < w6.heap.size ∧ ∀ j, j < 3 → World.cell? w6 ⟨b3, o3 + i * 3 + j, none⟩ = (encFa ⟨F', pa, pc, la, lc, is', code', st'⟩)[j]? from ⟨hb3, d3⟩)
        have D4 := Lib.hid (show b4 < w6.heap.size ∧ ∀ j, j < 3 → World.cell? w6 ⟨b4, o4 + i * 3 + j, none⟩ = (encFa ⟨F', pa', pc', la', lc', is', code', st'⟩)[j]? from ⟨hb4, d4⟩)
        have x0 : ∀ q : Later [] wr, World.cell? q.world ⟨b1, o1 + i * 16, none⟩ = some (.int .i64 (F').kind) := fun q => (q.chg.cell (D1).1 (by simp) _).trans ((D1).2 0 (by omega))
        have x1 : ∀ q : Later [] wr, World.cell? q.world ⟨b1, o1 + i * 16 + 1, none⟩ = some (.int .i64 (F').stream) := fun q => (q.chg.cell (D1).1 (by simp) _).trans ((D1).2 1 (by omega))
        have x2 : ∀ q : Later [] wr, World.cell? q.world ⟨b1, o1 + i * 16 + 2, none⟩ = some (.bool (F').fin) := fun q => (q.chg.cell (D1).1 (by simp) _).trans ((D1).2 2 (by omega))
        have x3 : ∀ q : Later [] wr, World.cell? q.world ⟨b1, o1 + i * 16 + 3, none⟩ = some (.bool (F').eh) := fun q => (q.chg.cell (D1).1 (by simp) _).trans ((D1).2 3 (by omega))
        have x4 : ∀ q : Later [] wr, World.cell? q.world ⟨b1, o1 + i * 16 + 4, none⟩ = some (.bool (F').ack) := fun q => (q.chg.cell (D1).1 (by simp) _).trans ((D1).2 4 (by omega))
        have x5 : ∀ q : Later [] wr, World.cell? q.world ⟨b1, o1 + i * 16 + 5, none⟩ = some (.bool (F').prio) := fun q => (q.chg.cell (D1).1 (by simp) _).trans ((D1).2 5 (by omega))
        have x6 : ∀ q : Later [] wr, World.cell? q.world ⟨b1, o1 + i * 16 + 6, none⟩ = some (.slice pa F'.pay.length pc) := fun q => (q.chg.cell (D1).1 (by simp) _).trans ((D1).2 6 (by omega))
        have x7 : ∀ q : Later [] wr, World.cell? q.world ⟨b1, o1 + i * 16 + 7, none⟩ = some (.int .i64 (F').flags) := fun q => (q.chg.cell (D1).1 (by simp) _).trans ((D1).2 7 (by omega))
        have x8 : ∀ q : Later [] wr, World.cell? q.world ⟨b1, o1 + i * 16 + 8, none⟩ = some (.int .i64 (F').pad) := fun q => (q.chg.cell (D1).1 (by simp) _).trans ((D1).2 8 (by omega))
        have x9 : ∀ q : Later [] wr, World.cell? q.world ⟨b1, o1 + i * 16 + 9, none⟩ = some (.int .i64 (F').depend) := fun q => (q.chg.cell (D1).1 (by simp) _).trans ((D1).2 9 (by omega))
        have xa : ∀ q : Later [] wr, World.cell? q.world ⟨b1, o1 + i * 16 + 10, none⟩ = some (.bool (F').excl) := fun q => (q.chg.cell (D1).1 (by simp) _).trans ((D1).2 10 (by omega))
        have xb : ∀ q : Later [] wr, World.cell? q.world ⟨b1, o1 + i * 16 + 11, none⟩ = some (.int .i64 (F').weight) := fun q => (q.chg.cell (D1).1 (by simp) _).trans ((D1).2 11 (by omega))
        have xc : ∀ q : Later [] wr, World.cell? q.world ⟨b1, o1 + i * 16 + 12, none⟩ = some (.int .u32 (F').code) := fun q => (q.chg.cell (D1).1 (by simp) _).trans ((D1).2 12 (by omega))
        have xd : ∀ q : Later [] wr, World.cell? q.world ⟨b1, o1 + i * 16 + 13, none⟩ = some (.slice la F'.list.length lc) := fun q => (q.chg.cell (D1).1 (by simp) _).trans ((D1).2 13 (by omega))
        have xe : ∀ q : Later [] wr, World.cell? q.world ⟨b1, o1 + i * 16 + 14, none⟩ = some (.int .i64 (F').last) := fun q => (q.chg.cell (D1).1 (by simp) _).trans ((D1).2 14 (by omega))
        have xf : ∀ q : Later [] wr, World.cell? q.world ⟨b1, o1 + i * 16 + 15, none⟩ = some (.int .i64 (F').inc) := fun q => (q.chg.cell (D1).1 (by simp) _).trans ((D1).2 15 (by omega))
        have y0 : ∀ q : Later [] wr, World.cell? q.world ⟨b2, o2 + i * 16, none⟩ = some (.int .i64 (F').kind) := fun q => (q.chg.cell (D2).1 (by simp) _).trans ((D2).2 0 (by omega))
        have y1 : ∀ q : Later [] wr, World.cell? q.world ⟨b2, o2 + i * 16 + 1, none⟩ = some (.int .i64 (F').stream) := fun q => (q.chg.cell (D2).1 (by simp) _).trans ((D2).2 1 (by omega))
        have y2 : ∀ q : Later [] wr, World.cell? q.world ⟨b2, o2 + i * 16 + 2, none⟩ = some (.bool (F').fin) := fun q => (q.chg.cell (D2).1 (by simp) _).trans ((D2).2 2 (by omega))
        have y3 : ∀ q : Later [] wr, World.cell? q.world ⟨b2, o2 + i * 16 + 3, none⟩ = some (.bool (F').eh) := fun q => (q.chg.cell (D2).1 (by simp) _).trans ((D2).2 3 (by omega))
        have y4 : ∀ q : Later [] wr, World.cell? q.world ⟨b2, o2 + i * 16 + 4, none⟩ = some (.bool (F').ack) := fun q => (q.chg.cell (D2).1 (by simp) _).trans ((D2).2 4 (by omega))
        have y5 : ∀ q : Later [] wr, World.cell? q.world ⟨b2, o2 + i * 16 + 5, none⟩ = some (.bool (F').prio) := fun q => (q.chg.cell (D2).1 (by simp) _).trans ((D2).2 5 (by omega))
        have y6 : ∀ q : Later [] wr, World.cell? q.world ⟨b2, o2 + i * 16 + 6, none⟩ = some (.slice pa' F'.pay.length pc') := fun q => (q.chg.cell (D2).1 (by simp) _).trans ((D2).2 6 (by omega))
        have y7 : ∀ q : Later [] wr, World.cell? q.world ⟨b2, o2 + i * 16 + 7, none⟩ = some (.int .i64 (F').flags) := fun q => (q.chg.cell (D2).1 (by simp) _).trans ((D2).2 7 (by omega))
        have y8 : ∀ q : Later [] wr, World.cell? q.world ⟨b2, o2 + i * 16 + 8, none⟩ = some (.int .i64 (F').pad) := fun q => (q.chg.cell (D2).1 (by simp) _).trans ((D2).2 8 (by omega))
        have y9 : ∀ q : Later [] wr, World.cell? q.world ⟨b2, o2 + i * 16 + 9, none⟩ = some (.int .i64 (F').depend) := fun q => (q.chg.cell (D2).1 (by simp) _).trans ((D2).2 9 (by omega))
        have ya : ∀ q : Later [] wr, World.cell? q.world ⟨b2, o2 + i * 16 + 10, none⟩ = some (.bool (F').excl) := fun q => (q.chg.cell (D2).1 (by simp) _).trans ((D2).2 10 (by omega))
        have yb : ∀ q : Later [] wr, World.cell? q.world ⟨b2, o2 + i * 16 + 11, none⟩ = some (.int .i64 (F').weight) := fun q => (q.chg.cell (D2).1 (by simp) _).trans ((D2).2 11 (by omega))
        have yc : ∀ q : Later [] wr, World.cell? q.world ⟨b2, o2 + i * 16 + 12, none⟩ = some (.int .u32 (F').code) := fun q => (q.chg.cell (D2).1 (by simp) _).trans ((D2).2 12 (by omega))
        have yd : ∀ q : Later [] wr, World.cell? q.world ⟨b2, o2 + i * 16 + 13, none⟩ = some (.slice la' F'.list.length lc') := fun q => (q.chg.cell (D2).1 (by simp) _).trans ((D2).2 13 (by omega))
        have ye : ∀ q : Later [] wr, World.cell? q.world ⟨b2, o2 + i * 16 + 14, none⟩ = some (.int .i64 (F').last) := fun q => (q.chg.cell (D2).1 (by simp) _).trans ((D2).2 14 (by omega))
        have yf : ∀ q : Later [] wr, World.cell? q.world ⟨b2, o2 + i * 16 + 15, none⟩ = some (.int .i64 (F').inc) := fun q => (q.chg.cell (D2).1 (by simp) _).trans ((D2).2 15 (by omega))
        have gx1 : BytesOf w6 (.slice pa F'.pay.length pc) F'.pay := gx.1
        have gx2 : SliceOf w6 (.slice la F'.list.length lc) 2 encS F'.list := gx.2
        have gy1 : BytesOf w6 (.slice pa' F'.pay.length pc') F'.pay := gy.1
        have gy2 : SliceOf w6 (.slice la' F'.list.length lc') 2 encS F'.list := gy.2
        have SM : Hid (∀ q : Later [] wr, Calls Try.prog 16 #[.agg (fcs (F'.mem (.slice pa F'.pay.length pc) (.slice la F'.list.length lc))), .agg (fcs (F'.mem (.slice pa' F'.pay.length pc') (.slice la' F'.list.length lc')))] q.world fun e w' => e = .returned (.bool true) ∧ Chg [] q.world w') := Lib.hid (fun q => same_any F' _ _ _ _ ((gx1.chg0 HCR.out).chg0 q.chg) ((gy1.chg0 HCR.out).chg0 q.chg) ((gx2.chg0 HCR.out).chg0 q.chg) ((gy2.chg0 HCR.out).chg0 q.chg))
        have hlt2 : Hid (i < ts2.length) := Lib.hid (by rw [HLEN.out]; exact hlt)
        clear d1 d2 d3 d4 D1 D2 gx gy gx1 gx2 gy1 gy2 hc1 hc2 hc3 hc4 hb1 hb2 hb3 hb4 hx hy
        go_wp2_with fail
        refine wp_region_later (S := []) (by kernel_rfl) (by kernel_rfl) ?_
        repeat (go_big_quiet_step (first | (go_at_call 16; exact Calls.later (SM.out _))))
        refine wpQuiet_nil ?_
        intro _ hw'
        obtain ⟨xq, rfl⟩ := hw'
        have hcq := xq.chg
        generalize xq.world = w9 at *
        have C9 := Lib.hid (HCR.out.trans' hcq)
        clear hcq x0 x1 x2 x3 x4 x5 x6 x7 x8 x9 xa xb xc xd xe xf y0 y1 y2 y3 y4 y5 y6 y7 y8 y9 ya yb yc yd ye yf SM
        have z0 : World.cell? w9 ⟨b3, o3 + i * 3, none⟩ = some (.bool is') := (C9.out.cell D3.out.1 (by simp) _).trans (D3.out.2 0 (by omega))
        have z1 : World.cell? w9 ⟨b3, o3 + i * 3 + 1, none⟩ = some (.int .u32 (code' : Nat)) := (C9.out.cell D3.out.1 (by simp) _).trans (D3.out.2 1 (by omega))
        have z2 : World.cell? w9 ⟨b3, o3 + i * 3 + 2, none⟩ = some (.int .i64 (st' : Nat)) := (C9.out.cell D3.out.1 (by simp) _).trans (D3.out.2 2 (by omega))
        have v0 : World.cell? w9 ⟨b4, o4 + i * 3, none⟩ = some (.bool is') := (C9.out.cell D4.out.1 (by simp) _).trans (D4.out.2 0 (by omega))
        have v1 : World.cell? w9 ⟨b4, o4 + i * 3 + 1, none⟩ = some (.int .u32 (code' : Nat)) := (C9.out.cell D4.out.1 (by simp) _).trans (D4.out.2 1 (by omega))
        have v2 : World.cell? w9 ⟨b4, o4 + i * 3 + 2, none⟩ = some (.int .i64 (st' : Nat)) := (C9.out.cell D4.out.1 (by simp) _).trans (D4.out.2 2 (by omega))
        go_wp2_with fail
        go_quiet (fail)
        go_wp2_with fail
        go_roundw
        case rel => exact ⟨i + 1, by omega, by go_num, C9.out.drewN _⟩
        case measure => simp [intOf]; omega
      · have hltI : ¬ (i : Int) < (ts1.length : Int) := by omega
        go_wp2_with fail
        go_ret
        exact ⟨rfl, (CW6.out.trans' HCR.out).below_nil⟩

/-! ### The row's step -/
theorem own : ownKnob Try.prog.godebug = none := by kernel_rfl
theorem laid : laidOutB Try.prog = true := by kernel_rfl

set_option maxRecDepth 100000 in
theorem lifted (os : Os) (started : os.Started) (H : Type) (enc : TypeId × Value → H) :
    ReturnsInHanded {} Try.checked os 6 .any (Rows.framePiecesSpec.pre6 enc Try.prog Try.f6 Rows.framePiecesRow.domain false) (Rows.framePiecesSpec.post enc Try.prog Try.f6 false true false false) := by
  refine lift_law (C := Try.checked) (tb := 4) own started (by kernel_rfl) Try.func6
    (ChangeSpec.witness6 (enc := enc) (C := Try.checked) false ⟨#[], #[.int .i64 0, .slice none 0 0, .slice none 0 0], []⟩ 8 (by kernel_rfl) (by kernel_rfl) (by kernel_rfl) (by kernel_rfl))
    laid (by rw [Try.params6]; intro t ht; simp only [List.mem_cons, List.not_mem_nil, or_false] at ht; rcases ht with rfl | rfl | rfl <;> exact ⟨by kernel_rfl, of_decide_eq_true (by kernel_rfl)⟩) (by kernel_rfl) Try.underlying4 rfl
    (fun ds h => by rw [Try.params6] at h; match ds, h with | [d0, d1, d2], _ => rfl) ?_
  intro W base args ds before hval hA hlt hsz
  rw [Try.params6] at hA hval
  try rw [Try.params6] at hsz
  have hlt0 := hlt
  obtain ⟨v0, vs0, d0, ds0, p0, q0, hargs, rfl, rfl, h0, r0⟩ := trodAll_cons hA
  obtain ⟨v1, vs1, d1, ds1, p1, q1, rfl, rfl, rfl, h1, r1⟩ := trodAll_cons r0
  obtain ⟨v2, vs2, d2, ds2, p2, q2, rfl, rfl, rfl, h2, r2⟩ := trodAll_cons r1
  obtain ⟨rfl, rfl, rfl⟩ := trodAll_nil r2
  obtain rfl : args = #[v0, v1, v2] := by cases args; simp_all
  have l0 : ∀ p ∈ p0, p.block < W.heap.size := fun x hx => hlt x (by simp [hx])
  have l1 : ∀ p ∈ p1, p.block < W.heap.size := fun x hx => hlt x (by simp [hx])
  have l2 : ∀ p ∈ p2, p.block < W.heap.size := fun x hx => hlt x (by simp [hx])
  obtain ⟨n0, rfl, rfl, rfl, wn0⟩ := open_int Try.underlying3 (hval 0 3 v0 rfl rfl) h0
  obtain ⟨l1, m1, s1⟩ := open_bytes (hval 1 22 v1 rfl rfl) h1 l1
  obtain ⟨l2, g2, _, s2⟩ := open_arg_slice 1 encI I64 Try.underlying58 (by kernel_rfl) (by omega) (hval 2 58 v2 rfl rfl) decI h2 l2
  exact walk n0 v1 v2 l1 l2 W s1 s2 g2

theorem over : Rows.framePiecesRow.holds Try.pinned (OpenSpec.ofChange Rows.framePiecesSpec) :=
  OpenClaim.holds_of_wide 6 Try.f6 rfl rfl rfl rfl rfl rfl rfl ⟨rfl, rfl, rfl, rfl, rfl⟩ rfl rfl rfl rfl rfl (by kernel_rfl) Try.func6 (by kernel_rfl)
    (of_decide_eq_true (by kernel_rfl)) (by unfold Func.isWrapper; first | (rw [if_pos (by decide +kernel)]; kernel_rfl) | (rw [if_neg (by decide +kernel)]; exact ⟨rfl, rfl⟩))
    (fun os started H enc _ => lifted os started H enc)

/-- The statement. -/
theorem proved : Rows.FramePiecesSaid :=
  over
#print axioms proved

end Go.Proofs.Ythhgnipiaohplaa.Pieces
