/-
  The walk of Decode.
-/
import Derived.Test.YtmoeioaahampaaaHdU
import Derived.Test.YtmoeioaahampaaaHdF
import Derived.Test.YtmoeioaahampaaaTab3
import Derived.Deep.RegionHeldLaw
import Derived.Deep.DrawnRows
import Derived.Deep.DeepCutAuto
import Derived.Deep.CutBlock
import Derived.StillTailTactics
namespace Go.Proofs.Ytmoeioaahampaaa.Tb.Hp
open Go.ChangeShapes Go.WideShapes Go.ChangeAt Go.RowKit
open Go.Proofs.Ytmoeioaahampaaa.B Go.Proofs.Ytmoeioaahampaaa.Hi Go.Proofs.Ytmoeioaahampaaa.Tb
open Go.Proofs.Ytmoeioaahampaaa.Hf (bx need enc dec bitsOf)
set_option linter.unusedVariables false
set_option linter.unusedSimpArgs false

/-- How much a reader has left to do. -/
def rmeas (r : Nat) (w : World) : Nat := (match w.cell? ⟨r, 0, none⟩ with | some (.slice _ n _) => 2 * n | _ => 0) + (match w.cell? ⟨r, 1, none⟩ with | some (.bool false) => 1 | _ => 0)
theorem RdH.meas {w : World} {B : Nat} {F : List Nat} {r : Nat} {sv : Value} {l : List UInt8} {bad : Bool} (h : RdH w B F r sv l bad) : rmeas r w = 2 * l.length + (if bad = true then 0 else 1) := by
  obtain ⟨a, cap, rfl, _, _⟩ := h.bytes.slice
  have x0 : World.cell? w ⟨r, 0, none⟩ = some (.slice a l.length cap) := h.head.cell rfl
  have x1 : World.cell? w ⟨r, 1, none⟩ = some (.bool bad) := h.head.cell rfl
  unfold rmeas; rw [x0, x1]; cases bad <;> rfl
/-- The fields, of a block that may be none already. -/
def finR (bad : Bool) (m : Nat) (es : List Fd) (l : List UInt8) : List Fd × Bool × List Fd := if bad = true then ([], true, es) else fldR m l.length es l
theorem decB_fin {m : Nat} {es : List Fd} {limit : Nat} {list : Int} {l l1 : List UInt8} {bad : Bool} {m1 : Nat} {es1 : List Fd} (hU : updR limit l.length m es l = (l1, bad, m1, es1)) {X : List Fd × Bool × List Fd} (hX : X = finR (bad || decide (limit < m1)) m1 es1 l1) :
    decB m es limit list false l = if X.2.1 = true then ([], 3, true, m1, X.2.2) else if list < (tot X.1 : Int) then ([], 4, false, m1, X.2.2) else (X.1, 0, false, m1, X.2.2) := by
  unfold decB
  rw [if_neg (by simp), hU, hX]
  unfold finR
  by_cases h : bad = true ∨ limit < m1
  · have hb : (bad || decide (limit < m1)) = true := by
      rcases h with rfl | h
      · rfl
      · rw [decide_eq_true h]; simp
    show (if bad = true ∨ limit < m1 then _ else _) = _
    rw [if_pos h, hb, if_pos rfl, if_pos rfl]
  · have hb : (bad || decide (limit < m1)) = false := by
      cases bad with
      | true => exact absurd (Or.inl rfl) h
      | false => exact decide_eq_false (fun h1 => h (Or.inr h1))
    show (if bad = true ∨ limit < m1 then _ else _) = _
    rw [if_neg h, hb, if_neg (show ¬ (false = true) by simp)]
theorem updR_step {limit k m : Nat} {es : List Fd} {l : List UInt8} (h : 0 < l.length) (h1 : (l.headD 0).toNat / 32 = 1) : updR limit (k + 1) m es l =
    if (getI l 5).2.2 ≠ 0 ∨ limit < (getI l 5).1 then (l.drop (getI l 5).2.1, true, m, es)
    else updR limit k (hgt ((getI l 5).1 : Int)) (Tb.fit 0 (hgt ((getI l 5).1 : Int)) es) (l.drop (getI l 5).2.1) := by
  rw [updR, if_pos ⟨h, h1⟩]
theorem fldR_step {m k : Nat} {es : List Fd} {l : List UInt8} (h : 0 < l.length) : fldR m (k + 1) es l =
      if (fieldR m es l).2.2.1 = true then ([(fieldR m es l).1], true, (fieldR m es l).2.2.2)
      else ((fieldR m es l).1 :: (fldR m k (fieldR m es l).2.2.2 (fieldR m es l).2.1).1, (fldR m k (fieldR m es l).2.2.2 (fieldR m es l).2.1).2) := by
  rw [fldR, if_pos h]
set_option maxRecDepth 100000 in
set_option maxHeartbeats 8000000 in
theorem decode_any {W w : World} {d : Nat} {F : List Nat} {p m : Nat} {es : List Fd} {limit : Nat} {list : Int} {broken : Bool} (hd : DH W w d F p m es limit list broken) (sv : Value) (l : List UInt8) (hb : BytesOf w sv l)
    (hap : 0 < l.length → ∀ a n cap, sv = .slice (some a) n cap → a.block < w.heap.size ∧ a.block ∉ d :: F) (hl : l.length ≤ 100000) :
    Calls Try.prog 14 #[.pointer (some ⟨d, 0, none⟩), sv] w fun e w' => ∃ rv F', e = .returned (.tuple #[rv, .int .i64 ((decB m es limit list broken l).2.1 : Nat)]) ∧ OwnF w' w.heap.size rv (decB m es limit list broken l).1 ∧
      DH W w' d F' p (decB m es limit list broken l).2.2.2.1 (decB m es limit list broken l).2.2.2.2 limit list (decB m es limit list broken l).2.2.1 ∧ Fresh F' F w ∧ Chg (d :: F) w w' ∧ ∀ x ∈ d :: F', x ∉ rv.ownBlock.toList := by
  obtain ⟨a0, cap0, rfl, hc0, hc1⟩ := hb.slice
  have x3 : World.cell? w ⟨d, 3, none⟩ = some (.bool broken) := hd.head.cell rfl
  have hWw : W.heap.size ≤ w.heap.size := hd.tab.below.size
  have hdl := hd.head.lt
  cases broken with
  | true =>
    have HD := Lib.hid hd
    clear hd hb hap
    go_enter Try.func14, Try.ntmps14
    go_wp2_with fail
    go_ret2
    exact ⟨_, F, rfl, OwnR.nil _ _, HD.out, fun x hx => Or.inl hx, Chg.refl _, by simp [Value.ownBlock]⟩
  | false =>
    obtain ⟨U, hU⟩ : ∃ U, updR limit l.length m es l = U := ⟨_, rfl⟩
    have HU := Lib.hid hU
    obtain ⟨w0, hw0⟩ : ∃ w0, w0 = w.alloc (.cells #[.slice a0 l.length cap0, .bool false] 72) := ⟨_, rfl⟩
    obtain ⟨r, hr⟩ : ∃ r, r = w.heap.size := ⟨_, rfl⟩
    have hR0 : RdH w0 r (d :: F) r (.slice a0 l.length cap0) l false := by
      rw [hw0, hr]
      exact ⟨At.new _ _, hb.chg0 ((Chg.refl w).alloc _), hap, Nat.le_refl _⟩
    have hD0 : DH W w0 d F p m es limit list false := by rw [hw0]; exact hd.chg0 ((Chg.refl w).alloc _)
    have hC0 : Chg (d :: F) w w0 := by rw [hw0]; exact (Chg.refl w).alloc _
    have HR0 := Lib.hid hR0; have HD0 := Lib.hid hD0; have HC0 := Lib.hid hC0
    have hs0 : w0.heap.size = r + 1 := by rw [hw0, hr]; simp
    clear hd hb hap hU hR0 hD0 hC0
    go_enter Try.func14, Try.ntmps14
    go_upto_block 0 with fail
    rw [← hr, ← hw0]
    have HW0 := Lib.hid hw0; have HRW := Lib.hid hr
    have hrw : w.heap.size ≤ r := by omega
    have hwr : r ≤ w.heap.size := by omega
    clear hw0 hr x3
    go_cut [] (fun wx => ∃ sv' l' bad m' es' F', RdH wx r (d :: F) r sv' l' bad ∧ DH W wx d F' p m' es' limit list false ∧ Fresh F' F w ∧ Chg (d :: F) w wx ∧ l'.length ≤ l.length ∧ U = (l', bad, m', es'))
    case first =>
      go_wp2_with fail
      go_loopw [] (fun wr => ∃ sv' l' bad m' es' F', RdH wr r (d :: F) r sv' l' bad ∧ DH W wr d F' p m' es' limit list false ∧ Fresh F' F w ∧ Chg (d :: F) w wr ∧ l'.length ≤ l.length ∧ (bad = true → U = (l', true, m', es')) ∧ (bad = false → ∃ k, l'.length ≤ k ∧ updR limit k m' es' l' = U)) (fun wr => rmeas r wr)
      case atStart => exact ⟨_, l, false, m, es, F, HR0.out, HD0.out, fun x hx => Or.inl hx, HC0.out, Nat.le_refl _, by simp, fun _ => ⟨l.length, Nat.le_refl _, HU.out⟩⟩
      case round =>
        obtain ⟨sv', l', bad, m', es', F', hR, hD, hFr, hC, hll, hbad, hgood⟩ := hrel
        clear HR0 HD0 HC0
        by_cases h0 : 0 < l'.length
        · skip
          obtain ⟨c, t, hct⟩ : ∃ c t, l' = c :: t := by
            cases l' with
            | nil => simp at h0
            | cons c t => exact ⟨c, t, rfl⟩
          have hhd : l'.headD 0 = c := by rw [hct]; rfl
          obtain ⟨ba, cap, rfl, hcap, hcapm⟩ := hR.bytes.slice
          obtain ⟨b, off, rfl, hbw, hcell⟩ := hR.bytes.cell h0
          have q0 := hcell 0 c (by rw [hct]; rfl)
          rw [Nat.add_zero] at q0
          have hcl : c.toNat < 256 := c.toNat_lt
          have x0 : World.cell? wr ⟨r, 0, none⟩ = some (.slice (some ⟨b, off, none⟩) l'.length cap) := hR.head.cell rfl
          have x1 : World.cell? wr ⟨r, 1, none⟩ = some (.bool bad) := hR.head.cell rfl
          have HR := Lib.hid hR; have HD := Lib.hid hD; have HFr := Lib.hid hFr; have HC := Lib.hid hC; have HBAD := Lib.hid hbad; have HGOOD := Lib.hid hgood
          clear hR hD hFr hC hbad hgood hcell hct
          have hl0 : (0 : Int) < (l'.length : Int) := by omega
          by_cases h32 : c.toNat / 32 = 1
          · cases bad with
            | true =>
              have HK := Lib.hid hhd
              obtain ⟨k, hk⟩ : ∃ k : Nat, k = c.toNat := ⟨_, rfl⟩
              rw [← hk] at hcl q0 h32
              have g5 : ((k : Int) / 32 == 1) = true := by simp; omega
              clear hk hhd
              go_wp2_with fail
              go_meet
              exact ⟨_, l', true, m', es', F', HR.out, HD.out, HFr.out, HC.out, hll, by first | exact HBAD.out rfl | exact HBAD.out trivial⟩
            | false =>
              obtain ⟨k0, hk0, hk1⟩ := HGOOD.out rfl
              obtain ⟨k1, rfl⟩ : ∃ k1, k0 = k1 + 1 := ⟨k0 - 1, by omega⟩
              rw [updR_step h0 (by rw [hhd]; exact h32)] at hk1
              have hgn := getI_n l' 5
              have hle := getI_le l' 5
              obtain ⟨G, hG⟩ : ∃ G, G = getI l' 5 := ⟨_, rfl⟩
              rw [← hG] at hk1 hgn hle
              have HG := Lib.hid hG
              have HK1 := Lib.hid hk1
              obtain ⟨V, n, E⟩ := G
              simp only at hgn hle
              obtain ⟨k, hk⟩ : ∃ k : Nat, k = c.toNat := ⟨_, rfl⟩
              rw [← hk] at hcl q0 h32
              have g5 : ((k : Int) / 32 == 1) = true := by simp; omega
              clear hG hk1 hk hhd HGOOD HBAD
              go_wp2_with fail
              refine (number_any HR.out 5).mono ?_; rintro e w1 ⟨he, ⟨sv1, r1⟩, c1⟩
              rw [show ((5 : Nat) : Int) = 5 from rfl, ← HG.out] at he r1; subst he
              have HRA := Lib.hid (HD.out.alien HR.out.head (by decide) (by decide) (by decide))
              have HRr := HR.out.lo
              have HMO := Lib.hid HR.out.meas
              have HR1 := Lib.hid r1; have HD1 := Lib.hid (HD.out.chg c1 (fun x hx hz => by simp at hz; subst hz; exact HRA.out hx) (fun x hx => by simp at hx; omega)); have HC1 := Lib.hid (HC.out.trans c1 (fun x hx => Or.inr (by simp at hx; omega)))
              have hs1 := c1.size
              have hsw := HC.out.size
              clear r1 c1 HR HD HC x0 x1 q0
              have x0 : World.cell? w1 ⟨d, 1, none⟩ = some (.int .i64 limit) := HD1.out.head.cell rfl
              by_cases hV : limit < V
              · have gV : decide ((limit : Int) < (V : Int)) = true := decide_eq_true (by omega)
                have x1 : World.cell? w1 ⟨r, 1, none⟩ = some (.bool (false || decide (E ≠ 0))) := HR1.out.head.cell rfl
                have xf : ∀ j, World.frozen? w1 ⟨r, j, none⟩ = false := fun j => HR1.out.head.free j
                go_wp2_with fail
                have hR2 := HR1.out.put1 true
                have hcr : Chg [r] w1 (w1.setCell ⟨r, 1, none⟩ (.bool true)) := (Chg.refl w1).setCell (Or.inl (by simp)) _
                go_roundw
                case rel =>
                  refine ⟨_, _, true, m', es', F', hR2, HD1.out.chg hcr (fun x hx hz => by simp at hz; subst hz; exact HRA.out hx) (fun x hx => by simp at hx; omega), HFr.out, HC1.out.trans hcr (fun x hx => Or.inr (by simp at hx; omega)), by rw [List.length_drop]; omega, fun _ => ?_, by simp⟩
                  have := HK1.out
                  rw [if_pos (Or.inr hV)] at this
                  exact this.symm
                case measure =>
                  rw [hR2.meas, HMO.out, List.length_drop]
                  simp; omega
              · have gV : decide ((limit : Int) < (V : Int)) = false := decide_eq_false (by omega)
                obtain ⟨eb, heb⟩ : ∃ eb, eb = decide (E ≠ 0) := ⟨_, rfl⟩
                have HR1' : Hid (RdH w1 r (d :: F) r sv1 (l'.drop n) eb) := Lib.hid (by rw [heb]; exact HR1.out)
                clear HR1
                have x1 : World.cell? w1 ⟨r, 1, none⟩ = some (.bool eb) := HR1'.out.head.cell rfl
                cases eb with
                | true =>
                  have hE : E ≠ 0 := of_decide_eq_true heb.symm
                  clear heb
                  go_wp2_with fail
                  go_roundw
                  case rel =>
                    refine ⟨_, _, true, m', es', F', HR1'.out, HD1.out, HFr.out, HC1.out, by rw [List.length_drop]; omega, fun _ => ?_, by simp⟩
                    have := HK1.out
                    rw [if_pos (Or.inl hE)] at this
                    exact this.symm
                  case measure =>
                    rw [HR1'.out.meas, HMO.out, List.length_drop]
                    simp; omega
                | false =>
                  have hE : E = 0 := by
                    have := of_decide_eq_false heb.symm
                    omega
                  have hn1 := hgn.2 hE
                  have HE0 := Lib.hid hE
                  clear heb hE
                  have x2 : World.cell? w1 ⟨d, 0, none⟩ = some (.pointer (some ⟨p, 0, none⟩)) := HD1.out.head.cell rfl
                  have hHV : hgt (V : Int) ≤ 65536 := hgt_le _
                  go_wp2_with fail
                  refine (H_set (V : Int) _ HD1.out.tab).mono ?_; rintro e w2 ⟨rfl, ⟨F2, h2, f2⟩, c2⟩
                  have hR2 := HR1'.out.chg c2 (fun hx => HRA.out (List.mem_cons_of_mem _ hx)) (fun x hx => (HFr.out x hx).imp (fun h => List.mem_cons_of_mem _ h) (fun h => by omega))
                  have hd2 := HD1.out.head.chg c2 HD1.out.nf
                  have hD2 : DH W w2 d F2 p (hgt (V : Int)) (Tb.fit 0 (hgt (V : Int)) es') limit list false := ⟨hd2, h2, fun hx => (f2 d hx).elim HD1.out.nf (fun h => by omega), HD1.out.lo, HD1.out.b1⟩
                  have hF2 : Fresh F2 F w := fun x hx => (f2 x hx).elim (HFr.out x) (fun h => Or.inr (by omega))
                  have hC2 := HC1.out.trans c2 (fun x hx => (HFr.out x hx).imp (fun h => List.mem_cons_of_mem _ h) id)
                  have HR2 := Lib.hid hR2; have HD2 := Lib.hid hD2; have HF2 := Lib.hid hF2; have HC2 := Lib.hid hC2
                  clear hR2 hD2 hF2 hC2 hd2 h2 f2 c2
                  go_wp2_with fail
                  go_roundw
                  case rel =>
                    refine ⟨_, _, false, _, _, F2, HR2.out, HD2.out, HF2.out, HC2.out, by rw [List.length_drop]; omega, by simp, fun _ => ⟨k1, by rw [List.length_drop]; omega, ?_⟩⟩
                    have := HK1.out
                    rw [if_neg (fun h => h.elim (fun h => h HE0.out) hV)] at this
                    exact this
                  case measure =>
                    rw [HR2.out.meas, HMO.out, List.length_drop]
                    simp; omega
          · have hu : bad = false → U = (l', false, m', es') := fun h => by
              obtain ⟨k0, _, hk⟩ := HGOOD.out h
              rw [updR_stop (by rw [hhd]; exact fun h => h32 h.2)] at hk
              exact hk.symm
            have HUU : Hid (U = (l', bad, m', es')) := Lib.hid (by cases bad with | true => exact HBAD.out rfl | false => exact hu rfl)
            obtain ⟨k, hk⟩ : ∃ k : Nat, k = c.toNat := ⟨_, rfl⟩
            rw [← hk] at hcl q0 h32
            have g5 : ((k : Int) / 32 == 1) = false := by simp; omega
            clear hk hhd hu HBAD HGOOD
            go_wp2_with fail
            go_meet
            exact ⟨_, l', bad, m', es', F', HR.out, HD.out, HFr.out, HC.out, hll, HUU.out⟩
        · have hu : bad = false → U = (l', false, m', es') := fun h => by
            obtain ⟨k0, _, hk⟩ := hgood h
            rw [updR_stop (fun h => h0 h.1)] at hk
            exact hk.symm
          have HUU : Hid (U = (l', bad, m', es')) := Lib.hid (by cases bad with | true => exact hbad rfl | false => exact hu rfl)
          obtain ⟨ba, cap, rfl, hcap, hcapm⟩ := hR.bytes.slice
          have x0 : World.cell? wr ⟨r, 0, none⟩ = some (.slice ba l'.length cap) := hR.head.cell rfl
          have x1 : World.cell? wr ⟨r, 1, none⟩ = some (.bool bad) := hR.head.cell rfl
          have hl0 : decide ((0 : Int) < (l'.length : Int)) = false := decide_eq_false (by omega)
          have HR := Lib.hid hR; have HD := Lib.hid hD; have HFr := Lib.hid hFr; have HC := Lib.hid hC
          clear hR hD hFr hC hbad hgood hu
          go_wp2_with fail
          go_meet
          exact ⟨_, l', bad, m', es', F', HR.out, HD.out, HFr.out, HC.out, hll, HUU.out⟩
    case rest =>
      obtain ⟨sv', l', bad, m', es', F', hR, hD, hFr, hC, hll, rfl⟩ := hcut
      clear HR0 HD0 HC0
      go_upto_region 10 with fail
      have HR := Lib.hid hR; have HD := Lib.hid hD; have HFr := Lib.hid hFr; have HC := Lib.hid hC
      have HRr := HR.out.lo
      have HRA := Lib.hid (HD.out.alien HR.out.head (by decide) (by decide) (by decide))
      clear hR hD hFr hC
      go_cut [] (fun wx => RdH wx r (d :: F) r sv' l' (bad || decide (limit < m')) ∧ DH W wx d F' p m' es' limit list false ∧ Chg (d :: F) w wx)
      case first =>
        have hcr : ∀ (u : World) b, Chg [r] u (u.setCell ⟨r, 1, none⟩ (.bool b)) := fun u b => (Chg.refl u).setCell (Or.inl (by simp)) _
        have hfin : ∀ b, b = (bad || decide (limit < m')) → RdH (wc.drew.setCell ⟨r, 1, none⟩ (.bool b)) r (d :: F) r sv' l' (bad || decide (limit < m')) ∧ DH W (wc.drew.setCell ⟨r, 1, none⟩ (.bool b)) d F' p m' es' limit list false ∧ Chg (d :: F) w (wc.drew.setCell ⟨r, 1, none⟩ (.bool b)) := fun b hb => by
          have h1 := HR.out.chg0 (Chg.refl wc).drew
          have h2 := HD.out.chg0 (Chg.refl wc).drew
          exact ⟨hb ▸ h1.put1 b, h2.chg (hcr _ _) (fun x hx hz => by simp at hz; subst hz; exact HRA.out hx) (fun x hx => by simp at hx; omega), (HC.out.drew).trans (hcr _ _) (fun x hx => Or.inr (by simp at hx; omega))⟩
        have HFIN := Lib.hid hfin
        clear hfin hcr
        have x1 : World.cell? wc ⟨r, 1, none⟩ = some (.bool bad) := HR.out.head.cell rfl
        have xf : ∀ j, World.frozen? wc ⟨r, j, none⟩ = false := fun j => HR.out.head.free j
        cases bad with
        | true =>
          go_region
          all_goals go_wp2_with fail
          all_goals go_meet
          all_goals exact HFIN.out _ rfl
        | false =>
          have x2 : World.cell? wc ⟨d, 0, none⟩ = some (.pointer (some ⟨p, 0, none⟩)) := HD.out.head.cell rfl
          have x4 : World.cell? wc ⟨d, 1, none⟩ = some (.int .i64 limit) := HD.out.head.cell rfl
          obtain ⟨lt, hlt⟩ : ∃ lt, lt = decide (limit < m') := ⟨_, rfl⟩
          have g : decide ((limit : Int) < (m' : Int)) = lt := by rw [hlt]; exact decide_eq_decide.2 (by omega)
          have HMX : Hid (Calls Try.prog 39 #[.pointer (some ⟨p, 0, none⟩)] wc.drew fun e w' => e = .returned (.int .i64 (m' : Nat)) ∧ w' = wc.drew) :=
            Lib.hid ((H_max _ (HD.out.chg0 (Chg.refl wc).drew).tab).mono (fun e w' h => ⟨h.1, h.2.symm⟩))
          refine wp_region_still_tail 20 (by kernel_rfl) (by kernel_rfl) ?_
          simp only [List.take_succ_cons, List.take_zero, List.drop_succ_cons, List.drop_zero]
          repeat (first | still_step | (still_call (HMX.out)))
          refine wpStill_nil ?_
          change wpList _ _ _ _ _ wc.drew
          go_wp2_with fail
          go_meet
          exact HFIN.out _ (by simp)
      case rest =>
        obtain ⟨hR, hD, hC⟩ := hcut
        have HFr2 := HFr
        obtain ⟨bd, hbd⟩ : ∃ bd, bd = (bad || decide (limit < m')) := ⟨_, rfl⟩
        rw [← hbd] at hR
        obtain ⟨Z, hZ⟩ : ∃ Z, Z = finR bd m' es' l' := ⟨_, rfl⟩
        have HFB : Hid (decB m es limit list false l = if Z.2.1 = true then ([], 3, true, m', Z.2.2) else if list < (tot Z.1 : Int) then ([], 4, false, m', Z.2.2) else (Z.1, 0, false, m', Z.2.2)) := Lib.hid (decB_fin HU.out (by rw [hZ, hbd]))
        have HZ := Lib.hid hZ
        have HR2 := Lib.hid hR; have HD2 := Lib.hid hD; have HC2 := Lib.hid hC
        clear hR hD hC hZ hbd HR HD HC HU HRA HFr
        go_upto_block 2 with fail
        go_cut [8, 9] (fun ov nv wx => ∃ (n : Nat) (acc : List Fd) (bd2 : Bool) (es2 : List Fd) (sv2 : Value) (l2 : List UInt8) (F2 : List Nat), nv = .int .i64 n ∧ n = tot acc ∧ n ≤ 600032 * 100001 ∧ OwnF wx w.heap.size ov acc ∧ RdH wx r (d :: F) r sv2 l2 bd2 ∧ DH W wx d F2 p m' es2 limit list false ∧ Fresh F2 F w ∧ Chg (d :: F) w wx ∧ (∀ x ∈ F2, x ∉ ov.ownBlock.toList) ∧ Z = (acc, bd2, es2))
        case first =>
          go_wp2_with fail
          go_loopw [8, 9] (fun ov nv wr => ∃ (n : Nat) (acc : List Fd) (bd2 : Bool) (es2 : List Fd) (sv2 : Value) (l2 : List UInt8) (F2 : List Nat), nv = .int .i64 n ∧ n = tot acc ∧ n ≤ 600032 * acc.length ∧ OwnF wr w.heap.size ov acc ∧ RdH wr r (d :: F) r sv2 l2 bd2 ∧ DH W wr d F2 p m' es2 limit list false ∧ Fresh F2 F w ∧ Chg (d :: F) w wr ∧ (∀ x ∈ F2, x ∉ ov.ownBlock.toList) ∧ acc.length ≤ 100001 ∧ l2.length ≤ 100000 ∧ (bd2 = true → Z = (acc, true, es2)) ∧ (bd2 = false → acc.length + l2.length ≤ 100000 ∧ ∃ k, l2.length ≤ k ∧ Z = (acc ++ (fldR m' k es2 l2).1, (fldR m' k es2 l2).2))) (fun _ _ wr => rmeas r wr)
          case atStart =>
            refine ⟨0, [], bd, es', sv', l', F', rfl, rfl, by simp, OwnR.nil _ _, HR2.out, HD2.out, HFr2.out, HC2.out, by simp [Value.ownBlock], by simp, by omega, fun h => ?_, fun h => ⟨by simp; omega, l'.length, Nat.le_refl _, ?_⟩⟩
            · rw [HZ.out, h]; rfl
            · rw [HZ.out, h]; rfl
          case round =>
            obtain ⟨n, acc, bd2, es2, sv2, l2, F2, rfl, hn, hnb, hO, hR, hD, hFr, hC, hap, hal, hl2, hbad, hgood⟩ := hrel
            have HOX := Lib.hid hap
            clear hap
            clear HR2 HD2 HC2 HFr2
            obtain ⟨ba, cap, rfl, hcap, hcapm⟩ := hR.bytes.slice
            have x0 : World.cell? wr ⟨r, 0, none⟩ = some (.slice ba l2.length cap) := hR.head.cell rfl
            have x1 : World.cell? wr ⟨r, 1, none⟩ = some (.bool bd2) := hR.head.cell rfl
            have HR := Lib.hid hR; have HD := Lib.hid hD; have HFr := Lib.hid hFr; have HC := Lib.hid hC; have HO := Lib.hid hO; have HN := Lib.hid hn
            by_cases h0 : 0 < l2.length
            · have g0 : decide ((0 : Int) < (l2.length : Int)) = true := decide_eq_true (by omega)
              cases bd2 with
              | true =>
                have HBAD : Hid (Z = (acc, true, es2)) := Lib.hid (hbad rfl)
                clear hbad hgood hR hD hFr hC hO hn
                go_wp2_with fail
                go_meet
                exact ⟨n, acc, true, es2, _, l2, F2, rfl, HN.out, by omega, HO.out, HR.out, HD.out, HFr.out, HC.out, HOX.out, HBAD.out⟩
              | false =>
                obtain ⟨hal2, k0, hk0, hk1⟩ := hgood rfl
                obtain ⟨k1, rfl⟩ : ∃ k1, k0 = k1 + 1 := ⟨k0 - 1, by omega⟩
                rw [fldR_step h0] at hk1
                have hfl := fieldR_len (m := m') (es := es2) (l := l2)
                have hfl2 := fieldR_len2 (m := m') (es := es2) (l := l2)
                have hfs := fieldR_sz (m := m') (es := es2) (l := l2) hD.tab.inv hl2
                obtain ⟨R, hRR⟩ : ∃ R, R = fieldR m' es2 l2 := ⟨_, rfl⟩
                rw [← hRR] at hk1 hfl hfl2 hfs
                have HRR := Lib.hid hRR; have HK1 := Lib.hid hk1; have HFL := Lib.hid hfl
                obtain ⟨f, l3, b3, es3⟩ := R
                simp only at hfl2 hfs
                have HWB := Lib.hid hD.tab.below.size
                clear hbad hgood hR hD hFr hC hO hn hRR hk1 hfl
                go_wp2_with fail
                refine (field_any HD.out HR.out h0 hl2 (fun x hx => (HFr.out x hx).imp (fun h => List.mem_cons_of_mem _ h) (fun h => by omega)) (by omega)).mono ?_; rintro e w2 ⟨sv3, F3, he, r3, d3, f3, c3⟩
                rw [← HRR.out] at he r3 d3
                replace he : e = .returned (.agg #[.string f.n, .string f.v, .bool f.nv]) := he
                subst he
                have HLB := Lib.hid (OwnR.lo HO.out)
                have HOA : Hid (∀ x ∈ r :: F2, x ∉ u8.ownBlock.toList) := Lib.hid (fun x hx hxo => by
                  rcases List.mem_cons.1 hx with rfl | hx
                  · exact OwnR.alien HO.out HR.out.head (by decide) hxo
                  · exact HOX.out x hx hxo)
                have hs2 := c3.size
                have hsw := HC.out.size
                have HO2 : Hid (OwnF w2 w.heap.size u8 acc) := Lib.hid (OwnR.chg HO.out c3 (fun g hg hx => HOA.out g hx (by simpa using hg)))
                have HC2 : Hid (Chg (d :: F) w w2) := Lib.hid (HC.out.trans c3 (fun x hx => by
                  rcases List.mem_cons.1 hx with rfl | hx
                  · exact Or.inr (by omega)
                  · exact (HFr.out x hx).imp (fun h => List.mem_cons_of_mem _ h) id))
                have HF3 : Hid (Fresh F3 F w) := Lib.hid (fun x hx => (f3 x hx).elim (HFr.out x) (fun h => Or.inr (by omega)))
                have HOX3 : Hid (∀ x ∈ F3, x ∉ u8.ownBlock.toList) := Lib.hid (fun x hx hxo => by
                  rcases f3 x hx with h | h
                  · exact HOX.out x h hxo
                  · have := OwnR.lt HO.out x hxo; omega)
                have HLT3 : Hid (∀ x ∈ F3, x < w2.heap.size) := Lib.hid (fun x hx => d3.tab.lt x hx)
                have HMO := Lib.hid HR.out.meas
                have HR3 := Lib.hid r3; have HD3 := Lib.hid d3
                clear r3 d3 f3 c3 HO HC HFr HOX HOA HR HD x0 x1 g0
                go_upto_region 15 with fail
                obtain ⟨q, hq⟩ : ∃ q, q = w2.heap.size := ⟨_, rfl⟩
                have HQE := Lib.hid hq
                have HQ := Lib.hid (At.new' (w := w2) (o := FN f) hq.symm)
                have HO4 := Lib.hid (OwnR.alloc HO2.out (FN f)); have HC4 := Lib.hid (HC2.out.alloc (FN f)); have HR4 := Lib.hid (HR3.out.chg0 ((Chg.refl w2).alloc (FN f))); have HD4 := Lib.hid (HD3.out.chg0 ((Chg.refl w2).alloc (FN f)))
                have hs4 : (w2.alloc (FN f)).heap.size = q + 1 := by rw [hq]; simp
                have HLT4 : Hid (∀ x ∈ F3, x < q) := Lib.hid (fun x hx => by have := HLT3.out x hx; omega)
                have hqw : w.heap.size ≤ q := by omega
                rw [← hq]
                clear hq HO2 HC2 HR3 HD3 HLT3 hs2 HQE
                generalize w2.alloc (FN f) = w4 at *
                have y0 : World.cell? w4 ⟨q, 0, none⟩ = some (.string f.n) := HQ.out.cell rfl
                have y1 : World.cell? w4 ⟨q, 1, none⟩ = some (.string f.v) := HQ.out.cell rfl
                have y2 : World.cell? w4 ⟨q, 2, none⟩ = some (.bool f.nv) := HQ.out.cell rfl
                obtain ⟨z, hz⟩ : ∃ z, z = f.sz := ⟨_, rfl⟩
                have HZZ := Lib.hid hz
                have hzl : z ≤ 600032 := by omega
                clear hfs
                go_wp2_with fail
                refine (Tb.size_any f _ (by omega)).mono ?_; rintro e w5 ⟨he, hw5⟩
                rw [← HZZ.out] at he
                subst he
                have hcs : Chg [] w4 w5 := by rw [hw5]; exact (Chg.refl _).alloc _
                have HO5 := Lib.hid (OwnR.chg0 HO4.out hcs); have HC5 := Lib.hid (HC4.out.trans' (hcs.mono (by simp))); have HR5 := Lib.hid (HR4.out.chg0 hcs); have HD5 := Lib.hid (HD4.out.chg0 hcs); have HQ5 := Lib.hid (HQ.out.chg hcs (by simp))
                have hs5 := hcs.size
                clear hw5 hcs HO4 HC4 HR4 HD4 HQ y0 y1 y2 hz
                have y0 : World.cell? w5 ⟨q, 0, none⟩ = some (.string f.n) := HQ5.out.cell rfl
                have y1 : World.cell? w5 ⟨q, 1, none⟩ = some (.string f.v) := HQ5.out.cell rfl
                have y2 : World.cell? w5 ⟨q, 2, none⟩ = some (.bool f.nv) := HQ5.out.cell rfl
                go_wp2_with (at_builtin; refine app_row encF_len encF_one 26 Try.underlying26 infoF rfl (by decide) rfl _ _ rfl w.heap.size u8 acc rfl (OwnR.alloc HO5.out (FN f)) _ [f] rfl (one_field w5 f) (by simp [maxLen]; omega) (by simp; omega) (by simp; omega) ?_)
                intro v' w6 hown' hch' hfr'
                have HR6 := Lib.hid ((HR5.out.chg0 ((Chg.refl w5).alloc (FN f))).chg hch' (fun hx => OwnR.alien (OwnR.alloc HO5.out (FN f)) (HR5.out.chg0 ((Chg.refl w5).alloc (FN f))).head (by decide) hx) (fun x hx => Or.inr (by have := HLB.out x hx; omega)))
                have HD6 := Lib.hid ((HD5.out.chg0 ((Chg.refl w5).alloc (FN f))).chg hch' (fun x hx hxo => by
                  rcases List.mem_cons.1 hx with rfl | hx
                  · exact OwnR.alien (OwnR.alloc HO5.out (FN f)) (HD5.out.head.alloc (FN f)) (by decide) hxo
                  · exact HOX3.out x hx hxo) (fun x hx => by have := HLB.out x hx; omega))
                have HC6 := Lib.hid ((HC5.out.alloc (FN f)).trans hch' (fun x hx => Or.inr (HLB.out x hx)))
                have HO6 := Lib.hid hown'
                have HOX6 : Hid (∀ x ∈ F3, x ∉ v'.ownBlock.toList) := Lib.hid (fun x hx hxo => by
                  rcases hfr' x (by simpa using hxo) with h | h
                  · exact HOX3.out x hx (by simpa using h)
                  · have := HLT4.out x hx; have h := h; first | (simp at h; omega) | omega)
                clear hown' hch' hfr' HO5 HR5 HD5 HC5 HQ5 y0 y1 y2
                go_wp2_with fail
                go_roundw
                case rel =>
                  refine ⟨n + z, acc ++ [f], b3, es3, sv3, l3, F3, by go_num, by rw [tot_append, HN.out, HZZ.out]; simp [tot], by simp; omega, HO6.out, HR6.out, HD6.out, HF3.out, HC6.out, HOX6.out, by simp; omega, by omega, fun h => ?_, fun h => ⟨?_, k1, ?_, ?_⟩⟩
                  · subst h; simpa using HK1.out
                  · have := HFL.out h; rw [List.length_append, List.length_singleton]; omega
                  · have := HFL.out h; omega
                  · subst h; simpa using HK1.out
                case measure =>
                  rw [HR6.out.meas, HMO.out]
                  cases b3 with
                  | true => simp; omega
                  | false => have := HFL.out rfl; simp; omega
            · have hu : bd2 = false → Z = (acc, false, es2) := fun h => by
                obtain ⟨_, k, _, hk⟩ := hgood h
                rw [fldR_stop h0, List.append_nil] at hk
                exact hk
              have HUU : Hid (Z = (acc, bd2, es2)) := Lib.hid (by cases bd2 with | true => exact hbad rfl | false => exact hu rfl)
              have g0 : decide ((0 : Int) < (l2.length : Int)) = false := decide_eq_false (by omega)
              clear hbad hgood hR hD hFr hC hO hn hu
              go_wp2_with fail
              go_meet
              exact ⟨n, acc, bd2, es2, _, l2, F2, rfl, HN.out, by omega, HO.out, HR.out, HD.out, HFr.out, HC.out, HOX.out, HUU.out⟩
        case rest =>
          obtain ⟨n, acc, bd2, es2, sv2, l2, F2, rfl, hn, hnb, hO, hR, hD, hFr, hC, hox, rfl⟩ := hcut
          have HOX := Lib.hid hox
          clear hox
          have HF1 := HFB.out
          have x1 : World.cell? wc ⟨r, 1, none⟩ = some (.bool bd2) := hR.head.cell rfl
          have HD := Lib.hid hD; have HFr := Lib.hid hFr; have HC := Lib.hid hC; have HO := Lib.hid hO; have HN := Lib.hid hn
          have HDN := Lib.hid hD.nf; have HDL := Lib.hid hD.lo
          cases bd2 with
          | true =>
            rw [if_pos rfl] at HF1
            have xf : ∀ j, World.frozen? wc ⟨d, j, none⟩ = false := fun j => HD.out.head.free j
            have x3 : World.cell? wc ⟨d, 3, none⟩ = some (.bool false) := HD.out.head.cell rfl
            clear HFB HR2 HD2 HC2 HFr2 hD hFr hC hO hn hR
            have HF2 := Lib.hid HF1
            clear HF1
            go_wp2_with fail
            go_ret2
            rw [HF2.out]
            have hcd : Chg [d] wc (wc.setCell ⟨d, 3, none⟩ (.bool true)) := (Chg.refl wc).setCell (Or.inl (by simp)) _
            exact ⟨_, rfl, OwnR.nil _ _, F2, ⟨HD.out.head.set 3 _, HD.out.tab.chg hcd (fun x hx he => HDN.out (by simp at he; exact he ▸ hx)) (fun x hx => by simp at hx; exact hx ▸ HDL.out), HDN.out, HDL.out, HD.out.b1⟩, HFr.out, HC.out.trans hcd (fun x hx => Or.inl (by simp at hx; simp [hx])), by simp [Value.ownBlock]⟩
          | false =>
            rw [if_neg (by simp)] at HF1
            have x2 : World.cell? wc ⟨d, 2, none⟩ = some (.int .i64 list) := HD.out.head.cell rfl
            by_cases hlt : list < (n : Int)
            · have g : decide (list < (n : Int)) = true := decide_eq_true hlt
              rw [if_pos (by rw [← hn]; exact hlt)] at HF1
              have HF2 := Lib.hid HF1
              clear HFB HR2 HD2 HC2 HFr2 hD hFr hC hO hn hR HF1
              go_wp2_with fail
              go_ret2
              rw [HF2.out]
              exact ⟨_, rfl, OwnR.nil _ _, F2, HD.out, HFr.out, HC.out, by simp [Value.ownBlock]⟩
            · have g : decide (list < (n : Int)) = false := decide_eq_false hlt
              rw [if_neg (by rw [← hn]; exact hlt)] at HF1
              have HF2 := Lib.hid HF1
              clear HFB HR2 HD2 HC2 HFr2 hD hFr hC hO hn hR HF1
              go_wp2_with fail
              go_ret2
              rw [HF2.out]
              exact ⟨_, rfl, HO.out, F2, HD.out, HFr.out, HC.out, fun h => OwnR.alien HO.out HD.out.head (by decide) (Option.mem_toList.2 h), fun x hx h => HOX.out x hx (Option.mem_toList.2 h)⟩
end Go.Proofs.Ytmoeioaahampaaa.Tb.Hp
