/-
  Encode.
-/
import Derived.Test.YtmoeioaahampaaaHp
namespace Go.Proofs.Ytmoeioaahampaaa.Tb.Hp
open Go.ChangeShapes Go.WideShapes Go.ChangeAt Go.RowKit
open Go.Proofs.Ytmoeioaahampaaa.B Go.Proofs.Ytmoeioaahampaaa.Hi Go.Proofs.Ytmoeioaahampaaa.Tb
open Go.Proofs.Ytmoeioaahampaaa.Hf (bx need enc dec bitsOf)
set_option linter.unusedVariables false
set_option linter.unusedSimpArgs false

/-- A block, and the table behind it. -/
def encB (m : Nat) (es : List Fd) (least last : Nat) (called : Bool) (l : List Fd) : List UInt8 × Nat × List Fd :=
  ((encU m es least last called).1 ++ (encL (encU m es least last called).2.1 (encU m es least last called).2.2 l).1, (encU m es least last called).2.1, (encL (encU m es least last called).2.1 (encU m es least last called).2.2 l).2)
set_option maxRecDepth 100000 in
set_option maxHeartbeats 8000000 in
theorem encode_any {W w : World} {c : Nat} {F : List Nat} {p m : Nat} {es : List Fd} {least last : Nat} {called : Bool} (h : EH W w c F p m es least last called) (lv : Value) (l : List Fd) (hl : FdsOf w lv l) (hap : ∀ a n cap, lv = .slice (some a) n cap → a.block ∉ c :: F)
    (hsz : ∀ f ∈ l, f.n.size ≤ 100000 ∧ f.v.size ≤ 100000) (hlen : l.length ≤ 100) :
    Calls Try.prog 18 #[.pointer (some ⟨c, 0, none⟩), lv] w fun e w' => ∃ rv F', e = .returned rv ∧ OwnB w' w.heap.size rv (encB m es least last called l).1 ∧ EH W w' c F' p (encB m es least last called l).2.1 (encB m es least last called l).2.2 least last false ∧ Fresh F' F w ∧ Chg (c :: F) w w' := by
  obtain ⟨a, cap, rfl, hcA, hcB⟩ := hl.len
  unfold maxLen at hcB
  have HL := Lib.hid hl; have HAP := Lib.hid hap; have HSZ := Lib.hid hsz; have HW := Lib.hid h.tab.below.size
  have HF : Hid (Fresh F F w) := Lib.hid (fun x hx => Or.inl hx)
  have HC : Hid (Chg (c :: F) w w) := Lib.hid (Chg.refl w)
  have HLT := Lib.hid h.lt
  have hb1 := h.b1
  have hb2 := h.b2
  have hO : OwnB w w.heap.size (.slice none 0 0) [] := OwnB.nil _ _
  have c3 : World.cell? w ⟨c, 3, none⟩ = some (.bool called) := h.head.cell rfl
  have c1 : World.cell? w ⟨c, 1, none⟩ = some (.int .i64 least) := h.head.cell rfl
  have c2 : World.cell? w ⟨c, 2, none⟩ = some (.int .i64 last) := h.head.cell rfl
  have HH := Lib.hid h; have HO := Lib.hid hO
  clear hl hap hsz h hO
  cases called with
  | false =>
    clear c1 c2
    obtain ⟨U, hU⟩ : ∃ U : List UInt8, U = [] := ⟨_, rfl⟩
    have hUl : U.length ≤ 100 := by rw [hU]; simp
    have HB : Hid (encB m es least last false l = (U ++ (encL m es l).1, m, (encL m es l).2)) := Lib.hid (by rw [hU]; rfl)
    have HO0 : Hid (OwnB w w.heap.size (.slice none 0 0) U) := Lib.hid (by rw [hU]; exact HO.out)
    have HE0 := HH; have HF0 := HF; have HC0 := HC
    clear hU HLT HH HO HF HC
    go_enter Try.func18, Try.ntmps18
    skip
    go_wp2_with fail
    go_loopw [5, 44] (fun ov kv wr => ∃ (k : Nat) (F' : List Nat), k ≤ l.length ∧ kv = .int .i64 k ∧ OwnB wr w.heap.size ov (U ++ (encL m es (l.take k)).1) ∧ EH W wr c F' p m (encL m es (l.take k)).2 least last false ∧ Fresh F' F w ∧ Chg (c :: F) w wr) (fun _ kv _ => l.length - (intOf kv).toNat)
    case atStart => exact ⟨0, _, Nat.zero_le _, rfl, by simpa [encL] using HO0.out, by simpa [encL] using HE0.out, HF0.out, HC0.out⟩
    case round =>
      clear HO0 HE0 HF0 HC0
      obtain ⟨k, F1, hk, rfl, ho, he, hf, hc⟩ := hrel
      by_cases hlt : k < l.length
      · obtain ⟨f, hfk⟩ : ∃ f, l[k]? = some f := ⟨_, List.getElem?_eq_getElem hlt⟩
        obtain ⟨hfn, hfv⟩ := HSZ.out f (List.mem_of_getElem? hfk)
        have hfsz : f.sz ≤ 300000 := by unfold Fd.sz; omega
        have hsl := HL.out.chg hc HAP.out
        obtain ⟨b, off, rfl, hb, hcells⟩ := FdsOf.cells hsl (by omega)
        obtain ⟨d0, d1, d2⟩ := hcells k f hfk
        have hb1 : (encL m es (l.take k)).1.length ≤ 100 * (18 + 200000) := Nat.le_trans (encL_le m (l.take k) es 200000 (fun g hg => by have := HSZ.out g (List.mem_of_mem_take hg); omega)) (Nat.mul_le_mul_right _ (by rw [List.length_take]; omega))
        obtain ⟨OL, hOL⟩ : ∃ OL, OL = U ++ (encL m es (l.take k)).1 := ⟨_, rfl⟩
        obtain ⟨T, hT⟩ : ∃ T, T = (encL m es (l.take k)).2 := ⟨_, rfl⟩
        have hsn : encL m es (l.take (k + 1)) = ((encL m es (l.take k)).1 ++ (encF m T f).1, (encF m T f).2) := by
          rw [List.take_add_one, hfk, hT]; exact encL_snoc _ _ _ _
        have HS1 : Hid (U ++ (encL m es (l.take (k + 1))).1 = OL ++ (encF m T f).1) := Lib.hid (by rw [hsn, hOL, List.append_assoc])
        have HS2 : Hid ((encL m es (l.take (k + 1))).2 = (encF m T f).2) := Lib.hid (by rw [hsn])
        have hOLl : OL.length ≤ 50000000 := by rw [hOL, List.length_append]; omega
        rw [← hOL] at ho
        rw [← hT] at he
        have hws : w.heap.size ≤ wr.heap.size := hc.size
        have hbw : W.heap.size ≤ w.heap.size := HW.out
        have HLT := Lib.hid he.lt
        have HO := Lib.hid (OwnB.chg0 ho ((Chg.refl wr).alloc (FN f))); have HE := Lib.hid (he.chg0 ((Chg.refl wr).alloc (FN f))); have HF1 := Lib.hid hf; have HC1 := Lib.hid (hc.alloc (FN f)); have HBX0 := Lib.hid (At.new wr (FN f))
        clear hsl hcells hfk hsn hOL hT ho he hf hc hb1
        obtain ⟨R, hR⟩ : ∃ R, R = findR T f := ⟨_, rfl⟩
        have HRR := Lib.hid hR
        have hR1 : R.1 ≤ 61 + T.length := by rw [hR]; exact findR_le
        have hTl : T.length ≤ 2048 := HE.out.tab.inv.len
        clear hR
        go_upto_region 10 with fail
        obtain ⟨B, hB⟩ : ∃ B, B = wr.heap.size := ⟨_, rfl⟩
        have HBX : Hid (At (wr.alloc (FN f)) B (FN f)) := Lib.hid (by rw [hB]; exact HBX0.out)
        have hBl : B < (wr.alloc (FN f)).heap.size := by rw [hB]; simp
        rw [← hB]
        have hbW : Hid (B = wr.heap.size) := Lib.hid hB
        have hBlo : wr.heap.size ≤ B := by omega
        have HNB : Hid (B ∉ c :: F1) := Lib.hid (fun hx => by have := HLT.out B hx; omega)
        clear HLT
        have hsw : (wr.alloc (FN f)).heap.size = wr.heap.size + 1 := by simp
        clear HBX0 hB
        generalize wr.alloc (FN f) = w0 at *
        have x0 : ∀ x : Later [] w0, World.cell? x.world ⟨c, 0, none⟩ = some (.pointer (some ⟨p, 0, none⟩)) := fun x => ((HE.out).head.chg x.chg (by simp)).cell rfl
        have x1 : ∀ x : Later [] w0, World.cell? x.world ⟨B, 0, none⟩ = some (.string f.n) := fun x => (HBX.out.chg x.chg (by simp)).cell rfl
        have x2 : ∀ x : Later [] w0, World.cell? x.world ⟨B, 1, none⟩ = some (.string f.v) := fun x => (HBX.out.chg x.chg (by simp)).cell rfl
        have x3 : ∀ x : Later [] w0, World.cell? x.world ⟨B, 2, none⟩ = some (.bool f.nv) := fun x => (HBX.out.chg x.chg (by simp)).cell rfl
        have HFD : Hid (∀ x : Later [] w0, Calls Try.prog 43 #[.pointer (some ⟨p, 0, none⟩), .agg (aF f)] x.world fun e w' => e = .returned (.tuple #[.int .i64 (R.1 : Nat), .bool R.2]) ∧ Chg [] x.world w') :=
          Lib.hid (fun x => (H_find f _ (EH.chg0 HE.out x.chg).tab).mono (fun e w' h => ⟨by rw [h.1, HRR.out], h.2⟩))
        refine wp_region_later (S := []) (by kernel_rfl) (by kernel_rfl) ?_
        repeat (go_big_quiet_step ((go_at_call 43; exact Calls.later (HFD.out _))))
        refine wpQuiet_nil ?_
        intro _ hw'
        obtain ⟨xq, rfl⟩ := hw'
        have HO2 := Lib.hid (OwnB.chg0 HO.out xq.chg); have HE2 := Lib.hid (EH.chg0 HE.out xq.chg); have HC2 := Lib.hid (HC1.out.trans' (xq.chg.mono (by simp))); have HBX2 := Lib.hid (HBX.out.chg xq.chg (by simp))
        have hs1 := xq.chg.size
        clear x0 x1 x2 x3 HFD HO HE HC1 HBX
        generalize xq.world = w1 at *
        clear xq
        have y0 : World.cell? w1 ⟨B, 0, none⟩ = some (.string f.n) := (HBX2.out).cell rfl
        have y1 : World.cell? w1 ⟨B, 1, none⟩ = some (.string f.v) := (HBX2.out).cell rfl
        cases hnv : f.nv with
        | true =>
          have HQ : Hid (encF m T f = (lit 16 4 R.1 f, T)) := Lib.hid (by unfold encF; rw [if_pos hnv, HRR.out])
          have y2 : World.cell? w1 ⟨B, 2, none⟩ = some (.bool true) := by rw [← hnv]; exact HBX2.out.cell rfl
          have HNV := Lib.hid hnv
          clear hnv
          go_wp2_with fail
          refine (literal_nv (nv := true) (base := w.heap.size) HNV.out u5 OL 16 4 R.1 (by omega) (by omega) HO2.out (by omega) (by omega)).mono ?_; rintro e w2 ⟨rv, rfl, o2, c2⟩
          have hs2 := c2.size
          have HEF := Lib.hid (EH.chg HE2.out c2 (EH.apart HE2.out HO2.out) (fun x hx => by have := HO2.out.1; have := OwnB.lo HO2.out x hx; omega)); have HCF := Lib.hid (HC2.out.trans c2 (fun x hx => Or.inr (OwnB.lo HO2.out x hx))); have HOF := Lib.hid o2; have HFF := HF1
          clear c2 o2 HE2 HC2 HO2
          go_wp2_with fail
          go_roundw
          case rel =>
            refine ⟨k + 1, F1, by omega, by go_num, ?_, ?_, ?_, ?_⟩
            · rw [HS1.out, HQ.out]; exact HOF.out
            · rw [HS2.out, HQ.out]; exact HEF.out
            · exact HFF.out
            · exact HCF.out
          case measure => simp [intOf]; omega
        | false =>
          have y2 : World.cell? w1 ⟨B, 2, none⟩ = some (.bool false) := by rw [← hnv]; exact HBX2.out.cell rfl
          have HNV := Lib.hid hnv
          clear hnv
          obtain ⟨i, is⟩ := R
          cases is with
          | true =>
            have HQ : Hid (encF m T f = ((putI 128 7 i).1, T)) := Lib.hid (by unfold encF; rw [if_neg (by rw [HNV.out]; simp), ← HRR.out, if_pos rfl])
            clear hR1 HNV
            go_wp2_with fail
            refine (putint_any 128 7 (i : Int) _).mono ?_; rintro e w2 ⟨rv, rfl, o2, c2⟩
            have hpl := putI_len 128 7 (i : Int)
            have HE3 := Lib.hid (EH.chg0 HE2.out c2); have HO3 := Lib.hid (OwnB.chg0 HO2.out c2); have OB := Lib.hid (OwnB.bytes o2); have HC3 := Lib.hid (HC2.out.trans' (c2.mono (by simp)))
            have hs2 := c2.size
            clear c2 o2 HE2 HO2 HC2 HBX2 y0 y1 y2
            go_wp2_with (at_builtin; refine app_any rfl _ _ rfl w.heap.size u5 OL rfl HO3.out rv _ rfl OB.out (by omega) (by omega) ?_)
            intro v3 w3 own3 ch3 n3
            have HEF := Lib.hid (EH.chg HE3.out ch3 (EH.apart HE3.out HO3.out) (fun x hx => by have := OwnB.lo HO3.out x hx; omega)); have HCF := Lib.hid (HC3.out.trans ch3 (fun x hx => Or.inr (OwnB.lo HO3.out x hx))); have HOF := Lib.hid own3; have HFF := HF1
            clear own3 ch3 n3 HE3 HO3 HC3 OB
            go_wp2_with fail
            go_roundw
            case rel =>
              refine ⟨k + 1, F1, by omega, by go_num, ?_, ?_, ?_, ?_⟩
              · rw [HS1.out, HQ.out]; exact HOF.out
              · rw [HS2.out, HQ.out]; exact HEF.out
              · exact HFF.out
              · exact HCF.out
            case measure => simp [intOf]; omega
          | false =>
            go_upto_region 18 with fail
            have x0 : ∀ x : Later [] w1, World.cell? x.world ⟨c, 0, none⟩ = some (.pointer (some ⟨p, 0, none⟩)) := fun x => ((HE2.out).head.chg x.chg (by simp)).cell rfl
            have x1 : ∀ x : Later [] w1, World.cell? x.world ⟨B, 0, none⟩ = some (.string f.n) := fun x => (HBX2.out.chg x.chg (by simp)).cell rfl
            have x2 : ∀ x : Later [] w1, World.cell? x.world ⟨B, 1, none⟩ = some (.string f.v) := fun x => (HBX2.out.chg x.chg (by simp)).cell rfl
            have x3 : ∀ x : Later [] w1, World.cell? x.world ⟨B, 2, none⟩ = some (.bool false) := fun x => by rw [← HNV.out]; exact (HBX2.out.chg x.chg (by simp)).cell rfl
            have HMX : Hid (∀ x : Later [] w1, Calls Try.prog 39 #[.pointer (some ⟨p, 0, none⟩)] x.world fun e w' => e = .returned (.int .i64 (m : Nat)) ∧ w' = x.world) :=
              Lib.hid (fun x => (H_max _ (EH.chg0 HE2.out x.chg).tab).mono (fun e w' h => ⟨h.1, h.2.symm⟩))
            have HSF : Hid (∀ x : Later [] w1, Calls Try.prog 41 #[.agg #[.string f.n, .string f.v, .bool false]] x.world fun e w' => e = .returned (.int .i64 (f.sz : Nat)) ∧ Chg [] x.world w') :=
              Lib.hid (fun x => by rw [← HNV.out]; exact (Tb.size_any f _ (by omega)).mono (fun e w' h => ⟨h.1, by rw [h.2]; exact (Chg.refl _).alloc _⟩))
            obtain ⟨z, hz⟩ : ∃ z, z = f.sz := ⟨_, rfl⟩
            rw [← hz] at HSF
            by_cases hzm : m < z
            · have hd : decide ((m : Int) < (z : Int)) = true := decide_eq_true (by omega)
              have HQ : Hid (encF m T f = (lit 0 4 i f, T)) := Lib.hid (by unfold encF; rw [if_neg (by rw [HNV.out]; simp), ← HRR.out, if_neg (by simp), if_pos (by omega)])
              have hid := Lib.hid hzm; clear hzm hz
              refine wp_region_later (S := []) (by kernel_rfl) (by kernel_rfl) ?_
              repeat (go_big_quiet_step (first | (go_at_call 39; exact Calls.later_same (HMX.out _)) | (go_at_call 41; exact Calls.later (HSF.out _))))
              refine wpQuiet_nil ?_
              intro _ hw'
              obtain ⟨xq, rfl⟩ := hw'
              have HO3 := Lib.hid (OwnB.chg0 HO2.out xq.chg); have HE3 := Lib.hid (EH.chg0 HE2.out xq.chg); have HC3 := Lib.hid (HC2.out.trans' (xq.chg.mono (by simp))); have HBX3 := Lib.hid (HBX2.out.chg xq.chg (by simp))
              have hs3 := xq.chg.size
              clear x0 x1 x2 x3 HMX HSF HO2 HE2 HC2 HBX2 y0 y1 y2
              generalize xq.world = w4 at *
              clear xq
              have y0 : World.cell? w4 ⟨B, 0, none⟩ = some (.string f.n) := (HBX3.out).cell rfl
              have y1 : World.cell? w4 ⟨B, 1, none⟩ = some (.string f.v) := (HBX3.out).cell rfl
              have y2 : World.cell? w4 ⟨B, 2, none⟩ = some (.bool false) := by rw [← HNV.out]; exact (HBX3.out).cell rfl
              go_wp2_with fail
              refine (literal_nv (nv := false) (base := w.heap.size) HNV.out u5 OL 0 4 i (by omega) (by omega) HO3.out (by omega) (by omega)).mono ?_; rintro e w2 ⟨rv, rfl, o2, c2⟩
              have hs2 := c2.size
              have HEF := Lib.hid (EH.chg HE3.out c2 (EH.apart HE3.out HO3.out) (fun x hx => by have := OwnB.lo HO3.out x hx; omega)); have HCF := Lib.hid (HC3.out.trans c2 (fun x hx => Or.inr (OwnB.lo HO3.out x hx))); have HOF := Lib.hid o2; have HFF := HF1
              clear c2 o2 HE3 HC3 HO3
              go_wp2_with fail
              go_roundw
              case rel =>
                refine ⟨k + 1, F1, by omega, by go_num, ?_, ?_, ?_, ?_⟩
                · rw [HS1.out, HQ.out]; exact HOF.out
                · rw [HS2.out, HQ.out]; exact HEF.out
                · exact HFF.out
                · exact HCF.out
              case measure => simp [intOf]; omega
            · have hd : decide ((m : Int) < (z : Int)) = false := decide_eq_false (by omega)
              have HQ : Hid (encF m T f = (lit 64 6 i f, addS f m T)) := Lib.hid (by unfold encF; rw [if_neg (by rw [HNV.out]; simp), ← HRR.out, if_neg (by simp), if_neg (by omega)])
              have hid := Lib.hid hzm; clear hzm hz
              refine wp_region_later (S := []) (by kernel_rfl) (by kernel_rfl) ?_
              repeat (go_big_quiet_step (first | (go_at_call 39; exact Calls.later_same (HMX.out _)) | (go_at_call 41; exact Calls.later (HSF.out _))))
              refine wpQuiet_nil ?_
              intro _ hw'
              obtain ⟨xq, rfl⟩ := hw'
              have HO3 := Lib.hid (OwnB.chg0 HO2.out xq.chg); have HE3 := Lib.hid (EH.chg0 HE2.out xq.chg); have HC3 := Lib.hid (HC2.out.trans' (xq.chg.mono (by simp))); have HBX3 := Lib.hid (HBX2.out.chg xq.chg (by simp))
              have hs3 := xq.chg.size
              clear x0 x1 x2 x3 HMX HSF HO2 HE2 HC2 HBX2 y0 y1 y2
              generalize xq.world = w4 at *
              clear xq
              have y0 : World.cell? w4 ⟨B, 0, none⟩ = some (.string f.n) := (HBX3.out).cell rfl
              have y1 : World.cell? w4 ⟨B, 1, none⟩ = some (.string f.v) := (HBX3.out).cell rfl
              have y2 : World.cell? w4 ⟨B, 2, none⟩ = some (.bool false) := by rw [← HNV.out]; exact (HBX3.out).cell rfl
              go_wp2_with fail
              refine (literal_nv (nv := false) (base := w.heap.size) HNV.out u5 OL 64 6 i (by omega) (by omega) HO3.out (by omega) (by omega)).mono ?_; rintro e w2 ⟨rv, rfl, o2, c2⟩
              have hs2 := c2.size
              have HE4 := Lib.hid (EH.chg HE3.out c2 (EH.apart HE3.out HO3.out) (fun x hx => by have := OwnB.lo HO3.out x hx; omega)); have HC4 := Lib.hid (HC3.out.trans c2 (fun x hx => Or.inr (OwnB.lo HO3.out x hx))); have HO4 := Lib.hid o2
              have HBX4 := Lib.hid (HBX3.out.chg c2 (owns_alien HO3.out HBX3.out (by decide)))
              clear c2 o2 HE3 HC3 HO3 HBX3 y0 y1 y2
              go_upto_region 12 with fail
              have HED := Lib.hid (EH.chg0 HE4.out (Chg.refl w2).drew)
              have z0 : World.cell? w2 ⟨c, 0, none⟩ = some (.pointer (some ⟨p, 0, none⟩)) := HE4.out.head.cell rfl
              have z1 : World.cell? w2 ⟨B, 0, none⟩ = some (.string f.n) := HBX4.out.cell rfl
              have z2 : World.cell? w2 ⟨B, 1, none⟩ = some (.string f.v) := HBX4.out.cell rfl
              have z3 : World.cell? w2 ⟨B, 2, none⟩ = some (.bool false) := by rw [← HNV.out]; exact HBX4.out.cell rfl
              have HBD := Lib.hid (HBX4.out.chg (Chg.refl (l := []) w2).drew (by simp))
              have HADD : Hid (Calls Try.prog 46 #[.pointer (some ⟨p, 0, none⟩), .agg #[.string f.n, .string f.v, .bool false]] w2.drew fun e w3 => e = .returned (.tuple #[]) ∧ (∃ F2, EH W w3 c F2 p m (addS f m T) least last false ∧ Fresh F2 F w) ∧ Chg F1 w2 w3 ∧ At w3 B (FN f)) := by
                refine Lib.hid ((add_nv HNV.out _ HED.out.tab (by omega)).mono ?_)
                rintro e w3 ⟨rfl, ⟨F2, h2, f2⟩, c3⟩
                refine ⟨rfl, ⟨F2, ⟨HED.out.head.chg c3 HED.out.nf, h2, fun hx => (f2 c hx).elim HED.out.nf (fun h => by have := HED.out.head.lt; omega), HED.out.lo, HED.out.b1, HED.out.b2⟩, fun x hx => (f2 x hx).elim (HF1.out x) (fun h => Or.inr (by simp at h; omega))⟩, (Chg.refl w2).drew.trans' c3, HBD.out.chg c3 (fun hx => HNB.out (List.mem_cons_of_mem _ hx))⟩
              go_region_held_law (fun w' => World.cell? w' ⟨c, 0, none⟩ = some (.pointer (some ⟨p, 0, none⟩)) ∧ World.cell? w' ⟨B, 0, none⟩ = some (.string f.n) ∧ World.cell? w' ⟨B, 1, none⟩ = some (.string f.v) ∧ World.cell? w' ⟨B, 2, none⟩ = some (.bool false)) (go_keep) (first
                | (go_at_call 46; go_loud (refine HADD.out.mono ?_; rintro e w3 ⟨rfl, ⟨F2, h2, f2⟩, c3, hb3⟩; have k0 : World.cell? w3 ⟨c, 0, none⟩ = some (.pointer (some ⟨p, 0, none⟩)) := h2.head.cell rfl; have k1 : World.cell? w3 ⟨B, 0, none⟩ = some (.string f.n) := hb3.cell rfl; have k2 : World.cell? w3 ⟨B, 1, none⟩ = some (.string f.v) := hb3.cell rfl; have k3 : World.cell? w3 ⟨B, 2, none⟩ = some (.bool false) := (by rw [← HNV.out]; exact hb3.cell rfl); have H2 := Lib.hid h2; have F2H := Lib.hid f2; have C3 := Lib.hid c3; clear hb3 h2 f2 c3))
                | fail)
              have HEF := H2; have HFF := F2H; have HOF := Lib.hid (OwnB.chg HO4.out C3.out (fun g hg hx => EH.apart HE4.out HO4.out g (List.mem_cons_of_mem _ hx) (by simpa using hg)))
              have HCF := Lib.hid (HC4.out.trans C3.out (fun x hx => (HF1.out x hx).imp (fun h => List.mem_cons_of_mem _ h) id))
              clear H2 F2H C3 HC4 HO4 HE4 HBX4 HED HBD
              go_wp2_with fail
              go_roundw
              case rel =>
                refine ⟨k + 1, F2, by omega, by go_num, ?_, ?_, ?_, ?_⟩
                · rw [HS1.out, HQ.out]; exact HOF.out
                · rw [HS2.out, HQ.out]; exact HEF.out
                · exact HFF.out
                · exact HCF.out
              case measure => simp [intOf]; omega
      · obtain rfl : l.length = k := by omega
        rw [List.take_length] at ho he
        go_wp2_with fail
        go_ret
        refine ⟨_, F1, rfl, ?_, ?_, hf, hc⟩
        · rw [HB.out]; exact ho
        · rw [HB.out]; exact he
  | true =>
    by_cases hlt : least < last
    · have hd : decide ((least : Int) < (last : Int)) = true := decide_eq_true (by omega)
      go_enter Try.func18, Try.ntmps18
      go_upto_region 3 with fail
      go_quiet (fail)
      have HE1 := Lib.hid (EH.chg0 HH.out ((Chg.refl (l := []) w).drewN nq)); have HO1 := Lib.hid (OwnB.chg0 HO.out ((Chg.refl (l := []) w).drewN nq)); have HC1 := Lib.hid (HC.out.drewN nq)
      have hs1 : (w.drewN nq).heap.size = w.heap.size := rfl
      clear c1 c2 c3 HH HO HC HLT HF
      generalize w.drewN nq = w1 at *
      have c1 : World.cell? w1 ⟨c, 1, none⟩ = some (.int .i64 least) := HE1.out.head.cell rfl
      have c2 : World.cell? w1 ⟨c, 2, none⟩ = some (.int .i64 last) := HE1.out.head.cell rfl
      have HB : Hid (encB m es least last true l = ((upd least ++ upd last) ++ (encL last (Tb.fit 0 last (Tb.fit 0 least es)) l).1, last, (encL last (Tb.fit 0 last (Tb.fit 0 least es)) l).2)) := Lib.hid (by unfold encB encU; rw [if_pos rfl, if_pos hlt])
      clear hlt
      go_wp2_with fail
      refine (upd_any (base := w.heap.size) HE1.out _ [] HO1.out (by simp) (by omega) HW.out least (by omega)).mono ?_; rintro e w2 ⟨rv, F2, rfl, o2, e2, f2, ch2, n2⟩
      have hs2 := ch2.size
      have HF2 : Hid (Fresh F2 F w) := Lib.hid (fun x hx => (f2 x hx).imp id (fun h => by omega))
      have HC2 := Lib.hid (HC1.out.trans ch2 (fun x hx => by simp [Value.ownBlock] at hx; exact Or.inl (List.mem_cons_of_mem _ hx)))
      have c2' : World.cell? w2 ⟨c, 2, none⟩ = some (.int .i64 last) := e2.head.cell rfl
      have HE2 := Lib.hid e2; have HO2 := Lib.hid o2
      have hul := putI_len 32 5 (least : Int)
      clear e2 o2 f2 ch2 n2 HC1 HE1 HO1 c1 c2
      go_wp2_with fail
      refine (upd_any (base := w.heap.size) HE2.out _ _ HO2.out (by unfold upd; simp; omega) (by omega) HW.out last (by omega)).mono ?_; rintro e w3 ⟨rv3, F3, rfl, o3, e3, f3, ch3, n3⟩
      have hs3 := ch3.size
      have HF3 : Hid (Fresh F3 F w) := Lib.hid (fun x hx => (f3 x hx).elim (HF2.out x) (fun h => Or.inr (by omega)))
      have HC3 := Lib.hid (HC2.out.trans ch3 (fun x hx => (List.mem_append.1 hx).elim (fun h => Or.inr (OwnB.lo HO2.out x h)) (fun h => (HF2.out x h).imp (fun h => List.mem_cons_of_mem _ h) id)))
      have HE3 := Lib.hid e3; have HO3 := Lib.hid o3
      have hul2 := putI_len 32 5 (last : Int)
      clear e3 o3 f3 ch3 n3 HC2 HE2 HO2 HF2 c2'
      obtain ⟨U, hU⟩ : ∃ U : List UInt8, U = upd least ++ upd last := ⟨_, rfl⟩
      have hUl : U.length ≤ 100 := by rw [hU]; unfold upd; simp; omega
      have HO0 : Hid (OwnB (w3.setCell ⟨c, 3, none⟩ (.bool false)) w.heap.size rv3 U) := Lib.hid (by rw [hU]; exact OwnB.chg (l := [c]) HO3.out ((Chg.refl w3).setCell (Or.inl (by simp)) _) (fun g hg hx => EH.apart HE3.out HO3.out g (by simp at hx; simp [hx]) (by simpa using hg)))
      rw [← hU] at HB
      have HE0 := Lib.hid (EH.put HE3.out false); have HF0 := HF3; have HC0 : Hid (Chg (c :: F) w (w3.setCell ⟨c, 3, none⟩ (.bool false))) := Lib.hid (HC3.out.setCell (Or.inl (by simp)) _)
      have cf : ∀ j, World.frozen? w3 ⟨c, j, none⟩ = false := fun j => HE3.out.head.free j
      have c3 : World.cell? w3 ⟨c, 3, none⟩ = some (.bool true) := HE3.out.head.cell rfl
      clear hU HE3 HF3 HC3 HO3
      go_wp2_with fail
      go_loopw [5, 44] (fun ov kv wr => ∃ (k : Nat) (F' : List Nat), k ≤ l.length ∧ kv = .int .i64 k ∧ OwnB wr w.heap.size ov (U ++ (encL last (Tb.fit 0 last (Tb.fit 0 least es)) (l.take k)).1) ∧ EH W wr c F' p last (encL last (Tb.fit 0 last (Tb.fit 0 least es)) (l.take k)).2 least last false ∧ Fresh F' F w ∧ Chg (c :: F) w wr) (fun _ kv _ => l.length - (intOf kv).toNat)
      case atStart => exact ⟨0, _, Nat.zero_le _, rfl, by simpa [encL] using HO0.out, by simpa [encL] using HE0.out, HF0.out, HC0.out⟩
      case round =>
        clear HO0 HE0 HF0 HC0
        obtain ⟨k, F1, hk, rfl, ho, he, hf, hc⟩ := hrel
        by_cases hlt : k < l.length
        · obtain ⟨f, hfk⟩ : ∃ f, l[k]? = some f := ⟨_, List.getElem?_eq_getElem hlt⟩
          obtain ⟨hfn, hfv⟩ := HSZ.out f (List.mem_of_getElem? hfk)
          have hfsz : f.sz ≤ 300000 := by unfold Fd.sz; omega
          have hsl := HL.out.chg hc HAP.out
          obtain ⟨b, off, rfl, hb, hcells⟩ := FdsOf.cells hsl (by omega)
          obtain ⟨d0, d1, d2⟩ := hcells k f hfk
          have hb1 : (encL last (Tb.fit 0 last (Tb.fit 0 least es)) (l.take k)).1.length ≤ 100 * (18 + 200000) := Nat.le_trans (encL_le last (l.take k) (Tb.fit 0 last (Tb.fit 0 least es)) 200000 (fun g hg => by have := HSZ.out g (List.mem_of_mem_take hg); omega)) (Nat.mul_le_mul_right _ (by rw [List.length_take]; omega))
          obtain ⟨OL, hOL⟩ : ∃ OL, OL = U ++ (encL last (Tb.fit 0 last (Tb.fit 0 least es)) (l.take k)).1 := ⟨_, rfl⟩
          obtain ⟨T, hT⟩ : ∃ T, T = (encL last (Tb.fit 0 last (Tb.fit 0 least es)) (l.take k)).2 := ⟨_, rfl⟩
          have hsn : encL last (Tb.fit 0 last (Tb.fit 0 least es)) (l.take (k + 1)) = ((encL last (Tb.fit 0 last (Tb.fit 0 least es)) (l.take k)).1 ++ (encF last T f).1, (encF last T f).2) := by
            rw [List.take_add_one, hfk, hT]; exact encL_snoc _ _ _ _
          have HS1 : Hid (U ++ (encL last (Tb.fit 0 last (Tb.fit 0 least es)) (l.take (k + 1))).1 = OL ++ (encF last T f).1) := Lib.hid (by rw [hsn, hOL, List.append_assoc])
          have HS2 : Hid ((encL last (Tb.fit 0 last (Tb.fit 0 least es)) (l.take (k + 1))).2 = (encF last T f).2) := Lib.hid (by rw [hsn])
          have hOLl : OL.length ≤ 50000000 := by rw [hOL, List.length_append]; omega
          rw [← hOL] at ho
          rw [← hT] at he
          have hws : w.heap.size ≤ wr.heap.size := hc.size
          have hbw : W.heap.size ≤ w.heap.size := HW.out
          have HLT := Lib.hid he.lt
          have HO := Lib.hid (OwnB.chg0 ho ((Chg.refl wr).alloc (FN f))); have HE := Lib.hid (he.chg0 ((Chg.refl wr).alloc (FN f))); have HF1 := Lib.hid hf; have HC1 := Lib.hid (hc.alloc (FN f)); have HBX0 := Lib.hid (At.new wr (FN f))
          clear hsl hcells hfk hsn hOL hT ho he hf hc hb1
          obtain ⟨R, hR⟩ : ∃ R, R = findR T f := ⟨_, rfl⟩
          have HRR := Lib.hid hR
          have hR1 : R.1 ≤ 61 + T.length := by rw [hR]; exact findR_le
          have hTl : T.length ≤ 2048 := HE.out.tab.inv.len
          clear hR
          go_upto_region 10 with fail
          obtain ⟨B, hB⟩ : ∃ B, B = wr.heap.size := ⟨_, rfl⟩
          have HBX : Hid (At (wr.alloc (FN f)) B (FN f)) := Lib.hid (by rw [hB]; exact HBX0.out)
          have hBl : B < (wr.alloc (FN f)).heap.size := by rw [hB]; simp
          rw [← hB]
          have hbW : Hid (B = wr.heap.size) := Lib.hid hB
          have hBlo : wr.heap.size ≤ B := by omega
          have HNB : Hid (B ∉ c :: F1) := Lib.hid (fun hx => by have := HLT.out B hx; omega)
          clear HLT
          have hsw : (wr.alloc (FN f)).heap.size = wr.heap.size + 1 := by simp
          clear HBX0 hB
          generalize wr.alloc (FN f) = w0 at *
          have x0 : ∀ x : Later [] w0, World.cell? x.world ⟨c, 0, none⟩ = some (.pointer (some ⟨p, 0, none⟩)) := fun x => ((HE.out).head.chg x.chg (by simp)).cell rfl
          have x1 : ∀ x : Later [] w0, World.cell? x.world ⟨B, 0, none⟩ = some (.string f.n) := fun x => (HBX.out.chg x.chg (by simp)).cell rfl
          have x2 : ∀ x : Later [] w0, World.cell? x.world ⟨B, 1, none⟩ = some (.string f.v) := fun x => (HBX.out.chg x.chg (by simp)).cell rfl
          have x3 : ∀ x : Later [] w0, World.cell? x.world ⟨B, 2, none⟩ = some (.bool f.nv) := fun x => (HBX.out.chg x.chg (by simp)).cell rfl
          have HFD : Hid (∀ x : Later [] w0, Calls Try.prog 43 #[.pointer (some ⟨p, 0, none⟩), .agg (aF f)] x.world fun e w' => e = .returned (.tuple #[.int .i64 (R.1 : Nat), .bool R.2]) ∧ Chg [] x.world w') :=
            Lib.hid (fun x => (H_find f _ (EH.chg0 HE.out x.chg).tab).mono (fun e w' h => ⟨by rw [h.1, HRR.out], h.2⟩))
          refine wp_region_later (S := []) (by kernel_rfl) (by kernel_rfl) ?_
          repeat (go_big_quiet_step ((go_at_call 43; exact Calls.later (HFD.out _))))
          refine wpQuiet_nil ?_
          intro _ hw'
          obtain ⟨xq, rfl⟩ := hw'
          have HO2 := Lib.hid (OwnB.chg0 HO.out xq.chg); have HE2 := Lib.hid (EH.chg0 HE.out xq.chg); have HC2 := Lib.hid (HC1.out.trans' (xq.chg.mono (by simp))); have HBX2 := Lib.hid (HBX.out.chg xq.chg (by simp))
          have hs1 := xq.chg.size
          clear x0 x1 x2 x3 HFD HO HE HC1 HBX
          generalize xq.world = w1 at *
          clear xq
          have y0 : World.cell? w1 ⟨B, 0, none⟩ = some (.string f.n) := (HBX2.out).cell rfl
          have y1 : World.cell? w1 ⟨B, 1, none⟩ = some (.string f.v) := (HBX2.out).cell rfl
          cases hnv : f.nv with
          | true =>
            have HQ : Hid (encF last T f = (lit 16 4 R.1 f, T)) := Lib.hid (by unfold encF; rw [if_pos hnv, HRR.out])
            have y2 : World.cell? w1 ⟨B, 2, none⟩ = some (.bool true) := by rw [← hnv]; exact HBX2.out.cell rfl
            have HNV := Lib.hid hnv
            clear hnv
            go_wp2_with fail
            refine (literal_nv (nv := true) (base := w.heap.size) HNV.out u5 OL 16 4 R.1 (by omega) (by omega) HO2.out (by omega) (by omega)).mono ?_; rintro e w2 ⟨rv, rfl, o2, c2⟩
            have hs2 := c2.size
            have HEF := Lib.hid (EH.chg HE2.out c2 (EH.apart HE2.out HO2.out) (fun x hx => by have := HO2.out.1; have := OwnB.lo HO2.out x hx; omega)); have HCF := Lib.hid (HC2.out.trans c2 (fun x hx => Or.inr (OwnB.lo HO2.out x hx))); have HOF := Lib.hid o2; have HFF := HF1
            clear c2 o2 HE2 HC2 HO2
            go_wp2_with fail
            go_roundw
            case rel =>
              refine ⟨k + 1, F1, by omega, by go_num, ?_, ?_, ?_, ?_⟩
              · rw [HS1.out, HQ.out]; exact HOF.out
              · rw [HS2.out, HQ.out]; exact HEF.out
              · exact HFF.out
              · exact HCF.out
            case measure => simp [intOf]; omega
          | false =>
            have y2 : World.cell? w1 ⟨B, 2, none⟩ = some (.bool false) := by rw [← hnv]; exact HBX2.out.cell rfl
            have HNV := Lib.hid hnv
            clear hnv
            obtain ⟨i, is⟩ := R
            cases is with
            | true =>
              have HQ : Hid (encF last T f = ((putI 128 7 i).1, T)) := Lib.hid (by unfold encF; rw [if_neg (by rw [HNV.out]; simp), ← HRR.out, if_pos rfl])
              clear hR1 HNV
              go_wp2_with fail
              refine (putint_any 128 7 (i : Int) _).mono ?_; rintro e w2 ⟨rv, rfl, o2, c2⟩
              have hpl := putI_len 128 7 (i : Int)
              have HE3 := Lib.hid (EH.chg0 HE2.out c2); have HO3 := Lib.hid (OwnB.chg0 HO2.out c2); have OB := Lib.hid (OwnB.bytes o2); have HC3 := Lib.hid (HC2.out.trans' (c2.mono (by simp)))
              have hs2 := c2.size
              clear c2 o2 HE2 HO2 HC2 HBX2 y0 y1 y2
              go_wp2_with (at_builtin; refine app_any rfl _ _ rfl w.heap.size u5 OL rfl HO3.out rv _ rfl OB.out (by omega) (by omega) ?_)
              intro v3 w3 own3 ch3 n3
              have HEF := Lib.hid (EH.chg HE3.out ch3 (EH.apart HE3.out HO3.out) (fun x hx => by have := OwnB.lo HO3.out x hx; omega)); have HCF := Lib.hid (HC3.out.trans ch3 (fun x hx => Or.inr (OwnB.lo HO3.out x hx))); have HOF := Lib.hid own3; have HFF := HF1
              clear own3 ch3 n3 HE3 HO3 HC3 OB
              go_wp2_with fail
              go_roundw
              case rel =>
                refine ⟨k + 1, F1, by omega, by go_num, ?_, ?_, ?_, ?_⟩
                · rw [HS1.out, HQ.out]; exact HOF.out
                · rw [HS2.out, HQ.out]; exact HEF.out
                · exact HFF.out
                · exact HCF.out
              case measure => simp [intOf]; omega
            | false =>
              go_upto_region 18 with fail
              have x0 : ∀ x : Later [] w1, World.cell? x.world ⟨c, 0, none⟩ = some (.pointer (some ⟨p, 0, none⟩)) := fun x => ((HE2.out).head.chg x.chg (by simp)).cell rfl
              have x1 : ∀ x : Later [] w1, World.cell? x.world ⟨B, 0, none⟩ = some (.string f.n) := fun x => (HBX2.out.chg x.chg (by simp)).cell rfl
              have x2 : ∀ x : Later [] w1, World.cell? x.world ⟨B, 1, none⟩ = some (.string f.v) := fun x => (HBX2.out.chg x.chg (by simp)).cell rfl
              have x3 : ∀ x : Later [] w1, World.cell? x.world ⟨B, 2, none⟩ = some (.bool false) := fun x => by rw [← HNV.out]; exact (HBX2.out.chg x.chg (by simp)).cell rfl
              have HMX : Hid (∀ x : Later [] w1, Calls Try.prog 39 #[.pointer (some ⟨p, 0, none⟩)] x.world fun e w' => e = .returned (.int .i64 (last : Nat)) ∧ w' = x.world) :=
                Lib.hid (fun x => (H_max _ (EH.chg0 HE2.out x.chg).tab).mono (fun e w' h => ⟨h.1, h.2.symm⟩))
              have HSF : Hid (∀ x : Later [] w1, Calls Try.prog 41 #[.agg #[.string f.n, .string f.v, .bool false]] x.world fun e w' => e = .returned (.int .i64 (f.sz : Nat)) ∧ Chg [] x.world w') :=
                Lib.hid (fun x => by rw [← HNV.out]; exact (Tb.size_any f _ (by omega)).mono (fun e w' h => ⟨h.1, by rw [h.2]; exact (Chg.refl _).alloc _⟩))
              obtain ⟨z, hz⟩ : ∃ z, z = f.sz := ⟨_, rfl⟩
              rw [← hz] at HSF
              by_cases hzm : last < z
              · have hd : decide ((last : Int) < (z : Int)) = true := decide_eq_true (by omega)
                have HQ : Hid (encF last T f = (lit 0 4 i f, T)) := Lib.hid (by unfold encF; rw [if_neg (by rw [HNV.out]; simp), ← HRR.out, if_neg (by simp), if_pos (by omega)])
                have hid := Lib.hid hzm; clear hzm hz
                refine wp_region_later (S := []) (by kernel_rfl) (by kernel_rfl) ?_
                repeat (go_big_quiet_step (first | (go_at_call 39; exact Calls.later_same (HMX.out _)) | (go_at_call 41; exact Calls.later (HSF.out _))))
                refine wpQuiet_nil ?_
                intro _ hw'
                obtain ⟨xq, rfl⟩ := hw'
                have HO3 := Lib.hid (OwnB.chg0 HO2.out xq.chg); have HE3 := Lib.hid (EH.chg0 HE2.out xq.chg); have HC3 := Lib.hid (HC2.out.trans' (xq.chg.mono (by simp))); have HBX3 := Lib.hid (HBX2.out.chg xq.chg (by simp))
                have hs3 := xq.chg.size
                clear x0 x1 x2 x3 HMX HSF HO2 HE2 HC2 HBX2 y0 y1 y2
                generalize xq.world = w4 at *
                clear xq
                have y0 : World.cell? w4 ⟨B, 0, none⟩ = some (.string f.n) := (HBX3.out).cell rfl
                have y1 : World.cell? w4 ⟨B, 1, none⟩ = some (.string f.v) := (HBX3.out).cell rfl
                have y2 : World.cell? w4 ⟨B, 2, none⟩ = some (.bool false) := by rw [← HNV.out]; exact (HBX3.out).cell rfl
                go_wp2_with fail
                refine (literal_nv (nv := false) (base := w.heap.size) HNV.out u5 OL 0 4 i (by omega) (by omega) HO3.out (by omega) (by omega)).mono ?_; rintro e w2 ⟨rv, rfl, o2, c2⟩
                have hs2 := c2.size
                have HEF := Lib.hid (EH.chg HE3.out c2 (EH.apart HE3.out HO3.out) (fun x hx => by have := OwnB.lo HO3.out x hx; omega)); have HCF := Lib.hid (HC3.out.trans c2 (fun x hx => Or.inr (OwnB.lo HO3.out x hx))); have HOF := Lib.hid o2; have HFF := HF1
                clear c2 o2 HE3 HC3 HO3
                go_wp2_with fail
                go_roundw
                case rel =>
                  refine ⟨k + 1, F1, by omega, by go_num, ?_, ?_, ?_, ?_⟩
                  · rw [HS1.out, HQ.out]; exact HOF.out
                  · rw [HS2.out, HQ.out]; exact HEF.out
                  · exact HFF.out
                  · exact HCF.out
                case measure => simp [intOf]; omega
              · have hd : decide ((last : Int) < (z : Int)) = false := decide_eq_false (by omega)
                have HQ : Hid (encF last T f = (lit 64 6 i f, addS f last T)) := Lib.hid (by unfold encF; rw [if_neg (by rw [HNV.out]; simp), ← HRR.out, if_neg (by simp), if_neg (by omega)])
                have hid := Lib.hid hzm; clear hzm hz
                refine wp_region_later (S := []) (by kernel_rfl) (by kernel_rfl) ?_
                repeat (go_big_quiet_step (first | (go_at_call 39; exact Calls.later_same (HMX.out _)) | (go_at_call 41; exact Calls.later (HSF.out _))))
                refine wpQuiet_nil ?_
                intro _ hw'
                obtain ⟨xq, rfl⟩ := hw'
                have HO3 := Lib.hid (OwnB.chg0 HO2.out xq.chg); have HE3 := Lib.hid (EH.chg0 HE2.out xq.chg); have HC3 := Lib.hid (HC2.out.trans' (xq.chg.mono (by simp))); have HBX3 := Lib.hid (HBX2.out.chg xq.chg (by simp))
                have hs3 := xq.chg.size
                clear x0 x1 x2 x3 HMX HSF HO2 HE2 HC2 HBX2 y0 y1 y2
                generalize xq.world = w4 at *
                clear xq
                have y0 : World.cell? w4 ⟨B, 0, none⟩ = some (.string f.n) := (HBX3.out).cell rfl
                have y1 : World.cell? w4 ⟨B, 1, none⟩ = some (.string f.v) := (HBX3.out).cell rfl
                have y2 : World.cell? w4 ⟨B, 2, none⟩ = some (.bool false) := by rw [← HNV.out]; exact (HBX3.out).cell rfl
                go_wp2_with fail
                refine (literal_nv (nv := false) (base := w.heap.size) HNV.out u5 OL 64 6 i (by omega) (by omega) HO3.out (by omega) (by omega)).mono ?_; rintro e w2 ⟨rv, rfl, o2, c2⟩
                have hs2 := c2.size
                have HE4 := Lib.hid (EH.chg HE3.out c2 (EH.apart HE3.out HO3.out) (fun x hx => by have := OwnB.lo HO3.out x hx; omega)); have HC4 := Lib.hid (HC3.out.trans c2 (fun x hx => Or.inr (OwnB.lo HO3.out x hx))); have HO4 := Lib.hid o2
                have HBX4 := Lib.hid (HBX3.out.chg c2 (owns_alien HO3.out HBX3.out (by decide)))
                clear c2 o2 HE3 HC3 HO3 HBX3 y0 y1 y2
                go_upto_region 12 with fail
                have HED := Lib.hid (EH.chg0 HE4.out (Chg.refl w2).drew)
                have z0 : World.cell? w2 ⟨c, 0, none⟩ = some (.pointer (some ⟨p, 0, none⟩)) := HE4.out.head.cell rfl
                have z1 : World.cell? w2 ⟨B, 0, none⟩ = some (.string f.n) := HBX4.out.cell rfl
                have z2 : World.cell? w2 ⟨B, 1, none⟩ = some (.string f.v) := HBX4.out.cell rfl
                have z3 : World.cell? w2 ⟨B, 2, none⟩ = some (.bool false) := by rw [← HNV.out]; exact HBX4.out.cell rfl
                have HBD := Lib.hid (HBX4.out.chg (Chg.refl (l := []) w2).drew (by simp))
                have HADD : Hid (Calls Try.prog 46 #[.pointer (some ⟨p, 0, none⟩), .agg #[.string f.n, .string f.v, .bool false]] w2.drew fun e w3 => e = .returned (.tuple #[]) ∧ (∃ F2, EH W w3 c F2 p last (addS f last T) least last false ∧ Fresh F2 F w) ∧ Chg F1 w2 w3 ∧ At w3 B (FN f)) := by
                  refine Lib.hid ((add_nv HNV.out _ HED.out.tab (by omega)).mono ?_)
                  rintro e w3 ⟨rfl, ⟨F2, h2, f2⟩, c3⟩
                  refine ⟨rfl, ⟨F2, ⟨HED.out.head.chg c3 HED.out.nf, h2, fun hx => (f2 c hx).elim HED.out.nf (fun h => by have := HED.out.head.lt; omega), HED.out.lo, HED.out.b1, HED.out.b2⟩, fun x hx => (f2 x hx).elim (HF1.out x) (fun h => Or.inr (by simp at h; omega))⟩, (Chg.refl w2).drew.trans' c3, HBD.out.chg c3 (fun hx => HNB.out (List.mem_cons_of_mem _ hx))⟩
                go_region_held_law (fun w' => World.cell? w' ⟨c, 0, none⟩ = some (.pointer (some ⟨p, 0, none⟩)) ∧ World.cell? w' ⟨B, 0, none⟩ = some (.string f.n) ∧ World.cell? w' ⟨B, 1, none⟩ = some (.string f.v) ∧ World.cell? w' ⟨B, 2, none⟩ = some (.bool false)) (go_keep) (first
                  | (go_at_call 46; go_loud (refine HADD.out.mono ?_; rintro e w3 ⟨rfl, ⟨F2, h2, f2⟩, c3, hb3⟩; have k0 : World.cell? w3 ⟨c, 0, none⟩ = some (.pointer (some ⟨p, 0, none⟩)) := h2.head.cell rfl; have k1 : World.cell? w3 ⟨B, 0, none⟩ = some (.string f.n) := hb3.cell rfl; have k2 : World.cell? w3 ⟨B, 1, none⟩ = some (.string f.v) := hb3.cell rfl; have k3 : World.cell? w3 ⟨B, 2, none⟩ = some (.bool false) := (by rw [← HNV.out]; exact hb3.cell rfl); have H2 := Lib.hid h2; have F2H := Lib.hid f2; have C3 := Lib.hid c3; clear hb3 h2 f2 c3))
                  | fail)
                have HEF := H2; have HFF := F2H; have HOF := Lib.hid (OwnB.chg HO4.out C3.out (fun g hg hx => EH.apart HE4.out HO4.out g (List.mem_cons_of_mem _ hx) (by simpa using hg)))
                have HCF := Lib.hid (HC4.out.trans C3.out (fun x hx => (HF1.out x hx).imp (fun h => List.mem_cons_of_mem _ h) id))
                clear H2 F2H C3 HC4 HO4 HE4 HBX4 HED HBD
                go_wp2_with fail
                go_roundw
                case rel =>
                  refine ⟨k + 1, F2, by omega, by go_num, ?_, ?_, ?_, ?_⟩
                  · rw [HS1.out, HQ.out]; exact HOF.out
                  · rw [HS2.out, HQ.out]; exact HEF.out
                  · exact HFF.out
                  · exact HCF.out
                case measure => simp [intOf]; omega
        · obtain rfl : l.length = k := by omega
          rw [List.take_length] at ho he
          go_wp2_with fail
          go_ret
          refine ⟨_, F1, rfl, ?_, ?_, hf, hc⟩
          · rw [HB.out]; exact ho
          · rw [HB.out]; exact he
    · have hd : decide ((least : Int) < (last : Int)) = false := decide_eq_false (by omega)
      go_enter Try.func18, Try.ntmps18
      go_upto_region 3 with fail
      go_quiet (fail)
      have HE1 := Lib.hid (EH.chg0 HH.out ((Chg.refl (l := []) w).drewN nq)); have HO1 := Lib.hid (OwnB.chg0 HO.out ((Chg.refl (l := []) w).drewN nq)); have HC1 := Lib.hid (HC.out.drewN nq)
      have hs1 : (w.drewN nq).heap.size = w.heap.size := rfl
      clear c1 c2 c3 HH HO HC HLT HF
      generalize w.drewN nq = w1 at *
      have c1 : World.cell? w1 ⟨c, 1, none⟩ = some (.int .i64 least) := HE1.out.head.cell rfl
      have c2 : World.cell? w1 ⟨c, 2, none⟩ = some (.int .i64 last) := HE1.out.head.cell rfl
      have HB : Hid (encB m es least last true l = (upd last ++ (encL last (Tb.fit 0 last es) l).1, last, (encL last (Tb.fit 0 last es) l).2)) := Lib.hid (by unfold encB encU; rw [if_pos rfl, if_neg hlt])
      clear hlt
      go_wp2_with fail
      refine (upd_any (base := w.heap.size) HE1.out _ [] HO1.out (by simp) (by omega) HW.out last (by omega)).mono ?_; rintro e w3 ⟨rv3, F3, rfl, o3, e3, f3, ch3, n3⟩
      have hs3 := ch3.size
      have HF3 : Hid (Fresh F3 F w) := Lib.hid (fun x hx => (f3 x hx).imp id (fun h => by omega))
      have HC3 := Lib.hid (HC1.out.trans ch3 (fun x hx => by simp [Value.ownBlock] at hx; exact Or.inl (List.mem_cons_of_mem _ hx)))
      have HE3 := Lib.hid e3; have HO3 := Lib.hid o3
      have hul2 := putI_len 32 5 (last : Int)
      clear e3 o3 f3 ch3 n3 HC1 HE1 HO1 c1 c2
      obtain ⟨U, hU⟩ : ∃ U : List UInt8, U = upd last := ⟨_, rfl⟩
      have hUl : U.length ≤ 100 := by rw [hU]; unfold upd; omega
      have HO0 : Hid (OwnB (w3.setCell ⟨c, 3, none⟩ (.bool false)) w.heap.size rv3 U) := Lib.hid (by rw [hU]; exact OwnB.chg (l := [c]) HO3.out ((Chg.refl w3).setCell (Or.inl (by simp)) _) (fun g hg hx => EH.apart HE3.out HO3.out g (by simp at hx; simp [hx]) (by simpa using hg)))
      rw [← hU] at HB
      have HE0 := Lib.hid (EH.put HE3.out false); have HF0 := HF3; have HC0 : Hid (Chg (c :: F) w (w3.setCell ⟨c, 3, none⟩ (.bool false))) := Lib.hid (HC3.out.setCell (Or.inl (by simp)) _)
      have cf : ∀ j, World.frozen? w3 ⟨c, j, none⟩ = false := fun j => HE3.out.head.free j
      have c3 : World.cell? w3 ⟨c, 3, none⟩ = some (.bool true) := HE3.out.head.cell rfl
      clear hU HE3 HF3 HC3 HO3
      go_wp2_with fail
      go_loopw [5, 44] (fun ov kv wr => ∃ (k : Nat) (F' : List Nat), k ≤ l.length ∧ kv = .int .i64 k ∧ OwnB wr w.heap.size ov (U ++ (encL last (Tb.fit 0 last es) (l.take k)).1) ∧ EH W wr c F' p last (encL last (Tb.fit 0 last es) (l.take k)).2 least last false ∧ Fresh F' F w ∧ Chg (c :: F) w wr) (fun _ kv _ => l.length - (intOf kv).toNat)
      case atStart => exact ⟨0, _, Nat.zero_le _, rfl, by simpa [encL] using HO0.out, by simpa [encL] using HE0.out, HF0.out, HC0.out⟩
      case round =>
        clear HO0 HE0 HF0 HC0
        obtain ⟨k, F1, hk, rfl, ho, he, hf, hc⟩ := hrel
        by_cases hlt : k < l.length
        · obtain ⟨f, hfk⟩ : ∃ f, l[k]? = some f := ⟨_, List.getElem?_eq_getElem hlt⟩
          obtain ⟨hfn, hfv⟩ := HSZ.out f (List.mem_of_getElem? hfk)
          have hfsz : f.sz ≤ 300000 := by unfold Fd.sz; omega
          have hsl := HL.out.chg hc HAP.out
          obtain ⟨b, off, rfl, hb, hcells⟩ := FdsOf.cells hsl (by omega)
          obtain ⟨d0, d1, d2⟩ := hcells k f hfk
          have hb1 : (encL last (Tb.fit 0 last es) (l.take k)).1.length ≤ 100 * (18 + 200000) := Nat.le_trans (encL_le last (l.take k) (Tb.fit 0 last es) 200000 (fun g hg => by have := HSZ.out g (List.mem_of_mem_take hg); omega)) (Nat.mul_le_mul_right _ (by rw [List.length_take]; omega))
          obtain ⟨OL, hOL⟩ : ∃ OL, OL = U ++ (encL last (Tb.fit 0 last es) (l.take k)).1 := ⟨_, rfl⟩
          obtain ⟨T, hT⟩ : ∃ T, T = (encL last (Tb.fit 0 last es) (l.take k)).2 := ⟨_, rfl⟩
          have hsn : encL last (Tb.fit 0 last es) (l.take (k + 1)) = ((encL last (Tb.fit 0 last es) (l.take k)).1 ++ (encF last T f).1, (encF last T f).2) := by
            rw [List.take_add_one, hfk, hT]; exact encL_snoc _ _ _ _
          have HS1 : Hid (U ++ (encL last (Tb.fit 0 last es) (l.take (k + 1))).1 = OL ++ (encF last T f).1) := Lib.hid (by rw [hsn, hOL, List.append_assoc])
          have HS2 : Hid ((encL last (Tb.fit 0 last es) (l.take (k + 1))).2 = (encF last T f).2) := Lib.hid (by rw [hsn])
          have hOLl : OL.length ≤ 50000000 := by rw [hOL, List.length_append]; omega
          rw [← hOL] at ho
          rw [← hT] at he
          have hws : w.heap.size ≤ wr.heap.size := hc.size
          have hbw : W.heap.size ≤ w.heap.size := HW.out
          have HLT := Lib.hid he.lt
          have HO := Lib.hid (OwnB.chg0 ho ((Chg.refl wr).alloc (FN f))); have HE := Lib.hid (he.chg0 ((Chg.refl wr).alloc (FN f))); have HF1 := Lib.hid hf; have HC1 := Lib.hid (hc.alloc (FN f)); have HBX0 := Lib.hid (At.new wr (FN f))
          clear hsl hcells hfk hsn hOL hT ho he hf hc hb1
          obtain ⟨R, hR⟩ : ∃ R, R = findR T f := ⟨_, rfl⟩
          have HRR := Lib.hid hR
          have hR1 : R.1 ≤ 61 + T.length := by rw [hR]; exact findR_le
          have hTl : T.length ≤ 2048 := HE.out.tab.inv.len
          clear hR
          go_upto_region 10 with fail
          obtain ⟨B, hB⟩ : ∃ B, B = wr.heap.size := ⟨_, rfl⟩
          have HBX : Hid (At (wr.alloc (FN f)) B (FN f)) := Lib.hid (by rw [hB]; exact HBX0.out)
          have hBl : B < (wr.alloc (FN f)).heap.size := by rw [hB]; simp
          rw [← hB]
          have hbW : Hid (B = wr.heap.size) := Lib.hid hB
          have hBlo : wr.heap.size ≤ B := by omega
          have HNB : Hid (B ∉ c :: F1) := Lib.hid (fun hx => by have := HLT.out B hx; omega)
          clear HLT
          have hsw : (wr.alloc (FN f)).heap.size = wr.heap.size + 1 := by simp
          clear HBX0 hB
          generalize wr.alloc (FN f) = w0 at *
          have x0 : ∀ x : Later [] w0, World.cell? x.world ⟨c, 0, none⟩ = some (.pointer (some ⟨p, 0, none⟩)) := fun x => ((HE.out).head.chg x.chg (by simp)).cell rfl
          have x1 : ∀ x : Later [] w0, World.cell? x.world ⟨B, 0, none⟩ = some (.string f.n) := fun x => (HBX.out.chg x.chg (by simp)).cell rfl
          have x2 : ∀ x : Later [] w0, World.cell? x.world ⟨B, 1, none⟩ = some (.string f.v) := fun x => (HBX.out.chg x.chg (by simp)).cell rfl
          have x3 : ∀ x : Later [] w0, World.cell? x.world ⟨B, 2, none⟩ = some (.bool f.nv) := fun x => (HBX.out.chg x.chg (by simp)).cell rfl
          have HFD : Hid (∀ x : Later [] w0, Calls Try.prog 43 #[.pointer (some ⟨p, 0, none⟩), .agg (aF f)] x.world fun e w' => e = .returned (.tuple #[.int .i64 (R.1 : Nat), .bool R.2]) ∧ Chg [] x.world w') :=
            Lib.hid (fun x => (H_find f _ (EH.chg0 HE.out x.chg).tab).mono (fun e w' h => ⟨by rw [h.1, HRR.out], h.2⟩))
          refine wp_region_later (S := []) (by kernel_rfl) (by kernel_rfl) ?_
          repeat (go_big_quiet_step ((go_at_call 43; exact Calls.later (HFD.out _))))
          refine wpQuiet_nil ?_
          intro _ hw'
          obtain ⟨xq, rfl⟩ := hw'
          have HO2 := Lib.hid (OwnB.chg0 HO.out xq.chg); have HE2 := Lib.hid (EH.chg0 HE.out xq.chg); have HC2 := Lib.hid (HC1.out.trans' (xq.chg.mono (by simp))); have HBX2 := Lib.hid (HBX.out.chg xq.chg (by simp))
          have hs1 := xq.chg.size
          clear x0 x1 x2 x3 HFD HO HE HC1 HBX
          generalize xq.world = w1 at *
          clear xq
          have y0 : World.cell? w1 ⟨B, 0, none⟩ = some (.string f.n) := (HBX2.out).cell rfl
          have y1 : World.cell? w1 ⟨B, 1, none⟩ = some (.string f.v) := (HBX2.out).cell rfl
          cases hnv : f.nv with
          | true =>
            have HQ : Hid (encF last T f = (lit 16 4 R.1 f, T)) := Lib.hid (by unfold encF; rw [if_pos hnv, HRR.out])
            have y2 : World.cell? w1 ⟨B, 2, none⟩ = some (.bool true) := by rw [← hnv]; exact HBX2.out.cell rfl
            have HNV := Lib.hid hnv
            clear hnv
            go_wp2_with fail
            refine (literal_nv (nv := true) (base := w.heap.size) HNV.out u5 OL 16 4 R.1 (by omega) (by omega) HO2.out (by omega) (by omega)).mono ?_; rintro e w2 ⟨rv, rfl, o2, c2⟩
            have hs2 := c2.size
            have HEF := Lib.hid (EH.chg HE2.out c2 (EH.apart HE2.out HO2.out) (fun x hx => by have := HO2.out.1; have := OwnB.lo HO2.out x hx; omega)); have HCF := Lib.hid (HC2.out.trans c2 (fun x hx => Or.inr (OwnB.lo HO2.out x hx))); have HOF := Lib.hid o2; have HFF := HF1
            clear c2 o2 HE2 HC2 HO2
            go_wp2_with fail
            go_roundw
            case rel =>
              refine ⟨k + 1, F1, by omega, by go_num, ?_, ?_, ?_, ?_⟩
              · rw [HS1.out, HQ.out]; exact HOF.out
              · rw [HS2.out, HQ.out]; exact HEF.out
              · exact HFF.out
              · exact HCF.out
            case measure => simp [intOf]; omega
          | false =>
            have y2 : World.cell? w1 ⟨B, 2, none⟩ = some (.bool false) := by rw [← hnv]; exact HBX2.out.cell rfl
            have HNV := Lib.hid hnv
            clear hnv
            obtain ⟨i, is⟩ := R
            cases is with
            | true =>
              have HQ : Hid (encF last T f = ((putI 128 7 i).1, T)) := Lib.hid (by unfold encF; rw [if_neg (by rw [HNV.out]; simp), ← HRR.out, if_pos rfl])
              clear hR1 HNV
              go_wp2_with fail
              refine (putint_any 128 7 (i : Int) _).mono ?_; rintro e w2 ⟨rv, rfl, o2, c2⟩
              have hpl := putI_len 128 7 (i : Int)
              have HE3 := Lib.hid (EH.chg0 HE2.out c2); have HO3 := Lib.hid (OwnB.chg0 HO2.out c2); have OB := Lib.hid (OwnB.bytes o2); have HC3 := Lib.hid (HC2.out.trans' (c2.mono (by simp)))
              have hs2 := c2.size
              clear c2 o2 HE2 HO2 HC2 HBX2 y0 y1 y2
              go_wp2_with (at_builtin; refine app_any rfl _ _ rfl w.heap.size u5 OL rfl HO3.out rv _ rfl OB.out (by omega) (by omega) ?_)
              intro v3 w3 own3 ch3 n3
              have HEF := Lib.hid (EH.chg HE3.out ch3 (EH.apart HE3.out HO3.out) (fun x hx => by have := OwnB.lo HO3.out x hx; omega)); have HCF := Lib.hid (HC3.out.trans ch3 (fun x hx => Or.inr (OwnB.lo HO3.out x hx))); have HOF := Lib.hid own3; have HFF := HF1
              clear own3 ch3 n3 HE3 HO3 HC3 OB
              go_wp2_with fail
              go_roundw
              case rel =>
                refine ⟨k + 1, F1, by omega, by go_num, ?_, ?_, ?_, ?_⟩
                · rw [HS1.out, HQ.out]; exact HOF.out
                · rw [HS2.out, HQ.out]; exact HEF.out
                · exact HFF.out
                · exact HCF.out
              case measure => simp [intOf]; omega
            | false =>
              go_upto_region 18 with fail
              have x0 : ∀ x : Later [] w1, World.cell? x.world ⟨c, 0, none⟩ = some (.pointer (some ⟨p, 0, none⟩)) := fun x => ((HE2.out).head.chg x.chg (by simp)).cell rfl
              have x1 : ∀ x : Later [] w1, World.cell? x.world ⟨B, 0, none⟩ = some (.string f.n) := fun x => (HBX2.out.chg x.chg (by simp)).cell rfl
              have x2 : ∀ x : Later [] w1, World.cell? x.world ⟨B, 1, none⟩ = some (.string f.v) := fun x => (HBX2.out.chg x.chg (by simp)).cell rfl
              have x3 : ∀ x : Later [] w1, World.cell? x.world ⟨B, 2, none⟩ = some (.bool false) := fun x => by rw [← HNV.out]; exact (HBX2.out.chg x.chg (by simp)).cell rfl
              have HMX : Hid (∀ x : Later [] w1, Calls Try.prog 39 #[.pointer (some ⟨p, 0, none⟩)] x.world fun e w' => e = .returned (.int .i64 (last : Nat)) ∧ w' = x.world) :=
                Lib.hid (fun x => (H_max _ (EH.chg0 HE2.out x.chg).tab).mono (fun e w' h => ⟨h.1, h.2.symm⟩))
              have HSF : Hid (∀ x : Later [] w1, Calls Try.prog 41 #[.agg #[.string f.n, .string f.v, .bool false]] x.world fun e w' => e = .returned (.int .i64 (f.sz : Nat)) ∧ Chg [] x.world w') :=
                Lib.hid (fun x => by rw [← HNV.out]; exact (Tb.size_any f _ (by omega)).mono (fun e w' h => ⟨h.1, by rw [h.2]; exact (Chg.refl _).alloc _⟩))
              obtain ⟨z, hz⟩ : ∃ z, z = f.sz := ⟨_, rfl⟩
              rw [← hz] at HSF
              by_cases hzm : last < z
              · have hd : decide ((last : Int) < (z : Int)) = true := decide_eq_true (by omega)
                have HQ : Hid (encF last T f = (lit 0 4 i f, T)) := Lib.hid (by unfold encF; rw [if_neg (by rw [HNV.out]; simp), ← HRR.out, if_neg (by simp), if_pos (by omega)])
                have hid := Lib.hid hzm; clear hzm hz
                refine wp_region_later (S := []) (by kernel_rfl) (by kernel_rfl) ?_
                repeat (go_big_quiet_step (first | (go_at_call 39; exact Calls.later_same (HMX.out _)) | (go_at_call 41; exact Calls.later (HSF.out _))))
                refine wpQuiet_nil ?_
                intro _ hw'
                obtain ⟨xq, rfl⟩ := hw'
                have HO3 := Lib.hid (OwnB.chg0 HO2.out xq.chg); have HE3 := Lib.hid (EH.chg0 HE2.out xq.chg); have HC3 := Lib.hid (HC2.out.trans' (xq.chg.mono (by simp))); have HBX3 := Lib.hid (HBX2.out.chg xq.chg (by simp))
                have hs3 := xq.chg.size
                clear x0 x1 x2 x3 HMX HSF HO2 HE2 HC2 HBX2 y0 y1 y2
                generalize xq.world = w4 at *
                clear xq
                have y0 : World.cell? w4 ⟨B, 0, none⟩ = some (.string f.n) := (HBX3.out).cell rfl
                have y1 : World.cell? w4 ⟨B, 1, none⟩ = some (.string f.v) := (HBX3.out).cell rfl
                have y2 : World.cell? w4 ⟨B, 2, none⟩ = some (.bool false) := by rw [← HNV.out]; exact (HBX3.out).cell rfl
                go_wp2_with fail
                refine (literal_nv (nv := false) (base := w.heap.size) HNV.out u5 OL 0 4 i (by omega) (by omega) HO3.out (by omega) (by omega)).mono ?_; rintro e w2 ⟨rv, rfl, o2, c2⟩
                have hs2 := c2.size
                have HEF := Lib.hid (EH.chg HE3.out c2 (EH.apart HE3.out HO3.out) (fun x hx => by have := OwnB.lo HO3.out x hx; omega)); have HCF := Lib.hid (HC3.out.trans c2 (fun x hx => Or.inr (OwnB.lo HO3.out x hx))); have HOF := Lib.hid o2; have HFF := HF1
                clear c2 o2 HE3 HC3 HO3
                go_wp2_with fail
                go_roundw
                case rel =>
                  refine ⟨k + 1, F1, by omega, by go_num, ?_, ?_, ?_, ?_⟩
                  · rw [HS1.out, HQ.out]; exact HOF.out
                  · rw [HS2.out, HQ.out]; exact HEF.out
                  · exact HFF.out
                  · exact HCF.out
                case measure => simp [intOf]; omega
              · have hd : decide ((last : Int) < (z : Int)) = false := decide_eq_false (by omega)
                have HQ : Hid (encF last T f = (lit 64 6 i f, addS f last T)) := Lib.hid (by unfold encF; rw [if_neg (by rw [HNV.out]; simp), ← HRR.out, if_neg (by simp), if_neg (by omega)])
                have hid := Lib.hid hzm; clear hzm hz
                refine wp_region_later (S := []) (by kernel_rfl) (by kernel_rfl) ?_
                repeat (go_big_quiet_step (first | (go_at_call 39; exact Calls.later_same (HMX.out _)) | (go_at_call 41; exact Calls.later (HSF.out _))))
                refine wpQuiet_nil ?_
                intro _ hw'
                obtain ⟨xq, rfl⟩ := hw'
                have HO3 := Lib.hid (OwnB.chg0 HO2.out xq.chg); have HE3 := Lib.hid (EH.chg0 HE2.out xq.chg); have HC3 := Lib.hid (HC2.out.trans' (xq.chg.mono (by simp))); have HBX3 := Lib.hid (HBX2.out.chg xq.chg (by simp))
                have hs3 := xq.chg.size
                clear x0 x1 x2 x3 HMX HSF HO2 HE2 HC2 HBX2 y0 y1 y2
                generalize xq.world = w4 at *
                clear xq
                have y0 : World.cell? w4 ⟨B, 0, none⟩ = some (.string f.n) := (HBX3.out).cell rfl
                have y1 : World.cell? w4 ⟨B, 1, none⟩ = some (.string f.v) := (HBX3.out).cell rfl
                have y2 : World.cell? w4 ⟨B, 2, none⟩ = some (.bool false) := by rw [← HNV.out]; exact (HBX3.out).cell rfl
                go_wp2_with fail
                refine (literal_nv (nv := false) (base := w.heap.size) HNV.out u5 OL 64 6 i (by omega) (by omega) HO3.out (by omega) (by omega)).mono ?_; rintro e w2 ⟨rv, rfl, o2, c2⟩
                have hs2 := c2.size
                have HE4 := Lib.hid (EH.chg HE3.out c2 (EH.apart HE3.out HO3.out) (fun x hx => by have := OwnB.lo HO3.out x hx; omega)); have HC4 := Lib.hid (HC3.out.trans c2 (fun x hx => Or.inr (OwnB.lo HO3.out x hx))); have HO4 := Lib.hid o2
                have HBX4 := Lib.hid (HBX3.out.chg c2 (owns_alien HO3.out HBX3.out (by decide)))
                clear c2 o2 HE3 HC3 HO3 HBX3 y0 y1 y2
                go_upto_region 12 with fail
                have HED := Lib.hid (EH.chg0 HE4.out (Chg.refl w2).drew)
                have z0 : World.cell? w2 ⟨c, 0, none⟩ = some (.pointer (some ⟨p, 0, none⟩)) := HE4.out.head.cell rfl
                have z1 : World.cell? w2 ⟨B, 0, none⟩ = some (.string f.n) := HBX4.out.cell rfl
                have z2 : World.cell? w2 ⟨B, 1, none⟩ = some (.string f.v) := HBX4.out.cell rfl
                have z3 : World.cell? w2 ⟨B, 2, none⟩ = some (.bool false) := by rw [← HNV.out]; exact HBX4.out.cell rfl
                have HBD := Lib.hid (HBX4.out.chg (Chg.refl (l := []) w2).drew (by simp))
                have HADD : Hid (Calls Try.prog 46 #[.pointer (some ⟨p, 0, none⟩), .agg #[.string f.n, .string f.v, .bool false]] w2.drew fun e w3 => e = .returned (.tuple #[]) ∧ (∃ F2, EH W w3 c F2 p last (addS f last T) least last false ∧ Fresh F2 F w) ∧ Chg F1 w2 w3 ∧ At w3 B (FN f)) := by
                  refine Lib.hid ((add_nv HNV.out _ HED.out.tab (by omega)).mono ?_)
                  rintro e w3 ⟨rfl, ⟨F2, h2, f2⟩, c3⟩
                  refine ⟨rfl, ⟨F2, ⟨HED.out.head.chg c3 HED.out.nf, h2, fun hx => (f2 c hx).elim HED.out.nf (fun h => by have := HED.out.head.lt; omega), HED.out.lo, HED.out.b1, HED.out.b2⟩, fun x hx => (f2 x hx).elim (HF1.out x) (fun h => Or.inr (by simp at h; omega))⟩, (Chg.refl w2).drew.trans' c3, HBD.out.chg c3 (fun hx => HNB.out (List.mem_cons_of_mem _ hx))⟩
                go_region_held_law (fun w' => World.cell? w' ⟨c, 0, none⟩ = some (.pointer (some ⟨p, 0, none⟩)) ∧ World.cell? w' ⟨B, 0, none⟩ = some (.string f.n) ∧ World.cell? w' ⟨B, 1, none⟩ = some (.string f.v) ∧ World.cell? w' ⟨B, 2, none⟩ = some (.bool false)) (go_keep) (first
                  | (go_at_call 46; go_loud (refine HADD.out.mono ?_; rintro e w3 ⟨rfl, ⟨F2, h2, f2⟩, c3, hb3⟩; have k0 : World.cell? w3 ⟨c, 0, none⟩ = some (.pointer (some ⟨p, 0, none⟩)) := h2.head.cell rfl; have k1 : World.cell? w3 ⟨B, 0, none⟩ = some (.string f.n) := hb3.cell rfl; have k2 : World.cell? w3 ⟨B, 1, none⟩ = some (.string f.v) := hb3.cell rfl; have k3 : World.cell? w3 ⟨B, 2, none⟩ = some (.bool false) := (by rw [← HNV.out]; exact hb3.cell rfl); have H2 := Lib.hid h2; have F2H := Lib.hid f2; have C3 := Lib.hid c3; clear hb3 h2 f2 c3))
                  | fail)
                have HEF := H2; have HFF := F2H; have HOF := Lib.hid (OwnB.chg HO4.out C3.out (fun g hg hx => EH.apart HE4.out HO4.out g (List.mem_cons_of_mem _ hx) (by simpa using hg)))
                have HCF := Lib.hid (HC4.out.trans C3.out (fun x hx => (HF1.out x hx).imp (fun h => List.mem_cons_of_mem _ h) id))
                clear H2 F2H C3 HC4 HO4 HE4 HBX4 HED HBD
                go_wp2_with fail
                go_roundw
                case rel =>
                  refine ⟨k + 1, F2, by omega, by go_num, ?_, ?_, ?_, ?_⟩
                  · rw [HS1.out, HQ.out]; exact HOF.out
                  · rw [HS2.out, HQ.out]; exact HEF.out
                  · exact HFF.out
                  · exact HCF.out
                case measure => simp [intOf]; omega
        · obtain rfl : l.length = k := by omega
          rw [List.take_length] at ho he
          go_wp2_with fail
          go_ret
          refine ⟨_, F1, rfl, ?_, ?_, hf, hc⟩
          · rw [HB.out]; exact ho
          · rw [HB.out]; exact he
end Go.Proofs.Ytmoeioaahampaaa.Tb.Hp
