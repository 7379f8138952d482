/-
  The walk of field.
-/
import Derived.Test.YtmoeioaahampaaaHdU
import Derived.Deep.RegionHeldLaw
import Derived.Deep.DrawnRows
import Derived.Deep.DeepCutAuto
namespace Go.Proofs.Ytmoeioaahampaaa.Tb.Hp
open Go.ChangeShapes Go.WideShapes Go.ChangeAt Go.RowKit
open Go.Proofs.Ytmoeioaahampaaa.B Go.Proofs.Ytmoeioaahampaaa.Hi Go.Proofs.Ytmoeioaahampaaa.Tb
open Go.Proofs.Ytmoeioaahampaaa.Hf (bx need enc dec bitsOf)
set_option linter.unusedVariables false
set_option linter.unusedSimpArgs false

/-- A field without anything. -/
abbrev NOF : Obj := .cells #[.string ⟨#[]⟩, .string ⟨#[]⟩, .bool false] 44 (0, 0)
theorem getI_le (l : List UInt8) (P : Int) : (getI l P).1 ≤ 2147483647 := by
  by_cases h0 : (getI l P).2.2 = 0
  · exact (getI_ok h0).1
  · rw [(getI_bad l P h0).1]; exact Nat.zero_le _
theorem zset (z : Nat) (a b c : Value) (u : World) : Chg [z] u (((u.setCell ⟨z, 0, none⟩ a).setCell ⟨z, 1, none⟩ b).setCell ⟨z, 2, none⟩ c) :=
  (((Chg.refl u).setCell (Or.inl (by simp)) _).setCell (Or.inl (by simp)) _).setCell (Or.inl (by simp)) _
set_option maxRecDepth 100000 in
set_option maxHeartbeats 8000000 in
theorem field_any {W w : World} {d : Nat} {F0 : List Nat} {p m : Nat} {es : List Fd} {limit : Nat} {list : Int} {broken : Bool} (hd : DH W w d F0 p m es limit list broken) {B : Nat} {F : List Nat} {r : Nat} {sv : Value} {l : List UInt8} (h : RdH w B F r sv l false)
    (hl : 0 < l.length) (hl2 : l.length ≤ 100000) (hF : ∀ x ∈ F0, x ∈ F ∨ B ≤ x) (hWB : W.heap.size ≤ B) :
    Calls Try.prog 40 #[.pointer (some ⟨d, 0, none⟩), .pointer (some ⟨r, 0, none⟩)] w fun e w' => ∃ sv' F', e = .returned (.agg (aF (fieldR m es l).1)) ∧ RdH w' B F r sv' (fieldR m es l).2.1 (fieldR m es l).2.2.1 ∧ DH W w' d F' p m (fieldR m es l).2.2.2 limit list broken ∧ Fresh F' F0 w ∧ Chg (r :: F0) w w' := by
  obtain ⟨c, t, hct⟩ : ∃ c t, l = c :: t := by
    cases l with
    | nil => simp at hl
    | cons c t => exact ⟨c, t, rfl⟩
  have hhd : l.headD 0 = c := by rw [hct]; rfl
  obtain ⟨ba, cap, rfl, hcap, hcapm⟩ := h.bytes.slice
  obtain ⟨b, off, rfl, hbw, hcell⟩ := h.bytes.cell hl
  have q0 := hcell 0 c (by rw [hct]; rfl)
  rw [Nat.add_zero] at q0
  have hcl : c.toNat < 256 := c.toNat_lt
  have hout := h.out hl _ _ _ rfl
  have hrl := h.head.lt
  have hdl := hd.head.lt
  have hlo := h.lo
  have hDl := hd.lt
  have hra : r ∉ d :: F0 := hd.alien h.head (by decide) (by decide) (by decide)
  have x0 : World.cell? w ⟨r, 0, none⟩ = some (.slice (some ⟨b, off, none⟩) l.length cap) := h.head.cell rfl
  have hR1 := h.chg0 ((Chg.refl w).alloc NOF)
  have hD1 := hd.chg0 ((Chg.refl w).alloc NOF)
  have HR := Lib.hid hR1; have HD := Lib.hid hD1; have HZ := Lib.hid (At.new w NOF); have HRA := Lib.hid hra; have HFF := Lib.hid hF; have HDL := Lib.hid hDl
  have hl0 : (0 : Int) < (l.length : Int) := by omega
  have x1 : World.cell? w ⟨r, 1, none⟩ = some (.bool false) := h.head.cell rfl
  have xf : ∀ j, World.frozen? w ⟨r, j, none⟩ = false := fun j => h.head.free j
  have HH := Lib.hid h; have HDD := Lib.hid hd
  clear h hd hR1 hD1 hra hF hDl hcell hct
  unfold fieldR
  rw [hhd]
  clear hhd
  obtain ⟨k, hk⟩ : ∃ k : Nat, k = c.toNat := ⟨_, rfl⟩
  rw [← hk] at hcl q0 ⊢
  clear hk
  obtain ⟨z, hz⟩ : ∃ z, z = w.heap.size := ⟨_, rfl⟩
  have hrz : r ≠ z := by omega
  have hzr : z ≠ r := by omega
  have hzw : w.heap.size ≤ z := by omega
  have HZE := Lib.hid hz
  have HC0 : Hid (Chg (r :: F0) w (w.alloc NOF)) := Lib.hid ((Chg.refl w).alloc _)
  have hs0 : (w.alloc NOF).heap.size = z + 1 := by simp [hz]
  rw [← hz] at HZ
  clear hz
  by_cases h128 : 128 ≤ k
  · rw [if_pos h128]
    have g1 : decide ((128 : Int) ≤ (k : Int)) = true := decide_eq_true (by omega)
    have hle := getI_le l 7
    obtain ⟨G, hG⟩ : ∃ G, G = getI l 7 := ⟨_, rfl⟩
    rw [← hG] at hle ⊢
    obtain ⟨A, hA⟩ : ∃ A, A = atR es G.1 := ⟨_, rfl⟩
    rw [← hA]
    have HG := Lib.hid hG; have HA := Lib.hid hA
    clear hG hA
    obtain ⟨f, ok⟩ := A
    go_enter Try.func40, Try.ntmps40
    go_wp2_with fail
    refine (number_any HR.out 7).mono ?_; rintro e w1 ⟨he, ⟨sv1, r1⟩, c1⟩
    rw [show ((7 : Nat) : Int) = 7 from rfl, ← HG.out] at he r1; subst he
    have HR1 := Lib.hid r1; have HD1 := Lib.hid (HD.out.chg c1 (fun x hx hz => by simp at hz; subst hz; exact HRA.out hx) (fun x hx => by simp at hx; omega)); have HZ1 := Lib.hid (HZ.out.chg c1 (by simpa using hzr)); have HC1 := Lib.hid (HC0.out.trans' (c1.mono (by simp)))
    have hs1 := c1.size
    clear r1 c1 HR HD HZ HC0 x0 x1 xf q0
    go_wp2_with fail
    refine (at_any HD1.out HR1.out G.1 hle).mono ?_; rintro e w2 ⟨he, r2, c2⟩
    rw [← HA.out] at he r2
    replace he : e = .returned (.agg #[.string f.n, .string f.v, .bool f.nv]) := he
    subst he
    have HR2 := Lib.hid r2; have HD2 := Lib.hid (HD1.out.chg c2 (fun x hx hz => by simp at hz; subst hz; exact HRA.out hx) (fun x hx => by simp at hx; omega)); have HZ2 := Lib.hid (HZ1.out.chg c2 (by simpa using hzr)); have HC2 := Lib.hid (HC1.out.trans' (c2.mono (by simp)))
    have hs2 := c2.size
    clear r2 c2 HR1 HD1 HZ1 HC1
    rw [← HZE.out]
    skip
    have y0 : World.cell? w2 ⟨z, 0, none⟩ = some (.string ⟨#[]⟩) := HZ2.out.cell rfl
    have y1 : World.cell? w2 ⟨z, 1, none⟩ = some (.string ⟨#[]⟩) := HZ2.out.cell rfl
    have y2 : World.cell? w2 ⟨z, 2, none⟩ = some (.bool false) := HZ2.out.cell rfl
    have yf : ∀ j, World.frozen? w2 ⟨z, j, none⟩ = false := fun j => HZ2.out.free j
    go_wp2_with fail
    skip
    refine bodyPost_ret (v := .agg #[.string (f).n, .string (f).v, .bool (f).nv]) (by simp [results, Try.results40, go_sem, y0, y1, y2, yf, hrz, hzr]) rfl ?_
    first
      | exact ⟨_, F0, rfl, HR2.out.chg (zset z _ _ _ _) (by simpa using hrz) (fun x hx => Or.inr (by simp at hx; omega)), (by first | exact HD2.out.chg (zset z _ _ _ _) (fun x hx hz => by simp at hz; subst hz; first | (have := HDL.out _ hx; omega) | exact HZN.out _ hx rfl) (fun x hx => by simp at hx; omega) | (rw [if_neg (by simp)]; exact HD2.out.chg (zset z _ _ _ _) (fun x hx hz => by simp at hz; subst hz; first | (have := HDL.out _ hx; omega) | exact HZN.out _ hx rfl) (fun x hx => by simp at hx; omega)) | (rw [if_pos ⟨rfl, rfl⟩]; exact HD2.out.chg (zset z _ _ _ _) (fun x hx hz => by simp at hz; subst hz; first | (have := HDL.out _ hx; omega) | exact HZN.out _ hx rfl) (fun x hx => by simp at hx; omega))), (fun x hx => Or.inl hx), (HC2.out).trans (zset z _ _ _ _) (fun x hx => Or.inr (by simp at hx; omega))⟩
      | exact ⟨rfl, ⟨_, HR2.out.chg (zset z _ _ _ _) (by simpa using hrz) (fun x hx => Or.inr (by simp at hx; omega))⟩, F0, (by first | exact HD2.out.chg (zset z _ _ _ _) (fun x hx hz => by simp at hz; subst hz; first | (have := HDL.out _ hx; omega) | exact HZN.out _ hx rfl) (fun x hx => by simp at hx; omega) | (rw [if_neg (by simp)]; exact HD2.out.chg (zset z _ _ _ _) (fun x hx hz => by simp at hz; subst hz; first | (have := HDL.out _ hx; omega) | exact HZN.out _ hx rfl) (fun x hx => by simp at hx; omega)) | (rw [if_pos ⟨rfl, rfl⟩]; exact HD2.out.chg (zset z _ _ _ _) (fun x hx hz => by simp at hz; subst hz; first | (have := HDL.out _ hx; omega) | exact HZN.out _ hx rfl) (fun x hx => by simp at hx; omega))), (fun x hx => Or.inl hx), (HC2.out).trans (zset z _ _ _ _) (fun x hx => Or.inr (by simp at hx; omega))⟩
  · rw [if_neg h128]
    have g1 : decide ((128 : Int) ≤ (k : Int)) = false := decide_eq_false (by omega)
    by_cases h32 : k / 32 = 1
    · rw [if_pos h32]
      go_enter Try.func40, Try.ntmps40
      go_wp2_with fail
      have hca : Chg [r] w ((w.setCell ⟨r, 1, none⟩ (.bool true)).alloc NOF) := ((Chg.refl w).setCell (Or.inl (by simp)) _).alloc _
      refine bodyPost_ret (v := .agg #[.string ⟨#[]⟩, .string ⟨#[]⟩, .bool false]) (by simp [results, Try.results40, go_sem]) rfl ⟨rfl, ⟨_, (RdH.put1 HH.out true).chg0 ((Chg.refl _).alloc _)⟩, F0, HDD.out.chg hca (fun x hx hz => by simp at hz; subst hz; exact HRA.out hx) (fun x hx => by simp at hx; omega), fun x hx => Or.inl hx, hca.mono (by simp)⟩
    · rw [if_neg h32]
      by_cases h64 : 64 ≤ k
      · rw [if_pos h64]
        have g16 : ((k : Int) / 16 == 1) = false := by simp; omega
        skip
        have hle := getI_le l 6
        obtain ⟨G, hG⟩ : ∃ G, G = getI l 6 := ⟨_, rfl⟩
        obtain ⟨N, hN⟩ : ∃ N, N = nameR es G.1 (l.drop G.2.1) (decide (G.2.2 ≠ 0)) := ⟨_, rfl⟩
        obtain ⟨T, hT⟩ : ∃ T, T = textR N.2.1 N.2.2 := ⟨_, rfl⟩
        have hlit : litR 6 false m es l = (⟨N.1, ⟨T.1.toArray⟩, false⟩, T.2.1, T.2.2, if 6 = 6 ∧ T.2.2 = false then addS ⟨N.1, ⟨T.1.toArray⟩, false⟩ m es else es) := by
          rw [hT, hN, hG]; rfl
        have hnl : N.1.size ≤ 300000 ∧ N.2.1.length ≤ l.length := by
          rw [hN]; unfold nameR
          split
          · have := textR_len (l.drop G.2.1) (decide (G.2.2 ≠ 0))
            have hdl := List.length_drop (i := G.2.1) (l := l)
            refine ⟨?_, ?_⟩
            · show (textR (l.drop G.2.1) (decide (G.2.2 ≠ 0))).1.toArray.size ≤ _
              rw [List.size_toArray]; omega
            · show (textR (l.drop G.2.1) (decide (G.2.2 ≠ 0))).2.1.length ≤ _
              omega
          · have := atR_size HDD.out.tab.inv (G.1 : Int)
            refine ⟨?_, by simp⟩
            unfold Fd.sz at this
            show (atR es (G.1 : Int)).1.n.size ≤ _
            omega
        have htl := textR_len N.2.1 N.2.2
        rw [← hT] at htl
        rw [hlit]
        rw [← hG] at hle
        have HG := Lib.hid hG; have HN := Lib.hid hN; have HT := Lib.hid hT
        clear hG hN hT hlit
        obtain ⟨n, l2, b2⟩ := N
        obtain ⟨tv, l3, b3⟩ := T
        obtain ⟨V, cn, E⟩ := G
        simp only at hle hnl htl ⊢
        obtain ⟨v, hv⟩ : ∃ v : ByteArray, v = ⟨tv.toArray⟩ := ⟨_, rfl⟩
        have hvs : v.size ≤ 300000 := by rw [hv]; show tv.toArray.size ≤ _; rw [List.size_toArray]; omega
        rw [← hv]
        have HV := Lib.hid hv
        clear hv
        have hb1 : (decide ((V, cn, E).2.2 ≠ 0)) = decide (E ≠ 0) := rfl
        obtain ⟨b1, hb1⟩ : ∃ b1, b1 = decide (E ≠ 0) := ⟨_, rfl⟩
        obtain ⟨l1, hl1⟩ : ∃ l1, l1 = l.drop cn := ⟨_, rfl⟩
        have HN : Hid ((n, l2, b2) = nameR es V l1 b1) := Lib.hid (by rw [hb1, hl1]; exact HN.out)
        have HB1 := Lib.hid hb1; have HL1 := Lib.hid hl1
        clear hb1 hl1 HH HDD
        go_enter Try.func40, Try.ntmps40
        go_wp2_with fail
        refine (number_any HR.out 6).mono ?_; rintro e w1 ⟨he, ⟨sv1, r1⟩, c1⟩
        rw [show ((6 : Nat) : Int) = 6 from rfl, ← HG.out] at he r1; subst he
        replace r1 : RdH w1 B F r sv1 l1 b1 := by rw [HB1.out, HL1.out]; exact r1
        have hs1 := c1.size
        rw [hs0] at hs1
        obtain ⟨q, hq⟩ : ∃ q, q = w1.heap.size := ⟨_, rfl⟩
        have hqr : q ≠ r := by omega
        have hrq : r ≠ q := by omega
        have hzq : z ≠ q := by omega
        have hqz : q ≠ z := by omega
        have hqw : w.heap.size ≤ q := by omega
        have hcx : Chg [r] (w.alloc NOF) (w1.alloc (.cells #[.string ⟨#[]⟩, .string ⟨#[]⟩, .bool false] 44)) := c1.alloc _
        have HR1 := Lib.hid (r1.chg0 ((Chg.refl w1).alloc (.cells #[.string ⟨#[]⟩, .string ⟨#[]⟩, .bool false] 44))); have HD1 := Lib.hid (HD.out.chg hcx (fun x hx hz => by simp at hz; subst hz; exact HRA.out hx) (fun x hx => by simp at hx; omega)); have HZ1 := Lib.hid (HZ.out.chg hcx (by simpa using hzr)); have HC1 := Lib.hid (HC0.out.trans' (hcx.mono (by simp)))
        have HQ1 := Lib.hid (At.new' (w := w1) (o := .cells #[.string ⟨#[]⟩, .string ⟨#[]⟩, .bool false] 44) hq.symm)
        have hsx : (w1.alloc (.cells #[.string ⟨#[]⟩, .string ⟨#[]⟩, .bool false] 44)).heap.size = q + 1 := by simp [hq]
        have HQE := Lib.hid hq
        clear r1 c1 HR HD HZ HC0 x0 x1 xf q0 hcx hq hs0
        by_cases hV : V = 0
        · subst hV
          have hn := HN.out
          unfold nameR at hn
          rw [if_pos rfl] at hn
          simp only [Prod.mk.injEq] at hn
          obtain ⟨hn1, hn2, hn3⟩ := hn
          have HN1 := Lib.hid hn1; have HN2 := Lib.hid hn2; have HN3 := Lib.hid hn3
          clear hn1 hn2 hn3
          go_wp2_with fail
          rw [← HQE.out]
          refine (text_any HR1.out).mono ?_; rintro e w2 ⟨he, ⟨sv2, r2⟩, c2⟩
          rw [← HN2.out, ← HN3.out] at r2
          replace he : e = .returned (.string n) := by first | (rw [he, HN1.out]; done) | (rw [he, HN1.out]; rfl)
          subst he
          skip
          have HZ2 := Lib.hid (HZ1.out.chg c2 (by simpa using hzr)); have HQ2 := Lib.hid (HQ1.out.chg c2 (by simpa using hqr)); have HD2 := Lib.hid (HD1.out.chg c2 (fun x hx hz => by simp at hz; subst hz; exact HRA.out hx) (fun x hx => by simp at hx; omega)); have HC2 := Lib.hid (HC1.out.trans' (c2.mono (by simp)))
          have hs2 := c2.size
          have HR2 := Lib.hid r2
          clear c2 r2 HZ1 HQ1 HD1 HC1 HR1
          have hcq : ∀ j v, Chg [q] w2 (w2.setCell ⟨q, j, none⟩ v) := fun j v => (Chg.refl w2).setCell (Or.inl (by simp)) _
          have HR3 := Lib.hid (HR2.out.chg (hcq 0 (.string n)) (by simpa using hrq) (fun x hx => Or.inr (by simp at hx; omega)))
          have HD3 := Lib.hid (HD2.out.chg (hcq 0 (.string n)) (fun x hx hz => by simp at hz; subst hz; have := HDL.out _ hx; omega) (fun x hx => by simp at hx; omega))
          have HZ3 := Lib.hid (HZ2.out.chg (hcq 0 (.string n)) (by simpa using hzq)); have HQ3 := Lib.hid (HQ2.out.set 0 (.string n)); have HC3 := Lib.hid (HC2.out.trans (hcq 0 (.string n)) (fun x hx => Or.inr (by simp at hx; omega)))
          skip
          have p0 : World.cell? w2 ⟨q, 0, none⟩ = some (.string ⟨#[]⟩) := HQ2.out.cell rfl
          have p1 : World.cell? w2 ⟨q, 1, none⟩ = some (.string ⟨#[]⟩) := HQ2.out.cell rfl
          have p2 : World.cell? w2 ⟨q, 2, none⟩ = some (.bool false) := HQ2.out.cell rfl
          have pf : ∀ j, World.frozen? w2 ⟨q, j, none⟩ = false := fun j => HQ2.out.free j
          clear HR2 HD2 HZ2 HQ2 HC2 hcq
          go_wp2_with fail
          refine (text_any HR3.out).mono ?_; rintro e w3 ⟨he, ⟨sv3, r3⟩, c3⟩
          rw [← HT.out] at he r3
          replace he : e = .returned (.string v) := by first | (rw [he, HV.out]; done) | (rw [he, HV.out]; rfl)
          subst he
          have hs3 := c3.size
          simp at hs3
          have HR4 := Lib.hid r3; have HD4 := Lib.hid (HD3.out.chg c3 (fun x hx hz => by simp at hz; subst hz; exact HRA.out hx) (fun x hx => by simp at hx; omega)); have HZ4 := Lib.hid (HZ3.out.chg c3 (by simpa using hzr)); have HQ4 := Lib.hid (HQ3.out.chg c3 (by simpa using hqr)); have HC4 := Lib.hid (HC3.out.trans' (c3.mono (by simp)))
          clear r3 c3 HR3 HD3 HZ3 HQ3 HC3 p0 p1 p2 pf
          have hcq : ∀ j v, Chg [q] w3 (w3.setCell ⟨q, j, none⟩ v) := fun j v => (Chg.refl w3).setCell (Or.inl (by simp)) _
          have HR5 := Lib.hid (HR4.out.chg (hcq 1 (.string v)) (by simpa using hrq) (fun x hx => Or.inr (by simp at hx; omega)))
          have HD5 := Lib.hid (HD4.out.chg (hcq 1 (.string v)) (fun x hx hz => by simp at hz; subst hz; have := HDL.out _ hx; omega) (fun x hx => by simp at hx; omega))
          have HZ5 := Lib.hid (HZ4.out.chg (hcq 1 (.string v)) (by simpa using hzq)); have HQ5 := Lib.hid (HQ4.out.set 1 (.string v)); have HC5 := Lib.hid (HC4.out.trans (hcq 1 (.string v)) (fun x hx => Or.inr (by simp at hx; omega)))
          skip
          have p0 : World.cell? w3 ⟨q, 0, none⟩ = some (.string n) := HQ4.out.cell rfl
          have p1 : World.cell? w3 ⟨q, 1, none⟩ = some (.string ⟨#[]⟩) := HQ4.out.cell rfl
          have p2 : World.cell? w3 ⟨q, 2, none⟩ = some (.bool false) := HQ4.out.cell rfl
          have pf : ∀ j, World.frozen? w3 ⟨q, j, none⟩ = false := fun j => HQ4.out.free j
          skip
          have y0 : World.cell? w3 ⟨z, 0, none⟩ = some (.string ⟨#[]⟩) := HZ4.out.cell rfl
          have y1 : World.cell? w3 ⟨z, 1, none⟩ = some (.string ⟨#[]⟩) := HZ4.out.cell rfl
          have y2 : World.cell? w3 ⟨z, 2, none⟩ = some (.bool false) := HZ4.out.cell rfl
          have yf : ∀ j, World.frozen? w3 ⟨z, j, none⟩ = false := fun j => HZ4.out.free j
          have x1 : World.cell? w3 ⟨r, 1, none⟩ = some (.bool b3) := HR4.out.head.cell rfl
          clear HR4 HD4 HZ4 HQ4 HC4 hcq
          skip
          rw [← HZE.out]
          cases b3 with
          | true =>
            go_wp2_with fail
            skip
            refine bodyPost_ret (v := .agg #[.string ((⟨n, v, false⟩ : Fd)).n, .string ((⟨n, v, false⟩ : Fd)).v, .bool ((⟨n, v, false⟩ : Fd)).nv]) (by simp [results, Try.results40, go_sem, y0, y1, y2, yf, hrz, hzr, hzq, hqz]) rfl ?_
            first
              | exact ⟨_, F0, rfl, HR5.out.chg (zset z _ _ _ _) (by simpa using hrz) (fun x hx => Or.inr (by simp at hx; omega)), (by first | exact HD5.out.chg (zset z _ _ _ _) (fun x hx hz => by simp at hz; subst hz; first | (have := HDL.out _ hx; omega) | exact HZN.out _ hx rfl) (fun x hx => by simp at hx; omega) | (rw [if_neg (by simp)]; exact HD5.out.chg (zset z _ _ _ _) (fun x hx hz => by simp at hz; subst hz; first | (have := HDL.out _ hx; omega) | exact HZN.out _ hx rfl) (fun x hx => by simp at hx; omega)) | (rw [if_pos ⟨rfl, rfl⟩]; exact HD5.out.chg (zset z _ _ _ _) (fun x hx hz => by simp at hz; subst hz; first | (have := HDL.out _ hx; omega) | exact HZN.out _ hx rfl) (fun x hx => by simp at hx; omega))), (fun x hx => Or.inl hx), (HC5.out).trans (zset z _ _ _ _) (fun x hx => Or.inr (by simp at hx; omega))⟩
              | exact ⟨rfl, ⟨_, HR5.out.chg (zset z _ _ _ _) (by simpa using hrz) (fun x hx => Or.inr (by simp at hx; omega))⟩, F0, (by first | exact HD5.out.chg (zset z _ _ _ _) (fun x hx hz => by simp at hz; subst hz; first | (have := HDL.out _ hx; omega) | exact HZN.out _ hx rfl) (fun x hx => by simp at hx; omega) | (rw [if_neg (by simp)]; exact HD5.out.chg (zset z _ _ _ _) (fun x hx hz => by simp at hz; subst hz; first | (have := HDL.out _ hx; omega) | exact HZN.out _ hx rfl) (fun x hx => by simp at hx; omega)) | (rw [if_pos ⟨rfl, rfl⟩]; exact HD5.out.chg (zset z _ _ _ _) (fun x hx hz => by simp at hz; subst hz; first | (have := HDL.out _ hx; omega) | exact HZN.out _ hx rfl) (fun x hx => by simp at hx; omega))), (fun x hx => Or.inl hx), (HC5.out).trans (zset z _ _ _ _) (fun x hx => Or.inr (by simp at hx; omega))⟩
          | false =>
            go_upto_region 17 with fail
            have hs4 : (w3.setCell ⟨q, 1, none⟩ (.string v)).heap.size = w3.heap.size := by simp
            have hdq : d ≠ q := by omega
            have hzl := HZ5.out.lt
            clear x1 y0 y1 y2 yf p0 p1 p2 pf
            generalize w3.setCell ⟨q, 1, none⟩ (.string v) = w4 at *
            have HED := Lib.hid (HD5.out.chg0 (Chg.refl w4).drew)
            have z0 : World.cell? w4 ⟨d, 0, none⟩ = some (.pointer (some ⟨p, 0, none⟩)) := HD5.out.head.cell rfl
            have z1 : World.cell? w4 ⟨q, 0, none⟩ = some (.string n) := HQ5.out.cell rfl
            have z2 : World.cell? w4 ⟨q, 1, none⟩ = some (.string v) := HQ5.out.cell rfl
            have z3 : World.cell? w4 ⟨q, 2, none⟩ = some (.bool false) := HQ5.out.cell rfl
            have HQD := Lib.hid (HQ5.out.chg (Chg.refl (l := []) w4).drew (by simp))
            have HADD : Hid (Calls Try.prog 46 #[.pointer (some ⟨p, 0, none⟩), .agg #[.string n, .string v, .bool false]] w4.drew fun e w5 => e = .returned (.tuple #[]) ∧ (∃ F2, DH W w5 d F2 p m (addS ⟨n, v, false⟩ m es) limit list broken ∧ Fresh F2 F0 w4) ∧ Chg F0 w4 w5 ∧ World.cell? w5 ⟨d, 0, none⟩ = some (.pointer (some ⟨p, 0, none⟩)) ∧ World.cell? w5 ⟨q, 0, none⟩ = some (.string n) ∧ World.cell? w5 ⟨q, 1, none⟩ = some (.string v) ∧ World.cell? w5 ⟨q, 2, none⟩ = some (.bool false)) := by
              refine Lib.hid ((H_add ⟨n, v, false⟩ _ HED.out.tab (by show n.size + v.size + 32 ≤ _; omega)).mono ?_)
              rintro e w5 ⟨he, ⟨F2, h2, f2⟩, c3⟩
              have hq3 := HQD.out.chg c3 (fun hx => by have := HDL.out q (List.mem_cons_of_mem _ hx); omega)
              have hd3 := HED.out.head.chg c3 HED.out.nf
              exact ⟨he, ⟨F2, ⟨hd3, h2, fun hx => (f2 d hx).elim HED.out.nf (fun h => by have := HED.out.head.lt; omega), HED.out.lo, HED.out.b1⟩, fun x hx => (f2 x hx).imp id (fun h => by simpa using h)⟩, (Chg.refl w4).drew.trans' c3, hd3.cell rfl, hq3.cell rfl, hq3.cell rfl, hq3.cell rfl⟩
            go_region_held_law (fun w' => World.cell? w' ⟨d, 0, none⟩ = some (.pointer (some ⟨p, 0, none⟩)) ∧ World.cell? w' ⟨q, 0, none⟩ = some (.string n) ∧ World.cell? w' ⟨q, 1, none⟩ = some (.string v) ∧ World.cell? w' ⟨q, 2, none⟩ = some (.bool false)) (go_keep) (first
              | (go_at_call 46; go_loud (refine HADD.out.mono ?_; rintro e w5 ⟨rfl, ⟨F2, h2, f2⟩, c5, k0, k1, k2, k3⟩; have H2 := Lib.hid h2; have F2H := Lib.hid f2; have C5 := Lib.hid c5; clear h2 f2 c5))
              | fail)
            have HZ6 := Lib.hid (HZ5.out.chg C5.out (fun hx => by have := HDL.out z (List.mem_cons_of_mem _ hx); omega))
            have HR6 := Lib.hid (HR5.out.chg C5.out (fun hx => HRA.out (List.mem_cons_of_mem _ hx)) HFF.out)
            have HC6 := Lib.hid (HC5.out.trans C5.out (fun x hx => Or.inl (List.mem_cons_of_mem _ hx)))
            have HZN : Hid (∀ x ∈ d :: F2, x ≠ z) := Lib.hid (fun x hx => by
              rcases List.mem_cons.1 hx with rfl | hx
              · have := HDL.out x (by simp); omega
              · rcases F2H.out x hx with h | h
                · have := HDL.out x (List.mem_cons_of_mem _ h); omega
                · omega)
            clear HZ5 HR5 HC5 HD5 HQ5 HED HQD HADD z0 z1 z2 z3 k0
            skip
            have y0 : World.cell? w5 ⟨z, 0, none⟩ = some (.string ⟨#[]⟩) := HZ6.out.cell rfl
            have y1 : World.cell? w5 ⟨z, 1, none⟩ = some (.string ⟨#[]⟩) := HZ6.out.cell rfl
            have y2 : World.cell? w5 ⟨z, 2, none⟩ = some (.bool false) := HZ6.out.cell rfl
            have yf : ∀ j, World.frozen? w5 ⟨z, j, none⟩ = false := fun j => HZ6.out.free j
            go_wp2_with fail
            skip
            refine bodyPost_ret (v := .agg #[.string ((⟨n, v, false⟩ : Fd)).n, .string ((⟨n, v, false⟩ : Fd)).v, .bool ((⟨n, v, false⟩ : Fd)).nv]) (by simp [results, Try.results40, go_sem, y0, y1, y2, yf, hrz, hzr]) rfl ?_
            first
              | exact ⟨_, F2, rfl, HR6.out.chg (zset z _ _ _ _) (by simpa using hrz) (fun x hx => Or.inr (by simp at hx; omega)), (by first | exact H2.out.chg (zset z _ _ _ _) (fun x hx hz => by simp at hz; subst hz; first | (have := HDL.out _ hx; omega) | exact HZN.out _ hx rfl) (fun x hx => by simp at hx; omega) | (rw [if_neg (by simp)]; exact H2.out.chg (zset z _ _ _ _) (fun x hx hz => by simp at hz; subst hz; first | (have := HDL.out _ hx; omega) | exact HZN.out _ hx rfl) (fun x hx => by simp at hx; omega)) | (rw [if_pos ⟨rfl, rfl⟩]; exact H2.out.chg (zset z _ _ _ _) (fun x hx hz => by simp at hz; subst hz; first | (have := HDL.out _ hx; omega) | exact HZN.out _ hx rfl) (fun x hx => by simp at hx; omega))), (fun x hx => (F2H.out x hx).imp id (fun h => by omega)), (HC6.out).trans (zset z _ _ _ _) (fun x hx => Or.inr (by simp at hx; omega))⟩
              | exact ⟨rfl, ⟨_, HR6.out.chg (zset z _ _ _ _) (by simpa using hrz) (fun x hx => Or.inr (by simp at hx; omega))⟩, F2, (by first | exact H2.out.chg (zset z _ _ _ _) (fun x hx hz => by simp at hz; subst hz; first | (have := HDL.out _ hx; omega) | exact HZN.out _ hx rfl) (fun x hx => by simp at hx; omega) | (rw [if_neg (by simp)]; exact H2.out.chg (zset z _ _ _ _) (fun x hx hz => by simp at hz; subst hz; first | (have := HDL.out _ hx; omega) | exact HZN.out _ hx rfl) (fun x hx => by simp at hx; omega)) | (rw [if_pos ⟨rfl, rfl⟩]; exact H2.out.chg (zset z _ _ _ _) (fun x hx hz => by simp at hz; subst hz; first | (have := HDL.out _ hx; omega) | exact HZN.out _ hx rfl) (fun x hx => by simp at hx; omega))), (fun x hx => (F2H.out x hx).imp id (fun h => by omega)), (HC6.out).trans (zset z _ _ _ _) (fun x hx => Or.inr (by simp at hx; omega))⟩
        · have hn := HN.out
          unfold nameR at hn
          rw [if_neg hV] at hn
          simp only [Prod.mk.injEq] at hn
          obtain ⟨hn1, hn2, hn3⟩ := hn
          obtain ⟨A, hA⟩ : ∃ A, A = atR es V := ⟨_, rfl⟩
          rw [← hA] at hn1 hn3
          obtain ⟨⟨an, av, anv⟩, ok⟩ := A
          simp only at hn1 hn3
          subst hn1
          have HN2 := Lib.hid hn2; have HN3 := Lib.hid hn3; have HA := Lib.hid hA
          have hV0 : ((V : Int) == 0) = false := by simp; omega
          clear hn2 hn3 hA
          go_wp2_with fail
          rw [← HQE.out]
          refine (at_any HD1.out HR1.out V hle).mono ?_; rintro e w2 ⟨he, r2, c2⟩
          rw [← HA.out] at he r2
          replace r2 : RdH w2 B F r sv1 l2 b2 := by rw [HN2.out, HN3.out]; exact r2
          replace he : e = .returned (.agg #[.string n, .string av, .bool anv]) := he
          subst he
          have hfl : ∀ w' : World, (Instr.field 44 (.agg #[.string n, .string av, .bool anv]) 0).run Try.prog w' = .ok (.string n) w' := fun _ => rfl
          skip
          have HZ2 := Lib.hid (HZ1.out.chg c2 (by simpa using hzr)); have HQ2 := Lib.hid (HQ1.out.chg c2 (by simpa using hqr)); have HD2 := Lib.hid (HD1.out.chg c2 (fun x hx hz => by simp at hz; subst hz; exact HRA.out hx) (fun x hx => by simp at hx; omega)); have HC2 := Lib.hid (HC1.out.trans' (c2.mono (by simp)))
          have hs2 := c2.size
          have HR2 := Lib.hid r2
          clear c2 r2 HZ1 HQ1 HD1 HC1 HR1
          have hcq : ∀ j v, Chg [q] w2 (w2.setCell ⟨q, j, none⟩ v) := fun j v => (Chg.refl w2).setCell (Or.inl (by simp)) _
          have HR3 := Lib.hid (HR2.out.chg (hcq 0 (.string n)) (by simpa using hrq) (fun x hx => Or.inr (by simp at hx; omega)))
          have HD3 := Lib.hid (HD2.out.chg (hcq 0 (.string n)) (fun x hx hz => by simp at hz; subst hz; have := HDL.out _ hx; omega) (fun x hx => by simp at hx; omega))
          have HZ3 := Lib.hid (HZ2.out.chg (hcq 0 (.string n)) (by simpa using hzq)); have HQ3 := Lib.hid (HQ2.out.set 0 (.string n)); have HC3 := Lib.hid (HC2.out.trans (hcq 0 (.string n)) (fun x hx => Or.inr (by simp at hx; omega)))
          skip
          have p0 : World.cell? w2 ⟨q, 0, none⟩ = some (.string ⟨#[]⟩) := HQ2.out.cell rfl
          have p1 : World.cell? w2 ⟨q, 1, none⟩ = some (.string ⟨#[]⟩) := HQ2.out.cell rfl
          have p2 : World.cell? w2 ⟨q, 2, none⟩ = some (.bool false) := HQ2.out.cell rfl
          have pf : ∀ j, World.frozen? w2 ⟨q, j, none⟩ = false := fun j => HQ2.out.free j
          clear HR2 HD2 HZ2 HQ2 HC2 hcq
          go_wp2_with fail
          refine (text_any HR3.out).mono ?_; rintro e w3 ⟨he, ⟨sv3, r3⟩, c3⟩
          rw [← HT.out] at he r3
          replace he : e = .returned (.string v) := by first | (rw [he, HV.out]; done) | (rw [he, HV.out]; rfl)
          subst he
          have hs3 := c3.size
          simp at hs3
          have HR4 := Lib.hid r3; have HD4 := Lib.hid (HD3.out.chg c3 (fun x hx hz => by simp at hz; subst hz; exact HRA.out hx) (fun x hx => by simp at hx; omega)); have HZ4 := Lib.hid (HZ3.out.chg c3 (by simpa using hzr)); have HQ4 := Lib.hid (HQ3.out.chg c3 (by simpa using hqr)); have HC4 := Lib.hid (HC3.out.trans' (c3.mono (by simp)))
          clear r3 c3 HR3 HD3 HZ3 HQ3 HC3 p0 p1 p2 pf
          have hcq : ∀ j v, Chg [q] w3 (w3.setCell ⟨q, j, none⟩ v) := fun j v => (Chg.refl w3).setCell (Or.inl (by simp)) _
          have HR5 := Lib.hid (HR4.out.chg (hcq 1 (.string v)) (by simpa using hrq) (fun x hx => Or.inr (by simp at hx; omega)))
          have HD5 := Lib.hid (HD4.out.chg (hcq 1 (.string v)) (fun x hx hz => by simp at hz; subst hz; have := HDL.out _ hx; omega) (fun x hx => by simp at hx; omega))
          have HZ5 := Lib.hid (HZ4.out.chg (hcq 1 (.string v)) (by simpa using hzq)); have HQ5 := Lib.hid (HQ4.out.set 1 (.string v)); have HC5 := Lib.hid (HC4.out.trans (hcq 1 (.string v)) (fun x hx => Or.inr (by simp at hx; omega)))
          skip
          have p0 : World.cell? w3 ⟨q, 0, none⟩ = some (.string n) := HQ4.out.cell rfl
          have p1 : World.cell? w3 ⟨q, 1, none⟩ = some (.string ⟨#[]⟩) := HQ4.out.cell rfl
          have p2 : World.cell? w3 ⟨q, 2, none⟩ = some (.bool false) := HQ4.out.cell rfl
          have pf : ∀ j, World.frozen? w3 ⟨q, j, none⟩ = false := fun j => HQ4.out.free j
          skip
          have y0 : World.cell? w3 ⟨z, 0, none⟩ = some (.string ⟨#[]⟩) := HZ4.out.cell rfl
          have y1 : World.cell? w3 ⟨z, 1, none⟩ = some (.string ⟨#[]⟩) := HZ4.out.cell rfl
          have y2 : World.cell? w3 ⟨z, 2, none⟩ = some (.bool false) := HZ4.out.cell rfl
          have yf : ∀ j, World.frozen? w3 ⟨z, j, none⟩ = false := fun j => HZ4.out.free j
          have x1 : World.cell? w3 ⟨r, 1, none⟩ = some (.bool b3) := HR4.out.head.cell rfl
          clear HR4 HD4 HZ4 HQ4 HC4 hcq
          skip
          rw [← HZE.out]
          cases b3 with
          | true =>
            go_wp2_with fail
            skip
            refine bodyPost_ret (v := .agg #[.string ((⟨n, v, false⟩ : Fd)).n, .string ((⟨n, v, false⟩ : Fd)).v, .bool ((⟨n, v, false⟩ : Fd)).nv]) (by simp [results, Try.results40, go_sem, y0, y1, y2, yf, hrz, hzr, hzq, hqz]) rfl ?_
            first
              | exact ⟨_, F0, rfl, HR5.out.chg (zset z _ _ _ _) (by simpa using hrz) (fun x hx => Or.inr (by simp at hx; omega)), (by first | exact HD5.out.chg (zset z _ _ _ _) (fun x hx hz => by simp at hz; subst hz; first | (have := HDL.out _ hx; omega) | exact HZN.out _ hx rfl) (fun x hx => by simp at hx; omega) | (rw [if_neg (by simp)]; exact HD5.out.chg (zset z _ _ _ _) (fun x hx hz => by simp at hz; subst hz; first | (have := HDL.out _ hx; omega) | exact HZN.out _ hx rfl) (fun x hx => by simp at hx; omega)) | (rw [if_pos ⟨rfl, rfl⟩]; exact HD5.out.chg (zset z _ _ _ _) (fun x hx hz => by simp at hz; subst hz; first | (have := HDL.out _ hx; omega) | exact HZN.out _ hx rfl) (fun x hx => by simp at hx; omega))), (fun x hx => Or.inl hx), (HC5.out).trans (zset z _ _ _ _) (fun x hx => Or.inr (by simp at hx; omega))⟩
              | exact ⟨rfl, ⟨_, HR5.out.chg (zset z _ _ _ _) (by simpa using hrz) (fun x hx => Or.inr (by simp at hx; omega))⟩, F0, (by first | exact HD5.out.chg (zset z _ _ _ _) (fun x hx hz => by simp at hz; subst hz; first | (have := HDL.out _ hx; omega) | exact HZN.out _ hx rfl) (fun x hx => by simp at hx; omega) | (rw [if_neg (by simp)]; exact HD5.out.chg (zset z _ _ _ _) (fun x hx hz => by simp at hz; subst hz; first | (have := HDL.out _ hx; omega) | exact HZN.out _ hx rfl) (fun x hx => by simp at hx; omega)) | (rw [if_pos ⟨rfl, rfl⟩]; exact HD5.out.chg (zset z _ _ _ _) (fun x hx hz => by simp at hz; subst hz; first | (have := HDL.out _ hx; omega) | exact HZN.out _ hx rfl) (fun x hx => by simp at hx; omega))), (fun x hx => Or.inl hx), (HC5.out).trans (zset z _ _ _ _) (fun x hx => Or.inr (by simp at hx; omega))⟩
          | false =>
            go_upto_region 17 with fail
            have hs4 : (w3.setCell ⟨q, 1, none⟩ (.string v)).heap.size = w3.heap.size := by simp
            have hdq : d ≠ q := by omega
            have hzl := HZ5.out.lt
            clear x1 y0 y1 y2 yf p0 p1 p2 pf
            generalize w3.setCell ⟨q, 1, none⟩ (.string v) = w4 at *
            have HED := Lib.hid (HD5.out.chg0 (Chg.refl w4).drew)
            have z0 : World.cell? w4 ⟨d, 0, none⟩ = some (.pointer (some ⟨p, 0, none⟩)) := HD5.out.head.cell rfl
            have z1 : World.cell? w4 ⟨q, 0, none⟩ = some (.string n) := HQ5.out.cell rfl
            have z2 : World.cell? w4 ⟨q, 1, none⟩ = some (.string v) := HQ5.out.cell rfl
            have z3 : World.cell? w4 ⟨q, 2, none⟩ = some (.bool false) := HQ5.out.cell rfl
            have HQD := Lib.hid (HQ5.out.chg (Chg.refl (l := []) w4).drew (by simp))
            have HADD : Hid (Calls Try.prog 46 #[.pointer (some ⟨p, 0, none⟩), .agg #[.string n, .string v, .bool false]] w4.drew fun e w5 => e = .returned (.tuple #[]) ∧ (∃ F2, DH W w5 d F2 p m (addS ⟨n, v, false⟩ m es) limit list broken ∧ Fresh F2 F0 w4) ∧ Chg F0 w4 w5 ∧ World.cell? w5 ⟨d, 0, none⟩ = some (.pointer (some ⟨p, 0, none⟩)) ∧ World.cell? w5 ⟨q, 0, none⟩ = some (.string n) ∧ World.cell? w5 ⟨q, 1, none⟩ = some (.string v) ∧ World.cell? w5 ⟨q, 2, none⟩ = some (.bool false)) := by
              refine Lib.hid ((H_add ⟨n, v, false⟩ _ HED.out.tab (by show n.size + v.size + 32 ≤ _; omega)).mono ?_)
              rintro e w5 ⟨he, ⟨F2, h2, f2⟩, c3⟩
              have hq3 := HQD.out.chg c3 (fun hx => by have := HDL.out q (List.mem_cons_of_mem _ hx); omega)
              have hd3 := HED.out.head.chg c3 HED.out.nf
              exact ⟨he, ⟨F2, ⟨hd3, h2, fun hx => (f2 d hx).elim HED.out.nf (fun h => by have := HED.out.head.lt; omega), HED.out.lo, HED.out.b1⟩, fun x hx => (f2 x hx).imp id (fun h => by simpa using h)⟩, (Chg.refl w4).drew.trans' c3, hd3.cell rfl, hq3.cell rfl, hq3.cell rfl, hq3.cell rfl⟩
            go_region_held_law (fun w' => World.cell? w' ⟨d, 0, none⟩ = some (.pointer (some ⟨p, 0, none⟩)) ∧ World.cell? w' ⟨q, 0, none⟩ = some (.string n) ∧ World.cell? w' ⟨q, 1, none⟩ = some (.string v) ∧ World.cell? w' ⟨q, 2, none⟩ = some (.bool false)) (go_keep) (first
              | (go_at_call 46; go_loud (refine HADD.out.mono ?_; rintro e w5 ⟨rfl, ⟨F2, h2, f2⟩, c5, k0, k1, k2, k3⟩; have H2 := Lib.hid h2; have F2H := Lib.hid f2; have C5 := Lib.hid c5; clear h2 f2 c5))
              | fail)
            have HZ6 := Lib.hid (HZ5.out.chg C5.out (fun hx => by have := HDL.out z (List.mem_cons_of_mem _ hx); omega))
            have HR6 := Lib.hid (HR5.out.chg C5.out (fun hx => HRA.out (List.mem_cons_of_mem _ hx)) HFF.out)
            have HC6 := Lib.hid (HC5.out.trans C5.out (fun x hx => Or.inl (List.mem_cons_of_mem _ hx)))
            have HZN : Hid (∀ x ∈ d :: F2, x ≠ z) := Lib.hid (fun x hx => by
              rcases List.mem_cons.1 hx with rfl | hx
              · have := HDL.out x (by simp); omega
              · rcases F2H.out x hx with h | h
                · have := HDL.out x (List.mem_cons_of_mem _ h); omega
                · omega)
            clear HZ5 HR5 HC5 HD5 HQ5 HED HQD HADD z0 z1 z2 z3 k0
            skip
            have y0 : World.cell? w5 ⟨z, 0, none⟩ = some (.string ⟨#[]⟩) := HZ6.out.cell rfl
            have y1 : World.cell? w5 ⟨z, 1, none⟩ = some (.string ⟨#[]⟩) := HZ6.out.cell rfl
            have y2 : World.cell? w5 ⟨z, 2, none⟩ = some (.bool false) := HZ6.out.cell rfl
            have yf : ∀ j, World.frozen? w5 ⟨z, j, none⟩ = false := fun j => HZ6.out.free j
            go_wp2_with fail
            skip
            refine bodyPost_ret (v := .agg #[.string ((⟨n, v, false⟩ : Fd)).n, .string ((⟨n, v, false⟩ : Fd)).v, .bool ((⟨n, v, false⟩ : Fd)).nv]) (by simp [results, Try.results40, go_sem, y0, y1, y2, yf, hrz, hzr]) rfl ?_
            first
              | exact ⟨_, F2, rfl, HR6.out.chg (zset z _ _ _ _) (by simpa using hrz) (fun x hx => Or.inr (by simp at hx; omega)), (by first | exact H2.out.chg (zset z _ _ _ _) (fun x hx hz => by simp at hz; subst hz; first | (have := HDL.out _ hx; omega) | exact HZN.out _ hx rfl) (fun x hx => by simp at hx; omega) | (rw [if_neg (by simp)]; exact H2.out.chg (zset z _ _ _ _) (fun x hx hz => by simp at hz; subst hz; first | (have := HDL.out _ hx; omega) | exact HZN.out _ hx rfl) (fun x hx => by simp at hx; omega)) | (rw [if_pos ⟨rfl, rfl⟩]; exact H2.out.chg (zset z _ _ _ _) (fun x hx hz => by simp at hz; subst hz; first | (have := HDL.out _ hx; omega) | exact HZN.out _ hx rfl) (fun x hx => by simp at hx; omega))), (fun x hx => (F2H.out x hx).imp id (fun h => by omega)), (HC6.out).trans (zset z _ _ _ _) (fun x hx => Or.inr (by simp at hx; omega))⟩
              | exact ⟨rfl, ⟨_, HR6.out.chg (zset z _ _ _ _) (by simpa using hrz) (fun x hx => Or.inr (by simp at hx; omega))⟩, F2, (by first | exact H2.out.chg (zset z _ _ _ _) (fun x hx hz => by simp at hz; subst hz; first | (have := HDL.out _ hx; omega) | exact HZN.out _ hx rfl) (fun x hx => by simp at hx; omega) | (rw [if_neg (by simp)]; exact H2.out.chg (zset z _ _ _ _) (fun x hx hz => by simp at hz; subst hz; first | (have := HDL.out _ hx; omega) | exact HZN.out _ hx rfl) (fun x hx => by simp at hx; omega)) | (rw [if_pos ⟨rfl, rfl⟩]; exact H2.out.chg (zset z _ _ _ _) (fun x hx hz => by simp at hz; subst hz; first | (have := HDL.out _ hx; omega) | exact HZN.out _ hx rfl) (fun x hx => by simp at hx; omega))), (fun x hx => (F2H.out x hx).imp id (fun h => by omega)), (HC6.out).trans (zset z _ _ _ _) (fun x hx => Or.inr (by simp at hx; omega))⟩
      · rw [if_neg h64]
        by_cases h16 : k / 16 = 1
        · have g16 : ((k : Int) / 16 == 1) = true := by simp; omega
          rw [show decide (k / 16 = 1) = true by simp [h16]]
          skip
          have hle := getI_le l 4
          obtain ⟨G, hG⟩ : ∃ G, G = getI l 4 := ⟨_, rfl⟩
          obtain ⟨N, hN⟩ : ∃ N, N = nameR es G.1 (l.drop G.2.1) (decide (G.2.2 ≠ 0)) := ⟨_, rfl⟩
          obtain ⟨T, hT⟩ : ∃ T, T = textR N.2.1 N.2.2 := ⟨_, rfl⟩
          have hlit : litR 4 true m es l = (⟨N.1, ⟨T.1.toArray⟩, true⟩, T.2.1, T.2.2, if 4 = 6 ∧ T.2.2 = false then addS ⟨N.1, ⟨T.1.toArray⟩, true⟩ m es else es) := by
            rw [hT, hN, hG]; rfl
          have hnl : N.1.size ≤ 300000 ∧ N.2.1.length ≤ l.length := by
            rw [hN]; unfold nameR
            split
            · have := textR_len (l.drop G.2.1) (decide (G.2.2 ≠ 0))
              have hdl := List.length_drop (i := G.2.1) (l := l)
              refine ⟨?_, ?_⟩
              · show (textR (l.drop G.2.1) (decide (G.2.2 ≠ 0))).1.toArray.size ≤ _
                rw [List.size_toArray]; omega
              · show (textR (l.drop G.2.1) (decide (G.2.2 ≠ 0))).2.1.length ≤ _
                omega
            · have := atR_size HDD.out.tab.inv (G.1 : Int)
              refine ⟨?_, by simp⟩
              unfold Fd.sz at this
              show (atR es (G.1 : Int)).1.n.size ≤ _
              omega
          have htl := textR_len N.2.1 N.2.2
          rw [← hT] at htl
          rw [hlit]
          rw [← hG] at hle
          have HG := Lib.hid hG; have HN := Lib.hid hN; have HT := Lib.hid hT
          clear hG hN hT hlit
          obtain ⟨n, l2, b2⟩ := N
          obtain ⟨tv, l3, b3⟩ := T
          obtain ⟨V, cn, E⟩ := G
          simp only at hle hnl htl ⊢
          obtain ⟨v, hv⟩ : ∃ v : ByteArray, v = ⟨tv.toArray⟩ := ⟨_, rfl⟩
          have hvs : v.size ≤ 300000 := by rw [hv]; show tv.toArray.size ≤ _; rw [List.size_toArray]; omega
          rw [← hv]
          have HV := Lib.hid hv
          clear hv
          have hb1 : (decide ((V, cn, E).2.2 ≠ 0)) = decide (E ≠ 0) := rfl
          obtain ⟨b1, hb1⟩ : ∃ b1, b1 = decide (E ≠ 0) := ⟨_, rfl⟩
          obtain ⟨l1, hl1⟩ : ∃ l1, l1 = l.drop cn := ⟨_, rfl⟩
          have HN : Hid ((n, l2, b2) = nameR es V l1 b1) := Lib.hid (by rw [hb1, hl1]; exact HN.out)
          have HB1 := Lib.hid hb1; have HL1 := Lib.hid hl1
          clear hb1 hl1 HH HDD
          go_enter Try.func40, Try.ntmps40
          go_wp2_with fail
          refine (number_any HR.out 4).mono ?_; rintro e w1 ⟨he, ⟨sv1, r1⟩, c1⟩
          rw [show ((4 : Nat) : Int) = 4 from rfl, ← HG.out] at he r1; subst he
          replace r1 : RdH w1 B F r sv1 l1 b1 := by rw [HB1.out, HL1.out]; exact r1
          have hs1 := c1.size
          rw [hs0] at hs1
          obtain ⟨q, hq⟩ : ∃ q, q = w1.heap.size := ⟨_, rfl⟩
          have hqr : q ≠ r := by omega
          have hrq : r ≠ q := by omega
          have hzq : z ≠ q := by omega
          have hqz : q ≠ z := by omega
          have hqw : w.heap.size ≤ q := by omega
          have hcx : Chg [r] (w.alloc NOF) (w1.alloc (.cells #[.string ⟨#[]⟩, .string ⟨#[]⟩, .bool true] 44)) := c1.alloc _
          have HR1 := Lib.hid (r1.chg0 ((Chg.refl w1).alloc (.cells #[.string ⟨#[]⟩, .string ⟨#[]⟩, .bool true] 44))); have HD1 := Lib.hid (HD.out.chg hcx (fun x hx hz => by simp at hz; subst hz; exact HRA.out hx) (fun x hx => by simp at hx; omega)); have HZ1 := Lib.hid (HZ.out.chg hcx (by simpa using hzr)); have HC1 := Lib.hid (HC0.out.trans' (hcx.mono (by simp)))
          have HQ1 := Lib.hid (At.new' (w := w1) (o := .cells #[.string ⟨#[]⟩, .string ⟨#[]⟩, .bool true] 44) hq.symm)
          have hsx : (w1.alloc (.cells #[.string ⟨#[]⟩, .string ⟨#[]⟩, .bool true] 44)).heap.size = q + 1 := by simp [hq]
          have HQE := Lib.hid hq
          clear r1 c1 HR HD HZ HC0 x0 x1 xf q0 hcx hq hs0
          by_cases hV : V = 0
          · subst hV
            have hn := HN.out
            unfold nameR at hn
            rw [if_pos rfl] at hn
            simp only [Prod.mk.injEq] at hn
            obtain ⟨hn1, hn2, hn3⟩ := hn
            have HN1 := Lib.hid hn1; have HN2 := Lib.hid hn2; have HN3 := Lib.hid hn3
            clear hn1 hn2 hn3
            go_wp2_with fail
            rw [← HQE.out]
            refine (text_any HR1.out).mono ?_; rintro e w2 ⟨he, ⟨sv2, r2⟩, c2⟩
            rw [← HN2.out, ← HN3.out] at r2
            replace he : e = .returned (.string n) := by first | (rw [he, HN1.out]; done) | (rw [he, HN1.out]; rfl)
            subst he
            skip
            have HZ2 := Lib.hid (HZ1.out.chg c2 (by simpa using hzr)); have HQ2 := Lib.hid (HQ1.out.chg c2 (by simpa using hqr)); have HD2 := Lib.hid (HD1.out.chg c2 (fun x hx hz => by simp at hz; subst hz; exact HRA.out hx) (fun x hx => by simp at hx; omega)); have HC2 := Lib.hid (HC1.out.trans' (c2.mono (by simp)))
            have hs2 := c2.size
            have HR2 := Lib.hid r2
            clear c2 r2 HZ1 HQ1 HD1 HC1 HR1
            have hcq : ∀ j v, Chg [q] w2 (w2.setCell ⟨q, j, none⟩ v) := fun j v => (Chg.refl w2).setCell (Or.inl (by simp)) _
            have HR3 := Lib.hid (HR2.out.chg (hcq 0 (.string n)) (by simpa using hrq) (fun x hx => Or.inr (by simp at hx; omega)))
            have HD3 := Lib.hid (HD2.out.chg (hcq 0 (.string n)) (fun x hx hz => by simp at hz; subst hz; have := HDL.out _ hx; omega) (fun x hx => by simp at hx; omega))
            have HZ3 := Lib.hid (HZ2.out.chg (hcq 0 (.string n)) (by simpa using hzq)); have HQ3 := Lib.hid (HQ2.out.set 0 (.string n)); have HC3 := Lib.hid (HC2.out.trans (hcq 0 (.string n)) (fun x hx => Or.inr (by simp at hx; omega)))
            skip
            have p0 : World.cell? w2 ⟨q, 0, none⟩ = some (.string ⟨#[]⟩) := HQ2.out.cell rfl
            have p1 : World.cell? w2 ⟨q, 1, none⟩ = some (.string ⟨#[]⟩) := HQ2.out.cell rfl
            have p2 : World.cell? w2 ⟨q, 2, none⟩ = some (.bool true) := HQ2.out.cell rfl
            have pf : ∀ j, World.frozen? w2 ⟨q, j, none⟩ = false := fun j => HQ2.out.free j
            clear HR2 HD2 HZ2 HQ2 HC2 hcq
            go_wp2_with fail
            refine (text_any HR3.out).mono ?_; rintro e w3 ⟨he, ⟨sv3, r3⟩, c3⟩
            rw [← HT.out] at he r3
            replace he : e = .returned (.string v) := by first | (rw [he, HV.out]; done) | (rw [he, HV.out]; rfl)
            subst he
            have hs3 := c3.size
            simp at hs3
            have HR4 := Lib.hid r3; have HD4 := Lib.hid (HD3.out.chg c3 (fun x hx hz => by simp at hz; subst hz; exact HRA.out hx) (fun x hx => by simp at hx; omega)); have HZ4 := Lib.hid (HZ3.out.chg c3 (by simpa using hzr)); have HQ4 := Lib.hid (HQ3.out.chg c3 (by simpa using hqr)); have HC4 := Lib.hid (HC3.out.trans' (c3.mono (by simp)))
            clear r3 c3 HR3 HD3 HZ3 HQ3 HC3 p0 p1 p2 pf
            have hcq : ∀ j v, Chg [q] w3 (w3.setCell ⟨q, j, none⟩ v) := fun j v => (Chg.refl w3).setCell (Or.inl (by simp)) _
            have HR5 := Lib.hid (HR4.out.chg (hcq 1 (.string v)) (by simpa using hrq) (fun x hx => Or.inr (by simp at hx; omega)))
            have HD5 := Lib.hid (HD4.out.chg (hcq 1 (.string v)) (fun x hx hz => by simp at hz; subst hz; have := HDL.out _ hx; omega) (fun x hx => by simp at hx; omega))
            have HZ5 := Lib.hid (HZ4.out.chg (hcq 1 (.string v)) (by simpa using hzq)); have HQ5 := Lib.hid (HQ4.out.set 1 (.string v)); have HC5 := Lib.hid (HC4.out.trans (hcq 1 (.string v)) (fun x hx => Or.inr (by simp at hx; omega)))
            skip
            have p0 : World.cell? w3 ⟨q, 0, none⟩ = some (.string n) := HQ4.out.cell rfl
            have p1 : World.cell? w3 ⟨q, 1, none⟩ = some (.string ⟨#[]⟩) := HQ4.out.cell rfl
            have p2 : World.cell? w3 ⟨q, 2, none⟩ = some (.bool true) := HQ4.out.cell rfl
            have pf : ∀ j, World.frozen? w3 ⟨q, j, none⟩ = false := fun j => HQ4.out.free j
            skip
            have y0 : World.cell? w3 ⟨z, 0, none⟩ = some (.string ⟨#[]⟩) := HZ4.out.cell rfl
            have y1 : World.cell? w3 ⟨z, 1, none⟩ = some (.string ⟨#[]⟩) := HZ4.out.cell rfl
            have y2 : World.cell? w3 ⟨z, 2, none⟩ = some (.bool false) := HZ4.out.cell rfl
            have yf : ∀ j, World.frozen? w3 ⟨z, j, none⟩ = false := fun j => HZ4.out.free j
            have x1 : World.cell? w3 ⟨r, 1, none⟩ = some (.bool b3) := HR4.out.head.cell rfl
            clear HR4 HD4 HZ4 HQ4 HC4 hcq
            skip
            rw [← HZE.out]
            go_wp2_with fail
            skip
            refine bodyPost_ret (v := .agg #[.string ((⟨n, v, true⟩ : Fd)).n, .string ((⟨n, v, true⟩ : Fd)).v, .bool ((⟨n, v, true⟩ : Fd)).nv]) (by simp [results, Try.results40, go_sem, y0, y1, y2, yf, hrz, hzr, hzq, hqz]) rfl ?_
            first
              | exact ⟨_, F0, rfl, HR5.out.chg (zset z _ _ _ _) (by simpa using hrz) (fun x hx => Or.inr (by simp at hx; omega)), (by first | exact HD5.out.chg (zset z _ _ _ _) (fun x hx hz => by simp at hz; subst hz; first | (have := HDL.out _ hx; omega) | exact HZN.out _ hx rfl) (fun x hx => by simp at hx; omega) | (rw [if_neg (by simp)]; exact HD5.out.chg (zset z _ _ _ _) (fun x hx hz => by simp at hz; subst hz; first | (have := HDL.out _ hx; omega) | exact HZN.out _ hx rfl) (fun x hx => by simp at hx; omega)) | (rw [if_pos ⟨rfl, rfl⟩]; exact HD5.out.chg (zset z _ _ _ _) (fun x hx hz => by simp at hz; subst hz; first | (have := HDL.out _ hx; omega) | exact HZN.out _ hx rfl) (fun x hx => by simp at hx; omega))), (fun x hx => Or.inl hx), (HC5.out).trans (zset z _ _ _ _) (fun x hx => Or.inr (by simp at hx; omega))⟩
              | exact ⟨rfl, ⟨_, HR5.out.chg (zset z _ _ _ _) (by simpa using hrz) (fun x hx => Or.inr (by simp at hx; omega))⟩, F0, (by first | exact HD5.out.chg (zset z _ _ _ _) (fun x hx hz => by simp at hz; subst hz; first | (have := HDL.out _ hx; omega) | exact HZN.out _ hx rfl) (fun x hx => by simp at hx; omega) | (rw [if_neg (by simp)]; exact HD5.out.chg (zset z _ _ _ _) (fun x hx hz => by simp at hz; subst hz; first | (have := HDL.out _ hx; omega) | exact HZN.out _ hx rfl) (fun x hx => by simp at hx; omega)) | (rw [if_pos ⟨rfl, rfl⟩]; exact HD5.out.chg (zset z _ _ _ _) (fun x hx hz => by simp at hz; subst hz; first | (have := HDL.out _ hx; omega) | exact HZN.out _ hx rfl) (fun x hx => by simp at hx; omega))), (fun x hx => Or.inl hx), (HC5.out).trans (zset z _ _ _ _) (fun x hx => Or.inr (by simp at hx; omega))⟩
          · have hn := HN.out
            unfold nameR at hn
            rw [if_neg hV] at hn
            simp only [Prod.mk.injEq] at hn
            obtain ⟨hn1, hn2, hn3⟩ := hn
            obtain ⟨A, hA⟩ : ∃ A, A = atR es V := ⟨_, rfl⟩
            rw [← hA] at hn1 hn3
            obtain ⟨⟨an, av, anv⟩, ok⟩ := A
            simp only at hn1 hn3
            subst hn1
            have HN2 := Lib.hid hn2; have HN3 := Lib.hid hn3; have HA := Lib.hid hA
            have hV0 : ((V : Int) == 0) = false := by simp; omega
            clear hn2 hn3 hA
            go_wp2_with fail
            rw [← HQE.out]
            refine (at_any HD1.out HR1.out V hle).mono ?_; rintro e w2 ⟨he, r2, c2⟩
            rw [← HA.out] at he r2
            replace r2 : RdH w2 B F r sv1 l2 b2 := by rw [HN2.out, HN3.out]; exact r2
            replace he : e = .returned (.agg #[.string n, .string av, .bool anv]) := he
            subst he
            have hfl : ∀ w' : World, (Instr.field 44 (.agg #[.string n, .string av, .bool anv]) 0).run Try.prog w' = .ok (.string n) w' := fun _ => rfl
            skip
            have HZ2 := Lib.hid (HZ1.out.chg c2 (by simpa using hzr)); have HQ2 := Lib.hid (HQ1.out.chg c2 (by simpa using hqr)); have HD2 := Lib.hid (HD1.out.chg c2 (fun x hx hz => by simp at hz; subst hz; exact HRA.out hx) (fun x hx => by simp at hx; omega)); have HC2 := Lib.hid (HC1.out.trans' (c2.mono (by simp)))
            have hs2 := c2.size
            have HR2 := Lib.hid r2
            clear c2 r2 HZ1 HQ1 HD1 HC1 HR1
            have hcq : ∀ j v, Chg [q] w2 (w2.setCell ⟨q, j, none⟩ v) := fun j v => (Chg.refl w2).setCell (Or.inl (by simp)) _
            have HR3 := Lib.hid (HR2.out.chg (hcq 0 (.string n)) (by simpa using hrq) (fun x hx => Or.inr (by simp at hx; omega)))
            have HD3 := Lib.hid (HD2.out.chg (hcq 0 (.string n)) (fun x hx hz => by simp at hz; subst hz; have := HDL.out _ hx; omega) (fun x hx => by simp at hx; omega))
            have HZ3 := Lib.hid (HZ2.out.chg (hcq 0 (.string n)) (by simpa using hzq)); have HQ3 := Lib.hid (HQ2.out.set 0 (.string n)); have HC3 := Lib.hid (HC2.out.trans (hcq 0 (.string n)) (fun x hx => Or.inr (by simp at hx; omega)))
            skip
            have p0 : World.cell? w2 ⟨q, 0, none⟩ = some (.string ⟨#[]⟩) := HQ2.out.cell rfl
            have p1 : World.cell? w2 ⟨q, 1, none⟩ = some (.string ⟨#[]⟩) := HQ2.out.cell rfl
            have p2 : World.cell? w2 ⟨q, 2, none⟩ = some (.bool true) := HQ2.out.cell rfl
            have pf : ∀ j, World.frozen? w2 ⟨q, j, none⟩ = false := fun j => HQ2.out.free j
            clear HR2 HD2 HZ2 HQ2 HC2 hcq
            go_wp2_with fail
            refine (text_any HR3.out).mono ?_; rintro e w3 ⟨he, ⟨sv3, r3⟩, c3⟩
            rw [← HT.out] at he r3
            replace he : e = .returned (.string v) := by first | (rw [he, HV.out]; done) | (rw [he, HV.out]; rfl)
            subst he
            have hs3 := c3.size
            simp at hs3
            have HR4 := Lib.hid r3; have HD4 := Lib.hid (HD3.out.chg c3 (fun x hx hz => by simp at hz; subst hz; exact HRA.out hx) (fun x hx => by simp at hx; omega)); have HZ4 := Lib.hid (HZ3.out.chg c3 (by simpa using hzr)); have HQ4 := Lib.hid (HQ3.out.chg c3 (by simpa using hqr)); have HC4 := Lib.hid (HC3.out.trans' (c3.mono (by simp)))
            clear r3 c3 HR3 HD3 HZ3 HQ3 HC3 p0 p1 p2 pf
            have hcq : ∀ j v, Chg [q] w3 (w3.setCell ⟨q, j, none⟩ v) := fun j v => (Chg.refl w3).setCell (Or.inl (by simp)) _
            have HR5 := Lib.hid (HR4.out.chg (hcq 1 (.string v)) (by simpa using hrq) (fun x hx => Or.inr (by simp at hx; omega)))
            have HD5 := Lib.hid (HD4.out.chg (hcq 1 (.string v)) (fun x hx hz => by simp at hz; subst hz; have := HDL.out _ hx; omega) (fun x hx => by simp at hx; omega))
            have HZ5 := Lib.hid (HZ4.out.chg (hcq 1 (.string v)) (by simpa using hzq)); have HQ5 := Lib.hid (HQ4.out.set 1 (.string v)); have HC5 := Lib.hid (HC4.out.trans (hcq 1 (.string v)) (fun x hx => Or.inr (by simp at hx; omega)))
            skip
            have p0 : World.cell? w3 ⟨q, 0, none⟩ = some (.string n) := HQ4.out.cell rfl
            have p1 : World.cell? w3 ⟨q, 1, none⟩ = some (.string ⟨#[]⟩) := HQ4.out.cell rfl
            have p2 : World.cell? w3 ⟨q, 2, none⟩ = some (.bool true) := HQ4.out.cell rfl
            have pf : ∀ j, World.frozen? w3 ⟨q, j, none⟩ = false := fun j => HQ4.out.free j
            skip
            have y0 : World.cell? w3 ⟨z, 0, none⟩ = some (.string ⟨#[]⟩) := HZ4.out.cell rfl
            have y1 : World.cell? w3 ⟨z, 1, none⟩ = some (.string ⟨#[]⟩) := HZ4.out.cell rfl
            have y2 : World.cell? w3 ⟨z, 2, none⟩ = some (.bool false) := HZ4.out.cell rfl
            have yf : ∀ j, World.frozen? w3 ⟨z, j, none⟩ = false := fun j => HZ4.out.free j
            have x1 : World.cell? w3 ⟨r, 1, none⟩ = some (.bool b3) := HR4.out.head.cell rfl
            clear HR4 HD4 HZ4 HQ4 HC4 hcq
            skip
            rw [← HZE.out]
            go_wp2_with fail
            skip
            refine bodyPost_ret (v := .agg #[.string ((⟨n, v, true⟩ : Fd)).n, .string ((⟨n, v, true⟩ : Fd)).v, .bool ((⟨n, v, true⟩ : Fd)).nv]) (by simp [results, Try.results40, go_sem, y0, y1, y2, yf, hrz, hzr, hzq, hqz]) rfl ?_
            first
              | exact ⟨_, F0, rfl, HR5.out.chg (zset z _ _ _ _) (by simpa using hrz) (fun x hx => Or.inr (by simp at hx; omega)), (by first | exact HD5.out.chg (zset z _ _ _ _) (fun x hx hz => by simp at hz; subst hz; first | (have := HDL.out _ hx; omega) | exact HZN.out _ hx rfl) (fun x hx => by simp at hx; omega) | (rw [if_neg (by simp)]; exact HD5.out.chg (zset z _ _ _ _) (fun x hx hz => by simp at hz; subst hz; first | (have := HDL.out _ hx; omega) | exact HZN.out _ hx rfl) (fun x hx => by simp at hx; omega)) | (rw [if_pos ⟨rfl, rfl⟩]; exact HD5.out.chg (zset z _ _ _ _) (fun x hx hz => by simp at hz; subst hz; first | (have := HDL.out _ hx; omega) | exact HZN.out _ hx rfl) (fun x hx => by simp at hx; omega))), (fun x hx => Or.inl hx), (HC5.out).trans (zset z _ _ _ _) (fun x hx => Or.inr (by simp at hx; omega))⟩
              | exact ⟨rfl, ⟨_, HR5.out.chg (zset z _ _ _ _) (by simpa using hrz) (fun x hx => Or.inr (by simp at hx; omega))⟩, F0, (by first | exact HD5.out.chg (zset z _ _ _ _) (fun x hx hz => by simp at hz; subst hz; first | (have := HDL.out _ hx; omega) | exact HZN.out _ hx rfl) (fun x hx => by simp at hx; omega) | (rw [if_neg (by simp)]; exact HD5.out.chg (zset z _ _ _ _) (fun x hx hz => by simp at hz; subst hz; first | (have := HDL.out _ hx; omega) | exact HZN.out _ hx rfl) (fun x hx => by simp at hx; omega)) | (rw [if_pos ⟨rfl, rfl⟩]; exact HD5.out.chg (zset z _ _ _ _) (fun x hx hz => by simp at hz; subst hz; first | (have := HDL.out _ hx; omega) | exact HZN.out _ hx rfl) (fun x hx => by simp at hx; omega))), (fun x hx => Or.inl hx), (HC5.out).trans (zset z _ _ _ _) (fun x hx => Or.inr (by simp at hx; omega))⟩
        · have g16 : ((k : Int) / 16 == 1) = false := by simp; omega
          rw [show decide (k / 16 = 1) = false by simp [h16]]
          skip
          have hle := getI_le l 4
          obtain ⟨G, hG⟩ : ∃ G, G = getI l 4 := ⟨_, rfl⟩
          obtain ⟨N, hN⟩ : ∃ N, N = nameR es G.1 (l.drop G.2.1) (decide (G.2.2 ≠ 0)) := ⟨_, rfl⟩
          obtain ⟨T, hT⟩ : ∃ T, T = textR N.2.1 N.2.2 := ⟨_, rfl⟩
          have hlit : litR 4 false m es l = (⟨N.1, ⟨T.1.toArray⟩, false⟩, T.2.1, T.2.2, if 4 = 6 ∧ T.2.2 = false then addS ⟨N.1, ⟨T.1.toArray⟩, false⟩ m es else es) := by
            rw [hT, hN, hG]; rfl
          have hnl : N.1.size ≤ 300000 ∧ N.2.1.length ≤ l.length := by
            rw [hN]; unfold nameR
            split
            · have := textR_len (l.drop G.2.1) (decide (G.2.2 ≠ 0))
              have hdl := List.length_drop (i := G.2.1) (l := l)
              refine ⟨?_, ?_⟩
              · show (textR (l.drop G.2.1) (decide (G.2.2 ≠ 0))).1.toArray.size ≤ _
                rw [List.size_toArray]; omega
              · show (textR (l.drop G.2.1) (decide (G.2.2 ≠ 0))).2.1.length ≤ _
                omega
            · have := atR_size HDD.out.tab.inv (G.1 : Int)
              refine ⟨?_, by simp⟩
              unfold Fd.sz at this
              show (atR es (G.1 : Int)).1.n.size ≤ _
              omega
          have htl := textR_len N.2.1 N.2.2
          rw [← hT] at htl
          rw [hlit]
          rw [← hG] at hle
          have HG := Lib.hid hG; have HN := Lib.hid hN; have HT := Lib.hid hT
          clear hG hN hT hlit
          obtain ⟨n, l2, b2⟩ := N
          obtain ⟨tv, l3, b3⟩ := T
          obtain ⟨V, cn, E⟩ := G
          simp only at hle hnl htl ⊢
          obtain ⟨v, hv⟩ : ∃ v : ByteArray, v = ⟨tv.toArray⟩ := ⟨_, rfl⟩
          have hvs : v.size ≤ 300000 := by rw [hv]; show tv.toArray.size ≤ _; rw [List.size_toArray]; omega
          rw [← hv]
          have HV := Lib.hid hv
          clear hv
          have hb1 : (decide ((V, cn, E).2.2 ≠ 0)) = decide (E ≠ 0) := rfl
          obtain ⟨b1, hb1⟩ : ∃ b1, b1 = decide (E ≠ 0) := ⟨_, rfl⟩
          obtain ⟨l1, hl1⟩ : ∃ l1, l1 = l.drop cn := ⟨_, rfl⟩
          have HN : Hid ((n, l2, b2) = nameR es V l1 b1) := Lib.hid (by rw [hb1, hl1]; exact HN.out)
          have HB1 := Lib.hid hb1; have HL1 := Lib.hid hl1
          clear hb1 hl1 HH HDD
          go_enter Try.func40, Try.ntmps40
          go_wp2_with fail
          refine (number_any HR.out 4).mono ?_; rintro e w1 ⟨he, ⟨sv1, r1⟩, c1⟩
          rw [show ((4 : Nat) : Int) = 4 from rfl, ← HG.out] at he r1; subst he
          replace r1 : RdH w1 B F r sv1 l1 b1 := by rw [HB1.out, HL1.out]; exact r1
          have hs1 := c1.size
          rw [hs0] at hs1
          obtain ⟨q, hq⟩ : ∃ q, q = w1.heap.size := ⟨_, rfl⟩
          have hqr : q ≠ r := by omega
          have hrq : r ≠ q := by omega
          have hzq : z ≠ q := by omega
          have hqz : q ≠ z := by omega
          have hqw : w.heap.size ≤ q := by omega
          have hcx : Chg [r] (w.alloc NOF) (w1.alloc (.cells #[.string ⟨#[]⟩, .string ⟨#[]⟩, .bool false] 44)) := c1.alloc _
          have HR1 := Lib.hid (r1.chg0 ((Chg.refl w1).alloc (.cells #[.string ⟨#[]⟩, .string ⟨#[]⟩, .bool false] 44))); have HD1 := Lib.hid (HD.out.chg hcx (fun x hx hz => by simp at hz; subst hz; exact HRA.out hx) (fun x hx => by simp at hx; omega)); have HZ1 := Lib.hid (HZ.out.chg hcx (by simpa using hzr)); have HC1 := Lib.hid (HC0.out.trans' (hcx.mono (by simp)))
          have HQ1 := Lib.hid (At.new' (w := w1) (o := .cells #[.string ⟨#[]⟩, .string ⟨#[]⟩, .bool false] 44) hq.symm)
          have hsx : (w1.alloc (.cells #[.string ⟨#[]⟩, .string ⟨#[]⟩, .bool false] 44)).heap.size = q + 1 := by simp [hq]
          have HQE := Lib.hid hq
          clear r1 c1 HR HD HZ HC0 x0 x1 xf q0 hcx hq hs0
          by_cases hV : V = 0
          · subst hV
            have hn := HN.out
            unfold nameR at hn
            rw [if_pos rfl] at hn
            simp only [Prod.mk.injEq] at hn
            obtain ⟨hn1, hn2, hn3⟩ := hn
            have HN1 := Lib.hid hn1; have HN2 := Lib.hid hn2; have HN3 := Lib.hid hn3
            clear hn1 hn2 hn3
            go_wp2_with fail
            rw [← HQE.out]
            refine (text_any HR1.out).mono ?_; rintro e w2 ⟨he, ⟨sv2, r2⟩, c2⟩
            rw [← HN2.out, ← HN3.out] at r2
            replace he : e = .returned (.string n) := by first | (rw [he, HN1.out]; done) | (rw [he, HN1.out]; rfl)
            subst he
            skip
            have HZ2 := Lib.hid (HZ1.out.chg c2 (by simpa using hzr)); have HQ2 := Lib.hid (HQ1.out.chg c2 (by simpa using hqr)); have HD2 := Lib.hid (HD1.out.chg c2 (fun x hx hz => by simp at hz; subst hz; exact HRA.out hx) (fun x hx => by simp at hx; omega)); have HC2 := Lib.hid (HC1.out.trans' (c2.mono (by simp)))
            have hs2 := c2.size
            have HR2 := Lib.hid r2
            clear c2 r2 HZ1 HQ1 HD1 HC1 HR1
            have hcq : ∀ j v, Chg [q] w2 (w2.setCell ⟨q, j, none⟩ v) := fun j v => (Chg.refl w2).setCell (Or.inl (by simp)) _
            have HR3 := Lib.hid (HR2.out.chg (hcq 0 (.string n)) (by simpa using hrq) (fun x hx => Or.inr (by simp at hx; omega)))
            have HD3 := Lib.hid (HD2.out.chg (hcq 0 (.string n)) (fun x hx hz => by simp at hz; subst hz; have := HDL.out _ hx; omega) (fun x hx => by simp at hx; omega))
            have HZ3 := Lib.hid (HZ2.out.chg (hcq 0 (.string n)) (by simpa using hzq)); have HQ3 := Lib.hid (HQ2.out.set 0 (.string n)); have HC3 := Lib.hid (HC2.out.trans (hcq 0 (.string n)) (fun x hx => Or.inr (by simp at hx; omega)))
            skip
            have p0 : World.cell? w2 ⟨q, 0, none⟩ = some (.string ⟨#[]⟩) := HQ2.out.cell rfl
            have p1 : World.cell? w2 ⟨q, 1, none⟩ = some (.string ⟨#[]⟩) := HQ2.out.cell rfl
            have p2 : World.cell? w2 ⟨q, 2, none⟩ = some (.bool false) := HQ2.out.cell rfl
            have pf : ∀ j, World.frozen? w2 ⟨q, j, none⟩ = false := fun j => HQ2.out.free j
            clear HR2 HD2 HZ2 HQ2 HC2 hcq
            go_wp2_with fail
            refine (text_any HR3.out).mono ?_; rintro e w3 ⟨he, ⟨sv3, r3⟩, c3⟩
            rw [← HT.out] at he r3
            replace he : e = .returned (.string v) := by first | (rw [he, HV.out]; done) | (rw [he, HV.out]; rfl)
            subst he
            have hs3 := c3.size
            simp at hs3
            have HR4 := Lib.hid r3; have HD4 := Lib.hid (HD3.out.chg c3 (fun x hx hz => by simp at hz; subst hz; exact HRA.out hx) (fun x hx => by simp at hx; omega)); have HZ4 := Lib.hid (HZ3.out.chg c3 (by simpa using hzr)); have HQ4 := Lib.hid (HQ3.out.chg c3 (by simpa using hqr)); have HC4 := Lib.hid (HC3.out.trans' (c3.mono (by simp)))
            clear r3 c3 HR3 HD3 HZ3 HQ3 HC3 p0 p1 p2 pf
            have hcq : ∀ j v, Chg [q] w3 (w3.setCell ⟨q, j, none⟩ v) := fun j v => (Chg.refl w3).setCell (Or.inl (by simp)) _
            have HR5 := Lib.hid (HR4.out.chg (hcq 1 (.string v)) (by simpa using hrq) (fun x hx => Or.inr (by simp at hx; omega)))
            have HD5 := Lib.hid (HD4.out.chg (hcq 1 (.string v)) (fun x hx hz => by simp at hz; subst hz; have := HDL.out _ hx; omega) (fun x hx => by simp at hx; omega))
            have HZ5 := Lib.hid (HZ4.out.chg (hcq 1 (.string v)) (by simpa using hzq)); have HQ5 := Lib.hid (HQ4.out.set 1 (.string v)); have HC5 := Lib.hid (HC4.out.trans (hcq 1 (.string v)) (fun x hx => Or.inr (by simp at hx; omega)))
            skip
            have p0 : World.cell? w3 ⟨q, 0, none⟩ = some (.string n) := HQ4.out.cell rfl
            have p1 : World.cell? w3 ⟨q, 1, none⟩ = some (.string ⟨#[]⟩) := HQ4.out.cell rfl
            have p2 : World.cell? w3 ⟨q, 2, none⟩ = some (.bool false) := HQ4.out.cell rfl
            have pf : ∀ j, World.frozen? w3 ⟨q, j, none⟩ = false := fun j => HQ4.out.free j
            skip
            have y0 : World.cell? w3 ⟨z, 0, none⟩ = some (.string ⟨#[]⟩) := HZ4.out.cell rfl
            have y1 : World.cell? w3 ⟨z, 1, none⟩ = some (.string ⟨#[]⟩) := HZ4.out.cell rfl
            have y2 : World.cell? w3 ⟨z, 2, none⟩ = some (.bool false) := HZ4.out.cell rfl
            have yf : ∀ j, World.frozen? w3 ⟨z, j, none⟩ = false := fun j => HZ4.out.free j
            have x1 : World.cell? w3 ⟨r, 1, none⟩ = some (.bool b3) := HR4.out.head.cell rfl
            clear HR4 HD4 HZ4 HQ4 HC4 hcq
            skip
            rw [← HZE.out]
            go_wp2_with fail
            skip
            refine bodyPost_ret (v := .agg #[.string ((⟨n, v, false⟩ : Fd)).n, .string ((⟨n, v, false⟩ : Fd)).v, .bool ((⟨n, v, false⟩ : Fd)).nv]) (by simp [results, Try.results40, go_sem, y0, y1, y2, yf, hrz, hzr, hzq, hqz]) rfl ?_
            first
              | exact ⟨_, F0, rfl, HR5.out.chg (zset z _ _ _ _) (by simpa using hrz) (fun x hx => Or.inr (by simp at hx; omega)), (by first | exact HD5.out.chg (zset z _ _ _ _) (fun x hx hz => by simp at hz; subst hz; first | (have := HDL.out _ hx; omega) | exact HZN.out _ hx rfl) (fun x hx => by simp at hx; omega) | (rw [if_neg (by simp)]; exact HD5.out.chg (zset z _ _ _ _) (fun x hx hz => by simp at hz; subst hz; first | (have := HDL.out _ hx; omega) | exact HZN.out _ hx rfl) (fun x hx => by simp at hx; omega)) | (rw [if_pos ⟨rfl, rfl⟩]; exact HD5.out.chg (zset z _ _ _ _) (fun x hx hz => by simp at hz; subst hz; first | (have := HDL.out _ hx; omega) | exact HZN.out _ hx rfl) (fun x hx => by simp at hx; omega))), (fun x hx => Or.inl hx), (HC5.out).trans (zset z _ _ _ _) (fun x hx => Or.inr (by simp at hx; omega))⟩
              | exact ⟨rfl, ⟨_, HR5.out.chg (zset z _ _ _ _) (by simpa using hrz) (fun x hx => Or.inr (by simp at hx; omega))⟩, F0, (by first | exact HD5.out.chg (zset z _ _ _ _) (fun x hx hz => by simp at hz; subst hz; first | (have := HDL.out _ hx; omega) | exact HZN.out _ hx rfl) (fun x hx => by simp at hx; omega) | (rw [if_neg (by simp)]; exact HD5.out.chg (zset z _ _ _ _) (fun x hx hz => by simp at hz; subst hz; first | (have := HDL.out _ hx; omega) | exact HZN.out _ hx rfl) (fun x hx => by simp at hx; omega)) | (rw [if_pos ⟨rfl, rfl⟩]; exact HD5.out.chg (zset z _ _ _ _) (fun x hx hz => by simp at hz; subst hz; first | (have := HDL.out _ hx; omega) | exact HZN.out _ hx rfl) (fun x hx => by simp at hx; omega))), (fun x hx => Or.inl hx), (HC5.out).trans (zset z _ _ _ _) (fun x hx => Or.inr (by simp at hx; omega))⟩
          · have hn := HN.out
            unfold nameR at hn
            rw [if_neg hV] at hn
            simp only [Prod.mk.injEq] at hn
            obtain ⟨hn1, hn2, hn3⟩ := hn
            obtain ⟨A, hA⟩ : ∃ A, A = atR es V := ⟨_, rfl⟩
            rw [← hA] at hn1 hn3
            obtain ⟨⟨an, av, anv⟩, ok⟩ := A
            simp only at hn1 hn3
            subst hn1
            have HN2 := Lib.hid hn2; have HN3 := Lib.hid hn3; have HA := Lib.hid hA
            have hV0 : ((V : Int) == 0) = false := by simp; omega
            clear hn2 hn3 hA
            go_wp2_with fail
            rw [← HQE.out]
            refine (at_any HD1.out HR1.out V hle).mono ?_; rintro e w2 ⟨he, r2, c2⟩
            rw [← HA.out] at he r2
            replace r2 : RdH w2 B F r sv1 l2 b2 := by rw [HN2.out, HN3.out]; exact r2
            replace he : e = .returned (.agg #[.string n, .string av, .bool anv]) := he
            subst he
            have hfl : ∀ w' : World, (Instr.field 44 (.agg #[.string n, .string av, .bool anv]) 0).run Try.prog w' = .ok (.string n) w' := fun _ => rfl
            skip
            have HZ2 := Lib.hid (HZ1.out.chg c2 (by simpa using hzr)); have HQ2 := Lib.hid (HQ1.out.chg c2 (by simpa using hqr)); have HD2 := Lib.hid (HD1.out.chg c2 (fun x hx hz => by simp at hz; subst hz; exact HRA.out hx) (fun x hx => by simp at hx; omega)); have HC2 := Lib.hid (HC1.out.trans' (c2.mono (by simp)))
            have hs2 := c2.size
            have HR2 := Lib.hid r2
            clear c2 r2 HZ1 HQ1 HD1 HC1 HR1
            have hcq : ∀ j v, Chg [q] w2 (w2.setCell ⟨q, j, none⟩ v) := fun j v => (Chg.refl w2).setCell (Or.inl (by simp)) _
            have HR3 := Lib.hid (HR2.out.chg (hcq 0 (.string n)) (by simpa using hrq) (fun x hx => Or.inr (by simp at hx; omega)))
            have HD3 := Lib.hid (HD2.out.chg (hcq 0 (.string n)) (fun x hx hz => by simp at hz; subst hz; have := HDL.out _ hx; omega) (fun x hx => by simp at hx; omega))
            have HZ3 := Lib.hid (HZ2.out.chg (hcq 0 (.string n)) (by simpa using hzq)); have HQ3 := Lib.hid (HQ2.out.set 0 (.string n)); have HC3 := Lib.hid (HC2.out.trans (hcq 0 (.string n)) (fun x hx => Or.inr (by simp at hx; omega)))
            skip
            have p0 : World.cell? w2 ⟨q, 0, none⟩ = some (.string ⟨#[]⟩) := HQ2.out.cell rfl
            have p1 : World.cell? w2 ⟨q, 1, none⟩ = some (.string ⟨#[]⟩) := HQ2.out.cell rfl
            have p2 : World.cell? w2 ⟨q, 2, none⟩ = some (.bool false) := HQ2.out.cell rfl
            have pf : ∀ j, World.frozen? w2 ⟨q, j, none⟩ = false := fun j => HQ2.out.free j
            clear HR2 HD2 HZ2 HQ2 HC2 hcq
            go_wp2_with fail
            refine (text_any HR3.out).mono ?_; rintro e w3 ⟨he, ⟨sv3, r3⟩, c3⟩
            rw [← HT.out] at he r3
            replace he : e = .returned (.string v) := by first | (rw [he, HV.out]; done) | (rw [he, HV.out]; rfl)
            subst he
            have hs3 := c3.size
            simp at hs3
            have HR4 := Lib.hid r3; have HD4 := Lib.hid (HD3.out.chg c3 (fun x hx hz => by simp at hz; subst hz; exact HRA.out hx) (fun x hx => by simp at hx; omega)); have HZ4 := Lib.hid (HZ3.out.chg c3 (by simpa using hzr)); have HQ4 := Lib.hid (HQ3.out.chg c3 (by simpa using hqr)); have HC4 := Lib.hid (HC3.out.trans' (c3.mono (by simp)))
            clear r3 c3 HR3 HD3 HZ3 HQ3 HC3 p0 p1 p2 pf
            have hcq : ∀ j v, Chg [q] w3 (w3.setCell ⟨q, j, none⟩ v) := fun j v => (Chg.refl w3).setCell (Or.inl (by simp)) _
            have HR5 := Lib.hid (HR4.out.chg (hcq 1 (.string v)) (by simpa using hrq) (fun x hx => Or.inr (by simp at hx; omega)))
            have HD5 := Lib.hid (HD4.out.chg (hcq 1 (.string v)) (fun x hx hz => by simp at hz; subst hz; have := HDL.out _ hx; omega) (fun x hx => by simp at hx; omega))
            have HZ5 := Lib.hid (HZ4.out.chg (hcq 1 (.string v)) (by simpa using hzq)); have HQ5 := Lib.hid (HQ4.out.set 1 (.string v)); have HC5 := Lib.hid (HC4.out.trans (hcq 1 (.string v)) (fun x hx => Or.inr (by simp at hx; omega)))
            skip
            have p0 : World.cell? w3 ⟨q, 0, none⟩ = some (.string n) := HQ4.out.cell rfl
            have p1 : World.cell? w3 ⟨q, 1, none⟩ = some (.string ⟨#[]⟩) := HQ4.out.cell rfl
            have p2 : World.cell? w3 ⟨q, 2, none⟩ = some (.bool false) := HQ4.out.cell rfl
            have pf : ∀ j, World.frozen? w3 ⟨q, j, none⟩ = false := fun j => HQ4.out.free j
            skip
            have y0 : World.cell? w3 ⟨z, 0, none⟩ = some (.string ⟨#[]⟩) := HZ4.out.cell rfl
            have y1 : World.cell? w3 ⟨z, 1, none⟩ = some (.string ⟨#[]⟩) := HZ4.out.cell rfl
            have y2 : World.cell? w3 ⟨z, 2, none⟩ = some (.bool false) := HZ4.out.cell rfl
            have yf : ∀ j, World.frozen? w3 ⟨z, j, none⟩ = false := fun j => HZ4.out.free j
            have x1 : World.cell? w3 ⟨r, 1, none⟩ = some (.bool b3) := HR4.out.head.cell rfl
            clear HR4 HD4 HZ4 HQ4 HC4 hcq
            skip
            rw [← HZE.out]
            go_wp2_with fail
            skip
            refine bodyPost_ret (v := .agg #[.string ((⟨n, v, false⟩ : Fd)).n, .string ((⟨n, v, false⟩ : Fd)).v, .bool ((⟨n, v, false⟩ : Fd)).nv]) (by simp [results, Try.results40, go_sem, y0, y1, y2, yf, hrz, hzr, hzq, hqz]) rfl ?_
            first
              | exact ⟨_, F0, rfl, HR5.out.chg (zset z _ _ _ _) (by simpa using hrz) (fun x hx => Or.inr (by simp at hx; omega)), (by first | exact HD5.out.chg (zset z _ _ _ _) (fun x hx hz => by simp at hz; subst hz; first | (have := HDL.out _ hx; omega) | exact HZN.out _ hx rfl) (fun x hx => by simp at hx; omega) | (rw [if_neg (by simp)]; exact HD5.out.chg (zset z _ _ _ _) (fun x hx hz => by simp at hz; subst hz; first | (have := HDL.out _ hx; omega) | exact HZN.out _ hx rfl) (fun x hx => by simp at hx; omega)) | (rw [if_pos ⟨rfl, rfl⟩]; exact HD5.out.chg (zset z _ _ _ _) (fun x hx hz => by simp at hz; subst hz; first | (have := HDL.out _ hx; omega) | exact HZN.out _ hx rfl) (fun x hx => by simp at hx; omega))), (fun x hx => Or.inl hx), (HC5.out).trans (zset z _ _ _ _) (fun x hx => Or.inr (by simp at hx; omega))⟩
              | exact ⟨rfl, ⟨_, HR5.out.chg (zset z _ _ _ _) (by simpa using hrz) (fun x hx => Or.inr (by simp at hx; omega))⟩, F0, (by first | exact HD5.out.chg (zset z _ _ _ _) (fun x hx hz => by simp at hz; subst hz; first | (have := HDL.out _ hx; omega) | exact HZN.out _ hx rfl) (fun x hx => by simp at hx; omega) | (rw [if_neg (by simp)]; exact HD5.out.chg (zset z _ _ _ _) (fun x hx hz => by simp at hz; subst hz; first | (have := HDL.out _ hx; omega) | exact HZN.out _ hx rfl) (fun x hx => by simp at hx; omega)) | (rw [if_pos ⟨rfl, rfl⟩]; exact HD5.out.chg (zset z _ _ _ _) (fun x hx hz => by simp at hz; subst hz; first | (have := HDL.out _ hx; omega) | exact HZN.out _ hx rfl) (fun x hx => by simp at hx; omega))), (fun x hx => Or.inl hx), (HC5.out).trans (zset z _ _ _ _) (fun x hx => Or.inr (by simp at hx; omega))⟩
end Go.Proofs.Ytmoeioaahampaaa.Tb.Hp
