/-
  What must be in any case; an encoder and a decoder beside each other; the plain laws of a decoder.
-/
import Derived.Test.YtmoeioaahampaaaHdD
import Derived.Test.YtmoeioaahampaaaHpE
import Derived.Lib.SmallJoins
namespace Go.Proofs.Ytmoeioaahampaaa.Tb.Hp
open Go.ChangeShapes Go.WideShapes Go.ChangeAt Go.RowKit
open Go.Proofs.Ytmoeioaahampaaa.B Go.Proofs.Ytmoeioaahampaaa.Hi Go.Proofs.Ytmoeioaahampaaa.Tb
open Go.Proofs.Ytmoeioaahampaaa.Hf (bx need enc dec bitsOf)
set_option linter.unusedVariables false
set_option linter.unusedSimpArgs false

/-! ### Apart -/
def Ap (A B : List Nat) : Prop := ∀ x ∈ A, x ∉ B
theorem Ap.symm {A B : List Nat} (h : Ap A B) : Ap B A := fun x hx hy => h x hy hx
theorem Ap.step {c : Nat} {F F' B : List Nat} {w : World} (h : Ap (c :: F) B) (hf : Fresh F' F w) (hB : ∀ x ∈ B, x < w.heap.size) : Ap (c :: F') B := fun x hx hy => by
  rcases List.mem_cons.1 hx with rfl | hx
  · exact h x (by simp) hy
  · rcases hf x hx with h1 | h1
    · exact h x (List.mem_cons_of_mem _ h1) hy
    · have := hB x hy; omega
theorem Ap.new {A B : List Nat} {n : Nat} (hA : ∀ x ∈ A, x < n) (hB : ∀ x ∈ B, n ≤ x) : Ap A B := fun x hx hy => by have := hA x hx; have := hB x hy; omega
theorem EH.los {W w : World} {c : Nat} {F : List Nat} {p m : Nat} {es : List Fd} {least last : Nat} {called : Bool} (h : EH W w c F p m es least last called) : ∀ x ∈ c :: F, W.heap.size ≤ x := fun x hx => by
  rcases List.mem_cons.1 hx with rfl | hx
  · exact h.lo
  · exact h.tab.lo x hx
theorem DH.los {W w : World} {d : Nat} {F : List Nat} {p m : Nat} {es : List Fd} {limit : Nat} {list : Int} {broken : Bool} (h : DH W w d F p m es limit list broken) : ∀ x ∈ d :: F, W.heap.size ≤ x := fun x hx => by
  rcases List.mem_cons.1 hx with rfl | hx
  · exact h.lo
  · exact h.tab.lo x hx
/-- An own row of octets as an argument: where it lies. -/
theorem own_block {w : World} {base : Nat} {v : Value} {l : List UInt8} (h : OwnB w base v l) : ∀ a n cap, v = .slice (some a) n cap → base ≤ a.block ∧ a.block < w.heap.size := by
  intro a n cap e
  subst e
  have h1 := OwnB.lo h a.block (by simp [Value.ownBlock])
  exact ⟨h1, (World.ownsRow.lt h a.block (by simp [Value.ownBlock])).2⟩

/-! ### What must be in any case -/
def fM (v : Array UInt8) : Fd := ⟨⟨#[58, 109, 101, 116, 104, 111, 100]⟩, ⟨v⟩, false⟩
abbrev fG : Fd := ⟨⟨#[58, 109, 101, 116, 104, 111, 100]⟩, ⟨#[71, 69, 84]⟩, false⟩
abbrev fP : Fd := ⟨⟨#[58, 109, 101, 116, 104, 111, 100]⟩, ⟨#[80, 85, 84]⟩, false⟩
theorem v1 : encB (hgt 4096) [] 0 0 false [fG] = ([130], hgt 4096, []) := by
  have h : findR [] fG = (2, true) := by decide +kernel
  have h1 : encF (hgt 4096) [] fG = ([130], []) := by
    unfold encF
    rw [h, if_neg (by decide), if_pos rfl]
    show ((putI 128 ((7 : Nat) : Int) ((2 : Nat) : Int)).1, _) = _
    rw [putI_in (by decide) (by decide) (by decide)]; rfl
  show ([] ++ (encL (hgt 4096) [] [fG]).1, _, (encL (hgt 4096) [] [fG]).2) = _
  unfold encL
  rw [h1]; rfl
theorem v2 : encB (hgt 4096) [] 0 0 false [fP] = ([66, 3, 80, 85, 84], hgt 4096, [fP]) := by
  have h : findR [] fP = (2, false) := by decide +kernel
  have h0 : addS fP (hgt 4096) [] = [fP] := by decide +kernel
  have hs : ¬ hgt 4096 < fP.sz := by decide +kernel
  have ht : putT (bx fP.v) = [3, 80, 85, 84] := by
    have h1 : need (bx ⟨#[80, 85, 84]⟩) = 3 := by decide +kernel
    have h2 : bx ⟨#[80, 85, 84]⟩ = [80, 85, 84] := rfl
    show putT (bx ⟨#[80, 85, 84]⟩) = _
    unfold putT
    rw [h1, h2, if_neg (by decide)]
    show putN 0 7 3 ++ [80, 85, 84] = _
    unfold putN
    rw [if_pos (by decide)]; rfl
  have h1 : encF (hgt 4096) [] fP = ([66, 3, 80, 85, 84], [fP]) := by
    unfold encF
    rw [h, if_neg (by decide), if_neg (by decide), if_neg hs, h0]
    unfold lit
    rw [ht, if_neg (by decide)]
    show ((putI 64 ((6 : Nat) : Int) ((2 : Nat) : Int)).1 ++ _, _) = _
    rw [putI_in (by decide) (by decide) (by decide)]; rfl
  show ([] ++ (encL (hgt 4096) [] [fP]).1, _, (encL (hgt 4096) [] [fP]).2) = _
  unfold encL
  rw [h1]; rfl
theorem v3 : encB (hgt 4096) [fP] 0 0 false [fP] = ([190], hgt 4096, [fP]) := by
  have h : findR [fP] fP = (62, true) := by decide +kernel
  have h1 : encF (hgt 4096) [fP] fP = ([190], [fP]) := by
    unfold encF
    rw [h, if_neg (by decide), if_pos rfl]
    show ((putI 128 ((7 : Nat) : Int) ((62 : Nat) : Int)).1, _) = _
    rw [putI_in (by decide) (by decide) (by decide)]; rfl
  show ([] ++ (encL (hgt 4096) [fP] [fP]).1, _, (encL (hgt 4096) [fP] [fP]).2) = _
  unfold encL
  rw [h1]; rfl
theorem u1 : decB (hgt 4096) [] (hgt 4096) 1000 false [130] = ([fG], 0, false, hgt 4096, []) := by decide +kernel
theorem u2 : decB (hgt 4096) [] (hgt 4096) 1000 false [128] = ([], 3, true, hgt 4096, []) := by decide +kernel
theorem u3 : decB (hgt 4096) [] (hgt 4096) 1000 true [130] = ([], 7, true, hgt 4096, []) := by decide +kernel
theorem lit_one (w : World) (k : UInt8) : BytesOf (w.alloc (.cells #[.int .u8 (k.toNat : Int)] 5 (1, 2))) (.slice (some ⟨w.heap.size, 0, none⟩) 1 1) [k] := by
  refine ⟨_, 1, rfl, Nat.le_refl _, by simp [maxLen], fun _ => ⟨w.heap.size, 0, rfl, by simp, fun i z hz j hj => ?_⟩⟩
  obtain rfl : j = 0 := by omega
  have hi : i < 1 := (List.getElem?_eq_some_iff.1 hz).1
  obtain rfl : i = 0 := by omega
  simp at hz; subst hz
  have := At.cell (o := 0) (v := .int .u8 (k.toNat : Int)) (At.new w (.cells #[.int .u8 (k.toNat : Int)] 5 (1, 2))) rfl
  rw [show 0 + 0 * 1 + 0 = 0 from rfl, this]; rfl
set_option maxRecDepth 100000 in
set_option maxHeartbeats 8000000 in
theorem shown_any (w : World) :
    Calls Try.prog 12 #[] w fun e w' => e = .returned (.bool true) ∧ Chg [] w w' := by
  have q1 : ∀ w, _ := fun w => Go.Joins.run_convert_bytes_const_at (P := Try.prog) w 22 5 #[.int .u8 130] 1 1 _ rfl Try.underlying22 Try.underlying5
  have q2 : ∀ w, _ := fun w => Go.Joins.run_convert_bytes_const_at (P := Try.prog) w 22 5 #[.int .u8 128] 1 1 _ rfl Try.underlying22 Try.underlying5
  go_enter Try.func12, Try.ntmps12
  go_wp2_with fail
  refine (newenc_any (W := w) 4096 w (Below.refl _ _)).mono ?_; rintro e w1 ⟨c, F1, p1, rfl, hE, hc1, hn1⟩
  have hs1 := hc1.size
  go_wp2_with fail
  refine (newdec_any (W := w) 4096 1000 w1 hE.tab.below).mono ?_; rintro e w2 ⟨d, F2, p2, rfl, hD, hc2, hn2⟩
  have hs2 := hc2.size
  have hAp : Ap (c :: F1) (d :: F2) := Ap.new hE.lt hn2
  have HE2 := Lib.hid (hE.chg0 hc2); have HD2 := Lib.hid hD; have HC2 := Lib.hid (hc1.trans' hc2); have HA2 := Lib.hid hAp
  clear hE hD hc1 hc2 hn1 hn2 hAp
  go_upto_region 7 with fail
  obtain ⟨G, hG⟩ : ∃ G, G = w2.heap.size := ⟨_, rfl⟩
  obtain ⟨w3, hw3⟩ : ∃ w3, w3 = (w2.alloc (FN fG)).alloc (FN fP) := ⟨_, rfl⟩
  have c3 : Chg [] w2 w3 := by rw [hw3]; exact ((Chg.refl w2).alloc _).alloc _
  have l1 : FdsOf w3 (.slice (some ⟨G, 0, none⟩) 1 1) [fG] := by rw [hw3, hG]; exact (one_field w2 fG).chg0 ((Chg.refl _).alloc _)
  have l2 : FdsOf w3 (.slice (some ⟨G + 1, 0, none⟩) 1 1) [fP] := by
    have := one_field (w2.alloc (FN fG)) fP
    rw [show (w2.alloc (FN fG)).heap.size = G + 1 by rw [hG]; simp] at this
    rw [hw3]; exact this
  have hs3 : w3.heap.size = G + 1 + 1 := by rw [hw3, hG]; simp
  have hA3 : Ap (c :: F1) ([G, G + 1] ++ (d :: F2)) := fun x hx hy => by
    have := HE2.out.lt x hx
    rcases List.mem_append.1 hy with h | h
    · simp at h; omega
    · exact HA2.out x hx h
  have hB3 : Ap (d :: F2) [G, G + 1] := fun x hx hy => by
    have := HD2.out.lt x hx
    simp at hy; omega
  rw [← hw3, ← hG]
  have hE := HE2.out.chg0 c3
  have hD := HD2.out.chg0 c3
  have hC := HC2.out.trans' c3
  have hl3 : ∀ x ∈ [G, G + 1] ++ (d :: F2), x < w3.heap.size := fun x hx => by
    rcases List.mem_append.1 hx with h | h
    · simp at h; omega
    · exact hD.lt x h
  have HE := Lib.hid hE; have HD := Lib.hid hD; have HC := Lib.hid hC; have HA := Lib.hid hA3; have HB := Lib.hid hB3; have L1 := Lib.hid l1; have L2 := Lib.hid l2; have HL := Lib.hid hl3
  clear hE hD hC hA3 hB3 l1 l2 hl3 c3 hw3 hG HE2 HD2 HC2 HA2
  skip
  go_wp2_with fail
  refine (encode_any HE.out _ [fG] L1.out (fun a n cap e hx => by cases e; exact HA.out _ hx (by simp)) (by decide) (by decide)).mono ?_; rintro e w4 ⟨r1, Fa, rfl, o1, e1, f1, c1⟩
  rw [v1] at o1 e1
  have kr1 := BytesOf.str (OwnB.bytes o1)
  have HEA := Lib.hid e1
  have HDA := Lib.hid (HD.out.chg c1 (fun x hx hy => HA.out x hy (List.mem_append_right _ hx)) HE.out.los)
  have L1A := Lib.hid (L1.out.chg c1 (fun a n cap e hx => by cases e; exact HA.out _ hx (by simp)))
  have L2A := Lib.hid (L2.out.chg c1 (fun a n cap e hx => by cases e; exact HA.out _ hx (by simp)))
  have HCA := Lib.hid (HC.out.trans c1 (fun x hx => Or.inr (HE.out.los x hx)))
  have HAA := Lib.hid (Ap.step HA.out f1 HL.out)
  have HLA : Hid (∀ x ∈ [G, G + 1] ++ (d :: F2), x < (w4).heap.size) := Lib.hid (fun x hx => Nat.lt_of_lt_of_le (HL.out x hx) c1.size)
  clear o1 e1 f1 c1 HE HD L1 L2 HC HA HL
  go_wp2_with fail
  refine (encode_any HEA.out _ [fP] L2A.out (fun a n cap e hx => by cases e; exact HAA.out _ hx (by simp)) (by decide) (by decide)).mono ?_; rintro e w5 ⟨r2, Fb, rfl, o1, e1, f1, c1⟩
  rw [v2] at o1 e1
  have kr2 := BytesOf.str (OwnB.bytes o1)
  have HEB := Lib.hid e1
  have HDB := Lib.hid (HDA.out.chg c1 (fun x hx hy => HAA.out x hy (List.mem_append_right _ hx)) HEA.out.los)
  have L1B := Lib.hid (L1A.out.chg c1 (fun a n cap e hx => by cases e; exact HAA.out _ hx (by simp)))
  have L2B := Lib.hid (L2A.out.chg c1 (fun a n cap e hx => by cases e; exact HAA.out _ hx (by simp)))
  have HCB := Lib.hid (HCA.out.trans c1 (fun x hx => Or.inr (HEA.out.los x hx)))
  have HAB := Lib.hid (Ap.step HAA.out f1 HLA.out)
  have HLB : Hid (∀ x ∈ [G, G + 1] ++ (d :: F2), x < (w5).heap.size) := Lib.hid (fun x hx => Nat.lt_of_lt_of_le (HLA.out x hx) c1.size)
  clear o1 e1 f1 c1 HEA HDA L1A L2A HCA HAA HLA
  go_wp2_with fail
  refine (encode_any HEB.out _ [fP] L2B.out (fun a n cap e hx => by cases e; exact HAB.out _ hx (by simp)) (by decide) (by decide)).mono ?_; rintro e w6 ⟨r3, Fc, rfl, o1, e1, f1, c1⟩
  rw [v3] at o1 e1
  have kr3 := BytesOf.str (OwnB.bytes o1)
  have HEC := Lib.hid e1
  have HDC := Lib.hid (HDB.out.chg c1 (fun x hx hy => HAB.out x hy (List.mem_append_right _ hx)) HEB.out.los)
  have L1C := Lib.hid (L1B.out.chg c1 (fun a n cap e hx => by cases e; exact HAB.out _ hx (by simp)))
  have L2C := Lib.hid (L2B.out.chg c1 (fun a n cap e hx => by cases e; exact HAB.out _ hx (by simp)))
  have HCC := Lib.hid (HCB.out.trans c1 (fun x hx => Or.inr (HEB.out.los x hx)))
  have HAC := Lib.hid (Ap.step HAB.out f1 HLB.out)
  have HLC : Hid (∀ x ∈ [G, G + 1] ++ (d :: F2), x < (w6).heap.size) := Lib.hid (fun x hx => Nat.lt_of_lt_of_le (HLB.out x hx) c1.size)
  clear o1 e1 f1 c1 HEB HDB L1B L2B HCB HAB HLB
  have b1 : BytesOf (w6.alloc (.cells #[.int .u8 130] 5 (1, 2))) (.slice (some ⟨w6.heap.size, 0, none⟩) 1 1) [130] := lit_one w6 130
  have HXC := HB
  have HYC : Hid (∀ x ∈ [G, G + 1], x < w6.heap.size) := Lib.hid (fun x hx => HLC.out x (List.mem_append_left _ hx))
  skip
  go_wp2_with fail
  refine (decode_any (HDC.out.chg0 ((Chg.refl _).alloc _)) _ [130] b1 (fun _ a n cap e => by cases e; exact ⟨by simp, fun hx => Nat.lt_irrefl _ (HDC.out.lt _ hx)⟩) (by decide)).mono ?_; rintro e w7 ⟨r4, Fd, rfl, o1, d1, f1, c1, a1⟩
  rw [u1] at o1 d1
  rw [u1]
  have C1 : Chg (d :: F2) w6 w7 := (((Chg.refl _).alloc _).trans' c1)
  have HDD := Lib.hid d1
  have L1D := Lib.hid (L1C.out.chg C1 (fun a n cap e hx => by cases e; exact HXC.out _ hx (by simp)))
  have HCD := Lib.hid (HCC.out.trans C1 (fun x hx => Or.inr (HDC.out.los x hx)))
  have HXD := Lib.hid (Ap.step (w := w6) HXC.out (fun x hx => (f1 x hx).imp id (fun h => Nat.le_trans (by simp) h)) HYC.out)
  have HYD : Hid (∀ x ∈ [G, G + 1], x < (w7).heap.size) := Lib.hid (fun x hx => Nat.lt_of_lt_of_le (HYC.out x hx) C1.size)
  have HXZ : Hid (Ap (d :: Fd) ([G, G + 1] ++ r4.ownBlock.toList)) := Lib.hid (fun x hx hy => by
    rcases List.mem_append.1 hy with h | h
    · exact HXD.out x hx h
    · exact a1 x hx h)
  have HYZ : Hid (∀ x ∈ [G, G + 1] ++ r4.ownBlock.toList, x < w7.heap.size) := Lib.hid (fun x hx => by
    rcases List.mem_append.1 hx with h | h
    · exact HYD.out x h
    · exact OwnR.lt o1 x h)
  have O4D := Lib.hid o1
  have HDZ := HDD; have L1Z := L1D; have HCZ := HCD
  clear o1 d1 f1 c1 a1 C1 HDC L1C L2C HCC HAC HLC HXC HYC HXD HYD b1 HDD L1D HCD HEC HB
  have b2 : BytesOf (w7.alloc (.cells #[.int .u8 128] 5 (1, 2))) (.slice (some ⟨w7.heap.size, 0, none⟩) 1 1) [128] := lit_one w7 128
  skip
  go_wp2_with fail
  refine (decode_any (HDZ.out.chg0 ((Chg.refl _).alloc _)) _ [128] b2 (fun _ a n cap e => by cases e; exact ⟨by simp, fun hx => Nat.lt_irrefl _ (HDZ.out.lt _ hx)⟩) (by decide)).mono ?_; rintro e w8 ⟨r5, Fe, rfl, o1, d1, f1, c1, a1⟩
  rw [u2] at o1 d1
  rw [u2]
  have C1 : Chg (d :: Fd) w7 w8 := (((Chg.refl _).alloc _).trans' c1)
  have HDE := Lib.hid d1
  have L1E := Lib.hid (L1Z.out.chg C1 (fun a n cap e hx => by cases e; exact HXZ.out _ hx (by simp)))
  have HCE := Lib.hid (HCZ.out.trans C1 (fun x hx => Or.inr (HDZ.out.los x hx)))
  have HXE := Lib.hid (Ap.step (w := w7) HXZ.out (fun x hx => (f1 x hx).imp id (fun h => Nat.le_trans (by simp) h)) HYZ.out)
  have HYE : Hid (∀ x ∈ [G, G + 1] ++ r4.ownBlock.toList, x < (w8).heap.size) := Lib.hid (fun x hx => Nat.lt_of_lt_of_le (HYZ.out x hx) C1.size)
  have O4E := Lib.hid (OwnR.chg O4D.out C1 (fun g hg hx => HXZ.out g hx (List.mem_append_right _ (by simpa using hg))))
  clear o1 d1 f1 c1 a1 C1 HDZ L1Z HCZ HXZ HYZ b2 O4D
  have b3 : BytesOf (w8.alloc (.cells #[.int .u8 130] 5 (1, 2))) (.slice (some ⟨w8.heap.size, 0, none⟩) 1 1) [130] := lit_one w8 130
  skip
  go_wp2_with fail
  refine (decode_any (HDE.out.chg0 ((Chg.refl _).alloc _)) _ [130] b3 (fun _ a n cap e => by cases e; exact ⟨by simp, fun hx => Nat.lt_irrefl _ (HDE.out.lt _ hx)⟩) (by decide)).mono ?_; rintro e w9 ⟨r6, Ff, rfl, o1, d1, f1, c1, a1⟩
  rw [u3] at o1 d1
  rw [u3]
  have C1 : Chg (d :: Fe) w8 w9 := (((Chg.refl _).alloc _).trans' c1)
  have HDH := Lib.hid d1
  have L1H := Lib.hid (L1E.out.chg C1 (fun a n cap e hx => by cases e; exact HXE.out _ hx (by simp)))
  have HCH := Lib.hid (HCE.out.trans C1 (fun x hx => Or.inr (HDE.out.los x hx)))
  have HXH := Lib.hid (Ap.step (w := w8) HXE.out (fun x hx => (f1 x hx).imp id (fun h => Nat.le_trans (by simp) h)) HYE.out)
  have HYH : Hid (∀ x ∈ [G, G + 1] ++ r4.ownBlock.toList, x < (w9).heap.size) := Lib.hid (fun x hx => Nat.lt_of_lt_of_le (HYE.out x hx) C1.size)
  have O4H := Lib.hid (OwnR.chg O4E.out C1 (fun g hg hx => HXE.out g hx (List.mem_append_right _ (by simpa using hg))))
  clear o1 d1 f1 c1 a1 C1 HDE L1E HCE HXE HYE b3 O4E kr1 kr2 kr3 q1 q2
  obtain ⟨ra, rc, hr4, _, _⟩ := OwnR.slice O4H.out
  obtain ⟨rb, ro, hra, hrb, hrc⟩ := FdsOf.cells (hr4 ▸ OwnR.sl encF_len (by decide) O4H.out) (by decide)
  subst hra
  have hrr : r4 = .slice (some ⟨rb, ro, none⟩) 1 rc := hr4
  subst hrr
  obtain ⟨e0, e1, e2⟩ := hrc 0 fG rfl
  obtain ⟨gb, go, hga, hgb, hgc⟩ := FdsOf.cells L1H.out (by decide)
  cases hga
  obtain ⟨g0, g1, g2⟩ := hgc 0 fG rfl
  simp only [Nat.zero_mul, Nat.add_zero, Nat.zero_add] at e0 e1 e2 g0 g1 g2
  clear hrc hgc
  go_wp2_with fail
  go_quiet (fail)
  go_wp2_with fail
  go_ret
  exact ⟨rfl, HCH.out.drewN _⟩
end Go.Proofs.Ytmoeioaahampaaa.Tb.Hp
namespace Go.Proofs.Ytmoeioaahampaaa.Tb.Hp
open Go.ChangeShapes Go.WideShapes Go.ChangeAt Go.RowKit
open Go.Proofs.Ytmoeioaahampaaa.B Go.Proofs.Ytmoeioaahampaaa.Hi Go.Proofs.Ytmoeioaahampaaa.Tb
open Go.Proofs.Ytmoeioaahampaaa.Hf (bx need enc dec bitsOf)
set_option linter.unusedVariables false
set_option linter.unusedSimpArgs false

theorem BytesOf.pre {w : World} {a : Option Addr} {n cap : Nat} {l : List UInt8} (h : BytesOf w (.slice a n cap) l) (k : Nat) (hk : k ≤ l.length) : BytesOf w (.slice a k cap) (l.take k) := by
  obtain ⟨a', cap', he, hc, hm⟩ := h.slice
  simp only [Value.slice.injEq] at he
  obtain ⟨rfl, rfl, rfl⟩ := he
  have hl : (l.take k).length = k := by rw [List.length_take]; omega
  refine ⟨a, cap, by rw [hl], by omega, hm, fun h0 => ?_⟩
  obtain ⟨b, off, rfl, hb, hcell⟩ := h.cell (by omega)
  refine ⟨b, off, rfl, hb, fun i z hz j hj => ?_⟩
  obtain rfl : j = 0 := by omega
  have hik : i < k := by rw [← hl]; exact (List.getElem?_eq_some_iff.1 hz).1
  rw [List.getElem?_take_of_lt hik] at hz
  have := hcell i z hz
  rw [show off + i * 1 + 0 = off + i by omega, this]; rfl
theorem litR_inv {P : Nat} {nv : Bool} {m : Nat} {es : List Fd} {l : List UInt8} (hi : Inv m es) : Inv m (litR P nv m es l).2.2.2 := by
  unfold litR
  simp only
  split
  · exact hi.add _
  · exact hi
theorem fieldR_inv {m : Nat} {es : List Fd} {l : List UInt8} (hi : Inv m es) : Inv m (fieldR m es l).2.2.2 := by
  unfold fieldR
  split
  · exact hi
  · split
    · exact hi
    · split
      · exact litR_inv hi
      · exact litR_inv hi
theorem fldR_tot {m : Nat} : ∀ (k : Nat) (es : List Fd) (l : List UInt8), Inv m es → l.length ≤ 100000 → tot (fldR m k es l).1 ≤ 600032 * l.length := by
  intro k
  induction k with
  | zero => intro es l _ _; simp [fldR, tot]
  | succ k ih =>
    intro es l hi hl
    by_cases h0 : 0 < l.length
    · rw [fldR_step h0]
      have hs := fieldR_sz hi hl
      by_cases hb : (fieldR m es l).2.2.1 = true
      · rw [if_pos hb]
        show (fieldR m es l).1.sz + 0 ≤ _
        omega
      · rw [if_neg hb]
        have hlt := fieldR_len (m := m) (es := es) (l := l) (by simpa using hb)
        have := ih (fieldR m es l).2.2.2 (fieldR m es l).2.1 (fieldR_inv hi) (by omega)
        show (fieldR m es l).1.sz + tot (fldR m k (fieldR m es l).2.2.2 (fieldR m es l).2.1).1 ≤ _
        omega
    · rw [fldR_stop h0]; simp [tot]
theorem updR_inv {limit : Nat} : ∀ (k m : Nat) (es : List Fd) (l : List UInt8), Inv m es → Inv (updR limit k m es l).2.2.1 (updR limit k m es l).2.2.2 ∧ (updR limit k m es l).1.length ≤ l.length := by
  intro k
  induction k with
  | zero => intro m es l hi; exact ⟨hi, Nat.le_refl _⟩
  | succ k ih =>
    intro m es l hi
    by_cases h0 : 0 < l.length ∧ (l.headD 0).toNat / 32 = 1
    · rw [updR_step h0.1 h0.2]
      split
      · exact ⟨hi, by show (l.drop _).length ≤ _; rw [List.length_drop]; omega⟩
      · obtain ⟨h1, h2⟩ := ih (hgt ((getI l 5).1 : Int)) (Tb.fit 0 (hgt ((getI l 5).1 : Int)) es) (l.drop (getI l 5).2.1) (hi.set (hgt_le _))
        rw [List.length_drop] at h2
        exact ⟨h1, by omega⟩
    · rw [updR_stop h0]; exact ⟨hi, Nat.le_refl _⟩
/-- A block is one, or none. -/
theorem decB_or {m : Nat} {es : List Fd} {limit : Nat} {list : Int} {l : List UInt8} (hi : Inv m es) (hl : l.length ≤ 100000) (hlist : (600032 * l.length : Nat) ≤ list) :
    ((decB m es limit list false l).2.1 = 0 ∧ (decB m es limit list false l).2.2.1 = false) ∨ ((decB m es limit list false l).2.1 = 3 ∧ (decB m es limit list false l).2.2.1 = true ∧ (decB m es limit list false l).1 = []) := by
  obtain ⟨hu1, hu2⟩ := updR_inv (limit := limit) l.length m es l hi
  obtain ⟨U, hU⟩ : ∃ U, updR limit l.length m es l = U := ⟨_, rfl⟩
  rw [hU] at hu1 hu2
  obtain ⟨l1, bad, m1, es1⟩ := U
  rw [decB_fin hU rfl]
  have ht : tot (finR (bad || decide (limit < m1)) m1 es1 l1).1 ≤ 600032 * l1.length := by
    unfold finR
    split
    · simp [tot]
    · exact fldR_tot _ _ _ hu1 (by simp at hu2; omega)
  simp only at hu2
  split
  · exact Or.inr ⟨rfl, rfl, rfl⟩
  · rw [if_neg (by omega)]
    exact Or.inl ⟨rfl, rfl⟩
theorem decB_broken {m : Nat} {es : List Fd} {limit : Nat} {list : Int} {l : List UInt8} : decB m es limit list true l = ([], 7, true, m, es) := by unfold decB; rw [if_pos rfl]
end Go.Proofs.Ytmoeioaahampaaa.Tb.Hp
