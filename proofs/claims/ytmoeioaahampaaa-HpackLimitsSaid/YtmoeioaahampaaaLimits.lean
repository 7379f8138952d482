/-
  HpackLimits: who is told of less room must say so first: any Max, any less, any fields.
-/
import Derived.Test.YtmoeioaahampaaaHdM
namespace Go.Proofs.Ytmoeioaahampaaa.HLimits
open Go.ChangeShapes Go.WideShapes Go.ChangeAt Go.RowKit
open Go.Proofs.Ytmoeioaahampaaa.B Go.Proofs.Ytmoeioaahampaaa.Hi Go.Proofs.Ytmoeioaahampaaa.Tb Go.Proofs.Ytmoeioaahampaaa.Tb.Hp
open Go.Proofs.Ytmoeioaahampaaa.Hf (bx)
set_option linter.unusedVariables false
set_option linter.unusedSimpArgs false

abbrev Fld := Go.Proofs.Ytmoeioaahampaaa.Tb.Fd
theorem tot_le (n : Nat) : ∀ (l : List Fld), (∀ f ∈ l, f.sz ≤ n) → tot l ≤ n * l.length := by
  intro l
  induction l with
  | nil => intro _; simp [tot]
  | cons f l ih =>
    intro h
    have h1 := h f (by simp)
    have h2 := ih (fun g hg => h g (List.mem_cons_of_mem _ hg))
    show f.sz + tot l ≤ _
    rw [List.length_cons, Nat.mul_add, Nat.mul_one]; omega
theorem and16 (x : Int) : Go.bits .and .i64 x 65535 = (((x % 65536).toNat : Nat) : Int) := by
  have key : (BitVec.ofInt 64 x &&& BitVec.ofInt 64 65535).toNat = (x % 65536).toNat := by
    rw [BitVec.toNat_and, BitVec.toNat_ofInt, BitVec.toNat_ofInt]
    have a2 : ((65535 : Int) % ((2 ^ 64 : Nat) : Int)).toNat = 2 ^ 16 - 1 := by decide
    rw [a2, Nat.and_two_pow_sub_one_eq_mod]
    omega
  show IntKind.i64.wrap ((BitVec.ofInt 64 x &&& BitVec.ofInt 64 65535).toNat : Nat) = _
  rw [key, IntKind.wrap_i64]; omega
/-- A decoder that may have less than its table's Max takes no block that does not say so. -/
theorem dec_low {m limit : Nat} {es L : List Fld} {list : Int} (hi : Inv m es) (hs : ∀ f ∈ L, f.n.size ≤ 100000 ∧ f.v.size ≤ 100000) (h : limit < m) :
    Hp.decB m es limit list false (Hp.encB m es 0 0 false L).1 = ([], 3, true, m, es) := by
  have e : Hp.encB m es 0 0 false L = ((encL m es L).1, m, (encL m es L).2) := by
    show ([] ++ (encL m es L).1, m, (encL m es L).2) = _
    rfl
  rw [e]
  unfold Hp.decB
  rw [if_neg (by simp)]
  simp only
  rw [updR_stop (encL_head hi hs), if_pos (Or.inr h)]
theorem dec_above {n : Nat} {list : Int} (hn : n ≤ 65535) : Hp.decB 0 [] n list false (Hp.encB 0 [] (n + 1) (n + 1) true []).1 = ([], 3, true, 0, []) := by
  have e : (Hp.encB 0 [] (n + 1) (n + 1) true []).1 = upd (n + 1) := by
    unfold Hp.encB encU
    rw [if_pos rfl, if_neg (Nat.lt_irrefl _)]
    simp [encL]
  rw [e]
  obtain ⟨b1, _, c, r, e1, e2, _⟩ := back (f := 32) (P := 5) (V := n + 1) (by omega) (by omega) (by omega) []
  have e3 : c.toNat / 32 = 1 := e2
  have ep : upd (n + 1) = putN 32 5 (n + 1) := by
    show (putI 32 ((5 : Nat) : Int) ((n + 1 : Nat) : Int)).1 = _
    rw [putI_in (by omega) (by omega) (by omega)]; rfl
  rw [List.append_nil] at b1
  have b2 : getI (putN 32 5 (n + 1)) 5 = (n + 1, (putN 32 5 (n + 1)).length, 0) := b1
  have e1' : putN 32 5 (n + 1) = c :: r := e1
  have hU : updR n (upd (n + 1)).length 0 [] (upd (n + 1)) = ((upd (n + 1)).drop (putN 32 5 (n + 1)).length, true, 0, []) := by
    rw [ep]
    obtain ⟨k, hk⟩ : ∃ k, (putN 32 5 (n + 1)).length = k + 1 := ⟨r.length, by rw [e1']; rfl⟩
    rw [show updR n (putN 32 5 (n + 1)).length 0 [] (putN 32 5 (n + 1)) = updR n (k + 1) 0 [] (putN 32 5 (n + 1)) from by rw [hk]]
    rw [updR_step (by rw [e1']; simp) (by rw [e1']; exact e3), b2, if_pos (Or.inr (by simp))]
  unfold Hp.decB
  rw [if_neg (by simp)]
  simp only
  rw [hU, if_pos (Or.inl rfl)]
theorem dec_behind (m : Nat) (list : Int) : ∃ es, Hp.decB m [] m list false [130, 32] = ([], 3, true, m, es) := by
  have h1 : updR m 2 m [] [130, 32] = ([130, 32], false, m, []) := updR_stop (by decide)
  have h2 : fldR m 2 [] [130, 32] = ([fG, ⟨⟨#[]⟩, ⟨#[]⟩, false⟩], true, []) := by kernel_rfl
  refine ⟨[], ?_⟩
  unfold Hp.decB
  rw [if_neg (by simp)]
  simp only [List.length_cons, List.length_nil, Nat.zero_add, h1]
  rw [if_neg (by simp)]
  simp only [List.length_cons, List.length_nil, Nat.zero_add, h2]
  simp
theorem lit_two (w : World) (a b : UInt8) {T : TypeId} {sh : Nat × Nat} : BytesOf (w.alloc (.cells #[.int .u8 (a.toNat : Int), .int .u8 (b.toNat : Int)] T sh)) (.slice (some ⟨w.heap.size, 0, none⟩) 2 2) [a, b] := by
  refine ⟨_, 2, rfl, Nat.le_refl _, by simp [maxLen], fun _ => ⟨w.heap.size, 0, rfl, by simp, fun i z hz j hj => ?_⟩⟩
  obtain rfl : j = 0 := by omega
  have hi : i < 2 := (List.getElem?_eq_some_iff.1 hz).1
  have c0 := At.cell (o := 0) (v := .int .u8 (a.toNat : Int)) (At.new w (.cells #[.int .u8 (a.toNat : Int), .int .u8 (b.toNat : Int)] T sh)) rfl
  have c1 := At.cell (o := 1) (v := .int .u8 (b.toNat : Int)) (At.new w (.cells #[.int .u8 (a.toNat : Int), .int .u8 (b.toNat : Int)] T sh)) rfl
  obtain rfl | rfl : i = 0 ∨ i = 1 := by omega
  · simp at hz; subst hz
    rw [show 0 + 0 * 1 + 0 = 0 from rfl, c0]; rfl
  · simp at hz; subst hz
    rw [show 0 + 1 * 1 + 0 = 1 from rfl, c1]; rfl
set_option maxRecDepth 100000 in
set_option maxHeartbeats 8000000 in
theorem walk (max low : Int) (va : Value) (la : List Fld) (W : World) (ia : ∀ f ∈ la, f.In) (ha : FdsOf W va la) :
    Calls Try.prog 9 #[.int .i64 max, .int .i64 low, va] W fun e w' => e = .returned (.bool true) ∧ Below W.heap.size W w' := by
  have HA := Lib.hid ha; have IA := Lib.hid ia
  clear ha ia
  obtain ⟨A, hA⟩ : ∃ A, A = smallL la := ⟨_, rfl⟩
  have sA0 : ∀ f ∈ A, f.n.size ≤ 400 ∧ f.v.size ≤ 400 := fun f hf => by rw [hA] at hf; exact smallL_sz f hf
  have lA : A.length ≤ 20 := by rw [hA]; exact smallL_len _
  have tA : tot A ≤ 16640 := by
    have := tot_le 832 A (fun f hf => by have := sA0 f hf; unfold Go.Proofs.Ytmoeioaahampaaa.Tb.Fd.sz; omega)
    omega
  have hand1 := and16 max
  have hand2 := and16 low
  obtain ⟨M, hM⟩ : ∃ M, M = (max % 65536).toNat := ⟨_, rfl⟩
  obtain ⟨L, hL⟩ : ∃ L, L = (low % 65536).toNat := ⟨_, rfl⟩
  rw [← hM] at hand1
  rw [← hL] at hand2
  have hM6 : M ≤ 65535 := by omega
  have hL6 : L ≤ 65535 := by omega
  have HHM : Hid (hgt (M : Int) = M) := Lib.hid (by unfold hgt; omega)
  have HHL : Hid (hgt (L : Int) = L) := Lib.hid (by unfold hgt; omega)
  have HHL1 : Hid (hgt ((L : Int) + 1) = L + 1) := Lib.hid (by unfold hgt; omega)
  clear hM hL
  have sA : Hid (∀ f ∈ A, f.n.size ≤ 100000 ∧ f.v.size ≤ 100000) := Lib.hid (fun f hf => by have := sA0 f hf; omega)
  obtain ⟨P1, hP1⟩ : ∃ P, P = Hp.encB M [] 0 0 false A := ⟨_, rfl⟩
  obtain ⟨P2, hP2⟩ : ∃ P, P = Hp.encB M [] L L true A := ⟨_, rfl⟩
  obtain ⟨E3, hE3⟩ : ∃ E, E = (Hp.encB 0 [] (L + 1) (L + 1) true []).1 := ⟨_, rfl⟩
  have hI : Inv M [] := Inv.nil (by omega)
  have hd1 : Hp.decB M [] L 1099511627776 false P1.1 = if L < M then ([], 3, true, M, []) else (A, 0, false, M, P1.2.2) := by
    rw [hP1]
    by_cases h : L < M
    · rw [if_pos h]; exact dec_low hI sA.out h
    · rw [if_neg h, decB_encB hI sA.out (fun _ => by omega) (by simp), if_neg (by omega)]
      rfl
  have hv1 : Hp.decB M [] L 1099511627776 false P2.1 = (A, 0, false, P2.2.1, P2.2.2) := by
    rw [hP2, decB_encB hI sA.out (by simp) (fun _ => ⟨Nat.le_refl _, by omega⟩), if_neg (by omega)]
  have hPm2 : P2.2.1 = L := by
    rw [hP2]; unfold Hp.encB encU; rw [if_pos rfl, if_neg (Nat.lt_irrefl _)]
  have hv3 : Hp.decB 0 [] L 1099511627776 false E3 = ([], 3, true, 0, []) := by rw [hE3]; exact dec_above hL6
  obtain ⟨es4, hv4⟩ := dec_behind M 1099511627776
  have lP1 : P1.1.length ≤ 20 * 818 := by
    have := encL_le M A [] 800 (fun f hf => by have := sA0 f hf; omega)
    rw [hP1]
    show ([] ++ (encL M [] A).1).length ≤ _
    exact Nat.le_trans this (Nat.mul_le_mul_right _ lA)
  have lu : ∀ n : Nat, (upd n).length ≤ 6 := fun n => putI_len 32 5 n
  have lP2 : P2.1.length ≤ 20 * 818 + 6 := by
    have h1 := encL_le L A (Tb.fit 0 L []) 800 (fun f hf => by have := sA0 f hf; omega)
    have h2 := lu L
    rw [hP2]; unfold Hp.encB encU; rw [if_pos rfl, if_neg (Nat.lt_irrefl _)]
    show (upd L ++ (encL L (Tb.fit 0 L []) A).1).length ≤ _
    have := Nat.le_trans h1 (Nat.mul_le_mul_right 818 lA)
    rw [List.length_append]; omega
  have lE3 : E3.length ≤ 6 := by
    have h2 := lu (L + 1)
    rw [hE3]; unfold Hp.encB encU; rw [if_pos rfl, if_neg (Nat.lt_irrefl _)]
    show (upd (L + 1) ++ []).length ≤ _
    rw [List.append_nil]; exact h2
  have hm1 : P1.2.1 = M := by rw [hP1]; rfl
  obtain ⟨E1, m1, es1⟩ := P1
  obtain ⟨E2, m2, es2⟩ := P2
  simp only at hd1 hv1 hPm2 lP1 lP2 hm1
  rw [hPm2] at hv1
  have EE1 := Lib.hid hP1.symm; have EE2 := Lib.hid hP2.symm; have EE3 := Lib.hid hE3.symm; have HV1 := Lib.hid hv1; have HV3 := Lib.hid hv3; have HV4 := Lib.hid hv4
  have HAA := Lib.hid hA; have HD1 := Lib.hid hd1
  clear hA sA0 hP1 hP2 hE3 hI hd1 hv1 hv3 hv4 lu hPm2 hm1 tA
  go_enter Try.func9, Try.ntmps9
  go_wp2_with fail
  refine (shown_any W).mono ?_; rintro e w1 ⟨rfl, c1⟩
  go_wp2_with fail
  refine (small_any (HA.out.chg0 c1) IA.out).mono ?_; rintro e w2 ⟨ra, rfl, oa, c2⟩
  rw [← HAA.out] at oa
  have c02 := c1.trans' c2
  go_wp2_with fail
  refine (newenc_any (W := W) M w2 (by exact c02.below_nil)).mono ?_; rintro e w3 ⟨c, F1, p1, rfl, hE, c3, hn1⟩
  rw [HHM.out] at hE
  have c03 := c02.trans' c3
  go_wp2_with fail
  refine (newenc_any (W := W) M w3 (by exact c03.below_nil)).mono ?_; rintro e w4 ⟨g, F2, p2, rfl, hG, c4, hn2⟩
  rw [HHM.out] at hG
  have c04 := c03.trans' c4
  go_wp2_with fail
  refine (newdec_any (W := W) M 1099511627776 w4 (by exact c04.below_nil)).mono ?_; rintro e w5 ⟨d, F3, p3, rfl, hD, c5, hn3⟩
  rw [HHM.out] at hD
  have c05 := c04.trans' c5
  go_wp2_with fail
  refine (newdec_any (W := W) M 1099511627776 w5 (by exact c05.below_nil)).mono ?_; rintro e w6 ⟨v, F4, p4, rfl, hV, c6, hn4⟩
  rw [HHM.out] at hV
  have c06 := c05.trans' c6
  have HS6 : Hid (Sep w6 [v :: F4, d :: F3, g :: F2, c :: F1, ra.ownBlock.toList]) := Lib.hid ((((((Sep.nil w1).add (OwnR.lo oa) (OwnR.lt oa) c2.size).add hn1 hE.lt c3.size).add hn2 hG.lt c4.size).add hn3 hD.lt c5.size).add hn4 hV.lt c6.size)
  have HC6 := Lib.hid c06; have HE6 := Lib.hid (((hE.chg0 c4).chg0 c5).chg0 c6); have HG6 := Lib.hid ((hG.chg0 c5).chg0 c6); have HD6 := Lib.hid (hD.chg0 c6); have HV6 := Lib.hid hV
  obtain ⟨B1, hB1⟩ : ∃ B1, B1 = w1.heap.size := ⟨_, rfl⟩
  rw [← hB1] at oa
  have HO6 := Lib.hid (OwnR.chg0 (OwnR.chg0 (OwnR.chg0 (OwnR.chg0 oa c3) c4) c5) c6)
  clear oa hE hG hD hV c1 c2 c3 c4 c5 c6 c02 c03 c04 c05 c06 hn1 hn2 hn3 hn4 hB1 HA
  go_wp2_with fail
  refine (dsetmax_any HD6.out L).mono ?_; rintro e w7 ⟨rfl, h7, c7⟩
  rw [HHL.out] at h7
  have lo7 : ∀ x ∈ [d], W.heap.size ≤ x := fun x hx => HD6.out.los x (by simp at hx; simp [hx])
  have in7 : ∀ x ∈ [d], x ∈ d :: F3 := fun x hx => by simp at hx; simp [hx]
  have HC7 := Lib.hid (HC6.out.trans c7 (fun x hx => Or.inr (lo7 x hx))); have HD7 := Lib.hid h7
  have HE7 := Lib.hid (HE6.out.chg c7 (fun x hx hy => HS6.out.get 3 1 rfl rfl (by decide) x hx (in7 x hy)) lo7)
  have HG7 := Lib.hid (HG6.out.chg c7 (fun x hx hy => HS6.out.get 2 1 rfl rfl (by decide) x hx (in7 x hy)) lo7)
  have HV7 := Lib.hid (HV6.out.chg c7 (fun x hx hy => HS6.out.get 0 1 rfl rfl (by decide) x hx (in7 x hy)) lo7)
  have HO7 := Lib.hid (OwnR.chg HO6.out c7 (fun x hx hy => HS6.out.get 4 1 rfl rfl (by decide) x (by simpa using hx) (in7 x hy)))
  have HS7 := Lib.hid (HS6.out.le c7.size)
  clear h7 c7 lo7 in7 HC6 HD6 HE6 HG6 HV6 HO6 HS6
  go_wp2_with fail
  refine (dsetmax_any HV7.out L).mono ?_; rintro e w8 ⟨rfl, h8, c8⟩
  rw [HHL.out] at h8
  have lo8 : ∀ x ∈ [v], W.heap.size ≤ x := fun x hx => HV7.out.los x (by simp at hx; simp [hx])
  have in8 : ∀ x ∈ [v], x ∈ v :: F4 := fun x hx => by simp at hx; simp [hx]
  have HC8 := Lib.hid (HC7.out.trans c8 (fun x hx => Or.inr (lo8 x hx))); have HV8 := Lib.hid h8
  have HE8 := Lib.hid (HE7.out.chg c8 (fun x hx hy => HS7.out.get 3 0 rfl rfl (by decide) x hx (in8 x hy)) lo8)
  have HG8 := Lib.hid (HG7.out.chg c8 (fun x hx hy => HS7.out.get 2 0 rfl rfl (by decide) x hx (in8 x hy)) lo8)
  have HD8 := Lib.hid (HD7.out.chg c8 (fun x hx hy => HS7.out.get 1 0 rfl rfl (by decide) x hx (in8 x hy)) lo8)
  have HO8 := Lib.hid (OwnR.chg HO7.out c8 (fun x hx hy => HS7.out.get 4 0 rfl rfl (by decide) x (by simpa using hx) (in8 x hy)))
  have HS8 := Lib.hid (HS7.out.le c8.size)
  clear h8 c8 lo8 in8 HC7 HD7 HE7 HG7 HV7 HO7 HS7
  go_wp2_with fail
  refine (esetmax_any HG8.out L).mono ?_; rintro e w9 ⟨rfl, h9, c9⟩
  rw [HHL.out, if_neg (by simp)] at h9
  have lo9 : ∀ x ∈ [g], W.heap.size ≤ x := fun x hx => HG8.out.los x (by simp at hx; simp [hx])
  have in9 : ∀ x ∈ [g], x ∈ g :: F2 := fun x hx => by simp at hx; simp [hx]
  have HC := Lib.hid (HC8.out.trans c9 (fun x hx => Or.inr (lo9 x hx))); have HG := Lib.hid h9
  have HE := Lib.hid (HE8.out.chg c9 (fun x hx hy => HS8.out.get 3 2 rfl rfl (by decide) x hx (in9 x hy)) lo9)
  have HV := Lib.hid (HV8.out.chg c9 (fun x hx hy => HS8.out.get 0 2 rfl rfl (by decide) x hx (in9 x hy)) lo9)
  have HD := Lib.hid (HD8.out.chg c9 (fun x hx hy => HS8.out.get 1 2 rfl rfl (by decide) x hx (in9 x hy)) lo9)
  have HO := Lib.hid (OwnR.chg HO8.out c9 (fun x hx hy => HS8.out.get 4 2 rfl rfl (by decide) x (by simpa using hx) (in9 x hy)))
  have HS := Lib.hid (HS8.out.le c9.size)
  clear h9 c9 lo9 in9 HC8 HD8 HE8 HG8 HV8 HO8 HS8
  have hd1 := HD1.out
  clear HD1
  by_cases hlt : L < M
  · have g3 : decide ((L : Int) < (M : Int)) = true := decide_eq_true (by omega)
    rw [if_pos hlt] at hd1
    skip
    have hcd : Hp.decB M [] L 1099511627776 false E1 = ([], 3, true, M, []) := by rw [hd1]
    have HCD := Lib.hid hcd
    clear hcd hd1
    go_wp2_with fail
    refine (encode_any HE.out ra A (OwnR.sl encF_len (by decide) HO.out) (ap_hap (HS.out.get 3 4 rfl rfl (by decide)) (fun x hx => hx)) sA.out (by omega)).mono ?_; rintro e w6 ⟨r1, F1a, rfl, o1, e1, f1, c6⟩
    rw [EE1.out] at o1 e1
    simp only at o1 e1
    have HC6 := Lib.hid (HC.out.trans c6 (fun x hx => Or.inr (HE.out.los x hx))); have O1 := Lib.hid o1
    have HG6 := Lib.hid (HG.out.chg c6 (HS.out.get 2 3 rfl rfl (by decide)) HE.out.los)
    have HD6 := Lib.hid (HD.out.chg c6 (HS.out.get 1 3 rfl rfl (by decide)) HE.out.los)
    have HV6 := Lib.hid (HV.out.chg c6 (HS.out.get 0 3 rfl rfl (by decide)) HE.out.los)
    have HO6 := Lib.hid (OwnR.chg HO.out c6 (fun g hg hx => HS.out.get 4 3 rfl rfl (by decide) g (by simpa using hg) hx))
    have HS6 : Hid (Sep w6 [v :: F4, d :: F3, g :: F2, c :: F1a, ra.ownBlock.toList]) := Lib.hid (HS.out.put 3 rfl (fresh_cons f1) e1.lt c6.size)
    clear o1 e1 f1 c6 HC HE HG HD HV HO HS
    go_wp2_with fail
    refine (decode_any HD6.out r1 E1 (OwnB.bytes O1.out) (fun _ a n cap e => ⟨(own_block O1.out a n cap e).2, fun hx => DH.apart HD6.out O1.out _ hx (by subst e; simp [Value.ownBlock])⟩) (by omega)).mono ?_; rintro e w7 ⟨rx, F3a, he, ox, d7, f7, c7, a7⟩
    rw [HCD.out] at he ox d7
    simp only at he ox d7
    subst he
    have HC7 := Lib.hid (HC6.out.trans c7 (fun x hx => Or.inr (HD6.out.los x hx)))
    have HG7 := Lib.hid (HG6.out.chg c7 (HS6.out.get 2 1 rfl rfl (by decide)) HD6.out.los)
    have HV7 := Lib.hid (HV6.out.chg c7 (HS6.out.get 0 1 rfl rfl (by decide)) HD6.out.los)
    have HO7 := Lib.hid (OwnR.chg HO6.out c7 (fun g hg hx => HS6.out.get 4 1 rfl rfl (by decide) g (by simpa using hg) hx))
    have HS7 : Hid (Sep w7 [v :: F4, d :: F3a, g :: F2, c :: F1a, ra.ownBlock.toList]) := Lib.hid (HS6.out.put 1 rfl (fresh_cons f7) d7.lt c7.size)
    clear ox d7 f7 c7 a7 HC6 HG6 HD6 HV6 HO6 HS6 O1
    go_wp2_with fail
    refine (encode_any HG7.out ra A (OwnR.sl encF_len (by decide) HO7.out) (ap_hap (HS7.out.get 2 4 rfl rfl (by decide)) (fun x hx => hx)) sA.out (by omega)).mono ?_; rintro e w8 ⟨r2, F2a, rfl, o2, e2, f2, c8⟩
    rw [EE2.out] at o2 e2
    simp only at o2 e2
    have HC8 := Lib.hid (HC7.out.trans c8 (fun x hx => Or.inr (HG7.out.los x hx))); have O2 := Lib.hid o2
    have HV8 := Lib.hid (HV7.out.chg c8 (HS7.out.get 0 2 rfl rfl (by decide)) HG7.out.los)
    have HO8 := Lib.hid (OwnR.chg HO7.out c8 (fun g hg hx => HS7.out.get 4 2 rfl rfl (by decide) g (by simpa using hg) hx))
    have HS8 : Hid (Sep w8 [v :: F4, d :: F3a, g :: F2a, c :: F1a, ra.ownBlock.toList]) := Lib.hid (HS7.out.put 2 rfl (fresh_cons f2) e2.lt c8.size)
    clear o2 e2 f2 c8 HC7 HG7 HV7 HO7 HS7
    go_wp2_with fail
    refine (decode_any HV8.out r2 E2 (OwnB.bytes O2.out) (fun _ a n cap e => ⟨(own_block O2.out a n cap e).2, fun hx => DH.apart HV8.out O2.out _ hx (by subst e; simp [Value.ownBlock])⟩) (by omega)).mono ?_; rintro e w9 ⟨ry, F4a, he, oy, d9, f9, c9, a9⟩
    rw [HV1.out] at he oy d9
    simp only at he oy d9
    subst he
    have HC9 := Lib.hid (HC8.out.trans c9 (fun x hx => Or.inr (HV8.out.los x hx))); have HV9 := Lib.hid d9; have OY9 := Lib.hid oy
    have HO9 := Lib.hid (OwnR.chg HO8.out c9 (fun g hg hx => HS8.out.get 4 0 rfl rfl (by decide) g (by simpa using hg) hx))
    clear oy d9 f9 c9 a9 HC8 HV8 HO8 HS8 O2
    go_wp2_with fail
    refine (same_fds (OwnR.sl encF_len (by decide) OY9.out) (OwnR.sl encF_len (by decide) HO9.out)).mono ?_; rintro e w10 ⟨rfl, c10⟩
    have HC10 := Lib.hid (HC9.out.trans' c10); have HV10 := Lib.hid (HV9.out.chg0 c10)
    clear c10 HC9 HV9 HO9 OY9
    go_wp2_with fail
    refine (decmax_eq HV10.out).mono ?_; rintro e w11 ⟨rfl, rfl⟩
    go_wp2_with fail
    refine (newenc_any (W := W) 0 w10 (by exact HC10.out.below_nil)).mono ?_; rintro e w12 ⟨a, Fa, pa, rfl, hA2, c12, hn12⟩
    rw [show hgt 0 = 0 from rfl] at hA2
    have c012 := HC10.out.trans' c12
    go_wp2_with fail
    refine (newdec_any (W := W) 0 1099511627776 w12 (by exact c012.below_nil)).mono ?_; rintro e w13 ⟨b, Fb, pb, rfl, hB2, c13, hn13⟩
    rw [show hgt 0 = 0 from rfl] at hB2
    have HC13 := Lib.hid (c012.trans' c13)
    have HS13 : Hid (Sep w13 [b :: Fb, a :: Fa]) := Lib.hid (((Sep.nil w10).add hn12 hA2.lt c12.size).add hn13 hB2.lt c13.size)
    have HA13 := Lib.hid (hA2.chg0 c13); have HB13 := Lib.hid hB2
    clear hA2 hB2 c12 c13 c012 hn12 hn13 HC10 HV10
    go_wp2_with fail
    refine (dsetmax_any HB13.out L).mono ?_; rintro e w14 ⟨rfl, hb14, c14⟩
    rw [HHL.out] at hb14
    have HC14 := Lib.hid (HC13.out.trans c14 (fun x hx => Or.inr (HB13.out.los x (by simp at hx; simp [hx]))))
    have HA14 := Lib.hid (HA13.out.chg c14 (fun x hx hy => HS13.out.get 1 0 rfl rfl (by decide) x hx (by simp at hy; simp [hy])) (fun x hx => HB13.out.los x (by simp at hx; simp [hx])))
    have HB14 := Lib.hid hb14
    have HS14 := Lib.hid (HS13.out.le c14.size)
    clear hb14 c14 HC13 HA13 HB13 HS13
    go_wp2_with fail
    refine (esetmax_any HA14.out ((L : Int) + 1)).mono ?_; rintro e w15 ⟨rfl, ha15, c15⟩
    rw [HHL1.out, if_neg (by simp)] at ha15
    have HC15 := Lib.hid (HC14.out.trans c15 (fun x hx => Or.inr (HA14.out.los x (by simp at hx; simp [hx]))))
    have HB15 := Lib.hid (HB14.out.chg c15 (fun x hx hy => HS14.out.get 0 1 rfl rfl (by decide) x hx (by simp at hy; simp [hy])) (fun x hx => HA14.out.los x (by simp at hx; simp [hx])))
    have HA15 := Lib.hid ha15
    have HS15 := Lib.hid (HS14.out.le c15.size)
    clear ha15 c15 HC14 HA14 HB14 HS14
    go_wp2_with fail
    refine (encode_any HA15.out (.slice none 0 0) [] (FdsOf.none' _ _ _ (by simp [maxLen])) (fun a n cap e => by cases e) (by simp) (by simp)).mono ?_; rintro e w16 ⟨r3, Faa, rfl, o3, e3, f3, c16⟩
    rw [EE3.out] at o3
    have HC16 := Lib.hid (HC15.out.trans c16 (fun x hx => Or.inr (HA15.out.los x hx))); have O3 := Lib.hid o3
    have HB16 := Lib.hid (HB15.out.chg c16 (HS15.out.get 0 1 rfl rfl (by decide)) HA15.out.los)
    clear o3 e3 f3 c16 HC15 HA15 HB15 HS15
    go_wp2_with fail
    refine (decode_any HB16.out r3 E3 (OwnB.bytes O3.out) (fun _ a n cap e => ⟨(own_block O3.out a n cap e).2, fun hx => DH.apart HB16.out O3.out _ hx (by subst e; simp [Value.ownBlock])⟩) (by omega)).mono ?_; rintro e w17 ⟨rz, Fba, he, oz, d17, f17, c17, a17⟩
    rw [HV3.out] at he
    simp only at he
    subst he
    have HC17 := Lib.hid (HC16.out.trans c17 (fun x hx => Or.inr (HB16.out.los x hx)))
    clear oz d17 f17 c17 a17 HC16 HB16 O3
    go_wp2_with fail
    refine (newdec_any (W := W) M 1099511627776 w17 (by exact HC17.out.below_nil)).mono ?_; rintro e w18 ⟨u, Fu, pu, rfl, hU, c18, hn18⟩
    rw [HHM.out] at hU
    have HC18 := Lib.hid (HC17.out.trans' c18); have HU18 := Lib.hid hU
    clear hU c18 HC17
    go_wp2_with fail
    refine (decode_any (HU18.out.chg0 ((Chg.refl _).alloc _)) _ [130, 32] (lit_two w18 130 32) (fun _ a n cap e => by cases e; exact ⟨by simp, fun hx => Nat.lt_irrefl _ (HU18.out.lt _ hx)⟩) (by decide)).mono ?_; rintro e w19 ⟨rq, Fq, he, oq, d19, f19, c19, a19⟩
    rw [HV4.out] at he
    simp only at he
    subst he
    have HC19 := Lib.hid ((HC18.out.alloc _).trans c19 (fun x hx => Or.inr (HU18.out.los x hx)))
    go_wp2_with fail
    go_ret
    exact ⟨rfl, HC19.out.below_nil⟩
  · have g3 : decide ((L : Int) < (M : Int)) = false := decide_eq_false (by omega)
    rw [if_neg hlt] at hd1
    skip
    have hcd : Hp.decB M [] L 1099511627776 false E1 = (A, 0, false, M, es1) := by rw [hd1]
    have HCD := Lib.hid hcd
    clear hcd hd1
    go_wp2_with fail
    refine (encode_any HE.out ra A (OwnR.sl encF_len (by decide) HO.out) (ap_hap (HS.out.get 3 4 rfl rfl (by decide)) (fun x hx => hx)) sA.out (by omega)).mono ?_; rintro e w6 ⟨r1, F1a, rfl, o1, e1, f1, c6⟩
    rw [EE1.out] at o1 e1
    simp only at o1 e1
    have HC6 := Lib.hid (HC.out.trans c6 (fun x hx => Or.inr (HE.out.los x hx))); have O1 := Lib.hid o1
    have HG6 := Lib.hid (HG.out.chg c6 (HS.out.get 2 3 rfl rfl (by decide)) HE.out.los)
    have HD6 := Lib.hid (HD.out.chg c6 (HS.out.get 1 3 rfl rfl (by decide)) HE.out.los)
    have HV6 := Lib.hid (HV.out.chg c6 (HS.out.get 0 3 rfl rfl (by decide)) HE.out.los)
    have HO6 := Lib.hid (OwnR.chg HO.out c6 (fun g hg hx => HS.out.get 4 3 rfl rfl (by decide) g (by simpa using hg) hx))
    have HS6 : Hid (Sep w6 [v :: F4, d :: F3, g :: F2, c :: F1a, ra.ownBlock.toList]) := Lib.hid (HS.out.put 3 rfl (fresh_cons f1) e1.lt c6.size)
    clear o1 e1 f1 c6 HC HE HG HD HV HO HS
    go_wp2_with fail
    refine (decode_any HD6.out r1 E1 (OwnB.bytes O1.out) (fun _ a n cap e => ⟨(own_block O1.out a n cap e).2, fun hx => DH.apart HD6.out O1.out _ hx (by subst e; simp [Value.ownBlock])⟩) (by omega)).mono ?_; rintro e w7 ⟨rx, F3a, he, ox, d7, f7, c7, a7⟩
    rw [HCD.out] at he ox d7
    simp only at he ox d7
    subst he
    have HC7 := Lib.hid (HC6.out.trans c7 (fun x hx => Or.inr (HD6.out.los x hx)))
    have HG7 := Lib.hid (HG6.out.chg c7 (HS6.out.get 2 1 rfl rfl (by decide)) HD6.out.los)
    have HV7 := Lib.hid (HV6.out.chg c7 (HS6.out.get 0 1 rfl rfl (by decide)) HD6.out.los)
    have HO7 := Lib.hid (OwnR.chg HO6.out c7 (fun g hg hx => HS6.out.get 4 1 rfl rfl (by decide) g (by simpa using hg) hx))
    have HS7 : Hid (Sep w7 [v :: F4, d :: F3a, g :: F2, c :: F1a, ra.ownBlock.toList]) := Lib.hid (HS6.out.put 1 rfl (fresh_cons f7) d7.lt c7.size)
    clear ox d7 f7 c7 a7 HC6 HG6 HD6 HV6 HO6 HS6 O1
    go_wp2_with fail
    refine (encode_any HG7.out ra A (OwnR.sl encF_len (by decide) HO7.out) (ap_hap (HS7.out.get 2 4 rfl rfl (by decide)) (fun x hx => hx)) sA.out (by omega)).mono ?_; rintro e w8 ⟨r2, F2a, rfl, o2, e2, f2, c8⟩
    rw [EE2.out] at o2 e2
    simp only at o2 e2
    have HC8 := Lib.hid (HC7.out.trans c8 (fun x hx => Or.inr (HG7.out.los x hx))); have O2 := Lib.hid o2
    have HV8 := Lib.hid (HV7.out.chg c8 (HS7.out.get 0 2 rfl rfl (by decide)) HG7.out.los)
    have HO8 := Lib.hid (OwnR.chg HO7.out c8 (fun g hg hx => HS7.out.get 4 2 rfl rfl (by decide) g (by simpa using hg) hx))
    have HS8 : Hid (Sep w8 [v :: F4, d :: F3a, g :: F2a, c :: F1a, ra.ownBlock.toList]) := Lib.hid (HS7.out.put 2 rfl (fresh_cons f2) e2.lt c8.size)
    clear o2 e2 f2 c8 HC7 HG7 HV7 HO7 HS7
    go_wp2_with fail
    refine (decode_any HV8.out r2 E2 (OwnB.bytes O2.out) (fun _ a n cap e => ⟨(own_block O2.out a n cap e).2, fun hx => DH.apart HV8.out O2.out _ hx (by subst e; simp [Value.ownBlock])⟩) (by omega)).mono ?_; rintro e w9 ⟨ry, F4a, he, oy, d9, f9, c9, a9⟩
    rw [HV1.out] at he oy d9
    simp only at he oy d9
    subst he
    have HC9 := Lib.hid (HC8.out.trans c9 (fun x hx => Or.inr (HV8.out.los x hx))); have HV9 := Lib.hid d9; have OY9 := Lib.hid oy
    have HO9 := Lib.hid (OwnR.chg HO8.out c9 (fun g hg hx => HS8.out.get 4 0 rfl rfl (by decide) g (by simpa using hg) hx))
    clear oy d9 f9 c9 a9 HC8 HV8 HO8 HS8 O2
    go_wp2_with fail
    refine (same_fds (OwnR.sl encF_len (by decide) OY9.out) (OwnR.sl encF_len (by decide) HO9.out)).mono ?_; rintro e w10 ⟨rfl, c10⟩
    have HC10 := Lib.hid (HC9.out.trans' c10); have HV10 := Lib.hid (HV9.out.chg0 c10)
    clear c10 HC9 HV9 HO9 OY9
    go_wp2_with fail
    refine (decmax_eq HV10.out).mono ?_; rintro e w11 ⟨rfl, rfl⟩
    go_wp2_with fail
    refine (newenc_any (W := W) 0 w10 (by exact HC10.out.below_nil)).mono ?_; rintro e w12 ⟨a, Fa, pa, rfl, hA2, c12, hn12⟩
    rw [show hgt 0 = 0 from rfl] at hA2
    have c012 := HC10.out.trans' c12
    go_wp2_with fail
    refine (newdec_any (W := W) 0 1099511627776 w12 (by exact c012.below_nil)).mono ?_; rintro e w13 ⟨b, Fb, pb, rfl, hB2, c13, hn13⟩
    rw [show hgt 0 = 0 from rfl] at hB2
    have HC13 := Lib.hid (c012.trans' c13)
    have HS13 : Hid (Sep w13 [b :: Fb, a :: Fa]) := Lib.hid (((Sep.nil w10).add hn12 hA2.lt c12.size).add hn13 hB2.lt c13.size)
    have HA13 := Lib.hid (hA2.chg0 c13); have HB13 := Lib.hid hB2
    clear hA2 hB2 c12 c13 c012 hn12 hn13 HC10 HV10
    go_wp2_with fail
    refine (dsetmax_any HB13.out L).mono ?_; rintro e w14 ⟨rfl, hb14, c14⟩
    rw [HHL.out] at hb14
    have HC14 := Lib.hid (HC13.out.trans c14 (fun x hx => Or.inr (HB13.out.los x (by simp at hx; simp [hx]))))
    have HA14 := Lib.hid (HA13.out.chg c14 (fun x hx hy => HS13.out.get 1 0 rfl rfl (by decide) x hx (by simp at hy; simp [hy])) (fun x hx => HB13.out.los x (by simp at hx; simp [hx])))
    have HB14 := Lib.hid hb14
    have HS14 := Lib.hid (HS13.out.le c14.size)
    clear hb14 c14 HC13 HA13 HB13 HS13
    go_wp2_with fail
    refine (esetmax_any HA14.out ((L : Int) + 1)).mono ?_; rintro e w15 ⟨rfl, ha15, c15⟩
    rw [HHL1.out, if_neg (by simp)] at ha15
    have HC15 := Lib.hid (HC14.out.trans c15 (fun x hx => Or.inr (HA14.out.los x (by simp at hx; simp [hx]))))
    have HB15 := Lib.hid (HB14.out.chg c15 (fun x hx hy => HS14.out.get 0 1 rfl rfl (by decide) x hx (by simp at hy; simp [hy])) (fun x hx => HA14.out.los x (by simp at hx; simp [hx])))
    have HA15 := Lib.hid ha15
    have HS15 := Lib.hid (HS14.out.le c15.size)
    clear ha15 c15 HC14 HA14 HB14 HS14
    go_wp2_with fail
    refine (encode_any HA15.out (.slice none 0 0) [] (FdsOf.none' _ _ _ (by simp [maxLen])) (fun a n cap e => by cases e) (by simp) (by simp)).mono ?_; rintro e w16 ⟨r3, Faa, rfl, o3, e3, f3, c16⟩
    rw [EE3.out] at o3
    have HC16 := Lib.hid (HC15.out.trans c16 (fun x hx => Or.inr (HA15.out.los x hx))); have O3 := Lib.hid o3
    have HB16 := Lib.hid (HB15.out.chg c16 (HS15.out.get 0 1 rfl rfl (by decide)) HA15.out.los)
    clear o3 e3 f3 c16 HC15 HA15 HB15 HS15
    go_wp2_with fail
    refine (decode_any HB16.out r3 E3 (OwnB.bytes O3.out) (fun _ a n cap e => ⟨(own_block O3.out a n cap e).2, fun hx => DH.apart HB16.out O3.out _ hx (by subst e; simp [Value.ownBlock])⟩) (by omega)).mono ?_; rintro e w17 ⟨rz, Fba, he, oz, d17, f17, c17, a17⟩
    rw [HV3.out] at he
    simp only at he
    subst he
    have HC17 := Lib.hid (HC16.out.trans c17 (fun x hx => Or.inr (HB16.out.los x hx)))
    clear oz d17 f17 c17 a17 HC16 HB16 O3
    go_wp2_with fail
    refine (newdec_any (W := W) M 1099511627776 w17 (by exact HC17.out.below_nil)).mono ?_; rintro e w18 ⟨u, Fu, pu, rfl, hU, c18, hn18⟩
    rw [HHM.out] at hU
    have HC18 := Lib.hid (HC17.out.trans' c18); have HU18 := Lib.hid hU
    clear hU c18 HC17
    go_wp2_with fail
    refine (decode_any (HU18.out.chg0 ((Chg.refl _).alloc _)) _ [130, 32] (lit_two w18 130 32) (fun _ a n cap e => by cases e; exact ⟨by simp, fun hx => Nat.lt_irrefl _ (HU18.out.lt _ hx)⟩) (by decide)).mono ?_; rintro e w19 ⟨rq, Fq, he, oq, d19, f19, c19, a19⟩
    rw [HV4.out] at he
    simp only at he
    subst he
    have HC19 := Lib.hid ((HC18.out.alloc _).trans c19 (fun x hx => Or.inr (HU18.out.los x hx)))
    go_wp2_with fail
    go_ret
    exact ⟨rfl, HC19.out.below_nil⟩

/-! ### The row's step -/
theorem own : ownKnob Try.prog.godebug = none := by kernel_rfl
theorem laid : laidOutB Try.prog = true := by kernel_rfl

set_option maxRecDepth 100000 in
theorem lifted (os : Os) (started : os.Started) (H : Type) (enc : TypeId × Value → H) :
    ReturnsInHanded {} Try.checked os 9 .any (Rows.hpackLimitsSpec.pre6 enc Try.prog Try.f9 Rows.hpackLimitsRow.domain false) (Rows.hpackLimitsSpec.post enc Try.prog Try.f9 false true false false) := by
  refine lift_law (C := Try.checked) (tb := 4) own started (by kernel_rfl) Try.func9
    (ChangeSpec.witness6 (enc := enc) (C := Try.checked) false ⟨#[], #[.int .i64 0, .int .i64 0, .slice none 0 0], []⟩ 8 (by kernel_rfl) (by kernel_rfl) (by kernel_rfl) (by kernel_rfl))
    laid (by rw [Try.params9]; intro t ht; simp only [List.mem_cons, List.not_mem_nil, or_false] at ht; rcases ht with rfl | rfl | rfl <;> exact ⟨by kernel_rfl, of_decide_eq_true (by kernel_rfl)⟩) (by kernel_rfl) Try.underlying4 rfl
    (fun ds h => by rw [Try.params9] at h; match ds, h with | [d0, d1, d2], _ => rfl) ?_
  intro W base args ds before hval hA hlt hsz
  rw [Try.params9] at hA hval
  try rw [Try.params9] at hsz
  have hlt0 := hlt
  obtain ⟨v0, vs0, d0, ds0, p0, q0, hargs, rfl, rfl, h0, r0⟩ := trodAll_cons hA
  obtain ⟨v1, vs1, d1, ds1, p1, q1, rfl, rfl, rfl, h1, r1⟩ := trodAll_cons r0
  obtain ⟨v2, vs2, d2, ds2, p2, q2, rfl, rfl, rfl, h2, r2⟩ := trodAll_cons r1
  obtain ⟨rfl, rfl, rfl⟩ := trodAll_nil r2
  obtain rfl : args = #[v0, v1, v2] := by cases args; simp_all
  have l0 : ∀ p ∈ p0, p.block < W.heap.size := fun x hx => hlt x (by simp [hx])
  have l1 : ∀ p ∈ p1, p.block < W.heap.size := fun x hx => hlt x (by simp [hx])
  have l2 : ∀ p ∈ p2, p.block < W.heap.size := fun x hx => hlt x (by simp [hx])
  obtain ⟨a0, rfl, rfl, rfl, wa0⟩ := open_int Try.underlying3 (hval 0 3 v0 rfl rfl) h0
  obtain ⟨a1, rfl, rfl, rfl, wa1⟩ := open_int Try.underlying3 (hval 1 3 v1 rfl rfl) h1
  obtain ⟨l1, m1, _, _, s1⟩ := open_slice_w 3 Go.Proofs.Ytmoeioaahampaaa.Tb.encF Go.Proofs.Ytmoeioaahampaaa.Tb.Fd.In Try.underlying26 (by kernel_rfl) (by omega) (hval 2 26 v2 rfl rfl) Go.Proofs.Ytmoeioaahampaaa.Tb.decF h2 l2 (small_of hsz (j := 2) rfl rfl)
  exact walk a0 a1 v2 l1 W m1 s1

theorem over : Rows.hpackLimitsRow.holds Try.pinned (OpenSpec.ofChange Rows.hpackLimitsSpec) :=
  OpenClaim.holds_of_wide 9 Try.f9 rfl rfl rfl rfl rfl rfl rfl ⟨rfl, rfl, rfl, rfl, rfl⟩ rfl rfl rfl rfl rfl (by kernel_rfl) Try.func9 (by kernel_rfl)
    (of_decide_eq_true (by kernel_rfl)) (by unfold Func.isWrapper; first | (rw [if_pos (by decide +kernel)]; kernel_rfl) | (rw [if_neg (by decide +kernel)]; exact ⟨rfl, rfl⟩))
    (fun os started H enc _ => lifted os started H enc)

/-- The statement. -/
theorem proved : Rows.HpackLimitsSaid :=
  over
#print axioms proved

end Go.Proofs.Ytmoeioaahampaaa.HLimits
