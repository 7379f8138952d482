/-
  HpackJoins: two lists are written as both in one are: any Max, any two lists of fields.
-/
import Derived.Test.YtmoeioaahampaaaHdM
import Derived.Test.YtmoeioaahampaaaRTab2
namespace Go.Proofs.Ytmoeioaahampaaa.HJoins
open Go.ChangeShapes Go.WideShapes Go.ChangeAt Go.RowKit
open Go.Proofs.Ytmoeioaahampaaa.B Go.Proofs.Ytmoeioaahampaaa.Hi Go.Proofs.Ytmoeioaahampaaa.Tb Go.Proofs.Ytmoeioaahampaaa.Tb.Hp
open Go.Proofs.Ytmoeioaahampaaa.Hf (bx)
set_option linter.unusedVariables false
set_option linter.unusedSimpArgs false

abbrev Fld := Go.Proofs.Ytmoeioaahampaaa.Tb.Fd
theorem enc0 (m : Nat) (es l : List Fld) (a b : Nat) : Hp.encB m es a b false l = ((encL m es l).1, m, (encL m es l).2) := by
  show ([] ++ (encL m es l).1, m, (encL m es l).2) = _
  rfl
set_option maxRecDepth 100000 in
set_option maxHeartbeats 8000000 in
theorem walk (max : Int) (va : Value) (la : List Fld) (vb : Value) (lb : List Fld) (W : World) (ia : ∀ f ∈ la, f.In) (ha : FdsOf W va la) (ib : ∀ f ∈ lb, f.In) (hb : FdsOf W vb lb) :
    Calls Try.prog 4 #[.int .i64 max, va, vb] W fun e w' => e = .returned (.bool true) ∧ Below W.heap.size W w' := by
  have HA := Lib.hid ha; have HB := Lib.hid hb; have IA := Lib.hid ia; have IB := Lib.hid ib
  clear ha hb ia ib
  obtain ⟨A, hA⟩ : ∃ A, A = smallL la := ⟨_, rfl⟩
  obtain ⟨B, hB⟩ : ∃ B, B = smallL lb := ⟨_, rfl⟩
  have sA : Hid (∀ f ∈ A, f.n.size ≤ 100000 ∧ f.v.size ≤ 100000) := Lib.hid (fun f hf => by rw [hA] at hf; have := smallL_sz f hf; omega)
  have sB : Hid (∀ f ∈ B, f.n.size ≤ 100000 ∧ f.v.size ≤ 100000) := Lib.hid (fun f hf => by rw [hB] at hf; have := smallL_sz f hf; omega)
  have lA : A.length ≤ 20 := by rw [hA]; exact smallL_len _
  have lB : B.length ≤ 20 := by rw [hB]; exact smallL_len _
  have EA := Lib.hid hA; have EB := Lib.hid hB
  clear hA hB
  obtain ⟨m, hm⟩ : ∃ m, m = hgt max := ⟨_, rfl⟩
  have HM := Lib.hid hm
  clear hm
  go_enter Try.func4, Try.ntmps4
  go_wp2_with fail
  refine (shown_any W).mono ?_; rintro e w1 ⟨rfl, c1⟩
  go_wp2_with fail
  refine (newenc_any (W := W) max w1 (by exact c1.below_nil)).mono ?_; rintro e w2 ⟨c, F1, p1, rfl, hE, c2, hn1⟩
  rw [← HM.out] at hE
  have c02 := c1.trans' c2
  go_wp2_with fail
  refine (newenc_any (W := W) max w2 (by exact c02.below_nil)).mono ?_; rintro e w3 ⟨d, F2, p2, rfl, hD, c3, hn2⟩
  rw [← HM.out] at hD
  have c03 := c02.trans' c3
  have hs3 := c03.size
  have hAp : Ap (c :: F1) (d :: F2) := Ap.new hE.lt hn2
  have HC3 := Lib.hid c03; have HE3 := Lib.hid (hE.chg0 c3); have HD3 := Lib.hid hD; have HAP := Lib.hid hAp
  clear hE hD c1 c2 c3 c02 c03 hAp hn1 hn2
  go_wp2_with fail
  refine (small_any (HA.out.chg0 HC3.out) IA.out).mono ?_; rintro e w4 ⟨ra, rfl, oa, c4⟩
  rw [← EA.out] at oa
  have HC4 := Lib.hid (HC3.out.trans' c4); have HE4 := Lib.hid (HE3.out.chg0 c4); have HD4 := Lib.hid (HD3.out.chg0 c4); have OA4 := Lib.hid oa
  have hE3 : Hid (∀ x ∈ c :: F1, x < w3.heap.size) := Lib.hid HE3.out.lt
  have hD3 : Hid (∀ x ∈ d :: F2, x < w3.heap.size) := Lib.hid HD3.out.lt
  have hs4 := c4.size
  clear oa c4 HC3 HE3 HD3
  go_wp2_with fail
  refine (small_any (HB.out.chg0 HC4.out) IB.out).mono ?_; rintro e w5 ⟨rb, rfl, ob, c5⟩
  rw [← EB.out] at ob
  have HC5 := Lib.hid (HC4.out.trans' c5); have HE5 := Lib.hid (HE4.out.chg0 c5); have HD5 := Lib.hid (HD4.out.chg0 c5); have OA5 := Lib.hid (OwnR.chg0 OA4.out c5); have OB5 := Lib.hid ob
  have hs5 := c5.size
  have X5 : Hid (Ap (c :: F1) (ra.ownBlock.toList ++ rb.ownBlock.toList ++ (d :: F2))) := Lib.hid (fun x hx hy => by
    have h1 := hE3.out x hx
    rcases List.mem_append.1 hy with h | h
    · rcases List.mem_append.1 h with h | h
      · have := OwnR.lo OA4.out x h; omega
      · have := OwnR.lo ob x h; omega
    · exact HAP.out x hx h)
  have Y5 : Hid (∀ x ∈ ra.ownBlock.toList ++ rb.ownBlock.toList ++ (d :: F2), x < w5.heap.size) := Lib.hid (fun x hy => by
    rcases List.mem_append.1 hy with h | h
    · rcases List.mem_append.1 h with h | h
      · have := OwnR.lt OA4.out x h; omega
      · exact OwnR.lt ob x h
    · have := hD3.out x h; omega)
  clear ob c5 HC4 HE4 HD4 OA4
  go_wp2_with fail
  refine (encode_any HE5.out ra A (OwnR.sl encF_len (by decide) OA5.out) (ap_hap X5.out (fun x hx => List.mem_append_left _ (List.mem_append_left _ hx))) sA.out (by omega)).mono ?_; rintro e w6 ⟨r1, F1a, rfl, o1, e1, f1, c6⟩
  rw [enc0] at o1 e1
  obtain ⟨P, hP⟩ : ∃ P, P = encL m [] A := ⟨_, rfl⟩
  rw [← hP] at o1 e1
  obtain ⟨p, pe⟩ := P
  simp only at o1 e1
  have k1 := BytesOf.str (OwnB.bytes o1)
  have hpl : p.length ≤ 20 * 200018 := by
    have := encL_le m A [] 200000 (fun f hf => by have := sA.out f hf; omega)
    rw [← hP] at this
    exact Nat.le_trans this (Nat.mul_le_mul_right _ lA)
  obtain ⟨sp, hsp⟩ : ∃ sp : ByteArray, sp = ⟨p.toArray⟩ := ⟨_, rfl⟩
  have hspl : sp.size ≤ 10000000 := by rw [hsp]; show p.toArray.size ≤ _; rw [List.size_toArray]; omega
  rw [← hsp] at k1
  have SP := Lib.hid hsp
  have HC6 := Lib.hid (HC5.out.trans c6 (fun x hx => Or.inr (HE5.out.los x hx))); have HE6 := Lib.hid e1
  have HD6 := Lib.hid (HD5.out.chg c6 (fun x hx hy => X5.out x hy (List.mem_append_right _ hx)) HE5.out.los)
  have OA6 := Lib.hid (OwnR.chg OA5.out c6 (fun g hg hx => X5.out g hx (List.mem_append_left _ (List.mem_append_left _ (by simpa using hg)))))
  have OB6 := Lib.hid (OwnR.chg OB5.out c6 (fun g hg hx => X5.out g hx (List.mem_append_left _ (List.mem_append_right _ (by simpa using hg)))))
  have X6 := Lib.hid (Ap.step X5.out f1 Y5.out)
  have hs6 := c6.size
  have Y6 : Hid (∀ x ∈ ra.ownBlock.toList ++ rb.ownBlock.toList ++ (d :: F2), x < w6.heap.size) := Lib.hid (fun x hx => Nat.lt_of_lt_of_le (Y5.out x hx) hs6)
  have PP := Lib.hid hP
  clear hsp hpl hP o1 e1 f1 c6 HC5 HE5 HD5 OA5 OB5 X5 Y5
  go_wp2_with fail
  refine (encode_any HE6.out rb B (OwnR.sl encF_len (by decide) OB6.out) (ap_hap X6.out (fun x hx => List.mem_append_left _ (List.mem_append_right _ hx))) sB.out (by omega)).mono ?_; rintro e w7 ⟨r2, F1b, rfl, o2, e2, f2, c7⟩
  rw [enc0] at o2 e2
  obtain ⟨Q, hQ⟩ : ∃ Q, Q = encL m pe B := ⟨_, rfl⟩
  rw [← hQ] at o2 e2
  obtain ⟨q, qe⟩ := Q
  simp only at o2 e2
  have k2 := BytesOf.str (OwnB.bytes o2)
  have hql : q.length ≤ 20 * 200018 := by
    have := encL_le m B pe 200000 (fun f hf => by have := sB.out f hf; omega)
    rw [← hQ] at this
    exact Nat.le_trans this (Nat.mul_le_mul_right _ lB)
  obtain ⟨sq, hsq⟩ : ∃ sq : ByteArray, sq = ⟨q.toArray⟩ := ⟨_, rfl⟩
  have hsql : sq.size ≤ 10000000 := by rw [hsq]; show q.toArray.size ≤ _; rw [List.size_toArray]; omega
  rw [← hsq] at k2
  have SQ := Lib.hid hsq
  have HC7 := Lib.hid (HC6.out.trans c7 (fun x hx => Or.inr (HE6.out.los x hx))); have HE7 := Lib.hid e2
  have HD7 := Lib.hid (HD6.out.chg c7 (fun x hx hy => X6.out x hy (List.mem_append_right _ hx)) HE6.out.los)
  have OA7 := Lib.hid (OwnR.chg OA6.out c7 (fun g hg hx => X6.out g hx (List.mem_append_left _ (List.mem_append_left _ (by simpa using hg)))))
  have OB7 := Lib.hid (OwnR.chg OB6.out c7 (fun g hg hx => X6.out g hx (List.mem_append_left _ (List.mem_append_right _ (by simpa using hg)))))
  have X7 := Lib.hid (Ap.step X6.out f2 Y6.out)
  have hs7 := c7.size
  have QQ := Lib.hid hQ
  have hJ : encL m [] (A ++ B) = (p ++ q, qe) := by rw [encL_append, ← PP.out, ← hQ]
  have HJ := Lib.hid hJ
  clear hsq hql hJ hQ o2 e2 f2 c7 HC6 HE6 HD6 OA6 OB6 X6 Y6
  go_wp2_with (at_builtin; refine app_row encF_len encF_one 26 Try.underlying26 infoF (by decide) (by omega) rfl _ _ rfl w7.heap.size (.slice (some ⟨w7.heap.size, 0, none⟩) 0 0) [] rfl (Go.Proofs.Ytmoeioaahampaaa.Tb.OwnR.none (Nat.le_refl _)) _ A rfl (SliceOf.chg0 (OwnR.sl encF_len (by decide) OA7.out) ((Chg.refl w7).alloc _)) (by simp [maxLen]; omega) (by simp; omega) (by simp) ?_)
  intro v8 w8 o8 c8 f8
  have hs8 : w7.heap.size ≤ w8.heap.size := by have := c8.size; simp at this; omega
  have HC8 : Hid (Chg [] W w8) := Lib.hid ((HC7.out.alloc _).trans c8 (fun x hx => Or.inr (by simp [Value.ownBlock] at hx; have := HC7.out.size; omega)))
  have C78 : Chg [] w7 w8 := ((Chg.refl w7).alloc _).trans c8 (fun x hx => Or.inr (by simp [Value.ownBlock] at hx; omega))
  have HE8 := Lib.hid (HE7.out.chg0 C78); have HD8 := Lib.hid (HD7.out.chg0 C78); have OB8 := Lib.hid (OwnR.chg0 OB7.out C78)
  have O8 : Hid (OwnF w8 w7.heap.size v8 A) := Lib.hid (by simpa using o8)
  have hE8 : Hid (∀ x ∈ c :: F1b, x < w7.heap.size) := Lib.hid HE7.out.lt
  have hD8 : Hid (∀ x ∈ d :: F2, x < w7.heap.size) := Lib.hid HD7.out.lt
  clear o8 c8 f8 C78 HC7 HE7 HD7 OB7 OA7
  go_wp2_with (at_builtin; refine app_row encF_len encF_one 26 Try.underlying26 infoF (by decide) (by omega) rfl _ _ rfl w7.heap.size v8 A rfl O8.out _ B rfl (OwnR.sl encF_len (by decide) OB8.out) (by unfold maxLen; omega) (by omega) (by omega) ?_)
  intro v9 w9 o9 c9 f9
  have hs9 := c9.size
  have HC9 := Lib.hid (HC8.out.trans c9 (fun x hx => Or.inr (by have := OwnR.lo O8.out x hx; have := HC8.out.size; omega)))
  have HE9 := Lib.hid (HE8.out.chg c9 (fun x hx hy => by have := hE8.out x hx; have := OwnR.lo O8.out x hy; omega) (fun x hx => by have := OwnR.lo O8.out x hx; omega))
  have HD9 := Lib.hid (HD8.out.chg c9 (fun x hx hy => by have := hD8.out x hx; have := OwnR.lo O8.out x hy; omega) (fun x hx => by have := OwnR.lo O8.out x hx; omega))
  have O9 := Lib.hid o9
  clear o9 c9 f9 HC8 HE8 HD8 OB8 O8
  have X9 : Hid (Ap (c :: F1b) (d :: F2)) := Lib.hid (fun x hx hy => X7.out x hx (List.mem_append_right _ hy))
  clear X7
  have sAB : Hid (∀ f ∈ A ++ B, f.n.size ≤ 100000 ∧ f.v.size ≤ 100000) := Lib.hid (fun f hf => (List.mem_append.1 hf).elim (sA.out f) (sB.out f))
  go_wp2_with fail
  refine (encode_any HD9.out v9 (A ++ B) (OwnR.sl encF_len (by decide) O9.out) (fun a n cap e hx => by have := hD8.out _ hx; have := OwnR.lo O9.out a.block (by subst e; simp [Value.ownBlock]); omega) sAB.out (by rw [List.length_append]; omega)).mono ?_; rintro e w10 ⟨r3, F2a, rfl, o3, e3, f3, c10⟩
  rw [enc0, HJ.out] at o3 e3
  simp only at o3 e3
  have k3 := BytesOf.str (OwnB.bytes o3)
  have HC10 := Lib.hid (HC9.out.trans c10 (fun x hx => Or.inr (HD9.out.los x hx))); have HD10 := Lib.hid e3
  have HE10 := Lib.hid (HE9.out.chg c10 (fun x hx hy => X9.out x hx hy) HD9.out.los)
  clear o3 e3 f3 c10 HC9 HE9 HD9 O9
  obtain ⟨sz, hsz⟩ : ∃ sz : ByteArray, sz = ⟨(p ++ q).toArray⟩ := ⟨_, rfl⟩
  rw [← hsz] at k3
  have hcat : sp ++ sq = sz := by
    rw [SP.out, SQ.out, hsz]
    apply ByteArray.ext
    simp
  have hsum : (sp ++ sq).size = sp.size + sq.size := ByteArray.size_append
  clear hsz
  go_upto_region 12 with fail
  go_quiet ((go_at_call 19; first | exact Calls.quiet_of_same ((encsize_eq (HE10.out.chg0 ((Chg.refl _).drewN _))).mono (fun e w' h => ⟨h.1, h.2.symm⟩)) | exact Calls.quiet_of_same ((encsize_eq (HD10.out.chg0 ((Chg.refl _).drewN _))).mono (fun e w' h => ⟨h.1, h.2.symm⟩))))
  go_wp2_with fail
  go_ret
  exact ⟨rfl, (HC10.out.drewN _).below_nil⟩

/-! ### The row's step -/
theorem own : ownKnob Try.prog.godebug = none := by kernel_rfl
theorem laid : laidOutB Try.prog = true := by kernel_rfl

set_option maxRecDepth 100000 in
theorem lifted (os : Os) (started : os.Started) (H : Type) (enc : TypeId × Value → H) :
    ReturnsInHanded {} Try.checked os 4 .any (Rows.hpackJoinsSpec.pre6 enc Try.prog Try.f4 Rows.hpackJoinsRow.domain false) (Rows.hpackJoinsSpec.post enc Try.prog Try.f4 false true false false) := by
  refine lift_law (C := Try.checked) (tb := 4) own started (by kernel_rfl) Try.func4
    (ChangeSpec.witness6 (enc := enc) (C := Try.checked) false ⟨#[], #[.int .i64 0, .slice none 0 0, .slice none 0 0], []⟩ 8 (by kernel_rfl) (by kernel_rfl) (by kernel_rfl) (by kernel_rfl))
    laid (by rw [Try.params4]; intro t ht; simp only [List.mem_cons, List.not_mem_nil, or_false] at ht; rcases ht with rfl | rfl | rfl <;> exact ⟨by kernel_rfl, of_decide_eq_true (by kernel_rfl)⟩) (by kernel_rfl) Try.underlying4 rfl
    (fun ds h => by rw [Try.params4] at h; match ds, h with | [d0, d1, d2], _ => rfl) ?_
  intro W base args ds before hval hA hlt hsz
  rw [Try.params4] at hA hval
  try rw [Try.params4] at hsz
  have hlt0 := hlt
  obtain ⟨v0, vs0, d0, ds0, p0, q0, hargs, rfl, rfl, h0, r0⟩ := trodAll_cons hA
  obtain ⟨v1, vs1, d1, ds1, p1, q1, rfl, rfl, rfl, h1, r1⟩ := trodAll_cons r0
  obtain ⟨v2, vs2, d2, ds2, p2, q2, rfl, rfl, rfl, h2, r2⟩ := trodAll_cons r1
  obtain ⟨rfl, rfl, rfl⟩ := trodAll_nil r2
  obtain rfl : args = #[v0, v1, v2] := by cases args; simp_all
  have l0 : ∀ p ∈ p0, p.block < W.heap.size := fun x hx => hlt x (by simp [hx])
  have l1 : ∀ p ∈ p1, p.block < W.heap.size := fun x hx => hlt x (by simp [hx])
  have l2 : ∀ p ∈ p2, p.block < W.heap.size := fun x hx => hlt x (by simp [hx])
  obtain ⟨a0, rfl, rfl, rfl, wa0⟩ := open_int Try.underlying3 (hval 0 3 v0 rfl rfl) h0
  obtain ⟨l1, m1, _, _, s1⟩ := open_slice_w 3 Go.Proofs.Ytmoeioaahampaaa.Tb.encF Go.Proofs.Ytmoeioaahampaaa.Tb.Fd.In Try.underlying26 (by kernel_rfl) (by omega) (hval 1 26 v1 rfl rfl) Go.Proofs.Ytmoeioaahampaaa.Tb.decF h1 l1 (small_of hsz (j := 1) rfl rfl)
  obtain ⟨l2, m2, _, _, s2⟩ := open_slice_w 3 Go.Proofs.Ytmoeioaahampaaa.Tb.encF Go.Proofs.Ytmoeioaahampaaa.Tb.Fd.In Try.underlying26 (by kernel_rfl) (by omega) (hval 2 26 v2 rfl rfl) Go.Proofs.Ytmoeioaahampaaa.Tb.decF h2 l2 (small_of hsz (j := 2) rfl rfl)
  exact walk a0 v1 l1 v2 l2 W m1 s1 m2 s2

theorem over : Rows.hpackJoinsRow.holds Try.pinned (OpenSpec.ofChange Rows.hpackJoinsSpec) :=
  OpenClaim.holds_of_wide 4 Try.f4 rfl rfl rfl rfl rfl rfl rfl ⟨rfl, rfl, rfl, rfl, rfl⟩ rfl rfl rfl rfl rfl (by kernel_rfl) Try.func4 (by kernel_rfl)
    (of_decide_eq_true (by kernel_rfl)) (by unfold Func.isWrapper; first | (rw [if_pos (by decide +kernel)]; kernel_rfl) | (rw [if_neg (by decide +kernel)]; exact ⟨rfl, rfl⟩))
    (fun os started H enc _ => lifted os started H enc)

/-- The statement. -/
theorem proved : Rows.HpackJoinsSaid :=
  over
#print axioms proved

end Go.Proofs.Ytmoeioaahampaaa.HJoins
