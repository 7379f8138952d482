/-
  FrameStreams: what must be on a stream is on one, and what is the connection's is not.
-/
import Derived.Test.YthhgnipiaohplaaFhd
namespace Go.Proofs.Ythhgnipiaohplaa.Streams
open Go.ChangeShapes Go.WideShapes Go.ChangeAt Go.RowKit
open Go.Proofs.Ythhgnipiaohplaa.B Go.Proofs.Ythhgnipiaohplaa.Fr
set_option linter.unusedVariables false
set_option linter.unusedSimpArgs false
theorem own_bytes_drop {w : World} {base n cap : Nat} {a : Option Addr} {l : List UInt8} (h : OwnB w base (.slice a n cap) l) (k : Nat) (hk : k ≤ l.length) (h0 : 0 < l.length) :
    ∃ b, a = some ⟨b, 0, none⟩ ∧ BytesOf w (.slice (some ⟨b, k, none⟩) (l.length - k) (cap - k)) (l.drop k) := by
  obtain ⟨a', cap', he, hc, hm⟩ := (OwnB.bytes h).slice
  simp only [Value.slice.injEq] at he
  obtain ⟨rfl, rfl, rfl⟩ := he
  obtain ⟨_, _, he, _, _, hr⟩ := owns_val h
  simp only [Value.slice.injEq] at he
  obtain ⟨rfl, _, rfl⟩ := he
  obtain ⟨g, rfl, _, _⟩ := hr h0
  have := bytes_drop (OwnB.bytes h) k hk hc hm
  rw [Nat.zero_add] at this
  exact ⟨g, rfl, this⟩
theorem and_nat (n : Int) (m : Nat) (M : Int) (hM : M = (m : Int)) (hm : m < 9223372036854775808) : ∃ X : Nat, Go.bits .and .i64 n M = (X : Int) ∧ X ≤ m := by
  subst hM
  obtain ⟨h1, h2⟩ := i64_and_le n m hm
  exact ⟨(Go.bits .and .i64 n (m : Int)).toNat, (Int.toNat_of_nonneg h1).symm, by omega⟩
theorem u8_in {n : Int} (h : (Lit.int .u8 n).wf = true) : 0 ≤ n ∧ n ≤ 255 := by
  simpa [Lit.wf, IntKind.min, IntKind.max, IntKind.signed, IntKind.bits] using h
theorem ten {k : Nat} (h : k < 10) : k = 0 ∨ k = 1 ∨ k = 2 ∨ k = 3 ∨ k = 4 ∨ k = 5 ∨ k = 6 ∨ k = 7 ∨ k = 8 ∨ k = 9 := by omega
set_option maxRecDepth 100000 in
set_option maxHeartbeats 8000000 in
theorem walk (kind fl stream : Int) (bv : Value) (body : List UInt8) (W : World) (hb : BytesOf W bv body) (hf : 0 ≤ fl ∧ fl ≤ 255) :
    Calls Try.prog 9 #[.int .i64 kind, .int .u8 fl, .int .i64 stream, bv] W fun e w' => e = .returned (.bool true) ∧ Below W.heap.size W w' := by
  obtain ⟨a, cap, rfl, hc, hcm⟩ := hb.slice
  unfold maxLen at hcm
  obtain ⟨F, rfl⟩ : ∃ F : Nat, fl = (F : Int) := ⟨fl.toNat, by omega⟩
  have hF : F < 256 := by omega
  obtain ⟨X, hX, hX15⟩ := and_nat kind 15 15 rfl (by decide)
  obtain ⟨st, hst, hst31'⟩ := and_nat stream 2147483647 2147483647 rfl (by decide)
  have hst31 : st < 2147483648 := by omega
  obtain ⟨k, hk⟩ : ∃ k, k = X % 10 := ⟨_, rfl⟩
  have hk10 : k < 10 := by omega
  have hkI : (X : Int) % 10 = (k : Int) := by omega
  have hkT : (X : Int).tmod 10 = (k : Int) := by rw [Int.tmod_eq_emod_of_nonneg (by omega)]; exact hkI
  obtain ⟨M, hM⟩ : ∃ M : Nat, min body.length 300 = M := ⟨_, rfl⟩
  have eM : min (body.length : Int) 300 = (M : Int) := by omega
  have j1 : (M : Int) ≤ (cap : Int) := by omega
  have hM3 : M ≤ 300 := by omega
  have hp := BytesOf.pre hb M (by omega)
  obtain ⟨Bd, hBd⟩ : ∃ B, B = body.take M := ⟨_, rfl⟩
  have hBl : Bd.length = M := by rw [hBd, List.length_take]; omega
  rw [← hBd] at hp
  have HP := Lib.hid hp; have HBL := Lib.hid hBl
  clear hb hk hM hp hBd hBl
  go_enter Try.func9, Try.ntmps9
  go_wp2_with fail
  refine (shown_any W).mono ?_; rintro e w1 ⟨rfl, c1⟩
  go_wp2_with fail
  refine (pnew_any (W := W) 0 w1 c1.size).mono ?_; rintro e w2 ⟨p, hv0, rfl, h2, c2, f2⟩
  rw [mxP0] at h2
  have H2 := Lib.hid h2; have C2 := Lib.hid (c1.trans' c2)
  clear h2 c1 c2 f2 hX hst hkI hkT
  go_wp2_with fail
  refine (head9_any M k F st (by omega) (by omega) hF hst31 w2).mono ?_; rintro e w3 ⟨rv, rfl, o3, c3⟩
  have C3 := Lib.hid (C2.out.trans' c3); have H3 := Lib.hid (H2.out.chg0 c3)
  have lo3 : ∀ x ∈ footP p hv0, x < w2.heap.size := H2.out.lt
  have LO3 := Lib.hid lo3
  have O3 := Lib.hid o3
  have hs23 := c3.size
  have P3 := Lib.hid (HP.out.chg0 C3.out)
  clear o3 c3 H2 lo3 C2
  go_wp2_with (at_builtin; refine app_any rfl _ _ rfl w2.heap.size rv (h9 M k F st) rfl O3.out _ Bd rfl P3.out (by rw [h9_len, HBL.out]; omega) hs23 ?_)
  intro v4 w4 own4 ch4 n4
  obtain ⟨L, hL⟩ : ∃ L, L = h9 M k F st ++ Bd := ⟨_, rfl⟩
  obtain ⟨T, hT⟩ : ∃ T, T = 9 + M := ⟨_, rfl⟩
  have hLl : L.length = T := by rw [hL, List.length_append, h9_len, HBL.out, hT]
  rw [← hL] at own4
  obtain ⟨a4, cap4, rfl, hc4, hcm4⟩ := (OwnB.bytes own4).slice
  unfold maxLen at hcm4
  have RVL : ∀ x ∈ rv.ownBlock.toList, w2.heap.size ≤ x := OwnB.lo O3.out
  have C4 := Lib.hid (C3.out.trans ch4 (fun x hx => Or.inr (Nat.le_trans (show W.heap.size ≤ w2.heap.size by have := H3.out.lo; have := LO3.out p (by simp [footP]); omega) (RVL x hx))))
  have H4 := Lib.hid (H3.out.chg ch4 (fun x hx he => by have := LO3.out x hx; have := RVL x he; omega))
  have hW2 : W.heap.size ≤ w2.heap.size := by have := H3.out.lo; have := LO3.out p (by simp [footP]); omega
  have EL : Hid (L = h9 M k F st ++ Bd) := Lib.hid hL
  rw [hLl] at own4 hc4
  have O4 := Lib.hid own4; have LL := Lib.hid hLl
  rw [hLl]
  have A4 : Hid (∀ g, (Value.slice a4 T cap4).ownBlock = some g → w2.heap.size ≤ g) := Lib.hid (fun g hg => OwnB.lo O4.out g (by simp [hg]))
  have hl4 := Lib.hid (show ∀ g, (Value.slice a4 T cap4).ownBlock = some g → g < w4.heap.size from fun g hg => (World.ownsRow.lt O4.out g hg).2)
  clear own4 ch4 n4 hL hLl H3 C3 O3 P3 RVL
  obtain ⟨Q, hQ⟩ : ∃ Q, Q = 8 + M := ⟨_, rfl⟩
  have j2 : (Q : Int) ≤ (cap4 : Int) := by omega
  have wr9 : (T : Int) - 1 = (Q : Int) := by omega
  have wr9' : wrap64 ((T : Int) - 1) = (Q : Int) := by unfold wrap64; omega
  have j3 : (Q : Int) ≤ (T : Int) := by omega
  have hcq : ¬ cap4 = Q := by omega
  have hQ3 : Q ≤ 308 := by omega
  have hTQ : T = Q + 1 := by omega
  have HQ := Lib.hid hQ; have HTQ := Lib.hid hTQ
  clear hQ hT hTQ
  obtain ⟨L8, hL8⟩ : ∃ L8, L8 = L.take Q := ⟨_, rfl⟩
  have hL8l : L8.length = Q := by rw [hL8, List.length_take, LL.out, HTQ.out]; omega
  have p8 := BytesOf.pre (l := L) (w := w4) (a := a4) (n := T) (cap := cap4) (OwnB.bytes O4.out) Q (by rw [LL.out, HTQ.out]; omega)
  rw [← hL8] at p8
  have P8 := Lib.hid p8; have HL8 := Lib.hid hL8; have L8L := Lib.hid hL8l
  clear p8 hL8 hL8l eM
  go_wp2_with fail
  refine (pfeed_any H4.out (.slice a4 Q cap4) L8 P8.out (by simp) (by rw [L8L.out]; omega)).mono ?_; rintro e w5 ⟨hv5, he, h5, c5, f5⟩
  have hfd : feedN 16384 false [] L8 = Q := by unfold feedN; rw [if_neg (by simp), L8L.out]; simp; omega
  rw [hfd] at he h5
  rw [show ([] : List UInt8) ++ L8.take Q = L8 by rw [List.nil_append, List.take_of_length_le (by rw [L8L.out]; omega)]] at h5
  subst he
  have C5 := Lib.hid (C4.out.trans c5 (fun x hx => Or.inr (H4.out.los x hx))); have H5 := Lib.hid h5
  have O5 := Lib.hid (OwnB.chg O4.out c5 (fun g hg hx => by have := A4.out g hg; have := LO3.out g hx; omega))
  have F5 : Hid (∀ x ∈ footP p hv5, x < w2.heap.size ∨ w4.heap.size ≤ x) := Lib.hid (fun x hx => (f5 x hx).imp (LO3.out x) id)
  clear c5 h5 f5 hfd H4 C4 O4 P8
  go_wp2_with fail
  refine (next_any H5.out (by rw [L8L.out]; omega)).mono ?_; rintro e w6 hp
  rw [HL8.out, EL.out, HQ.out, nxt_early HBL.out (by omega) (by omega) hst31] at hp
  obtain ⟨rfl, h6, c6⟩ := hp
  rw [← EL.out, ← HQ.out, ← HL8.out] at h6
  have C6 := Lib.hid (C5.out.trans' c6); have H6 := Lib.hid h6; have O6 := Lib.hid (OwnB.chg0' O5.out c6)
  clear h6 c6 H5 C5 O5
  go_upto_region 11 with fail
  have cB : Chg [] w6 ((w6.alloc (.cells noF 27)).alloc (.cells noX 46)) := ((Chg.refl w6).alloc _).alloc _
  have H7 := Lib.hid (H6.out.chg0 cB); have C7 := Lib.hid (C6.out.trans' cB); have O7 := Lib.hid (OwnB.chg0' O6.out cB)
  clear cB H6 C6 O6
  generalize (w6.alloc (.cells noF 27)).alloc (.cells noX 46) = w7 at *
  obtain ⟨b4, rfl, d7⟩ := own_bytes_drop O7.out Q (by rw [LL.out, HTQ.out]; omega) (by rw [LL.out, HTQ.out]; omega)
  rw [LL.out] at d7
  rw [show T - Q = 1 by rw [HTQ.out]; omega] at d7
  have D7 := Lib.hid d7
  have w1b : wrap64 ((T : Int) - (Q : Int)) = 1 := by have := HTQ.out; unfold wrap64; omega
  have w1c : (T : Int) - (Q : Int) = 1 := by have := HTQ.out; omega
  clear d7
  go_wp2_with fail
  rw [show T - Q = 1 by rw [HTQ.out]; omega]
  have hDl : (L.drop Q).length = 1 := by rw [List.length_drop, LL.out, HTQ.out]; omega
  have DL := Lib.hid hDl
  have e7 : Value.slice (some ⟨b4, Q, none⟩) 1 (cap4 - Q) = Value.slice (some ⟨b4, Q, none⟩) (L.drop Q).length (cap4 - Q) := by rw [hDl]
  refine (pfeed_any H7.out (.slice (some ⟨b4, Q, none⟩) 1 (cap4 - Q)) (L.drop Q) D7.out (by rw [L8L.out]; omega) (by rw [DL.out]; omega)).mono ?_; rintro e w8 ⟨hv8, he, h8, c8, f8⟩
  have hfd : feedN 16384 false L8 (L.drop Q) = 1 := by unfold feedN; rw [if_neg (by simp), L8L.out, DL.out]; omega
  rw [hfd] at he h8
  rw [show L8 ++ (L.drop Q).take 1 = L by rw [List.take_of_length_le (by rw [DL.out]; omega), HL8.out, List.take_append_drop]] at h8
  subst he
  have C8 := Lib.hid (C7.out.trans c8 (fun x hx => Or.inr (H7.out.los x hx))); have H8 := Lib.hid h8
  clear c8 h8 f8 hfd hDl e7 H7 C7 O7 D7 w1b w1c
  go_wp2_with fail
  refine (next_any H8.out (by rw [LL.out, HTQ.out]; omega)).mono ?_; rintro e w9 hp
  have hns := nxt_streams (k := k) (fl := F) (st := st) HBL.out (by omega) (by omega) hst31
  rw [← EL.out] at hns
  have hpl : ∀ x ∈ [p], W.heap.size ≤ x := fun x hx => H8.out.los x (by simp at hx; simp [footP, hx])
  obtain ⟨hs1, hs2⟩ := hns
  clear A4 hl4 F5 LO3 HP j1 j2 j3 wr9 wr9' hcq hc4 hcm4
  cases hS : strayB (k : Int) (st : Int) with
  | true =>
    rw [hs1 hS] at hp
    obtain ⟨rfl, h9', c9⟩ := hp
    have H9 := Lib.hid h9'; have C9 := Lib.hid (C8.out.trans c9 (fun x hx => Or.inr (hpl x hx)))
    clear h9' c9 H8 C8 hs1 hs2 hpl
    rcases ten hk10 with hkk | hkk | hkk | hkk | hkk | hkk | hkk | hkk | hkk | hkk
    · subst hkk
      have g0 : ((st : Int) == 0) = true := by have := hS; simpa [strayB, bne] using this
      have g1 : ((st : Int) != 0) = !true := by simp only [bne, g0]
      simp only [Bool.not_true, Bool.not_false] at g1
      clear hS
      go_wp2_with fail
      refine (psize_any (H9.out.chg0 (((Chg.refl w9).alloc _).alloc _))).mono ?_; rintro e wa ⟨rfl, rfl⟩
      go_wp2_with fail
      go_ret
      exact ⟨rfl, ((C9.out.alloc _).alloc _).below_nil⟩
    · subst hkk
      have g0 : ((st : Int) == 0) = true := by have := hS; simpa [strayB, bne] using this
      have g1 : ((st : Int) != 0) = !true := by simp only [bne, g0]
      simp only [Bool.not_true, Bool.not_false] at g1
      clear hS
      go_wp2_with fail
      refine (psize_any (H9.out.chg0 (((Chg.refl w9).alloc _).alloc _))).mono ?_; rintro e wa ⟨rfl, rfl⟩
      go_wp2_with fail
      go_ret
      exact ⟨rfl, ((C9.out.alloc _).alloc _).below_nil⟩
    · subst hkk
      have g0 : ((st : Int) == 0) = true := by have := hS; simpa [strayB, bne] using this
      have g1 : ((st : Int) != 0) = !true := by simp only [bne, g0]
      simp only [Bool.not_true, Bool.not_false] at g1
      clear hS
      go_wp2_with fail
      refine (psize_any (H9.out.chg0 (((Chg.refl w9).alloc _).alloc _))).mono ?_; rintro e wa ⟨rfl, rfl⟩
      go_wp2_with fail
      go_ret
      exact ⟨rfl, ((C9.out.alloc _).alloc _).below_nil⟩
    · subst hkk
      have g0 : ((st : Int) == 0) = true := by have := hS; simpa [strayB, bne] using this
      have g1 : ((st : Int) != 0) = !true := by simp only [bne, g0]
      simp only [Bool.not_true, Bool.not_false] at g1
      clear hS
      go_wp2_with fail
      refine (psize_any (H9.out.chg0 (((Chg.refl w9).alloc _).alloc _))).mono ?_; rintro e wa ⟨rfl, rfl⟩
      go_wp2_with fail
      go_ret
      exact ⟨rfl, ((C9.out.alloc _).alloc _).below_nil⟩
    · subst hkk
      have g0 : ((st : Int) == 0) = false := by have := hS; simpa [strayB, bne] using this
      have g1 : ((st : Int) != 0) = !false := by simp only [bne, g0]
      simp only [Bool.not_true, Bool.not_false] at g1
      clear hS
      go_wp2_with fail
      refine (psize_any (H9.out.chg0 (((Chg.refl w9).alloc _).alloc _))).mono ?_; rintro e wa ⟨rfl, rfl⟩
      go_wp2_with fail
      go_ret
      exact ⟨rfl, ((C9.out.alloc _).alloc _).below_nil⟩
    · subst hkk
      have g0 : ((st : Int) == 0) = true := by have := hS; simpa [strayB, bne] using this
      have g1 : ((st : Int) != 0) = !true := by simp only [bne, g0]
      simp only [Bool.not_true, Bool.not_false] at g1
      clear hS
      go_wp2_with fail
      refine (psize_any (H9.out.chg0 (((Chg.refl w9).alloc _).alloc _))).mono ?_; rintro e wa ⟨rfl, rfl⟩
      go_wp2_with fail
      go_ret
      exact ⟨rfl, ((C9.out.alloc _).alloc _).below_nil⟩
    · subst hkk
      have g0 : ((st : Int) == 0) = false := by have := hS; simpa [strayB, bne] using this
      have g1 : ((st : Int) != 0) = !false := by simp only [bne, g0]
      simp only [Bool.not_true, Bool.not_false] at g1
      clear hS
      go_wp2_with fail
      refine (psize_any (H9.out.chg0 (((Chg.refl w9).alloc _).alloc _))).mono ?_; rintro e wa ⟨rfl, rfl⟩
      go_wp2_with fail
      go_ret
      exact ⟨rfl, ((C9.out.alloc _).alloc _).below_nil⟩
    · subst hkk
      have g0 : ((st : Int) == 0) = false := by have := hS; simpa [strayB, bne] using this
      have g1 : ((st : Int) != 0) = !false := by simp only [bne, g0]
      simp only [Bool.not_true, Bool.not_false] at g1
      clear hS
      go_wp2_with fail
      refine (psize_any (H9.out.chg0 (((Chg.refl w9).alloc _).alloc _))).mono ?_; rintro e wa ⟨rfl, rfl⟩
      go_wp2_with fail
      go_ret
      exact ⟨rfl, ((C9.out.alloc _).alloc _).below_nil⟩
    · subst hkk; cases hS
    · subst hkk
      have g0 : ((st : Int) == 0) = true := by have := hS; simpa [strayB, bne] using this
      have g1 : ((st : Int) != 0) = !true := by simp only [bne, g0]
      simp only [Bool.not_true, Bool.not_false] at g1
      clear hS
      go_wp2_with fail
      refine (psize_any (H9.out.chg0 (((Chg.refl w9).alloc _).alloc _))).mono ?_; rintro e wa ⟨rfl, rfl⟩
      go_wp2_with fail
      go_ret
      exact ⟨rfl, ((C9.out.alloc _).alloc _).below_nil⟩
  | false =>
    rcases hs2 hS with ⟨FF, hX⟩ | ⟨c, hX⟩ | ⟨c, hX, hk28⟩
    · rw [hX] at hp
      obtain ⟨hv9, pv, lv, rfl, h9', c9, _, op9, os9, _⟩ := hp
      have C9 := Lib.hid (C8.out.trans c9 (fun x hx => Or.inr (hpl x hx)))
      clear h9' c9 H8 C8 hs1 hs2 hpl hX
      obtain ⟨pa, pc, rfl, _, _⟩ := (OwnB.bytes op9).slice
      obtain ⟨sa, sc, rfl, _, _⟩ := OwnR.slice os9
      have b1 : At ((w9.alloc (.cells noF 27)).alloc (.cells noX 46)) w9.heap.size (.cells noF 27) := (At.new w9 _).alloc _
      have b2 : At ((w9.alloc (.cells noF 27)).alloc (.cells noX 46)) (w9.heap.size + 1) (.cells noX 46) := At.new' (w := w9.alloc (.cells noF 27)) (by simp)
      go_wp2_with (refine store_whole rfl 27 _ _ rfl w9.heap.size _ _ 27 rfl rfl b1 infoFr rfl (by simp [Value.oneCell', Fm.mem]) ?_)
      intro w31 s31 c31
      have b231 := At.chg b2 c31 (by simp)
      go_wp2_with (refine store_whole rfl 46 _ _ rfl (w9.heap.size + 1) _ _ 46 rfl rfl b231 infoFa rfl (by simp [Value.oneCell']) ?_)
      intro w32 s32 c32
      have S31 := Lib.hid (s31.chg c32 (by simp)); have S32 := Lib.hid s32
      have C32 : Hid (Chg [] w9 w32) := Lib.hid ((((Chg.refl w9).alloc _).alloc _).trans ((c31.mono (m := [w9.heap.size, w9.heap.size + 1]) (by simp)).trans' (c32.mono (by simp))) (fun x hx => Or.inr (by simp at hx; omega)))
      clear b1 b2 b231 s31 c31 c32 s32
      have y0 : World.cell? w32 ⟨w9.heap.size + 1, 0, none⟩ = some (.bool false) := S32.out.cell rfl
      have y2 : World.cell? w32 ⟨w9.heap.size + 1, 2, none⟩ = some (.int .i64 0) := S32.out.cell rfl
      have C10 := Lib.hid (C9.out.trans' C32.out)
      clear op9 os9 C9 C32 S31 S32
      rcases ten hk10 with hkk | hkk | hkk | hkk | hkk | hkk | hkk | hkk | hkk | hkk
      · subst hkk
        have g0 : ((st : Int) == 0) = false := by have := hS; simpa [strayB, bne] using this
        have g1 : ((st : Int) != 0) = !false := by simp only [bne, g0]
        simp only [Bool.not_true, Bool.not_false] at g1
        clear hS
        go_wp2_with fail
        go_ret
        exact ⟨rfl, C10.out.below_nil⟩
      · subst hkk
        have g0 : ((st : Int) == 0) = false := by have := hS; simpa [strayB, bne] using this
        have g1 : ((st : Int) != 0) = !false := by simp only [bne, g0]
        simp only [Bool.not_true, Bool.not_false] at g1
        clear hS
        go_wp2_with fail
        go_ret
        exact ⟨rfl, C10.out.below_nil⟩
      · subst hkk
        have g0 : ((st : Int) == 0) = false := by have := hS; simpa [strayB, bne] using this
        have g1 : ((st : Int) != 0) = !false := by simp only [bne, g0]
        simp only [Bool.not_true, Bool.not_false] at g1
        clear hS
        go_wp2_with fail
        go_ret
        exact ⟨rfl, C10.out.below_nil⟩
      · subst hkk
        have g0 : ((st : Int) == 0) = false := by have := hS; simpa [strayB, bne] using this
        have g1 : ((st : Int) != 0) = !false := by simp only [bne, g0]
        simp only [Bool.not_true, Bool.not_false] at g1
        clear hS
        go_wp2_with fail
        go_ret
        exact ⟨rfl, C10.out.below_nil⟩
      · subst hkk
        have g0 : ((st : Int) == 0) = true := by have := hS; simpa [strayB, bne] using this
        have g1 : ((st : Int) != 0) = !true := by simp only [bne, g0]
        simp only [Bool.not_true, Bool.not_false] at g1
        clear hS
        go_wp2_with fail
        go_ret
        exact ⟨rfl, C10.out.below_nil⟩
      · subst hkk
        have g0 : ((st : Int) == 0) = false := by have := hS; simpa [strayB, bne] using this
        have g1 : ((st : Int) != 0) = !false := by simp only [bne, g0]
        simp only [Bool.not_true, Bool.not_false] at g1
        clear hS
        go_wp2_with fail
        go_ret
        exact ⟨rfl, C10.out.below_nil⟩
      · subst hkk
        have g0 : ((st : Int) == 0) = true := by have := hS; simpa [strayB, bne] using this
        have g1 : ((st : Int) != 0) = !true := by simp only [bne, g0]
        simp only [Bool.not_true, Bool.not_false] at g1
        clear hS
        go_wp2_with fail
        go_ret
        exact ⟨rfl, C10.out.below_nil⟩
      · subst hkk
        have g0 : ((st : Int) == 0) = true := by have := hS; simpa [strayB, bne] using this
        have g1 : ((st : Int) != 0) = !true := by simp only [bne, g0]
        simp only [Bool.not_true, Bool.not_false] at g1
        clear hS
        go_wp2_with fail
        go_ret
        exact ⟨rfl, C10.out.below_nil⟩
      · subst hkk
        have hgg : ((st : Int) == 0) = true ∨ ((st : Int) == 0) = false := by cases ((st : Int) == 0) <;> simp
        rcases hgg with g0 | g0
        · have g1 : ((st : Int) != 0) = !true := by simp only [bne, g0]
          simp only [Bool.not_true, Bool.not_false] at g1
          clear hS
          go_wp2_with fail
          go_ret
          exact ⟨rfl, C10.out.below_nil⟩
        · have g1 : ((st : Int) != 0) = !false := by simp only [bne, g0]
          simp only [Bool.not_true, Bool.not_false] at g1
          clear hS
          go_wp2_with fail
          go_ret
          exact ⟨rfl, C10.out.below_nil⟩
      · subst hkk
        have g0 : ((st : Int) == 0) = false := by have := hS; simpa [strayB, bne] using this
        have g1 : ((st : Int) != 0) = !false := by simp only [bne, g0]
        simp only [Bool.not_true, Bool.not_false] at g1
        clear hS
        go_wp2_with fail
        go_ret
        exact ⟨rfl, C10.out.below_nil⟩
    · rw [hX] at hp
      obtain ⟨rfl, h9', c9⟩ := hp
      have C9 := Lib.hid (C8.out.trans c9 (fun x hx => Or.inr (hpl x hx)))
      clear h9' c9 H8 C8 hs1 hs2 hpl hX
      rcases ten hk10 with hkk | hkk | hkk | hkk | hkk | hkk | hkk | hkk | hkk | hkk
      · subst hkk
        have g0 : ((st : Int) == 0) = false := by have := hS; simpa [strayB, bne] using this
        have g1 : ((st : Int) != 0) = !false := by simp only [bne, g0]
        simp only [Bool.not_true, Bool.not_false] at g1
        clear hS
        go_wp2_with fail
        go_ret
        exact ⟨rfl, ((C9.out.alloc _).alloc _).below_nil⟩
      · subst hkk
        have g0 : ((st : Int) == 0) = false := by have := hS; simpa [strayB, bne] using this
        have g1 : ((st : Int) != 0) = !false := by simp only [bne, g0]
        simp only [Bool.not_true, Bool.not_false] at g1
        clear hS
        go_wp2_with fail
        go_ret
        exact ⟨rfl, ((C9.out.alloc _).alloc _).below_nil⟩
      · subst hkk
        have g0 : ((st : Int) == 0) = false := by have := hS; simpa [strayB, bne] using this
        have g1 : ((st : Int) != 0) = !false := by simp only [bne, g0]
        simp only [Bool.not_true, Bool.not_false] at g1
        clear hS
        go_wp2_with fail
        go_ret
        exact ⟨rfl, ((C9.out.alloc _).alloc _).below_nil⟩
      · subst hkk
        have g0 : ((st : Int) == 0) = false := by have := hS; simpa [strayB, bne] using this
        have g1 : ((st : Int) != 0) = !false := by simp only [bne, g0]
        simp only [Bool.not_true, Bool.not_false] at g1
        clear hS
        go_wp2_with fail
        go_ret
        exact ⟨rfl, ((C9.out.alloc _).alloc _).below_nil⟩
      · subst hkk
        have g0 : ((st : Int) == 0) = true := by have := hS; simpa [strayB, bne] using this
        have g1 : ((st : Int) != 0) = !true := by simp only [bne, g0]
        simp only [Bool.not_true, Bool.not_false] at g1
        clear hS
        go_wp2_with fail
        go_ret
        exact ⟨rfl, ((C9.out.alloc _).alloc _).below_nil⟩
      · subst hkk
        have g0 : ((st : Int) == 0) = false := by have := hS; simpa [strayB, bne] using this
        have g1 : ((st : Int) != 0) = !false := by simp only [bne, g0]
        simp only [Bool.not_true, Bool.not_false] at g1
        clear hS
        go_wp2_with fail
        go_ret
        exact ⟨rfl, ((C9.out.alloc _).alloc _).below_nil⟩
      · subst hkk
        have g0 : ((st : Int) == 0) = true := by have := hS; simpa [strayB, bne] using this
        have g1 : ((st : Int) != 0) = !true := by simp only [bne, g0]
        simp only [Bool.not_true, Bool.not_false] at g1
        clear hS
        go_wp2_with fail
        go_ret
        exact ⟨rfl, ((C9.out.alloc _).alloc _).below_nil⟩
      · subst hkk
        have g0 : ((st : Int) == 0) = true := by have := hS; simpa [strayB, bne] using this
        have g1 : ((st : Int) != 0) = !true := by simp only [bne, g0]
        simp only [Bool.not_true, Bool.not_false] at g1
        clear hS
        go_wp2_with fail
        go_ret
        exact ⟨rfl, ((C9.out.alloc _).alloc _).below_nil⟩
      · subst hkk
        have hgg : ((st : Int) == 0) = true ∨ ((st : Int) == 0) = false := by cases ((st : Int) == 0) <;> simp
        rcases hgg with g0 | g0
        · have g1 : ((st : Int) != 0) = !true := by simp only [bne, g0]
          simp only [Bool.not_true, Bool.not_false] at g1
          clear hS
          go_wp2_with fail
          go_ret
          exact ⟨rfl, ((C9.out.alloc _).alloc _).below_nil⟩
        · have g1 : ((st : Int) != 0) = !false := by simp only [bne, g0]
          simp only [Bool.not_true, Bool.not_false] at g1
          clear hS
          go_wp2_with fail
          go_ret
          exact ⟨rfl, ((C9.out.alloc _).alloc _).below_nil⟩
      · subst hkk
        have g0 : ((st : Int) == 0) = false := by have := hS; simpa [strayB, bne] using this
        have g1 : ((st : Int) != 0) = !false := by simp only [bne, g0]
        simp only [Bool.not_true, Bool.not_false] at g1
        clear hS
        go_wp2_with fail
        go_ret
        exact ⟨rfl, ((C9.out.alloc _).alloc _).below_nil⟩
    · rw [hX] at hp
      obtain ⟨hv9, rfl, h9', c9, _⟩ := hp
      have hst0 := (nxt_takes.2.1 _ _ _ hX).1
      have C9 := Lib.hid (C8.out.trans c9 (fun x hx => Or.inr (hpl x hx)))
      have g0 : ((st : Int) == 0) = false := by simp; omega
      have g1 : ((st : Int) != 0) = true := by simp only [bne, g0]; rfl
      clear h9' c9 H8 C8 hs1 hs2 hpl hX hS hst0
      rcases hk28 with hkk | hkk
      · subst hkk
        go_wp2_with fail
        go_ret
        exact ⟨rfl, ((C9.out.alloc _).alloc _).below_nil⟩
      · subst hkk
        go_wp2_with fail
        go_ret
        exact ⟨rfl, ((C9.out.alloc _).alloc _).below_nil⟩

/-! ### The row's step -/
theorem own : ownKnob Try.prog.godebug = none := by kernel_rfl
theorem laid : laidOutB Try.prog = true := by kernel_rfl

set_option maxRecDepth 100000 in
theorem lifted (os : Os) (started : os.Started) (H : Type) (enc : TypeId × Value → H) :
    ReturnsInHanded {} Try.checked os 9 .any (Rows.frameStreamsSpec.pre6 enc Try.prog Try.f9 Rows.frameStreamsRow.domain false) (Rows.frameStreamsSpec.post enc Try.prog Try.f9 false true false false) := by
  refine lift_law (C := Try.checked) (tb := 4) own started (by kernel_rfl) Try.func9
    (ChangeSpec.witness6 (enc := enc) (C := Try.checked) false ⟨#[], #[.int .i64 0, .int .u8 0, .int .i64 0, .slice none 0 0], []⟩ 8 (by kernel_rfl) (by kernel_rfl) (by kernel_rfl) (by kernel_rfl))
    laid (by rw [Try.params9]; intro t ht; simp only [List.mem_cons, List.not_mem_nil, or_false] at ht; rcases ht with rfl | rfl | rfl | rfl <;> exact ⟨by kernel_rfl, of_decide_eq_true (by kernel_rfl)⟩) (by kernel_rfl) Try.underlying4 rfl
    (fun ds h => by rw [Try.params9] at h; match ds, h with | [d0, d1, d2, d3], _ => rfl) ?_
  intro W base args ds before hval hA hlt hsz
  rw [Try.params9] at hA hval
  try rw [Try.params9] at hsz
  have hlt0 := hlt
  obtain ⟨v0, vs0, d0, ds0, p0, q0, hargs, rfl, rfl, h0, r0⟩ := trodAll_cons hA
  obtain ⟨v1, vs1, d1, ds1, p1, q1, rfl, rfl, rfl, h1, r1⟩ := trodAll_cons r0
  obtain ⟨v2, vs2, d2, ds2, p2, q2, rfl, rfl, rfl, h2, r2⟩ := trodAll_cons r1
  obtain ⟨v3, vs3, d3, ds3, p3, q3, rfl, rfl, rfl, h3, r3⟩ := trodAll_cons r2
  obtain ⟨rfl, rfl, rfl⟩ := trodAll_nil r3
  obtain rfl : args = #[v0, v1, v2, v3] := by cases args; simp_all
  have l0 : ∀ p ∈ p0, p.block < W.heap.size := fun x hx => hlt x (by simp [hx])
  have l1 : ∀ p ∈ p1, p.block < W.heap.size := fun x hx => hlt x (by simp [hx])
  have l2 : ∀ p ∈ p2, p.block < W.heap.size := fun x hx => hlt x (by simp [hx])
  have l3 : ∀ p ∈ p3, p.block < W.heap.size := fun x hx => hlt x (by simp [hx])
  obtain ⟨n0, rfl, rfl, rfl, wn0⟩ := open_int Try.underlying3 (hval 0 3 v0 rfl rfl) h0
  obtain ⟨n1, rfl, rfl, rfl, wn1⟩ := open_int Try.underlying5 (hval 1 5 v1 rfl rfl) h1
  obtain ⟨n2, rfl, rfl, rfl, wn2⟩ := open_int Try.underlying3 (hval 2 3 v2 rfl rfl) h2
  obtain ⟨l3, m3, s3⟩ := open_bytes (hval 3 22 v3 rfl rfl) h3 l3
  exact walk n0 n1 n2 v3 l3 W s3 (u8_in wn1)

theorem over : Rows.frameStreamsRow.holds Try.pinned (OpenSpec.ofChange Rows.frameStreamsSpec) :=
  OpenClaim.holds_of_wide 9 Try.f9 rfl rfl rfl rfl rfl rfl rfl ⟨rfl, rfl, rfl, rfl, rfl⟩ rfl rfl rfl rfl rfl (by kernel_rfl) Try.func9 (by kernel_rfl)
    (of_decide_eq_true (by kernel_rfl)) (by unfold Func.isWrapper; first | (rw [if_pos (by decide +kernel)]; kernel_rfl) | (rw [if_neg (by decide +kernel)]; exact ⟨rfl, rfl⟩))
    (fun os started H enc _ => lifted os started H enc)

/-- The statement. -/
theorem proved : Rows.FrameStreamsSaid :=
  over
#print axioms proved

end Go.Proofs.Ythhgnipiaohplaa.Streams
