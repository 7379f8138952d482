/-
  HpackLong: a list that is too long is refused, and nothing goes wrong behind it: any Max, any fields, twice, any list.
-/
import Derived.Test.YtmoeioaahampaaaHdM
import Derived.Test.YtmoeioaahampaaaRefA
namespace Go.Proofs.Ytmoeioaahampaaa.HLong
open Go.ChangeShapes Go.WideShapes Go.ChangeAt Go.RowKit
open Go.Proofs.Ytmoeioaahampaaa.B Go.Proofs.Ytmoeioaahampaaa.Hi Go.Proofs.Ytmoeioaahampaaa.Tb Go.Proofs.Ytmoeioaahampaaa.Tb.Hp
open Go.Proofs.Ytmoeioaahampaaa.Hf (bx)
set_option linter.unusedVariables false
set_option linter.unusedSimpArgs false

abbrev Fld := Go.Proofs.Ytmoeioaahampaaa.Tb.Fd
theorem tot_le (n : Nat) : ∀ (l : List Fld), (∀ f ∈ l, f.sz ≤ n) → tot l ≤ n * l.length := by
  intro l
  induction l with
  | nil => intro _; simp [tot]
  | cons f l ih =>
    intro h
    have h1 := h f (by simp)
    have h2 := ih (fun g hg => h g (List.mem_cons_of_mem _ hg))
    show f.sz + tot l ≤ _
    rw [List.length_cons, Nat.mul_add, Nat.mul_one]; omega
theorem tot_take (l : List Fld) {k : Nat} {f : Fld} (h : l[k]? = some f) : tot (l.take (k + 1)) = tot (l.take k) + f.sz := by
  rw [List.take_add_one, h, tot_append]; simp [tot]
set_option maxRecDepth 100000 in
set_option maxHeartbeats 8000000 in
theorem walk (max : Int) (va : Value) (la : List Fld) (list : Int) (W : World) (ia : ∀ f ∈ la, f.In) (ha : FdsOf W va la) :
    Calls Try.prog 6 #[.int .i64 max, va, .int .i64 list] W fun e w' => e = .returned (.bool true) ∧ Below W.heap.size W w' := by
  have HA := Lib.hid ha; have IA := Lib.hid ia
  clear ha ia
  obtain ⟨A, hA⟩ : ∃ A, A = smallL la := ⟨_, rfl⟩
  have sA0 : ∀ f ∈ A, f.n.size ≤ 400 ∧ f.v.size ≤ 400 := fun f hf => by rw [hA] at hf; exact smallL_sz f hf
  have lA : A.length ≤ 20 := by rw [hA]; exact smallL_len _
  have tA : tot A ≤ 16640 := by
    have := tot_le 832 A (fun f hf => by have := sA0 f hf; unfold Go.Proofs.Ytmoeioaahampaaa.Tb.Fd.sz; omega)
    omega
  obtain ⟨N, hN⟩ : ∃ N, N = tot A := ⟨_, rfl⟩
  rw [← hN] at tA
  obtain ⟨m, hm⟩ : ∃ m, m = hgt max := ⟨_, rfl⟩
  have hm6 : m ≤ 65536 := by rw [hm]; exact hgt_le _
  have HAA := Lib.hid hA; have HM := Lib.hid hm; have HN := Lib.hid hN; have SA0 := Lib.hid sA0
  have sA : Hid (∀ f ∈ A, f.n.size ≤ 100000 ∧ f.v.size ≤ 100000) := Lib.hid (fun f hf => by have := sA0 f hf; omega)
  clear hA hm hN sA0
  go_enter Try.func6, Try.ntmps6
  go_wp2_with fail
  refine (shown_any W).mono ?_; rintro e w1 ⟨rfl, c1⟩
  go_wp2_with fail
  refine (newenc_any (W := W) max w1 (by exact c1.below_nil)).mono ?_; rintro e w2 ⟨c, F1, p1, rfl, hE, c2, hn1⟩
  rw [← HM.out] at hE
  have c02 := c1.trans' c2
  go_wp2_with fail
  refine (newdec_any (W := W) max list w2 (by exact c02.below_nil)).mono ?_; rintro e w3 ⟨d, F2, p2, rfl, hD, c3, hn2⟩
  rw [← HM.out] at hD
  have c03 := c02.trans' c3
  go_wp2_with fail
  refine (newdec_any (W := W) max 1099511627776 w3 (by exact c03.below_nil)).mono ?_; rintro e w4 ⟨v, F3, p3, rfl, hV, c4, hn3⟩
  rw [← HM.out] at hV
  have c04 := c03.trans' c4
  have HS4 : Hid (Sep w4 [v :: F3, d :: F2, c :: F1]) := Lib.hid ((((Sep.nil w1).add hn1 hE.lt c2.size).add hn2 hD.lt c3.size).add hn3 hV.lt c4.size)
  have HC4 := Lib.hid c04; have HE4 := Lib.hid ((hE.chg0 c3).chg0 c4); have HD4 := Lib.hid (hD.chg0 c4); have HV4 := Lib.hid hV
  clear hE hD hV c1 c2 c3 c4 c02 c03 c04 hn1 hn2 hn3
  go_wp2_with fail
  refine (small_any (HA.out.chg0 HC4.out) IA.out).mono ?_; rintro e w5 ⟨ra, rfl, oa, c5⟩
  rw [← HAA.out] at oa
  obtain ⟨aa, acap, rfl, hac, hacm⟩ := OwnR.slice oa
  have HC5 := Lib.hid (HC4.out.trans' c5); have HE5 := Lib.hid (HE4.out.chg0 c5); have HD5 := Lib.hid (HD4.out.chg0 c5); have HV5 := Lib.hid (HV4.out.chg0 c5)
  have HS5 : Hid (Sep w5 [(Value.slice aa A.length acap).ownBlock.toList, v :: F3, d :: F2, c :: F1]) := Lib.hid (HS4.out.add (OwnR.lo oa) (OwnR.lt oa) c5.size)
  obtain ⟨B4, hB4⟩ : ∃ B4, B4 = w4.heap.size := ⟨_, rfl⟩
  rw [← hB4] at oa
  have OA5 := Lib.hid oa
  unfold maxLen at hacm
  clear oa c5 HC4 HE4 HD4 HV4 HS4 hB4
  go_wp2_with fail
  go_loopw [11, 12] (fun sv iv wr => ∃ k : Nat, k ≤ A.length ∧ iv = .int .i64 k ∧ (∃ s : Nat, s = tot (A.take k) ∧ s ≤ 832 * k ∧ sv = .int .i64 s) ∧ Chg [] w5 wr) (fun _ iv _ => A.length - (intOf iv).toNat)
  case atStart => exact ⟨0, Nat.zero_le _, rfl, ⟨0, rfl, Nat.zero_le _, rfl⟩, Chg.refl _⟩
  case round =>
    obtain ⟨k, hk, rfl, ⟨s, hs, hsk, rfl⟩, hc⟩ := hrel
    by_cases hlt : k < A.length
    · obtain ⟨f, hf⟩ : ∃ f, A[k]? = some f := ⟨_, List.getElem?_eq_getElem hlt⟩
      have hfs := SA0.out f (List.mem_of_getElem? hf)
      have hfz : f.sz ≤ 832 := by unfold Go.Proofs.Ytmoeioaahampaaa.Tb.Fd.sz; omega
      have hsl : FdsOf wr (.slice aa A.length acap) A := OwnR.sl encF_len (by decide) (OwnR.chg0 OA5.out hc)
      obtain ⟨b, off, haa, hb, hcells⟩ := FdsOf.cells hsl (by omega)
      obtain ⟨d0, d1, d2⟩ := hcells k f hf
      have hst : s + f.sz = tot (A.take (k + 1)) := by rw [tot_take A hf, hs]
      obtain ⟨z, hz⟩ : ∃ z, z = f.sz := ⟨_, rfl⟩
      rw [← hz] at hst hfz
      have HST := Lib.hid hst; have HZ := Lib.hid hz; have HC := Lib.hid hc
      have hkI : (k : Int) < (A.length : Int) := by omega
      clear hc hsl hcells hst hz hs hf
      rw [haa]
      go_wp2_with fail
      refine (rsize_any f _ (by rw [← HZ.out]; omega)).mono ?_; rintro e w6 ⟨he, hw6⟩
      rw [← HZ.out] at he
      subst he
      have hc6 : Chg [] w5 w6 := by rw [hw6]; exact HC.out.alloc _
      have HC6 := Lib.hid hc6
      clear hw6 hc6 HC d0 d1 d2
      go_wp2_with fail
      go_roundw
      case rel => exact ⟨k + 1, by omega, by go_num, ⟨s + z, HST.out, by omega, by go_num⟩, HC6.out⟩
      case measure => simp [intOf]; omega
    · obtain rfl : k = A.length := by omega
      have hsN : s = N := by rw [hs, List.take_length, HN.out]
      rw [hsN]
      have HCl := Lib.hid hc
      clear hc hs hsN
      have HC6 := Lib.hid (HC5.out.trans' HCl.out); have HE6 := Lib.hid (HE5.out.chg0 HCl.out); have HD6 := Lib.hid (HD5.out.chg0 HCl.out); have HV6 := Lib.hid (HV5.out.chg0 HCl.out); have OA6 := Lib.hid (OwnR.chg0 OA5.out HCl.out); have HS6 := Lib.hid (HS5.out.le HCl.out.size)
      clear HCl HC5 HE5 HD5 HV5 OA5 HS5
      rename_i wl
      go_wp2_with fail
      go_loopw [13] (fun iv wr => ∃ (k : Nat) (es : List Fld) (F1 F2 F3 : List Nat), k ≤ 2 ∧ iv = .int .i64 k ∧ EH W wr c F1 p1 m es 0 0 false ∧ DH W wr d F2 p2 m es m list false ∧ DH W wr v F3 p3 m es m 1099511627776 false ∧ OwnF wr B4 (Value.slice aa A.length acap) A ∧ Sep wr [(Value.slice aa A.length acap).ownBlock.toList, v :: F3, d :: F2, c :: F1] ∧ Chg [] W wr) (fun iv _ => 2 - (intOf iv).toNat)
      case atStart => exact ⟨0, [], F1, F2, F3, by omega, rfl, HE6.out, HD6.out, HV6.out, OA6.out, HS6.out, HC6.out⟩
      case round =>
        clear HE6 HD6 HV6 OA6 HS6 HC6
        obtain ⟨k, es, F1, F2, F3, hk, rfl, hE, hD, hV, hO, hS, hC⟩ := hrel
        by_cases hk2 : k < 2
        · have g2 : decide ((k : Int) < 2) = true := decide_eq_true (by omega)
          obtain ⟨P, hP⟩ : ∃ P, P = Hp.encB m es 0 0 false A := ⟨_, rfl⟩
          have hd1 := decB_encB (m := m) (es := es) (least := 0) (last := 0) (limit := m) (called := false) (list := list) (L := A) hD.tab.inv sA.out (fun _ => Nat.le_refl _) (by simp)
          have hv1 := decB_encB (m := m) (es := es) (least := 0) (last := 0) (limit := m) (called := false) (list := 1099511627776) (L := A) hD.tab.inv sA.out (fun _ => Nat.le_refl _) (by simp)
          have hPm : P.2.1 = m := by rw [hP]; rfl
          have hPl : P.1.length ≤ 20 * 818 := by
            have := encL_le m A es 800 (fun f hf => by have := SA0.out f hf; omega)
            rw [hP]
            show ([] ++ (encL m es A).1).length ≤ _
            exact Nat.le_trans this (Nat.mul_le_mul_right _ lA)
          rw [← hP, ← HN.out, hPm] at hd1 hv1
          rw [if_neg (by omega)] at hv1
          obtain ⟨E, mm, es2⟩ := P
          simp only at hPm hd1 hv1 hPl
          have hP2 : Hp.encB m es 0 0 false A = (E, m, es2) := by rw [← hP, hPm]
          have EE := Lib.hid hP2; have HV1 := Lib.hid hv1
          have HE := Lib.hid hE; have HD := Lib.hid hD; have HV := Lib.hid hV; have HO := Lib.hid hO; have HS := Lib.hid hS; have HC := Lib.hid hC
          clear hE hD hV hO hS hC hP hv1 hP2 hPm
          by_cases hlt : list < (N : Int)
          · have g3 : decide (list < (N : Int)) = true := decide_eq_true hlt
            skip
            have hcd : Hp.decB m es m list false E = ([], 4, false, m, es2) := by rw [hd1]; first | rw [if_pos hlt] | rw [if_neg hlt]
            have hcd' := Lib.hid hcd
            clear hcd hd1
            go_wp2_with fail
            refine (encode_any HE.out (Value.slice aa A.length acap) A (OwnR.sl encF_len (by decide) HO.out) (ap_hap (HS.out.get 3 0 rfl rfl (by decide)) (fun x hx => hx)) sA.out (by omega)).mono ?_; rintro e w6 ⟨r1, F1a, rfl, o1, e1, f1, c6⟩
            rw [EE.out] at o1 e1
            simp only at o1 e1
            have HC6 := Lib.hid (HC.out.trans c6 (fun x hx => Or.inr (HE.out.los x hx))); have HE6 := Lib.hid e1; have O1 := Lib.hid o1
            have HD6 := Lib.hid (HD.out.chg c6 (HS.out.get 2 3 rfl rfl (by decide)) HE.out.los)
            have HV6 := Lib.hid (HV.out.chg c6 (HS.out.get 1 3 rfl rfl (by decide)) HE.out.los)
            have HO6 := Lib.hid (OwnR.chg HO.out c6 (fun g hg hx => HS.out.get 0 3 rfl rfl (by decide) g (by simpa using hg) hx))
            have HS6 : Hid (Sep w6 [(Value.slice aa A.length acap).ownBlock.toList, v :: F3, d :: F2, c :: F1a]) := Lib.hid (HS.out.put 3 rfl (fresh_cons f1) e1.lt c6.size)
            clear o1 e1 f1 c6 HC HE HD HV HO HS
            go_wp2_with fail
            refine (decode_any HD6.out r1 E (OwnB.bytes O1.out) (fun _ a n cap e => ⟨(own_block O1.out a n cap e).2, fun hx => DH.apart HD6.out O1.out _ hx (by subst e; simp [Value.ownBlock])⟩) (by omega)).mono ?_; rintro e w7 ⟨rx, F2a, he, ox, d7, f7, c7, a7⟩
            rw [hcd'.out] at he ox d7
            simp only at he ox d7
            subst he
            obtain ⟨xa, xc, rfl, _, _⟩ := OwnR.slice ox
            have HC7 := Lib.hid (HC6.out.trans c7 (fun x hx => Or.inr (HD6.out.los x hx))); have HD7 := Lib.hid d7
            have HE7 := Lib.hid (HE6.out.chg c7 (HS6.out.get 3 2 rfl rfl (by decide)) HD6.out.los)
            have HV7 := Lib.hid (HV6.out.chg c7 (HS6.out.get 1 2 rfl rfl (by decide)) HD6.out.los)
            have HO7 := Lib.hid (OwnR.chg HO6.out c7 (fun g hg hx => HS6.out.get 0 2 rfl rfl (by decide) g (by simpa using hg) hx))
            have O1c := Lib.hid (OwnB.chg O1.out c7 (fun g hg hx => DH.apart HD6.out O1.out g hx (by simpa using hg)))
            have HS7 : Hid (Sep w7 [(Value.slice aa A.length acap).ownBlock.toList, v :: F3, d :: F2a, c :: F1a]) := Lib.hid (HS6.out.put 2 rfl (fresh_cons f7) d7.lt c7.size)
            clear ox d7 f7 c7 a7 HC6 HE6 HD6 HV6 HO6 HS6 O1
            go_wp2_with fail
            refine (decode_any HV7.out r1 E (OwnB.bytes O1c.out) (fun _ a n cap e => ⟨(own_block O1c.out a n cap e).2, fun hx => DH.apart HV7.out O1c.out _ hx (by subst e; simp [Value.ownBlock])⟩) (by omega)).mono ?_; rintro e w8 ⟨ry, F3a, he, oy, d8, f8, c8, a8⟩
            rw [HV1.out] at he oy d8
            simp only at he oy d8
            subst he
            have HC8 := Lib.hid (HC7.out.trans c8 (fun x hx => Or.inr (HV7.out.los x hx))); have HV8 := Lib.hid d8
            have HE8 := Lib.hid (HE7.out.chg c8 (HS7.out.get 3 1 rfl rfl (by decide)) HV7.out.los)
            have HD8 := Lib.hid (HD7.out.chg c8 (HS7.out.get 2 1 rfl rfl (by decide)) HV7.out.los)
            have HO8 := Lib.hid (OwnR.chg HO7.out c8 (fun g hg hx => HS7.out.get 0 1 rfl rfl (by decide) g (by simpa using hg) hx))
            have HS8 : Hid (Sep w8 [(Value.slice aa A.length acap).ownBlock.toList, v :: F3a, d :: F2a, c :: F1a]) := Lib.hid (HS7.out.put 1 rfl (fresh_cons f8) d8.lt c8.size)
            clear oy d8 f8 c8 a8 HC7 HE7 HD7 HV7 HO7 HS7 O1c
            go_wp2_with fail
            go_quiet ((first
              | (go_at_call 19; first | exact Calls.quiet_of_same ((decsize_eq (HD8.out.chg0 ((Chg.refl _).drewN _))).mono (fun e w' h => ⟨h.1, h.2.symm⟩)) | exact Calls.quiet_of_same ((decsize_eq (HV8.out.chg0 ((Chg.refl _).drewN _))).mono (fun e w' h => ⟨h.1, h.2.symm⟩)))
              | (go_at_call 22; first | exact Calls.quiet_of_same ((decmax_eq (HD8.out.chg0 ((Chg.refl _).drewN _))).mono (fun e w' h => ⟨h.1, h.2.symm⟩)) | exact Calls.quiet_of_same ((decmax_eq (HV8.out.chg0 ((Chg.refl _).drewN _))).mono (fun e w' h => ⟨h.1, h.2.symm⟩)))))
            have cq := (Chg.refl (l := []) w8).drewN nq
            go_wp2_with fail
            go_roundw
            case rel => exact ⟨k + 1, es2, F1a, F2a, F3a, by omega, by go_num, HE8.out.chg0 cq, HD8.out.chg0 cq, HV8.out.chg0 cq, OwnR.chg0 HO8.out cq, HS8.out.le (Nat.le_refl _), HC8.out.trans' cq⟩
            case measure => simp [intOf]; omega
          · have g3 : decide (list < (N : Int)) = false := decide_eq_false hlt
            skip
            have hcd : Hp.decB m es m list false E = (A, 0, false, m, es2) := by rw [hd1]; first | rw [if_pos hlt] | rw [if_neg hlt]
            have hcd' := Lib.hid hcd
            clear hcd hd1
            go_wp2_with fail
            refine (encode_any HE.out (Value.slice aa A.length acap) A (OwnR.sl encF_len (by decide) HO.out) (ap_hap (HS.out.get 3 0 rfl rfl (by decide)) (fun x hx => hx)) sA.out (by omega)).mono ?_; rintro e w6 ⟨r1, F1a, rfl, o1, e1, f1, c6⟩
            rw [EE.out] at o1 e1
            simp only at o1 e1
            have HC6 := Lib.hid (HC.out.trans c6 (fun x hx => Or.inr (HE.out.los x hx))); have HE6 := Lib.hid e1; have O1 := Lib.hid o1
            have HD6 := Lib.hid (HD.out.chg c6 (HS.out.get 2 3 rfl rfl (by decide)) HE.out.los)
            have HV6 := Lib.hid (HV.out.chg c6 (HS.out.get 1 3 rfl rfl (by decide)) HE.out.los)
            have HO6 := Lib.hid (OwnR.chg HO.out c6 (fun g hg hx => HS.out.get 0 3 rfl rfl (by decide) g (by simpa using hg) hx))
            have HS6 : Hid (Sep w6 [(Value.slice aa A.length acap).ownBlock.toList, v :: F3, d :: F2, c :: F1a]) := Lib.hid (HS.out.put 3 rfl (fresh_cons f1) e1.lt c6.size)
            clear o1 e1 f1 c6 HC HE HD HV HO HS
            go_wp2_with fail
            refine (decode_any HD6.out r1 E (OwnB.bytes O1.out) (fun _ a n cap e => ⟨(own_block O1.out a n cap e).2, fun hx => DH.apart HD6.out O1.out _ hx (by subst e; simp [Value.ownBlock])⟩) (by omega)).mono ?_; rintro e w7 ⟨rx, F2a, he, ox, d7, f7, c7, a7⟩
            rw [hcd'.out] at he ox d7
            simp only at he ox d7
            subst he
            obtain ⟨xa, xc, rfl, _, _⟩ := OwnR.slice ox
            have HC7 := Lib.hid (HC6.out.trans c7 (fun x hx => Or.inr (HD6.out.los x hx))); have HD7 := Lib.hid d7
            have HE7 := Lib.hid (HE6.out.chg c7 (HS6.out.get 3 2 rfl rfl (by decide)) HD6.out.los)
            have HV7 := Lib.hid (HV6.out.chg c7 (HS6.out.get 1 2 rfl rfl (by decide)) HD6.out.los)
            have HO7 := Lib.hid (OwnR.chg HO6.out c7 (fun g hg hx => HS6.out.get 0 2 rfl rfl (by decide) g (by simpa using hg) hx))
            have O1c := Lib.hid (OwnB.chg O1.out c7 (fun g hg hx => DH.apart HD6.out O1.out g hx (by simpa using hg)))
            have HS7 : Hid (Sep w7 [(Value.slice aa A.length acap).ownBlock.toList, v :: F3, d :: F2a, c :: F1a]) := Lib.hid (HS6.out.put 2 rfl (fresh_cons f7) d7.lt c7.size)
            clear ox d7 f7 c7 a7 HC6 HE6 HD6 HV6 HO6 HS6 O1
            go_wp2_with fail
            refine (decode_any HV7.out r1 E (OwnB.bytes O1c.out) (fun _ a n cap e => ⟨(own_block O1c.out a n cap e).2, fun hx => DH.apart HV7.out O1c.out _ hx (by subst e; simp [Value.ownBlock])⟩) (by omega)).mono ?_; rintro e w8 ⟨ry, F3a, he, oy, d8, f8, c8, a8⟩
            rw [HV1.out] at he oy d8
            simp only at he oy d8
            subst he
            have HC8 := Lib.hid (HC7.out.trans c8 (fun x hx => Or.inr (HV7.out.los x hx))); have HV8 := Lib.hid d8
            have HE8 := Lib.hid (HE7.out.chg c8 (HS7.out.get 3 1 rfl rfl (by decide)) HV7.out.los)
            have HD8 := Lib.hid (HD7.out.chg c8 (HS7.out.get 2 1 rfl rfl (by decide)) HV7.out.los)
            have HO8 := Lib.hid (OwnR.chg HO7.out c8 (fun g hg hx => HS7.out.get 0 1 rfl rfl (by decide) g (by simpa using hg) hx))
            have HS8 : Hid (Sep w8 [(Value.slice aa A.length acap).ownBlock.toList, v :: F3a, d :: F2a, c :: F1a]) := Lib.hid (HS7.out.put 1 rfl (fresh_cons f8) d8.lt c8.size)
            clear oy d8 f8 c8 a8 HC7 HE7 HD7 HV7 HO7 HS7 O1c
            go_wp2_with fail
            go_quiet ((first
              | (go_at_call 19; first | exact Calls.quiet_of_same ((decsize_eq (HD8.out.chg0 ((Chg.refl _).drewN _))).mono (fun e w' h => ⟨h.1, h.2.symm⟩)) | exact Calls.quiet_of_same ((decsize_eq (HV8.out.chg0 ((Chg.refl _).drewN _))).mono (fun e w' h => ⟨h.1, h.2.symm⟩)))
              | (go_at_call 22; first | exact Calls.quiet_of_same ((decmax_eq (HD8.out.chg0 ((Chg.refl _).drewN _))).mono (fun e w' h => ⟨h.1, h.2.symm⟩)) | exact Calls.quiet_of_same ((decmax_eq (HV8.out.chg0 ((Chg.refl _).drewN _))).mono (fun e w' h => ⟨h.1, h.2.symm⟩)))))
            have cq := (Chg.refl (l := []) w8).drewN nq
            go_wp2_with fail
            go_roundw
            case rel => exact ⟨k + 1, es2, F1a, F2a, F3a, by omega, by go_num, HE8.out.chg0 cq, HD8.out.chg0 cq, HV8.out.chg0 cq, OwnR.chg0 HO8.out cq, HS8.out.le (Nat.le_refl _), HC8.out.trans' cq⟩
            case measure => simp [intOf]; omega
        · obtain rfl : k = 2 := by omega
          have HC := Lib.hid hC
          clear hE hD hV hO hS hC
          go_wp2_with fail
          go_ret
          exact ⟨rfl, HC.out.below_nil⟩

/-! ### The row's step -/
theorem own : ownKnob Try.prog.godebug = none := by kernel_rfl
theorem laid : laidOutB Try.prog = true := by kernel_rfl

set_option maxRecDepth 100000 in
theorem lifted (os : Os) (started : os.Started) (H : Type) (enc : TypeId × Value → H) :
    ReturnsInHanded {} Try.checked os 6 .any (Rows.hpackLongSpec.pre6 enc Try.prog Try.f6 Rows.hpackLongRow.domain false) (Rows.hpackLongSpec.post enc Try.prog Try.f6 false true false false) := by
  refine lift_law (C := Try.checked) (tb := 4) own started (by kernel_rfl) Try.func6
    (ChangeSpec.witness6 (enc := enc) (C := Try.checked) false ⟨#[], #[.int .i64 0, .slice none 0 0, .int .i64 0], []⟩ 8 (by kernel_rfl) (by kernel_rfl) (by kernel_rfl) (by kernel_rfl))
    laid (by rw [Try.params6]; intro t ht; simp only [List.mem_cons, List.not_mem_nil, or_false] at ht; rcases ht with rfl | rfl | rfl <;> exact ⟨by kernel_rfl, of_decide_eq_true (by kernel_rfl)⟩) (by kernel_rfl) Try.underlying4 rfl
    (fun ds h => by rw [Try.params6] at h; match ds, h with | [d0, d1, d2], _ => rfl) ?_
  intro W base args ds before hval hA hlt hsz
  rw [Try.params6] at hA hval
  try rw [Try.params6] at hsz
  have hlt0 := hlt
  obtain ⟨v0, vs0, d0, ds0, p0, q0, hargs, rfl, rfl, h0, r0⟩ := trodAll_cons hA
  obtain ⟨v1, vs1, d1, ds1, p1, q1, rfl, rfl, rfl, h1, r1⟩ := trodAll_cons r0
  obtain ⟨v2, vs2, d2, ds2, p2, q2, rfl, rfl, rfl, h2, r2⟩ := trodAll_cons r1
  obtain ⟨rfl, rfl, rfl⟩ := trodAll_nil r2
  obtain rfl : args = #[v0, v1, v2] := by cases args; simp_all
  have l0 : ∀ p ∈ p0, p.block < W.heap.size := fun x hx => hlt x (by simp [hx])
  have l1 : ∀ p ∈ p1, p.block < W.heap.size := fun x hx => hlt x (by simp [hx])
  have l2 : ∀ p ∈ p2, p.block < W.heap.size := fun x hx => hlt x (by simp [hx])
  obtain ⟨a0, rfl, rfl, rfl, wa0⟩ := open_int Try.underlying3 (hval 0 3 v0 rfl rfl) h0
  obtain ⟨l1, m1, _, _, s1⟩ := open_slice_w 3 Go.Proofs.Ytmoeioaahampaaa.Tb.encF Go.Proofs.Ytmoeioaahampaaa.Tb.Fd.In Try.underlying26 (by kernel_rfl) (by omega) (hval 1 26 v1 rfl rfl) Go.Proofs.Ytmoeioaahampaaa.Tb.decF h1 l1 (small_of hsz (j := 1) rfl rfl)
  obtain ⟨a2, rfl, rfl, rfl, wa2⟩ := open_int Try.underlying3 (hval 2 3 v2 rfl rfl) h2
  exact walk a0 v1 l1 a2 W m1 s1

theorem over : Rows.hpackLongRow.holds Try.pinned (OpenSpec.ofChange Rows.hpackLongSpec) :=
  OpenClaim.holds_of_wide 6 Try.f6 rfl rfl rfl rfl rfl rfl rfl ⟨rfl, rfl, rfl, rfl, rfl⟩ rfl rfl rfl rfl rfl (by kernel_rfl) Try.func6 (by kernel_rfl)
    (of_decide_eq_true (by kernel_rfl)) (by unfold Func.isWrapper; first | (rw [if_pos (by decide +kernel)]; kernel_rfl) | (rw [if_neg (by decide +kernel)]; exact ⟨rfl, rfl⟩))
    (fun os started H enc _ => lifted os started H enc)

/-- The statement. -/
theorem proved : Rows.HpackLongSaid :=
  over
#print axioms proved

end Go.Proofs.Ytmoeioaahampaaa.HLong
