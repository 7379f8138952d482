/-
  HpackEncodes: fields have one block: any Max, any steps.
-/
import Derived.Test.YtmoeioaahampaaaRe
namespace Go.Proofs.Ytmoeioaahampaaa.HEncodes
open Go.ChangeShapes Go.WideShapes Go.ChangeAt Go.RowKit
open Go.Proofs.Ytmoeioaahampaaa.B Go.Proofs.Ytmoeioaahampaaa.Hi Go.Proofs.Ytmoeioaahampaaa.Tb Go.Proofs.Ytmoeioaahampaaa.Tb.Hp
open Go.Proofs.Ytmoeioaahampaaa.Hf (bx)
set_option linter.unusedVariables false
set_option linter.unusedSimpArgs false

abbrev Fld := Go.Proofs.Ytmoeioaahampaaa.Tb.Fd
theorem upd_le (n : Nat) : (upd n).length ≤ 6 := putI_len 32 5 n
theorem encB_le {m : Nat} {es L : List Fld} {least last : Nat} {called : Bool} (h : ∀ f ∈ L, f.n.size ≤ 400 ∧ f.v.size ≤ 400) (hl : L.length ≤ 20) : (Hp.encB m es least last called L).1.length ≤ 20 * 818 + 12 := by
  have key : ∀ M ES, (encL M ES L).1.length ≤ 20 * 818 := fun M ES => Nat.le_trans (encL_le M L ES 800 (fun f hf => by have := h f hf; omega)) (Nat.mul_le_mul_right _ hl)
  have hu := encU_le m es least last called
  show ((encU m es least last called).1 ++ (encL (encU m es least last called).2.1 (encU m es least last called).2.2 L).1).length ≤ _
  rw [List.length_append]
  have := key (encU m es least last called).2.1 (encU m es least last called).2.2
  omega
/-- The two ends' calls of SetMax say the same. -/
structure Same (least last : Nat) (called : Bool) (ns : List Nat) : Prop where
  c : called = calledN ns
  l : called = true → least = leastN ns ∧ last = lastN ns
theorem Same.enc {least last : Nat} {called : Bool} {ns : List Nat} (h : Same least last called ns) (m : Nat) (es l : List Fld) : Hp.encB m es (leastN ns) (lastN ns) (calledN ns) l = Hp.encB m es least last called l := by
  rw [← h.c]
  cases called with
  | false => rfl
  | true => obtain ⟨h1, h2⟩ := h.l rfl; rw [h1, h2]
theorem Same.snoc {least last : Nat} {called : Bool} {ns : List Nat} (h : Same least last called ns) (n : Nat) : Same (if called = true then min least n else n) n true (ns ++ [n]) := by
  refine ⟨(calledN_snoc ns n).symm, fun _ => ⟨?_, (lastN_snoc ns n).symm⟩⟩
  rw [leastN_snoc, ← h.c]
  cases called with
  | false => rfl
  | true => rw [if_pos rfl, if_pos rfl, (h.l rfl).1]
theorem Same.nil (least last : Nat) : Same least last false [] := ⟨rfl, by simp⟩
set_option maxRecDepth 100000 in
set_option maxHeartbeats 8000000 in
theorem walk (max : Int) (va : Value) (zs : List S) (W : World) (hzm : zs.length ≤ maxLen) (hsl : SliceOf W va 4 encS zs) (hin : ∀ z ∈ zs, z.In W) :
    Calls Try.prog 10 #[.int .i64 max, va] W fun e w' => e = .returned (.bool true) ∧ Below W.heap.size W w' := by
  obtain ⟨a, cap, rfl, hcap, hcapm⟩ := hsl.len
  have HSL := Lib.hid hsl; have HIN := Lib.hid hin
  unfold maxLen at hzm hcapm
  clear hsl hin
  obtain ⟨m0, hm⟩ : ∃ m, m = hgt max := ⟨_, rfl⟩
  have hm6 : m0 ≤ 65536 := by rw [hm]; exact hgt_le _
  have HM := Lib.hid hm
  clear hm
  go_enter Try.func10, Try.ntmps10
  go_wp2_with fail
  refine (shown_any W).mono ?_; rintro e w1 ⟨rfl, c1⟩
  go_wp2_with fail
  refine (newenc_any (W := W) max w1 (by exact c1.below_nil)).mono ?_; rintro e w2 ⟨c, F1, p1, rfl, hE, c2, hn1⟩
  rw [← HM.out] at hE
  have c02 := c1.trans' c2
  have hs02 := c02.size
  go_wp2_with fail
  refine (renew_any (W := W) max w2 hs02).mono ?_; rintro e w3 ⟨q, t, sv, cv, rfl, hR, c3, hn2⟩
  rw [← HM.out] at hR
  have c03 := c02.trans' c3
  have HS3 : Hid (Sep w3 [footE q t sv cv, c :: F1]) := Lib.hid (((Sep.nil w1).add hn1 hE.lt c2.size).add hn2 hR.lt c3.size)
  have HC3 := Lib.hid c03; have HE3 := Lib.hid (hE.chg0 c3); have HR3 := Lib.hid hR
  clear hE hR c1 c2 c3 c02 c03 hn1 hn2 hs02
  go_wp2_with fail
  go_loopw [8] (fun iv wr => ∃ (k m : Nat) (es : List Fld) (least last : Nat) (called : Bool) (ns : List Nat) (F1 : List Nat) (sv cv : Value), k ≤ zs.length ∧ k ≤ 25 ∧ ns.length ≤ k ∧ iv = .int .i64 k ∧ EH W wr c F1 p1 m es least last called ∧ RE W wr q t sv cv m es ns ∧ Same least last called ns ∧ Sep wr [footE q t sv cv, c :: F1] ∧ Chg [] W wr) (fun iv _ => 25 - (intOf iv).toNat)
  case atStart => exact ⟨0, m0, [], 0, 0, false, [], F1, sv, cv, by omega, by omega, by simp, rfl, HE3.out, HR3.out, Same.nil 0 0, HS3.out, HC3.out⟩
  case round =>
    clear HE3 HR3 HS3 HC3
    obtain ⟨k, m, es, least, last, called, ns, F1, sv, cv, hk, hk2, hnk, rfl, hE, hR, hSm, hS, hC⟩ := hrel
    rename_i wr
    have HE := Lib.hid hE; have HR := Lib.hid hR; have HS := Lib.hid hS; have HC := Lib.hid hC; have HSM := Lib.hid hSm
    clear hE hR hS hC hSm
    by_cases hlt : k < zs.length ∧ k < 25
    · obtain ⟨hlt1, hlt2⟩ := hlt
      have hlt3 : (k : Int) < 25 := by omega
      obtain ⟨o, ho⟩ : ∃ o, zs[k]? = some o := ⟨_, List.getElem?_eq_getElem hlt1⟩
      obtain ⟨b, off, rfl, hbw, hcell⟩ := s_cells HSL.out (by omega)
      obtain ⟨d0, d1, d2, d3⟩ := hcell k o ho
      have hbc : ∀ w', Below W.heap.size W w' → ∀ j, w'.cell? ⟨b, j, none⟩ = W.cell? ⟨b, j, none⟩ := fun w' h j => h.cell (p := ⟨b, j, none⟩) hbw
      have HBC := Lib.hid hbc
      have oin := HIN.out o (List.mem_of_getElem? ho)
      have OIN := Lib.hid oin
      have c0 := d0; have c1 := d1; have c2 := d2
      rw [← HBC.out wr HC.out.below_nil] at c0 c1 c2
      have D1 := Lib.hid d1; have D2 := Lib.hid d2
      clear d0 d1 d2 d3 hbc hcell ho oin
      by_cases hkind : o.k = 1
      · rw [hkind] at c0
        clear c2
        go_wp2_with fail
        refine (esetmax_any HE.out o.n).mono ?_; rintro e w9 ⟨rfl, h9, c9⟩
        have lo9 : ∀ x ∈ [c], W.heap.size ≤ x := fun x hx => HE.out.los x (by simp at hx; simp [hx])
        have in9 : ∀ x ∈ [c], x ∈ c :: F1 := fun x hx => by simp at hx; simp [hx]
        have HC9 := Lib.hid (HC.out.trans c9 (fun x hx => Or.inr (lo9 x hx))); have HE9 := Lib.hid h9
        have HR9 := Lib.hid (HR.out.chg c9 (fun x hx hy => HS.out.get 0 1 rfl rfl (by decide) x hx (in9 x hy)))
        have HS9 := Lib.hid (HS.out.le c9.size)
        have e1 : World.cell? w9 ⟨b, off + k * 4 + 1, none⟩ = some (.int .i64 o.n) := by rw [HBC.out w9 HC9.out.below_nil]; exact D1.out
        clear h9 c9 lo9 in9 HC HE HR HS c0 c1
        go_wp2_with fail
        refine (resetmax_any HR9.out o.n (by omega)).mono ?_; rintro e w8 ⟨cv', rfl, h8, c8, f8⟩
        have in8 : ∀ x ∈ q :: cv.ownBlock.toList, x ∈ footE q t sv cv := fun x hx => by
          rcases List.mem_cons.1 hx with rfl | hx
          · simp [footE]
          · simp only [footE, List.mem_cons, List.mem_append]; exact Or.inr (Or.inr hx)
        have HC8 := Lib.hid (HC9.out.trans c8 (fun x hx => Or.inr (HR9.out.los x (in8 x hx)))); have HR8 := Lib.hid h8
        have HE8 := Lib.hid (HE9.out.chg c8 (fun x hx hy => HS9.out.get 1 0 rfl rfl (by decide) x hx (in8 x hy)) (fun x hx => HR9.out.los x (in8 x hx)))
        have HS8 : Hid (Sep w8 [footE q t sv cv', c :: F1]) := Lib.hid (HS9.out.put 0 rfl f8 h8.lt c8.size)
        clear h8 c8 in8 f8 HC9 HE9 HR9 HS9 e1
        go_wp2_with fail
        go_roundw
        case rel => exact ⟨k + 1, m, es, _, _, true, _, F1, sv, cv', by omega, by omega, by simp; omega, by go_num, HE8.out, HR8.out, HSM.out.snoc _, HS8.out, HC8.out⟩
        case measure => simp [intOf]; omega
      · have g1 : (o.k == 1) = false := by simp [hkind]
        obtain ⟨la, lc, hlv, hlc, hlcm⟩ := OIN.out.sl.len
        rw [hlv] at c2
        have HLV := Lib.hid hlv
        obtain ⟨A, hA⟩ : ∃ A, A = smallL o.l := ⟨_, rfl⟩
        have sA0 : ∀ f ∈ A, f.n.size ≤ 400 ∧ f.v.size ≤ 400 := fun f hf => by rw [hA] at hf; exact smallL_sz f hf
        have lA : A.length ≤ 20 := by rw [hA]; exact smallL_len _
        have HAA := Lib.hid hA
        have sA : Hid (∀ f ∈ A, f.n.size ≤ 100000 ∧ f.v.size ≤ 100000) := Lib.hid (fun f hf => by have := sA0 f hf; omega)
        have sA1 : Hid (∀ f ∈ A, f.n.size ≤ 10000 ∧ f.v.size ≤ 10000) := Lib.hid (fun f hf => by have := sA0 f hf; omega)
        obtain ⟨P, hP⟩ : ∃ P, P = Hp.encB m es least last called A := ⟨_, rfl⟩
        have hPl := encB_le (m := m) (es := es) (least := least) (last := last) (called := called) sA0 lA
        have hPR := HSM.out.enc m es A
        rw [← hP] at hPl hPR
        obtain ⟨E, m2, es2⟩ := P
        simp only at hPl
        have EE := Lib.hid hP.symm; have ER := Lib.hid hPR
        obtain ⟨sE, hsE⟩ : ∃ sE : ByteArray, sE = ⟨E.toArray⟩ := ⟨_, rfl⟩
        have HSE := Lib.hid hsE
        clear hA sA0 hP hPR hlv hlc hlcm hsE
        go_wp2_with fail
        refine (small_any (HLV.out ▸ (OIN.out.le HC.out).sl) OIN.out.fl).mono ?_; rintro e w4 ⟨ra, rfl, oa, c4⟩
        rw [← HAA.out] at oa
        obtain ⟨aa, acap, rfl, hac, hacm⟩ := OwnR.slice oa
        unfold maxLen at hacm
        have HC4 := Lib.hid (HC.out.trans' c4); have HE4 := Lib.hid (HE.out.chg0 c4); have HR4 := Lib.hid (HR.out.chg0 c4)
        have HS4 : Hid (Sep w4 [(Value.slice aa A.length acap).ownBlock.toList, footE q t sv cv, c :: F1]) := Lib.hid (HS.out.add (OwnR.lo oa) (OwnR.lt oa) c4.size)
        obtain ⟨B4, hB4⟩ : ∃ B4, B4 = wr.heap.size := ⟨_, rfl⟩
        have hB4W : W.heap.size ≤ B4 := by rw [hB4]; exact HC.out.size
        rw [← hB4] at oa
        have HO4 := Lib.hid oa
        clear oa c4 HC HE HR HS hB4 c0 c1 c2
        go_wp2_with fail
        refine (encode_any HE4.out (.slice aa A.length acap) A (OwnR.sl encF_len (by decide) HO4.out) (ap_hap (HS4.out.get 2 0 rfl rfl (by decide)) (fun x hx => hx)) sA.out (by omega)).mono ?_; rintro e w6 ⟨r1, F1a, rfl, o1, e1, f1, c6⟩
        rw [EE.out] at o1 e1
        simp only at o1 e1
        obtain ⟨ba, bcap, rfl, hbc1, hbc2⟩ := (OwnB.bytes o1).slice
        unfold maxLen at hbc2
        have HC6 := Lib.hid (HC4.out.trans c6 (fun x hx => Or.inr (HE4.out.los x hx))); have HE6 := Lib.hid e1
        have HR6 := Lib.hid (HR4.out.chg c6 (HS4.out.get 1 2 rfl rfl (by decide)))
        have HO6 := Lib.hid (OwnR.chg HO4.out c6 (fun g hg hx => HS4.out.get 0 2 rfl rfl (by decide) g (by simpa using hg) hx))
        have HS6 : Hid (Sep w6 [(Value.slice ba E.length bcap).ownBlock.toList, (Value.slice aa A.length acap).ownBlock.toList, footE q t sv cv, c :: F1a]) := Lib.hid (HS4.out.putAdd 2 rfl (fresh_cons f1) e1.lt c6.size (OwnB.lo o1) (own_lt o1) (EH.apart e1 o1))
        obtain ⟨B6, hB6⟩ : ∃ B6, B6 = w4.heap.size := ⟨_, rfl⟩
        have hB6W : W.heap.size ≤ B6 := by rw [hB6]; exact HC4.out.size
        rw [← hB6] at o1
        have O1 := Lib.hid o1
        have c2 : World.cell? w6 ⟨b, off + k * 4 + 2, none⟩ = some (.slice la o.l.length lc) := by rw [HBC.out w6 HC6.out.below_nil, D2.out, HLV.out]
        clear o1 e1 f1 c6 HC4 HE4 HR4 HO4 HS4 hB6 HBC D1 D2
        go_wp2_with fail
        refine (small_any (HLV.out ▸ (OIN.out.le HC6.out).sl) OIN.out.fl).mono ?_; rintro e w7 ⟨rb, rfl, ob, c7⟩
        rw [← HAA.out] at ob
        have HC7 := Lib.hid (HC6.out.trans' c7); have HE7 := Lib.hid (HE6.out.chg0 c7); have HR7 := Lib.hid (HR6.out.chg0 c7); have HO7 := Lib.hid (OwnR.chg0 HO6.out c7); have O17 := Lib.hid (OwnB.chg0 O1.out c7); have HS7 := Lib.hid (HS6.out.le c7.size); have OB7 := Lib.hid ob
        clear ob c7 c2 HC6 HE6 HR6 HO6 O1 HS6
        go_wp2_with fail
        refine (same_fds (OwnR.sl encF_len (by decide) HO7.out) (OwnR.sl encF_len (by decide) OB7.out)).mono ?_; rintro e w8 ⟨rfl, c8⟩
        have HC8 := Lib.hid (HC7.out.trans' c8); have HE8 := Lib.hid (HE7.out.chg0 c8); have HR8 := Lib.hid (HR7.out.chg0 c8); have HO8 := Lib.hid (OwnR.chg0 HO7.out c8); have O18 := Lib.hid (OwnB.chg0 O17.out c8); have HS8 := Lib.hid (HS7.out.le c8.size)
        clear c8 HC7 HE7 HR7 HO7 O17 HS7 OB7
        go_upto_region 15 with fail
        have cd : Chg [] w8 w8.drew := (Chg.refl w8).drew
        have k1 := BytesOf.str (OwnB.bytes (OwnB.chg0 O18.out cd))
        rw [← HSE.out] at k1
        have HENC : Hid (Calls Try.prog 32 #[.pointer (some ⟨q, 0, none⟩), .slice aa A.length acap] w8.drew fun e w9 => e = .returned (.string sE) ∧ ∃ sv' cv', RE W w9 q t sv' cv' m2 es2 [] ∧ Chg (footE q t sv cv) w8 w9 ∧ ∀ x ∈ footE q t sv' cv', x ∈ footE q t sv cv ∨ w8.heap.size ≤ x) := by
          refine Lib.hid ((reencode_any (HR8.out.chg0 cd) (.slice aa A.length acap) A (OwnR.sl encF_len (by decide) (OwnR.chg0 HO8.out cd)) (ap_hap (HS8.out.get 2 1 rfl rfl (by decide)) (fun x hx => hx)) sA1.out (by omega) (by omega)).mono ?_)
          rintro e w9 ⟨he, sv', cv', h9, c9, f9⟩
          rw [ER.out] at he h9
          exact ⟨by rw [he, HSE.out], sv', cv', h9, cd.mono (by simp) |>.trans' c9, f9⟩
        go_region_held_law (fun w' => (convert 22 9 (.slice ba E.length bcap)).run Try.prog w' = .ok (.string sE) w') (go_keep) (first
          | (go_at_call 32; go_loud (refine HENC.out.mono ?_; rintro e w9 ⟨rfl, sv', cv', h9, c9, f9⟩; have k0 := BytesOf.str (OwnB.bytes (OwnB.chg O18.out c9 (fun g hg hx => HS8.out.get 0 2 rfl rfl (by decide) g (by simpa using hg) hx))); rw [← HSE.out] at k0; have H9 := Lib.hid h9; have C9 := Lib.hid c9; have F9 := Lib.hid f9; clear h9 c9 f9))
          | fail)
        have HC9 := Lib.hid (HC8.out.trans C9.out (fun x hx => Or.inr (HR8.out.los x hx)))
        have HE9 := Lib.hid (HE8.out.chg C9.out (HS8.out.get 3 2 rfl rfl (by decide)) HR8.out.los)
        have HS9 : Hid (Sep w9 [(Value.slice ba E.length bcap).ownBlock.toList, (Value.slice aa A.length acap).ownBlock.toList, footE q t sv' cv', c :: F1a]) := Lib.hid (HS8.out.put 2 rfl F9.out H9.out.lt C9.out.size)
        have BA9 := Lib.hid (blk_of (OwnR.chg HO8.out C9.out (fun g hg hx => HS8.out.get 1 2 rfl rfl (by decide) g (by simpa using hg) hx)))
        have BB9 := Lib.hid (blk_of (OwnB.chg O18.out C9.out (fun g hg hx => HS8.out.get 0 2 rfl rfl (by decide) g (by simpa using hg) hx)))
        have LA9 : Hid (∀ x ∈ (Value.slice aa A.length acap).ownBlock.toList, W.heap.size ≤ x) := Lib.hid (fun x hx => Nat.le_trans hB4W (OwnR.lo HO8.out x hx))
        have LB9 : Hid (∀ x ∈ (Value.slice ba E.length bcap).ownBlock.toList, W.heap.size ≤ x) := Lib.hid (fun x hx => Nat.le_trans hB6W (OwnB.lo O18.out x hx))
        have HR9 := H9
        clear HC8 HE8 HR8 HO8 O18 HS8 C9 F9 HENC H9 hB4W hB6W k1
        go_wp2_with fail
        go_loopw [12] (fun iv wx => ∃ j : Nat, j ≤ A.length ∧ iv = .int .i64 j ∧ Blk 44 3 wx (.slice aa A.length acap) A.length ∧ Chg (Value.slice aa A.length acap).ownBlock.toList w9 wx) (fun iv _ => A.length - (intOf iv).toNat)
        case atStart => exact ⟨0, Nat.zero_le _, rfl, BA9.out, Chg.refl _⟩
        case round =>
          obtain ⟨j, hj, rfl, hb, hcx⟩ := hrel
          obtain ⟨wx, rfl⟩ : ∃ wx, wx = wr := ⟨_, rfl⟩
          by_cases hjl : j < A.length
          · have hjI : (j : Int) < (A.length : Int) := by omega
            obtain ⟨g, cp, cur, he, hat, hcs⟩ := hb.h (by omega)
            cases he
            have i0 : j * 3 < cur.size := by omega
            have i1 : j * 3 + 1 < cur.size := by omega
            have i2 : j * 3 + 2 < cur.size := by omega
            have z0 : World.cell? wx ⟨g, j * 3, none⟩ = some (cur[j * 3]'i0) := hat.cell (Array.getElem?_eq_getElem i0)
            have z1 : World.cell? wx ⟨g, j * 3 + 1, none⟩ = some (cur[j * 3 + 1]'i1) := hat.cell (Array.getElem?_eq_getElem i1)
            have z2 : World.cell? wx ⟨g, j * 3 + 2, none⟩ = some (cur[j * 3 + 2]'i2) := hat.cell (Array.getElem?_eq_getElem i2)
            have zf : ∀ i, World.frozen? wx ⟨g, i, none⟩ = false := fun i => hat.free i
            generalize cur[j * 3]'i0 = v0 at *
            generalize cur[j * 3 + 1]'i1 = v1 at *
            generalize cur[j * 3 + 2]'i2 = v2 at *
            have hgl := hat.lt
            have HAT := Lib.hid hat; have HCX := Lib.hid hcx; have HCS := Lib.hid hcs
            clear hat hcx hb hcs i0 i1 i2
            go_wp2_with fail
            go_roundw
            case rel => exact ⟨j + 1, by omega, by go_num, ⟨fun _ => ⟨g, _, _, rfl, ((HAT.out.set _ _).set _ _).set _ _, by simp only [Array.size_setIfInBounds]; exact HCS.out⟩⟩, ((HCX.out.setCell (Or.inl (by simp [Value.ownBlock])) _).setCell (Or.inl (by simp [Value.ownBlock])) _).setCell (Or.inl (by simp [Value.ownBlock])) _⟩
            case measure => simp [intOf]; omega
          · obtain rfl : j = A.length := by omega
            have HC10 := Lib.hid (HC9.out.trans hcx (fun x hx => Or.inr (LA9.out x hx)))
            have HE10 := Lib.hid (HE9.out.chg hcx (HS9.out.get 3 1 rfl rfl (by decide)) LA9.out)
            have HR10 := Lib.hid (HR9.out.chg hcx (HS9.out.get 2 1 rfl rfl (by decide)))
            have HS10 := Lib.hid (HS9.out.le hcx.size)
            have BB10 := Lib.hid (BB9.out.chg hcx (HS9.out.get 0 1 rfl rfl (by decide)))
            clear hcx hb HC9 HE9 HR9 HS9 BB9 BA9
            go_wp2_with fail
            go_loopw [13] (fun iv wy => ∃ j : Nat, j ≤ E.length ∧ iv = .int .i64 j ∧ Blk 5 1 wy (.slice ba E.length bcap) E.length ∧ Chg (Value.slice ba E.length bcap).ownBlock.toList wx wy) (fun iv _ => E.length - (intOf iv).toNat)
            case atStart => exact ⟨0, Nat.zero_le _, rfl, BB10.out, Chg.refl _⟩
            case round =>
              obtain ⟨j, hj, rfl, hb, hcx⟩ := hrel
              obtain ⟨wy, rfl⟩ : ∃ wy, wy = wr := ⟨_, rfl⟩
              by_cases hjl : j < E.length
              · have hjI : (j : Int) < (E.length : Int) := by omega
                obtain ⟨g, cp, cur, he, hat, hcs⟩ := hb.h (by omega)
                cases he
                have i0 : j < cur.size := by omega
                have z0 : World.cell? wy ⟨g, j, none⟩ = some (cur[j]'i0) := hat.cell (Array.getElem?_eq_getElem i0)
                have zf : ∀ i, World.frozen? wy ⟨g, i, none⟩ = false := fun i => hat.free i
                generalize cur[j]'i0 = v0 at *
                have hgl := hat.lt
                have HAT := Lib.hid hat; have HCX := Lib.hid hcx; have HCS := Lib.hid hcs
                clear hat hcx hb hcs i0
                go_wp2_with fail
                go_roundw
                case rel => exact ⟨j + 1, by omega, by go_num, ⟨fun _ => ⟨g, _, _, rfl, HAT.out.set _ _, by simp only [Array.size_setIfInBounds]; exact HCS.out⟩⟩, HCX.out.setCell (Or.inl (by simp [Value.ownBlock])) _⟩
                case measure => simp [intOf]; omega
              · obtain rfl : j = E.length := by omega
                have HC11 := Lib.hid (HC10.out.trans hcx (fun x hx => Or.inr (LB9.out x hx)))
                have HE11 := Lib.hid (HE10.out.chg hcx (HS10.out.get 3 0 rfl rfl (by decide)) LB9.out)
                have HR11 := Lib.hid (HR10.out.chg hcx (HS10.out.get 2 0 rfl rfl (by decide)))
                have HS11 := Lib.hid (HS10.out.le hcx.size)
                clear hcx hb HC10 HE10 HR10 HS10 BB10
                go_wp2_with fail
                refine (encsize_eq HE11.out).mono ?_; rintro e w12 ⟨rfl, rfl⟩
                go_wp2_with fail
                refine (resize_any HR11.out).mono ?_; rintro e w13 ⟨rfl, c13⟩
                have HC13 := Lib.hid (HC11.out.trans' c13); have HE13 := Lib.hid (HE11.out.chg0 c13); have HR13 := Lib.hid (HR11.out.chg0 c13); have HS13 := Lib.hid (HS11.out.le c13.size)
                clear c13 HC11 HE11 HR11 HS11
                go_wp2_with fail
                refine (encmax_eq HE13.out).mono ?_; rintro e w14 ⟨rfl, rfl⟩
                go_wp2_with fail
                refine (remax_any HR13.out).mono ?_; rintro e w15 ⟨rfl, rfl⟩
                go_wp2_with fail
                go_roundw
                case rel => exact ⟨k + 1, m2, es2, least, last, false, [], F1a, sv', cv', by omega, by omega, by simp, by go_num, HE13.out, HR13.out, Same.nil _ _, ⟨fun i j A B hij hi hj => HS13.out.ap (i + 2) (j + 2) A B (by omega) hi hj, fun i A hi => HS13.out.lt (i + 2) A hi⟩, HC13.out⟩
                case measure => simp [intOf]; omega
    · have hways : (k < zs.length ∧ decide (k < zs.length) = true ∧ decide ((k : Int) < 25) = false) ∨ (¬ k < zs.length ∧ decide (k < zs.length) = false ∧ (0 : Int) ≤ 1) := by
        by_cases h1 : k < zs.length
        · exact Or.inl ⟨h1, by simpa using h1, by simp; omega⟩
        · exact Or.inr ⟨h1, by simpa using h1, by omega⟩
      clear hlt HE HR HS
      rcases hways with ⟨h1, hd1, hd2⟩ | ⟨h1, hd1, hd2⟩
      all_goals
        go_wp2_with fail
        go_ret
        exact ⟨rfl, HC.out.below_nil⟩

/-! ### The row's step -/
theorem own : ownKnob Try.prog.godebug = none := by kernel_rfl
theorem laid : laidOutB Try.prog = true := by kernel_rfl

set_option maxRecDepth 100000 in
theorem lifted (os : Os) (started : os.Started) (H : Type) (enc : TypeId × Value → H) :
    ReturnsInHanded {} Try.checked os 10 .any (Rows.hpackEncodesSpec.pre6 enc Try.prog Try.f10 Rows.hpackEncodesRow.domain false) (Rows.hpackEncodesSpec.post enc Try.prog Try.f10 false true false false) := by
  refine lift_law (C := Try.checked) (tb := 4) own started (by kernel_rfl) Try.func10
    (ChangeSpec.witness6 (enc := enc) (C := Try.checked) false ⟨#[], #[.int .i64 0, .slice none 0 0], []⟩ 8 (by kernel_rfl) (by kernel_rfl) (by kernel_rfl) (by kernel_rfl))
    laid (by rw [Try.params10]; intro t ht; simp only [List.mem_cons, List.not_mem_nil, or_false] at ht; rcases ht with rfl | rfl <;> exact ⟨by kernel_rfl, of_decide_eq_true (by kernel_rfl)⟩) (by kernel_rfl) Try.underlying4 rfl
    (fun ds h => by rw [Try.params10] at h; match ds, h with | [d0, d1], _ => rfl) ?_
  intro W base args ds before hval hA hlt hsz
  rw [Try.params10] at hA hval
  try rw [Try.params10] at hsz
  have hlt0 := hlt
  obtain ⟨v0, vs0, d0, ds0, p0, q0, hargs, rfl, rfl, h0, r0⟩ := trodAll_cons hA
  obtain ⟨v1, vs1, d1, ds1, p1, q1, rfl, rfl, rfl, h1, r1⟩ := trodAll_cons r0
  obtain ⟨rfl, rfl, rfl⟩ := trodAll_nil r1
  obtain rfl : args = #[v0, v1] := by cases args; simp_all
  have l0 : ∀ p ∈ p0, p.block < W.heap.size := fun x hx => hlt x (by simp [hx])
  have l1 : ∀ p ∈ p1, p.block < W.heap.size := fun x hx => hlt x (by simp [hx])
  obtain ⟨a0, rfl, rfl, rfl, wa0⟩ := open_int Try.underlying3 (hval 0 3 v0 rfl rfl) h0
  obtain ⟨zs, zg, zb, zm, zs1⟩ := open_slice_a 4 encS (S.In W) Try.underlying53 (by kernel_rfl) (by omega) (hval 1 53 v1 rfl rfl) decS h1 l1 (small_of hsz (j := 1) rfl rfl)
  exact walk a0 v1 zs W zm zs1 zg

theorem over : Rows.hpackEncodesRow.holds Try.pinned (OpenSpec.ofChange Rows.hpackEncodesSpec) :=
  OpenClaim.holds_of_wide 10 Try.f10 rfl rfl rfl rfl rfl rfl rfl ⟨rfl, rfl, rfl, rfl, rfl⟩ rfl rfl rfl rfl rfl (by kernel_rfl) Try.func10 (by kernel_rfl)
    (of_decide_eq_true (by kernel_rfl)) (by unfold Func.isWrapper; first | (rw [if_pos (by decide +kernel)]; kernel_rfl) | (rw [if_neg (by decide +kernel)]; exact ⟨rfl, rfl⟩))
    (fun os started H enc _ => lifted os started H enc)

/-- The statement. -/
theorem proved : Rows.HpackEncodesSaid :=
  over
#print axioms proved

end Go.Proofs.Ytmoeioaahampaaa.HEncodes
