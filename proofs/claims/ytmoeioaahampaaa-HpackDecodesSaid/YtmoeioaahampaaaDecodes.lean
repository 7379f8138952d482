/-
  HpackDecodes: octets are a block, or none: any Max, any list, any steps.
-/
import Derived.Test.YtmoeioaahampaaaRd
namespace Go.Proofs.Ytmoeioaahampaaa.HDecodes
open Go.ChangeShapes Go.WideShapes Go.ChangeAt Go.RowKit
open Go.Proofs.Ytmoeioaahampaaa.B Go.Proofs.Ytmoeioaahampaaa.Hi Go.Proofs.Ytmoeioaahampaaa.Tb Go.Proofs.Ytmoeioaahampaaa.Tb.Hp
open Go.Proofs.Ytmoeioaahampaaa.Hf (bx)
set_option linter.unusedVariables false
set_option linter.unusedSimpArgs false

abbrev Fld := Go.Proofs.Ytmoeioaahampaaa.Tb.Fd
set_option maxRecDepth 100000 in
set_option maxHeartbeats 8000000 in
theorem walk (max list : Int) (va : Value) (zs : List S) (W : World) (hzm : zs.length ≤ maxLen) (hsl : SliceOf W va 4 encS zs) (hin : ∀ z ∈ zs, z.In W) :
    Calls Try.prog 8 #[.int .i64 max, .int .i64 list, va] W fun e w' => e = .returned (.bool true) ∧ Below W.heap.size W w' := by
  obtain ⟨a, cap, rfl, hcap, hcapm⟩ := hsl.len
  have HSL := Lib.hid hsl; have HIN := Lib.hid hin
  unfold maxLen at hzm hcapm
  clear hsl hin
  obtain ⟨m0, hm⟩ : ∃ m, m = hgt max := ⟨_, rfl⟩
  have hm6 : m0 ≤ 65536 := by rw [hm]; exact hgt_le _
  have HM := Lib.hid hm
  clear hm
  go_enter Try.func8, Try.ntmps8
  go_wp2_with fail
  refine (shown_any W).mono ?_; rintro e w1 ⟨rfl, c1⟩
  go_wp2_with fail
  refine (newdec_any (W := W) max list w1 (by exact c1.below_nil)).mono ?_; rintro e w2 ⟨d, F1, p1, rfl, hD, c2, hn1⟩
  rw [← HM.out] at hD
  have c02 := c1.trans' c2
  have hs02 := c02.size
  go_wp2_with fail
  refine (rdnew_any (W := W) max list w2 hs02).mono ?_; rintro e w3 ⟨q, t, sv, rfl, hR, c3, hn2⟩
  rw [← HM.out] at hR
  have c03 := c02.trans' c3
  have HS3 : Hid (Sep w3 [footD q t sv, d :: F1]) := Lib.hid (((Sep.nil w1).add hn1 hD.lt c2.size).add hn2 hR.lt c3.size)
  have HC3 := Lib.hid c03; have HD3 := Lib.hid (hD.chg0 c3); have HR3 := Lib.hid hR
  clear hD hR c1 c2 c3 c02 c03 hn1 hn2 hs02
  go_wp2_with fail
  go_loopw [10] (fun iv wr => ∃ (k m : Nat) (es : List Fld) (m2 : Nat) (es2 : List Fld) (limit : Nat) (broken : Bool) (F1 : List Nat) (sv : Value), k ≤ zs.length ∧ k ≤ 25 ∧ iv = .int .i64 k ∧ DH W wr d F1 p1 m es limit list broken ∧ RD W wr q t sv m2 es2 limit list broken ∧ (broken = false → m2 = m ∧ es2 = es) ∧ Sep wr [footD q t sv, d :: F1] ∧ Chg [] W wr) (fun iv _ => 25 - (intOf iv).toNat)
  case atStart => exact ⟨0, m0, [], m0, [], m0, false, F1, sv, by omega, by omega, rfl, HD3.out, HR3.out, fun _ => ⟨rfl, rfl⟩, HS3.out, HC3.out⟩
  case round =>
    clear HD3 HR3 HS3 HC3
    obtain ⟨k, m, es, m2, es2, limit, broken, F1, sv, hk, hk2, rfl, hD, hR, hSm, hS, hC⟩ := hrel
    have HD := Lib.hid hD; have HR := Lib.hid hR; have HS := Lib.hid hS; have HC := Lib.hid hC; have HSM := Lib.hid hSm
    clear hD hR hS hC hSm
    by_cases hlt : k < zs.length ∧ k < 25
    · obtain ⟨hlt1, hlt2⟩ := hlt
      have hlt3 : (k : Int) < 25 := by omega
      obtain ⟨o, ho⟩ : ∃ o, zs[k]? = some o := ⟨_, List.getElem?_eq_getElem hlt1⟩
      obtain ⟨b, off, rfl, hbw, hcell⟩ := s_cells HSL.out (by omega)
      obtain ⟨d0, d1, d2, d3⟩ := hcell k o ho
      have hbc : ∀ w', Below W.heap.size W w' → ∀ j, w'.cell? ⟨b, j, none⟩ = W.cell? ⟨b, j, none⟩ := fun w' h j => h.cell (p := ⟨b, j, none⟩) hbw
      have HBC := Lib.hid hbc
      have oin := HIN.out o (List.mem_of_getElem? ho)
      have OIN := Lib.hid oin
      have c0 := d0; have c1 := d1; have c3 := d3
      rw [← HBC.out wr HC.out.below_nil] at c0 c1 c3
      have D1 := Lib.hid d1
      clear d0 d1 d2 d3 hbc hcell ho oin
      by_cases hkind : o.k = 1
      · rw [hkind] at c0
        clear c3
        go_wp2_with fail
        refine (dsetmax_any HD.out o.n).mono ?_; rintro e w9 ⟨rfl, h9, c9⟩
        have lo9 : ∀ x ∈ [d], W.heap.size ≤ x := fun x hx => HD.out.los x (by simp at hx; simp [hx])
        have in9 : ∀ x ∈ [d], x ∈ d :: F1 := fun x hx => by simp at hx; simp [hx]
        have HC9 := Lib.hid (HC.out.trans c9 (fun x hx => Or.inr (lo9 x hx))); have HD9 := Lib.hid h9
        have HR9 := Lib.hid (HR.out.chg c9 (fun x hx hy => HS.out.get 0 1 rfl rfl (by decide) x hx (in9 x hy)))
        have HS9 := Lib.hid (HS.out.le c9.size)
        have e1 : World.cell? w9 ⟨b, off + k * 4 + 1, none⟩ = some (.int .i64 o.n) := by rw [HBC.out w9 HC9.out.below_nil]; exact D1.out
        clear h9 c9 lo9 in9 HC HD HR HS c0 c1
        go_wp2_with fail
        refine (rdsetmax_any HR9.out o.n).mono ?_; rintro e w8 ⟨rfl, h8, c8⟩
        have in8 : ∀ x ∈ [q], x ∈ footD q t sv := fun x hx => by simp at hx; simp [hx, footD]
        have HC8 := Lib.hid (HC9.out.trans c8 (fun x hx => Or.inr (HR9.out.los x (in8 x hx)))); have HR8 := Lib.hid h8
        have HD8 := Lib.hid (HD9.out.chg c8 (fun x hx hy => HS9.out.get 1 0 rfl rfl (by decide) x hx (in8 x hy)) (fun x hx => HR9.out.los x (in8 x hx)))
        have HS8 := Lib.hid (HS9.out.le c8.size)
        clear h8 c8 in8 HC9 HD9 HR9 HS9 e1
        go_wp2_with fail
        go_roundw
        case rel => exact ⟨k + 1, m, es, m2, es2, _, broken, F1, sv, by omega, by omega, by go_num, HD8.out, HR8.out, HSM.out, HS8.out, HC8.out⟩
        case measure => simp [intOf]; omega
      · have g1 : (o.k == 1) = false := by simp [hkind]
        obtain ⟨ba, bc, hbv, hbl, hbm⟩ := OIN.out.sb.slice
        rw [hbv] at c3
        unfold maxLen at hbm
        have sb0 := OIN.out.sb
        rw [hbv] at sb0
        obtain ⟨N, hN⟩ : ∃ N : Nat, N = min o.b.length 300 := ⟨_, rfl⟩
        have eN : min (o.b.length : Int) 300 = (N : Int) := by omega
        have hN1 : N ≤ o.b.length := by omega
        have j1 : (N : Int) ≤ (bc : Int) := by omega
        have j2 : (0 : Int) ≤ (N : Int) := by omega
        have j3 : (N : Int) ≤ (o.b.length : Int) := by omega
        have p1 := BytesOf.pre sb0 N hN1
        obtain ⟨l, hl⟩ : ∃ l, l = o.b.take N := ⟨_, rfl⟩
        have hll : l.length = N := by rw [hl, List.length_take]; omega
        have hl3 : l.length ≤ 300 := by omega
        rw [← hl] at p1
        clear hN hl
        subst hll
        have P1 := Lib.hid p1
        obtain ⟨sB, hsB⟩ : ∃ sB : ByteArray, sB = ⟨l.toArray⟩ := ⟨_, rfl⟩
        have hbx : bx sB = l := by rw [hsB]; simp [bx]
        have hsz : sB.size ≤ 300 := by rw [hsB, ba_size]; exact hl3
        obtain ⟨D, hD⟩ : ∃ D, D = Hp.decB m es limit list broken l := ⟨_, rfl⟩
        obtain ⟨DF, DE, DB, DM, DS⟩ := D
        have hD2 : ∃ DM2 DS2, Hp.decB m2 es2 limit list broken (bx sB) = (DF, DE, DB, DM2, DS2) ∧ (DB = false → DM2 = DM ∧ DS2 = DS) := by
          rw [hbx]
          cases hbr : broken with
          | true =>
            rw [hbr, decB_broken] at hD
            simp only [Prod.mk.injEq] at hD
            obtain ⟨rfl, rfl, rfl, rfl, rfl⟩ := hD
            exact ⟨m2, es2, decB_broken, by simp⟩
          | false =>
            obtain ⟨k1, k2⟩ := HSM.out hbr
            rw [hbr] at hD
            exact ⟨DM, DS, by rw [k1, k2]; exact hD.symm, fun _ => ⟨rfl, rfl⟩⟩
        obtain ⟨DM2, DS2, hD2, hD3⟩ := hD2
        have HDD := Lib.hid hD.symm; have HD2 := Lib.hid hD2; have HD3 := Lib.hid hD3; have HSB := Lib.hid hsB; have HBV := Lib.hid hbv
        clear p1 hbx hD hD2 hD3 hsB hbv sb0 hkind c1 D1 HBC
        go_wp2_with fail
        go_quiet (fail)
        have HD5 := Lib.hid (HD.out.chg0 ((Chg.refl wr).drewN nq)); have HR5 := Lib.hid (HR.out.chg0 ((Chg.refl wr).drewN nq)); have HC5 := Lib.hid (HC.out.drewN nq); have HS5 : Hid (Sep (wr.drewN nq) [footD q t sv, d :: F1]) := Lib.hid (HS.out.le (Nat.le_refl _))
        clear HD HR HC HS c0 c3
        generalize wr.drewN nq = w5 at *
        have HW5 : Hid (W.heap.size ≤ w5.heap.size) := Lib.hid HC5.out.size
        go_wp2_with (at_builtin; refine app_any rfl _ _ rfl w5.heap.size (.slice (some ⟨w5.heap.size, 0, none⟩) 0 0) [] rfl (OwnB.empty (Nat.le_refl _)) _ l rfl (P1.out.chg0 (HC5.out.alloc _)) (by simp; omega) (by simp) ?_)
        intro v' w6 own6 ch6 n6
        have c6 : Chg [] w5 w6 := ((Chg.refl w5).alloc _).trans ch6 (fun x hx => Or.inr (by simp [Value.ownBlock] at hx; omega))
        obtain ⟨oa, oc, rfl, hoc1, hoc2⟩ := (OwnB.bytes own6).slice
        unfold maxLen at hoc2
        have HD6 := Lib.hid (HD5.out.chg0 c6); have HR6 := Lib.hid (HR5.out.chg0 c6); have HC6 := Lib.hid (HC5.out.trans' c6); have HO6 := Lib.hid own6
        have HS6 : Hid (Sep w6 [(Value.slice oa l.length oc).ownBlock.toList, footD q t sv, d :: F1]) := Lib.hid (HS5.out.add (OwnB.lo own6) (own_lt own6) c6.size)
        have LO6 : Hid (∀ x ∈ (Value.slice oa l.length oc).ownBlock.toList, W.heap.size ≤ x) := Lib.hid (fun x hx => Nat.le_trans HW5.out (OwnB.lo own6 x hx))
        clear own6 ch6 n6 c6 HD5 HR5 HC5 HS5
        go_wp2_with fail
        refine (decode_any HD6.out (.slice oa l.length oc) l (OwnB.bytes HO6.out) (fun _ a n cap e => ⟨(own_block HO6.out a n cap e).2, fun hx => DH.apart HD6.out HO6.out _ hx (by rw [e]; simp [Value.ownBlock])⟩) (by omega)).mono ?_; rintro e w7 ⟨rx, F2, he, ox, d7, f7, c7, a7⟩
        rw [HDD.out] at he ox d7
        simp only at he ox d7
        subst he
        obtain ⟨xa, xc, rfl, hxc1, hxc2⟩ := OwnR.slice ox
        unfold maxLen at hxc2
        have HC7 := Lib.hid (HC6.out.trans c7 (fun x hx => Or.inr (HD6.out.los x hx))); have HD7 := Lib.hid d7
        have HR7 := Lib.hid (HR6.out.chg c7 (HS6.out.get 1 2 rfl rfl (by decide)))
        have HO7 := Lib.hid (OwnB.chg HO6.out c7 (fun g hg hx => HS6.out.get 0 2 rfl rfl (by decide) g (by simpa using hg) hx))
        have HS7 : Hid (Sep w7 [(Value.slice xa DF.length xc).ownBlock.toList, (Value.slice oa l.length oc).ownBlock.toList, footD q t sv, d :: F2]) := Lib.hid (HS6.out.putAdd 2 rfl (fresh_cons f7) d7.lt c7.size (OwnR.lo ox) (OwnR.lt ox) a7)
        have LX7 : Hid (∀ x ∈ (Value.slice xa DF.length xc).ownBlock.toList, W.heap.size ≤ x) := Lib.hid (fun x hx => Nat.le_trans HC6.out.size (OwnR.lo ox x hx))
        obtain ⟨B6, hB6⟩ : ∃ B6, B6 = w6.heap.size := ⟨_, rfl⟩
        rw [← hB6] at ox
        have HX7 := Lib.hid ox
        have k2 := BytesOf.str (P1.out.chg0 HC7.out)
        rw [← HSB.out] at k2
        clear ox d7 f7 c7 a7 HC6 HD6 HR6 HO6 HS6 hB6
        go_wp2_with fail
        refine (rddecode_any HR7.out sB hsz HD2.out).mono ?_; rintro e w8 ⟨ry, sv', m3, es3, rfl, oy, hm3, r8, c8, f8, a8⟩
        have HC8 := Lib.hid (HC7.out.trans c8 (fun x hx => Or.inr (HR7.out.los x hx))); have HR8 := Lib.hid r8
        have HD8 := Lib.hid (HD7.out.chg c8 (HS7.out.get 3 2 rfl rfl (by decide)) HR7.out.los)
        have HO8 := Lib.hid (OwnB.chg HO7.out c8 (fun g hg hx => HS7.out.get 1 2 rfl rfl (by decide) g (by simpa using hg) hx))
        have HX8 := Lib.hid (OwnR.chg HX7.out c8 (fun g hg hx => HS7.out.get 0 2 rfl rfl (by decide) g (by simpa using hg) hx))
        have HS8 : Hid (Sep w8 [(Value.slice xa DF.length xc).ownBlock.toList, (Value.slice oa l.length oc).ownBlock.toList, footD q t sv', d :: F2]) := Lib.hid (HS7.out.put 2 rfl f8 r8.lt c8.size)
        have HY8 := Lib.hid oy
        have HM3 : Hid (DB = false → m3 = DM ∧ es3 = DS) := Lib.hid (fun h => by
          obtain ⟨k1, k3⟩ := hm3 h
          obtain ⟨k4, k5⟩ := HD3.out h
          exact ⟨k1.trans k4, k3.trans k5⟩)
        clear oy hm3 r8 c8 f8 a8 HC7 HR7 HD7 HO7 HX7 HS7 k2
        go_wp2_with fail
        refine (same_fds (OwnR.sl encF_len (by decide) HX8.out) (OwnR.sl encF_len (by decide) HY8.out)).mono ?_; rintro e w9 ⟨rfl, c9⟩
        have HC9 := Lib.hid (HC8.out.trans' c9); have HR9 := Lib.hid (HR8.out.chg0 c9); have HD9 := Lib.hid (HD8.out.chg0 c9); have HO9 := Lib.hid (OwnB.chg0 HO8.out c9); have HX9 := Lib.hid (OwnR.chg0 HX8.out c9); have HS9 := Lib.hid (HS8.out.le c9.size)
        clear c9 HC8 HR8 HD8 HO8 HX8 HS8 HY8
        have k1 := BytesOf.str (OwnB.bytes HO9.out)
        have k2 := BytesOf.str (P1.out.chg0 HC9.out)
        rw [← HSB.out] at k1 k2
        go_wp2_with fail
        have BO9 := Lib.hid (blk_of HO9.out); have BX9 := Lib.hid (blk_of HX9.out)
        clear k1 k2 HO9 HX9
        go_loopw [18] (fun iv wx => ∃ j : Nat, j ≤ l.length ∧ iv = .int .i64 j ∧ Blk 5 1 wx (.slice oa l.length oc) l.length ∧ Chg (Value.slice oa l.length oc).ownBlock.toList w9 wx) (fun iv _ => l.length - (intOf iv).toNat)
        case atStart => exact ⟨0, Nat.zero_le _, rfl, BO9.out, Chg.refl _⟩
        case round =>
          obtain ⟨j, hj, rfl, hb, hcx⟩ := hrel
          obtain ⟨wx, rfl⟩ : ∃ wx, wx = wr := ⟨_, rfl⟩
          by_cases hjl : j < l.length
          · have hjI : (j : Int) < (l.length : Int) := by omega
            obtain ⟨g, cp, cur, he, hat, hcs⟩ := hb.h (by omega)
            cases he
            have i0 : j < cur.size := by omega
            have z0 : World.cell? wx ⟨g, j, none⟩ = some (cur[j]'i0) := hat.cell (Array.getElem?_eq_getElem i0)
            have zf : ∀ i, World.frozen? wx ⟨g, i, none⟩ = false := fun i => hat.free i
            generalize cur[j]'i0 = v0 at *
            have hgl := hat.lt
            have HAT := Lib.hid hat; have HCX := Lib.hid hcx; have HCS := Lib.hid hcs
            clear hat hcx hb hcs i0
            go_wp2_with fail
            go_roundw
            case rel => exact ⟨j + 1, by omega, by go_num, ⟨fun _ => ⟨g, _, _, rfl, HAT.out.set _ _, by simp only [Array.size_setIfInBounds]; exact HCS.out⟩⟩, HCX.out.setCell (Or.inl (by simp [Value.ownBlock])) _⟩
            case measure => simp [intOf]; omega
          · obtain rfl : j = l.length := by omega
            have HC10 := Lib.hid (HC9.out.trans hcx (fun x hx => Or.inr (LO6.out x hx)))
            have HD10 := Lib.hid (HD9.out.chg hcx (HS9.out.get 3 1 rfl rfl (by decide)) LO6.out)
            have HR10 := Lib.hid (HR9.out.chg hcx (HS9.out.get 2 1 rfl rfl (by decide)))
            have HS10 := Lib.hid (HS9.out.le hcx.size)
            have BX10 := Lib.hid (BX9.out.chg hcx (HS9.out.get 0 1 rfl rfl (by decide)))
            clear hcx hb HC9 HD9 HR9 HS9 BX9 BO9
            go_wp2_with fail
            go_loopw [19] (fun iv wy => ∃ j : Nat, j ≤ DF.length ∧ iv = .int .i64 j ∧ Blk 44 3 wy (.slice xa DF.length xc) DF.length ∧ Chg (Value.slice xa DF.length xc).ownBlock.toList wx wy) (fun iv _ => DF.length - (intOf iv).toNat)
            case atStart => exact ⟨0, Nat.zero_le _, rfl, BX10.out, Chg.refl _⟩
            case round =>
              obtain ⟨j, hj, rfl, hb, hcx⟩ := hrel
              obtain ⟨wy, rfl⟩ : ∃ wy, wy = wr := ⟨_, rfl⟩
              by_cases hjl : j < DF.length
              · have hjI : (j : Int) < (DF.length : Int) := by omega
                obtain ⟨g, cp, cur, he, hat, hcs⟩ := hb.h (by omega)
                cases he
                have i0 : j * 3 < cur.size := by omega
                have i1 : j * 3 + 1 < cur.size := by omega
                have i2 : j * 3 + 2 < cur.size := by omega
                have z0 : World.cell? wy ⟨g, j * 3, none⟩ = some (cur[j * 3]'i0) := hat.cell (Array.getElem?_eq_getElem i0)
                have z1 : World.cell? wy ⟨g, j * 3 + 1, none⟩ = some (cur[j * 3 + 1]'i1) := hat.cell (Array.getElem?_eq_getElem i1)
                have z2 : World.cell? wy ⟨g, j * 3 + 2, none⟩ = some (cur[j * 3 + 2]'i2) := hat.cell (Array.getElem?_eq_getElem i2)
                have zf : ∀ i, World.frozen? wy ⟨g, i, none⟩ = false := fun i => hat.free i
                generalize cur[j * 3]'i0 = v0 at *
                generalize cur[j * 3 + 1]'i1 = v1 at *
                generalize cur[j * 3 + 2]'i2 = v2 at *
                have hgl := hat.lt
                have HAT := Lib.hid hat; have HCX := Lib.hid hcx; have HCS := Lib.hid hcs
                clear hat hcx hb hcs i0 i1 i2
                go_wp2_with fail
                go_roundw
                case rel => exact ⟨j + 1, by omega, by go_num, ⟨fun _ => ⟨g, _, _, rfl, ((HAT.out.set _ _).set _ _).set _ _, by simp only [Array.size_setIfInBounds]; exact HCS.out⟩⟩, ((HCX.out.setCell (Or.inl (by simp [Value.ownBlock])) _).setCell (Or.inl (by simp [Value.ownBlock])) _).setCell (Or.inl (by simp [Value.ownBlock])) _⟩
                case measure => simp [intOf]; omega
              · obtain rfl : j = DF.length := by omega
                have HC11 := Lib.hid (HC10.out.trans hcx (fun x hx => Or.inr (LX7.out x hx)))
                have HD11 := Lib.hid (HD10.out.chg hcx (HS10.out.get 3 0 rfl rfl (by decide)) LX7.out)
                have HR11 := Lib.hid (HR10.out.chg hcx (HS10.out.get 2 0 rfl rfl (by decide)))
                have HS11 := Lib.hid (HS10.out.le hcx.size)
                have x3 : World.cell? wy ⟨q, 3, none⟩ = some (.bool DB) := HR11.out.head.cell rfl
                clear hcx hb HC10 HD10 HR10 HS10 BX10
                have HFS : Hid (∀ wz : World, Sep wz [(Value.slice xa DF.length xc).ownBlock.toList, (Value.slice oa l.length oc).ownBlock.toList, footD q t sv', d :: F2] → Sep wz [footD q t sv', d :: F2]) := Lib.hid (fun wz hz => ⟨fun i j A B hij hi hj => hz.ap (i + 2) (j + 2) A B (by omega) hi hj, fun i A hi => hz.lt (i + 2) A hi⟩)
                cases DB with
                | true =>
                  go_wp2_with fail
                  go_roundw
                  case rel => exact ⟨k + 1, DM, DS, m3, es3, limit, true, F2, sv', by omega, by omega, by go_num, HD11.out, HR11.out, by simp, HFS.out _ HS11.out, HC11.out⟩
                  case measure => simp [intOf]; omega
                | false =>
                  obtain ⟨e1, e2⟩ : m3 = DM ∧ es3 = DS := by first | exact HM3.out rfl | exact HM3.out trivial
                  rw [e1, e2] at HR11
                  clear e1 e2
                  go_wp2_with fail
                  refine (decsize_eq HD11.out).mono ?_; rintro e w12 ⟨rfl, rfl⟩
                  go_wp2_with fail
                  refine (rdsize_any HR11.out).mono ?_; rintro e w13 ⟨rfl, c13⟩
                  have HC13 := Lib.hid (HC11.out.trans' c13); have HD13 := Lib.hid (HD11.out.chg0 c13); have HR13 := Lib.hid (HR11.out.chg0 c13); have HS13 := Lib.hid (HS11.out.le c13.size)
                  clear c13 HC11 HD11 HR11 HS11 x3
                  go_wp2_with fail
                  refine (decmax_eq HD13.out).mono ?_; rintro e w14 ⟨rfl, rfl⟩
                  go_wp2_with fail
                  refine (rdmax_any HR13.out).mono ?_; rintro e w15 ⟨rfl, rfl⟩
                  go_wp2_with fail
                  go_roundw
                  case rel => exact ⟨k + 1, DM, DS, DM, DS, limit, false, F2, sv', by omega, by omega, by go_num, HD13.out, HR13.out, fun _ => ⟨rfl, rfl⟩, HFS.out _ HS13.out, HC13.out⟩
                  case measure => simp [intOf]; omega
    · have hways : (k < zs.length ∧ decide (k < zs.length) = true ∧ decide ((k : Int) < 25) = false) ∨ (¬ k < zs.length ∧ decide (k < zs.length) = false ∧ (0 : Int) ≤ 1) := by
        by_cases h1 : k < zs.length
        · exact Or.inl ⟨h1, by simpa using h1, by simp; omega⟩
        · exact Or.inr ⟨h1, by simpa using h1, by omega⟩
      clear hlt HD HR HS
      rcases hways with ⟨h1, hd1, hd2⟩ | ⟨h1, hd1, hd2⟩
      all_goals
        go_wp2_with fail
        go_ret
        exact ⟨rfl, HC.out.below_nil⟩

/-! ### The row's step -/
theorem own : ownKnob Try.prog.godebug = none := by kernel_rfl
theorem laid : laidOutB Try.prog = true := by kernel_rfl

set_option maxRecDepth 100000 in
theorem lifted (os : Os) (started : os.Started) (H : Type) (enc : TypeId × Value → H) :
    ReturnsInHanded {} Try.checked os 8 .any (Rows.hpackDecodesSpec.pre6 enc Try.prog Try.f8 Rows.hpackDecodesRow.domain false) (Rows.hpackDecodesSpec.post enc Try.prog Try.f8 false true false false) := by
  refine lift_law (C := Try.checked) (tb := 4) own started (by kernel_rfl) Try.func8
    (ChangeSpec.witness6 (enc := enc) (C := Try.checked) false ⟨#[], #[.int .i64 0, .int .i64 0, .slice none 0 0], []⟩ 8 (by kernel_rfl) (by kernel_rfl) (by kernel_rfl) (by kernel_rfl))
    laid (by rw [Try.params8]; intro t ht; simp only [List.mem_cons, List.not_mem_nil, or_false] at ht; rcases ht with rfl | rfl | rfl <;> exact ⟨by kernel_rfl, of_decide_eq_true (by kernel_rfl)⟩) (by kernel_rfl) Try.underlying4 rfl
    (fun ds h => by rw [Try.params8] at h; match ds, h with | [d0, d1, d2], _ => rfl) ?_
  intro W base args ds before hval hA hlt hsz
  rw [Try.params8] at hA hval
  try rw [Try.params8] at hsz
  have hlt0 := hlt
  obtain ⟨v0, vs0, d0, ds0, p0, q0, hargs, rfl, rfl, h0, r0⟩ := trodAll_cons hA
  obtain ⟨v1, vs1, d1, ds1, p1, q1, rfl, rfl, rfl, h1, r1⟩ := trodAll_cons r0
  obtain ⟨v2, vs2, d2, ds2, p2, q2, rfl, rfl, rfl, h2, r2⟩ := trodAll_cons r1
  obtain ⟨rfl, rfl, rfl⟩ := trodAll_nil r2
  obtain rfl : args = #[v0, v1, v2] := by cases args; simp_all
  have l0 : ∀ p ∈ p0, p.block < W.heap.size := fun x hx => hlt x (by simp [hx])
  have l1 : ∀ p ∈ p1, p.block < W.heap.size := fun x hx => hlt x (by simp [hx])
  have l2 : ∀ p ∈ p2, p.block < W.heap.size := fun x hx => hlt x (by simp [hx])
  obtain ⟨a0, rfl, rfl, rfl, wa0⟩ := open_int Try.underlying3 (hval 0 3 v0 rfl rfl) h0
  obtain ⟨a1, rfl, rfl, rfl, wa1⟩ := open_int Try.underlying3 (hval 1 3 v1 rfl rfl) h1
  obtain ⟨zs, zg, zb, zm, zs1⟩ := open_slice_a 4 encS (S.In W) Try.underlying53 (by kernel_rfl) (by omega) (hval 2 53 v2 rfl rfl) decS h2 l2 (small_of hsz (j := 2) rfl rfl)
  exact walk a0 a1 v2 zs W zm zs1 zg

theorem over : Rows.hpackDecodesRow.holds Try.pinned (OpenSpec.ofChange Rows.hpackDecodesSpec) :=
  OpenClaim.holds_of_wide 8 Try.f8 rfl rfl rfl rfl rfl rfl rfl ⟨rfl, rfl, rfl, rfl, rfl⟩ rfl rfl rfl rfl rfl (by kernel_rfl) Try.func8 (by kernel_rfl)
    (of_decide_eq_true (by kernel_rfl)) (by unfold Func.isWrapper; first | (rw [if_pos (by decide +kernel)]; kernel_rfl) | (rw [if_neg (by decide +kernel)]; exact ⟨rfl, rfl⟩))
    (fun os started H enc _ => lifted os started H enc)

/-- The statement. -/
theorem proved : Rows.HpackDecodesSaid :=
  over
#print axioms proved

end Go.Proofs.Ytmoeioaahampaaa.HDecodes
