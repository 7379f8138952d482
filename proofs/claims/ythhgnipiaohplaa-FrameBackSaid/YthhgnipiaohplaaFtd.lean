/-
  told: the walk.
-/
import Derived.Test.YthhgnipiaohplaaFto
namespace Go.Proofs.Ythhgnipiaohplaa.Fr
open Go.ChangeShapes Go.WideShapes Go.ChangeAt Go.RowKit
open Go.Proofs.Ythhgnipiaohplaa.B
set_option linter.unusedVariables false
set_option linter.unusedSimpArgs false

theorem pc_cells {w : World} {a : Option Addr} {n cap : Nat} {zs : List Pc} (h : SliceOf w (.slice a n cap) 1 encP zs) (h0 : 0 < zs.length) :
    ∃ b off, a = some ⟨b, off, none⟩ ∧ b < w.heap.size ∧ ∀ i z, zs[i]? = some z → w.cell? ⟨b, off + i, none⟩ = some z.v := by
  obtain ⟨b, off, rfl, hb, hc⟩ := h.at h0
  exact ⟨b, off, rfl, hb, fun i f hf => by have h1 := hc i f hf 0 (by omega); rw [Nat.mul_one, Nat.add_zero] at h1; exact h1⟩
theorem bytes_nil (w : World) (a : Option Addr) (c : Nat) (hc : c ≤ maxLen) : BytesOf w (.slice a 0 c) [] := ⟨a, c, rfl, Nat.zero_le _, hc, by simp⟩
theorem bytes_end {w : World} {a : Option Addr} {c N : Nat} {b : List UInt8} (h : b.length = N) (hc : c ≤ maxLen) : BytesOf w (.slice a (b.length - N) c) (b.drop N) := by
  rw [List.drop_eq_nil_of_le (by omega), show b.length - N = 0 by omega]
  exact bytes_nil w a c hc
/-- What told answers, and what it leaves. -/
structure TD (W w w' : World) (p : Nat) (hv0 : Value) (mx : Nat) (all : List UInt8) (e : Ending) (hv : Value) (r : List UInt8) (d : Bool) (ts : List Tv) (ov fv : Value) : Prop where
  e : e = .returned (.tuple #[ov, fv, .bool true])
  s : TS W w w' p hv0 mx hv r d ov fv ts ts
  d : Dr mx all (ts.map Tv.out) r d
def TDE (W w w' : World) (p : Nat) (hv0 : Value) (mx : Nat) (all : List UInt8) (e : Ending) : Prop := ∃ hv r d ts ov fv, TD W w w' p hv0 mx all e hv r d ts ov fv
-- w5: the world behind Next; TT: its TS; S31, S32 the boxes in w32; x: the Tv; its goodness in w32: gx
set_option maxRecDepth 100000 in
set_option maxHeartbeats 16000000 in
theorem told_any {W w : World} {p : Nat} {hv0 : Value} {mx : Nat} (h : PH W w p hv0 [] mx false) (va : Value) (ps : List Pc) (hsl : SliceOf w va 1 encP ps) (hav : 0 < ps.length → ∀ a n c, va = .slice (some a) n c → a.block ∉ footP p hv0)
    (hps : ∀ z ∈ ps, BytesOf w z.v z.b ∧ (0 < z.b.length → ∀ a n c, z.v = .slice (some a) n c → a.block ∉ footP p hv0)) (ht : (cat ps).length ≤ 300000) :
    Calls Try.prog 26 #[.pointer (some ⟨p, 0, none⟩), va] w fun e w' => TDE W w w' p hv0 mx (cat ps) e := by
  obtain ⟨la, lc, rfl, hlc, hlcm⟩ := hsl.len
  unfold maxLen at hlcm
  have T0 : Hid (TS W w w p hv0 mx hv0 [] false (.slice none 0 0) (.slice none 0 0) [] []) := Lib.hid ⟨h, OwnR.nil _ _, OwnR.nil _ _, by simp, Chg.refl _, fun x hx => Or.inl hx⟩
  have b1 := h.b1
  have b2 := h.b2
  have HSL := Lib.hid hsl; have HAV := Lib.hid hav; have HPS := Lib.hid hps; have HT := Lib.hid ht
  have D0 : Hid (Dr mx (cat (ps.take 0)) [] [] false) := Lib.hid (by simp [cat]; exact .none (nxt_short (by simp)))
  clear h hsl hav hps ht
  go_enter Try.func26, Try.ntmps26
  go_wp2_with fail
  go_loopw [7, 8, 9] (fun ov fv iv wr => ∃ (i : Nat) (hv : Value) (l : List UInt8) (dn : Bool) (ts : List Tv), i ≤ ps.length ∧ iv = .int .i64 i ∧ TS W w wr p hv0 mx hv l dn ov fv ts ts ∧ Dr mx (cat (ps.take i)) (ts.map Tv.out) l dn) (fun _ _ iv _ => ps.length - (intOf iv).toNat)
  case atStart => exact ⟨0, hv0, [], false, [], by omega, rfl, T0.out, D0.out⟩
  case round =>
    clear T0 D0
    obtain ⟨i, hv, l, dn, ts, hi, rfl, hT, hD⟩ := hrel
    obtain ⟨oa, oc, rfl, _, _⟩ := OwnR.slice hT.o
    obtain ⟨fa, fc, rfl, _, _⟩ := OwnR.slice hT.f
    have TI := Lib.hid hT; have DI := Lib.hid hD
    clear hT hD
    by_cases hlt : i < ps.length
    · have hltI : (i : Int) < (ps.length : Int) := by omega
      obtain ⟨z, hz⟩ : ∃ z, ps[i]? = some z := ⟨_, List.getElem?_eq_getElem hlt⟩
      obtain ⟨bb, off, rfl, hbw, hcell⟩ := pc_cells HSL.out (by omega)
      have d0 := hcell i z hz
      have hk0 : World.cell? wr ⟨bb, off + i, none⟩ = World.cell? w ⟨bb, off + i, none⟩ := TI.out.c.cell hbw (HAV.out (by omega) _ _ _ rfl) _
      have PB := Lib.hid (HPS.out z (List.mem_of_getElem? hz))
      obtain ⟨za, zc, hzv, hzc, hzcm⟩ := PB.out.1.slice
      have c0 := hk0.trans d0
      rw [hzv] at c0
      have CT := Lib.hid (cat_take hz)
      have CLE : Hid ((cat (ps.take (i + 1))).length ≤ 300000) := Lib.hid (Nat.le_trans (cat_take_le ps (i + 1)) HT.out)
      have ZV := Lib.hid hzv
      obtain ⟨A, hA⟩ : ∃ A, A = cat (ps.take i) := ⟨_, rfl⟩
      have HA := Lib.hid hA
      have hlA : l.length ≤ A.length := by
        have := DI.out.left.2.2.1; have h2 := DI.out.left.1
        rw [hA]
        cases dn with
        | true => rw [h2 rfl]; simp
        | false => simp at this; omega
      have hAz : A.length + z.b.length ≤ 300000 := by have := CLE.out; rw [CT.out, List.length_append, ← hA] at this; exact this
      have hbnd : l.length + z.b.length ≤ 300000 := by omega
      have htl : ts.length ≤ A.length := by have := DI.out.left.2.2.2; rw [List.length_map] at this; rw [hA]; exact this
      clear d0 hcell hz hk0 hzv hA hlA
      go_wp2_with fail
      go_loopw [7, 8, 10, 11] (fun ov fv bv tv wt => ∃ (t : Nat) (pre b : List UInt8) (hv : Value) (l : List UInt8) (dn : Bool) (ts : List Tv) (ba : Option Addr) (bc : Nat), z.b = pre ++ b ∧ bv = .slice ba b.length bc ∧ BytesOf w bv b ∧ (0 < b.length → ∀ a n c, bv = .slice (some a) n c → a.block ∉ footP p hv0) ∧ tv = .int .i64 t ∧ TS W w wt p hv0 mx hv l dn ov fv ts ts ∧ Dr mx (A ++ pre) (ts.map Tv.out) l dn ∧ 9 * t + l.length + b.length ≤ 300000) (fun _ _ _ tv _ => 40000 - (intOf tv).toNat)
      case atStart => exact ⟨0, [], z.b, hv, l, dn, ts, za, zc, rfl, rfl, by rw [← ZV.out]; exact PB.out.1, by rw [← ZV.out]; exact PB.out.2, rfl, TI.out, by rw [List.append_nil, HA.out]; exact DI.out, by omega⟩
      case round =>
        obtain ⟨wt, rfl⟩ : ∃ wt, wt = wr := ⟨_, rfl⟩
        clear TI DI htl hbnd
        obtain ⟨t, pre, b, hv, l, dn, ts, ba, bc, hzb, rfl, hB, hBf, rfl, hT, hD, hbd⟩ := hrel
        obtain ⟨oa, oc, rfl, _, _⟩ := OwnR.slice hT.o
        obtain ⟨fa, fc, rfl, _, _⟩ := OwnR.slice hT.f
        have TT := Lib.hid hT; have DD := Lib.hid hD; have BB := Lib.hid hB; have BF := Lib.hid hBf; have ZB := Lib.hid hzb
        have htI : (t : Int) < 40000 := by omega
        have hbc : b.length ≤ bc ∧ bc ≤ maxLen := by
          obtain ⟨a', c', he, h1, h2⟩ := hB.slice
          simp only [Value.slice.injEq] at he
          obtain ⟨_, _, rfl⟩ := he
          exact ⟨h1, h2⟩
        obtain ⟨hbc1, hbc2⟩ := hbc
        obtain ⟨N, hN⟩ : ∃ N, N = feedN mx dn l b := ⟨_, rfl⟩
        have hNb : N ≤ b.length := by rw [hN]; unfold feedN; split <;> omega
        have HN := Lib.hid hN
        have HLEN : Hid (l.length ≤ 300000) := Lib.hid (by omega)
        have HBD := Lib.hid hbd; have HBC := Lib.hid (And.intro hbc1 hbc2); have HNB := Lib.hid hNb; have HAZ := Lib.hid hAz
        have g2 : (N : Int) ≤ (b.length : Int) := by omega
        clear hT hD hB hBf hzb hN hbd hbc1 hbc2 hNb hAz
        go_wp2_with fail
        refine (pfeed_any TT.out.h (.slice ba b.length bc) b (BytesOf.chgS BB.out TT.out.c BF.out) (by have := HLEN.out; omega) (by have := HBC.out; unfold maxLen at this; omega)).mono ?_; rintro e w4 ⟨hv4, he, h4, c4, f4⟩
        rw [← HN.out] at he h4
        subst he
        have T4 := Lib.hid (TT.out.step c4 (fun x hx => hx) h4 f4)
        clear h4 c4 f4
        clear htI
        go_upto_region 13 with fail
        go_cut [10] (fun v wx => wx = w4 ∧ ∃ a' c', v = .slice a' (b.length - N) c' ∧ BytesOf w v (b.drop N) ∧ (0 < (b.drop N).length → ∀ a n c, v = .slice (some a) n c → a.block ∉ footP p hv0))
        case first =>
          have hcm := HBC.out.2
          have hcb := HBC.out.1
          have hnb := HNB.out
          rcases Nat.eq_zero_or_pos b.length with hb0 | hb0
          · obtain rfl : b = [] := List.length_eq_zero_iff.1 hb0
            obtain rfl : N = 0 := by simpa using hnb
            have HCM := Lib.hid hcm
            clear hcm hcb hnb hb0
            cases ba with
            | none =>
              go_wp2_with fail
              go_meet
              case rel => exact ⟨rfl, _, _, rfl, by first | exact bytes_nil _ _ _ (by have := HCM.out; omega) | exact bytes_end rfl (by have := HCM.out; omega), by simp⟩
            | some ad =>
              by_cases hc0 : bc = 0
              · subst hc0
                go_wp2_with fail
                go_meet
                case rel => exact ⟨rfl, _, _, rfl, by first | exact bytes_nil _ _ _ (by have := HCM.out; omega) | exact bytes_end rfl (by have := HCM.out; omega), by simp⟩
              · go_wp2_with fail
                go_meet
                case rel => exact ⟨rfl, _, _, rfl, by first | exact bytes_nil _ _ _ (by have := HCM.out; omega) | exact bytes_end rfl (by have := HCM.out; omega), by simp⟩
          · obtain ⟨b0, o0, rfl, _, _⟩ := BB.out.cell hb0
            have HCM := Lib.hid hcm
            by_cases hcn : bc = N
            · have hbl : Hid (b.length = N) := Lib.hid (by omega)
              subst hcn
              clear hcm hcb hnb
              go_wp2_with fail
              go_meet
              case rel => exact ⟨rfl, _, _, rfl, bytes_end hbl.out (by have := HCM.out; omega), fun h0 => by rw [List.length_drop, hbl.out] at h0; omega⟩
            · have hd := Lib.hid (bytes_drop BB.out N hnb hcb hcm)
              have hcnI : ¬ (bc : Int) = (N : Int) := by omega
              clear hcm hcb hnb
              go_wp2_with fail
              go_meet
              case rel => exact ⟨rfl, _, _, rfl, hd.out, fun h0 a n c he => by
                cases he
                exact BF.out hb0 ⟨b0, o0, none⟩ _ _ rfl⟩
        case rest =>
          obtain ⟨hwx, a', c', rfl, hB', hBf'⟩ := hcut
          have hwx' := hwx.symm
          subst hwx'
          have BB' := Lib.hid hB'; have BF' := Lib.hid hBf'
          obtain ⟨R, hR⟩ : ∃ R, R = b.length - N := ⟨_, rfl⟩
          have HR := Lib.hid hR
          rw [← hR]
          obtain ⟨l4, hl4⟩ : ∃ l4, l4 = l ++ b.take N := ⟨_, rfl⟩
          have hl4l : l4.length = l.length + N := by rw [hl4, List.length_append, List.length_take]; have := HNB.out; omega
          rw [← hl4] at T4
          have hdn : dn = true → l = [] ∧ N = 0 := fun h => by
            refine ⟨DD.out.left.1 h, ?_⟩
            rw [HN.out, h]; rfl
          have R0 : Hid ((dn = false → ∀ o r d, Dr mx l4 o r d → Dr mx (A ++ pre ++ b.take N) (ts.map Tv.out ++ o) r d) ∧ (dn = true → l4 = [] ∧ Dr mx (A ++ pre ++ b.take N) (ts.map Tv.out) [] true)) := Lib.hid (by
            refine ⟨fun h o r d k => ?_, fun h => ?_⟩
            · rw [hl4] at k
              exact (DD.out.more (m := b.take N)).2 h k
            · obtain ⟨h1, h2⟩ := hdn h
              have h3 := (DD.out.more (m := b.take N)).1 h
              subst h
              rw [h1] at h3
              refine ⟨by rw [hl4, h1, h2]; rfl, h3⟩)
          have L4 := Lib.hid hl4l; have HL4 := Lib.hid hl4; have HDN := Lib.hid hdn
          have B4 : Hid (l4.length ≤ 300000) := Lib.hid (by have := HBD.out; have := HNB.out; omega)
          have TLT : Hid (ts.length ≤ 300000) := Lib.hid (by have := DD.out.left.2.2.2; rw [List.length_map] at this; have h2 := HAZ.out; have h3 := congrArg List.length ZB.out; rw [List.length_append] at h3; rw [List.length_append] at this; omega)
          clear hR hl4 hl4l hdn hB' hBf' g2
          go_wp2_with fail
          go_loopw [7, 8, 13] (fun ov fv kv wk => ∃ (k : Nat) (hv : Value) (l' : List UInt8) (dn' : Bool) (ts' : List Tv), kv = .int .i64 k ∧ TS W w wk p hv0 mx hv l' dn' ov fv ts' ts' ∧ (dn' = false → ∀ o r d, Dr mx l' o r d → Dr mx (A ++ pre ++ b.take N) (ts'.map Tv.out ++ o) r d) ∧ (dn' = true → l' = [] ∧ Dr mx (A ++ pre ++ b.take N) (ts'.map Tv.out) [] true) ∧ 9 * k + l'.length ≤ l4.length ∧ (k = 0 → l' = l4 ∧ dn' = dn)) (fun _ _ kv _ => 40000 - (intOf kv).toNat)
          case atStart => exact ⟨0, hv4, l4, dn, ts, rfl, T4.out, R0.out.1, R0.out.2, by omega, fun _ => ⟨rfl, rfl⟩⟩
          case round =>
            obtain ⟨wk, rfl⟩ : ∃ wk, wk = wr := ⟨_, rfl⟩
            clear T4 R0 TT
            obtain ⟨k, hv', l', dn', ts', rfl, hT, hr1, hr2, hkb, hk0⟩ := hrel
            obtain ⟨oa, oc, rfl, _, _⟩ := OwnR.slice hT.o
            obtain ⟨fa, fc, rfl, _, _⟩ := OwnR.slice hT.f
            have TK := Lib.hid hT
            have HR1 := Lib.hid hr1; have HR2 := Lib.hid hr2; have HKB := Lib.hid hkb; have HK0 := Lib.hid hk0
            have htI : (k : Int) < 40000 := by have := B4.out; omega
            have hl'8 : l'.length ≤ 100000000 := by have := B4.out; omega
            clear hT hr1 hr2 hkb hk0
            go_wp2_with fail
            refine (next_any TK.out.h hl'8).mono ?_; rintro e w5 hp
            clear hl'8
            have HTI := Lib.hid htI
            clear htI
            have HTL : Hid (ts'.length ≤ 300000) := Lib.hid (by
              have h1 := cat_take_le ps (i + 1)
              have h5 := CT.out
              have key : (ts'.map Tv.out).length ≤ (A ++ pre ++ b.take N).length := by
                cases dn' with
                | true => exact (HR2.out rfl).2.left.2.2.2
                | false =>
                  obtain ⟨o, r, d, hd⟩ := Dr.has mx l'.length l' (Nat.le_refl _)
                  have := (HR1.out rfl o r d hd).left.2.2.2
                  rw [List.length_append] at this
                  omega
              rw [List.length_map] at key
              have h2 := HAZ.out
              have h3 := congrArg List.length ZB.out
              rw [List.length_append] at h3
              simp only [List.length_append, List.length_take] at key
              omega)
            have hpl : ∀ x ∈ [p], x ∈ footP p hv' := fun x hx => by simp at hx; simp [footP, hx]
            cases hX : nxt mx l' with
            | none =>
              rw [hX] at hp
              obtain ⟨rfl, h5, c5⟩ := hp
              have T5 := Lib.hid (TK.out.same c5)
              have DX : Hid (Dr mx (A ++ pre ++ b.take N) (ts'.map Tv.out) l' dn') := Lib.hid (by
                cases dn' with
                | true => obtain ⟨rfl, h⟩ := HR2.out rfl; exact h
                | false => have := HR1.out rfl _ _ _ (.none hX); rw [List.append_nil] at this; exact this)
              have HX := Lib.hid hX
              clear h5 c5 hX TK hpl
              by_cases hR0 : R = 0
              · have DE : Hid (Dr mx (cat (ps.take (i + 1))) (ts'.map Tv.out) l' dn') := Lib.hid (by
                  have h1 := DX.out
                  rw [List.take_of_length_le (by have := HR.out; omega), List.append_assoc, ← ZB.out] at h1
                  rw [CT.out, ← HA.out]; exact h1)
                subst hR0
                go_wp2_with fail
                go_roundw
                case rel => exact ⟨i + 1, hv', l', dn', ts', by omega, by go_num, (T5.out.same ((Chg.refl _).alloc _)).same ((Chg.refl _).alloc _), DE.out⟩
                case measure => simp [intOf]; omega
              · have gR : ((R : Int) == 0) = false := by simp; omega
                by_cases hN0 : N = 0
                · have DE : Hid (Dr mx (cat (ps.take (i + 1))) (ts'.map Tv.out) l' dn') := Lib.hid (by
                    have hdt : dn = true := by
                      cases hd : dn with
                      | true => rfl
                      | false =>
                        exfalso
                        subst hd
                        have h1 := nxt_none (DD.out.left.2.1 rfl) (by omega)
                        have h2 := HN.out
                        unfold feedN at h2
                        rw [if_neg (by simp)] at h2
                        have h3 := HR.out
                        omega
                    have hk : k = 0 := by
                      have h1 := HDN.out hdt
                      have h2 := HKB.out
                      rw [HL4.out, h1.1, h1.2] at h2
                      simp at h2
                      omega
                    obtain ⟨h1, h2⟩ := HK0.out hk
                    have h3 := DX.out
                    rw [hN0, List.take_zero, List.append_nil] at h3
                    have h4 := (h3.more (m := b)).1 (by rw [h2, hdt])
                    rw [List.append_assoc, ← ZB.out] at h4
                    rw [CT.out, ← HA.out]; exact h4)
                  subst hN0
                  go_wp2_with fail
                  go_roundw
                  case rel => exact ⟨i + 1, hv', l', dn', ts', by omega, by go_num, (T5.out.same ((Chg.refl _).alloc _)).same ((Chg.refl _).alloc _), DE.out⟩
                  case measure => simp [intOf]; omega
                · have gN : ((N : Int) == 0) = false := by simp; omega
                  have BD : Hid (9 * (t + 1) + l'.length + (b.drop N).length ≤ 300000) := Lib.hid (by
                    have h1 := HBD.out
                    have h2 := HKB.out
                    have h3 := L4.out
                    have h4 := HNB.out
                    have hk : k ≠ 0 := fun hk => by
                      obtain ⟨h5, h6⟩ := HK0.out hk
                      cases hd : dn with
                      | true => exact hN0 (HDN.out hd).2
                      | false =>
                        have h7 := HN.out
                        rw [hd] at h7
                        unfold feedN at h7
                        rw [if_neg (by simp)] at h7
                        have h8 := HR.out
                        have h9 := nxt_none HX.out (by omega)
                        rw [h5] at h9
                        omega
                    rw [List.length_drop]
                    omega)
                  have DE : Hid (Dr mx (A ++ (pre ++ b.take N)) (ts'.map Tv.out) l' dn') := Lib.hid (by rw [← List.append_assoc]; exact DX.out)
                  have ZB2 : Hid (z.b = (pre ++ b.take N) ++ b.drop N) := Lib.hid (by rw [List.append_assoc, List.take_append_drop]; exact ZB.out)
                  have RL : Hid ((b.drop N).length = R) := Lib.hid (by rw [List.length_drop, HR.out])
                  have htJ : (t : Int) < 40000 := by have := HBD.out; omega
                  go_wp2_with fail
                  go_roundw
                  case rel => exact ⟨t + 1, pre ++ b.take N, b.drop N, hv', l', dn', ts', a', c', ZB2.out, by rw [RL.out], by have := BB'.out; rw [← HR.out] at this; exact this, by have := BF'.out; rw [← HR.out] at this; exact this, by go_num, (T5.out.same ((Chg.refl _).alloc _)).same ((Chg.refl _).alloc _), DE.out, BD.out⟩
                  case measure => simp [intOf]; omega
            | broken c =>
              have hdf : dn' = false := by
                cases hd : dn' with
                | false => rfl
                | true => rw [(HR2.out hd).1] at hX; cases hX
              subst hdf
              rw [hX] at hp
              obtain ⟨rfl, h5, c5⟩ := hp
              have TV := Lib.hid (TK.out.step c5 hpl h5 (fun x hx => Or.inl (by simp [footP, Value.ownBlock] at hx; simp [footP, hx])))
              have hln := nxt_len (mx := mx) (l := l') (by rw [hX]; intro h; cases h)
              have DQ : Hid (Dr mx (A ++ pre ++ b.take N) (ts'.map Tv.out ++ [badO c 0]) [] true) := Lib.hid (HR1.out rfl _ _ _ (.broken hX))
              have BQ : Hid (9 * (k + 1) + ([] : List UInt8).length ≤ l4.length) := Lib.hid (by have := HKB.out; simp; omega)
              clear h5 c5 hX hpl hln
              go_upto_region 18 with fail
              have S31 : Hid (At ((w5.alloc (.cells noF 27)).alloc (.cells #[.bool true, .int .u32 (c : Nat), .int .i64 0] 46)) w5.heap.size (.cells noF 27)) := Lib.hid ((At.new w5 _).alloc _)
              have S32 : Hid (At ((w5.alloc (.cells noF 27)).alloc (.cells #[.bool true, .int .u32 (c : Nat), .int .i64 0] 46)) (w5.heap.size + 1) (.cells #[.bool true, .int .u32 (c : Nat), .int .i64 0] 46)) := Lib.hid (At.new' (w := w5.alloc (.cells noF 27)) (by simp))
              have TT := Lib.hid ((TV.out.same ((Chg.refl w5).alloc (.cells noF 27))).same ((Chg.refl _).alloc (.cells #[.bool true, .int .u32 (c : Nat), .int .i64 0] 46)))
              clear TV TK
              generalize (w5.alloc (.cells noF 27)).alloc (.cells #[.bool true, .int .u32 (c : Nat), .int .i64 0] 46) = w32 at *
              have GX : Hid (Good w32 w.heap.size (footP p (.slice none 0 0)) ⟨noFm, none, 0, none, 0, true, c, 0⟩) := Lib.hid ⟨OwnB.nil _ _, OwnR.nil _ _, by simp [Tv.pv, Value.ownBlock]⟩
              have z0 : World.cell? w32 ⟨w5.heap.size, 0, none⟩ = some (.int .i64 (noFm).kind) := S31.out.cell rfl
              have z1 : World.cell? w32 ⟨w5.heap.size, 1, none⟩ = some (.int .i64 (noFm).stream) := S31.out.cell rfl
              have z2 : World.cell? w32 ⟨w5.heap.size, 2, none⟩ = some (.bool (noFm).fin) := S31.out.cell rfl
              have z3 : World.cell? w32 ⟨w5.heap.size, 3, none⟩ = some (.bool (noFm).eh) := S31.out.cell rfl
              have z4 : World.cell? w32 ⟨w5.heap.size, 4, none⟩ = some (.bool (noFm).ack) := S31.out.cell rfl
              have z5 : World.cell? w32 ⟨w5.heap.size, 5, none⟩ = some (.bool (noFm).prio) := S31.out.cell rfl
              have z6 : World.cell? w32 ⟨w5.heap.size, 6, none⟩ = some (.slice none 0 0) := S31.out.cell rfl
              have z7 : World.cell? w32 ⟨w5.heap.size, 7, none⟩ = some (.int .i64 (noFm).flags) := S31.out.cell rfl
              have z8 : World.cell? w32 ⟨w5.heap.size, 8, none⟩ = some (.int .i64 (noFm).pad) := S31.out.cell rfl
              have z9 : World.cell? w32 ⟨w5.heap.size, 9, none⟩ = some (.int .i64 (noFm).depend) := S31.out.cell rfl
              have z10 : World.cell? w32 ⟨w5.heap.size, 10, none⟩ = some (.bool (noFm).excl) := S31.out.cell rfl
              have z11 : World.cell? w32 ⟨w5.heap.size, 11, none⟩ = some (.int .i64 (noFm).weight) := S31.out.cell rfl
              have z12 : World.cell? w32 ⟨w5.heap.size, 12, none⟩ = some (.int .u32 (noFm).code) := S31.out.cell rfl
              have z13 : World.cell? w32 ⟨w5.heap.size, 13, none⟩ = some (.slice none 0 0) := S31.out.cell rfl
              have z14 : World.cell? w32 ⟨w5.heap.size, 14, none⟩ = some (.int .i64 (noFm).last) := S31.out.cell rfl
              have z15 : World.cell? w32 ⟨w5.heap.size, 15, none⟩ = some (.int .i64 (noFm).inc) := S31.out.cell rfl
              have DM : Hid (Dr mx (A ++ pre ++ b.take N) ((ts' ++ [(⟨noFm, none, 0, none, 0, true, c, 0⟩ : Tv)]).map Tv.out) [] true) := Lib.hid (by rw [List.map_append]; exact DQ.out)
              have hB1 := S31.out.lt
              have hB2 := S32.out.lt
              have baseO : w.heap.size ≤ w32.heap.size := TT.out.le
              have lnT : ts'.length ≤ 300000 := HTL.out
              go_wp2_with (at_builtin; refine app_row encFr_len encFr_one 57 Try.underlying57 infoFrR rfl (by decide) rfl _ _ rfl w.heap.size _ ts' rfl (OwnR.alloc TT.out.o _) _ [(⟨noFm, none, 0, none, 0, true, c, 0⟩ : Tv)] rfl (SliceOf.one (enc := encFr) (x := (⟨noFm, none, 0, none, 0, true, c, 0⟩ : Tv)) (size := 16) rfl (cs := fcs (((⟨noFm, none, 0, none, 0, true, c, 0⟩ : Tv)).F.mem ((⟨noFm, none, 0, none, 0, true, c, 0⟩ : Tv)).pv ((⟨noFm, none, 0, none, 0, true, c, 0⟩ : Tv)).lv)) rfl w32) (by simp [maxLen]; omega) (by simp; omega) (Nat.le_trans baseO (by simp)) ?_)
              intro v8 w8 own8 ch8 n8
              have ch8' : Chg (Value.slice oa ts'.length oc).ownBlock.toList w32 w8 := ((Chg.refl w32).alloc _).trans' ch8
              obtain ⟨a8, c8, hv8, hc8, hc8m⟩ := OwnR.slice own8
              rw [show (ts' ++ [(⟨noFm, none, 0, none, 0, true, c, 0⟩ : Tv)]).length = ts'.length + 1 by simp] at hv8
              subst hv8
              have T8 := Lib.hid (TT.out.pushO GX.out ch8' own8)
              have s32 : At w8 (w5.heap.size + 1) _ := S32.out.chg ch8' (OwnR.alien TT.out.o S32.out (by decide))
              have y0 : World.cell? w8 ⟨w5.heap.size + 1, 0, none⟩ = some (.bool true) := s32.cell rfl
              have y1 : World.cell? w8 ⟨w5.heap.size + 1, 1, none⟩ = some (.int .u32 (c : Nat)) := s32.cell rfl
              have y2 : World.cell? w8 ⟨w5.heap.size + 1, 2, none⟩ = some (.int .i64 0) := s32.cell rfl
              have hB28 := s32.lt
              have baseF : w.heap.size ≤ w8.heap.size := T8.out.le
              clear own8 ch8 ch8' n8 z0 z1 z2 z3 z4 z5 z6 z7 z8 z9 z10 z11 z12 z13 z14 z15 TT GX S31 S32 s32 hB1 hB2
              go_wp2_with (at_builtin; refine app_row encFa_len encFa_one 59 Try.underlying59 infoFaR rfl (by decide) rfl _ _ rfl w.heap.size _ ts' rfl (OwnR.alloc T8.out.f _) _ [(⟨noFm, none, 0, none, 0, true, c, 0⟩ : Tv)] rfl (SliceOf.one (enc := encFa) (x := (⟨noFm, none, 0, none, 0, true, c, 0⟩ : Tv)) (size := 3) rfl (cs := ((⟨noFm, none, 0, none, 0, true, c, 0⟩ : Tv)).fa) rfl w8) (by simp [maxLen]; omega) (by simp; omega) (Nat.le_trans baseF (by simp)) ?_)
              intro v9 w9 own9 ch9 n9
              have ch9' : Chg (Value.slice fa ts'.length fc).ownBlock.toList w8 w9 := ((Chg.refl w8).alloc _).trans' ch9
              obtain ⟨a9, c9, hv9, hc9, hc9m⟩ := OwnR.slice own9
              rw [show (ts' ++ [(⟨noFm, none, 0, none, 0, true, c, 0⟩ : Tv)]).length = ts'.length + 1 by simp] at hv9
              subst hv9
              have T9 := Lib.hid (T8.out.pushF ch9' own9)
              clear own9 ch9 ch9' n9 T8 y0 y1 y2
              have hkJ : (k : Int) < 40000 := HTI.out
              go_wp2_with fail
              go_roundw
              case rel => exact ⟨k + 1, _, [], true, ts' ++ [⟨noFm, none, 0, none, 0, true, c, 0⟩], by go_num, T9.out, by simp, fun _ => ⟨rfl, DM.out⟩, BQ.out, by omega⟩
              case measure => simp [intOf]; omega
            | fault c st r =>
              have hdf : dn' = false := by
                cases hd : dn' with
                | false => rfl
                | true => rw [(HR2.out hd).1] at hX; cases hX
              subst hdf
              rw [hX] at hp
              obtain ⟨hv5, rfl, h5, c5, o5⟩ := hp
              have TV := Lib.hid (TK.out.step c5 hpl h5 (fun x hx => by
                rcases List.mem_cons.1 hx with rfl | hx
                · exact Or.inl (by simp [footP])
                · exact Or.inr (OwnB.lo o5 x hx)))
              have hln := nxt_fault_len hX
              have DQ : Hid (∀ o r' d, Dr mx r o r' d → Dr mx (A ++ pre ++ b.take N) ((ts'.map Tv.out ++ [badO c st]) ++ o) r' d) := Lib.hid (fun o r' d k => by
                rw [List.append_assoc (ts'.map Tv.out)]; exact HR1.out rfl _ _ _ (.fault hX k))
              have BQ : Hid (9 * (k + 1) + r.length ≤ l4.length) := Lib.hid (by have := HKB.out; omega)
              clear h5 c5 o5 hX hpl hln
              go_upto_region 18 with fail
              have S31 : Hid (At ((w5.alloc (.cells noF 27)).alloc (.cells #[.bool true, .int .u32 (c : Nat), .int .i64 (st : Nat)] 46)) w5.heap.size (.cells noF 27)) := Lib.hid ((At.new w5 _).alloc _)
              have S32 : Hid (At ((w5.alloc (.cells noF 27)).alloc (.cells #[.bool true, .int .u32 (c : Nat), .int .i64 (st : Nat)] 46)) (w5.heap.size + 1) (.cells #[.bool true, .int .u32 (c : Nat), .int .i64 (st : Nat)] 46)) := Lib.hid (At.new' (w := w5.alloc (.cells noF 27)) (by simp))
              have TT := Lib.hid ((TV.out.same ((Chg.refl w5).alloc (.cells noF 27))).same ((Chg.refl _).alloc (.cells #[.bool true, .int .u32 (c : Nat), .int .i64 (st : Nat)] 46)))
              clear TV TK
              generalize (w5.alloc (.cells noF 27)).alloc (.cells #[.bool true, .int .u32 (c : Nat), .int .i64 (st : Nat)] 46) = w32 at *
              have GX : Hid (Good w32 w.heap.size (footP p hv5) ⟨noFm, none, 0, none, 0, true, c, st⟩) := Lib.hid ⟨OwnB.nil _ _, OwnR.nil _ _, by simp [Tv.pv, Value.ownBlock]⟩
              have z0 : World.cell? w32 ⟨w5.heap.size, 0, none⟩ = some (.int .i64 (noFm).kind) := S31.out.cell rfl
              have z1 : World.cell? w32 ⟨w5.heap.size, 1, none⟩ = some (.int .i64 (noFm).stream) := S31.out.cell rfl
              have z2 : World.cell? w32 ⟨w5.heap.size, 2, none⟩ = some (.bool (noFm).fin) := S31.out.cell rfl
              have z3 : World.cell? w32 ⟨w5.heap.size, 3, none⟩ = some (.bool (noFm).eh) := S31.out.cell rfl
              have z4 : World.cell? w32 ⟨w5.heap.size, 4, none⟩ = some (.bool (noFm).ack) := S31.out.cell rfl
              have z5 : World.cell? w32 ⟨w5.heap.size, 5, none⟩ = some (.bool (noFm).prio) := S31.out.cell rfl
              have z6 : World.cell? w32 ⟨w5.heap.size, 6, none⟩ = some (.slice none 0 0) := S31.out.cell rfl
              have z7 : World.cell? w32 ⟨w5.heap.size, 7, none⟩ = some (.int .i64 (noFm).flags) := S31.out.cell rfl
              have z8 : World.cell? w32 ⟨w5.heap.size, 8, none⟩ = some (.int .i64 (noFm).pad) := S31.out.cell rfl
              have z9 : World.cell? w32 ⟨w5.heap.size, 9, none⟩ = some (.int .i64 (noFm).depend) := S31.out.cell rfl
              have z10 : World.cell? w32 ⟨w5.heap.size, 10, none⟩ = some (.bool (noFm).excl) := S31.out.cell rfl
              have z11 : World.cell? w32 ⟨w5.heap.size, 11, none⟩ = some (.int .i64 (noFm).weight) := S31.out.cell rfl
              have z12 : World.cell? w32 ⟨w5.heap.size, 12, none⟩ = some (.int .u32 (noFm).code) := S31.out.cell rfl
              have z13 : World.cell? w32 ⟨w5.heap.size, 13, none⟩ = some (.slice none 0 0) := S31.out.cell rfl
              have z14 : World.cell? w32 ⟨w5.heap.size, 14, none⟩ = some (.int .i64 (noFm).last) := S31.out.cell rfl
              have z15 : World.cell? w32 ⟨w5.heap.size, 15, none⟩ = some (.int .i64 (noFm).inc) := S31.out.cell rfl
              have DM : Hid (∀ o r' d, Dr mx r o r' d → Dr mx (A ++ pre ++ b.take N) ((ts' ++ [(⟨noFm, none, 0, none, 0, true, c, st⟩ : Tv)]).map Tv.out ++ o) r' d) := Lib.hid (by rw [List.map_append]; exact DQ.out)
              have hB1 := S31.out.lt
              have hB2 := S32.out.lt
              have baseO : w.heap.size ≤ w32.heap.size := TT.out.le
              have lnT : ts'.length ≤ 300000 := HTL.out
              go_wp2_with (at_builtin; refine app_row encFr_len encFr_one 57 Try.underlying57 infoFrR rfl (by decide) rfl _ _ rfl w.heap.size _ ts' rfl (OwnR.alloc TT.out.o _) _ [(⟨noFm, none, 0, none, 0, true, c, st⟩ : Tv)] rfl (SliceOf.one (enc := encFr) (x := (⟨noFm, none, 0, none, 0, true, c, st⟩ : Tv)) (size := 16) rfl (cs := fcs (((⟨noFm, none, 0, none, 0, true, c, st⟩ : Tv)).F.mem ((⟨noFm, none, 0, none, 0, true, c, st⟩ : Tv)).pv ((⟨noFm, none, 0, none, 0, true, c, st⟩ : Tv)).lv)) rfl w32) (by simp [maxLen]; omega) (by simp; omega) (Nat.le_trans baseO (by simp)) ?_)
              intro v8 w8 own8 ch8 n8
              have ch8' : Chg (Value.slice oa ts'.length oc).ownBlock.toList w32 w8 := ((Chg.refl w32).alloc _).trans' ch8
              obtain ⟨a8, c8, hv8, hc8, hc8m⟩ := OwnR.slice own8
              rw [show (ts' ++ [(⟨noFm, none, 0, none, 0, true, c, st⟩ : Tv)]).length = ts'.length + 1 by simp] at hv8
              subst hv8
              have T8 := Lib.hid (TT.out.pushO GX.out ch8' own8)
              have s32 : At w8 (w5.heap.size + 1) _ := S32.out.chg ch8' (OwnR.alien TT.out.o S32.out (by decide))
              have y0 : World.cell? w8 ⟨w5.heap.size + 1, 0, none⟩ = some (.bool true) := s32.cell rfl
              have y1 : World.cell? w8 ⟨w5.heap.size + 1, 1, none⟩ = some (.int .u32 (c : Nat)) := s32.cell rfl
              have y2 : World.cell? w8 ⟨w5.heap.size + 1, 2, none⟩ = some (.int .i64 (st : Nat)) := s32.cell rfl
              have hB28 := s32.lt
              have baseF : w.heap.size ≤ w8.heap.size := T8.out.le
              clear own8 ch8 ch8' n8 z0 z1 z2 z3 z4 z5 z6 z7 z8 z9 z10 z11 z12 z13 z14 z15 TT GX S31 S32 s32 hB1 hB2
              go_wp2_with (at_builtin; refine app_row encFa_len encFa_one 59 Try.underlying59 infoFaR rfl (by decide) rfl _ _ rfl w.heap.size _ ts' rfl (OwnR.alloc T8.out.f _) _ [(⟨noFm, none, 0, none, 0, true, c, st⟩ : Tv)] rfl (SliceOf.one (enc := encFa) (x := (⟨noFm, none, 0, none, 0, true, c, st⟩ : Tv)) (size := 3) rfl (cs := ((⟨noFm, none, 0, none, 0, true, c, st⟩ : Tv)).fa) rfl w8) (by simp [maxLen]; omega) (by simp; omega) (Nat.le_trans baseF (by simp)) ?_)
              intro v9 w9 own9 ch9 n9
              have ch9' : Chg (Value.slice fa ts'.length fc).ownBlock.toList w8 w9 := ((Chg.refl w8).alloc _).trans' ch9
              obtain ⟨a9, c9, hv9, hc9, hc9m⟩ := OwnR.slice own9
              rw [show (ts' ++ [(⟨noFm, none, 0, none, 0, true, c, st⟩ : Tv)]).length = ts'.length + 1 by simp] at hv9
              subst hv9
              have T9 := Lib.hid (T8.out.pushF ch9' own9)
              clear own9 ch9 ch9' n9 T8 y0 y1 y2
              have hkJ : (k : Int) < 40000 := HTI.out
              go_wp2_with fail
              go_roundw
              case rel => exact ⟨k + 1, _, r, false, ts' ++ [⟨noFm, none, 0, none, 0, true, c, st⟩], by go_num, T9.out, fun _ => DM.out, by simp, BQ.out, by omega⟩
              case measure => simp [intOf]; omega
            | frame F r =>
              have hdf : dn' = false := by
                cases hd : dn' with
                | false => rfl
                | true => rw [(HR2.out hd).1] at hX; cases hX
              subst hdf
              rw [hX] at hp
              obtain ⟨hv5, pv, lv, rfl, h5, c5, o5, op5, os5, oa5⟩ := hp
              have TV := Lib.hid (TK.out.step c5 hpl h5 (fun x hx => by
                rcases List.mem_cons.1 hx with rfl | hx
                · exact Or.inl (by simp [footP])
                · exact Or.inr (OwnB.lo o5 x hx)))
              have hln := nxt_frame_len hX
              have DQ : Hid (∀ o r' d, Dr mx r o r' d → Dr mx (A ++ pre ++ b.take N) ((ts'.map Tv.out ++ [okO F]) ++ o) r' d) := Lib.hid (fun o r' d k => by
                rw [List.append_assoc (ts'.map Tv.out)]; exact HR1.out rfl _ _ _ (.frame hX k))
              have BQ : Hid (9 * (k + 1) + r.length ≤ l4.length) := Lib.hid (by have := HKB.out; omega)
              have hpp := h5.head
              have OP5 := Lib.hid op5; have OS5 := Lib.hid os5
              have OA5 : Hid (∀ g ∈ pv.ownBlock.toList, g ∉ footP p hv5) := Lib.hid (fun g hg hx => by
                rcases List.mem_cons.1 hx with rfl | hx
                · exact owns_alien op5 hpp (by decide) hg
                · exact oa5 g hg hx)
              have hWk : Hid (w.heap.size ≤ wk.heap.size) := Lib.hid TK.out.le
              clear h5 c5 o5 oa5 hX hpl hln hpp op5 os5
              obtain ⟨pa, pc, rfl, _, _⟩ := (OwnB.bytes OP5.out).slice
              obtain ⟨sa, sc, rfl, _, _⟩ := OwnR.slice OS5.out
              have b1 : At ((w5.alloc (.cells noF 27)).alloc (.cells noX 46)) w5.heap.size (.cells noF 27) := (At.new w5 _).alloc _
              have b2 : At ((w5.alloc (.cells noF 27)).alloc (.cells noX 46)) (w5.heap.size + 1) (.cells noX 46) := At.new' (w := w5.alloc (.cells noF 27)) (by simp)
              go_wp2_with (refine store_whole rfl 27 _ _ rfl w5.heap.size _ _ 27 rfl rfl b1 infoFr rfl (by simp [Value.oneCell', Fm.mem]) ?_)
              intro w31 s31 c31
              have b231 := At.chg b2 c31 (by simp)
              go_wp2_with (refine store_whole rfl 46 _ _ rfl (w5.heap.size + 1) _ _ 46 rfl rfl b231 infoFa rfl (by simp [Value.oneCell']) ?_)
              intro w32 s32 c32
              have S31 := Lib.hid (s31.chg c32 (by simp)); have S32 := Lib.hid s32
              have C32 : Hid (Chg [] w5 w32) := Lib.hid ((((Chg.refl w5).alloc _).alloc _).trans ((c31.mono (m := [w5.heap.size, w5.heap.size + 1]) (by simp)).trans' (c32.mono (by simp))) (fun x hx => Or.inr (by simp at hx; omega)))
              clear b1 b2 b231 s31 c31 c32 s32
              have TT := Lib.hid (TV.out.same C32.out)
              have GX : Hid (Good w32 w.heap.size (footP p hv5) ⟨F, pa, pc, sa, sc, false, 0, 0⟩) := Lib.hid ⟨owns_mono (OwnB.chg0' OP5.out C32.out) hWk.out, owns_mono (OwnR.chg0 OS5.out C32.out) hWk.out, OA5.out⟩
              clear TV TK C32
              have z0 : World.cell? w32 ⟨w5.heap.size, 0, none⟩ = some (.int .i64 (F).kind) := S31.out.cell rfl
              have z1 : World.cell? w32 ⟨w5.heap.size, 1, none⟩ = some (.int .i64 (F).stream) := S31.out.cell rfl
              have z2 : World.cell? w32 ⟨w5.heap.size, 2, none⟩ = some (.bool (F).fin) := S31.out.cell rfl
              have z3 : World.cell? w32 ⟨w5.heap.size, 3, none⟩ = some (.bool (F).eh) := S31.out.cell rfl
              have z4 : World.cell? w32 ⟨w5.heap.size, 4, none⟩ = some (.bool (F).ack) := S31.out.cell rfl
              have z5 : World.cell? w32 ⟨w5.heap.size, 5, none⟩ = some (.bool (F).prio) := S31.out.cell rfl
              have z6 : World.cell? w32 ⟨w5.heap.size, 6, none⟩ = some (.slice pa F.pay.length pc) := S31.out.cell rfl
              have z7 : World.cell? w32 ⟨w5.heap.size, 7, none⟩ = some (.int .i64 (F).flags) := S31.out.cell rfl
              have z8 : World.cell? w32 ⟨w5.heap.size, 8, none⟩ = some (.int .i64 (F).pad) := S31.out.cell rfl
              have z9 : World.cell? w32 ⟨w5.heap.size, 9, none⟩ = some (.int .i64 (F).depend) := S31.out.cell rfl
              have z10 : World.cell? w32 ⟨w5.heap.size, 10, none⟩ = some (.bool (F).excl) := S31.out.cell rfl
              have z11 : World.cell? w32 ⟨w5.heap.size, 11, none⟩ = some (.int .i64 (F).weight) := S31.out.cell rfl
              have z12 : World.cell? w32 ⟨w5.heap.size, 12, none⟩ = some (.int .u32 (F).code) := S31.out.cell rfl
              have z13 : World.cell? w32 ⟨w5.heap.size, 13, none⟩ = some (.slice sa F.list.length sc) := S31.out.cell rfl
              have z14 : World.cell? w32 ⟨w5.heap.size, 14, none⟩ = some (.int .i64 (F).last) := S31.out.cell rfl
              have z15 : World.cell? w32 ⟨w5.heap.size, 15, none⟩ = some (.int .i64 (F).inc) := S31.out.cell rfl
              have DM : Hid (∀ o r' d, Dr mx r o r' d → Dr mx (A ++ pre ++ b.take N) ((ts' ++ [(⟨F, pa, pc, sa, sc, false, 0, 0⟩ : Tv)]).map Tv.out ++ o) r' d) := Lib.hid (by rw [List.map_append]; exact DQ.out)
              have hB1 := S31.out.lt
              have hB2 := S32.out.lt
              have baseO : w.heap.size ≤ w32.heap.size := TT.out.le
              have lnT : ts'.length ≤ 300000 := HTL.out
              go_wp2_with (at_builtin; refine app_row encFr_len encFr_one 57 Try.underlying57 infoFrR rfl (by decide) rfl _ _ rfl w.heap.size _ ts' rfl (OwnR.alloc TT.out.o _) _ [(⟨F, pa, pc, sa, sc, false, 0, 0⟩ : Tv)] rfl (SliceOf.one (enc := encFr) (x := (⟨F, pa, pc, sa, sc, false, 0, 0⟩ : Tv)) (size := 16) rfl (cs := fcs (((⟨F, pa, pc, sa, sc, false, 0, 0⟩ : Tv)).F.mem ((⟨F, pa, pc, sa, sc, false, 0, 0⟩ : Tv)).pv ((⟨F, pa, pc, sa, sc, false, 0, 0⟩ : Tv)).lv)) rfl w32) (by simp [maxLen]; omega) (by simp; omega) (Nat.le_trans baseO (by simp)) ?_)
              intro v8 w8 own8 ch8 n8
              have ch8' : Chg (Value.slice oa ts'.length oc).ownBlock.toList w32 w8 := ((Chg.refl w32).alloc _).trans' ch8
              obtain ⟨a8, c8, hv8, hc8, hc8m⟩ := OwnR.slice own8
              rw [show (ts' ++ [(⟨F, pa, pc, sa, sc, false, 0, 0⟩ : Tv)]).length = ts'.length + 1 by simp] at hv8
              subst hv8
              have T8 := Lib.hid (TT.out.pushO GX.out ch8' own8)
              have s32 : At w8 (w5.heap.size + 1) _ := S32.out.chg ch8' (OwnR.alien TT.out.o S32.out (by decide))
              have y0 : World.cell? w8 ⟨w5.heap.size + 1, 0, none⟩ = some (.bool false) := s32.cell rfl
              have y1 : World.cell? w8 ⟨w5.heap.size + 1, 1, none⟩ = some (.int .u32 0) := s32.cell rfl
              have y2 : World.cell? w8 ⟨w5.heap.size + 1, 2, none⟩ = some (.int .i64 0) := s32.cell rfl
              have hB28 := s32.lt
              have baseF : w.heap.size ≤ w8.heap.size := T8.out.le
              clear own8 ch8 ch8' n8 z0 z1 z2 z3 z4 z5 z6 z7 z8 z9 z10 z11 z12 z13 z14 z15 TT GX S31 S32 s32 hB1 hB2
              go_wp2_with (at_builtin; refine app_row encFa_len encFa_one 59 Try.underlying59 infoFaR rfl (by decide) rfl _ _ rfl w.heap.size _ ts' rfl (OwnR.alloc T8.out.f _) _ [(⟨F, pa, pc, sa, sc, false, 0, 0⟩ : Tv)] rfl (SliceOf.one (enc := encFa) (x := (⟨F, pa, pc, sa, sc, false, 0, 0⟩ : Tv)) (size := 3) rfl (cs := ((⟨F, pa, pc, sa, sc, false, 0, 0⟩ : Tv)).fa) rfl w8) (by simp [maxLen]; omega) (by simp; omega) (Nat.le_trans baseF (by simp)) ?_)
              intro v9 w9 own9 ch9 n9
              have ch9' : Chg (Value.slice fa ts'.length fc).ownBlock.toList w8 w9 := ((Chg.refl w8).alloc _).trans' ch9
              obtain ⟨a9, c9, hv9, hc9, hc9m⟩ := OwnR.slice own9
              rw [show (ts' ++ [(⟨F, pa, pc, sa, sc, false, 0, 0⟩ : Tv)]).length = ts'.length + 1 by simp] at hv9
              subst hv9
              have T9 := Lib.hid (T8.out.pushF ch9' own9)
              clear own9 ch9 ch9' n9 T8 y0 y1 y2
              have hkJ : (k : Int) < 40000 := HTI.out
              go_wp2_with fail
              go_roundw
              case rel => exact ⟨k + 1, _, r, false, ts' ++ [⟨F, pa, pc, sa, sc, false, 0, 0⟩], by go_num, T9.out, fun _ => DM.out, by simp, BQ.out, by omega⟩
              case measure => simp [intOf]; omega
    · obtain rfl : i = ps.length := by omega
      have hltI : ¬ (ps.length : Int) < (ps.length : Int) := by omega
      rw [List.take_of_length_le (Nat.le_refl _)] at DI
      go_wp2_with fail
      refine bodyPost_ret (v := .tuple #[.slice oa ts.length oc, .slice fa ts.length fc, .bool true]) (by simp [results, Try.results26, go_sem]) rfl ⟨hv, l, dn, ts, _, _, rfl, TI.out, DI.out⟩
end Go.Proofs.Ythhgnipiaohplaa.Fr
