/-
  Octets cut at raw places.
-/
import Derived.Test.YthhgnipiaohplaaFtd
namespace Go.Proofs.Ythhgnipiaohplaa.Fr
open Go.ChangeShapes Go.WideShapes Go.ChangeAt Go.RowKit
open Go.Proofs.Ythhgnipiaohplaa.B
set_option linter.unusedVariables false
set_option linter.unusedSimpArgs false

def encI (n : Int) : List Value := [.int .i64 n]
def I64 (n : Int) : Prop := -9223372036854775808 ≤ n ∧ n ≤ 9223372036854775807
set_option maxRecDepth 100000 in
theorem decI {H : Type} {enc : TypeId × Value → H} {W : World} (n : Nat) (cs : List Value) (x : DataW H × List MemPlace) (hl : cs.length = 1)
    (h : DataW.trod enc Try.prog W 0 (fun _ => true) true n 3 cs = some x) : ∃ z, cs = encI z ∧ I64 z := by
  obtain ⟨a, ha, _, hwa⟩ := DataW.trod_int Try.underlying3 h
  exact ⟨a, ha, i64_bounds hwa⟩
theorem int_cells {w : World} {a : Option Addr} {n cap : Nat} {zs : List Int} (h : SliceOf w (.slice a n cap) 1 encI zs) (h0 : 0 < zs.length) :
    ∃ b off, a = some ⟨b, off, none⟩ ∧ b < w.heap.size ∧ ∀ i z, zs[i]? = some z → w.cell? ⟨b, off + i, none⟩ = some (.int .i64 z) := by
  obtain ⟨b, off, rfl, hb, hc⟩ := h.at h0
  exact ⟨b, off, rfl, hb, fun i f hf => by have h1 := hc i f hf 0 (by omega); rw [Nat.mul_one, Nat.add_zero] at h1; exact h1⟩
theorem infoBs : (Try.prog.info? 22).map (fun i => (i.zero, i.size, i.bytes)) = some (some (.slice none 0 0), 1, 24) := by kernel_rfl
theorem encP_len (x : Pc) : (encP x).length = 1 := rfl
/-- A piece that is a slice. -/
structure Ps where
  a : Option Addr
  c : Nat
  b : List UInt8
def Ps.v (x : Ps) : Value := .slice x.a x.b.length x.c
def Ps.pc (x : Ps) : Pc := ⟨x.v, x.b⟩
def encPs (x : Ps) : List Value := [x.v]
theorem encPs_len (x : Ps) : (encPs x).length = 1 := rfl
theorem encPs_one (x : Ps) : ∀ u ∈ encPs x, u.oneCell' = true := by
  intro u hu
  simp only [encPs, List.mem_singleton] at hu
  subst hu; rfl
/-- It is a part of v's row. -/
def Of (v : Value) (x : Ps) : Prop := 0 < x.b.length → ∀ a, x.a = some a → ∃ a' n' c', v = .slice (some a') n' c' ∧ a.block = a'.block
def catS (ps : List Ps) : List UInt8 := ps.flatMap (·.b)
theorem catS_pc (ps : List Ps) : cat (ps.map Ps.pc) = catS ps := by
  unfold cat catS
  rw [List.flatMap_map]; rfl
theorem catS_snoc (ps : List Ps) (x : Ps) : catS (ps ++ [x]) = catS ps ++ x.b := by
  unfold catS; rw [List.flatMap_append]; simp
theorem cut_nat {m : Int} {L : Nat} (h : 0 ≤ m) : ∃ N : Nat, m % ((L : Int) + 1) = (N : Int) ∧ N ≤ L := by
  have h1 := Int.emod_nonneg m (b := (L : Int) + 1) (by omega)
  have h2 := Int.emod_lt_of_pos m (b := (L : Int) + 1) (by omega)
  exact ⟨(m % ((L : Int) + 1)).toNat, (Int.toNat_of_nonneg h1).symm, by omega⟩
set_option maxRecDepth 100000 in
set_option maxHeartbeats 16000000 in
theorem pieces_any {w : World} (bv : Value) (b : List UInt8) (hb : BytesOf w bv b) (hbl : b.length ≤ 1000000000) (cv : Value) (cs : List Int) (hc : SliceOf w cv 1 encI cs) (hci : ∀ z ∈ cs, I64 z) :
    Calls Try.prog 27 #[bv, cv] w fun e w' => ∃ rv ps, e = .returned rv ∧ OwnR 22 1 encPs w' w.heap.size rv ps ∧ catS ps = b ∧ (∀ z ∈ ps, BytesOf w z.v z.b ∧ Of bv z) ∧ Chg [] w w' := by
  obtain ⟨ba0, bc0, rfl, hbc, hbcm⟩ := hb.slice
  obtain ⟨ca, cc, rfl, hcc, hccm⟩ := hc.len
  have HB := Lib.hid hb; have HC := Lib.hid hc; have HCI := Lib.hid hci; have HBM := Lib.hid hbcm; have HBL := Lib.hid hbl
  unfold maxLen at hccm
  clear hb hc hci hbcm hbl
  go_enter Try.func27, Try.ntmps27
  go_wp2_with fail
  go_loopw [0, 5, 6] (fun bv' ov iv wr => ∃ (i : Nat) (ps : List Ps) (bb : List UInt8) (ba : Option Addr) (bc : Nat), i ≤ 100 ∧ ps.length = i ∧ iv = .int .i64 i ∧ catS ps ++ bb = b ∧ bv' = .slice ba bb.length bc ∧ BytesOf w (.slice ba bb.length bc) bb ∧ Of (.slice ba0 b.length bc0) ⟨ba, bc, bb⟩ ∧ OwnR 22 1 encPs wr w.heap.size ov ps ∧ (∀ z ∈ ps, BytesOf w z.v z.b ∧ Of (.slice ba0 b.length bc0) z) ∧ Chg [] w wr) (fun _ _ iv _ => 100 - (intOf iv).toNat)
  case atStart => exact ⟨0, [], b, ba0, bc0, by omega, rfl, rfl, rfl, rfl, HB.out, fun _ a ha => ⟨a, _, _, by rw [← show ba0 = some a from ha], rfl⟩, OwnR.nil _ _, by simp, Chg.refl _⟩
  case round =>
    obtain ⟨i, ps, bb, ba, bc, hi, hpl, rfl, hcat, rfl, hB, hOf, hO, hE, hCh⟩ := hrel
    have hbbl : bb.length ≤ b.length := by rw [← hcat, List.length_append]; omega
    have hbb9 : (bb.length : Int) ≤ 1000000000 := by have := HBL.out; omega
    obtain ⟨hbc1, hbc2⟩ : bb.length ≤ bc ∧ bc ≤ maxLen := by
      obtain ⟨_, c', he, h1, h2⟩ := hB.slice
      simp only [Value.slice.injEq] at he
      obtain ⟨_, _, rfl⟩ := he
      exact ⟨h1, h2⟩
    have HBC := Lib.hid (And.intro hbc1 hbc2); have HCAT := Lib.hid hcat; have BB := Lib.hid hB; have OF := Lib.hid hOf; have OO := Lib.hid hO; have EE := Lib.hid hE; have CH := Lib.hid hCh; have HPL := Lib.hid hpl
    have hOs := hO.slice
    obtain ⟨oa, oc, rfl, _, _⟩ := hOs
    clear hcat hB hOf hO hE hCh hbbl hpl hbc1 hbc2
    by_cases hgo : i < cs.length ∧ i < 100 ∧ 0 < bb.length
    · obtain ⟨h1, h2, h3⟩ := hgo
      have h1I : (i : Int) < (cs.length : Int) := by omega
      have h2I : (i : Int) < 100 := by omega
      have h3I : (0 : Int) < (bb.length : Int) := by omega
      obtain ⟨b0, o0, rfl, _, _⟩ := BB.out.cell h3
      obtain ⟨cb, coff, rfl, hcbw, hcell⟩ := int_cells HC.out (by omega)
      obtain ⟨z, hz⟩ : ∃ z, cs[i]? = some z := ⟨_, List.getElem?_eq_getElem h1⟩
      have c0 : World.cell? wr ⟨cb, coff + i, none⟩ = some (.int .i64 z) := (CH.out.cell hcbw (by simp) _).trans (hcell i z hz)
      have hzi := HCI.out z (List.mem_of_getElem? hz)
      obtain ⟨m, hm⟩ : ∃ m : Int, m = if z < 0 then -(z + 1) else z := ⟨_, rfl⟩
      have hm0 : 0 ≤ m ∧ m ≤ 9223372036854775807 := by rw [hm]; unfold I64 at hzi; split <;> omega
      obtain ⟨N, hN, hNb⟩ := cut_nat (m := m) (L := bb.length) hm0.1
      have hNT : m.tmod ((bb.length : Int) + 1) = (N : Int) := by rw [Int.tmod_eq_emod_of_nonneg hm0.1]; exact hN
      have HM := Lib.hid hm; have HZI := Lib.hid hzi; have HN := Lib.hid hNT
      have HNB := Lib.hid hNb
      clear hcell hz hm hzi hN hNT
      go_upto_region 5 with fail
      iterate 20 go_step
      go_cut [7] (fun v wx => v = .int .i64 m ∧ wx = wr)
      case first =>
        have hzi := HZI.out
        unfold I64 at hzi
        rcases ltC z 0 with ⟨k1, _⟩ | ⟨k1, k1'⟩
        · have hx : Hid (m = -(z + 1)) := Lib.hid (by rw [HM.out, if_pos k1])
          have w2 : Hid (wrap64 (-(z + 1)) = -(z + 1)) := Lib.hid (by unfold wrap64; omega)
          go_wp2_with fail
          go_meet
          case rel => exact ⟨by first | (rw [hx.out]; done) | rw [hx.out, w2.out], rfl⟩
        · have hx : Hid (m = z) := Lib.hid (by rw [HM.out, if_neg k1])
          clear hzi
          go_wp2_with fail
          go_meet
          case rel => exact ⟨by rw [hx.out], rfl⟩
      case rest =>
        obtain ⟨rfl, hwx⟩ := hcut
        have hwx' := hwx.symm
        subst hwx'
        have hm0' := Lib.hid hm0
        clear hm0
        go_upto_region 9 with fail
        rw [HN.out]
        have hNI : (N : Int) ≤ (bc : Int) := by have := HNB.out; have := HBC.out; omega
        have lN : (bb.take N).length = N := by rw [List.length_take]; have := HNB.out; omega
        have e1 : (⟨some ⟨b0, o0, none⟩, bc, bb.take N⟩ : Ps).v = .slice (some ⟨b0, o0, none⟩) N bc := by unfold Ps.v; rw [lN]
        have P1 := Lib.hid (BytesOf.pre BB.out N HNB.out)
        have E1 := Lib.hid e1
        have hpl1 : Hid (ps.length ≤ 100) := Lib.hid (by have := HPL.out; omega)
        clear e1 lN c0
        go_wp2_with (at_builtin; refine app_row encPs_len encPs_one 62 Try.underlying62 infoBs rfl (by decide) rfl _ _ rfl w.heap.size _ ps rfl (OwnR.alloc OO.out _) _ [⟨some ⟨b0, o0, none⟩, bc, bb.take N⟩] rfl (SliceOf.one (enc := encPs) (x := ⟨some ⟨b0, o0, none⟩, bc, bb.take N⟩) (size := 1) rfl (cs := #[.slice (some ⟨b0, o0, none⟩) N bc]) (by show [_] = [_]; rw [E1.out]) wr) (by have := hpl1.out; simp [maxLen]; omega) (by have := hpl1.out; simp; omega) (Nat.le_trans CH.out.size (by simp)) ?_)
        intro v8 w8 own8 ch8 n8
        have ch8' : Chg [] w w8 := (CH.out.alloc _).trans ch8 (fun x hx => Or.inr (OwnR.lo OO.out x hx))
        obtain ⟨a8, c8, hv8, _, _⟩ := OwnR.slice own8
        rw [show (ps ++ [(⟨some ⟨b0, o0, none⟩, bc, bb.take N⟩ : Ps)]).length = ps.length + 1 by simp] at hv8
        subst hv8
        have O8 := Lib.hid own8; have C8 := Lib.hid ch8'
        clear own8 ch8 ch8' n8 OO CH
        have RL : Hid ((bb.drop N).length = bb.length - N) := Lib.hid (by rw [List.length_drop])
        have X1 : Hid (catS (ps ++ [(⟨some ⟨b0, o0, none⟩, bc, bb.take N⟩ : Ps)]) ++ bb.drop N = b) := Lib.hid (by rw [catS_snoc, List.append_assoc, List.take_append_drop]; exact HCAT.out)
        have X2 : Hid (∀ z ∈ ps ++ [(⟨some ⟨b0, o0, none⟩, bc, bb.take N⟩ : Ps)], BytesOf w z.v z.b ∧ Of (.slice ba0 b.length bc0) z) := Lib.hid (fun z hz => by
          rcases List.mem_append.1 hz with hz | hz
          · exact EE.out z hz
          · simp only [List.mem_singleton] at hz
            subst hz
            exact ⟨by rw [E1.out]; exact P1.out, fun _ a ha => OF.out h3 a ha⟩)
        have hcm := HBC.out.2
        have hcb := HBC.out.1
        have hnb := HNB.out
        have HCM := Lib.hid hcm
        by_cases hcn : bc = N
        · have hbl : Hid (bb.length = N) := Lib.hid (by omega)
          have OF' : Hid (Of (.slice ba0 b.length bc0) ⟨some ⟨b0, o0, none⟩, 0, bb.drop N⟩) := Lib.hid (fun h0 => by simp only [List.length_drop, hbl.out] at h0; omega)
          subst hcn
          clear hcm hcb hnb hNI
          go_wp2_with fail
          go_roundw
          case rel => exact ⟨i + 1, ps ++ [(⟨some ⟨b0, o0, none⟩, bc, bb.take bc⟩ : Ps)], bb.drop bc, _, _, by omega, by rw [List.length_append, HPL.out]; rfl, by go_num, X1.out, by rw [RL.out], by rw [RL.out]; exact bytes_end hbl.out (by have := HCM.out; omega), fun h0 => by simp only [List.length_drop, hbl.out] at h0; omega, O8.out, X2.out, C8.out⟩
          case measure => simp [intOf]; omega
        · have hd := Lib.hid (bytes_drop BB.out N hnb hcb hcm)
          have hcnI : ¬ (bc : Int) = (N : Int) := by omega
          have OF' : Hid (Of (.slice ba0 b.length bc0) ⟨some ⟨b0, o0 + N, none⟩, bc - N, bb.drop N⟩) := Lib.hid (fun h0 a ha => by
            cases ha
            obtain ⟨a', n', c', h1, h2⟩ := OF.out h3 _ rfl
            exact ⟨a', n', c', h1, h2⟩)
          clear hcm hcb hnb
          go_wp2_with fail
          go_roundw
          case rel => exact ⟨i + 1, ps ++ [(⟨some ⟨b0, o0, none⟩, bc, bb.take N⟩ : Ps)], bb.drop N, _, _, by omega, by rw [List.length_append, HPL.out]; rfl, by go_num, X1.out, by rw [RL.out], by rw [RL.out]; exact hd.out, OF'.out, O8.out, X2.out, C8.out⟩
          case measure => simp [intOf]; omega
    · have hpl1 : Hid (ps.length ≤ 100) := Lib.hid (by have := HPL.out; omega)
      have X1 : Hid (catS (ps ++ [(⟨ba, bc, bb⟩ : Ps)]) = b) := Lib.hid (by rw [catS_snoc]; exact HCAT.out)
      have X2 : Hid (∀ z ∈ ps ++ [(⟨ba, bc, bb⟩ : Ps)], BytesOf w z.v z.b ∧ Of (.slice ba0 b.length bc0) z) := Lib.hid (fun z hz => by
        rcases List.mem_append.1 hz with hz | hz
        · exact EE.out z hz
        · simp only [List.mem_singleton] at hz
          subst hz
          exact ⟨BB.out, OF.out⟩)
      rcases Nat.lt_or_ge i cs.length with h1 | h1
      · have h1I : (i : Int) < (cs.length : Int) := by omega
        rcases Nat.lt_or_ge i 100 with h2 | h2
        · have h2I : (i : Int) < 100 := by omega
          have h3 : bb.length = 0 := by omega
          obtain rfl : bb = [] := List.length_eq_zero_iff.1 h3
          go_wp2_with (at_builtin; refine app_row encPs_len encPs_one 62 Try.underlying62 infoBs rfl (by decide) rfl _ _ rfl w.heap.size _ ps rfl (OwnR.alloc OO.out _) _ [⟨ba, bc, ([] : List UInt8)⟩] rfl (SliceOf.one (enc := encPs) (x := ⟨ba, bc, ([] : List UInt8)⟩) (size := 1) rfl (cs := #[.slice ba (([] : List UInt8)).length bc]) rfl wr) (by have := hpl1.out; simp [maxLen]; omega) (by have := hpl1.out; simp; omega) (Nat.le_trans CH.out.size (by simp)) ?_)
          intro v8 w8 own8 ch8 n8
          have ch8' : Chg [] w w8 := (CH.out.alloc _).trans ch8 (fun x hx => Or.inr (OwnR.lo OO.out x hx))
          have O8 := Lib.hid own8; have C8 := Lib.hid ch8'
          clear own8 ch8 ch8' n8 OO CH
          go_wp2_with fail
          go_ret
          exact ⟨_, _, rfl, O8.out, X1.out, X2.out, C8.out⟩
        · have h2I : ¬ (i : Int) < 100 := by omega
          go_wp2_with (at_builtin; refine app_row encPs_len encPs_one 62 Try.underlying62 infoBs rfl (by decide) rfl _ _ rfl w.heap.size _ ps rfl (OwnR.alloc OO.out _) _ [⟨ba, bc, bb⟩] rfl (SliceOf.one (enc := encPs) (x := ⟨ba, bc, bb⟩) (size := 1) rfl (cs := #[.slice ba (bb).length bc]) rfl wr) (by have := hpl1.out; simp [maxLen]; omega) (by have := hpl1.out; simp; omega) (Nat.le_trans CH.out.size (by simp)) ?_)
          intro v8 w8 own8 ch8 n8
          have ch8' : Chg [] w w8 := (CH.out.alloc _).trans ch8 (fun x hx => Or.inr (OwnR.lo OO.out x hx))
          have O8 := Lib.hid own8; have C8 := Lib.hid ch8'
          clear own8 ch8 ch8' n8 OO CH
          go_wp2_with fail
          go_ret
          exact ⟨_, _, rfl, O8.out, X1.out, X2.out, C8.out⟩
      · have h1I : ¬ (i : Int) < (cs.length : Int) := by omega
        go_wp2_with (at_builtin; refine app_row encPs_len encPs_one 62 Try.underlying62 infoBs rfl (by decide) rfl _ _ rfl w.heap.size _ ps rfl (OwnR.alloc OO.out _) _ [⟨ba, bc, bb⟩] rfl (SliceOf.one (enc := encPs) (x := ⟨ba, bc, bb⟩) (size := 1) rfl (cs := #[.slice ba (bb).length bc]) rfl wr) (by have := hpl1.out; simp [maxLen]; omega) (by have := hpl1.out; simp; omega) (Nat.le_trans CH.out.size (by simp)) ?_)
        intro v8 w8 own8 ch8 n8
        have ch8' : Chg [] w w8 := (CH.out.alloc _).trans ch8 (fun x hx => Or.inr (OwnR.lo OO.out x hx))
        have O8 := Lib.hid own8; have C8 := Lib.hid ch8'
        clear own8 ch8 ch8' n8 OO CH
        go_wp2_with fail
        go_ret
        exact ⟨_, _, rfl, O8.out, X1.out, X2.out, C8.out⟩
end Go.Proofs.Ythhgnipiaohplaa.Fr
