/-
  A frame made small.
-/
import Derived.Test.YthhgnipiaohplaaFsa
namespace Go.Proofs.Ythhgnipiaohplaa.Fr
open Go.ChangeShapes Go.WideShapes Go.ChangeAt Go.RowKit
open Go.Proofs.Ythhgnipiaohplaa.B
set_option linter.unusedVariables false
set_option linter.unusedSimpArgs false

def smF (F : Fm) : Fm := { F with pay := F.pay.take 3000, list := F.list.take 500 }
theorem SliceOf.pre {α : Type} {size : Nat} {enc : α → List Value} {w : World} {a : Option Addr} {n cap : Nat} {l : List α} (h : SliceOf w (.slice a n cap) size enc l) (k : Nat) (hk : k ≤ l.length) : SliceOf w (.slice a k cap) size enc (l.take k) := by
  obtain ⟨a', cap', he, hc, hm, h3⟩ := h
  simp only [Value.slice.injEq] at he
  obtain ⟨rfl, rfl, rfl⟩ := he
  refine ⟨_, _, by rw [List.length_take, Nat.min_eq_left hk], by rw [List.length_take]; omega, hm, fun h0 => ?_⟩
  rw [List.length_take] at h0
  obtain ⟨b, off, rfl, hb, hcell⟩ := h3 (by omega)
  refine ⟨b, off, rfl, hb, fun i z hz j hj => hcell i z ?_ j hj⟩
  have hi := (List.getElem?_eq_some_iff.1 hz).1
  rw [List.length_take] at hi
  rwa [List.getElem?_take_of_lt (by omega)] at hz
theorem OwnR.empty {α : Type} {e : TypeId} {size : Nat} {enc : α → List Value} {w : World} {base : Nat} (hb : base ≤ w.heap.size) : OwnR e size enc (w.alloc (.cells #[] e)) base (.slice (some ⟨w.heap.size, 0, none⟩) 0 0) ([] : List α) := by
  refine ⟨by simp, Or.inr ⟨w.heap.size, 0, #[], rfl, hb, ?_, Nat.le_refl _, by simp [maxLen], by simp, by simp⟩⟩
  exact At.new w _
set_option maxRecDepth 100000 in
set_option maxHeartbeats 8000000 in
theorem small_any {w : World} (F : Fm) (pv lv : Value) (hp : BytesOf w pv F.pay) (hl : SliceOf w lv 2 encS F.list) :
    Calls Try.prog 13 #[.agg (fcs (F.mem pv lv))] w fun e w' => ∃ pv' lv', e = .returned (.agg (fcs ((smF F).mem pv' lv'))) ∧ OwnB w' w.heap.size pv' (smF F).pay ∧ OwnR 50 2 encS w' w.heap.size lv' (smF F).list ∧ Chg [] w w' := by
  obtain ⟨pa, pc, rfl, hpc, hpcm⟩ := hp.slice
  obtain ⟨la, lc, rfl, hlc, hlcm⟩ := hl.len
  unfold maxLen at hpcm hlcm
  obtain ⟨M, hM⟩ : ∃ M : Nat, min F.pay.length 3000 = M := ⟨_, rfl⟩
  obtain ⟨K, hK⟩ : ∃ K : Nat, min F.list.length 500 = K := ⟨_, rfl⟩
  have eM : min (F.pay.length : Int) 3000 = (M : Int) := by omega
  have eK : min (F.list.length : Int) 500 = (K : Int) := by omega
  have jM : (M : Int) ≤ (pc : Int) := by omega
  have jK : (K : Int) ≤ (lc : Int) := by omega
  have hM3 : M ≤ 3000 := by omega
  have hK5 : K ≤ 500 := by omega
  have tM : F.pay.take M = F.pay.take 3000 := by rw [← hM, Nat.min_comm, ← List.take_take, List.take_of_length_le (Nat.le_refl F.pay.length)]
  have tK : F.list.take K = F.list.take 500 := by rw [← hK, Nat.min_comm, ← List.take_take, List.take_of_length_le (Nat.le_refl F.list.length)]
  have HP := Lib.hid (BytesOf.pre hp M (by omega)); have HL := Lib.hid (SliceOf.pre hl K (by omega))
  have TM := Lib.hid tM; have TK := Lib.hid tK
  have lM : Hid ((F.pay.take M).length = M) := Lib.hid (by rw [List.length_take]; omega)
  have lK : Hid ((F.list.take K).length = K) := Lib.hid (by rw [List.length_take]; omega)
  obtain ⟨w2, hw2⟩ : ∃ w2, w2 = (w.alloc (.cells (fcs (F.mem (.slice pa F.pay.length pc) (.slice la F.list.length lc))) 27)).alloc (.cells noF 27) := ⟨_, rfl⟩
  have hc : Chg [] w w2 := by rw [hw2]; exact ((Chg.refl w).alloc _).alloc _
  have a1 : At w2 w.heap.size (.cells (fcs (F.mem (.slice pa F.pay.length pc) (.slice la F.list.length lc))) 27 (0, 0)) := by rw [hw2]; exact (At.new w _).alloc _
  have a2 : At w2 (w.heap.size + 1) (.cells noF 27 (0, 0)) := by rw [hw2]; exact At.new' (by simp)
  obtain ⟨A, hA⟩ : ∃ A, A = w.heap.size := ⟨_, rfl⟩
  obtain ⟨A2, hA2⟩ : ∃ A, A = w.heap.size + 1 := ⟨_, rfl⟩
  have hAA : ¬ A = A2 := by omega
  have hA1b : Hid (w.heap.size ≤ A ∧ w.heap.size ≤ A2) := Lib.hid (by omega)
  rw [← hA] at a1
  rw [← hA2] at a2
  have hAl := a1.lt
  have hA2l := a2.lt
  have x6 : World.cell? w2 ⟨A, 6, none⟩ = some (.slice pa F.pay.length pc) := a1.cell rfl
  have A1 := Lib.hid a1; have AA2 := Lib.hid a2; have HC := Lib.hid hc; have HA := Lib.hid (And.intro hA hA2); have HW := Lib.hid hw2
  clear hp hl hM hK tM tK hc a1 a2 hA hA2 hw2
  go_enter Try.func13, Try.ntmps13
  go_upto_region 1 with fail
  rw [← HW.out, ← HA.out.2, ← HA.out.1]
  go_wp2_with (at_builtin; refine app_any rfl _ _ rfl w.heap.size (.slice (some ⟨w2.heap.size, 0, none⟩) 0 0) [] rfl (OwnB.empty HC.out.size) _ (F.pay.take M) rfl ((HP.out.chg0 HC.out).chg0 ((Chg.refl w2).alloc _)) (by rw [lM.out]; simp; omega) (Nat.le_trans HC.out.size (by simp)) ?_)
  intro v3 w3 own3 ch3 n3
  try rw [List.nil_append] at own3
  obtain ⟨a3, c3, rfl, hc3, hc3m⟩ := (OwnB.bytes own3).slice
  rw [lM.out] at own3 hc3
  have c23 : Chg [] w2 w3 := ((Chg.refl w2).alloc _).trans ch3 (fun x hx => Or.inr (by simp [Value.ownBlock] at hx; omega))
  have B1 := Lib.hid (A1.out.chg c23 (by simp)); have B2 := Lib.hid (AA2.out.chg c23 (by simp)); have C3 := Lib.hid (HC.out.trans' c23)
  have O3 := Lib.hid own3
  have zf : ∀ j, World.frozen? w3 ⟨A, j, none⟩ = false := fun j => B1.out.free j
  have z6 : World.cell? w3 ⟨A, 6, none⟩ = some (.slice pa F.pay.length pc) := B1.out.cell rfl
  rw [lM.out]
  clear own3 ch3 n3 c23 A1 AA2 HC x6
  go_upto_region 2 with fail
  have cs : Chg [A] w3 (w3.setCell ⟨A, 6, none⟩ (.slice a3 M c3)) := (Chg.refl w3).setCell (Or.inl (by simp)) _
  have D1 := Lib.hid (B1.out.set 6 (.slice a3 M c3)); have D2 := Lib.hid (B2.out.chg cs (by simp; omega))
  have O4 := Lib.hid (OwnB.chg O3.out cs (fun g hg hx => owns_alien O3.out B1.out (by decide) (by simp at hx; subst hx; simp [hg])))
  have C4 : Hid (Chg [] w (w3.setCell ⟨A, 6, none⟩ (.slice a3 M c3))) := Lib.hid (C3.out.trans cs (fun x hx => Or.inr (by simp at hx; subst hx; exact hA1b.out.1)))
  clear cs B1 B2 O3 C3 zf z6
  generalize w3.setCell ⟨A, 6, none⟩ (.slice a3 M c3) = w4 at *
  have x13 : World.cell? w4 ⟨A, 13, none⟩ = some (.slice la F.list.length lc) := D1.out.cell rfl
  have hAl4 := D1.out.lt
  have hA2l4 := D2.out.lt
  go_wp2_with (at_builtin; refine app_row encS_len encS_one 25 Try.underlying25 infoS rfl (by decide) rfl _ _ rfl w.heap.size (.slice (some ⟨w4.heap.size, 0, none⟩) 0 0) [] rfl (OwnR.empty C4.out.size) _ (F.list.take K) rfl ((HL.out.chg0 C4.out).chg0 ((Chg.refl w4).alloc _)) (by rw [lK.out]; simp [maxLen]; omega) (by rw [lK.out]; simp; omega) (Nat.le_trans C4.out.size (by simp)) ?_)
  intro v5 w5 own5 ch5 n5
  try rw [List.nil_append] at own5
  obtain ⟨a5, c5, rfl, hc5, hc5m⟩ := OwnR.slice own5
  rw [lK.out] at own5 hc5
  have c45 : Chg [] w4 w5 := ((Chg.refl w4).alloc _).trans ch5 (fun x hx => Or.inr (by simp [Value.ownBlock] at hx; omega))
  have E1 := Lib.hid (D1.out.chg c45 (by simp)); have E2 := Lib.hid (D2.out.chg c45 (by simp)); have C5 := Lib.hid (C4.out.trans' c45)
  have O5 := Lib.hid own5; have P5 := Lib.hid (OwnB.chg0' O4.out c45)
  have zf : ∀ j, World.frozen? w5 ⟨A, j, none⟩ = false := fun j => E1.out.free j
  have z13 : World.cell? w5 ⟨A, 13, none⟩ = some (.slice la F.list.length lc) := E1.out.cell rfl
  rw [lK.out]
  clear own5 ch5 n5 c45 D1 D2 C4 O4 x13
  go_upto_region 3 with fail
  have cs : Chg [A] w5 (w5.setCell ⟨A, 13, none⟩ (.slice a5 K c5)) := (Chg.refl w5).setCell (Or.inl (by simp)) _
  have D1 := Lib.hid (E1.out.set 13 (.slice a5 K c5)); have D2 := Lib.hid (E2.out.chg cs (by simp; omega))
  have O6 := Lib.hid (OwnR.chg O5.out cs (fun g hg hx => owns_alien O5.out E1.out (by decide) (by simp at hx; subst hx; simp [hg])))
  have P6 := Lib.hid (OwnB.chg P5.out cs (fun g hg hx => owns_alien P5.out E1.out (by decide) (by simp at hx; subst hx; simp [hg])))
  have C6 : Hid (Chg [] w (w5.setCell ⟨A, 13, none⟩ (.slice a5 K c5))) := Lib.hid (C5.out.trans cs (fun x hx => Or.inr (by simp at hx; subst hx; exact hA1b.out.1)))
  clear cs E1 E2 O5 P5 C5 zf z13
  generalize w5.setCell ⟨A, 13, none⟩ (.slice a5 K c5) = w6 at *
  have at1 : At w6 A (.cells (fcs ((smF F).mem (.slice a3 M c3) (.slice a5 K c5))) 27 (0, 0)) := D1.out
  have x0 : World.cell? w6 ⟨A, 0, none⟩ = some (.int .i64 F.kind) := at1.cell rfl
  have x1 : World.cell? w6 ⟨A, 1, none⟩ = some (.int .i64 F.stream) := at1.cell rfl
  have x2 : World.cell? w6 ⟨A, 2, none⟩ = some (.bool F.fin) := at1.cell rfl
  have x3 : World.cell? w6 ⟨A, 3, none⟩ = some (.bool F.eh) := at1.cell rfl
  have x4 : World.cell? w6 ⟨A, 4, none⟩ = some (.bool F.ack) := at1.cell rfl
  have x5 : World.cell? w6 ⟨A, 5, none⟩ = some (.bool F.prio) := at1.cell rfl
  have x6 : World.cell? w6 ⟨A, 6, none⟩ = some (.slice a3 M c3) := at1.cell rfl
  have x7 : World.cell? w6 ⟨A, 7, none⟩ = some (.int .i64 F.flags) := at1.cell rfl
  have x8 : World.cell? w6 ⟨A, 8, none⟩ = some (.int .i64 F.pad) := at1.cell rfl
  have x9 : World.cell? w6 ⟨A, 9, none⟩ = some (.int .i64 F.depend) := at1.cell rfl
  have x10 : World.cell? w6 ⟨A, 10, none⟩ = some (.bool F.excl) := at1.cell rfl
  have x11 : World.cell? w6 ⟨A, 11, none⟩ = some (.int .i64 F.weight) := at1.cell rfl
  have x12 : World.cell? w6 ⟨A, 12, none⟩ = some (.int .u32 F.code) := at1.cell rfl
  have x13 : World.cell? w6 ⟨A, 13, none⟩ = some (.slice a5 K c5) := at1.cell rfl
  have x14 : World.cell? w6 ⟨A, 14, none⟩ = some (.int .i64 F.last) := at1.cell rfl
  have x15 : World.cell? w6 ⟨A, 15, none⟩ = some (.int .i64 F.inc) := at1.cell rfl
  go_wp2_with (refine store_whole rfl 27 _ _ rfl A2 (fcs ((smF F).mem (.slice a3 M c3) (.slice a5 K c5))) _ 27 rfl rfl D2.out infoFr rfl (by simp [Value.oneCell', Fm.mem]) ?_)
  intro w7 s7 c7
  have C7 := Lib.hid (C6.out.trans c7 (fun x hx => Or.inr (by simp at hx; subst hx; exact hA1b.out.2)))
  have O7 := Lib.hid (OwnR.chg O6.out c7 (fun g hg hx => owns_alien O6.out D2.out (by decide) (by simp at hx; subst hx; simp [hg])))
  have P7 := Lib.hid (OwnB.chg P6.out c7 (fun g hg hx => owns_alien P6.out D2.out (by decide) (by simp at hx; subst hx; simp [hg])))
  have z0 := s7.cell (o := 0) rfl
  have z1 := s7.cell (o := 1) rfl
  have z2 := s7.cell (o := 2) rfl
  have z3 := s7.cell (o := 3) rfl
  have z4 := s7.cell (o := 4) rfl
  have z5 := s7.cell (o := 5) rfl
  have z6 := s7.cell (o := 6) rfl
  have z7 := s7.cell (o := 7) rfl
  have z8 := s7.cell (o := 8) rfl
  have z9 := s7.cell (o := 9) rfl
  have z10 := s7.cell (o := 10) rfl
  have z11 := s7.cell (o := 11) rfl
  have z12 := s7.cell (o := 12) rfl
  have z13 := s7.cell (o := 13) rfl
  have z14 := s7.cell (o := 14) rfl
  have z15 := s7.cell (o := 15) rfl
  clear x0 x1 x2 x3 x4 x5 x6 x7 x8 x9 x10 x11 x12 x13 x14 x15
  go_wp2_with fail
  refine bodyPost_ret (v := .agg (fcs ((smF F).mem (.slice a3 M c3) (.slice a5 K c5)))) (by simp [results, Try.results13, go_sem, z0, z1, z2, z3, z4, z5, z6, z7, z8, z9, z10, z11, z12, z13, z14, z15]) rfl ⟨_, _, rfl, ?_, ?_, C7.out⟩
  · have := P7.out; rw [TM.out] at this; exact this
  · have := O7.out; rw [TK.out] at this; exact this
end Go.Proofs.Ythhgnipiaohplaa.Fr
