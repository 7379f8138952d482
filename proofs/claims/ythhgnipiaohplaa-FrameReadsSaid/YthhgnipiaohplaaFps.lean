/-
  A parser in memory: New, SetMax, Size; whether a stream is as its kind needs it.
-/
import Derived.Test.YthhgnipiaohplaaFop
import Derived.Test.YthhgnipiaohplaaOwnR
import Derived.Deep.RegionHeldLaw
import Derived.BigQuiet
import Derived.StillTailTactics
namespace Go.Proofs.Ythhgnipiaohplaa.Fr
open Go.ChangeShapes Go.WideShapes Go.ChangeAt Go.RowKit
open Go.Proofs.Ythhgnipiaohplaa.B
set_option linter.unusedVariables false
set_option linter.unusedSimpArgs false

/-- Is a stream not as a kind needs it? -/
def strayB (k st : Int) : Bool := if k = 4 ∨ k = 6 ∨ k = 7 then st != 0 else if k = 0 ∨ k = 1 ∨ k = 2 ∨ k = 3 ∨ k = 5 ∨ k = 9 then st == 0 else false
set_option maxRecDepth 100000 in
set_option maxHeartbeats 4000000 in
theorem stray_any (k st : Int) (w : World) : Calls Try.prog 39 #[.int .i64 k, .int .i64 st] w fun e w' => e = .returned (.bool (strayB k st)) ∧ w' = w := by
  by_cases h4 : k = 4
  · subst h4
    have hB : strayB 4 st = (st != 0) := rfl
    skip
    rw [hB]
    go_enter Try.func39, Try.ntmps39
    go_wp2_with fail
    go_ret
    exact ⟨rfl, rfl⟩
  by_cases h6 : k = 6
  · subst h6
    have hB : strayB 6 st = (st != 0) := rfl
    skip
    rw [hB]
    go_enter Try.func39, Try.ntmps39
    go_wp2_with fail
    go_ret
    exact ⟨rfl, rfl⟩
  by_cases h7 : k = 7
  · subst h7
    have hB : strayB 7 st = (st != 0) := rfl
    skip
    rw [hB]
    go_enter Try.func39, Try.ntmps39
    go_wp2_with fail
    go_ret
    exact ⟨rfl, rfl⟩
  by_cases h0 : k = 0
  · subst h0
    have hB : strayB 0 st = (st == 0) := rfl
    skip
    rw [hB]
    go_enter Try.func39, Try.ntmps39
    go_wp2_with fail
    go_ret
    exact ⟨rfl, rfl⟩
  by_cases h1 : k = 1
  · subst h1
    have hB : strayB 1 st = (st == 0) := rfl
    skip
    rw [hB]
    go_enter Try.func39, Try.ntmps39
    go_wp2_with fail
    go_ret
    exact ⟨rfl, rfl⟩
  by_cases h2 : k = 2
  · subst h2
    have hB : strayB 2 st = (st == 0) := rfl
    skip
    rw [hB]
    go_enter Try.func39, Try.ntmps39
    go_wp2_with fail
    go_ret
    exact ⟨rfl, rfl⟩
  by_cases h3 : k = 3
  · subst h3
    have hB : strayB 3 st = (st == 0) := rfl
    skip
    rw [hB]
    go_enter Try.func39, Try.ntmps39
    go_wp2_with fail
    go_ret
    exact ⟨rfl, rfl⟩
  by_cases h5 : k = 5
  · subst h5
    have hB : strayB 5 st = (st == 0) := rfl
    skip
    rw [hB]
    go_enter Try.func39, Try.ntmps39
    go_wp2_with fail
    go_ret
    exact ⟨rfl, rfl⟩
  by_cases h9 : k = 9
  · subst h9
    have hB : strayB 9 st = (st == 0) := rfl
    skip
    rw [hB]
    go_enter Try.func39, Try.ntmps39
    go_wp2_with fail
    go_ret
    exact ⟨rfl, rfl⟩
  have hB : strayB k st = false := by
    unfold strayB
    rw [if_neg (by omega), if_neg (by omega)]
  have e4 : (k == 4) = false := by simp [h4]
  have e6 : (k == 6) = false := by simp [h6]
  have e7 : (k == 7) = false := by simp [h7]
  have e0 : (k == 0) = false := by simp [h0]
  have e1 : (k == 1) = false := by simp [h1]
  have e2 : (k == 2) = false := by simp [h2]
  have e3 : (k == 3) = false := by simp [h3]
  have e5 : (k == 5) = false := by simp [h5]
  have e9 : (k == 9) = false := by simp [h9]
  skip
  rw [hB]
  go_enter Try.func39, Try.ntmps39
  go_wp2_with fail
  go_ret
  exact ⟨rfl, rfl⟩

/-- What a parser's Max is. -/
def mxP (n : Int) : Nat := (min (max n 16384) 16777215).toNat
theorem mxP_bd (n : Int) : 16384 ≤ mxP n ∧ mxP n ≤ 16777215 := by unfold mxP; omega
/-- A parser in memory. -/
structure PH (W w : World) (p : Nat) (hv : Value) (l : List UInt8) (mx : Nat) (dn : Bool) : Prop where
  head : At w p (.cells #[hv, .int .i64 mx, .bool dn] 81 (0, 0))
  row : OwnB w W.heap.size hv l
  lo : W.heap.size ≤ p
  b1 : 16384 ≤ mx
  b2 : mx ≤ 16777215
def footP (p : Nat) (hv : Value) : List Nat := p :: hv.ownBlock.toList
section
variable {W w w' : World} {p : Nat} {hv : Value} {l : List UInt8} {mx : Nat} {dn : Bool}
theorem PH.apart (h : PH W w p hv l mx dn) : p ∉ hv.ownBlock.toList := owns_alien h.row h.head (by decide)
theorem PH.chg {ls : List Nat} (h : PH W w p hv l mx dn) (hc : Chg ls w w') (hd : ∀ x ∈ footP p hv, x ∉ ls) : PH W w' p hv l mx dn :=
  ⟨h.head.chg hc (hd p (by simp [footP])), OwnB.chg h.row hc (fun g hg => hd g (by simp [footP, hg])), h.lo, h.b1, h.b2⟩
theorem PH.chg0 (h : PH W w p hv l mx dn) (hc : Chg [] w w') : PH W w' p hv l mx dn := h.chg hc (fun _ _ => by simp)
theorem PH.los (h : PH W w p hv l mx dn) : ∀ x ∈ footP p hv, W.heap.size ≤ x := fun x hx => by
  rcases List.mem_cons.1 hx with rfl | hx
  · exact h.lo
  · exact OwnB.lo h.row x hx
theorem PH.lt (h : PH W w p hv l mx dn) : ∀ x ∈ footP p hv, x < w.heap.size := fun x hx => by
  rcases List.mem_cons.1 hx with rfl | hx
  · exact h.head.lt
  · exact (World.ownsRow.lt h.row x (by simpa using hx)).2
set_option maxRecDepth 100000 in
set_option maxHeartbeats 4000000 in
theorem psetmax_raw {m0 : Int} (hh : At w p (.cells #[hv, .int .i64 m0, .bool dn] 81 (0, 0))) (hr : OwnB w W.heap.size hv l) (hlo : W.heap.size ≤ p) (n : Int) :
    Calls Try.prog 19 #[.pointer (some ⟨p, 0, none⟩), .int .i64 n] w fun e w' => e = .returned (.tuple #[]) ∧ PH W w' p hv l (mxP n) dn ∧ Chg [p] w w' := by
  have c1 : World.cell? w ⟨p, 1, none⟩ = some (.int .i64 m0) := hh.cell rfl
  have cf : ∀ j, World.frozen? w ⟨p, j, none⟩ = false := fun j => hh.free j
  have hb := mxP_bd n
  have hm : min (max n 16384) 16777215 = (mxP n : Int) := by unfold mxP; omega
  obtain ⟨N, hN⟩ : ∃ N, N = mxP n := ⟨_, rfl⟩
  rw [← hN] at hb hm ⊢
  have HH := Lib.hid hh; have HR := Lib.hid hr; have HA := Lib.hid (owns_alien hr hh (by decide)); have HN := Lib.hid hN
  clear hh hr hN
  go_enter Try.func19, Try.ntmps19
  go_wp2_with fail
  go_end0
  have hc : Chg [p] w (w.setCell ⟨p, 1, none⟩ (.int .i64 (N : Nat))) := (Chg.refl w).setCell (Or.inl (by simp)) _
  exact ⟨rfl, ⟨HH.out.set 1 _, OwnB.chg HR.out hc (fun g hg hx => HA.out (by simp at hx; subst hx; simp [hg])), hlo, hb.1, hb.2⟩, hc⟩
theorem psetmax_any (h : PH W w p hv l mx dn) (n : Int) :
    Calls Try.prog 19 #[.pointer (some ⟨p, 0, none⟩), .int .i64 n] w fun e w' => e = .returned (.tuple #[]) ∧ PH W w' p hv l (mxP n) dn ∧ Chg [p] w w' :=
  psetmax_raw h.head h.row h.lo n
set_option maxRecDepth 100000 in
set_option maxHeartbeats 4000000 in
theorem psize_any (h : PH W w p hv l mx dn) :
    Calls Try.prog 25 #[.pointer (some ⟨p, 0, none⟩)] w fun e w' => e = .returned (.int .i64 (l.length : Nat)) ∧ w = w' := by
  obtain ⟨a, cap, rfl, hc, hcm⟩ := (OwnB.bytes h.row).slice
  have c1 : World.cell? w ⟨p, 0, none⟩ = some (.slice a l.length cap) := h.head.cell rfl
  clear h
  go_enter Try.func25, Try.ntmps25
  go_wp2_with fail
  go_ret
  exact ⟨rfl, rfl⟩
end
set_option maxRecDepth 100000 in
set_option maxHeartbeats 4000000 in
theorem pnew_any {W : World} (n : Int) (w : World) (hb : W.heap.size ≤ w.heap.size) :
    Calls Try.prog 17 #[.int .i64 n] w fun e w' => ∃ p hv, e = .returned (.pointer (some ⟨p, 0, none⟩)) ∧ PH W w' p hv [] (mxP n) false ∧ Chg [] w w' ∧ ∀ x ∈ footP p hv, w.heap.size ≤ x := by
  go_enter Try.func17, Try.ntmps17
  go_wp2_with fail
  have h0 := At.new w (.cells #[.slice none 0 0, .int .i64 0, .bool false] 81 (0, 0))
  refine (psetmax_raw (W := W) h0 (OwnB.nil _ _) hb n).mono ?_; rintro e w1 ⟨rfl, h1, c1⟩
  have H1 := Lib.hid h1; have C1 : Hid (Chg [] w w1) := Lib.hid (((Chg.refl w).alloc _).trans c1 (fun x hx => Or.inr (by simp at hx; omega)))
  clear h0 h1 c1
  go_wp2_with fail
  go_ret
  exact ⟨w.heap.size, .slice none 0 0, rfl, H1.out, C1.out, fun x hx => by simp [footP, Value.ownBlock] at hx; omega⟩
/-! ### Feed -/
theorem rowB_flat (l : List UInt8) : l.flatMap encB = rowB l := by
  induction l with
  | nil => rfl
  | cons c l ih => rw [List.flatMap_cons, ih]; rfl
theorem ownB_R {w : World} {base : Nat} {v : Value} {l : List UInt8} : OwnB w base v l ↔ OwnR 5 1 encB w base v l := by
  unfold OwnB OwnR; rw [rowB_flat]
theorem encBl : ∀ x, (encB x).length = 1 := fun _ => rfl
theorem encBo : ∀ x, ∀ u ∈ encB x, u.oneCell' = true := by intro x u h; simp [encB] at h; subst h; rfl
def feedN (mx : Nat) (dn : Bool) (l m : List UInt8) : Nat := if dn = true then 0 else min m.length (mx + 9 - l.length)
theorem infoB : (Try.prog.info? 5).map (fun i => (i.zero, i.size, i.bytes)) = some (some (.int .u8 0), 1, 1) := by kernel_rfl
section
variable {W w w' : World} {p : Nat} {hv : Value} {l : List UInt8} {mx : Nat} {dn : Bool}
theorem PH.fed (h : PH W w p hv l mx dn) {w6 : World} {hv' : Value} {l' : List UInt8} (C6 : Chg hv.ownBlock.toList w w6) (OW : OwnB w6 W.heap.size hv' l') (FR : ∀ k ∈ hv'.ownBlock.toList, k ∈ hv.ownBlock.toList ∨ w.heap.size ≤ k) :
    PH W (w6.setCell ⟨p, 0, none⟩ hv') p hv' l' mx dn ∧ Chg (footP p hv) w (w6.setCell ⟨p, 0, none⟩ hv') ∧ ∀ x ∈ footP p hv', x ∈ footP p hv ∨ w.heap.size ≤ x := by
  have hc : Chg [p] w6 (w6.setCell ⟨p, 0, none⟩ hv') := (Chg.refl w6).setCell (Or.inl (by simp)) _
  have hqn : p ∉ hv'.ownBlock.toList := fun hx => by
    rcases FR p hx with h1 | h1
    · exact h.apart h1
    · have := h.head.lt; omega
  refine ⟨⟨(h.head.chg C6 h.apart).set 0 _, OwnB.chg OW hc (fun g hg hx => hqn (by simp at hx; subst hx; simp [hg])), h.lo, h.b1, h.b2⟩, ?_, ?_⟩
  · exact (C6.mono (fun x hx => List.mem_cons_of_mem _ hx)).setCell (Or.inl (by simp [footP])) _
  · intro x hx
    rcases List.mem_cons.1 hx with rfl | hx
    · exact Or.inl (by simp [footP])
    · exact (FR x hx).imp (fun h => List.mem_cons_of_mem _ h) id
set_option maxRecDepth 100000 in
set_option maxHeartbeats 4000000 in
theorem pfeed_any (h : PH W w p hv l mx dn) (bv : Value) (m : List UInt8) (hb : BytesOf w bv m) (hl : l.length ≤ 20000000) (hm : m.length ≤ 9223372036854775807) :
    Calls Try.prog 23 #[.pointer (some ⟨p, 0, none⟩), bv] w fun e w' => ∃ hv', e = .returned (.int .i64 (feedN mx dn l m : Nat)) ∧ PH W w' p hv' (l ++ m.take (feedN mx dn l m)) mx dn ∧ Chg (footP p hv) w w' ∧ ∀ x ∈ footP p hv', x ∈ footP p hv ∨ w.heap.size ≤ x := by
  obtain ⟨a, cap, rfl, hc, hcm⟩ := (OwnB.bytes h.row).slice
  obtain ⟨ba, bc, rfl, hbc, hbcm⟩ := hb.slice
  unfold maxLen at hcm hbcm
  have x0 : World.cell? w ⟨p, 0, none⟩ = some (.slice a l.length cap) := h.head.cell rfl
  have x1 : World.cell? w ⟨p, 1, none⟩ = some (.int .i64 mx) := h.head.cell rfl
  have x2 : World.cell? w ⟨p, 2, none⟩ = some (.bool dn) := h.head.cell rfl
  have hpl := h.head.lt
  have hb2 := h.b2
  cases dn with
  | true =>
    have hn : feedN mx true l m = 0 := rfl
    rw [hn]
    have HH := Lib.hid h
    clear h hn
    go_enter Try.func23, Try.ntmps23
    go_wp2_with fail
    go_ret
    exact ⟨_, rfl, by rw [List.take_zero, List.append_nil]; exact HH.out, Chg.refl _, fun x hx => Or.inl hx⟩
  | false =>
    obtain ⟨N, hN⟩ : ∃ N, N = feedN mx false l m := ⟨_, rfl⟩
    rw [← hN]
    have hN2 : N = min m.length (mx + 9 - l.length) := hN
    have e1 : min (m.length : Int) (max 0 ((mx : Int) + 9 - (l.length : Int))) = (N : Int) := by omega
    have w1 : wrap64 ((mx : Int) + 9 - (l.length : Int)) = (mx : Int) + 9 - (l.length : Int) := by unfold wrap64; omega
    have j1 : (N : Int) ≤ (bc : Int) := by omega
    have j2 : (0 : Int) ≤ (N : Int) := by omega
    have hNm : N ≤ m.length := by omega
    have hWw : W.heap.size ≤ w.heap.size := Nat.le_trans h.lo (Nat.le_of_lt h.head.lt)
    have p1 := BytesOf.pre hb N hNm
    obtain ⟨M, hM⟩ : ∃ M, M = m.take N := ⟨_, rfl⟩
    have hMl : M.length ≤ 16777224 := by rw [hM, List.length_take]; omega
    rw [← hM] at p1 ⊢
    have hMN : Hid (N = M.length) := Lib.hid (by rw [hM, List.length_take]; omega)
    have HH := Lib.hid h; have P1 := Lib.hid p1
    clear h hb hN hN2 p1 hM
    go_enter Try.func23, Try.ntmps23
    go_wp2_with fail
    go_quiet (fail)
    have HH1 := Lib.hid (HH.out.chg0 ((Chg.refl w).drewN nq)); have P11 := Lib.hid (P1.out.chg0 ((Chg.refl w).drewN nq)); have C1 : Hid (Chg [] w (w.drewN nq)) := Lib.hid ((Chg.refl w).drewN nq)
    have x0' : World.cell? (w.drewN nq) ⟨p, 0, none⟩ = some (.slice a l.length cap) := x0
    have hsz : W.heap.size ≤ (w.drewN nq).heap.size := hWw
    have hpl' : p < (w.drewN nq).heap.size := hpl
    clear x0 x1 x2 HH P1 hpl
    generalize w.drewN nq = w1 at *
    go_wp2_with fail
    have HHd := Lib.hid (HH1.out.chg0 (Chg.refl w1).drew); have Pd := Lib.hid (P11.out.chg0 (Chg.refl w1).drew); have Cd := Lib.hid (C1.out.drew)
    have hszd : W.heap.size ≤ w1.drew.heap.size := hsz
    have hwd : w.heap.size ≤ w1.drew.heap.size := C1.out.size
    have hMl2 : l.length + M.length ≤ 40000000 := by omega
    rw [hMN.out]
    rw [hMN.out] at Pd j1 j2
    clear C1
    go_region_law (first
      | (go_loud (refine step_row encBl encBo 22 Try.underlying22 infoB rfl (by decide) rfl (.tmp 29) (.tmp 32) rfl W.heap.size (.slice a l.length cap) l rfl (ownB_R.1 HHd.out.row) _ M rfl (by first | exact Pd.out | (rw [hMN.out]; exact Pd.out)) (by simp [maxLen]; omega) (by omega) hszd ?_; intro v' w6 own6' ch6 n6; have own6 := ownB_R.2 own6'; clear own6'; obtain ⟨a', cap', rfl, hcc1, hcc2⟩ := (OwnB.bytes own6).slice; have hl1 : (l ++ M).length = l.length + M.length := (by simp); rw [hl1] at own6 n6; have k0 : World.cell? w6 ⟨p, 0, none⟩ = some (.slice a l.length cap) := (HHd.out.head.chg ch6 HHd.out.apart).cell rfl; have kf : World.frozen? w6 ⟨p, 0, none⟩ = false := (HHd.out.head.chg ch6 HHd.out.apart).free 0; have hp6 := (HHd.out.head.chg ch6 HHd.out.apart).lt; obtain ⟨r1, r2, r3⟩ := HHd.out.fed ch6 own6 (fun k hk => (n6 k (by simpa using hk)).imp (fun h => by simp [h]) id); have R1 := Lib.hid r1; have R2 := Lib.hid r2; have R3 := Lib.hid r3; clear own6 ch6 n6 r1 r2 r3))
      | fail)
    all_goals
      go_wp2_with fail
      go_ret
      exact ⟨_, by rw [hMN.out]; rfl, R1.out, (Cd.out.mono (by simp)).trans' R2.out, fun x hx => (R3.out x hx).imp id (fun h => by omega)⟩
end
end Go.Proofs.Ythhgnipiaohplaa.Fr
