/-
  The walks of slices.IndexFunc, slices.DeleteFunc at the pool's row, and of Pool.Remove.
-/
import Derived.Test.YthinceoklkjcpaaKeep
import Derived.Lib.SliceRun
import Derived.LaidEqlPtr
namespace Go.Proofs.Ythinceoklkjcpaa.Pool
open Go.ChangeShapes Go.WideShapes Go.ChangeAt Go.RowKit
open Go.Proofs.Ythinceoklkjcpaa.B
set_option linter.unusedVariables false
set_option linter.unusedSimpArgs false

theorem infoC : (Try.prog.info? 54).map (fun i => (i.zero, i.size, i.bytes)) = some (some (.agg #[.int .i64 0, .int .i64 0, .int .i64 0, .bool false]), 4, 32) := by kernel_rfl
theorem remove1_same (b s : Nat) (w : World) (hs : w.cell? ⟨s, 0, none⟩ = some (.pointer (some ⟨b, 0, none⟩))) :
    Calls Try.prog 34 #[.pointer (some ⟨b, 0, none⟩), .pointer (some ⟨s, 0, none⟩)] w fun e w' => e = .returned (.bool true) ∧ w = w' := by
  have hi := infoC
  cases hq : Try.prog.info? 54 with
  | none => rw [hq] at hi; simp at hi
  | some i =>
    have he : ∀ w : World, (binOp .eql 51 (.pointer (some ⟨b, 0, none⟩)) (.pointer (some ⟨b, 0, none⟩))).run Try.prog w = .ok (.bool true) w := fun w => run_eql_ptr_same (P := Try.prog) w ⟨b, 0, none⟩ Try.underlying51 hq
    clear hq hi
    go_enter Try.func34, Try.ntmps34
    go_wp2_with fail
    go_ret
    exact ⟨rfl, rfl⟩
theorem remove1_other (x b s : Nat) (w : World) (hs : w.cell? ⟨s, 0, none⟩ = some (.pointer (some ⟨b, 0, none⟩))) (hn : x ≠ b) {cx cb : Cn} (hx : At w x (cn cx)) (hb : At w b (cn cb)) :
    Calls Try.prog 34 #[.pointer (some ⟨x, 0, none⟩), .pointer (some ⟨s, 0, none⟩)] w fun e w' => e = .returned (.bool false) ∧ w = w' := by
  have hi := infoC
  cases hq : Try.prog.info? 54 with
  | none => rw [hq] at hi; simp at hi
  | some i =>
    rw [hq] at hi
    have he : (binOp .eql 51 (.pointer (some ⟨x, 0, none⟩)) (.pointer (some ⟨b, 0, none⟩))).run Try.prog w = .ok (.bool false) w :=
      run_eql_ptr_other (P := Try.prog) w (a := ⟨x, 0, none⟩) (b := ⟨b, 0, none⟩) Try.underlying51 hq (by simp at hi; omega) (by simp [hn]) hx hb
    have HI := Lib.hid hi; have HQ := Lib.hid hq; have HX := Lib.hid hx; have HB := Lib.hid hb
    clear hq hi hx hb
    go_enter Try.func34, Try.ntmps34
    go_wp2_with fail
    go_ret
    exact ⟨rfl, rfl⟩
/-- All of the row are connections. -/
def Conns (w : World) (bs : List Nat) : Prop := ∀ (k x : Nat), bs[k]? = some x → ∃ c, At w x (cn c)

set_option maxHeartbeats 1000000 in
theorem index_any (bs : List Nat) (g cap s i b : Nat) (w : World) (hm : bs.length ≤ maxLen) (hg : ∀ (k x : Nat), bs[k]? = some x → w.cell? ⟨g, k, none⟩ = some (.pointer (some ⟨x, 0, none⟩)))
    (hs : w.cell? ⟨s, 0, none⟩ = some (.pointer (some ⟨b, 0, none⟩))) (hb : bs[i]? = some b) (hn : bs.Nodup) (hcn : Conns w bs) :
    Calls Try.prog 36 #[.slice (some ⟨g, 0, none⟩) bs.length cap, .func (.func 34) #[] #[.pointer (some ⟨s, 0, none⟩)]] w fun e w' => e = .returned (.int .i64 i) ∧ w = w' := by
  unfold maxLen at hm
  have hil : i < bs.length := (List.getElem?_eq_some_iff.1 hb).1
  have HG := Lib.hid hg; have HB := Lib.hid hb; have HN := Lib.hid hn; have HC := Lib.hid hcn
  clear hg hb hn hcn
  go_enter Try.func36, Try.ntmps36
  go_wp2_with fail
  go_loop [8] (fun j => ∃ k : Nat, k ≤ i ∧ j = .int .i64 k) (fun j => bs.length - (intOf j).toNat)
  case atStart => exact ⟨0, Nat.zero_le _, rfl⟩
  case round =>
    obtain ⟨k, hk, rfl⟩ := hrel
    have hlt : k < bs.length := by omega
    obtain ⟨x, hx⟩ : ∃ x, bs[k]? = some x := ⟨_, List.getElem?_eq_getElem hlt⟩
    have g0 := HG.out k x hx
    by_cases hki : k = i
    · obtain rfl : x = b := by have := HB.out; rw [← hki, hx] at this; exact Option.some.inj this
      have HX := Lib.hid hx
      have HK := Lib.hid hki
      clear hx hki
      go_wp2_with fail
      refine (remove1_same x s _ hs).mono ?_; rintro e w' ⟨rfl, rfl⟩
      go_wp2_with fail
      go_ret
      exact ⟨ret_int (by rw [HK.out]), rfl⟩
    · have hxb : x ≠ b := fun hc => hki ((List.getElem?_inj hlt HN.out).1 (by rw [hx, hc, HB.out]))
      obtain ⟨cx, hcx⟩ := HC.out k x hx
      obtain ⟨cb, hcb⟩ := HC.out i b HB.out
      have HX := Lib.hid hx; have HCX := Lib.hid hcx; have HCB := Lib.hid hcb; have HXB := Lib.hid hxb
      clear hx hxb hcx hcb
      go_wp2_with fail
      refine (remove1_other x b s _ hs HXB.out HCX.out HCB.out).mono ?_; rintro e w' ⟨rfl, rfl⟩
      go_wp2_with fail
      go_round
      case rel => exact ⟨k + 1, by omega, by go_num⟩
      case measure => simp [intOf]; omega

theorem erase_get {α : Type} (l : List α) (i j : Nat) : (l.eraseIdx i)[j]? = if j < i then l[j]? else l[j + 1]? := List.getElem?_eraseIdx
set_option maxHeartbeats 2000000 in
theorem delete_any (bs : List Nat) (g cap s i b : Nat) (cur : Array Value) (w : World) (hm : cap ≤ maxLen) (hnc : bs.length ≤ cap) (hsz : cur.size = cap) (hg : At w g (.cells cur 51 (0, 0)))
    (hgc : ∀ (k x : Nat), bs[k]? = some x → cur[k]? = some (ptr x))
    (hs : w.cell? ⟨s, 0, none⟩ = some (.pointer (some ⟨b, 0, none⟩))) (hsg : s ≠ g) (hb : bs[i]? = some b) (hn : bs.Nodup) (hcn : Conns w bs) (hgb : g ∉ bs) :
    Calls Try.prog 33 #[.slice (some ⟨g, 0, none⟩) bs.length cap, .func (.func 34) #[] #[.pointer (some ⟨s, 0, none⟩)]] w fun e w' =>
      e = .returned (.slice (some ⟨g, 0, none⟩) (bs.length - 1) cap) ∧ Chg [g] w w' ∧ ∃ cu : Array Value, At w' g (.cells cu 51 (0, 0)) ∧ cu.size = cap ∧ ∀ (j x : Nat), (bs.eraseIdx i)[j]? = some x → cu[j]? = some (ptr x) := by
  unfold maxLen at hm
  have hil : i < bs.length := (List.getElem?_eq_some_iff.1 hb).1
  have HG := Lib.hid hg; have HB := Lib.hid hb; have HN := Lib.hid hn; have HC := Lib.hid hcn; have HGC := Lib.hid hgc; have HSG := Lib.hid hsg; have HGB := Lib.hid hgb; have HS := Lib.hid hs; have HSZ := Lib.hid hsz
  clear hg hb hn hcn hgc hsg hgb hs hsz
  go_enter Try.func33, Try.ntmps33
  go_wp2_with fail
  refine (index_any bs g cap s i b _ (by unfold maxLen; omega) (fun k x hx => by rw [At.cell HG.out (HGC.out k x hx)]; rfl) HS.out HB.out HN.out HC.out).mono ?_; rintro e w1 ⟨rfl, rfl⟩
  have e1 : ((i : Int) == -1) = false := by first | (simp; done) | (simp; omega)
  go_wp2_with fail
  go_loopw [5, 6] (fun iv jv wr => ∃ j : Nat, i < j ∧ j ≤ bs.length ∧ iv = .int .i64 ((j : Int) - 1) ∧ jv = .int .i64 j ∧ Chg [g] w wr ∧ ∃ cu : Array Value, At wr g (.cells cu 51 (0, 0)) ∧ cu.size = cap ∧ (∀ (k x : Nat), k < j - 1 → (bs.eraseIdx i)[k]? = some x → cu[k]? = some (ptr x)) ∧ (∀ (k x : Nat), j ≤ k → bs[k]? = some x → cu[k]? = some (ptr x))) (fun _ jv _ => bs.length - (intOf jv).toNat)
  case atStart =>
    refine ⟨i + 1, by omega, by omega, ?_, by go_num, Chg.refl _, cur, HG.out, HSZ.out, ?_, fun k x _ hx => HGC.out k x hx⟩
    · congr 1; omega
    · intro k x hk hx
      rw [erase_get, if_pos (by omega)] at hx
      exact HGC.out k x hx
  case round =>
    obtain ⟨j, hij, hj, rfl, rfl, hch, cu, hcu, hcs, hlo, hhi⟩ := hrel
    have hj0 : (0 : Int) ≤ (j : Int) - 1 := by omega
    have hjt : ((j : Int) - 1).toNat = j - 1 := by omega
    by_cases hlt : j < bs.length
    · obtain ⟨x, hx⟩ : ∃ x, bs[j]? = some x := ⟨_, List.getElem?_eq_getElem hlt⟩
      have g0 := hcu.cell (hhi j x (Nat.le_refl _) hx)
      have gf := hcu.free (j - 1)
      obtain ⟨y, hy⟩ : ∃ y, cu[j - 1]? = some y := ⟨_, Array.getElem?_eq_getElem (by omega)⟩
      have g1 := hcu.cell hy
      unfold ptr at g0
      have hxb : x ≠ b := fun hc => by
        have := (List.getElem?_inj hlt HN.out).1 (show bs[j]? = bs[i]? by rw [hx, hc, HB.out])
        omega
      obtain ⟨cx, hcx⟩ := HC.out j x hx
      obtain ⟨cb, hcb⟩ := HC.out i b HB.out
      have hxg : x ∉ [g] := by simp; rintro rfl; exact HGB.out (List.mem_of_getElem? hx)
      have hbg : b ∉ [g] := by simp; rintro rfl; exact HGB.out (List.mem_of_getElem? HB.out)
      have hcx' := At.chg hcx hch hxg
      have hcb' := At.chg hcb hch hbg
      have hs' : wr.cell? ⟨s, 0, none⟩ = some (.pointer (some ⟨b, 0, none⟩)) := by
        have hlt : s < w.heap.size := block_lt_of_cell HS.out
        rw [hch.cell hlt (by simp; exact HSG.out)]; exact HS.out
      have HX := Lib.hid hx; have HCX := Lib.hid hcx'; have HCB := Lib.hid hcb'; have HXB := Lib.hid hxb; have HLO := Lib.hid hlo; have HHI := Lib.hid hhi; have HCU := Lib.hid hcu; have HCH := Lib.hid hch; have HS' := Lib.hid hs'; have HCS := Lib.hid hcs; have HY := Lib.hid hy
      clear hx hxb hcx hcb hcx' hcb' hlo hhi hcu hch hs' hcs hxg hbg hy
      go_wp2_with fail
      refine (remove1_other x b s _ HS'.out HXB.out HCX.out HCB.out).mono ?_; rintro e w' ⟨rfl, rfl⟩
      go_wp2_with fail
      go_roundw
      case rel =>
        refine ⟨j + 1, by omega, by omega, by first | (congr 1; done) | (congr 1; omega), by go_num, HCH.out.setCell (Or.inl (by simp)) _, _, HCU.out.set _ _, by simpa using HCS.out, ?_, ?_⟩
        · intro k z hk hz
          have := HCS.out
          by_cases hkj : k = j - 1
          · subst hkj
            rw [erase_get, if_neg (by omega), show j - 1 + 1 = j by omega, HX.out] at hz
            rw [Array.getElem?_setIfInBounds_self_of_lt (by omega)]
            rw [← Option.some.inj hz]; rfl
          · rw [Array.getElem?_setIfInBounds_ne (by omega)]
            exact HLO.out k z (by omega) hz
        · intro k z hk hz
          rw [Array.getElem?_setIfInBounds_ne (by omega)]
          exact HHI.out k z (by omega) hz
      case measure => simp [intOf]; omega
    · obtain rfl : j = bs.length := by omega
      have hcap : ¬ cap = bs.length - 1 := by omega
      have hc1 : ∀ q, q < 1 → (wr.cell? ⟨g, bs.length - 1 + q, none⟩).isSome = true := by
        intro q hq
        obtain ⟨y, hy⟩ : ∃ y, cu[bs.length - 1 + q]? = some y := ⟨_, Array.getElem?_eq_getElem (by omega)⟩
        rw [hcu.cell hy]; rfl
      have hcl : (Builtin.clear_ #[48] 0 #[.slice (some ⟨g, bs.length - 1, none⟩) (bs.length - (bs.length - 1)) (cap - (bs.length - 1))]).run Try.prog wr = .ok (.tuple #[]) (wr.setCell ⟨g, bs.length - 1, none⟩ (.pointer none)) := by
        rw [show bs.length - (bs.length - 1) = 1 by omega]
        exact Lib.run_clear_slice (P := Try.prog) wr 48 51 0 (.pointer none) Try.underlying48 (fun w => by first | exact Try.zeroValue51 w | (simp [go_sem]; done)) rfl rfl g (bs.length - 1) 1 (cap - (bs.length - 1)) (by omega) hc1 (fun q _ => hcu.free _)
      have HLO := Lib.hid hlo; have HHI := Lib.hid hhi; have HCU := Lib.hid hcu; have HCH := Lib.hid hch; have HCS := Lib.hid hcs
      clear hlo hhi hcu hch hcs hc1
      go_wp2_with fail
      go_ret
      refine ⟨rfl, HCH.out.setCell (Or.inl (by simp)) _, _, HCU.out.set _ _, by simpa using HCS.out, ?_⟩
      intro k z hz
      have hk : k < bs.length - 1 := by
        have := (List.getElem?_eq_some_iff.1 hz).1
        rw [List.length_eraseIdx_of_lt hil] at this
        exact this
      rw [Array.getElem?_setIfInBounds_ne (by omega)]
      exact HLO.out k z hk hz

theorem remove_none {base p : Nat} {sv : Value} {bs : List Nat} {most : Int} {cs : List Cn} (id : Int) (w : World) (h : PP w base p sv bs most cs) (hf : None' cs id) :
    Calls Try.prog 20 #[.pointer (some ⟨p, 0, none⟩), .int .i64 id] w fun e w' => e = .returned (.int .i64 (-1)) ∧ Chg [] w w' := by
  go_enter Try.func20, Try.ntmps20
  go_wp2_with fail
  refine (the_none id _ h hf).mono ?_; rintro e w' ⟨rfl, rfl⟩
  go_wp2_with fail
  go_ret
  exact ⟨rfl, (Chg.refl _).alloc _⟩
theorem map_erase {α β : Type} (f : α → β) (l : List α) (i : Nat) : (l.map f).eraseIdx i = (l.eraseIdx i).map f := by
  induction l generalizing i with
  | nil => rfl
  | cons a l ih => cases i <;> simp [ih]
set_option maxHeartbeats 2000000 in
theorem remove_some {base p : Nat} {sv : Value} {bs : List Nat} {most : Int} {cs : List Cn} (id : Int) (w : World) (h : PP w base p sv bs most cs) {i : Nat} {c0 : Cn} (hf : First cs id i c0) :
    Calls Try.prog 20 #[.pointer (some ⟨p, 0, none⟩), .int .i64 id] w fun e w' => e = .returned (.int .i64 c0.used) ∧ Chg (foot p sv bs) w w' ∧ ∃ sv', sv'.ownBlock = sv.ownBlock ∧ PP w' base p sv' (bs.eraseIdx i) most (cs.eraseIdx i) := by
  have hil : i < bs.length := by have := (List.getElem?_eq_some_iff.1 hf.1).1; rw [h.len]; exact this
  obtain ⟨b, hb⟩ : ∃ b, bs[i]? = some b := ⟨_, List.getElem?_eq_getElem hil⟩
  have h' := h
  obtain ⟨hh, hr, hl, hcn, hn1, hn2, hn3, hl1, hl2⟩ := h
  rcases hr.2 with ⟨_, h0⟩ | ⟨g, cap, cur, rfl, hbg, hg, hnc, hcm, hcs, htake⟩
  · omega
  have hg : At w g (.cells cur 51 (0, 0)) := hg
  obtain ⟨hgp, hgb⟩ := hn3 g rfl
  have hc := hcn i b c0 hb hf.1
  have hpb : p ≠ b := by rintro rfl; exact hn1 (List.mem_of_getElem? hb)
  have hbg' : b ≠ g := by rintro rfl; exact hgb (List.mem_of_getElem? hb)
  have hgw := hg.lt
  have hpw := hh.lt
  have hbw := hc.lt
  have hsz : cur.size = cap := by simpa using hcs
  have hgc : ∀ (k x : Nat), bs[k]? = some x → cur[k]? = some (ptr x) := by
    intro k x hx
    have hk : k < bs.length := (List.getElem?_eq_some_iff.1 hx).1
    have h1 : (cur.toList.take (bs.length * 1))[k]? = some (ptr x) := by rw [htake]; simp [hx]
    rw [List.getElem?_take_of_lt (by omega)] at h1
    simpa using h1
  have hcns : Conns w bs := fun k x hx => by
    have : k < cs.length := by rw [← hl]; exact (List.getElem?_eq_some_iff.1 hx).1
    exact ⟨_, hcn k x _ hx (List.getElem?_eq_getElem this)⟩
  have p0 : w.cell? ⟨p, 0, none⟩ = some (.int .i64 most) := hh.cell rfl
  have p1 : w.cell? ⟨p, 1, none⟩ = some (.slice (some ⟨g, 0, none⟩) bs.length cap) := hh.cell rfl
  have HF := Lib.hid hf; have HB := Lib.hid hb; have HH := Lib.hid hh; have HC := Lib.hid hc; have HG := Lib.hid hg; have HGC := Lib.hid hgc; have HL := Lib.hid hl; have HR := Lib.hid hr; have HCN := Lib.hid hcn; have H1 := Lib.hid hn1; have H2 := Lib.hid hn2; have H3 := Lib.hid hgb; have HGP := Lib.hid hgp; have HSZ := Lib.hid hsz; have HCS := Lib.hid hcns; have HP := Lib.hid h'; have HPB := Lib.hid hpb; have HBG := Lib.hid hbg'; have HL2 := Lib.hid hl2
  clear hf hb hh hc hg hgc hl hr hcn hn1 hn2 hn3 hgb hgp hsz hcns h' hpb hbg' hl2 hcs htake
  go_enter Try.func20, Try.ntmps20
  go_wp2_with fail
  refine (the_some id _ HP.out HF.out HB.out).mono ?_; rintro e w' ⟨rfl, rfl⟩
  have hmf : ∀ (fn : Fn) (first cap : Array Value) (w : World), (Instr.makeFunc fn first cap).run Try.prog w = .ok (.func fn first cap) w := fun _ _ _ _ => rfl
  go_wp2_with fail
  have hS : At (w.alloc (.cells #[Value.pointer (some ⟨b, 0, none⟩)] 51)) w.heap.size (.cells #[Value.pointer (some ⟨b, 0, none⟩)] 51 (0, 0)) := At.new _ _
  have HSS := Lib.hid hS
  clear hS
  refine (delete_any bs g cap w.heap.size i b cur _ hcm hnc HSZ.out (HG.out.alloc _) HGC.out (HSS.out.cell rfl) (by omega) HB.out H2.out (fun k x hx => (HCS.out k x hx).imp fun c hc => hc.alloc _) H3.out).mono ?_
  rintro e w2 ⟨rfl, hch, cu, hcu, hcs, hcc⟩
  have hsb : w.heap.size ≠ g := by omega
  have A0 := (HH.out.alloc (.cells #[Value.pointer (some ⟨b, 0, none⟩)] 51)).chg hch (by simp; exact Ne.symm HGP.out)
  have AS := HSS.out.chg hch (by simp; exact hsb)
  have AB := (HC.out.alloc (.cells #[Value.pointer (some ⟨b, 0, none⟩)] 51)).chg hch (by simp; exact HBG.out)
  have q1 : w2.cell? ⟨p, 1, none⟩ = some (.slice (some ⟨g, 0, none⟩) bs.length cap) := A0.cell rfl
  have qf := A0.free 1
  have qs : w2.cell? ⟨w.heap.size, 0, none⟩ = some (.pointer (some ⟨b, 0, none⟩)) := AS.cell rfl
  have qb : w2.cell? ⟨b, 2, none⟩ = some (.int .i64 c0.used) := AB.cell rfl
  have hps : p ≠ w.heap.size := by omega
  have n1 : ¬ b = p := fun h => HPB.out h.symm
  have n2 : ¬ w.heap.size = p := by omega
  have hch2 : Chg [g] w w2 := ((Chg.refl w).alloc (l := [g]) _).trans' hch
  have CH := Lib.hid hch2; have CC := Lib.hid hcc; have CU := Lib.hid hcu; have CS := Lib.hid hcs; have HA0 := Lib.hid A0
  clear hch hch2 hcc hcu hcs A0 AS AB p0 p1 hg
  go_wp2_with fail
  go_ret
  have hel : (bs.eraseIdx i).length = bs.length - 1 := List.length_eraseIdx_of_lt hil
  refine ⟨rfl, ?_, .slice (some ⟨g, 0, none⟩) (bs.eraseIdx i).length cap, rfl, ?_⟩
  · exact ((CH.out).mono (by simp [foot, Value.ownBlock])).setCell (Or.inl (by simp [foot])) _
  · rw [← hel]
    have hw : ∀ (x : Nat) (o : Obj), At w x o → x ≠ g → x ≠ p → At (w2.setCell ⟨p, 1, none⟩ (.slice (some ⟨g, 0, none⟩) (bs.eraseIdx i).length cap)) x o := fun x o hx h1 h2 => (hx.chg CH.out (by simp; exact h1)).set_ne h2 _
    refine ⟨?_, ⟨by simp, Or.inr ⟨g, cap, cu, rfl, hbg, (CU.out).set_ne (HGP.out) _, by omega, hcm, by rw [CS.out]; omega, ?_⟩⟩, ?_, ?_, ?_, ?_, ?_, hl1, ?_⟩
    · have := (HA0.out).set 1 (.slice (some ⟨g, 0, none⟩) (bs.eraseIdx i).length cap)
      simpa using this
    · apply List.ext_getElem?
      intro k
      rw [List.getElem?_take, List.getElem?_map]
      by_cases hk : k < (bs.eraseIdx i).length
      · rw [if_pos (by omega)]
        obtain ⟨x, hx⟩ : ∃ x, (bs.eraseIdx i)[k]? = some x := ⟨_, List.getElem?_eq_getElem hk⟩
        rw [hx]
        simpa using CC.out k x hx
      · rw [if_neg (by omega), List.getElem?_eq_none (by omega)]; rfl
    · have := HL.out
      have hic : i < cs.length := by omega
      rw [hel, List.length_eraseIdx_of_lt hic, this]
    · intro k x c hx hc
      rw [erase_get] at hx hc
      have key : ∀ m, bs[m]? = some x → cs[m]? = some c → At (w2.setCell ⟨p, 1, none⟩ (.slice (some ⟨g, 0, none⟩) (bs.eraseIdx i).length cap)) x (cn c) := fun m h1 h2 =>
        hw x _ (HCN.out m x c h1 h2) (by rintro rfl; exact H3.out (List.mem_of_getElem? h1)) (by rintro rfl; exact H1.out (List.mem_of_getElem? h1))
      split at hx
      · rename_i hlt; rw [if_pos hlt] at hc; exact key _ hx hc
      · rename_i hlt; rw [if_neg hlt] at hc; exact key _ hx hc
    · exact fun hx => H1.out (List.mem_of_mem_eraseIdx hx)
    · exact H2.out.eraseIdx i
    · intro g' hg'
      simp [Value.ownBlock] at hg'; subst hg'
      exact ⟨HGP.out, fun hx => H3.out (List.mem_of_mem_eraseIdx hx)⟩
    · exact fun x hx => HL2.out x (List.mem_of_mem_eraseIdx hx)
section
variable {W : World} {p : Nat} {most : Int} {cs : List Cn}
theorem K_remove (d : Int) (w : World) (h : Has W w p most cs) {i : Nat} {c0 : Cn} (hf : First cs d i c0) :
    Calls Try.prog 20 #[.pointer (some ⟨p, 0, none⟩), .int .i64 d] w fun e w' => e = .returned (.int .i64 c0.used) ∧ Has W w' p most (cs.eraseIdx i) ∧ Keeps w w' := by
  obtain ⟨sv, bs, h1, h2⟩ := h
  exact (remove_some d w h1 hf).mono fun e w' ⟨he, hc, sv', _, hp⟩ => ⟨he, ⟨sv', _, hp, h2.chg hc (Nat.le_refl _) h1.lo⟩, h1.keeps hc⟩
theorem K_remove_none (d : Int) (w : World) (h : Has W w p most cs) (hf : None' cs d) :
    Calls Try.prog 20 #[.pointer (some ⟨p, 0, none⟩), .int .i64 d] w fun e w' => e = .returned (.int .i64 (-1)) ∧ Has W w' p most cs ∧ Keeps w w' := by
  have h0 := h
  obtain ⟨sv, bs, h1, h2⟩ := h
  exact (remove_none d w h1 hf).mono fun e w' ⟨he, hc⟩ => ⟨he, h0.step hc, h1.keeps (hc.mono (by simp))⟩
end
end Go.Proofs.Ythinceoklkjcpaa.Pool
