/-
  The walks of fit, SetMax, New, Len, Size, Max.
-/
import Derived.Test.YtmoeioaahampaaaTabE
import Derived.Deep.RegionWith
namespace Go.Proofs.Ytmoeioaahampaaa.Tb
open Go.ChangeShapes Go.WideShapes Go.ChangeAt Go.RowKit
open Go.Proofs.Ytmoeioaahampaaa.B
set_option linter.unusedVariables false
set_option linter.unusedSimpArgs false

theorem sizeof_any {w : World} {base p : Nat} {sv : Value} {m : Nat} {es : List Fd} (h : TT w base p sv m es) :
    Calls Try.prog 47 #[.pointer (some ⟨p, 0, none⟩)] w fun e w' => e = .returned (.int .i64 (tot es)) ∧ w = w' := by
  have h0 := h.head.cell (o := 1) rfl
  clear h
  go_enter Try.func47, Try.ntmps47
  go_wp2_with fail
  go_ret
  exact ⟨rfl, rfl⟩
theorem max_any {w : World} {base p : Nat} {sv : Value} {m : Nat} {es : List Fd} (h : TT w base p sv m es) :
    Calls Try.prog 39 #[.pointer (some ⟨p, 0, none⟩)] w fun e w' => e = .returned (.int .i64 m) ∧ w = w' := by
  have h0 := h.head.cell (o := 2) rfl
  clear h
  go_enter Try.func39, Try.ntmps39
  go_wp2_with fail
  go_ret
  exact ⟨rfl, rfl⟩

theorem FdsOf.drop {w : World} {b off n cap : Nat} {l : List Fd} (h : FdsOf w (.slice (some ⟨b, off, none⟩) n cap) l) (k : Nat) (hk : k ≤ l.length) (hc : l.length ≤ cap) (hc2 : cap ≤ maxLen) : FdsOf w (.slice (some ⟨b, off + k * 3, none⟩) (l.length - k) (cap - k)) (l.drop k) := by
  have := SliceOf.cut h k l.length hk (Nat.le_refl _) (c' := cap - k) (by omega) (by omega)
  rwa [List.take_of_length_le (by simp)] at this
theorem FdsOf.dropAll {w : World} {a : Option Addr} {cap k : Nat} {l : List Fd} (h : l.drop k = []) (hc : cap ≤ 2 ^ 63 - 1) : FdsOf w (.slice a 0 cap) (l.drop k) := by rw [h]; exact ⟨a, cap, rfl, by simp, hc, by simp⟩
theorem FdsOf.none' (w : World) (a : Option Addr) (cap : Nat) (hc : cap ≤ maxLen) : FdsOf w (.slice a 0 cap) [] := ⟨a, cap, rfl, by simp, hc, by simp⟩
set_option maxRecDepth 100000 in
set_option maxHeartbeats 4000000 in
theorem fit_any {w : World} {base p : Nat} {sv : Value} {m : Nat} {es : List Fd} (more : Nat) (hmore : more ≤ 4611686018427387904) (h : TT w base p sv m es) (hbase : base ≤ w.heap.size) :
    Calls Try.prog 55 #[.pointer (some ⟨p, 0, none⟩), .int .i64 more] w fun e w' => e = .returned (.tuple #[]) ∧ Chg [p] w w' ∧ ∃ sv', TT w' base p sv' m (fit more m es) ∧ (∀ k, sv'.ownBlock = some k → sv.ownBlock = some k ∨ w.heap.size ≤ k) := by
  obtain ⟨hh, hr, hm, ht, hlo, hnd⟩ := h
  have hlen : es.length ≤ 2048 := by have := tot_len es; omega
  obtain ⟨a, cap, rfl, hcap, hcapm⟩ := hr.slice
  have hsl := hr.sl
  have hpw := hh.lt
  have HR := Lib.hid hr; have HH := Lib.hid hh; have HND := Lib.hid hnd; have HS := Lib.hid hsl
  unfold maxLen at hcapm
  clear hr hh hnd hsl
  go_enter Try.func55, Try.ntmps55
  go_wp2_with fail
  go_loopw [4] (fun nv wr => ∃ k T : Nat, k ≤ es.length ∧ nv = .int .i64 k ∧ T = tot (es.drop k) ∧ (∀ j, j < k → m < tot (es.drop j) + more) ∧ Chg [p] w wr ∧ At wr p (.cells #[.slice a es.length cap, .int .i64 T, .int .i64 m] 94 (0, 0))) (fun nv _ => es.length - (intOf nv).toNat)
  case atStart => exact ⟨0, tot es, by omega, rfl, rfl, by intro j hj; omega, Chg.refl _, HH.out⟩
  case round =>
    obtain ⟨k, T, hk, rfl, hT, hj, hch, hat⟩ := hrel
    have hTb : T ≤ 65536 := by rw [hT]; have := tot_drop_le es k; omega
    have c0 := hat.cell (o := 0) rfl
    have c1 := hat.cell (o := 1) rfl
    have c2 := hat.cell (o := 2) rfl
    have hfr := hat.free
    have HT := Lib.hid hT; have HJ := Lib.hid hj; have HCH := Lib.hid hch; have HAT := Lib.hid hat
    clear hT hj hch hat
    by_cases hlt : k < es.length
    · obtain ⟨f, hf⟩ : ∃ f, es[k]? = some f := ⟨_, List.getElem?_eq_getElem hlt⟩
      obtain ⟨b, off, rfl, hbw, hcell⟩ := HS.out.cells (by omega)
      have hbp : b ≠ p := by
        obtain ⟨a', cap', he, _, _, hr2⟩ := owns_val HR.out
        simp only [Value.slice.injEq, true_and] at he
        obtain ⟨rfl, rfl⟩ := he
        obtain ⟨g, hg, hg2, _⟩ := hr2 (by omega)
        simp only [Option.some.injEq, Addr.mk.injEq] at hg
        rw [hg.1]
        exact HND.out g hg2
      obtain ⟨e0, e1, e2⟩ := hcell k f hf
      have hne : b ∉ [p] := by simpa using hbp
      have f0 : wr.cell? ⟨b, off + k * 3, none⟩ = some (.string f.n) := by rw [HCH.out.cell hbw hne]; exact e0
      have f1 : wr.cell? ⟨b, off + k * 3 + 1, none⟩ = some (.string f.v) := by rw [HCH.out.cell hbw hne]; exact e1
      have f2 : wr.cell? ⟨b, off + k * 3 + 2, none⟩ = some (.bool f.nv) := by rw [HCH.out.cell hbw hne]; exact e2
      have hsz : f.sz ≤ T := by rw [HT.out, tot_drop_succ hf]; omega
      have hTs : T - f.sz = tot (es.drop (k + 1)) := by rw [HT.out, tot_drop_succ hf]; omega
      have HF := Lib.hid hf; have HTS := Lib.hid hTs
      clear hcell e0 e1 e2 hf hTs hne
      have hbp2 : p ≠ b := Ne.symm hbp
      have hpl : p < wr.heap.size := HAT.out.lt
      have hbl : b < wr.heap.size := Nat.lt_of_lt_of_le hbw HCH.out.size
      have hd1 : decide (k < es.length) = true := by simpa using hlt
      by_cases hgt : m < T + more
      · have hd2 : decide ((m : Int) < T + more) = true := by simp; omega
        go_wp2_with fail
        go_quiet (fail)
        go_wp2_with fail
        have hfr2 : ∀ n, ((wr.drewN n).alloc (.cells #[.string f.n, .string f.v, .bool f.nv] 44)).frozen? ⟨p, 1, none⟩ = false := fun n => ((HAT.out.drewN n).alloc _).free 1
        have hc2 : ∀ n, ((wr.drewN n).alloc (.cells #[.string f.n, .string f.v, .bool f.nv] 44)).cell? ⟨p, 1, none⟩ = some (.int .i64 T) := fun n => ((HAT.out.drewN n).alloc _).cell rfl
        obtain ⟨T2, hT2⟩ : ∃ T2, T2 = T - f.sz := ⟨_, rfl⟩
        have hwr : IntKind.i64.wrap ((T : Int) - f.sz) = (T2 : Int) := by rw [IntKind.wrap_i64]; omega
        have HT2 := Lib.hid hT2
        clear hT2
        go_region_law (first
          | (go_simp; go_at_call 41; refine (size_any f _ (by omega)).mono ?_; rintro e w' ⟨rfl, rfl⟩)
          | fail)
        go_simp
        all_goals
          go_wp2_with fail
          go_roundw
          case rel =>
            refine ⟨k + 1, T2, by omega, by go_num, by rw [HT2.out, HTS.out], fun j hj => ?_, ?_, ?_⟩
            · rcases Nat.lt_or_ge j k with h1 | h1
              · exact HJ.out j h1
              · obtain rfl : j = k := by omega
                rw [← HT.out]; exact hgt
            · exact ((HCH.out.drewN _).alloc _).setCell (Or.inl (by simp)) _
            · exact ((HAT.out.drewN _).alloc _).set 1 (.int .i64 T2)
          case measure => simp [intOf]; omega
      · have hd2 : decide ((m : Int) < T + more) = false := by simp; omega
        have hfit : fit more m es = es.drop k := fit_drop hk HJ.out (fun _ => by rw [← HT.out]; exact hgt)
        have HFIT := Lib.hid hfit
        clear hfit
        by_cases hk0 : k = 0
        · subst hk0
          go_wp2_with fail
          go_quiet (fail)
          go_wp2_with fail
          go_end0
          refine ⟨rfl, HCH.out.drewN _, _, ⟨?_, ?_, hm, ?_, hlo, HND.out⟩, fun k hk => Or.inl hk⟩
          · rw [HFIT.out]
            have := HAT.out.drewN nq
            rw [HT.out] at this
            simpa using this
          · rw [HFIT.out]
            exact ((HR.out.chg (HCH.out) (fun g hg => by simp; exact HND.out g hg)).drewN _)
          · exact Nat.le_trans (fit_le _ _ _) ht
        · have hk1 : 0 < k := by omega
          have hk2 : (0 : Int) < (k : Int) := by omega
          have hck : ¬ cap = k := by omega
          have hsl2 : ∀ n, FdsOf (wr.drewN n) (.slice (some ⟨b, off + k * 3, none⟩) (es.length - k) (cap - k)) (es.drop k) := fun n => FdsOf.drop ((HS.out.chg HCH.out (by intro a n cap he; simp only [Value.slice.injEq, Option.some.injEq] at he; rw [← he.1]; simpa using hbp)).chg0 ((Chg.refl wr).drewN n)) k hk (by omega) (by unfold maxLen; omega)
          have HSL := Lib.hid hsl2
          clear hsl2 f0 f1 f2 hk0
          go_wp2_with fail
          go_quiet (fail)
          go_wp2_with (at_builtin; refine app_row encF_len encF_one 26 Try.underlying26 infoF rfl (by decide) rfl _ _ rfl base (.slice none 0 0) [] rfl (OwnR.nil _ _) _ (es.drop k) rfl (HSL.out _) (by simp [maxLen]; omega) (by simp; omega) (by have := HCH.out.size; simp; omega) ?_)
          intro v' w' hown hch2 hfr3
          obtain ⟨va, vc, hv, _, _⟩ := OwnR.slice hown
          simp only [List.length_drop, Nat.sub_self] at hv
          subst hv
          have hat2 := (HAT.out.drewN nq).chg hch2 (by simp [Value.ownBlock])
          have h20 := hat2.cell (o := 0) rfl
          have h21 := hat2.free
          have HA2 := Lib.hid hat2; have HC2 := Lib.hid hch2; have HO := Lib.hid hown; have HF3 := Lib.hid hfr3
          clear hat2 hch2 hown hfr3
          go_wp2_with fail
          go_end0
          have hnp : ∀ g, (Value.slice va (es.length - k) vc).ownBlock = some g → wr.heap.size ≤ g := fun g hg => by
            rcases HF3.out g hg with h | h
            · simp [Value.ownBlock] at h
            · exact h
          refine ⟨rfl, ((HCH.out.drewN nq).trans HC2.out (by simp [Value.ownBlock])).setCell (Or.inl (by simp)) _, _, ⟨?_, ?_, hm, ?_, hlo, fun g hg => by have := hnp g hg; omega⟩, fun k hk => Or.inr (by have := hnp k hk; have := HCH.out.size; omega)⟩
          · rw [HFIT.out, ← HT.out]
            exact HA2.out.set 0 _
          · rw [HFIT.out]
            have h1 : OwnF w' base _ (es.drop k) := HO.out
            exact h1.chg (((Chg.refl w').setCell (l := [p]) (Or.inl (by simp)) _)) (fun g hg => by have := hnp g hg; simp; omega)
          · exact Nat.le_trans (fit_le _ _ _) ht
    · obtain rfl : k = es.length := by omega
      have hd1 : decide (es.length < es.length) = false := by simp
      have hfit : fit more m es = es.drop es.length := fit_drop hk HJ.out (fun h => by omega)
      have HFIT := Lib.hid hfit
      clear hfit
      by_cases hk0 : es.length = 0
      · obtain rfl : es = [] := List.length_eq_zero_iff.1 hk0
        go_wp2_with fail
        go_quiet (fail)
        go_wp2_with fail
        go_end0
        refine ⟨rfl, HCH.out.drewN _, _, ⟨?_, ?_, hm, ?_, hlo, HND.out⟩, fun k hk => Or.inl hk⟩
        · rw [HFIT.out]
          have := HAT.out.drewN nq
          rw [HT.out] at this
          simpa using this
        · rw [HFIT.out]
          exact ((HR.out.chg (HCH.out) (fun g hg => by simp; exact HND.out g hg)).drewN _)
        · exact Nat.le_trans (fit_le _ _ _) ht
      · have hk1 : 0 < es.length := by omega
        obtain ⟨b, off, rfl, hbw, hcell⟩ := HS.out.cells hk1
        clear hcell
        have hk2 : (0 : Int) < (es.length : Int) := by omega
        have hdl : es.drop es.length = [] := List.drop_of_length_le (Nat.le_refl _)
        by_cases hck : cap = es.length
        · have HCK := Lib.hid hck
          clear hck
          have HDL := Lib.hid hdl
          clear hdl hk0
          have hck2 : (cap = es.length) = True := by rw [HCK.out]; simp
          go_wp2_with fail
          go_quiet (fail)
          go_wp2_with fail
          go_end0
          refine ⟨rfl, (HCH.out.drewN nq).setCell (Or.inl (by simp)) _, .slice none 0 0, ⟨?_, ?_, hm, ?_, hlo, by simp [Value.ownBlock]⟩, by simp [Value.ownBlock]⟩
          · rw [HFIT.out, ← HT.out]
            exact (HAT.out.drewN nq).set 0 _
          · rw [HFIT.out, HDL.out]
            exact OwnR.nil _ _
          · exact Nat.le_trans (fit_le _ _ _) ht
        · have HDL := Lib.hid hdl
          clear hdl hk0
          go_wp2_with fail
          go_quiet (fail)
          go_wp2_with fail
          go_end0
          refine ⟨rfl, (HCH.out.drewN nq).setCell (Or.inl (by simp)) _, .slice none 0 0, ⟨?_, ?_, hm, ?_, hlo, by simp [Value.ownBlock]⟩, by simp [Value.ownBlock]⟩
          · rw [HFIT.out, ← HT.out]
            exact (HAT.out.drewN nq).set 0 _
          · rw [HFIT.out, HDL.out]
            exact OwnR.nil _ _
          · exact Nat.le_trans (fit_le _ _ _) ht
end Go.Proofs.Ytmoeioaahampaaa.Tb
