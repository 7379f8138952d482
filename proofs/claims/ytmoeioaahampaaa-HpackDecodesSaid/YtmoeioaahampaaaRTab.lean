/-
  The document's table: what it is in memory; Size, fit, SetMax, New, Add.
-/
import Derived.Test.YtmoeioaahampaaaHas
import Derived.Test.YtmoeioaahampaaaRefA
import Derived.Test.YtmoeioaahampaaaLater
import Derived.Deep.DeepCutAuto
namespace Go.Proofs.Ytmoeioaahampaaa.Tb
open Go.ChangeShapes Go.WideShapes Go.ChangeAt Go.RowKit
open Go.Proofs.Ytmoeioaahampaaa.B
set_option linter.unusedVariables false
set_option linter.unusedSimpArgs false

/-- The document's table in memory: its head at block p, its entries, the newest first. -/
structure RT (w : World) (base p : Nat) (sv : Value) (m : Nat) (l : List Fd) : Prop where
  head : At w p (.cells #[sv, .int .i64 m] 87 (0, 0))
  row : FdsOf w sv l
  m : m ≤ 65536
  t : tot l ≤ 65536
  lo : base ≤ p
  own : ∀ g ∈ sv.ownBlock.toList, base ≤ g ∧ g ≠ p ∧ g < w.heap.size
section
variable {w w' : World} {base p : Nat} {sv : Value} {m : Nat} {l : List Fd}
theorem RT.chg {ls : List Nat} (h : RT w base p sv m l) (hc : Chg ls w w') (hd : ∀ x ∈ foot p sv, x ∉ ls) : RT w' base p sv m l :=
  ⟨h.head.chg hc (hd p (by simp [foot])), h.row.chg hc (fun a n cap e => hd _ (by simp [foot, e, Value.ownBlock])), h.m, h.t, h.lo, fun g hg => ⟨(h.own g hg).1, (h.own g hg).2.1, Nat.lt_of_lt_of_le (h.own g hg).2.2 hc.size⟩⟩
theorem RT.chg0 (h : RT w base p sv m l) (hc : Chg [] w w') : RT w' base p sv m l := h.chg hc (fun _ _ => by simp)
theorem RT.later (h : RT w base p sv m l) (x : Later [] w) : RT x.world base p sv m l := h.chg0 x.chg
theorem RT.drew (h : RT w base p sv m l) : RT w.drew base p sv m l := h.chg0 (Chg.refl _).drew
theorem RT.foot_lo (h : RT w base p sv m l) : ∀ x ∈ foot p sv, base ≤ x := by
  intro x hx
  rcases List.mem_cons.1 hx with rfl | hx
  · exact h.lo
  · exact (h.own x hx).1
theorem RT.foot_lt (h : RT w base p sv m l) : ∀ x ∈ foot p sv, x < w.heap.size := by
  intro x hx
  rcases List.mem_cons.1 hx with rfl | hx
  · exact h.head.lt
  · exact (h.own x hx).2.2
theorem RT.len (h : RT w base p sv m l) : l.length ≤ 2048 := by have := tot_len l; have := h.t; omega
end
theorem tot_take_succ {l : List Fd} {k : Nat} {f : Fd} (h : l[k]? = some f) : tot (l.take (k + 1)) = tot (l.take k) + f.sz := by
  rw [List.take_add_one, h, tot_append]; simp [tot]
theorem tot_take_le (l : List Fd) (k : Nat) : tot (l.take k) ≤ tot l := by
  have := tot_append (l.take k) (l.drop k)
  rw [List.take_append_drop] at this; omega
set_option maxRecDepth 100000 in
set_option maxHeartbeats 4000000 in
theorem rtsize_any {w : World} {base p : Nat} {sv : Value} {m : Nat} {l : List Fd} (h : RT w base p sv m l) :
    Calls Try.prog 51 #[.pointer (some ⟨p, 0, none⟩)] w fun e w' => e = .returned (.int .i64 (tot l)) ∧ Chg [] w w' := by
  obtain ⟨a, cap, rfl, hc1, hc2⟩ := h.row.len
  have hlen := h.len
  have ht := h.t
  have HT := Lib.hid h
  clear h
  go_enter Try.func51, Try.ntmps51
  go_wp2_with fail
  go_loopw [3, 4] (fun nv iv wr => ∃ k N : Nat, k ≤ l.length ∧ iv = .int .i64 k ∧ N = tot (l.take k) ∧ nv = .int .i64 N ∧ Chg [] w wr) (fun _ iv _ => l.length - (intOf iv).toNat)
  case atStart => exact ⟨0, 0, Nat.zero_le _, rfl, rfl, rfl, Chg.refl _⟩
  case round =>
    obtain ⟨k, N, hk, rfl, hN, rfl, hc⟩ := hrel
    have hT := HT.out.chg0 hc
    have hN1 : N ≤ 65536 := by rw [hN]; exact Nat.le_trans (tot_take_le l k) ht
    have c0 : World.cell? wr ⟨p, 0, none⟩ = some (.slice a l.length cap) := hT.head.cell rfl
    by_cases hlt : k < l.length
    · obtain ⟨f, hf⟩ : ∃ f, l[k]? = some f := ⟨_, List.getElem?_eq_getElem hlt⟩
      have hstep := tot_take_succ hf
      have hfs : f.sz ≤ 65536 := Nat.le_trans (tot_mem (List.mem_of_getElem? hf)) ht
      obtain ⟨b, off, rfl, hb, hcells⟩ := hT.row.cells (by omega)
      obtain ⟨d0, d1, d2⟩ := hcells k f hf
      rw [← hN] at hstep
      have HS := Lib.hid hstep; have HC := Lib.hid hc
      clear hN hstep hc hf hcells hT
      go_wp2_with fail
      refine (rsize_any f _ (by omega)).mono ?_; rintro e w2 ⟨rfl, rfl⟩
      go_wp2_with fail
      go_roundw
      case rel => exact ⟨k + 1, N + f.sz, by omega, by go_num, HS.out.symm, by go_num, HC.out.alloc _⟩
      case measure => simp [intOf]; omega
    · obtain rfl : k = l.length := by omega
      have hN2 : N = tot l := by rw [hN, List.take_of_length_le (by omega)]
      clear hN hT
      go_wp2_with fail
      go_ret
      exact ⟨by rw [← hN2]; rfl, hc⟩
theorem own_same (a : Option Addr) (n c n' c' : Nat) : (Value.slice a n c).ownBlock = (Value.slice a n' c').ownBlock := by cases a <;> rfl
theorem FdsOf.take {w : World} {ad : Option Addr} {n cap k : Nat} {l : List Fd} (h : FdsOf w (.slice ad n cap) l) (hk : k ≤ l.length) : FdsOf w (.slice ad k cap) (l.take k) := by
  obtain ⟨ad', cap', he, h2, h3, h4⟩ := h
  cases he
  refine ⟨ad, cap, by rw [List.length_take, Nat.min_eq_left hk], by rw [List.length_take]; omega, h3, fun h0 => ?_⟩
  rw [List.length_take] at h0
  obtain ⟨b, off, h5, h6, h7⟩ := h4 (by omega)
  refine ⟨b, off, h5, h6, fun i z hz => ?_⟩
  rw [List.getElem?_take] at hz
  split at hz
  · exact h7 i z hz
  · cases hz
theorem rev_drop {es : List Fd} {k : Nat} (h : k < es.length) : (es.drop (k + 1)).reverse = (es.drop k).reverse.take (es.length - k - 1) := by
  rw [List.drop_eq_getElem_cons h, List.reverse_cons, List.take_append_of_le_length (by simp; omega), List.take_of_length_le (by simp; omega)]
theorem rtsize_eq {w : World} {base p : Nat} {sv : Value} {m : Nat} {l : List Fd} (h : RT w base p sv m l) {T : Nat} (hT : tot l = T) :
    Calls Try.prog 51 #[.pointer (some ⟨p, 0, none⟩)] w fun e w' => e = .returned (.int .i64 T) ∧ Chg [] w w' := by
  subst hT; exact rtsize_any h
set_option maxRecDepth 100000 in
set_option maxHeartbeats 4000000 in
theorem rfit_any {w : World} {base p : Nat} {sv : Value} {m : Nat} {es : List Fd} (more : Nat) (hm : more ≤ 1000000) (h : RT w base p sv m es.reverse) :
    Calls Try.prog 74 #[.pointer (some ⟨p, 0, none⟩), .int .i64 more] w fun e w' => e = .returned (.tuple #[]) ∧ Chg [p] w w' ∧ ∃ sv', RT w' base p sv' m (fit more m es).reverse ∧ sv'.ownBlock = sv.ownBlock := by
  obtain ⟨a, cap, rfl, hc1, hc2⟩ := h.row.len
  have hlen := h.len
  rw [List.length_reverse] at hlen hc1 h
  unfold maxLen at hc2
  have ht := h.t
  rw [tot_reverse] at ht
  have hmm := h.m
  have HT0 := Lib.hid h
  clear h
  go_enter Try.func74, Try.ntmps74
  go_wp2_with fail
  go_loopw [] (fun wr => ∃ k L : Nat, k ≤ es.length ∧ L = es.length - k ∧ (∀ j, j < k → m < tot (es.drop j) + more) ∧ RT wr base p (.slice a L cap) m (es.drop k).reverse ∧ Chg [p] w wr) (fun wr => match wr.cell? ⟨p, 0, none⟩ with | some (.slice _ n _) => n | _ => 0)
  case atStart => exact ⟨0, _, Nat.zero_le _, rfl, fun j hj => by omega, HT0.out, Chg.refl _⟩
  case round =>
    obtain ⟨k, L, hk, hL, hj, hT, hc⟩ := hrel
    have c0 : World.cell? wr ⟨p, 0, none⟩ = some (.slice a L cap) := hT.head.cell rfl
    have g0 : ∀ x : Later [] wr, World.cell? x.world ⟨p, 0, none⟩ = some (.slice a L cap) := fun x => (hT.later x).head.cell rfl
    have g1 : ∀ x : Later [] wr, World.cell? x.world ⟨p, 1, none⟩ = some (.int .i64 m) := fun x => (hT.later x).head.cell rfl
    obtain ⟨T, hTT⟩ : ∃ T, T = tot (es.drop k) := ⟨_, rfl⟩
    have hTr : tot (es.drop k).reverse = T := by rw [tot_reverse, hTT]
    have hTb : T ≤ 65536 := by rw [hTT]; exact Nat.le_trans (tot_drop_le es k) ht
    have HT := Lib.hid hT; have HJ := Lib.hid hj; have HC := Lib.hid hc; have HTT := Lib.hid hTT; have HTR := Lib.hid hTr; have HL := Lib.hid hL
    clear hT hj hc hTT hTr hL
    by_cases h0 : L = 0
    · subst h0
      go_wp2_with fail
      skip
      refine wp_region_later (S := []) (by kernel_rfl) (by kernel_rfl) ?_
      repeat (go_big_quiet_step ((go_at_call 51; exact Calls.later (rtsize_eq (HT.out.later _) HTR.out))))
      refine wpQuiet_nil ?_
      intro _ hw'
      obtain ⟨xq, rfl⟩ := hw'
      go_wp2_with fail
      go_end0
      refine ⟨rfl, HC.out.trans' (xq.chg.mono (by simp)), .slice a 0 cap, ?_, own_same _ _ _ _ _⟩
      have e2 : fit more m es = es.drop k := fit_drop hk HJ.out (fun h => by have := HL.out; omega)
      rw [e2]
      exact HT.out.later xq
    · have hd0 : decide (0 < L) = true := decide_eq_true (by omega)
      by_cases hgt : m < T + more
      · have hd1 : decide ((m : Int) < (T : Int) + (more : Int)) = true := decide_eq_true (by omega)
        go_wp2_with fail
        skip
        refine wp_region_later (S := []) (by kernel_rfl) (by kernel_rfl) ?_
        repeat (go_big_quiet_step ((go_at_call 51; exact Calls.later (rtsize_eq (HT.out.later _) HTR.out))))
        refine wpQuiet_nil ?_
        intro _ hw'
        obtain ⟨xq, rfl⟩ := hw'
        have c1 : World.cell? xq.world ⟨p, 0, none⟩ = some (.slice a L cap) := g0 xq
        have hat := (HT.out.later xq).head
        have cf : ∀ j, World.frozen? xq.world ⟨p, j, none⟩ = false := fun j => hat.free j
        have HAT := Lib.hid hat
        clear hat
        obtain ⟨L2, hL2⟩ : ∃ L2, L2 = L - 1 := ⟨_, rfl⟩
        have hwr : IntKind.i64.wrap ((L : Int) - 1) = (L2 : Int) := by
          rw [IntKind.wrap_i64]; have := HL.out; omega
        have hLc : (L2 : Int) ≤ (cap : Int) := by have := HL.out; omega
        have hL0 : (0 : Int) ≤ (L2 : Int) := by omega
        have HL2 := Lib.hid hL2
        clear hL2
        go_wp2_with fail
        go_region
        go_wp2_with fail
        go_roundw
        case rel =>
          have hk1 : k < es.length := by have := HL.out; omega
          have hT := HT.out.later xq
          refine ⟨k + 1, L2, by omega, by rw [HL2.out, HL.out]; omega, fun j hj => ?_, ⟨(hT.head.set 0 (.slice a L2 cap)).drew, ?_, hT.m, ?_, hT.lo, ?_⟩, ((HC.out.trans' (xq.chg.mono (by simp))).setCell (Or.inl (by simp)) _).drew⟩
          · rcases Nat.lt_or_ge j k with h1 | h1
            · exact HJ.out j h1
            · obtain rfl : j = k := by omega
              rw [← HTT.out]; exact hgt
          · rw [rev_drop hk1]
            have h2 := hT.row.take (k := L2) (by rw [List.length_reverse, List.length_drop]; have := HL.out; have := HL2.out; omega)
            rw [show es.length - k - 1 = L2 by rw [HL2.out, HL.out]]
            refine h2.chg (ls := [p]) (((Chg.refl _).setCell (Or.inl (by simp)) _).drew) ?_
            intro ad n cp e
            have := (hT.own ad.block (by cases e; simp [Value.ownBlock])).2.1
            simpa using this
          · rw [tot_reverse]; exact Nat.le_trans (tot_drop_le es _) ht
          · intro g hg
            have := hT.own g (by rw [own_same a L cap L2 cap]; exact hg)
            exact ⟨this.1, this.2.1, by simpa using this.2.2⟩
        case measure =>
          have q := ((HAT.out.set 0 (.slice a L2 cap)).drew).cell (o := 0) rfl
          rw [q, c0]
          show L2 < L
          rw [HL2.out]; omega
      · have hd1 : decide ((m : Int) < (T : Int) + (more : Int)) = false := decide_eq_false (by omega)
        go_wp2_with fail
        skip
        refine wp_region_later (S := []) (by kernel_rfl) (by kernel_rfl) ?_
        repeat (go_big_quiet_step ((go_at_call 51; exact Calls.later (rtsize_eq (HT.out.later _) HTR.out))))
        refine wpQuiet_nil ?_
        intro _ hw'
        obtain ⟨xq, rfl⟩ := hw'
        go_wp2_with fail
        go_end0
        refine ⟨rfl, HC.out.trans' (xq.chg.mono (by simp)), .slice a L cap, ?_, own_same _ _ _ _ _⟩
        have e2 : fit more m es = es.drop k := fit_drop hk HJ.out (fun h => by rw [← HTT.out]; exact hgt)
        rw [e2]
        exact HT.out.later xq
set_option maxRecDepth 100000 in
set_option maxHeartbeats 4000000 in
theorem rset_any {w : World} {base p : Nat} {sv : Value} {m : Nat} {es : List Fd} (n : Int) (h : RT w base p sv m es.reverse) :
    Calls Try.prog 60 #[.pointer (some ⟨p, 0, none⟩), .int .i64 n] w fun e w' => e = .returned (.tuple #[]) ∧ Chg [p] w w' ∧ ∃ sv', RT w' base p sv' (hgt n) (fit 0 (hgt n) es).reverse ∧ sv'.ownBlock = sv.ownBlock := by
  have c0 : World.cell? w ⟨p, 0, none⟩ = some sv := h.head.cell rfl
  have c1 : World.cell? w ⟨p, 1, none⟩ = some (.int .i64 m) := h.head.cell rfl
  have cf : ∀ j, World.frozen? w ⟨p, j, none⟩ = false := fun j => h.head.free j
  have HT := Lib.hid h
  by_cases h1 : n < 0
  · have he : ((hgt n : Nat) : Int) = 0 := by unfold hgt; omega
    have hh := (h.head.set 1 (.int .i64 n)).set 1 (.int .i64 0)
    have h2 : ¬ 65536 < n := by omega
    clear h
    go_enter Try.func60, Try.ntmps60
    go_wp2_with fail
    have hc : Chg [p] w ((w.setCell ⟨p, 1, none⟩ (.int .i64 n)).setCell ⟨p, 1, none⟩ (.int .i64 0)) := by (repeat (refine Chg.setCell ?_ (Or.inl (by simp)) _)); exact Chg.refl _
    have hT2 : RT ((w.setCell ⟨p, 1, none⟩ (.int .i64 n)).setCell ⟨p, 1, none⟩ (.int .i64 0)) base p sv (hgt n) es.reverse := ⟨by rw [he]; exact hh, HT.out.row.chg hc (fun ad k cp e => by have := (HT.out.own ad.block (by rw [e]; simp [Value.ownBlock])).2.1; simpa using this), hgt_le n, HT.out.t, HT.out.lo, fun g hg => by have := HT.out.own g hg; exact ⟨this.1, this.2.1, by simpa using this.2.2⟩⟩
    refine (rfit_any 0 (by omega) hT2).mono ?_
    rintro e w2 ⟨rfl, hc2, sv', h2, h3⟩
    go_wp2_with fail
    go_end0
    exact ⟨rfl, hc.trans' hc2, sv', h2, h3⟩
  · by_cases h2 : 65536 < n
    · have he : ((hgt n : Nat) : Int) = 65536 := by unfold hgt; omega
      have hh := (h.head.set 1 (.int .i64 n)).set 1 (.int .i64 65536)
      clear h
      go_enter Try.func60, Try.ntmps60
      go_wp2_with fail
      have hc : Chg [p] w ((w.setCell ⟨p, 1, none⟩ (.int .i64 n)).setCell ⟨p, 1, none⟩ (.int .i64 65536)) := by (repeat (refine Chg.setCell ?_ (Or.inl (by simp)) _)); exact Chg.refl _
      have hT2 : RT ((w.setCell ⟨p, 1, none⟩ (.int .i64 n)).setCell ⟨p, 1, none⟩ (.int .i64 65536)) base p sv (hgt n) es.reverse := ⟨by rw [he]; exact hh, HT.out.row.chg hc (fun ad k cp e => by have := (HT.out.own ad.block (by rw [e]; simp [Value.ownBlock])).2.1; simpa using this), hgt_le n, HT.out.t, HT.out.lo, fun g hg => by have := HT.out.own g hg; exact ⟨this.1, this.2.1, by simpa using this.2.2⟩⟩
      refine (rfit_any 0 (by omega) hT2).mono ?_
      rintro e w2 ⟨rfl, hc2, sv', h2, h3⟩
      go_wp2_with fail
      go_end0
      exact ⟨rfl, hc.trans' hc2, sv', h2, h3⟩
    · have he : ((hgt n : Nat) : Int) = n := by unfold hgt; omega
      have hh := h.head.set 1 (.int .i64 n)
      clear h
      go_enter Try.func60, Try.ntmps60
      go_wp2_with fail
      have hc : Chg [p] w (w.setCell ⟨p, 1, none⟩ (.int .i64 n)) := by (repeat (refine Chg.setCell ?_ (Or.inl (by simp)) _)); exact Chg.refl _
      have hT2 : RT (w.setCell ⟨p, 1, none⟩ (.int .i64 n)) base p sv (hgt n) es.reverse := ⟨by rw [he]; exact hh, HT.out.row.chg hc (fun ad k cp e => by have := (HT.out.own ad.block (by rw [e]; simp [Value.ownBlock])).2.1; simpa using this), hgt_le n, HT.out.t, HT.out.lo, fun g hg => by have := HT.out.own g hg; exact ⟨this.1, this.2.1, by simpa using this.2.2⟩⟩
      refine (rfit_any 0 (by omega) hT2).mono ?_
      rintro e w2 ⟨rfl, hc2, sv', h2, h3⟩
      go_wp2_with fail
      go_end0
      exact ⟨rfl, hc.trans' hc2, sv', h2, h3⟩
set_option maxRecDepth 100000 in
set_option maxHeartbeats 4000000 in
theorem rnew_any (n : Int) (base : Nat) (w : World) (hb : base ≤ w.heap.size) :
    Calls Try.prog 48 #[.int .i64 n] w fun e w' => e = .returned (.pointer (some ⟨w.heap.size, 0, none⟩)) ∧ Chg [] w w' ∧ ∃ sv, RT w' base w.heap.size sv (hgt n) [] ∧ sv.ownBlock = none := by
  go_enter Try.func48, Try.ntmps48
  go_wp2_with fail
  have h0 : RT (w.alloc (.cells #[.slice none 0 0, .int .i64 0] 87)) base w.heap.size (.slice none 0 0) 0 ([] : List Fd).reverse :=
    ⟨At.new w _, ⟨none, 0, rfl, by simp, by simp [maxLen], by simp⟩, by omega, by simp [tot], hb, fun g hg => by simp [Value.ownBlock] at hg⟩
  refine (rset_any n h0).mono ?_
  rintro e w2 ⟨rfl, hc2, sv', h2, h3⟩
  go_wp2_with fail
  go_ret
  refine ⟨rfl, ?_, sv', by simpa [fit] using h2, by rw [h3]; rfl⟩
  exact ((Chg.refl w).alloc (l := []) _).trans hc2 (by simp)
theorem rsize_l (f : Fd) (w : World) (h : f.sz ≤ 9223372036854775807) :
    Calls Try.prog 21 #[.agg #[.string f.n, .string f.v, .bool false]] w fun e w' => e = .returned (.int .i64 f.sz) ∧ Chg [] w w' :=
  (rsize_any f.un w h).mono fun e w' h => ⟨h.1, by rw [h.2]; exact (Chg.refl _).alloc _⟩
theorem OwnF.one (w : World) {base : Nat} (hb : base ≤ w.heap.size) (f : Fd) : OwnF (w.alloc (.cells #[.string f.n, .string f.v, .bool f.nv] 44)) base (.slice (some ⟨w.heap.size, 0, none⟩) 1 1) [f] := by
  refine ⟨rfl, Or.inr ⟨w.heap.size, 1, #[.string f.n, .string f.v, .bool f.nv], rfl, hb, ?_, Nat.le_refl _, by simp [maxLen], rfl, rfl⟩⟩
  exact At.new w _
def FO (f : Fd) : Obj := .cells #[.string f.n, .string f.v, .bool false] 44 (0, 0)
set_option maxRecDepth 100000 in
set_option maxHeartbeats 4000000 in
theorem radd_any {w : World} {base p : Nat} {sv : Value} {m : Nat} {es : List Fd} (f : Fd) (hf : f.sz ≤ 100000) (hi : Inv m es) (h : RT w base p sv m es.reverse) (hbw : base ≤ w.heap.size) :
    Calls Try.prog 66 #[.pointer (some ⟨p, 0, none⟩), .agg (aF f)] w fun e w' => e = .returned (.tuple #[]) ∧ Chg [p] w w' ∧ ∃ sv', RT w' base p sv' m (addS f m es).reverse ∧ (∀ g ∈ sv'.ownBlock.toList, g ∈ sv.ownBlock.toList ∨ w.heap.size ≤ g) := by
  have HT := Lib.hid h; have HI := Lib.hid hi
  have hpw := h.head.lt
  clear h hi
  unfold aF
  go_enter Try.func66, Try.ntmps66
  go_wp2_with fail
  refine (rsize_l f _ (by omega)).mono ?_; rintro e w2 ⟨rfl, hc2⟩
  have hx2 := (At.new w (FO f)).chg hc2 (by simp)
  have hW2 := ((Chg.refl w).alloc (l := [p]) (FO f)).trans' (hc2.mono (by simp))
  have hT2 := HT.out.chg0 (((Chg.refl w).alloc (FO f)).trans' hc2)
  have HX2 := Lib.hid hx2; have HW2 := Lib.hid hW2; have HT2 := Lib.hid hT2
  have hs2 : w.heap.size < w2.heap.size := hx2.lt
  clear hx2 hW2 hT2 hc2
  go_wp2_with fail
  refine (rfit_any f.sz (by omega) HT2.out).mono ?_
  rintro e w3 ⟨rfl, hc3, sv3, h3, ho3⟩
  have hx3 := HX2.out.chg hc3 (by simp; omega)
  have g0 : ∀ x : Later [] w3, World.cell? x.world ⟨w.heap.size, 0, none⟩ = some (.string f.n) := fun x => (hx3.chg x.chg (by simp)).cell rfl
  have g1 : ∀ x : Later [] w3, World.cell? x.world ⟨w.heap.size, 1, none⟩ = some (.string f.v) := fun x => (hx3.chg x.chg (by simp)).cell rfl
  have g2 : ∀ x : Later [] w3, World.cell? x.world ⟨w.heap.size, 2, none⟩ = some (.bool false) := fun x => (hx3.chg x.chg (by simp)).cell rfl
  have g3 : ∀ x : Later [] w3, World.cell? x.world ⟨p, 1, none⟩ = some (.int .i64 m) := fun x => (h3.later x).head.cell rfl
  have HX3 := Lib.hid hx3; have HW3 := Lib.hid (HW2.out.trans' hc3); have HT3 := Lib.hid h3; have HO3 := Lib.hid ho3
  have hs3 := hc3.size
  clear hx3 hc3 h3 ho3
  by_cases hfm : f.sz ≤ m
  · have hd : decide ((m : Int) < (f.sz : Int)) = false := decide_eq_false (by omega)
    go_wp2_with fail
    skip
    refine wp_region_later (S := []) (by kernel_rfl) (by kernel_rfl) ?_
    repeat (go_big_quiet_step ((go_at_call 21; exact Calls.later (rsize_l f _ (by omega)))))
    refine wpQuiet_nil ?_
    intro _ hw'
    obtain ⟨xq, rfl⟩ := hw'
    have hx4 := HX3.out.chg xq.chg (by simp)
    have hT4 := HT3.out.later xq
    have d0 : World.cell? xq.world ⟨w.heap.size, 0, none⟩ = some (.string f.n) := hx4.cell rfl
    have d1 : World.cell? xq.world ⟨w.heap.size, 1, none⟩ = some (.string f.v) := hx4.cell rfl
    have d2 : World.cell? xq.world ⟨w.heap.size, 2, none⟩ = some (.bool false) := hx4.cell rfl
    have d3 : World.cell? xq.world ⟨p, 0, none⟩ = some sv3 := hT4.head.cell rfl
    have d4 : p < xq.world.heap.size := hT4.head.lt
    have HX4 := Lib.hid hx4; have HT4 := Lib.hid hT4; have HW4 := Lib.hid (HW3.out.trans' (xq.chg.mono (by simp)))
    have hs4 := xq.chg.size
    generalize xq.world = w4 at *
    clear hx4 hT4
    have hlen := HT4.out.len
    rw [List.length_reverse] at hlen
    go_wp2_with (at_builtin; refine app_row encF_len encF_one 26 Try.underlying26 infoF (by decide) (by omega) rfl _ _ rfl w4.heap.size (.slice (some ⟨w4.heap.size, 0, none⟩) 1 1) [f.un] rfl (OwnF.one w4 (Nat.le_refl _) f.un) _ _ rfl (HT4.out.row.chg0 ((Chg.refl w4).alloc _)) (by simp [maxLen]; omega) (by simp; omega) (by simp) ?_)
    intro v5 w5 own5 ch5 hb5
    have hc5 : Chg [] w4 w5 := ((Chg.refl w4).alloc _).trans ch5 (fun x hx => Or.inr (by simp [Value.ownBlock] at hx; omega))
    have hT5 := HT4.out.chg0 hc5
    have own5' : OwnF w5 w4.heap.size v5 (f.un :: (fit f.sz m es).reverse) := own5
    obtain ⟨va, n5, vc, rfl⟩ : ∃ va n vc, v5 = .slice va n vc := by obtain ⟨va, vc, h, _⟩ := OwnR.slice own5'; exact ⟨va, _, vc, h⟩
    have e0 : World.cell? w5 ⟨p, 0, none⟩ = some sv3 := hT5.head.cell rfl
    have e1 : ∀ j, World.frozen? w5 ⟨p, j, none⟩ = false := fun j => hT5.head.free j
    have HT5 := Lib.hid hT5; have O5 := Lib.hid own5'; have HW5 := Lib.hid (HW4.out.trans' (hc5.mono (by simp)))
    have hs5 := hc5.size
    clear own5 own5' ch5 hb5 hT5 hc5
    go_wp2_with fail
    go_end0
    have he : (addS f m es).reverse = f.un :: (fit f.sz m es).reverse := by rw [addS_small hfm, List.reverse_append]; rfl
    rw [he]
    have hlo : ∀ g ∈ (Value.slice va n5 vc).ownBlock.toList, w4.heap.size ≤ g := O5.out.lo
    have hlt : ∀ g ∈ (Value.slice va n5 vc).ownBlock.toList, g < w5.heap.size := O5.out.lt
    refine ⟨rfl, HW5.out.setCell (Or.inl (by simp)) _, .slice va n5 vc, ⟨HT5.out.head.set 0 (.slice va n5 vc), ?_, HT5.out.m, ?_, HT5.out.lo, fun g hg => ?_⟩, fun g hg => Or.inr (by have := hlo g hg; omega)⟩
    · refine O5.out.sl.chg (ls := [p]) ((Chg.refl _).setCell (Or.inl (by simp)) _) (fun ad n cp e => ?_)
      have := hlo ad.block (by rw [e]; simp [Value.ownBlock])
      simp; omega
    · have h6 := (HI.out.add f).t
      rw [addS_small hfm] at h6
      have h7 := HI.out.hm
      rw [← he, tot_reverse, addS_small hfm]; omega
    · have h6 := hlo g hg; have h7 := hlt g hg
      exact ⟨by omega, by omega, by simpa using h7⟩
  · have hd : decide ((m : Int) < (f.sz : Int)) = true := decide_eq_true (by omega)
    go_wp2_with fail
    skip
    refine wp_region_later (S := []) (by kernel_rfl) (by kernel_rfl) ?_
    repeat (go_big_quiet_step ((go_at_call 21; exact Calls.later (rsize_l f _ (by omega)))))
    refine wpQuiet_nil ?_
    intro _ hw'
    obtain ⟨xq, rfl⟩ := hw'
    go_wp2_with fail
    refine bodyPost_ret (results_none rfl _ _ _) rfl ?_
    refine ⟨rfl, HW3.out.trans' (xq.chg.mono (by simp)), sv3, ?_, fun g hg => Or.inl (by rw [← HO3.out]; exact hg)⟩
    have := HT3.out.later xq
    rw [fit_big (by omega)] at this
    rw [addS_big (by omega)]
    exact this
end Go.Proofs.Ytmoeioaahampaaa.Tb
