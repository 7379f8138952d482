/-
  What Write answers, of a frame that may be.
-/
import Derived.Test.YthhgnipiaohplaaFpw
import Derived.Test.YthhgnipiaohplaaFza
import Derived.Test.YthhgnipiaohplaaFmo
namespace Go.Proofs.Ythhgnipiaohplaa.Fr
open Go.ChangeShapes Go.WideShapes Go.ChangeAt Go.RowKit
open Go.Proofs.Ythhgnipiaohplaa.B
set_option linter.unusedVariables false
set_option linter.unusedSimpArgs false

theorem May.lens {F : Fm} (h : May F) : F.pay.length ≤ (bodyF F).length ∧ 6 * F.list.length ≤ (bodyF F).length := by
  refine ⟨?_, ?_⟩
  · unfold bodyF; simp only [List.length_append]; omega
  · cases h with
    | sets ack l h1 h2 => 
      have e : bodyF ⟨4, 0, false, false, ack, false, [], 0, 0, 0, false, 0, 0, l, 0, 0⟩ = setO l := by simp [bodyF, midF, padH, padT]
      rw [e, setO_len]; exact Nat.le_refl _
    | _ => simp
theorem flagsF_flg (F : Fm) : flagsF F = F.flags.toNat + flg (F.fin || F.ack) F.eh (decide (0 < F.pad.toNat)) F.prio := by
  unfold flagsF flg; simp only [decide_eq_true_eq]; omega
/-- Whose flags are its own has none of the others. -/
theorem May.fl0 {F : Fm} (h : May F) : F.flags = 0 ∨ (F.fin = false ∧ F.ack = false ∧ F.eh = false ∧ F.pad = 0 ∧ F.prio = false) := by
  cases h <;> first | exact Or.inl rfl | exact Or.inr ⟨rfl, rfl, rfl, rfl, rfl⟩
theorem u64_nat {n : Nat} (h : n < 18446744073709551616) : IntKind.u64.wrap (n : Int) = (n : Int) := by
  show (n : Int) % 18446744073709551616 = _
  omega
theorem or_pad : Go.bits .or .i64 0 8 = 8 := by decide
theorem or_fin (c : Bool) : Go.bits .or .i64 ((flg false false c false : Nat) : Int) 1 = ((flg true false c false : Nat) : Int) := by cases c <;> decide
theorem or_eh (a c : Bool) : Go.bits .or .i64 ((flg a false c false : Nat) : Int) 4 = ((flg a true c false : Nat) : Int) := by cases a <;> cases c <;> decide
theorem or_prio (a b c : Bool) : Go.bits .or .i64 ((flg a b c false : Nat) : Int) 32 = ((flg a b c true : Nat) : Int) := by cases a <;> cases b <;> cases c <;> decide
/-- Where Write stands: the frame, the body so far, the flags so far. -/
structure WS (w0 : World) (A : Nat) (fr : Array Value) (bl : List UInt8) (fl : Nat) (fv bv : Value) (w : World) : Prop where
  fv : fv = .int .i64 (fl : Int)
  at' : At w A (.cells fr 27 (0, 0))
  own : OwnB w w0.heap.size bv bl
  chg : Chg [] w0 w
theorem WS.step {w0 : World} {A : Nat} {fr : Array Value} {bl bl' : List UInt8} {fl : Nat} {fv bv bv' : Value} {w w' : World} (h : WS w0 A fr bl fl fv bv w) (ho : OwnB w' w0.heap.size bv' bl') (hc : Chg bv.ownBlock.toList w w') : WS w0 A fr bl' fl fv bv' w' :=
  ⟨h.fv, h.at'.chg hc (owns_alien h.own h.at' (by decide)), ho, h.chg.trans hc (fun x hx => Or.inr (owns_lo h.own x hx))⟩
theorem WS.le {w0 : World} {A : Nat} {fr : Array Value} {bl : List UInt8} {fl : Nat} {fv bv : Value} {w : World} (h : WS w0 A fr bl fl fv bv w) : w0.heap.size ≤ w.heap.size := h.chg.size
theorem WS.of {w0 : World} {A : Nat} {fr : Array Value} {bl : List UInt8} {n : Nat} {bv : Value} {w : World} (h1 : At w A (.cells fr 27 (0, 0))) (h2 : OwnB w w0.heap.size bv bl) (h3 : Chg [] w0 w) : WS w0 A fr bl n (.int .i64 (n : Int)) bv w := ⟨rfl, h1, h2, h3⟩
theorem WS.drew {w0 : World} {A : Nat} {fr : Array Value} {bl : List UInt8} {n : Nat} {fv bv : Value} {w : World} (h : WS w0 A fr bl n fv bv w) : WS w0 A fr bl n fv bv w.drew := ⟨h.fv, h.at', h.own, h.chg.drew⟩
theorem WS.drewN {w0 : World} {A : Nat} {fr : Array Value} {bl : List UInt8} {n : Nat} {fv bv : Value} {w : World} (h : WS w0 A fr bl n fv bv w) (k : Nat) : WS w0 A fr bl n fv bv (w.drewN k) := ⟨h.fv, h.at', h.own, h.chg.drewN k⟩
theorem WS.alloc {w0 : World} {A : Nat} {fr : Array Value} {bl : List UInt8} {n : Nat} {fv bv : Value} {w : World} (h : WS w0 A fr bl n fv bv w) (o : Obj) : WS w0 A fr bl n fv bv (w.alloc o) := ⟨h.fv, h.at'.alloc o, h.own.alloc o, h.chg.alloc o⟩
theorem WS.put {w0 : World} {A : Nat} {fr : Array Value} {bl : List UInt8} {n : Nat} {fv bv : Value} {w : World} (h : WS w0 A fr bl n fv bv w) (v k : Nat) (M : List UInt8) (hM : M = bl ++ be v k) (hv : v < 18446744073709551616) (hk : k ≤ 8) (hl : bl.length ≤ 1000000000) :
    Calls Try.prog 33 #[bv, .int .u64 v, .int .i64 k] w fun e w' => ∃ a c, e = .returned (.slice a M.length c) ∧ WS w0 A fr M n fv (.slice a M.length c) w' ∧ Chg bv.ownBlock.toList w w' := by
  refine (put_any (base := w0.heap.size) bv bl h.own v k hv hk hl h.chg.size).mono ?_
  rintro e w' ⟨rv, rfl, o5, c5, n5⟩
  rw [← hM] at o5
  obtain ⟨a, c, rfl⟩ := o5.slice
  exact ⟨a, c, rfl, h.step o5 c5, c5⟩
theorem new_two (w : World) (a b : UInt8) : BytesOf (w.alloc (.cells #[.int .u8 (a.toNat : Int), .int .u8 (b.toNat : Int)] 5)) (.slice (some ⟨w.heap.size, 0, none⟩) 2 2) [a, b] := by
  refine ⟨_, 2, rfl, by simp, by simp [maxLen], fun _ => ⟨w.heap.size, 0, rfl, by simp, fun i z hz j hj => ?_⟩⟩
  obtain rfl : j = 0 := by omega
  match i, hz with
  | 0, hz => simp at hz; subst hz; exact (At.new w _).cell rfl
  | 1, hz => simp at hz; subst hz; exact (At.new w _).cell rfl
  | i + 2, hz => simp at hz
theorem h9_be (n k fl st : Nat) : h9 n k fl st = be n 3 ++ [UInt8.ofNat k, UInt8.ofNat fl] ++ be st 4 := by rw [be3, be4]; rfl
set_option maxRecDepth 100000 in
set_option maxHeartbeats 16000000 in
theorem write_any {F : Fm} (h : May F) (pa : Option Addr) (pc : Nat) (la : Option Addr) (lc : Nat) (w : World) (hp : BytesOf w (.slice pa F.pay.length pc) F.pay) (hl : SliceOf w (.slice la F.list.length lc) 2 encS F.list) (hb : (bodyF F).length ≤ 16777215) :
    Calls Try.prog 14 #[.agg (fcs (F.mem (.slice pa F.pay.length pc) (.slice la F.list.length lc)))] w fun e w' => ∃ rv, e = .returned (.tuple #[rv, .int .i64 0]) ∧ OwnB w' w.heap.size rv (wrO F) ∧ Chg [] w w' := by
  obtain ⟨k1, k2, s1, s2, hst⟩ := h.head
  obtain ⟨⟨p1, p2⟩, ⟨d1, d2⟩, ⟨f1, f2⟩, l1, l2⟩ := h.rng
  obtain ⟨hl1, hl2⟩ := h.lens
  have hpl : F.pay.length ≤ 16777215 := by omega
  have hll : F.list.length ≤ 2796202 := by omega
  have hfl := h.fl0
  have HM := Lib.hid h; have HP := Lib.hid hp; have HL := Lib.hid hl; have HB := Lib.hid hb; have HFL := Lib.hid hfl
  clear h hp hl hb hfl hl1 hl2 hst
  obtain ⟨w2, hw2⟩ : ∃ w2, w2 = w.alloc (.cells (fcs (F.mem (.slice pa F.pay.length pc) (.slice la F.list.length lc))) 27) := ⟨_, rfl⟩
  have hc : Chg [] w w2 := by rw [hw2]; exact (Chg.refl w).alloc _
  have a1 : At w2 w.heap.size (.cells (fcs (F.mem (.slice pa F.pay.length pc) (.slice la F.list.length lc))) 27 (0, 0)) := by rw [hw2]; exact At.new w _
  obtain ⟨A, hA⟩ : ∃ A, A = w.heap.size := ⟨_, rfl⟩
  rw [← hA] at a1
  have A1 := Lib.hid a1; have HC := Lib.hid hc; have HW := Lib.hid hw2; have HA := Lib.hid hA
  have x0 : World.cell? w2 ⟨A, 0, none⟩ = some (.int .i64 F.kind) := a1.cell rfl
  have x1 : World.cell? w2 ⟨A, 1, none⟩ = some (.int .i64 F.stream) := a1.cell rfl
  have x2 : World.cell? w2 ⟨A, 2, none⟩ = some (.bool F.fin) := a1.cell rfl
  have x3 : World.cell? w2 ⟨A, 3, none⟩ = some (.bool F.eh) := a1.cell rfl
  have x4 : World.cell? w2 ⟨A, 4, none⟩ = some (.bool F.ack) := a1.cell rfl
  have x5 : World.cell? w2 ⟨A, 5, none⟩ = some (.bool F.prio) := a1.cell rfl
  have x6 : World.cell? w2 ⟨A, 6, none⟩ = some (.slice pa F.pay.length pc) := a1.cell rfl
  have x7 : World.cell? w2 ⟨A, 7, none⟩ = some (.int .i64 F.flags) := a1.cell rfl
  have x8 : World.cell? w2 ⟨A, 8, none⟩ = some (.int .i64 F.pad) := a1.cell rfl
  have x9 : World.cell? w2 ⟨A, 9, none⟩ = some (.int .i64 F.depend) := a1.cell rfl
  have x10 : World.cell? w2 ⟨A, 10, none⟩ = some (.bool F.excl) := a1.cell rfl
  have x11 : World.cell? w2 ⟨A, 11, none⟩ = some (.int .i64 F.weight) := a1.cell rfl
  have x12 : World.cell? w2 ⟨A, 12, none⟩ = some (.int .u32 F.code) := a1.cell rfl
  have x13 : World.cell? w2 ⟨A, 13, none⟩ = some (.slice la F.list.length lc) := a1.cell rfl
  have x14 : World.cell? w2 ⟨A, 14, none⟩ = some (.int .i64 F.last) := a1.cell rfl
  have x15 : World.cell? w2 ⟨A, 15, none⟩ = some (.int .i64 F.inc) := a1.cell rfl
  have hAl := a1.lt
  clear a1 hc hw2 hA
  obtain ⟨p, hpn⟩ : ∃ p : Nat, F.pad = (p : Int) := ⟨F.pad.toNat, by omega⟩
  obtain ⟨f0, hf0⟩ : ∃ f0 : Nat, F.flags = (f0 : Int) := ⟨F.flags.toNat, by omega⟩
  have HPN := Lib.hid hpn; have HF0 := Lib.hid hf0
  clear hpn hf0
  go_enter Try.func14, Try.ntmps14
  go_upto_region 1 with fail
  rw [← HW.out, ← HA.out]
  go_wp2_with fail
  refine (may_ok HM.out pa pc la lc w2 (HL.out.chg0 HC.out) (by omega)).mono ?_; rintro e w3 ⟨rfl, c3⟩
  have A3 := Lib.hid (A1.out.chg c3 (by simp))
  have C3 := Lib.hid (HC.out.trans' c3)
  clear x0 x1 x2 x3 x4 x5 x6 x7 x8 x9 x10 x11 x12 x13 x14 x15 hAl c3 A1 HC HW
  have x0 : World.cell? w3 ⟨A, 0, none⟩ = some (.int .i64 F.kind) := A3.out.cell rfl
  have x1 : World.cell? w3 ⟨A, 1, none⟩ = some (.int .i64 F.stream) := A3.out.cell rfl
  have x2 : World.cell? w3 ⟨A, 2, none⟩ = some (.bool F.fin) := A3.out.cell rfl
  have x3 : World.cell? w3 ⟨A, 3, none⟩ = some (.bool F.eh) := A3.out.cell rfl
  have x4 : World.cell? w3 ⟨A, 4, none⟩ = some (.bool F.ack) := A3.out.cell rfl
  have x5 : World.cell? w3 ⟨A, 5, none⟩ = some (.bool F.prio) := A3.out.cell rfl
  have x6 : World.cell? w3 ⟨A, 6, none⟩ = some (.slice pa F.pay.length pc) := A3.out.cell rfl
  have x7 : World.cell? w3 ⟨A, 7, none⟩ = some (.int .i64 F.flags) := A3.out.cell rfl
  have x8 : World.cell? w3 ⟨A, 8, none⟩ = some (.int .i64 F.pad) := A3.out.cell rfl
  have x9 : World.cell? w3 ⟨A, 9, none⟩ = some (.int .i64 F.depend) := A3.out.cell rfl
  have x10 : World.cell? w3 ⟨A, 10, none⟩ = some (.bool F.excl) := A3.out.cell rfl
  have x11 : World.cell? w3 ⟨A, 11, none⟩ = some (.int .i64 F.weight) := A3.out.cell rfl
  have x12 : World.cell? w3 ⟨A, 12, none⟩ = some (.int .u32 F.code) := A3.out.cell rfl
  have x13 : World.cell? w3 ⟨A, 13, none⟩ = some (.slice la F.list.length lc) := A3.out.cell rfl
  have x14 : World.cell? w3 ⟨A, 14, none⟩ = some (.int .i64 F.last) := A3.out.cell rfl
  have x15 : World.cell? w3 ⟨A, 15, none⟩ = some (.int .i64 F.inc) := A3.out.cell rfl
  have hAl := A3.out.lt
  have g1 : ((F.pay.length : Int) > 16777215) = False := by simp; omega
  have g2 : ((F.list.length : Int) > 2796202) = False := by simp; omega
  rw [HF0.out] at x7
  go_upto_region 6 with fail
  iterate 8 go_step
  go_cut [4, 5] (fun fv bv wx => ∃ n, WS w A (fcs (F.mem (.slice pa F.pay.length pc) (.slice la F.list.length lc))) (padH p) n fv bv wx ∧ n = f0 + flg false false (decide (0 < p)) false)
  case first =>
    rw [HPN.out] at x8
    rcases Nat.eq_zero_or_pos p with k0 | k0
    · subst k0
      clear x0 x1 x2 x3 x4 x5 x6 x9 x10 x11 x12 x13 x14 x15
      go_wp2_with fail
      go_meet
      case rel => exact ⟨f0, ⟨rfl, A3.out, OwnB.nil _ _, C3.out⟩, rfl⟩
    · have hf : f0 = 0 := by
        rcases HFL.out with h | ⟨_, _, _, h, _⟩
        · rw [HF0.out] at h; omega
        · rw [HPN.out] at h; omega
      subst hf
      obtain ⟨c, hcc⟩ : ∃ c, c = UInt8.ofNat (p - 1) := ⟨_, rfl⟩
      have hpc : (p : Int) - 1 = (c.toNat : Int) := by rw [hcc]; simp only [UInt8.toNat_ofNat']; have := p2; rw [HPN.out] at this; omega
      have hwb4 : IntKind.u8.wrap (IntKind.i64.wrap (c.toNat : Int)) = (c.toNat : Int) := by
        have := c.toNat_lt
        rw [IntWalk.i64_in _ (by omega), IntKind.wrap_u8]
        omega
      have hwb2 : (c.toNat : Int) < 256 := by have := c.toNat_lt; omega
      have hwb3 : (c.toNat : Int) % 256 = (c.toNat : Int) := by have := c.toNat_lt; omega
      have hor := or_pad
      have g0 : ((p : Int) > 0) = True := by simp; omega
      have HCC := Lib.hid hcc
      clear hcc x0 x1 x2 x3 x4 x5 x6 x9 x10 x11 x12 x13 x14 x15
      go_wp2_with (at_builtin; refine app_any rfl _ _ rfl w.heap.size _ [] rfl (OwnB.nil _ _) _ [c] rfl (BytesOf.new w3 c) (by simp) (Nat.le_trans C3.out.size (by simp)) ?_)
      intro v6 w6 own6 ch6 n6
      obtain ⟨a6, c6, rfl⟩ := OwnB.slice own6
      go_wp2_with fail
      go_meet
      case rel =>
        have hch : Chg [] w3 w6 := ((Chg.refl w3).alloc _).trans' (ch6.mono (by simp [Value.ownBlock]))
        exact ⟨8, ⟨rfl, A3.out.chg hch (by simp), by unfold padH; rw [if_pos k0, ← HCC.out]; exact own6, C3.out.trans' hch⟩, by rw [decide_eq_true k0]; rfl⟩
  case rest =>
    obtain ⟨n4, hws, hn4⟩ := hcut
    have hws4 := hws.fv
    subst hws4
    obtain ⟨b1, b2, rfl⟩ := hws.own.slice
    have A4 := Lib.hid hws.at'
    have O4 := Lib.hid hws.own
    have C4 := Lib.hid hws.chg
    have HN4 := Lib.hid hn4
    obtain ⟨w4, hw4⟩ : ∃ x, x = wc := ⟨_, rfl⟩
    subst hw4
    clear hws hn4 x0 x1 x2 x3 x4 x5 x6 x7 x8 x9 x10 x11 x12 x13 x14 x15 hAl A3 C3
    obtain ⟨pl, hpl4⟩ : ∃ x, x = (padH p).length := ⟨_, rfl⟩
    rw [← hpl4]
    rw [← hpl4] at O4
    clear hpl4
    have x0 : World.cell? w4 ⟨A, 0, none⟩ = some (.int .i64 F.kind) := A4.out.cell rfl
    have x1 : World.cell? w4 ⟨A, 1, none⟩ = some (.int .i64 F.stream) := A4.out.cell rfl
    have x2 : World.cell? w4 ⟨A, 2, none⟩ = some (.bool F.fin) := A4.out.cell rfl
    have x3 : World.cell? w4 ⟨A, 3, none⟩ = some (.bool F.eh) := A4.out.cell rfl
    have x4 : World.cell? w4 ⟨A, 4, none⟩ = some (.bool F.ack) := A4.out.cell rfl
    have x5 : World.cell? w4 ⟨A, 5, none⟩ = some (.bool F.prio) := A4.out.cell rfl
    have x6 : World.cell? w4 ⟨A, 6, none⟩ = some (.slice pa F.pay.length pc) := A4.out.cell rfl
    have x7 : World.cell? w4 ⟨A, 7, none⟩ = some (.int .i64 F.flags) := A4.out.cell rfl
    have x8 : World.cell? w4 ⟨A, 8, none⟩ = some (.int .i64 F.pad) := A4.out.cell rfl
    have x9 : World.cell? w4 ⟨A, 9, none⟩ = some (.int .i64 F.depend) := A4.out.cell rfl
    have x10 : World.cell? w4 ⟨A, 10, none⟩ = some (.bool F.excl) := A4.out.cell rfl
    have x11 : World.cell? w4 ⟨A, 11, none⟩ = some (.int .i64 F.weight) := A4.out.cell rfl
    have x12 : World.cell? w4 ⟨A, 12, none⟩ = some (.int .u32 F.code) := A4.out.cell rfl
    have x13 : World.cell? w4 ⟨A, 13, none⟩ = some (.slice la F.list.length lc) := A4.out.cell rfl
    have x14 : World.cell? w4 ⟨A, 14, none⟩ = some (.int .i64 F.last) := A4.out.cell rfl
    have x15 : World.cell? w4 ⟨A, 15, none⟩ = some (.int .i64 F.inc) := A4.out.cell rfl
    have hAl := A4.out.lt
    iterate 2 go_step
    go_cut [4] (fun fv wx => wx = w4 ∧ ∃ n : Nat, fv = .int .i64 (n : Int) ∧ n = f0 + flg (F.fin || F.ack) false (decide (0 < p)) false)
    case first =>
      obtain ⟨bf, hbf⟩ : ∃ b, b = F.fin := ⟨_, rfl⟩
      obtain ⟨ba, hba⟩ : ∃ b, b = F.ack := ⟨_, rfl⟩
      rw [← hbf] at x2
      rw [← hba] at x4
      have HBF := Lib.hid (And.intro hbf hba)
      clear hbf hba
      clear x0 x1 x3 x5 x6 x7 x8 x9 x10 x11 x12 x13 x14 x15
      have hor : (bf || ba) = true → Go.bits .or .i64 (n4 : Int) 1 = ((f0 + flg (bf || ba) false (decide (0 < p)) false : Nat) : Int) := by
        intro hb
        have hf : f0 = 0 := by
          rcases HFL.out with h | ⟨h1, h2, _⟩
          · rw [HF0.out] at h; omega
          · rw [HBF.out.1, HBF.out.2, h1, h2] at hb; simp at hb
        rw [HN4.out, hf, hb, Nat.zero_add, Nat.zero_add]
        exact or_fin _
      cases bf with
      | true =>
        have hor' := hor rfl
        obtain ⟨n5, hn5⟩ : ∃ n, n = f0 + flg (true || ba) false (decide (0 < p)) false := ⟨_, rfl⟩
        rw [← hn5] at hor'
        have HN5 := Lib.hid hn5
        clear hor hn5
        go_wp2_with fail
        go_meet
        case rel => exact ⟨rfl, n5, rfl, by rw [HN5.out, HBF.out.1, HBF.out.2]⟩
      | false =>
        cases ba with
        | true =>
          have hor' := hor rfl
          obtain ⟨n5, hn5⟩ : ∃ n, n = f0 + flg (false || true) false (decide (0 < p)) false := ⟨_, rfl⟩
          rw [← hn5] at hor'
          have HN5 := Lib.hid hn5
          clear hor hn5
          go_wp2_with fail
          go_meet
          case rel => exact ⟨rfl, n5, rfl, by rw [HN5.out, HBF.out.1, HBF.out.2]⟩
        | false =>
          clear hor
          go_wp2_with fail
          go_meet
          case rel => exact ⟨rfl, n4, rfl, by rw [HN4.out, ← HBF.out.1, ← HBF.out.2]; rfl⟩
    case rest =>
      obtain ⟨hwx, n5, rfl, hn5⟩ := hcut
      have hwx' := hwx.symm
      subst hwx'
      have HN5 := Lib.hid hn5
      clear hn5 HN4
      iterate 2 go_step
      go_cut [4] (fun fv wx => wx = w4 ∧ ∃ n : Nat, fv = .int .i64 (n : Int) ∧ n = f0 + flg (F.fin || F.ack) F.eh (decide (0 < p)) false)
      case first =>
        obtain ⟨bf, hbf⟩ : ∃ b, b = F.eh := ⟨_, rfl⟩
        rw [← hbf] at x3
        have HBF := Lib.hid hbf
        clear hbf
        clear x0 x1 x2 x4 x5 x6 x7 x8 x9 x10 x11 x12 x13 x14 x15
        have hor : bf = true → Go.bits .or .i64 (n5 : Int) 4 = ((f0 + flg (F.fin || F.ack) bf (decide (0 < p)) false : Nat) : Int) := by
          intro hb
          have hf : f0 = 0 := by
            rcases HFL.out with h | ⟨_, _, h1, _⟩
            · rw [HF0.out] at h; omega
            · rw [HBF.out, h1] at hb; simp at hb
          rw [HN5.out, hf, hb, Nat.zero_add, Nat.zero_add]
          exact or_eh _ _
        cases bf with
        | true =>
          have hor' := hor rfl
          obtain ⟨n6, hn6⟩ : ∃ n, n = f0 + flg (F.fin || F.ack) true (decide (0 < p)) false := ⟨_, rfl⟩
          rw [← hn6] at hor'
          have HN6 := Lib.hid hn6
          clear hor hn6
          go_wp2_with fail
          go_meet
          case rel => exact ⟨rfl, n6, rfl, by rw [HN6.out, ← HBF.out]⟩
        | false =>
          clear hor
          go_wp2_with fail
          go_meet
          case rel => exact ⟨rfl, n5, rfl, by rw [HN5.out, ← HBF.out]⟩
      case rest =>
        obtain ⟨hwx, n6, rfl, hn6⟩ := hcut
        have hwx' := hwx.symm
        subst hwx'
        have HN6 := Lib.hid hn6
        clear hn6 HN5
        go_upto_region 14 with fail
        iterate 10 go_step
        obtain ⟨md, hmd⟩ : ∃ md, md = midF F := ⟨_, rfl⟩
        have HMD := Lib.hid hmd
        clear hmd
        go_cut [4, 5] (fun fv bv wx => ∃ n, WS w A (fcs (F.mem (.slice pa F.pay.length pc) (.slice la F.list.length lc))) (padH p ++ md) n fv bv wx ∧ n = f0 + flg (F.fin || F.ack) F.eh (decide (0 < p)) F.prio)
        case first =>
          have hlp : Hid ((padH p).length ≤ 100000) := Lib.hid (by unfold padH; split <;> simp)
          have hw2 := C4.out.size
          obtain ⟨HX, hHX⟩ : ∃ H : Hid (May F), True := ⟨HM, trivial⟩
          have hm := HM.out
          clear HM HX hHX k1 k2 s1 s2 p1 p2 d1 d2 f1 f2 l1 l2 HFL g1 g2
          cases hm with
          | data st pad fin pay h1 h2 =>
            have hmid : Hid (padH p ++ md = padH p) := Lib.hid (by rw [HMD.out]; exact List.append_nil _)
            clear HMD
            dsimp only at *
            clear x9 x10 x11 x12 x13 x14 x15
            go_wp2_with fail
            go_meet
            case rel => exact ⟨n6, by rw [hmid.out]; exact WS.of A4.out O4.out C4.out, HN6.out⟩
          | heads st pad fin eh pay h1 h2 =>
            have hmid : Hid (padH p ++ md = padH p) := Lib.hid (by rw [HMD.out]; exact List.append_nil _)
            clear HMD
            dsimp only at *
            clear x9 x10 x11 x12 x13 x14 x15
            go_wp2_with fail
            go_meet
            case rel => exact ⟨n6, by rw [hmid.out]; exact WS.of A4.out O4.out C4.out, HN6.out⟩
          | headp st pad d wt fin eh x pay h1 h2 h3 h4 =>
            as_aux_lemma =>
              dsimp only at *
              have hf : f0 = 0 := by have := HF0.out; omega
              obtain ⟨n7, hn7⟩ : ∃ n7, n7 = f0 + flg (fin || false) eh (decide (0 < p)) true := ⟨_, rfl⟩
              have hor : Go.bits .or .i64 (n6 : Int) 32 = (n7 : Int) := by
                rw [HN6.out, hn7, hf, Nat.zero_add, Nat.zero_add]
                exact or_prio _ _ _
              have HN7 := Lib.hid hn7
              clear hn7 hf
              go_wp2_with fail
              refine (prio_any (base := w.heap.size) ⟨1, (st : Nat), fin, eh, false, true, pay, 0, (pad : Nat), (d : Nat), x, (wt : Nat), 0, [], 0, 0⟩ pa pay.length pc la 0 lc (.slice b1 pl b2) (padH p) O4.out d wt rfl rfl h3 h4 hlp.out hw2).mono ?_; rintro e w5 ⟨rv, rfl, o5, c5, n5⟩
              have ws5 := (WS.of (n := n7) A4.out O4.out C4.out).step o5 c5
              have hmid : Hid (padH p ++ md = padH p ++ prioO d x wt) := Lib.hid (by rw [HMD.out]; rfl)
              obtain ⟨M, hM⟩ : ∃ M, M = padH p ++ prioO d x wt := ⟨_, rfl⟩
              rw [← hM] at o5 ws5 hmid
              obtain ⟨a5, q5, rfl⟩ := o5.slice
              have WS5 := Lib.hid ws5
              clear ws5 o5 c5 n5 hM HMD
              go_wp2_with fail
              go_meet
              case rel => exact ⟨n7, by rw [hmid.out]; exact WS5.out, HN7.out⟩
          | prio st d wt x h1 h3 h4 =>
            as_aux_lemma =>
              dsimp only at *
              go_wp2_with fail
              refine (prio_any (base := w.heap.size) ⟨2, (st : Nat), false, false, false, false, [], 0, 0, (d : Nat), x, (wt : Nat), 0, [], 0, 0⟩ pa 0 pc la 0 lc (.slice b1 pl b2) (padH p) O4.out d wt rfl rfl h3 h4 hlp.out hw2).mono ?_; rintro e w5 ⟨rv, rfl, o5, c5, n5⟩
              have ws5 := (WS.of (n := n6) A4.out O4.out C4.out).step o5 c5
              have hmid : Hid (padH p ++ md = padH p ++ prioO d x wt) := Lib.hid (by rw [HMD.out]; rfl)
              obtain ⟨M, hM⟩ : ∃ M, M = padH p ++ prioO d x wt := ⟨_, rfl⟩
              rw [← hM] at o5 ws5 hmid
              obtain ⟨a5, q5, rfl⟩ := o5.slice
              have WS5 := Lib.hid ws5
              clear ws5 o5 c5 n5 hM HMD
              go_wp2_with fail
              go_meet
              case rel => exact ⟨n6, by rw [hmid.out]; exact WS5.out, HN6.out⟩
          | reset st c h1 h2 =>
            as_aux_lemma =>
              dsimp only at *
              have g3 : (c : Int) < 4294967296 := by omega
              go_wp2_with fail
              refine (put_any (base := w.heap.size) _ (padH p) O4.out c 4 (by omega) (by omega) (by have := hlp.out; omega) hw2).mono ?_; rintro e w5 ⟨rv, rfl, o5, c5, n5⟩
              have ws5 := (WS.of (n := n6) A4.out O4.out C4.out).step o5 c5
              have hmid : Hid (padH p ++ md = padH p ++ be c 4) := Lib.hid (by rw [HMD.out]; rfl)
              obtain ⟨M, hM⟩ : ∃ M, M = padH p ++ be c 4 := ⟨_, rfl⟩
              rw [← hM] at o5 ws5 hmid
              obtain ⟨a5, q5, rfl⟩ := o5.slice
              have WS5 := Lib.hid ws5
              clear ws5 o5 c5 n5 hM HMD
              go_wp2_with fail
              go_meet
              case rel => exact ⟨n6, by rw [hmid.out]; exact WS5.out, HN6.out⟩
          | sets ack l h1 h2 =>
            as_aux_lemma =>
              dsimp only at *
              have H1 := Lib.hid h1
              have hll2 : Hid (l.length ≤ 2796202) := Lib.hid hll
              have hp0 : p = 0 := by have := HPN.out; omega
              have hbd : Hid (padH p ++ md = setO l) := Lib.hid (by rw [HMD.out, hp0]; rfl)
              have hpe : Hid (padH p = setO (l.take 0)) := Lib.hid (by rw [hp0]; rfl)
              have hll3 : (l.length : Int) ≤ 2796202 := by omega
              have x13' := x13
              clear h1 h2 HMD hp0 x0 x1 x2 x3 x4 x5 x6 x7 x8 x9 x10 x11 x12 x14 x15 HPN
              go_wp2_with fail
              go_loopw [5, 7, 76] (fun bv _ iv wr => ∃ (k : Nat) (M : List UInt8), k ≤ l.length ∧ iv = .int .i64 k ∧ M = setO (l.take k) ∧ WS w A (fcs ((⟨4, 0, false, false, ack, false, [], 0, 0, 0, false, 0, 0, l, 0, 0⟩ : Fm).mem (.slice pa 0 pc) (.slice la l.length lc))) M n6 (.int .i64 (n6 : Int)) bv wr) (fun _ _ iv _ => l.length - (intOf iv).toNat)
              case atStart => exact ⟨0, padH p, by omega, rfl, hpe.out, WS.of A4.out O4.out C4.out⟩
              case round =>
                obtain ⟨k, M, hk, rfl, hM, hws⟩ := hrel
                obtain ⟨a5, q5, rfl⟩ := hws.own.slice
                have HWS := Lib.hid hws
                have HMM := Lib.hid hM
                clear hws hM
                by_cases hlt : k < l.length
                · have hltI : (k : Int) < (l.length : Int) := by omega
                  obtain ⟨s, hs⟩ : ∃ s, l[k]? = some s := ⟨_, List.getElem?_eq_getElem hlt⟩
                  obtain ⟨b, off, rfl, hb, hcell⟩ := HL.out.at (by omega)
                  have z0 : World.cell? wr ⟨b, off + k * 2, none⟩ = some (.int .i64 s.1) := (HWS.out.chg.cell hb (by simp) _).trans (hcell k s hs 0 (by omega))
                  have z1 : World.cell? wr ⟨b, off + k * 2 + 1, none⟩ = some (.int .u32 s.2) := (HWS.out.chg.cell hb (by simp) _).trans (hcell k s hs 1 (by omega))
                  have HS := Lib.hid hs
                  clear hcell hs
                  obtain ⟨i0, i1, hi0, hi1, hi2, hi3⟩ : ∃ i0 i1 : Nat, s.1 = (i0 : Int) ∧ s.2 = (i1 : Int) ∧ i0 < 4294967296 ∧ i1 < 4294967296 := by
                    have h := H1.out s (List.mem_of_getElem? HS.out)
                    exact ⟨s.1.toNat, s.2.toNat, by omega, by omega, by omega, by omega⟩
                  rw [hi0] at z0
                  rw [hi1] at z1
                  go_upto_region 27 with fail
                  obtain ⟨w7, hw7⟩ : ∃ x, x = wr.alloc (.cells #[.int .i64 (i0 : Int), .int .u32 (i1 : Int)] 50) := ⟨_, rfl⟩
                  rw [← hw7]
                  have hXa : At w7 wr.heap.size (.cells #[.int .i64 (i0 : Int), .int .u32 (i1 : Int)] 50 (0, 0)) := by rw [hw7]; exact At.new wr _
                  have hXb : Hid (wr.heap.size ∉ (Value.slice a5 M.length q5).ownBlock.toList) := Lib.hid (fun h => by have := (World.ownsRow.lt HWS.out.own _ (Option.mem_toList.1 h)).2; omega)
                  have WS7 := Lib.hid ((HWS.out.alloc (.cells #[.int .i64 (i0 : Int), .int .u32 (i1 : Int)] 50)).drew)
                  rw [← hw7] at WS7
                  have y0 : World.cell? w7.drew ⟨wr.heap.size, 0, none⟩ = some (.int .i64 (i0 : Int)) := hXa.cell rfl
                  have y1 : World.cell? w7.drew ⟨wr.heap.size, 1, none⟩ = some (.int .u32 (i1 : Int)) := hXa.cell rfl
                  have hXl := hXa.lt
                  have hu1 := u64_nat (n := i0) (by omega)
                  have hu2 := u64_nat (n := i1) (by omega)
                  have hMl : Hid (M.length ≤ 100000000) := Lib.hid (by rw [HMM.out, setO_len, List.length_take]; have := hll2.out; omega)
                  obtain ⟨M1, hM1⟩ : ∃ M', M' = M ++ be i0 2 := ⟨_, rfl⟩
                  obtain ⟨M2, hM2⟩ : ∃ M', M' = M1 ++ be i1 4 := ⟨_, rfl⟩
                  have hMs : Hid (M2 = setO (l.take (k + 1))) := Lib.hid (by
                    rw [hM2, hM1, HMM.out, List.take_add_one, HS.out]
                    unfold setO
                    rw [List.flatMap_append]
                    simp [hi0, hi1])
                  have HM1 := Lib.hid hM1
                  have HM2 := Lib.hid hM2
                  have hM1l : Hid (M1.length ≤ 1000000000) := Lib.hid (by rw [hM1, List.length_append, be_len]; have := hMl.out; omega)
                  clear hM1 hM2 hw7 hXa z0 z1
                  have P1 : Hid (Calls Try.prog 33 #[.slice a5 M.length q5, .int .u64 (i0 : Int), .int .i64 2] w7.drew fun e w' => ∃ a q, e = .returned (.slice a M1.length q) ∧ WS w A (fcs ((⟨4, 0, false, false, ack, false, [], 0, 0, 0, false, 0, 0, l, 0, 0⟩ : Fm).mem (.slice pa 0 pc) (.slice (some ⟨b, off, none⟩) l.length lc))) M1 n6 (.int .i64 (n6 : Int)) (.slice a M1.length q) w' ∧ Chg (Value.slice a5 M.length q5).ownBlock.toList w7.drew w') := Lib.hid (WS7.out.put i0 2 M1 HM1.out (by omega) (by omega) (by have := hMl.out; omega))
                  have P2 : Hid (∀ (a : Option Addr) (q : Nat) (w5 : World), WS w A (fcs ((⟨4, 0, false, false, ack, false, [], 0, 0, 0, false, 0, 0, l, 0, 0⟩ : Fm).mem (.slice pa 0 pc) (.slice (some ⟨b, off, none⟩) l.length lc))) M1 n6 (.int .i64 (n6 : Int)) (.slice a M1.length q) w5 → Calls Try.prog 33 #[.slice a M1.length q, .int .u64 (i1 : Int), .int .i64 4] w5 fun e w' => ∃ a' q', e = .returned (.slice a' M2.length q') ∧ WS w A (fcs ((⟨4, 0, false, false, ack, false, [], 0, 0, 0, false, 0, 0, l, 0, 0⟩ : Fm).mem (.slice pa 0 pc) (.slice (some ⟨b, off, none⟩) l.length lc))) M2 n6 (.int .i64 (n6 : Int)) (.slice a' M2.length q') w' ∧ Chg (Value.slice a M1.length q).ownBlock.toList w5 w') := Lib.hid (fun a q w5 h => h.put i1 4 M2 HM2.out (by omega) (by omega) hM1l.out)
                  go_region_law (first
                    | (go_simp; go_at_call 33; with_reducible refine (P1.out).mono ?_; rintro e w5 ⟨a5, q5, rfl, ws5, c5⟩; have v1 : World.cell? w5 ⟨wr.heap.size, 1, none⟩ = some (.int .u32 (i1 : Int)) := (c5.cell hXl hXb.out _).trans y1; have P3 := Lib.hid (P2.out _ _ _ ws5); clear ws5 c5)
                    | (go_simp; go_at_call 33; with_reducible refine (P3.out).mono ?_; rintro e w6 ⟨a6, q6, rfl, ws6, _⟩; have WS6 := Lib.hid ws6; clear ws6)
                    | fail)
                  all_goals
                    go_wp2_with fail
                    go_roundw
                    case rel => exact ⟨k + 1, M2, by omega, by go_num, hMs.out, WS6.out⟩
                    case measure => simp [intOf]; omega
                · obtain rfl : k = l.length := by omega
                  have hltI : ¬ (l.length : Int) < (l.length : Int) := by omega
                  go_wp2_with fail
                  go_meet
                  case rel => exact ⟨n6, by rw [hbd.out, show setO l = M by rw [HMM.out, List.take_length]]; exact HWS.out, HN6.out⟩
          | prom st pad last eh pay h1 h2 h3 =>
            as_aux_lemma =>
              dsimp only at *
              have g3 : (last : Int) < 4294967296 := by unfold StB at h3; omega
              go_wp2_with fail
              refine (put_any (base := w.heap.size) _ (padH p) O4.out last 4 (by omega) (by omega) (by have := hlp.out; omega) hw2).mono ?_; rintro e w5 ⟨rv, rfl, o5, c5, n5⟩
              have ws5 := (WS.of (n := n6) A4.out O4.out C4.out).step o5 c5
              have hmid : Hid (padH p ++ md = padH p ++ be last 4) := Lib.hid (by rw [HMD.out]; rfl)
              obtain ⟨M, hM⟩ : ∃ M, M = padH p ++ be last 4 := ⟨_, rfl⟩
              rw [← hM] at o5 ws5 hmid
              obtain ⟨a5, q5, rfl⟩ := o5.slice
              have WS5 := Lib.hid ws5
              clear ws5 o5 c5 n5 hM HMD
              go_wp2_with fail
              go_meet
              case rel => exact ⟨n6, by rw [hmid.out]; exact WS5.out, HN6.out⟩
          | ping ack pay h1 =>
            clear h1
            have hmid : Hid (padH p ++ md = padH p) := Lib.hid (by rw [HMD.out]; exact List.append_nil _)
            clear HMD
            dsimp only at *
            clear x9 x10 x11 x12 x13 x14 x15
            go_wp2_with fail
            go_meet
            case rel => exact ⟨n6, by rw [hmid.out]; exact WS.of A4.out O4.out C4.out, HN6.out⟩
          | away last c pay h1 h2 =>
            as_aux_lemma =>
              dsimp only at *
              have g3 : (last : Int) < 4294967296 := by omega
              have g4 : (c : Int) < 4294967296 := by omega
              go_upto_region 32 with fail
              obtain ⟨M1, hM1⟩ : ∃ M, M = padH p ++ be last 4 := ⟨_, rfl⟩
              obtain ⟨M2, hM2⟩ : ∃ M, M = M1 ++ be c 4 := ⟨_, rfl⟩
              have HM1 := Lib.hid hM1
              have HM2 := Lib.hid hM2
              have hM1l : Hid (M1.length ≤ 1000000000) := Lib.hid (by rw [hM1, List.length_append, be_len]; have := hlp.out; omega)
              clear hM1 hM2
              have WS4 := Lib.hid (WS.of (n := n6) A4.out O4.out C4.out).drew
              have x12d : World.cell? w4.drew ⟨A, 12, none⟩ = some (.int .u32 (c : Int)) := x12
              have x14d : World.cell? w4.drew ⟨A, 14, none⟩ = some (.int .i64 (last : Int)) := x14
              clear x0 x1 x2 x3 x4 x5 x6 x7 x8 x9 x10 x11 x13 x15
              have hu1 := u64_nat (n := last) (by omega)
              have hu2 := u64_nat (n := c) (by omega)
              have P1 : Hid (Calls Try.prog 33 #[.slice b1 pl b2, .int .u64 (last : Int), .int .i64 4] w4.drew fun e w' => ∃ a q, e = .returned (.slice a M1.length q) ∧ WS w A (fcs ((⟨7, 0, false, false, false, false, pay, 0, 0, 0, false, 0, (c : Nat), [], (last : Nat), 0⟩ : Fm).mem (.slice pa pay.length pc) (.slice la 0 lc))) M1 n6 (.int .i64 (n6 : Int)) (.slice a M1.length q) w' ∧ Chg (Value.slice b1 pl b2).ownBlock.toList w4.drew w') := Lib.hid (WS4.out.put last 4 M1 HM1.out (by omega) (by omega) (by have := hlp.out; omega))
              have P2 : Hid (∀ (a : Option Addr) (q : Nat) (w5 : World), WS w A (fcs ((⟨7, 0, false, false, false, false, pay, 0, 0, 0, false, 0, (c : Nat), [], (last : Nat), 0⟩ : Fm).mem (.slice pa pay.length pc) (.slice la 0 lc))) M1 n6 (.int .i64 (n6 : Int)) (.slice a M1.length q) w5 → Calls Try.prog 33 #[.slice a M1.length q, .int .u64 (c : Int), .int .i64 4] w5 fun e w' => ∃ a' q', e = .returned (.slice a' M2.length q') ∧ WS w A (fcs ((⟨7, 0, false, false, false, false, pay, 0, 0, 0, false, 0, (c : Nat), [], (last : Nat), 0⟩ : Fm).mem (.slice pa pay.length pc) (.slice la 0 lc))) M2 n6 (.int .i64 (n6 : Int)) (.slice a' M2.length q') w' ∧ Chg (Value.slice a M1.length q).ownBlock.toList w5 w') := Lib.hid (fun a q w5 h => h.put c 4 M2 HM2.out (by omega) (by omega) hM1l.out)
              go_region_law (first
                | (go_simp; go_at_call 33; with_reducible refine (P1.out).mono ?_; rintro e w5 ⟨a5, q5, rfl, ws5, _⟩; have y12 : World.cell? w5 ⟨A, 12, none⟩ = some (.int .u32 (c : Int)) := ws5.at'.cell rfl; have WS5 := Lib.hid ws5; have P3 := Lib.hid (P2.out _ _ _ ws5); clear ws5)
                | (go_simp; go_at_call 33; with_reducible refine (P3.out).mono ?_; rintro e w6 ⟨a6, q6, rfl, ws6, _⟩; have WS6 := Lib.hid ws6; clear ws6)
                | fail)
              all_goals
                go_wp2_with fail
                go_meet
                case rel => exact ⟨n6, by rw [HMD.out]; show WS _ _ _ (padH p ++ (be last 4 ++ be c 4)) _ _ _ _; rw [← List.append_assoc, ← HM1.out, ← HM2.out]; exact WS6.out, HN6.out⟩
          | wind st inc h1 h2 =>
            as_aux_lemma =>
              dsimp only at *
              have g3 : (inc : Int) < 4294967296 := by unfold StB at h2; omega
              go_wp2_with fail
              refine (put_any (base := w.heap.size) _ (padH p) O4.out inc 4 (by omega) (by omega) (by have := hlp.out; omega) hw2).mono ?_; rintro e w5 ⟨rv, rfl, o5, c5, n5⟩
              have ws5 := (WS.of (n := n6) A4.out O4.out C4.out).step o5 c5
              have hmid : Hid (padH p ++ md = padH p ++ be inc 4) := Lib.hid (by rw [HMD.out]; rfl)
              obtain ⟨M, hM⟩ : ∃ M, M = padH p ++ be inc 4 := ⟨_, rfl⟩
              rw [← hM] at o5 ws5 hmid
              obtain ⟨a5, q5, rfl⟩ := o5.slice
              have WS5 := Lib.hid ws5
              clear ws5 o5 c5 n5 hM HMD
              go_wp2_with fail
              go_meet
              case rel => exact ⟨n6, by rw [hmid.out]; exact WS5.out, HN6.out⟩
          | cont st eh pay h1 =>
            have hmid : Hid (padH p ++ md = padH p) := Lib.hid (by rw [HMD.out]; exact List.append_nil _)
            clear HMD
            dsimp only at *
            clear x9 x10 x11 x12 x13 x14 x15
            go_wp2_with fail
            go_meet
            case rel => exact ⟨n6, by rw [hmid.out]; exact WS.of A4.out O4.out C4.out, HN6.out⟩
          | other k st fl pay h0 h1 h2 =>
            as_aux_lemma =>
              have e1 : ((k : Int) == 1) = false := by simp; omega
              have e2 : ((k : Int) == 2) = false := by simp; omega
              have e3 : ((k : Int) == 3) = false := by simp; omega
              have e4 : ((k : Int) == 4) = false := by simp; omega
              have e5 : ((k : Int) == 5) = false := by simp; omega
              have e7 : ((k : Int) == 7) = false := by simp; omega
              have e8 : ((k : Int) == 8) = false := by simp; omega
              have hmid : Hid (midF ⟨(k : Nat), (st : Nat), false, false, false, false, pay, (fl : Nat), 0, 0, false, 0, 0, [], 0, 0⟩ = []) := Lib.hid (by
                unfold midF
                rw [if_neg (by dsimp only; omega), if_neg (by dsimp only; omega), if_neg (by dsimp only; omega), if_neg (by dsimp only; omega), if_neg (by dsimp only; omega), if_neg (by dsimp only; omega), if_neg (by dsimp only; omega)])
              have hmid := Lib.hid (HMD.out.trans hmid.out)
              clear HMD
              dsimp only at *
              clear x5 x9 x10 x11 x12 x13 x14 x15
              go_wp2_with fail
              go_meet
              case rel => exact ⟨n6, by rw [hmid.out, List.append_nil]; exact WS.of A4.out O4.out C4.out, HN6.out⟩
        case rest =>
          as_aux_lemma =>
            obtain ⟨n8, hws, hn8⟩ := hcut
            have hfv := hws.fv
            subst hfv
            obtain ⟨M8, hM8⟩ : ∃ M, M = padH p ++ md := ⟨_, rfl⟩
            rw [← hM8] at hws
            obtain ⟨b1, b2, rfl⟩ := hws.own.slice
            obtain ⟨w8, hw8⟩ : ∃ x, x = wc := ⟨_, rfl⟩
            subst hw8
            have WS8 := Lib.hid hws
            have HN8 := Lib.hid hn8
            have HM8 := Lib.hid hM8
            clear hws hn8 hM8 x0 x1 x2 x3 x4 x5 x6 x7 x8 x9 x10 x11 x12 x13 x14 x15 hAl A4 O4 C4 HN6 g1 g2
            obtain ⟨M9, hM9⟩ : ∃ M, M = M8 ++ F.pay := ⟨_, rfl⟩
            obtain ⟨M10, hM10⟩ : ∃ M, M = M9 ++ List.replicate (p - 1) 0 := ⟨_, rfl⟩
            have hbody : Hid (bodyF F = M10) := Lib.hid (by unfold bodyF padT; rw [hM10, hM9, HM8.out, HMD.out, HPN.out, Int.toNat_natCast])
            have HM9 := Lib.hid hM9
            have HM10 := Lib.hid hM10
            clear hM9 hM10
            have hl10 : M10.length ≤ 16777215 := by rw [← hbody.out]; exact HB.out
            have hl9 : Hid (M9.length ≤ 16777215) := Lib.hid (by rw [HM10.out, List.length_append] at hl10; omega)
            have hl8 : Hid (M8.length ≤ 16777215) := Lib.hid (by have := hl9.out; rw [HM9.out, List.length_append] at this; omega)
            have x6 : World.cell? w8 ⟨A, 6, none⟩ = some (.slice pa F.pay.length pc) := WS8.out.at'.cell rfl
            go_upto_region 35 with fail
            go_cut [5] (fun bv wx => WS w A (fcs (F.mem (.slice pa F.pay.length pc) (.slice la F.list.length lc))) M9 n8 (.int .i64 (n8 : Int)) bv wx)
            case first =>
              go_wp2_with (at_builtin; refine app_any rfl _ _ rfl w.heap.size _ M8 rfl WS8.out.own _ F.pay rfl (HP.out.chg0 WS8.out.chg) (by have := hl8.out; omega) WS8.out.le ?_)
              intro v9 w9 own9 ch9 n9
              rw [← HM9.out] at own9
              have ws9 := WS8.out.step own9 ch9
              obtain ⟨a9, c9, rfl⟩ := OwnB.slice own9
              have WS9 := Lib.hid ws9
              clear own9 ch9 n9 ws9
              go_wp2_with fail
              go_meet
              case rel => exact WS9.out
            case rest =>
              have hws := hcut
              clear hcut
              obtain ⟨b3, b4, rfl⟩ := hws.own.slice
              obtain ⟨w9, hw9⟩ : ∃ x, x = wc := ⟨_, rfl⟩
              subst hw9
              have WS9 := Lib.hid hws
              clear hws WS8 x6
              have x8 : World.cell? w9 ⟨A, 8, none⟩ = some (.int .i64 (p : Int)) := by rw [← HPN.out]; exact WS9.out.at'.cell rfl
              iterate 2 go_step
              go_cut [5] (fun bv wx => WS w A (fcs (F.mem (.slice pa F.pay.length pc) (.slice la F.list.length lc))) M10 n8 (.int .i64 (n8 : Int)) bv wx)
              case first =>
                rcases Nat.eq_zero_or_pos p with k0 | k0
                · have h10 : Hid (M10 = M9) := Lib.hid (by rw [HM10.out, k0]; simp)
                  subst k0
                  go_wp2_with fail
                  go_meet
                  case rel => rw [h10.out]; exact WS9.out
                · obtain ⟨q, hq⟩ : ∃ q : Nat, p = q + 1 := ⟨p - 1, by omega⟩
                  have g0 : ((p : Int) > 0) = True := by simp; omega
                  have hq2 : Hid (q ≤ 100000) := Lib.hid (by have := p2; rw [HPN.out] at this; omega)
                  have hpc : (p : Int) - 1 = (q : Int) := by omega
                  have hqw : IntKind.i64.wrap (q : Int) = (q : Int) := by have := hq2.out; exact IntWalk.i64_in _ (by omega)
                  have h10 : Hid (M9 ++ List.replicate q 0 = M10) := Lib.hid (by rw [HM10.out, hq]; rfl)
                  clear hq
                  go_wp2_with (at_builtin; refine app_zeros rfl _ _ rfl w.heap.size _ M9 rfl WS9.out.own q rfl hq2.out (by have := hl9.out; omega) WS9.out.le ?_)
                  intro v10 w10 own10 ch10 n10
                  rw [h10.out] at own10
                  have ws10 := WS9.out.step own10 ch10
                  obtain ⟨a10, c10, rfl⟩ := OwnB.slice own10
                  have WS10 := Lib.hid ws10
                  clear own10 ch10 n10 ws10
                  go_wp2_with fail
                  go_meet
                  case rel => exact WS10.out
              case rest =>
                have hws := hcut
                clear hcut
                obtain ⟨b5, b6, rfl⟩ := hws.own.slice
                obtain ⟨w10, hw10⟩ : ∃ x, x = wc := ⟨_, rfl⟩
                subst hw10
                have WS10 := Lib.hid hws
                clear hws WS9 x8
                have x0 : World.cell? w10 ⟨A, 0, none⟩ = some (.int .i64 F.kind) := WS10.out.at'.cell rfl
                have x1 : World.cell? w10 ⟨A, 1, none⟩ = some (.int .i64 F.stream) := WS10.out.at'.cell rfl
                have hAl : A < w10.heap.size := WS10.out.at'.lt
                obtain ⟨st, hst⟩ : ∃ st : Nat, F.stream = (st : Int) := ⟨F.stream.toNat, by omega⟩
                have hst2 : st ≤ 2147483647 := by omega
                obtain ⟨kb, hkb⟩ : ∃ kb, kb = UInt8.ofNat F.kind.toNat := ⟨_, rfl⟩
                have hkk : F.kind = (kb.toNat : Int) := by rw [hkb]; simp only [UInt8.toNat_ofNat']; omega
                obtain ⟨fb, hfb⟩ : ∃ fb, fb = UInt8.ofNat n8 := ⟨_, rfl⟩
                have hn8 : n8 < 1000 := by
                  have h1 := HN8.out
                  have h2 : flg (F.fin || F.ack) F.eh (decide (0 < p)) F.prio ≤ 45 := by unfold flg; split <;> split <;> split <;> split <;> omega
                  have h3 := f2
                  rw [HF0.out] at h3
                  omega
                have hfk : (n8 : Int) % 256 = (fb.toNat : Int) := by rw [hfb]; simp only [UInt8.toNat_ofNat']; omega
                have hfw : IntKind.u8.wrap (n8 : Int) = (fb.toNat : Int) := by rw [IntKind.wrap_u8]; exact hfk
                have hkw : IntKind.u8.wrap (kb.toNat : Int) = (kb.toNat : Int) := by have := kb.toNat_lt; rw [IntKind.wrap_u8]; omega
                have hkm : (kb.toNat : Int) % 256 = (kb.toNat : Int) := by have := kb.toNat_lt; omega
                rw [hkk] at x0
                rw [hst] at x1
                have hlI : (M10.length : Int) ≤ 16777215 := by omega
                have HST := Lib.hid (And.intro hst (And.intro hkb hfb))
                clear hst hkb hfb hkk
                go_wp2_with fail
                refine (put_any (base := w10.heap.size) _ [] (OwnB.nil _ _) M10.length 3 (by omega) (by omega) (by simp) (Nat.le_refl _)).mono ?_; rintro e w11 ⟨r1, rfl, o11, c11, n11⟩
                have C11 : Hid (Chg [] w10 w11) := Lib.hid (c11.mono (by simp [Value.ownBlock]))
                obtain ⟨a1, q1, rfl⟩ := OwnB.slice o11
                have O11 := Lib.hid o11
                have x0' : World.cell? w11 ⟨A, 0, none⟩ = some (.int .i64 (kb.toNat : Int)) := (C11.out.cell hAl (by simp) _).trans x0
                have x1' : World.cell? w11 ⟨A, 1, none⟩ = some (.int .i64 (st : Int)) := (C11.out.cell hAl (by simp) _).trans x1
                clear o11 c11 n11
                go_wp2_with (at_builtin; refine app_any rfl _ _ rfl w10.heap.size _ ([] ++ be M10.length 3) rfl (O11.out.alloc _) _ [kb, fb] rfl (new_two w11 kb fb) (by simp [be_len]) (Nat.le_trans C11.out.size (by simp)) ?_)
                intro v12 w12 own12 ch12 n12
                have C12 : Hid (Chg [] w10 w12) := Lib.hid ((C11.out.alloc _).trans ch12 (fun x hx => Or.inr (owns_lo O11.out x hx)))
                obtain ⟨a2, q2, rfl⟩ := OwnB.slice own12
                have O12 := Lib.hid own12
                have x1'' : World.cell? w12 ⟨A, 1, none⟩ = some (.int .i64 (st : Int)) := (C12.out.cell hAl (by simp) _).trans x1
                clear own12 ch12 n12 x0 x1 x0' x1'
                have hst3 : (st : Int) ≤ 2147483647 := by omega
                go_wp2_with fail
                refine (put_any (base := w10.heap.size) _ _ O12.out st 4 (by omega) (by omega) (by simp [be_len]) C12.out.size).mono ?_; rintro e w13 ⟨r3, rfl, o13, c13, n13⟩
                have C13 : Hid (Chg [] w10 w13) := Lib.hid (C12.out.trans c13 (fun x hx => Or.inr (owns_lo O12.out x hx)))
                obtain ⟨a3, q3, rfl⟩ := OwnB.slice o13
                have O13 := Lib.hid o13
                clear o13 c13 n13 x1''
                go_wp2_with (at_builtin; refine app_any rfl _ _ rfl w10.heap.size _ _ rfl O13.out _ M10 rfl ((OwnB.bytes WS10.out.own).chg0 C13.out) (by simp [be_len]; omega) C13.out.size ?_)
                intro v14 w14 own14 ch14 n14
                have C14 : Hid (Chg [] w10 w14) := Lib.hid (C13.out.trans ch14 (fun x hx => Or.inr (owns_lo O13.out x hx)))
                obtain ⟨a4, q4, rfl⟩ := OwnB.slice own14
                have hfin : Hid (([] ++ be M10.length 3 ++ [kb, fb] ++ be st 4) ++ M10 = wrO F) := Lib.hid (by
                  unfold wrO
                  rw [hbody.out, h9_be, flagsF_flg, HF0.out, HPN.out, HST.out.2.1, HST.out.2.2, HN8.out, HST.out.1, List.nil_append]
                  rfl)
                have O14 := Lib.hid own14
                clear own14 ch14 n14
                go_wp2_with fail
                go_ret2
                exact ⟨_, rfl, by rw [← hfin.out]; exact owns_mono O14.out WS10.out.le, WS10.out.chg.trans' C14.out⟩
end Go.Proofs.Ythhgnipiaohplaa.Fr
