/-
  HintsBack: a number that is written is read as it was: any number, prefix, first octet, and whatever stands behind.
-/
import Derived.Test.YtpelnhfohfojhaaShow
import Derived.Test.YtpelnhfohfojhaaLaws
import Derived.Test.YtpelnhfohfojhaaArgW
import Derived.BigQuiet
import Derived.Deep.DeepCutAuto
namespace Go.Proofs.Ytpelnhfohfojhaa.HBack
open Go.ChangeShapes Go.WideShapes Go.ChangeAt Go.RowKit
open Go.Proofs.Ytpelnhfohfojhaa.B Go.Proofs.Ytpelnhfohfojhaa.Hi
set_option linter.unusedVariables false
set_option linter.unusedSimpArgs false

theorem take_bytes {w : World} {ad : Option Addr} {n cap k : Nat} {l : List UInt8} (h : BytesOf w (.slice ad n cap) l) (hk : k ≤ l.length) : BytesOf w (.slice ad k cap) (l.take k) := by
  obtain ⟨ad', cap', he, h2, h3, h4⟩ := h
  cases he
  refine ⟨ad, cap, by rw [List.length_take, Nat.min_eq_left hk], by rw [List.length_take]; omega, h3, fun h0 => ?_⟩
  rw [List.length_take] at h0
  obtain ⟨b, off, h5, h6, h7⟩ := h4 (by omega)
  refine ⟨b, off, h5, h6, fun i z hz => ?_⟩
  rw [List.getElem?_take] at hz
  split at hz
  · exact h7 i z hz
  · cases hz
set_option maxRecDepth 100000 in
set_option maxHeartbeats 8000000 in
theorem walk (f : UInt8) (p v : Int) (bv : Value) (t : List UInt8) (W : World) (hm : t.length ≤ 140737488351232) (hb : BytesOf W bv t) :
    Calls Try.prog 6 #[.int .u8 (f.toNat : Int), .int .i64 p, .int .i64 v, bv] W fun e w' => e = .returned (.bool true) ∧ Below W.heap.size W w' := by
  have HBV := Lib.hid hb
  have hf8 : (f.toNat : Int) < 256 := by have := f.toNat_lt; omega
  clear hb
  by_cases hbad : p < 1 ∨ 8 < p ∨ v < 0 ∨ 2147483647 < v
  · have HR := Lib.hid (show putI f p v = ([], 1) by unfold putI; rw [if_pos hbad])
    have hb : p < 1 ∨ (¬ p < 1 ∧ 8 < p) ∨ (¬ p < 1 ∧ ¬ 8 < p ∧ v < 0) ∨ (¬ p < 1 ∧ ¬ 8 < p ∧ ¬ v < 0 ∧ 2147483647 < v) := by omega
    clear hbad
    rcases hb with h | ⟨h, h2⟩ | ⟨h, h2, h3⟩ | ⟨h, h2, h3, h4⟩
    all_goals
      go_enter Try.func6, Try.ntmps6
      go_wp2_with fail
      refine (shown_any _).mono ?_; rintro e w1 ⟨rfl, c1⟩
      go_wp2_with fail
      refine (putint_any f p v _).mono ?_; rintro e w2 ⟨rv, he, o2, c2⟩
      rw [HR.out] at he o2
      simp only at he o2
      subst he
      try have hz : decide (v ≤ 2147483647) = false := decide_eq_false (by omega)
      obtain ⟨ra, rc, rfl⟩ := o2.slice
      clear o2
      go_wp2_with fail
      go_ret
      exact ⟨rfl, (c1.trans' c2).below_nil⟩
  · obtain ⟨P, rfl⟩ := Int.eq_ofNat_of_zero_le (show 0 ≤ p by omega)
    obtain ⟨V, rfl⟩ := Int.eq_ofNat_of_zero_le (show 0 ≤ v by omega)
    have hP1 : 1 ≤ P := by omega
    have hP8 : P ≤ 8 := by omega
    have hVm : V ≤ 2147483647 := by omega
    have hput : putI f P V = (putN f.toNat P V, 0) := putI_in hP1 hP8 (by omega)
    obtain ⟨D, hD⟩ : ∃ D, D = putN f.toNat P V := ⟨_, rfl⟩
    obtain ⟨k1, k2, c, r, k3, k4, k5⟩ := back (f := f) hP1 hP8 hVm t
    rw [← hD] at hput k1 k2 k3
    have hDl : 1 ≤ D.length ∧ D.length ≤ 6 := by rw [k3]; simp; omega
    obtain ⟨hD1, hD6⟩ := hDl
    have hz : decide ((V : Int) ≤ 2147483647) = true := decide_eq_true (by omega)
    clear k5
    have hc8 : (c.toNat : Int) < 256 := by have := c.toNat_lt; omega
    have e4 : (c.toNat : Int) / 2 ^ P = (f.toNat : Int) / 2 ^ P := by
      have := congrArg (fun n : Nat => (n : Int)) k4
      simpa using this
    have HPUT := Lib.hid hput; have HD := Lib.hid hD; have K1 := Lib.hid k1; have K2 := Lib.hid k2; have K3 := Lib.hid k3; have E4 := Lib.hid e4
    clear hbad hput hD k1 k2 k3 k4 e4
    go_enter Try.func6, Try.ntmps6
    go_wp2_with fail
    refine (shown_any _).mono ?_; rintro e w1 ⟨rfl, c1⟩
    have b1 := HBV.out.chg0 c1
    have HC1 := Lib.hid c1; have B1 := Lib.hid b1
    clear c1 b1
    go_wp2_with fail
    refine (putint_any f P V _).mono ?_; rintro e w2 ⟨rv, he, o2, c2⟩
    rw [HPUT.out] at he o2
    simp only at he o2
    subst he
    have b2 := B1.out.chg0 c2
    obtain ⟨ra, rc, rfl⟩ := o2.slice
    have p2 := o2.bytes
    obtain ⟨ob, oo, rfl, hbw, hcell⟩ := p2.cell (by omega)
    have d0 := hcell 0 c (by rw [K3.out]; rfl)
    rw [Nat.add_zero] at d0
    have C2 := Lib.hid (HC1.out.trans' c2); have B2 := Lib.hid b2; have P2 := Lib.hid p2
    clear c2 b2 hcell o2 p2
    go_upto_region 6 with fail
    have e4 := E4.out
    have q1 : decide ((D.length : Int) < 1) = false := decide_eq_false (by omega)
    have q2 : decide ((6 : Int) < (D.length : Int)) = false := decide_eq_false (by omega)
    go_wp2_with (at_builtin; refine app_any rfl _ _ rfl w2.heap.size (.slice (some ⟨w2.heap.size, 0, none⟩) 0 0) [] rfl (OwnB.empty (Nat.le_refl _)) _ D rfl (P2.out.chg0 ((Chg.refl _).alloc _)) (by simp; omega) (by simp) ?_)
    intro v3 w3 own3 hch3 _
    have c3 : Chg [] w2 w3 := ((Chg.refl w2).alloc _).trans hch3 (fun x hx => Or.inr (by simp [Value.ownBlock] at hx; omega))
    have own3' : OwnB w3 w2.heap.size v3 D := own3
    have C3 := Lib.hid c3; have O3 := Lib.hid own3'
    have hs3 := c3.size
    clear c3 own3 own3' hch3 e4
    go_wp2_with (at_builtin; refine app_any rfl _ _ rfl w2.heap.size v3 D rfl O3.out bv t rfl (B2.out.chg0 C3.out) (by omega) (by omega) ?_)
    intro v4 w4 own4 hch4 _
    have c4 : Chg [] w2 w4 := C3.out.trans hch4 (fun x hx => Or.inr (O3.out.lo x hx))
    have O4 := Lib.hid own4; have C4 := Lib.hid c4
    clear own4 hch4 c4
    go_wp2_with fail
    refine (getint_any v4 (D ++ t) P _ O4.out.bytes).mono ?_; rintro e w5 ⟨he, c5⟩
    rw [K1.out] at he
    simp only at he
    subst he
    have C5 := Lib.hid (C2.out.trans' (C4.out.trans' c5)); have P5 := Lib.hid (P2.out.chg0 (C4.out.trans' c5))
    clear c5
    go_wp2_with fail
    go_loopw [17] (fun iv wr => ∃ k : Nat, k ≤ D.length ∧ iv = .int .i64 k ∧ Chg [] W wr ∧ Chg [] w5 wr) (fun iv _ => D.length - (intOf iv).toNat)
    case atStart => exact ⟨0, Nat.zero_le _, rfl, C5.out, Chg.refl _⟩
    case round =>
      obtain ⟨k, hk, rfl, hch, hch2⟩ := hrel
      by_cases hlt : k < D.length
      · have P6 := Lib.hid (take_bytes (P5.out.chg0 hch2) hk)
        have HC := Lib.hid hch; have HC2 := Lib.hid hch2
        have k2 := K2.out k hlt
        have hrc : (k : Int) ≤ (rc : Int) := by
          obtain ⟨_, _, hq, h7, _⟩ := P5.out.slice
          cases hq
          omega
        clear hch hch2
        go_wp2_with fail
        refine (getint_any _ (D.take k) P _ P6.out).mono ?_; rintro e w6 ⟨he, c6⟩
        rw [k2] at he
        simp only at he
        subst he
        go_wp2_with fail
        go_roundw
        case rel => exact ⟨k + 1, by omega, by go_num, HC.out.trans' c6, HC2.out.trans' c6⟩
        case measure => simp [intOf]; omega
      · obtain rfl : k = D.length := by omega
        go_wp2_with fail
        go_ret
        exact ⟨rfl, hch.below_nil⟩
theorem walk' (a p v : Int) (bv : Value) (t : List UInt8) (W : World) (ha : (Lit.int .u8 a).wf = true) (hm : t.length ≤ 140737488351232) (hb : BytesOf W bv t) :
    Calls Try.prog 6 #[.int .u8 a, .int .i64 p, .int .i64 v, bv] W fun e w' => e = .returned (.bool true) ∧ Below W.heap.size W w' := by
  have h : 0 ≤ a ∧ a ≤ 255 := by
    simp [Lit.wf, IntKind.min, IntKind.max, IntKind.signed, IntKind.bits] at ha; omega
  obtain ⟨n, rfl⟩ := Int.eq_ofNat_of_zero_le h.1
  have := walk (UInt8.ofNat n) p v bv t W hm hb
  rwa [oct_num (by omega)] at this

/-! ### The row's step -/
theorem own : ownKnob Try.prog.godebug = none := by kernel_rfl
theorem laid : laidOutB Try.prog = true := by kernel_rfl

set_option maxRecDepth 100000 in
theorem lifted (os : Os) (started : os.Started) (H : Type) (enc : TypeId × Value → H) :
    ReturnsInHanded {} Try.checked os 6 .any (Rows.hintsBackSpec.pre6 enc Try.prog Try.f6 Rows.hintsBackRow.domain false) (Rows.hintsBackSpec.post enc Try.prog Try.f6 false true false false) := by
  refine lift_law (C := Try.checked) (tb := 4) own started (by kernel_rfl) Try.func6
    (ChangeSpec.witness6 (enc := enc) (C := Try.checked) false ⟨#[], #[.int .u8 0, .int .i64 0, .int .i64 0, .slice none 0 0], []⟩ 8 (by kernel_rfl) (by kernel_rfl) (by kernel_rfl) (by kernel_rfl))
    laid (by rw [Try.params6]; intro t ht; simp only [List.mem_cons, List.not_mem_nil, or_false] at ht; rcases ht with rfl | rfl | rfl | rfl <;> exact ⟨by kernel_rfl, of_decide_eq_true (by kernel_rfl)⟩) (by kernel_rfl) Try.underlying4 rfl
    (fun ds h => by rw [Try.params6] at h; match ds, h with | [d0, d1, d2, d3], _ => rfl) ?_
  intro W base args ds before hval hA hlt hsz
  rw [Try.params6] at hA hval
  try rw [Try.params6] at hsz
  have hlt0 := hlt
  obtain ⟨v0, vs0, d0, ds0, p0, q0, hargs, rfl, rfl, h0, r0⟩ := trodAll_cons hA
  obtain ⟨v1, vs1, d1, ds1, p1, q1, rfl, rfl, rfl, h1, r1⟩ := trodAll_cons r0
  obtain ⟨v2, vs2, d2, ds2, p2, q2, rfl, rfl, rfl, h2, r2⟩ := trodAll_cons r1
  obtain ⟨v3, vs3, d3, ds3, p3, q3, rfl, rfl, rfl, h3, r3⟩ := trodAll_cons r2
  obtain ⟨rfl, rfl, rfl⟩ := trodAll_nil r3
  obtain rfl : args = #[v0, v1, v2, v3] := by cases args; simp_all
  have l0 : ∀ p ∈ p0, p.block < W.heap.size := fun x hx => hlt x (by simp [hx])
  have l1 : ∀ p ∈ p1, p.block < W.heap.size := fun x hx => hlt x (by simp [hx])
  have l2 : ∀ p ∈ p2, p.block < W.heap.size := fun x hx => hlt x (by simp [hx])
  have l3 : ∀ p ∈ p3, p.block < W.heap.size := fun x hx => hlt x (by simp [hx])
  obtain ⟨a0, rfl, rfl, rfl, wa0⟩ := open_int Try.underlying5 (hval 0 5 v0 rfl rfl) h0
  obtain ⟨a1, rfl, rfl, rfl, wa1⟩ := open_int Try.underlying3 (hval 1 3 v1 rfl rfl) h1
  obtain ⟨a2, rfl, rfl, rfl, wa2⟩ := open_int Try.underlying3 (hval 2 3 v2 rfl rfl) h2
  obtain ⟨l3, m3, s3⟩ := open_bytes_w (hval 3 23 v3 rfl rfl) h3 l3 (small_of hsz (j := 3) rfl rfl)
  exact walk' a0 a1 a2 v3 l3 W wa0 m3 s3

theorem over : Rows.hintsBackRow.holds Try.pinned (OpenSpec.ofChange Rows.hintsBackSpec) :=
  OpenClaim.holds_of_wide 6 Try.f6 rfl rfl rfl rfl rfl rfl rfl ⟨rfl, rfl, rfl, rfl, rfl⟩ rfl rfl rfl rfl rfl (by kernel_rfl) Try.func6 (by kernel_rfl)
    (of_decide_eq_true (by kernel_rfl)) (by unfold Func.isWrapper; first | (rw [if_pos (by decide +kernel)]; kernel_rfl) | (rw [if_neg (by decide +kernel)]; exact ⟨rfl, rfl⟩))
    (fun os started H enc _ => lifted os started H enc)

/-- The statement. -/
theorem proved : Rows.HintsBackSaid :=
  over
#print axioms proved

end Go.Proofs.Ytpelnhfohfojhaa.HBack
