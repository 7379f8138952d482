/-
  HpackBroken: behind octets that are no block nothing is read any more: any Max, any octets, any others behind.
-/
import Derived.Test.YtmoeioaahampaaaHdL
import Derived.Test.YtmoeioaahampaaaArgW
namespace Go.Proofs.Ytmoeioaahampaaa.HBrok
open Go.ChangeShapes Go.WideShapes Go.ChangeAt Go.RowKit
open Go.Proofs.Ytmoeioaahampaaa.B Go.Proofs.Ytmoeioaahampaaa.Hi Go.Proofs.Ytmoeioaahampaaa.Tb Go.Proofs.Ytmoeioaahampaaa.Tb.Hp
open Go.Proofs.Ytmoeioaahampaaa.Hf (bx)
set_option linter.unusedVariables false
set_option linter.unusedSimpArgs false

theorem in_world {w : World} {a : Option Addr} {n cap : Nat} {l : List UInt8} (h : BytesOf w (.slice a n cap) l) : 0 < l.length → ∀ b m c, Value.slice a n cap = .slice (some b) m c → b.block < w.heap.size := by
  intro h0 b m c e
  obtain ⟨g, off, rfl, hb, _⟩ := h.cell h0
  cases e
  exact hb
set_option maxRecDepth 100000 in
set_option maxHeartbeats 8000000 in
theorem walk (max : Int) (v1 : Value) (l1 : List UInt8) (v2 : Value) (l2 : List UInt8) (W : World) (m1 : l1.length ≤ 140737488351232) (b1 : BytesOf W v1 l1) (m2 : l2.length ≤ 140737488351232) (b2 : BytesOf W v2 l2) :
    Calls Try.prog 3 #[.int .i64 max, v1, v2] W fun e w' => e = .returned (.bool true) ∧ Below W.heap.size W w' := by
  obtain ⟨a1, cap1, rfl, hc1, hm1⟩ := b1.slice
  obtain ⟨a2, cap2, rfl, hc2, hm2⟩ := b2.slice
  unfold maxLen at hm1 hm2
  obtain ⟨k1, hk1⟩ : ∃ k : Nat, k = min l1.length 5000 := ⟨_, rfl⟩
  obtain ⟨k2, hk2⟩ : ∃ k : Nat, k = min l2.length 5000 := ⟨_, rfl⟩
  have e1 : min (l1.length : Int) 5000 = (k1 : Int) := by omega
  have e2 : min (l2.length : Int) 5000 = (k2 : Int) := by omega
  have g1 : k1 ≤ l1.length ∧ k1 ≤ 5000 := by omega
  have g2 : k2 ≤ l2.length ∧ k2 ≤ 5000 := by omega
  have j1 : (k1 : Int) ≤ (cap1 : Int) := by omega
  have j2 : (k2 : Int) ≤ (cap2 : Int) := by omega
  have j3 : (0 : Int) ≤ (k1 : Int) := by omega
  have j4 : (0 : Int) ≤ (k2 : Int) := by omega
  have p1 := BytesOf.pre b1 k1 g1.1
  have p2 := BytesOf.pre b2 k2 g2.1
  obtain ⟨q1, hq1⟩ : ∃ q, q = l1.take k1 := ⟨_, rfl⟩
  obtain ⟨q2, hq2⟩ : ∃ q, q = l2.take k2 := ⟨_, rfl⟩
  have t1 : q1.length ≤ 5000 := by rw [hq1, List.length_take]; omega
  have t2 : q2.length ≤ 5000 := by rw [hq2, List.length_take]; omega
  rw [← hq1] at p1
  rw [← hq2] at p2
  have P1 := Lib.hid p1; have P2 := Lib.hid p2
  clear hk1 hk2 p1 p2 hq1 hq2 b1 b2
  go_enter Try.func3, Try.ntmps3
  go_wp2_with fail
  refine (shown_any W).mono ?_; rintro e w1 ⟨rfl, c1⟩
  go_wp2_with fail
  refine (newdec_any (W := W) max 1099511627776 w1 (by exact c1.below_nil)).mono ?_; rintro e w2 ⟨d, F, p, rfl, hD, c2, hn⟩
  have hs2 := c2.size
  have c12 := c1.trans' c2
  have HD := Lib.hid hD; have HC := Lib.hid c12
  clear c1 c2 c12 hn
  have hpa := in_world P1.out
  have hpb := in_world P2.out
  have r1 := decB_or (limit := hgt max) (list := 1099511627776) (Inv.nil (m := hgt max) (hgt_le _)) (show q1.length ≤ 100000 by omega) (by omega)
  go_wp2_with fail
  refine (decode_any HD.out _ q1 (P1.out.chg0 HC.out) (fun h0 a n cap e => ⟨Nat.lt_of_lt_of_le (hpa h0 a n cap e) HC.out.size, fun hx => by have := HD.out.los _ hx; have := hpa h0 a n cap e; omega⟩) (by omega)).mono ?_; rintro e w3 ⟨rv, F2, he, o3, d3, f3, c3, a3⟩
  obtain ⟨D, hDD⟩ : ∃ D, D = Hp.decB (hgt max) [] (hgt max) 1099511627776 false q1 := ⟨_, rfl⟩
  rw [← hDD] at r1 he o3 d3
  subst he
  have HC3 := Lib.hid (HC.out.trans c3 (fun x hx => Or.inr (HD.out.los x hx)))
  obtain ⟨x, xe, xb, xm, xes⟩ := D
  simp only at r1 o3 d3
  have HPA := Lib.hid hpa; have HPB := Lib.hid hpb
  rcases r1 with ⟨rfl, rfl⟩ | ⟨rfl, rfl, rfl⟩
  · have r2 := decB_or (limit := hgt 4096) (list := 1099511627776) d3.tab.inv (show q2.length ≤ 100000 by omega) (by omega)
    have HD3 := Lib.hid d3
    clear c3 f3 a3 o3 d3 hD HD HC hpa hpb HPA hDD
    go_wp2_with fail
    refine (dsetmax_any HD3.out 4096).mono ?_; rintro e w4 ⟨rfl, d4, c4⟩
    have HC4 := Lib.hid (HC3.out.trans c4 (fun x hx => Or.inr (by simp at hx; exact hx ▸ HD3.out.lo)))
    have HD4 := Lib.hid d4
    clear c4 d4 HC3 HD3
    go_wp2_with fail
    refine (decode_any HD4.out _ q2 (P2.out.chg0 HC4.out) (fun h0 a n cap e => ⟨Nat.lt_of_lt_of_le (HPB.out h0 a n cap e) HC4.out.size, fun hx => by have := HD4.out.los _ hx; have := HPB.out h0 a n cap e; omega⟩) (by omega)).mono ?_; rintro e w5 ⟨rv2, F3, he, o5, d5, f5, c5, a5⟩
    obtain ⟨D, hDD⟩ : ∃ D, D = Hp.decB xm xes (hgt 4096) 1099511627776 false q2 := ⟨_, rfl⟩
    rw [← hDD] at r2 he o5 d5
    subst he
    have HC5 := Lib.hid (HC4.out.trans c5 (fun x hx => Or.inr (HD4.out.los x hx)))
    obtain ⟨y, ye, yb, ym, yes⟩ := D
    simp only at r2 o5 d5
    clear hDD d5 c5 a5 f5 HC4 HD4
    obtain ⟨ya, yc, rfl, _, _⟩ := OwnR.slice o5
    rcases r2 with ⟨rfl, rfl⟩ | ⟨rfl, rfl, rfl⟩
    · go_wp2_with fail
      go_ret
      exact ⟨rfl, HC5.out.below_nil⟩
    · go_wp2_with fail
      go_ret
      exact ⟨rfl, HC5.out.below_nil⟩
  · obtain ⟨xa, xc, rfl, _, _⟩ := OwnR.slice o3
    have HD3 := Lib.hid d3
    clear c3 f3 a3 o3 d3 hD HD HC hpa hpb HPA hDD
    go_wp2_with fail
    refine (dsetmax_any HD3.out 4096).mono ?_; rintro e w4 ⟨rfl, d4, c4⟩
    have HC4 := Lib.hid (HC3.out.trans c4 (fun x hx => Or.inr (by simp at hx; exact hx ▸ HD3.out.lo)))
    have HD4 := Lib.hid d4
    clear c4 d4 HC3 HD3
    go_wp2_with fail
    refine (decode_any HD4.out _ q2 (P2.out.chg0 HC4.out) (fun h0 a n cap e => ⟨Nat.lt_of_lt_of_le (HPB.out h0 a n cap e) HC4.out.size, fun hx => by have := HD4.out.los _ hx; have := HPB.out h0 a n cap e; omega⟩) (by omega)).mono ?_; rintro e w5 ⟨rv2, F3, he, o5, d5, f5, c5, a5⟩
    rw [decB_broken] at he o5
    subst he
    have HC5 := Lib.hid (HC4.out.trans c5 (fun x hx => Or.inr (HD4.out.los x hx)))
    clear d5 c5 a5 f5 HC4 HD4
    obtain ⟨ya, yc, rfl, _, _⟩ := OwnR.slice o5
    go_wp2_with fail
    go_ret
    exact ⟨rfl, HC5.out.below_nil⟩

/-! ### The row's step -/
theorem own : ownKnob Try.prog.godebug = none := by kernel_rfl
theorem laid : laidOutB Try.prog = true := by kernel_rfl

set_option maxRecDepth 100000 in
theorem lifted (os : Os) (started : os.Started) (H : Type) (enc : TypeId × Value → H) :
    ReturnsInHanded {} Try.checked os 3 .any (Rows.hpackBrokenSpec.pre6 enc Try.prog Try.f3 Rows.hpackBrokenRow.domain false) (Rows.hpackBrokenSpec.post enc Try.prog Try.f3 false true false false) := by
  refine lift_law (C := Try.checked) (tb := 4) own started (by kernel_rfl) Try.func3
    (ChangeSpec.witness6 (enc := enc) (C := Try.checked) false ⟨#[], #[.int .i64 0, .slice none 0 0, .slice none 0 0], []⟩ 8 (by kernel_rfl) (by kernel_rfl) (by kernel_rfl) (by kernel_rfl))
    laid (by rw [Try.params3]; intro t ht; simp only [List.mem_cons, List.not_mem_nil, or_false] at ht; rcases ht with rfl | rfl | rfl <;> exact ⟨by kernel_rfl, of_decide_eq_true (by kernel_rfl)⟩) (by kernel_rfl) Try.underlying4 rfl
    (fun ds h => by rw [Try.params3] at h; match ds, h with | [d0, d1, d2], _ => rfl) ?_
  intro W base args ds before hval hA hlt hsz
  rw [Try.params3] at hA hval
  try rw [Try.params3] at hsz
  have hlt0 := hlt
  obtain ⟨v0, vs0, d0, ds0, p0, q0, hargs, rfl, rfl, h0, r0⟩ := trodAll_cons hA
  obtain ⟨v1, vs1, d1, ds1, p1, q1, rfl, rfl, rfl, h1, r1⟩ := trodAll_cons r0
  obtain ⟨v2, vs2, d2, ds2, p2, q2, rfl, rfl, rfl, h2, r2⟩ := trodAll_cons r1
  obtain ⟨rfl, rfl, rfl⟩ := trodAll_nil r2
  obtain rfl : args = #[v0, v1, v2] := by cases args; simp_all
  have l0 : ∀ p ∈ p0, p.block < W.heap.size := fun x hx => hlt x (by simp [hx])
  have l1 : ∀ p ∈ p1, p.block < W.heap.size := fun x hx => hlt x (by simp [hx])
  have l2 : ∀ p ∈ p2, p.block < W.heap.size := fun x hx => hlt x (by simp [hx])
  obtain ⟨a0, rfl, rfl, rfl, wa0⟩ := open_int Try.underlying3 (hval 0 3 v0 rfl rfl) h0
  obtain ⟨l1, m1, s1⟩ := open_bytes_w (hval 1 22 v1 rfl rfl) h1 l1 (small_of hsz (j := 1) rfl rfl)
  obtain ⟨l2, m2, s2⟩ := open_bytes_w (hval 2 22 v2 rfl rfl) h2 l2 (small_of hsz (j := 2) rfl rfl)
  exact walk a0 v1 l1 v2 l2 W m1 s1 m2 s2

theorem over : Rows.hpackBrokenRow.holds Try.pinned (OpenSpec.ofChange Rows.hpackBrokenSpec) :=
  OpenClaim.holds_of_wide 3 Try.f3 rfl rfl rfl rfl rfl rfl rfl ⟨rfl, rfl, rfl, rfl, rfl⟩ rfl rfl rfl rfl rfl (by kernel_rfl) Try.func3 (by kernel_rfl)
    (of_decide_eq_true (by kernel_rfl)) (by unfold Func.isWrapper; first | (rw [if_pos (by decide +kernel)]; kernel_rfl) | (rw [if_neg (by decide +kernel)]; exact ⟨rfl, rfl⟩))
    (fun os started H enc _ => lifted os started H enc)

/-- The statement. -/
theorem proved : Rows.HpackBrokenSaid :=
  over
#print axioms proved

end Go.Proofs.Ytmoeioaahampaaa.HBrok
