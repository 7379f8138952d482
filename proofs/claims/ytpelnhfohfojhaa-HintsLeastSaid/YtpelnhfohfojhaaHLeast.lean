/-
  HintsLeast: nobody writes a number shorter: any octets that begin with a number.
-/
import Derived.Test.YtpelnhfohfojhaaShow
import Derived.Test.YtpelnhfohfojhaaLaws
import Derived.Test.YtpelnhfohfojhaaArgW
import Derived.BigQuiet
namespace Go.Proofs.Ytpelnhfohfojhaa.HLeast
open Go.ChangeShapes Go.WideShapes Go.ChangeAt Go.RowKit
open Go.Proofs.Ytpelnhfohfojhaa.B Go.Proofs.Ytpelnhfohfojhaa.Hi
set_option linter.unusedVariables false
set_option linter.unusedSimpArgs false

theorem take_bytes {w : World} {ad : Option Addr} {n cap k : Nat} {l : List UInt8} (h : BytesOf w (.slice ad n cap) l) (hk : k ≤ l.length) (h1 : 0 < k) : BytesOf w (.slice ad k cap) (l.take k) := by
  obtain ⟨ad', cap', he, h2, h3, h4⟩ := h
  cases he
  refine ⟨ad, cap, by rw [List.length_take, Nat.min_eq_left hk], by rw [List.length_take]; omega, h3, fun _ => ?_⟩
  obtain ⟨b, off, h5, h6, h7⟩ := h4 (by omega)
  refine ⟨b, off, h5, h6, fun i z hz => ?_⟩
  rw [List.getElem?_take] at hz
  split at hz
  · exact h7 i z hz
  · cases hz
set_option maxRecDepth 100000 in
set_option maxHeartbeats 8000000 in
theorem walk (v : Value) (l : List UInt8) (p : Int) (W : World) (hm : l.length ≤ maxLen) (hb : BytesOf W v l) :
    Calls Try.prog 7 #[v, .int .i64 p] W fun e w' => e = .returned (.bool true) ∧ Below W.heap.size W w' := by
  obtain ⟨a, cap, rfl, hcap, hcapm⟩ := hb.slice
  unfold maxLen at hm hcapm
  have HBV := Lib.hid hb
  clear hb
  obtain ⟨V, N, E, hG⟩ : ∃ V N E, getI l p = (V, N, E) := ⟨_, _, _, rfl⟩
  have hbad := getI_bad l p
  rw [hG] at hbad
  have hlst := fun (h : E = 0) => least (l := l) (p := p) (V := V) (N := N) (by rw [hG, h])
  by_cases hE : E = 0
  · obtain ⟨c, r, hl, hp1, hp8, hV, hN1, hN6, hNl, hput, hlen, hhd, hiff⟩ := hlst hE
    subst hE
    obtain ⟨D, hD⟩ : ∃ D, D = (putI c p V).1 := ⟨_, rfl⟩
    obtain ⟨b, off, rfl, hbw, hcell⟩ := HBV.out.cell (by rw [hl]; simp)
    obtain ⟨X, hX⟩ : ∃ X : ByteArray, X = ⟨D.toArray⟩ := ⟨_, rfl⟩
    obtain ⟨Y, hY⟩ : ∃ Y : ByteArray, Y = ⟨(l.take N).toArray⟩ := ⟨_, rfl⟩
    rw [← hD] at hlen hhd hiff
    have hXY : X = Y ↔ D = l.take N := by
      rw [hX, hY]
      constructor
      · intro h; simpa using h
      · intro h; rw [h]
    obtain ⟨d, ds, hDc⟩ : ∃ d ds, D = d :: ds := by
      cases D with
      | nil => simp at hhd
      | cons d ds => exact ⟨_, _, rfl⟩
    obtain rfl : d = c := by rw [hDc] at hhd; simpa using hhd
    obtain ⟨z, hz1, hz2⟩ : ∃ z, ((D.length : Int) == (N : Int)) = z ∧ (X.toList == Y.toList) = z := by
      refine ⟨_, rfl, ?_⟩
      rw [Bool.eq_iff_iff, beq_iff_eq, beq_iff_eq, ByteArray.toList_eq, ByteArray.toList_eq]
      constructor
      · intro h
        have := hiff.2 (hXY.1 (by apply ByteArray.ext; apply Array.toList_inj.1; exact h))
        omega
      · intro h; rw [hXY.2 (hiff.1 (by omega))]
    have q1 : decide ((N : Int) < 1) = false := decide_eq_false (by omega)
    have q2 : decide ((l.length : Int) < (N : Int)) = false := decide_eq_false (by omega)
    have q3 : decide ((6 : Int) < (N : Int)) = false := decide_eq_false (by omega)
    have q4 : decide ((V : Int) < 0) = false := decide_eq_false (by omega)
    have q5 : decide ((2147483647 : Int) < (V : Int)) = false := decide_eq_false (by omega)
    have q6 : decide ((D.length : Int) ≤ (N : Int)) = true := decide_eq_true (by omega)
    have hl0 : 0 < l.length := by omega
    have hD0 : 0 < D.length := by rw [hDc]; simp
    have HG := Lib.hid hG; have HD := Lib.hid hD; have HX := Lib.hid hX; have HY := Lib.hid hY; have HL := Lib.hid hl; have HDC := Lib.hid hDc; have HPUT := Lib.hid hput
    clear hG hD hX hY hl hDc hput hXY hiff hhd hbad hlst hcell
    go_enter Try.func7, Try.ntmps7
    go_wp2_with fail
    refine (shown_any _).mono ?_; rintro e w1 ⟨rfl, c1⟩
    have b1 := HBV.out.chg0 c1
    have HC1 := Lib.hid c1; have B1 := Lib.hid b1
    clear c1 b1
    go_wp2_with fail
    refine (getint_any _ l p _ B1.out).mono ?_; rintro e w2 ⟨he, c2⟩
    rw [HG.out] at he
    subst he
    have b2 := B1.out.chg0 c2
    have C2 := Lib.hid (HC1.out.trans' c2); have B2 := Lib.hid b2
    obtain ⟨_, _, hx, hbw2, hcell2⟩ := b2.cell (by omega)
    cases hx
    have d0 := hcell2 0 d (by rw [HL.out]; rfl)
    rw [Nat.add_zero] at d0
    clear b2 c2 hcell2
    go_wp2_with fail
    refine (putint_any d p V _).mono ?_; rintro e w3 ⟨rv, he, o3, c3⟩
    rw [HPUT.out] at he
    rw [← HD.out] at o3
    subst he
    obtain ⟨ra, rc, rfl⟩ := o3.slice
    have C3 := Lib.hid (C2.out.trans' c3)
    have b3 := B2.out.chg0 c3
    have k1 : ∀ n, (convert 23 9 (.slice ra D.length rc)).run Try.prog (w3.drewN n) = .ok (.string X) (w3.drewN n) := fun n => by have h := (o3.bytes.drewN n).str; rw [← HX.out] at h; exact h
    have k2 : ∀ n, (convert 23 9 (.slice (some ⟨b, off, none⟩) N cap)).run Try.prog (w3.drewN n) = .ok (.string Y) (w3.drewN n) := fun n => by have h := ((take_bytes b3 hNl (by omega)).drewN n).str; rw [← HY.out] at h; exact h
    obtain ⟨_, _, hx, hbw3, hcell3⟩ := o3.bytes.cell hD0
    cases hx
    have e0 := hcell3 0 d (by rw [HDC.out]; rfl)
    rw [Nat.add_zero] at e0
    obtain ⟨_, _, hx, hbw4, hcell4⟩ := b3.cell hl0
    cases hx
    have f0 := hcell4 0 d (by rw [HL.out]; rfl)
    rw [Nat.add_zero] at f0
    clear c3 b3 o3 hcell3 hcell4
    go_wp2_with fail
    go_quiet (fail)
    go_wp2_with fail
    go_ret
    exact ⟨rfl, (C3.out.drewN _).below_nil⟩
  · have hv := hbad hE
    simp only at hv
    obtain ⟨rfl, rfl⟩ := hv
    have hE0 : ((E : Int) != 0) = true := by simp; omega
    have HG := Lib.hid hG
    clear hG hbad hlst
    go_enter Try.func7, Try.ntmps7
    go_wp2_with fail
    refine (shown_any _).mono ?_; rintro e w1 ⟨rfl, c1⟩
    go_wp2_with fail
    refine (getint_any _ l p _ (HBV.out.chg0 c1)).mono ?_; rintro e w2 ⟨he, c2⟩
    rw [HG.out] at he
    subst he
    go_wp2_with fail
    go_ret
    exact ⟨rfl, (c1.trans' c2).below_nil⟩

/-! ### The row's step -/
theorem own : ownKnob Try.prog.godebug = none := by kernel_rfl
theorem laid : laidOutB Try.prog = true := by kernel_rfl

set_option maxRecDepth 100000 in
theorem lifted (os : Os) (started : os.Started) (H : Type) (enc : TypeId × Value → H) :
    ReturnsInHanded {} Try.checked os 7 .any (Rows.hintsLeastSpec.pre6 enc Try.prog Try.f7 Rows.hintsLeastRow.domain false) (Rows.hintsLeastSpec.post enc Try.prog Try.f7 false true false false) := by
  refine lift_law (C := Try.checked) (tb := 4) own started (by kernel_rfl) Try.func7
    (ChangeSpec.witness6 (enc := enc) (C := Try.checked) false ⟨#[], #[.slice none 0 0, .int .i64 0], []⟩ 8 (by kernel_rfl) (by kernel_rfl) (by kernel_rfl) (by kernel_rfl))
    laid (by rw [Try.params7]; intro t ht; simp only [List.mem_cons, List.not_mem_nil, or_false] at ht; rcases ht with rfl | rfl <;> exact ⟨by kernel_rfl, of_decide_eq_true (by kernel_rfl)⟩) (by kernel_rfl) Try.underlying4 rfl
    (fun ds h => by rw [Try.params7] at h; match ds, h with | [d0, d1], _ => rfl) ?_
  intro W base args ds before hval hA hlt hsz
  rw [Try.params7] at hA hval
  try rw [Try.params7] at hsz
  have hlt0 := hlt
  obtain ⟨v0, vs0, d0, ds0, p0, q0, hargs, rfl, rfl, h0, r0⟩ := trodAll_cons hA
  obtain ⟨v1, vs1, d1, ds1, p1, q1, rfl, rfl, rfl, h1, r1⟩ := trodAll_cons r0
  obtain ⟨rfl, rfl, rfl⟩ := trodAll_nil r1
  obtain rfl : args = #[v0, v1] := by cases args; simp_all
  have l0 : ∀ p ∈ p0, p.block < W.heap.size := fun x hx => hlt x (by simp [hx])
  have l1 : ∀ p ∈ p1, p.block < W.heap.size := fun x hx => hlt x (by simp [hx])
  obtain ⟨l0, m0, s0⟩ := open_bytes (hval 0 23 v0 rfl rfl) h0 l0
  obtain ⟨a1, rfl, rfl, rfl, wa1⟩ := open_int Try.underlying3 (hval 1 3 v1 rfl rfl) h1
  exact walk v0 l0 a1 W m0 s0

theorem over : Rows.hintsLeastRow.holds Try.pinned (OpenSpec.ofChange Rows.hintsLeastSpec) :=
  OpenClaim.holds_of_wide 7 Try.f7 rfl rfl rfl rfl rfl rfl rfl ⟨rfl, rfl, rfl, rfl, rfl⟩ rfl rfl rfl rfl rfl (by kernel_rfl) Try.func7 (by kernel_rfl)
    (of_decide_eq_true (by kernel_rfl)) (by unfold Func.isWrapper; first | (rw [if_pos (by decide +kernel)]; kernel_rfl) | (rw [if_neg (by decide +kernel)]; exact ⟨rfl, rfl⟩))
    (fun os started H enc _ => lifted os started H enc)

/-- The statement. -/
theorem proved : Rows.HintsLeastSaid :=
  over
#print axioms proved

end Go.Proofs.Ytpelnhfohfojhaa.HLeast
