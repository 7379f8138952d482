/-
  HintsTexts: a text has one row of octets, and octets begin with a text, or not.
-/
import Derived.Test.YtpelnhfohfojhaaShow
import Derived.ChangeMaps5
import Derived.Deep.RegionLaw
import Derived.Deep.RegionHeldLaw
import Derived.Deep.DrawnRows
namespace Go.Proofs.Ytpelnhfohfojhaa.HTexts
open Go.ChangeShapes Go.WideShapes Go.ChangeAt Go.RowKit
open Go.ChangeMaps (open_string)
open Go.Proofs.Ytpelnhfohfojhaa.B Go.Proofs.Ytpelnhfohfojhaa.Hi
open Go.Proofs.Ytpelnhfohfojhaa.Hf (bx)
set_option linter.unusedVariables false
set_option linter.unusedSimpArgs false

set_option maxRecDepth 100000 in
set_option maxHeartbeats 8000000 in
theorem walk (s : ByteArray) (v : Value) (l : List UInt8) (W : World) (hsm : s.size ≤ maxLen) (hm : l.length ≤ maxLen) (hb : BytesOf W v l) :
    Calls Try.prog 5 #[.string s, v] W fun e w' => e = .returned (.bool true) ∧ Below W.heap.size W w' := by
  obtain ⟨a, cap, rfl, hcap, hcapm⟩ := hb.slice
  unfold maxLen at hm hcapm hsm
  have HBV := Lib.hid hb
  clear hb
  by_cases h400 : s.size ≤ 400
  · by_cases h200 : l.length ≤ 200
    · have hd4 : decide ((400 : Int) < (s.size : Int)) = false := decide_eq_false (by omega)
      have hd : decide ((200 : Int) < (l.length : Int)) = false := decide_eq_false (by omega)
      obtain ⟨E, hE⟩ : ∃ E : ByteArray, E = ⟨l.toArray⟩ := ⟨_, rfl⟩
      have hEx : bx E = l := by rw [hE]; rfl
      have hEs : E.size = l.length := by rw [hE]; rfl
      obtain ⟨D, hD⟩ : ∃ D : ByteArray, D = ⟨(getT l).1.toArray⟩ := ⟨_, rfl⟩
      obtain ⟨n, hn⟩ : ∃ n, n = (getT l).2.1 := ⟨_, rfl⟩
      obtain ⟨q, hq⟩ : ∃ q, q = (getT l).2.2 := ⟨_, rfl⟩
      obtain ⟨P, hP⟩ : ∃ P : ByteArray, P = ⟨(putT (bx s)).toArray⟩ := ⟨_, rfl⟩
      have hEb : E.size ≤ 200 := by omega
      have HE := Lib.hid hE; have HEX := Lib.hid hEx; have HD := Lib.hid hD; have HN := Lib.hid hn; have HQ := Lib.hid hq; have HP := Lib.hid hP
      clear hE hEx hEs hD hn hq hP
      go_enter Try.func5, Try.ntmps5
      go_wp2_with fail
      refine (shown_any _).mono ?_; rintro e w1 ⟨rfl, c1⟩
      have b1 := HBV.out.chg0 c1
      have HC1 := Lib.hid c1; have B1 := Lib.hid b1
      clear c1 b1
      go_wp2_with (at_builtin; refine app_any rfl _ _ rfl w1.heap.size (.slice (some ⟨w1.heap.size, 0, none⟩) 0 0) [] rfl (OwnB.empty (Nat.le_refl _)) _ l rfl (B1.out.chg0 ((Chg.refl _).alloc _)) (by simp; omega) (by simp) ?_)
      intro v2 w2 own2 hch2 _
      have c2 : Chg [] W w2 := HC1.out.trans' (((Chg.refl w1).alloc _).trans hch2 (fun x hx => Or.inr (by simp [Value.ownBlock] at hx; omega)))
      have b2 := HBV.out.chg0 c2
      have own2' : OwnB w2 w1.heap.size v2 l := own2
      have C2 := Lib.hid c2; have B2 := Lib.hid b2; have O2 := Lib.hid own2'
      clear c2 b2 own2 own2' hch2
      go_wp2_with fail
      refine (gettext_any v2 l _ O2.out.bytes).mono ?_; rintro e w3 ⟨he, c3⟩
      unfold txt at he
      rw [← HD.out, ← HN.out, ← HQ.out] at he
      subst he
      have b3 := B2.out.chg0 c3
      have k3 := b3.str
      rw [show (⟨l.toArray⟩ : ByteArray) = E from HE.out.symm] at k3
      have o3 := O2.out.bytes.chg0 c3
      have C3 := Lib.hid (C2.out.trans' c3); have B3 := Lib.hid b3; have O3 := Lib.hid o3
      clear b3 o3 c3
      go_wp2_with fail
      refine (rgettext_any E _ (by omega)).mono ?_; rintro e w4 ⟨he, c4⟩
      rw [HEX.out] at he
      unfold txt at he
      rw [← HD.out, ← HN.out, ← HQ.out] at he
      subst he
      have C4 := Lib.hid (C3.out.trans' c4); have B4 := Lib.hid (B3.out.chg0 c4); have O4 := Lib.hid (O3.out.chg0 c4)
      clear c4 k3 B3 O3
      go_wp2_with fail
      have kg := (B4.out.chg0 (Chg.refl w4).drew).str
      have kh := (O4.out.chg0 (Chg.refl w4).drew).str
      rw [show (⟨l.toArray⟩ : ByteArray) = E from HE.out.symm] at kg kh
      go_region_held_law (fun w' => (convert 23 9 v2).run Try.prog w' = .ok (.string E) w' ∧ (convert 23 9 (.slice a l.length cap)).run Try.prog w' = .ok (.string E) w') (go_keep) (first
        | (go_at_call 16; refine (puttext_any s _ (by omega)).mono ?_; rintro e wa ⟨rv, rfl, oa, ca⟩; have ka := oa.bytes.str; rw [← HP.out] at ka; have OA := Lib.hid oa; clear oa; have CA := Lib.hid (show Chg [] w4 wa by first | exact (Chg.refl _).drew.trans' ca | exact CB.out.trans' ca); have kx := (B4.out.chg0 CA.out).str; have ky := (O4.out.chg0 CA.out).str; rw [show (⟨l.toArray⟩ : ByteArray) = E from HE.out.symm] at kx ky; clear ca)
        | (go_at_call 17; refine (rputtext_any s _ (by omega)).mono ?_; rintro e wb ⟨he, cb⟩; unfold txt at he; rw [← HP.out] at he; subst he; have CB := Lib.hid (show Chg [] w4 wb by first | exact (Chg.refl _).drew.trans' cb | exact CA.out.trans' cb); have kz := (B4.out.chg0 CB.out).str; have kw := (O4.out.chg0 CB.out).str; rw [show (⟨l.toArray⟩ : ByteArray) = E from HE.out.symm] at kz kw; (try (have kb := (OA.out.bytes.chg0 cb).str; rw [← HP.out] at kb)); clear cb)
        | fail)
      all_goals
        go_wp2_with fail
        go_ret
        first | exact ⟨rfl, (C4.out.trans' CB.out).below_nil⟩ | exact ⟨rfl, (C4.out.trans' CA.out).below_nil⟩
    · have hd4 : decide ((400 : Int) < (s.size : Int)) = false := decide_eq_false (by omega)
      have hd : decide ((200 : Int) < (l.length : Int)) = true := decide_eq_true (by omega)
      go_enter Try.func5, Try.ntmps5
      go_wp2_with fail
      refine (shown_any _).mono ?_; rintro e w1 ⟨rfl, c1⟩
      go_wp2_with fail
      go_ret
      exact ⟨rfl, c1.below_nil⟩
  · have hd4 : decide ((400 : Int) < (s.size : Int)) = true := decide_eq_true (by omega)
    go_enter Try.func5, Try.ntmps5
    go_wp2_with fail
    refine (shown_any _).mono ?_; rintro e w1 ⟨rfl, c1⟩
    go_wp2_with fail
    go_ret
    exact ⟨rfl, c1.below_nil⟩

/-! ### The row's step -/
theorem own : ownKnob Try.prog.godebug = none := by kernel_rfl
theorem laid : laidOutB Try.prog = true := by kernel_rfl

set_option maxRecDepth 100000 in
theorem lifted (os : Os) (started : os.Started) (H : Type) (enc : TypeId × Value → H) :
    ReturnsInHanded {} Try.checked os 5 .any (Rows.hintsTextsSpec.pre6 enc Try.prog Try.f5 Rows.hintsTextsRow.domain false) (Rows.hintsTextsSpec.post enc Try.prog Try.f5 false true false false) := by
  refine lift_law (C := Try.checked) (tb := 4) own started (by kernel_rfl) Try.func5
    (ChangeSpec.witness6 (enc := enc) (C := Try.checked) false ⟨#[], #[.string ⟨#[]⟩, .slice none 0 0], []⟩ 8 (by kernel_rfl) (by kernel_rfl) (by kernel_rfl) (by kernel_rfl))
    laid (by rw [Try.params5]; intro t ht; simp only [List.mem_cons, List.not_mem_nil, or_false] at ht; rcases ht with rfl | rfl <;> exact ⟨by kernel_rfl, of_decide_eq_true (by kernel_rfl)⟩) (by kernel_rfl) Try.underlying4 rfl
    (fun ds h => by rw [Try.params5] at h; match ds, h with | [d0, d1], _ => rfl) ?_
  intro W base args ds before hval hA hlt hsz
  rw [Try.params5] at hA hval
  try rw [Try.params5] at hsz
  have hlt0 := hlt
  obtain ⟨v0, vs0, d0, ds0, p0, q0, hargs, rfl, rfl, h0, r0⟩ := trodAll_cons hA
  obtain ⟨v1, vs1, d1, ds1, p1, q1, rfl, rfl, rfl, h1, r1⟩ := trodAll_cons r0
  obtain ⟨rfl, rfl, rfl⟩ := trodAll_nil r1
  obtain rfl : args = #[v0, v1] := by cases args; simp_all
  have l0 : ∀ p ∈ p0, p.block < W.heap.size := fun x hx => hlt x (by simp [hx])
  have l1 : ∀ p ∈ p1, p.block < W.heap.size := fun x hx => hlt x (by simp [hx])
  obtain ⟨s0, rfl, rfl, rfl, m0⟩ := open_string Try.underlying9 (hval 0 9 v0 rfl rfl) h0
  obtain ⟨l1, m1, s1⟩ := open_bytes (hval 1 23 v1 rfl rfl) h1 l1
  exact walk s0 v1 l1 W m0 m1 s1

theorem over : Rows.hintsTextsRow.holds Try.pinned (OpenSpec.ofChange Rows.hintsTextsSpec) :=
  OpenClaim.holds_of_wide 5 Try.f5 rfl rfl rfl rfl rfl rfl rfl ⟨rfl, rfl, rfl, rfl, rfl⟩ rfl rfl rfl rfl rfl (by kernel_rfl) Try.func5 (by kernel_rfl)
    (of_decide_eq_true (by kernel_rfl)) (by unfold Func.isWrapper; first | (rw [if_pos (by decide +kernel)]; kernel_rfl) | (rw [if_neg (by decide +kernel)]; exact ⟨rfl, rfl⟩))
    (fun os started H enc _ => lifted os started H enc)

/-- The statement. -/
theorem proved : Rows.HintsTextsSaid :=
  over
#print axioms proved

end Go.Proofs.Ytpelnhfohfojhaa.HTexts
