/-
  FrameOpens: octets begin with the preface, or may still, or do not.
-/
import Derived.Test.YthhgnipiaohplaaFas
import Derived.Deep.RegionHeldLaw
import Derived.Deep.DrawnRows
import Derived.Test.YthhgnipiaohplaaArgW
namespace Go.Proofs.Ythhgnipiaohplaa.Opens
open Go.ChangeShapes Go.WideShapes Go.ChangeAt Go.RowKit
open Go.Proofs.Ythhgnipiaohplaa.B Go.Proofs.Ythhgnipiaohplaa.Fr
set_option linter.unusedVariables false
set_option linter.unusedSimpArgs false

theorem opn_take : ∀ N, N ≤ 24 → opn (PRE.take N) ≠ 3 := by decide
theorem opn_pre : opn PRE = 0 := by decide
theorem pre_bx : bx PREB = PRE := rfl
theorem pre_size (N : Nat) (h : N ≤ 24) : (PREB.extract 0 N).size = N := by
  rw [pre_cut]
  show (PRE.take N).toArray.size = N
  simp [PRE_len]; omega
set_option maxRecDepth 100000 in
set_option maxHeartbeats 16000000 in
theorem walk (bv cv : Value) (b c : List UInt8) (n : Int) (W : World) (hb : BytesOf W bv b) (hc : BytesOf W cv c) (hcl : c.length ≤ 140737488351232) (hn : -9223372036854775808 ≤ n ∧ n ≤ 9223372036854775807) :
    Calls Try.prog 11 #[bv, .int .i64 n, cv] W fun e w' => e = .returned (.bool true) ∧ Below W.heap.size W w' := by
  obtain ⟨ba, bc, rfl, hbc, hbcm⟩ := hb.slice
  obtain ⟨ca, cc, rfl, hcc, hccm⟩ := hc.slice
  have HB := Lib.hid hb; have HC := Lib.hid hc; have HCL := Lib.hid hcl; have HBM := Lib.hid hbcm; have HCM := Lib.hid hccm
  clear hb hc hcl hbcm hccm
  obtain ⟨m, hm⟩ : ∃ m : Int, m = if n < 0 then -(n + 1) else n := ⟨_, rfl⟩
  have hm0 : 0 ≤ m ∧ m ≤ 9223372036854775807 := by rw [hm]; split <;> omega
  obtain ⟨N, hN⟩ : ∃ N : Nat, N = (m % 25).toNat := ⟨_, rfl⟩
  have hN24 : N ≤ 24 := by omega
  have hNI : m % 25 = (N : Int) := by omega
  have hNT : m.tmod 25 = (N : Int) := by rw [Int.tmod_eq_emod_of_nonneg hm0.1]; exact hNI
  have HM := Lib.hid hm; have HNI := Lib.hid (And.intro hNI hNT)
  clear hm hN hNI hNT
  go_enter Try.func11, Try.ntmps11
  go_wp2_with fail
  refine (shown_any W).mono ?_; rintro e w1 ⟨rfl, c1⟩
  have C1 := Lib.hid c1
  clear c1
  go_upto_region 2 with fail
  iterate 8 go_step
  go_cut [1] (fun v wx => v = .int .i64 m ∧ wx = w1)
  case first =>
    rcases ltC n 0 with ⟨k1, _⟩ | ⟨k1, k1'⟩
    · have hx : Hid (m = -(n + 1)) := Lib.hid (by rw [HM.out, if_pos k1])
      have w2 : Hid (wrap64 (-(n + 1)) = -(n + 1)) := Lib.hid (by unfold wrap64; omega)
      go_wp2_with fail
      go_meet
      case rel => exact ⟨by first | (rw [hx.out]; done) | (rw [hx.out, w2.out]; done), rfl⟩
    · have hx : Hid (m = n) := Lib.hid (by rw [HM.out, if_neg k1])
      go_wp2_with fail
      go_meet
      case rel => exact ⟨by rw [hx.out], rfl⟩
  case rest =>
    obtain ⟨rfl, hwx⟩ := hcut
    have hwx' := hwx.symm
    subst hwx'
    have HM0 := Lib.hid hm0
    clear hm0 hn
    go_upto_region 6 with fail
    rw [HNI.out.2]
    have hNJ : (N : Int) ≤ 24 := by omega
    have hsz := pre_size N hN24
    have h24 : (PREB.extract 0 N).size ≤ maxLen := by rw [hsz]; unfold maxLen; omega
    have MK := Lib.hid (str_mark (PREB.extract 0 N) w1 h24)
    have CS := Lib.hid (C1.out.trans' (str_chg (PREB.extract 0 N) w1))
    have HSZ := Lib.hid hsz
    have hlen : Hid ((PREB.extract 0 N).data.toList.length + c.length ≤ 140737488355328) := Lib.hid (by
      have h1 := HCL.out
      have h2 : (PREB.extract 0 N).data.toList.length = N := by rw [Array.length_toList]; exact hsz
      omega)
    have hsr0 := str_run (PREB.extract 0 N) w1
    unfold strRow at hsr0
    rw [hsz] at hsr0 MK
    obtain ⟨CAP, hCAP⟩ : ∃ C, C = grownCap w1 N 0 5 := ⟨_, rfl⟩
    obtain ⟨ws, hws⟩ : ∃ x, x = strWorld (PREB.extract 0 N) w1 := ⟨_, rfl⟩
    rw [← hCAP, ← hws] at hsr0
    rw [← hCAP, ← hws] at MK
    rw [← hws] at CS
    obtain ⟨PN, hPN⟩ : ∃ l, l = (PREB.extract 0 N).data.toList := ⟨_, rfl⟩
    rw [← hPN] at MK hlen
    clear hsz h24 hCAP hws hPN
    go_wp2_with (at_builtin; refine app_mark rfl _ _ rfl rfl MK.out (.slice ca c.length cc) c rfl (HC.out.chg0 CS.out) hlen.out ?_)
    intro v3 w3 hv3 ch3
    have C3 := Lib.hid (CS.out.trans ch3 (fun x hx => Or.inr (by simp at hx; subst hx; exact C1.out.size)))
    obtain ⟨L, hL⟩ : ∃ L, L = PN ++ c := ⟨_, rfl⟩
    rw [← hL] at hv3
    obtain ⟨va, vc, rfl, hvc, hvcm⟩ := hv3.slice
    have HV := Lib.hid hv3
    have HVM := Lib.hid hvcm
    clear hL hv3 ch3 MK CS hvcm
    obtain ⟨Sb, hSb⟩ : ∃ S : ByteArray, S = ⟨b.toArray⟩ := ⟨_, rfl⟩
    obtain ⟨Sc, hSc⟩ : ∃ S : ByteArray, S = ⟨L.toArray⟩ := ⟨_, rfl⟩
    obtain ⟨ob, hob⟩ : ∃ o : Nat, o = opn b := ⟨_, rfl⟩
    obtain ⟨oc, hoc⟩ : ∃ o : Nat, o = opn L := ⟨_, rfl⟩
    obtain ⟨oN, hoN⟩ : ∃ o : Nat, o = opn (PRE.take N) := ⟨_, rfl⟩
    have hoN3 : ((oN : Int) == 3) = false := by have := opn_take N hN24; simp; omega
    have hoN4 : ((oN : Int) != 3) = true := by simp only [bne, hoN3]; rfl
    have HSB := Lib.hid hSb; have HSC := Lib.hid hSc; have HOB := Lib.hid hob; have HOC := Lib.hid hoc; have HON := Lib.hid hoN
    have KB : Hid (∀ w', Chg [] w3 w' → (convert 22 9 (.slice ba b.length bc)).run Try.prog w' = .ok (.string Sb) w') := Lib.hid (fun w' h => by rw [HSB.out]; exact BytesOf.str ((HB.out.chg0 C3.out).chg0 h))
    have KC : Hid (∀ w', Chg [] w3 w' → (convert 22 9 (.slice va L.length vc)).run Try.prog w' = .ok (.string Sc) w') := Lib.hid (fun w' h => by rw [HSC.out]; exact BytesOf.str (HV.out.chg0 h))
    have OB : Hid (∀ w', Chg [] w3 w' → Calls Try.prog 29 #[.slice ba b.length bc] w' fun e w'' => e = .returned (.int .i64 (ob : Nat)) ∧ ∃ k, w'' = w'.drewN k) := Lib.hid (fun w' h => by rw [HOB.out]; exact opening_any ((HB.out.chg0 C3.out).chg0 h))
    have OC : Hid (∀ w', Chg [] w3 w' → Calls Try.prog 29 #[.slice va L.length vc] w' fun e w'' => e = .returned (.int .i64 (oc : Nat)) ∧ ∃ k, w'' = w'.drewN k) := Lib.hid (fun w' h => by rw [HOC.out]; exact opening_any (HV.out.chg0 h))
    have RB : Hid (∀ w', Calls Try.prog 30 #[.string Sb] w' fun e w'' => e = .returned (.int .i64 (ob : Nat)) ∧ ∃ k, w'' = w'.drewN k) := Lib.hid (fun w' => by
      have h1 := ropening_any Sb w' (by rw [HSB.out]; have := HBM.out; unfold maxLen at this; show b.toArray.size ≤ _; simp; omega)
      rw [show bx Sb = b by rw [HSB.out]; rfl, ← HOB.out] at h1
      exact h1)
    have RC : Hid (∀ w', Calls Try.prog 30 #[.string Sc] w' fun e w'' => e = .returned (.int .i64 (oc : Nat)) ∧ ∃ k, w'' = w'.drewN k) := Lib.hid (fun w' => by
      have h1 := ropening_any Sc w' (by rw [HSC.out]; have := HVM.out; unfold maxLen at this; show L.toArray.size ≤ _; simp; omega)
      rw [show bx Sc = L by rw [HSC.out]; rfl, ← HOC.out] at h1
      exact h1)
    have OP : Hid (∀ w', Calls Try.prog 29 #[strRow PREB w'] (strWorld PREB w') fun e w'' => e = .returned (.int .i64 0) ∧ ∃ k, w'' = (strWorld PREB w').drewN k) := Lib.hid (fun w' => by
      have h1 := opening_any (str_bytes PREB w' (by decide))
      rw [show opn PREB.data.toList = 0 by decide] at h1
      exact h1)
    have ON : Hid (∀ w', Calls Try.prog 29 #[strRow (PREB.extract 0 N) w'] (strWorld (PREB.extract 0 N) w') fun e w'' => e = .returned (.int .i64 (oN : Nat)) ∧ ∃ k, w'' = (strWorld (PREB.extract 0 N) w').drewN k) := Lib.hid (fun w' => by
      have h1 := opening_any (str_bytes (PREB.extract 0 N) w' (by rw [HSZ.out]; unfold maxLen; omega))
      rw [show (PREB.extract 0 N).data.toList = PRE.take N by rw [pre_cut], ← HON.out] at h1
      exact h1)
    clear hSb hSc hob hoc hoN
    clear hsr0
    have hstr : ∀ S w, (convert 9 22 (.string S)).run Try.prog w = .ok (strRow S w) (strWorld S w) := str_run
    go_upto_region 7 with fail
    have ka := KB.out w3.drew (Chg.refl w3).drew
    have kc := KC.out w3.drew (Chg.refl w3).drew
    go_region_held_law (fun w' => (convert 22 9 (.slice ba b.length bc)).run Try.prog w' = .ok (.string Sb) w' ∧ (convert 22 9 (.slice va L.length vc)).run Try.prog w' = .ok (.string Sc) w') (first | exact ⟨KB.out _ (by first | exact (Chg.refl w3).drew | exact (Chg.refl w3).drewN _ | exact ((Chg.refl w3).drewN _).trans' (str_chg _ _) | exact (((Chg.refl w3).drewN _).trans' (str_chg _ _)).drewN _ | exact ((((Chg.refl w3).drewN _).trans' (str_chg _ _)).drewN _).trans' (str_chg _ _) | exact (((((Chg.refl w3).drewN _).trans' (str_chg _ _)).drewN _).trans' (str_chg _ _)).drewN _), KC.out _ (by first | exact (Chg.refl w3).drew | exact (Chg.refl w3).drewN _ | exact ((Chg.refl w3).drewN _).trans' (str_chg _ _) | exact (((Chg.refl w3).drewN _).trans' (str_chg _ _)).drewN _ | exact ((((Chg.refl w3).drewN _).trans' (str_chg _ _)).drewN _).trans' (str_chg _ _) | exact (((((Chg.refl w3).drewN _).trans' (str_chg _ _)).drewN _).trans' (str_chg _ _)).drewN _)⟩ | go_keep) (first
      | (go_at_call 29; with_reducible refine (OB.out _ (by first | exact (Chg.refl w3).drew | exact (Chg.refl w3).drewN _ | exact ((Chg.refl w3).drewN _).trans' (str_chg _ _) | exact (((Chg.refl w3).drewN _).trans' (str_chg _ _)).drewN _ | exact ((((Chg.refl w3).drewN _).trans' (str_chg _ _)).drewN _).trans' (str_chg _ _) | exact (((((Chg.refl w3).drewN _).trans' (str_chg _ _)).drewN _).trans' (str_chg _ _)).drewN _)).mono ?_; rintro e wa ⟨rfl, ka2, rfl⟩)
      | (go_at_call 29; with_reducible refine (OC.out _ (by first | exact (Chg.refl w3).drew | exact (Chg.refl w3).drewN _ | exact ((Chg.refl w3).drewN _).trans' (str_chg _ _) | exact (((Chg.refl w3).drewN _).trans' (str_chg _ _)).drewN _ | exact ((((Chg.refl w3).drewN _).trans' (str_chg _ _)).drewN _).trans' (str_chg _ _) | exact (((((Chg.refl w3).drewN _).trans' (str_chg _ _)).drewN _).trans' (str_chg _ _)).drewN _)).mono ?_; rintro e wa ⟨rfl, ka2, rfl⟩)
      | (go_at_call 29; with_reducible refine (OP.out _).mono ?_; rintro e wa ⟨rfl, ka2, rfl⟩)
      | (go_at_call 29; with_reducible refine (ON.out _).mono ?_; rintro e wa ⟨rfl, ka2, rfl⟩)
      | (go_at_call 30; with_reducible refine (RB.out _).mono ?_; rintro e wa ⟨rfl, ka2, rfl⟩)
      | (go_at_call 30; with_reducible refine (RC.out _).mono ?_; rintro e wa ⟨rfl, ka2, rfl⟩)
      | fail)
    all_goals
      have CE : Hid (∀ a k1 k2, Chg [] W ((strWorld (PREB.extract 0 N) ((strWorld PREB (w3.drewN a)).drewN k1)).drewN k2)) := Lib.hid (fun a k1 k2 => ((((C3.out.drewN a).trans' (str_chg _ _)).drewN k1).trans' (str_chg _ _)).drewN k2)
      go_wp2_with fail
      go_ret
      exact ⟨rfl, (CE.out _ _ _).below_nil⟩

/-! ### The row's step -/
theorem own : ownKnob Try.prog.godebug = none := by kernel_rfl
theorem laid : laidOutB Try.prog = true := by kernel_rfl

set_option maxRecDepth 100000 in
theorem lifted (os : Os) (started : os.Started) (H : Type) (enc : TypeId × Value → H) :
    ReturnsInHanded {} Try.checked os 11 .any (Rows.frameOpensSpec.pre6 enc Try.prog Try.f11 Rows.frameOpensRow.domain false) (Rows.frameOpensSpec.post enc Try.prog Try.f11 false true false false) := by
  refine lift_law (C := Try.checked) (tb := 4) own started (by kernel_rfl) Try.func11
    (ChangeSpec.witness6 (enc := enc) (C := Try.checked) false ⟨#[], #[.slice none 0 0, .int .i64 0, .slice none 0 0], []⟩ 8 (by kernel_rfl) (by kernel_rfl) (by kernel_rfl) (by kernel_rfl))
    laid (by rw [Try.params11]; intro t ht; simp only [List.mem_cons, List.not_mem_nil, or_false] at ht; rcases ht with rfl | rfl | rfl <;> exact ⟨by kernel_rfl, of_decide_eq_true (by kernel_rfl)⟩) (by kernel_rfl) Try.underlying4 rfl
    (fun ds h => by rw [Try.params11] at h; match ds, h with | [d0, d1, d2], _ => rfl) ?_
  intro W base args ds before hval hA hlt hsz
  rw [Try.params11] at hA hval
  try rw [Try.params11] at hsz
  have hlt0 := hlt
  obtain ⟨v0, vs0, d0, ds0, p0, q0, hargs, rfl, rfl, h0, r0⟩ := trodAll_cons hA
  obtain ⟨v1, vs1, d1, ds1, p1, q1, rfl, rfl, rfl, h1, r1⟩ := trodAll_cons r0
  obtain ⟨v2, vs2, d2, ds2, p2, q2, rfl, rfl, rfl, h2, r2⟩ := trodAll_cons r1
  obtain ⟨rfl, rfl, rfl⟩ := trodAll_nil r2
  obtain rfl : args = #[v0, v1, v2] := by cases args; simp_all
  have l0 : ∀ p ∈ p0, p.block < W.heap.size := fun x hx => hlt x (by simp [hx])
  have l1 : ∀ p ∈ p1, p.block < W.heap.size := fun x hx => hlt x (by simp [hx])
  have l2 : ∀ p ∈ p2, p.block < W.heap.size := fun x hx => hlt x (by simp [hx])
  obtain ⟨l0, m0, s0⟩ := open_bytes (hval 0 22 v0 rfl rfl) h0 l0
  obtain ⟨n1, rfl, rfl, rfl, wn1⟩ := open_int Try.underlying3 (hval 1 3 v1 rfl rfl) h1
  obtain ⟨l2, m2, s2⟩ := open_bytes_w (hval 2 22 v2 rfl rfl) h2 l2 (small_of hsz (j := 2) rfl rfl)
  exact walk v0 v2 l0 l2 n1 W s0 s2 m2 (i64_bounds wn1)

theorem over : Rows.frameOpensRow.holds Try.pinned (OpenSpec.ofChange Rows.frameOpensSpec) :=
  OpenClaim.holds_of_wide 11 Try.f11 rfl rfl rfl rfl rfl rfl rfl ⟨rfl, rfl, rfl, rfl, rfl⟩ rfl rfl rfl rfl rfl (by kernel_rfl) Try.func11 (by kernel_rfl)
    (of_decide_eq_true (by kernel_rfl)) (by unfold Func.isWrapper; first | (rw [if_pos (by decide +kernel)]; kernel_rfl) | (rw [if_neg (by decide +kernel)]; exact ⟨rfl, rfl⟩))
    (fun os started H enc _ => lifted os started H enc)

/-- The statement. -/
theorem proved : Rows.FrameOpensSaid :=
  over
#print axioms proved

end Go.Proofs.Ythhgnipiaohplaa.Opens
