/-
  HintsKept: a text that is written is read as it was: any text (of a hundred thousand octets), and whatever stands behind.
-/
import Derived.Test.YtpelnhfohfojhaaShow
import Derived.Test.YtpelnhfohfojhaaPacked
import Derived.Test.YtpelnhfohfojhaaArgW
import Derived.Test.YtpelnhfohfojhaaLater
import Derived.Deep.DeepCutAuto
import Derived.Deep.DeepAppendWide
import Derived.ChangeMaps5
namespace Go.Proofs.Ytpelnhfohfojhaa.HKept
open Go.ChangeShapes Go.WideShapes Go.ChangeAt Go.RowKit
open Go.ChangeMaps (open_string)
open Go.Proofs.Ytpelnhfohfojhaa.B Go.Proofs.Ytpelnhfohfojhaa.Hi
open Go.Proofs.Ytpelnhfohfojhaa.Hf (bx need)
set_option linter.unusedVariables false
set_option linter.unusedSimpArgs false

theorem take_bytes {w : World} {ad : Option Addr} {n cap k : Nat} {l : List UInt8} (h : BytesOf w (.slice ad n cap) l) (hk : k ≤ l.length) : BytesOf w (.slice ad k cap) (l.take k) := by
  obtain ⟨ad', cap', he, h2, h3, h4⟩ := h
  cases he
  refine ⟨ad, cap, by rw [List.length_take, Nat.min_eq_left hk], by rw [List.length_take]; omega, h3, fun h0 => ?_⟩
  rw [List.length_take] at h0
  obtain ⟨b, off, h5, h6, h7⟩ := h4 (by omega)
  refine ⟨b, off, h5, h6, fun i z hz => ?_⟩
  rw [List.getElem?_take] at hz
  split at hz
  · exact h7 i z hz
  · cases hz
theorem bx_str (s : ByteArray) : (⟨(bx s).toArray⟩ : ByteArray) = s := by simp [bx]
/-- 'append' of octets, the bound towards the runtime's own test. -/
theorem run_wide {w : World} (base : Nat) (ty : TypeId) (v : Value) (l : List UInt8) (hown : OwnB w base v l) (u : Value) (m : List UInt8) (hu : BytesOf w u m)
    (hb : l.length + m.length ≤ 140737488455328) (hbase : base ≤ w.heap.size) :
    ∃ v' w', (Builtin.append_ #[23, 23] ty #[v, u]).run Try.prog w = .ok v' w' ∧ OwnB w' base v' (l ++ m) ∧ Chg v.ownBlock.toList w w' := by
  obtain ⟨i, hi, hz, hsz, hby⟩ := info_parts infoB
  obtain ⟨ad, cap, rfl, h1, h2⟩ := hu.slice
  cases ad with
  | none =>
    have hm : m = [] := by
      cases m with
      | nil => rfl
      | cons c m => obtain ⟨b, off, h, _⟩ := hu.cell (by simp); cases h
    subst hm
    exact ⟨v, w, run_append_of_nil w base 23 ty 5 i 1 Try.underlying23 hi v _ _ hown cap, by rw [List.append_nil]; exact hown, Chg.refl _⟩
  | some ad =>
    obtain ⟨v', w', hr, q1, q2, _⟩ := run_append_own_wide (P := Try.prog) w base 23 ty 5 i (.int .u8 0) 1 1 Try.underlying23 hi hz hsz hby rfl (by decide) v l.length (rowB l) hown ad m.length cap (rowB m) (by simp [rowB])
      (fun j y hy => by
        rw [rowB_get] at hy
        obtain ⟨c, hc, rfl⟩ := Option.map_eq_some_iff.1 hy
        obtain ⟨b, off, h, _, hcell⟩ := hu.cell (by have := (List.getElem?_eq_some_iff.1 hc).1; omega)
        cases h
        rw [add_off, hcell j c hc]) (rowB_one m) (by simp only [maxLen]; omega) (by omega) hbase
    exact ⟨v', w', hr, by unfold OwnB; rw [List.length_append, rowB_append]; exact q1, Chg.grown q2⟩
theorem app_wide {w : World} {ops : Array Oper} {rest : List Oper} {o : Oper} {a : Act} {Q : Exit → Act → World → Prop} (hgd : o.guard = none) (s x : Operand)
    (ho : o.op = .call { callee := .builtin .append, args := #[s, x], argTypes := #[23, 23] })
    (base : Nat) (v : Value) (l : List UInt8) (hs : a.eval s = v) (hown : OwnB w base v l)
    (u : Value) (m : List UInt8) (hx : a.eval x = u) (hu : BytesOf w u m)
    (hb : l.length + m.length ≤ 140737488455328) (hbase : base ≤ w.heap.size)
    (h : ∀ v' w', OwnB w' base v' (l ++ m) → Chg v.ownBlock.toList w w' → wpList Try.prog ops Q rest (a.put o.dst v') w') : wpList Try.prog ops Q (o :: rest) a w := by
  refine wpList_plain hgd fun _ hK => ?_
  obtain ⟨v', w', hr, h2, h3⟩ := run_wide base o.type v l hown u m hu hb hbase
  unfold Oper.wp execOp
  simp only [ho, resolve, invoke, builtin, Sem.run_bind, Sem.run_pure, Result.andThen_ok, List.map_toArray, List.map_cons, List.map_nil, hs, hx, hr]
  exact hK _ _ (h v' w' h2 h3)
set_option maxRecDepth 100000 in
set_option maxHeartbeats 8000000 in
theorem walk (s : ByteArray) (bv : Value) (t : List UInt8) (cut : Int) (W : World) (hm : t.length ≤ 140737488351232) (hsm : s.size ≤ maxLen) (hb : BytesOf W bv t) (hc1 : -9223372036854775808 ≤ cut) (hc2 : cut ≤ 9223372036854775807) :
    Calls Try.prog 8 #[.string s, bv, .int .i64 cut] W fun e w' => e = .returned (.bool true) ∧ Below W.heap.size W w' := by
  have HBV := Lib.hid hb
  unfold maxLen at hsm
  clear hb
  by_cases hbig : 100000 < s.size
  · have hbig' : (100000 : Int) < s.size := by omega
    go_enter Try.func8, Try.ntmps8
    go_wp2_with fail
    refine (shown_any _).mono ?_; rintro e w1 ⟨rfl, c1⟩
    go_wp2_with fail
    go_ret
    exact ⟨rfl, c1.below_nil⟩
  have hbig' : ¬ (100000 : Int) < s.size := by omega
  have hs5 : s.size ≤ 100000 := by omega
  clear hbig
  have hbl : (bx s).length = s.size := by simp [bx]
  obtain ⟨D, hD⟩ : ∃ D, D = putT (bx s) := ⟨_, rfl⟩
  obtain ⟨k1, k2, k4, k5, k6, c, r, k3, k7⟩ := kept (bx s) t (by omega)
  rw [← hD] at k1 k2 k3 k4 k5 k6 k7
  obtain ⟨G, hG⟩ : ∃ G, G = putN 0 7 s.size := ⟨_, rfl⟩
  rw [hbl, ← hG] at k4
  have hputi : putI 0 7 (s.size : Int) = (G, 0) := by rw [hG]; exact putI_in (P := 7) (V := s.size) (by decide) (by decide) (by omega)
  have hGl : G.length ≤ 6 := by have := putI_len 0 7 (s.size : Int); rw [hputi] at this; exact this
  have hc8 : (c.toNat : Int) < 256 := by have := c.toNat_lt; omega
  rw [hbl] at k7
  have hz : decide ((128 : Int) ≤ (c.toNat : Int)) = (decide ((1 : Int) < (D.length : Int)) && decide (need (bx s) < s.size)) := by
    rw [Bool.eq_iff_iff, Bool.and_eq_true, decide_eq_true_iff, decide_eq_true_iff, decide_eq_true_iff]
    constructor
    · intro h; have := k7.1 (by omega); exact ⟨by omega, this.2⟩
    · intro h; have := k7.2 ⟨by omega, h.2⟩; omega
  have HD := Lib.hid hD; have K1 := Lib.hid k1; have K2 := Lib.hid k2; have K3 := Lib.hid k3; have HPI := Lib.hid hputi; have HZ := Lib.hid hz
  clear k1 k2 k3 hputi hD k7 hbl hG hz
  go_enter Try.func8, Try.ntmps8
  go_wp2_with fail
  refine (shown_any _).mono ?_; rintro e w1 ⟨rfl, c1⟩
  have b1 := HBV.out.chg0 c1
  have HC1 := Lib.hid c1; have B1 := Lib.hid b1
  clear c1 b1
  go_wp2_with fail
  refine (puttext_any s _ (by omega)).mono ?_; rintro e w2 ⟨rv, rfl, o2, c2⟩
  rw [← HD.out] at o2
  have b2 := B1.out.chg0 c2
  obtain ⟨ra, rc, rfl⟩ := o2.slice
  have p2 := o2.bytes
  obtain ⟨ob, oo, rfl, hbw, hcell⟩ := p2.cell (by omega)
  have C2 := Lib.hid (HC1.out.trans' c2); have B2 := Lib.hid b2; have P2 := Lib.hid p2
  clear c2 b2 hcell o2 p2
  go_wp2_with (at_builtin; refine app_any rfl _ _ rfl w2.heap.size (.slice (some ⟨w2.heap.size, 0, none⟩) 0 0) [] rfl (OwnB.empty (Nat.le_refl _)) _ D rfl (P2.out.chg0 ((Chg.refl _).alloc _)) (by simp; omega) (by simp) ?_)
  intro v3 w3 own3 hch3 _
  have c3 : Chg [] w2 w3 := ((Chg.refl w2).alloc _).trans hch3 (fun x hx => Or.inr (by simp [Value.ownBlock] at hx; omega))
  have own3' : OwnB w3 w2.heap.size v3 D := own3
  have C3 := Lib.hid c3; have O3 := Lib.hid own3'
  have hs3 := c3.size
  clear c3 own3 own3' hch3
  go_wp2_with (at_builtin; refine app_wide rfl _ _ rfl w2.heap.size v3 D rfl O3.out bv t rfl (B2.out.chg0 C3.out) (by omega) (by omega) ?_)
  intro v4 w4 own4 hch4
  have c4 : Chg [] w2 w4 := C3.out.trans hch4 (fun x hx => Or.inr (O3.out.lo x hx))
  have O4 := Lib.hid own4; have C4 := Lib.hid c4
  clear own4 hch4 c4
  go_wp2_with fail
  refine (gettext_any v4 (D ++ t) _ O4.out.bytes).mono ?_; rintro e w5 ⟨he, c5⟩
  rw [K1.out] at he
  unfold txt at he
  simp only at he
  rw [bx_str] at he
  subst he
  have C5 := Lib.hid (C2.out.trans' (C4.out.trans' c5)); have P5 := Lib.hid (P2.out.chg0 (C4.out.trans' c5))
  clear c5
  go_wp2_with fail
  refine (putint_any 0 7 (s.size : Int) _).mono ?_; rintro e w6 ⟨rv, he, o6, c6⟩
  rw [HPI.out] at he o6
  simp only at he o6
  subst he
  obtain ⟨ga, gc, rfl⟩ := o6.slice
  have C6 := Lib.hid (C5.out.trans' c6); have P6 := Lib.hid (P5.out.chg0 c6)
  clear c6 o6
  by_cases hneg : cut < 0
  · obtain ⟨C, hC⟩ := Int.eq_ofNat_of_zero_le (show 0 ≤ -(cut + 1) by omega)
    obtain ⟨K, hK⟩ : ∃ K, K = C % D.length := ⟨_, rfl⟩
    have hKl : K < D.length := by rw [hK]; exact Nat.mod_lt _ (by omega)
    have eK : (C : Int) % (D.length : Int) = (K : Int) := by rw [hK]; rfl
    have HK := Lib.hid hK
    clear hK
    skip
    have hrc : (K : Int) ≤ (rc : Int) := by
      obtain ⟨_, _, hq, h7, _⟩ := P6.out.slice
      cases hq
      omega
    go_wp2_with fail
    refine (gettext_any _ (D.take K) _ (take_bytes P6.out (by omega))).mono ?_; rintro e w7 ⟨he, c7⟩
    rw [K2.out K hKl] at he
    unfold txt at he
    simp only at he
    subst he
    have C7 := Lib.hid (C6.out.trans' c7); have P7 := Lib.hid (P6.out.chg0 c7)
    clear c7
    go_upto_region 13 with fail
    have d0 : ∀ x : Later [] w7, x.world.cell? ⟨ob, oo, none⟩ = some (.int .u8 (c.toNat : Int)) := fun x => by
      obtain ⟨_, _, hx, hbw, hcell⟩ := (P7.out.chg0 x.chg).cell (by omega)
      cases hx
      have := hcell 0 c (by rw [K3.out]; rfl)
      rwa [Nat.add_zero] at this
    have q0 : decide ((D.length : Int) ≤ (G.length : Int) + (s.size : Int)) = true := decide_eq_true (by omega)
    have hz := HZ.out
    by_cases h1 : 1 < D.length
    · have hd : decide ((1 : Int) < (D.length : Int)) = true := decide_eq_true (by omega)
      rw [hd, Bool.true_and] at hz
      skip
      refine wp_region_later (S := []) (by kernel_rfl) (by kernel_rfl) ?_
      repeat (go_big_quiet_step ((go_at_call 18; exact Calls.later (packed_any s _ (by omega)))))
      refine wpQuiet_nil ?_
      intro _ hw'
      obtain ⟨xq, rfl⟩ := hw'
      go_wp2_with fail
      go_ret
      exact ⟨rfl, (C7.out.trans' xq.chg).below_nil⟩
    · have hd : decide ((1 : Int) < (D.length : Int)) = false := decide_eq_false (by omega)
      rw [hd, Bool.false_and] at hz
      skip
      refine wp_region_later (S := []) (by kernel_rfl) (by kernel_rfl) ?_
      repeat (go_big_quiet_step ((go_at_call 18; exact Calls.later (packed_any s _ (by omega)))))
      refine wpQuiet_nil ?_
      intro _ hw'
      obtain ⟨xq, rfl⟩ := hw'
      go_wp2_with fail
      go_ret
      exact ⟨rfl, (C7.out.trans' xq.chg).below_nil⟩
  · obtain ⟨K, hK⟩ : ∃ K, K = cut.toNat % D.length := ⟨_, rfl⟩
    obtain ⟨C, rfl⟩ := Int.eq_ofNat_of_zero_le (show 0 ≤ cut by omega)
    rw [show ((C : Int)).toNat = C from rfl] at hK
    have hKl : K < D.length := by rw [hK]; exact Nat.mod_lt _ (by omega)
    have eK : (C : Int) % (D.length : Int) = (K : Int) := by rw [hK]; rfl
    have HK := Lib.hid hK
    clear hK
    skip
    have hrc : (K : Int) ≤ (rc : Int) := by
      obtain ⟨_, _, hq, h7, _⟩ := P6.out.slice
      cases hq
      omega
    go_wp2_with fail
    refine (gettext_any _ (D.take K) _ (take_bytes P6.out (by omega))).mono ?_; rintro e w7 ⟨he, c7⟩
    rw [K2.out K hKl] at he
    unfold txt at he
    simp only at he
    subst he
    have C7 := Lib.hid (C6.out.trans' c7); have P7 := Lib.hid (P6.out.chg0 c7)
    clear c7
    go_upto_region 13 with fail
    have d0 : ∀ x : Later [] w7, x.world.cell? ⟨ob, oo, none⟩ = some (.int .u8 (c.toNat : Int)) := fun x => by
      obtain ⟨_, _, hx, hbw, hcell⟩ := (P7.out.chg0 x.chg).cell (by omega)
      cases hx
      have := hcell 0 c (by rw [K3.out]; rfl)
      rwa [Nat.add_zero] at this
    have q0 : decide ((D.length : Int) ≤ (G.length : Int) + (s.size : Int)) = true := decide_eq_true (by omega)
    have hz := HZ.out
    by_cases h1 : 1 < D.length
    · have hd : decide ((1 : Int) < (D.length : Int)) = true := decide_eq_true (by omega)
      rw [hd, Bool.true_and] at hz
      skip
      refine wp_region_later (S := []) (by kernel_rfl) (by kernel_rfl) ?_
      repeat (go_big_quiet_step ((go_at_call 18; exact Calls.later (packed_any s _ (by omega)))))
      refine wpQuiet_nil ?_
      intro _ hw'
      obtain ⟨xq, rfl⟩ := hw'
      go_wp2_with fail
      go_ret
      exact ⟨rfl, (C7.out.trans' xq.chg).below_nil⟩
    · have hd : decide ((1 : Int) < (D.length : Int)) = false := decide_eq_false (by omega)
      rw [hd, Bool.false_and] at hz
      skip
      refine wp_region_later (S := []) (by kernel_rfl) (by kernel_rfl) ?_
      repeat (go_big_quiet_step ((go_at_call 18; exact Calls.later (packed_any s _ (by omega)))))
      refine wpQuiet_nil ?_
      intro _ hw'
      obtain ⟨xq, rfl⟩ := hw'
      go_wp2_with fail
      go_ret
      exact ⟨rfl, (C7.out.trans' xq.chg).below_nil⟩
theorem walk' (s : ByteArray) (bv : Value) (t : List UInt8) (cut : Int) (W : World) (hm : t.length ≤ 140737488351232) (hsm : s.size ≤ maxLen) (hb : BytesOf W bv t) (hc : (Lit.int .i64 cut).wf = true) :
    Calls Try.prog 8 #[.string s, bv, .int .i64 cut] W fun e w' => e = .returned (.bool true) ∧ Below W.heap.size W w' := by
  have h : -9223372036854775808 ≤ cut ∧ cut ≤ 9223372036854775807 := by
    simp [Lit.wf, IntKind.min, IntKind.max, IntKind.signed, IntKind.bits] at hc; omega
  exact walk s bv t cut W hm hsm hb h.1 h.2

/-! ### The row's step -/
theorem own : ownKnob Try.prog.godebug = none := by kernel_rfl
theorem laid : laidOutB Try.prog = true := by kernel_rfl

set_option maxRecDepth 100000 in
theorem lifted (os : Os) (started : os.Started) (H : Type) (enc : TypeId × Value → H) :
    ReturnsInHanded {} Try.checked os 8 .any (Rows.hintsKeptSpec.pre6 enc Try.prog Try.f8 Rows.hintsKeptRow.domain false) (Rows.hintsKeptSpec.post enc Try.prog Try.f8 false true false false) := by
  refine lift_law (C := Try.checked) (tb := 4) own started (by kernel_rfl) Try.func8
    (ChangeSpec.witness6 (enc := enc) (C := Try.checked) false ⟨#[], #[.string ⟨#[]⟩, .slice none 0 0, .int .i64 0], []⟩ 8 (by kernel_rfl) (by kernel_rfl) (by kernel_rfl) (by kernel_rfl))
    laid (by rw [Try.params8]; intro t ht; simp only [List.mem_cons, List.not_mem_nil, or_false] at ht; rcases ht with rfl | rfl | rfl <;> exact ⟨by kernel_rfl, of_decide_eq_true (by kernel_rfl)⟩) (by kernel_rfl) Try.underlying4 rfl
    (fun ds h => by rw [Try.params8] at h; match ds, h with | [d0, d1, d2], _ => rfl) ?_
  intro W base args ds before hval hA hlt hsz
  rw [Try.params8] at hA hval
  try rw [Try.params8] at hsz
  have hlt0 := hlt
  obtain ⟨v0, vs0, d0, ds0, p0, q0, hargs, rfl, rfl, h0, r0⟩ := trodAll_cons hA
  obtain ⟨v1, vs1, d1, ds1, p1, q1, rfl, rfl, rfl, h1, r1⟩ := trodAll_cons r0
  obtain ⟨v2, vs2, d2, ds2, p2, q2, rfl, rfl, rfl, h2, r2⟩ := trodAll_cons r1
  obtain ⟨rfl, rfl, rfl⟩ := trodAll_nil r2
  obtain rfl : args = #[v0, v1, v2] := by cases args; simp_all
  have l0 : ∀ p ∈ p0, p.block < W.heap.size := fun x hx => hlt x (by simp [hx])
  have l1 : ∀ p ∈ p1, p.block < W.heap.size := fun x hx => hlt x (by simp [hx])
  have l2 : ∀ p ∈ p2, p.block < W.heap.size := fun x hx => hlt x (by simp [hx])
  obtain ⟨s0, rfl, rfl, rfl, m0⟩ := open_string Try.underlying9 (hval 0 9 v0 rfl rfl) h0
  obtain ⟨l1, m1, s1⟩ := open_bytes_w (hval 1 23 v1 rfl rfl) h1 l1 (small_of hsz (j := 1) rfl rfl)
  obtain ⟨a2, rfl, rfl, rfl, wa2⟩ := open_int Try.underlying3 (hval 2 3 v2 rfl rfl) h2
  exact walk' s0 v1 l1 a2 W m1 m0 s1 wa2

theorem over : Rows.hintsKeptRow.holds Try.pinned (OpenSpec.ofChange Rows.hintsKeptSpec) :=
  OpenClaim.holds_of_wide 8 Try.f8 rfl rfl rfl rfl rfl rfl rfl ⟨rfl, rfl, rfl, rfl, rfl⟩ rfl rfl rfl rfl rfl (by kernel_rfl) Try.func8 (by kernel_rfl)
    (of_decide_eq_true (by kernel_rfl)) (by unfold Func.isWrapper; first | (rw [if_pos (by decide +kernel)]; kernel_rfl) | (rw [if_neg (by decide +kernel)]; exact ⟨rfl, rfl⟩))
    (fun os started H enc _ => lifted os started H enc)

/-- The statement. -/
theorem proved : Rows.HintsKeptSaid :=
  over
#print axioms proved

end Go.Proofs.Ytpelnhfohfojhaa.HKept
