/-
  PoolTurns: a place that is taken and freed again is as if it never had been: any steps on a pool of eight.
-/
import Derived.Test.YthinceoklkjcpaaPoolF
import Derived.Test.YthinceoklkjcpaaLift
namespace Go.Proofs.Ythinceoklkjcpaa.Pool
open Go.ChangeShapes Go.WideShapes Go.ChangeAt Go.RowKit
open Go.Proofs.Ythinceoklkjcpaa.B
set_option linter.unusedVariables false
set_option linter.unusedSimpArgs false
structure O where
  kind : Int
  id : Int
  n : Int
structure O.Ok (o : O) : Prop where
  a : -9223372036854775808 ≤ o.kind ∧ o.kind ≤ 9223372036854775807
  b : -9223372036854775808 ≤ o.id ∧ o.id ≤ 9223372036854775807
  c : -9223372036854775808 ≤ o.n ∧ o.n ≤ 9223372036854775807
def encO (o : O) : List Value := [.int .i64 o.kind, .int .i64 o.id, .int .i64 o.n]
theorem decO {H : Type} {enc : TypeId × Value → H} {W : World} (n : Nat) (cs : List Value) (x : DataW H × List MemPlace) (hl : cs.length = 3)
    (h : DataW.trod enc Try.prog W 0 (fun _ => true) true n 36 cs = some x) : ∃ z, cs = encO z ∧ O.Ok z := by
  obtain ⟨xs, k, hk, hx, hlen, hxl, hf⟩ := DataW.trod_struct Try.underlying36 h
  have g0 : DataW.trod enc Try.prog W 0 (fun _ => true) true k 3 ((cs.drop 0).take (Try.prog.cellsOf 3)) = xs[0]? := hf 0 _ rfl
  have g1 : DataW.trod enc Try.prog W 0 (fun _ => true) true k 3 ((cs.drop 1).take (Try.prog.cellsOf 3)) = xs[1]? := hf 1 _ rfl
  have g2 : DataW.trod enc Try.prog W 0 (fun _ => true) true k 3 ((cs.drop 2).take (Try.prog.cellsOf 3)) = xs[2]? := hf 2 _ rfl
  match xs, hxl, cs, hl with
  | [y0, y1, y2], _, [v0, v1, v2], _ =>
    simp only [show Try.prog.cellsOf 3 = 1 from by kernel_rfl] at g0 g1 g2
    obtain ⟨a, ha, _, hwa⟩ := DataW.trod_int Try.underlying3 (by simpa using g0)
    obtain ⟨b, hb, _, hwb⟩ := DataW.trod_int Try.underlying3 (by simpa using g1)
    obtain ⟨c, hc, _, hwc⟩ := DataW.trod_int Try.underlying3 (by simpa using g2)
    simp at ha hb hc
    exact ⟨⟨a, b, c⟩, by simp [encO, ha, hb, hc], i64_bounds hwa, i64_bounds hwb, i64_bounds hwc⟩
end Go.Proofs.Ythinceoklkjcpaa.Pool
namespace Go.Proofs.Ythinceoklkjcpaa.Turns
open Go.ChangeShapes Go.WideShapes Go.ChangeAt Go.RowKit
open Go.Proofs.Ythinceoklkjcpaa.B Go.Proofs.Ythinceoklkjcpaa.Pool
set_option linter.unusedVariables false
set_option linter.unusedSimpArgs false
theorem m7 (n : Int) : Go.bits .and .i64 n 7 ≤ 9223372036854775807 := by
  have h : 0 ≤ Go.bits .and .i64 n 7 ∧ Go.bits .and .i64 n 7 ≤ 7 := i64_and_le n 7 (by decide)
  omega
theorem used_bd {most : Int} {cs : List Cn} (h : Inv most cs) (d : Int) : 0 ≤ usedR cs d ∧ usedR cs d ≤ 9223372036854775807 := by
  unfold usedR
  cases hp : pos cs d with
  | none => simp
  | some i => exact ⟨(h.at (pos_lt hp)).u0, (h.at (pos_lt hp)).u1⟩
set_option maxRecDepth 100000 in
set_option maxHeartbeats 4000000 in
theorem walk (v : Value) (l : List O) (W : World) (hm : l.length ≤ maxLen) (hs : SliceOf W v 3 encO l) (hok : ∀ o ∈ l, o.Ok) :
    Calls Try.prog 8 #[v] W fun e w' => e = .returned (.bool true) ∧ Below W.heap.size W w' := by
  unfold maxLen at hm
  obtain ⟨a, cap, rfl, hc, hcm, hcell⟩ := hs
  have HCELL := Lib.hid hcell; have HOK := Lib.hid hok
  clear hcell hok
  go_enter Try.func8, Try.ntmps8
  go_wp2_with fail
  refine (shown_any _).mono ?_; rintro e w1 ⟨rfl, hb1⟩
  go_wp2_with fail
  refine (H_new 8 w1 hb1).mono ?_; rintro e w2 ⟨rfl, h2⟩
  have h2 : Has W w2 w1.heap.size 8 [] := h2
  generalize w1.heap.size = p at *
  go_wp2_with fail
  go_loopw [5] (fun iv wr => ∃ (k : Nat) (cs : List Cn), k ≤ l.length ∧ k ≤ 200 ∧ iv = .int .i64 k ∧ Has W wr p 8 cs ∧ Inv 8 cs) (fun iv _ => l.length - (intOf iv).toNat)
  case atStart => exact ⟨0, [], by omega, by omega, rfl, h2, Inv.nil (by decide) (by decide)⟩
  case round =>
    clear h2
    obtain ⟨k, cs, hk, hk2, rfl, hh, hi⟩ := hrel
    by_cases hlt : k < l.length ∧ k < 200
    · obtain ⟨hlt, h20⟩ := hlt
      obtain ⟨b, off, rfl, hb, hcells⟩ := HCELL.out (by omega)
      obtain ⟨z, hz⟩ : ∃ z, l[k]? = some z := ⟨_, List.getElem?_eq_getElem hlt⟩
      have c0 : wr.cell? ⟨b, off + k * 3, none⟩ = some (.int .i64 z.kind) := by rw [hh.below.cell hb]; exact hcells k z hz 0 (by omega)
      have c1 : wr.cell? ⟨b, off + k * 3 + 1, none⟩ = some (.int .i64 z.id) := by rw [hh.below.cell hb]; exact hcells k z hz 1 (by omega)
      have c2 : wr.cell? ⟨b, off + k * 3 + 2, none⟩ = some (.int .i64 z.n) := by rw [hh.below.cell hb]; exact hcells k z hz 2 (by omega)
      obtain ⟨oa, ob, oc⟩ := HOK.out z (List.mem_of_getElem? hz)
      have h3 := Lib.hid (hh.step ((Chg.refl wr).alloc (l := []) (.cells #[.int .i64 z.kind, .int .i64 z.id, .int .i64 z.n] 36)))
      have HI := Lib.hid hi
      clear hz hcells hh hi
      obtain ⟨kd, hkd⟩ : ∃ kd, kd = z.kind := ⟨_, rfl⟩
      obtain ⟨zd, hzd⟩ : ∃ zd, zd = z.id := ⟨_, rfl⟩
      obtain ⟨zn, hzn⟩ : ∃ zn, zn = z.n := ⟨_, rfl⟩
      rw [← hkd] at c0 oa h3
      rw [← hzd] at c1 ob h3
      rw [← hzn] at c2 oc h3
      clear hkd hzd hzn
      rcases eqC kd 1 with ⟨rfl, _⟩ | ⟨n1, g1⟩
      · go_wp2_with fail
        refine (X_add _ _ _ h3.out HI.out).mono ?_; rintro e w4 ⟨rfl, h4, _⟩
        have h9 := h4
        clear h4
        go_wp2_with fail
        go_roundw
        case rel => exact ⟨k + 1, _, by omega, by omega, by go_num, h9, HI.out.add _ _ (m7 zn)⟩
        case measure => simp [intOf]; omega
      rcases eqC kd 2 with ⟨rfl, _⟩ | ⟨n2, g2⟩
      · go_wp2_with fail
        refine (X_slots _ _ _ h3.out).mono ?_; rintro e w4 ⟨rfl, h4, _⟩
        have h9 := h4
        clear h4
        go_wp2_with fail
        go_roundw
        case rel => exact ⟨k + 1, _, by omega, by omega, by go_num, h9, HI.out.slots _ _ (m7 zn)⟩
        case measure => simp [intOf]; omega
      rcases eqC kd 3 with ⟨rfl, _⟩ | ⟨n3, g3⟩
      · go_wp2_with fail
        refine (X_drain _ _ h3.out).mono ?_; rintro e w4 ⟨rfl, h4, _⟩
        have h9 := h4
        clear h4
        go_wp2_with fail
        go_roundw
        case rel => exact ⟨k + 1, _, by omega, by omega, by go_num, h9, HI.out.drain _⟩
        case measure => simp [intOf]; omega
      rcases eqC kd 4 with ⟨rfl, _⟩ | ⟨n4, g4⟩
      · go_wp2_with fail
        refine (X_remove _ _ h3.out).mono ?_; rintro e w4 ⟨rfl, h4, _⟩
        have h9 := h4
        clear h4
        go_wp2_with fail
        go_roundw
        case rel => exact ⟨k + 1, _, by omega, by omega, by go_num, h9, HI.out.remove _⟩
        case measure => simp [intOf]; omega
      rcases eqC kd 5 with ⟨rfl, _⟩ | ⟨n5, g5⟩
      · go_wp2_with fail
        refine (X_free _ _ h3.out HI.out).mono ?_; rintro e w4 ⟨rfl, h4, _⟩
        have h9 := h4
        clear h4
        go_wp2_with fail
        go_roundw
        case rel => exact ⟨k + 1, _, by omega, by omega, by go_num, h9, HI.out.free _⟩
        case measure => simp [intOf]; omega
      go_wp2_with fail
      refine (X_take _ h3.out HI.out).mono ?_; rintro e w4 ⟨he, h4, _⟩
      obtain ⟨id, ok, hr⟩ : ∃ id ok, takeR cs = (id, ok) := ⟨_, _, rfl⟩
      have ht := @take_free cs 8 HI.out
      rw [hr] at he ht
      simp only at he ht
      subst he
      cases ok
      · have h9 := h4
        clear h4 ht hr
        go_wp2_with fail
        go_roundw
        case rel => exact ⟨k + 1, _, by omega, by omega, by go_num, h9, HI.out.take⟩
        case measure => simp [intOf]; omega
      · obtain ⟨t1, t2, t3⟩ := ht rfl
        have hub := used_bd HI.out id
        have hub2 := used_bd HI.out.take id
        obtain ⟨u, hu⟩ : ∃ u, u = usedR cs id := ⟨_, rfl⟩
        rw [t3] at hub2
        rw [← hu] at hub hub2 t3
        obtain ⟨ub1, ub2⟩ := hub
        obtain ⟨ub3, ub4⟩ := hub2
        have H4 := Lib.hid h4; have T1 := Lib.hid t1; have T2 := Lib.hid t2; have T3 := Lib.hid t3; have HU := Lib.hid hu; have HR := Lib.hid hr
        clear h4 t1 t2 t3 hu hr ht c0 c1 c2
        go_wp2_with fail
        refine (X_used id _ H4.out).mono ?_; rintro e w5 ⟨he, rfl⟩; rw [T3.out] at he; subst he
        go_wp2_with fail
        refine (X_free id _ H4.out HI.out.take).mono ?_; rintro e w5 ⟨he, h5, _⟩; rw [T1.out] at he; subst he
        rw [T2.out] at h5
        have H5 := Lib.hid h5
        clear h5
        go_wp2_with fail
        refine (X_used id _ H5.out).mono ?_; rintro e w6 ⟨he, rfl⟩; rw [← HU.out] at he; subst he
        go_wp2_with fail
        refine (X_take _ H5.out HI.out).mono ?_; rintro e w6 ⟨he, h6, _⟩; rw [HR.out] at he; subst he
        have H6 := Lib.hid h6
        clear h6
        go_wp2_with fail
        refine (X_used id _ H6.out).mono ?_; rintro e w7 ⟨he, rfl⟩; rw [T3.out] at he; subst he
        have h9 := H6.out
        go_wp2_with fail
        go_roundw
        case rel => exact ⟨k + 1, _, by omega, by omega, by go_num, h9, HI.out.take⟩
        case measure => simp [intOf]; omega
    · by_cases hlt2 : k < l.length
      · have h20 : ¬ k < 200 := by omega
        clear hlt
        go_wp2_with fail
        go_ret
        exact ⟨rfl, hh.below⟩
      · clear hlt
        go_wp2_with fail
        go_ret
        exact ⟨rfl, hh.below⟩

/-! ### The row's step -/
theorem own : ownKnob Try.prog.godebug = none := by kernel_rfl
theorem laid : laidOutB Try.prog = true := by kernel_rfl

set_option maxRecDepth 100000 in
theorem lifted (os : Os) (started : os.Started) (H : Type) (enc : TypeId × Value → H) :
    ReturnsInHanded {} Try.checked os 8 .any (Rows.poolTurnsSpec.pre6 enc Try.prog Try.f8 Rows.poolTurnsRow.domain false) (Rows.poolTurnsSpec.post enc Try.prog Try.f8 false true false false) := by
  refine lift_law (C := Try.checked) (tb := 4) own started (by kernel_rfl) Try.func8
    (ChangeSpec.witness6 (enc := enc) (C := Try.checked) false ⟨#[], #[.slice none 0 0], []⟩ 8 (by kernel_rfl) (by kernel_rfl) (by kernel_rfl) (by kernel_rfl))
    laid (by rw [Try.params8]; intro t ht; simp only [List.mem_cons, List.not_mem_nil, or_false] at ht; rcases ht with rfl <;> exact ⟨by kernel_rfl, of_decide_eq_true (by kernel_rfl)⟩) (by kernel_rfl) Try.underlying4 rfl
    (fun ds h => by rw [Try.params8] at h; match ds, h with | [d0], _ => rfl) ?_
  intro W base args ds before hval hA hlt hsz
  rw [Try.params8] at hA hval
  try rw [Try.params8] at hsz
  have hlt0 := hlt
  obtain ⟨v0, vs0, d0, ds0, p0, q0, hargs, rfl, rfl, h0, r0⟩ := trodAll_cons hA
  obtain ⟨rfl, rfl, rfl⟩ := trodAll_nil r0
  obtain rfl : args = #[v0] := by cases args; simp_all
  have l0 : ∀ p ∈ p0, p.block < W.heap.size := fun x hx => hlt x (by simp [hx])
  obtain ⟨zs, zg, zm, zs1⟩ := open_arg_slice 3 encO O.Ok Try.underlying31 (by kernel_rfl) (by omega) (hval 0 31 v0 rfl rfl) decO h0 l0
  exact walk v0 zs W zm zs1 zg

theorem over : Rows.poolTurnsRow.holds Try.pinned (OpenSpec.ofChange Rows.poolTurnsSpec) :=
  OpenClaim.holds_of_wide 8 Try.f8 rfl rfl rfl rfl rfl rfl rfl ⟨rfl, rfl, rfl, rfl, rfl⟩ rfl rfl rfl rfl rfl (by kernel_rfl) Try.func8 (by kernel_rfl)
    (of_decide_eq_true (by kernel_rfl)) (by unfold Func.isWrapper; first | (rw [if_pos (by decide +kernel)]; kernel_rfl) | (rw [if_neg (by decide +kernel)]; exact ⟨rfl, rfl⟩))
    (fun os started H enc _ => lifted os started H enc)

/-- The statement. -/
theorem proved : Rows.PoolTurnsSaid :=
  over
#print axioms proved

end Go.Proofs.Ythinceoklkjcpaa.Turns
