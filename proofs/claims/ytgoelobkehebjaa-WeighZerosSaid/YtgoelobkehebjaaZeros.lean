/-
  WeighZeros: weights of 0 take nobody's place: any right weights, a 0 put in anywhere, any draw.
-/
import Derived.Test.YtgoelobkehebjaaZerosP
import Derived.Test.YtgoelobkehebjaaApp
import Derived.Deep.RegionLaw
import Derived.Deep.DeepCutAuto
namespace Go.Proofs.Ytgoelobkehebjaa.Zeros
open Go.ChangeShapes Go.WideShapes Go.ChangeAt Go.RowKit
open Go.Proofs.Ytgoelobkehebjaa.B Go.Proofs.Ytgoelobkehebjaa.Fl Go.Proofs.Ytgoelobkehebjaa.Wg
set_option linter.unusedVariables false
set_option linter.unusedSimpArgs false

theorem step_append_fresh {P : Program} {w : World} {ops : Array Oper} {o : Oper} {a : Act} {K : Act → World → Prop} {Q : Exit → Act → World → Prop} {E : Prop} (hgd : o.guard = none) (s x : Operand) (t : TypeId)
    (ho : o.op = .call { callee := .builtin .append, args := #[s, x], argTypes := #[t, t] })
    (base : Nat) (e : TypeId) (i : TypeInfo) (z : Value) (size bytes : Nat) (ht : P.underlying t = some (.slice e)) (hi : P.info? e = some i) (hz : i.zero = some z)
    (hsize : i.size = size) (hby : i.bytes = bytes) (hzs : z.cells.size = size) (hsz : 0 < size)
    (v : Value) (n : Nat) (xs : List Value) (hs : a.eval s = v) (hown : w.ownsRow base e size v n xs)
    (ad : Addr) (m c : Nat) (news : List Value) (hx : a.eval x = .slice (some ad) m c) (hl : news.length = m * size) (hnews : ∀ j u, news[j]? = some u → w.cell? (ad.add j) = some u) (h1 : ∀ u ∈ news, u.oneCell' = true)
    (h63 : n + m ≤ maxLen) (hbytes : (n + m) * bytes ≤ 140737488355328) (hbase : base ≤ w.heap.size)
    (h : ∀ v' w', w'.ownsRow base e size v' (n + m) (xs ++ news) → Chg v.ownBlock.toList w w' → (∀ k, v'.ownBlock = some k → v.ownBlock = some k ∨ w.heap.size ≤ k) → K (a.put o.dst v') w') :
    if Region.wanted o (yielded ops a.tmps) = true then Oper.wp P o a w K Q else E := by
  have hw : Region.wanted o (yielded ops a.tmps) = true := by simp [Region.wanted, hgd]
  rw [if_pos hw]
  obtain ⟨v', w', hr, h2, h3, h4⟩ := run_append_fresh (P := P) w base t o.type e i z size bytes ht hi hz hsize hby hzs hsz v n xs hown ad m c news hl hnews h1 h63 hbytes hbase
  unfold Oper.wp execOp
  simp only [ho, resolve, invoke, builtin, Sem.run_bind, Sem.run_pure, Result.andThen_ok, List.map_toArray, List.map_cons, List.map_nil, hs, hx, hr]
  exact h v' w' h2 h3 h4

theorem fRow_one (l : List Nat) : ∀ y ∈ fRow l, y.oneCell' = true := by
  intro y hy
  unfold fRow at hy
  obtain ⟨z, _, rfl⟩ := List.mem_map.1 hy
  rfl
theorem owns_empty {w : World} {base g : Nat} (h : At w g (.cells #[] 26 (0, 0))) (hb : base ≤ g) : w.ownsRow base 26 1 (.slice (some ⟨g, 0, none⟩) 0 0) 0 [] := by
  refine ⟨rfl, .inr ⟨g, 0, #[], rfl, hb, h, Nat.le_refl _, by simp [maxLen], rfl, ?_⟩⟩
  simp
set_option maxRecDepth 20000 in
set_option maxHeartbeats 8000000 in
theorem walk (v : Value) (w : List Nat) (at0 d : Int) (W : World) (hw : ∀ x ∈ w, Wf64 x) (hs : SliceOf W v 1 encF w) (hat : (Lit.int .i64 at0).wf = true) (hd0 : (Lit.int .u64 d).wf = true) :
    Calls Try.prog 9 #[v, .int .i64 at0, .int .u64 d] W fun e w' => e = .returned (.bool true) ∧ Below W.heap.size W w' := by
  obtain ⟨d, rfl, hd⟩ := u64_nat hd0
  clear hd0
  have HD := Lib.hid hd
  clear hd
  have hab := i64_bounds hat
  clear hat
  obtain ⟨i0, hi, hz0, hz1, hz2⟩ := info_parts infoF
  obtain ⟨m, hmin, hml, hmc⟩ := min_cut w 20
  have HS := hs
  obtain ⟨a, cap, rfl, hc, hcm, _⟩ := hs
  have HW := Lib.hid (mem_cut (w := w) hw m)
  have HSC := Lib.hid (slice_cut HS m hml)
  have hlen := len_cut hml
  generalize w.take m = u at *
  subst hlen
  have emin : (min (w.length : Int) 20).toNat = u.length := by omega
  have HM := Lib.hid emin
  clear HS hw hmin emin
  go_enter Try.func9, Try.ntmps9
  go_wp2_with fail
  refine (shown_any _).mono ?_; rintro e w1 ⟨rfl, g1⟩
  have HS1 := Lib.hid (slice_chgF HSC.out g1); have G1 := Lib.hid g1
  clear g1
  go_wp2_with fail
  rw [HM.out]
  generalize min (w.length : Int) 20 = mi
  refine (right_any _ u _ HS1.out HW.out).mono ?_; rintro e w2 ⟨he, hw2⟩
  subst hw2
  by_cases hr : rightW u = true
  · rw [hr] at he
    subst he
    have HR := Lib.hid hr
    obtain ⟨hr1, hr2, hr3⟩ := rightW_ok hr
    clear hr hr1
    have hk : ∃ k : Nat, k ≤ u.length ∧ (if 0 < at0 then Int.tmod at0 ((u.length : Int) + 1) else 0) = (k : Int) := by
      by_cases h0 : 0 < at0
      · rw [if_pos h0]
        refine ⟨(at0.tmod ((u.length : Int) + 1)).toNat, ?_, ?_⟩
        · rw [Int.tmod_eq_emod_of_nonneg (by omega)]
          have h1 := Int.emod_lt_of_pos at0 (show (0 : Int) < (u.length : Int) + 1 by omega)
          omega
        · rw [Int.tmod_eq_emod_of_nonneg (by omega)]
          have h1 := Int.emod_nonneg at0 (show (u.length : Int) + 1 ≠ 0 by omega)
          omega
      · rw [if_neg h0]; exact ⟨0, by omega, rfl⟩
    obtain ⟨k, hku, hkk⟩ := hk
    by_cases h0 : 0 < at0
    · rw [if_pos h0] at hkk
      have hk0 : (0 : Int) ≤ (k : Int) := by omega
      have hk1 : (k : Int) ≤ (u.length : Int) := by omega
      have hk2 : (k : Int) ≤ (cap : Int) := by omega
      have hk3 : (u.length : Int) ≤ (cap : Int) := by omega
      obtain ⟨ab, capb, heb, _, _, hcb⟩ := HSC.out
      simp only [Value.slice.injEq, true_and] at heb
      obtain ⟨rfl, rfl⟩ := heb
      obtain ⟨b, off, rfl, hb, hcells⟩ := hcb (by omega)
      clear hcb
      have HC := Lib.hid hcells
      clear hcells
      have hHN1 : ∀ w' : World, Chg [] w2 w' → ∀ (j : Nat) (y : Value), (fRow (u.take k))[j]? = some y → w'.cell? ((⟨b, off, none⟩ : Addr).add j) = some y := by
        intro w' hc j y hy
        have hj : j < k := by have := (List.getElem?_eq_some_iff.1 hy).1; simp [fRow] at this; omega
        have hadd : (⟨b, off, none⟩ : Addr).add j = ⟨b, off + j, none⟩ := by unfold Addr.add; split <;> simp_all
        obtain ⟨z, hz⟩ : ∃ z, u[j]? = some z := ⟨_, List.getElem?_eq_getElem (by omega)⟩
        have hyz : y = .float .f64 z := by
          simp only [fRow, List.getElem?_map, List.getElem?_take_of_lt hj, hz, Option.map_some, Option.some.injEq] at hy
          exact hy.symm
        rw [hadd, hc.cell (Nat.lt_of_lt_of_le hb G1.out.size) (by simp), G1.out.cell hb (by simp), hyz]
        have := HC.out j z hz 0 (by omega)
        simpa [encF] using this
      have HN1 := Lib.hid hHN1
      obtain ⟨ad2, had2, hadd2⟩ : ∃ ad2 : Addr, (if cap = k then some (⟨b, off, none⟩ : Addr) else some ⟨b, off + k, none⟩) = some ad2 ∧ (u.length - k = 0 ∨ ad2 = ⟨b, off + k, none⟩) := by
        by_cases hck : cap = k
        · exact ⟨_, if_pos hck, .inl (by omega)⟩
        · exact ⟨_, if_neg hck, .inr rfl⟩
      have hHN2 : ∀ w' : World, Chg [] w2 w' → ∀ (j : Nat) (y : Value), (fRow (u.drop k))[j]? = some y → w'.cell? (ad2.add j) = some y := by
        intro w' hc j y hy
        have hj : j < u.length - k := by have := (List.getElem?_eq_some_iff.1 hy).1; simp [fRow] at this; omega
        rcases hadd2 with h0 | rfl
        · omega
        have hadd : (⟨b, off + k, none⟩ : Addr).add j = ⟨b, off + k + j, none⟩ := by unfold Addr.add; split <;> simp_all
        obtain ⟨z, hz⟩ : ∃ z, u[k + j]? = some z := ⟨_, List.getElem?_eq_getElem (by omega)⟩
        have hyz : y = .float .f64 z := by
          simp only [fRow, List.getElem?_map, List.getElem?_drop, hz, Option.map_some, Option.some.injEq] at hy
          exact hy.symm
        rw [hadd, hc.cell (Nat.lt_of_lt_of_le hb G1.out.size) (by simp), G1.out.cell hb (by simp), hyz]
        have := HC.out (k + j) z hz 0 (by omega)
        rw [Nat.add_assoc]
        simpa [encF] using this
      have HN2 := Lib.hid hHN2
      clear hHN1 hHN2 hadd2
      go_upto_region 8 with fail
      go_cut [9] (fun p wx => ∃ ca cc, p = .slice ca (u.length + 1) cc ∧ SliceOf wx p 1 encF (insL k u) ∧ Chg [] w2 wx)
      case first =>
        go_region_law (first
          | (refine step_append_fresh rfl (.tmp 28) (.tmp 31) 22 (by rfl) W.heap.size 26 i0 (.float .f64 0) 1 8 Try.underlying22 hi hz0 hz1 hz2 rfl (by decide) (.slice (some ⟨w2.heap.size, 0, none⟩) 0 0) (0) ([]) (by rfl) (owns_empty ((At.new w2 (.cells #[] 26)).drew) (Nat.le_trans G1.out.size (by omega))) (⟨b, off, none⟩) (k) (cap) (fRow (u.take k)) (by rfl) (by simp [fRow]; omega) (fun j y hy => HN1.out _ (((Chg.refl w2).alloc (l := []) (.cells #[] 26))).drew j y hy) (fRow_one _) (by simp only [maxLen]; omega) (by omega) (by simp; have := G1.out.size; omega) ?_; intro v1 wA hA hchA hfrA; have hcA : Chg [] w2 wA := Chg.trans (((Chg.refl w2).alloc (l := []) (.cells #[] 26))).drew hchA (by intro x hx; simp [Value.ownBlock] at hx; right; omega))
          | (refine step_append_fresh rfl (.tmp 28) (.tmp 31) 22 (by rfl) W.heap.size 26 i0 (.float .f64 0) 1 8 Try.underlying22 hi hz0 hz1 hz2 rfl (by decide) (.slice (some ⟨w2.heap.size, 0, none⟩) 0 0) (0) ([]) (by rfl) (owns_empty (((At.new w2 (.cells #[] 26)).alloc (.cells #[Value.float .f64 0] 26)).drew) (Nat.le_trans G1.out.size (by omega))) (⟨b, off, none⟩) (k) (cap) (fRow (u.take k)) (by rfl) (by simp [fRow]; omega) (fun j y hy => HN1.out _ ((((Chg.refl w2).alloc (l := []) (.cells #[] 26)).alloc (.cells #[Value.float .f64 0] 26))).drew j y hy) (fRow_one _) (by simp only [maxLen]; omega) (by omega) (by simp; have := G1.out.size; omega) ?_; intro v1 wA hA hchA hfrA; have hcA : Chg [] w2 wA := Chg.trans ((((Chg.refl w2).alloc (l := []) (.cells #[] 26)).alloc (.cells #[Value.float .f64 0] 26))).drew hchA (by intro x hx; simp [Value.ownBlock] at hx; right; omega); have hZ : At wA (w2.heap.size + 1) (.cells #[Value.float .f64 0] 26) := At.chg ((At.new' (w := w2.alloc (.cells #[] 26)) (by simp)).drew) hchA (by simp [Value.ownBlock]))
          | (refine step_append_fresh rfl (.tmp 28) (.tmp 31) 22 (by rfl) W.heap.size 26 i0 (.float .f64 0) 1 8 Try.underlying22 hi hz0 hz1 hz2 rfl (by decide) (.slice (some ⟨w2.heap.size + 1, 0, none⟩) 0 0) (0) ([]) (by rfl) (owns_empty ((At.new' (w := w2.alloc (.cells #[Value.float .f64 0] 26)) (o := (.cells #[] 26)) (k := w2.heap.size + 1) (by simp)).drew) (Nat.le_trans G1.out.size (by omega))) (⟨b, off, none⟩) (k) (cap) (fRow (u.take k)) (by rfl) (by simp [fRow]; omega) (fun j y hy => HN1.out _ ((((Chg.refl w2).alloc (l := []) (.cells #[Value.float .f64 0] 26)).alloc (.cells #[] 26))).drew j y hy) (fRow_one _) (by simp only [maxLen]; omega) (by omega) (by simp; have := G1.out.size; omega) ?_; intro v1 wA hA hchA hfrA; have hcA : Chg [] w2 wA := Chg.trans ((((Chg.refl w2).alloc (l := []) (.cells #[Value.float .f64 0] 26)).alloc (.cells #[] 26))).drew hchA (by intro x hx; simp [Value.ownBlock] at hx; right; omega); have hZ : At wA w2.heap.size (.cells #[Value.float .f64 0] 26) := At.chg (((At.new w2 (.cells #[Value.float .f64 0] 26)).alloc (.cells #[] 26)).drew) hchA (by simp [Value.ownBlock]))
          | (refine step_append_fresh rfl (.tmp 32) (.tmp 33) 22 (by rfl) W.heap.size 26 i0 (.float .f64 0) 1 8 Try.underlying22 hi hz0 hz1 hz2 rfl (by decide) (v1) (0 + k) ([] ++ fRow (u.take k)) (by rfl) (hA.alloc (.cells #[Value.float .f64 0] 26)) (⟨wA.heap.size, 0, none⟩) (1) (1) ([.float .f64 0]) (by rfl) rfl (fun j y hy => by match j, hy with | 0, hy => (simp at hy; subst hy; exact (At.new wA (.cells #[Value.float .f64 0] 26)).cell rfl)) (fun y hy => by simp at hy; subst hy; rfl) (by simp only [maxLen]; omega) (by omega) (by simp; have := G1.out.size; have := hcA.size; omega) ?_; intro v2 wB hB hchB hfrB; have hcB : Chg [] w2 wB := Chg.trans (hcA.alloc (.cells #[Value.float .f64 0] 26)) hchB (by intro x hx; right; have := hfrA x (by simpa using hx); simp [Value.ownBlock] at this; omega))
          | (refine step_append_fresh rfl (.tmp 32) (.tmp 33) 22 (by rfl) W.heap.size 26 i0 (.float .f64 0) 1 8 Try.underlying22 hi hz0 hz1 hz2 rfl (by decide) (v1) (0 + k) ([] ++ fRow (u.take k)) (by rfl) (hA) (⟨w2.heap.size + 1, 0, none⟩) (1) (1) ([.float .f64 0]) (by rfl) rfl (fun j y hy => by match j, hy with | 0, hy => (simp at hy; subst hy; exact hZ.cell rfl)) (fun y hy => by simp at hy; subst hy; rfl) (by simp only [maxLen]; omega) (by omega) (by have := G1.out.size; have := hcA.size; omega) ?_; intro v2 wB hB hchB hfrB; have hcB : Chg [] w2 wB := Chg.trans hcA hchB (by intro x hx; right; have := hfrA x (by simpa using hx); simp [Value.ownBlock] at this; omega))
          | (refine step_append_fresh rfl (.tmp 32) (.tmp 33) 22 (by rfl) W.heap.size 26 i0 (.float .f64 0) 1 8 Try.underlying22 hi hz0 hz1 hz2 rfl (by decide) (v1) (0 + k) ([] ++ fRow (u.take k)) (by rfl) (hA) (⟨w2.heap.size, 0, none⟩) (1) (1) ([.float .f64 0]) (by rfl) rfl (fun j y hy => by match j, hy with | 0, hy => (simp at hy; subst hy; exact hZ.cell rfl)) (fun y hy => by simp at hy; subst hy; rfl) (by simp only [maxLen]; omega) (by omega) (by have := G1.out.size; have := hcA.size; omega) ?_; intro v2 wB hB hchB hfrB; have hcB : Chg [] w2 wB := Chg.trans hcA hchB (by intro x hx; right; have := hfrA x (by simpa using hx); simp [Value.ownBlock] at this; omega))
          | (refine step_append_fresh rfl (.tmp 34) (.tmp 37) 22 (by rfl) W.heap.size 26 i0 (.float .f64 0) 1 8 Try.underlying22 hi hz0 hz1 hz2 rfl (by decide) (v2) (0 + k + 1) ([] ++ fRow (u.take k) ++ [.float .f64 0]) (by rfl) (hB) (ad2) (u.length - k) (cap - k) (fRow (u.drop k)) (by rfl) (by simp [fRow]) (fun j y hy => HN2.out _ hcB j y hy) (fRow_one _) (by simp only [maxLen]; omega) (by omega) (by have := G1.out.size; have := hcB.size; omega) ?_; intro v3 wC hCC hchC hfrC; have hcC : Chg [] w2 wC := Chg.trans hcB hchC (by intro x hx; right; have h9 := hfrB x (by simpa using hx); rcases h9 with h9 | h9; (have h8 := hfrA x h9; simp [Value.ownBlock] at h8; omega); (have h6 := hcA.size; have h7 : wA.heap.size ≤ x := by first | exact h9 | (simp at h9; omega)); omega))
          | fail)
        all_goals (go_wp2_with fail; go_meet)
        all_goals (
          have e1 : (insL k u).length = 0 + k + 1 + (u.length - k) := by rw [ins_len hku]; omega
          have e2 : fRow (insL k u) = [] ++ fRow (u.take k) ++ [Value.float .f64 0] ++ fRow (u.drop k) := by simp [fRow, insL]
          have hrow : wC.ownsRow W.heap.size 26 1 v3 (insL k u).length (fRow (insL k u)) := by rw [e1, e2]; exact hCC
          obtain ⟨ca, cc, hv3, _⟩ := owns_val hrow
          rw [ins_len hku] at hv3
          exact ⟨ca, cc, hv3, owns_sliceF hrow, hcC⟩)
      case rest =>
        obtain ⟨ca, cc, rfl, hsl, hcw⟩ := hcut
        have HSL := Lib.hid hsl
        have HS2 := Lib.hid (slice_chgF HS1.out hcw); have G2 := Lib.hid (G1.out.trans' hcw)
        clear hsl hcw had2
        have HLW : Hid (∀ y ∈ insL k u, y < 2 ^ 64) := Lib.hid (by
          intro y hy
          unfold insL at hy
          simp only [List.mem_append, List.mem_cons] at hy
          rcases hy with hy | hy | hy
          · exact HW.out y (List.mem_of_mem_take hy)
          · rw [hy]; decide
          · exact HW.out y (List.mem_of_mem_drop hy))
        have HRL := Lib.hid (ins_right hku HR.out hmc)
        have HPL := Lib.hid (ins_pick hku HR.out hmc d)
        have HPU : Hid (pickW u d = (atW u (d / 2048) : Int)) := Lib.hid (by unfold pickW; rw [if_pos HR.out])
        have hq20 : atW u (d / 2048) < 9223372036854775807 := by
          obtain ⟨y, hy, _⟩ := Never.atW_pos HR.out (d / 2048)
          have := (List.getElem?_eq_some_iff.1 hy).1
          omega
        have HL := Lib.hid (ins_len hku)
        generalize insL k u = l at *
        obtain ⟨q, hq⟩ : ∃ q, q = atW u (d / 2048) := ⟨_, rfl⟩
        rw [← hq] at hq20
        have HQ := Lib.hid hq
        clear hq
        go_wp2_with fail
        refine (pick_any _ u d _ HS2.out HW.out HD.out).mono ?_; rintro e w3 ⟨he, g3⟩
        rw [HPU.out, ← HQ.out] at he
        subst he
        have HS3 := Lib.hid (slice_chgF HSL.out g3); have G3 := Lib.hid (G2.out.trans' g3)
        clear g3
        have HPL2 : Hid (pickW l d = ((shift k q : Nat) : Int)) := Lib.hid (by rw [HPL.out, HQ.out])
        by_cases hkq : k ≤ q
        · have hkq' : (k : Int) ≤ (q : Int) := by omega
          have hsh : shift k q = q + 1 := if_pos hkq
          have hq21 : (q : Int) + 1 ≤ 9223372036854775807 := by omega
          rw [hsh] at HPL2
          clear hsh hkq
          go_wp2_with fail
          refine (right_any _ l _ HS3.out HLW.out).mono ?_; rintro e w4 ⟨he, hw4⟩
          rw [HRL.out] at he
          subst he
          subst hw4
          go_wp2_with fail
          refine (pick_any _ l d _ HS3.out HLW.out HD.out).mono ?_; rintro e w5 ⟨he, g5⟩
          rw [HPL2.out] at he
          subst he
          have G5 := Lib.hid (G3.out.trans' g5)
          clear g5
          go_wp2_with fail
          go_ret
          exact ⟨by simp, G5.out.below_nil⟩
        · have hkq' : ((k : Int) ≤ (q : Int)) = False := by simp; omega
          have hsh : shift k q = q := if_neg hkq
          rw [hsh] at HPL2
          clear hsh hkq
          go_wp2_with fail
          refine (right_any _ l _ HS3.out HLW.out).mono ?_; rintro e w4 ⟨he, hw4⟩
          rw [HRL.out] at he
          subst he
          subst hw4
          go_wp2_with fail
          refine (pick_any _ l d _ HS3.out HLW.out HD.out).mono ?_; rintro e w5 ⟨he, g5⟩
          rw [HPL2.out] at he
          subst he
          have G5 := Lib.hid (G3.out.trans' g5)
          clear g5
          go_wp2_with fail
          go_ret
          exact ⟨by simp, G5.out.below_nil⟩
    · rw [if_neg h0] at hkk
      obtain rfl : k = 0 := by omega
      clear hkk
      have hk0 : (0 : Int) ≤ ((0 : Nat) : Int) := by omega
      have hk1 : ((0 : Nat) : Int) ≤ (u.length : Int) := by omega
      have hk2 : ((0 : Nat) : Int) ≤ (cap : Int) := by omega
      have hk3 : (u.length : Int) ≤ (cap : Int) := by omega
      obtain ⟨ab, capb, heb, _, _, hcb⟩ := HSC.out
      simp only [Value.slice.injEq, true_and] at heb
      obtain ⟨rfl, rfl⟩ := heb
      obtain ⟨b, off, rfl, hb, hcells⟩ := hcb (by omega)
      clear hcb
      have HC := Lib.hid hcells
      clear hcells
      have hHN1 : ∀ w' : World, Chg [] w2 w' → ∀ (j : Nat) (y : Value), (fRow (u.take (0 : Nat)))[j]? = some y → w'.cell? ((⟨b, off, none⟩ : Addr).add j) = some y := by
        intro w' hc j y hy
        simp [fRow] at hy
      have HN1 := Lib.hid hHN1
      have hHN2 : ∀ w' : World, Chg [] w2 w' → ∀ (j : Nat) (y : Value), (fRow (u.drop (0 : Nat)))[j]? = some y → w'.cell? ((⟨b, off, none⟩ : Addr).add j) = some y := by
        intro w' hc j y hy
        have hj : j < u.length - (0 : Nat) := by have := (List.getElem?_eq_some_iff.1 hy).1; simp [fRow] at this <;> omega
        have hadd : (⟨b, off, none⟩ : Addr).add j = ⟨b, off + j, none⟩ := by unfold Addr.add; split <;> simp_all
        obtain ⟨z, hz⟩ : ∃ z, u[(0 : Nat) + j]? = some z := ⟨_, List.getElem?_eq_getElem (by omega)⟩
        have hyz : y = .float .f64 z := by
          simp only [fRow, List.getElem?_map, List.getElem?_drop, hz, Option.map_some, Option.some.injEq] at hy
          exact hy.symm
        rw [hadd, hc.cell (Nat.lt_of_lt_of_le hb G1.out.size) (by simp), G1.out.cell hb (by simp), hyz]
        have := HC.out ((0 : Nat) + j) z hz 0 (by omega)
        simpa [encF] using this
      have HN2 := Lib.hid hHN2
      clear hHN1 hHN2
      go_upto_region 8 with fail
      go_cut [9] (fun p wx => ∃ ca cc, p = .slice ca (u.length + 1) cc ∧ SliceOf wx p 1 encF (insL (0 : Nat) u) ∧ Chg [] w2 wx)
      case first =>
        go_region_law (first
          | (refine step_append_fresh rfl (.tmp 28) (.tmp 31) 22 (by rfl) W.heap.size 26 i0 (.float .f64 0) 1 8 Try.underlying22 hi hz0 hz1 hz2 rfl (by decide) (.slice (some ⟨w2.heap.size, 0, none⟩) 0 0) (0) ([]) (by rfl) (owns_empty ((At.new w2 (.cells #[] 26)).drew) (Nat.le_trans G1.out.size (by omega))) (⟨b, off, none⟩) ((0 : Nat)) (cap) (fRow (u.take (0 : Nat))) (by rfl) (by simp [fRow] <;> omega) (fun j y hy => HN1.out _ (((Chg.refl w2).alloc (l := []) (.cells #[] 26))).drew j y hy) (fRow_one _) (by simp only [maxLen]; omega) (by omega) (by simp; have := G1.out.size; omega) ?_; intro v1 wA hA hchA hfrA; have hcA : Chg [] w2 wA := Chg.trans (((Chg.refl w2).alloc (l := []) (.cells #[] 26))).drew hchA (by intro x hx; simp [Value.ownBlock] at hx; right; omega))
          | (refine step_append_fresh rfl (.tmp 28) (.tmp 31) 22 (by rfl) W.heap.size 26 i0 (.float .f64 0) 1 8 Try.underlying22 hi hz0 hz1 hz2 rfl (by decide) (.slice (some ⟨w2.heap.size, 0, none⟩) 0 0) (0) ([]) (by rfl) (owns_empty (((At.new w2 (.cells #[] 26)).alloc (.cells #[Value.float .f64 0] 26)).drew) (Nat.le_trans G1.out.size (by omega))) (⟨b, off, none⟩) ((0 : Nat)) (cap) (fRow (u.take (0 : Nat))) (by rfl) (by simp [fRow] <;> omega) (fun j y hy => HN1.out _ ((((Chg.refl w2).alloc (l := []) (.cells #[] 26)).alloc (.cells #[Value.float .f64 0] 26))).drew j y hy) (fRow_one _) (by simp only [maxLen]; omega) (by omega) (by simp; have := G1.out.size; omega) ?_; intro v1 wA hA hchA hfrA; have hcA : Chg [] w2 wA := Chg.trans ((((Chg.refl w2).alloc (l := []) (.cells #[] 26)).alloc (.cells #[Value.float .f64 0] 26))).drew hchA (by intro x hx; simp [Value.ownBlock] at hx; right; omega); have hZ : At wA (w2.heap.size + 1) (.cells #[Value.float .f64 0] 26) := At.chg ((At.new' (w := w2.alloc (.cells #[] 26)) (by simp)).drew) hchA (by simp [Value.ownBlock]))
          | (refine step_append_fresh rfl (.tmp 28) (.tmp 31) 22 (by rfl) W.heap.size 26 i0 (.float .f64 0) 1 8 Try.underlying22 hi hz0 hz1 hz2 rfl (by decide) (.slice (some ⟨w2.heap.size + 1, 0, none⟩) 0 0) (0) ([]) (by rfl) (owns_empty ((At.new' (w := w2.alloc (.cells #[Value.float .f64 0] 26)) (o := (.cells #[] 26)) (k := w2.heap.size + 1) (by simp)).drew) (Nat.le_trans G1.out.size (by omega))) (⟨b, off, none⟩) ((0 : Nat)) (cap) (fRow (u.take (0 : Nat))) (by rfl) (by simp [fRow] <;> omega) (fun j y hy => HN1.out _ ((((Chg.refl w2).alloc (l := []) (.cells #[Value.float .f64 0] 26)).alloc (.cells #[] 26))).drew j y hy) (fRow_one _) (by simp only [maxLen]; omega) (by omega) (by simp; have := G1.out.size; omega) ?_; intro v1 wA hA hchA hfrA; have hcA : Chg [] w2 wA := Chg.trans ((((Chg.refl w2).alloc (l := []) (.cells #[Value.float .f64 0] 26)).alloc (.cells #[] 26))).drew hchA (by intro x hx; simp [Value.ownBlock] at hx; right; omega); have hZ : At wA w2.heap.size (.cells #[Value.float .f64 0] 26) := At.chg (((At.new w2 (.cells #[Value.float .f64 0] 26)).alloc (.cells #[] 26)).drew) hchA (by simp [Value.ownBlock]))
          | (refine step_append_fresh rfl (.tmp 32) (.tmp 33) 22 (by rfl) W.heap.size 26 i0 (.float .f64 0) 1 8 Try.underlying22 hi hz0 hz1 hz2 rfl (by decide) (v1) (0 + (0 : Nat)) ([] ++ fRow (u.take (0 : Nat))) (by rfl) (hA.alloc (.cells #[Value.float .f64 0] 26)) (⟨wA.heap.size, 0, none⟩) (1) (1) ([.float .f64 0]) (by rfl) rfl (fun j y hy => by match j, hy with | 0, hy => (simp at hy; subst hy; exact (At.new wA (.cells #[Value.float .f64 0] 26)).cell rfl)) (fun y hy => by simp at hy; subst hy; rfl) (by simp only [maxLen]; omega) (by omega) (by simp; have := G1.out.size; have := hcA.size; omega) ?_; intro v2 wB hB hchB hfrB; have hcB : Chg [] w2 wB := Chg.trans (hcA.alloc (.cells #[Value.float .f64 0] 26)) hchB (by intro x hx; right; have := hfrA x (by simpa using hx); simp [Value.ownBlock] at this; omega))
          | (refine step_append_fresh rfl (.tmp 32) (.tmp 33) 22 (by rfl) W.heap.size 26 i0 (.float .f64 0) 1 8 Try.underlying22 hi hz0 hz1 hz2 rfl (by decide) (v1) (0 + (0 : Nat)) ([] ++ fRow (u.take (0 : Nat))) (by rfl) (hA) (⟨w2.heap.size + 1, 0, none⟩) (1) (1) ([.float .f64 0]) (by rfl) rfl (fun j y hy => by match j, hy with | 0, hy => (simp at hy; subst hy; exact hZ.cell rfl)) (fun y hy => by simp at hy; subst hy; rfl) (by simp only [maxLen]; omega) (by omega) (by have := G1.out.size; have := hcA.size; omega) ?_; intro v2 wB hB hchB hfrB; have hcB : Chg [] w2 wB := Chg.trans hcA hchB (by intro x hx; right; have := hfrA x (by simpa using hx); simp [Value.ownBlock] at this; omega))
          | (refine step_append_fresh rfl (.tmp 32) (.tmp 33) 22 (by rfl) W.heap.size 26 i0 (.float .f64 0) 1 8 Try.underlying22 hi hz0 hz1 hz2 rfl (by decide) (v1) (0 + (0 : Nat)) ([] ++ fRow (u.take (0 : Nat))) (by rfl) (hA) (⟨w2.heap.size, 0, none⟩) (1) (1) ([.float .f64 0]) (by rfl) rfl (fun j y hy => by match j, hy with | 0, hy => (simp at hy; subst hy; exact hZ.cell rfl)) (fun y hy => by simp at hy; subst hy; rfl) (by simp only [maxLen]; omega) (by omega) (by have := G1.out.size; have := hcA.size; omega) ?_; intro v2 wB hB hchB hfrB; have hcB : Chg [] w2 wB := Chg.trans hcA hchB (by intro x hx; right; have := hfrA x (by simpa using hx); simp [Value.ownBlock] at this; omega))
          | (refine step_append_fresh rfl (.tmp 34) (.tmp 37) 22 (by rfl) W.heap.size 26 i0 (.float .f64 0) 1 8 Try.underlying22 hi hz0 hz1 hz2 rfl (by decide) (v2) (0 + (0 : Nat) + 1) ([] ++ fRow (u.take (0 : Nat)) ++ [.float .f64 0]) (by rfl) (hB) (⟨b, off, none⟩) (u.length - (0 : Nat)) (cap - (0 : Nat)) (fRow (u.drop (0 : Nat))) (by rfl) (by simp [fRow]) (fun j y hy => HN2.out _ hcB j y hy) (fRow_one _) (by simp only [maxLen]; omega) (by omega) (by have := G1.out.size; have := hcB.size; omega) ?_; intro v3 wC hCC hchC hfrC; have hcC : Chg [] w2 wC := Chg.trans hcB hchC (by intro x hx; right; have h9 := hfrB x (by simpa using hx); rcases h9 with h9 | h9; (have h8 := hfrA x h9; simp [Value.ownBlock] at h8; omega); (have h6 := hcA.size; have h7 : wA.heap.size ≤ x := by first | exact h9 | (simp at h9; omega)); omega))
          | fail)
        all_goals (go_wp2_with fail; go_meet)
        all_goals (
          have e1 : (insL (0 : Nat) u).length = 0 + (0 : Nat) + 1 + (u.length - (0 : Nat)) := by rw [ins_len hku]; omega
          have e2 : fRow (insL (0 : Nat) u) = [] ++ fRow (u.take (0 : Nat)) ++ [Value.float .f64 0] ++ fRow (u.drop (0 : Nat)) := by simp [fRow, insL]
          have hrow : wC.ownsRow W.heap.size 26 1 v3 (insL (0 : Nat) u).length (fRow (insL (0 : Nat) u)) := by rw [e1, e2]; exact hCC
          obtain ⟨ca, cc, hv3, _⟩ := owns_val hrow
          rw [ins_len hku] at hv3
          exact ⟨ca, cc, hv3, owns_sliceF hrow, hcC⟩)
      case rest =>
        obtain ⟨ca, cc, rfl, hsl, hcw⟩ := hcut
        have HSL := Lib.hid hsl
        have HS2 := Lib.hid (slice_chgF HS1.out hcw); have G2 := Lib.hid (G1.out.trans' hcw)
        clear hsl hcw
        have HLW : Hid (∀ y ∈ insL (0 : Nat) u, y < 2 ^ 64) := Lib.hid (by
          intro y hy
          unfold insL at hy
          simp only [List.mem_append, List.mem_cons] at hy
          rcases hy with hy | hy | hy
          · exact HW.out y (List.mem_of_mem_take hy)
          · rw [hy]; decide
          · exact HW.out y (List.mem_of_mem_drop hy))
        have HRL := Lib.hid (ins_right hku HR.out hmc)
        have HPL := Lib.hid (ins_pick hku HR.out hmc d)
        have HPU : Hid (pickW u d = (atW u (d / 2048) : Int)) := Lib.hid (by unfold pickW; rw [if_pos HR.out])
        have hq20 : atW u (d / 2048) < 9223372036854775807 := by
          obtain ⟨y, hy, _⟩ := Never.atW_pos HR.out (d / 2048)
          have := (List.getElem?_eq_some_iff.1 hy).1
          omega
        have HL := Lib.hid (ins_len hku)
        generalize insL (0 : Nat) u = l at *
        obtain ⟨q, hq⟩ : ∃ q, q = atW u (d / 2048) := ⟨_, rfl⟩
        rw [← hq] at hq20
        have HQ := Lib.hid hq
        clear hq
        go_wp2_with fail
        refine (pick_any _ u d _ HS2.out HW.out HD.out).mono ?_; rintro e w3 ⟨he, g3⟩
        rw [HPU.out, ← HQ.out] at he
        subst he
        have HS3 := Lib.hid (slice_chgF HSL.out g3); have G3 := Lib.hid (G2.out.trans' g3)
        clear g3
        have HPL2 : Hid (pickW l d = ((shift (0 : Nat) q : Nat) : Int)) := Lib.hid (by rw [HPL.out, HQ.out])
        by_cases hkq : (0 : Nat) ≤ q
        · have hkq' : ((0 : Nat) : Int) ≤ (q : Int) := by omega
          have hsh : shift (0 : Nat) q = q + 1 := if_pos hkq
          have hq21 : (q : Int) + 1 ≤ 9223372036854775807 := by omega
          rw [hsh] at HPL2
          clear hsh hkq
          go_wp2_with fail
          refine (right_any _ l _ HS3.out HLW.out).mono ?_; rintro e w4 ⟨he, hw4⟩
          rw [HRL.out] at he
          subst he
          subst hw4
          go_wp2_with fail
          refine (pick_any _ l d _ HS3.out HLW.out HD.out).mono ?_; rintro e w5 ⟨he, g5⟩
          rw [HPL2.out] at he
          subst he
          have G5 := Lib.hid (G3.out.trans' g5)
          clear g5
          go_wp2_with fail
          go_ret
          exact ⟨by simp, G5.out.below_nil⟩
        · exact absurd (Nat.zero_le q) hkq
  · have hrf : rightW u = false := by simpa using hr
    rw [hrf] at he
    subst he
    clear hr hrf
    go_wp2_with fail
    go_ret
    exact ⟨rfl, G1.out.below_nil⟩

/-! ### The row's step -/
theorem own : ownKnob Try.prog.godebug = none := by kernel_rfl
theorem laid : laidOutB Try.prog = true := by kernel_rfl

set_option maxRecDepth 100000 in
theorem lifted (os : Os) (started : os.Started) (H : Type) (enc : TypeId × Value → H) :
    ReturnsInHanded {} Try.checked os 9 .any (Rows.weighZerosSpec.pre6 enc Try.prog Try.f9 Rows.weighZerosRow.domain false) (Rows.weighZerosSpec.post enc Try.prog Try.f9 false true false false) := by
  refine lift_law (C := Try.checked) (tb := 4) own started (by kernel_rfl) Try.func9
    (ChangeSpec.witness6 (enc := enc) (C := Try.checked) false ⟨#[], #[.slice none 0 0, .int .i64 0, .int .u64 0], []⟩ 8 (by kernel_rfl) (by kernel_rfl) (by kernel_rfl) (by kernel_rfl))
    laid (by rw [Try.params9]; intro t ht; simp only [List.mem_cons, List.not_mem_nil, or_false] at ht; rcases ht with rfl | rfl | rfl <;> exact ⟨by kernel_rfl, of_decide_eq_true (by kernel_rfl)⟩) (by kernel_rfl) Try.underlying4 rfl
    (fun ds h => by rw [Try.params9] at h; match ds, h with | [d0, d1, d2], _ => rfl) ?_
  intro W base args ds before hval hA hlt hsz
  rw [Try.params9] at hA hval
  have hlt0 := hlt
  obtain ⟨v0, vs0, d0, ds0, p0, q0, hargs, rfl, rfl, h0, r0⟩ := trodAll_cons hA
  obtain ⟨v1, vs1, d1, ds1, p1, q1, rfl, rfl, rfl, h1, r1⟩ := trodAll_cons r0
  obtain ⟨v2, vs2, d2, ds2, p2, q2, rfl, rfl, rfl, h2, r2⟩ := trodAll_cons r1
  obtain ⟨rfl, rfl, rfl⟩ := trodAll_nil r2
  obtain rfl : args = #[v0, v1, v2] := by cases args; simp_all
  have l0 : ∀ p ∈ p0, p.block < W.heap.size := fun x hx => hlt x (by simp [hx])
  have l1 : ∀ p ∈ p1, p.block < W.heap.size := fun x hx => hlt x (by simp [hx])
  have l2 : ∀ p ∈ p2, p.block < W.heap.size := fun x hx => hlt x (by simp [hx])
  obtain ⟨zs, zg, zm, zs1⟩ := open_arg_slice 1 encF Wf64 Try.underlying22 (by kernel_rfl) (by omega) (hval 0 22 v0 rfl rfl) decF h0 l0
  obtain ⟨a1, rfl, rfl, rfl, wa1⟩ := open_int Try.underlying3 (hval 1 3 v1 rfl rfl) h1
  obtain ⟨a2, rfl, rfl, rfl, wa2⟩ := open_int Try.underlying23 (hval 2 23 v2 rfl rfl) h2
  exact walk v0 zs a1 a2 W zg zs1 wa1 wa2

theorem over : Rows.weighZerosRow.holds Try.pinned (OpenSpec.ofChange Rows.weighZerosSpec) :=
  OpenClaim.holds_of_wide 9 Try.f9 rfl rfl rfl rfl rfl rfl rfl ⟨rfl, rfl, rfl, rfl, rfl⟩ rfl rfl rfl rfl rfl (by kernel_rfl) Try.func9 (by kernel_rfl)
    (of_decide_eq_true (by kernel_rfl)) (by unfold Func.isWrapper; first | (rw [if_pos (by decide +kernel)]; kernel_rfl) | (rw [if_neg (by decide +kernel)]; exact ⟨rfl, rfl⟩))
    (fun os started H enc _ => lifted os started H enc)

/-- The statement. -/
theorem proved : Rows.WeighZerosSaid :=
  over
#print axioms proved

end Go.Proofs.Ytgoelobkehebjaa.Zeros
