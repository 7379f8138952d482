/-
  GetText, the document's too.
-/
import Derived.Test.YtmoeioaahampaaaText
import Derived.Test.YtmoeioaahampaaaDec
namespace Go.Proofs.Ytmoeioaahampaaa.Hi
open Go.ChangeShapes Go.WideShapes Go.ChangeAt Go.RowKit
open Go.Proofs.Ytmoeioaahampaaa.B
open Go.Proofs.Ytmoeioaahampaaa.Hf (bx need enc dec bitsOf decode_any rdecode_any cut_str)
set_option linter.unusedVariables false
set_option linter.unusedSimpArgs false

theorem cont_ok (r : List UInt8) : ∀ i v, (cont i v r).2.2 = 0 → (cont i v r).1 ≤ 2147483647 ∧ i < (cont i v r).2.1 ∧ (cont i v r).2.1 ≤ i + r.length := by
  induction r with
  | nil => intro i v h; simp [cont] at h
  | cons c r ih =>
    intro i v h
    rw [cont] at h ⊢
    split at h <;> rename_i h1
    · exact absurd h (by decide)
    · rw [if_neg h1]
      split at h <;> rename_i h2
      · exact absurd h (by decide)
      · rw [if_neg h2]
        split at h <;> rename_i h3
        · rw [if_pos h3]; simp; omega
        · rw [if_neg h3]
          obtain ⟨a, b, c'⟩ := ih _ _ h
          refine ⟨a, by omega, ?_⟩
          simp; omega
theorem getI_ok {l : List UInt8} {p : Int} (h : (getI l p).2.2 = 0) : (getI l p).1 ≤ 2147483647 ∧ 1 ≤ (getI l p).2.1 ∧ (getI l p).2.1 ≤ l.length := by
  unfold getI at h ⊢
  split at h <;> rename_i h1
  · exact absurd h (by decide)
  · rw [if_neg h1]
    cases l with
    | nil => simp [getN] at h
    | cons c r =>
      rw [getN] at h ⊢
      split at h <;> rename_i h2
      · rw [if_pos h2]
        have := c.toNat_lt
        have h3 : c.toNat % 2 ^ p.toNat ≤ c.toNat := Nat.mod_le _ _
        exact ⟨by show c.toNat % 2 ^ p.toNat ≤ _; omega, by show 1 ≤ 1; omega, by simp⟩
      · rw [if_neg h2]
        obtain ⟨a, b, c'⟩ := cont_ok r _ _ h
        refine ⟨a, by omega, ?_⟩
        simp; omega
/-- The text with which octets begin: its octets, how many it has, what is wrong. -/
def getT (l : List UInt8) : List UInt8 × Nat × Nat :=
  if (getI l 7).2.2 ≠ 0 then ([], 0, (getI l 7).2.2)
  else if l.length < (getI l 7).2.1 + (getI l 7).1 then ([], 0, 2)
  else if (l.headD 0).toNat < 128 then ((l.drop (getI l 7).2.1).take (getI l 7).1, (getI l 7).2.1 + (getI l 7).1, 0)
  else if (dec 2147483647 (bitsOf ((l.drop (getI l 7).2.1).take (getI l 7).1))).2 ≠ 0 then ([], 0, (dec 2147483647 (bitsOf ((l.drop (getI l 7).2.1).take (getI l 7).1))).2)
  else ((dec 2147483647 (bitsOf ((l.drop (getI l 7).2.1).take (getI l 7).1))).1, (getI l 7).2.1 + (getI l 7).1, 0)
set_option maxRecDepth 100000 in
set_option maxHeartbeats 4000000 in
theorem gettext_any (bv : Value) (l : List UInt8) (w : World) (hb : BytesOf w bv l) :
    Calls Try.prog 71 #[bv] w fun e w' => e = .returned (.tuple #[txt (getT l).1, .int .i64 (getT l).2.1, .int .i64 (getT l).2.2]) ∧ Chg [] w w' := by
  have hmf : ∀ (fn : Fn) (first cap : Array Value) (w : World), (Instr.makeFunc fn first cap).run Try.prog w = .ok (.func fn first cap) w := fun _ _ _ _ => rfl
  obtain ⟨ba, cap, rfl, hcap, hcapm⟩ := hb.slice
  unfold maxLen at hcapm
  have hz := At.new w (.cells #[.int .i64 0] 27)
  have HBV := Lib.hid (hb.chg0 ((Chg.refl w).alloc (.cells #[.int .i64 0] 27)))
  have HC := Lib.hid ((Chg.refl w : Chg [] w w).alloc (.cells #[.int .i64 0] 27))
  obtain ⟨G, hG⟩ : ∃ G, G = getI l 7 := ⟨_, rfl⟩
  have hok := getI_ok (l := l) (p := 7)
  have hT : getT l = getT l := rfl
  conv at hT => rhs; unfold getT
  rw [← hG] at hT hok
  have HG := Lib.hid hG; have HZ := Lib.hid hz
  clear hb hG hz
  by_cases h0 : G.2.2 = 0
  · obtain ⟨k1, k2, k3⟩ := hok h0
    rw [if_neg (by omega)] at hT
    obtain ⟨V, hV⟩ : ∃ V, V = G.1 := ⟨_, rfl⟩
    obtain ⟨n, hn⟩ : ∃ n, n = G.2.1 := ⟨_, rfl⟩
    rw [← hV, ← hn] at hT
    rw [← hV] at k1
    rw [← hn] at k2 k3
    have HV := Lib.hid hV; have HN := Lib.hid hn; have H0 := Lib.hid h0
    clear hV hn h0 hok
    by_cases hlong : l.length < n + V
    · rw [if_pos hlong] at hT
      rw [hT]
      have hls : decide ((l.length : Int) - (n : Int) < (V : Int)) = true := decide_eq_true (by omega)
      clear hT
      go_enter_defers Try.func71, Try.ntmps71
      go_wp2_with fail
      refine (read_any _ l 7 _ HBV.out).mono ?_; rintro e w1 ⟨he, rfl⟩
      rw [← HG.out] at he
      unfold rdE at he
      rw [if_pos H0.out, ← HV.out, ← HN.out] at he
      subst he
      go_wp2_with fail
      refine leaves_cons (f := 80) (args := #[.pointer (some ⟨w.heap.size, 0, none⟩)]) (by simp) (by simp [go_sem]) ?_
      refine (catchT_wrong w.heap.size 2 0 [] _ HZ.out).mono ?_
      rintro e u' w'' ⟨rfl, rfl, hc, ha⟩
      have q := ha.cell (o := 0) (v := .int .i64 2) rfl
      have hcc : Chg [] w w'' := (HC.out).trans hc (fun x hx => Or.inr (by rw [List.mem_singleton.1 hx]; exact Nat.le_refl _))
      simp [Leaves, settle, results, Try.results71, go_sem, q]
      exact hcc
    · rw [if_neg hlong] at hT
      have hl0 : 0 < l.length := by omega
      obtain ⟨b, off, rfl, hbw, hcell⟩ := HBV.out.cell (by omega)
      obtain ⟨c, r, hcr⟩ : ∃ c r, l = c :: r := by
        cases l with
        | nil => simp at hl0
        | cons c r => exact ⟨c, r, rfl⟩
      have d0 := hcell 0 c (by rw [hcr]; rfl)
      rw [Nat.add_zero] at d0
      have hhd : l.headD 0 = c := by rw [hcr]; rfl
      rw [hhd] at hT
      have hcut := HBV.out.cut n (n + V) (by omega) (by omega) (c' := cap - n) (by omega) (by unfold maxLen; omega)
      rw [show n + V - n = V by omega] at hcut
      obtain ⟨body, hbody⟩ : ∃ body, body = (l.drop n).take V := ⟨_, rfl⟩
      rw [← hbody] at hT hcut
      have hbl : body.length = V := by rw [hbody]; simp; omega
      have hls : decide ((l.length : Int) - (n : Int) < (V : Int)) = false := decide_eq_false (by omega)
      have hs1 : (n : Int) + (V : Int) ≤ (cap : Int) := by omega
      have hc6 : (c.toNat : Int) < 256 := by have := c.toNat_lt; omega
      clear hcell hcr hhd
      by_cases hcn : cap = n
      · have hV0 : V = 0 := by omega
        have hb0 : body = [] := by rw [hbody, hV0]; rfl
        have hcut2 : BytesOf (w.alloc (.cells #[.int .i64 0] 27)) (.slice (some ⟨b, off, none⟩) V 0) body := by
          rw [hb0, hV0]
          exact ⟨_, 0, rfl, Nat.le_refl _, by simp [maxLen], fun h0 => by simp at h0⟩
        have hcn0 : cap - n = 0 := by omega
        clear hb0 hbody hcut
        subst hcn
        subst hV0
        have hcut := hcut2
        clear hcut2
        have HCUT := Lib.hid hcut; have HBL := Lib.hid hbl
        clear hcut hbl
        by_cases hc8 : c.toNat < 128
        · rw [if_pos hc8] at hT
          rw [hT]
          have hk := HCUT.out.str
          clear hT
          go_enter_defers Try.func71, Try.ntmps71
          go_wp2_with fail
          refine (read_any _ l 7 _ HBV.out).mono ?_; rintro e w1 ⟨he, rfl⟩
          rw [← HG.out] at he
          unfold rdE at he
          rw [if_pos H0.out, ← HV.out, ← HN.out] at he
          subst he
          go_wp2_with fail
          refine leaves_cons (f := 80) (args := #[.pointer (some ⟨w.heap.size, 0, none⟩)]) (by simp) (by simp [go_sem]) ?_
          refine (catchT_idle w.heap.size 0 _ HZ.out).mono ?_
          rintro e u' w'' ⟨rfl, rfl, hc, ha⟩
          have q := ha.cell (o := 0) (v := .int .i64 0) rfl
          have hcc : Chg [] w w'' := (HC.out).trans hc (fun x hx => Or.inr (by rw [List.mem_singleton.1 hx]; exact Nat.le_refl _))
          simp [Leaves, settle, results, Try.results71, go_sem, q]
          exact hcc
        · rw [if_neg hc8] at hT
          obtain ⟨D, hD⟩ : ∃ D, D = dec 2147483647 (bitsOf body) := ⟨_, rfl⟩
          rw [← hD] at hT
          have HD := Lib.hid hD
          clear hD
          by_cases hd0 : D.2 = 0
          · rw [if_neg (by omega)] at hT
            rw [hT]
            have hdb : ((D.2 : Int) != 0) = false := by simp [hd0]
            have hde : ((D.2 : Int) == 0) = true := by simp [hd0]
            clear hT
            go_enter_defers Try.func71, Try.ntmps71
            go_wp2_with fail
            refine (read_any _ l 7 _ HBV.out).mono ?_; rintro e w1 ⟨he, rfl⟩
            rw [← HG.out] at he
            unfold rdE at he
            rw [if_pos H0.out, ← HV.out, ← HN.out] at he
            subst he
            go_wp2_with fail
            refine (decode_any _ body 2147483647 _ HCUT.out (by have := HBL.out; omega)).mono ?_; rintro e w2 ⟨he, h2⟩
            rw [← HD.out] at he
            subst he
            have HZ2 := Lib.hid (HZ.out.chg h2 (by simp)); have HC2 := Lib.hid (HC.out.trans' h2)
            have p0 : w2.cell? ⟨w.heap.size, 0, none⟩ = some (.int .i64 0) := HZ2.out.cell rfl
            have pf := HZ2.out.free 0
            have HZ3 : Hid (At (w2.setCell ⟨w.heap.size, 0, none⟩ (.int .i64 0)) w.heap.size (.cells #[.int .i64 0] 27 (0, 0))) := Lib.hid (HZ2.out.set 0 (.int .i64 0))
            have HC3 := Lib.hid (HC2.out.setCell (p := ⟨w.heap.size, 0, none⟩) (Or.inr (Nat.le_refl _)) (.int .i64 0))
            clear h2
            go_wp2_with fail
            refine leaves_cons (f := 80) (args := #[.pointer (some ⟨w.heap.size, 0, none⟩)]) (by simp) (by simp [go_sem]) ?_
            refine (catchT_idle w.heap.size 0 _ HZ3.out).mono ?_
            rintro e u' w'' ⟨rfl, rfl, hc, ha⟩
            have q := ha.cell (o := 0) (v := .int .i64 0) rfl
            have hcc : Chg [] w w'' := (HC3.out).trans hc (fun x hx => Or.inr (by rw [List.mem_singleton.1 hx]; exact Nat.le_refl _))
            simp [Leaves, settle, results, Try.results71, go_sem, q]
            exact hcc
          · rw [if_pos hd0] at hT
            rw [hT]
            have hdb : ((D.2 : Int) != 0) = true := by simp [hd0]
            have hde : ((D.2 : Int) == 0) = false := by simp [hd0]
            clear hT
            go_enter_defers Try.func71, Try.ntmps71
            go_wp2_with fail
            refine (read_any _ l 7 _ HBV.out).mono ?_; rintro e w1 ⟨he, rfl⟩
            rw [← HG.out] at he
            unfold rdE at he
            rw [if_pos H0.out, ← HV.out, ← HN.out] at he
            subst he
            go_wp2_with fail
            refine (decode_any _ body 2147483647 _ HCUT.out (by have := HBL.out; omega)).mono ?_; rintro e w2 ⟨he, h2⟩
            rw [← HD.out] at he
            subst he
            have HZ2 := Lib.hid (HZ.out.chg h2 (by simp)); have HC2 := Lib.hid (HC.out.trans' h2)
            clear h2
            go_wp2_with fail
            refine leaves_cons (f := 80) (args := #[.pointer (some ⟨w.heap.size, 0, none⟩)]) (by simp) (by simp [go_sem]) ?_
            refine (catchT_wrong w.heap.size D.2 0 [] _ HZ2.out).mono ?_
            rintro e u' w'' ⟨rfl, rfl, hc, ha⟩
            have q := ha.cell (o := 0) (v := .int .i64 D.2) rfl
            have hcc : Chg [] w w'' := (HC2.out).trans hc (fun x hx => Or.inr (by rw [List.mem_singleton.1 hx]; exact Nat.le_refl _))
            simp [Leaves, settle, results, Try.results71, go_sem, q]
            exact hcc
      · have hcn0 : ¬ cap - n = 0 := by omega
        have hcn1 : ((cap - n : Nat) == 0) = false := by simp; omega
        clear hbody
        have HCUT := Lib.hid hcut; have HBL := Lib.hid hbl
        clear hcut hbl
        by_cases hc8 : c.toNat < 128
        · rw [if_pos hc8] at hT
          rw [hT]
          have hk := HCUT.out.str
          clear hT
          go_enter_defers Try.func71, Try.ntmps71
          go_wp2_with fail
          refine (read_any _ l 7 _ HBV.out).mono ?_; rintro e w1 ⟨he, rfl⟩
          rw [← HG.out] at he
          unfold rdE at he
          rw [if_pos H0.out, ← HV.out, ← HN.out] at he
          subst he
          go_wp2_with fail
          refine leaves_cons (f := 80) (args := #[.pointer (some ⟨w.heap.size, 0, none⟩)]) (by simp) (by simp [go_sem]) ?_
          refine (catchT_idle w.heap.size 0 _ HZ.out).mono ?_
          rintro e u' w'' ⟨rfl, rfl, hc, ha⟩
          have q := ha.cell (o := 0) (v := .int .i64 0) rfl
          have hcc : Chg [] w w'' := (HC.out).trans hc (fun x hx => Or.inr (by rw [List.mem_singleton.1 hx]; exact Nat.le_refl _))
          simp [Leaves, settle, results, Try.results71, go_sem, q]
          exact hcc
        · rw [if_neg hc8] at hT
          obtain ⟨D, hD⟩ : ∃ D, D = dec 2147483647 (bitsOf body) := ⟨_, rfl⟩
          rw [← hD] at hT
          have HD := Lib.hid hD
          clear hD
          by_cases hd0 : D.2 = 0
          · rw [if_neg (by omega)] at hT
            rw [hT]
            have hdb : ((D.2 : Int) != 0) = false := by simp [hd0]
            have hde : ((D.2 : Int) == 0) = true := by simp [hd0]
            clear hT
            go_enter_defers Try.func71, Try.ntmps71
            go_wp2_with fail
            refine (read_any _ l 7 _ HBV.out).mono ?_; rintro e w1 ⟨he, rfl⟩
            rw [← HG.out] at he
            unfold rdE at he
            rw [if_pos H0.out, ← HV.out, ← HN.out] at he
            subst he
            go_wp2_with fail
            refine (decode_any _ body 2147483647 _ HCUT.out (by have := HBL.out; omega)).mono ?_; rintro e w2 ⟨he, h2⟩
            rw [← HD.out] at he
            subst he
            have HZ2 := Lib.hid (HZ.out.chg h2 (by simp)); have HC2 := Lib.hid (HC.out.trans' h2)
            have p0 : w2.cell? ⟨w.heap.size, 0, none⟩ = some (.int .i64 0) := HZ2.out.cell rfl
            have pf := HZ2.out.free 0
            have HZ3 : Hid (At (w2.setCell ⟨w.heap.size, 0, none⟩ (.int .i64 0)) w.heap.size (.cells #[.int .i64 0] 27 (0, 0))) := Lib.hid (HZ2.out.set 0 (.int .i64 0))
            have HC3 := Lib.hid (HC2.out.setCell (p := ⟨w.heap.size, 0, none⟩) (Or.inr (Nat.le_refl _)) (.int .i64 0))
            clear h2
            go_wp2_with fail
            refine leaves_cons (f := 80) (args := #[.pointer (some ⟨w.heap.size, 0, none⟩)]) (by simp) (by simp [go_sem]) ?_
            refine (catchT_idle w.heap.size 0 _ HZ3.out).mono ?_
            rintro e u' w'' ⟨rfl, rfl, hc, ha⟩
            have q := ha.cell (o := 0) (v := .int .i64 0) rfl
            have hcc : Chg [] w w'' := (HC3.out).trans hc (fun x hx => Or.inr (by rw [List.mem_singleton.1 hx]; exact Nat.le_refl _))
            simp [Leaves, settle, results, Try.results71, go_sem, q]
            exact hcc
          · rw [if_pos hd0] at hT
            rw [hT]
            have hdb : ((D.2 : Int) != 0) = true := by simp [hd0]
            have hde : ((D.2 : Int) == 0) = false := by simp [hd0]
            clear hT
            go_enter_defers Try.func71, Try.ntmps71
            go_wp2_with fail
            refine (read_any _ l 7 _ HBV.out).mono ?_; rintro e w1 ⟨he, rfl⟩
            rw [← HG.out] at he
            unfold rdE at he
            rw [if_pos H0.out, ← HV.out, ← HN.out] at he
            subst he
            go_wp2_with fail
            refine (decode_any _ body 2147483647 _ HCUT.out (by have := HBL.out; omega)).mono ?_; rintro e w2 ⟨he, h2⟩
            rw [← HD.out] at he
            subst he
            have HZ2 := Lib.hid (HZ.out.chg h2 (by simp)); have HC2 := Lib.hid (HC.out.trans' h2)
            clear h2
            go_wp2_with fail
            refine leaves_cons (f := 80) (args := #[.pointer (some ⟨w.heap.size, 0, none⟩)]) (by simp) (by simp [go_sem]) ?_
            refine (catchT_wrong w.heap.size D.2 0 [] _ HZ2.out).mono ?_
            rintro e u' w'' ⟨rfl, rfl, hc, ha⟩
            have q := ha.cell (o := 0) (v := .int .i64 D.2) rfl
            have hcc : Chg [] w w'' := (HC2.out).trans hc (fun x hx => Or.inr (by rw [List.mem_singleton.1 hx]; exact Nat.le_refl _))
            simp [Leaves, settle, results, Try.results71, go_sem, q]
            exact hcc
  · rw [if_pos h0] at hT
    rw [hT]
    clear hT hok
    go_enter_defers Try.func71, Try.ntmps71
    go_wp2_with fail
    refine (read_any _ l 7 _ HBV.out).mono ?_; rintro e w1 ⟨he, rfl⟩
    rw [← HG.out] at he
    unfold rdE at he
    rw [if_neg h0] at he
    subst he
    refine leaves_cons (f := 80) (args := #[.pointer (some ⟨w.heap.size, 0, none⟩)]) (by simp) (by simp [go_sem]) ?_
    refine (catchT_wrong w.heap.size G.2.2 0 [] _ HZ.out).mono ?_
    rintro e u' w'' ⟨rfl, rfl, hc, ha⟩
    have q := ha.cell (o := 0) (v := .int .i64 G.2.2) rfl
    have hcc : Chg [] w w'' := (HC.out).trans hc (fun x hx => Or.inr (by rw [List.mem_singleton.1 hx]; exact Nat.le_refl _))
    simp [Leaves, settle, results, Try.results71, go_sem, q]
    exact hcc
end Go.Proofs.Ytmoeioaahampaaa.Hi
