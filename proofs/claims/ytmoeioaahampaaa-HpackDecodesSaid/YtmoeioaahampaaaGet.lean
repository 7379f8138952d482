/-
  The walk of GetInt: what was given up with is caught.
-/
import Derived.Test.YtmoeioaahampaaaRead
namespace Go.Proofs.Ytmoeioaahampaaa.Hi
open Go.ChangeShapes Go.WideShapes Go.ChangeAt Go.RowKit
open Go.Proofs.Ytmoeioaahampaaa.B
set_option linter.unusedVariables false
set_option linter.unusedSimpArgs false

/-- A number that is not there is told as none. -/
theorem cont_bad (l : List UInt8) : ∀ i v, (cont i v l).2.2 ≠ 0 → (cont i v l).1 = 0 ∧ (cont i v l).2.1 = 0 := by
  induction l with
  | nil => intro i v _; exact ⟨rfl, rfl⟩
  | cons c r ih =>
    intro i v h
    rw [cont] at h ⊢
    split at h <;> rename_i h1
    · rw [if_pos h1]; exact ⟨rfl, rfl⟩
    · rw [if_neg h1]
      split at h <;> rename_i h2
      · rw [if_pos h2]; exact ⟨rfl, rfl⟩
      · rw [if_neg h2]
        split at h <;> rename_i h3
        · exact absurd rfl h
        · rw [if_neg h3]; exact ih _ _ h
theorem getI_bad (l : List UInt8) (p : Int) (h : (getI l p).2.2 ≠ 0) : (getI l p).1 = 0 ∧ (getI l p).2.1 = 0 := by
  unfold getI at h ⊢
  split at h <;> rename_i h1
  · rw [if_pos h1]; exact ⟨rfl, rfl⟩
  · rw [if_neg h1]
    cases l with
    | nil => exact ⟨rfl, rfl⟩
    | cons c r =>
      rw [getN] at h ⊢
      split at h <;> rename_i h2
      · exact absurd rfl h
      · rw [if_neg h2]; exact cont_bad _ _ _ h
set_option maxRecDepth 100000 in
set_option maxHeartbeats 4000000 in
theorem getint_any (bv : Value) (l : List UInt8) (p : Int) (w : World) (hb : BytesOf w bv l) :
    Calls Try.prog 54 #[bv, .int .i64 p] w fun e w' => e = .returned (.tuple #[.int .i64 (getI l p).1, .int .i64 (getI l p).2.1, .int .i64 (getI l p).2.2]) ∧ Chg [] w w' := by
  have hmf : ∀ (fn : Fn) (first cap : Array Value) (w : World), (Instr.makeFunc fn first cap).run Try.prog w = .ok (.func fn first cap) w := fun _ _ _ _ => rfl
  have hz := At.new w (.cells #[.int .i64 0] 27)
  have hbad := getI_bad l p
  have HBV := Lib.hid (hb.chg0 ((Chg.refl w).alloc (.cells #[.int .i64 0] 27)))
  obtain ⟨G, hG⟩ : ∃ G, G = getI l p := ⟨_, rfl⟩
  rw [← hG] at hbad ⊢
  have HG := Lib.hid hG; have HBAD := Lib.hid hbad; have HZ := Lib.hid hz
  clear hb hG hbad hz
  go_enter_defers Try.func54, Try.ntmps54
  go_wp2_with fail
  refine (read_any bv l p _ HBV.out).mono ?_; rintro e w1 ⟨he, rfl⟩
  rw [← HG.out] at he
  unfold rdE at he
  by_cases h0 : G.2.2 = 0
  · rw [if_pos h0] at he
    subst he
    go_wp2_with fail
    refine leaves_cons (f := 67) (args := #[.pointer (some ⟨w.heap.size, 0, none⟩)]) (by simp) (by simp [go_sem]) ?_
    refine (catchI_idle w.heap.size 0 _ HZ.out).mono ?_
    rintro e u' w'' ⟨rfl, rfl, hc, ha⟩
    have q := ha.cell (o := 0) (v := .int .i64 0) rfl
    have hcc : Chg [] w w'' := ((Chg.refl w).alloc _).trans hc (by intro x hx; simp at hx; right; omega)
    simp [Leaves, settle, results, Try.results54, go_sem, q, h0]
    exact hcc
  · rw [if_neg h0] at he
    subst he
    refine leaves_cons (f := 67) (args := #[.pointer (some ⟨w.heap.size, 0, none⟩)]) (by simp) (by simp [go_sem]) ?_
    refine (catchI_wrong w.heap.size _ 0 [] _ HZ.out).mono ?_
    rintro e u' w'' ⟨rfl, rfl, hc, ha⟩
    have q := ha.cell (o := 0) (v := .int .i64 G.2.2) rfl
    have hcc : Chg [] w w'' := ((Chg.refl w).alloc _).trans hc (by intro x hx; simp at hx; right; omega)
    have hb := HBAD.out h0
    simp [Leaves, settle, results, Try.results54, go_sem, q, hb]
    exact hcc
end Go.Proofs.Ytmoeioaahampaaa.Hi
