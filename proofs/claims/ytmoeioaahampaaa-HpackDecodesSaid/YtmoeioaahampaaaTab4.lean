/-
  The walks of At and Clone.
-/
import Derived.Test.YtmoeioaahampaaaTab3
namespace Go.Proofs.Ytmoeioaahampaaa.Tb
open Go.ChangeShapes Go.WideShapes Go.ChangeAt Go.RowKit
open Go.Proofs.Ytmoeioaahampaaa.B
set_option linter.unusedVariables false
set_option linter.unusedSimpArgs false

/-- All that has an index: the static table, then the entries, the newest first. -/
def allF (es : List Fd) : List Fd := STAT ++ es.reverse
theorem allF_len (es : List Fd) : (allF es).length = 61 + es.length := by simp [allF, STAT_len]
def atL (l : List Fd) (i : Int) : Fd × Bool := if 1 ≤ i ∧ i ≤ l.length then (l.getD (i.toNat - 1) Fd.no, true) else (Fd.no, false)
def atR (es : List Fd) (i : Int) : Fd × Bool := atL (allF es) i
theorem atR_low {es : List Fd} {i : Int} (h : i ≤ 61) : atR es i = statR i := by
  unfold atR atL statR
  rw [allF_len]
  by_cases h1 : 1 ≤ i
  · rw [if_pos ⟨h1, by omega⟩, if_pos ⟨h1, h⟩]
    unfold allF
    rw [List.getD_eq_getElem?_getD, List.getD_eq_getElem?_getD, List.getElem?_append_left (by rw [STAT_len]; omega)]
  · rw [if_neg (by omega), if_neg (by omega)]
theorem allF_get {es : List Fd} {k : Nat} {f : Fd} (h : es[es.length - 1 - k]? = some f) (hk : k < es.length) : (allF es)[61 + k]? = some f := by
  unfold allF
  rw [List.getElem?_append_right (by rw [STAT_len]; omega), STAT_len, show 61 + k - 61 = k by omega, List.getElem?_reverse hk]
  exact h
theorem atR_high {es : List Fd} {k : Nat} {f : Fd} (h : es[es.length - 1 - k]? = some f) (hk : k < es.length) : atR es ((k : Int) + 62) = (f, true) := by
  unfold atR atL
  rw [allF_len, if_pos (by omega), List.getD_eq_getElem?_getD, show ((k : Int) + 62).toNat - 1 = 61 + k by omega, allF_get h hk]; rfl
theorem atR_none {es : List Fd} {i : Int} (h : i < 1 ∨ 61 + es.length < i) : atR es i = (Fd.no, false) := by
  unfold atR atL
  rw [allF_len, if_neg (by omega)]
set_option maxRecDepth 100000 in
set_option maxHeartbeats 4000000 in
theorem at_any {w : World} {base p : Nat} {sv : Value} {m : Nat} {es : List Fd} (i : Int) (h : TT w base p sv m es) (hi : i ≤ 9223372036854775807) :
    Calls Try.prog 70 #[.pointer (some ⟨p, 0, none⟩), .int .i64 i] w fun e w' => e = .returned (.tuple #[.agg (aF (atR es i).1), .bool (atR es i).2]) ∧ Chg [] w w' := by
  by_cases hlow : i ≤ 61
  · rw [atR_low hlow]
    obtain ⟨R, hR⟩ : ∃ R, R = statR i := ⟨_, rfl⟩
    rw [← hR]
    have HR := Lib.hid hR
    clear hR
    go_enter Try.func70, Try.ntmps70
    go_wp2_with fail
    refine (static_any i _).mono ?_; rintro e w1 ⟨he, h1⟩
    rw [← HR.out] at he
    subst he
    have hb := (At.new w (.cells #[.string ⟨#[]⟩, .string ⟨#[]⟩, .bool false] 44)).chg h1 (by simp)
    have c1 : Chg [] w w1 := ((Chg.refl w).alloc _).trans' h1
    clear h1
    have r0 := hb.cell (o := 0) rfl
    have r1 := hb.cell (o := 1) rfl
    have r2 := hb.cell (o := 2) rfl
    have rf := hb.free
    have hbl := hb.lt
    have HB := Lib.hid hb
    unfold aF
    clear hb
    go_wp2_with fail
    have hf := ((HB.out.set 0 (.string R.1.n)).set 1 (.string R.1.v)).set 2 (.bool R.1.nv)
    have x0 := hf.cell (o := 0) (v := .string R.1.n) rfl
    have x1 := hf.cell (o := 1) (v := .string R.1.v) rfl
    have x2 := hf.cell (o := 2) (v := .bool R.1.nv) rfl
    refine bodyPost_ret (v := .tuple #[.agg #[.string R.1.n, .string R.1.v, .bool R.1.nv], .bool R.2]) (by simp [results, Try.results70, go_sem, x0, x1, x2]) rfl ⟨rfl, ?_⟩
    exact ((c1.setCell (p := ⟨w.heap.size, 0, none⟩) (Or.inr (Nat.le_refl _)) _).setCell (p := ⟨w.heap.size, 1, none⟩) (Or.inr (Nat.le_refl _)) _).setCell (p := ⟨w.heap.size, 2, none⟩) (Or.inr (Nat.le_refl _)) _
  · obtain ⟨a, cap, rfl, hcap, hcapm⟩ := h.row.slice
    have hlen := h.len
    have q0 := h.head.cell (o := 0) rfl
    have hpw := h.head.lt
    obtain ⟨k, hk⟩ : ∃ k : Nat, i = (k : Int) + 62 := ⟨(i - 62).toNat, by omega⟩
    subst hk
    by_cases hin : k < es.length
    · obtain ⟨f, hf⟩ : ∃ f, es[es.length - 1 - k]? = some f := ⟨_, List.getElem?_eq_getElem (by omega)⟩
      rw [atR_high hf hin]
      obtain ⟨b, off, rfl, hbw, hcell⟩ := (OwnF.sl h.row).cells (by omega)
      obtain ⟨e0, e1, e2⟩ := hcell _ _ hf
      obtain ⟨j, hj⟩ : ∃ j, j = es.length - 1 - k := ⟨_, rfl⟩
      rw [← hj] at e0 e1 e2
      have hidx : (es.length : Int) - ((k : Int) + 62 - 61) = (j : Int) := by omega
      have hidx2 : (es.length : Int) - ((k : Int) + 1) = (j : Int) := by omega
      have hjl : j < es.length := by omega
      have hj0 : (0 : Int) ≤ (j : Int) := by omega
      have hj1 : (j : Int) < (es.length : Int) := by omega
      have hw1 : IntKind.i64.wrap ((k : Int) + 1) = (k : Int) + 1 := by rw [IntKind.wrap_i64]; omega
      have hwr : IntKind.i64.wrap ((k : Int) + 62 - 61) = (k : Int) + 1 := by rw [IntKind.wrap_i64]; omega
      have hwr2 : IntKind.i64.wrap ((es.length : Int) - ((k : Int) + 1)) = (j : Int) := by rw [IntKind.wrap_i64]; omega
      have HF := Lib.hid hf; have HJ := Lib.hid hj; have HH := Lib.hid h
      clear hcell hf hj h hlow hi hcapm
      unfold aF
      go_enter Try.func70, Try.ntmps70
      go_wp2_with fail
      go_region
      all_goals
        go_wp2_with fail
        have hz := At.drew (At.new w (.cells #[.string f.n, .string f.v, .bool f.nv] 44))
        have x0 := hz.cell (o := 0) rfl
        have x1 := hz.cell (o := 1) rfl
        have x2 := hz.cell (o := 2) rfl
        refine bodyPost_ret (v := .tuple #[.agg #[.string f.n, .string f.v, .bool f.nv], .bool true]) (by simp [results, Try.results70, go_sem, x0, x1, x2]) rfl ⟨rfl, ?_⟩
        exact ((Chg.refl w).alloc _).drew
    · rw [atR_none (Or.inr (by omega))]
      have hk9 : (k : Int) ≤ 9223372036854775745 := by omega
      have hd : (decide ((es.length : Int) < (k : Int) + 1)) = true := by simp; omega
      clear h hlow hi hcapm
      unfold aF
      go_enter Try.func70, Try.ntmps70
      go_wp2_with fail
      have hz := At.new w (.cells #[.string ⟨#[]⟩, .string ⟨#[]⟩, .bool false] 44)
      have x0 := hz.cell (o := 0) rfl
      have x1 := hz.cell (o := 1) rfl
      have x2 := hz.cell (o := 2) rfl
      refine bodyPost_ret (v := .tuple #[.agg #[.string ⟨#[]⟩, .string ⟨#[]⟩, .bool false], .bool false]) (by simp [results, Try.results70, go_sem, x0, x1, x2]) rfl ⟨rfl, ?_⟩
      exact (Chg.refl w).alloc _
def CloneQ (base' m : Nat) (es : List Fd) (w : World) (e : Ending) (w' : World) : Prop :=
  ∃ p' sv', e = .returned (.pointer (some ⟨p', 0, none⟩)) ∧ Chg [] w w' ∧ TT w' base' p' sv' m es ∧ ∀ x ∈ foot p' sv', w.heap.size ≤ x
end Go.Proofs.Ytmoeioaahampaaa.Tb
