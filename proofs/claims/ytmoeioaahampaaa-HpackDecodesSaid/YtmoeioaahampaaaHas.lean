/-
  The calls on a table as functions of what it holds: one contract each; and what must be in any case.
-/
import Derived.Test.YtmoeioaahampaaaFind
namespace Go.Proofs.Ytmoeioaahampaaa.Tb
open Go.ChangeShapes Go.WideShapes Go.ChangeAt Go.RowKit
open Go.Proofs.Ytmoeioaahampaaa.B
set_option linter.unusedVariables false
set_option linter.unusedSimpArgs false

/-- A table in memory, made since W: its blocks are F. -/
def Has (W w : World) (F : List Nat) (p m : Nat) (es : List Fd) : Prop := ∃ sv, TT w W.heap.size p sv m es ∧ Inv m es ∧ F = foot p sv ∧ Below W.heap.size W w
/-- Blocks of F2 that are not F's are new since w. -/
def Fresh (F2 F : List Nat) (w : World) : Prop := ∀ x ∈ F2, x ∈ F ∨ w.heap.size ≤ x
section
variable {W w w' : World} {F : List Nat} {p m : Nat} {es : List Fd}
theorem Has.lo (h : Has W w F p m es) : ∀ x ∈ F, W.heap.size ≤ x := by obtain ⟨sv, h1, _, rfl, _⟩ := h; exact h1.foot_lo
theorem Has.lt (h : Has W w F p m es) : ∀ x ∈ F, x < w.heap.size := by obtain ⟨sv, h1, _, rfl, _⟩ := h; exact h1.foot_lt
theorem Has.below (h : Has W w F p m es) : Below W.heap.size W w := by obtain ⟨sv, _, _, _, h4⟩ := h; exact h4
theorem Has.inv (h : Has W w F p m es) : Inv m es := by obtain ⟨sv, _, h2, _⟩ := h; exact h2
theorem Has.drewN (h : Has W w F p m es) (n : Nat) : Has W (w.drewN n) F p m es := by obtain ⟨sv, h1, h2, h3, h4⟩ := h; exact ⟨sv, h1.drewN n, h2, h3, h4.drewN n⟩
theorem Has.chg {l : List Nat} (h : Has W w F p m es) (hc : Chg l w w') (hd : ∀ x ∈ F, x ∉ l) (hl : ∀ x ∈ l, W.heap.size ≤ x) : Has W w' F p m es := by
  obtain ⟨sv, h1, h2, rfl, h4⟩ := h
  exact ⟨sv, h1.chg hc hd, h2, rfl, h4.chg hc (Nat.le_refl _) hl⟩
theorem Has.chg0 (h : Has W w F p m es) (hc : Chg [] w w') : Has W w' F p m es := h.chg hc (fun _ _ => by simp) (by simp)
theorem Has.alloc (h : Has W w F p m es) (o : Obj) : Has W (w.alloc o) F p m es := h.chg0 ((Chg.refl w).alloc o)
/-- What came of one step. -/
structure Step (W w : World) (F : List Nat) (p m : Nat) (es : List Fd) (w' : World) : Prop where
  out : ∃ F2, Has W w' F2 p m es ∧ Fresh F2 F w
  chg : Chg F w w'

theorem H_new (n : Int) (w : World) (hb : Below W.heap.size W w) :
    Calls Try.prog 35 #[.int .i64 n] w fun e w' => e = .returned (.pointer (some ⟨w.heap.size, 0, none⟩)) ∧ Chg [] w w' ∧ ∃ F, Has W w' F w.heap.size (hgt n) [] ∧ ∀ x ∈ F, w.heap.size ≤ x :=
  (new_any n W.heap.size w hb.size).mono fun e w' ⟨he, hc, sv, ht, hl⟩ => ⟨he, hc, _, ⟨sv, ht, Inv.nil (hgt_le n), rfl, hb.chg hc (Nat.le_refl _) (by simp)⟩, fun x hx => by
    rcases List.mem_cons.1 hx with rfl | hx
    · exact Nat.le_refl _
    · exact Nat.le_of_lt (hl x (by simpa using hx))⟩
theorem H_add (f : Fd) (w : World) (h : Has W w F p m es) (hf : f.sz ≤ 4611686018427387904) :
    Calls Try.prog 46 #[.pointer (some ⟨p, 0, none⟩), .agg (aF f)] w fun e w' => e = .returned (.tuple #[]) ∧ Step W w F p m (addS f m es) w' := by
  obtain ⟨sv, h1, h2, rfl, h4⟩ := h
  exact (add_any f h1 h2 hf h4.size).mono fun e w' ⟨he, hc, sv', ht, hl⟩ => ⟨he, ⟨_, ⟨sv', ht, h2.add f, rfl, h4.chg hc (Nat.le_refl _) h1.foot_lo⟩, fun x hx => by
    rcases List.mem_cons.1 hx with rfl | hx
    · exact Or.inl (by simp [foot])
    · exact (hl x (by simpa using hx)).imp (fun h => by simp [foot, h]) id⟩, hc⟩
theorem H_set (n : Int) (w : World) (h : Has W w F p m es) :
    Calls Try.prog 38 #[.pointer (some ⟨p, 0, none⟩), .int .i64 n] w fun e w' => e = .returned (.tuple #[]) ∧ Step W w F p (hgt n) (fit 0 (hgt n) es) w' := by
  obtain ⟨sv, h1, h2, rfl, h4⟩ := h
  exact (set_any n h1 h4.size).mono fun e w' ⟨he, hc, sv', ht, hl⟩ => ⟨he, ⟨_, ⟨sv', ht, h2.set (hgt_le n), rfl, h4.chg hc (Nat.le_refl _) (by simp; exact h1.lo)⟩, fun x hx => by
    rcases List.mem_cons.1 hx with rfl | hx
    · exact Or.inl (by simp [foot])
    · exact (hl x (by simpa using hx)).imp (fun h => by simp [foot, h]) id⟩, hc.mono (by simp [foot])⟩
theorem H_at (i : Int) (w : World) (h : Has W w F p m es) (hi : i ≤ 9223372036854775807) :
    Calls Try.prog 70 #[.pointer (some ⟨p, 0, none⟩), .int .i64 i] w fun e w' => e = .returned (.tuple #[.agg (aF (atR es i).1), .bool (atR es i).2]) ∧ Chg [] w w' := by
  obtain ⟨sv, h1, _⟩ := h; exact at_any i h1 hi
theorem H_find (f : Fd) (w : World) (h : Has W w F p m es) :
    Calls Try.prog 43 #[.pointer (some ⟨p, 0, none⟩), .agg (aF f)] w fun e w' => e = .returned (.tuple #[.int .i64 (findR es f).1, .bool (findR es f).2]) ∧ Chg [] w w' := by
  obtain ⟨sv, h1, h2, _⟩ := h; exact find_any f h1 h2
theorem H_size (w : World) (h : Has W w F p m es) :
    Calls Try.prog 47 #[.pointer (some ⟨p, 0, none⟩)] w fun e w' => e = .returned (.int .i64 (tot es)) ∧ w = w' := by
  obtain ⟨sv, h1, _⟩ := h; exact sizeof_any h1
theorem H_max (w : World) (h : Has W w F p m es) :
    Calls Try.prog 39 #[.pointer (some ⟨p, 0, none⟩)] w fun e w' => e = .returned (.int .i64 m) ∧ w = w' := by
  obtain ⟨sv, h1, _⟩ := h; exact max_any h1
end

/-! ### What must be in any case -/
def fA : Fd := ⟨⟨#[97]⟩, ⟨#[49]⟩, false⟩
def fB : Fd := ⟨⟨#[98]⟩, ⟨#[50]⟩, true⟩
def fC : Fd := ⟨⟨#[99]⟩, ⟨#[51]⟩, false⟩
def fM : Fd := ⟨⟨#[58, 109, 101, 116, 104, 111, 100]⟩, ⟨#[80, 85, 84]⟩, false⟩
def fP : Fd := ⟨⟨#[58, 112, 97, 116, 104]⟩, ⟨#[47]⟩, false⟩
theorem s0 : hgt 100 = 100 := by decide +kernel
theorem s1 : addS fA 100 [] = [fA] := by decide +kernel
theorem s2 : addS fB 100 [fA] = [fA, fB.un] := by decide +kernel
theorem s3 : addS fC 100 [fA, fB.un] = [fB.un, fC] := by decide +kernel
theorem s4 : findR [fB.un, fC] fM = (2, false) := by decide +kernel
theorem s5 : findR [fB.un, fC] fP = (4, true) := by decide +kernel
theorem s6 : atR [fB.un, fC] 63 = (fB.un, true) := by decide +kernel
theorem s7 : tot [fB.un, fC] = 68 := by decide +kernel
end Go.Proofs.Ytmoeioaahampaaa.Tb
