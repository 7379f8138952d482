/-
  The walk of 'shown': the document's examples.
-/
import Derived.Test.YthinceoklkjcpaaPool4
namespace Go.Proofs.Ythinceoklkjcpaa.Pool
open Go.ChangeShapes Go.WideShapes Go.ChangeAt Go.RowKit
open Go.Proofs.Ythinceoklkjcpaa.B
set_option linter.unusedVariables false
set_option linter.unusedSimpArgs false

/-- A state of the pool in memory, its blocks unknown; all that has changed since W is its own. -/
def Has (W w : World) (p : Nat) (most : Int) (cs : List Cn) : Prop :=
  ∃ sv bs, PP w W.heap.size p sv bs most cs ∧ Below W.heap.size W w
theorem Has.lo {W w : World} {p : Nat} {most : Int} {cs : List Cn} (h : Has W w p most cs) : W.heap.size ≤ w.heap.size := by obtain ⟨_, _, _, hb⟩ := h; exact hb.size
theorem Has.below {W w : World} {p : Nat} {most : Int} {cs : List Cn} (h : Has W w p most cs) : Below W.heap.size W w := by obtain ⟨_, _, _, hb⟩ := h; exact hb
theorem Has.drewN {W w : World} {p : Nat} {most : Int} {cs : List Cn} (h : Has W w p most cs) (n : Nat) : Has W (w.drewN n) p most cs := by obtain ⟨sv, bs, h1, h2⟩ := h; exact ⟨sv, bs, h1.drewN n, h2.drewN n⟩
theorem Has.step {W w w' : World} {p : Nat} {most : Int} {cs : List Cn} (h : Has W w p most cs) (hc : Chg [] w w') : Has W w' p most cs := by
  obtain ⟨sv, bs, h1, h2⟩ := h; exact ⟨sv, bs, h1.chg hc (by simp), h2.chg hc (Nat.le_refl _) (by simp)⟩

section
variable {W : World} {p : Nat} {most : Int} {cs : List Cn}
theorem H_new (n : Int) (w : World) (hb : Below W.heap.size W w) :
    Calls Try.prog 10 #[.int .i64 n] w fun e w' => e = .returned (.pointer (some ⟨w.heap.size, 0, none⟩)) ∧ Has W w' w.heap.size (min (max n 0) 64) [] :=
  (new_any n W.heap.size w hb.size).mono fun e w' ⟨he, hc, hp⟩ => ⟨he, _, _, hp, hb.chg hc (Nat.le_refl _) (by simp)⟩
theorem H_add (d n : Int) (w : World) (h : Has W w p most cs) (hf : None' cs d) (hm : (cs.length : Int) < most) (hm2 : most ≤ 64) :
    Calls Try.prog 11 #[.pointer (some ⟨p, 0, none⟩), .int .i64 d, .int .i64 n] w fun e w' => e = .returned (.bool true) ∧ Has W w' p most (cs ++ [⟨d, max n 0, 0, false⟩]) := by
  have hlo := h.lo
  obtain ⟨sv, bs, h1, h2⟩ := h
  exact (add_ok d n w h1 hf hm hm2 hlo).mono fun e w' ⟨he, sv', b, hc, hp, hx⟩ => ⟨he, sv', _, hp, h2.chg hc (Nat.le_refl _) h1.lo⟩
theorem H_add_full (d n : Int) (w : World) (h : Has W w p most cs) (hf : None' cs d) (hm : (cs.length : Int) = most) :
    Calls Try.prog 11 #[.pointer (some ⟨p, 0, none⟩), .int .i64 d, .int .i64 n] w fun e w' => e = .returned (.bool false) ∧ Has W w' p most cs := by
  obtain ⟨sv, bs, h1, h2⟩ := h
  exact (add_full d n w h1 hf hm).mono fun e w' ⟨he, q, hq⟩ => ⟨he, by rw [hq]; exact Has.drewN ⟨sv, bs, h1, h2⟩ q⟩
theorem H_add_found (d n : Int) (w : World) (h : Has W w p most cs) {i : Nat} {c0 : Cn} (hf : First cs d i c0) :
    Calls Try.prog 11 #[.pointer (some ⟨p, 0, none⟩), .int .i64 d, .int .i64 n] w fun e w' => e = .returned (.bool false) ∧ Has W w' p most cs := by
  obtain ⟨sv, bs, h1, h2⟩ := h
  exact (add_found d n w h1 hf).mono fun e w' ⟨he, q, hq⟩ => ⟨he, by rw [hq]; exact Has.drewN ⟨sv, bs, h1, h2⟩ q⟩
theorem H_take (w : World) (h : Has W w p most cs) (hok : ∀ c ∈ cs, c.Ok) {j : Nat} {c : Cn} (hb : bestK cs cs.length = some j) (hc : cs[j]? = some c) :
    Calls Try.prog 12 #[.pointer (some ⟨p, 0, none⟩)] w fun e w' => e = .returned (.tuple #[.int .i64 c.id, .bool true]) ∧ Has W w' p most (cs.set j { c with used := c.used + 1 }) := by
  obtain ⟨sv, bs, h1, h2⟩ := h
  exact (take_some w h1 hok hb hc).mono fun e w' ⟨he, hch, hp⟩ => ⟨he, sv, bs, hp, h2.chg hch (Nat.le_refl _) h1.lo⟩
theorem H_take_none (w : World) (h : Has W w p most cs) (hok : ∀ c ∈ cs, c.Ok) (hb : bestK cs cs.length = none) :
    Calls Try.prog 12 #[.pointer (some ⟨p, 0, none⟩)] w fun e w' => e = .returned (.tuple #[.int .i64 0, .bool false]) ∧ Has W w' p most cs := by
  obtain ⟨sv, bs, h1, h2⟩ := h
  exact (take_none w h1 hok hb).mono fun e w' ⟨he, q, hq⟩ => ⟨he, by rw [hq]; exact Has.drewN ⟨sv, bs, h1, h2⟩ q⟩
theorem H_slots (d n : Int) (w : World) (h : Has W w p most cs) {i : Nat} {c0 : Cn} (hf : First cs d i c0) :
    Calls Try.prog 14 #[.pointer (some ⟨p, 0, none⟩), .int .i64 d, .int .i64 n] w fun e w' => e = .returned (.bool true) ∧ Has W w' p most (cs.set i { c0 with slots := max n 0 }) := by
  obtain ⟨sv, bs, h1, h2⟩ := h
  exact (slots_some d n w h1 hf).mono fun e w' ⟨he, hc, hp⟩ => ⟨he, sv, bs, hp, h2.chg hc (Nat.le_refl _) h1.lo⟩
theorem H_slots_none (d n : Int) (w : World) (h : Has W w p most cs) (hf : None' cs d) :
    Calls Try.prog 14 #[.pointer (some ⟨p, 0, none⟩), .int .i64 d, .int .i64 n] w fun e w' => e = .returned (.bool false) ∧ Has W w' p most cs := by
  have h0 := h
  obtain ⟨sv, bs, h1, h2⟩ := h
  exact (slots_none d n w h1 hf).mono fun e w' ⟨he, hc⟩ => ⟨he, h0.step hc⟩
theorem H_drain (d : Int) (w : World) (h : Has W w p most cs) {i : Nat} {c0 : Cn} (hf : First cs d i c0) :
    Calls Try.prog 19 #[.pointer (some ⟨p, 0, none⟩), .int .i64 d] w fun e w' => e = .returned (.bool true) ∧ Has W w' p most (cs.set i { c0 with drains := true }) := by
  obtain ⟨sv, bs, h1, h2⟩ := h
  exact (drain_some d w h1 hf).mono fun e w' ⟨he, hc, hp⟩ => ⟨he, sv, bs, hp, h2.chg hc (Nat.le_refl _) h1.lo⟩
theorem H_drain_none (d : Int) (w : World) (h : Has W w p most cs) (hf : None' cs d) :
    Calls Try.prog 19 #[.pointer (some ⟨p, 0, none⟩), .int .i64 d] w fun e w' => e = .returned (.bool false) ∧ w = w' := by
  obtain ⟨sv, bs, h1, h2⟩ := h
  exact drain_none d w h1 hf
theorem H_free (d : Int) (w : World) (h : Has W w p most cs) {i : Nat} {c0 : Cn} (hf : First cs d i c0) (h0 : 0 < c0.used) (hu : c0.used ≤ 9223372036854775807) :
    Calls Try.prog 21 #[.pointer (some ⟨p, 0, none⟩), .int .i64 d] w fun e w' => e = .returned (.bool true) ∧ Has W w' p most (cs.set i { c0 with used := c0.used - 1 }) := by
  obtain ⟨sv, bs, h1, h2⟩ := h
  exact (free_more d w h1 hf h0 hu).mono fun e w' ⟨he, hc, hp⟩ => ⟨he, sv, bs, hp, h2.chg hc (Nat.le_refl _) h1.lo⟩
theorem H_free_none (d : Int) (w : World) (h : Has W w p most cs) (hf : None' cs d) :
    Calls Try.prog 21 #[.pointer (some ⟨p, 0, none⟩), .int .i64 d] w fun e w' => e = .returned (.bool false) ∧ w = w' := by
  obtain ⟨sv, bs, h1, h2⟩ := h
  exact free_none d w h1 hf
theorem H_free_zero (d : Int) (w : World) (h : Has W w p most cs) {i : Nat} {c0 : Cn} (hf : First cs d i c0) (h0 : c0.used = 0) :
    Calls Try.prog 21 #[.pointer (some ⟨p, 0, none⟩), .int .i64 d] w fun e w' => e = .returned (.bool false) ∧ w = w' := by
  obtain ⟨sv, bs, h1, h2⟩ := h
  exact free_zero d w h1 hf h0
theorem H_used (d : Int) (w : World) (h : Has W w p most cs) {i : Nat} {c0 : Cn} (hf : First cs d i c0) :
    Calls Try.prog 13 #[.pointer (some ⟨p, 0, none⟩), .int .i64 d] w fun e w' => e = .returned (.int .i64 c0.used) ∧ w = w' := by
  obtain ⟨sv, bs, h1, h2⟩ := h
  exact used_some d w h1 hf
theorem H_used_none (d : Int) (w : World) (h : Has W w p most cs) (hf : None' cs d) :
    Calls Try.prog 13 #[.pointer (some ⟨p, 0, none⟩), .int .i64 d] w fun e w' => e = .returned (.int .i64 0) ∧ w = w' := by
  obtain ⟨sv, bs, h1, h2⟩ := h
  exact used_none d w h1 hf
theorem H_len (w : World) (h : Has W w p most cs) :
    Calls Try.prog 17 #[.pointer (some ⟨p, 0, none⟩)] w fun e w' => e = .returned (.int .i64 cs.length) ∧ w = w' := by
  obtain ⟨sv, bs, h1, h2⟩ := h
  exact len_any w h1
end

theorem ok_of (l : List Cn) (h : (l.all fun c => decide (0 ≤ c.slots) && decide (c.slots ≤ 9223372036854775807) && decide (0 ≤ c.used) && decide (c.used ≤ 9223372036854775807)) = true) : ∀ c ∈ l, c.Ok := by
  intro c hc
  have := List.all_eq_true.1 h c hc
  simp at this
  exact ⟨this.1.1.1, this.1.1.2, this.1.2, this.2⟩
theorem first0 (c : Cn) (cs : List Cn) : First (c :: cs) c.id 0 c := ⟨rfl, rfl, fun j d hj => by omega⟩
theorem first1 (a c : Cn) (cs : List Cn) (h : a.id ≠ c.id) : First (a :: c :: cs) c.id 1 c := ⟨rfl, rfl, fun j d hj hd => by
  obtain rfl : j = 0 := by omega
  simp at hd; subst hd; exact h⟩

set_option maxRecDepth 100000 in
set_option maxHeartbeats 4000000 in
theorem shown_any (w : World) : Calls Try.prog 9 #[] w fun e w' => e = .returned (.bool true) ∧ Below w.heap.size w w' := by
  go_enter Try.func9, Try.ntmps9
  go_wp2_with fail
  refine (H_new 2 w (Below.refl _ _)).mono ?_; rintro e w1 ⟨rfl, h1⟩
  have h1 : Has w w1 w.heap.size 2 [] := h1
  generalize hp : w.heap.size = p at *
  clear hp
  go_wp2_with fail
  refine (H_add 7 1 w1 h1 (by simp [None']) (by decide) (by decide)).mono ?_; rintro e w2 ⟨rfl, h2⟩
  have h2 : Has w w2 p 2 [⟨7, 1, 0, false⟩] := h2
  go_wp2_with fail
  refine (H_add 9 2 w2 h2 (by simp [None']) (by decide) (by decide)).mono ?_; rintro e w3 ⟨rfl, h3⟩
  have h3 : Has w w3 p 2 [⟨7, 1, 0, false⟩, ⟨9, 2, 0, false⟩] := h3
  go_wp2_with fail
  refine (H_add_full 11 1 w3 h3 (by simp [None']) (by decide)).mono ?_; rintro e w4 ⟨rfl, h4⟩
  go_wp2_with fail
  refine (H_take w4 h4 (ok_of _ (by decide)) (j := 0) (c := ⟨7, 1, 0, false⟩) (by decide) rfl).mono ?_; rintro e w5 ⟨rfl, h5⟩
  have h5 : Has w w5 p 2 [⟨7, 1, 1, false⟩, ⟨9, 2, 0, false⟩] := h5
  go_wp2_with fail
  refine (H_take w5 h5 (ok_of _ (by decide)) (j := 1) (c := ⟨9, 2, 0, false⟩) (by decide) rfl).mono ?_; rintro e w6 ⟨rfl, h6⟩
  have h6 : Has w w6 p 2 [⟨7, 1, 1, false⟩, ⟨9, 2, 1, false⟩] := h6
  go_wp2_with fail
  refine (H_take w6 h6 (ok_of _ (by decide)) (j := 1) (c := ⟨9, 2, 1, false⟩) (by decide) rfl).mono ?_; rintro e w7 ⟨rfl, h7⟩
  have h7 : Has w w7 p 2 [⟨7, 1, 1, false⟩, ⟨9, 2, 2, false⟩] := h7
  go_wp2_with fail
  refine (H_take_none w7 h7 (ok_of _ (by decide)) (by decide)).mono ?_; rintro e w8 ⟨rfl, h8⟩
  go_wp2_with fail
  refine (H_free 7 w8 h8 (first0 _ _) (by decide) (by decide)).mono ?_; rintro e w9 ⟨rfl, h9⟩
  have h9 : Has w w9 p 2 [⟨7, 1, 0, false⟩, ⟨9, 2, 2, false⟩] := h9
  go_wp2_with fail
  refine (H_drain 7 w9 h9 (first0 _ _)).mono ?_; rintro e w10 ⟨rfl, h10⟩
  have h10 : Has w w10 p 2 [⟨7, 1, 0, true⟩, ⟨9, 2, 2, false⟩] := h10
  go_wp2_with fail
  refine (H_take_none w10 h10 (ok_of _ (by decide)) (by decide)).mono ?_; rintro e w11 ⟨rfl, h11⟩
  go_wp2_with (first
    | (go_at_call 13; refine (H_used 9 _ h11 (first1 _ _ _ (by decide))).mono ?_; rintro e w12 ⟨rfl, rfl⟩)
    | (go_at_call 17; refine (H_len _ h11).mono ?_; rintro e w12 ⟨rfl, rfl⟩))
  go_ret
  exact ⟨by simp, h11.below⟩
end Go.Proofs.Ythinceoklkjcpaa.Pool
