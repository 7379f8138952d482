/-
  The calls on a pool once more: each keeps all blocks that are of another type than the pool's own.
-/
import Derived.Test.YthinceoklkjcpaaShown
namespace Go.Proofs.Ythinceoklkjcpaa.Pool
open Go.ChangeShapes Go.WideShapes Go.ChangeAt Go.RowKit
open Go.Proofs.Ythinceoklkjcpaa.B
set_option linter.unusedVariables false
set_option linter.unusedSimpArgs false

/-- A type that is none of a pool's own blocks'. -/
def Alien (T : TypeId) : Prop := T ≠ 50 ∧ T ≠ 51 ∧ T ≠ 54
def Keeps (w w' : World) : Prop := ∀ (b : Nat) (c : Array Value) (T : TypeId) (fz : Nat × Nat), Alien T → At w b (.cells c T fz) → At w' b (.cells c T fz)
theorem Keeps.trans {a b c : World} (h : Keeps a b) (k : Keeps b c) : Keeps a c := fun x y T fz ha hx => k x y T fz ha (h x y T fz ha hx)
theorem Keeps.drewN {a b : World} (h : Keeps a b) (n : Nat) : Keeps a (b.drewN n) := h
theorem Keeps.row {w w' : World} (h : Keeps w w') {base : Nat} {e : TypeId} {size : Nat} {v : Value} {n : Nat} {xs : List Value} (he : Alien e) (hr : w.ownsRow base e size v n xs) : w'.ownsRow base e size v n xs := by
  refine ⟨hr.1, ?_⟩
  rcases hr.2 with h2 | ⟨g, cap, cur, rfl, hb, hg, rest⟩
  · exact Or.inl h2
  · exact Or.inr ⟨g, cap, cur, rfl, hb, h g cur e (0, 0) he hg, rest⟩
theorem at_inj {w : World} {b : Nat} {c c' : Array Value} {T T' : TypeId} {fz fz' : Nat × Nat} (h : At w b (.cells c T fz)) (h' : At w b (.cells c' T' fz')) : T = T' := by
  unfold At at *; rw [h] at h'; injection h' with h'; injection h'
theorem PP.alien {w : World} {base p : Nat} {sv : Value} {bs : List Nat} {most : Int} {cs : List Cn} (h : PP w base p sv bs most cs) {b : Nat} {c : Array Value} {T : TypeId} {fz : Nat × Nat} (ha : Alien T) (hb : At w b (.cells c T fz)) : b ∉ foot p sv bs := by
  intro hx
  simp [foot] at hx
  rcases hx with rfl | hx | hx
  · exact ha.1 (at_inj hb h.head)
  · rcases h.row.2 with ⟨hv, _⟩ | ⟨g, cap, cur, hv, _, hg, _⟩
    · rw [hv] at hx; simp [Value.ownBlock] at hx
    · rw [hv] at hx; simp [Value.ownBlock] at hx; subst hx
      exact ha.2.1 (at_inj hb hg)
  · obtain ⟨i, hi⟩ := List.getElem?_of_mem hx
    have : i < cs.length := by rw [← h.len]; exact (List.getElem?_eq_some_iff.1 hi).1
    exact ha.2.2 (at_inj hb (h.conn i b _ hi (List.getElem?_eq_getElem this)))
theorem PP.keeps {w w' : World} {base p : Nat} {sv : Value} {bs : List Nat} {most : Int} {cs : List Cn} (h : PP w base p sv bs most cs) (hc : Chg (foot p sv bs) w w') : Keeps w w' :=
  fun b c T fz ha hb => hb.chg hc (h.alien ha hb)
theorem Has.keep {W w w' : World} {p : Nat} {most : Int} {cs : List Cn} {l : List Nat} (h : Has W w p most cs) (hc : Chg l w w') (hl : ∀ x ∈ l, W.heap.size ≤ x) (ha : ∀ x ∈ l, ∃ c T fz, Alien T ∧ At w x (.cells c T fz)) : Has W w' p most cs := by
  obtain ⟨sv, bs, h1, h2⟩ := h
  exact ⟨sv, bs, h1.chg hc (fun x hx hxl => by obtain ⟨c, T, fz, hT, hx'⟩ := ha x hxl; exact h1.alien hT hx' hx), h2.chg hc (Nat.le_refl _) hl⟩

section
variable {W : World} {p : Nat} {most : Int} {cs : List Cn}
theorem K_add (d n : Int) (w : World) (h : Has W w p most cs) (hf : None' cs d) (hm : (cs.length : Int) < most) (hm2 : most ≤ 64) :
    Calls Try.prog 11 #[.pointer (some ⟨p, 0, none⟩), .int .i64 d, .int .i64 n] w fun e w' => e = .returned (.bool true) ∧ Has W w' p most (cs ++ [⟨d, max n 0, 0, false⟩]) ∧ Keeps w w' := by
  have hlo := h.lo
  obtain ⟨sv, bs, h1, h2⟩ := h
  exact (add_ok d n w h1 hf hm hm2 hlo).mono fun e w' ⟨he, sv', b, hc, hp, hx⟩ => ⟨he, ⟨sv', _, hp, h2.chg hc (Nat.le_refl _) h1.lo⟩, h1.keeps hc⟩
theorem K_add_full (d n : Int) (w : World) (h : Has W w p most cs) (hf : None' cs d) (hm : (cs.length : Int) = most) :
    Calls Try.prog 11 #[.pointer (some ⟨p, 0, none⟩), .int .i64 d, .int .i64 n] w fun e w' => e = .returned (.bool false) ∧ Has W w' p most cs ∧ Keeps w w' := by
  obtain ⟨sv, bs, h1, h2⟩ := h
  exact (add_full d n w h1 hf hm).mono fun e w' ⟨he, q, hq⟩ => ⟨he, by rw [hq]; exact Has.drewN ⟨sv, bs, h1, h2⟩ q, by rw [hq]; exact h1.keeps ((Chg.refl _).drewN q)⟩
theorem K_add_found (d n : Int) (w : World) (h : Has W w p most cs) {i : Nat} {c0 : Cn} (hf : First cs d i c0) :
    Calls Try.prog 11 #[.pointer (some ⟨p, 0, none⟩), .int .i64 d, .int .i64 n] w fun e w' => e = .returned (.bool false) ∧ Has W w' p most cs ∧ Keeps w w' := by
  obtain ⟨sv, bs, h1, h2⟩ := h
  exact (add_found d n w h1 hf).mono fun e w' ⟨he, q, hq⟩ => ⟨he, by rw [hq]; exact Has.drewN ⟨sv, bs, h1, h2⟩ q, by rw [hq]; exact h1.keeps ((Chg.refl _).drewN q)⟩
theorem K_take (w : World) (h : Has W w p most cs) (hok : ∀ c ∈ cs, c.Ok) {j : Nat} {c : Cn} (hb : bestK cs cs.length = some j) (hc : cs[j]? = some c) :
    Calls Try.prog 12 #[.pointer (some ⟨p, 0, none⟩)] w fun e w' => e = .returned (.tuple #[.int .i64 c.id, .bool true]) ∧ Has W w' p most (cs.set j { c with used := c.used + 1 }) ∧ Keeps w w' := by
  obtain ⟨sv, bs, h1, h2⟩ := h
  exact (take_some w h1 hok hb hc).mono fun e w' ⟨he, hch, hp⟩ => ⟨he, ⟨sv, bs, hp, h2.chg hch (Nat.le_refl _) h1.lo⟩, h1.keeps hch⟩
theorem K_take_none (w : World) (h : Has W w p most cs) (hok : ∀ c ∈ cs, c.Ok) (hb : bestK cs cs.length = none) :
    Calls Try.prog 12 #[.pointer (some ⟨p, 0, none⟩)] w fun e w' => e = .returned (.tuple #[.int .i64 0, .bool false]) ∧ Has W w' p most cs ∧ Keeps w w' := by
  obtain ⟨sv, bs, h1, h2⟩ := h
  exact (take_none w h1 hok hb).mono fun e w' ⟨he, q, hq⟩ => ⟨he, by rw [hq]; exact Has.drewN ⟨sv, bs, h1, h2⟩ q, by rw [hq]; exact h1.keeps ((Chg.refl _).drewN q)⟩
theorem K_slots (d n : Int) (w : World) (h : Has W w p most cs) {i : Nat} {c0 : Cn} (hf : First cs d i c0) :
    Calls Try.prog 14 #[.pointer (some ⟨p, 0, none⟩), .int .i64 d, .int .i64 n] w fun e w' => e = .returned (.bool true) ∧ Has W w' p most (cs.set i { c0 with slots := max n 0 }) ∧ Keeps w w' := by
  obtain ⟨sv, bs, h1, h2⟩ := h
  exact (slots_some d n w h1 hf).mono fun e w' ⟨he, hc, hp⟩ => ⟨he, ⟨sv, bs, hp, h2.chg hc (Nat.le_refl _) h1.lo⟩, h1.keeps hc⟩
theorem K_slots_none (d n : Int) (w : World) (h : Has W w p most cs) (hf : None' cs d) :
    Calls Try.prog 14 #[.pointer (some ⟨p, 0, none⟩), .int .i64 d, .int .i64 n] w fun e w' => e = .returned (.bool false) ∧ Has W w' p most cs ∧ Keeps w w' := by
  have h0 := h
  obtain ⟨sv, bs, h1, h2⟩ := h
  exact (slots_none d n w h1 hf).mono fun e w' ⟨he, hc⟩ => ⟨he, h0.step hc, h1.keeps (hc.mono (by simp))⟩
theorem K_drain (d : Int) (w : World) (h : Has W w p most cs) {i : Nat} {c0 : Cn} (hf : First cs d i c0) :
    Calls Try.prog 19 #[.pointer (some ⟨p, 0, none⟩), .int .i64 d] w fun e w' => e = .returned (.bool true) ∧ Has W w' p most (cs.set i { c0 with drains := true }) ∧ Keeps w w' := by
  obtain ⟨sv, bs, h1, h2⟩ := h
  exact (drain_some d w h1 hf).mono fun e w' ⟨he, hc, hp⟩ => ⟨he, ⟨sv, bs, hp, h2.chg hc (Nat.le_refl _) h1.lo⟩, h1.keeps hc⟩
theorem K_free (d : Int) (w : World) (h : Has W w p most cs) {i : Nat} {c0 : Cn} (hf : First cs d i c0) (h0 : 0 < c0.used) (hu : c0.used ≤ 9223372036854775807) :
    Calls Try.prog 21 #[.pointer (some ⟨p, 0, none⟩), .int .i64 d] w fun e w' => e = .returned (.bool true) ∧ Has W w' p most (cs.set i { c0 with used := c0.used - 1 }) ∧ Keeps w w' := by
  obtain ⟨sv, bs, h1, h2⟩ := h
  exact (free_more d w h1 hf h0 hu).mono fun e w' ⟨he, hc, hp⟩ => ⟨he, ⟨sv, bs, hp, h2.chg hc (Nat.le_refl _) h1.lo⟩, h1.keeps hc⟩
end
end Go.Proofs.Ythinceoklkjcpaa.Pool
