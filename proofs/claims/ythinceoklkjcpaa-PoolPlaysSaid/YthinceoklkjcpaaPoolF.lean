/-
  The calls on a pool as functions of what it holds: one contract each, whatever the answer.
-/
import Derived.Test.YthinceoklkjcpaaPool5
namespace Go.Proofs.Ythinceoklkjcpaa.Pool
open Go.ChangeShapes Go.WideShapes Go.ChangeAt Go.RowKit
open Go.Proofs.Ythinceoklkjcpaa.B
set_option linter.unusedVariables false
set_option linter.unusedSimpArgs false

/-- Where a connection stands. -/
def pos : List Cn → Int → Option Nat
  | [], _ => none
  | c :: cs, d => if c.id = d then some 0 else (pos cs d).map (· + 1)
theorem pos_none {cs : List Cn} {d : Int} (h : pos cs d = none) : None' cs d := by
  induction cs with
  | nil => simp [None']
  | cons c cs ih =>
    unfold pos at h
    split at h
    · cases h
    · rename_i hn
      have h' : pos cs d = none := by simpa using h
      exact fun x hx => (List.mem_cons.1 hx).elim (fun e => e ▸ hn) (ih h' x)
theorem pos_some {cs : List Cn} {d : Int} {i : Nat} (h : pos cs d = some i) : ∃ c, cs[i]? = some c ∧ First cs d i c := by
  induction cs generalizing i with
  | nil => simp [pos] at h
  | cons c cs ih =>
    unfold pos at h
    split at h
    · rename_i he
      obtain rfl := Option.some.inj h
      exact ⟨c, rfl, rfl, he, fun j e hj => by omega⟩
    · rename_i hn
      obtain ⟨k, hk, rfl⟩ := Option.map_eq_some_iff.1 h
      obtain ⟨e, h1, h2, h3, h4⟩ := ih hk
      refine ⟨e, by simpa using h1, by simpa using h1, h3, fun j x hj hx => ?_⟩
      cases j with
      | zero => simp at hx; subst hx; exact hn
      | succ j => exact h4 j x (by omega) (by simpa using hx)
theorem pos_lt {cs : List Cn} {d : Int} {i : Nat} (h : pos cs d = some i) : i < cs.length := by
  obtain ⟨c, hc, _⟩ := pos_some h
  exact (List.getElem?_eq_some_iff.1 hc).1
def cnAt (cs : List Cn) (i : Nat) : Cn := (cs[i]?).getD ⟨0, 0, 0, false⟩
theorem cnAt_get {cs : List Cn} {i : Nat} (h : i < cs.length) : cs[i]? = some (cnAt cs i) := by
  unfold cnAt; rw [List.getElem?_eq_getElem h]; rfl
theorem pos_first {cs : List Cn} {d : Int} {i : Nat} (h : pos cs d = some i) : First cs d i (cnAt cs i) := by
  obtain ⟨c, hc, hf⟩ := pos_some h
  have := cnAt_get (pos_lt h)
  rw [hc] at this
  rw [← Option.some.inj this]; exact hf
def addR (most : Int) (cs : List Cn) (d : Int) : Bool := (pos cs d).isNone && decide ((cs.length : Int) ≠ most)
def addS (most : Int) (cs : List Cn) (d n : Int) : List Cn := if addR most cs d = true then cs ++ [⟨d, max n 0, 0, false⟩] else cs
def hasR (cs : List Cn) (d : Int) : Bool := (pos cs d).isSome
def updS (f : Cn → Cn) (cs : List Cn) (d : Int) : List Cn := match pos cs d with | none => cs | some i => cs.set i (f (cnAt cs i))
def slotsS (cs : List Cn) (d n : Int) : List Cn := updS (fun c => { c with slots := max n 0 }) cs d
def drainS (cs : List Cn) (d : Int) : List Cn := updS (fun c => { c with drains := true }) cs d
def usedR (cs : List Cn) (d : Int) : Int := match pos cs d with | none => 0 | some i => (cnAt cs i).used
def removeR (cs : List Cn) (d : Int) : Int := match pos cs d with | none => -1 | some i => (cnAt cs i).used
def removeS (cs : List Cn) (d : Int) : List Cn := match pos cs d with | none => cs | some i => cs.eraseIdx i
def freeR (cs : List Cn) (d : Int) : Bool := match pos cs d with | none => false | some i => decide ((cnAt cs i).used ≠ 0)
def freeS (cs : List Cn) (d : Int) : List Cn := if freeR cs d = true then updS (fun c => { c with used := c.used - 1 }) cs d else cs
def takeR (cs : List Cn) : Int × Bool := match bestK cs cs.length with | none => (0, false) | some j => ((cnAt cs j).id, true)
def takeS (cs : List Cn) : List Cn := match bestK cs cs.length with | none => cs | some j => cs.set j { cnAt cs j with used := (cnAt cs j).used + 1 }

/-- What is true of a pool at all times. -/
structure Inv (most : Int) (cs : List Cn) : Prop where
  nd : (cs.map (·.id)).Nodup
  ok : ∀ c ∈ cs, c.Ok
  len : (cs.length : Int) ≤ most
  most : most ≤ 64
theorem Inv.nil {most : Int} (h0 : 0 ≤ most) (h : most ≤ 64) : Inv most [] := ⟨by simp, by simp, by simpa using h0, h⟩
theorem mem_set {α : Type} {l : List α} {i : Nat} {a x : α} (h : x ∈ l.set i a) : x ∈ l ∨ x = a := List.mem_or_eq_of_mem_set h
theorem map_set_id {cs : List Cn} {i : Nat} {c : Cn} (hi : i < cs.length) (h : c.id = (cnAt cs i).id) : (cs.set i c).map (·.id) = cs.map (·.id) := by
  rw [List.map_set, h]
  apply List.ext_getElem?
  intro k
  by_cases hk : i = k
  · subst hk
    rw [List.getElem?_set_self (by simpa using hi), List.getElem?_map, cnAt_get hi]; rfl
  · rw [List.getElem?_set_ne hk]
theorem Inv.set {most : Int} {cs : List Cn} (h : Inv most cs) {i : Nat} {c : Cn} (hi : i < cs.length) (hid : c.id = (cnAt cs i).id) (hc : c.Ok) : Inv most (cs.set i c) :=
  ⟨by rw [map_set_id hi hid]; exact h.nd, fun x hx => (mem_set hx).elim (h.ok x) (fun e => e ▸ hc), by rw [List.length_set]; exact h.len, h.most⟩
theorem Inv.at {most : Int} {cs : List Cn} (h : Inv most cs) {i : Nat} (hi : i < cs.length) : (cnAt cs i).Ok := h.ok _ (List.mem_of_getElem? (cnAt_get hi))
theorem Inv.upd {most : Int} {cs : List Cn} (h : Inv most cs) (f : Cn → Cn) (d : Int) (hid : ∀ c, (f c).id = c.id) (hf : ∀ i, pos cs d = some i → (f (cnAt cs i)).Ok) : Inv most (updS f cs d) := by
  unfold updS
  cases hp : pos cs d with
  | none => exact h
  | some i => exact h.set (pos_lt hp) (hid _) (hf i hp)
theorem Inv.add {most : Int} {cs : List Cn} (h : Inv most cs) (d n : Int) (hn : n ≤ 9223372036854775807) : Inv most (addS most cs d n) := by
  unfold addS
  split
  · rename_i ha
    unfold addR at ha
    simp only [Bool.and_eq_true, Option.isNone_iff_eq_none, decide_eq_true_eq] at ha
    have hnone := pos_none ha.1
    refine ⟨?_, fun c hc => ?_, ?_, h.most⟩
    · rw [List.map_append, List.nodup_append]
      refine ⟨h.nd, by simp, fun a ha b hb => ?_⟩
      simp only [List.map_cons, List.map_nil, List.mem_singleton] at hb
      obtain ⟨c, hc, rfl⟩ := List.mem_map.1 ha
      rw [hb]; exact hnone c hc
    · rcases List.mem_append.1 hc with hc | hc
      · exact h.ok c hc
      · simp only [List.mem_singleton] at hc
        subst hc
        exact ⟨by show 0 ≤ max n 0; omega, by show max n 0 ≤ _; omega, by show (0 : Int) ≤ 0; omega, by show (0 : Int) ≤ _; omega⟩
    · have := h.len
      rw [List.length_append, List.length_singleton]
      omega
  · exact h
theorem Inv.slots {most : Int} {cs : List Cn} (h : Inv most cs) (d n : Int) (hn : n ≤ 9223372036854775807) : Inv most (slotsS cs d n) :=
  h.upd _ d (fun _ => rfl) (fun i hp => by
    have := h.at (pos_lt hp)
    exact ⟨by show 0 ≤ max n 0; omega, by show max n 0 ≤ _; omega, this.u0, this.u1⟩)
theorem Inv.drain {most : Int} {cs : List Cn} (h : Inv most cs) (d : Int) : Inv most (drainS cs d) :=
  h.upd _ d (fun _ => rfl) (fun i hp => by have := h.at (pos_lt hp); exact ⟨this.s0, this.s1, this.u0, this.u1⟩)
theorem Inv.remove {most : Int} {cs : List Cn} (h : Inv most cs) (d : Int) : Inv most (removeS cs d) := by
  unfold removeS
  cases hp : pos cs d with
  | none => exact h
  | some i =>
    refine ⟨?_, fun c hc => h.ok c (List.mem_of_mem_eraseIdx hc), ?_, h.most⟩
    · rw [← map_erase]; exact h.nd.eraseIdx i
    · have := h.len
      have h2 : (cs.eraseIdx i).length ≤ cs.length := List.length_eraseIdx_le _ _
      show ((cs.eraseIdx i).length : Int) ≤ most
      omega
theorem Inv.free {most : Int} {cs : List Cn} (h : Inv most cs) (d : Int) : Inv most (freeS cs d) := by
  unfold freeS
  split
  · rename_i hr
    refine h.upd _ d (fun _ => rfl) (fun i hp => ?_)
    unfold freeR at hr
    rw [hp] at hr
    have := h.at (pos_lt hp)
    have h1 : (cnAt cs i).used ≠ 0 := by simpa using hr
    have h2 := this.u0
    exact ⟨this.s0, this.s1, by show 0 ≤ (cnAt cs i).used - 1; omega, by show (cnAt cs i).used - 1 ≤ _; have := this.u1; omega⟩
  · exact h
theorem best_lt {cs : List Cn} {j : Nat} (h : bestK cs cs.length = some j) : j < cs.length ∧ okB (cnAt cs j) = true := by
  obtain ⟨h1, c, h2, h3, _⟩ := bestK_some h
  have := cnAt_get h1
  rw [h2] at this
  rw [← Option.some.inj this]
  exact ⟨h1, h3⟩
theorem Inv.take {most : Int} {cs : List Cn} (h : Inv most cs) : Inv most (takeS cs) := by
  unfold takeS
  cases hb : bestK cs cs.length with
  | none => exact h
  | some j =>
    obtain ⟨h1, h2⟩ := best_lt hb
    have := h.at h1
    have h3 : (cnAt cs j).used < (cnAt cs j).slots := by unfold okB at h2; simp at h2; exact h2.2
    exact h.set h1 rfl ⟨this.s0, this.s1, by show 0 ≤ (cnAt cs j).used + 1; have := this.u0; omega, by show (cnAt cs j).used + 1 ≤ _; have := this.s1; omega⟩

section
variable {W : World} {p : Nat} {most : Int} {cs : List Cn}
theorem X_add (d n : Int) (w : World) (h : Has W w p most cs) (hi : Inv most cs) :
    Calls Try.prog 11 #[.pointer (some ⟨p, 0, none⟩), .int .i64 d, .int .i64 n] w fun e w' => e = .returned (.bool (addR most cs d)) ∧ Has W w' p most (addS most cs d n) ∧ Keeps w w' := by
  unfold addS addR
  cases hp : pos cs d with
  | some i => exact K_add_found d n w h (pos_first hp)
  | none =>
    by_cases hm : (cs.length : Int) = most
    · have := K_add_full d n w h (pos_none hp) hm
      simpa [hm] using this
    · have := K_add d n w h (pos_none hp) (by have := hi.len; omega) hi.most
      simpa [hm] using this
theorem X_slots (d n : Int) (w : World) (h : Has W w p most cs) :
    Calls Try.prog 14 #[.pointer (some ⟨p, 0, none⟩), .int .i64 d, .int .i64 n] w fun e w' => e = .returned (.bool (hasR cs d)) ∧ Has W w' p most (slotsS cs d n) ∧ Keeps w w' := by
  unfold slotsS updS hasR
  cases hp : pos cs d with
  | none => exact K_slots_none d n w h (pos_none hp)
  | some i => exact K_slots d n w h (pos_first hp)
theorem X_drain (d : Int) (w : World) (h : Has W w p most cs) :
    Calls Try.prog 19 #[.pointer (some ⟨p, 0, none⟩), .int .i64 d] w fun e w' => e = .returned (.bool (hasR cs d)) ∧ Has W w' p most (drainS cs d) ∧ Keeps w w' := by
  unfold drainS updS hasR
  cases hp : pos cs d with
  | none =>
    have h0 := h
    obtain ⟨sv, bs, h1, h2⟩ := h
    exact (drain_none d w h1 (pos_none hp)).mono fun e w' ⟨he, hc⟩ => ⟨he, by rw [← hc]; exact h0, by rw [← hc]; exact h1.keeps (Chg.refl _)⟩
  | some i => exact K_drain d w h (pos_first hp)
theorem X_free (d : Int) (w : World) (h : Has W w p most cs) (hi : Inv most cs) :
    Calls Try.prog 21 #[.pointer (some ⟨p, 0, none⟩), .int .i64 d] w fun e w' => e = .returned (.bool (freeR cs d)) ∧ Has W w' p most (freeS cs d) ∧ Keeps w w' := by
  unfold freeS freeR updS
  cases hp : pos cs d with
  | none =>
    have h0 := h
    obtain ⟨sv, bs, h1, h2⟩ := h
    exact (free_none d w h1 (pos_none hp)).mono fun e w' ⟨he, hc⟩ => ⟨he, by rw [← hc]; exact h0, by rw [← hc]; exact h1.keeps (Chg.refl _)⟩
  | some i =>
    have hok := hi.at (pos_lt hp)
    by_cases hz : (cnAt cs i).used = 0
    · have h0 := h
      obtain ⟨sv, bs, h1, h2⟩ := h
      simp only [hz, ne_eq, not_true_eq_false, decide_false, Bool.false_eq_true, if_false]
      exact (free_zero d w h1 (pos_first hp) hz).mono fun e w' ⟨he, hc⟩ => ⟨he, by rw [← hc]; exact h0, by rw [← hc]; exact h1.keeps (Chg.refl _)⟩
    · have := K_free d w h (pos_first hp) (by have := hok.u0; omega) hok.u1
      simpa [hz] using this
theorem X_used (d : Int) (w : World) (h : Has W w p most cs) :
    Calls Try.prog 13 #[.pointer (some ⟨p, 0, none⟩), .int .i64 d] w fun e w' => e = .returned (.int .i64 (usedR cs d)) ∧ w = w' := by
  unfold usedR
  obtain ⟨sv, bs, h1, h2⟩ := h
  cases hp : pos cs d with
  | none => exact used_none d w h1 (pos_none hp)
  | some i => exact used_some d w h1 (pos_first hp)
theorem X_remove (d : Int) (w : World) (h : Has W w p most cs) :
    Calls Try.prog 20 #[.pointer (some ⟨p, 0, none⟩), .int .i64 d] w fun e w' => e = .returned (.int .i64 (removeR cs d)) ∧ Has W w' p most (removeS cs d) ∧ Keeps w w' := by
  unfold removeR removeS
  cases hp : pos cs d with
  | none => exact K_remove_none d w h (pos_none hp)
  | some i => exact K_remove d w h (pos_first hp)
theorem X_take (w : World) (h : Has W w p most cs) (hi : Inv most cs) :
    Calls Try.prog 12 #[.pointer (some ⟨p, 0, none⟩)] w fun e w' => e = .returned (.tuple #[.int .i64 (takeR cs).1, .bool (takeR cs).2]) ∧ Has W w' p most (takeS cs) ∧ Keeps w w' := by
  unfold takeR takeS
  cases hb : bestK cs cs.length with
  | none => exact K_take_none w h hi.ok hb
  | some j => exact K_take w h hi.ok hb (cnAt_get (best_lt hb).1)
end

/-! ### What follows from unlike ids -/
theorem pos_at {cs : List Cn} (h : (cs.map (·.id)).Nodup) {i : Nat} (hi : i < cs.length) : pos cs (cnAt cs i).id = some i := by
  cases hp : pos cs (cnAt cs i).id with
  | none => exact absurd rfl (pos_none hp _ (List.mem_of_getElem? (cnAt_get hi)))
  | some j =>
    obtain ⟨c, hc, hf⟩ := pos_some hp
    have h1 : (cs.map (·.id))[j]? = (cs.map (·.id))[i]? := by
      rw [List.getElem?_map, List.getElem?_map, hc, cnAt_get hi]
      simp [hf.2.1]
    rw [(List.getElem?_inj (by rw [List.length_map]; exact pos_lt hp) h).1 h1]
theorem pos_ids {cs cs' : List Cn} (h : cs.map (·.id) = cs'.map (·.id)) (d : Int) : pos cs d = pos cs' d := by
  induction cs generalizing cs' with
  | nil => cases cs' with
    | nil => rfl
    | cons c l => simp at h
  | cons c cs ih => cases cs' with
    | nil => simp at h
    | cons c' l =>
      simp only [List.map_cons, List.cons.injEq] at h
      unfold pos
      rw [h.1, ih h.2]
theorem cnAt_set {cs : List Cn} {i : Nat} {c : Cn} (hi : i < cs.length) : cnAt (cs.set i c) i = c := by
  unfold cnAt; rw [List.getElem?_set_self hi]; rfl
/-- A place that is taken and given back. -/
theorem take_free {cs : List Cn} {most : Int} (hi : Inv most cs) (ht : (takeR cs).2 = true) :
    freeR (takeS cs) (takeR cs).1 = true ∧ freeS (takeS cs) (takeR cs).1 = cs ∧ usedR (takeS cs) (takeR cs).1 = usedR cs (takeR cs).1 + 1 := by
  unfold takeR at *
  unfold takeS
  cases hb : bestK cs cs.length with
  | none => rw [hb] at ht; cases ht
  | some j =>
    obtain ⟨h1, h2⟩ := best_lt hb
    have hids := map_set_id (cs := cs) (i := j) (c := { cnAt cs j with used := (cnAt cs j).used + 1 }) h1 rfl
    have hp : pos cs (cnAt cs j).id = some j := pos_at hi.nd h1
    have hp2 : pos (cs.set j { cnAt cs j with used := (cnAt cs j).used + 1 }) (cnAt cs j).id = some j := by rw [pos_ids hids, hp]
    have hu := (hi.at h1).u0
    have hfr : freeR (cs.set j { cnAt cs j with used := (cnAt cs j).used + 1 }) (cnAt cs j).id = true := by
      unfold freeR
      rw [hp2]
      simp only [cnAt_set h1]
      simp; omega
    refine ⟨hfr, ?_, ?_⟩
    · show freeS (cs.set j { cnAt cs j with used := (cnAt cs j).used + 1 }) (cnAt cs j).id = cs
      unfold freeS
      rw [if_pos hfr]
      unfold updS
      rw [hp2]
      simp only [cnAt_set h1, List.set_set]
      apply List.ext_getElem?
      intro k
      by_cases hk : j = k
      · subst hk
        rw [List.getElem?_set_self h1, cnAt_get h1]
        simp only [Option.some.injEq]
        show Cn.mk (cnAt cs j).id (cnAt cs j).slots ((cnAt cs j).used + 1 - 1) (cnAt cs j).drains = cnAt cs j
        rw [Int.add_sub_cancel]
      · rw [List.getElem?_set_ne hk]
    · show usedR (cs.set j { cnAt cs j with used := (cnAt cs j).used + 1 }) (cnAt cs j).id = usedR cs (cnAt cs j).id + 1
      unfold usedR
      rw [hp2, hp]
      simp only [cnAt_set h1]
end Go.Proofs.Ythinceoklkjcpaa.Pool
