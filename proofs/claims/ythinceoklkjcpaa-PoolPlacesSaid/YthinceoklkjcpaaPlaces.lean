/-
  PoolPlaces: nobody gets a place that there is not, and who has one keeps it: any steps on a pool of eight.
-/
import Derived.Test.YthinceoklkjcpaaTurns
namespace Go.Proofs.Ythinceoklkjcpaa.Places
open Go.ChangeShapes Go.WideShapes Go.ChangeAt Go.RowKit
open Go.Proofs.Ythinceoklkjcpaa.B Go.Proofs.Ythinceoklkjcpaa.Pool
set_option linter.unusedVariables false
set_option linter.unusedSimpArgs false

def put {α : Type} (f : Nat → α) (k : Nat) (v : α) : Nat → α := fun i => if i = k then v else f i
theorem put_same {α : Type} (f : Nat → α) (k : Nat) (v : α) : put f k v k = v := by simp [put]
theorem put_ne {α : Type} (f : Nat → α) {k i : Nat} (v : α) (h : i ≠ k) : put f k v i = f i := by simp [put, h]
def cI (f : Nat → Int) : Array Value := ((List.range 16).map fun i => Value.int .i64 (f i)).toArray
def cB (f : Nat → Bool) : Array Value := ((List.range 16).map fun i => Value.bool (f i)).toArray
theorem cI_get (f : Nat → Int) {i : Nat} (h : i < 16) : (cI f)[i]? = some (.int .i64 (f i)) := by
  unfold cI; rw [List.getElem?_toArray, List.getElem?_map, List.getElem?_range h]; rfl
theorem cB_get (f : Nat → Bool) {i : Nat} (h : i < 16) : (cB f)[i]? = some (.bool (f i)) := by
  unfold cB; rw [List.getElem?_toArray, List.getElem?_map, List.getElem?_range h]; rfl
theorem cI_set (f : Nat → Int) {k : Nat} (v : Int) (h : k < 16) : (cI f).setIfInBounds k (.int .i64 v) = cI (put f k v) := by
  have hs : ∀ g, (cI g).size = 16 := fun g => by simp [cI]
  apply Array.ext_getElem?
  intro i
  by_cases hi : i < 16
  · by_cases he : k = i
    · subst he; rw [Array.getElem?_setIfInBounds_self_of_lt (by rw [hs]; exact hi), cI_get _ hi, put_same]
    · rw [Array.getElem?_setIfInBounds_ne he, cI_get _ hi, cI_get _ hi, put_ne _ _ (Ne.symm he)]
  · rw [Array.getElem?_eq_none (by rw [Array.size_setIfInBounds, hs]; omega), Array.getElem?_eq_none (by rw [hs]; omega)]
theorem cB_set (f : Nat → Bool) {k : Nat} (v : Bool) (h : k < 16) : (cB f).setIfInBounds k (.bool v) = cB (put f k v) := by
  have hs : ∀ g, (cB g).size = 16 := fun g => by simp [cB]
  apply Array.ext_getElem?
  intro i
  by_cases hi : i < 16
  · by_cases he : k = i
    · subst he; rw [Array.getElem?_setIfInBounds_self_of_lt (by rw [hs]; exact hi), cB_get _ hi, put_same]
    · rw [Array.getElem?_setIfInBounds_ne he, cB_get _ hi, cB_get _ hi, put_ne _ _ (Ne.symm he)]
  · rw [Array.getElem?_eq_none (by rw [Array.size_setIfInBounds, hs]; omega), Array.getElem?_eq_none (by rw [hs]; omega)]

/-- The law's four tables tell of just the connections that there are. -/
structure Tab (cs : List Cn) (S U : Nat → Int) (D I : Nat → Bool) : Prop where
  mem : ∀ c ∈ cs, ∃ k : Nat, k < 16 ∧ c.id = k ∧ I k = true ∧ S k = c.slots ∧ U k = c.used ∧ D k = c.drains
  back : ∀ k : Nat, k < 16 → I k = true → ∃ c ∈ cs, c.id = (k : Int)
theorem Tab.nil : Tab [] (fun _ => 0) (fun _ => 0) (fun _ => false) (fun _ => false) := ⟨by simp, by simp⟩
theorem mem_set_ne {cs : List Cn} (hn : (cs.map (·.id)).Nodup) {i : Nat} (hi : i < cs.length) {c' x : Cn} (h : x ∈ cs.set i c') : x = c' ∨ (x ∈ cs ∧ x.id ≠ (cnAt cs i).id) := by
  obtain ⟨j, hj⟩ := List.mem_iff_getElem?.1 h
  by_cases he : i = j
  · subst he; rw [List.getElem?_set_self hi] at hj; exact Or.inl (Option.some.inj hj).symm
  · rw [List.getElem?_set_ne he] at hj
    refine Or.inr ⟨List.mem_of_getElem? hj, fun hc => he ?_⟩
    have h1 : (cs.map (·.id))[i]? = (cs.map (·.id))[j]? := by
      rw [List.getElem?_map, List.getElem?_map, hj, cnAt_get hi]; simp [hc]
    exact (List.getElem?_inj (by rw [List.length_map]; exact hi) hn).1 h1
theorem mem_erase_ne {cs : List Cn} (hn : (cs.map (·.id)).Nodup) {i : Nat} (hi : i < cs.length) {x : Cn} (h : x ∈ cs.eraseIdx i) : x ∈ cs ∧ x.id ≠ (cnAt cs i).id := by
  obtain ⟨j, hj⟩ := List.mem_iff_getElem?.1 h
  rw [erase_get] at hj
  have key : ∀ m, m ≠ i → cs[m]? = some x → x ∈ cs ∧ x.id ≠ (cnAt cs i).id := fun m hm hx => by
    refine ⟨List.mem_of_getElem? hx, fun hc => hm ?_⟩
    have h1 : (cs.map (·.id))[i]? = (cs.map (·.id))[m]? := by
      rw [List.getElem?_map, List.getElem?_map, hx, cnAt_get hi]; simp [hc]
    exact ((List.getElem?_inj (by rw [List.length_map]; exact hi) hn).1 h1).symm
  split at hj
  · rename_i h1; exact key j (by omega) hj
  · rename_i h1; exact key (j + 1) (by omega) hj
theorem pos_of_mem {cs : List Cn} (hn : (cs.map (·.id)).Nodup) {c : Cn} (h : c ∈ cs) : ∃ i, pos cs c.id = some i ∧ cnAt cs i = c := by
  obtain ⟨j, hj⟩ := List.mem_iff_getElem?.1 h
  have hl := (List.getElem?_eq_some_iff.1 hj).1
  have hc : cnAt cs j = c := by have := cnAt_get hl; rw [hj] at this; exact (Option.some.inj this).symm
  exact ⟨j, by rw [← hc]; exact pos_at hn hl, hc⟩
section
variable {most : Int} {cs : List Cn} {S U : Nat → Int} {D I : Nat → Bool}
theorem Tab.has (h : Tab cs S U D I) (hi : Inv most cs) {k : Nat} (hk : k < 16) : I k = hasR cs k := by
  unfold hasR
  cases hp : pos cs k with
  | none =>
    cases hI : I k with
    | false => rfl
    | true =>
      obtain ⟨c, hc, he⟩ := h.back k hk hI
      exact absurd he (pos_none hp c hc)
  | some i =>
    have hf := pos_first hp
    obtain ⟨k', hk', h1, h2, _⟩ := h.mem _ (List.mem_of_getElem? hf.1)
    have : k' = k := by have := hf.2.1; omega
    rw [← this, h2]; rfl
theorem Tab.at (h : Tab cs S U D I) {k i : Nat} (hp : pos cs k = some i) : S k = (cnAt cs i).slots ∧ U k = (cnAt cs i).used ∧ D k = (cnAt cs i).drains := by
  have hf := pos_first hp
  obtain ⟨k', hk', h1, h2, h3, h4, h5⟩ := h.mem _ (List.mem_of_getElem? hf.1)
  have : k' = k := by have := hf.2.1; omega
  subst this
  exact ⟨h3, h4, h5⟩
theorem Tab.used (h : Tab cs S U D I) (hi : Inv most cs) {k : Nat} (hk : k < 16) (hI : I k = true) : usedR cs k = U k := by
  rw [h.has hi hk] at hI
  unfold hasR at hI
  unfold usedR
  cases hp : pos cs k with
  | none => rw [hp] at hI; cases hI
  | some i => exact (h.at hp).2.1.symm
/-- A connection changes, with its row of the tables. -/
theorem Tab.upd (h : Tab cs S U D I) (hi : Inv most cs) {k i : Nat} (hp : pos cs k = some i) {c : Cn} (hid : c.id = (cnAt cs i).id) {S' U' : Nat → Int} {D' : Nat → Bool}
    (hk : S' k = c.slots ∧ U' k = c.used ∧ D' k = c.drains) (ho : ∀ j, j ≠ k → S' j = S j ∧ U' j = U j ∧ D' j = D j) : Tab (cs.set i c) S' U' D' I := by
  have hl := pos_lt hp
  have hf := pos_first hp
  refine ⟨fun x hx => ?_, fun j hj hI => ?_⟩
  · rcases mem_set_ne hi.nd hl hx with rfl | ⟨hx1, hx2⟩
    · obtain ⟨k', hk', h1, h2, _⟩ := h.mem _ (List.mem_of_getElem? hf.1)
      have : k' = k := by have := hf.2.1; omega
      subst this
      exact ⟨k', hk', by rw [hid, h1], h2, hk⟩
    · obtain ⟨j, hj, h1, h2, h3, h4, h5⟩ := h.mem x hx1
      have hne : j ≠ k := fun hc => hx2 (by rw [h1, hc, hf.2.1])
      obtain ⟨o1, o2, o3⟩ := ho j hne
      exact ⟨j, hj, h1, h2, by rw [o1, h3], by rw [o2, h4], by rw [o3, h5]⟩
  · obtain ⟨x, hx, he⟩ := h.back j hj hI
    have : x.id ∈ (cs.set i c).map (·.id) := by rw [map_set_id hl hid]; exact List.mem_map_of_mem hx
    obtain ⟨y, hy, hye⟩ := List.mem_map.1 this
    exact ⟨y, hy, by rw [hye, he]⟩
theorem Tab.add (h : Tab cs S U D I) {k : Nat} (hk : k < 16) {n : Int} (hn : 0 ≤ n) (ha : addR most cs k = true) :
    Tab (addS most cs k n) (put S k n) (put U k 0) (put D k false) (put I k true) := by
  have hnone : pos cs k = none := by
    unfold addR at ha
    simp only [Bool.and_eq_true, Option.isNone_iff_eq_none] at ha
    exact ha.1
  have hno := pos_none hnone
  unfold addS
  rw [if_pos ha]
  refine ⟨fun x hx => ?_, fun j hj hI => ?_⟩
  · rcases List.mem_append.1 hx with hx | hx
    · obtain ⟨j, hj, h1, h2, h3, h4, h5⟩ := h.mem x hx
      have hne : j ≠ k := fun hc => hno x hx (by rw [h1, hc])
      exact ⟨j, hj, h1, by rw [put_ne _ _ hne, h2], by rw [put_ne _ _ hne, h3], by rw [put_ne _ _ hne, h4], by rw [put_ne _ _ hne, h5]⟩
    · simp only [List.mem_singleton] at hx
      subst hx
      exact ⟨k, hk, rfl, put_same _ _ _, by rw [put_same]; show n = max n 0; omega, put_same _ _ _, put_same _ _ _⟩
  · by_cases hc : j = k
    · subst hc
      exact ⟨_, List.mem_append_right _ (List.mem_singleton.2 rfl), rfl⟩
    · rw [put_ne _ _ hc] at hI
      obtain ⟨x, hx, he⟩ := h.back j hj hI
      exact ⟨x, List.mem_append_left _ hx, he⟩
theorem Tab.add_no (h : Tab cs S U D I) {k : Nat} {n : Int} (ha : addR most cs k = false) : Tab (addS most cs k n) S U D I := by
  unfold addS; rw [if_neg (by rw [ha]; decide)]; exact h
theorem Tab.slots (h : Tab cs S U D I) (hi : Inv most cs) {k : Nat} {n : Int} (hn : 0 ≤ n) (ha : hasR cs k = true) : Tab (slotsS cs k n) (put S k n) U D I := by
  unfold hasR at ha
  unfold slotsS updS
  cases hp : pos cs k with
  | none => rw [hp] at ha; cases ha
  | some i =>
    obtain ⟨h1, h2, h3⟩ := h.at hp
    exact h.upd (c := { cnAt cs i with slots := max n 0 }) (S' := put S k n) (U' := U) (D' := D) hi hp rfl ⟨by rw [put_same]; show n = max n 0; omega, h2, h3⟩ (fun j hj => ⟨put_ne _ _ hj, rfl, rfl⟩)
theorem Tab.slots_no (h : Tab cs S U D I) {k : Nat} {n : Int} (ha : hasR cs k = false) : Tab (slotsS cs k n) S U D I := by
  unfold hasR at ha
  unfold slotsS updS
  cases hp : pos cs k with
  | none => exact h
  | some i => rw [hp] at ha; cases ha
theorem put_id {α : Type} (f : Nat → α) (k : Nat) : put f k (f k) = f := by
  funext i; unfold put; split
  · rename_i h; rw [h]
  · rfl
theorem Tab.drain (h : Tab cs S U D I) (hi : Inv most cs) {k : Nat} : Tab (drainS cs k) S U (put D k (hasR cs k || D k)) I := by
  unfold hasR drainS updS
  cases hp : pos cs k with
  | none =>
    show Tab cs S U (put D k (false || D k)) I
    rw [Bool.false_or, put_id]; exact h
  | some i =>
    obtain ⟨h1, h2, h3⟩ := h.at hp
    exact h.upd (c := { cnAt cs i with drains := true }) (S' := S) (U' := U) (D' := put D k (true || D k)) hi hp rfl ⟨h1, h2, by rw [put_same]; rfl⟩ (fun j hj => ⟨rfl, rfl, put_ne _ _ hj⟩)
theorem Tab.remove (h : Tab cs S U D I) (hi : Inv most cs) {k : Nat} (ha : 0 ≤ removeR cs k) : Tab (removeS cs k) S U D (put I k false) := by
  unfold removeR at ha
  unfold removeS
  cases hp : pos cs k with
  | none => rw [hp] at ha; simp at ha
  | some i =>
    have hl := pos_lt hp
    have hf := pos_first hp
    refine ⟨fun x hx => ?_, fun j hj hI => ?_⟩
    · obtain ⟨hx1, hx2⟩ := mem_erase_ne hi.nd hl hx
      obtain ⟨j, hj, h1, h2, h3⟩ := h.mem x hx1
      have hne : j ≠ k := fun hc => hx2 (by rw [h1, hc, hf.2.1])
      exact ⟨j, hj, h1, by rw [put_ne _ _ hne, h2], h3⟩
    · have hne : j ≠ k := fun hc => by rw [hc, put_same] at hI; cases hI
      rw [put_ne _ _ hne] at hI
      obtain ⟨x, hx, he⟩ := h.back j hj hI
      refine ⟨x, ?_, he⟩
      obtain ⟨m, hm⟩ := List.mem_iff_getElem?.1 hx
      rw [List.mem_iff_getElem?]
      have hmi : m ≠ i := fun hc => by
        subst hc
        rw [cnAt_get hl] at hm
        rw [← Option.some.inj hm, hf.2.1] at he
        omega
      by_cases hlt : m < i
      · exact ⟨m, by rw [erase_get, if_pos hlt]; exact hm⟩
      · exact ⟨m - 1, by rw [erase_get, if_neg (by omega), show m - 1 + 1 = m by omega]; exact hm⟩
theorem Tab.remove_no (h : Tab cs S U D I) (hi : Inv most cs) {k : Nat} (ha : removeR cs k < 0) : Tab (removeS cs k) S U D I := by
  unfold removeR at ha
  unfold removeS
  cases hp : pos cs k with
  | none => exact h
  | some i => rw [hp] at ha; have := (hi.at (pos_lt hp)).u0; simp at ha; omega
theorem Tab.free (h : Tab cs S U D I) (hi : Inv most cs) {k : Nat} (hk : k < 16) (ha : freeR cs k = true) : Tab (freeS cs k) S (put U k (U k - 1)) D I ∧ 1 ≤ U k ∧ U k ≤ 9223372036854775807 := by
  have ha' := ha
  unfold freeR at ha
  unfold freeS
  rw [if_pos ha']
  unfold updS
  cases hp : pos cs k with
  | none => rw [hp] at ha; cases ha
  | some i =>
    rw [hp] at ha
    obtain ⟨h1, h2, h3⟩ := h.at hp
    have hok := hi.at (pos_lt hp)
    have hz : (cnAt cs i).used ≠ 0 := by simpa using ha
    refine ⟨h.upd (c := { cnAt cs i with used := (cnAt cs i).used - 1 }) (S' := S) (U' := put U k (U k - 1)) (D' := D) hi hp rfl ⟨h1, by rw [put_same, h2], h3⟩ (fun j hj => ⟨rfl, put_ne _ _ hj, rfl⟩), ?_, ?_⟩
    · rw [h2]; have := hok.u0; omega
    · rw [h2]; exact hok.u1
theorem Tab.free_no (h : Tab cs S U D I) {k : Nat} (ha : freeR cs k = false) : Tab (freeS cs k) S U D I := by
  unfold freeS; rw [if_neg (by rw [ha]; decide)]; exact h
theorem Tab.take (h : Tab cs S U D I) (hi : Inv most cs) (ht : (takeR cs).2 = true) : ∃ k : Nat, k < 16 ∧ (takeR cs).1 = k ∧ I k = true ∧ D k = false ∧ 0 ≤ U k ∧ U k < S k ∧ S k ≤ 9223372036854775807 ∧ Tab (takeS cs) S (put U k (U k + 1)) D I := by
  unfold takeR at *
  unfold takeS
  cases hb : bestK cs cs.length with
  | none => rw [hb] at ht; cases ht
  | some j =>
    obtain ⟨h1, h2⟩ := best_lt hb
    have hm : cnAt cs j ∈ cs := List.mem_of_getElem? (cnAt_get h1)
    obtain ⟨k, hk, q1, q2, q3, q4, q5⟩ := h.mem _ hm
    have hok := hi.at h1
    unfold okB at h2
    simp at h2
    have hp : pos cs k = some j := by rw [← q1]; exact pos_at hi.nd h1
    refine ⟨k, hk, q1, q2, by rw [q5]; exact h2.1, by rw [q4]; exact hok.u0, by rw [q4, q3]; exact h2.2, by rw [q3]; exact hok.s1, ?_⟩
    exact h.upd (c := { cnAt cs j with used := (cnAt cs j).used + 1 }) (S' := S) (U' := put U k (U k + 1)) (D' := D) hi hp rfl ⟨q3, by rw [put_same, q4], q5⟩ (fun i hne => ⟨rfl, put_ne _ _ hne, rfl⟩)
theorem Tab.take_no (h : Tab cs S U D I) (ht : (takeR cs).2 = false) : Tab (takeS cs) S U D I := by
  unfold takeR at ht
  unfold takeS
  cases hb : bestK cs cs.length with
  | none => exact h
  | some j => rw [hb] at ht; cases ht
end
theorem alienI : Alien 42 := by unfold Alien; decide
theorem alienB : Alien 43 := by unfold Alien; decide
theorem info_I : (Try.prog.info? 42).map (fun i => (i.zero, i.size)) = some (some (.agg (cI (fun _ => 0))), 16) := by kernel_rfl
theorem info_B : (Try.prog.info? 43).map (fun i => (i.zero, i.size)) = some (some (.agg (cB (fun _ => false))), 16) := by kernel_rfl
end Go.Proofs.Ythinceoklkjcpaa.Places
