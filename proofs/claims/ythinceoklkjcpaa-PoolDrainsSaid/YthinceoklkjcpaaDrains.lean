/-
  PoolDrains: who drains gets nobody more, and keeps who is there: any numbers of slots of four connections.
-/
import Derived.Test.YthinceoklkjcpaaTurns
namespace Go.Proofs.Ythinceoklkjcpaa.Drains
open Go.ChangeShapes Go.WideShapes Go.ChangeAt Go.RowKit
open Go.Proofs.Ythinceoklkjcpaa.B Go.Proofs.Ythinceoklkjcpaa.Pool
set_option linter.unusedVariables false
set_option linter.unusedSimpArgs false

def cnD (ns us : Nat → Int) (ds : Nat → Bool) (i : Nat) : Cn := ⟨(i : Int) + 1, ns i, us i, ds i⟩
def pcD (a n : Nat) (ns us : Nat → Int) (ds : Nat → Bool) : List Cn := (List.range' a n).map (cnD ns us ds)
theorem pcD_len (a n : Nat) (ns us : Nat → Int) (ds : Nat → Bool) : (pcD a n ns us ds).length = n := by simp [pcD]
theorem pcD_get {a n : Nat} {ns us : Nat → Int} {ds : Nat → Bool} {i : Nat} (h : i < n) : (pcD a n ns us ds)[i]? = some (cnD ns us ds (a + i)) := by
  unfold pcD
  rw [List.getElem?_map, List.getElem?_range' h]; simp
theorem pcD_cnAt {a n : Nat} {ns us : Nat → Int} {ds : Nat → Bool} {i : Nat} (h : i < n) : cnAt (pcD a n ns us ds) i = cnD ns us ds (a + i) := by
  unfold cnAt; rw [pcD_get h]; rfl
theorem pcD_mem {a n : Nat} {ns us : Nat → Int} {ds : Nat → Bool} {c : Cn} (h : c ∈ pcD a n ns us ds) : ∃ i, i < n ∧ c = cnD ns us ds (a + i) := by
  obtain ⟨i, hi⟩ := List.mem_iff_getElem?.1 h
  have hl : i < n := by have := (List.getElem?_eq_some_iff.1 hi).1; rwa [pcD_len] at this
  rw [pcD_get hl] at hi
  exact ⟨i, hl, (Option.some.inj hi).symm⟩
theorem pcD_nodup (a n : Nat) (ns us : Nat → Int) (ds : Nat → Bool) : ((pcD a n ns us ds).map (·.id)).Nodup := by
  unfold pcD
  rw [List.map_map]
  have : (List.range' a n).Nodup := List.nodup_range'
  refine List.Pairwise.map _ ?_ this
  intro x y h hc
  apply h
  simp [cnD] at hc
  omega
theorem pcD_inv {a n : Nat} {ns us : Nat → Int} {ds : Nat → Bool} (hn : n ≤ 4) (h : ∀ i, 0 ≤ ns i ∧ ns i ≤ 15) (hu : ∀ i, 0 ≤ us i ∧ us i ≤ 15) : Inv 4 (pcD a n ns us ds) :=
  ⟨pcD_nodup a n ns us ds, fun c hc => by
    obtain ⟨i, _, rfl⟩ := pcD_mem hc
    have h1 := h (a + i); have h2 := hu (a + i)
    exact ⟨h1.1, by show ns (a + i) ≤ _; omega, h2.1, by show us (a + i) ≤ _; omega⟩, by rw [pcD_len]; omega, by decide⟩
theorem pos_pcD {a n : Nat} {ns us : Nat → Int} {ds : Nat → Bool} {i : Nat} (h : i < n) : pos (pcD a n ns us ds) ((a + i : Nat) + 1 : Int) = some i := by
  have := pos_at (pcD_nodup a n ns us ds) (i := i) (by rw [pcD_len]; exact h)
  rw [pcD_cnAt h] at this
  exact this
theorem pos_pcD_none {a n : Nat} {ns us : Nat → Int} {ds : Nat → Bool} {d : Int} (h : ∀ i : Nat, i < n → d ≠ (a + i : Nat) + 1) : pos (pcD a n ns us ds) d = none := by
  cases hp : pos (pcD a n ns us ds) d with
  | none => rfl
  | some i =>
    have hl := pos_lt hp
    rw [pcD_len] at hl
    have hf := (pos_first hp).2.1
    rw [pcD_cnAt hl] at hf
    exact absurd hf.symm (h i hl)
theorem pcD_succ (n : Nat) (ns us : Nat → Int) (ds : Nat → Bool) : pcD 0 (n + 1) ns us ds = pcD 0 n ns us ds ++ [cnD ns us ds n] := by
  unfold pcD
  rw [List.range'_concat, List.map_append]; simp
theorem pcD_tail (a n : Nat) (ns us : Nat → Int) (ds : Nat → Bool) : (pcD a (n + 1) ns us ds).eraseIdx 0 = pcD (a + 1) n ns us ds := by
  unfold pcD
  rw [List.range'_succ, List.map_cons]; rfl
def up (us : Nat → Int) (j : Nat) : Nat → Int := fun i => if i = j then us i + 1 else us i
theorem pcD_set {n j : Nat} {ns us : Nat → Int} {ds : Nat → Bool} (h : j < n) : (pcD 0 n ns us ds).set j { cnD ns us ds j with used := us j + 1 } = pcD 0 n ns (up us j) ds := by
  apply List.ext_getElem?
  intro k
  by_cases hk : k < n
  · rw [pcD_get hk]
    by_cases he : j = k
    · subst he
      rw [List.getElem?_set_self (by rw [pcD_len]; exact h)]
      simp [cnD, up]
    · rw [List.getElem?_set_ne he, pcD_get hk]
      simp [cnD, up, Ne.symm he]
  · rw [List.getElem?_eq_none (by rw [List.length_set, pcD_len]; omega), List.getElem?_eq_none (by rw [pcD_len]; omega)]
/-- What those that do not drain have. -/
def tot (ns : Nat → Int) (ds : Nat → Bool) : Nat → Int
  | 0 => 0
  | k + 1 => tot ns ds k + (if ds k = true then 0 else ns k)
def sm (us : Nat → Int) : Nat → Int
  | 0 => 0
  | k + 1 => sm us k + us k
theorem sm_up (us : Nat → Int) (j : Nat) : ∀ k, sm (up us j) k = sm us k + (if j < k then 1 else 0)
  | 0 => by simp [sm]
  | k + 1 => by
    have := sm_up us j k
    unfold sm
    rw [this]
    unfold up
    split <;> split <;> split <;> omega
theorem tot_bd (ns : Nat → Int) (ds : Nat → Bool) (h : ∀ i, 0 ≤ ns i ∧ ns i ≤ 15) : ∀ k, 0 ≤ tot ns ds k ∧ tot ns ds k ≤ 15 * k
  | 0 => by simp [tot]
  | k + 1 => by
    have := tot_bd ns ds h k
    have h2 := h k
    unfold tot
    split <;> omega
/-- What holds while places are taken. -/
structure Go' (ns us : Nat → Int) (ds : Nat → Bool) : Prop where
  lo : ∀ i, 0 ≤ us i
  hi : ∀ i, us i ≤ ns i
  dr : ∀ i, ds i = true → us i = 0
theorem Go'.start {ns : Nat → Int} {ds : Nat → Bool} (h : ∀ i, 0 ≤ ns i ∧ ns i ≤ 15) : Go' ns (fun _ => 0) ds := ⟨fun _ => Int.le_refl _, fun i => (h i).1, fun _ _ => rfl⟩
theorem Go'.le {ns us : Nat → Int} {ds : Nat → Bool} (h : Go' ns us ds) (k : Nat) : sm us k ≤ tot ns ds k := by
  induction k with
  | zero => simp [sm, tot]
  | succ k ih =>
    unfold sm tot
    have h1 := h.hi k
    split
    · rename_i hd; have := h.dr k hd; omega
    · omega
theorem Go'.full {ns us : Nat → Int} {ds : Nat → Bool} (h : Go' ns us ds) {k : Nat} (hs : sm us k = tot ns ds k) : ∀ i, i < k → us i = if ds i = true then 0 else ns i := by
  induction k with
  | zero => intro i hi; omega
  | succ k ih =>
    have h1 := h.hi k
    have h2 := h.le k
    unfold sm tot at hs
    have h3 : us k = (if ds k = true then 0 else ns k) := by
      split at hs
      · rename_i hd; rw [if_pos hd]; exact h.dr k hd
      · rename_i hd; rw [if_neg hd]; omega
    intro i hi
    by_cases he : i = k
    · subst he; exact h3
    · exact ih (by omega) i (by omega)
theorem Go'.up {ns us : Nat → Int} {ds : Nat → Bool} (h : Go' ns us ds) {j : Nat} (hd : ds j = false) (hu : us j < ns j) : Go' ns (up us j) ds :=
  ⟨fun i => by have := h.lo i; unfold Drains.up; split <;> omega, fun i => by
    unfold Drains.up; split
    · rename_i he; subst he; omega
    · exact h.hi i, fun i hi => by
    unfold Drains.up
    rw [if_neg (fun he => by rw [he, hd] at hi; cases hi)]
    exact h.dr i hi⟩
/-- As long as there are places one of those that do not drain gets one. -/
theorem take_some {ns us : Nat → Int} {ds : Nat → Bool} (h : Go' ns us ds) (hlt : sm us 4 < tot ns ds 4) :
    ∃ j : Nat, j < 4 ∧ takeR (pcD 0 4 ns us ds) = ((j : Int) + 1, true) ∧ takeS (pcD 0 4 ns us ds) = pcD 0 4 ns (up us j) ds ∧ ds j = false ∧ us j < ns j := by
  unfold takeR takeS
  rw [pcD_len]
  cases hb : bestK (pcD 0 4 ns us ds) 4 with
  | none =>
    exfalso
    have hn := bestK_none hb
    have hfull : ∀ i, i < 4 → us i = (if ds i = true then 0 else ns i) := fun i hi => by
      have h1 := hn i _ hi (pcD_get hi)
      rw [Nat.zero_add] at h1
      unfold okB cnD at h1
      simp only [Bool.and_eq_false_iff, Bool.not_eq_false', decide_eq_false_iff_not] at h1
      split
      · rename_i hd; exact h.dr i hd
      · rename_i hd
        rcases h1 with h1 | h1
        · exact absurd h1 hd
        · have := h.hi i; omega
    have h0 := hfull 0 (by omega); have h1 := hfull 1 (by omega); have h2 := hfull 2 (by omega); have h3 := hfull 3 (by omega)
    simp only [sm, tot] at hlt
    omega
  | some j =>
    obtain ⟨h1, c, h2, h3, _⟩ := bestK_some hb
    rw [pcD_get h1, Nat.zero_add] at h2
    obtain rfl := Option.some.inj h2
    unfold okB cnD at h3
    simp only [Bool.and_eq_true, Bool.not_eq_true', decide_eq_true_eq] at h3
    refine ⟨j, h1, ?_, ?_, h3.1, h3.2⟩
    · show ((cnAt (pcD 0 4 ns us ds) j).id, true) = _
      rw [pcD_cnAt h1, Nat.zero_add]; rfl
    · show (pcD 0 4 ns us ds).set j { cnAt (pcD 0 4 ns us ds) j with used := (cnAt (pcD 0 4 ns us ds) j).used + 1 } = _
      rw [pcD_cnAt h1, Nat.zero_add]
      exact pcD_set h1
theorem take_no {ns us : Nat → Int} {ds : Nat → Bool} (h : ∀ i, i < 4 → us i = if ds i = true then 0 else ns i) :
    takeR (pcD 0 4 ns us ds) = (0, false) ∧ takeS (pcD 0 4 ns us ds) = pcD 0 4 ns us ds := by
  have hb : bestK (pcD 0 4 ns us ds) (pcD 0 4 ns us ds).length = none := by
    cases hb : bestK (pcD 0 4 ns us ds) (pcD 0 4 ns us ds).length with
    | none => rfl
    | some j =>
      exfalso
      obtain ⟨h1, c, h2, h3, _⟩ := bestK_some hb
      rw [pcD_len] at h1
      rw [pcD_get h1, Nat.zero_add] at h2
      obtain rfl := Option.some.inj h2
      unfold okB cnD at h3
      simp only [Bool.and_eq_true, Bool.not_eq_true', decide_eq_true_eq] at h3
      have := h j h1
      rw [if_neg (by rw [h3.1]; decide)] at this
      omega
  unfold takeR takeS
  rw [hb]
  exact ⟨rfl, rfl⟩
/-- A new one, and whether it drains. -/
theorem add_step {k : Nat} {ns : Nat → Int} {ds : Nat → Bool} (hk : k < 4) (hn : 0 ≤ ns k) :
    addR 4 (pcD 0 k ns (fun _ => 0) ds) ((k : Int) + 1) = true ∧ (ds k = false → addS 4 (pcD 0 k ns (fun _ => 0) ds) ((k : Int) + 1) (ns k) = pcD 0 (k + 1) ns (fun _ => 0) ds) ∧
      (ds k = true → hasR (addS 4 (pcD 0 k ns (fun _ => 0) ds) ((k : Int) + 1) (ns k)) ((k : Int) + 1) = true ∧ drainS (addS 4 (pcD 0 k ns (fun _ => 0) ds) ((k : Int) + 1) (ns k)) ((k : Int) + 1) = pcD 0 (k + 1) ns (fun _ => 0) ds) := by
  have hp : pos (pcD 0 k ns (fun _ => 0) ds) ((k : Int) + 1) = none := pos_pcD_none (fun i hi => by omega)
  have ha : addR 4 (pcD 0 k ns (fun _ => 0) ds) ((k : Int) + 1) = true := by
    unfold addR
    rw [hp, pcD_len]; simp; omega
  have hs : addS 4 (pcD 0 k ns (fun _ => 0) ds) ((k : Int) + 1) (ns k) = pcD 0 k ns (fun _ => 0) ds ++ [⟨(k : Int) + 1, ns k, 0, false⟩] := by
    unfold addS
    rw [if_pos ha, show max (ns k) 0 = ns k by omega]
  refine ⟨ha, fun hd => ?_, fun hd => ?_⟩
  · rw [hs, pcD_succ]
    unfold cnD
    rw [hd]
  · have hids : (pcD 0 k ns (fun _ => 0) ds ++ [(⟨(k : Int) + 1, ns k, 0, false⟩ : Cn)]).map (·.id) = (pcD 0 (k + 1) ns (fun _ => 0) ds).map (·.id) := by
      rw [pcD_succ]; simp [cnD]
    have hp2 : pos (pcD 0 k ns (fun _ => 0) ds ++ [⟨(k : Int) + 1, ns k, 0, false⟩]) ((k : Int) + 1) = some k := by
      rw [pos_ids hids]
      have := pos_pcD (a := 0) (n := k + 1) (ns := ns) (us := fun _ => 0) (ds := ds) (i := k) (by omega)
      rw [Nat.zero_add] at this
      exact this
    rw [hs]
    refine ⟨by unfold hasR; rw [hp2]; rfl, ?_⟩
    unfold drainS updS
    rw [hp2]
    have hc : cnAt (pcD 0 k ns (fun _ => 0) ds ++ [⟨(k : Int) + 1, ns k, 0, false⟩]) k = ⟨(k : Int) + 1, ns k, 0, false⟩ := by
      unfold cnAt
      rw [List.getElem?_append_right (by rw [pcD_len]; omega), pcD_len, Nat.sub_self]; rfl
    simp only [hc]
    rw [List.set_append_right _ _ (by rw [pcD_len]; omega), pcD_len, Nat.sub_self, pcD_succ]
    unfold cnD
    rw [hd]; rfl
/-- The first one goes. -/
theorem rem_step {a n : Nat} {ns us : Nat → Int} {ds : Nat → Bool} :
    usedR (pcD a (n + 1) ns us ds) ((a : Int) + 1) = us a ∧ removeR (pcD a (n + 1) ns us ds) ((a : Int) + 1) = us a ∧ removeS (pcD a (n + 1) ns us ds) ((a : Int) + 1) = pcD (a + 1) n ns us ds ∧
      pos (pcD (a + 1) n ns us ds) ((a : Int) + 1) = none := by
  have hp : pos (pcD a (n + 1) ns us ds) ((a : Int) + 1) = some 0 := pos_pcD (i := 0) (by omega)
  have hc : cnAt (pcD a (n + 1) ns us ds) 0 = cnD ns us ds a := pcD_cnAt (by omega)
  refine ⟨?_, ?_, ?_, pos_pcD_none (fun i hi => by omega)⟩
  · unfold usedR; rw [hp]; simp only [hc]; rfl
  · unfold removeR; rw [hp]; simp only [hc]; rfl
  · unfold removeS; rw [hp]; exact pcD_tail a n ns us ds
theorem gone {cs : List Cn} {d : Int} (h : pos cs d = none) (n : Int) : usedR cs d = 0 ∧ freeR cs d = false ∧ freeS cs d = cs ∧ hasR cs d = false ∧ slotsS cs d n = cs ∧ drainS cs d = cs := by
  refine ⟨by unfold usedR; rw [h], by unfold freeR; rw [h], by unfold freeS freeR; rw [h]; rfl, by unfold hasR; rw [h]; rfl, by unfold slotsS updS; rw [h], by unfold drainS updS; rw [h]⟩
theorem alienInt : Alien 3 := by unfold Alien; decide
set_option maxRecDepth 100000 in
set_option maxHeartbeats 8000000 in
theorem walk (a b c d m : Int) (W : World) :
    Calls Try.prog 7 #[.int .i64 a, .int .i64 b, .int .i64 c, .int .i64 d, .int .i64 m] W fun e w' => e = .returned (.bool true) ∧ Below W.heap.size W w' := by
  obtain ⟨ns, hns⟩ : ∃ ns : Nat → Int, ns = fun i => match i with | 0 => Go.bits .and .i64 a 15 | 1 => Go.bits .and .i64 b 15 | 2 => Go.bits .and .i64 c 15 | 3 => Go.bits .and .i64 d 15 | _ => 0 := ⟨_, rfl⟩
  have m15 : ∀ n : Int, 0 ≤ Go.bits .and .i64 n 15 ∧ Go.bits .and .i64 n 15 ≤ 15 := fun n => i64_and_le n 15 (by decide)
  have hnb : ∀ i, 0 ≤ ns i ∧ ns i ≤ 15 := fun i => by
    rw [hns]
    match i with
    | 0 => exact m15 a
    | 1 => exact m15 b
    | 2 => exact m15 c
    | 3 => exact m15 d
    | _ + 4 => exact ⟨Int.le_refl 0, (by decide : (0 : Int) ≤ 15)⟩
  have e0 : Go.bits .and .i64 a 15 = ns 0 := hns ▸ rfl
  have e1 : Go.bits .and .i64 b 15 = ns 1 := hns ▸ rfl
  have e2 : Go.bits .and .i64 c 15 = ns 2 := hns ▸ rfl
  have e3 : Go.bits .and .i64 d 15 = ns 3 := hns ▸ rfl
  have HNB := Lib.hid hnb
  clear hns m15 hnb
  go_enter Try.func7, Try.ntmps7
  go_wp2_with fail
  refine (shown_any _).mono ?_; rintro e w1 ⟨rfl, hb1⟩
  go_wp2_with fail
  refine (H_new 4 w1 hb1).mono ?_; rintro e w2 ⟨rfl, h2⟩
  have h2 : Has W w2 w1.heap.size 4 [] := h2
  generalize w1.heap.size = p at *
  have hlo := h2.lo
  have a2 : At (w2.alloc (.cells #[.int .i64 (ns 0), .int .i64 (ns 1), .int .i64 (ns 2), .int .i64 (ns 3)] 3)) w2.heap.size (.cells #[.int .i64 (ns 0), .int .i64 (ns 1), .int .i64 (ns 2), .int .i64 (ns 3)] 3 (0, 0)) := At.new _ _
  have h3 := h2.step ((Chg.refl w2).alloc (l := []) (.cells #[.int .i64 (ns 0), .int .i64 (ns 1), .int .i64 (ns 2), .int .i64 (ns 3)] 3))
  clear h2
  go_wp2_with fail
  clear e0 e1 e2 e3
  generalize w2.alloc (.cells #[.int .i64 (ns 0), .int .i64 (ns 1), .int .i64 (ns 2), .int .i64 (ns 3)] 3) = w3 at *
  generalize w2.heap.size = B at *
  obtain ⟨cs, hcs⟩ : ∃ cs : Array Value, cs = #[.int .i64 (ns 0), .int .i64 (ns 1), .int .i64 (ns 2), .int .i64 (ns 3)] := ⟨_, rfl⟩
  have hget : ∀ i : Nat, i < 4 → cs[i]? = some (.int .i64 (ns i)) := by
    intro i hi
    rw [hcs]
    match i, hi with
    | 0, _ => rfl
    | 1, _ => rfl
    | 2, _ => rfl
    | 3, _ => rfl
  rw [← hcs] at a2
  have HGET := Lib.hid hget
  clear hcs hget
  obtain ⟨ds, hds⟩ : ∃ ds : Nat → Bool, ds = fun i => (Go.bits .and .i64 (m / 2 ^ i) 1 == 1) := ⟨_, rfl⟩
  have hdk : ∀ i : Nat, (Go.bits .and .i64 (m / 2 ^ i) 1 == 1) = ds i := fun i => hds ▸ rfl
  have HDK := Lib.hid hdk
  clear hds hdk
  go_loopw [14, 15] (fun tv iv wr => ∃ k : Nat, k ≤ 4 ∧ iv = .int .i64 k ∧ tv = .int .i64 (tot ns ds k) ∧ Has W wr p 4 (pcD 0 k ns (fun _ => 0) ds) ∧ At wr B (.cells cs 3 (0, 0))) (fun _ iv _ => 4 - (intOf iv).toNat)
  case atStart => exact ⟨0, by omega, rfl, rfl, h3, a2⟩
  case round =>
    clear h3 a2
    obtain ⟨k, hk, rfl, rfl, hh, hat⟩ := hrel
    have htb := tot_bd ns ds HNB.out k
    obtain ⟨tb1, tb2⟩ := htb
    by_cases hlt : k < 4
    · have q0 : wr.cell? ⟨B, k, none⟩ = some (.int .i64 (ns k)) := hat.cell (HGET.out k hlt)
      have hnk := HNB.out k
      obtain ⟨nk1, nk2⟩ := hnk
      obtain ⟨s1, s2, s3⟩ := add_step (ns := ns) (ds := ds) hlt nk1
      have S1 := Lib.hid s1; have S2 := Lib.hid s2; have S3 := Lib.hid s3; have HH := Lib.hid hh; have HAT := Lib.hid hat
      clear s1 s2 s3 hh hat
      go_wp2_with fail
      refine (X_add _ _ _ HH.out (pcD_inv (by omega) HNB.out (fun _ => ⟨Int.le_refl _, by decide⟩))).mono ?_; rintro e w4 ⟨he, h4, kk⟩
      rw [S1.out] at he
      subst he
      have a4 := kk _ _ _ _ alienInt HAT.out
      have q1 : w4.cell? ⟨B, k, none⟩ = some (.int .i64 (ns k)) := a4.cell (HGET.out k hlt)
      have hd := HDK.out k
      cases hdk : ds k
      · rw [hdk] at hd
        have h5 := Lib.hid (S2.out hdk ▸ h4)
        have A4 := Lib.hid a4
        have hts : tot ns ds (k + 1) = tot ns ds k + ns k := by rw [show tot ns ds (k + 1) = tot ns ds k + (if ds k = true then 0 else ns k) from rfl, hdk]; simp
        have HTS := Lib.hid hts
        clear h4 a4 kk q0 hdk hts
        go_wp2_with fail
        go_roundw
        case rel => exact ⟨k + 1, by omega, by go_num, by rw [HTS.out], h5.out, A4.out⟩
        case measure => simp [intOf]; omega
      · rw [hdk] at hd
        obtain ⟨t1, t2⟩ := S3.out hdk
        have T1 := Lib.hid t1; have T2 := Lib.hid t2; have H4 := Lib.hid h4; have A4 := Lib.hid a4
        have hts : tot ns ds (k + 1) = tot ns ds k := by rw [show tot ns ds (k + 1) = tot ns ds k + (if ds k = true then 0 else ns k) from rfl, hdk]; simp
        have HTS := Lib.hid hts
        clear h4 a4 kk q0 hdk hts t1 t2
        go_wp2_with fail
        refine (X_drain _ _ H4.out).mono ?_; rintro e w5 ⟨he, h5, k5⟩
        rw [T1.out] at he
        subst he
        rw [T2.out] at h5
        have a5 := k5 _ _ _ _ alienInt A4.out
        have H5 := Lib.hid h5; have A5 := Lib.hid a5
        clear h5 a5 k5
        go_wp2_with fail
        go_roundw
        case rel => exact ⟨k + 1, by omega, by go_num, by rw [HTS.out], H5.out, A5.out⟩
        case measure => simp [intOf]; omega
    · obtain rfl : k = 4 := by omega
      obtain ⟨T, hT⟩ : ∃ T : Nat, tot ns ds 4 = (T : Int) := ⟨(tot ns ds 4).toNat, by omega⟩
      have hT6 : T ≤ 60 := by omega
      rw [hT, show ((4 : Nat) : Int) = (4 : Int) from rfl]
      have HTT := Lib.hid hT
      clear hT tb1 tb2
      go_wp2_with fail
      go_loopw [16] (fun iv wr => ∃ (t : Nat) (us : Nat → Int), t ≤ T ∧ iv = .int .i64 t ∧ Has W wr p 4 (pcD 0 4 ns us ds) ∧ Go' ns us ds ∧ sm us 4 = (t : Int) ∧ At wr B (.cells cs 3 (0, 0))) (fun iv _ => T - (intOf iv).toNat)
      case atStart => exact ⟨0, fun _ => 0, by omega, rfl, hh, Go'.start HNB.out, by simp [sm], hat⟩
      case round =>
        clear hh hat
        obtain ⟨t, us, ht, rfl, hh, hgo, hsm, hat⟩ := hrel
        have hub : ∀ i, 0 ≤ us i ∧ us i ≤ 15 := fun i => ⟨hgo.lo i, by have := hgo.hi i; have := (HNB.out i).2; omega⟩
        have HGO := Lib.hid hgo; have HSM := Lib.hid hsm; have HUB := Lib.hid hub; have HH := Lib.hid hh; have HAT := Lib.hid hat
        clear hh hgo hsm hat hub
        by_cases htt : t < T
        · obtain ⟨j, hj, r1, r2, r3, r4⟩ := take_some HGO.out (by rw [HSM.out, HTT.out]; omega)
          have R2 := Lib.hid r2; have R4 := Lib.hid r4
          have hd := HDK.out j
          rw [r3] at hd
          have R3 := Lib.hid r3
          clear r3 r4 r2
          go_wp2_with fail
          refine (X_take _ HH.out (pcD_inv (by omega) HNB.out HUB.out)).mono ?_; rintro e w4 ⟨he, h4, kk⟩
          rw [r1] at he
          subst he
          rw [R2.out] at h4
          have a4 := kk _ _ _ _ alienInt HAT.out
          have H4 := Lib.hid h4; have A4 := Lib.hid a4
          clear h4 a4 kk r1
          go_wp2_with fail
          go_roundw
          case rel => exact ⟨t + 1, _, by omega, by go_num, H4.out, HGO.out.up R3.out R4.out, by rw [sm_up, if_pos hj, HSM.out]; omega, A4.out⟩
          case measure => simp [intOf]; omega
        · obtain rfl : t = T := by omega
          have hfull := HGO.out.full (k := 4) (by rw [HSM.out, HTT.out])
          obtain ⟨r1, r2⟩ := take_no hfull
          have R2 := Lib.hid r2; have HF := Lib.hid hfull
          clear r2 hfull
          go_wp2_with fail
          refine (X_take _ HH.out (pcD_inv (by omega) HNB.out HUB.out)).mono ?_; rintro e w4 ⟨he, h4, kk⟩
          rw [r1] at he
          subst he
          rw [R2.out] at h4
          have a4 := kk _ _ _ _ alienInt HAT.out
          clear kk r1 HH HAT
          go_wp2_with fail
          go_loopw [21] (fun iv wr => ∃ k : Nat, k ≤ 4 ∧ iv = .int .i64 k ∧ Has W wr p 4 (pcD k (4 - k) ns us ds) ∧ At wr B (.cells cs 3 (0, 0))) (fun iv _ => 4 - (intOf iv).toNat)
          case atStart => exact ⟨0, by omega, rfl, h4, a4⟩
          case round =>
            clear h4 a4
            obtain ⟨k, hk, rfl, h4, a4⟩ := hrel
            by_cases hk4 : k < 4
            · obtain ⟨n, hn⟩ : ∃ n, 4 - k = n + 1 := ⟨3 - k, by omega⟩
              rw [hn] at h4
              obtain ⟨s1, s2, s3, s4⟩ := rem_step (a := k) (n := n) (ns := ns) (us := us) (ds := ds)
              obtain ⟨g1, g2, g3, g4, g5, g6⟩ := gone s4 1
              have hfk := HF.out k hk4
              have q0 : wr.cell? ⟨B, k, none⟩ = some (.int .i64 (ns k)) := a4.cell (HGET.out k hk4)
              have hd := HDK.out k
              have hn4 : n + 1 ≤ 4 := by omega
              have hnk : 4 - (k + 1) = n := by omega
              have S1 := Lib.hid s1; have S2 := Lib.hid s2; have S3 := Lib.hid s3; have G1 := Lib.hid g1; have G2 := Lib.hid g2; have G3 := Lib.hid g3; have G4 := Lib.hid g4; have G5 := Lib.hid g5; have G6 := Lib.hid g6; have HFK := Lib.hid hfk; have H4 := Lib.hid h4; have A4 := Lib.hid a4; have HNK := Lib.hid hnk
              clear s1 s2 s3 s4 g1 g2 g3 g4 g5 g6 hfk h4 a4 hn hnk
              cases hdk : ds k
              · have huk : us k = ns k := by rw [HFK.out, hdk]; rfl
                rw [hdk] at hd
                have HUK := Lib.hid huk
                clear huk hdk
                go_wp2_with fail
                refine (X_used _ _ H4.out).mono ?_; rintro e w5 ⟨he, rfl⟩
                rw [S1.out, HUK.out] at he
                subst he
                go_wp2_with fail
                refine (X_remove _ _ H4.out).mono ?_; rintro e w6 ⟨he, h6, k6⟩
                rw [S2.out, HUK.out] at he
                subst he
                rw [S3.out] at h6
                have A6 := Lib.hid (k6 _ _ _ _ alienInt A4.out); have H6 := Lib.hid h6
                clear h6 k6 q0
                go_wp2_with fail
                refine (X_used _ _ H6.out).mono ?_; rintro e w7 ⟨he, rfl⟩
                rw [G1.out] at he
                subst he
                go_wp2_with fail
                refine (X_free _ _ H6.out (pcD_inv (by omega) HNB.out HUB.out)).mono ?_; rintro e w8 ⟨he, h8, k8⟩
                rw [G2.out] at he
                subst he
                rw [G3.out] at h8
                have A8 := Lib.hid (k8 _ _ _ _ alienInt A6.out); have H8 := Lib.hid h8
                clear h8 k8
                go_wp2_with fail
                refine (X_slots _ _ _ H8.out).mono ?_; rintro e w9 ⟨he, h9, k9⟩
                rw [G4.out] at he
                subst he
                rw [G5.out] at h9
                have A9 := Lib.hid (k9 _ _ _ _ alienInt A8.out); have H9 := Lib.hid h9
                clear h9 k9
                go_wp2_with fail
                refine (X_drain _ _ H9.out).mono ?_; rintro e w10 ⟨he, h10, k10⟩
                rw [G4.out] at he
                subst he
                rw [G6.out] at h10
                have A10 := Lib.hid (k10 _ _ _ _ alienInt A9.out); have H10 := Lib.hid h10
                clear h10 k10
                go_wp2_with fail
                go_roundw
                case rel => exact ⟨k + 1, by omega, by go_num, by rw [HNK.out]; exact H10.out, A10.out⟩
                case measure => simp [intOf]; omega
              · have huk : us k = 0 := by rw [HFK.out, hdk]; rfl
                rw [hdk] at hd
                have HUK := Lib.hid huk
                clear huk hdk
                go_wp2_with fail
                refine (X_used _ _ H4.out).mono ?_; rintro e w5 ⟨he, rfl⟩
                rw [S1.out, HUK.out] at he
                subst he
                go_wp2_with fail
                refine (X_remove _ _ H4.out).mono ?_; rintro e w6 ⟨he, h6, k6⟩
                rw [S2.out, HUK.out] at he
                subst he
                rw [S3.out] at h6
                have A6 := Lib.hid (k6 _ _ _ _ alienInt A4.out); have H6 := Lib.hid h6
                clear h6 k6 q0
                go_wp2_with fail
                refine (X_used _ _ H6.out).mono ?_; rintro e w7 ⟨he, rfl⟩
                rw [G1.out] at he
                subst he
                go_wp2_with fail
                refine (X_free _ _ H6.out (pcD_inv (by omega) HNB.out HUB.out)).mono ?_; rintro e w8 ⟨he, h8, k8⟩
                rw [G2.out] at he
                subst he
                rw [G3.out] at h8
                have A8 := Lib.hid (k8 _ _ _ _ alienInt A6.out); have H8 := Lib.hid h8
                clear h8 k8
                go_wp2_with fail
                refine (X_slots _ _ _ H8.out).mono ?_; rintro e w9 ⟨he, h9, k9⟩
                rw [G4.out] at he
                subst he
                rw [G5.out] at h9
                have A9 := Lib.hid (k9 _ _ _ _ alienInt A8.out); have H9 := Lib.hid h9
                clear h9 k9
                go_wp2_with fail
                refine (X_drain _ _ H9.out).mono ?_; rintro e w10 ⟨he, h10, k10⟩
                rw [G4.out] at he
                subst he
                rw [G6.out] at h10
                have A10 := Lib.hid (k10 _ _ _ _ alienInt A9.out); have H10 := Lib.hid h10
                clear h10 k10
                go_wp2_with fail
                go_roundw
                case rel => exact ⟨k + 1, by omega, by go_num, by rw [HNK.out]; exact H10.out, A10.out⟩
                case measure => simp [intOf]; omega
            · obtain rfl : k = 4 := by omega
              clear a4
              go_wp2_with fail
              obtain ⟨sv, bs, p1, p2⟩ := h4
              refine (len_any _ p1).mono ?_; rintro e w9 ⟨rfl, rfl⟩
              rw [show (pcD 4 (4 - 4) ns us ds).length = 0 from pcD_len _ _ _ _ _]
              go_wp2_with fail
              go_ret
              exact ⟨rfl, p2⟩

/-! ### The row's step -/
theorem own : ownKnob Try.prog.godebug = none := by kernel_rfl
theorem laid : laidOutB Try.prog = true := by kernel_rfl

set_option maxRecDepth 100000 in
theorem lifted (os : Os) (started : os.Started) (H : Type) (enc : TypeId × Value → H) :
    ReturnsInHanded {} Try.checked os 7 .any (Rows.poolDrainsSpec.pre6 enc Try.prog Try.f7 Rows.poolDrainsRow.domain false) (Rows.poolDrainsSpec.post enc Try.prog Try.f7 false true false false) := by
  refine lift_law (C := Try.checked) (tb := 4) own started (by kernel_rfl) Try.func7
    (ChangeSpec.witness6 (enc := enc) (C := Try.checked) false ⟨#[], #[.int .i64 0, .int .i64 0, .int .i64 0, .int .i64 0, .int .i64 0], []⟩ 8 (by kernel_rfl) (by kernel_rfl) (by kernel_rfl) (by kernel_rfl))
    laid (by rw [Try.params7]; intro t ht; simp only [List.mem_cons, List.not_mem_nil, or_false] at ht; rcases ht with rfl | rfl | rfl | rfl | rfl <;> exact ⟨by kernel_rfl, of_decide_eq_true (by kernel_rfl)⟩) (by kernel_rfl) Try.underlying4 rfl
    (fun ds h => by rw [Try.params7] at h; match ds, h with | [d0, d1, d2, d3, d4], _ => rfl) ?_
  intro W base args ds before hval hA hlt hsz
  rw [Try.params7] at hA hval
  have hlt0 := hlt
  obtain ⟨v0, vs0, d0, ds0, p0, q0, hargs, rfl, rfl, h0, r0⟩ := trodAll_cons hA
  obtain ⟨v1, vs1, d1, ds1, p1, q1, rfl, rfl, rfl, h1, r1⟩ := trodAll_cons r0
  obtain ⟨v2, vs2, d2, ds2, p2, q2, rfl, rfl, rfl, h2, r2⟩ := trodAll_cons r1
  obtain ⟨v3, vs3, d3, ds3, p3, q3, rfl, rfl, rfl, h3, r3⟩ := trodAll_cons r2
  obtain ⟨v4, vs4, d4, ds4, p4, q4, rfl, rfl, rfl, h4, r4⟩ := trodAll_cons r3
  obtain ⟨rfl, rfl, rfl⟩ := trodAll_nil r4
  obtain rfl : args = #[v0, v1, v2, v3, v4] := by cases args; simp_all
  have l0 : ∀ p ∈ p0, p.block < W.heap.size := fun x hx => hlt x (by simp [hx])
  have l1 : ∀ p ∈ p1, p.block < W.heap.size := fun x hx => hlt x (by simp [hx])
  have l2 : ∀ p ∈ p2, p.block < W.heap.size := fun x hx => hlt x (by simp [hx])
  have l3 : ∀ p ∈ p3, p.block < W.heap.size := fun x hx => hlt x (by simp [hx])
  have l4 : ∀ p ∈ p4, p.block < W.heap.size := fun x hx => hlt x (by simp [hx])
  obtain ⟨a0, rfl, rfl, rfl, wa0⟩ := open_int Try.underlying3 (hval 0 3 v0 rfl rfl) h0
  obtain ⟨a1, rfl, rfl, rfl, wa1⟩ := open_int Try.underlying3 (hval 1 3 v1 rfl rfl) h1
  obtain ⟨a2, rfl, rfl, rfl, wa2⟩ := open_int Try.underlying3 (hval 2 3 v2 rfl rfl) h2
  obtain ⟨a3, rfl, rfl, rfl, wa3⟩ := open_int Try.underlying3 (hval 3 3 v3 rfl rfl) h3
  obtain ⟨a4, rfl, rfl, rfl, wa4⟩ := open_int Try.underlying3 (hval 4 3 v4 rfl rfl) h4
  exact walk a0 a1 a2 a3 a4 W

theorem over : Rows.poolDrainsRow.holds Try.pinned (OpenSpec.ofChange Rows.poolDrainsSpec) :=
  OpenClaim.holds_of_wide 7 Try.f7 rfl rfl rfl rfl rfl rfl rfl ⟨rfl, rfl, rfl, rfl, rfl⟩ rfl rfl rfl rfl rfl (by kernel_rfl) Try.func7 (by kernel_rfl)
    (of_decide_eq_true (by kernel_rfl)) (by unfold Func.isWrapper; first | (rw [if_pos (by decide +kernel)]; kernel_rfl) | (rw [if_neg (by decide +kernel)]; exact ⟨rfl, rfl⟩))
    (fun os started H enc _ => lifted os started H enc)

/-- The statement. -/
theorem proved : Rows.PoolDrainsSaid :=
  over
#print axioms proved

end Go.Proofs.Ythinceoklkjcpaa.Drains
