/-
  What a decoder reads: the plain law.
-/
import Derived.Test.YtmoeioaahampaaaHd
namespace Go.Proofs.Ytmoeioaahampaaa.Hf
theorem dec_ok {l : List UInt8} {most : Int} {x : List UInt8} (h : dec most (bitsOf l) = (x, 0)) : enc x = l ∧ ∃ k, k < 8 ∧ bitsOf l = spell x ++ List.replicate k true := by
  obtain ⟨y, r, h1, h2, _, h4, h5⟩ := drun_back most _ _ [] x (Nat.le_refl _) h
  simp at h1; subst h1
  have hr : r = List.replicate r.length true := by
    apply List.ext_getElem (by simp)
    intro i hi _
    rw [List.getElem_replicate]
    have := List.all_eq_true.1 h5 _ (List.getElem_mem hi)
    simpa using this
  refine ⟨?_, r.length, h4, by rw [← hr]; exact h2⟩
  have hl : 8 * l.length = (spell x).length + r.length := by rw [← bitsOf_length, h2, List.length_append]
  have hn : need x = l.length := by unfold need; omega
  unfold enc
  rw [hn]
  have : chunks l.length (spell x ++ ones7) = chunks l.length (bitsOf l) := by
    have e1 : spell x ++ ones7 = bitsOf l ++ List.replicate (7 - r.length) true := by
      rw [h2, List.append_assoc]
      congr 1
      rw [hr, ones7, List.replicate_append_replicate]
      congr 1
      simp; omega
    rw [e1, chunks_append _ _ _ (by rw [bitsOf_length]; exact Nat.le_refl _)]
  rw [this, chunks_bitsOf]
theorem dec_len {l : List UInt8} {most : Int} {x : List UInt8} (h : dec most (bitsOf l) = (x, 0)) : 5 * x.length ≤ 8 * l.length := by
  obtain ⟨_, k, hk, h2⟩ := dec_ok h
  have h1 := spell_len x
  have h3 := bitsOf_length l
  rw [h2, List.length_append] at h3
  omega
end Go.Proofs.Ytmoeioaahampaaa.Hf
namespace Go.Proofs.Ytmoeioaahampaaa.Tb.Hp
open Go.ChangeShapes Go.WideShapes Go.ChangeAt Go.RowKit
open Go.Proofs.Ytmoeioaahampaaa.B Go.Proofs.Ytmoeioaahampaaa.Hi Go.Proofs.Ytmoeioaahampaaa.Tb
open Go.Proofs.Ytmoeioaahampaaa.Hf (bx need enc dec bitsOf dec_len)
set_option linter.unusedVariables false
set_option linter.unusedSimpArgs false

theorem getT_len (l : List UInt8) : (getT l).1.length ≤ 2 * l.length := by
  unfold getT
  split
  · simp
  · split
    · simp
    · split
      · simp; omega
      · split
        · simp
        · rename_i h
          have h := Classical.not_not.1 h
          have := dec_len (l := (l.drop (getI l 7).2.1).take (getI l 7).1) (most := 2147483647) (x := (dec 2147483647 (bitsOf ((l.drop (getI l 7).2.1).take (getI l 7).1))).1) (by rw [← h])
          simp at this ⊢
          omega
theorem textR_len (l : List UInt8) (b : Bool) : (textR l b).1.length ≤ 2 * l.length ∧ (textR l b).2.1.length ≤ l.length := by
  unfold textR
  split
  · simp
  · exact ⟨getT_len l, by simp⟩
theorem STAT_size : STAT.all (fun f => decide (f.sz ≤ 100000)) = true := by decide +kernel
theorem atR_size {m : Nat} {es : List Fd} (h : Inv m es) (i : Int) : (atR es i).1.sz ≤ 100000 := by
  unfold atR atL
  split
  · rename_i hi
    show ((allF es).getD (i.toNat - 1) Fd.no).sz ≤ _
    rw [List.getD_eq_getElem?_getD]
    cases hx : (allF es)[i.toNat - 1]? with
    | none => show Fd.no.sz ≤ _; decide
    | some f =>
      show f.sz ≤ _
      have hm := List.mem_of_getElem? hx
      unfold allF at hm
      rcases List.mem_append.1 hm with hm | hm
      · exact of_decide_eq_true (List.all_eq_true.1 STAT_size f hm)
      · have h1 := tot_mem (List.mem_reverse.1 hm)
        have h2 := h.t
        have h3 := h.hm
        omega
  · show Fd.no.sz ≤ _; decide
/-- The name of a field whose index is told. -/
def nameR (es : List Fd) (V : Nat) (l : List UInt8) (b : Bool) : ByteArray × List UInt8 × Bool :=
  if V = 0 then (⟨(textR l b).1.toArray⟩, (textR l b).2.1, (textR l b).2.2) else ((atR es V).1.n, l, b || !(atR es V).2)
/-- A field whose value stands behind. -/
def litR (P : Nat) (nv : Bool) (m : Nat) (es : List Fd) (l : List UInt8) : Fd × List UInt8 × Bool × List Fd :=
  let G := getI l P
  let N := nameR es G.1 (l.drop G.2.1) (decide (G.2.2 ≠ 0))
  let T := textR N.2.1 N.2.2
  let f : Fd := ⟨N.1, ⟨T.1.toArray⟩, nv⟩
  (f, T.2.1, T.2.2, if P = 6 ∧ T.2.2 = false then addS f m es else es)
/-- A field read: it, what is left, whether it is none, the table behind it. -/
def fieldR (m : Nat) (es : List Fd) (l : List UInt8) : Fd × List UInt8 × Bool × List Fd :=
  if 128 ≤ (l.headD 0).toNat then ((atR es (getI l 7).1).1, l.drop (getI l 7).2.1, decide ((getI l 7).2.2 ≠ 0) || !(atR es (getI l 7).1).2, es)
  else if (l.headD 0).toNat / 32 = 1 then (Fd.no, l, true, es)
  else if 64 ≤ (l.headD 0).toNat then litR 6 false m es l
  else litR 4 (decide ((l.headD 0).toNat / 16 = 1)) m es l
end Go.Proofs.Ytmoeioaahampaaa.Tb.Hp
namespace Go.Proofs.Ytmoeioaahampaaa.Tb.Hp
open Go.ChangeShapes Go.WideShapes Go.ChangeAt Go.RowKit
open Go.Proofs.Ytmoeioaahampaaa.B Go.Proofs.Ytmoeioaahampaaa.Hi Go.Proofs.Ytmoeioaahampaaa.Tb
open Go.Proofs.Ytmoeioaahampaaa.Hf (bx need enc dec bitsOf dec_len)
set_option linter.unusedVariables false
set_option linter.unusedSimpArgs false

/-- The updates ahead of a block: what is left, whether it is none, the table's Max and the table. -/
def updR (limit : Nat) : Nat → Nat → List Fd → List UInt8 → List UInt8 × Bool × Nat × List Fd
  | 0, m, es, l => (l, false, m, es)
  | k + 1, m, es, l =>
    if 0 < l.length ∧ (l.headD 0).toNat / 32 = 1 then
      if (getI l 5).2.2 ≠ 0 ∨ limit < (getI l 5).1 then (l.drop (getI l 5).2.1, true, m, es)
      else updR limit k (hgt ((getI l 5).1 : Int)) (Tb.fit 0 (hgt ((getI l 5).1 : Int)) es) (l.drop (getI l 5).2.1)
    else (l, false, m, es)
/-- The fields: they, whether a block is none, the table. -/
def fldR (m : Nat) : Nat → List Fd → List UInt8 → List Fd × Bool × List Fd
  | 0, es, l => ([], false, es)
  | k + 1, es, l =>
    if 0 < l.length then
      if (fieldR m es l).2.2.1 = true then ([(fieldR m es l).1], true, (fieldR m es l).2.2.2)
      else ((fieldR m es l).1 :: (fldR m k (fieldR m es l).2.2.2 (fieldR m es l).2.1).1, (fldR m k (fieldR m es l).2.2.2 (fieldR m es l).2.1).2)
    else ([], false, es)
/-- A block read: the fields, the errno, broken, Max, the table. -/
def decB (m : Nat) (es : List Fd) (limit : Nat) (list : Int) (broken : Bool) (l : List UInt8) : List Fd × Nat × Bool × Nat × List Fd :=
  if broken = true then ([], 7, true, m, es)
  else
    let U := updR limit l.length m es l
    if U.2.1 = true ∨ limit < U.2.2.1 then ([], 3, true, U.2.2.1, U.2.2.2)
    else
      let X := fldR U.2.2.1 U.1.length U.2.2.2 U.1
      if X.2.1 = true then ([], 3, true, U.2.2.1, X.2.2)
      else if list < (tot X.1 : Int) then ([], 4, false, U.2.2.1, X.2.2) else (X.1, 0, false, U.2.2.1, X.2.2)
theorem updR_stop {limit k m : Nat} {es : List Fd} {l : List UInt8} (h : ¬ (0 < l.length ∧ (l.headD 0).toNat / 32 = 1)) : updR limit k m es l = (l, false, m, es) := by
  cases k with
  | zero => rfl
  | succ k => unfold updR; rw [if_neg h]
theorem fldR_stop {m k : Nat} {es : List Fd} {l : List UInt8} (h : ¬ 0 < l.length) : fldR m k es l = ([], false, es) := by
  cases k with
  | zero => rfl
  | succ k => unfold fldR; rw [if_neg h]
theorem getI_n (l : List UInt8) (P : Int) : (getI l P).2.1 ≤ l.length ∧ ((getI l P).2.2 = 0 → 1 ≤ (getI l P).2.1) := by
  by_cases h0 : (getI l P).2.2 = 0
  · exact ⟨(getI_ok h0).2.2, fun _ => (getI_ok h0).2.1⟩
  · rw [(getI_bad l P h0).2]; exact ⟨Nat.zero_le _, fun h => absurd h h0⟩
theorem nameR_len {es : List Fd} {V : Nat} {l : List UInt8} {b : Bool} : (nameR es V l b).2.1.length ≤ l.length := by
  unfold nameR
  split
  · exact (textR_len l b).2
  · exact Nat.le_refl _
theorem nameR_bad {es : List Fd} {V : Nat} {l : List UInt8} : (nameR es V l true).2.2 = true := by
  unfold nameR
  split
  · rfl
  · rfl
theorem litR_len {P : Nat} {nv : Bool} {m : Nat} {es : List Fd} {l : List UInt8} (h : (litR P nv m es l).2.2.1 = false) : (litR P nv m es l).2.1.length < l.length := by
  have hn := getI_n l P
  by_cases h0 : (getI l P).2.2 = 0
  · have h1 := hn.2 h0
    have h2 := nameR_len (es := es) (V := (getI l P).1) (l := l.drop (getI l P).2.1) (b := decide ((getI l P).2.2 ≠ 0))
    have h3 := (textR_len (nameR es (getI l P).1 (l.drop (getI l P).2.1) (decide ((getI l P).2.2 ≠ 0))).2.1 (nameR es (getI l P).1 (l.drop (getI l P).2.1) (decide ((getI l P).2.2 ≠ 0))).2.2).2
    rw [List.length_drop] at h2
    show (textR (nameR es (getI l P).1 (l.drop (getI l P).2.1) (decide ((getI l P).2.2 ≠ 0))).2.1 (nameR es (getI l P).1 (l.drop (getI l P).2.1) (decide ((getI l P).2.2 ≠ 0))).2.2).2.1.length < _
    omega
  · exfalso
    have e : (litR P nv m es l).2.2.1 = (textR (nameR es (getI l P).1 (l.drop (getI l P).2.1) (decide ((getI l P).2.2 ≠ 0))).2.1 (nameR es (getI l P).1 (l.drop (getI l P).2.1) (decide ((getI l P).2.2 ≠ 0))).2.2).2.2 := rfl
    rw [e, show decide ((getI l P).2.2 ≠ 0) = true from decide_eq_true h0, nameR_bad] at h
    unfold textR at h
    simp at h
theorem fieldR_len {m : Nat} {es : List Fd} {l : List UInt8} (h : (fieldR m es l).2.2.1 = false) : (fieldR m es l).2.1.length < l.length := by
  unfold fieldR at h ⊢
  have hn := getI_n l 7
  split
  · rename_i h1
    rw [if_pos h1] at h
    simp only [Bool.or_eq_false_iff, decide_eq_false_iff_not, Classical.not_not] at h
    have := hn.2 h.1
    show (l.drop (getI l 7).2.1).length < _
    rw [List.length_drop]; omega
  · rename_i h1
    rw [if_neg h1] at h
    split
    · rename_i h2
      rw [if_pos h2] at h
      simp at h
    · rename_i h2
      rw [if_neg h2] at h
      split
      · rename_i h3
        rw [if_pos h3] at h
        exact litR_len h
      · rename_i h3
        rw [if_neg h3] at h
        exact litR_len h
theorem litR_len2 {P : Nat} {nv : Bool} {m : Nat} {es : List Fd} {l : List UInt8} : (litR P nv m es l).2.1.length ≤ l.length := by
  have h2 := nameR_len (es := es) (V := (getI l P).1) (l := l.drop (getI l P).2.1) (b := decide ((getI l P).2.2 ≠ 0))
  have h3 := (textR_len (nameR es (getI l P).1 (l.drop (getI l P).2.1) (decide ((getI l P).2.2 ≠ 0))).2.1 (nameR es (getI l P).1 (l.drop (getI l P).2.1) (decide ((getI l P).2.2 ≠ 0))).2.2).2
  rw [List.length_drop] at h2
  show (textR (nameR es (getI l P).1 (l.drop (getI l P).2.1) (decide ((getI l P).2.2 ≠ 0))).2.1 (nameR es (getI l P).1 (l.drop (getI l P).2.1) (decide ((getI l P).2.2 ≠ 0))).2.2).2.1.length ≤ _
  omega
theorem fieldR_len2 {m : Nat} {es : List Fd} {l : List UInt8} : (fieldR m es l).2.1.length ≤ l.length := by
  unfold fieldR
  split
  · show (l.drop (getI l 7).2.1).length ≤ _
    rw [List.length_drop]; omega
  · split
    · exact Nat.le_refl _
    · split
      · exact litR_len2
      · exact litR_len2
theorem litR_sz {P : Nat} {nv : Bool} {m : Nat} {es : List Fd} {l : List UInt8} (hi : Inv m es) (hl : l.length ≤ 100000) : (litR P nv m es l).1.sz ≤ 600032 := by
  have h2 := nameR_len (es := es) (V := (getI l P).1) (l := l.drop (getI l P).2.1) (b := decide ((getI l P).2.2 ≠ 0))
  have h3 := (textR_len (nameR es (getI l P).1 (l.drop (getI l P).2.1) (decide ((getI l P).2.2 ≠ 0))).2.1 (nameR es (getI l P).1 (l.drop (getI l P).2.1) (decide ((getI l P).2.2 ≠ 0))).2.2).1
  rw [List.length_drop] at h2
  have h4 : (nameR es (getI l P).1 (l.drop (getI l P).2.1) (decide ((getI l P).2.2 ≠ 0))).1.size ≤ 300000 := by
    unfold nameR
    split
    · have := (textR_len (l.drop (getI l P).2.1) (decide ((getI l P).2.2 ≠ 0))).1
      rw [List.length_drop] at this
      show (textR (l.drop (getI l P).2.1) (decide ((getI l P).2.2 ≠ 0))).1.toArray.size ≤ _
      rw [List.size_toArray]; omega
    · have := atR_size hi ((getI l P).1 : Int)
      unfold Fd.sz at this
      show (atR es ((getI l P).1 : Int)).1.n.size ≤ _
      omega
  show (nameR es (getI l P).1 (l.drop (getI l P).2.1) (decide ((getI l P).2.2 ≠ 0))).1.size + (textR (nameR es (getI l P).1 (l.drop (getI l P).2.1) (decide ((getI l P).2.2 ≠ 0))).2.1 (nameR es (getI l P).1 (l.drop (getI l P).2.1) (decide ((getI l P).2.2 ≠ 0))).2.2).1.toArray.size + 32 ≤ _
  rw [List.size_toArray]
  omega
theorem fieldR_sz {m : Nat} {es : List Fd} {l : List UInt8} (hi : Inv m es) (hl : l.length ≤ 100000) : (fieldR m es l).1.sz ≤ 600032 := by
  unfold fieldR
  split
  · have := atR_size hi ((getI l 7).1 : Int)
    show (atR es ((getI l 7).1 : Int)).1.sz ≤ _
    omega
  · split
    · show Fd.no.sz ≤ _; decide
    · split
      · exact litR_sz hi hl
      · exact litR_sz hi hl
end Go.Proofs.Ytmoeioaahampaaa.Tb.Hp
