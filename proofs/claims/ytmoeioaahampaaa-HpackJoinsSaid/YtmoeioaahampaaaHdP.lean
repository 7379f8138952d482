/-
  What a decoder reads: the plain law.
-/
import Derived.Test.YtmoeioaahampaaaHd
namespace Go.Proofs.Ytmoeioaahampaaa.Hf
theorem dec_ok {l : List UInt8} {most : Int} {x : List UInt8} (h : dec most (bitsOf l) = (x, 0)) : enc x = l ∧ ∃ k, k < 8 ∧ bitsOf l = spell x ++ List.replicate k true := by
  obtain ⟨y, r, h1, h2, _, h4, h5⟩ := drun_back most _ _ [] x (Nat.le_refl _) h
  simp at h1; subst h1
  have hr : r = List.replicate r.length true := by
    apply List.ext_getElem (by simp)
    intro i hi _
    rw [List.getElem_replicate]
    have := List.all_eq_true.1 h5 _ (List.getElem_mem hi)
    simpa using this
  refine ⟨?_, r.length, h4, by rw [← hr]; exact h2⟩
  have hl : 8 * l.length = (spell x).length + r.length := by rw [← bitsOf_length, h2, List.length_append]
  have hn : need x = l.length := by unfold need; omega
  unfold enc
  rw [hn]
  have : chunks l.length (spell x ++ ones7) = chunks l.length (bitsOf l) := by
    have e1 : spell x ++ ones7 = bitsOf l ++ List.replicate (7 - r.length) true := by
      rw [h2, List.append_assoc]
      congr 1
      rw [hr, ones7, List.replicate_append_replicate]
      congr 1
      simp; omega
    rw [e1, chunks_append _ _ _ (by rw [bitsOf_length]; exact Nat.le_refl _)]
  rw [this, chunks_bitsOf]
theorem dec_len {l : List UInt8} {most : Int} {x : List UInt8} (h : dec most (bitsOf l) = (x, 0)) : 5 * x.length ≤ 8 * l.length := by
  obtain ⟨_, k, hk, h2⟩ := dec_ok h
  have h1 := spell_len x
  have h3 := bitsOf_length l
  rw [h2, List.length_append] at h3
  omega
end Go.Proofs.Ytmoeioaahampaaa.Hf
namespace Go.Proofs.Ytmoeioaahampaaa.Tb.Hp
open Go.ChangeShapes Go.WideShapes Go.ChangeAt Go.RowKit
open Go.Proofs.Ytmoeioaahampaaa.B Go.Proofs.Ytmoeioaahampaaa.Hi Go.Proofs.Ytmoeioaahampaaa.Tb
open Go.Proofs.Ytmoeioaahampaaa.Hf (bx need enc dec bitsOf dec_len)
set_option linter.unusedVariables false
set_option linter.unusedSimpArgs false

theorem getT_len (l : List UInt8) : (getT l).1.length ≤ 2 * l.length := by
  unfold getT
  split
  · simp
  · split
    · simp
    · split
      · simp; omega
      · split
        · simp
        · rename_i h
          have h := Classical.not_not.1 h
          have := dec_len (l := (l.drop (getI l 7).2.1).take (getI l 7).1) (most := 2147483647) (x := (dec 2147483647 (bitsOf ((l.drop (getI l 7).2.1).take (getI l 7).1))).1) (by rw [← h])
          simp at this ⊢
          omega
theorem textR_len (l : List UInt8) (b : Bool) : (textR l b).1.length ≤ 2 * l.length ∧ (textR l b).2.1.length ≤ l.length := by
  unfold textR
  split
  · simp
  · exact ⟨getT_len l, by simp⟩
theorem STAT_size : STAT.all (fun f => decide (f.sz ≤ 100000)) = true := by decide +kernel
theorem atR_size {m : Nat} {es : List Fd} (h : Inv m es) (i : Int) : (atR es i).1.sz ≤ 100000 := by
  unfold atR atL
  split
  · rename_i hi
    show ((allF es).getD (i.toNat - 1) Fd.no).sz ≤ _
    rw [List.getD_eq_getElem?_getD]
    cases hx : (allF es)[i.toNat - 1]? with
    | none => show Fd.no.sz ≤ _; decide
    | some f =>
      show f.sz ≤ _
      have hm := List.mem_of_getElem? hx
      unfold allF at hm
      rcases List.mem_append.1 hm with hm | hm
      · exact of_decide_eq_true (List.all_eq_true.1 STAT_size f hm)
      · have h1 := tot_mem (List.mem_reverse.1 hm)
        have h2 := h.t
        have h3 := h.hm
        omega
  · show Fd.no.sz ≤ _; decide
/-- The name of a field whose index is told. -/
def nameR (es : List Fd) (V : Nat) (l : List UInt8) (b : Bool) : ByteArray × List UInt8 × Bool :=
  if V = 0 then (⟨(textR l b).1.toArray⟩, (textR l b).2.1, (textR l b).2.2) else ((atR es V).1.n, l, b || !(atR es V).2)
/-- A field whose value stands behind. -/
def litR (P : Nat) (nv : Bool) (m : Nat) (es : List Fd) (l : List UInt8) : Fd × List UInt8 × Bool × List Fd :=
  let G := getI l P
  let N := nameR es G.1 (l.drop G.2.1) (decide (G.2.2 ≠ 0))
  let T := textR N.2.1 N.2.2
  let f : Fd := ⟨N.1, ⟨T.1.toArray⟩, nv⟩
  (f, T.2.1, T.2.2, if P = 6 ∧ T.2.2 = false then addS f m es else es)
/-- A field read: it, what is left, whether it is none, the table behind it. -/
def fieldR (m : Nat) (es : List Fd) (l : List UInt8) : Fd × List UInt8 × Bool × List Fd :=
  if 128 ≤ (l.headD 0).toNat then ((atR es (getI l 7).1).1, l.drop (getI l 7).2.1, decide ((getI l 7).2.2 ≠ 0) || !(atR es (getI l 7).1).2, es)
  else if (l.headD 0).toNat / 32 = 1 then (Fd.no, l, true, es)
  else if 64 ≤ (l.headD 0).toNat then litR 6 false m es l
  else litR 4 (decide ((l.headD 0).toNat / 16 = 1)) m es l
end Go.Proofs.Ytmoeioaahampaaa.Tb.Hp
