/-
  Fields, and what a table holds: the plain law.
-/
import Derived.Test.YtmoeioaahampaaaBase
namespace Go.Proofs.Ytmoeioaahampaaa.Tb

structure Fd where
  n : ByteArray
  v : ByteArray
  nv : Bool
deriving DecidableEq
def Fd.sz (f : Fd) : Nat := f.n.size + f.v.size + 32
def Fd.un (f : Fd) : Fd := { f with nv := false }
def Fd.no : Fd := ⟨⟨#[]⟩, ⟨#[]⟩, false⟩
theorem Fd.un_sz (f : Fd) : f.un.sz = f.sz := rfl
theorem Fd.un_nv (f : Fd) : f.un.nv = false := rfl
def tot : List Fd → Nat
  | [] => 0
  | f :: l => f.sz + tot l
theorem tot_append (a b : List Fd) : tot (a ++ b) = tot a + tot b := by
  induction a with
  | nil => simp [tot]
  | cons f a ih => simp [tot, ih]; omega
theorem tot_mem {l : List Fd} {f : Fd} (h : f ∈ l) : f.sz ≤ tot l := by
  induction l with
  | nil => simp at h
  | cons g l ih =>
    rcases List.mem_cons.1 h with rfl | h
    · simp [tot]
    · have := ih h; simp [tot]; omega
theorem tot_len (l : List Fd) : 32 * l.length ≤ tot l := by
  induction l with
  | nil => simp [tot]
  | cons f l ih => simp [tot, Fd.sz]; omega
theorem tot_drop_succ {l : List Fd} {k : Nat} {f : Fd} (h : l[k]? = some f) : tot (l.drop k) = f.sz + tot (l.drop (k + 1)) := by
  obtain ⟨hk, rfl⟩ := List.getElem?_eq_some_iff.1 h
  rw [List.drop_eq_getElem_cons hk]; rfl
theorem tot_drop_le (l : List Fd) (k : Nat) : tot (l.drop k) ≤ tot l := by
  have := tot_append (l.take k) (l.drop k)
  rw [List.take_append_drop] at this; omega
theorem tot_reverse (l : List Fd) : tot l.reverse = tot l := by
  induction l with
  | nil => rfl
  | cons f l ih => rw [List.reverse_cons, tot_append, ih]; simp [tot]; omega

/-- Those that are left (the oldest first), until so many octets more have room. -/
def fit (more m : Nat) : List Fd → List Fd
  | [] => []
  | e :: es => if m < tot (e :: es) + more then fit more m es else e :: es
theorem fit_drop {more m : Nat} : ∀ {es : List Fd} {k : Nat}, k ≤ es.length → (∀ j, j < k → m < tot (es.drop j) + more) → (k < es.length → ¬ m < tot (es.drop k) + more) → fit more m es = es.drop k := by
  intro es
  induction es with
  | nil => intro k hk _ _; simp [fit]
  | cons e es ih =>
    intro k hk h1 h2
    unfold fit
    cases k with
    | zero =>
      rw [if_neg (by simpa using h2 (by simp))]; rfl
    | succ k =>
      rw [if_pos (by simpa using h1 0 (by omega)), ih (by simpa using hk) (fun j hj => by simpa using h1 (j + 1) (by omega)) (fun hk2 => by simpa using h2 (by simpa using hk2))]
      rfl
/-- As many go as must, and no more. -/
theorem fit_spec (more m : Nat) (es : List Fd) : ∃ k, k ≤ es.length ∧ fit more m es = es.drop k ∧ (∀ j, j < k → m < tot (es.drop j) + more) ∧ (k < es.length → tot (es.drop k) + more ≤ m) := by
  induction es with
  | nil => exact ⟨0, by simp, by simp [fit], by simp, by simp⟩
  | cons e es ih =>
    by_cases h : m < tot (e :: es) + more
    · obtain ⟨k, h1, h2, h3, h4⟩ := ih
      refine ⟨k + 1, by simpa using h1, by rw [fit, if_pos h, h2]; rfl, fun j hj => ?_, fun hk => by simpa using h4 (by simpa using hk)⟩
      cases j with
      | zero => simpa using h
      | succ j => simpa using h3 j (by omega)
    · exact ⟨0, by omega, by rw [fit, if_neg h]; rfl, fun j hj => by omega, fun _ => by simp; omega⟩
theorem fit_tot (more m : Nat) (es : List Fd) : fit more m es = [] ∨ tot (fit more m es) + more ≤ m := by
  obtain ⟨k, h1, h2, _, h4⟩ := fit_spec more m es
  rw [h2]
  rcases Nat.lt_or_ge k es.length with h | h
  · exact Or.inr (h4 h)
  · exact Or.inl (List.drop_of_length_le h)
theorem fit_tot0 (m : Nat) (es : List Fd) : tot (fit 0 m es) ≤ m := by
  rcases fit_tot 0 m es with h | h
  · rw [h]; simp [tot]
  · omega
theorem fit_mem {more m : Nat} {es : List Fd} {f : Fd} (h : f ∈ fit more m es) : f ∈ es := by
  obtain ⟨k, _, h2, _⟩ := fit_spec more m es
  rw [h2] at h
  exact List.mem_of_mem_drop h
theorem fit_le (more m : Nat) (es : List Fd) : tot (fit more m es) ≤ tot es := by
  obtain ⟨k, _, h2, _⟩ := fit_spec more m es
  rw [h2]; exact tot_drop_le es k
/-- What one more field makes of it. -/
def addS (f : Fd) (m : Nat) (es : List Fd) : List Fd := if f.sz ≤ m then fit f.sz m es ++ [f.un] else fit f.sz m es
theorem fit_big {f : Fd} {m : Nat} (h : m < f.sz) (es : List Fd) : fit f.sz m es = [] := by
  rcases fit_tot f.sz m es with h1 | h1
  · exact h1
  · omega
theorem addS_big {f : Fd} {m : Nat} (h : m < f.sz) (es : List Fd) : addS f m es = [] := by
  unfold addS; rw [if_neg (by omega)]; exact fit_big h es
theorem addS_small {f : Fd} {m : Nat} (h : f.sz ≤ m) (es : List Fd) : addS f m es = fit f.sz m es ++ [f.un] := by
  unfold addS; rw [if_pos h]
/-- What holds of a table at all times. -/
structure Inv (m : Nat) (es : List Fd) : Prop where
  hm : m ≤ 65536
  t : tot es ≤ m
  nv : ∀ e ∈ es, e.nv = false
theorem Inv.nil {m : Nat} (h : m ≤ 65536) : Inv m [] := ⟨h, by simp [tot], by simp⟩
theorem Inv.add {m : Nat} {es : List Fd} (h : Inv m es) (f : Fd) : Inv m (addS f m es) := by
  rcases Nat.lt_or_ge m f.sz with hf | hf
  · rw [addS_big hf]; exact Inv.nil h.hm
  · rw [addS_small hf]
    refine ⟨h.hm, ?_, fun e he => ?_⟩
    · rw [tot_append]
      simp only [tot, Fd.un_sz]
      rcases fit_tot f.sz m es with h1 | h1
      · rw [h1]; simp [tot]; omega
      · omega
    · rcases List.mem_append.1 he with he | he
      · exact h.nv e (fit_mem he)
      · rw [List.mem_singleton.1 he]; rfl
theorem Inv.set {m m' : Nat} {es : List Fd} (h : Inv m es) (hm : m' ≤ 65536) : Inv m' (fit 0 m' es) := ⟨hm, fit_tot0 m' es, fun e he => h.nv e (fit_mem he)⟩
theorem Inv.len {m : Nat} {es : List Fd} (h : Inv m es) : es.length ≤ 2048 := by have := tot_len es; have := h.t; have := h.hm; omega
theorem Inv.sz {m : Nat} {es : List Fd} (h : Inv m es) {f : Fd} (hf : f ∈ es) : f.sz ≤ 65536 := by have := tot_mem hf; have := h.t; have := h.hm; omega
/-- The height that is set. -/
def hgt (n : Int) : Nat := (min (max n 0) 65536).toNat
theorem hgt_le (n : Int) : hgt n ≤ 65536 := by unfold hgt; omega
theorem hgt_cast (n : Int) : ((hgt n : Nat) : Int) = min (max n 0) 65536 := by unfold hgt; omega
end Go.Proofs.Ytmoeioaahampaaa.Tb
