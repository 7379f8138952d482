/-
  What an encoder writes: the plain law.
-/
import Derived.Test.YtmoeioaahampaaaLaws
import Derived.Test.YtmoeioaahampaaaHas
namespace Go.Proofs.Ytmoeioaahampaaa.Tb.Hp
open Go.ChangeShapes Go.WideShapes Go.ChangeAt Go.RowKit
open Go.Proofs.Ytmoeioaahampaaa.B Go.Proofs.Ytmoeioaahampaaa.Hi Go.Proofs.Ytmoeioaahampaaa.Tb
open Go.Proofs.Ytmoeioaahampaaa.Hf (bx need enc dec bitsOf)
set_option linter.unusedVariables false
set_option linter.unusedSimpArgs false

/-- A field whose value is told. -/
def lit (first : UInt8) (P i : Nat) (f : Fd) : List UInt8 := (putI first P i).1 ++ ((if i = 0 then putT (bx f.n) else []) ++ putT (bx f.v))
/-- One field's octets, and what the table has behind it. -/
def encF (m : Nat) (es : List Fd) (f : Fd) : List UInt8 × List Fd :=
  if f.nv = true then (lit 16 4 (findR es f).1 f, es)
  else if (findR es f).2 = true then ((putI 128 7 (findR es f).1).1, es)
  else if m < f.sz then (lit 0 4 (findR es f).1 f, es)
  else (lit 64 6 (findR es f).1 f, addS f m es)
def encL (m : Nat) : List Fd → List Fd → List UInt8 × List Fd
  | es, [] => ([], es)
  | es, f :: l => ((encF m es f).1 ++ (encL m (encF m es f).2 l).1, (encL m (encF m es f).2 l).2)
theorem encL_append (m : Nat) : ∀ (a b es : List Fd), encL m es (a ++ b) = ((encL m es a).1 ++ (encL m (encL m es a).2 b).1, (encL m (encL m es a).2 b).2) := by
  intro a
  induction a with
  | nil => intro b es; rfl
  | cons f a ih => intro b es; simp only [List.cons_append, encL, ih, List.append_assoc]
theorem encL_snoc (m : Nat) (a es : List Fd) (f : Fd) : encL m es (a ++ [f]) = ((encL m es a).1 ++ (encF m (encL m es a).2 f).1, (encF m (encL m es a).2 f).2) := by
  rw [encL_append]; simp [encL]
def upd (n : Nat) : List UInt8 := (putI 32 5 n).1
/-- The updates that stand ahead of a block, and the table behind them. -/
def encU (m : Nat) (es : List Fd) (least last : Nat) (called : Bool) : List UInt8 × Nat × List Fd :=
  if called = true then (if least < last then (upd least ++ upd last, last, Tb.fit 0 last (Tb.fit 0 least es)) else (upd last, last, Tb.fit 0 last es)) else ([], m, es)
theorem encF_inv {m : Nat} {es : List Fd} (h : Inv m es) (f : Fd) : Inv m (encF m es f).2 := by
  unfold encF
  split
  · exact h
  · split
    · exact h
    · split
      · exact h
      · exact h.add f
theorem encL_inv {m : Nat} : ∀ (l es : List Fd), Inv m es → Inv m (encL m es l).2 := by
  intro l
  induction l with
  | nil => intro es h; exact h
  | cons f l ih => intro es h; exact ih _ (encF_inv h f)
theorem findR_le {es : List Fd} {f : Fd} : (findR es f).1 ≤ 61 + es.length := by
  unfold findR
  cases h : (allF es).findIdx? (fun x => decide (x = f.un)) with
  | some i => have := (List.findIdx?_eq_some_iff_getElem.1 h).1; rw [allF_len] at this; simp; omega
  | none => have := nm_le f (allF es); rw [allF_len] at this; exact this
theorem putT_le (l : List UInt8) : (putT l).length ≤ l.length + 6 := by
  unfold putT
  split
  · rename_i h
    have := putI_len 128 7 ((need l : Nat) : Int)
    rw [List.length_append, Hf.enc_length]; omega
  · have := putI_len 0 7 ((l.length : Nat) : Int)
    rw [List.length_append]; omega
theorem lit_le (first : UInt8) (P i : Nat) (f : Fd) : (lit first P i f).length ≤ 18 + f.n.size + f.v.size := by
  unfold lit
  have h1 := putI_len first P i
  have h2 := putT_le (bx f.n)
  have h3 := putT_le (bx f.v)
  have e1 : (bx f.n).length = f.n.size := by simp [bx]
  have e2 : (bx f.v).length = f.v.size := by simp [bx]
  rw [List.length_append, List.length_append]
  split
  · omega
  · simp; omega
theorem encF_le (m : Nat) (es : List Fd) (f : Fd) : (encF m es f).1.length ≤ 18 + f.n.size + f.v.size := by
  unfold encF
  split
  · exact lit_le _ _ _ _
  · split
    · have := putI_len 128 7 ((findR es f).1 : Int); show (putI 128 7 ((findR es f).1 : Int)).1.length ≤ _; omega
    · split
      · exact lit_le _ _ _ _
      · exact lit_le _ _ _ _
theorem encL_le (m : Nat) : ∀ (l es : List Fd) (B : Nat), (∀ f ∈ l, f.n.size + f.v.size ≤ B) → (encL m es l).1.length ≤ l.length * (18 + B) := by
  intro l
  induction l with
  | nil => intro es B _; simp [encL]
  | cons f l ih =>
    intro es B h
    have h1 := ih (encF m es f).2 B (fun g hg => h g (List.mem_cons_of_mem _ hg))
    have h2 := encF_le m es f
    have h3 := h f (by simp)
    simp only [encL, List.length_append, List.length_cons]
    rw [Nat.add_mul]; omega
end Go.Proofs.Ytmoeioaahampaaa.Tb.Hp
