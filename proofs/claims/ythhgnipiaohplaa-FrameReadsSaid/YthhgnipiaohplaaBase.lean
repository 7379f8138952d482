/-
  Small words on worlds that all walks of this seat share: a whole block at its place ('At'), and what a call may have changed ('Chg').
-/
import Derived.WalkKit
import Derived.ProofKit
import Derived.OpenShut
import Derived.Deep.QuietTactic
import Derived.BigQuiet
import Derived.Deep.RegionHeld3
import Derived.Lib.MinMax
import Derived.Lib.Hide
namespace Go.Proofs.Ythhgnipiaohplaa.B
open Go.RowKit
set_option linter.unusedVariables false
set_option linter.unusedSimpArgs false

/-- Block b is this object. -/
def At (w : World) (b : Nat) (o : Obj) : Prop := w.heap[b]? = some o

/-- Of the blocks that were there only those of l may have changed. -/
structure Chg (l : List Nat) (w w' : World) : Prop where
  os : w'.os = w.os
  tape : w'.tape = w.tape
  output : w'.output = w.output
  size : w.heap.size ≤ w'.heap.size
  block : ∀ k, k < w.heap.size → k ∉ l → w'.heap[k]? = w.heap[k]?

theorem Chg.refl {l : List Nat} (w : World) : Chg l w w := ⟨rfl, rfl, rfl, Nat.le_refl _, fun _ _ _ => rfl⟩
theorem Chg.trans {l m : List Nat} {a b c : World} (h : Chg l a b) (k : Chg m b c) (hm : ∀ x ∈ m, x ∈ l ∨ a.heap.size ≤ x) : Chg l a c :=
  ⟨k.os.trans h.os, k.tape.trans h.tape, k.output.trans h.output, Nat.le_trans h.size k.size, fun x hx hl => by
    rw [k.block x (Nat.lt_of_lt_of_le hx h.size) (fun hc => (hm x hc).elim hl (fun h1 => by omega)), h.block x hx hl]⟩
theorem Chg.trans' {l : List Nat} {a b c : World} (h : Chg l a b) (k : Chg l b c) : Chg l a c := h.trans k (fun _ hx => Or.inl hx)
theorem Chg.mono {l m : List Nat} {a b : World} (h : Chg l a b) (hs : ∀ x ∈ l, x ∈ m) : Chg m a b :=
  ⟨h.os, h.tape, h.output, h.size, fun k hk hn => h.block k hk (fun hc => hn (hs k hc))⟩
theorem Chg.drewN {l : List Nat} {a b : World} (h : Chg l a b) (n : Nat) : Chg l a (b.drewN n) := ⟨h.os, h.tape, h.output, h.size, h.block⟩
theorem Chg.drew {l : List Nat} {a b : World} (h : Chg l a b) : Chg l a b.drew := ⟨h.os, h.tape, h.output, h.size, h.block⟩
theorem Chg.alloc {l : List Nat} {a b : World} (h : Chg l a b) (o : Obj) : Chg l a (b.alloc o) :=
  ⟨h.os, h.tape, h.output, Nat.le_trans h.size (by simp), fun k hk hn => by
    rw [Below.heap_alloc _ _ _ (Nat.lt_of_lt_of_le hk h.size), h.block k hk hn]⟩
theorem Chg.setCell {l : List Nat} {a b : World} (h : Chg l a b) {p : Addr} (hp : p.block ∈ l ∨ a.heap.size ≤ p.block) (u : Value) : Chg l a (b.setCell p u) :=
  ⟨h.os, h.tape, h.output, Nat.le_trans h.size (by simp [World.setCell]), fun k hk hn => by
    have hne : k ≠ p.block := fun hc => hp.elim (fun h1 => hn (by rw [hc]; exact h1)) (fun h1 => by omega)
    rw [Below.heap_setCell _ _ _ _ hne, h.block k hk hn]⟩
/-- What is made later may change freely. -/
theorem Chg.drop {l m : List Nat} {a b : World} (h : Chg m a b) (hm : ∀ x ∈ m, x ∈ l ∨ a.heap.size ≤ x) : Chg l a b := (Chg.refl a).trans h hm
theorem Chg.below {l : List Nat} {a b : World} {B : Nat} (h : Chg l a b) (hl : ∀ x ∈ l, B ≤ x) (hB : B ≤ a.heap.size) : Below B a b :=
  ⟨h.os, h.tape, h.output, h.size, fun k hk => h.block k (by omega) (fun hc => by have := hl k hc; omega)⟩
theorem Chg.below_nil {a b : World} (h : Chg [] a b) : Below a.heap.size a b := h.below (by simp) (Nat.le_refl _)
theorem Chg.of_drewN {l : List Nat} {a b : World} (h : ∃ n, b = a.drewN n) : Chg l a b := by obtain ⟨n, rfl⟩ := h; exact (Chg.refl a).drewN n

theorem _root_.Go.RowKit.Below.chg_nil {a b : World} (h : Below a.heap.size a b) : Chg [] a b := ⟨h.os, h.tape, h.output, h.size, fun k hk _ => h.block k hk⟩
theorem At.lt {w : World} {b : Nat} {o : Obj} (h : At w b o) : b < w.heap.size := by
  unfold At at h
  rcases Nat.lt_or_ge b w.heap.size with h' | h'
  · exact h'
  · rw [Array.getElem?_eq_none h'] at h; cases h
theorem At.cell {w : World} {b : Nat} {cs : Array Value} {T : TypeId} {fz : Nat × Nat} (h : At w b (.cells cs T fz)) {o : Nat} {v : Value} (hv : cs[o]? = some v) : w.cell? ⟨b, o, none⟩ = some v := by
  unfold At at h; simp [World.cell?, h, hv]
theorem At.free {w : World} {b : Nat} {cs : Array Value} {T : TypeId} (h : At w b (.cells cs T (0, 0))) (o : Nat) : w.frozen? ⟨b, o, none⟩ = false := by
  unfold At at h; simp [World.frozen?, h]
theorem At.drewN {w : World} {b : Nat} {o : Obj} (h : At w b o) (n : Nat) : At (w.drewN n) b o := h
theorem At.drew {w : World} {b : Nat} {o : Obj} (h : At w b o) : At w.drew b o := h
theorem At.new (w : World) (o : Obj) : At (w.alloc o) w.heap.size o := by
  show (w.heap.push o)[w.heap.size]? = some o
  simp
theorem At.new' {w : World} {o : Obj} {k : Nat} (h : w.heap.size = k) : At (w.alloc o) k o := h ▸ At.new w o
theorem At.alloc {w : World} {b : Nat} {o : Obj} (h : At w b o) (o' : Obj) : At (w.alloc o') b o := by
  unfold At; rw [Below.heap_alloc _ _ _ h.lt]; exact h
theorem At.set {w : World} {b : Nat} {cs : Array Value} {T : TypeId} {fz : Nat × Nat} (h : At w b (.cells cs T fz)) (o : Nat) (v : Value) :
    At (w.setCell ⟨b, o, none⟩ v) b (.cells (cs.setIfInBounds o v) T fz) := by
  unfold At at *; simp [World.setCell, Array.getElem?_modify, h]
theorem At.set_ne {w : World} {b : Nat} {ob : Obj} (h : At w b ob) {p : Addr} (hp : b ≠ p.block) (v : Value) : At (w.setCell p v) b ob := by
  unfold At at *; rw [Below.heap_setCell _ _ _ _ hp]; exact h
theorem At.chg {l : List Nat} {w w' : World} {b : Nat} {o : Obj} (h : At w b o) (hc : Chg l w w') (hb : b ∉ l) : At w' b o := by
  unfold At at *; rw [hc.block b (At.lt h) hb]; exact h
theorem At.below {B : Nat} {w w' : World} {b : Nat} {o : Obj} (h : At w b o) (hc : Below B w w') (hb : b < B) : At w' b o := by
  unfold At at *; rw [hc.block b hb]; exact h
theorem At.ne {w w' : World} {b : Nat} {o : Obj} (h : At w b o) (hs : w.heap.size ≤ w'.heap.size) : b ≠ w'.heap.size := by have := h.lt; omega

theorem Chg.cell {l : List Nat} {w w' : World} (h : Chg l w w') {b : Nat} (hb : b < w.heap.size) (hn : b ∉ l) (o : Nat) : w'.cell? ⟨b, o, none⟩ = w.cell? ⟨b, o, none⟩ := by
  unfold World.cell?; simp only; rw [h.block b hb hn]
theorem Chg.frozen {l : List Nat} {w w' : World} (h : Chg l w w') {b : Nat} (hb : b < w.heap.size) (hn : b ∉ l) (o : Nat) : w'.frozen? ⟨b, o, none⟩ = w.frozen? ⟨b, o, none⟩ := by
  unfold World.frozen?; simp only; rw [h.block b hb hn]
theorem _root_.Go.RowKit.Below.drewN {B : Nat} {a w : World} (h : Below B a w) (n : Nat) : Below B a (w.drewN n) := ⟨h.os, h.tape, h.output, h.size, h.block⟩
theorem _root_.Go.RowKit.Below.chg {B : Nat} {l : List Nat} {w w' w'' : World} (h : Below B w w') (k : Chg l w' w'') (hB : B ≤ w.heap.size) (hl : ∀ x ∈ l, B ≤ x) : Below B w w'' :=
  h.trans (k.below hl (Nat.le_trans hB h.size))

/-- Endings of one number. -/
theorem ret_int {k : IntKind} {a b : Int} (h : a = b) : Ending.returned (.int k a) = .returned (.int k b) := by rw [h]
theorem ret_bool {a b : Bool} (h : a = b) : Ending.returned (.bool a) = .returned (.bool b) := by rw [h]
theorem ret_int2 {k j : IntKind} {a b c d : Int} (h : a = b) (h' : c = d) : Ending.returned (.tuple #[.int k a, .int j c]) = .returned (.tuple #[.int k b, .int j d]) := by rw [h, h']
theorem i64_bounds {n : Int} (h : (Lit.int .i64 n).wf = true) : -9223372036854775808 ≤ n ∧ n ≤ 9223372036854775807 := by
  simpa [Lit.wf, IntKind.min, IntKind.max, IntKind.signed, IntKind.bits] using h
/-- 'n & m' of an int, m not below 0. -/
theorem i64_and_le (n : Int) (m : Nat) (hm : m < 9223372036854775808) : 0 ≤ bits .and .i64 n (m : Int) ∧ bits .and .i64 n (m : Int) ≤ m := by
  have hmm : (BitVec.ofInt 64 (m : Int)).toNat = m := by rw [BitVec.toNat_ofInt]; omega
  have key : (BitVec.ofInt 64 n &&& BitVec.ofInt 64 (m : Int)).toNat ≤ m := by
    rw [BitVec.toNat_and]
    exact Nat.le_trans Nat.and_le_right (by omega)
  show 0 ≤ IntKind.i64.wrap ((BitVec.ofInt 64 n &&& BitVec.ofInt 64 (m : Int)).toNat : Nat) ∧ IntKind.i64.wrap ((BitVec.ofInt 64 n &&& BitVec.ofInt 64 (m : Int)).toNat : Nat) ≤ m
  rw [IntKind.wrap_i64]
  omega
theorem i64_and_mask (n : Int) (j : Nat) (hj : j ≤ 62) : bits .and .i64 n ((2 ^ j - 1 : Nat) : Int) = n % ((2 ^ j : Nat) : Int) := by
  have hp : 2 ^ j ≤ 2 ^ 62 := Nat.pow_le_pow_right (by decide) hj
  have hpos : 0 < 2 ^ j := Nat.pow_pos (by decide)
  have hmm : (BitVec.ofInt 64 ((2 ^ j - 1 : Nat) : Int)).toNat = 2 ^ j - 1 := by rw [BitVec.toNat_ofInt]; omega
  have key : (BitVec.ofInt 64 n &&& BitVec.ofInt 64 ((2 ^ j - 1 : Nat) : Int)).toNat = (n % ((2 ^ 64 : Nat) : Int)).toNat % 2 ^ j := by
    rw [BitVec.toNat_and, BitVec.toNat_ofInt, hmm, Nat.and_two_pow_sub_one_eq_mod]
  show IntKind.i64.wrap ((BitVec.ofInt 64 n &&& BitVec.ofInt 64 ((2 ^ j - 1 : Nat) : Int)).toNat : Nat) = _
  rw [key, IntKind.wrap_i64]
  have hd : ((2 ^ j : Nat) : Int) ∣ ((2 ^ 64 : Nat) : Int) := by
    rw [Int.natCast_dvd_natCast]
    exact Nat.pow_dvd_pow 2 (by omega)
  have h1 : n % ((2 ^ j : Nat) : Int) = (n % ((2 ^ 64 : Nat) : Int)) % ((2 ^ j : Nat) : Int) := (Int.emod_emod_of_dvd n hd).symm
  have h2 : 0 ≤ n % ((2 ^ 64 : Nat) : Int) := Int.emod_nonneg _ (by decide)
  have h3 : (((n % ((2 ^ 64 : Nat) : Int)).toNat % 2 ^ j : Nat) : Int) = (n % ((2 ^ 64 : Nat) : Int)) % ((2 ^ j : Nat) : Int) := by
    rw [Int.natCast_emod, Int.toNat_of_nonneg h2]
  rw [h1, ← h3]
  have h4 : (n % ((2 ^ 64 : Nat) : Int)).toNat % 2 ^ j < 2 ^ j := Nat.mod_lt _ hpos
  omega
theorem eqC (a b : Int) : (a = b ∧ (a == b) = true) ∨ (¬ a = b ∧ (a == b) = false) := by by_cases h : a = b <;> simp [h]
theorem ltC (a b : Int) : (a < b ∧ True) ∨ (¬ a < b ∧ b ≤ a) := by by_cases h : a < b <;> simp [h]; omega
theorem neC (a b : Int) : (a = b) ∨ (¬ a = b ∧ (a == b) = false ∧ (a != b) = true) := by by_cases h : a = b <;> simp [h]
/-! ### Rows of the call's own -/
theorem owns_chg {l : List Nat} {w w' : World} {base : Nat} {e : TypeId} {size : Nat} {v : Value} {n : Nat} {xs : List Value} (h : w.ownsRow base e size v n xs) (hc : Chg l w w') (hn : ∀ g, v.ownBlock = some g → g ∉ l) : w'.ownsRow base e size v n xs := by
  refine ⟨h.1, ?_⟩
  rcases h.2 with h2 | ⟨g, cap, cur, rfl, hb, hg, rest⟩
  · exact Or.inl h2
  · exact Or.inr ⟨g, cap, cur, rfl, hb, At.chg (o := .cells cur e (0, 0)) hg hc (hn g rfl), rest⟩
theorem owns_drewN {w : World} {base : Nat} {e : TypeId} {size : Nat} {v : Value} {n : Nat} {xs : List Value} (h : w.ownsRow base e size v n xs) (k : Nat) : (w.drewN k).ownsRow base e size v n xs := h
theorem Chg.grown {w w' : World} {row : Option Nat} (h : w.grownBy w' row) : Chg row.toList w w' :=
  ⟨h.os, h.tape, h.output, h.size, fun k hk hn => h.block k hk (fun hc => hn (by rw [← hc]; simp))⟩
theorem owns_mono {w : World} {base base' : Nat} {e : TypeId} {size : Nat} {v : Value} {n : Nat} {xs : List Value} (h : w.ownsRow base e size v n xs) (hb : base' ≤ base) : w.ownsRow base' e size v n xs :=
  ⟨h.1, h.2.imp (fun x => x) (fun ⟨g, cap, cur, h1, h2, h3⟩ => ⟨g, cap, cur, h1, Nat.le_trans hb h2, h3⟩)⟩
theorem at_typ_inj {w : World} {b : Nat} {c c' : Array Value} {T T' : TypeId} {fz fz' : Nat × Nat} (h : At w b (.cells c T fz)) (h' : At w b (.cells c' T' fz')) : T = T' := by
  unfold At at *; rw [h] at h'; injection h' with h'; injection h'
theorem owns_at {w : World} {base : Nat} {e : TypeId} {size : Nat} {v : Value} {n : Nat} {xs : List Value} (h : w.ownsRow base e size v n xs) {g : Nat} (hg : v.ownBlock = some g) : ∃ cur, At w g (.cells cur e (0, 0)) := by
  rcases h.2 with ⟨rfl, _⟩ | ⟨g', cap, cur, rfl, _, hh, _⟩
  · simp [Value.ownBlock] at hg
  · simp [Value.ownBlock] at hg; subst hg; exact ⟨cur, hh⟩
/-- A block of another type is none of a row's. -/
theorem owns_alien {w : World} {base : Nat} {e : TypeId} {size : Nat} {v : Value} {n : Nat} {xs : List Value} (h : w.ownsRow base e size v n xs) {b : Nat} {c : Array Value} {T : TypeId} {fz : Nat × Nat} (hb : At w b (.cells c T fz)) (hT : T ≠ e) : b ∉ v.ownBlock.toList := by
  intro hx
  obtain ⟨cur, hc⟩ := owns_at h (g := b) (by simpa using hx)
  exact hT (at_typ_inj hb hc)
theorem owns_lo {w : World} {base : Nat} {e : TypeId} {size : Nat} {v : Value} {n : Nat} {xs : List Value} (h : w.ownsRow base e size v n xs) : ∀ x ∈ v.ownBlock.toList, base ≤ x := fun x hx => (h.lt x (by simpa using hx)).1
theorem owns_len {w : World} {base : Nat} {e : TypeId} {size : Nat} {v : Value} {n : Nat} {xs : List Value} (h : w.ownsRow base e size v n xs) : xs.length = n * size := h.1
/-- A row's value: nil, or a slice at its block's head. -/
theorem owns_val {w : World} {base : Nat} {e : TypeId} {size : Nat} {v : Value} {n : Nat} {xs : List Value} (h : w.ownsRow base e size v n xs) :
    ∃ a cap, v = .slice a n cap ∧ n ≤ cap ∧ cap ≤ maxLen ∧ (0 < n → ∃ g, a = some ⟨g, 0, none⟩ ∧ v.ownBlock = some g ∧ (∀ j, j < n * size → w.cell? ⟨g, j, none⟩ = xs[j]?) ∧ ∀ j, w.frozen? ⟨g, j, none⟩ = false) := by
  have h0 := h
  rcases h.2 with ⟨rfl, rfl⟩ | ⟨g, cap, cur, rfl, hb, hg, hn, hc, rest⟩
  · exact ⟨none, 0, rfl, Nat.le_refl _, by simp [maxLen], fun hh => by omega⟩
  · exact ⟨_, cap, rfl, hn, hc, fun _ => ⟨g, rfl, rfl, fun j hj => h0.cellAt j hj, fun j => h0.frozenAt j⟩⟩
end Go.Proofs.Ythhgnipiaohplaa.B
