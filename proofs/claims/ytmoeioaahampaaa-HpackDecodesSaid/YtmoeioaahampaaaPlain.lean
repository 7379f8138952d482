/-
  The plain law of the code: bits, octets, and how a row of bits is parted into codes.
-/
import Derived.Test.YtmoeioaahampaaaTab
namespace Go.Proofs.Ytmoeioaahampaaa.Hf

theorem snocInd {α : Type} {motive : List α → Prop} (nil : motive []) (append_singleton : ∀ t b, motive t → motive (t ++ [b])) (t : List α) : motive t := by
  have key : ∀ r : List α, motive r.reverse := by
    intro r
    induction r with
    | nil => simpa using nil
    | cons a r ih => rw [List.reverse_cons]; exact append_singleton _ _ ih
  simpa using key t.reverse

/-! ### Bits -/
def val (t : List Bool) : Nat := t.foldl (fun a b => 2 * a + b.toNat) 0
theorem val_from (t : List Bool) (a : Nat) : t.foldl (fun a b => 2 * a + b.toNat) a = a * 2 ^ t.length + val t := by
  induction t generalizing a with
  | nil => simp [val]
  | cons b t ih =>
    unfold val
    simp only [List.foldl_cons, List.length_cons]
    rw [ih (2 * a + b.toNat), ih (2 * 0 + b.toNat), Nat.pow_succ, Nat.add_mul, Nat.add_mul]
    have : 2 * a * 2 ^ t.length = a * (2 ^ t.length * 2) := by rw [Nat.mul_comm 2 a, Nat.mul_assoc, Nat.mul_comm 2]
    omega
theorem val_append (t u : List Bool) : val (t ++ u) = val t * 2 ^ u.length + val u := by
  unfold val
  rw [List.foldl_append, val_from]
  rfl
theorem val_snoc (t : List Bool) (b : Bool) : val (t ++ [b]) = 2 * val t + b.toNat := by
  rw [val_append]; simp [val]; omega
theorem val_lt (t : List Bool) : val t < 2 ^ t.length := by
  induction t using snocInd with
  | nil => simp [val]
  | append_singleton t b ih =>
    rw [val_snoc, List.length_append, Nat.pow_add]
    cases b <;> simp <;> omega
theorem val_inj : ∀ {t u : List Bool}, t.length = u.length → val t = val u → t = u := by
  intro t
  induction t with
  | nil => intro u h _; exact (List.length_eq_zero_iff.1 h.symm).symm
  | cons a t ih =>
    intro u h hv
    cases u with
    | nil => simp at h
    | cons b u =>
      have hl : t.length = u.length := by simpa using h
      have h1 : val (a :: t) = a.toNat * 2 ^ t.length + val t := by
        have := val_append [a] t; simpa [val] using this
      have h2 : val (b :: u) = b.toNat * 2 ^ t.length + val u := by
        have := val_append [b] u; rw [hl]; simpa [val] using this
      have t1 := val_lt t
      have t2 := val_lt u
      rw [← hl] at t2
      rw [h1, h2] at hv
      have hab : a = b := by
        cases a <;> cases b <;> simp at hv ⊢ <;> omega
      subst hab
      rw [ih hl (by omega)]
def bits (n x : Nat) : List Bool := (List.range n).map fun i => x.testBit (n - 1 - i)
theorem bits_length (n x : Nat) : (bits n x).length = n := by simp [bits]
theorem bits_succ (n x : Nat) : bits (n + 1) x = bits n (x / 2) ++ [x.testBit 0] := by
  unfold bits
  rw [List.range_succ, List.map_append]
  congr 1
  · apply List.map_congr_left
    intro i hi
    have hi := List.mem_range.1 hi
    rw [show n + 1 - 1 - i = (n - 1 - i) + 1 by omega, Nat.testBit_succ]
  · simp
theorem val_bits (n x : Nat) : val (bits n x) = x % 2 ^ n := by
  induction n generalizing x with
  | zero => simp [bits, val, Nat.mod_one]
  | succ n ih =>
    rw [bits_succ, val_snoc, ih, Nat.testBit_zero, Nat.pow_succ]
    have : x % (2 ^ n * 2) = 2 * (x / 2 % 2 ^ n) + x % 2 := by
      rw [Nat.mul_comm (2 ^ n) 2, Nat.mod_mul]; omega
    rw [this]
    rcases Nat.mod_two_eq_zero_or_one x with h | h <;> simp [h]
theorem bits_val (t : List Bool) : bits t.length (val t) = t :=
  val_inj (by simp [bits]) (by rw [val_bits, Nat.mod_eq_of_lt (val_lt t)])

/-! ### Codes -/
def cb (s : Nat) : List Bool := bits (len s) (code s)
theorem cb_length (s : Nat) : (cb s).length = len s := bits_length _ _
theorem val_cb {s : Nat} (h : s < 257) : val (cb s) = code s := by
  unfold cb; rw [val_bits, Nat.mod_eq_of_lt (code_lt h)]
def spell (l : List UInt8) : List Bool := l.flatMap fun c => cb c.toNat
theorem spell_append (a b : List UInt8) : spell (a ++ b) = spell a ++ spell b := by simp [spell]
theorem spell_snoc (a : List UInt8) (c : UInt8) : spell (a ++ [c]) = spell a ++ cb c.toNat := by simp [spell]
/-- 'first' behind n bits without a symbol. -/
def fse (n : Nat) : Nat := fst n + cnt n
theorem fse_zero : fse 0 = 0 := by decide +kernel
theorem fse_fst {n : Nat} (h : n < 30) : fst (n + 1) = 2 * fse n := (fst_succ h).1
/-- The symbol of a row of bits: it is just its code. -/
theorem hit_iff {t : List Bool} (hl : t.length ≤ 30) (hlo : fst t.length ≤ val t) : (val t < fse t.length) ↔ ∃ s, s < 257 ∧ t = cb s := by
  constructor
  · intro h
    unfold fse at h
    have h1 := at_sym (n := t.length) (j := val t - fst t.length) (by omega) (by omega)
    have hk : ats t.length + (val t - fst t.length) < 257 := by have := (fst_bd (n := t.length) (by omega)).2; omega
    refine ⟨_, Nat.lt_succ_of_le (sym_le hk), ?_⟩
    apply val_inj
    · rw [cb_length, h1.1]
    · rw [val_cb (Nat.lt_succ_of_le (sym_le hk)), h1.2]; omega
  · rintro ⟨s, hs, rfl⟩
    rw [cb_length, val_cb hs]
    exact (of_sym hs).2.2.2.1
/-- No code is a beginning of it. -/
def Free (t : List Bool) : Prop := ∀ s, s < 257 → ¬ cb s <+: t
theorem Free.mono {t u : List Bool} (h : Free u) (hp : t <+: u) : Free t := fun s hs hc => h s hs (hc.trans hp)
theorem free_nil : Free [] := fun s hs h => by
  have h1 := List.prefix_nil.1 h
  have h2 := cb_length s
  rw [h1] at h2
  have := (of_sym hs).1
  simp at h2; omega
/-- Bits without a symbol lie above all codes of their length. -/
theorem free_ge : ∀ {t : List Bool}, Free t → t.length ≤ 29 ∧ fse t.length ≤ val t := by
  intro t
  induction t using snocInd with
  | nil => intro _; exact ⟨by simp, by rw [List.length_nil, fse_zero]; exact Nat.zero_le _⟩
  | append_singleton t b ih =>
    intro h
    obtain ⟨h1, h2⟩ := ih (h.mono (List.prefix_append _ _))
    have hl : (t ++ [b]).length = t.length + 1 := by simp
    have hv := val_snoc t b
    have hf := fse_fst (n := t.length) (by omega)
    have hlo : fst (t ++ [b]).length ≤ val (t ++ [b]) := by rw [hl, hv, hf]; omega
    have hnot : ¬ val (t ++ [b]) < fse (t ++ [b]).length := fun hc => by
      obtain ⟨s, hs, he⟩ := (hit_iff (by rw [hl]; omega) hlo).1 hc
      exact h s hs (he ▸ List.prefix_refl _)
    refine ⟨?_, by omega⟩
    by_cases h30 : t.length + 1 = 30
    · have hb := val_lt (t ++ [b])
      have he : fse 30 = 2 ^ 30 := fst_end.1
      rw [hl, h30] at hb hnot
      omega
    · omega
/-- What stands ahead of the whole code has no symbol. -/
theorem free_init {s : Nat} (hs : s < 257) {t u : List Bool} (h : cb s = t ++ u) (hu : u ≠ []) : Free t := by
  -- by the order of the codes: a shorter code that begins it would leave no room for it
  intro a ha hp
  obtain ⟨v, hv⟩ := hp
  have hval : val (cb s) = code a * 2 ^ (v.length + u.length) + val (v ++ u) := by
    rw [h, ← hv, List.append_assoc, val_append, val_cb ha, List.length_append]
  have hlen : len s = len a + (v.length + u.length) := by
    have := congrArg List.length h
    rw [cb_length, ← hv] at this
    simp [cb_length] at this; omega
  have hb := val_lt (v ++ u)
  rw [List.length_append] at hb
  have hup : ∀ k, len a + k ≤ 30 → 1 ≤ k → (code a + 1) * 2 ^ k ≤ fst (len a + k) := by
    intro k
    induction k with
    | zero => intro _ h; omega
    | succ k ih =>
      intro hk _
      have hf := fse_fst (n := len a + k) (by omega)
      rw [show len a + (k + 1) = (len a + k) + 1 by omega, hf, Nat.pow_succ]
      have hfe : fst (len a + k) ≤ fse (len a + k) := by unfold fse; omega
      by_cases h0 : k = 0
      · subst h0
        have := (of_sym ha).2.2.2.1
        simp only [Nat.pow_zero, Nat.add_zero] at *
        unfold fse; omega
      · have := ih (by omega) (by omega)
        have e : (code a + 1) * (2 ^ k * 2) = 2 * ((code a + 1) * 2 ^ k) := by rw [← Nat.mul_assoc]; omega
        omega
  have hu1 : 1 ≤ u.length := by
    cases u with
    | nil => exact absurd rfl hu
    | cons _ _ => simp
  have hk := hup (v.length + u.length) (by have := (of_sym hs).2.1; omega) (by omega)
  have h1 := (of_sym hs).2.2.1
  rw [← hlen] at hk
  rw [val_cb hs] at hval
  rw [Nat.add_mul, Nat.one_mul] at hk
  omega
/-- No code begins another one. -/
theorem cb_inj {a b : Nat} (ha : a < 257) (hb : b < 257) {t u : List Bool} (h : cb a ++ t = cb b ++ u) : a = b ∧ t = u := by
  have key : ∀ {a b : Nat}, a < 257 → b < 257 → ∀ {t u : List Bool}, cb a ++ t = cb b ++ u → ¬ (cb a).length < (cb b).length := by
    intro a b ha hb t u h hl
    have hp : cb a <+: cb b := by
      have h1 : cb a <+: cb b ++ u := h ▸ List.prefix_append _ _
      exact List.prefix_of_prefix_length_le h1 (List.prefix_append _ _) (by omega)
    obtain ⟨v, hv⟩ := hp
    have hvn : v ≠ [] := fun hc => by rw [hc] at hv; simp at hv; rw [hv] at hl; omega
    exact free_init hb hv.symm hvn a ha (List.prefix_refl _)
  have hl : (cb a).length = (cb b).length := by have := key ha hb h; have := key hb ha h.symm; omega
  obtain ⟨h1, h2⟩ := List.append_inj h hl
  refine ⟨?_, h2⟩
  apply sym_inj ha hb
  · rw [← cb_length, ← cb_length, hl]
  · rw [← val_cb ha, ← val_cb hb, h1]
/-- Bits begin with a code, or with none. -/
theorem part (t : List Bool) : Free t ∨ ∃ s r, s < 257 ∧ t = cb s ++ r := by
  by_cases h : ∃ s, s < 257 ∧ cb s <+: t
  · obtain ⟨s, hs, r, hr⟩ := h
    exact Or.inr ⟨s, r, hs, hr.symm⟩
  · exact Or.inl (fun s hs hc => h ⟨s, hs, hc⟩)
theorem not_free {s : Nat} (hs : s < 257) (r : List Bool) : ¬ Free (cb s ++ r) := fun h => h s hs (List.prefix_append _ _)
theorem spell_inj : ∀ {a b : List UInt8}, spell a = spell b → a = b := by
  intro a
  induction a with
  | nil =>
    intro b h
    cases b with
    | nil => rfl
    | cons c b =>
      exfalso
      have := congrArg List.length h
      simp [spell, cb_length] at this
      have h5 := (of_sym (s := c.toNat) (by have := c.toNat_lt; omega)).1
      omega
  | cons d a ih =>
    intro b h
    cases b with
    | nil =>
      exfalso
      have := congrArg List.length h
      simp [spell, cb_length] at this
      have h5 := (of_sym (s := d.toNat) (by have := d.toNat_lt; omega)).1
      omega
    | cons c b =>
      have h' : cb d.toNat ++ spell a = cb c.toNat ++ spell b := by simpa [spell] using h
      obtain ⟨h1, h2⟩ := cb_inj (by have := d.toNat_lt; omega) (by have := c.toNat_lt; omega) h'
      rw [ih h2, UInt8.toNat_inj.1 h1]

/-! ### Ones -/
theorem val_ones (k : Nat) : val (List.replicate k true) = 2 ^ k - 1 := by
  induction k with
  | zero => rfl
  | succ k ih =>
    rw [List.replicate_succ', val_snoc, ih, Nat.pow_succ]
    have := Nat.pow_pos (n := k) (show 0 < 2 by omega)
    simp; omega
theorem free_ones {k : Nat} (h : k < 30) : Free (List.replicate k true) := by
  intro s hs ⟨u, hu⟩
  have hl : len s ≤ k := by have := congrArg List.length hu; simp [cb_length] at this; omega
  have hc : cb s = List.replicate (len s) true := by
    have h1 : cb s <+: List.replicate k true := ⟨u, hu⟩
    rw [List.prefix_iff_eq_take] at h1
    rw [h1, List.take_replicate, cb_length]
    congr 1; omega
  have hv : code s = 2 ^ len s - 1 := by rw [← val_cb hs, hc, val_ones]
  have h6 := ones_code hs hv
  subst h6
  rw [len_eos] at hl
  omega

/-! ### Decoding, as the program goes: bit by bit -/
structure St where
  out : List UInt8
  code : Nat
  len : Nat
  ones : Bool
inductive Res where
  | go (st : St)
  | fail (e : Nat)
def dstep (most : Int) (st : St) (b : Bool) : Res :=
  if 2 * st.code + b.toNat < fse (st.len + 1) then
    (let s := sym (ats (st.len + 1) + (2 * st.code + b.toNat - fst (st.len + 1)))
     if s = 256 then .fail 3 else if most ≤ (st.out.length : Int) then .fail 4 else .go ⟨st.out ++ [UInt8.ofNat s], 0, 0, true⟩)
  else .go ⟨st.out, 2 * st.code + b.toNat, st.len + 1, st.ones && b⟩
def drun (most : Int) : St → List Bool → Res
  | st, [] => .go st
  | st, b :: t => match dstep most st b with
    | .fail e => .fail e
    | .go st' => drun most st' t
def fin : Res → List UInt8 × Nat
  | .fail e => ([], e)
  | .go st => if 8 ≤ st.len ∨ st.ones = false then ([], 3) else (st.out, 0)
def st0 (out : List UInt8) : St := ⟨out, 0, 0, true⟩
def dec (most : Int) (t : List Bool) : List UInt8 × Nat := fin (drun most (st0 []) t)
/-- What is held between two bits. -/
structure St.Inv (st : St) : Prop where
  l : st.len ≤ 29
  lo : fse st.len ≤ st.code
  hi : st.code < 2 ^ st.len
theorem St.Inv.zero (out : List UInt8) : (st0 out).Inv := ⟨by simp [st0], by show fse 0 ≤ 0; rw [fse_zero]; omega, by simp [st0]⟩
theorem two_pow_le {n : Nat} (h : n ≤ 30) : 2 ^ n ≤ 1073741824 := Nat.le_trans (Nat.pow_le_pow_right (by omega) h) (by decide)
/-- A step's numbers, as the program has them. -/
theorem St.Inv.nums {st : St} (h : st.Inv) (b : Bool) : st.len + 1 ≤ 30 ∧ fst (st.len + 1) = 2 * fse st.len ∧ fst (st.len + 1) ≤ 2 * st.code + b.toNat ∧ 2 * st.code + b.toNat < 2 ^ (st.len + 1) := by
  obtain ⟨h1, h2, h3⟩ := h
  have hf := fse_fst (n := st.len) (by omega)
  refine ⟨by omega, hf, by omega, ?_⟩
  rw [Nat.pow_succ]
  cases b <;> simp <;> omega
theorem St.Inv.step {st st' : St} (h : st.Inv) {most : Int} {b : Bool} (hs : dstep most st b = .go st') : st'.Inv := by
  obtain ⟨h1, h2, h3, h4⟩ := h.nums b
  unfold dstep at hs
  split at hs
  · simp only at hs
    split at hs
    · cases hs
    · split at hs
      · cases hs
      · injection hs with hs; subst hs; exact St.Inv.zero _
  · rename_i hn
    injection hs with hs; subst hs
    refine ⟨?_, by simp only; omega, h4⟩
    by_cases h30 : st.len + 1 = 30
    · have he : fse 30 = 2 ^ 30 := fst_end.1
      rw [h30] at hn h4
      omega
    · simp only; omega
theorem drun_append (most : Int) (st : St) (t u : List Bool) : drun most st (t ++ u) = match drun most st t with
    | .fail e => .fail e
    | .go st' => drun most st' u := by
  induction t generalizing st with
  | nil => rfl
  | cons b t ih =>
    simp only [List.cons_append, drun]
    cases dstep most st b with
    | fail e => rfl
    | go st' => exact ih st'
/-- Bits without a symbol are held. -/
theorem drun_free (most : Int) (out : List UInt8) {t : List Bool} (h : Free t) : drun most (st0 out) t = .go ⟨out, val t, t.length, t.all id⟩ := by
  induction t using snocInd with
  | nil => rfl
  | append_singleton t b ih =>
    have hf := h.mono (List.prefix_append t [b])
    obtain ⟨h1, h2⟩ := free_ge hf
    obtain ⟨h3, h4⟩ := free_ge h
    rw [drun_append, ih hf]
    rw [val_snoc, List.length_append, List.length_singleton] at h4
    simp only [drun, dstep]
    rw [if_neg (by omega)]
    simp [val_snoc, List.all_append]
theorem drun_hit (most : Int) (out : List UInt8) {s : Nat} (hs : s < 257) (r : List Bool) : drun most (st0 out) (cb s ++ r) =
    if s = 256 then .fail 3 else if most ≤ (out.length : Int) then .fail 4 else drun most (st0 (out ++ [UInt8.ofNat s])) r := by
  have h5 := of_sym hs
  have hne : cb s ≠ [] := fun hc => by have := cb_length s; rw [hc] at this; simp at this; omega
  obtain ⟨t, b, htb⟩ : ∃ t b, cb s = t ++ [b] := ⟨(cb s).dropLast, (cb s).getLast hne, (List.dropLast_concat_getLast hne).symm⟩
  have hf : Free t := free_init hs htb (by simp)
  have hlen : t.length + 1 = len s := by have := cb_length s; rw [htb] at this; simpa using this
  have hval : 2 * val t + b.toNat = code s := by rw [← val_snoc, ← htb, val_cb hs]
  rw [htb, List.append_assoc, drun_append, drun_free most out hf]
  simp only [List.singleton_append, drun, dstep]
  rw [hlen, hval, if_pos (show code s < fse (len s) from h5.2.2.2.1), h5.2.2.2.2]
  by_cases h1 : s = 256
  · simp [h1]
  · rw [if_neg h1, if_neg h1]
    by_cases h2 : most ≤ (out.length : Int)
    · rw [if_pos h2, if_pos h2]
    · rw [if_neg h2, if_neg h2]; rfl
theorem drun_spell (most : Int) (out l : List UInt8) (r : List Bool) (hm : ((out ++ l).length : Int) ≤ most) : drun most (st0 out) (spell l ++ r) = drun most (st0 (out ++ l)) r := by
  induction l generalizing out with
  | nil => simp [spell]
  | cons c l ih =>
    have hc : c.toNat < 256 := c.toNat_lt
    have : spell (c :: l) ++ r = cb c.toNat ++ (spell l ++ r) := by simp [spell]
    rw [this, drun_hit most out (by omega), if_neg (by omega), if_neg (by simp at hm; omega), ih (out ++ [UInt8.ofNat c.toNat]) (by simpa using hm)]
    simp
theorem fin_free (most : Int) (out : List UInt8) {t : List Bool} (h : Free t) : fin (drun most (st0 out) t) = if 8 ≤ t.length ∨ t.all id = false then ([], 3) else (out, 0) := by
  rw [drun_free most out h]; rfl
/-- What is decoded was spelt so. -/
theorem drun_back (most : Int) : ∀ (n : Nat) (t : List Bool) (out : List UInt8) (x : List UInt8), t.length ≤ n → fin (drun most (st0 out) t) = (x, 0) → ∃ l r, x = out ++ l ∧ t = spell l ++ r ∧ Free r ∧ r.length < 8 ∧ r.all id = true := by
  intro n
  induction n with
  | zero =>
    intro t out x hn h
    have ht : t = [] := List.length_eq_zero_iff.1 (by omega)
    subst ht
    refine ⟨[], [], ?_, by simp [spell], free_nil, by simp, rfl⟩
    have : fin (drun most (st0 out) []) = (out, 0) := by simp [drun, fin, st0]
    rw [this] at h
    simpa using (congrArg Prod.fst h).symm
  | succ n ih =>
    intro t out x hn h
    rcases part t with hf | ⟨s, r, hs, rfl⟩
    · rw [fin_free most out hf] at h
      split at h
      · simp at h
      · rename_i hc
        refine ⟨[], t, by simpa using (congrArg Prod.fst h).symm, by simp [spell], hf, by omega, ?_⟩
        cases hh : t.all id
        · exact absurd (Or.inr hh) hc
        · rfl
    · rw [drun_hit most out hs] at h
      split at h
      · simp [fin] at h
      · split at h
        · simp [fin] at h
        · rename_i h6 _
          have h5 := (of_sym hs).1
          obtain ⟨l, r', h1, h2, h3⟩ := ih r _ x (by simp [cb_length] at hn; omega) h
          refine ⟨UInt8.ofNat s :: l, r', by simpa using h1, ?_, h3⟩
          have hsn : (UInt8.ofNat s).toNat = s := by simp; omega
          rw [h2]; simp [spell, hsn]
theorem spell_len (l : List UInt8) : 5 * l.length ≤ (spell l).length := by
  induction l with
  | nil => simp
  | cons c l ih =>
    have h5 := (of_sym (s := c.toNat) (by have := c.toNat_lt; omega)).1
    simp [spell, cb_length] at ih ⊢
    omega
/-- It is too long, or a form that is none. -/
theorem drun_err (most : Int) : ∀ (n : Nat) (t : List Bool) (out : List UInt8), t.length ≤ n → (out.length + t.length : Int) < most →
    (fin (drun most (st0 out) t)).2 = 0 ∨ fin (drun most (st0 out) t) = ([], 3) := by
  intro n
  induction n with
  | zero =>
    intro t out hn _
    have ht : t = [] := List.length_eq_zero_iff.1 (by omega)
    subst ht
    exact Or.inl (by simp [drun, fin, st0])
  | succ n ih =>
    intro t out hn hm
    rcases part t with hf | ⟨s, r, hs, rfl⟩
    · rw [fin_free most out hf]
      split
      · exact Or.inr rfl
      · exact Or.inl rfl
    · have h5 := (of_sym hs).1
      rw [drun_hit most out hs]
      simp only [List.length_append, cb_length] at hn hm
      split
      · exact Or.inr rfl
      · rw [if_neg (by omega)]
        exact ih r _ (by omega) (by simp; omega)
theorem dec_spell (most : Int) (l : List UInt8) (k : Nat) (hk : k < 8) (hm : (l.length : Int) ≤ most) : dec most (spell l ++ List.replicate k true) = (l, 0) := by
  unfold dec
  rw [drun_spell most [] l _ (by simpa using hm), List.nil_append, fin_free most l (free_ones (by omega))]
  rw [if_neg (by simp; omega)]
theorem dec_short (most : Int) (l : List UInt8) (r : List Bool) (hl : most < (l.length : Int)) : (0 ≤ most) → dec most (spell l ++ r) = ([], 4) := by
  intro h0
  unfold dec
  obtain ⟨a, c, b, hl2, ha⟩ : ∃ a c b, l = a ++ c :: b ∧ (a.length : Int) = most := by
    refine ⟨l.take most.toNat, l[most.toNat]'(by omega), l.drop (most.toNat + 1), ?_, ?_⟩
    · rw [← List.drop_eq_getElem_cons, List.take_append_drop]
    · rw [List.length_take]; omega
  have : spell l ++ r = spell a ++ (cb c.toNat ++ (spell b ++ r)) := by rw [hl2]; simp [spell]
  have hc : c.toNat < 256 := c.toNat_lt
  rw [this, drun_spell most [] a _ (by simp; omega), List.nil_append, drun_hit most a (by omega), if_neg (by omega), if_pos (by omega)]
  rfl

/-! ### Octets -/
def oct (t : List Bool) : UInt8 := UInt8.ofNat (val (t.take 8))
def chunks : Nat → List Bool → List UInt8
  | 0, _ => []
  | n + 1, t => oct t :: chunks n (t.drop 8)
theorem chunks_length (n : Nat) (t : List Bool) : (chunks n t).length = n := by
  induction n generalizing t with
  | zero => rfl
  | succ n ih => simp [chunks, ih]
theorem chunks_succ (n : Nat) (t : List Bool) : chunks (n + 1) t = chunks n t ++ [oct (t.drop (8 * n))] := by
  induction n generalizing t with
  | zero => simp [chunks]
  | succ n ih =>
    rw [chunks, ih (t.drop 8), chunks]
    simp [List.drop_drop, Nat.mul_succ, Nat.add_comm]
theorem chunks_append (n : Nat) (t u : List Bool) (h : 8 * n ≤ t.length) : chunks n (t ++ u) = chunks n t := by
  induction n generalizing t with
  | zero => rfl
  | succ n ih =>
    have h8 : 8 ≤ t.length := by omega
    have e1 : (t ++ u).take 8 = t.take 8 := List.take_append_of_le_length h8
    have e2 : (t ++ u).drop 8 = t.drop 8 ++ u := List.drop_append_of_le_length h8
    rw [chunks, chunks, oct, oct, e1, e2, ih (t.drop 8) (by simp; omega)]
def bitsOf (l : List UInt8) : List Bool := l.flatMap fun c => bits 8 c.toNat
theorem bitsOf_length (l : List UInt8) : (bitsOf l).length = 8 * l.length := by
  induction l with
  | nil => rfl
  | cons c l ih => simp [bitsOf, bits_length] at ih ⊢; omega
theorem bitsOf_append (a b : List UInt8) : bitsOf (a ++ b) = bitsOf a ++ bitsOf b := by simp [bitsOf]
theorem bits_oct (t : List Bool) (h : 8 ≤ t.length) : bits 8 (oct t).toNat = t.take 8 := by
  have hl : (t.take 8).length = 8 := by rw [List.length_take]; omega
  have hv := val_lt (t.take 8)
  rw [hl] at hv
  have hn : (oct t).toNat = val (t.take 8) := by unfold oct; simp; omega
  rw [hn]
  have := bits_val (t.take 8)
  rwa [hl] at this
theorem bitsOf_chunks (n : Nat) (t : List Bool) (h : 8 * n ≤ t.length) : bitsOf (chunks n t) = t.take (8 * n) := by
  induction n generalizing t with
  | zero => simp [chunks, bitsOf]
  | succ n ih =>
    have h1 : bitsOf (chunks (n + 1) t) = bits 8 (oct t).toNat ++ bitsOf (chunks n (t.drop 8)) := by simp [bitsOf, chunks]
    rw [h1, bits_oct t (by omega), ih (t.drop 8) (by simp; omega), show 8 * (n + 1) = 8 + 8 * n by omega, List.take_add]
theorem chunks_bitsOf (l : List UInt8) : chunks l.length (bitsOf l) = l := by
  induction l with
  | nil => rfl
  | cons c l ih =>
    have h1 : bitsOf (c :: l) = bits 8 c.toNat ++ bitsOf l := by simp [bitsOf]
    rw [List.length_cons, chunks, h1]
    have e1 : (bits 8 c.toNat ++ bitsOf l).take 8 = bits 8 c.toNat := by
      rw [List.take_append_of_le_length (by rw [bits_length]; omega), List.take_of_length_le (by rw [bits_length]; omega)]
    have e2 : (bits 8 c.toNat ++ bitsOf l).drop 8 = bitsOf l := by
      rw [List.drop_append_of_le_length (by rw [bits_length]; omega), List.drop_of_length_le (by rw [bits_length]; omega), List.nil_append]
    rw [oct, e1, e2, ih, val_bits]
    congr 1
    apply UInt8.toNat_inj.1
    have := c.toNat_lt
    simp
def ones7 : List Bool := List.replicate 7 true
def need (l : List UInt8) : Nat := ((spell l).length + 7) / 8
def enc (l : List UInt8) : List UInt8 := chunks (need l) (spell l ++ ones7)
theorem enc_length (l : List UInt8) : (enc l).length = need l := chunks_length _ _
theorem enc_bits (l : List UInt8) : bitsOf (enc l) = spell l ++ List.replicate (8 * need l - (spell l).length) true := by
  unfold enc
  have h1 : (spell l).length ≤ 8 * need l := by unfold need; omega
  have h2 : 8 * need l ≤ (spell l).length + 7 := by unfold need; omega
  rw [bitsOf_chunks _ _ (by simp [ones7]; omega), List.take_append, List.take_of_length_le h1, ones7, List.take_replicate]
  congr 2
  omega
end Go.Proofs.Ytmoeioaahampaaa.Hf
