/-
  The document's decoder: what it reads is what the decoder reads (plain); its walk.
-/
import Derived.Test.YtmoeioaahampaaaHdM
import Derived.Test.YtmoeioaahampaaaRTab2
import Derived.Test.YtmoeioaahampaaaArgO
import Derived.Deep.RegionHeldLaw
import Derived.Test.YtmoeioaahampaaaRefA
namespace Go.Proofs.Ytmoeioaahampaaa.Tb.Hp
open Go.ChangeShapes Go.WideShapes Go.ChangeAt Go.RowKit
open Go.Proofs.Ytmoeioaahampaaa.B Go.Proofs.Ytmoeioaahampaaa.Hi Go.Proofs.Ytmoeioaahampaaa.Tb
open Go.Proofs.Ytmoeioaahampaaa.Hf (bx need enc dec bitsOf)
set_option linter.unusedVariables false
set_option linter.unusedSimpArgs false

/-! ### What the document reads -/
def rVal (nm : ByteArray) (k : Nat) (l : List UInt8) : Fd × Nat × Bool :=
  if (getT (l.drop k)).2.2 ≠ 0 then (Fd.no, 0, false) else (⟨nm, ⟨(getT (l.drop k)).1.toArray⟩, false⟩, k + (getT (l.drop k)).2.1, true)
def rLit (P : Nat) (es : List Fd) (l : List UInt8) : Fd × Nat × Bool :=
  if (getI l P).2.2 ≠ 0 then (Fd.no, 0, false)
  else if 0 < (getI l P).1 then (if (atR es (getI l P).1).2 = true then rVal (atR es (getI l P).1).1.n (getI l P).2.1 l else (Fd.no, 0, false))
  else if (getT (l.drop (getI l P).2.1)).2.2 ≠ 0 then (Fd.no, 0, false)
  else rVal ⟨(getT (l.drop (getI l P).2.1)).1.toArray⟩ ((getI l P).2.1 + (getT (l.drop (getI l P).2.1)).2.1) l
def rOne (m : Nat) (es : List Fd) (l : List UInt8) : Fd × Nat × Bool × List Fd :=
  if 128 ≤ (l.headD 0).toNat then ((atR es (getI l 7).1).1, (getI l 7).2.1, decide ((getI l 7).2.2 = 0) && (atR es (getI l 7).1).2, es)
  else if 64 ≤ (l.headD 0).toNat then ((rLit 6 es l).1, (rLit 6 es l).2.1, (rLit 6 es l).2.2, if (rLit 6 es l).2.2 = true then addS (rLit 6 es l).1 m es else es)
  else if 32 ≤ (l.headD 0).toNat then (Fd.no, 0, false, es)
  else (⟨(rLit 4 es l).1.n, (rLit 4 es l).1.v, decide (16 ≤ (l.headD 0).toNat)⟩, (rLit 4 es l).2.1, (rLit 4 es l).2.2, es)
theorem rLit_lit (P : Nat) (nv : Bool) (m : Nat) (es : List Fd) (l : List UInt8) :
    (litR P nv m es l).2.2.1 = !(rLit P es l).2.2 ∧ ((rLit P es l).2.2 = true → (litR P nv m es l).1 = ⟨(rLit P es l).1.n, (rLit P es l).1.v, nv⟩ ∧ (litR P nv m es l).2.1 = l.drop (rLit P es l).2.1 ∧ (rLit P es l).1.nv = false ∧
      (litR P nv m es l).2.2.2 = if P = 6 then addS ⟨(rLit P es l).1.n, (rLit P es l).1.v, nv⟩ m es else es) := by
  unfold litR rLit rVal nameR textR
  generalize getI l P = G
  obtain ⟨V, n, E⟩ := G
  simp only
  by_cases hE : E = 0
  · subst hE
    by_cases hV : V = 0
    · subst hV
      simp only [Nat.lt_irrefl, ne_eq, not_true_eq_false, decide_false, if_false, Bool.false_eq_true, if_true]
      obtain ⟨T, hT⟩ : ∃ T, T = getT (l.drop n) := ⟨_, rfl⟩
      rw [← hT]
      obtain ⟨t, mm, g⟩ := T
      simp only
      by_cases hg : g = 0
      · subst hg
        simp only [not_true_eq_false, decide_false, if_false, Bool.false_eq_true, List.drop_drop]
        obtain ⟨T2, hT2⟩ : ∃ T2, T2 = getT (l.drop (n + mm)) := ⟨_, rfl⟩
        rw [← hT2]
        obtain ⟨t2, m2, g2⟩ := T2
        simp only
        by_cases hg2 : g2 = 0
        · subst hg2; simp [Nat.add_assoc]
        · simp [hg2]
      · simp [hg]
    · have hV2 : 0 < V := by omega
      simp only [ne_eq, not_true_eq_false, decide_false, if_false, hV, hV2, if_true, Bool.false_or]
      cases hA : (atR es (V : Int)).2 with
      | true =>
        simp only [Bool.not_true, Bool.false_eq_true, if_false, if_true]
        obtain ⟨T2, hT2⟩ : ∃ T2, T2 = getT (l.drop n) := ⟨_, rfl⟩
        rw [← hT2]
        obtain ⟨t2, m2, g2⟩ := T2
        simp only
        by_cases hg2 : g2 = 0
        · subst hg2; simp
        · simp [hg2]
      | false => simp
  · by_cases hV : V = 0
    · subst hV; simp [hE]
    · simp [hE, hV]
theorem rOne_field {m : Nat} {es : List Fd} {l : List UInt8} : (fieldR m es l).2.2.1 = !(rOne m es l).2.2.1 ∧ ((rOne m es l).2.2.1 = true → (fieldR m es l).1 = (rOne m es l).1 ∧ (fieldR m es l).2.1 = l.drop (rOne m es l).2.1 ∧ (fieldR m es l).2.2.2 = (rOne m es l).2.2.2) := by
  obtain ⟨c, hc⟩ : ∃ c : Nat, c = (l.headD 0).toNat := ⟨_, rfl⟩
  have hc6 : c < 256 := by rw [hc]; exact (l.headD 0).toNat_lt
  unfold fieldR rOne
  rw [← hc]
  by_cases h1 : 128 ≤ c
  · rw [if_pos h1, if_pos h1]
    simp only
    refine ⟨?_, fun _ => ⟨trivial, trivial, trivial⟩⟩
    cases hA : (atR es ((getI l 7).1 : Int)).2 <;> by_cases hE : (getI l 7).2.2 = 0 <;> simp [hE]
  · rw [if_neg h1, if_neg h1]
    by_cases h2 : 64 ≤ c
    · rw [if_neg (by omega), if_pos h2, if_pos h2]
      obtain ⟨k1, k2⟩ := rLit_lit 6 false m es l
      refine ⟨k1, fun h => ?_⟩
      have h : (rLit 6 es l).2.2 = true := h
      obtain ⟨k3, k4, k5, k6⟩ := k2 h
      have e : (rLit 6 es l).1 = ⟨(rLit 6 es l).1.n, (rLit 6 es l).1.v, false⟩ := by
        generalize (rLit 6 es l).1 = X at k5 ⊢
        obtain ⟨a, b, d⟩ := X
        simp only at k5; subst k5; rfl
      refine ⟨by rw [k3]; exact e.symm, k4, ?_⟩
      rw [k6, if_pos rfl]
      try simp only
      rw [if_pos h, ← e]
    · by_cases h3 : 32 ≤ c
      · rw [if_pos (by omega), if_neg h2, if_pos h3]
        simp
      · rw [if_neg (by omega), if_neg h2, if_neg h2, if_neg h3]
        obtain ⟨k1, k2⟩ := rLit_lit 4 (decide (c / 16 = 1)) m es l
        refine ⟨k1, fun h => ?_⟩
        have h : (rLit 4 es l).2.2 = true := h
        obtain ⟨k3, k4, k5, k6⟩ := k2 h
        have e : decide (c / 16 = 1) = decide (16 ≤ c) := decide_eq_decide.2 (by omega)
        refine ⟨by rw [k3, e], k4, ?_⟩
        rw [k6, if_neg (by decide)]
/-! ### The decoder in memory -/
abbrev NO : Obj := .cells #[.string ⟨#[]⟩, .string ⟨#[]⟩, .bool false] 44 (0, 0)
def footD (q t : Nat) (sv : Value) : List Nat := q :: foot t sv
structure RD (W w : World) (q t : Nat) (sv : Value) (m : Nat) (es : List Fd) (limit : Nat) (list : Int) (broken : Bool) : Prop where
  head : At w q (.cells #[.pointer (some ⟨t, 0, none⟩), .int .i64 limit, .int .i64 list, .bool broken] 61 (0, 0))
  tab : RT w W.heap.size t sv m es.reverse
  lo : W.heap.size ≤ q
  inv : Inv m es
  qt : q ∉ foot t sv
  b1 : limit ≤ 65536
section
variable {W w w' : World} {q t : Nat} {sv : Value} {m : Nat} {es : List Fd} {limit : Nat} {list : Int} {broken : Bool}
theorem RD.chg {ls : List Nat} (h : RD W w q t sv m es limit list broken) (hc : Chg ls w w') (hd : ∀ x ∈ footD q t sv, x ∉ ls) : RD W w' q t sv m es limit list broken :=
  ⟨h.head.chg hc (hd q (by simp [footD])), h.tab.chg hc (fun x hx => hd x (by simp [footD, hx])), h.lo, h.inv, h.qt, h.b1⟩
theorem RD.chg0 (h : RD W w q t sv m es limit list broken) (hc : Chg [] w w') : RD W w' q t sv m es limit list broken := h.chg hc (fun _ _ => by simp)
theorem RD.los (h : RD W w q t sv m es limit list broken) : ∀ x ∈ footD q t sv, W.heap.size ≤ x := fun x hx => by
  unfold footD at hx
  rcases List.mem_cons.1 hx with rfl | hx
  · exact h.lo
  · exact h.tab.foot_lo x hx
theorem RD.lt (h : RD W w q t sv m es limit list broken) : ∀ x ∈ footD q t sv, x < w.heap.size := fun x hx => by
  unfold footD at hx
  rcases List.mem_cons.1 hx with rfl | hx
  · exact h.head.lt
  · exact h.tab.foot_lt x hx
/-- The table is another one. -/
theorem RD.table {sv' : Value} {m' : Nat} {es' : List Fd} (h : RD W w q t sv m es limit list broken) (hc : Chg [t] w w') (ht : RT w' W.heap.size t sv' m' es'.reverse) (hi : Inv m' es') (hs : ∀ g ∈ sv'.ownBlock.toList, g ∈ sv.ownBlock.toList ∨ w.heap.size ≤ g) :
    RD W w' q t sv' m' es' limit list broken ∧ ∀ x ∈ footD q t sv', x ∈ footD q t sv ∨ w.heap.size ≤ x := by
  have hq : q ∉ [t] := fun hx => h.qt (by simp at hx; subst hx; simp [foot])
  have hfx : ∀ x, x ∈ foot t sv' → x ∈ foot t sv ∨ w.heap.size ≤ x := fun x hx => by
    rcases List.mem_cons.1 hx with rfl | hx
    · exact Or.inl (by simp [foot])
    · exact (hs x hx).imp (fun h => List.mem_cons_of_mem _ h) id
  refine ⟨⟨h.head.chg hc hq, ht, h.lo, hi, ?_, h.b1⟩, ?_⟩
  · intro hx
    rcases hfx q hx with h1 | h1
    · exact h.qt h1
    · have := h.head.lt; omega
  · intro x hx
    rcases List.mem_cons.1 hx with rfl | hx
    · exact Or.inl (by simp [footD])
    · exact (hfx x hx).imp (fun h => List.mem_cons_of_mem _ h) id
end
set_option maxRecDepth 100000 in
set_option maxHeartbeats 4000000 in
theorem rdfit_any (n : Int) (w : World) : Calls Try.prog 49 #[.int .i64 n] w fun e w' => e = .returned (.int .i64 (hgt n : Nat)) ∧ Chg [] w w' := by
  go_enter Try.func49, Try.ntmps49
  go_wp2_with fail
  refine (rnew_any n w.heap.size w (Nat.le_refl _)).mono ?_; rintro e w1 ⟨rfl, c1, sv, h1, _⟩
  have x0 : World.cell? w1 ⟨w.heap.size, 1, none⟩ = some (.int .i64 (hgt n : Nat)) := h1.head.cell rfl
  go_wp2_with fail
  go_ret
  exact ⟨rfl, c1⟩
set_option maxRecDepth 100000 in
set_option maxHeartbeats 4000000 in
theorem rdnew_any {W : World} (n list : Int) (w : World) (hb : W.heap.size ≤ w.heap.size) :
    Calls Try.prog 24 #[.int .i64 n, .int .i64 list] w fun e w' => ∃ q t sv, e = .returned (.pointer (some ⟨q, 0, none⟩)) ∧ RD W w' q t sv (hgt n) [] (hgt n) list false ∧ Chg [] w w' ∧ ∀ x ∈ footD q t sv, w.heap.size ≤ x := by
  go_enter Try.func24, Try.ntmps24
  go_wp2_with fail
  refine (rnew_any n W.heap.size w hb).mono ?_; rintro e w1 ⟨rfl, c1, sv, h1, ho⟩
  have hlt := h1.head.lt
  have hh := hgt_le n
  have H1 := Lib.hid h1; have HO := Lib.hid ho; have HC := Lib.hid c1
  clear h1 ho c1
  go_wp2_with fail
  refine (rdfit_any n w1).mono ?_; rintro e w2 ⟨rfl, c2⟩
  have H2 := Lib.hid (H1.out.chg0 c2); have HC2 := Lib.hid (HC.out.trans' c2)
  have hs2 := c2.size
  clear c2 H1 HC
  obtain ⟨N, hN⟩ : ∃ N, N = hgt n := ⟨_, rfl⟩
  rw [← hN] at hh ⊢
  have HN := Lib.hid hN
  clear hN
  go_wp2_with fail
  go_ret
  have hf : foot w.heap.size sv = [w.heap.size] := by unfold foot; rw [HO.out]; rfl
  rw [← HN.out]
  refine ⟨w2.heap.size, w.heap.size, sv, rfl, ⟨At.new w2 _, by rw [HN.out]; exact H2.out.chg0 ((Chg.refl _).alloc _), by omega, Inv.nil hh, by rw [hf]; simp; omega, hh⟩, HC2.out.alloc _, ?_⟩
  intro x hx
  unfold footD at hx
  rw [hf] at hx
  simp at hx
  omega
section
variable {W w : World} {q t : Nat} {sv : Value} {m : Nat} {es : List Fd} {limit : Nat} {list : Int} {broken : Bool}
set_option maxRecDepth 100000 in
set_option maxHeartbeats 4000000 in
theorem rdsetmax_any (h : RD W w q t sv m es limit list broken) (n : Int) :
    Calls Try.prog 25 #[.pointer (some ⟨q, 0, none⟩), .int .i64 n] w fun e w' => e = .returned (.tuple #[]) ∧ RD W w' q t sv m es (hgt n) list broken ∧ Chg [q] w w' := by
  have hh := hgt_le n
  have HH := Lib.hid h
  clear h
  go_enter Try.func25, Try.ntmps25
  go_wp2_with fail
  refine (rdfit_any n _).mono ?_; rintro e w3 ⟨rfl, c3⟩
  have c1 : World.cell? w3 ⟨q, 1, none⟩ = some (.int .i64 limit) := (HH.out.head.chg c3 (by simp)).cell rfl
  have cf : ∀ j, World.frozen? w3 ⟨q, j, none⟩ = false := fun j => (HH.out.head.chg c3 (by simp)).free j
  obtain ⟨N, hN⟩ : ∃ N, N = hgt n := ⟨_, rfl⟩
  rw [← hN] at hh ⊢
  have HC := Lib.hid c3; have HN := Lib.hid hN
  have hql := (HH.out.head.chg c3 (by simp)).lt
  clear c3 hN
  go_wp2_with fail
  go_end0
  rw [← HN.out]
  have h3 := HH.out.chg0 HC.out
  have hc : Chg [q] w3 (w3.setCell ⟨q, 1, none⟩ (.int .i64 (N : Nat))) := (Chg.refl w3).setCell (Or.inl (by simp)) _
  exact ⟨rfl, ⟨h3.head.set 1 _, h3.tab.chg hc (fun x hx he => h3.qt (by simp at he; exact he ▸ hx)), h3.lo, h3.inv, h3.qt, hh⟩, (HC.out.mono (by simp)).trans' hc⟩
set_option maxRecDepth 100000 in
set_option maxHeartbeats 4000000 in
theorem rdsize_any (h : RD W w q t sv m es limit list broken) : Calls Try.prog 27 #[.pointer (some ⟨q, 0, none⟩)] w fun e w' => e = .returned (.int .i64 (tot es : Nat)) ∧ Chg [] w w' := by
  have x0 : World.cell? w ⟨q, 0, none⟩ = some (.pointer (some ⟨t, 0, none⟩)) := h.head.cell rfl
  have ht : tot es.reverse = tot es := tot_reverse es
  obtain ⟨T, hT⟩ : ∃ T, T = tot es := ⟨_, rfl⟩
  rw [← hT] at ht ⊢
  have HH := Lib.hid h.tab; have HT := Lib.hid ht
  clear h ht hT
  go_enter Try.func27, Try.ntmps27
  go_wp2_with fail
  refine (rtsize_eq HH.out HT.out).mono ?_; rintro e w1 ⟨rfl, c1⟩
  go_wp2_with fail
  go_ret
  exact ⟨rfl, c1⟩
set_option maxRecDepth 100000 in
set_option maxHeartbeats 4000000 in
theorem rdmax_any (h : RD W w q t sv m es limit list broken) : Calls Try.prog 28 #[.pointer (some ⟨q, 0, none⟩)] w fun e w' => e = .returned (.int .i64 (m : Nat)) ∧ w = w' := by
  have x0 : World.cell? w ⟨q, 0, none⟩ = some (.pointer (some ⟨t, 0, none⟩)) := h.head.cell rfl
  have x1 : World.cell? w ⟨t, 1, none⟩ = some (.int .i64 m) := h.tab.head.cell rfl
  clear h
  go_enter Try.func28, Try.ntmps28
  go_wp2_with fail
  go_ret
  exact ⟨rfl, rfl⟩
theorem bx_from (s : ByteArray) (n : Nat) (h : n ≤ s.size) : bx (s.extract n s.size) = (bx s).drop n := by
  have := bx_cut s n (s.size - n)
  rw [show n + (s.size - n) = s.size by omega] at this
  rw [this, List.take_of_length_le]
  rw [List.length_drop]
  have : (bx s).length = s.size := by simp [bx]
  omega
set_option maxRecDepth 100000 in
set_option maxHeartbeats 8000000 in
theorem rdlit_any (h : RD W w q t sv m es limit list broken) (s : ByteArray) (P : Nat) (hs : s.size ≤ 300) :
    Calls Try.prog 77 #[.pointer (some ⟨q, 0, none⟩), .string s, .int .i64 (P : Int)] w fun e w' =>
      e = .returned (.tuple #[.agg (aF (rLit P es (bx s)).1), .int .i64 ((rLit P es (bx s)).2.1 : Nat), .bool (rLit P es (bx s)).2.2]) ∧ Chg [] w w' := by
  have hbl : (bx s).length = s.size := by simp [bx]
  have hgn := getI_n (bx s) (P : Int)
  have hle := getI_le (bx s) (P : Int)
  have hR0 : rLit P es (bx s) = rLit P es (bx s) := rfl
  conv at hR0 => rhs; unfold rLit
  obtain ⟨G, hG⟩ : ∃ G, G = getI (bx s) (P : Int) := ⟨_, rfl⟩
  rw [← hG] at hgn hle hR0
  obtain ⟨V, n, E⟩ := G
  simp only at hgn hle hR0
  have hn : n ≤ s.size := by omega
  have HG := Lib.hid hG; have HH := Lib.hid h; have HR0 := Lib.hid hR0
  have hG' : getI s.data.toList (P : Int) = (V, n, E) := hG.symm
  have HG' := Lib.hid hG'
  clear hG h hgn hR0 hG' hbl
  go_enter Try.func77, Try.ntmps77
  go_wp2_with fail
  refine (rgetint_any s (P : Int) (by omega) _).mono ?_; rintro e w1 ⟨he, rfl⟩
  rw [HG'.out] at he
  subst he
  have b6 := At.new w (NO)
  have z0 : World.cell? (w.alloc (NO)) ⟨w.heap.size, 0, none⟩ = some (.string ⟨#[]⟩) := b6.cell rfl
  have z1 : World.cell? (w.alloc (NO)) ⟨w.heap.size, 1, none⟩ = some (.string ⟨#[]⟩) := b6.cell rfl
  have z2 : World.cell? (w.alloc (NO)) ⟨w.heap.size, 2, none⟩ = some (.bool false) := b6.cell rfl
  have B6 := Lib.hid b6
  have hC0 : Hid (Chg [] w (w.alloc (NO))) := Lib.hid ((Chg.refl w).alloc _)
  clear b6
  by_cases hE : E = 0
  · have hEb : ((E : Int) != 0) = false := by simp [hE]
    have HR1 : Hid (rLit P es (bx s) = if 0 < V then (if (atR es V).2 = true then rVal (atR es V).1.n n (bx s) else (Fd.no, 0, false)) else if (getT ((bx s).drop n)).2.2 ≠ 0 then (Fd.no, 0, false) else rVal ⟨(getT ((bx s).drop n)).1.toArray⟩ (n + (getT ((bx s).drop n)).2.1) (bx s)) := Lib.hid (by rw [HR0.out, if_neg (by simp [hE])])
    clear hE HR0
    by_cases hV : 0 < V
    · have hVb : decide (0 < V) = true := decide_eq_true hV
      have HR2 : Hid (rLit P es (bx s) = if (atR es V).2 = true then rVal (atR es V).1.n n (bx s) else (Fd.no, 0, false)) := Lib.hid (by rw [HR1.out, if_pos hV])
      clear HR1
      have x0 : World.cell? ((w.alloc (NO)).alloc (NO)) ⟨q, 0, none⟩ = some (.pointer (some ⟨t, 0, none⟩)) := (HH.out.head.chg (((Chg.refl (l := []) w).alloc _).alloc _) (by simp)).cell rfl
      have hql := HH.out.head.lt
      go_wp2_with fail
      refine (rat_any (V : Int) (HH.out.chg0 (((Chg.refl w).alloc _).alloc _)).tab).mono ?_; rintro e w5 ⟨he, c5⟩
      obtain ⟨A, hA⟩ : ∃ A, A = atR es (V : Int) := ⟨_, rfl⟩
      rw [← hA] at he
      obtain ⟨⟨an, av, ab⟩, ok⟩ := A
      simp only [aF] at he
      subst he
      have HR3 : Hid (rLit P es (bx s) = if ok = true then rVal an n (bx s) else (Fd.no, 0, false)) := Lib.hid (by rw [HR2.out, ← hA])
      have h6 := (B6.out.alloc (NO)).chg c5 (by simp)
      have h12 := (At.new (w.alloc (NO)) (NO)).chg c5 (by simp)
      rw [show (w.alloc (NO)).heap.size = w.heap.size + 1 by simp] at h12
      have z0 : World.cell? w5 ⟨w.heap.size, 0, none⟩ = some (.string ⟨#[]⟩) := h6.cell rfl
      have z1 : World.cell? w5 ⟨w.heap.size, 1, none⟩ = some (.string ⟨#[]⟩) := h6.cell rfl
      have z2 : World.cell? w5 ⟨w.heap.size, 2, none⟩ = some (.bool false) := h6.cell rfl
      have zf : ∀ j, World.frozen? w5 ⟨w.heap.size, j, none⟩ = false := fun j => h6.free j
      have y0 : World.cell? w5 ⟨w.heap.size + 1, 0, none⟩ = some (.string ⟨#[]⟩) := h12.cell rfl
      have yf : ∀ j, World.frozen? w5 ⟨w.heap.size + 1, j, none⟩ = false := fun j => h12.free j
      have hw5 := h12.lt
      have HC5 : Hid (Chg [] w w5) := Lib.hid ((hC0.out.alloc _).trans' c5)
      have H6 := Lib.hid h6; have H12 := Lib.hid h12
      clear hA HR2 h6 h12 c5 B6 hC0 x0
      cases ok with
      | false =>
        have HR : Hid (rLit P es (bx s) = (Fd.no, 0, false)) := Lib.hid (by rw [HR3.out, if_neg (by simp)])
        clear z0 z1 z2 zf
        go_upto_region 8 with fail
        obtain ⟨w7, hw7⟩ : ∃ w7, w7 = w5.alloc (FN ⟨an, av, ab⟩) := ⟨_, rfl⟩
        rw [← hw7]
        have h67 : At w7 w.heap.size NO := by rw [hw7]; exact H6.out.alloc _
        have z0 : World.cell? w7 ⟨w.heap.size, 0, none⟩ = some (.string ⟨#[]⟩) := h67.cell rfl
        have z1 : World.cell? w7 ⟨w.heap.size, 1, none⟩ = some (.string ⟨#[]⟩) := h67.cell rfl
        have z2 : World.cell? w7 ⟨w.heap.size, 2, none⟩ = some (.bool false) := h67.cell rfl
        have zf : ∀ j, World.frozen? w7 ⟨w.heap.size, j, none⟩ = false := fun j => h67.free j
        have hc7 : Chg [] w w7 := by rw [hw7]; exact HC5.out.alloc _
        have hz7 := h67.lt
        have HC7 := Lib.hid hc7
        clear hw7 h67 hc7 H6 H12 HC5 y0 yf
        go_wp2_with fail
        refine bodyPost_ret (v := .tuple #[.agg #[.string ⟨#[]⟩, .string ⟨#[]⟩, .bool false], .int .i64 0, .bool false]) (by simp [results, Try.results77, go_sem, z0, z1, z2]) rfl ⟨by rw [HR.out]; rfl, ?_⟩
        (repeat (refine Chg.setCell ?_ (Or.inr (by simp)) _)); exact HC7.out
      | true =>
        have HR : Hid (rLit P es (bx s) = rVal an n (bx s)) := Lib.hid (by rw [HR3.out, if_pos rfl])
        clear HR3
        go_upto_region 15 with fail
        obtain ⟨w7, hw7⟩ : ∃ w7, w7 = (w5.setCell ⟨w.heap.size + 1, 0, none⟩ (.string an)).alloc (FN ⟨an, av, ab⟩) := ⟨_, rfl⟩
        rw [← hw7]
        have h67 : At w7 w.heap.size (NO) := by rw [hw7]; exact (H6.out.chg ((Chg.refl (l := [w.heap.size + 1]) _).setCell (Or.inl (by simp)) _) (by simp)).alloc _
        have h127 : At w7 (w.heap.size + 1) (.cells #[.string an, .string ⟨#[]⟩, .bool false] 44 (0, 0)) := by rw [hw7]; exact (H12.out.set 0 _).alloc _
        have hc7 : Chg [] w w7 := by rw [hw7]; exact (HC5.out.setCell (Or.inr (by simp)) _).alloc _
        have hn1 : (n : Int) ≤ (s.size : Int) := by omega
        have HB6 := Lib.hid h67; have HB12 := Lib.hid h127; have HC7 := Lib.hid hc7
        clear hw7 h67 h127 hc7 H6 H12 HC5 z0 z1 z2 zf y0 yf
        obtain ⟨S2, hS2⟩ : ∃ S2, S2 = s.extract n s.size := ⟨_, rfl⟩
        have hb2 : bx S2 = (bx s).drop n := by rw [hS2]; exact bx_from s n (by omega)
        have hz2 : S2.size ≤ 100000 := by rw [hS2, ByteArray.size_extract]; omega
        obtain ⟨T2, hT2⟩ : ∃ T2, T2 = getT ((bx s).drop n) := ⟨_, rfl⟩
        have hV2 : rVal an n (bx s) = if T2.2.2 ≠ 0 then (Fd.no, 0, false) else (⟨an, ⟨T2.1.toArray⟩, false⟩, n + T2.2.1, true) := by unfold rVal; rw [← hT2]
        have hm2 : T2.2.1 ≤ 300 := by
          have h1 := (getT_ok (l := (bx s).drop n)).1
          rw [← hT2, List.length_drop] at h1
          have h2 : (bx s).length = s.size := by simp [bx]
          omega
        rw [← hb2] at hT2
        obtain ⟨t2, m2, g2⟩ := T2
        simp only at hV2 hm2
        obtain ⟨SV2, hSV2⟩ : ∃ SV : ByteArray, SV = ⟨t2.toArray⟩ := ⟨_, rfl⟩
        rw [← hSV2] at hV2
        have HT2 := Lib.hid hT2; have HSV2 := Lib.hid hSV2; have HSS2 := Lib.hid hS2
        clear hT2 hb2 hSV2 hS2
        go_wp2_with fail
        rw [← HSS2.out]
        refine (rgettext_any S2 _ hz2).mono ?_; rintro e w8 ⟨he, c8⟩
        rw [← HT2.out] at he
        unfold txt at he
        simp only at he
        rw [← HSV2.out] at he
        subst he
        have h68 := HB6.out.chg c8 (by simp)
        have h128 := HB12.out.chg c8 (by simp)
        have z0 : World.cell? w8 ⟨w.heap.size, 0, none⟩ = some (.string ⟨#[]⟩) := h68.cell rfl
        have z1 : World.cell? w8 ⟨w.heap.size, 1, none⟩ = some (.string ⟨#[]⟩) := h68.cell rfl
        have z2 : World.cell? w8 ⟨w.heap.size, 2, none⟩ = some (.bool false) := h68.cell rfl
        have zf : ∀ j, World.frozen? w8 ⟨w.heap.size, j, none⟩ = false := fun j => h68.free j
        have y0 : World.cell? w8 ⟨w.heap.size + 1, 0, none⟩ = some (.string an) := h128.cell rfl
        have y1 : World.cell? w8 ⟨w.heap.size + 1, 1, none⟩ = some (.string ⟨#[]⟩) := h128.cell rfl
        have y2 : World.cell? w8 ⟨w.heap.size + 1, 2, none⟩ = some (.bool false) := h128.cell rfl
        have yf : ∀ j, World.frozen? w8 ⟨w.heap.size + 1, j, none⟩ = false := fun j => h128.free j
        have hw8 := h128.lt
        have HC8 := Lib.hid (HC7.out.trans' c8)
        clear c8 h68 h128 HB6 HB12 HC7
        by_cases hg2 : g2 = 0
        · rw [if_neg (by simp [hg2])] at hV2
          have hgb : ((g2 : Int) != 0) = false := by simp [hg2]
          have HV2 := Lib.hid hV2
          clear hV2
          go_wp2_with fail
          refine bodyPost_ret (v := .tuple #[.agg #[.string an, .string SV2, .bool false], .int .i64 ((n + m2 : Nat) : Int), .bool true]) (by simp [results, Try.results77, go_sem, z0, z1, z2]) rfl ⟨by rw [HR.out, HV2.out]; rfl, ?_⟩
          (repeat (refine Chg.setCell ?_ (Or.inr (by simp)) _)); exact HC8.out
        · rw [if_pos hg2] at hV2
          have hgb : ((g2 : Int) != 0) = true := by simp; omega
          have HV2 := Lib.hid hV2
          clear hV2
          go_wp2_with fail
          refine bodyPost_ret (v := .tuple #[.agg #[.string ⟨#[]⟩, .string ⟨#[]⟩, .bool false], .int .i64 0, .bool false]) (by simp [results, Try.results77, go_sem, z0, z1, z2]) rfl ⟨by rw [HR.out, HV2.out]; rfl, ?_⟩
          (repeat (refine Chg.setCell ?_ (Or.inr (by simp)) _)); exact HC8.out
    · have hVb : decide (0 < V) = false := decide_eq_false hV
      obtain ⟨S1, hS1⟩ : ∃ S1, S1 = s.extract n s.size := ⟨_, rfl⟩
      have hb1 : bx S1 = (bx s).drop n := by rw [hS1]; exact bx_from s n hn
      have hz1 : S1.size ≤ 100000 := by rw [hS1, ByteArray.size_extract]; omega
      obtain ⟨T1, hT1⟩ : ∃ T1, T1 = getT ((bx s).drop n) := ⟨_, rfl⟩
      have hR2 : rLit P es (bx s) = if T1.2.2 ≠ 0 then (Fd.no, 0, false) else rVal ⟨T1.1.toArray⟩ (n + T1.2.1) (bx s) := by rw [HR1.out, if_neg hV, ← hT1]
      have hm1 : n + T1.2.1 ≤ s.size := by
        have h1 := (getT_ok (l := (bx s).drop n)).1
        rw [← hT1, List.length_drop] at h1
        have h2 : (bx s).length = s.size := by simp [bx]
        omega
      rw [← hb1] at hT1
      obtain ⟨t1, m1, g1⟩ := T1
      simp only at hR2 hm1
      obtain ⟨SV1, hSV1⟩ : ∃ SV : ByteArray, SV = ⟨t1.toArray⟩ := ⟨_, rfl⟩
      rw [← hSV1] at hR2
      have HT1 := Lib.hid hT1; have HSV1 := Lib.hid hSV1; have HSS1 := Lib.hid hS1; have HR2 := Lib.hid hR2
      have hn1 : (n : Int) ≤ (s.size : Int) := by omega
      clear hT1 hb1 hSV1 hS1 hR2 HR1
      go_wp2_with fail
      rw [← HSS1.out]
      refine (rgettext_any S1 _ hz1).mono ?_; rintro e w5 ⟨he, c5⟩
      rw [← HT1.out] at he
      unfold txt at he
      simp only at he
      rw [← HSV1.out] at he
      subst he
      have h6 := (B6.out.alloc (NO)).chg c5 (by simp)
      have h12 := (At.new (w.alloc (NO)) (NO)).chg c5 (by simp)
      rw [show (w.alloc (NO)).heap.size = w.heap.size + 1 by simp] at h12
      have z0 : World.cell? w5 ⟨w.heap.size, 0, none⟩ = some (.string ⟨#[]⟩) := h6.cell rfl
      have z1 : World.cell? w5 ⟨w.heap.size, 1, none⟩ = some (.string ⟨#[]⟩) := h6.cell rfl
      have z2 : World.cell? w5 ⟨w.heap.size, 2, none⟩ = some (.bool false) := h6.cell rfl
      have zf : ∀ j, World.frozen? w5 ⟨w.heap.size, j, none⟩ = false := fun j => h6.free j
      have y0 : World.cell? w5 ⟨w.heap.size + 1, 0, none⟩ = some (.string ⟨#[]⟩) := h12.cell rfl
      have yf : ∀ j, World.frozen? w5 ⟨w.heap.size + 1, j, none⟩ = false := fun j => h12.free j
      have hw5 := h12.lt
      have HC5 : Hid (Chg [] w w5) := Lib.hid ((hC0.out.alloc _).trans' c5)
      have H6 := Lib.hid h6; have H12 := Lib.hid h12
      clear h6 h12 c5 B6 hC0
      by_cases hg1 : g1 = 0
      · have hgb1 : ((g1 : Int) != 0) = false := by simp [hg1]
        obtain ⟨K, hK⟩ : ∃ K, K = n + m1 := ⟨_, rfl⟩
        rw [← hK] at hm1
        have HR : Hid (rLit P es (bx s) = rVal SV1 K (bx s)) := Lib.hid (by rw [HR2.out, if_neg (by simp [hg1]), hK])
        have HK : Hid (wrap64 ((n : Int) + (m1 : Int)) = (K : Int)) := Lib.hid (by unfold wrap64; omega)
        clear HR2 hg1 hK
        go_upto_region 15 with fail
        rw [HK.out]
        obtain ⟨w7, hw7⟩ : ∃ w7, w7 = w5.setCell ⟨w.heap.size + 1, 0, none⟩ (.string SV1) := ⟨_, rfl⟩
        rw [← hw7]
        have h67 : At w7 w.heap.size (NO) := by rw [hw7]; exact H6.out.chg ((Chg.refl (l := [w.heap.size + 1]) _).setCell (Or.inl (by simp)) _) (by simp)
        have h127 : At w7 (w.heap.size + 1) (.cells #[.string SV1, .string ⟨#[]⟩, .bool false] 44 (0, 0)) := by rw [hw7]; exact H12.out.set 0 _
        have hc7 : Chg [] w w7 := by rw [hw7]; exact HC5.out.setCell (Or.inr (by simp)) _
        have hk1 : (K : Int) ≤ (s.size : Int) := by omega
        have HB6 := Lib.hid h67; have HB12 := Lib.hid h127; have HC7 := Lib.hid hc7
        clear hw7 h67 h127 hc7 H6 H12 HC5 z0 z1 z2 zf y0 yf
        obtain ⟨S2, hS2⟩ : ∃ S2, S2 = s.extract K s.size := ⟨_, rfl⟩
        have hb2 : bx S2 = (bx s).drop K := by rw [hS2]; exact bx_from s K (by omega)
        have hz2 : S2.size ≤ 100000 := by rw [hS2, ByteArray.size_extract]; omega
        obtain ⟨T2, hT2⟩ : ∃ T2, T2 = getT ((bx s).drop K) := ⟨_, rfl⟩
        have hV2 : rVal SV1 K (bx s) = if T2.2.2 ≠ 0 then (Fd.no, 0, false) else (⟨SV1, ⟨T2.1.toArray⟩, false⟩, K + T2.2.1, true) := by unfold rVal; rw [← hT2]
        have hm2 : T2.2.1 ≤ 300 := by
          have h1 := (getT_ok (l := (bx s).drop K)).1
          rw [← hT2, List.length_drop] at h1
          have h2 : (bx s).length = s.size := by simp [bx]
          omega
        rw [← hb2] at hT2
        obtain ⟨t2, m2, g2⟩ := T2
        simp only at hV2 hm2
        obtain ⟨SV2, hSV2⟩ : ∃ SV : ByteArray, SV = ⟨t2.toArray⟩ := ⟨_, rfl⟩
        rw [← hSV2] at hV2
        have HT2 := Lib.hid hT2; have HSV2 := Lib.hid hSV2; have HSS2 := Lib.hid hS2
        clear hT2 hb2 hSV2 hS2
        go_wp2_with fail
        rw [← HSS2.out]
        refine (rgettext_any S2 _ hz2).mono ?_; rintro e w8 ⟨he, c8⟩
        rw [← HT2.out] at he
        unfold txt at he
        simp only at he
        rw [← HSV2.out] at he
        subst he
        have h68 := HB6.out.chg c8 (by simp)
        have h128 := HB12.out.chg c8 (by simp)
        have z0 : World.cell? w8 ⟨w.heap.size, 0, none⟩ = some (.string ⟨#[]⟩) := h68.cell rfl
        have z1 : World.cell? w8 ⟨w.heap.size, 1, none⟩ = some (.string ⟨#[]⟩) := h68.cell rfl
        have z2 : World.cell? w8 ⟨w.heap.size, 2, none⟩ = some (.bool false) := h68.cell rfl
        have zf : ∀ j, World.frozen? w8 ⟨w.heap.size, j, none⟩ = false := fun j => h68.free j
        have y0 : World.cell? w8 ⟨w.heap.size + 1, 0, none⟩ = some (.string SV1) := h128.cell rfl
        have y1 : World.cell? w8 ⟨w.heap.size + 1, 1, none⟩ = some (.string ⟨#[]⟩) := h128.cell rfl
        have y2 : World.cell? w8 ⟨w.heap.size + 1, 2, none⟩ = some (.bool false) := h128.cell rfl
        have yf : ∀ j, World.frozen? w8 ⟨w.heap.size + 1, j, none⟩ = false := fun j => h128.free j
        have hw8 := h128.lt
        have HC8 := Lib.hid (HC7.out.trans' c8)
        clear c8 h68 h128 HB6 HB12 HC7
        by_cases hg2 : g2 = 0
        · rw [if_neg (by simp [hg2])] at hV2
          have hgb : ((g2 : Int) != 0) = false := by simp [hg2]
          have HV2 := Lib.hid hV2
          clear hV2
          go_wp2_with fail
          refine bodyPost_ret (v := .tuple #[.agg #[.string SV1, .string SV2, .bool false], .int .i64 ((K + m2 : Nat) : Int), .bool true]) (by simp [results, Try.results77, go_sem, z0, z1, z2]) rfl ⟨by rw [HR.out, HV2.out]; rfl, ?_⟩
          (repeat (refine Chg.setCell ?_ (Or.inr (by simp)) _)); exact HC8.out
        · rw [if_pos hg2] at hV2
          have hgb : ((g2 : Int) != 0) = true := by simp; omega
          have HV2 := Lib.hid hV2
          clear hV2
          go_wp2_with fail
          refine bodyPost_ret (v := .tuple #[.agg #[.string ⟨#[]⟩, .string ⟨#[]⟩, .bool false], .int .i64 0, .bool false]) (by simp [results, Try.results77, go_sem, z0, z1, z2]) rfl ⟨by rw [HR.out, HV2.out]; rfl, ?_⟩
          (repeat (refine Chg.setCell ?_ (Or.inr (by simp)) _)); exact HC8.out
      · have hgb1 : ((g1 : Int) != 0) = true := by simp; omega
        have HR : Hid (rLit P es (bx s) = (Fd.no, 0, false)) := Lib.hid (by rw [HR2.out, if_pos hg1])
        clear HR2
        go_wp2_with fail
        refine bodyPost_ret (v := .tuple #[.agg #[.string ⟨#[]⟩, .string ⟨#[]⟩, .bool false], .int .i64 0, .bool false]) (by simp [results, Try.results77, go_sem, z0, z1, z2]) rfl ⟨by rw [HR.out]; rfl, ?_⟩
        (repeat (refine Chg.setCell ?_ (Or.inr (by simp)) _)); exact HC5.out
  · have hEb : ((E : Int) != 0) = true := by simp; omega
    have HR : Hid (rLit P es (bx s) = (Fd.no, 0, false)) := Lib.hid (by rw [HR0.out, if_pos hE])
    have zf : ∀ j, World.frozen? (w.alloc (NO)) ⟨w.heap.size, j, none⟩ = false := fun j => B6.out.free j
    go_wp2_with fail
    refine bodyPost_ret (v := .tuple #[.agg #[.string ⟨#[]⟩, .string ⟨#[]⟩, .bool false], .int .i64 0, .bool false]) (by simp [results, Try.results77, go_sem, z0, z1, z2]) rfl ⟨by rw [HR.out]; rfl, ?_⟩
    (repeat (refine Chg.setCell ?_ (Or.inr (by simp)) _)); exact hC0.out
end
end Go.Proofs.Ytmoeioaahampaaa.Tb.Hp
namespace Go.Proofs.Ytmoeioaahampaaa.Tb.Hp
open Go.ChangeShapes Go.WideShapes Go.ChangeAt Go.RowKit
open Go.Proofs.Ytmoeioaahampaaa.B Go.Proofs.Ytmoeioaahampaaa.Hi Go.Proofs.Ytmoeioaahampaaa.Tb
open Go.Proofs.Ytmoeioaahampaaa.Hf (bx need enc dec bitsOf)
set_option linter.unusedVariables false
set_option linter.unusedSimpArgs false

theorem STAT_size2 : STAT.all (fun f => decide (f.sz ≤ 65536)) = true := by decide +kernel
theorem atR_size2 {m : Nat} {es : List Fd} (h : Inv m es) (i : Int) : (atR es i).1.sz ≤ 65536 := by
  unfold atR atL
  split
  · rename_i hi
    show ((allF es).getD (i.toNat - 1) Fd.no).sz ≤ _
    rw [List.getD_eq_getElem?_getD]
    cases hx : (allF es)[i.toNat - 1]? with
    | none => show Fd.no.sz ≤ _; decide
    | some f =>
      show f.sz ≤ _
      have hm := List.mem_of_getElem? hx
      unfold allF at hm
      rcases List.mem_append.1 hm with hm | hm
      · exact of_decide_eq_true (List.all_eq_true.1 STAT_size2 f hm)
      · have h1 := tot_mem (List.mem_reverse.1 hm)
        have h2 := h.t
        have h3 := h.hm
        omega
  · show Fd.no.sz ≤ _; decide
theorem rVal_sz {nm : ByteArray} {k : Nat} {l : List UInt8} (h : nm.size ≤ 90000) (hl : l.length ≤ 300) : (rVal nm k l).1.sz ≤ 100000 := by
  unfold rVal
  split
  · show Fd.no.sz ≤ _; decide
  · have := getT_len (l.drop k)
    rw [List.length_drop] at this
    show nm.size + (getT (l.drop k)).1.toArray.size + 32 ≤ _
    rw [List.size_toArray]; omega
theorem rLit_sz {P m : Nat} {es : List Fd} {l : List UInt8} (hi : Inv m es) (hl : l.length ≤ 300) : (rLit P es l).1.sz ≤ 100000 := by
  unfold rLit
  split
  · show Fd.no.sz ≤ _; decide
  · split
    · split
      · have := atR_size2 hi ((getI l P).1 : Int)
        unfold Fd.sz at this
        exact rVal_sz (by omega) hl
      · show Fd.no.sz ≤ _; decide
    · split
      · show Fd.no.sz ≤ _; decide
      · refine rVal_sz ?_ hl
        have := getT_len (l.drop (getI l P).2.1)
        rw [List.length_drop] at this
        show (getT (l.drop (getI l P).2.1)).1.toArray.size ≤ _
        rw [List.size_toArray]; omega
theorem radd_l {w : World} {base p : Nat} {sv : Value} {m : Nat} {es : List Fd} {f : Fd} {nm vl : ByteArray} {b : Bool} (he : f = ⟨nm, vl, b⟩) (hf : f.sz ≤ 100000) (hi : Inv m es) (h : RT w base p sv m es.reverse) (hbw : base ≤ w.heap.size) :
    Calls Try.prog 66 #[.pointer (some ⟨p, 0, none⟩), .agg #[.string nm, .string vl, .bool b]] w fun e w' => e = .returned (.tuple #[]) ∧ Chg [p] w w' ∧ ∃ sv', RT w' base p sv' m (addS f m es).reverse ∧ (∀ g ∈ sv'.ownBlock.toList, g ∈ sv.ownBlock.toList ∨ w.heap.size ≤ g) := by
  subst he; exact radd_any ⟨nm, vl, b⟩ hf hi h hbw
section
variable {W w : World} {q t : Nat} {sv : Value} {m : Nat} {es : List Fd} {limit : Nat} {list : Int} {broken : Bool}
set_option maxRecDepth 100000 in
set_option maxHeartbeats 8000000 in
theorem rdone_any (h : RD W w q t sv m es limit list broken) (s : ByteArray) (h0 : 0 < s.size) (hs : s.size ≤ 300) :
    Calls Try.prog 62 #[.pointer (some ⟨q, 0, none⟩), .string s] w fun e w' => ∃ sv',
      e = .returned (.tuple #[.agg (aF (rOne m es (bx s)).1), .int .i64 ((rOne m es (bx s)).2.1 : Nat), .bool (rOne m es (bx s)).2.2.1]) ∧ RD W w' q t sv' m (rOne m es (bx s)).2.2.2 limit list broken ∧ Chg [t] w w' ∧ ∀ x ∈ footD q t sv', x ∈ footD q t sv ∨ w.heap.size ≤ x := by
  have hbl : (bx s).length = s.size := by simp [bx]
  obtain ⟨c, hc⟩ : ∃ c, c = s[0] := ⟨_, rfl⟩
  have hhd : (bx s).headD 0 = c := by
    have := str_drop s 0 h0
    rw [List.drop_zero] at this
    unfold bx; rw [this, hc]; rfl
  have hcc : (s[0].toNat : Int) = (c.toNat : Int) := by rw [hc]
  obtain ⟨k, hk⟩ : ∃ k : Nat, k = c.toNat := ⟨_, rfl⟩
  have hk6 : k < 256 := by rw [hk]; exact c.toNat_lt
  rw [← hk] at hcc
  obtain ⟨R, hR⟩ : ∃ R, R = rOne m es (bx s) := ⟨_, rfl⟩
  have hR1 : rOne m es (bx s) = rOne m es (bx s) := rfl
  conv at hR1 => rhs; unfold rOne
  rw [hhd, ← hk] at hR1
  rw [← hR] at hR1 ⊢
  have HRR := Lib.hid hR1; have HBL := Lib.hid hbl
  obtain ⟨B, hB⟩ : ∃ B, B = w.heap.size := ⟨_, rfl⟩
  have hb := At.new' (w := w) (o := NO) hB.symm
  have hBq : Hid (∀ x ∈ footD q t sv, x < B) := Lib.hid (fun x hx => by rw [hB]; exact h.lt x hx)
  have hBw : w.heap.size ≤ B := by omega
  have HD0 := Lib.hid (h.chg0 ((Chg.refl w).alloc NO)); have HC0 : Hid (Chg [] w (w.alloc NO)) := Lib.hid ((Chg.refl w).alloc NO); have HB0 := Lib.hid hb
  have HBB := Lib.hid hB
  clear hc hhd hk hR hR1 hb h hbl hB
  go_enter Try.func62, Try.ntmps62
  go_upto_region 1 with fail
  rw [← HBB.out]
  obtain ⟨w1, hw1⟩ : ∃ w1, w1 = w.alloc NO := ⟨_, rfl⟩
  rw [← hw1]
  have HD : Hid (RD W w1 q t sv m es limit list broken) := Lib.hid (by rw [hw1]; exact HD0.out)
  have HC : Hid (Chg [] w w1) := Lib.hid (by rw [hw1]; exact HC0.out)
  have HB : Hid (At w1 B NO) := Lib.hid (by rw [hw1]; exact HB0.out)
  clear hw1 HD0 HC0 HB0
  have z0 : World.cell? w1 ⟨B, 0, none⟩ = some (.string ⟨#[]⟩) := (HB.out).cell rfl
  have z1 : World.cell? w1 ⟨B, 1, none⟩ = some (.string ⟨#[]⟩) := (HB.out).cell rfl
  have z2 : World.cell? w1 ⟨B, 2, none⟩ = some (.bool false) := (HB.out).cell rfl
  have zf : ∀ j, World.frozen? w1 ⟨B, j, none⟩ = false := fun j => (HB.out).free j
  have hBl : B < (w1).heap.size := (HB.out).lt
  by_cases hk1 : 128 ≤ k
  · have HR : Hid (R = ((atR es (getI (bx s) 7).1).1, (getI (bx s) 7).2.1, decide ((getI (bx s) 7).2.2 = 0) && (atR es (getI (bx s) 7).1).2, es)) := Lib.hid (by rw [HRR.out, if_pos hk1])
    have g1 : decide ((128 : Int) ≤ (k : Int)) = true := decide_eq_true (by omega)
    obtain ⟨G, hG⟩ : ∃ G, G = getI (bx s) 7 := ⟨_, rfl⟩
    rw [← hG] at HR
    have HG : Hid (getI s.data.toList 7 = G) := Lib.hid hG.symm
    clear hG HRR
    obtain ⟨V, n, E⟩ := G
    simp only at HR
    go_wp2_with fail
    refine (rgetint_any s 7 (by omega) _).mono ?_; rintro e w2 ⟨he, hw2⟩
    rw [hw2]
    clear hw2
    rw [HG.out] at he
    subst he
    have x0 : World.cell? w1 ⟨q, 0, none⟩ = some (.pointer (some ⟨t, 0, none⟩)) := HD.out.head.cell rfl
    go_wp2_with fail
    refine (rat_any (V : Int) HD.out.tab).mono ?_; rintro e w5 ⟨he, c5⟩
    obtain ⟨A, hA⟩ : ∃ A, A = atR es (V : Int) := ⟨_, rfl⟩
    rw [← hA] at he HR
    obtain ⟨⟨an, av, ab⟩, ok⟩ := A
    simp only [aF] at he
    subst he
    have h5 := HB.out.chg c5 (by simp)
    have HD5 := Lib.hid (HD.out.chg0 c5); have HC5 := Lib.hid (HC.out.trans' c5); have HB5 := Lib.hid h5
    clear hA c5 h5 HB HC HD z0 z1 z2 zf hBl x0
    go_upto_region 4 with fail
    obtain ⟨w7, hw7⟩ : ∃ w7, w7 = w5.alloc (FN ⟨an, av, ab⟩) := ⟨_, rfl⟩
    rw [← hw7]
    have x := At.new w5 (FN ⟨an, av, ab⟩)
    rw [← hw7] at x
    have x0 : World.cell? w7 ⟨w5.heap.size, 0, none⟩ = some (.string an) := x.cell rfl
    have x1 : World.cell? w7 ⟨w5.heap.size, 1, none⟩ = some (.string av) := x.cell rfl
    have x2 : World.cell? w7 ⟨w5.heap.size, 2, none⟩ = some (.bool ab) := x.cell rfl
    have h7 : At w7 B NO := by rw [hw7]; exact HB5.out.alloc _
    have c7 : Chg [] w5 w7 := by rw [hw7]; exact (Chg.refl _).alloc _
    have hBn : B < w5.heap.size := HB5.out.lt
    have hXl := x.lt
    have HD7 := Lib.hid (HD5.out.chg0 c7); have HC7 := Lib.hid (HC5.out.trans' c7)
    have z0 : World.cell? w7 ⟨B, 0, none⟩ = some (.string ⟨#[]⟩) := (h7).cell rfl
    have z1 : World.cell? w7 ⟨B, 1, none⟩ = some (.string ⟨#[]⟩) := (h7).cell rfl
    have z2 : World.cell? w7 ⟨B, 2, none⟩ = some (.bool false) := (h7).cell rfl
    have zf : ∀ j, World.frozen? w7 ⟨B, j, none⟩ = false := fun j => (h7).free j
    have hBl : B < (w7).heap.size := (h7).lt
    clear hw7 x h7 c7 HD5 HC5 HB5
    by_cases hE : E = 0
    · have gE : ((E : Int) == 0) = true := by simp [hE]
      have HR2 : Hid (R = (⟨an, av, ab⟩, n, ok, es)) := Lib.hid (by rw [HR.out]; simp [hE])
      clear HR
      go_wp2_with fail
      refine bodyPost_ret (v := .tuple #[.agg #[.string an, .string av, .bool ab], .int .i64 (n : Nat), .bool ok]) (by simp [results, Try.results62, go_sem, z0, z1, z2]) rfl ⟨sv, by rw [HR2.out]; rfl, ?_, ?_, fun x hx => Or.inl hx⟩
      · rw [HR2.out]
        refine HD7.out.chg (ls := [B]) ?_ (fun x hx he => by simp at he; have := hBq.out x hx; omega)
        (repeat (refine Chg.setCell ?_ (Or.inl (by simp)) _)); exact Chg.refl _
      · (repeat (refine Chg.setCell ?_ (Or.inr (by simp; omega)) _)); exact HC7.out.mono (by simp)
    · have gE : ((E : Int) == 0) = false := by simp; omega
      have HR2 : Hid (R = (⟨an, av, ab⟩, n, false, es)) := Lib.hid (by rw [HR.out]; simp [hE])
      clear HR
      go_wp2_with fail
      refine bodyPost_ret (v := .tuple #[.agg #[.string an, .string av, .bool ab], .int .i64 (n : Nat), .bool false]) (by simp [results, Try.results62, go_sem, z0, z1, z2]) rfl ⟨sv, by rw [HR2.out]; rfl, ?_, ?_, fun x hx => Or.inl hx⟩
      · rw [HR2.out]
        refine HD7.out.chg (ls := [B]) ?_ (fun x hx he => by simp at he; have := hBq.out x hx; omega)
        (repeat (refine Chg.setCell ?_ (Or.inl (by simp)) _)); exact Chg.refl _
      · (repeat (refine Chg.setCell ?_ (Or.inr (by simp; omega)) _)); exact HC7.out.mono (by simp)
  · have g1 : decide ((128 : Int) ≤ (k : Int)) = false := decide_eq_false (by omega)
    by_cases hk2 : 64 ≤ k
    · have g2 : decide ((64 : Int) ≤ (k : Int)) = true := decide_eq_true (by omega)
      have HR : Hid (R = ((rLit 6 es (bx s)).1, (rLit 6 es (bx s)).2.1, (rLit 6 es (bx s)).2.2, if (rLit 6 es (bx s)).2.2 = true then addS (rLit 6 es (bx s)).1 m es else es)) := Lib.hid (by rw [HRR.out, if_neg hk1, if_pos hk2])
      clear HRR
      go_wp2_with fail
      refine (rdlit_any HD.out s 6 hs).mono ?_; rintro e w5 ⟨he, c5⟩
      obtain ⟨L, hL⟩ : ∃ L, L = rLit 6 es (bx s) := ⟨_, rfl⟩
      rw [← hL] at he
      have hLz : L.1.sz ≤ 100000 := by rw [hL]; exact rLit_sz HD.out.inv (by rw [HBL.out]; exact hs)
      have HRL : Hid (rLit 6 es (bx s) = L) := Lib.hid hL.symm
      clear hL
      obtain ⟨⟨ln, lv, lb⟩, n, ok⟩ := L
      simp only [aF] at he hLz
      subst he
      have HB5 := Lib.hid (HB.out.chg c5 (by simp)); have HC5 := Lib.hid (HC.out.trans' c5); have HD5 := Lib.hid (HD.out.chg0 c5)
      have hs5 := c5.size
      clear c5 HB HC HD z0 z1 z2 zf hBl
      have HR2 : Hid (R = (⟨ln, lv, lb⟩, n, ok, if ok = true then addS ⟨ln, lv, lb⟩ m es else es)) := Lib.hid (by rw [HR.out, HRL.out])
      clear HR HRL
      go_upto_region 7 with fail
      obtain ⟨X, hX⟩ : ∃ X, X = w5.heap.size := ⟨_, rfl⟩
      have x := At.new' (w := w5) (o := FN ⟨ln, lv, lb⟩) hX.symm
      obtain ⟨w7, hw7⟩ : ∃ w7, w7 = w5.alloc (FN ⟨ln, lv, lb⟩) := ⟨_, rfl⟩
      rw [← hX, ← hw7]
      rw [← hw7] at x
      have h7 : At w7 B NO := by rw [hw7]; exact HB5.out.alloc _
      have c7 : Chg [] w5 w7 := by rw [hw7]; exact (Chg.refl _).alloc _
      have hBX : B < X := by rw [hX]; exact HB5.out.lt
      have hqX : Hid (∀ x ∈ footD q t sv, x < X) := Lib.hid (fun x hx => by have := hBq.out x hx; omega)
      have hXl := x.lt
      have HD7 := Lib.hid (HD5.out.chg0 c7); have HC7 := Lib.hid (HC5.out.trans' c7); have HX7 := Lib.hid x; have HB7 := Lib.hid h7
      clear hw7 x h7 c7 HD5 HC5 HB5 hX
      cases ok with
      | false =>
        have HR3 : Hid (R = (⟨ln, lv, lb⟩, n, false, es)) := Lib.hid (by rw [HR2.out, if_neg (by simp)])
        have x0 : World.cell? w7 ⟨X, 0, none⟩ = some (.string ln) := HX7.out.cell rfl
        have x1 : World.cell? w7 ⟨X, 1, none⟩ = some (.string lv) := HX7.out.cell rfl
        have x2 : World.cell? w7 ⟨X, 2, none⟩ = some (.bool lb) := HX7.out.cell rfl
        have z0 : World.cell? w7 ⟨B, 0, none⟩ = some (.string ⟨#[]⟩) := (HB7.out).cell rfl
        have z1 : World.cell? w7 ⟨B, 1, none⟩ = some (.string ⟨#[]⟩) := (HB7.out).cell rfl
        have z2 : World.cell? w7 ⟨B, 2, none⟩ = some (.bool false) := (HB7.out).cell rfl
        have zf : ∀ j, World.frozen? w7 ⟨B, j, none⟩ = false := fun j => (HB7.out).free j
        have hBl : B < (w7).heap.size := (HB7.out).lt
        clear HR2
        go_wp2_with fail
        refine bodyPost_ret (v := .tuple #[.agg #[.string ln, .string lv, .bool lb], .int .i64 (n : Nat), .bool false]) (by simp [results, Try.results62, go_sem, z0, z1, z2]) rfl ⟨sv, by rw [HR3.out]; rfl, ?_, ?_, fun x hx => Or.inl hx⟩
        · rw [HR3.out]
          refine HD7.out.chg (ls := [B]) ?_ (fun x hx he => by simp at he; have := hBq.out x hx; omega)
          (repeat (refine Chg.setCell ?_ (Or.inl (by simp)) _)); exact Chg.refl _
        · (repeat (refine Chg.setCell ?_ (Or.inr (by simp; omega)) _)); exact HC7.out.mono (by simp)
      | true =>
        have HR3 : Hid (R = (⟨ln, lv, lb⟩, n, true, addS ⟨ln, lv, lb⟩ m es)) := Lib.hid (by rw [HR2.out, if_pos rfl])
        clear HR2
        go_upto_region 8 with fail
        have z0 : World.cell? w7 ⟨q, 0, none⟩ = some (.pointer (some ⟨t, 0, none⟩)) := HD7.out.head.cell rfl
        have z1 : World.cell? w7 ⟨X, 0, none⟩ = some (.string ln) := HX7.out.cell rfl
        have z2 : World.cell? w7 ⟨X, 1, none⟩ = some (.string lv) := HX7.out.cell rfl
        have z3 : World.cell? w7 ⟨X, 2, none⟩ = some (.bool lb) := HX7.out.cell rfl
        have hql := HD7.out.head.lt
        have HADD : Hid (Calls Try.prog 66 #[.pointer (some ⟨t, 0, none⟩), .agg #[.string ln, .string lv, .bool lb]] w7.drew fun e w8 => e = .returned (.tuple #[]) ∧ (∃ sv', RD W w8 q t sv' m (addS ⟨ln, lv, lb⟩ m es) limit list broken ∧ ∀ x ∈ footD q t sv', x ∈ footD q t sv ∨ w7.heap.size ≤ x) ∧ Chg [t] w7 w8) := by
          have hed := HD7.out.chg0 (Chg.refl (l := []) w7).drew
          refine Lib.hid ((radd_l rfl hLz hed.inv hed.tab (Nat.le_trans hed.lo (Nat.le_of_lt hed.head.lt))).mono ?_)
          rintro e w8 ⟨rfl, c8, sv', h8, f8⟩
          obtain ⟨r1, r2⟩ := hed.table c8 h8 (hed.inv.add _) f8
          exact ⟨rfl, ⟨sv', r1, fun x hx => (r2 x hx).imp id (fun h => h)⟩, (Chg.refl w7).drew.trans' c8⟩
        go_region_held_law (fun w' => World.cell? w' ⟨q, 0, none⟩ = some (.pointer (some ⟨t, 0, none⟩)) ∧ World.cell? w' ⟨X, 0, none⟩ = some (.string ln) ∧ World.cell? w' ⟨X, 1, none⟩ = some (.string lv) ∧ World.cell? w' ⟨X, 2, none⟩ = some (.bool lb)) (go_keep) (first
          | (go_at_call 66; go_loud (refine HADD.out.mono ?_; rintro e w8 ⟨rfl, ⟨sv', h8, f8⟩, c8⟩; have hx8 := HX7.out.chg c8 (fun hx => by have := hqX.out X (by simp at hx; simp [footD, foot, hx]); omega); have k0 : World.cell? w8 ⟨q, 0, none⟩ = some (.pointer (some ⟨t, 0, none⟩)) := h8.head.cell rfl; have k1 : World.cell? w8 ⟨X, 0, none⟩ = some (.string ln) := hx8.cell rfl; have k2 : World.cell? w8 ⟨X, 1, none⟩ = some (.string lv) := hx8.cell rfl; have k3 : World.cell? w8 ⟨X, 2, none⟩ = some (.bool lb) := hx8.cell rfl; have H8 := Lib.hid h8; have F8 := Lib.hid f8; have C8 := Lib.hid c8; have hXl8 := hx8.lt; clear h8 f8 c8 hx8))
          | fail)
        have h8 := HB7.out.chg C8.out (fun hx => by have := hBq.out B (by simp at hx; simp [footD, foot, hx]); omega)
        clear z0 z1 z2 z3
        have z0 : World.cell? w8 ⟨B, 0, none⟩ = some (.string ⟨#[]⟩) := (h8).cell rfl
        have z1 : World.cell? w8 ⟨B, 1, none⟩ = some (.string ⟨#[]⟩) := (h8).cell rfl
        have z2 : World.cell? w8 ⟨B, 2, none⟩ = some (.bool false) := (h8).cell rfl
        have zf : ∀ j, World.frozen? w8 ⟨B, j, none⟩ = false := fun j => (h8).free j
        have hBl : B < (w8).heap.size := (h8).lt
        clear h8 HADD
        go_wp2_with fail
        refine bodyPost_ret (v := .tuple #[.agg #[.string ln, .string lv, .bool lb], .int .i64 (n : Nat), .bool true]) (by simp [results, Try.results62, go_sem, z0, z1, z2]) rfl ⟨sv', by rw [HR3.out]; rfl, ?_, ?_, fun x hx => (F8.out x hx).imp id (fun h => by have := HC7.out.size; omega)⟩
        · rw [HR3.out]
          refine H8.out.chg (ls := [B]) ?_ (fun x hx he => by
            simp at he
            rcases F8.out x hx with h | h
            · have := hBq.out x h; omega
            · have := HB7.out.lt; omega)
          (repeat (refine Chg.setCell ?_ (Or.inl (by simp)) _)); exact Chg.refl _
        · (repeat (refine Chg.setCell ?_ (Or.inr (by simp; omega)) _)); exact (HC7.out.mono (by simp)).trans' C8.out
    · have g2 : decide ((64 : Int) ≤ (k : Int)) = false := decide_eq_false (by omega)
      by_cases hk3 : 32 ≤ k
      · have g3 : decide ((32 : Int) ≤ (k : Int)) = true := decide_eq_true (by omega)
        have HR : Hid (R = (Fd.no, 0, false, es)) := Lib.hid (by rw [HRR.out, if_neg hk1, if_neg hk2, if_pos hk3])
        clear HRR
        go_wp2_with fail
        refine bodyPost_ret (v := .tuple #[.agg #[.string ⟨#[]⟩, .string ⟨#[]⟩, .bool false], .int .i64 0, .bool false]) (by simp [results, Try.results62, go_sem, z0, z1, z2]) rfl ⟨sv, by rw [HR.out]; rfl, ?_, ?_, fun x hx => Or.inl hx⟩
        · rw [HR.out]
          refine HD.out.chg (ls := [B]) ?_ (fun x hx he => by simp at he; have := hBq.out x hx; omega)
          (repeat (refine Chg.setCell ?_ (Or.inl (by simp)) _)); exact Chg.refl _
        · (repeat (refine Chg.setCell ?_ (Or.inr (by simp; omega)) _)); exact HC.out.mono (by simp)
      · have g3 : decide ((32 : Int) ≤ (k : Int)) = false := decide_eq_false (by omega)
        have HR : Hid (R = (⟨(rLit 4 es (bx s)).1.n, (rLit 4 es (bx s)).1.v, decide (16 ≤ k)⟩, (rLit 4 es (bx s)).2.1, (rLit 4 es (bx s)).2.2, es)) := Lib.hid (by rw [HRR.out, if_neg hk1, if_neg hk2, if_neg hk3])
        clear HRR
        go_wp2_with fail
        refine (rdlit_any HD.out s 4 hs).mono ?_; rintro e w5 ⟨he, c5⟩
        obtain ⟨L, hL⟩ : ∃ L, L = rLit 4 es (bx s) := ⟨_, rfl⟩
        rw [← hL] at he
        have hLz : L.1.sz ≤ 100000 := by rw [hL]; exact rLit_sz HD.out.inv (by rw [HBL.out]; exact hs)
        have HRL : Hid (rLit 4 es (bx s) = L) := Lib.hid hL.symm
        clear hL
        obtain ⟨⟨ln, lv, lb⟩, n, ok⟩ := L
        simp only [aF] at he hLz
        subst he
        have HB5 := Lib.hid (HB.out.chg c5 (by simp)); have HC5 := Lib.hid (HC.out.trans' c5); have HD5 := Lib.hid (HD.out.chg0 c5)
        have hs5 := c5.size
        clear c5 HB HC HD z0 z1 z2 zf hBl
        obtain ⟨b16, hb16⟩ : ∃ b, b = decide (16 ≤ k) := ⟨_, rfl⟩
        have g16 : decide ((16 : Int) ≤ (k : Int)) = b16 := by rw [hb16]; exact decide_eq_decide.2 (by omega)
        have HR2 : Hid (R = (⟨ln, lv, b16⟩, n, ok, es)) := Lib.hid (by rw [HR.out, HRL.out, hb16])
        clear HR HRL hb16
        go_upto_region 14 with fail
        obtain ⟨X, hX⟩ : ∃ X, X = w5.heap.size := ⟨_, rfl⟩
        have x := At.new' (w := w5) (o := FN ⟨ln, lv, b16⟩) hX.symm
        obtain ⟨w7, hw7⟩ : ∃ w7, w7 = w5.alloc (FN ⟨ln, lv, b16⟩) := ⟨_, rfl⟩
        rw [← hX, ← hw7]
        rw [← hw7] at x
        have h7 : At w7 B NO := by rw [hw7]; exact HB5.out.alloc _
        have c7 : Chg [] w5 w7 := by rw [hw7]; exact (Chg.refl _).alloc _
        have hBX : B < X := by rw [hX]; exact HB5.out.lt
        have hXl := x.lt
        have x0 : World.cell? w7 ⟨X, 0, none⟩ = some (.string ln) := x.cell rfl
        have x1 : World.cell? w7 ⟨X, 1, none⟩ = some (.string lv) := x.cell rfl
        have x2 : World.cell? w7 ⟨X, 2, none⟩ = some (.bool b16) := x.cell rfl
        have HD7 := Lib.hid (HD5.out.chg0 c7); have HC7 := Lib.hid (HC5.out.trans' c7)
        have z0 : World.cell? w7 ⟨B, 0, none⟩ = some (.string ⟨#[]⟩) := (h7).cell rfl
        have z1 : World.cell? w7 ⟨B, 1, none⟩ = some (.string ⟨#[]⟩) := (h7).cell rfl
        have z2 : World.cell? w7 ⟨B, 2, none⟩ = some (.bool false) := (h7).cell rfl
        have zf : ∀ j, World.frozen? w7 ⟨B, j, none⟩ = false := fun j => (h7).free j
        have hBl : B < (w7).heap.size := (h7).lt
        clear hw7 x h7 c7 HD5 HC5 HB5 hX
        go_wp2_with fail
        refine bodyPost_ret (v := .tuple #[.agg #[.string ln, .string lv, .bool b16], .int .i64 (n : Nat), .bool ok]) (by simp [results, Try.results62, go_sem, z0, z1, z2]) rfl ⟨sv, by rw [HR2.out]; rfl, ?_, ?_, fun x hx => Or.inl hx⟩
        · rw [HR2.out]
          refine HD7.out.chg (ls := [B]) ?_ (fun x hx he => by simp at he; have := hBq.out x hx; omega)
          (repeat (refine Chg.setCell ?_ (Or.inl (by simp)) _)); exact Chg.refl _
        · (repeat (refine Chg.setCell ?_ (Or.inr (by simp; omega)) _)); exact HC7.out.mono (by simp)
end
end Go.Proofs.Ytmoeioaahampaaa.Tb.Hp
namespace Go.Proofs.Ytmoeioaahampaaa.Tb.Hp
open Go.ChangeShapes Go.WideShapes Go.ChangeAt Go.RowKit
open Go.Proofs.Ytmoeioaahampaaa.B Go.Proofs.Ytmoeioaahampaaa.Hi Go.Proofs.Ytmoeioaahampaaa.Tb
open Go.Proofs.Ytmoeioaahampaaa.Hf (bx need enc dec bitsOf)
set_option linter.unusedVariables false
set_option linter.unusedSimpArgs false

theorem rVal_n {nm : ByteArray} {k : Nat} {l : List UInt8} (h : k ≤ l.length) : (rVal nm k l).2.1 ≤ l.length := by
  unfold rVal
  split
  · exact Nat.zero_le _
  · have := (getT_ok (l := l.drop k)).1
    rw [List.length_drop] at this
    show k + (getT (l.drop k)).2.1 ≤ _
    omega
theorem rLit_n {P : Nat} {es : List Fd} {l : List UInt8} : (rLit P es l).2.1 ≤ l.length := by
  have hn := (getI_n l (P : Int)).1
  unfold rLit
  split
  · exact Nat.zero_le _
  · split
    · split
      · exact rVal_n hn
      · exact Nat.zero_le _
    · split
      · exact Nat.zero_le _
      · refine rVal_n ?_
        have := (getT_ok (l := l.drop (getI l P).2.1)).1
        rw [List.length_drop] at this
        omega
theorem rOne_n {m : Nat} {es : List Fd} {l : List UInt8} : (rOne m es l).2.1 ≤ l.length := by
  unfold rOne
  split
  · exact (getI_n l 7).1
  · split
    · exact rLit_n
    · split
      · exact Nat.zero_le _
      · exact rLit_n
def strSz : Value → Nat
  | .string S => S.size
  | _ => 0
section
variable {W w : World} {q t : Nat} {sv : Value} {m : Nat} {es : List Fd} {limit : Nat} {list : Int} {broken : Bool}
set_option maxRecDepth 100000 in
set_option maxHeartbeats 8000000 in
theorem rdall_any (h : RD W w q t sv m es limit list false) (s : ByteArray) (hs : s.size ≤ 300) {U : List UInt8 × Bool × Nat × List Fd} (hU : updR limit (bx s).length m es (bx s) = U) {Z : List Fd × Bool × List Fd}
    (hZ : Z = finR (U.2.1 || decide (limit < U.2.2.1)) U.2.2.1 U.2.2.2 U.1) {bz : Bool} {OZ ez : List Fd} {mz : Nat} (hbz : Z.2.1 = !bz) (hOZ : OZ = if bz = true then Z.1 else []) (hmz : mz = U.2.2.1) (hez : ez = Z.2.2) :
    Calls Try.prog 50 #[.pointer (some ⟨q, 0, none⟩), .string s] w fun e w' => ∃ rv sv' m2 es2, e = .returned (.tuple #[rv, .bool bz]) ∧ OwnF w' w.heap.size rv OZ ∧ (bz = true → m2 = mz ∧ es2 = ez) ∧
      RD W w' q t sv' m2 es2 limit list false ∧ Chg (footD q t sv) w w' ∧ (∀ x ∈ footD q t sv', x ∈ footD q t sv ∨ w.heap.size ≤ x) ∧ ∀ x ∈ footD q t sv', x ∉ rv.ownBlock.toList := by
  have HH := Lib.hid h; have HU := Lib.hid hU; have HZ := Lib.hid hZ; have HBZ := Lib.hid hbz; have HOZ := Lib.hid hOZ; have HMZ := Lib.hid hmz; have HEZ := Lib.hid hez
  have hWw : W.heap.size ≤ w.heap.size := Nat.le_trans h.lo (Nat.le_of_lt h.head.lt)
  clear h hU hZ hbz hOZ hmz hez
  go_enter Try.func50, Try.ntmps50
  go_upto_block 0 with fail
  go_cut [1] (fun bv wx => ∃ S m' es' sv', bv = .string S ∧ S.size ≤ s.size ∧ U = (bx S, false, m', es') ∧ RD W wx q t sv' m' es' limit list false ∧ Chg (footD q t sv) w wx ∧ ∀ x ∈ footD q t sv', x ∈ footD q t sv ∨ w.heap.size ≤ x)
  case first =>
    go_wp2_with fail
    go_loopw [1] (fun bv wr => ∃ k S m' es' sv', bv = .string S ∧ S.size ≤ s.size ∧ (bx S).length ≤ k ∧ updR limit k m' es' (bx S) = U ∧ RD W wr q t sv' m' es' limit list false ∧ Chg (footD q t sv) w wr ∧ ∀ x ∈ footD q t sv', x ∈ footD q t sv ∨ w.heap.size ≤ x) (fun bv _ => strSz bv)
    case atStart => exact ⟨_, s, m, es, sv, rfl, Nat.le_refl _, Nat.le_refl _, HU.out, HH.out, Chg.refl _, fun x hx => Or.inl hx⟩
    case round =>
      clear HH HU
      obtain ⟨kf, S, m', es', sv', rfl, hSs, hkf, hUk, hD, hC, hF⟩ := hrel
      have hbl : (bx S).length = S.size := by simp [bx]
      by_cases hS0 : 0 < S.size
      · skip
        obtain ⟨c, hc⟩ : ∃ c, c = S[0] := ⟨_, rfl⟩
        have hhd : (bx S).headD 0 = c := by
          have := str_drop S 0 hS0
          rw [List.drop_zero] at this
          unfold bx; rw [this, hc]; rfl
        have hcc : (S[0].toNat : Int) = (c.toNat : Int) := by rw [hc]
        obtain ⟨k, hk⟩ : ∃ k : Nat, k = c.toNat := ⟨_, rfl⟩
        have hk6 : k < 256 := by rw [hk]; exact c.toNat_lt
        rw [← hk] at hcc
        have h0I : (0 : Int) < (S.size : Int) := by omega
        have h0d : decide (0 < S.size) = true := decide_eq_true hS0
        clear hc
        by_cases hk1 : 32 ≤ k
        · have g1 : decide ((32 : Int) ≤ (k : Int)) = true := decide_eq_true (by omega)
          by_cases hk2 : k < 64
          · have g2 : decide ((k : Int) < 64) = true := decide_eq_true (by omega)
            obtain ⟨k1, rfl⟩ : ∃ k1, kf = k1 + 1 := ⟨kf - 1, by omega⟩
            rw [updR_step (by omega) (by rw [hhd, ← hk]; omega)] at hUk
            have hgn := getI_n (bx S) 5
            have hle := getI_le (bx S) 5
            obtain ⟨G, hG⟩ : ∃ G, G = getI (bx S) 5 := ⟨_, rfl⟩
            rw [← hG] at hUk hgn hle
            have HG : Hid (getI S.data.toList 5 = G) := Lib.hid hG.symm
            obtain ⟨V, n, E⟩ := G
            simp only at hgn hle hUk
            have HUK := Lib.hid hUk; have HD := Lib.hid hD; have HC := Lib.hid hC; have HF := Lib.hid hF
            have hnS : n ≤ S.size := by omega
            have hn1 : E = 0 → 1 ≤ n := hgn.2
            have HN1 := Lib.hid hn1
            clear hG hUk hD hC hF hhd hk hgn hn1
            go_wp2_with fail
            refine (rgetint_any S 5 (by omega) _).mono ?_; rintro e w2 ⟨he, hw2⟩
            rw [hw2]
            clear hw2
            rw [HG.out] at he
            subst he
            have x1 : World.cell? wr ⟨q, 1, none⟩ = some (.int .i64 limit) := HD.out.head.cell rfl
            by_cases hE : E = 0
            · have gE : ((E : Int) != 0) = false := by simp [hE]
              by_cases hV : limit < V
              · have gV : decide (limit < V) = true := decide_eq_true hV
                have hUU : Hid (U.2.1 = true) := Lib.hid (by rw [← HUK.out, if_pos (Or.inr hV)])
                clear HUK
                go_wp2_with fail
                go_ret2
                have hz : Z = ([], true, U.2.2.2) := by rw [HZ.out, hUU.out]; rfl
                have hb : bz = false := by have := HBZ.out; rw [hz] at this; simpa using this.symm
                have hO : OZ = [] := by rw [HOZ.out, hb]; rfl
                exact ⟨.slice none 0 0, sv', m', es', by rw [hb]; rfl, by rw [hO]; exact OwnR.nil _ _, by rw [hb]; simp, HD.out, HC.out, HF.out, by simp [Value.ownBlock]⟩
              · have gV : decide (limit < V) = false := decide_eq_false hV
                have hUU : Hid (updR limit k1 (hgt (V : Int)) (Tb.fit 0 (hgt (V : Int)) es') ((bx S).drop n) = U) := Lib.hid (by rw [← HUK.out, if_neg (fun h => h.elim (fun h => h hE) hV)])
                have hn1 := HN1.out hE
                have x0 : World.cell? wr ⟨q, 0, none⟩ = some (.pointer (some ⟨t, 0, none⟩)) := HD.out.head.cell rfl
                have hHV : hgt (V : Int) ≤ 65536 := hgt_le _
                clear HUK HN1 hE
                go_wp2_with fail
                refine (rset_any (V : Int) HD.out.tab).mono ?_; rintro e w3 ⟨rfl, c3, sv3, h3, o3⟩
                obtain ⟨r1, r2⟩ := HD.out.table c3 h3 (HD.out.inv.set hHV) (fun g hg => Or.inl (by rw [← o3]; exact hg))
                have hsz := HC.out.size
                have HC3 := Lib.hid (HC.out.trans c3 (fun x hx => HF.out x (by simp at hx; subst hx; simp [footD, foot])))
                have HF3 : Hid (∀ x ∈ footD q t sv3, x ∈ footD q t sv ∨ w.heap.size ≤ x) := Lib.hid (fun x hx => (r2 x hx).elim (HF.out x) (fun h => Or.inr (by omega)))
                have HD3 := Lib.hid r1
                have hb2 : Hid (bx (S.extract n S.size) = (bx S).drop n) := Lib.hid (bx_from S n hnS)
                have hz2 : Hid ((S.extract n S.size).size = S.size - n) := Lib.hid (by rw [ByteArray.size_extract]; omega)
                have hnI : (n : Int) ≤ (S.size : Int) := by omega
                clear r1 r2 c3 h3 o3 HD HC HF x0 x1
                go_wp2_with fail
                go_roundw
                case rel => exact ⟨k1, _, _, _, sv3, rfl, by rw [hz2.out]; omega, by rw [hb2.out, List.length_drop]; omega, by rw [hb2.out]; exact hUU.out, HD3.out, HC3.out, HF3.out⟩
                case measure => simp only [strSz]; rw [hz2.out]; omega
            · have gE : ((E : Int) != 0) = true := by simp; omega
              have hUU : Hid (U.2.1 = true) := Lib.hid (by rw [← HUK.out, if_pos (Or.inl hE)])
              clear HUK
              go_wp2_with fail
              go_ret2
              have hz : Z = ([], true, U.2.2.2) := by rw [HZ.out, hUU.out]; rfl
              have hb : bz = false := by have := HBZ.out; rw [hz] at this; simpa using this.symm
              have hO : OZ = [] := by rw [HOZ.out, hb]; rfl
              exact ⟨.slice none 0 0, sv', m', es', by rw [hb]; rfl, by rw [hO]; exact OwnR.nil _ _, by rw [hb]; simp, HD.out, HC.out, HF.out, by simp [Value.ownBlock]⟩
          · have g2 : decide ((k : Int) < 64) = false := decide_eq_false (by omega)
            have hUU : Hid (U = (bx S, false, m', es')) := Lib.hid (by rw [← hUk, updR_stop (by rw [hhd, ← hk]; omega)])
            have HD := Lib.hid hD; have HC := Lib.hid hC; have HF := Lib.hid hF
            clear hUk hD hC hF hhd hk
            go_wp2_with fail
            go_meet
            exact ⟨S, m', es', sv', rfl, hSs, hUU.out, HD.out, HC.out, HF.out⟩
        · have g1 : decide ((32 : Int) ≤ (k : Int)) = false := decide_eq_false (by omega)
          have hUU : Hid (U = (bx S, false, m', es')) := Lib.hid (by rw [← hUk, updR_stop (by rw [hhd, ← hk]; omega)])
          have HD := Lib.hid hD; have HC := Lib.hid hC; have HF := Lib.hid hF
          clear hUk hD hC hF hhd hk
          go_wp2_with fail
          go_meet
          exact ⟨S, m', es', sv', rfl, hSs, hUU.out, HD.out, HC.out, HF.out⟩
      · have h0I : ¬ (0 : Int) < (S.size : Int) := by omega
        have h0d : decide (0 < S.size) = false := decide_eq_false hS0
        have hUU : Hid (U = (bx S, false, m', es')) := Lib.hid (by rw [← hUk, updR_stop (by omega)])
        have HD := Lib.hid hD; have HC := Lib.hid hC; have HF := Lib.hid hF
        clear hUk hD hC hF
        go_wp2_with fail
        go_meet
        exact ⟨S, m', es', sv', rfl, hSs, hUU.out, HD.out, HC.out, HF.out⟩
  case rest =>
    obtain ⟨S, m', es', sv', rfl, hSs, rfl, hD, hC, hF⟩ := hcut
    simp only [Bool.false_or] at HZ
    have HD := Lib.hid hD; have HC := Lib.hid hC; have HF := Lib.hid hF
    clear hD hC hF HU HH
    have x0 : World.cell? wc ⟨q, 0, none⟩ = some (.pointer (some ⟨t, 0, none⟩)) := HD.out.head.cell rfl
    have x1 : World.cell? wc ⟨q, 1, none⟩ = some (.int .i64 limit) := HD.out.head.cell rfl
    have x2 : World.cell? wc ⟨t, 1, none⟩ = some (.int .i64 m') := HD.out.tab.head.cell rfl
    by_cases hlm : limit < m'
    · have gL : decide (limit < m') = true := decide_eq_true hlm
      go_wp2_with fail
      go_quiet (fail)
      go_wp2_with fail
      go_ret2
      have hz : Z = ([], true, es') := by rw [HZ.out, decide_eq_true hlm]; rfl
      have hb : bz = false := by have := HBZ.out; rw [hz] at this; simpa using this.symm
      have hO : OZ = [] := by rw [HOZ.out, hb]; rfl
      exact ⟨.slice none 0 0, sv', m', es', by rw [hb]; rfl, by rw [hO]; exact OwnR.nil _ _, by rw [hb]; simp, HD.out.chg0 ((Chg.refl _).drewN _), HC.out.drewN _, HF.out, by simp [Value.ownBlock]⟩
    · have gL : decide (limit < m') = false := decide_eq_false hlm
      have hz : Hid (Z = fldR m' (bx S).length es' (bx S)) := Lib.hid (by rw [HZ.out, decide_eq_false hlm]; rfl)
      clear HZ
      go_upto_region 9 with fail
      go_quiet (fail)
      have HD1 := Lib.hid (HD.out.chg0 ((Chg.refl wc).drewN nq)); have HC1 := Lib.hid (HC.out.drewN nq)
      clear HD HC x0 x1 x2
      generalize wc.drewN nq = w1 at *
      have hw1 : w.heap.size ≤ w1.heap.size := HC1.out.size
      have HO1 : Hid (OwnF (w1.alloc (.cells #[] 44)) w.heap.size (.slice (some ⟨w1.heap.size, 0, none⟩) 0 0) []) := Lib.hid (Go.Proofs.Ytmoeioaahampaaa.Tb.OwnR.none hw1)
      have HAP1 : Hid (∀ x ∈ footD q t sv', x ∉ (Value.slice (some ⟨w1.heap.size, 0, none⟩) 0 0).ownBlock.toList) := Lib.hid (fun x hx hy => by
        have := HD1.out.lt x hx
        simp [Value.ownBlock] at hy; omega)
      have HD2 := Lib.hid (HD1.out.chg0 ((Chg.refl w1).alloc (.cells #[] 44))); have HC2 := Lib.hid (HC1.out.alloc (.cells #[] 44))
      have hbS : (bx S).length = S.size := by simp [bx]
      clear HD1 HC1
      go_wp2_with fail
      go_loopw [1, 9] (fun bv ov wr => ∃ k S2 es2 sv2 acc, bv = .string S2 ∧ (bx S2).length ≤ k ∧ acc.length + S2.size ≤ 300 ∧ OwnF wr w.heap.size ov acc ∧ (acc ++ (fldR m' k es2 (bx S2)).1, (fldR m' k es2 (bx S2)).2.1, (fldR m' k es2 (bx S2)).2.2) = Z ∧ RD W wr q t sv2 m' es2 limit list false ∧ Chg (footD q t sv) w wr ∧ (∀ x ∈ footD q t sv2, x ∈ footD q t sv ∨ w.heap.size ≤ x) ∧ ∀ x ∈ footD q t sv2, x ∉ ov.ownBlock.toList) (fun bv _ _ => strSz bv)
      case atStart => exact ⟨(bx S).length, S, es', sv', [], rfl, Nat.le_refl _, by simp; omega, HO1.out, by rw [hz.out]; rfl, HD2.out, HC2.out, HF.out, HAP1.out⟩
      case round =>
        clear HO1 HAP1 HD2 HC2 HF hz hbS
        obtain ⟨kf, S2, es2, sv2, acc, rfl, hkf, hacc, hO, hZZ, hD, hC, hF, hA⟩ := hrel
        have hbl : (bx S2).length = S2.size := by simp [bx]
        by_cases hS0 : 0 < S2.size
        · have h0I : (0 : Int) < (S2.size : Int) := by omega
          have h0d : decide (0 < S2.size) = true := decide_eq_true hS0
          obtain ⟨k1, rfl⟩ : ∃ k1, kf = k1 + 1 := ⟨kf - 1, by omega⟩
          rw [fldR_step (by omega)] at hZZ
          obtain ⟨f1, f2⟩ := rOne_field (m := m') (es := es2) (l := bx S2)
          have hlen := fieldR_len (m := m') (es := es2) (l := bx S2)
          have hnn := rOne_n (m := m') (es := es2) (l := bx S2)
          obtain ⟨R, hR⟩ : ∃ R, R = rOne m' es2 (bx S2) := ⟨_, rfl⟩
          rw [← hR] at f1 f2 hnn
          obtain ⟨⟨fn, fv, fb⟩, n, ok, es3⟩ := R
          simp only at f1 f2 hnn
          have HR := Lib.hid hR.symm; have HO := Lib.hid hO; have HD := Lib.hid hD; have HC := Lib.hid hC; have HF := Lib.hid hF; have HA := Lib.hid hA; have HZZ := Lib.hid hZZ; have F1 := Lib.hid f1; have F2 := Lib.hid f2; have HLN := Lib.hid hlen
          have hsw := hC.size
          clear hR hO hD hC hF hA hZZ f1 f2 hlen
          go_wp2_with fail
          refine (rdone_any HD.out S2 hS0 (by omega)).mono ?_; rintro e w3 ⟨sv3, he, h3, c3, f3⟩
          rw [HR.out] at he h3
          simp only [aF] at he h3
          subst he
          have hs3 := c3.size
          have HD3 := Lib.hid h3
          have HO3 := Lib.hid (OwnR.chg HO.out c3 (fun g hg hx => HA.out g (by simp at hx; subst hx; simp [footD, foot]) (by simp [hg])))
          have HC3 := Lib.hid (HC.out.trans c3 (fun x hx => HF.out x (by simp at hx; subst hx; simp [footD, foot])))
          have HF3 : Hid (∀ x ∈ footD q t sv3, x ∈ footD q t sv ∨ w.heap.size ≤ x) := Lib.hid (fun x hx => (f3 x hx).elim (HF.out x) (fun h => Or.inr (by omega)))
          have HA3 : Hid (∀ x ∈ footD q t sv3, x ∉ (Value.ownBlock u9).toList) := Lib.hid (fun x hx hy => (f3 x hx).elim (fun h => HA.out x h hy) (fun h => by have := OwnR.lt HO.out x hy; omega))
          clear h3 c3 f3 HD HO HC HF HA
          cases ok with
          | false =>
            have hzb : Hid (Z.2.1 = true) := Lib.hid (by
              rw [← HZZ.out, F1.out]; simp)
            clear HZZ F1 F2
            go_wp2_with fail
            go_ret2
            have hb : bz = false := by have := HBZ.out; rw [hzb.out] at this; simpa using this.symm
            have hO : OZ = [] := by rw [HOZ.out, hb]; rfl
            exact ⟨.slice none 0 0, sv3, m', es3, by rw [hb]; rfl, by rw [hO]; exact OwnR.nil _ _, by rw [hb]; simp, HD3.out.chg0 ((Chg.refl _).alloc _), HC3.out.alloc _, HF3.out, by simp [Value.ownBlock]⟩
          | true =>
            obtain ⟨e1, e2, e3⟩ := F2.out rfl
            have hbf : (fieldR m' es2 (bx S2)).2.2.1 = false := by rw [F1.out]; rfl
            have hl2 := HLN.out hbf
            rw [e2, List.length_drop] at hl2
            have HZ2 : Hid ((acc ++ ⟨fn, fv, fb⟩ :: (fldR m' k1 es3 ((bx S2).drop n)).1, (fldR m' k1 es3 ((bx S2).drop n)).2.1, (fldR m' k1 es3 ((bx S2).drop n)).2.2) = Z) := Lib.hid (by
              rw [← HZZ.out, if_neg (by rw [hbf]; simp), e1, e2, e3])
            clear HZZ F1 F2 HLN e1 e2 e3 hbf
            go_upto_region 14 with fail
            obtain ⟨X, hX⟩ : ∃ X, X = w3.heap.size := ⟨_, rfl⟩
            have x := At.new' (w := w3) (o := FN ⟨fn, fv, fb⟩) hX.symm
            obtain ⟨w4, hw4⟩ : ∃ w4, w4 = w3.alloc (FN ⟨fn, fv, fb⟩) := ⟨_, rfl⟩
            rw [← hX, ← hw4]
            rw [← hw4] at x
            have c4 : Chg [] w3 w4 := by rw [hw4]; exact (Chg.refl _).alloc _
            have y0 : World.cell? w4 ⟨X, 0, none⟩ = some (.string fn) := x.cell rfl
            have y1 : World.cell? w4 ⟨X, 1, none⟩ = some (.string fv) := x.cell rfl
            have y2 : World.cell? w4 ⟨X, 2, none⟩ = some (.bool fb) := x.cell rfl
            have hs4 := c4.size
            have HD4 := Lib.hid (HD3.out.chg0 c4); have HO4 := Lib.hid (OwnR.chg0 HO3.out c4); have HC4 := Lib.hid (HC3.out.trans' (c4.mono (by simp)))
            clear x c4 hw4 hX HD3 HO3 HC3
            go_wp2_with (at_builtin; refine app_row encF_len encF_one 26 Try.underlying26 infoF rfl (by decide) rfl _ _ rfl w.heap.size u9 acc rfl (OwnR.alloc HO4.out (FN ⟨fn, fv, fb⟩)) _ [⟨fn, fv, fb⟩] rfl (one_field w4 ⟨fn, fv, fb⟩) (by simp [maxLen]; omega) (by simp; omega) (by simp; omega) ?_)
            intro v' w6 hown' hch' hfr'
            have hv6 := hch'.size
            have HO6 := Lib.hid hown'
            have HD6 := Lib.hid ((HD4.out.chg0 ((Chg.refl _).alloc (FN ⟨fn, fv, fb⟩))).chg hch' HA3.out)
            have HC6 := Lib.hid ((HC4.out.alloc (FN ⟨fn, fv, fb⟩)).trans hch' (fun x hx => Or.inr (OwnR.lo HO4.out x hx)))
            have HA6 : Hid (∀ x ∈ footD q t sv3, x ∉ v'.ownBlock.toList) := Lib.hid (fun x hx hy => by
              rcases hfr' x (by simpa using hy) with h | h
              · exact HA3.out x hx (by simp [h])
              · have := HD4.out.lt x hx
                omega)
            have hb2 : Hid (bx (S2.extract n S2.size) = (bx S2).drop n) := Lib.hid (bx_from S2 n (by omega))
            have hz2 : Hid ((S2.extract n S2.size).size = S2.size - n) := Lib.hid (by rw [ByteArray.size_extract]; omega)
            have hnI : (n : Int) ≤ (S2.size : Int) := by omega
            clear hown' hch' hfr' HD4 HO4 HC4 HA3 y0 y1 y2
            go_wp2_with fail
            go_roundw
            case rel => exact ⟨k1, _, es3, sv3, acc ++ [⟨fn, fv, fb⟩], rfl, by rw [hb2.out, List.length_drop]; omega, by rw [hz2.out, List.length_append]; simp; omega, HO6.out, by rw [hb2.out, ← HZ2.out]; simp, HD6.out, HC6.out, HF3.out, HA6.out⟩
            case measure => simp only [strSz]; rw [hz2.out]; omega
        · have h0I : ¬ (0 : Int) < (S2.size : Int) := by omega
          have h0d : decide (0 < S2.size) = false := decide_eq_false hS0
          have hzz : Hid (Z = (acc, false, es2)) := Lib.hid (by rw [← hZZ, fldR_stop (by omega)]; simp)
          have HO := Lib.hid hO; have HD := Lib.hid hD; have HC := Lib.hid hC; have HF := Lib.hid hF; have HA := Lib.hid hA
          obtain ⟨oa, oc, rfl, _, _⟩ := OwnR.slice hO
          clear hO hD hC hF hA hZZ
          go_wp2_with fail
          go_ret2
          have hb : bz = true := by have := HBZ.out; rw [hzz.out] at this; simpa using this.symm
          have hO : OZ = acc := by rw [HOZ.out, hb, hzz.out]; rfl
          exact ⟨.slice oa acc.length oc, by rw [hb]; rfl, by rw [hO]; exact HO.out, sv2, m', es2, fun _ => ⟨by rw [HMZ.out], by rw [HEZ.out, hzz.out]⟩, HD.out, HC.out, HF.out, fun x hx h => HA.out x hx (by simp [h])⟩
end
end Go.Proofs.Ytmoeioaahampaaa.Tb.Hp
namespace Go.Proofs.Ytmoeioaahampaaa.Tb.Hp
open Go.ChangeShapes Go.WideShapes Go.ChangeAt Go.RowKit
open Go.Proofs.Ytmoeioaahampaaa.B Go.Proofs.Ytmoeioaahampaaa.Hi Go.Proofs.Ytmoeioaahampaaa.Tb
open Go.Proofs.Ytmoeioaahampaaa.Hf (bx need enc dec bitsOf)
set_option linter.unusedVariables false
set_option linter.unusedSimpArgs false

section
variable {W w : World} {q t : Nat} {sv : Value} {m : Nat} {es : List Fd} {limit : Nat} {list : Int} {broken : Bool}
theorem RD.break (h : RD W w q t sv m es limit list broken) : RD W (w.setCell ⟨q, 3, none⟩ (.bool true)) q t sv m es limit list true ∧ Chg [q] w (w.setCell ⟨q, 3, none⟩ (.bool true)) := by
  have hc : Chg [q] w (w.setCell ⟨q, 3, none⟩ (.bool true)) := (Chg.refl w).setCell (Or.inl (by simp)) _
  exact ⟨⟨h.head.set 3 _, h.tab.chg hc (fun x hx he => h.qt (by simp at he; exact he ▸ hx)), h.lo, h.inv, h.qt, h.b1⟩, hc⟩
set_option maxRecDepth 100000 in
set_option maxHeartbeats 8000000 in
theorem rddecode_any (h : RD W w q t sv m es limit list broken) (s : ByteArray) (hs : s.size ≤ 300) {DF DS : List Fd} {DE DM : Nat} {DB : Bool} (hD : decB m es limit list broken (bx s) = (DF, DE, DB, DM, DS)) :
    Calls Try.prog 26 #[.pointer (some ⟨q, 0, none⟩), .string s] w fun e w' => ∃ rv sv' m2 es2, e = .returned (.tuple #[rv, .int .i64 (DE : Nat)]) ∧ OwnF w' w.heap.size rv DF ∧ (DB = false → m2 = DM ∧ es2 = DS) ∧
      RD W w' q t sv' m2 es2 limit list DB ∧ Chg (footD q t sv) w w' ∧ (∀ x ∈ footD q t sv', x ∈ footD q t sv ∨ w.heap.size ≤ x) ∧ ∀ x ∈ footD q t sv', x ∉ rv.ownBlock.toList := by
  have x3 : World.cell? w ⟨q, 3, none⟩ = some (.bool broken) := h.head.cell rfl
  cases broken with
  | true =>
    rw [decB_broken] at hD
    have HD := Lib.hid hD; have HH := Lib.hid h
    clear hD h
    go_enter Try.func26, Try.ntmps26
    go_wp2_with fail
    go_ret2
    have hd := HD.out
    simp only [Prod.mk.injEq] at hd
    obtain ⟨rfl, rfl, rfl, rfl, rfl⟩ := hd
    exact ⟨.slice none 0 0, sv, m, es, rfl, OwnR.nil _ _, by simp, HH.out, Chg.refl _, fun x hx => Or.inl hx, by simp [Value.ownBlock]⟩
  | false =>
    obtain ⟨U, hU⟩ : ∃ U, updR limit (bx s).length m es (bx s) = U := ⟨_, rfl⟩
    obtain ⟨Z, hZ⟩ : ∃ Z, Z = finR (U.2.1 || decide (limit < U.2.2.1)) U.2.2.1 U.2.2.2 U.1 := ⟨_, rfl⟩
    rw [decB_fin (l1 := U.1) (bad := U.2.1) (m1 := U.2.2.1) (es1 := U.2.2.2) hU hZ] at hD
    have hWw : W.heap.size ≤ w.heap.size := Nat.le_trans h.lo (Nat.le_of_lt h.head.lt)
    have hbs : (bx s).length = s.size := by simp [bx]
    have hui := updR_inv (limit := limit) (bx s).length m es (bx s) h.inv
    rw [hU] at hui
    cases hb : Z.2.1 with
    | true =>
      rw [if_pos hb] at hD
      have HD := Lib.hid hD; have HH := Lib.hid h; have HU := Lib.hid hU; have HZ := Lib.hid hZ; have HB := Lib.hid hb
      clear hD h hU hZ hb hui
      go_enter Try.func26, Try.ntmps26
      go_wp2_with fail
      refine (rdall_any HH.out s hs HU.out HZ.out (bz := false) (OZ := []) (by rw [HB.out]; rfl) rfl rfl rfl).mono ?_; rintro e w1 ⟨rv, sv1, m2, es2, rfl, o1, _, d1, c1, f1, a1⟩
      have x3 : World.cell? w1 ⟨q, 3, none⟩ = some (.bool false) := d1.head.cell rfl
      have xf : World.frozen? w1 ⟨q, 3, none⟩ = false := d1.head.free 3
      have hql := d1.head.lt
      have D1 := Lib.hid d1; have C1 := Lib.hid c1; have F1 := Lib.hid f1
      clear o1 d1 c1 f1 a1
      go_wp2_with fail
      go_ret2
      have hd := HD.out
      simp only [Prod.mk.injEq] at hd
      obtain ⟨rfl, rfl, rfl, rfl, rfl⟩ := hd
      obtain ⟨r1, r2⟩ := D1.out.break
      exact ⟨.slice none 0 0, sv1, m2, es2, rfl, OwnR.nil _ _, by simp, r1, C1.out.trans r2 (fun x hx => F1.out x (by simp at hx; subst hx; simp [footD])), F1.out, by simp [Value.ownBlock]⟩
    | false =>
      rw [if_neg (by rw [hb]; simp)] at hD
      obtain ⟨L, hL⟩ : ∃ L, L = Z.1 := ⟨_, rfl⟩
      have htot : tot L ≤ 600032 * 300 := by
        have hz : Z = fldR U.2.2.1 U.1.length U.2.2.2 U.1 := by
          rw [hZ]; unfold finR
          cases hc : (U.2.1 || decide (limit < U.2.2.1)) with
          | true =>
            rw [hZ, hc] at hb
            simp [finR] at hb
          | false => rfl
        have := fldR_tot U.1.length U.2.2.2 U.1 hui.1 (by have := hui.2; omega)
        rw [← hz, ← hL] at this
        have h2 := hui.2
        have h3 : 600032 * U.1.length ≤ 600032 * 300 := Nat.mul_le_mul_left _ (by omega)
        omega
      have hLl := tot_len L
      rw [← hL] at hD
      obtain ⟨N, hN⟩ : ∃ N, N = tot L := ⟨_, rfl⟩
      rw [← hN] at hD htot hLl
      have HD := Lib.hid hD; have HH := Lib.hid h; have HU := Lib.hid hU; have HZ := Lib.hid hZ; have HB := Lib.hid hb; have HLL := Lib.hid hL; have HN := Lib.hid hN
      clear hD h hU hZ hb hui hL hN
      go_enter Try.func26, Try.ntmps26
      go_wp2_with fail
      refine (rdall_any HH.out s hs HU.out HZ.out (bz := true) (OZ := L) (by rw [HB.out]; rfl) (by rw [HLL.out]; rfl) rfl rfl).mono ?_; rintro e w1 ⟨rv, sv1, m2, es2, rfl, o1, e1, d1, c1, f1, a1⟩
      obtain ⟨oa, oc, rfl, hoc, hocm⟩ := OwnR.slice o1
      unfold maxLen at hocm
      have D1 := Lib.hid d1; have C1 := Lib.hid c1; have F1 := Lib.hid f1; have O1 := Lib.hid o1; have A1 := Lib.hid a1; have E1 := Lib.hid e1
      clear o1 d1 c1 f1 a1 e1 x3
      go_wp2_with fail
      go_loopw [8, 9] (fun nv iv wr => ∃ k : Nat, k ≤ L.length ∧ (∃ n : Nat, n = tot (L.take k) ∧ n ≤ N ∧ nv = .int .i64 n) ∧ iv = .int .i64 k ∧ Chg [] w1 wr) (fun _ iv _ => L.length - (intOf iv).toNat)
      case atStart => exact ⟨0, Nat.zero_le _, ⟨0, rfl, Nat.zero_le _, rfl⟩, rfl, Chg.refl _⟩
      case round =>
        obtain ⟨k, hk, ⟨n, hn, hnN, rfl⟩, rfl, hc⟩ := hrel
        by_cases hlt : k < L.length
        · have hkI : (k : Int) < (L.length : Int) := by omega
          obtain ⟨f, hf⟩ : ∃ f, L[k]? = some f := ⟨_, List.getElem?_eq_getElem hlt⟩
          obtain ⟨b1, o1, rfl, hb1, hce⟩ := FdsOf.cells ((OwnR.sl encF_len (by decide) O1.out).chg0 hc) (by omega)
          obtain ⟨d0, d1, d2⟩ := hce k f hf
          have hst : n + f.sz = tot (L.take (k + 1)) := by rw [tot_take_succ hf, hn]
          have hle := tot_take_le L (k + 1)
          rw [← HN.out, ← hst] at hle
          obtain ⟨z, hz⟩ : ∃ z, z = f.sz := ⟨_, rfl⟩
          rw [← hz] at hst hle
          have HST := Lib.hid hst; have HZZ := Lib.hid hz; have HC := Lib.hid hc
          clear hst hz hc hce hf hn
          go_wp2_with fail
          refine (rsize_any f _ (by rw [← HZZ.out]; omega)).mono ?_; rintro e w6 ⟨he, hw6⟩
          rw [← HZZ.out] at he
          subst he
          have hc6 : Chg [] w1 w6 := by rw [hw6]; exact HC.out.alloc _
          have HC6 := Lib.hid hc6
          clear hw6 hc6 HC d0 d1 d2
          go_wp2_with fail
          go_roundw
          case rel => exact ⟨k + 1, by omega, ⟨n + z, HST.out, hle, by go_num⟩, by go_num, HC6.out⟩
          case measure => simp [intOf]; omega
        · obtain rfl : k = L.length := by omega
          rw [List.take_length, ← HN.out] at hn
          rw [hn]
          have x2 : World.cell? wr ⟨q, 2, none⟩ = some (.int .i64 list) := (D1.out.head.chg hc (by simp)).cell rfl
          have HC := Lib.hid hc
          clear hc hn hnN
          by_cases hlN : list < (N : Int)
          · have gl : decide (list < (N : Int)) = true := decide_eq_true hlN
            have HD2 := Lib.hid (show _ from (by have := HD.out; rw [if_pos hlN] at this; exact this) : ([], 4, false, U.2.2.1, Z.2.2) = (DF, DE, DB, DM, DS))
            clear HD
            go_wp2_with fail
            go_ret2
            have hd := HD2.out
            simp only [Prod.mk.injEq] at hd
            obtain ⟨rfl, rfl, rfl, rfl, rfl⟩ := hd
            exact ⟨.slice none 0 0, sv1, m2, es2, rfl, OwnR.nil _ _, fun _ => by first | exact E1.out rfl | exact E1.out trivial, D1.out.chg0 HC.out, C1.out.trans' (HC.out.mono (by simp)), F1.out, by simp [Value.ownBlock]⟩
          · have gl : decide (list < (N : Int)) = false := decide_eq_false hlN
            have HD2 := Lib.hid (show _ from (by have := HD.out; rw [if_neg hlN] at this; exact this) : (L, 0, false, U.2.2.1, Z.2.2) = (DF, DE, DB, DM, DS))
            clear HD
            go_wp2_with fail
            go_ret2
            have hd := HD2.out
            simp only [Prod.mk.injEq] at hd
            obtain ⟨rfl, rfl, rfl, rfl, rfl⟩ := hd
            exact ⟨.slice oa L.length oc, rfl, OwnR.chg0 O1.out HC.out, sv1, m2, es2, fun _ => by first | exact E1.out rfl | exact E1.out trivial, D1.out.chg0 HC.out, C1.out.trans' (HC.out.mono (by simp)), F1.out, fun x hx h => A1.out x hx (by simp [h])⟩
end
end Go.Proofs.Ytmoeioaahampaaa.Tb.Hp
