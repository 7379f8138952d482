/-
  The document's encoder in memory: its table, the calls of SetMax, one field, a block.
-/
import Derived.Test.YtmoeioaahampaaaOwnR
import Derived.Test.YtmoeioaahampaaaHdM
import Derived.Test.YtmoeioaahampaaaRTab2
import Derived.Deep.RegionHeldLaw
import Derived.Test.YtmoeioaahampaaaArgO
namespace Go.Proofs.Ytmoeioaahampaaa.B
open Go.ChangeShapes Go.WideShapes Go.ChangeAt Go.RowKit

section
variable {α : Type} {enc : α → List Value} {size : Nat}
theorem flat_set (he : ∀ x, (enc x).length = size) : ∀ {l : List α} {i j : Nat} {x x' : α} {v : Value}, l[i]? = some x → j < size → enc x' = (enc x).set j v → (l.flatMap enc).set (i * size + j) v = (l.set i x').flatMap enc := by
  intro l
  induction l with
  | nil => intro i j x x' v h; simp at h
  | cons a l ih =>
    intro i j x x' v h hj hv
    cases i with
    | zero =>
      simp only [List.getElem?_cons_zero, Option.some.injEq] at h
      subst h
      rw [List.set_cons_zero, List.flatMap_cons, List.flatMap_cons, hv, Nat.zero_mul, Nat.zero_add, List.set_append_left _ _ (by rw [he]; exact hj)]
    | succ i =>
      simp only [List.getElem?_cons_succ] at h
      rw [List.set_cons_succ, List.flatMap_cons, List.flatMap_cons, ← ih h hj hv]
      have e : (i + 1) * size + j = (enc a).length + (i * size + j) := by rw [he, Nat.add_mul, Nat.one_mul]; omega
      rw [e, List.set_append_right _ _ (by omega)]
      congr 2
      omega
variable {e : TypeId} {w : World} {base : Nat} {v : Value} {l : List α}
/-- The block of a row that is not empty. -/
theorem OwnR.block (h : OwnR e size enc w base v l) (h0 : 0 < l.length) : ∃ g cap cur, v = .slice (some ⟨g, 0, none⟩) l.length cap ∧ base ≤ g ∧ At w g (.cells cur e (0, 0)) ∧ l.length ≤ cap ∧ cap ≤ maxLen ∧ cur.size = cap * size ∧ cur.toList.take (l.length * size) = l.flatMap enc := by
  rcases h.2 with ⟨_, h1⟩ | ⟨g, cap, cur, h1, h2, h3, h4, h5, h6, h7⟩
  · omega
  · exact ⟨g, cap, cur, h1, h2, h3, h4, h5, h6, h7⟩
/-- One cell of one element written. -/
theorem OwnR.put (he : ∀ x, (enc x).length = size) {g cap : Nat} (h : OwnR e size enc w base (.slice (some ⟨g, 0, none⟩) l.length cap) l) {i j : Nat} {x x' : α} {u : Value} (hx : l[i]? = some x) (hj : j < size) (hv : enc x' = (enc x).set j u) :
    OwnR e size enc (w.setCell ⟨g, i * size + j, none⟩ u) base (.slice (some ⟨g, 0, none⟩) l.length cap) (l.set i x') := by
  have hi := (List.getElem?_eq_some_iff.1 hx).1
  obtain ⟨g', cap', cur, h1, h2, h3, h4, h5, h6, h7⟩ := h.block (by omega)
  cases h1
  have hlt : i * size + j < l.length * size := by
    have : (i + 1) * size ≤ l.length * size := Nat.mul_le_mul_right _ hi
    rw [Nat.add_mul, Nat.one_mul] at this; omega
  have hf := flat_set he hx hj hv
  refine ⟨by rw [flat_len he, List.length_set], Or.inr ⟨g, cap, cur.setIfInBounds (i * size + j) u, by rw [List.length_set], h2, ?_, by rw [List.length_set]; exact h4, h5, by rw [Array.size_setIfInBounds]; exact h6, ?_⟩⟩
  · exact h3.set (i * size + j) u
  · rw [List.length_set, ← hf, ← h7, Array.toList_setIfInBounds, List.take_set]
/-- The cell of an element. -/
theorem OwnR.cellAt (he : ∀ x, (enc x).length = size) {g cap n : Nat} (h : OwnR e size enc w base (.slice (some ⟨g, 0, none⟩) n cap) l) {i j : Nat} {x : α} (hx : l[i]? = some x) (hj : j < size) : w.cell? ⟨g, i * size + j, none⟩ = (enc x)[j]? := by
  have hi := (List.getElem?_eq_some_iff.1 hx).1
  obtain ⟨g', cap', cur, h1, h2, h3, h4, h5, h6, h7⟩ := h.block (by omega)
  cases h1
  have hlt : i * size + j < l.length * size := by
    have : (i + 1) * size ≤ l.length * size := Nat.mul_le_mul_right _ hi
    rw [Nat.add_mul, Nat.one_mul] at this; omega
  have h8 : (l.flatMap enc)[i * size + j]? = (enc x)[j]? := flat_get he hx hj
  rw [← h7, List.getElem?_take_of_lt hlt] at h8
  obtain ⟨y, hy⟩ : ∃ y, (enc x)[j]? = some y := ⟨_, List.getElem?_eq_getElem (by rw [he]; exact hj)⟩
  rw [hy] at h8 ⊢
  exact h3.cell (by rw [← h8, Array.getElem?_toList])
end
end Go.Proofs.Ytmoeioaahampaaa.B
namespace Go.Proofs.Ytmoeioaahampaaa.Tb.Hp
open Go.ChangeShapes Go.WideShapes Go.ChangeAt Go.RowKit
open Go.Proofs.Ytmoeioaahampaaa.B Go.Proofs.Ytmoeioaahampaaa.Hi Go.Proofs.Ytmoeioaahampaaa.Tb
open Go.Proofs.Ytmoeioaahampaaa.Hf (bx need enc dec bitsOf)
set_option linter.unusedVariables false
set_option linter.unusedSimpArgs false

/-! ### Rows of ints -/
def encN (n : Nat) : List Value := [.int .i64 n]
theorem encN_len : ∀ x, (encN x).length = 1 := fun _ => rfl
theorem encN_one : ∀ x, ∀ u ∈ encN x, u.oneCell' = true := by intro x u h; simp [encN] at h; subst h; rfl
theorem infoI : (Try.prog.info? 3).map (fun i => (i.zero, i.size, i.bytes)) = some (some (.int .i64 0), 1, 8) := by kernel_rfl
abbrev OwnI (w : World) (base : Nat) (v : Value) (l : List Nat) : Prop := OwnR 3 1 encN w base v l
/-! ### What the calls of SetMax say -/
def lastN (ns : List Nat) : Nat := ns.getLastD 0
def leastN (ns : List Nat) : Nat := ns.foldl min (lastN ns)
def calledN (ns : List Nat) : Bool := !ns.isEmpty
theorem fold_spec : ∀ (l : List Nat) (a : Nat), l.foldl min a ≤ a ∧ (∀ x ∈ l, l.foldl min a ≤ x) ∧ (l.foldl min a = a ∨ l.foldl min a ∈ l) := by
  intro l
  induction l with
  | nil => intro a; simp
  | cons y l ih =>
    intro a
    obtain ⟨h1, h2, h3⟩ := ih (min a y)
    rw [List.foldl_cons]
    refine ⟨by omega, fun x hx => ?_, ?_⟩
    · rcases List.mem_cons.1 hx with rfl | hx
      · omega
      · exact h2 x hx
    · rcases h3 with h3 | h3
      · rw [h3]
        rcases Nat.le_total a y with h | h
        · exact Or.inl (Nat.min_eq_left h)
        · exact Or.inr (by rw [Nat.min_eq_right h]; simp)
      · exact Or.inr (List.mem_cons_of_mem _ h3)
theorem lastN_snoc (ns : List Nat) (h : Nat) : lastN (ns ++ [h]) = h := by simp [lastN]
theorem lastN_mem {ns : List Nat} (h : calledN ns = true) : lastN ns ∈ ns := by
  cases ns with
  | nil => simp [calledN] at h
  | cons a l =>
    unfold lastN
    rw [List.getLastD_eq_getLast?, List.getLast?_eq_some_getLast (by simp)]
    exact List.getLast_mem _
theorem calledN_snoc (ns : List Nat) (h : Nat) : calledN (ns ++ [h]) = true := by simp [calledN]
theorem leastN_snoc (ns : List Nat) (h : Nat) : leastN (ns ++ [h]) = if calledN ns = true then min (leastN ns) h else h := by
  unfold leastN
  rw [lastN_snoc, List.foldl_append]
  simp only [List.foldl_cons, List.foldl_nil]
  obtain ⟨a1, a2, a3⟩ := fold_spec ns h
  split
  · rename_i hc
    have hl := lastN_mem hc
    obtain ⟨b1, b2, b3⟩ := fold_spec ns (lastN ns)
    have b4 : ns.foldl min (lastN ns) ∈ ns := by
      rcases b3 with b3 | b3
      · rw [b3]; exact hl
      · exact b3
    have c1 := a2 _ b4
    rcases a3 with a3 | a3
    · omega
    · have c2 := b2 _ a3
      omega
  · rename_i hc
    cases ns with
    | nil => simp
    | cons a l => simp [calledN] at hc
theorem leastN_le (ns : List Nat) : leastN ns ≤ lastN ns := (fold_spec ns (lastN ns)).1
theorem encB_not (m : Nat) (es l : List Fd) (a b a' b' : Nat) : encB m es a b false l = encB m es a' b' false l := rfl
/-! ### The encoder -/
def footE (q t : Nat) (sv cv : Value) : List Nat := q :: (foot t sv ++ cv.ownBlock.toList)
structure RE (W w : World) (q t : Nat) (sv cv : Value) (m : Nat) (es : List Fd) (ns : List Nat) : Prop where
  head : At w q (.cells #[.pointer (some ⟨t, 0, none⟩), cv] 90 (0, 0))
  tab : RT w W.heap.size t sv m es.reverse
  row : OwnI w W.heap.size cv ns
  lo : W.heap.size ≤ q
  inv : Inv m es
  b : ∀ n ∈ ns, n ≤ 65536
  qt : q ∉ foot t sv
  rt : ∀ g ∈ cv.ownBlock.toList, g ∉ foot t sv
  qr : q ∉ cv.ownBlock.toList
section
variable {W w w' : World} {q t : Nat} {sv cv : Value} {m : Nat} {es : List Fd} {ns : List Nat}
theorem RE.chg {ls : List Nat} (h : RE W w q t sv cv m es ns) (hc : Chg ls w w') (hd : ∀ x ∈ footE q t sv cv, x ∉ ls) : RE W w' q t sv cv m es ns :=
  ⟨h.head.chg hc (hd q (by simp [footE])), h.tab.chg hc (fun x hx => hd x (by simp [footE, hx])), OwnR.chg h.row hc (fun g hg => hd g (by simp [footE, hg])), h.lo, h.inv, h.b, h.qt, h.rt, h.qr⟩
theorem RE.chg0 (h : RE W w q t sv cv m es ns) (hc : Chg [] w w') : RE W w' q t sv cv m es ns := h.chg hc (fun _ _ => by simp)
theorem RE.los (h : RE W w q t sv cv m es ns) : ∀ x ∈ footE q t sv cv, W.heap.size ≤ x := fun x hx => by
  unfold footE at hx
  rcases List.mem_cons.1 hx with rfl | hx
  · exact h.lo
  · rcases List.mem_append.1 hx with hx | hx
    · exact h.tab.foot_lo x hx
    · exact OwnR.lo h.row x hx
theorem RE.lt (h : RE W w q t sv cv m es ns) : ∀ x ∈ footE q t sv cv, x < w.heap.size := fun x hx => by
  unfold footE at hx
  rcases List.mem_cons.1 hx with rfl | hx
  · exact h.head.lt
  · rcases List.mem_append.1 hx with hx | hx
    · exact h.tab.foot_lt x hx
    · exact OwnR.lt h.row x hx
/-- The table is another one. -/
theorem RE.table {sv' : Value} {m' : Nat} {es' : List Fd} (h : RE W w q t sv cv m es ns) (hc : Chg [t] w w') (ht : RT w' W.heap.size t sv' m' es'.reverse) (hi : Inv m' es') (hs : ∀ g ∈ sv'.ownBlock.toList, g ∈ sv.ownBlock.toList ∨ w.heap.size ≤ g) :
    RE W w' q t sv' cv m' es' ns := by
  have hq : q ∉ [t] := fun hx => h.qt (by simp at hx; subst hx; simp [foot])
  have hfx : ∀ x, x ∈ foot t sv' → x ∈ foot t sv ∨ w.heap.size ≤ x := fun x hx => by
    rcases List.mem_cons.1 hx with rfl | hx
    · exact Or.inl (by simp [foot])
    · exact (hs x hx).imp (fun h => List.mem_cons_of_mem _ h) id
  refine ⟨h.head.chg hc hq, ht, OwnR.chg h.row hc (fun g hg hx => h.rt g (by simp [hg]) (by simp at hx; subst hx; simp [foot])), h.lo, hi, h.b, ?_, ?_, h.qr⟩
  · intro hx
    rcases hfx q hx with h1 | h1
    · exact h.qt h1
    · have := h.head.lt; omega
  · intro g hg hx
    rcases hfx g hx with h1 | h1
    · exact h.rt g hg h1
    · have := OwnR.lt h.row g hg; omega
end
set_option maxRecDepth 100000 in
set_option maxHeartbeats 4000000 in
theorem refit_any (n : Int) (w : World) : Calls Try.prog 49 #[.int .i64 n] w fun e w' => e = .returned (.int .i64 (hgt n : Nat)) ∧ Chg [] w w' := by
  go_enter Try.func49, Try.ntmps49
  go_wp2_with fail
  refine (rnew_any n w.heap.size w (Nat.le_refl _)).mono ?_; rintro e w1 ⟨rfl, c1, sv, h1, _⟩
  have x0 : World.cell? w1 ⟨w.heap.size, 1, none⟩ = some (.int .i64 (hgt n : Nat)) := h1.head.cell rfl
  go_wp2_with fail
  go_ret
  exact ⟨rfl, c1⟩
set_option maxRecDepth 100000 in
set_option maxHeartbeats 4000000 in
theorem renew_any {W : World} (n : Int) (w : World) (hb : W.heap.size ≤ w.heap.size) :
    Calls Try.prog 30 #[.int .i64 n] w fun e w' => ∃ q t sv cv, e = .returned (.pointer (some ⟨q, 0, none⟩)) ∧ RE W w' q t sv cv (hgt n) [] [] ∧ Chg [] w w' ∧ ∀ x ∈ footE q t sv cv, w.heap.size ≤ x := by
  go_enter Try.func30, Try.ntmps30
  go_wp2_with fail
  refine (rnew_any n W.heap.size w hb).mono ?_; rintro e w1 ⟨rfl, c1, sv, h1, ho⟩
  have hlt := h1.head.lt
  have hs1 := c1.size
  have hh := hgt_le n
  have H1 := Lib.hid h1; have HO := Lib.hid ho; have HC := Lib.hid c1
  clear h1 ho c1
  go_wp2_with fail
  go_ret
  have hf : foot w.heap.size sv = [w.heap.size] := by unfold foot; rw [HO.out]; rfl
  refine ⟨w1.heap.size, w.heap.size, sv, .slice none 0 0, rfl, ⟨At.new w1 _, H1.out.chg0 ((Chg.refl _).alloc _), OwnR.nil _ _, by omega, Inv.nil hh, by simp, ?_, ?_, ?_⟩, HC.out.alloc _, ?_⟩
  · rw [hf]; simp; omega
  · simp [Value.ownBlock]
  · simp [Value.ownBlock]
  · intro x hx
    unfold footE at hx
    rw [hf] at hx
    simp [Value.ownBlock] at hx
    omega
section
variable {W w : World} {q t : Nat} {sv cv : Value} {m : Nat} {es : List Fd} {ns : List Nat}
theorem RE.calls (h : RE W w q t sv cv m es ns) {w6 : World} {cv' : Value} {N : Nat} (C6 : Chg cv.ownBlock.toList w w6) (OW : OwnI w6 W.heap.size cv' (ns ++ [N])) (FR : ∀ k ∈ cv'.ownBlock.toList, k ∈ cv.ownBlock.toList ∨ w.heap.size ≤ k) (hN : N ≤ 65536) :
    RE W (w6.setCell ⟨q, 1, none⟩ cv') q t sv cv' m es (ns ++ [N]) ∧ Chg (q :: cv.ownBlock.toList) w (w6.setCell ⟨q, 1, none⟩ cv') ∧ ∀ x ∈ footE q t sv cv', x ∈ footE q t sv cv ∨ w.heap.size ≤ x := by
  have hc : Chg [q] w6 (w6.setCell ⟨q, 1, none⟩ cv') := (Chg.refl w6).setCell (Or.inl (by simp)) _
  have hqn : q ∉ cv'.ownBlock.toList := fun hx => by
    rcases FR q hx with h1 | h1
    · exact h.qr h1
    · have := h.head.lt; omega
  refine ⟨⟨(h.head.chg C6 h.qr).set 1 _, (h.tab.chg C6 (fun x hx hy => h.rt x hy hx)).chg hc (fun x hx he => h.qt (by simp at he; exact he ▸ hx)), OwnR.chg OW hc (fun g hg hx => hqn (by simp at hx; subst hx; simp [hg])), h.lo, h.inv, ?_, h.qt, ?_, hqn⟩, ?_, ?_⟩
  · intro n hn
    rcases List.mem_append.1 hn with hn | hn
    · exact h.b n hn
    · simp at hn; omega
  · intro g hg hx
    rcases FR g hg with h1 | h1
    · exact h.rt g h1 hx
    · have := h.tab.foot_lt g hx; omega
  · exact (C6.mono (fun x hx => List.mem_cons_of_mem _ hx)).setCell (Or.inl (by simp)) _
  · intro x hx
    simp only [footE, List.mem_cons, List.mem_append] at hx ⊢
    rcases hx with h1 | h1 | h1
    · exact Or.inl (Or.inl h1)
    · exact Or.inl (Or.inr (Or.inl h1))
    · exact (FR x h1).imp (fun h => Or.inr (Or.inr h)) id
set_option maxRecDepth 100000 in
set_option maxHeartbeats 4000000 in
theorem resetmax_any (h : RE W w q t sv cv m es ns) (n : Int) (hl : ns.length ≤ 1000) :
    Calls Try.prog 31 #[.pointer (some ⟨q, 0, none⟩), .int .i64 n] w fun e w' => ∃ cv', e = .returned (.tuple #[]) ∧ RE W w' q t sv cv' m es (ns ++ [hgt n]) ∧ Chg (q :: cv.ownBlock.toList) w w' ∧ ∀ x ∈ footE q t sv cv', x ∈ footE q t sv cv ∨ w.heap.size ≤ x := by
  obtain ⟨a, cap, rfl, hc1, hc2⟩ := OwnR.slice h.row
  unfold maxLen at hc2
  have x1 : World.cell? w.drew ⟨q, 1, none⟩ = some (.slice a ns.length cap) := h.head.cell rfl
  have xf : World.frozen? w.drew ⟨q, 1, none⟩ = false := h.head.free 1
  have hql := h.head.lt
  have hWw : W.heap.size ≤ w.heap.size := Nat.le_trans h.lo (Nat.le_of_lt hql)
  have hh := hgt_le n
  obtain ⟨N, hN⟩ : ∃ N, N = hgt n := ⟨_, rfl⟩
  have HH := Lib.hid h; have HN := Lib.hid hN
  rw [← hN] at hh ⊢
  clear h hN
  go_enter Try.func31, Try.ntmps31
  go_region_law (first
    | (go_simp; go_at_call 49; go_loud (refine (refit_any n _).mono ?_; rintro e w3 ⟨he, c3⟩; rw [← HN.out] at he; subst he; have k0 : World.cell? w3 ⟨q, 1, none⟩ = some (.slice a ns.length cap) := (HH.out.head.chg ((Chg.refl w).drew.trans' c3) (by simp)).cell rfl; have k1 : World.frozen? w3 ⟨q, 1, none⟩ = false := (HH.out.head.chg ((Chg.refl w).drew.trans' c3) (by simp)).free 1; have k2 : World.cell? (w3.alloc (.cells #[.int .i64 (N : Int)] 3)) ⟨q, 1, none⟩ = some (.slice a ns.length cap) := (HH.out.head.chg (((Chg.refl w).drew.trans' c3).alloc _) (by simp)).cell rfl; have k3 : World.frozen? (w3.alloc (.cells #[.int .i64 (N : Int)] 3)) ⟨q, 1, none⟩ = false := (HH.out.head.chg (((Chg.refl w).drew.trans' c3).alloc _) (by simp)).free 1; have C3 := Lib.hid (show Chg [] w w3 from (Chg.refl w).drew.trans' c3); clear c3))
    | (refine step_row encN_len encN_one 88 Try.underlying88 infoI rfl (by decide) rfl (.tmp 8) (.tmp 11) rfl W.heap.size (.slice a ns.length cap) ns rfl (OwnR.alloc (OwnR.chg0 HH.out.row C3.out) (.cells #[.int .i64 (N : Int)] 3)) (.slice (some ⟨w3.heap.size, 0, none⟩) 1 1) [N] rfl (SliceOf.one (enc := encN) (x := N) (size := 1) rfl (cs := #[.int .i64 (N : Int)]) rfl w3) (by simp [maxLen]; omega) (by simp; omega) (by have := C3.out.size; simp; omega) ?_; intro v' w6 hown' hch' hfr'; obtain ⟨a', cap', rfl, hcc1, hcc2⟩ := OwnR.slice hown'; have hl1 : (ns ++ [N]).length = ns.length + 1 := (by simp); rw [hl1] at hown' hfr'; have C6 := Lib.hid (show Chg (Value.slice a ns.length cap).ownBlock.toList w w6 from (Chg.mono (C3.out.alloc _) (by simp)).trans' hch'); have OW := Lib.hid hown'; have FR := Lib.hid hfr'; have k0 : World.cell? w6 ⟨q, 1, none⟩ = some (.slice a ns.length cap) := (HH.out.head.chg C6.out HH.out.qr).cell rfl; have k1 : World.frozen? w6 ⟨q, 1, none⟩ = false := (HH.out.head.chg C6.out HH.out.qr).free 1; clear hown' hch' hfr')
    | fail)
  all_goals
    go_wp2_with fail
    go_end0
    have hss := C3.out.size
    obtain ⟨r1, r2, r3⟩ := HH.out.calls C6.out OW.out (fun k hk => (FR.out k (by simpa using hk)).imp (fun h => by simp [h]) (fun h => by simp at h; omega)) hh
    exact ⟨_, rfl, r1, r2, r3⟩
set_option maxRecDepth 100000 in
set_option maxHeartbeats 4000000 in
theorem reupdate_any (h : RE W w q t sv cv m es ns) (n : Nat) (hn : n ≤ 65536) :
    Calls Try.prog 52 #[.pointer (some ⟨q, 0, none⟩), .int .i64 n] w fun e w' => e = .returned (txt (upd n)) ∧ ∃ sv', RE W w' q t sv' cv n (Tb.fit 0 n es) ns ∧ Chg [t] w w' ∧ sv'.ownBlock = sv.ownBlock := by
  have x0 : World.cell? w ⟨q, 0, none⟩ = some (.pointer (some ⟨t, 0, none⟩)) := h.head.cell rfl
  have hh : hgt (n : Int) = n := by unfold hgt; omega
  obtain ⟨E, hE⟩ : ∃ E : ByteArray, E = ⟨(upd n).toArray⟩ := ⟨_, rfl⟩
  have HH := Lib.hid h; have HE := Lib.hid hE; have HG := Lib.hid hh
  have hout : txt (upd n) = .string E := by rw [hE]
  rw [hout]
  clear h hE hh hout
  go_enter Try.func52, Try.ntmps52
  go_wp2_with fail
  refine (rset_any (n : Int) HH.out.tab).mono ?_; rintro e w1 ⟨rfl, c1, sv', h1, hs⟩
  rw [HG.out] at h1
  have h2 := HH.out.table c1 h1 (HH.out.inv.set hn) (fun g hg => Or.inl (by rw [← hs]; exact hg))
  have H2 := Lib.hid h2; have HS := Lib.hid hs; have C1 := Lib.hid c1
  clear h1 h2 hs c1 x0
  go_wp2_with fail
  refine (rputint_any 32 5 (n : Int) _).mono ?_; rintro e w2 ⟨he, c2⟩
  have he2 : e = .returned (.tuple #[.string E, .int .i64 ((putI 32 5 (n : Int)).2 : Nat)]) := by rw [he, HE.out]; rfl
  subst he2
  clear he
  go_wp2_with fail
  go_ret
  exact ⟨rfl, sv', H2.out.chg0 c2, C1.out.trans' (c2.mono (by simp)), HS.out⟩
end
theorem txt_bx (s : ByteArray) : (⟨(bx s).toArray⟩ : ByteArray) = s := bx_str s
set_option maxRecDepth 100000 in
set_option maxHeartbeats 4000000 in
theorem reliteral_any (first : UInt8) (P i : Nat) (f : Fd) (w : World) (hn : f.n.size ≤ 100000) (hv : f.v.size ≤ 100000) :
    Calls Try.prog 65 #[.int .u8 (first.toNat : Int), .int .i64 P, .int .i64 i, .agg (aF f)] w fun e w' => e = .returned (txt (lit first P i f)) ∧ Chg [] w w' := by
  obtain ⟨A, hA⟩ : ∃ A : ByteArray, A = ⟨(putI first P i).1.toArray⟩ := ⟨_, rfl⟩
  obtain ⟨B, hB⟩ : ∃ B : ByteArray, B = ⟨(putT (bx f.n)).toArray⟩ := ⟨_, rfl⟩
  obtain ⟨C, hC⟩ : ∃ C : ByteArray, C = ⟨(putT (bx f.v)).toArray⟩ := ⟨_, rfl⟩
  have sA : A.size ≤ 6 := by rw [hA, ba_size]; exact putI_len _ _ _
  have e1 : (bx f.n).length = f.n.size := by simp [bx]
  have e2 : (bx f.v).length = f.v.size := by simp [bx]
  have sB : B.size ≤ 100006 := by rw [hB, ba_size]; have := putT_le (bx f.n); omega
  have sC : C.size ≤ 100006 := by rw [hC, ba_size]; have := putT_le (bx f.v); omega
  have sAB : (A ++ B).size = A.size + B.size := ByteArray.size_append
  have sABC : (A ++ B ++ C).size = A.size + B.size + C.size := by rw [ByteArray.size_append, ByteArray.size_append]
  have sAC : (A ++ C).size = A.size + C.size := ByteArray.size_append
  have hu : f.n.size ≤ 1000000 := by omega
  have hu2 : f.v.size ≤ 1000000 := by omega
  have HA := Lib.hid hA; have HB := Lib.hid hB; have HC := Lib.hid hC
  have x := At.new w (FN f)
  have y0 : World.cell? (w.alloc (FN f)) ⟨w.heap.size, 0, none⟩ = some (.string f.n) := x.cell rfl
  by_cases hi : i = 0
  · have hl : txt (lit first P i f) = .string (A ++ B ++ C) := by
      unfold lit
      rw [if_pos hi, hA, hB, hC, ba_append, ba_append, List.append_assoc]
    rw [hl]
    subst hi
    clear hl hA hB hC e1 e2 x y0
    unfold aF
    go_enter Try.func65, Try.ntmps65
    go_wp2_with fail
    refine (rputint_any first (P : Int) 0 _).mono ?_; rintro e w1 ⟨he, c1⟩
    have he2 : e = .returned (.tuple #[.string A, .int .i64 ((putI first (P : Int) 0).2 : Nat)]) := by rw [he, HA.out]; rfl
    subst he2
    have b1 := (At.new w (FN f)).chg c1 (by simp)
    have d1 : Chg [] w w1 := ((Chg.refl w).alloc _).trans' c1
    have y0 : World.cell? w1 ⟨w.heap.size, 0, none⟩ = some (.string f.n) := b1.cell rfl
    have hb1 := b1.lt
    have B1 := Lib.hid b1; have D1 := Lib.hid d1
    clear he c1 b1 d1
    go_wp2_with fail
    refine (rputtext_any f.n _ hu).mono ?_; rintro e w2 ⟨he, c2⟩
    unfold txt at he
    rw [← HB.out] at he
    subst he
    have b2 := B1.out.chg c2 (by simp)
    have y1 : World.cell? w2 ⟨w.heap.size, 1, none⟩ = some (.string f.v) := b2.cell rfl
    have hb2 := b2.lt
    have D2 := Lib.hid (D1.out.trans' c2)
    clear c2 b2 B1 D1 y0 hb1
    go_wp2_with fail
    refine (rputtext_any f.v _ hu2).mono ?_; rintro e w3 ⟨he, c3⟩
    unfold txt at he
    rw [← HC.out] at he
    subst he
    go_wp2_with fail
    go_ret
    exact ⟨rfl, D2.out.trans' c3⟩
  · have hl : txt (lit first P i f) = .string (A ++ C) := by
      unfold lit
      rw [if_neg hi, hA, hC, ba_append, List.nil_append]
    rw [hl]
    have hd : ((i : Int) == 0) = false := by simp; omega
    have hd2 : ¬ (i : Int) = 0 := by omega
    clear hl hA hB hC e1 e2 x y0
    unfold aF
    go_enter Try.func65, Try.ntmps65
    go_wp2_with fail
    refine (rputint_any first (P : Int) (i : Int) _).mono ?_; rintro e w1 ⟨he, c1⟩
    have he2 : e = .returned (.tuple #[.string A, .int .i64 ((putI first (P : Int) (i : Int)).2 : Nat)]) := by rw [he, HA.out]
    subst he2
    have b1 := (At.new w (FN f)).chg c1 (by simp)
    have d1 : Chg [] w w1 := ((Chg.refl w).alloc _).trans' c1
    have y1 : World.cell? w1 ⟨w.heap.size, 1, none⟩ = some (.string f.v) := b1.cell rfl
    have hb1 := b1.lt
    have D1 := Lib.hid d1
    clear he c1 b1 d1
    go_wp2_with fail
    refine (rputtext_any f.v _ hu2).mono ?_; rintro e w3 ⟨he, c3⟩
    unfold txt at he
    rw [← HC.out] at he
    subst he
    go_wp2_with fail
    go_ret
    exact ⟨rfl, D1.out.trans' c3⟩
end Go.Proofs.Ytmoeioaahampaaa.Tb.Hp
namespace Go.Proofs.Ytmoeioaahampaaa.Tb.Hp
open Go.ChangeShapes Go.WideShapes Go.ChangeAt Go.RowKit
open Go.Proofs.Ytmoeioaahampaaa.B Go.Proofs.Ytmoeioaahampaaa.Hi Go.Proofs.Ytmoeioaahampaaa.Tb
open Go.Proofs.Ytmoeioaahampaaa.Hf (bx need enc dec bitsOf)
set_option linter.unusedVariables false
set_option linter.unusedSimpArgs false

theorem reliteral_nv {f : Fd} {nv : Bool} (h : f.nv = nv) (first : UInt8) (P i : Nat) (w : World) (hn : f.n.size ≤ 100000) (hv : f.v.size ≤ 100000) :
    Calls Try.prog 65 #[.int .u8 (first.toNat : Int), .int .i64 P, .int .i64 i, .agg #[.string f.n, .string f.v, .bool nv]] w fun e w' => e = .returned (txt (lit first P i f)) ∧ Chg [] w w' := by
  subst h; exact reliteral_any first P i f w hn hv
theorem radd_nv {w : World} {base p : Nat} {sv : Value} {m : Nat} {es : List Fd} {f : Fd} {nv : Bool} (hnv : f.nv = nv) (hf : f.sz ≤ 100000) (hi : Inv m es) (h : RT w base p sv m es.reverse) (hbw : base ≤ w.heap.size) :
    Calls Try.prog 66 #[.pointer (some ⟨p, 0, none⟩), .agg #[.string f.n, .string f.v, .bool nv]] w fun e w' => e = .returned (.tuple #[]) ∧ Chg [p] w w' ∧ ∃ sv', RT w' base p sv' m (addS f m es).reverse ∧ (∀ g ∈ sv'.ownBlock.toList, g ∈ sv.ownBlock.toList ∨ w.heap.size ≤ g) := by
  subst hnv; exact radd_any f hf hi h hbw
section
variable {W w : World} {q t : Nat} {sv cv : Value} {m : Nat} {es : List Fd} {ns : List Nat}
set_option maxRecDepth 100000 in
set_option maxHeartbeats 8000000 in
theorem reone_any (h : RE W w q t sv cv m es ns) (f : Fd) (hn : f.n.size ≤ 10000) (hv : f.v.size ≤ 10000) :
    Calls Try.prog 53 #[.pointer (some ⟨q, 0, none⟩), .agg (aF f)] w fun e w' => e = .returned (txt (encF m es f).1) ∧ ∃ sv', RE W w' q t sv' cv m (encF m es f).2 ns ∧ Chg [t] w w' ∧ ∀ g ∈ sv'.ownBlock.toList, g ∈ sv.ownBlock.toList ∨ w.heap.size ≤ g := by
  obtain ⟨i, is, hR⟩ : ∃ i is, findR es f = (i, is) := ⟨_, _, rfl⟩
  have hi : i ≤ 61 + es.length := by have := findR_le (es := es) (f := f); rw [hR] at this; exact this
  have hel : es.length ≤ 2048 := h.inv.len
  have hsz : f.sz ≤ 20032 := by unfold Fd.sz; omega
  have HRR := Lib.hid hR; have HN1 : Hid (f.n.size ≤ 100000 ∧ f.v.size ≤ 100000) := Lib.hid ⟨by omega, by omega⟩
  have HHH := Lib.hid h
  clear hR h
  unfold aF
  go_enter Try.func53, Try.ntmps53
  go_upto_region 1 with fail
  obtain ⟨B, hB⟩ : ∃ B, B = w.heap.size := ⟨_, rfl⟩
  have HBX : Hid (At (w.alloc (FN f)) B (FN f)) := Lib.hid (by rw [hB]; exact At.new w _)
  have hBl : B < (w.alloc (FN f)).heap.size := by rw [hB]; simp
  rw [← hB]
  have hBlo : w.heap.size ≤ B := by omega
  have hql := HHH.out.lt q (by simp [footE])
  have htl := HHH.out.lt t (by simp [footE, foot])
  have HNB : Hid (B ∉ footE q t sv cv) := Lib.hid (fun hx => by have := HHH.out.lt B hx; omega)
  have HE := Lib.hid (HHH.out.chg0 ((Chg.refl w).alloc (FN f))); have HC1 : Hid (Chg [] w (w.alloc (FN f))) := Lib.hid ((Chg.refl w).alloc (FN f))
  have hsw : w.heap.size ≤ (w.alloc (FN f)).heap.size := by simp
  clear hB HHH
  generalize w.alloc (FN f) = w0 at *
  have x0 : ∀ x : Later [] w0, World.cell? x.world ⟨q, 0, none⟩ = some (.pointer (some ⟨t, 0, none⟩)) := fun x => ((HE.out.chg0 x.chg).head).cell rfl
  have x1 : ∀ x : Later [] w0, World.cell? x.world ⟨B, 0, none⟩ = some (.string f.n) := fun x => (HBX.out.chg x.chg (by simp)).cell rfl
  have x2 : ∀ x : Later [] w0, World.cell? x.world ⟨B, 1, none⟩ = some (.string f.v) := fun x => (HBX.out.chg x.chg (by simp)).cell rfl
  have x3 : ∀ x : Later [] w0, World.cell? x.world ⟨B, 2, none⟩ = some (.bool f.nv) := fun x => (HBX.out.chg x.chg (by simp)).cell rfl
  have HFD : Hid (∀ x : Later [] w0, Calls Try.prog 64 #[.pointer (some ⟨t, 0, none⟩), .agg (aF f)] x.world fun e w' => e = .returned (.tuple #[.int .i64 i, .bool is]) ∧ Chg [] x.world w') :=
    Lib.hid (fun x => (rfind_any f HE.out.inv (HE.out.chg0 x.chg).tab).mono (fun e w' h => ⟨by rw [h.1, HRR.out], h.2⟩))
  refine wp_region_later (S := []) (by kernel_rfl) (by kernel_rfl) ?_
  repeat (go_big_quiet_step ((go_at_call 64; exact Calls.later (HFD.out _))))
  refine wpQuiet_nil ?_
  intro _ hw'
  obtain ⟨xq, rfl⟩ := hw'
  have HE2 := Lib.hid (HE.out.chg0 xq.chg); have HC2 := Lib.hid (HC1.out.trans' xq.chg); have HBX2 := Lib.hid (HBX.out.chg xq.chg (by simp))
  have hs1 := xq.chg.size
  clear x0 x1 x2 x3 HFD HE HC1 HBX
  generalize xq.world = w1 at *
  clear xq
  have y0 : World.cell? w1 ⟨B, 0, none⟩ = some (.string f.n) := (HBX2.out).cell rfl
  have y1 : World.cell? w1 ⟨B, 1, none⟩ = some (.string f.v) := (HBX2.out).cell rfl
  cases hnv : f.nv with
  | true =>
    have HQ : Hid (encF m es f = (lit 16 4 i f, es)) := Lib.hid (by unfold encF; rw [if_pos hnv, HRR.out])
    have y2 : World.cell? w1 ⟨B, 2, none⟩ = some (.bool true) := by rw [← hnv]; exact HBX2.out.cell rfl
    have HNV := Lib.hid hnv
    clear hnv
    go_wp2_with fail
    refine (reliteral_nv HNV.out 16 4 i _ HN1.out.1 HN1.out.2).mono ?_; rintro e w2 ⟨rfl, c2⟩
    go_wp2_with fail
    go_ret
    refine ⟨by rw [HQ.out]; rfl, sv, by rw [HQ.out]; exact HE2.out.chg0 c2, (HC2.out.trans' c2).mono (by simp), fun g hg => Or.inl hg⟩
  | false =>
    have y2 : World.cell? w1 ⟨B, 2, none⟩ = some (.bool false) := by rw [← hnv]; exact HBX2.out.cell rfl
    have HNV := Lib.hid hnv
    clear hnv
    cases is with
    | true =>
      have HQ : Hid (encF m es f = ((putI 128 7 i).1, es)) := Lib.hid (by unfold encF; rw [if_neg (by rw [HNV.out]; simp), HRR.out, if_pos rfl])
      obtain ⟨E, hE⟩ : ∃ E : ByteArray, E = ⟨(putI 128 7 (i : Int)).1.toArray⟩ := ⟨_, rfl⟩
      have HEE := Lib.hid hE
      clear hE
      go_wp2_with fail
      refine (rputint_any 128 7 (i : Int) _).mono ?_; rintro e w2 ⟨he, c2⟩
      have he2 : e = .returned (.tuple #[.string E, .int .i64 ((putI 128 7 (i : Int)).2 : Nat)]) := by rw [he, HEE.out]
      subst he2
      clear he
      go_wp2_with fail
      go_ret
      refine ⟨by rw [HQ.out, HEE.out]; rfl, sv, by rw [HQ.out]; exact HE2.out.chg0 c2, (HC2.out.trans' c2).mono (by simp), fun g hg => Or.inl hg⟩
    | false =>
      go_upto_region 7 with fail
      have x0 : ∀ x : Later [] w1, World.cell? x.world ⟨q, 0, none⟩ = some (.pointer (some ⟨t, 0, none⟩)) := fun x => ((HE2.out.chg0 x.chg).head).cell rfl
      have x1 : ∀ x : Later [] w1, World.cell? x.world ⟨B, 0, none⟩ = some (.string f.n) := fun x => (HBX2.out.chg x.chg (by simp)).cell rfl
      have x2 : ∀ x : Later [] w1, World.cell? x.world ⟨B, 1, none⟩ = some (.string f.v) := fun x => (HBX2.out.chg x.chg (by simp)).cell rfl
      have x3 : ∀ x : Later [] w1, World.cell? x.world ⟨B, 2, none⟩ = some (.bool false) := fun x => by rw [← HNV.out]; exact (HBX2.out.chg x.chg (by simp)).cell rfl
      have x4 : ∀ x : Later [] w1, World.cell? x.world ⟨t, 1, none⟩ = some (.int .i64 m) := fun x => ((HE2.out.chg0 x.chg).tab.head).cell rfl
      have HSF : Hid (∀ x : Later [] w1, Calls Try.prog 21 #[.agg #[.string f.n, .string f.v, .bool false]] x.world fun e w' => e = .returned (.int .i64 (f.sz : Nat)) ∧ Chg [] x.world w') :=
        Lib.hid (fun x => rsize_l f _ (by omega))
      obtain ⟨z, hz⟩ : ∃ z, z = f.sz := ⟨_, rfl⟩
      rw [← hz] at HSF hsz
      by_cases hzm : m < z
      · have hd : decide ((m : Int) < (z : Int)) = true := decide_eq_true (by omega)
        have HQ : Hid (encF m es f = (lit 0 4 i f, es)) := Lib.hid (by unfold encF; rw [if_neg (by rw [HNV.out]; simp), HRR.out, if_neg (by simp), if_pos (by omega)])
        have hid := Lib.hid hzm; clear hzm hz
        skip
        refine wp_region_later (S := []) (by kernel_rfl) (by kernel_rfl) ?_
        repeat (go_big_quiet_step ((go_at_call 21; exact Calls.later (HSF.out _))))
        refine wpQuiet_nil ?_
        intro _ hw'
        obtain ⟨xq, rfl⟩ := hw'
        have HE3 := Lib.hid (RE.chg0 HE2.out xq.chg); have HC3 := Lib.hid (HC2.out.trans' xq.chg); have HBX3 := Lib.hid (HBX2.out.chg xq.chg (by simp))
        have hs3 := xq.chg.size
        clear x0 x1 x2 x3 x4 HSF HE2 HC2 HBX2 y0 y1 y2
        generalize xq.world = w4 at *
        clear xq
        have y0 : World.cell? w4 ⟨B, 0, none⟩ = some (.string f.n) := (HBX3.out).cell rfl
        have y1 : World.cell? w4 ⟨B, 1, none⟩ = some (.string f.v) := (HBX3.out).cell rfl
        have y2 : World.cell? w4 ⟨B, 2, none⟩ = some (.bool false) := by rw [← HNV.out]; exact (HBX3.out).cell rfl
        go_wp2_with fail
        refine (reliteral_nv HNV.out 0 4 i _ HN1.out.1 HN1.out.2).mono ?_; rintro e w2 ⟨rfl, c2⟩
        go_wp2_with fail
        go_ret
        refine ⟨by rw [HQ.out]; rfl, sv, by rw [HQ.out]; exact HE3.out.chg0 c2, (HC3.out.trans' c2).mono (by simp), fun g hg => Or.inl hg⟩
      · have hd : decide ((m : Int) < (z : Int)) = false := decide_eq_false (by omega)
        have HQ : Hid (encF m es f = (lit 64 6 i f, addS f m es)) := Lib.hid (by unfold encF; rw [if_neg (by rw [HNV.out]; simp), HRR.out, if_neg (by simp), if_neg (by omega)])
        have hid := Lib.hid hzm; have HZ : Hid (f.sz ≤ 100000) := Lib.hid (by omega)
        clear hzm hz
        skip
        refine wp_region_later (S := []) (by kernel_rfl) (by kernel_rfl) ?_
        repeat (go_big_quiet_step ((go_at_call 21; exact Calls.later (HSF.out _))))
        refine wpQuiet_nil ?_
        intro _ hw'
        obtain ⟨xq, rfl⟩ := hw'
        have HE3 := Lib.hid (RE.chg0 HE2.out xq.chg); have HC3 := Lib.hid (HC2.out.trans' xq.chg); have HBX3 := Lib.hid (HBX2.out.chg xq.chg (by simp))
        have hs3 := xq.chg.size
        clear x0 x1 x2 x3 x4 HSF HE2 HC2 HBX2 y0 y1 y2
        generalize xq.world = w4 at *
        clear xq
        have y0 : World.cell? w4 ⟨B, 0, none⟩ = some (.string f.n) := (HBX3.out).cell rfl
        have y1 : World.cell? w4 ⟨B, 1, none⟩ = some (.string f.v) := (HBX3.out).cell rfl
        have y2 : World.cell? w4 ⟨B, 2, none⟩ = some (.bool false) := by rw [← HNV.out]; exact (HBX3.out).cell rfl
        clear y0 y1 y2
        go_upto_region 9 with fail
        have z0 : World.cell? w4 ⟨q, 0, none⟩ = some (.pointer (some ⟨t, 0, none⟩)) := HE3.out.head.cell rfl
        have z1 : World.cell? w4 ⟨B, 0, none⟩ = some (.string f.n) := HBX3.out.cell rfl
        have z2 : World.cell? w4 ⟨B, 1, none⟩ = some (.string f.v) := HBX3.out.cell rfl
        have z3 : World.cell? w4 ⟨B, 2, none⟩ = some (.bool false) := by rw [← HNV.out]; exact HBX3.out.cell rfl
        have HADD : Hid (Calls Try.prog 66 #[.pointer (some ⟨t, 0, none⟩), .agg #[.string f.n, .string f.v, .bool false]] w4.drew fun e w5 => e = .returned (.tuple #[]) ∧ (∃ sv', RE W w5 q t sv' cv m (addS f m es) ns ∧ ∀ g ∈ sv'.ownBlock.toList, g ∈ sv.ownBlock.toList ∨ w.heap.size ≤ g) ∧ Chg [t] w w5 ∧ At w5 B (FN f)) := by
          have hed := HE3.out.chg0 (Chg.refl (l := []) w4).drew
          refine Lib.hid ((radd_nv HNV.out HZ.out hed.inv hed.tab (Nat.le_trans hed.lo (Nat.le_of_lt hed.head.lt))).mono ?_)
          rintro e w5 ⟨rfl, c5, sv', h5, f5⟩
          have hc45 : Chg [t] w4 w5 := (Chg.refl w4).drew.trans' c5
          refine ⟨rfl, ⟨sv', hed.table c5 h5 (hed.inv.add f) f5, fun g hg => (f5 g hg).imp id (fun h => ?_)⟩, (HC3.out.mono (by simp)).trans' hc45, HBX3.out.chg hc45 (fun hx => HNB.out (by simp at hx; subst hx; simp [footE, foot]))⟩
          have h' : w4.heap.size ≤ g := h
          have := HC3.out.size; omega
        go_region_held_law (fun w' => World.cell? w' ⟨q, 0, none⟩ = some (.pointer (some ⟨t, 0, none⟩)) ∧ World.cell? w' ⟨B, 0, none⟩ = some (.string f.n) ∧ World.cell? w' ⟨B, 1, none⟩ = some (.string f.v) ∧ World.cell? w' ⟨B, 2, none⟩ = some (.bool false)) (go_keep) (first
          | (go_at_call 66; go_loud (refine HADD.out.mono ?_; rintro e w5 ⟨rfl, ⟨sv', h5, f5⟩, c5, hb5⟩; have k0 : World.cell? w5 ⟨q, 0, none⟩ = some (.pointer (some ⟨t, 0, none⟩)) := h5.head.cell rfl; have k1 : World.cell? w5 ⟨B, 0, none⟩ = some (.string f.n) := hb5.cell rfl; have k2 : World.cell? w5 ⟨B, 1, none⟩ = some (.string f.v) := hb5.cell rfl; have k3 : World.cell? w5 ⟨B, 2, none⟩ = some (.bool false) := (by rw [← HNV.out]; exact hb5.cell rfl); have H5 := Lib.hid h5; have F5 := Lib.hid f5; have C5 := Lib.hid c5; clear h5 f5 c5 hb5))
          | fail)
        go_wp2_with fail
        refine (reliteral_nv HNV.out 64 6 i _ HN1.out.1 HN1.out.2).mono ?_; rintro e w6 ⟨rfl, c6⟩
        go_wp2_with fail
        go_ret
        refine ⟨by rw [HQ.out]; rfl, sv', by rw [HQ.out]; exact H5.out.chg0 c6, C5.out.trans' (c6.mono (by simp)), F5.out⟩
theorem RE.clear (h : RE W w q t sv cv m es ns) : RE W (w.setCell ⟨q, 1, none⟩ (.slice none 0 0)) q t sv (.slice none 0 0) m es [] :=
  have hc : Chg [q] w (w.setCell ⟨q, 1, none⟩ (.slice none 0 0)) := (Chg.refl w).setCell (Or.inl (by simp)) _
  ⟨h.head.set 1 _, h.tab.chg hc (fun x hx he => h.qt (by simp at he; exact he ▸ hx)), OwnR.nil _ _, h.lo, h.inv, by simp, h.qt, by simp [Value.ownBlock], by simp [Value.ownBlock]⟩
theorem encU_le (m : Nat) (es : List Fd) (a b : Nat) (c : Bool) : (encU m es a b c).1.length ≤ 12 := by
  have h1 : (upd a).length ≤ 6 := putI_len 32 5 a
  have h2 : (upd b).length ≤ 6 := putI_len 32 5 b
  unfold encU
  split
  · split
    · show (upd a ++ upd b).length ≤ _
      rw [List.length_append]; omega
    · show (upd b).length ≤ _
      omega
  · simp
set_option maxRecDepth 100000 in
set_option maxHeartbeats 8000000 in
theorem reencode_any (h : RE W w q t sv cv m es ns) (lv : Value) (l : List Fd) (hl : FdsOf w lv l) (hap : ∀ a n cap, lv = .slice (some a) n cap → a.block ∉ footE q t sv cv)
    (hsz : ∀ f ∈ l, f.n.size ≤ 10000 ∧ f.v.size ≤ 10000) (hlen : l.length ≤ 100) (hns : ns.length ≤ 1000) :
    Calls Try.prog 32 #[.pointer (some ⟨q, 0, none⟩), lv] w fun e w' => e = .returned (txt (encB m es (leastN ns) (lastN ns) (calledN ns) l).1) ∧
      ∃ sv' cv', RE W w' q t sv' cv' (encB m es (leastN ns) (lastN ns) (calledN ns) l).2.1 (encB m es (leastN ns) (lastN ns) (calledN ns) l).2.2 [] ∧ Chg (footE q t sv cv) w w' ∧ ∀ x ∈ footE q t sv' cv', x ∈ footE q t sv cv ∨ w.heap.size ≤ x := by
  obtain ⟨la, lcap, rfl, hlc, hlm⟩ := hl.len
  unfold maxLen at hlm
  obtain ⟨a, cap, rfl, hc1, hc2⟩ := OwnR.slice h.row
  unfold maxLen at hc2
  obtain ⟨U, m1, es1, hU⟩ : ∃ U m1 es1, encU m es (leastN ns) (lastN ns) (calledN ns) = (U, m1, es1) := ⟨_, _, _, rfl⟩
  have hUl : U.length ≤ 12 := by have := encU_le m es (leastN ns) (lastN ns) (calledN ns); rw [hU] at this; exact this
  have hB : encB m es (leastN ns) (lastN ns) (calledN ns) l = (U ++ (encL m1 es1 l).1, m1, (encL m1 es1 l).2) := by unfold encB; rw [hU]
  rw [hB]
  obtain ⟨FT, hFT⟩ : ∃ FT, FT = footE q t sv (.slice a ns.length cap) := ⟨_, rfl⟩
  rw [← hFT] at hap ⊢
  have x0 : World.cell? w ⟨q, 0, none⟩ = some (.pointer (some ⟨t, 0, none⟩)) := h.head.cell rfl
  have x1 : World.cell? w ⟨q, 1, none⟩ = some (.slice a ns.length cap) := h.head.cell rfl
  have hql := h.head.lt
  have HH := Lib.hid h; have HFT := Lib.hid hFT; have HU := Lib.hid hU; have HL := Lib.hid hl; have HAP := Lib.hid hap; have HSZ := Lib.hid hsz
  clear h hFT hU hl hap hsz hB
  go_enter Try.func32, Try.ntmps32
  cases hcl : calledN ns with
  | false =>
    have hn0 : ns = [] := by
      cases ns with
      | nil => rfl
      | cons a l => simp [calledN] at hcl
    subst hn0
    have hu := HU.out
    rw [hcl] at hu
    have hu2 : ([], m, es) = (U, m1, es1) := hu
    simp only [Prod.mk.injEq] at hu2
    obtain ⟨hu1, hu2, hu3⟩ := hu2
    have H2 : Hid (RE W w q t sv (.slice a ([] : List Nat).length cap) m1 es1 []) := Lib.hid (by rw [← hu2, ← hu3]; exact HH.out)
    have HOV : Hid ((⟨#[]⟩ : ByteArray) = ⟨U.toArray⟩) := Lib.hid (by rw [← hu1])
    clear hu hcl HU hu1 hu2 hu3
    have C2 : Hid (Chg FT w w) := Lib.hid (Chg.refl _)
    have F2 : Hid (∀ x ∈ footE q t sv (.slice a ([] : List Nat).length cap), x ∈ FT ∨ w.heap.size ≤ x) := Lib.hid (fun x hx => Or.inl (by rw [HFT.out]; exact hx))
    clear HH
    go_wp2_with fail
    go_loopw [5, 9] (fun ov iv wr => ∃ (k : Nat) (sv7 : Value), k ≤ l.length ∧ iv = .int .i64 k ∧ ov = .string ⟨(U ++ (encL m1 es1 (l.take k)).1).toArray⟩ ∧ RE W wr q t sv7 (.slice a ([] : List Nat).length cap) m1 (encL m1 es1 (l.take k)).2 [] ∧ Chg FT w wr ∧ ∀ x ∈ footE q t sv7 (.slice a ([] : List Nat).length cap), x ∈ FT ∨ w.heap.size ≤ x) (fun _ iv _ => l.length - (intOf iv).toNat)
    case atStart => exact ⟨0, sv, Nat.zero_le _, rfl, by rw [HOV.out]; simp [encL], H2.out, C2.out, F2.out⟩
    case round =>
      clear H2 C2 F2 HOV
      obtain ⟨k, sv7, hk, rfl, rfl, h3, hc3, hf3⟩ := hrel
      rename_i wr
      by_cases hlt : k < l.length
      · have hkI : (k : Int) < (l.length : Int) := by omega
        obtain ⟨f, hf⟩ : ∃ f, l[k]? = some f := ⟨_, List.getElem?_eq_getElem hlt⟩
        have hfs := HSZ.out f (List.mem_of_getElem? hf)
        obtain ⟨b1, o1, rfl, hb1, hce⟩ := FdsOf.cells (HL.out.chg hc3 HAP.out) (by omega)
        obtain ⟨d0, d1, d2⟩ := hce k f hf
        obtain ⟨T, hT⟩ : ∃ T, T = encL m1 es1 (l.take k) := ⟨_, rfl⟩
        have hsn : encL m1 es1 (l.take (k + 1)) = (T.1 ++ (encF m1 T.2 f).1, (encF m1 T.2 f).2) := by rw [List.take_add_one, hf, hT]; exact encL_snoc m1 (l.take k) es1 f
        have hTl : T.1.length ≤ 2001800 := by
          have h1 := encL_le m1 (l.take k) es1 20000 (fun g hg => by have := HSZ.out g (List.mem_of_mem_take hg); omega)
          have h2 : (l.take k).length ≤ 100 := by rw [List.length_take]; omega
          have h3 := Nat.mul_le_mul_right 20018 h2
          rw [hT]; omega
        rw [← hT] at h3 ⊢
        have hfl := encF_le m1 T.2 f
        obtain ⟨SA, hSA⟩ : ∃ SA : ByteArray, SA = ⟨(U ++ T.1).toArray⟩ := ⟨_, rfl⟩
        obtain ⟨SB, hSB⟩ : ∃ SB : ByteArray, SB = ⟨(encF m1 T.2 f).1.toArray⟩ := ⟨_, rfl⟩
        have zA : SA.size ≤ 2001812 := by rw [hSA, ba_size, List.length_append]; omega
        have zB : SB.size ≤ 20018 := by rw [hSB, ba_size]; omega
        have zAB : (SA ++ SB).size = SA.size + SB.size := ByteArray.size_append
        rw [← hSA]
        have HSA := Lib.hid hSA; have HSB := Lib.hid hSB; have HSN := Lib.hid hsn; have H3 := Lib.hid h3; have C3 := Lib.hid hc3; have F3 := Lib.hid hf3
        clear hSA hSB hsn h3 hc3 hf3 hf hce hT hTl hfl
        go_wp2_with fail
        refine (reone_any H3.out f hfs.1 hfs.2).mono ?_; rintro e w4 ⟨he, sv4, h4, c4, f4⟩
        unfold txt at he
        rw [← HSB.out] at he
        subst he
        have H4 := Lib.hid h4; have C4 := Lib.hid c4; have F4 := Lib.hid f4
        clear h4 c4 f4 d0 d1 d2
        go_wp2_with fail
        go_roundw
        case rel =>
          refine ⟨k + 1, sv4, by omega, by go_num, by rw [HSN.out, HSA.out, HSB.out, ba_append, List.append_assoc], by rw [HSN.out]; exact H4.out, C3.out.trans C4.out (fun x hx => F3.out x (by simp at hx; subst hx; simp [footE, foot])), ?_⟩
          intro x hx
          have hs := C3.out.size
          have key : x ∈ footE q t sv7 (.slice a ([] : List Nat).length cap) ∨ wr.heap.size ≤ x := by
            simp only [footE, foot, List.mem_cons, List.mem_append] at hx ⊢
            rcases hx with h | (h | h) | h
            · exact Or.inl (Or.inl h)
            · exact Or.inl (Or.inr (Or.inl (Or.inl h)))
            · rcases F4.out x h with h | h
              · exact Or.inl (Or.inr (Or.inl (Or.inr h)))
              · exact Or.inr h
            · exact Or.inl (Or.inr (Or.inr h))
          rcases key with h | h
          · exact F3.out x h
          · exact Or.inr (by omega)
        case measure => simp [intOf]; omega
      · obtain rfl : k = l.length := by omega
        rw [List.take_length] at h3
        rw [List.take_length]
        have H3 := Lib.hid h3; have C3 := Lib.hid hc3; have F3 := Lib.hid hf3
        clear h3 hc3 hf3
        go_wp2_with fail
        go_ret
        exact ⟨rfl, sv7, (.slice a ([] : List Nat).length cap), H3.out, C3.out, F3.out⟩
  | true =>
    obtain ⟨K, hK⟩ : ∃ K, ns.length = K + 1 := by
      cases ns with
      | nil => simp [calledN] at hcl
      | cons a l => exact ⟨l.length, rfl⟩
    obtain ⟨g, cap', cur, he, hg1, hg2, hg3, hg4, hg5, hg6⟩ := OwnR.block HH.out.row (by omega)
    cases he
    have hcells : ∀ (k n : Nat), ns[k]? = some n → World.cell? w ⟨g, k, none⟩ = some (.int .i64 (n : Int)) := fun k n h => by
      have := OwnR.cellAt encN_len HH.out.row h (j := 0) (by omega)
      simpa [encN] using this
    have hlast : ns[K]? = some (lastN ns) := by
      unfold lastN
      rw [List.getLastD_eq_getLast?, List.getLast?_eq_getElem?, hK]
      simp only [Nat.add_sub_cancel]
      obtain ⟨x, hx⟩ : ∃ x, ns[K]? = some x := ⟨_, List.getElem?_eq_getElem (by omega)⟩
      rw [hx]; rfl
    have hb1 : leastN ns ≤ lastN ns := leastN_le ns
    have hb2 : lastN ns ≤ 65536 := HH.out.b _ (List.mem_of_getElem? hlast)
    have hHU := HU.out
    rw [hcl] at hHU
    have HU2 := Lib.hid hHU
    rw [hK] at x1 hc1
    have xl := hcells K _ hlast
    obtain ⟨LA, hLA⟩ : ∃ LA, LA = lastN ns := ⟨_, rfl⟩
    rw [← hLA] at xl hb1 hb2
    have HLA := Lib.hid hLA; have HK := Lib.hid hK
    have HCE := Lib.hid hcells
    clear hHU hcells hlast hLA hK hcl hg2 hg5 hg6 HU
    go_wp2_with fail
    go_quiet (fail)
    have HH1 := Lib.hid (HH.out.chg0 ((Chg.refl w).drewN nq)); have HC1 : Hid (Chg FT w (w.drewN nq)) := Lib.hid ((Chg.refl w).drewN nq)
    have HCE1 : Hid (∀ (k n : Nat), ns[k]? = some n → World.cell? (w.drewN nq) ⟨g, k, none⟩ = some (.int .i64 (n : Int))) := Lib.hid (fun k n h => HCE.out k n h)
    have x0' : World.cell? (w.drewN nq) ⟨q, 0, none⟩ = some (.pointer (some ⟨t, 0, none⟩)) := x0
    have x1' : World.cell? (w.drewN nq) ⟨q, 1, none⟩ = some (.slice (some ⟨g, 0, none⟩) (K + 1) cap) := x1
    have hsz1 : w.heap.size ≤ (w.drewN nq).heap.size := HC1.out.size
    clear x0 x1 xl HCE HH
    generalize w.drewN nq = w1 at *
    go_wp2_with fail
    go_loopw [7, 8] (fun lv iv wr => ∃ k : Nat, k ≤ K + 1 ∧ (∃ cu : Nat, cu = (ns.take k).foldl min LA ∧ lv = .int .i64 cu) ∧ iv = .int .i64 k ∧ wr = w1) (fun _ iv _ => K + 1 - (intOf iv).toNat)
    case atStart => exact ⟨0, Nat.zero_le _, ⟨LA, rfl, rfl⟩, rfl, rfl⟩
    case round =>
      obtain ⟨k, hk, ⟨cu, hcu, rfl⟩, rfl, rfl⟩ := hrel
      rename_i wr
      by_cases hlt : k < K + 1
      · have hlt2 : (k : Int) < (K : Int) + 1 := by omega
        obtain ⟨n, hn⟩ : ∃ n, ns[k]? = some n := ⟨_, List.getElem?_eq_getElem (by have := HK.out; omega)⟩
        have xn := HCE1.out k n hn
        have hs : (ns.take (k + 1)).foldl min LA = min cu n := by rw [List.take_add_one, hn, List.foldl_append, hcu]; simp
        have HS := Lib.hid hs
        clear hs hn hcu
        by_cases hc : n < cu
        · have hd : decide (n < cu) = true := decide_eq_true hc
          go_wp2_with fail
          go_roundw
          case rel => exact ⟨k + 1, by omega, ⟨n, by rw [HS.out]; omega, rfl⟩, by go_num, by first | rfl | trivial⟩
          case measure => simp [intOf]; omega
        · have hd : decide (n < cu) = false := decide_eq_false hc
          go_wp2_with fail
          go_roundw
          case rel => exact ⟨k + 1, by omega, ⟨cu, by rw [HS.out]; omega, rfl⟩, by go_num, by first | rfl | trivial⟩
          case measure => simp [intOf]; omega
      · obtain rfl : k = K + 1 := by omega
        have hls : cu = leastN ns := by
          rw [hcu, HLA.out, ← HK.out, List.take_length]; rfl
        have hle : cu ≤ LA := by omega
        have HLS := Lib.hid hls
        clear hcu hls hb1 HCE1
        by_cases hlt2 : cu < LA
        · have hd : decide (cu < LA) = true := decide_eq_true hlt2
          have hu : (upd cu ++ upd LA, LA, Tb.fit 0 LA (Tb.fit 0 cu es)) = (U, m1, es1) := by
            rw [← HU2.out, HLS.out, HLA.out]; unfold encU
            rw [if_pos rfl, if_pos (by rw [← HLS.out, ← HLA.out]; exact hlt2)]
          simp only [Prod.mk.injEq] at hu
          obtain ⟨hu1, hu2, hu3⟩ := hu
          have HU1 := Lib.hid hu1; have HU3 := Lib.hid (And.intro hu2 hu3)
          clear hu1 hu2 hu3
          obtain ⟨SA, hSA⟩ : ∃ SA : ByteArray, SA = ⟨(upd cu).toArray⟩ := ⟨_, rfl⟩
          obtain ⟨SB, hSB⟩ : ∃ SB : ByteArray, SB = ⟨(upd LA).toArray⟩ := ⟨_, rfl⟩
          have zA : SA.size ≤ 6 := by rw [hSA, ba_size]; exact putI_len 32 5 cu
          have zB : SB.size ≤ 6 := by rw [hSB, ba_size]; exact putI_len 32 5 LA
          have zAB : (SA ++ SB).size = SA.size + SB.size := ByteArray.size_append
          have HSA := Lib.hid hSA; have HSB := Lib.hid hSB
          clear hSA hSB HU2
          go_wp2_with fail
          refine (reupdate_any HH1.out cu (by omega)).mono ?_; rintro e w2 ⟨he, sv2, h2, c2, o2⟩
          unfold txt at he
          rw [← HSA.out] at he
          subst he
          have H2 := Lib.hid h2; have C2 := Lib.hid c2; have OO2 := Lib.hid o2
          clear h2 c2 o2 x0' x1'
          go_wp2_with fail
          refine (reupdate_any H2.out LA hb2).mono ?_; rintro e w3 ⟨he, sv3, h3, c3, o3⟩
          unfold txt at he
          rw [← HSB.out] at he
          subst he
          have H3 := Lib.hid h3; have C3 := Lib.hid c3; have OO3 := Lib.hid o3
          have hf3 : World.frozen? w3 ⟨q, 1, none⟩ = false := h3.head.free 1
          have x1 : World.cell? w3 ⟨q, 1, none⟩ = some (.slice (some ⟨g, 0, none⟩) ns.length cap) := h3.head.cell rfl
          have hql3 := h3.head.lt
          clear h3 c3 o3
          have H8 : Hid (RE W (w3.setCell ⟨q, 1, none⟩ (.slice none 0 0)) q t sv3 (.slice none 0 0) m1 es1 []) := Lib.hid (by rw [← HU3.out.1, ← HU3.out.2]; exact H3.out.clear)
          have C8 : Hid (Chg FT w (w3.setCell ⟨q, 1, none⟩ (.slice none 0 0))) := Lib.hid (by
            have cc : Chg FT w w3 := (HC1.out.trans C2.out (fun x hx => Or.inl (by rw [HFT.out]; simp at hx; subst hx; simp [footE, foot]))).trans C3.out (fun x hx => Or.inl (by rw [HFT.out]; simp at hx; subst hx; simp [footE, foot]))
            exact cc.setCell (Or.inl (by rw [HFT.out]; simp [footE])) _)
          have F2 : Hid (∀ x ∈ footE q t sv3 (.slice none 0 0), x ∈ FT ∨ w.heap.size ≤ x) := Lib.hid (by
            intro x hx
            refine Or.inl ?_
            rw [HFT.out]
            simp only [footE, foot, OO3.out, OO2.out, List.mem_cons, List.mem_append] at hx ⊢
            rcases hx with h | (h | h) | h
            · exact Or.inl h
            · exact Or.inr (Or.inl (Or.inl h))
            · exact Or.inr (Or.inl (Or.inr h))
            · simp [Value.ownBlock] at h)
          have HOV : Hid (SA ++ SB = ⟨U.toArray⟩) := Lib.hid (by rw [← HU1.out, HSA.out, HSB.out, ba_append])
          clear H2 C2
          have H2 := H8
          have C2 := C8
          clear H8 C8 H3 C3 HH1 HC1
          go_wp2_with fail
          generalize w3.setCell ⟨q, 1, none⟩ (.slice none 0 0) = w8 at *
          go_loopw [5, 9] (fun ov iv wr => ∃ (k : Nat) (sv7 : Value), k ≤ l.length ∧ iv = .int .i64 k ∧ ov = .string ⟨(U ++ (encL m1 es1 (l.take k)).1).toArray⟩ ∧ RE W wr q t sv7 (.slice none 0 0) m1 (encL m1 es1 (l.take k)).2 [] ∧ Chg FT w wr ∧ ∀ x ∈ footE q t sv7 (.slice none 0 0), x ∈ FT ∨ w.heap.size ≤ x) (fun _ iv _ => l.length - (intOf iv).toNat)
          case atStart => exact ⟨0, sv3, Nat.zero_le _, rfl, by rw [HOV.out]; simp [encL], H2.out, C2.out, F2.out⟩
          case round =>
            clear H2 C2 F2 HOV
            obtain ⟨k, sv7, hk, rfl, rfl, h3, hc3, hf3⟩ := hrel
            rename_i wr
            by_cases hlt : k < l.length
            · have hkI : (k : Int) < (l.length : Int) := by omega
              obtain ⟨f, hf⟩ : ∃ f, l[k]? = some f := ⟨_, List.getElem?_eq_getElem hlt⟩
              have hfs := HSZ.out f (List.mem_of_getElem? hf)
              obtain ⟨b1, o1, rfl, hb1, hce⟩ := FdsOf.cells (HL.out.chg hc3 HAP.out) (by omega)
              obtain ⟨d0, d1, d2⟩ := hce k f hf
              obtain ⟨T, hT⟩ : ∃ T, T = encL m1 es1 (l.take k) := ⟨_, rfl⟩
              have hsn : encL m1 es1 (l.take (k + 1)) = (T.1 ++ (encF m1 T.2 f).1, (encF m1 T.2 f).2) := by rw [List.take_add_one, hf, hT]; exact encL_snoc m1 (l.take k) es1 f
              have hTl : T.1.length ≤ 2001800 := by
                have h1 := encL_le m1 (l.take k) es1 20000 (fun g hg => by have := HSZ.out g (List.mem_of_mem_take hg); omega)
                have h2 : (l.take k).length ≤ 100 := by rw [List.length_take]; omega
                have h3 := Nat.mul_le_mul_right 20018 h2
                rw [hT]; omega
              rw [← hT] at h3 ⊢
              have hfl := encF_le m1 T.2 f
              obtain ⟨SA, hSA⟩ : ∃ SA : ByteArray, SA = ⟨(U ++ T.1).toArray⟩ := ⟨_, rfl⟩
              obtain ⟨SB, hSB⟩ : ∃ SB : ByteArray, SB = ⟨(encF m1 T.2 f).1.toArray⟩ := ⟨_, rfl⟩
              have zA : SA.size ≤ 2001812 := by rw [hSA, ba_size, List.length_append]; omega
              have zB : SB.size ≤ 20018 := by rw [hSB, ba_size]; omega
              have zAB : (SA ++ SB).size = SA.size + SB.size := ByteArray.size_append
              rw [← hSA]
              have HSA := Lib.hid hSA; have HSB := Lib.hid hSB; have HSN := Lib.hid hsn; have H3 := Lib.hid h3; have C3 := Lib.hid hc3; have F3 := Lib.hid hf3
              clear hSA hSB hsn h3 hc3 hf3 hf hce hT hTl hfl
              go_wp2_with fail
              refine (reone_any H3.out f hfs.1 hfs.2).mono ?_; rintro e w4 ⟨he, sv4, h4, c4, f4⟩
              unfold txt at he
              rw [← HSB.out] at he
              subst he
              have H4 := Lib.hid h4; have C4 := Lib.hid c4; have F4 := Lib.hid f4
              clear h4 c4 f4 d0 d1 d2
              go_wp2_with fail
              go_roundw
              case rel =>
                refine ⟨k + 1, sv4, by omega, by go_num, by rw [HSN.out, HSA.out, HSB.out, ba_append, List.append_assoc], by rw [HSN.out]; exact H4.out, C3.out.trans C4.out (fun x hx => F3.out x (by simp at hx; subst hx; simp [footE, foot])), ?_⟩
                intro x hx
                have hs := C3.out.size
                have key : x ∈ footE q t sv7 (.slice none 0 0) ∨ wr.heap.size ≤ x := by
                  simp only [footE, foot, List.mem_cons, List.mem_append] at hx ⊢
                  rcases hx with h | (h | h) | h
                  · exact Or.inl (Or.inl h)
                  · exact Or.inl (Or.inr (Or.inl (Or.inl h)))
                  · rcases F4.out x h with h | h
                    · exact Or.inl (Or.inr (Or.inl (Or.inr h)))
                    · exact Or.inr h
                  · exact Or.inl (Or.inr (Or.inr h))
                rcases key with h | h
                · exact F3.out x h
                · exact Or.inr (by omega)
              case measure => simp [intOf]; omega
            · obtain rfl : k = l.length := by omega
              rw [List.take_length] at h3
              rw [List.take_length]
              have H3 := Lib.hid h3; have C3 := Lib.hid hc3; have F3 := Lib.hid hf3
              clear h3 hc3 hf3
              go_wp2_with fail
              go_ret
              exact ⟨rfl, sv7, (.slice none 0 0), H3.out, C3.out, F3.out⟩
        · have hd : decide (cu < LA) = false := decide_eq_false hlt2
          have hu : (upd LA, LA, Tb.fit 0 LA es) = (U, m1, es1) := by
            rw [← HU2.out, HLA.out]; unfold encU
            rw [if_pos rfl, if_neg (by rw [← HLS.out, ← HLA.out]; exact hlt2)]
          simp only [Prod.mk.injEq] at hu
          obtain ⟨hu1, hu2, hu3⟩ := hu
          have HU1 := Lib.hid hu1; have HU3 := Lib.hid (And.intro hu2 hu3)
          clear hu1 hu2 hu3
          obtain ⟨SB, hSB⟩ : ∃ SB : ByteArray, SB = ⟨(upd LA).toArray⟩ := ⟨_, rfl⟩
          have zB : SB.size ≤ 6 := by rw [hSB, ba_size]; exact putI_len 32 5 LA
          have hem : (⟨#[]⟩ : ByteArray) ++ SB = SB := by apply ByteArray.ext; simp
          have HSB := Lib.hid hSB
          clear hSB HU2
          go_wp2_with fail
          refine (reupdate_any HH1.out LA hb2).mono ?_; rintro e w3 ⟨he, sv3, h3, c3, o3⟩
          unfold txt at he
          rw [← HSB.out] at he
          subst he
          have H3 := Lib.hid h3; have C3 := Lib.hid c3; have OO3 := Lib.hid o3
          have hf3 : World.frozen? w3 ⟨q, 1, none⟩ = false := h3.head.free 1
          have x1 : World.cell? w3 ⟨q, 1, none⟩ = some (.slice (some ⟨g, 0, none⟩) ns.length cap) := h3.head.cell rfl
          have hql3 := h3.head.lt
          clear h3 c3 o3 x0' x1'
          have H8 : Hid (RE W (w3.setCell ⟨q, 1, none⟩ (.slice none 0 0)) q t sv3 (.slice none 0 0) m1 es1 []) := Lib.hid (by rw [← HU3.out.1, ← HU3.out.2]; exact H3.out.clear)
          have C8 : Hid (Chg FT w (w3.setCell ⟨q, 1, none⟩ (.slice none 0 0))) := Lib.hid (by
            have cc : Chg FT w w3 := HC1.out.trans C3.out (fun x hx => Or.inl (by rw [HFT.out]; simp at hx; subst hx; simp [footE, foot]))
            exact cc.setCell (Or.inl (by rw [HFT.out]; simp [footE])) _)
          have F2 : Hid (∀ x ∈ footE q t sv3 (.slice none 0 0), x ∈ FT ∨ w.heap.size ≤ x) := Lib.hid (by
            intro x hx
            refine Or.inl ?_
            rw [HFT.out]
            simp only [footE, foot, OO3.out, List.mem_cons, List.mem_append] at hx ⊢
            rcases hx with h | (h | h) | h
            · exact Or.inl h
            · exact Or.inr (Or.inl (Or.inl h))
            · exact Or.inr (Or.inl (Or.inr h))
            · simp [Value.ownBlock] at h)
          have HOV : Hid (SB = ⟨U.toArray⟩) := Lib.hid (by rw [← HU1.out, HSB.out])
          have H2 := H8
          have C2 := C8
          clear H8 C8 H3 C3 HH1 HC1
          go_wp2_with fail
          generalize w3.setCell ⟨q, 1, none⟩ (.slice none 0 0) = w8 at *
          go_loopw [5, 9] (fun ov iv wr => ∃ (k : Nat) (sv7 : Value), k ≤ l.length ∧ iv = .int .i64 k ∧ ov = .string ⟨(U ++ (encL m1 es1 (l.take k)).1).toArray⟩ ∧ RE W wr q t sv7 (.slice none 0 0) m1 (encL m1 es1 (l.take k)).2 [] ∧ Chg FT w wr ∧ ∀ x ∈ footE q t sv7 (.slice none 0 0), x ∈ FT ∨ w.heap.size ≤ x) (fun _ iv _ => l.length - (intOf iv).toNat)
          case atStart => exact ⟨0, sv3, Nat.zero_le _, rfl, by rw [HOV.out]; simp [encL], H2.out, C2.out, F2.out⟩
          case round =>
            clear H2 C2 F2 HOV
            obtain ⟨k, sv7, hk, rfl, rfl, h3, hc3, hf3⟩ := hrel
            rename_i wr
            by_cases hlt : k < l.length
            · have hkI : (k : Int) < (l.length : Int) := by omega
              obtain ⟨f, hf⟩ : ∃ f, l[k]? = some f := ⟨_, List.getElem?_eq_getElem hlt⟩
              have hfs := HSZ.out f (List.mem_of_getElem? hf)
              obtain ⟨b1, o1, rfl, hb1, hce⟩ := FdsOf.cells (HL.out.chg hc3 HAP.out) (by omega)
              obtain ⟨d0, d1, d2⟩ := hce k f hf
              obtain ⟨T, hT⟩ : ∃ T, T = encL m1 es1 (l.take k) := ⟨_, rfl⟩
              have hsn : encL m1 es1 (l.take (k + 1)) = (T.1 ++ (encF m1 T.2 f).1, (encF m1 T.2 f).2) := by rw [List.take_add_one, hf, hT]; exact encL_snoc m1 (l.take k) es1 f
              have hTl : T.1.length ≤ 2001800 := by
                have h1 := encL_le m1 (l.take k) es1 20000 (fun g hg => by have := HSZ.out g (List.mem_of_mem_take hg); omega)
                have h2 : (l.take k).length ≤ 100 := by rw [List.length_take]; omega
                have h3 := Nat.mul_le_mul_right 20018 h2
                rw [hT]; omega
              rw [← hT] at h3 ⊢
              have hfl := encF_le m1 T.2 f
              obtain ⟨SA, hSA⟩ : ∃ SA : ByteArray, SA = ⟨(U ++ T.1).toArray⟩ := ⟨_, rfl⟩
              obtain ⟨SB, hSB⟩ : ∃ SB : ByteArray, SB = ⟨(encF m1 T.2 f).1.toArray⟩ := ⟨_, rfl⟩
              have zA : SA.size ≤ 2001812 := by rw [hSA, ba_size, List.length_append]; omega
              have zB : SB.size ≤ 20018 := by rw [hSB, ba_size]; omega
              have zAB : (SA ++ SB).size = SA.size + SB.size := ByteArray.size_append
              rw [← hSA]
              have HSA := Lib.hid hSA; have HSB := Lib.hid hSB; have HSN := Lib.hid hsn; have H3 := Lib.hid h3; have C3 := Lib.hid hc3; have F3 := Lib.hid hf3
              clear hSA hSB hsn h3 hc3 hf3 hf hce hT hTl hfl
              go_wp2_with fail
              refine (reone_any H3.out f hfs.1 hfs.2).mono ?_; rintro e w4 ⟨he, sv4, h4, c4, f4⟩
              unfold txt at he
              rw [← HSB.out] at he
              subst he
              have H4 := Lib.hid h4; have C4 := Lib.hid c4; have F4 := Lib.hid f4
              clear h4 c4 f4 d0 d1 d2
              go_wp2_with fail
              go_roundw
              case rel =>
                refine ⟨k + 1, sv4, by omega, by go_num, by rw [HSN.out, HSA.out, HSB.out, ba_append, List.append_assoc], by rw [HSN.out]; exact H4.out, C3.out.trans C4.out (fun x hx => F3.out x (by simp at hx; subst hx; simp [footE, foot])), ?_⟩
                intro x hx
                have hs := C3.out.size
                have key : x ∈ footE q t sv7 (.slice none 0 0) ∨ wr.heap.size ≤ x := by
                  simp only [footE, foot, List.mem_cons, List.mem_append] at hx ⊢
                  rcases hx with h | (h | h) | h
                  · exact Or.inl (Or.inl h)
                  · exact Or.inl (Or.inr (Or.inl (Or.inl h)))
                  · rcases F4.out x h with h | h
                    · exact Or.inl (Or.inr (Or.inl (Or.inr h)))
                    · exact Or.inr h
                  · exact Or.inl (Or.inr (Or.inr h))
                rcases key with h | h
                · exact F3.out x h
                · exact Or.inr (by omega)
              case measure => simp [intOf]; omega
            · obtain rfl : k = l.length := by omega
              rw [List.take_length] at h3
              rw [List.take_length]
              have H3 := Lib.hid h3; have C3 := Lib.hid hc3; have F3 := Lib.hid hf3
              clear h3 hc3 hf3
              go_wp2_with fail
              go_ret
              exact ⟨rfl, sv7, (.slice none 0 0), H3.out, C3.out, F3.out⟩
end
section
variable {W w : World} {q t : Nat} {sv cv : Value} {m : Nat} {es : List Fd} {ns : List Nat}
set_option maxRecDepth 100000 in
set_option maxHeartbeats 4000000 in
theorem resize_any (h : RE W w q t sv cv m es ns) : Calls Try.prog 33 #[.pointer (some ⟨q, 0, none⟩)] w fun e w' => e = .returned (.int .i64 (tot es : Nat)) ∧ Chg [] w w' := by
  have x0 : World.cell? w ⟨q, 0, none⟩ = some (.pointer (some ⟨t, 0, none⟩)) := h.head.cell rfl
  have ht : tot es.reverse = tot es := tot_reverse es
  obtain ⟨T, hT⟩ : ∃ T, T = tot es := ⟨_, rfl⟩
  rw [← hT] at ht ⊢
  have HH := Lib.hid h.tab; have HT := Lib.hid ht
  clear h ht hT
  go_enter Try.func33, Try.ntmps33
  go_wp2_with fail
  refine (rtsize_eq HH.out HT.out).mono ?_; rintro e w1 ⟨rfl, c1⟩
  go_wp2_with fail
  go_ret
  exact ⟨rfl, c1⟩
set_option maxRecDepth 100000 in
set_option maxHeartbeats 4000000 in
theorem remax_any (h : RE W w q t sv cv m es ns) : Calls Try.prog 34 #[.pointer (some ⟨q, 0, none⟩)] w fun e w' => e = .returned (.int .i64 (m : Nat)) ∧ w = w' := by
  have x0 : World.cell? w ⟨q, 0, none⟩ = some (.pointer (some ⟨t, 0, none⟩)) := h.head.cell rfl
  have x1 : World.cell? w ⟨t, 1, none⟩ = some (.int .i64 m) := h.tab.head.cell rfl
  clear h
  go_enter Try.func34, Try.ntmps34
  go_wp2_with fail
  go_ret
  exact ⟨rfl, rfl⟩
end
end Go.Proofs.Ytmoeioaahampaaa.Tb.Hp
