/-
  Rows of one's own of elements that take several cells: read as a list, and 'append' onto them.
-/
import Derived.Test.YthhgnipiaohplaaLift
import Derived.Test.YthhgnipiaohplaaRow
import Derived.Deep.RegionLaw
namespace Go.Proofs.Ythhgnipiaohplaa.B
open Go.ChangeShapes Go.WideShapes Go.ChangeAt Go.RowKit
set_option linter.unusedVariables false
set_option linter.unusedSimpArgs false

theorem addOff (b off j : Nat) : (⟨b, off, none⟩ : Addr).add j = ⟨b, off + j, none⟩ := by unfold Addr.add; split <;> simp_all
theorem infoParts {P : Program} {e : TypeId} {z : Value} {sz b : Nat} (h : (P.info? e).map (fun i => (i.zero, i.size, i.bytes)) = some (some z, sz, b)) : ∃ i, P.info? e = some i ∧ i.zero = some z ∧ i.size = sz ∧ i.bytes = b := by
  obtain ⟨i, hi, hzz⟩ := Option.map_eq_some_iff.1 h
  simp only [Prod.mk.injEq] at hzz
  exact ⟨i, hi, hzz.1, hzz.2.1, hzz.2.2⟩
/-- A row of the call's own: each element laid out as 'enc' says. -/
def OwnR {α : Type} (e : TypeId) (size : Nat) (enc : α → List Value) (w : World) (base : Nat) (v : Value) (l : List α) : Prop := w.ownsRow base e size v l.length (l.flatMap enc)
section
variable {α : Type} {e : TypeId} {size : Nat} {enc : α → List Value} {w w' : World} {base : Nat} {v : Value} {l m : List α}

theorem flat_len (he : ∀ x, (enc x).length = size) (l : List α) : (l.flatMap enc).length = l.length * size := by
  induction l with
  | nil => simp
  | cons x l ih => rw [List.flatMap_cons, List.length_append, he, ih, List.length_cons, Nat.succ_mul]; omega
theorem flat_get (he : ∀ x, (enc x).length = size) : ∀ {l : List α} {i : Nat} {x : α}, l[i]? = some x → ∀ {j : Nat}, j < size → (l.flatMap enc)[i * size + j]? = (enc x)[j]? := by
  intro l
  induction l with
  | nil => intro i x h; simp at h
  | cons y l ih =>
    intro i x h j hj
    rw [List.flatMap_cons]
    cases i with
    | zero =>
      simp at h; subst h
      rw [List.getElem?_append_left (by rw [he]; omega)]; congr 1; omega
    | succ i =>
      simp at h
      rw [List.getElem?_append_right (by rw [he, Nat.succ_mul]; omega), he, Nat.succ_mul, show i * size + size + j - size = i * size + j by omega]
      exact ih h hj
theorem flat_at (he : ∀ x, (enc x).length = size) {l : List α} {q : Nat} {y : Value} (h : (l.flatMap enc)[q]? = some y) : ∃ i j x, q = i * size + j ∧ j < size ∧ l[i]? = some x ∧ (enc x)[j]? = some y := by
  have hq := (List.getElem?_eq_some_iff.1 h).1
  rw [flat_len he] at hq
  have hs : 0 < size := Nat.pos_of_ne_zero (fun h0 => by rw [h0, Nat.mul_zero] at hq; omega)
  have hd : q / size < l.length := (Nat.div_lt_iff_lt_mul hs).2 hq
  have hqq : q = q / size * size + q % size := by rw [Nat.mul_comm]; exact (Nat.div_add_mod q size).symm
  refine ⟨q / size, q % size, l[q / size], hqq, Nat.mod_lt _ hs, List.getElem?_eq_getElem hd, ?_⟩
  rw [← flat_get he (List.getElem?_eq_getElem hd) (Nat.mod_lt _ hs), ← hqq, h]
theorem flat_one (h1 : ∀ x, ∀ u ∈ enc x, u.oneCell' = true) (l : List α) : ∀ u ∈ l.flatMap enc, u.oneCell' = true := by
  intro u hu
  obtain ⟨x, _, hx⟩ := List.mem_flatMap.1 hu
  exact h1 x u hx

theorem OwnR.nil (w : World) (base : Nat) : OwnR e size enc w base (.slice none 0 0) ([] : List α) := World.ownsRow_nil _ _ _ _
theorem OwnR.chg {ls : List Nat} (h : OwnR e size enc w base v l) (hc : Chg ls w w') (hn : ∀ g, v.ownBlock = some g → g ∉ ls) : OwnR e size enc w' base v l := owns_chg h hc hn
theorem OwnR.chg0 (h : OwnR e size enc w base v l) (hc : Chg [] w w') : OwnR e size enc w' base v l := h.chg hc (fun _ _ => by simp)
theorem OwnR.drewN (h : OwnR e size enc w base v l) (k : Nat) : OwnR e size enc (w.drewN k) base v l := h
theorem OwnR.drew (h : OwnR e size enc w base v l) : OwnR e size enc w.drew base v l := h
theorem OwnR.alloc (h : OwnR e size enc w base v l) (o : Obj) : OwnR e size enc (w.alloc o) base v l := h.chg0 ((Chg.refl w).alloc o)
theorem OwnR.lo (h : OwnR e size enc w base v l) : ∀ x ∈ v.ownBlock.toList, base ≤ x := owns_lo h
theorem OwnR.lt (h : OwnR e size enc w base v l) : ∀ x ∈ v.ownBlock.toList, x < w.heap.size := fun x hx => (World.ownsRow.lt h x (by simpa using hx)).2
theorem OwnR.slice (h : OwnR e size enc w base v l) : ∃ a cap, v = .slice a l.length cap ∧ l.length ≤ cap ∧ cap ≤ maxLen := by
  obtain ⟨a, cap, h1, h2, h3, _⟩ := owns_val h; exact ⟨a, cap, h1, h2, h3⟩
theorem OwnR.alien (h : OwnR e size enc w base v l) {b : Nat} {c : Array Value} {T : TypeId} {fz : Nat × Nat} (hb : At w b (.cells c T fz)) (hT : T ≠ e) : b ∉ v.ownBlock.toList := owns_alien h hb hT
theorem OwnR.sl (he : ∀ x, (enc x).length = size) (hs : 0 < size) (h : OwnR e size enc w base v l) : SliceOf w v size enc l := by
  obtain ⟨a, cap, rfl, hc, hm, hr⟩ := owns_val h
  refine ⟨a, cap, rfl, hc, hm, fun h0 => ?_⟩
  obtain ⟨g, rfl, hg, hcell, _⟩ := hr h0
  refine ⟨g, 0, rfl, (World.ownsRow.lt h g hg).2, fun i z hz j hj => ?_⟩
  have hi : i < l.length := (List.getElem?_eq_some_iff.1 hz).1
  have hlt : i * size + j < l.length * size := by
    have : i * size + size ≤ l.length * size := by rw [← Nat.succ_mul]; exact Nat.mul_le_mul_right _ hi
    omega
  rw [Nat.zero_add, hcell _ hlt]
  exact flat_get he hz hj

/-- Elements read through a slice. -/
theorem SliceOf.chg {ls : List Nat} (h : SliceOf w v size enc l) (hc : Chg ls w w') (hn : ∀ a n cap, v = .slice (some a) n cap → a.block ∉ ls) : SliceOf w' v size enc l := by
  obtain ⟨a, cap, rfl, h1, h2, h3⟩ := h
  refine ⟨a, cap, rfl, h1, h2, fun h0 => ?_⟩
  obtain ⟨b, off, rfl, hb, hcell⟩ := h3 h0
  exact ⟨b, off, rfl, Nat.lt_of_lt_of_le hb hc.size, fun i z hz j hj => by rw [hc.cell hb (hn _ _ _ rfl)]; exact hcell i z hz j hj⟩
theorem SliceOf.chg0 (h : SliceOf w v size enc l) (hc : Chg [] w w') : SliceOf w' v size enc l := h.chg hc (fun _ _ _ _ => by simp)
theorem SliceOf.below {B : Nat} (h : SliceOf w v size enc l) (hb0 : w.heap.size ≤ B) (hc : Below B w w') : SliceOf w' v size enc l := by
  obtain ⟨a, cap, rfl, h1, h2, h3⟩ := h
  refine ⟨a, cap, rfl, h1, h2, fun h0 => ?_⟩
  obtain ⟨b, off, rfl, hb, hcell⟩ := h3 h0
  exact ⟨b, off, rfl, Nat.lt_of_lt_of_le hb hc.size, fun i z hz j hj => by rw [hc.cell (p := ⟨b, off + i * size + j, none⟩) (by show b < B; omega)]; exact hcell i z hz j hj⟩
theorem SliceOf.len (h : SliceOf w v size enc l) : ∃ a cap, v = .slice a l.length cap ∧ l.length ≤ cap ∧ cap ≤ maxLen := by
  obtain ⟨a, cap, h1, h2, h3, _⟩ := h; exact ⟨a, cap, h1, h2, h3⟩
theorem SliceOf.at {a : Option Addr} {n cap : Nat} (h : SliceOf w (.slice a n cap) size enc l) (h0 : 0 < l.length) : ∃ b off, a = some ⟨b, off, none⟩ ∧ b < w.heap.size ∧ ∀ i z, l[i]? = some z → ∀ j, j < size → w.cell? ⟨b, off + i * size + j, none⟩ = (enc z)[j]? := by
  obtain ⟨a', cap', he, _, _, h3⟩ := h
  simp only [Value.slice.injEq] at he
  obtain ⟨rfl, _, _⟩ := he
  exact h3 h0
theorem SliceOf.cut {b off n cap : Nat} (h : SliceOf w (.slice (some ⟨b, off, none⟩) n cap) size enc l) (i j : Nat) (hij : i ≤ j) (hj : j ≤ l.length) {c' : Nat} (hc : j - i ≤ c') (hc2 : c' ≤ maxLen) :
    SliceOf w (.slice (some ⟨b, off + i * size, none⟩) (j - i) c') size enc ((l.drop i).take (j - i)) := by
  have hl : ((l.drop i).take (j - i)).length = j - i := by rw [List.length_take, List.length_drop]; omega
  refine ⟨_, c', by rw [hl], by omega, hc2, fun h0 => ?_⟩
  obtain ⟨b', off', he, hb, hcell⟩ := h.at (by omega)
  simp only [Option.some.injEq, Addr.mk.injEq] at he
  obtain ⟨rfl, rfl, _⟩ := he
  refine ⟨b, _, rfl, hb, fun k z hz q hq => ?_⟩
  have hk : k < j - i := by rw [← hl]; exact (List.getElem?_eq_some_iff.1 hz).1
  rw [List.getElem?_take_of_lt hk, List.getElem?_drop] at hz
  rw [← hcell _ _ hz q hq, Nat.add_mul]
  congr 2; omega
/-- One element in a block of its own. -/
theorem SliceOf.one {T : TypeId} {x : α} (he : (enc x).length = size) {cs : Array Value} (hcs : cs.toList = enc x) (w : World) : SliceOf (w.alloc (.cells cs T)) (.slice (some ⟨w.heap.size, 0, none⟩) 1 1) size enc [x] := by
  refine ⟨_, 1, rfl, by simp, by simp [maxLen], fun _ => ⟨w.heap.size, 0, rfl, by simp, fun i z hz j hj => ?_⟩⟩
  have hi : i < 1 := (List.getElem?_eq_some_iff.1 hz).1
  obtain rfl : i = 0 := by omega
  simp at hz; subst hz
  have hj' : j < cs.size := by rw [← Array.length_toList, hcs, he]; exact hj
  have : cs[j]? = (enc x)[j]? := by rw [← hcs, Array.getElem?_toList]
  rw [show 0 + 0 * size + j = j by omega, ← this]
  obtain ⟨y, hy⟩ : ∃ y, cs[j]? = some y := ⟨_, Array.getElem?_eq_getElem hj'⟩
  rw [hy]
  exact At.cell (At.new w _) hy

variable {P : Program}
theorem news_of (he : ∀ x, (enc x).length = size) {a : Option Addr} {n cap : Nat} (hu : SliceOf w (.slice a n cap) size enc m) (hm : 0 < m.length) : ∃ ad, a = some ad ∧ ∀ j y, (m.flatMap enc)[j]? = some y → w.cell? (ad.add j) = some y := by
  obtain ⟨b, off, rfl, hb, hcell⟩ := hu.at hm
  refine ⟨_, rfl, fun q y hy => ?_⟩
  obtain ⟨i, j, x, rfl, hj, hx, hxy⟩ := flat_at he hy
  rw [addOff, ← Nat.add_assoc, hcell i x hx j hj, hxy]
theorem run_row (he : ∀ x, (enc x).length = size) (h1 : ∀ x, ∀ u ∈ enc x, u.oneCell' = true) {z : Value} {bytes : Nat} {t : TypeId} (ht : P.underlying t = some (.slice e))
    (hi : (P.info? e).map (fun i => (i.zero, i.size, i.bytes)) = some (some z, size, bytes)) (hzs : z.cells.size = size) (hsz : 0 < size)
    (w : World) (base : Nat) (ty : TypeId) (v : Value) (l : List α) (hown : OwnR e size enc w base v l) (u : Value) (m : List α) (hu : SliceOf w u size enc m)
    (h63 : l.length + m.length ≤ maxLen) (hb : (l.length + m.length) * bytes ≤ 140737488355328) (hbase : base ≤ w.heap.size) :
    ∃ v' w', (Builtin.append_ #[t, t] ty #[v, u]).run P w = .ok v' w' ∧ OwnR e size enc w' base v' (l ++ m) ∧ Chg v.ownBlock.toList w w' ∧ ∀ k, v'.ownBlock = some k → v.ownBlock = some k ∨ w.heap.size ≤ k := by
  obtain ⟨i, hi, hz, hs, hby⟩ := infoParts hi
  obtain ⟨a, cap, rfl, hc1, hc2⟩ := hu.len
  rcases Nat.eq_zero_or_pos m.length with h0 | h0
  · obtain rfl : m = [] := List.length_eq_zero_iff.1 h0
    cases a with
    | none =>
      refine ⟨v, w, ?_, by rw [List.append_nil]; exact hown, Chg.refl _, fun k hk => Or.inl hk⟩
      rcases hown.2 with ⟨rfl, hl0⟩ | ⟨g, cap, cur, rfl, _, _, hnc, _⟩
      · simp [Builtin.append_, run_underlying ht, sizeOf, typeInfo, hi, Builtin.lenOf, Builtin.firstCells]
      · simp [Builtin.append_, run_underlying ht, sizeOf, typeInfo, hi, Builtin.lenOf, Builtin.firstCells, hnc, storeCells]
    | some ad =>
      obtain ⟨v', w', hr, q1, q2, q3⟩ := run_append_fresh (P := P) w base t ty e i z size bytes ht hi hz hs hby hzs hsz v l.length (l.flatMap enc) hown ad 0 cap [] (by simp) (by simp) (by simp) (by simpa using h63) (by simpa using hb) hbase
      exact ⟨v', w', hr, by unfold OwnR; simpa using q1, q2, q3⟩
  · obtain ⟨ad, rfl, hn⟩ := news_of he hu h0
    obtain ⟨v', w', hr, q1, q2, q3⟩ := run_append_fresh (P := P) w base t ty e i z size bytes ht hi hz hs hby hzs hsz v l.length (l.flatMap enc) hown ad m.length cap (m.flatMap enc) (flat_len he m) hn (flat_one h1 m) h63 hb hbase
    exact ⟨v', w', hr, by unfold OwnR; rw [List.length_append, List.flatMap_append]; exact q1, q2, q3⟩
/-- 'append' onto a row of one's own. -/
theorem app_row (he : ∀ x, (enc x).length = size) (h1 : ∀ x, ∀ u ∈ enc x, u.oneCell' = true) {z : Value} {bytes : Nat} (t : TypeId) (ht : P.underlying t = some (.slice e))
    (hi : (P.info? e).map (fun i => (i.zero, i.size, i.bytes)) = some (some z, size, bytes)) (hzs : z.cells.size = size) (hsz : 0 < size)
    {ops : Array Oper} {rest : List Oper} {o : Oper} {a : Act} {Q : Exit → Act → World → Prop} (hgd : o.guard = none) (s x : Operand)
    (ho : o.op = .call { callee := .builtin .append, args := #[s, x], argTypes := #[t, t] })
    (base : Nat) (v : Value) (l : List α) (hs : a.eval s = v) (hown : OwnR e size enc w base v l)
    (u : Value) (m : List α) (hx : a.eval x = u) (hu : SliceOf w u size enc m)
    (h63 : l.length + m.length ≤ maxLen) (hb : (l.length + m.length) * bytes ≤ 140737488355328) (hbase : base ≤ w.heap.size)
    (h : ∀ v' w', OwnR e size enc w' base v' (l ++ m) → Chg v.ownBlock.toList w w' → (∀ k, v'.ownBlock = some k → v.ownBlock = some k ∨ w.heap.size ≤ k) → wpList P ops Q rest (a.put o.dst v') w') : wpList P ops Q (o :: rest) a w := by
  refine wpList_plain hgd fun _ hK => ?_
  obtain ⟨v', w', hr, h2, h3, h4⟩ := run_row he h1 ht hi hzs hsz w base o.type v l hown u m hu h63 hb hbase
  unfold Oper.wp execOp
  simp only [ho, resolve, invoke, builtin, Sem.run_bind, Sem.run_pure, Result.andThen_ok, List.map_toArray, List.map_cons, List.map_nil, hs, hx, hr]
  exact hK _ _ (h v' w' h2 h3 h4)
/-- The same in a region that draws its order. -/
theorem step_row (he : ∀ x, (enc x).length = size) (h1 : ∀ x, ∀ u ∈ enc x, u.oneCell' = true) {z : Value} {bytes : Nat} (t : TypeId) (ht : P.underlying t = some (.slice e))
    (hi : (P.info? e).map (fun i => (i.zero, i.size, i.bytes)) = some (some z, size, bytes)) (hzs : z.cells.size = size) (hsz : 0 < size)
    {ops : Array Oper} {o : Oper} {a : Act} {K : Act → World → Prop} {Q : Exit → Act → World → Prop} {E : Prop} (hgd : o.guard = none) (s x : Operand)
    (ho : o.op = .call { callee := .builtin .append, args := #[s, x], argTypes := #[t, t] })
    (base : Nat) (v : Value) (l : List α) (hs : a.eval s = v) (hown : OwnR e size enc w base v l)
    (u : Value) (m : List α) (hx : a.eval x = u) (hu : SliceOf w u size enc m)
    (h63 : l.length + m.length ≤ maxLen) (hb : (l.length + m.length) * bytes ≤ 140737488355328) (hbase : base ≤ w.heap.size)
    (h : ∀ v' w', OwnR e size enc w' base v' (l ++ m) → Chg v.ownBlock.toList w w' → (∀ k, v'.ownBlock = some k → v.ownBlock = some k ∨ w.heap.size ≤ k) → K (a.put o.dst v') w') :
    if Region.wanted o (yielded ops a.tmps) = true then Oper.wp P o a w K Q else E := by
  have hw : Region.wanted o (yielded ops a.tmps) = true := by simp [Region.wanted, hgd]
  rw [if_pos hw]
  obtain ⟨v', w', hr, h2, h3, h4⟩ := run_row he h1 ht hi hzs hsz w base o.type v l hown u m hu h63 hb hbase
  unfold Oper.wp execOp
  simp only [ho, resolve, invoke, builtin, Sem.run_bind, Sem.run_pure, Result.andThen_ok, List.map_toArray, List.map_cons, List.map_nil, hs, hx, hr]
  exact h v' w' h2 h3 h4
/-- The same, of the operation alone. -/
theorem wp_row (he : ∀ x, (enc x).length = size) (h1 : ∀ x, ∀ u ∈ enc x, u.oneCell' = true) {z : Value} {bytes : Nat} (t : TypeId) (ht : P.underlying t = some (.slice e))
    (hi : (P.info? e).map (fun i => (i.zero, i.size, i.bytes)) = some (some z, size, bytes)) (hzs : z.cells.size = size) (hsz : 0 < size)
    {o : Oper} {a : Act} {K : Act → World → Prop} {Q : Exit → Act → World → Prop} (s x : Operand)
    (ho : o.op = .call { callee := .builtin .append, args := #[s, x], argTypes := #[t, t] })
    (base : Nat) (v : Value) (l : List α) (hs : a.eval s = v) (hown : OwnR e size enc w base v l)
    (u : Value) (m : List α) (hx : a.eval x = u) (hu : SliceOf w u size enc m)
    (h63 : l.length + m.length ≤ maxLen) (hb : (l.length + m.length) * bytes ≤ 140737488355328) (hbase : base ≤ w.heap.size)
    (h : ∀ v' w', OwnR e size enc w' base v' (l ++ m) → Chg v.ownBlock.toList w w' → (∀ k, v'.ownBlock = some k → v.ownBlock = some k ∨ w.heap.size ≤ k) → K (a.put o.dst v') w') : Oper.wp P o a w K Q := by
  obtain ⟨v', w', hr, h2, h3, h4⟩ := run_row he h1 ht hi hzs hsz w base o.type v l hown u m hu h63 hb hbase
  unfold Oper.wp execOp
  simp only [ho, resolve, invoke, builtin, Sem.run_bind, Sem.run_pure, Result.andThen_ok, List.map_toArray, List.map_cons, List.map_nil, hs, hx, hr]
  exact h v' w' h2 h3 h4
end
end Go.Proofs.Ythhgnipiaohplaa.B
