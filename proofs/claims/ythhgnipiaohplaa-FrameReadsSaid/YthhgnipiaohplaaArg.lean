/-
  An argument that is a slice of octets; the empty row that an append begins with.
-/
import Derived.Test.YthhgnipiaohplaaByte
namespace Go.Proofs.Ythhgnipiaohplaa.B
open Go.ChangeShapes Go.WideShapes Go.ChangeAt Go.RowKit
set_option linter.unusedVariables false
set_option linter.unusedSimpArgs false

set_option maxRecDepth 100000 in
theorem decB {H : Type} {enc : TypeId × Value → H} {W : World} (n : Nat) (cs : List Value) (x : DataW H × List MemPlace) (hl : cs.length = 1)
    (h : DataW.trod enc Try.prog W 0 (fun _ => true) true n 5 cs = some x) : ∃ z, cs = encB z ∧ True := by
  obtain ⟨a, ha, _, hwa⟩ := DataW.trod_int Try.underlying5 h
  have hb : 0 ≤ a ∧ a ≤ 255 := by simpa [Lit.wf, IntKind.min, IntKind.max, IntKind.signed, IntKind.bits] using hwa
  refine ⟨UInt8.ofNat a.toNat, ?_, trivial⟩
  rw [ha]
  simp only [encB, List.cons.injEq, and_true, Value.int.injEq, true_and]
  have : (UInt8.ofNat a.toNat).toNat = a.toNat := by simp; omega
  rw [this]; omega
set_option maxRecDepth 100000 in
theorem open_bytes {H : Type} {enc : TypeId × Value → H} {W : World} {r : Reach} {b0 : Nat} {v : Value} {d : DataW H} {ps : List MemPlace} (hval : Value.okWide Try.prog W r b0 22 v)
    (hd : DataW.Trod enc Try.prog W 0 (fun _ => true) true 22 v d ps) (hlt : ∀ p ∈ ps, p.block < W.heap.size) : ∃ l : List UInt8, l.length ≤ maxLen ∧ BytesOf W v l := by
  obtain ⟨zs, _, h1, h2⟩ := open_arg_slice 1 encB (fun _ => True) Try.underlying22 (by kernel_rfl) (by omega) hval decB hd hlt
  exact ⟨zs, h1, h2⟩
/-- A new row without octets. -/
theorem OwnB.empty {w : World} {base : Nat} (hb : base ≤ w.heap.size) : OwnB (w.alloc (.cells #[] 5)) base (.slice (some ⟨w.heap.size, 0, none⟩) 0 0) [] := by
  refine ⟨rfl, Or.inr ⟨w.heap.size, 0, #[], rfl, hb, ?_, Nat.le_refl _, by simp [maxLen], rfl, rfl⟩⟩
  exact At.new w _
theorem run_append_of_nil {P : Program} (w : World) (base : Nat) (t ty e : TypeId) (i : TypeInfo) (size : Nat) (ht : P.underlying t = some (.slice e)) (hi : P.info? e = some i)
    (v : Value) (n : Nat) (xs : List Value) (hown : w.ownsRow base e size v n xs) (c : Nat) : (Builtin.append_ #[t, t] ty #[v, .slice none 0 c]).run P w = .ok v w := by
  rcases hown.2 with ⟨rfl, rfl⟩ | ⟨g, cap, cur, rfl, _, _, hnc, _⟩
  · simp [Builtin.append_, run_underlying ht, sizeOf, typeInfo, hi, Builtin.lenOf, Builtin.firstCells]
  · simp [Builtin.append_, run_underlying ht, sizeOf, typeInfo, hi, Builtin.lenOf, Builtin.firstCells, hnc, storeCells]
set_option maxRecDepth 100000 in
theorem run_any {w : World} (base : Nat) (ty : TypeId) (v : Value) (l : List UInt8) (hown : OwnB w base v l) (u : Value) (m : List UInt8) (hu : BytesOf w u m)
    (hb : l.length + m.length ≤ 140737488355328) (hbase : base ≤ w.heap.size) :
    ∃ v' w', (Builtin.append_ #[22, 22] ty #[v, u]).run Try.prog w = .ok v' w' ∧ OwnB w' base v' (l ++ m) ∧ Chg v.ownBlock.toList w w' ∧ ∀ k, v'.ownBlock = some k → v.ownBlock = some k ∨ w.heap.size ≤ k := by
  obtain ⟨i, hi, hz, hsz, hby⟩ := info_parts infoB
  obtain ⟨ad, cap, rfl, h1, h2⟩ := hu.slice
  cases ad with
  | none =>
    have hm : m = [] := by
      cases m with
      | nil => rfl
      | cons c m => obtain ⟨b, off, h, _⟩ := hu.cell (by simp); cases h
    subst hm
    exact ⟨v, w, run_append_of_nil w base 22 ty 5 i 1 Try.underlying22 hi v _ _ hown cap, by rw [List.append_nil]; exact hown, Chg.refl _, fun k hk => Or.inl hk⟩
  | some ad =>
    obtain ⟨v', w', hr, q1, q2, q3⟩ := run_append_fresh (P := Try.prog) w base 22 ty 5 i (.int .u8 0) 1 1 Try.underlying22 hi hz hsz hby rfl (by decide) v l.length (rowB l) hown ad m.length cap (rowB m) (by simp [rowB])
      (fun j y hy => by
        rw [rowB_get] at hy
        obtain ⟨c, hc, rfl⟩ := Option.map_eq_some_iff.1 hy
        obtain ⟨b, off, h, _, hcell⟩ := hu.cell (by have := (List.getElem?_eq_some_iff.1 hc).1; omega)
        cases h
        rw [add_off, hcell j c hc]) (rowB_one m) (by simp only [maxLen]; omega) (by omega) hbase
    exact ⟨v', w', hr, by unfold OwnB; rw [List.length_append, rowB_append]; exact q1, q2, q3⟩
/-- 'append' of octets that may be none. -/
theorem app_any {w : World} {ops : Array Oper} {rest : List Oper} {o : Oper} {a : Act} {Q : Exit → Act → World → Prop} (hgd : o.guard = none) (s x : Operand)
    (ho : o.op = .call { callee := .builtin .append, args := #[s, x], argTypes := #[22, 22] })
    (base : Nat) (v : Value) (l : List UInt8) (hs : a.eval s = v) (hown : OwnB w base v l)
    (u : Value) (m : List UInt8) (hx : a.eval x = u) (hu : BytesOf w u m)
    (hb : l.length + m.length ≤ 140737488355328) (hbase : base ≤ w.heap.size)
    (h : ∀ v' w', OwnB w' base v' (l ++ m) → Chg v.ownBlock.toList w w' → (∀ k, v'.ownBlock = some k → v.ownBlock = some k ∨ w.heap.size ≤ k) → wpList Try.prog ops Q rest (a.put o.dst v') w') : wpList Try.prog ops Q (o :: rest) a w := by
  refine wpList_plain hgd fun _ hK => ?_
  obtain ⟨v', w', hr, h2, h3, h4⟩ := run_any base o.type v l hown u m hu hb hbase
  unfold Oper.wp execOp
  simp only [ho, resolve, invoke, builtin, Sem.run_bind, Sem.run_pure, Result.andThen_ok, List.map_toArray, List.map_cons, List.map_nil, hs, hx, hr]
  exact hK _ _ (h v' w' h2 h3 h4)
/-- The same in a region that draws its order. -/
theorem step_any {w : World} {ops : Array Oper} {o : Oper} {a : Act} {K : Act → World → Prop} {Q : Exit → Act → World → Prop} {E : Prop} (hgd : o.guard = none) (s x : Operand)
    (ho : o.op = .call { callee := .builtin .append, args := #[s, x], argTypes := #[22, 22] })
    (base : Nat) (v : Value) (l : List UInt8) (hs : a.eval s = v) (hown : OwnB w base v l)
    (u : Value) (m : List UInt8) (hx : a.eval x = u) (hu : BytesOf w u m)
    (hb : l.length + m.length ≤ 140737488355328) (hbase : base ≤ w.heap.size)
    (h : ∀ v' w', OwnB w' base v' (l ++ m) → Chg v.ownBlock.toList w w' → (∀ k, v'.ownBlock = some k → v.ownBlock = some k ∨ w.heap.size ≤ k) → K (a.put o.dst v') w') :
    if Region.wanted o (yielded ops a.tmps) = true then Oper.wp Try.prog o a w K Q else E := by
  have hw : Region.wanted o (yielded ops a.tmps) = true := by simp [Region.wanted, hgd]
  rw [if_pos hw]
  obtain ⟨v', w', hr, h2, h3, h4⟩ := run_any base o.type v l hown u m hu hb hbase
  unfold Oper.wp execOp
  simp only [ho, resolve, invoke, builtin, Sem.run_bind, Sem.run_pure, Result.andThen_ok, List.map_toArray, List.map_cons, List.map_nil, hs, hx, hr]
  exact h v' w' h2 h3 h4
/-- Of the call's own: what an elder world had stays. -/
theorem OwnB.lo {w : World} {base : Nat} {v : Value} {l : List UInt8} (h : OwnB w base v l) : ∀ x ∈ v.ownBlock.toList, base ≤ x := owns_lo h
end Go.Proofs.Ythhgnipiaohplaa.B
