/-
  'append' of octets onto the row that '[]byte(text)' made: its mark lies behind its cells.
-/
import Derived.Test.YthhgnipiaohplaaFsn
import Derived.Lib.FrozenHead2
namespace Go.Proofs.Ythhgnipiaohplaa.Fr
open Go.ChangeShapes Go.WideShapes Go.ChangeAt Go.RowKit
open Go.Proofs.Ythhgnipiaohplaa.B
set_option linter.unusedVariables false
set_option linter.unusedSimpArgs false

theorem run_storeCells_atM (P : Program) (g o : Nat) (t : TypeId) (fz : Nat × Nat) : ∀ (vs : List Value) (i : Nat) (cur : Array Value) (w : World), w.heap[g]? = some (.cells cur t fz) → cur.size ≤ fz.1 → o + i + vs.length ≤ cur.size → (∀ v ∈ vs, v.oneCell' = true) →
    (storeCells ⟨g, o, none⟩ vs i).run P w = .ok () (w.setRow g (cur.toList.take (o + i) ++ vs ++ cur.toList.drop (o + i + vs.length)).toArray)
  | [], i, cur, w, hg, _, _, _ => by
    simp only [storeCells, List.append_nil, List.length_nil, Nat.add_zero, List.take_append_drop, Array.toArray_toList]
    rw [setRow_self w g cur t fz hg]
    rfl
  | v :: rest, i, cur, w, hg, hfz, hl, h1 => by
    have hi : o + i < cur.size := by simp at hl; omega
    have hadd : (⟨g, o, none⟩ : Addr).add i = ⟨g, o + i, none⟩ := by unfold Addr.add; split <;> simp_all
    have hcell : w.cell? ⟨g, o + i, none⟩ = some cur[o + i] := by simp [World.cell?, hg, hi]
    have hfro : w.frozen? ⟨g, o + i, none⟩ = false := by
      obtain ⟨lo, hi'⟩ := fz
      simp only [World.frozen?, hg, Bool.and_eq_false_iff, decide_eq_false_iff_not]
      left
      simp only at hfz
      omega
    have hst : (store ((⟨g, o, none⟩ : Addr).add i) v).run P w = .ok () (w.setRow g (cur.setIfInBounds (o + i) v)) := by
      rw [hadd, run_store P w _ v _ (h1 v (by simp)), hcell]
      simp [hfro, setCell_eq_setRow w g (o + i) cur t fz v hg]
    have ih := run_storeCells_atM P g o t fz rest (i + 1) (cur.setIfInBounds (o + i) v) (w.setRow g (cur.setIfInBounds (o + i) v)) (setRow_heap w g cur _ t _ hg) (by rw [Array.size_setIfInBounds]; exact hfz) (by simp at hl ⊢; omega) (fun x hx => h1 x (by simp [hx]))
    simp only [storeCells, Sem.run_bind, hst, Result.andThen_ok, ih, setRow_setRow]
    congr 3
    have e := list_seg_step cur.toList (o + i) v rest (by simp at hl ⊢; omega)
    simpa [Array.toList_setIfInBounds, Nat.add_assoc] using e
/-- A row that is marked behind its cells. -/
structure MarkB (w : World) (g n cap : Nat) (l : List UInt8) : Prop where
  h : ∃ cur fz, w.heap[g]? = some (.cells cur 5 fz) ∧ cur.size ≤ fz.1 ∧ cur.size = cap ∧ cur.toList.take n = rowB l
  ln : l.length = n
  lc : n ≤ cap
  lm : cap ≤ maxLen
theorem str_mark (s : ByteArray) (w : World) (hs : s.size ≤ maxLen) : MarkB (strWorld s w) w.heap.size s.size (grownCap w s.size 0 5) s.data.toList := by
  have hc : s.size ≤ grownCap w s.size 0 5 := grownCap_ge w s.size 0 _
  have hsz : (bytesRow s (grownCap w s.size 0 5)).size = grownCap w s.size 0 5 := by
    have : s.data.size = s.size := rfl
    simp [bytesRow]; omega
  refine ⟨⟨_, _, At.new _ _, Nat.le_refl _, hsz, ?_⟩, by rw [Array.length_toList]; rfl, hc, grownCap_le_maxLen w s.size 0 _ hs⟩
  unfold bytesRow rowB
  have hl : s.size = (s.data.map fun b => Value.int .u8 b.toNat).toList.length := by simp
  rw [Array.toList_append, hl, List.take_left, Array.toList_map]
set_option maxRecDepth 100000 in
theorem run_mark {w : World} (ty : TypeId) {g n cap : Nat} {l : List UInt8} (hm : MarkB w g n cap l) (u : Value) (m : List UInt8) (hu : BytesOf w u m) (hb : l.length + m.length ≤ 140737488355328) :
    ∃ v' w', (Builtin.append_ #[22, 22] ty #[.slice (some ⟨g, 0, none⟩) n cap, u]).run Try.prog w = .ok v' w' ∧ BytesOf w' v' (l ++ m) ∧ Chg [g] w w' := by
  obtain ⟨i, hi, hz, hsz, hby⟩ := info_parts Go.Proofs.Ythhgnipiaohplaa.B.infoB
  obtain ⟨⟨cur, fz, hg, hfz, hcs, htk⟩, hn, hc, hcm⟩ := hm
  obtain ⟨ua, uc, rfl, h1, h2⟩ := hu.slice
  have hgl : g < w.heap.size := (Array.getElem?_eq_some_iff.1 hg).1
  have hcell : ∀ j y, (rowB l)[j]? = some y → w.cell? ⟨g, j, none⟩ = some y := fun j y hj => by
    rw [← htk, List.getElem?_take] at hj
    split at hj
    · exact At.cell (T := 5) (fz := fz) hg (by simpa using hj)
    · cases hj
  cases ua with
  | none =>
    have hm0 : m = [] := by
      cases m with
      | nil => rfl
      | cons c m => obtain ⟨b, off, h, _⟩ := hu.cell (by simp); cases h
    subst hm0
    refine ⟨.slice (some ⟨g, 0, none⟩) n cap, w, by simp [Builtin.append_, run_underlying Try.underlying22, sizeOf, typeInfo, hi, Builtin.lenOf, Builtin.firstCells, hc, storeCells], ?_, Chg.refl _⟩
    rw [List.append_nil]
    refine ⟨_, cap, by rw [hn], by omega, hcm, fun h0 => ⟨g, 0, rfl, hgl, fun k z hz j hj => ?_⟩⟩
    obtain rfl : j = 0 := by omega
    rw [show 0 + k * 1 + 0 = k by omega, hcell k (.int .u8 (z.toNat : Int)) (by rw [rowB_get, hz]; rfl)]; rfl
  | some ad =>
    have hnews : ∀ j y, (rowB m)[j]? = some y → w.cell? (ad.add j) = some y := fun j y hy => by
      rw [rowB_get] at hy
      obtain ⟨c, hc, rfl⟩ := Option.map_eq_some_iff.1 hy
      obtain ⟨b, off, h, _, hcl⟩ := hu.cell (by have := (List.getElem?_eq_some_iff.1 hc).1; omega)
      cases h
      rw [add_off, hcl j c hc]
    by_cases hroom : n + m.length ≤ cap
    · have hf := run_firstCells_some (P := Try.prog) w i.size m.length ad m.length uc (rowB m) (by rw [hsz]; simp [rowB]) hnews
      have hfit : n * i.size + (rowB m).length ≤ cur.size := by rw [hsz, hcs, rowB_length]; omega
      have hst := run_storeCells_atM Try.prog g (n * i.size) 5 fz (rowB m) 0 cur w hg hfz (by simpa using hfit) (rowB_one m)
      simp only [Nat.add_zero] at hst
      have hr : (Builtin.append_ #[22, 22] ty #[.slice (some ⟨g, 0, none⟩) n cap, .slice (some ad) m.length uc]).run Try.prog w =
          .ok (.slice (some ⟨g, 0, none⟩) (n + m.length) cap) (w.setRow g (cur.toList.take (n * i.size) ++ rowB m ++ cur.toList.drop (n * i.size + (rowB m).length)).toArray) := by
        simp [Builtin.append_, run_underlying Try.underlying22, sizeOf, typeInfo, hi, Builtin.lenOf, hroom, hf, Addr.add_lit, hst]
      refine ⟨_, _, hr, ?_, ⟨rfl, rfl, rfl, by simp, fun k _ hk => setRow_other w g k _ (fun e => hk (by simp [e]))⟩⟩
      have hnew := setRow_heap w g cur (cur.toList.take (n * i.size) ++ rowB m ++ cur.toList.drop (n * i.size + (rowB m).length)).toArray 5 fz hg
      refine ⟨_, cap, by rw [List.length_append, hn], by rw [List.length_append, hn]; exact hroom, hcm, fun h0 => ⟨g, 0, rfl, by simpa using hgl, fun k z hz j hj => ?_⟩⟩
      obtain rfl : j = 0 := by omega
      rw [show 0 + k * 1 + 0 = k by omega]
      have hz' : (rowB (l ++ m))[k]? = some (.int .u8 (z.toNat : Int)) := by rw [rowB_get, hz]; rfl
      show _ = some (Value.int .u8 (z.toNat : Int))
      refine At.cell (T := 5) (fz := fz) hnew ?_
      rw [hsz, Nat.mul_one, htk, ← rowB_append]
      have hk : k < (rowB (l ++ m)).length := (List.getElem?_eq_some_iff.1 hz').1
      simp only [List.getElem?_toArray]
      rw [List.getElem?_append_left hk, hz']
    · have hr := run_append_grow (P := Try.prog) w 22 ty 5 i (.int .u8 0) Try.underlying22 hi hz ⟨g, 0, none⟩ n cap (rowB l) (by rw [hsz, rowB_length]; omega) (fun j y hy => by rw [add_off, Nat.zero_add]; exact hcell j y hy) ad m.length uc (rowB m) (by rw [hsz]; simp [rowB]) hnews (by omega) (by omega) (by rw [hby]; exact growslice_fits (by omega) (by rw [Nat.mul_one]; omega))
      have hge := grownCap_ge w (n + m.length) cap 5
      have hcm2 : grownCap w (n + m.length) cap 5 ≤ maxLen := grownCap_le_maxLen w (n + m.length) cap 5 (by simp only [maxLen]; omega)
      refine ⟨_, _, hr, ?_, ((Chg.refl w).drew).alloc _⟩
      refine ⟨_, _, by rw [List.length_append, hn], by rw [List.length_append, hn]; exact hge, hcm2, fun h0 => ⟨w.heap.size, 0, rfl, by simp, fun k z hz j hj => ?_⟩⟩
      obtain rfl : j = 0 := by omega
      rw [show 0 + k * 1 + 0 = k by omega]
      have hz' : (rowB (l ++ m))[k]? = some (.int .u8 (z.toNat : Int)) := by rw [rowB_get, hz]; rfl
      show _ = some (Value.int .u8 (z.toNat : Int))
      refine At.cell (At.new w.drew _) ?_
      have hk : k < (rowB (l ++ m)).length := (List.getElem?_eq_some_iff.1 hz').1
      rw [rowB_append] at hz' hk
      rw [Array.getElem?_append_left (by simpa using hk)]
      simpa using hz'
theorem app_mark {w : World} {ops : Array Oper} {rest : List Oper} {o : Oper} {a : Act} {Q : Exit → Act → World → Prop} (hgd : o.guard = none) (s x : Operand)
    (ho : o.op = .call { callee := .builtin .append, args := #[s, x], argTypes := #[22, 22] })
    {g n cap : Nat} {l : List UInt8} (hs : a.eval s = .slice (some ⟨g, 0, none⟩) n cap) (hm : MarkB w g n cap l) (u : Value) (m : List UInt8) (hx : a.eval x = u) (hu : BytesOf w u m)
    (hb : l.length + m.length ≤ 140737488355328)
    (h : ∀ v' w', BytesOf w' v' (l ++ m) → Chg [g] w w' → wpList Try.prog ops Q rest (a.put o.dst v') w') : wpList Try.prog ops Q (o :: rest) a w := by
  refine wpList_plain hgd fun _ hK => ?_
  obtain ⟨v', w', hr, h2, h3⟩ := run_mark o.type hm u m hu hb
  unfold Oper.wp execOp
  simp only [ho, resolve, invoke, builtin, Sem.run_bind, Sem.run_pure, Result.andThen_ok, List.map_toArray, List.map_cons, List.map_nil, hs, hx, hr]
  exact hK _ _ (h v' w' h2 h3)
end Go.Proofs.Ythhgnipiaohplaa.Fr
