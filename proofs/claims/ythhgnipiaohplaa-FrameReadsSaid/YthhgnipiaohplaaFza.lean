/-
  'append(b, make([]byte, m)...)': zeros onto a row of octets of one's own.
-/
import Derived.Test.YthhgnipiaohplaaFpu
namespace Go.Proofs.Ythhgnipiaohplaa.Fr
open Go.ChangeShapes Go.WideShapes Go.ChangeAt Go.RowKit
open Go.Proofs.Ythhgnipiaohplaa.B
set_option linter.unusedVariables false
set_option linter.unusedSimpArgs false

abbrev Z0 : Value := .int .u8 0
theorem zc (m : Nat) : Builtin.zeroCells #[Z0] m = (List.replicate m Z0).toArray := by
  apply Array.ext
  · simp [Builtin.zeroCells]
  · intro i h1 h2
    simp [Builtin.zeroCells, Nat.mod_one]
theorem zcc : (Z0 : Value).cells = #[Z0] := rfl
section
variable (w : World) {i : TypeInfo}
theorem run_zeros_none (ty : TypeId) (hi : Try.prog.info? 5 = some i) (hz : i.zero = some Z0) (hs : i.size = 1) (hb : i.bytes = 1) (m : Nat) (h0 : 0 < m) (hm : m ≤ 100000) :
    (Builtin.append_ #[22, 3] ty #[.slice none 0 0, .int .i64 (m : Int)]).run Try.prog w =
      .ok (.slice (some ⟨w.heap.size, 0, none⟩) m (grownCap w m 0 5)) (w.drew.alloc (.cells ((List.replicate m Z0).toArray ++ Builtin.zeroCells #[Z0] (grownCap w m 0 5 - m)) 5)) := by
  have ht := Try.underlying22
  have hti := Try.underlying3
  have hn : m ≠ 0 := by omega
  have hw : IntKind.i64.wrap (m : Int) = (m : Int) := by rw [IntKind.wrap_i64]; omega
  have h1 : ¬ ((m : Int) < 0) := by omega
  have h2 : ¬ (281474976710656 < (m : Int)) := by omega
  have h63' : ¬ (9223372036854775807 < (m : Int)) := by omega
  have h48' : ¬ (281474976710656 < Builtin.nextslicecap m 0) := by rw [nextslicecap_zero h0]; omega
  simp [Builtin.append_, run_underlying ht, run_underlying hti, sizeOf, typeInfo, zeroValue, hi, hz, hs, hb, asInt, asIntOf, hw, hn, h1, h2, h63', h48', Question.forced, run_firstCells_none, newRow, grownCap, zc, zcc]
theorem run_zeros_room (ty : TypeId) (hi : Try.prog.info? 5 = some i) (hz : i.zero = some Z0) (hs : i.size = 1) (hb : i.bytes = 1) (m : Nat) (h0 : 0 < m) (hm : m ≤ 100000)
    (g sLen sCap : Nat) (cur : Array Value) (hg : w.heap[g]? = some (.cells cur 5 (0, 0))) (hroom : sLen + m ≤ sCap) (hfit : sLen + m ≤ cur.size) :
    (Builtin.append_ #[22, 3] ty #[.slice (some ⟨g, 0, none⟩) sLen sCap, .int .i64 (m : Int)]).run Try.prog w =
      .ok (.slice (some ⟨g, 0, none⟩) (sLen + m) sCap) (w.setRow g (cur.toList.take sLen ++ List.replicate m Z0 ++ cur.toList.drop (sLen + m)).toArray) := by
  have ht := Try.underlying22
  have hti := Try.underlying3
  have hn : m ≠ 0 := by omega
  have hw : IntKind.i64.wrap (m : Int) = (m : Int) := by rw [IntKind.wrap_i64]; omega
  have h1 : ¬ ((m : Int) < 0) := by omega
  have h2 : ¬ (281474976710656 < (m : Int)) := by omega
  have hst := run_storeCells_at Try.prog g sLen 5 (List.replicate m Z0) 0 cur w hg (by simpa using hfit) (by intro u hu; rw [List.eq_of_mem_replicate hu]; rfl)
  simp only [Nat.add_zero, List.length_replicate] at hst
  simp [Builtin.append_, run_underlying ht, run_underlying hti, sizeOf, typeInfo, zeroValue, hi, hz, hs, hb, asInt, asIntOf, hw, hn, h1, h2, hroom, Addr.add_lit, hst, zc, zcc]
theorem run_zeros_grow (ty : TypeId) (hi : Try.prog.info? 5 = some i) (hz : i.zero = some Z0) (hs : i.size = 1) (hb : i.bytes = 1) (m : Nat) (h0 : 0 < m) (hm : m ≤ 100000)
    (b : Addr) (sLen sCap : Nat) (olds : List Value) (hlo : olds.length = sLen) (holds : ∀ j v, olds[j]? = some v → w.cell? (b.add j) = some v) (hgr : sCap < sLen + m) (hsl : sLen ≤ 140737488000000) :
    (Builtin.append_ #[22, 3] ty #[.slice (some b) sLen sCap, .int .i64 (m : Int)]).run Try.prog w =
      .ok (.slice (some ⟨w.heap.size, 0, none⟩) (sLen + m) (grownCap w (sLen + m) sCap 5))
        (w.drew.alloc (.cells (olds.toArray ++ (List.replicate m Z0).toArray ++ Builtin.zeroCells #[Z0] (grownCap w (sLen + m) sCap 5 - (sLen + m))) 5)) := by
  have ht := Try.underlying22
  have hti := Try.underlying3
  have hn0 : m ≠ 0 := by omega
  have hw : IntKind.i64.wrap (m : Int) = (m : Int) := by rw [IntKind.wrap_i64]; omega
  have h1 : ¬ ((m : Int) < 0) := by omega
  have h2 : ¬ (281474976710656 < (m : Int)) := by omega
  have hn : ¬ (sLen + m ≤ sCap) := by omega
  have h63' : ¬ (9223372036854775807 < ((sLen : Int) + (m : Int))) := by omega
  have hfit := growslice_fits (need := sLen + m) (old := sCap) (bytes := 1) hgr (by omega)
  have h48' : ¬ (281474976710656 < Builtin.nextslicecap (sLen + m) sCap) := by omega
  have hfo := run_firstCells_some (P := Try.prog) w.drew 1 sLen b sLen sCap olds (by omega) (by simpa using holds)
  simp [Builtin.append_, run_underlying ht, run_underlying hti, sizeOf, typeInfo, zeroValue, hi, hz, hs, hb, asInt, asIntOf, hw, hn0, h1, h2, hn, h63', h48', Question.forced, hfo, newRow, grownCap, zc, zcc]
  try (congr 2; apply Array.ext'; simp [List.append_assoc])
end
theorem rowB_rep (m : Nat) : rowB (List.replicate m 0) = List.replicate m Z0 := by simp [rowB]
/-- Zeros behind a row of octets of one's own. -/
theorem run_zeros {w : World} {base : Nat} (ty : TypeId) (v : Value) (l : List UInt8) (hown : OwnB w base v l) (m : Nat) (hm : m ≤ 100000) (hl : l.length ≤ 140737480000000) (hbase : base ≤ w.heap.size) :
    ∃ v' w', (Builtin.append_ #[22, 3] ty #[v, .int .i64 (m : Int)]).run Try.prog w = .ok v' w' ∧ OwnB w' base v' (l ++ List.replicate m 0) ∧ Chg v.ownBlock.toList w w' ∧ ∀ k, v'.ownBlock = some k → v.ownBlock = some k ∨ w.heap.size ≤ k := by
  obtain ⟨i, hi, hzz⟩ := Option.map_eq_some_iff.1 infoB
  simp only [Prod.mk.injEq] at hzz
  obtain ⟨hz, hs, hb⟩ := hzz
  have ht := Try.underlying22
  have hti := Try.underlying3
  have hrl : (rowB l).length = l.length := rowB_length l
  rcases Nat.eq_zero_or_pos m with h0 | h0
  · subst h0
    refine ⟨v, w, ?_, by simpa using hown, Chg.refl _, fun k hk => Or.inl hk⟩
    have hw : IntKind.i64.wrap 0 = 0 := by rw [IntKind.wrap_i64]; omega
    rcases hown.2 with ⟨rfl, hl0⟩ | ⟨g, cap, cur, rfl, hbg, hg, hnc, hcm, hcs, htake⟩
    · simp [Builtin.append_, run_underlying ht, run_underlying hti, sizeOf, typeInfo, zeroValue, hi, hz, hs, hb, asInt, asIntOf, hw]
    · simp [Builtin.append_, run_underlying ht, run_underlying hti, sizeOf, typeInfo, zeroValue, hi, hz, hs, hb, asInt, asIntOf, hw, hnc, storeCells]
  · have hrow : rowB (l ++ List.replicate m 0) = rowB l ++ List.replicate m Z0 := by rw [rowB_append, rowB_rep]
    have hlen : (l ++ List.replicate m (0 : UInt8)).length = l.length + m := by simp
    have h63 : l.length + m ≤ maxLen := by simp only [maxLen]; omega
    have grown : ∀ (old : Nat), OwnB (w.drew.alloc (.cells ((rowB l).toArray ++ (List.replicate m Z0).toArray ++ Builtin.zeroCells #[Z0] (grownCap w (l.length + m) old 5 - (l.length + m))) 5)) base (.slice (some ⟨w.heap.size, 0, none⟩) (l.length + m) (grownCap w (l.length + m) old 5)) (l ++ List.replicate m 0) := by
      intro old
      have hge := grownCap_ge w (l.length + m) old 5
      have hcm : grownCap w (l.length + m) old 5 ≤ maxLen := grownCap_le_maxLen w (l.length + m) old 5 h63
      unfold OwnB
      rw [hlen, hrow]
      refine ⟨by simp [hrl], .inr ⟨w.heap.size, _, _, rfl, hbase, heap_alloc_new w.drew _, hge, hcm, ?_, ?_⟩⟩
      · simp [Builtin.zeroCells, hrl]; omega
      · simp only [Array.toList_append, List.append_assoc, Nat.mul_one]
        rw [← List.append_assoc, List.take_append_of_le_length (by simp [hrl]), List.take_of_length_le (by simp [hrl])]
    have cg : ∀ old, Chg v.ownBlock.toList w (w.drew.alloc (.cells ((rowB l).toArray ++ (List.replicate m Z0).toArray ++ Builtin.zeroCells #[Z0] (grownCap w (l.length + m) old 5 - (l.length + m))) 5)) := fun old => (Chg.refl w).drew.alloc _
    rcases hown.2 with ⟨rfl, hl0⟩ | ⟨g, cap, cur, rfl, hbg, hg, hnc, hcm, hcs, htake⟩
    · obtain rfl : l = [] := List.eq_nil_of_length_eq_zero hl0
      have hr := run_zeros_none w ty hi hz hs hb m h0 hm
      have hg := grown 0
      have hc := cg 0
      simp only [List.length_nil, Nat.zero_add, List.nil_append] at hg hc
      simp only [show (rowB []).toArray = (#[] : Array Value) from rfl, Array.empty_append] at hg hc
      exact ⟨_, _, hr, by simpa using hg, hc, fun k hk => Or.inr (by simp [Value.ownBlock] at hk; omega)⟩
    · simp only [Nat.mul_one] at hcs htake
      by_cases hroom : l.length + m ≤ cap
      · have hr := run_zeros_room w ty hi hz hs hb m h0 hm g l.length cap cur hg hroom (by omega)
        refine ⟨_, _, hr, ?_, ?_, fun k hk => Or.inl (by simpa [Value.ownBlock] using hk)⟩
        · unfold OwnB
          rw [hlen, hrow]
          refine ⟨by simp [hrl], .inr ⟨g, cap, _, rfl, hbg, setRow_heap w g cur _ 5 _ hg, hroom, hcm, ?_, ?_⟩⟩
          · simp only [List.size_toArray, List.length_append, List.length_take, List.length_drop, Array.length_toList, List.length_replicate]
            omega
          · rw [htake]
            simp only [Nat.mul_one]
            rw [List.take_append_of_le_length (by simp [hrl]), List.take_of_length_le (by simp [hrl])]
        · exact Chg.grown ⟨rfl, rfl, rfl, by simp, fun k _ hk => setRow_other w g k _ (fun e => hk (by simp [Value.ownBlock, e]))⟩
      · have holds : ∀ j u, (rowB l)[j]? = some u → w.cell? ((⟨g, 0, none⟩ : Addr).add j) = some u := hown.cells (g := g) rfl
        have hr := run_zeros_grow w ty hi hz hs hb m h0 hm ⟨g, 0, none⟩ l.length cap (rowB l) hrl holds (by omega) (by omega)
        exact ⟨_, _, hr, grown cap, cg cap, fun k hk => Or.inr (by simp [Value.ownBlock] at hk; omega)⟩
/-- The operation. -/
theorem app_zeros {w : World} {ops : Array Oper} {rest : List Oper} {o : Oper} {a : Act} {Q : Exit → Act → World → Prop} (hgd : o.guard = none) (s x : Operand)
    (ho : o.op = .call { callee := .builtin .append, args := #[s, x], argTypes := #[22, 3] })
    (base : Nat) (v : Value) (l : List UInt8) (hs : a.eval s = v) (hown : OwnB w base v l) (m : Nat) (hx : a.eval x = .int .i64 (m : Int)) (hm : m ≤ 100000) (hl : l.length ≤ 140737480000000) (hbase : base ≤ w.heap.size)
    (h : ∀ v' w', OwnB w' base v' (l ++ List.replicate m 0) → Chg v.ownBlock.toList w w' → (∀ k, v'.ownBlock = some k → v.ownBlock = some k ∨ w.heap.size ≤ k) → wpList Try.prog ops Q rest (a.put o.dst v') w') : wpList Try.prog ops Q (o :: rest) a w := by
  refine wpList_plain hgd fun _ hK => ?_
  obtain ⟨v', w', hr, h2, h3, h4⟩ := run_zeros o.type v l hown m hm hl hbase
  unfold Oper.wp execOp
  simp only [ho, resolve, invoke, builtin, Sem.run_bind, Sem.run_pure, Result.andThen_ok, List.map_toArray, List.map_cons, List.map_nil, hs, hx, hr]
  exact hK _ _ (h v' w' h2 h3 h4)
end Go.Proofs.Ythhgnipiaohplaa.Fr
