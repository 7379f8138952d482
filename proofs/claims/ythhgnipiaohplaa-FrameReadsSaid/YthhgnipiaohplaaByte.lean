/-
  Rows of octets: slices that read as a list of octets, rows of the call's own, and 'append' onto them.
-/
import Derived.Test.YthhgnipiaohplaaLift
import Derived.Test.YthhgnipiaohplaaRow
import Derived.Test.YthhgnipiaohplaaRows
import Derived.Deep.RegionLaw
namespace Go.Proofs.Ythhgnipiaohplaa.B
open Go.ChangeShapes Go.WideShapes Go.ChangeAt Go.RowKit
set_option linter.unusedVariables false
set_option linter.unusedSimpArgs false

def rowB (l : List UInt8) : List Value := l.map fun c => .int .u8 (c.toNat : Int)
def encB (c : UInt8) : List Value := [.int .u8 (c.toNat : Int)]
/-- A slice that reads as these octets. -/
def BytesOf (w : World) (v : Value) (l : List UInt8) : Prop := SliceOf w v 1 encB l
/-- A row of octets of the call's own. -/
def OwnB (w : World) (base : Nat) (v : Value) (l : List UInt8) : Prop := w.ownsRow base 5 1 v l.length (rowB l)
theorem rowB_append (a b : List UInt8) : rowB (a ++ b) = rowB a ++ rowB b := by simp [rowB]
theorem rowB_length (l : List UInt8) : (rowB l).length = l.length := by simp [rowB]
theorem rowB_get (l : List UInt8) (i : Nat) : (rowB l)[i]? = (l[i]?).map fun c => .int .u8 (c.toNat : Int) := by simp [rowB]
theorem rowB_one (l : List UInt8) : ∀ u ∈ rowB l, u.oneCell' = true := by
  intro u hu; simp only [rowB, List.mem_map] at hu; obtain ⟨c, _, rfl⟩ := hu; rfl
theorem infoB : (Try.prog.info? 5).map (fun i => (i.zero, i.size, i.bytes)) = some (some (.int .u8 0), 1, 1) := by kernel_rfl
theorem info_parts {P : Program} {e : TypeId} {z : Value} {sz b : Nat} (h : (P.info? e).map (fun i => (i.zero, i.size, i.bytes)) = some (some z, sz, b)) : ∃ i, P.info? e = some i ∧ i.zero = some z ∧ i.size = sz ∧ i.bytes = b := by
  obtain ⟨i, hi, hzz⟩ := Option.map_eq_some_iff.1 h
  simp only [Prod.mk.injEq] at hzz
  exact ⟨i, hi, hzz.1, hzz.2.1, hzz.2.2⟩

theorem OwnB.nil (w : World) (base : Nat) : OwnB w base (.slice none 0 0) [] := World.ownsRow_nil _ _ _ _
theorem OwnB.chg {l : List Nat} {w w' : World} {base : Nat} {v : Value} {xs : List UInt8} (h : OwnB w base v xs) (hc : Chg l w w') (hn : ∀ g, v.ownBlock = some g → g ∉ l) : OwnB w' base v xs := owns_chg h hc hn
theorem OwnB.drewN {w : World} {base : Nat} {v : Value} {xs : List UInt8} (h : OwnB w base v xs) (k : Nat) : OwnB (w.drewN k) base v xs := h
theorem OwnB.drew {w : World} {base : Nat} {v : Value} {xs : List UInt8} (h : OwnB w base v xs) : OwnB w.drew base v xs := h
theorem OwnB.alloc {w : World} {base : Nat} {v : Value} {xs : List UInt8} (h : OwnB w base v xs) (o : Obj) : OwnB (w.alloc o) base v xs :=
  owns_chg h ((Chg.refl w).alloc (l := []) o) (fun _ _ => by simp)
theorem OwnB.slice {w : World} {base : Nat} {v : Value} {xs : List UInt8} (h : OwnB w base v xs) : ∃ a cap, v = .slice a xs.length cap := by
  obtain ⟨a, cap, h1, _⟩ := owns_val h; exact ⟨a, cap, h1⟩
theorem OwnB.bytes {w : World} {base : Nat} {v : Value} {xs : List UInt8} (h : OwnB w base v xs) : BytesOf w v xs := by
  obtain ⟨a, cap, rfl, hc, hm, hr⟩ := owns_val h
  refine ⟨a, cap, rfl, hc, hm, fun h0 => ?_⟩
  obtain ⟨g, rfl, hg, hcell, _⟩ := hr h0
  refine ⟨g, 0, rfl, (World.ownsRow.lt h g hg).2, fun i z hz j hj => ?_⟩
  have hi : i < xs.length := (List.getElem?_eq_some_iff.1 hz).1
  obtain rfl : j = 0 := by omega
  rw [Nat.zero_add, hcell _ (by omega)]
  simp [encB, rowB, hz]
theorem BytesOf.chg {l : List Nat} {w w' : World} {v : Value} {xs : List UInt8} (h : BytesOf w v xs) (hc : Chg l w w') (hn : ∀ a n cap, v = .slice (some a) n cap → a.block ∉ l) : BytesOf w' v xs := by
  obtain ⟨a, cap, rfl, h1, h2, h3⟩ := h
  refine ⟨a, cap, rfl, h1, h2, fun h0 => ?_⟩
  obtain ⟨b, off, rfl, hb, hcell⟩ := h3 h0
  exact ⟨b, off, rfl, Nat.lt_of_lt_of_le hb hc.size, fun i z hz j hj => by rw [hc.cell hb (hn _ _ _ rfl)]; exact hcell i z hz j hj⟩
theorem BytesOf.chg0 {w w' : World} {v : Value} {xs : List UInt8} (h : BytesOf w v xs) (hc : Chg [] w w') : BytesOf w' v xs := h.chg hc (fun _ _ _ _ => by simp)
theorem BytesOf.drewN {w : World} {v : Value} {xs : List UInt8} (h : BytesOf w v xs) (k : Nat) : BytesOf (w.drewN k) v xs := h.chg0 ((Chg.refl w).drewN k)
theorem BytesOf.slice {w : World} {v : Value} {xs : List UInt8} (h : BytesOf w v xs) : ∃ a cap, v = .slice a xs.length cap ∧ xs.length ≤ cap ∧ cap ≤ maxLen := by
  obtain ⟨a, cap, h1, h2, h3, _⟩ := h; exact ⟨a, cap, h1, h2, h3⟩
/-- The cell of an octet. -/
theorem BytesOf.cell {w : World} {a : Option Addr} {n cap : Nat} {xs : List UInt8} (h : BytesOf w (.slice a n cap) xs) (h0 : 0 < xs.length) : ∃ b off, a = some ⟨b, off, none⟩ ∧ b < w.heap.size ∧ ∀ (i : Nat) (c : UInt8), xs[i]? = some c → w.cell? ⟨b, off + i, none⟩ = some (.int .u8 (c.toNat : Int)) := by
  obtain ⟨a', cap', he, _, _, h3⟩ := h
  simp only [Value.slice.injEq] at he
  obtain ⟨rfl, _, _⟩ := he
  obtain ⟨b, off, rfl, hb, hcell⟩ := h3 h0
  refine ⟨b, off, rfl, hb, fun i c hc => ?_⟩
  have := hcell i c hc 0 (by omega)
  simpa [encB] using this
theorem BytesOf.new (w : World) (c : UInt8) : BytesOf (w.alloc (.cells #[.int .u8 (c.toNat : Int)] 5)) (.slice (some ⟨w.heap.size, 0, none⟩) 1 1) [c] := by
  refine ⟨_, 1, rfl, by simp, by simp [maxLen], fun _ => ⟨w.heap.size, 0, rfl, by simp, fun i z hz j hj => ?_⟩⟩
  have hi : i < 1 := (List.getElem?_eq_some_iff.1 hz).1
  obtain rfl : i = 0 := by omega
  obtain rfl : j = 0 := by omega
  simp at hz; subst hz
  exact (At.new w _).cell rfl
theorem BytesOf.cut {w : World} {b off n cap : Nat} {xs : List UInt8} (h : BytesOf w (.slice (some ⟨b, off, none⟩) n cap) xs) (i j : Nat) (hij : i ≤ j) (hj : j ≤ xs.length) {c' : Nat} (hc : j - i ≤ c') (hc2 : c' ≤ maxLen) : BytesOf w (.slice (some ⟨b, off + i, none⟩) (j - i) c') ((xs.drop i).take (j - i)) := by
  have hl : ((xs.drop i).take (j - i)).length = j - i := by rw [List.length_take, List.length_drop]; omega
  refine ⟨_, c', by rw [hl], by omega, hc2, fun h0 => ?_⟩
  obtain ⟨b', off', he, hb, hcell⟩ := h.cell (by omega)
  simp only [Option.some.injEq, Addr.mk.injEq] at he
  obtain ⟨rfl, rfl, _⟩ := he
  refine ⟨b, off + i, rfl, hb, fun k z hz m hm => ?_⟩
  obtain rfl : m = 0 := by omega
  have hk : k < j - i := by rw [← hl]; exact (List.getElem?_eq_some_iff.1 hz).1
  rw [List.getElem?_take_of_lt hk, List.getElem?_drop] at hz
  rw [Nat.mul_one, Nat.add_zero, Nat.add_assoc, hcell _ _ hz]; rfl
/-- An address behind some cells. -/
theorem add_off (b off j : Nat) : (⟨b, off, none⟩ : Addr).add j = ⟨b, off + j, none⟩ := by unfold Addr.add; split <;> simp_all
/-- 'append' of octets onto a row of one's own. -/
theorem app_bytes {w : World} {ops : Array Oper} {rest : List Oper} {o : Oper} {a : Act} {Q : Exit → Act → World → Prop} (hgd : o.guard = none) (s x : Operand)
    (ho : o.op = .call { callee := .builtin .append, args := #[s, x], argTypes := #[22, 22] })
    (base : Nat) (v : Value) (l : List UInt8) (hs : a.eval s = v) (hown : OwnB w base v l)
    (u : Value) (m : List UInt8) (hx : a.eval x = u) (hu : BytesOf w u m) (hm : 0 < m.length)
    (hb : l.length + m.length ≤ 140737488355328) (hbase : base ≤ w.heap.size)
    (h : ∀ v' w', OwnB w' base v' (l ++ m) → Chg v.ownBlock.toList w w' → (∀ k, v'.ownBlock = some k → v.ownBlock = some k ∨ w.heap.size ≤ k) → wpList Try.prog ops Q rest (a.put o.dst v') w') : wpList Try.prog ops Q (o :: rest) a w := by
  obtain ⟨i, hi, hz, hsz, hby⟩ := info_parts infoB
  obtain ⟨ad, cap, rfl, h1, h2⟩ := hu.slice
  obtain ⟨b, off, rfl, hbw, hcell⟩ := hu.cell hm
  refine wpList_append_fresh hgd s x 22 ho base 5 i (.int .u8 0) 1 1 Try.underlying22 hi hz hsz hby rfl (by decide) v l.length (rowB l) hs hown ⟨b, off, none⟩ m.length cap (rowB m) hx (by simp [rowB]) ?_ (rowB_one m) (by simp only [maxLen]; omega) (by omega) hbase ?_
  · intro j y hy
    rw [rowB_get] at hy
    obtain ⟨c, hc, rfl⟩ := Option.map_eq_some_iff.1 hy
    rw [add_off, hcell j c hc]
  · intro v' w' h1 h2 h3
    refine h v' w' ?_ h2 h3
    unfold OwnB; rw [List.length_append, rowB_append]; exact h1
theorem step_append_fresh {P : Program} {w : World} {ops : Array Oper} {o : Oper} {a : Act} {K : Act → World → Prop} {Q : Exit → Act → World → Prop} {E : Prop} (hgd : o.guard = none) (s x : Operand) (t : TypeId)
    (ho : o.op = .call { callee := .builtin .append, args := #[s, x], argTypes := #[t, t] })
    (base : Nat) (e : TypeId) (i : TypeInfo) (z : Value) (size bytes : Nat) (ht : P.underlying t = some (.slice e)) (hi : P.info? e = some i) (hz : i.zero = some z)
    (hsize : i.size = size) (hby : i.bytes = bytes) (hzs : z.cells.size = size) (hsz : 0 < size)
    (v : Value) (n : Nat) (xs : List Value) (hs : a.eval s = v) (hown : w.ownsRow base e size v n xs)
    (ad : Addr) (m c : Nat) (news : List Value) (hx : a.eval x = .slice (some ad) m c) (hl : news.length = m * size) (hnews : ∀ j u, news[j]? = some u → w.cell? (ad.add j) = some u) (h1 : ∀ u ∈ news, u.oneCell' = true)
    (h63 : n + m ≤ maxLen) (hbytes : (n + m) * bytes ≤ 140737488355328) (hbase : base ≤ w.heap.size)
    (h : ∀ v' w', w'.ownsRow base e size v' (n + m) (xs ++ news) → Chg v.ownBlock.toList w w' → (∀ k, v'.ownBlock = some k → v.ownBlock = some k ∨ w.heap.size ≤ k) → K (a.put o.dst v') w') :
    if Region.wanted o (yielded ops a.tmps) = true then Oper.wp P o a w K Q else E := by
  have hw : Region.wanted o (yielded ops a.tmps) = true := by simp [Region.wanted, hgd]
  rw [if_pos hw]
  obtain ⟨v', w', hr, h2, h3, h4⟩ := run_append_fresh (P := P) w base t o.type e i z size bytes ht hi hz hsize hby hzs hsz v n xs hown ad m c news hl hnews h1 h63 hbytes hbase
  unfold Oper.wp execOp
  simp only [ho, resolve, invoke, builtin, Sem.run_bind, Sem.run_pure, Result.andThen_ok, List.map_toArray, List.map_cons, List.map_nil, hs, hx, hr]
  exact h v' w' h2 h3 h4
/-- The same in a region that draws its order. -/
theorem step_bytes {w : World} {ops : Array Oper} {o : Oper} {a : Act} {K : Act → World → Prop} {Q : Exit → Act → World → Prop} {E : Prop} (hgd : o.guard = none) (s x : Operand)
    (ho : o.op = .call { callee := .builtin .append, args := #[s, x], argTypes := #[22, 22] })
    (base : Nat) (v : Value) (l : List UInt8) (hs : a.eval s = v) (hown : OwnB w base v l)
    (u : Value) (m : List UInt8) (hx : a.eval x = u) (hu : BytesOf w u m) (hm : 0 < m.length)
    (hb : l.length + m.length ≤ 140737488355328) (hbase : base ≤ w.heap.size)
    (h : ∀ v' w', OwnB w' base v' (l ++ m) → Chg v.ownBlock.toList w w' → (∀ k, v'.ownBlock = some k → v.ownBlock = some k ∨ w.heap.size ≤ k) → K (a.put o.dst v') w') :
    if Region.wanted o (yielded ops a.tmps) = true then Oper.wp Try.prog o a w K Q else E := by
  obtain ⟨i, hi, hz, hsz, hby⟩ := info_parts infoB
  obtain ⟨ad, cap, rfl, h1, h2⟩ := hu.slice
  obtain ⟨b, off, rfl, hbw, hcell⟩ := hu.cell hm
  refine step_append_fresh hgd s x 22 ho base 5 i (.int .u8 0) 1 1 Try.underlying22 hi hz hsz hby rfl (by decide) v l.length (rowB l) hs hown ⟨b, off, none⟩ m.length cap (rowB m) hx (by simp [rowB]) ?_ (rowB_one m) (by simp only [maxLen]; omega) (by omega) hbase ?_
  · intro j y hy
    rw [rowB_get] at hy
    obtain ⟨c, hc, rfl⟩ := Option.map_eq_some_iff.1 hy
    rw [add_off, hcell j c hc]
  · intro v' w' h1 h2 h3
    refine h v' w' ?_ h2 h3
    unfold OwnB; rw [List.length_append, rowB_append]; exact h1
end Go.Proofs.Ythhgnipiaohplaa.B
