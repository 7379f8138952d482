/-
  A payload that is read: just, word, window.
-/
import Derived.Test.YthhgnipiaohplaaFfo
namespace Go.Proofs.Ythhgnipiaohplaa.Fr
open Go.ChangeShapes Go.WideShapes Go.ChangeAt Go.RowKit
open Go.Proofs.Ythhgnipiaohplaa.B
set_option linter.unusedVariables false
set_option linter.unusedSimpArgs false

/-- A frame, as it lies in memory: pv, lv its payload and its list. -/
structure Frm where
  kind : Int
  stream : Int
  fin : Bool
  eh : Bool
  ack : Bool
  prio : Bool
  pv : Value
  flags : Int
  pad : Int
  depend : Int
  excl : Bool
  weight : Int
  code : Int
  lv : Value
  last : Int
  inc : Int
/-- A payload that is read. -/
abbrev rcs (f : Frm) (fl : Int) (bv : Value) (pad : Int) (code : Int) : Array Value :=
  #[.int .i64 f.kind, .int .i64 f.stream, .bool f.fin, .bool f.eh, .bool f.ack, .bool f.prio, f.pv, .int .i64 f.flags, .int .i64 f.pad, .int .i64 f.depend, .bool f.excl, .int .i64 f.weight, .int .u32 f.code, f.lv, .int .i64 f.last, .int .i64 f.inc, .int .i64 fl, bv, .int .i64 pad, .int .u32 code]
/-- Its place in memory; its octets are another's. -/
structure RH (w : World) (r : Nat) (f : Frm) (fl : Int) (bv : Value) (l : List UInt8) (pad code : Int) : Prop where
  head : At w r (.cells (rcs f fl bv pad code) 87 (0, 0))
  b : BytesOf w bv l
  ap : ∀ a n c, bv = .slice (some a) n c → a.block < r
section
variable {w w' : World} {r : Nat} {f : Frm} {fl : Int} {bv : Value} {l : List UInt8} {pad code : Int}
theorem RH.bput (h : RH w r f fl bv l pad code) (j : Nat) (v : Value) : Chg [r] w (w.setCell ⟨r, j, none⟩ v) ∧ BytesOf (w.setCell ⟨r, j, none⟩ v) bv l := by
  have hc : Chg [r] w (w.setCell ⟨r, j, none⟩ v) := (Chg.refl w).setCell (Or.inl (by simp)) _
  refine ⟨hc, ?_⟩
  obtain ⟨a, cap, he, h1, h2, h3⟩ := h.b
  refine ⟨a, cap, he, h1, h2, fun h0 => ?_⟩
  obtain ⟨b, off, rfl, hb, hcell⟩ := h3 h0
  have hne : b ≠ r := Nat.ne_of_lt (h.ap _ _ _ he)
  exact ⟨b, off, rfl, Nat.lt_of_lt_of_le hb hc.size, fun i z hz j hj => by rw [hc.cell hb (by simpa using hne)]; exact hcell i z hz j hj⟩
set_option maxRecDepth 100000 in
set_option maxHeartbeats 4000000 in
theorem just_any (h : RH w r f fl bv l pad code) (n : Int) :
    Calls Try.prog 69 #[.pointer (some ⟨r, 0, none⟩), .int .i64 n] w fun e w' => e = .returned (.bool (decide ((l.length : Int) = n))) ∧ RH w' r f fl bv l pad (if (l.length : Int) = n then code else 6) ∧ Chg [r] w w' := by
  obtain ⟨a, cap, rfl, hc, hcm⟩ := h.b.slice
  have x17 : World.cell? w ⟨r, 17, none⟩ = some (.slice a l.length cap) := h.head.cell rfl
  have x19 : World.cell? w ⟨r, 19, none⟩ = some (.int .u32 code) := h.head.cell rfl
  have xf : ∀ j, World.frozen? w ⟨r, j, none⟩ = false := fun j => h.head.free j
  have HH := Lib.hid h
  clear h
  by_cases hn : (l.length : Int) = n
  · rw [if_pos hn, decide_eq_true hn]
    have g : ((l.length : Int) == n) = true := by simp [hn]
    have g2 : ((l.length : Int) != n) = false := by simp [hn]
    clear hn
    go_enter Try.func69, Try.ntmps69
    go_wp2_with fail
    go_ret
    exact ⟨rfl, HH.out, Chg.refl _⟩
  · rw [if_neg hn, decide_eq_false hn]
    have g : ((l.length : Int) == n) = false := by simp [hn]
    have g2 : ((l.length : Int) != n) = true := by simp [hn]
    go_enter Try.func69, Try.ntmps69
    go_wp2_with fail
    go_ret
    obtain ⟨r1, r2⟩ := HH.out.bput 19 (.int .u32 6)
    exact ⟨rfl, ⟨HH.out.head.set 19 _, r2, HH.out.ap⟩, r1⟩
theorem bytes_drop {w : World} {b off n cap : Nat} {l : List UInt8} (h : BytesOf w (.slice (some ⟨b, off, none⟩) n cap) l) (k : Nat) (hk : k ≤ l.length) (hc : l.length ≤ cap) (hm : cap ≤ maxLen) : BytesOf w (.slice (some ⟨b, off + k, none⟩) (l.length - k) (cap - k)) (l.drop k) := by
  have := SliceOf.cut h k l.length hk (Nat.le_refl _) (c' := cap - k) (by omega) (by omega)
  rw [List.take_of_length_le (by rw [List.length_drop]; exact Nat.le_refl _), Nat.mul_one] at this
  exact this
theorem RH.chg0 (h : RH w r f fl bv l pad code) (hc : Chg [] w w') : RH w' r f fl bv l pad code := ⟨h.head.chg hc (by simp), h.b.chg0 hc, h.ap⟩
set_option maxRecDepth 100000 in
set_option maxHeartbeats 4000000 in
theorem word_any {a b c d : UInt8} {rest : List UInt8} (h : RH w r f fl bv (a :: b :: c :: d :: rest) pad code) :
    Calls Try.prog 70 #[.pointer (some ⟨r, 0, none⟩)] w fun e w' => ∃ bv', e = .returned (.int .u32 (fourN a b c d : Nat)) ∧ RH w' r f fl bv' rest pad code ∧ Chg [r] w w' := by
  obtain ⟨ad, cap, rfl, hc, hcm⟩ := h.b.slice
  obtain ⟨bb, off, rfl, hbb, _⟩ := h.b.cell (by simp)
  have x17 : World.cell? w ⟨r, 17, none⟩ = some (.slice (some ⟨bb, off, none⟩) (a :: b :: c :: d :: rest).length cap) := h.head.cell rfl
  have hd := bytes_drop h.b 4 (by simp) hc hcm
  have hlen : (a :: b :: c :: d :: rest).length = rest.length + 4 := by simp
  rw [hlen] at x17 hc hd
  unfold maxLen at hcm
  have hb4 := h.b
  rw [hlen] at hb4
  have HD := Lib.hid hd; have HB := Lib.hid hb4; have HH := Lib.hid h
  clear h hd hb4 hlen
  go_enter Try.func70, Try.ntmps70
  go_wp2_with fail
  refine (four_any HB.out).mono ?_; rintro e w1 ⟨rfl, n1, rfl⟩
  have cN : Chg [] w (w.drewN n1) := (Chg.refl w).drewN n1
  have H1 := Lib.hid (HH.out.chg0 cN); have D1 := Lib.hid (HD.out.chg0 cN); have C1 := Lib.hid cN
  have x17' : World.cell? (w.drewN n1) ⟨r, 17, none⟩ = some (.slice (some ⟨bb, off, none⟩) (rest.length + 4) cap) := x17
  have xf : ∀ j, World.frozen? (w.drewN n1) ⟨r, j, none⟩ = false := fun j => H1.out.head.free j
  have hrl := H1.out.head.lt
  obtain ⟨N, hN⟩ : ∃ N, N = fourN a b c d := ⟨_, rfl⟩
  have HN := Lib.hid hN
  rw [← hN]
  clear cN x17 HH HD HB hN
  generalize w.drewN n1 = w2 at *
  have fin : ∀ bv', BytesOf w2 bv' rest → (∀ a n c, bv' = .slice (some a) n c → a.block < r) → RH (w2.setCell ⟨r, 17, none⟩ bv') r f fl bv' rest pad code ∧ Chg [r] w (w2.setCell ⟨r, 17, none⟩ bv') := fun bv' h1 h2 => by
    have hc : Chg [r] w2 (w2.setCell ⟨r, 17, none⟩ bv') := (Chg.refl w2).setCell (Or.inl (by simp)) _
    exact ⟨⟨H1.out.head.set 17 _, SliceOf.chg h1 hc (fun a n c e => by have := h2 a n c e; simp; omega), h2⟩, (C1.out.mono (by simp)).trans' hc⟩
  have hap : bb < r := H1.out.ap _ _ _ rfl
  have FIN := Lib.hid fin; have HAP := Lib.hid hap
  clear fin hap
  rcases Nat.lt_or_ge 4 cap with h4 | h4
  · have hne : ¬ cap = 4 := by omega
    go_wp2_with fail
    go_ret
    obtain ⟨k1, k2⟩ := FIN.out (.slice (some ⟨bb, off + 4, none⟩) rest.length (cap - 4)) (by simpa using D1.out) (fun a n c e => by cases e; exact HAP.out)
    exact ⟨_, by rw [← HN.out]; rfl, k1, k2⟩
  · obtain rfl : cap = 4 := by omega
    have hr0 : rest.length = 0 := by omega
    go_wp2_with fail
    go_ret
    obtain ⟨k1, k2⟩ := FIN.out (.slice (some ⟨bb, off, none⟩) rest.length 0) ⟨_, _, rfl, by omega, by simp [maxLen], fun h0 => by omega⟩ (fun a n c e => by cases e; exact HAP.out)
    first | exact ⟨_, by rw [← HN.out]; rfl, k1, k2⟩ | (rw [hr0] at k1 k2; exact ⟨_, by rw [← HN.out]; rfl, k1, k2⟩)
end
end Go.Proofs.Ythhgnipiaohplaa.Fr
