/-
  The walks of package pool: Add, Slots, Drain, Free, Take.
-/
import Derived.Test.YthinceoklkjcpaaPool
import Derived.Test.YthinceoklkjcpaaRow
namespace Go.Proofs.Ythinceoklkjcpaa.Pool
open Go.ChangeShapes Go.WideShapes Go.ChangeAt Go.RowKit
open Go.Proofs.Ythinceoklkjcpaa.B
set_option linter.unusedVariables false
set_option linter.unusedSimpArgs false

set_option maxHeartbeats 1000000 in
theorem add_ok {base p : Nat} {sv : Value} {bs : List Nat} {most : Int} {cs : List Cn} (d slots : Int) (w : World) (h : PP w base p sv bs most cs) (hf : None' cs d) (hm : (cs.length : Int) < most) (hm2 : most ≤ 64) (hbase : base ≤ w.heap.size) :
    Calls Try.prog 11 #[.pointer (some ⟨p, 0, none⟩), .int .i64 d, .int .i64 slots] w fun e w' => e = .returned (.bool true) ∧
      ∃ sv' b, Chg (foot p sv bs) w w' ∧ PP w' base p sv' (bs ++ [b]) most (cs ++ [⟨d, max slots 0, 0, false⟩]) ∧ ∀ x ∈ foot p sv' (bs ++ [b]), x ∈ foot p sv bs ∨ w.heap.size ≤ x := by
  have h' := h
  have HP0 := Lib.hid h
  obtain ⟨a, cap, hsv, hcap, hcapm, hrow⟩ := owns_val h.row
  have h0 := h.head.cell (o := 0) rfl
  have h1 := h.head.cell (o := 1) rfl
  have f1 := h.head.free 1
  have hlt : (bs.length : Int) < most := by rw [h.len]; exact hm
  have e1 : (((bs.length : Nat) : Int) == most) = false := by simp; omega
  have hmx : bs.length + 1 ≤ 64 := by omega
  clear hrow hm h
  obtain ⟨i0, hi, hz0, hz1, hz2⟩ := info_parts info51
  subst hsv
  go_enter Try.func11, Try.ntmps11
  go_wp2_with fail
  go_quiet ((go_at_call 22; exact Calls.quiet_of ((the_none d _ (h'.drewN _) hf).mono fun e w' ⟨he, hw⟩ => ⟨he, 0, hw ▸ rfl⟩)))
  go_wp2_with (at_builtin; refine wpList_append_fresh rfl _ _ 48 rfl base 51 i0 (.pointer none) 1 8 Try.underlying48 hi hz0 hz1 hz2 rfl (by decide) _ _ _ rfl (((owns_drewN HP0.out.row nq).alloc _).alloc _) ⟨w.heap.size + 1, 0, none⟩ 1 1 [.pointer (some ⟨w.heap.size, 0, none⟩)] rfl rfl ?c1 ?c2 ?c3 ?c4 ?c5 ?_)
  case c1 => intro j u hu; match j, hu with | 0, hu => (simp at hu; subst hu; simp [Addr.add, go_sem])
  case c2 => simp [Value.oneCell']
  case c3 => simp only [maxLen]; omega
  case c4 => omega
  case c5 => simp; omega
  intro v' w1 hown hch hfr
  obtain ⟨a', cap', hv', _, _, _⟩ := owns_val hown
  subst hv'
  have hin : ∀ x ∈ (Value.slice a bs.length cap).ownBlock.toList, (Value.slice a bs.length cap).ownBlock = some x := fun x hx => by simpa using hx
  have HL : ∀ x ∈ foot p (Value.slice a bs.length cap) bs, x < w.heap.size := HP0.out.live
  have hpp : p ∉ (Value.slice a bs.length cap).ownBlock.toList := fun hc => (HP0.out.nd3 p (hin p hc)).1 rfl
  have hnw : w.heap.size ∉ (Value.slice a bs.length cap).ownBlock.toList := fun hc => by have := HL w.heap.size (by simp [foot, hin _ hc]); omega
  have HP : At w1 p (.cells #[.int .i64 most, .slice a bs.length cap] 50 (0, 0)) := (((HP0.out.head.drewN nq).alloc _).alloc _).chg hch hpp
  have HB : At w1 w.heap.size (cn ⟨d, max slots 0, 0, false⟩) := ((At.new (w.drewN nq) _).alloc _).chg hch hnw
  have k1 := HP.cell (o := 1) rfl
  have k2 := HP.free 1
  have HK : Chg (foot p (Value.slice a bs.length cap) bs) w w1 := (((Chg.refl w).drewN nq).alloc _).alloc _ |>.trans hch (fun x hx => Or.inl (by simp [foot, hin _ hx]))
  have HHW := Lib.hid hown; have HFR := Lib.hid hfr; have HPP := Lib.hid HP; have HBB := Lib.hid HB; have HKK := Lib.hid HK; have HGR := Lib.hid hch; have HLL := Lib.hid HL; have HIN := Lib.hid hin
  clear hown hfr hch HP HB HK hpp hnw HL hin
  go_wp2_with fail
  go_ret
  have h := HP0.out
  have hne := HLL.out
  have hps : p < w.heap.size := hne p (by simp [foot])
  have hfresh : ∀ k, (Value.slice a' (bs.length + 1) cap').ownBlock = some k → (Value.slice a bs.length cap).ownBlock = some k ∨ w.heap.size < k := by
    intro k hk
    rcases HFR.out k hk with h1 | h1
    · exact Or.inl h1
    · have h2 : w.heap.size + 1 + 1 ≤ k := by simpa using h1
      exact Or.inr (by omega)
  have hbsl : ∀ x ∈ bs, x < w.heap.size := fun x hx => hne x (by simp [foot, hx])
  have hov : ∀ k, (Value.slice a' (bs.length + 1) cap').ownBlock = some k → k ≠ p ∧ k ∉ bs ∧ k ≠ w.heap.size := by
    intro k hk
    rcases hfresh k hk with h1 | h1
    · have h2 := hne k (by simp [foot, h1])
      exact ⟨(h.nd3 k h1).1, (h.nd3 k h1).2, by omega⟩
    · exact ⟨by omega, fun hc => by have := hbsl k hc; omega, by omega⟩
  have hcs : Chg [p] w1 (w1.setCell ⟨p, 1, none⟩ (Value.slice a' (bs.length + 1) cap')) := (Chg.refl _).setCell (Or.inl (by simp)) _
  have hbp : ∀ x ∈ bs, x ≠ p := fun x hx hc => h.nd1 (hc ▸ hx)
  refine ⟨rfl, _, w.heap.size, HKK.out.trans hcs (fun x hx => Or.inl (by simp at hx; subst hx; simp [foot])), ⟨HPP.out.set 1 _, ?_, by simp [h.len], ?_, ?_, ?_, ?_, h.lo1, ?_⟩, ?_⟩
  · have := owns_chg HHW.out hcs (fun g hg => by simp; exact (hov g hg).1)
    simpa [ptr] using this
  · intro i b c hb hc
    by_cases hi : i < bs.length
    · rw [List.getElem?_append_left hi] at hb
      rw [List.getElem?_append_left (by rw [← h.len]; exact hi)] at hc
      have hbb := List.mem_of_getElem? hb
      exact ((((h.conn i b c hb hc).drewN nq).alloc _).alloc _ |>.chg HGR.out (fun hc' => (h.nd3 b (HIN.out b hc')).2 hbb)).set_ne (hbp b hbb) _
    · rw [List.getElem?_append_right (by omega)] at hb
      rw [List.getElem?_append_right (by rw [← h.len]; omega), ← h.len] at hc
      obtain ⟨j, hj⟩ : ∃ j, j = i - bs.length := ⟨_, rfl⟩
      rw [← hj] at hb hc
      cases j with
      | zero => simp at hb hc; subst hb; subst hc; exact HBB.out.set_ne (by show w.heap.size ≠ p; omega) _
      | succ j => simp at hb
  · simp only [List.mem_append, List.mem_singleton, not_or]
    exact ⟨h.nd1, by omega⟩
  · rw [List.nodup_append]
    exact ⟨h.nd2, by simp, fun x hx y hy => by simp at hy; subst hy; have := hbsl x hx; omega⟩
  · intro g hg
    obtain ⟨q1, q2, q3⟩ := hov g hg
    exact ⟨q1, by simp [q2, q3]⟩
  · intro b hb
    simp at hb
    rcases hb with hb | rfl
    · exact h.lo2 b hb
    · exact hbase
  · intro x hx
    simp [foot] at hx
    rcases hx with rfl | hx | hx | rfl
    · exact Or.inl (by simp [foot])
    · rcases hfresh x hx with h1 | h1
      · exact Or.inl (by simp [foot, h1])
      · exact Or.inr (by omega)
    · exact Or.inl (by simp [foot, hx])
    · exact Or.inr (Nat.le_refl _)
end Go.Proofs.Ythinceoklkjcpaa.Pool
