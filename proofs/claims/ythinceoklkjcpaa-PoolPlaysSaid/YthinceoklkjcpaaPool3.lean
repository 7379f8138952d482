/-
  The walks of package pool: with, Slots, Drain, Free.
-/
import Derived.Test.YthinceoklkjcpaaPool2
namespace Go.Proofs.Ythinceoklkjcpaa.Pool
open Go.ChangeShapes Go.WideShapes Go.ChangeAt Go.RowKit
open Go.Proofs.Ythinceoklkjcpaa.B
set_option linter.unusedVariables false
set_option linter.unusedSimpArgs false

theorem PP.put {w w' : World} {base p : Nat} {sv : Value} {bs : List Nat} {most : Int} {cs : List Cn} (h : PP w base p sv bs most cs) {i b : Nat} (hb : bs[i]? = some b) (c' : Cn)
    (hc : Chg [b] w w') (ha : At w' b (cn c')) : PP w' base p sv bs most (cs.set i c') := by
  have hbb := List.mem_of_getElem? hb
  refine ⟨h.head.chg hc (by simp; intro hh; exact h.nd1 (hh ▸ hbb)), owns_chg h.row hc (fun g hg => by simp; intro hh; exact (h.nd3 g hg).2 (hh ▸ hbb)), by simp [h.len], ?_, h.nd1, h.nd2, h.nd3, h.lo1, h.lo2⟩
  intro j x c hx hcj
  by_cases hj : i = j
  · subst hj
    rw [hb] at hx
    obtain rfl := Option.some.inj hx
    rw [List.getElem?_set_self (by rw [← h.len]; exact (List.getElem?_eq_some_iff.1 hb).1)] at hcj
    obtain rfl := Option.some.inj hcj
    exact ha
  · rw [List.getElem?_set_ne hj] at hcj
    refine (h.conn j x c hx hcj).chg hc ?_
    simp only [List.mem_singleton]
    intro hxb
    subst hxb
    exact hj ((List.getElem?_inj (List.getElem?_eq_some_iff.1 hb).1 h.nd2).1 (hb.trans hx.symm))

theorem slots1_any (b s : Nat) (c : Cn) (n : Int) (w : World) (hc : At w b (cn c)) (hs : w.cell? ⟨s, 0, none⟩ = some (.int .i64 n)) :
    Calls Try.prog 24 #[.pointer (some ⟨b, 0, none⟩), .pointer (some ⟨s, 0, none⟩)] w fun e w' => e = .returned (.bool true) ∧ Chg [b] w w' ∧ At w' b (cn { c with slots := max n 0 }) := by
  have k1 := hc.cell (o := 1) rfl
  have f1 := hc.free 1
  go_enter Try.func24, Try.ntmps24
  go_wp2_with fail
  go_ret
  exact ⟨rfl, (Chg.refl _).setCell (Or.inl (by simp)) _, hc.set 1 _⟩
theorem drain1_any (b : Nat) (c : Cn) (w : World) (hc : At w b (cn c)) :
    Calls Try.prog 32 #[.pointer (some ⟨b, 0, none⟩)] w fun e w' => e = .returned (.bool true) ∧ Chg [b] w w' ∧ At w' b (cn { c with drains := true }) := by
  have k1 := hc.cell (o := 3) rfl
  have f1 := hc.free 3
  go_enter Try.func32, Try.ntmps32
  go_wp2_with fail
  go_ret
  exact ⟨rfl, (Chg.refl _).setCell (Or.inl (by simp)) _, hc.set 3 _⟩
theorem free1_zero (b : Nat) (c : Cn) (w : World) (hc : At w b (cn c)) (h0 : c.used = 0) :
    Calls Try.prog 35 #[.pointer (some ⟨b, 0, none⟩)] w fun e w' => e = .returned (.bool false) ∧ w = w' := by
  have k1 := hc.cell (o := 2) rfl
  have f1 := hc.free 2
  have e1 : (c.used == 0) = true := by simpa using h0
  clear h0
  go_enter Try.func35, Try.ntmps35
  go_wp2_with fail
  go_ret
  exact ⟨rfl, rfl⟩
theorem free1_more (b : Nat) (c : Cn) (w : World) (hc : At w b (cn c)) (h0 : 0 < c.used) (h1 : c.used ≤ 9223372036854775807) :
    Calls Try.prog 35 #[.pointer (some ⟨b, 0, none⟩)] w fun e w' => e = .returned (.bool true) ∧ Chg [b] w w' ∧ At w' b (cn { c with used := c.used - 1 }) := by
  have k1 := hc.cell (o := 2) rfl
  have f1 := hc.free 2
  have e1 : (c.used == 0) = false := by simp; omega
  go_enter Try.func35, Try.ntmps35
  go_wp2_with fail
  go_ret
  exact ⟨rfl, (Chg.refl _).setCell (Or.inl (by simp)) _, hc.set 2 _⟩

theorem with_none {base p : Nat} {sv : Value} {bs : List Nat} {most : Int} {cs : List Cn} (d : Int) (K : Nat) (caps : Array Value) (w : World) (h : PP w base p sv bs most cs) (hf : None' cs d) :
    Calls Try.prog 23 #[.pointer (some ⟨p, 0, none⟩), .int .i64 d, .func (.func K) #[] caps] w fun e w' => e = .returned (.bool false) ∧ w = w' := by
  go_enter Try.func23, Try.ntmps23
  go_wp2_with fail
  refine (the_none d _ h hf).mono ?_; rintro e w' ⟨rfl, rfl⟩
  go_wp2_with fail
  go_ret
  exact ⟨rfl, rfl⟩
theorem with_slots {base p : Nat} {sv : Value} {bs : List Nat} {most : Int} {cs : List Cn} (d : Int) (s : Nat) (n : Int) (w : World) (h : PP w base p sv bs most cs) {i : Nat} {c0 : Cn} (hf : First cs d i c0) (hs : w.cell? ⟨s, 0, none⟩ = some (.int .i64 n)) :
    Calls Try.prog 23 #[.pointer (some ⟨p, 0, none⟩), .int .i64 d, .func (.func 24) #[] #[.pointer (some ⟨s, 0, none⟩)]] w fun e w' => e = .returned (.bool true) ∧ Chg (foot p sv bs) w w' ∧ PP w' base p sv bs most (cs.set i { c0 with slots := max n 0 }) := by
  have hil : i < bs.length := by have := (List.getElem?_eq_some_iff.1 hf.1).1; rw [h.len]; exact this
  obtain ⟨b, hb⟩ : ∃ b, bs[i]? = some b := ⟨_, List.getElem?_eq_getElem hil⟩
  have hcn := h.conn i b c0 hb hf.1
  have hfoot : b ∈ foot p sv bs := by simp [foot, List.mem_of_getElem? hb]
  have HB := Lib.hid hb; have HF := Lib.hid hf
  clear hb hf
  go_enter Try.func23, Try.ntmps23
  go_wp2_with fail
  refine (the_some d _ h HF.out HB.out).mono ?_; rintro e w' ⟨rfl, rfl⟩
  go_wp2_with fail
  refine (slots1_any b s c0 n _ hcn hs).mono ?_
  rintro e w' ⟨rfl, hc, ha⟩
  go_wp2_with fail
  go_ret
  exact ⟨rfl, hc.mono (by simpa using hfoot), h.put HB.out _ hc ha⟩
theorem with_drain {base p : Nat} {sv : Value} {bs : List Nat} {most : Int} {cs : List Cn} (d : Int)  (w : World) (h : PP w base p sv bs most cs) {i : Nat} {c0 : Cn} (hf : First cs d i c0)  :
    Calls Try.prog 23 #[.pointer (some ⟨p, 0, none⟩), .int .i64 d, .func (.func 32) #[] #[]] w fun e w' => e = .returned (.bool true) ∧ Chg (foot p sv bs) w w' ∧ PP w' base p sv bs most (cs.set i { c0 with drains := true }) := by
  have hil : i < bs.length := by have := (List.getElem?_eq_some_iff.1 hf.1).1; rw [h.len]; exact this
  obtain ⟨b, hb⟩ : ∃ b, bs[i]? = some b := ⟨_, List.getElem?_eq_getElem hil⟩
  have hcn := h.conn i b c0 hb hf.1
  have hfoot : b ∈ foot p sv bs := by simp [foot, List.mem_of_getElem? hb]
  have HB := Lib.hid hb; have HF := Lib.hid hf
  clear hb hf
  go_enter Try.func23, Try.ntmps23
  go_wp2_with fail
  refine (the_some d _ h HF.out HB.out).mono ?_; rintro e w' ⟨rfl, rfl⟩
  go_wp2_with fail
  refine (drain1_any b c0 _ hcn).mono ?_
  rintro e w' ⟨rfl, hc, ha⟩
  go_wp2_with fail
  go_ret
  exact ⟨rfl, hc.mono (by simpa using hfoot), h.put HB.out _ hc ha⟩
theorem with_free {base p : Nat} {sv : Value} {bs : List Nat} {most : Int} {cs : List Cn} (d : Int)  (w : World) (h : PP w base p sv bs most cs) {i : Nat} {c0 : Cn} (hf : First cs d i c0) (h0 : 0 < c0.used) (h1 : c0.used ≤ 9223372036854775807) :
    Calls Try.prog 23 #[.pointer (some ⟨p, 0, none⟩), .int .i64 d, .func (.func 35) #[] #[]] w fun e w' => e = .returned (.bool true) ∧ Chg (foot p sv bs) w w' ∧ PP w' base p sv bs most (cs.set i { c0 with used := c0.used - 1 }) := by
  have hil : i < bs.length := by have := (List.getElem?_eq_some_iff.1 hf.1).1; rw [h.len]; exact this
  obtain ⟨b, hb⟩ : ∃ b, bs[i]? = some b := ⟨_, List.getElem?_eq_getElem hil⟩
  have hcn := h.conn i b c0 hb hf.1
  have hfoot : b ∈ foot p sv bs := by simp [foot, List.mem_of_getElem? hb]
  have HB := Lib.hid hb; have HF := Lib.hid hf
  clear hb hf
  go_enter Try.func23, Try.ntmps23
  go_wp2_with fail
  refine (the_some d _ h HF.out HB.out).mono ?_; rintro e w' ⟨rfl, rfl⟩
  go_wp2_with fail
  refine (free1_more b c0 _ hcn h0 h1).mono ?_
  rintro e w' ⟨rfl, hc, ha⟩
  go_wp2_with fail
  go_ret
  exact ⟨rfl, hc.mono (by simpa using hfoot), h.put HB.out _ hc ha⟩
theorem with_free0 {base p : Nat} {sv : Value} {bs : List Nat} {most : Int} {cs : List Cn} (d : Int)  (w : World) (h : PP w base p sv bs most cs) {i : Nat} {c0 : Cn} (hf : First cs d i c0) (h0 : c0.used = 0) :
    Calls Try.prog 23 #[.pointer (some ⟨p, 0, none⟩), .int .i64 d, .func (.func 35) #[] #[]] w fun e w' => e = .returned (.bool false) ∧ w = w' := by
  have hil : i < bs.length := by have := (List.getElem?_eq_some_iff.1 hf.1).1; rw [h.len]; exact this
  obtain ⟨b, hb⟩ : ∃ b, bs[i]? = some b := ⟨_, List.getElem?_eq_getElem hil⟩
  have hcn := h.conn i b c0 hb hf.1
  have hfoot : b ∈ foot p sv bs := by simp [foot, List.mem_of_getElem? hb]
  have HB := Lib.hid hb; have HF := Lib.hid hf
  clear hb hf
  go_enter Try.func23, Try.ntmps23
  go_wp2_with fail
  refine (the_some d _ h HF.out HB.out).mono ?_; rintro e w' ⟨rfl, rfl⟩
  go_wp2_with fail
  refine (free1_zero b c0 _ hcn h0).mono ?_
  rintro e w' ⟨rfl, rfl⟩
  go_wp2_with fail
  go_ret
  exact ⟨rfl, rfl⟩

/-! ### Slots, Drain, Free -/
theorem slots_none {base p : Nat} {sv : Value} {bs : List Nat} {most : Int} {cs : List Cn} (d n : Int) (w : World) (h : PP w base p sv bs most cs) (hf : None' cs d) :
    Calls Try.prog 14 #[.pointer (some ⟨p, 0, none⟩), .int .i64 d, .int .i64 n] w fun e w' => e = .returned (.bool false) ∧ Chg [] w w' := by
  go_enter Try.func14, Try.ntmps14
  go_wp2_with fail
  refine (with_none d _ _ _ (h.chg ((Chg.refl w).alloc (l := []) _) (by simp)) hf).mono ?_; rintro e w' ⟨rfl, rfl⟩
  go_wp2_with fail
  go_ret
  exact ⟨rfl, (Chg.refl _).alloc _⟩
theorem slots_some {base p : Nat} {sv : Value} {bs : List Nat} {most : Int} {cs : List Cn} (d n : Int) (w : World) (h : PP w base p sv bs most cs) {i : Nat} {c0 : Cn} (hf : First cs d i c0) :
    Calls Try.prog 14 #[.pointer (some ⟨p, 0, none⟩), .int .i64 d, .int .i64 n] w fun e w' => e = .returned (.bool true) ∧ Chg (foot p sv bs) w w' ∧ PP w' base p sv bs most (cs.set i { c0 with slots := max n 0 }) := by
  have HF := Lib.hid hf; clear hf
  go_enter Try.func14, Try.ntmps14
  go_wp2_with fail
  refine (with_slots d w.heap.size n _ (h.chg ((Chg.refl w).alloc (l := []) _) (by simp)) HF.out ((At.new w (.cells #[.int .i64 n] 3)).cell rfl)).mono ?_; rintro e w' ⟨rfl, hc, hp⟩
  go_wp2_with fail
  go_ret
  exact ⟨rfl, ((Chg.refl _).alloc _).trans' hc, hp⟩
theorem drain_none {base p : Nat} {sv : Value} {bs : List Nat} {most : Int} {cs : List Cn} (d : Int) (w : World) (h : PP w base p sv bs most cs) (hf : None' cs d) :
    Calls Try.prog 19 #[.pointer (some ⟨p, 0, none⟩), .int .i64 d] w fun e w' => e = .returned (.bool false) ∧ w = w' := by
  go_enter Try.func19, Try.ntmps19
  go_wp2_with fail
  refine (with_none d _ _ _ h hf).mono ?_; rintro e w' ⟨rfl, rfl⟩
  go_wp2_with fail
  go_ret
  exact ⟨rfl, rfl⟩
theorem free_none {base p : Nat} {sv : Value} {bs : List Nat} {most : Int} {cs : List Cn} (d : Int) (w : World) (h : PP w base p sv bs most cs) (hf : None' cs d) :
    Calls Try.prog 21 #[.pointer (some ⟨p, 0, none⟩), .int .i64 d] w fun e w' => e = .returned (.bool false) ∧ w = w' := by
  go_enter Try.func21, Try.ntmps21
  go_wp2_with fail
  refine (with_none d _ _ _ h hf).mono ?_; rintro e w' ⟨rfl, rfl⟩
  go_wp2_with fail
  go_ret
  exact ⟨rfl, rfl⟩
theorem drain_some {base p : Nat} {sv : Value} {bs : List Nat} {most : Int} {cs : List Cn} (d : Int) (w : World) (h : PP w base p sv bs most cs) {i : Nat} {c0 : Cn} (hf : First cs d i c0) :
    Calls Try.prog 19 #[.pointer (some ⟨p, 0, none⟩), .int .i64 d] w fun e w' => e = .returned (.bool true) ∧ Chg (foot p sv bs) w w' ∧ PP w' base p sv bs most (cs.set i { c0 with drains := true }) := by
  have HF := Lib.hid hf; clear hf
  go_enter Try.func19, Try.ntmps19
  go_wp2_with fail
  refine (with_drain d _ h HF.out).mono ?_; rintro e w' ⟨rfl, hc, hp⟩
  go_wp2_with fail
  go_ret
  exact ⟨rfl, hc, hp⟩
theorem free_more {base p : Nat} {sv : Value} {bs : List Nat} {most : Int} {cs : List Cn} (d : Int) (w : World) (h : PP w base p sv bs most cs) {i : Nat} {c0 : Cn} (hf : First cs d i c0) (h0 : 0 < c0.used) (h1 : c0.used ≤ 9223372036854775807) :
    Calls Try.prog 21 #[.pointer (some ⟨p, 0, none⟩), .int .i64 d] w fun e w' => e = .returned (.bool true) ∧ Chg (foot p sv bs) w w' ∧ PP w' base p sv bs most (cs.set i { c0 with used := c0.used - 1 }) := by
  have HF := Lib.hid hf; clear hf
  go_enter Try.func21, Try.ntmps21
  go_wp2_with fail
  refine (with_free d _ h HF.out h0 h1).mono ?_; rintro e w' ⟨rfl, hc, hp⟩
  go_wp2_with fail
  go_ret
  exact ⟨rfl, hc, hp⟩
theorem free_zero {base p : Nat} {sv : Value} {bs : List Nat} {most : Int} {cs : List Cn} (d : Int) (w : World) (h : PP w base p sv bs most cs) {i : Nat} {c0 : Cn} (hf : First cs d i c0) (h0 : c0.used = 0) :
    Calls Try.prog 21 #[.pointer (some ⟨p, 0, none⟩), .int .i64 d] w fun e w' => e = .returned (.bool false) ∧ w = w' := by
  have HF := Lib.hid hf; clear hf
  have H0 := Lib.hid h0; clear h0
  go_enter Try.func21, Try.ntmps21
  go_wp2_with fail
  refine (with_free0 d _ h HF.out H0.out).mono ?_; rintro e w' ⟨rfl, rfl⟩
  go_wp2_with fail
  go_ret
  exact ⟨rfl, rfl⟩
end Go.Proofs.Ythinceoklkjcpaa.Pool
