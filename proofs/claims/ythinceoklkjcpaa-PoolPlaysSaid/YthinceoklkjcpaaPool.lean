/-
  The walks of package pool: what a pool is in memory, and 'the', Used, Len, New.
-/
import Derived.Test.YthinceoklkjcpaaBase
import Derived.Test.YthinceoklkjcpaaRows
namespace Go.Proofs.Ythinceoklkjcpaa.Pool
open Go.ChangeShapes Go.WideShapes Go.ChangeAt Go.RowKit
open Go.Proofs.Ythinceoklkjcpaa.B
set_option linter.unusedVariables false
set_option linter.unusedSimpArgs false

/-- A connection. -/
structure Cn where
  id : Int
  slots : Int
  used : Int
  drains : Bool
deriving Inhabited
structure Cn.Ok (c : Cn) : Prop where
  s0 : 0 ≤ c.slots
  s1 : c.slots ≤ 9223372036854775807
  u0 : 0 ≤ c.used
  u1 : c.used ≤ 9223372036854775807
def cells (c : Cn) : List Value := [.int .i64 c.id, .int .i64 c.slots, .int .i64 c.used, .bool c.drains]
def cn (c : Cn) : Obj := .cells #[.int .i64 c.id, .int .i64 c.slots, .int .i64 c.used, .bool c.drains] 54 (0, 0)
def ptr (b : Nat) : Value := .pointer (some ⟨b, 0, none⟩)

/-- A pool in memory: its head at block p, its slice sv, its connections' blocks bs. -/
structure PP (w : World) (base p : Nat) (sv : Value) (bs : List Nat) (most : Int) (cs : List Cn) : Prop where
  head : At w p (.cells #[.int .i64 most, sv] 50 (0, 0))
  row : w.ownsRow base 51 1 sv bs.length (bs.map ptr)
  len : bs.length = cs.length
  conn : ∀ (i b : Nat) (c : Cn), bs[i]? = some b → cs[i]? = some c → At w b (cn c)
  nd1 : p ∉ bs
  nd2 : bs.Nodup
  nd3 : ∀ g, sv.ownBlock = some g → g ≠ p ∧ g ∉ bs
  lo1 : base ≤ p
  lo2 : ∀ b ∈ bs, base ≤ b
def foot (p : Nat) (sv : Value) (bs : List Nat) : List Nat := p :: (sv.ownBlock.toList ++ bs)

theorem PP.chg {l : List Nat} {w w' : World} {base p : Nat} {sv : Value} {bs : List Nat} {most : Int} {cs : List Cn} (h : PP w base p sv bs most cs) (hc : Chg l w w') (hd : ∀ x ∈ foot p sv bs, x ∉ l) : PP w' base p sv bs most cs :=
  ⟨h.head.chg hc (hd p (by simp [foot])), owns_chg h.row hc (fun g hg => hd g (by simp [foot, hg])), h.len,
    fun i b c hb hcc => (h.conn i b c hb hcc).chg hc (hd b (by simp [foot]; right; right; exact List.mem_of_getElem? hb)), h.nd1, h.nd2, h.nd3, h.lo1, h.lo2⟩
theorem PP.drewN {w : World} {base p : Nat} {sv : Value} {bs : List Nat} {most : Int} {cs : List Cn} (h : PP w base p sv bs most cs) (n : Nat) : PP (w.drewN n) base p sv bs most cs := ⟨h.head, h.row, h.len, h.conn, h.nd1, h.nd2, h.nd3, h.lo1, h.lo2⟩
theorem PP.lo {w : World} {base p : Nat} {sv : Value} {bs : List Nat} {most : Int} {cs : List Cn} (h : PP w base p sv bs most cs) : ∀ x ∈ foot p sv bs, base ≤ x := by
  intro x hx
  simp [foot] at hx
  rcases hx with rfl | hx | hx
  · exact h.lo1
  · exact (h.row.lt x hx).1
  · exact h.lo2 x hx
theorem PP.live {w : World} {base p : Nat} {sv : Value} {bs : List Nat} {most : Int} {cs : List Cn} (h : PP w base p sv bs most cs) : ∀ x ∈ foot p sv bs, x < w.heap.size := by
  intro x hx
  simp [foot] at hx
  rcases hx with rfl | hx | hx
  · exact h.head.lt
  · exact (h.row.lt x hx).2
  · obtain ⟨i, hi⟩ := List.getElem?_of_mem hx
    have : i < cs.length := by rw [← h.len]; exact (List.getElem?_eq_some_iff.1 hi).1
    exact (h.conn i x _ hi (List.getElem?_eq_getElem this)).lt

/-- The place of the first connection of an id. -/
def First (cs : List Cn) (id : Int) (i : Nat) (c : Cn) : Prop := cs[i]? = some c ∧ c.id = id ∧ ∀ j d, j < i → cs[j]? = some d → d.id ≠ id
def None' (cs : List Cn) (id : Int) : Prop := ∀ c ∈ cs, c.id ≠ id
theorem first_or (cs : List Cn) (id : Int) : None' cs id ∨ ∃ i c, First cs id i c := by
  induction cs with
  | nil => exact Or.inl (by simp [None'])
  | cons c cs ih =>
    by_cases h : c.id = id
    · exact Or.inr ⟨0, c, rfl, h, fun j d hj => by omega⟩
    · rcases ih with h1 | ⟨i, d, h1, h2, h3⟩
      · exact Or.inl (fun x hx => (List.mem_cons.1 hx).elim (fun e => e ▸ h) (h1 x))
      · refine Or.inr ⟨i + 1, d, by simpa using h1, h2, fun j e hj he => ?_⟩
        cases j with
        | zero => simp at he; subst he; exact h
        | succ j => exact h3 j e (by omega) (by simpa using he)

set_option maxHeartbeats 1000000 in
theorem the_none {base p : Nat} {sv : Value} {bs : List Nat} {most : Int} {cs : List Cn} (id : Int) (w : World) (h : PP w base p sv bs most cs) (hf : None' cs id) :
    Calls Try.prog 22 #[.pointer (some ⟨p, 0, none⟩), .int .i64 id] w fun e w' => e = .returned (.pointer none) ∧ w = w' := by
  obtain ⟨hh, hr, hl, hcn, hn1, hn2, hn3, hl1, hl2⟩ := h
  obtain ⟨a, cap, rfl, hcap, hcapm, hrow⟩ := owns_val hr
  have hm : bs.length ≤ maxLen := by omega
  unfold maxLen at hm hcapm
  have h1 := hh.cell (o := 1) rfl
  have HR := Lib.hid hr; have HH := Lib.hid hh; have HC := Lib.hid hcn; have HW := Lib.hid hrow; have HN := Lib.hid hl
  clear hr hh hcn hrow hn1 hn2 hn3 hl1 hl2 hl
  go_enter Try.func22, Try.ntmps22
  go_wp2_with fail
  go_loop [12] (fun i => ∃ k : Nat, k ≤ bs.length ∧ i = .int .i64 k) (fun i => bs.length - (intOf i).toNat)
  case atStart => exact ⟨0, Nat.zero_le _, rfl⟩
  case round =>
    obtain ⟨k, hk, rfl⟩ := hrel
    by_cases hlt : k < bs.length
    · skip
      have hkc : k < cs.length := by have := HN.out; omega
      obtain ⟨b0, hb⟩ : ∃ b, bs[k]? = some b := ⟨_, List.getElem?_eq_getElem hlt⟩
      obtain ⟨c, hc⟩ : ∃ c, cs[k]? = some c := ⟨_, List.getElem?_eq_getElem hkc⟩
      obtain ⟨g, rfl, _, hg, _⟩ := HW.out (by omega)
      have g0 : w.cell? ⟨g, k, none⟩ = some (.pointer (some ⟨b0, 0, none⟩)) := by rw [hg k (by omega)]; simp [hb, ptr]
      have g1 : w.cell? ⟨b0, 0, none⟩ = some (.int .i64 c.id) := (HC.out k b0 c hb hc).cell rfl
      clear hg
      have hne := hf c (List.mem_of_getElem? hc)
      rcases eqC c.id id with ⟨e1, e2⟩ | ⟨e1, e2⟩
      · exact absurd e1 hne
      have HB := Lib.hid hb; have HCC := Lib.hid hc
      clear hb hc hne e1
      go_wp2_with fail
      go_round
      case rel => exact ⟨k + 1, by omega, by go_num⟩
      case measure => simp [intOf]; omega
    · go_wp2_with fail
      go_ret
      exact ⟨rfl, rfl⟩
set_option maxHeartbeats 1000000 in
theorem the_some {base p : Nat} {sv : Value} {bs : List Nat} {most : Int} {cs : List Cn} (id : Int) (w : World) (h : PP w base p sv bs most cs) {i b : Nat} {c0 : Cn} (hf : First cs id i c0) (hi : bs[i]? = some b) :
    Calls Try.prog 22 #[.pointer (some ⟨p, 0, none⟩), .int .i64 id] w fun e w' => e = .returned (.pointer (some ⟨b, 0, none⟩)) ∧ w = w' := by
  have HI := Lib.hid hi; have HF := Lib.hid hf; have hil : i < bs.length := (List.getElem?_eq_some_iff.1 hi).1
  clear hi hf
  obtain ⟨hh, hr, hl, hcn, hn1, hn2, hn3, hl1, hl2⟩ := h
  obtain ⟨a, cap, rfl, hcap, hcapm, hrow⟩ := owns_val hr
  have hm : bs.length ≤ maxLen := by omega
  unfold maxLen at hm hcapm
  have h1 := hh.cell (o := 1) rfl
  have HR := Lib.hid hr; have HH := Lib.hid hh; have HC := Lib.hid hcn; have HW := Lib.hid hrow; have HN := Lib.hid hl
  clear hr hh hcn hrow hn1 hn2 hn3 hl1 hl2 hl
  go_enter Try.func22, Try.ntmps22
  go_wp2_with fail
  go_loop [12] (fun j => ∃ k : Nat, k ≤ i ∧ j = .int .i64 k) (fun j => bs.length - (intOf j).toNat)
  case atStart => exact ⟨0, Nat.zero_le _, rfl⟩
  case round =>
    obtain ⟨k, hk, rfl⟩ := hrel
    have hlt : k < bs.length := by omega
    have hkc : k < cs.length := by have := HN.out; omega
    obtain ⟨b0, hb⟩ : ∃ b, bs[k]? = some b := ⟨_, List.getElem?_eq_getElem hlt⟩
    obtain ⟨c, hc⟩ : ∃ c, cs[k]? = some c := ⟨_, List.getElem?_eq_getElem hkc⟩
    obtain ⟨g, rfl, _, hg, _⟩ := HW.out (by omega)
    have g0 : w.cell? ⟨g, k, none⟩ = some (.pointer (some ⟨b0, 0, none⟩)) := by rw [hg k (by omega)]; simp [hb, ptr]
    have g1 : w.cell? ⟨b0, 0, none⟩ = some (.int .i64 c.id) := (HC.out k b0 c hb hc).cell rfl
    clear hg
    by_cases hki : k = i
    · subst hki
      obtain rfl : b0 = b := by have := HI.out; rw [hb] at this; exact Option.some.inj this
      have hid : c.id = id := by have := HF.out.1; rw [hc] at this; rw [Option.some.inj this]; exact HF.out.2.1
      have e2 : (c.id == id) = true := by simpa using hid
      clear hb hc hid
      go_wp2_with fail
      go_ret
      exact ⟨rfl, rfl⟩
    · have hne := HF.out.2.2 k c (by omega) hc
      have e2 : (c.id == id) = false := by simpa using hne
      clear hb hc hne
      go_wp2_with fail
      go_round
      case rel => exact ⟨k + 1, by omega, by go_num⟩
      case measure => simp [intOf]; omega

theorem used_none {base p : Nat} {sv : Value} {bs : List Nat} {most : Int} {cs : List Cn} (id : Int) (w : World) (h : PP w base p sv bs most cs) (hf : None' cs id) :
    Calls Try.prog 13 #[.pointer (some ⟨p, 0, none⟩), .int .i64 id] w fun e w' => e = .returned (.int .i64 0) ∧ w = w' := by
  go_enter Try.func13, Try.ntmps13
  go_wp2_with fail
  refine (the_none id _ h hf).mono ?_; rintro e w' ⟨rfl, rfl⟩
  go_wp2_with fail
  go_ret
  exact ⟨rfl, rfl⟩
theorem used_some {base p : Nat} {sv : Value} {bs : List Nat} {most : Int} {cs : List Cn} (id : Int) (w : World) (h : PP w base p sv bs most cs) {i : Nat} {c0 : Cn} (hf : First cs id i c0) :
    Calls Try.prog 13 #[.pointer (some ⟨p, 0, none⟩), .int .i64 id] w fun e w' => e = .returned (.int .i64 c0.used) ∧ w = w' := by
  have hil : i < bs.length := by have := (List.getElem?_eq_some_iff.1 hf.1).1; rw [h.len]; exact this
  obtain ⟨b, hb⟩ : ∃ b, bs[i]? = some b := ⟨_, List.getElem?_eq_getElem hil⟩
  have hc := h.conn i b c0 hb hf.1
  have k2 := hc.cell (o := 2) rfl
  have HB := Lib.hid hb; have HF := Lib.hid hf
  clear hb hf hc
  go_enter Try.func13, Try.ntmps13
  go_wp2_with fail
  refine (the_some id _ h HF.out HB.out).mono ?_; rintro e w' ⟨rfl, rfl⟩
  go_wp2_with fail
  go_ret
  exact ⟨rfl, rfl⟩
theorem len_any {base p : Nat} {sv : Value} {bs : List Nat} {most : Int} {cs : List Cn} (w : World) (h : PP w base p sv bs most cs) :
    Calls Try.prog 17 #[.pointer (some ⟨p, 0, none⟩)] w fun e w' => e = .returned (.int .i64 cs.length) ∧ w = w' := by
  obtain ⟨hh, hr, hl, hcn, hn1, hn2, hn3, hl1, hl2⟩ := h
  obtain ⟨a, cap, rfl, hcap, hcapm, hrow⟩ := owns_val hr
  have h1 := hh.cell (o := 1) rfl
  have HL := Lib.hid hl
  clear hr hh hcn hrow hn1 hn2 hn3 hl1 hl2 hl
  go_enter Try.func17, Try.ntmps17
  go_wp2_with fail
  go_ret
  exact ⟨ret_int (by rw [HL.out]), rfl⟩
theorem new_any (n : Int) (base : Nat) (w : World) (hb : base ≤ w.heap.size) :
    Calls Try.prog 10 #[.int .i64 n] w fun e w' => e = .returned (.pointer (some ⟨w.heap.size, 0, none⟩)) ∧ Chg [] w w' ∧ PP w' base w.heap.size (.slice none 0 0) [] (min (max n 0) 64) [] := by
  go_enter Try.func10, Try.ntmps10
  go_wp2_with fail
  go_ret
  exact ⟨rfl, (Chg.refl _).alloc _, At.new _ _, World.ownsRow_nil _ _ _ _, rfl, by simp, by simp, by simp, by simp [Value.ownBlock], hb, by simp⟩

theorem info51 : (Try.prog.info? 51).map (fun i => (i.zero, i.size, i.bytes)) = some (some (.pointer none), 1, 8) := by kernel_rfl

theorem add_found {base p : Nat} {sv : Value} {bs : List Nat} {most : Int} {cs : List Cn} (id slots : Int) (w : World) (h : PP w base p sv bs most cs) {i : Nat} {c0 : Cn} (hf : First cs id i c0) :
    Calls Try.prog 11 #[.pointer (some ⟨p, 0, none⟩), .int .i64 id, .int .i64 slots] w fun e w' => e = .returned (.bool false) ∧ ∃ n, w' = w.drewN n := by
  have hil : i < bs.length := by have := (List.getElem?_eq_some_iff.1 hf.1).1; rw [h.len]; exact this
  obtain ⟨b, hb⟩ : ∃ b, bs[i]? = some b := ⟨_, List.getElem?_eq_getElem hil⟩
  have HB := Lib.hid hb; have HF := Lib.hid hf
  clear hb hf
  go_enter Try.func11, Try.ntmps11
  go_wp2_with fail
  go_quiet ((go_at_call 22; exact Calls.quiet_of ((the_some id _ (h.drewN _) HF.out HB.out).mono fun e w' ⟨he, hw⟩ => ⟨he, 0, hw ▸ rfl⟩)))
  go_wp2_with fail
  go_ret
  exact ⟨rfl, _, rfl⟩
theorem add_full {base p : Nat} {sv : Value} {bs : List Nat} {most : Int} {cs : List Cn} (id slots : Int) (w : World) (h : PP w base p sv bs most cs) (hf : None' cs id) (hm : (cs.length : Int) = most) :
    Calls Try.prog 11 #[.pointer (some ⟨p, 0, none⟩), .int .i64 id, .int .i64 slots] w fun e w' => e = .returned (.bool false) ∧ ∃ n, w' = w.drewN n := by
  have h' := h
  obtain ⟨hh, hr, hl, hcn, hn1, hn2, hn3, hl1, hl2⟩ := h
  obtain ⟨a, cap, rfl, hcap, hcapm, hrow⟩ := owns_val hr
  have h0 := hh.cell (o := 0) rfl
  have h1 := hh.cell (o := 1) rfl
  have e1 : (((bs.length : Nat) : Int) == most) = true := by rw [hl]; simpa using hm
  clear hr hh hcn hrow hn1 hn2 hn3 hl1 hl2 hl hm
  go_enter Try.func11, Try.ntmps11
  go_wp2_with fail
  go_quiet ((go_at_call 22; exact Calls.quiet_of ((the_none id _ (h'.drewN _) hf).mono fun e w' ⟨he, hw⟩ => ⟨he, 0, hw ▸ rfl⟩)))
  go_wp2_with fail
  go_ret
  exact ⟨rfl, _, rfl⟩
end Go.Proofs.Ythinceoklkjcpaa.Pool
