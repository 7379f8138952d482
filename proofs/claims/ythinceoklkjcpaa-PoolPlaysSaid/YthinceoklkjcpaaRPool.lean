/-
  The document's pool: what it is in memory; at, Add, Slots, Drain, Remove, Take, Free, Used.
-/
import Derived.Test.YthinceoklkjcpaaPoolF
import Derived.Test.YthinceoklkjcpaaOwnSet
import Derived.Test.YthinceoklkjcpaaLater
namespace Go.Proofs.Ythinceoklkjcpaa.Pool
open Go.ChangeShapes Go.WideShapes Go.ChangeAt Go.RowKit
open Go.Proofs.Ythinceoklkjcpaa.B
set_option linter.unusedVariables false
set_option linter.unusedSimpArgs false

theorem cells_len (c : Cn) : (cells c).length = 4 := rfl
theorem cells_one (c : Cn) : ∀ u ∈ cells c, u.oneCell' = true := by intro u hu; simp [cells] at hu; rcases hu with rfl | rfl | rfl | rfl <;> rfl
theorem infoRC : (Try.prog.info? 58).map (fun i => (i.zero, i.size, i.bytes)) = some (some (.agg #[.int .i64 0, .int .i64 0, .int .i64 0, .bool false]), 4, 32) := by kernel_rfl
abbrev OwnC (w : World) (base : Nat) (v : Value) (l : List Cn) : Prop := OwnR 58 4 cells w base v l
/-- The document's pool in memory. -/
structure RP (w : World) (base q : Nat) (sv : Value) (most : Int) (cs : List Cn) : Prop where
  head : At w q (.cells #[.int .i64 most, sv] 40 (0, 0))
  row : OwnC w base sv cs
  lo : base ≤ q
theorem RP.nd {w : World} {base q : Nat} {sv : Value} {most : Int} {cs : List Cn} (h : RP w base q sv most cs) : ∀ g, sv.ownBlock = some g → g ≠ q := by
  intro g hg e
  subst e
  rcases h.row.2 with ⟨hv, _⟩ | ⟨g', cap, cur, hv, _, hg', _⟩
  · rw [hv] at hg; cases hg
  · rw [hv] at hg
    simp [Value.ownBlock] at hg; subst hg
    exact absurd (at_inj (show At w g' _ from hg') h.head) (by decide)
def rfoot (q : Nat) (sv : Value) : List Nat := q :: sv.ownBlock.toList
theorem RP.chg {l : List Nat} {w w' : World} {base q : Nat} {sv : Value} {most : Int} {cs : List Cn} (h : RP w base q sv most cs) (hc : Chg l w w') (hd : ∀ x ∈ rfoot q sv, x ∉ l) : RP w' base q sv most cs :=
  ⟨h.head.chg hc (hd q (by simp [rfoot])), h.row.chg hc (fun g hg => hd g (by simp [rfoot, hg])), h.lo⟩
theorem RP.foot_lo {w : World} {base q : Nat} {sv : Value} {most : Int} {cs : List Cn} (h : RP w base q sv most cs) : ∀ x ∈ rfoot q sv, base ≤ x := by
  intro x hx
  rcases List.mem_cons.1 hx with rfl | hx
  · exact h.lo
  · exact h.row.lo x hx
/-- A type that is none of the document's pool's own blocks'. -/
def RAlien (T : TypeId) : Prop := T ≠ 40 ∧ T ≠ 58
def RKeeps (w w' : World) : Prop := ∀ (b : Nat) (c : Array Value) (T : TypeId) (fz : Nat × Nat), RAlien T → At w b (.cells c T fz) → At w' b (.cells c T fz)
theorem RP.keeps {w w' : World} {base q : Nat} {sv : Value} {most : Int} {cs : List Cn} (h : RP w base q sv most cs) (hc : Chg (rfoot q sv) w w') : RKeeps w w' := by
  intro b c T fz ha hb
  refine hb.chg hc (fun hx => ?_)
  rcases List.mem_cons.1 hx with rfl | hx
  · exact ha.1 (at_inj hb h.head)
  · rcases h.row.2 with ⟨hv, _⟩ | ⟨g, cap, cur, hv, _, hg, _⟩
    · rw [hv] at hx; simp [Value.ownBlock] at hx
    · rw [hv] at hx; simp [Value.ownBlock] at hx; subst hx
      exact ha.2 (at_inj hb (show At w b _ from hg))
def RHas (W w : World) (q : Nat) (most : Int) (cs : List Cn) : Prop := ∃ sv, RP w W.heap.size q sv most cs ∧ Below W.heap.size W w
theorem RHas.below {W w : World} {q : Nat} {most : Int} {cs : List Cn} (h : RHas W w q most cs) : Below W.heap.size W w := by obtain ⟨_, _, hb⟩ := h; exact hb
theorem RHas.chg0 {W w w' : World} {q : Nat} {most : Int} {cs : List Cn} (h : RHas W w q most cs) (hc : Chg [] w w') : RHas W w' q most cs := by
  obtain ⟨sv, h1, h2⟩ := h
  exact ⟨sv, h1.chg hc (by simp), h2.chg hc (Nat.le_refl _) (by simp)⟩
/-- Each of the two keeps the other. -/
theorem RHas.keeps {W w w' : World} {q : Nat} {most : Int} {cs : List Cn} (h : RHas W w q most cs) (k : Keeps w w') (hb : Below W.heap.size W w') : RHas W w' q most cs := by
  obtain ⟨sv, h1, h2⟩ := h
  exact ⟨sv, ⟨k _ _ _ _ ⟨by decide, by decide, by decide⟩ h1.head, Keeps.row k ⟨by decide, by decide, by decide⟩ h1.row, h1.lo⟩, hb⟩
theorem RKeeps.row {w w' : World} (h : RKeeps w w') {base : Nat} {e : TypeId} {size : Nat} {v : Value} {n : Nat} {xs : List Value} (he : RAlien e) (hr : w.ownsRow base e size v n xs) : w'.ownsRow base e size v n xs := by
  refine ⟨hr.1, ?_⟩
  rcases hr.2 with h2 | ⟨g, cap, cur, rfl, hb, hg, rest⟩
  · exact Or.inl h2
  · exact Or.inr ⟨g, cap, cur, rfl, hb, h g cur e (0, 0) he hg, rest⟩
theorem Has.rkeeps {W w w' : World} {p : Nat} {most : Int} {cs : List Cn} (h : Has W w p most cs) (k : RKeeps w w') (hb : Below W.heap.size W w') : Has W w' p most cs := by
  obtain ⟨sv, bs, h1, h2⟩ := h
  exact ⟨sv, bs, ⟨k _ _ _ _ ⟨by decide, by decide⟩ h1.head, k.row ⟨by decide, by decide⟩ h1.row, h1.len, fun i b c hb hc => k _ _ _ _ ⟨by decide, by decide⟩ (h1.conn i b c hb hc), h1.nd1, h1.nd2, h1.nd3, h1.lo1, h1.lo2⟩, hb⟩
theorem pos_hit {d : Int} : ∀ {cs : List Cn} {k : Nat} {c : Cn}, cs[k]? = some c → c.id = d → (∀ (j : Nat) (x : Cn), j < k → cs[j]? = some x → x.id ≠ d) → pos cs d = some k := by
  intro cs
  induction cs with
  | nil => intro k c h; simp at h
  | cons a cs ih =>
    intro k c h hd hn
    cases k with
    | zero =>
      simp only [List.getElem?_cons_zero, Option.some.injEq] at h
      subst h
      unfold pos; rw [if_pos hd]
    | succ k =>
      unfold pos
      rw [if_neg (hn 0 a (by omega) rfl), ih (by simpa using h) hd (fun j x hj hx => hn (j + 1) x (by omega) (by simpa using hx))]
      rfl
theorem pos_miss {d : Int} : ∀ {cs : List Cn}, (∀ (j : Nat) (x : Cn), cs[j]? = some x → x.id ≠ d) → pos cs d = none := by
  intro cs
  induction cs with
  | nil => intro _; rfl
  | cons a cs ih =>
    intro hn
    unfold pos
    rw [if_neg (hn 0 a rfl), ih (fun j x hx => hn (j + 1) x (by simpa using hx))]
    rfl
def atI (cs : List Cn) (d : Int) : Int := match pos cs d with | none => -1 | some i => i
set_option maxRecDepth 100000 in
set_option maxHeartbeats 4000000 in
theorem rat_any {w : World} {base q : Nat} {sv : Value} {most : Int} {cs : List Cn} (d : Int) (h : RP w base q sv most cs) (hl : cs.length ≤ 64) :
    Calls Try.prog 31 #[.pointer (some ⟨q, 0, none⟩), .int .i64 d] w fun e w' => e = .returned (.int .i64 (atI cs d)) ∧ w' = w := by
  obtain ⟨va, vc, rfl, hc1, hc2⟩ := OwnR.slice h.row
  have hsl := OwnR.sl cells_len (by decide) h.row
  have c0 : World.cell? w ⟨q, 1, none⟩ = some (.slice va cs.length vc) := h.head.cell rfl
  have HSL := Lib.hid hsl; have C0 := Lib.hid c0
  unfold maxLen at hc2
  clear h hsl c0
  go_enter Try.func31, Try.ntmps31
  go_wp2_with fail
  go_loopw [5] (fun iv wr => ∃ k : Nat, k ≤ cs.length ∧ iv = .int .i64 k ∧ (∀ (j : Nat) (x : Cn), j < k → cs[j]? = some x → x.id ≠ d) ∧ wr = w) (fun iv _ => cs.length - (intOf iv).toNat)
  case atStart => exact ⟨0, Nat.zero_le _, rfl, fun j x hj => by omega, rfl⟩
  case round =>
    obtain ⟨k, hk, rfl, hno, rfl⟩ := hrel
    have HNO := Lib.hid hno
    have c0 := C0.out
    clear hno
    by_cases hlt : k < cs.length
    · obtain ⟨x, hx⟩ : ∃ x, cs[k]? = some x := ⟨_, List.getElem?_eq_getElem hlt⟩
      obtain ⟨b, off, rfl, hb, hcells⟩ := SliceOf.at HSL.out (by omega)
      have d0 : World.cell? wr ⟨b, off + k * 4, none⟩ = some (.int .i64 x.id) := hcells k x hx 0 (by omega)
      have hkI : (k : Int) < (cs.length : Int) := by omega
      have HX := Lib.hid hx
      clear hx hcells
      rcases eqC x.id d with ⟨h1, h2⟩ | ⟨h1, h2⟩
      · have HE := Lib.hid (pos_hit HX.out h1 HNO.out)
        clear h1
        go_wp2_with fail
        go_ret
        exact ⟨by unfold atI; rw [HE.out]; rfl, rfl⟩
      · have hno2 : ∀ (j : Nat) (y : Cn), j < k + 1 → cs[j]? = some y → y.id ≠ d := by
          intro j y hj hy
          rcases Nat.lt_or_ge j k with h3 | h3
          · exact HNO.out j y h3 hy
          · obtain rfl : j = k := by omega
            rw [HX.out] at hy; rw [← Option.some.inj hy]; exact h1
        have HNO2 := Lib.hid hno2
        clear hno2 h1
        go_wp2_with fail
        go_roundw
        case rel => exact ⟨k + 1, by omega, by go_num, HNO2.out, by first | rfl | trivial⟩
        case measure => simp [intOf]; omega
    · have HE := Lib.hid (pos_miss (fun j x hx => HNO.out j x (by have := (List.getElem?_eq_some_iff.1 hx).1; omega) hx))
      obtain rfl : cs.length = k := by omega
      go_wp2_with fail
      go_ret
      exact ⟨by unfold atI; rw [HE.out]; rfl, rfl⟩
theorem RHas.of {W w w' : World} {q : Nat} {sv sv' : Value} {most : Int} {cs cs' : List Cn} (h : RP w W.heap.size q sv most cs) (hb : Below W.heap.size W w) (hc : Chg (rfoot q sv) w w') (h' : RP w' W.heap.size q sv' most cs') : RHas W w' q most cs' ∧ RKeeps w w' :=
  ⟨⟨sv', h', hb.chg hc (Nat.le_refl _) h.foot_lo⟩, h.keeps hc⟩
theorem RKeeps.trans {a b c : World} (h : RKeeps a b) (k : RKeeps b c) : RKeeps a c := fun x y T fz ha hx => k x y T fz ha (h x y T fz ha hx)
theorem atI_some {cs : List Cn} {d : Int} {i : Nat} (h : pos cs d = some i) : atI cs d = i := by unfold atI; rw [h]
theorem atI_none {cs : List Cn} {d : Int} (h : pos cs d = none) : atI cs d = -1 := by unfold atI; rw [h]
/-- One field of one connection written. -/
theorem RP.put {w : World} {base q g n cap : Nat} {most : Int} {cs : List Cn} (h : RP w base q (.slice (some ⟨g, 0, none⟩) n cap) most cs) (hn : n = cs.length) {i j : Nat} {x x' : Cn} {u : Value} (hx : cs[i]? = some x) (hj : j < 4) (hv : cells x' = (cells x).set j u) :
    RP (w.setCell ⟨g, i * 4 + j, none⟩ u) base q (.slice (some ⟨g, 0, none⟩) n cap) most (cs.set i x') := by
  subst hn
  refine ⟨h.head.set_ne (fun e => ?_) _, OwnR.put cells_len h.row hx hj hv, h.lo⟩
  have := h.nd g rfl
  dsimp only at e
  omega
theorem RP.putc {w : World} {q g n cap k : Nat} (u : Value) : Chg (rfoot q (.slice (some ⟨g, 0, none⟩) n cap)) w (w.setCell ⟨g, k, none⟩ u) := (Chg.refl w).setCell (Or.inl (by simp [rfoot, Value.ownBlock])) u
def bI : Option Nat → Int
  | none => -1
  | some j => j
section
variable {W : World} {q : Nat} {most : Int} {cs : List Cn}
set_option maxRecDepth 100000 in
set_option maxHeartbeats 4000000 in
theorem R_new (n : Int) (w : World) (hb : Below W.heap.size W w) :
    Calls Try.prog 15 #[.int .i64 n] w fun e w' => e = .returned (.pointer (some ⟨w.heap.size, 0, none⟩)) ∧ RHas W w' w.heap.size (min (max n 0) 64) [] ∧ Chg [] w w' := by
  have e : max 0 (min n 64) = min (max n 0) 64 := by omega
  go_enter Try.func15, Try.ntmps15
  go_wp2_with fail
  go_ret
  have hc : Chg [] w (w.alloc (.cells #[.int .i64 (min (max n 0) 64), .slice none 0 0] 40)) := (Chg.refl w).alloc _
  exact ⟨rfl, ⟨.slice none 0 0, ⟨At.new w _, OwnR.nil _ _, hb.size⟩, hb.chg hc (Nat.le_refl _) (by simp)⟩, hc⟩
set_option maxRecDepth 100000 in
set_option maxHeartbeats 4000000 in
theorem R_used (d : Int) (w : World) (h : RHas W w q most cs) (hi : Inv most cs) :
    Calls Try.prog 18 #[.pointer (some ⟨q, 0, none⟩), .int .i64 d] w fun e w' => e = .returned (.int .i64 (usedR cs d)) ∧ w' = w := by
  skip
  obtain ⟨sv, hP, hbl⟩ := h
  have hlen := hi.len
  have hm64 := hi.most
  unfold usedR
  cases hp : pos cs d with
  | none =>
    have HAT := Lib.hid (atI_none hp)
    go_enter Try.func18, Try.ntmps18
    go_wp2_with fail
    refine (rat_any d hP (by omega)).mono ?_; rintro e w1 ⟨he, rfl⟩
    rw [HAT.out] at he
    subst he
    go_wp2_with fail
    go_ret
    exact ⟨rfl, rfl⟩
  | some i =>
    skip
    obtain ⟨g, cap, cur, rfl, hg1, hg2, hg3, hg4, hg5, _⟩ := OwnR.block hP.row (by have := pos_lt hp; omega)
    have hil := pos_lt hp
    have hx := cnAt_get hil
    have hcg : ∀ (j : Nat), j < 4 → World.cell? w ⟨g, i * 4 + j, none⟩ = (cells (cnAt cs i))[j]? := fun j hj => OwnR.cellAt cells_len hP.row hx hj
    have x0 : World.cell? w ⟨g, i * 4, none⟩ = some (.int .i64 (cnAt cs i).id) := hcg 0 (by omega)
    have x1 : World.cell? w ⟨g, i * 4 + 1, none⟩ = some (.int .i64 (cnAt cs i).slots) := hcg 1 (by omega)
    have x2 : World.cell? w ⟨g, i * 4 + 2, none⟩ = some (.int .i64 (cnAt cs i).used) := hcg 2 (by omega)
    have x3 : World.cell? w ⟨g, i * 4 + 3, none⟩ = some (.bool (cnAt cs i).drains) := hcg 3 (by omega)
    have xf : ∀ j, World.frozen? w ⟨g, j, none⟩ = false := fun j => hg2.free j
    have c0 : World.cell? w ⟨q, 1, none⟩ = some (.slice (some ⟨g, 0, none⟩) cs.length cap) := hP.head.cell rfl
    have hiI : (i : Int) < (cs.length : Int) := by omega
    have hi0 : (0 : Int) ≤ (i : Int) := by omega
    unfold maxLen at hg4
    have HAT := Lib.hid (atI_some hp); have HP := Lib.hid hP; have HBL := Lib.hid hbl; have HPOS := Lib.hid hp; have HX := Lib.hid hx
    clear hcg hx hp hbl
    go_enter Try.func18, Try.ntmps18
    go_wp2_with fail
    refine (rat_any d HP.out (by omega)).mono ?_; rintro e w1 ⟨he, rfl⟩
    rw [HAT.out] at he
    subst he
    go_wp2_with fail
    go_ret
    exact ⟨rfl, rfl⟩
set_option maxRecDepth 100000 in
set_option maxHeartbeats 4000000 in
theorem R_slots (d n : Int) (w : World) (h : RHas W w q most cs) (hi : Inv most cs) :
    Calls Try.prog 26 #[.pointer (some ⟨q, 0, none⟩), .int .i64 d, .int .i64 n] w fun e w' => e = .returned (.bool (hasR cs d)) ∧ RHas W w' q most (slotsS cs d n) ∧ RKeeps w w' := by
  skip
  obtain ⟨sv, hP, hbl⟩ := h
  have hlen := hi.len
  have hm64 := hi.most
  unfold hasR slotsS updS
  cases hp : pos cs d with
  | none =>
    have HAT := Lib.hid (atI_none hp)
    go_enter Try.func26, Try.ntmps26
    go_wp2_with fail
    refine (rat_any d hP (by omega)).mono ?_; rintro e w1 ⟨he, rfl⟩
    rw [HAT.out] at he
    subst he
    go_wp2_with fail
    go_ret
    exact ⟨rfl, ⟨sv, hP, hbl⟩, fun _ _ _ _ _ h => h⟩
  | some i =>
    skip
    obtain ⟨g, cap, cur, rfl, hg1, hg2, hg3, hg4, hg5, _⟩ := OwnR.block hP.row (by have := pos_lt hp; omega)
    have hil := pos_lt hp
    have hx := cnAt_get hil
    have hcg : ∀ (j : Nat), j < 4 → World.cell? w ⟨g, i * 4 + j, none⟩ = (cells (cnAt cs i))[j]? := fun j hj => OwnR.cellAt cells_len hP.row hx hj
    have x0 : World.cell? w ⟨g, i * 4, none⟩ = some (.int .i64 (cnAt cs i).id) := hcg 0 (by omega)
    have x1 : World.cell? w ⟨g, i * 4 + 1, none⟩ = some (.int .i64 (cnAt cs i).slots) := hcg 1 (by omega)
    have x2 : World.cell? w ⟨g, i * 4 + 2, none⟩ = some (.int .i64 (cnAt cs i).used) := hcg 2 (by omega)
    have x3 : World.cell? w ⟨g, i * 4 + 3, none⟩ = some (.bool (cnAt cs i).drains) := hcg 3 (by omega)
    have xf : ∀ j, World.frozen? w ⟨g, j, none⟩ = false := fun j => hg2.free j
    have c0 : World.cell? w ⟨q, 1, none⟩ = some (.slice (some ⟨g, 0, none⟩) cs.length cap) := hP.head.cell rfl
    have hiI : (i : Int) < (cs.length : Int) := by omega
    have hi0 : (0 : Int) ≤ (i : Int) := by omega
    unfold maxLen at hg4
    have HAT := Lib.hid (atI_some hp); have HP := Lib.hid hP; have HBL := Lib.hid hbl; have HPOS := Lib.hid hp; have HX := Lib.hid hx
    clear hcg hx hp hbl
    go_enter Try.func26, Try.ntmps26
    go_wp2_with fail
    refine (rat_any d HP.out (by omega)).mono ?_; rintro e w1 ⟨he, rfl⟩
    rw [HAT.out] at he
    subst he
    go_wp2_with fail
    go_ret
    refine ⟨rfl, RHas.of HP.out HBL.out (RP.putc _) (RP.put HP.out rfl HX.out (j := 1) (by omega) ?_)⟩
    show [_, _, _, _] = [_, _, _, _]
    rw [Int.max_comm]
set_option maxRecDepth 100000 in
set_option maxHeartbeats 4000000 in
theorem R_drain (d : Int) (w : World) (h : RHas W w q most cs) (hi : Inv most cs) :
    Calls Try.prog 27 #[.pointer (some ⟨q, 0, none⟩), .int .i64 d] w fun e w' => e = .returned (.bool (hasR cs d)) ∧ RHas W w' q most (drainS cs d) ∧ RKeeps w w' := by
  skip
  obtain ⟨sv, hP, hbl⟩ := h
  have hlen := hi.len
  have hm64 := hi.most
  unfold hasR drainS updS
  cases hp : pos cs d with
  | none =>
    have HAT := Lib.hid (atI_none hp)
    go_enter Try.func27, Try.ntmps27
    go_wp2_with fail
    refine (rat_any d hP (by omega)).mono ?_; rintro e w1 ⟨he, rfl⟩
    rw [HAT.out] at he
    subst he
    go_wp2_with fail
    go_ret
    exact ⟨rfl, ⟨sv, hP, hbl⟩, fun _ _ _ _ _ h => h⟩
  | some i =>
    skip
    obtain ⟨g, cap, cur, rfl, hg1, hg2, hg3, hg4, hg5, _⟩ := OwnR.block hP.row (by have := pos_lt hp; omega)
    have hil := pos_lt hp
    have hx := cnAt_get hil
    have hcg : ∀ (j : Nat), j < 4 → World.cell? w ⟨g, i * 4 + j, none⟩ = (cells (cnAt cs i))[j]? := fun j hj => OwnR.cellAt cells_len hP.row hx hj
    have x0 : World.cell? w ⟨g, i * 4, none⟩ = some (.int .i64 (cnAt cs i).id) := hcg 0 (by omega)
    have x1 : World.cell? w ⟨g, i * 4 + 1, none⟩ = some (.int .i64 (cnAt cs i).slots) := hcg 1 (by omega)
    have x2 : World.cell? w ⟨g, i * 4 + 2, none⟩ = some (.int .i64 (cnAt cs i).used) := hcg 2 (by omega)
    have x3 : World.cell? w ⟨g, i * 4 + 3, none⟩ = some (.bool (cnAt cs i).drains) := hcg 3 (by omega)
    have xf : ∀ j, World.frozen? w ⟨g, j, none⟩ = false := fun j => hg2.free j
    have c0 : World.cell? w ⟨q, 1, none⟩ = some (.slice (some ⟨g, 0, none⟩) cs.length cap) := hP.head.cell rfl
    have hiI : (i : Int) < (cs.length : Int) := by omega
    have hi0 : (0 : Int) ≤ (i : Int) := by omega
    unfold maxLen at hg4
    have HAT := Lib.hid (atI_some hp); have HP := Lib.hid hP; have HBL := Lib.hid hbl; have HPOS := Lib.hid hp; have HX := Lib.hid hx
    clear hcg hx hp hbl
    go_enter Try.func27, Try.ntmps27
    go_wp2_with fail
    refine (rat_any d HP.out (by omega)).mono ?_; rintro e w1 ⟨he, rfl⟩
    rw [HAT.out] at he
    subst he
    go_wp2_with fail
    go_ret
    exact ⟨rfl, RHas.of HP.out HBL.out (RP.putc _) (RP.put HP.out rfl HX.out (j := 3) (by omega) rfl)⟩
set_option maxRecDepth 100000 in
set_option maxHeartbeats 4000000 in
theorem R_free (d : Int) (w : World) (h : RHas W w q most cs) (hi : Inv most cs) :
    Calls Try.prog 29 #[.pointer (some ⟨q, 0, none⟩), .int .i64 d] w fun e w' => e = .returned (.bool (freeR cs d)) ∧ RHas W w' q most (freeS cs d) ∧ RKeeps w w' := by
  skip
  obtain ⟨sv, hP, hbl⟩ := h
  have hlen := hi.len
  have hm64 := hi.most
  cases hp : pos cs d with
  | none =>
    have HAT := Lib.hid (atI_none hp)
    have e1 : freeR cs d = false := by unfold freeR; rw [hp]
    have e2 : freeS cs d = cs := by unfold freeS; rw [e1]; rfl
    have E1 := Lib.hid e1; have E2 := Lib.hid e2
    clear e1 e2
    go_enter Try.func29, Try.ntmps29
    go_wp2_with fail
    refine (rat_any d hP (by omega)).mono ?_; rintro e w1 ⟨he, rfl⟩
    rw [HAT.out] at he
    subst he
    go_wp2_with fail
    go_ret
    rw [E1.out, E2.out]
    exact ⟨rfl, ⟨sv, hP, hbl⟩, fun _ _ _ _ _ h => h⟩
  | some i =>
    have hok := hi.at (pos_lt hp)
    obtain ⟨_, _, hu0, hu1⟩ := hok
    skip
    obtain ⟨g, cap, cur, rfl, hg1, hg2, hg3, hg4, hg5, _⟩ := OwnR.block hP.row (by have := pos_lt hp; omega)
    have hil := pos_lt hp
    have hx := cnAt_get hil
    have hcg : ∀ (j : Nat), j < 4 → World.cell? w ⟨g, i * 4 + j, none⟩ = (cells (cnAt cs i))[j]? := fun j hj => OwnR.cellAt cells_len hP.row hx hj
    have x0 : World.cell? w ⟨g, i * 4, none⟩ = some (.int .i64 (cnAt cs i).id) := hcg 0 (by omega)
    have x1 : World.cell? w ⟨g, i * 4 + 1, none⟩ = some (.int .i64 (cnAt cs i).slots) := hcg 1 (by omega)
    have x2 : World.cell? w ⟨g, i * 4 + 2, none⟩ = some (.int .i64 (cnAt cs i).used) := hcg 2 (by omega)
    have x3 : World.cell? w ⟨g, i * 4 + 3, none⟩ = some (.bool (cnAt cs i).drains) := hcg 3 (by omega)
    have xf : ∀ j, World.frozen? w ⟨g, j, none⟩ = false := fun j => hg2.free j
    have c0 : World.cell? w ⟨q, 1, none⟩ = some (.slice (some ⟨g, 0, none⟩) cs.length cap) := hP.head.cell rfl
    have hiI : (i : Int) < (cs.length : Int) := by omega
    have hi0 : (0 : Int) ≤ (i : Int) := by omega
    unfold maxLen at hg4
    have HAT := Lib.hid (atI_some hp); have HP := Lib.hid hP; have HBL := Lib.hid hbl; have HPOS := Lib.hid hp; have HX := Lib.hid hx
    clear hcg hx hp hbl
    rcases eqC (cnAt cs i).used 0 with ⟨h1, h2⟩ | ⟨h1, h2⟩
    · have hd0 : decide ((i : Int) < 0) = false := decide_eq_false (by omega)
      have e1 : freeR cs d = false := by unfold freeR; rw [HPOS.out]; simp [h1]
      have e2 : freeS cs d = cs := by unfold freeS; rw [e1]; rfl
      have E1 := Lib.hid e1; have E2 := Lib.hid e2
      rw [h1] at x2
      clear e1 e2
      clear h1 h2 hu0 hu1
      go_enter Try.func29, Try.ntmps29
      go_wp2_with fail
      refine (rat_any d HP.out (by omega)).mono ?_; rintro e w1 ⟨he, rfl⟩
      rw [HAT.out] at he
      subst he
      go_wp2_with fail
      go_ret
      rw [E1.out, E2.out]
      exact ⟨rfl, ⟨_, HP.out, HBL.out⟩, fun _ _ _ _ _ h => h⟩
    · have hd0 : decide ((i : Int) < 0) = false := decide_eq_false (by omega)
      have e1 : freeR cs d = true := by unfold freeR; rw [HPOS.out]; simp [h1]
      have e2 : freeS cs d = cs.set i { cnAt cs i with used := (cnAt cs i).used - 1 } := by unfold freeS; rw [e1]; unfold updS; rw [HPOS.out]; rfl
      have E1 := Lib.hid e1; have E2 := Lib.hid e2
      clear h1 e1 e2
      go_enter Try.func29, Try.ntmps29
      go_wp2_with fail
      refine (rat_any d HP.out (by omega)).mono ?_; rintro e w1 ⟨he, rfl⟩
      rw [HAT.out] at he
      subst he
      go_wp2_with fail
      go_ret
      rw [E1.out, E2.out]
      exact ⟨rfl, RHas.of HP.out HBL.out (RP.putc _) (RP.put HP.out rfl HX.out (j := 2) (by omega) rfl)⟩
set_option maxRecDepth 100000 in
set_option maxHeartbeats 4000000 in
theorem R_add (d n : Int) (w : World) (h : RHas W w q most cs) (hi : Inv most cs) :
    Calls Try.prog 25 #[.pointer (some ⟨q, 0, none⟩), .int .i64 d, .int .i64 n] w fun e w' => e = .returned (.bool (addR most cs d)) ∧ RHas W w' q most (addS most cs d n) ∧ RKeeps w w' := by
  skip
  obtain ⟨sv, hP, hbl⟩ := h
  have hlen := hi.len
  have hm64 := hi.most
  have HP := Lib.hid hP; have HBL := Lib.hid hbl
  have hsv := OwnR.slice hP.row
  clear hP hbl
  obtain ⟨va, vc, rfl, hc1, hc2⟩ := hsv
  unfold maxLen at hc2
  have g0 : ∀ x : Later [] w, World.cell? x.world ⟨q, 0, none⟩ = some (.int .i64 most) := fun x => (HP.out.chg x.chg (by simp)).head.cell rfl
  have g1 : ∀ x : Later [] w, World.cell? x.world ⟨q, 1, none⟩ = some (.slice va cs.length vc) := fun x => (HP.out.chg x.chg (by simp)).head.cell rfl
  cases hp : pos cs d with
  | some i =>
    have e1 : addR most cs d = false := by unfold addR; rw [hp]; rfl
    have e2 : addS most cs d n = cs := by unfold addS; rw [e1]; rfl
    have E1 := Lib.hid e1; have E2 := Lib.hid e2; have HAT := Lib.hid (atI_some hp)
    have hd : decide ((0 : Int) ≤ (i : Int)) = true := decide_eq_true (by omega)
    clear e1 e2
    go_enter Try.func25, Try.ntmps25
    go_wp2_with fail
    refine wp_region_later (S := []) (by kernel_rfl) (by kernel_rfl) ?_
    repeat (go_big_quiet_step ((go_at_call 31; exact Calls.later_same ((rat_any d (HP.out.chg (Later.chg _) (by simp)) (by omega)).mono (fun e w' h => ⟨by rw [h.1, HAT.out], h.2⟩)))))
    refine wpQuiet_nil ?_
    intro _ hw'
    obtain ⟨xq, rfl⟩ := hw'
    go_wp2_with fail
    go_ret
    rw [E1.out, E2.out]
    exact ⟨rfl, ⟨_, HP.out.chg xq.chg (by simp), HBL.out.chg xq.chg (Nat.le_refl _) (by simp)⟩, fun _ _ _ _ _ h => h.chg xq.chg (by simp)⟩
  | none =>
    have HAT := Lib.hid (atI_none hp)
    by_cases hm : (cs.length : Int) = most
    · have e1 : addR most cs d = false := by unfold addR; rw [hp]; simp [hm]
      have e2 : addS most cs d n = cs := by unfold addS; rw [e1]; rfl
      have E1 := Lib.hid e1; have E2 := Lib.hid e2
      have hd : decide (most ≤ (cs.length : Int)) = true := decide_eq_true (by omega)
      have HM := Lib.hid hm
      clear e1 e2 hm
      go_enter Try.func25, Try.ntmps25
      go_wp2_with fail
      refine wp_region_later (S := []) (by kernel_rfl) (by kernel_rfl) ?_
      repeat (go_big_quiet_step ((go_at_call 31; exact Calls.later_same ((rat_any d (HP.out.chg (Later.chg _) (by simp)) (by omega)).mono (fun e w' h => ⟨by rw [h.1, HAT.out], h.2⟩)))))
      refine wpQuiet_nil ?_
      intro _ hw'
      obtain ⟨xq, rfl⟩ := hw'
      go_wp2_with fail
      go_ret
      rw [E1.out, E2.out]
      exact ⟨rfl, ⟨_, HP.out.chg xq.chg (by simp), HBL.out.chg xq.chg (Nat.le_refl _) (by simp)⟩, fun _ _ _ _ _ h => h.chg xq.chg (by simp)⟩
    · have e1 : addR most cs d = true := by unfold addR; rw [hp]; simp [hm]
      have e2 : addS most cs d n = cs ++ [⟨d, max n 0, 0, false⟩] := by unfold addS; rw [e1]; rfl
      have E1 := Lib.hid e1; have E2 := Lib.hid e2
      have hd : decide (most ≤ (cs.length : Int)) = false := decide_eq_false (by omega)
      have HM := Lib.hid hm
      clear e1 e2 hm
      go_enter Try.func25, Try.ntmps25
      go_wp2_with fail
      refine wp_region_later (S := []) (by kernel_rfl) (by kernel_rfl) ?_
      repeat (go_big_quiet_step ((go_at_call 31; exact Calls.later_same ((rat_any d (HP.out.chg (Later.chg _) (by simp)) (by omega)).mono (fun e w' h => ⟨by rw [h.1, HAT.out], h.2⟩)))))
      refine wpQuiet_nil ?_
      intro _ hw'
      obtain ⟨xq, rfl⟩ := hw'
      have hP2 := HP.out.chg xq.chg (by simp)
      have hB2 := HBL.out.chg xq.chg (Nat.le_refl _) (by simp)
      have hk : RKeeps w xq.world := fun _ _ _ _ _ h => h.chg xq.chg (by simp)
      generalize xq.world = w2 at *
      have d1 : World.cell? w2 ⟨q, 1, none⟩ = some (.slice va cs.length vc) := hP2.head.cell rfl
      have d2 : q < w2.heap.size := hP2.head.lt
      have d3 : W.heap.size ≤ w2.heap.size := hB2.size
      have HP2 := Lib.hid hP2; have HB2 := Lib.hid hB2; have HK := Lib.hid hk
      clear hP2 hB2 hk g0 g1
      have hone : SliceOf (w2.alloc (.cells #[.int .i64 d, .int .i64 (max 0 n), .int .i64 0, .bool false] 58)) (.slice (some ⟨w2.heap.size, 0, none⟩) 1 1) 4 cells [⟨d, max 0 n, 0, false⟩] := SliceOf.one (enc := cells) (size := 4) (x := (⟨d, max 0 n, 0, false⟩ : Cn)) (cells_len _) rfl w2
      have hrow := HP2.out.row.alloc (.cells #[.int .i64 d, .int .i64 (max 0 n), .int .i64 0, .bool false] 58)
      go_wp2_with (at_builtin; refine app_row cells_len cells_one 38 Try.underlying38 infoRC (by decide) (by omega) rfl _ _ rfl W.heap.size (.slice va cs.length vc) cs rfl hrow _ [⟨d, max 0 n, 0, false⟩] rfl hone (by simp [maxLen]; omega) (by simp; omega) (by simp; omega) ?_)
      intro v5 w5 own5 ch5 hb5
      have hnd := HP2.out.nd
      have hcA : Chg (rfoot q (.slice va cs.length vc)) w2 w5 := ((Chg.refl w2).alloc _).trans' (ch5.mono (fun x hx => by simp [rfoot]; right; simpa using hx))
      have hq5 : At w5 q (.cells #[.int .i64 most, .slice va cs.length vc] 40 (0, 0)) := (HP2.out.head.alloc _).chg ch5 (fun hx => hnd q (by simpa using hx) rfl)
      have hnq : ∀ g, v5.ownBlock = some g → g ∉ [q] := by
        intro g hg
        rcases hb5 g hg with h1 | h1
        · simpa using hnd g h1
        · simp at h1 ⊢; omega
      obtain ⟨vb, n5, vc5, rfl⟩ : ∃ va n vc, v5 = .slice va n vc := by obtain ⟨va, vc, h, _⟩ := OwnR.slice own5; exact ⟨va, _, vc, h⟩
      have e1 : World.cell? w5 ⟨q, 1, none⟩ = some (.slice va cs.length vc) := hq5.cell rfl
      have e2 : ∀ j, World.frozen? w5 ⟨q, j, none⟩ = false := fun j => hq5.free j
      have O5 := Lib.hid own5; have HQ5 := Lib.hid hq5; have HCA := Lib.hid hcA; have HNQ := Lib.hid hnq
      clear own5 hq5 hcA hnq ch5 hb5 d1
      go_wp2_with fail
      go_ret
      rw [E1.out, E2.out, Int.max_comm n 0]
      have h6 := RHas.of HP2.out HB2.out (HCA.out.setCell (p := ⟨q, 1, none⟩) (Or.inl (by simp [rfoot])) (.slice vb n5 vc5)) (sv' := .slice vb n5 vc5) (cs' := cs ++ [⟨d, max 0 n, 0, false⟩]) ⟨HQ5.out.set 1 (.slice vb n5 vc5), OwnR.chg O5.out ((Chg.refl _).setCell (Or.inl (by simp)) _) HNQ.out, HP2.out.lo⟩
      exact ⟨rfl, h6.1, HK.out.trans h6.2⟩
set_option maxRecDepth 100000 in
set_option maxHeartbeats 4000000 in
theorem R_take (w : World) (h : RHas W w q most cs) (hi : Inv most cs) :
    Calls Try.prog 30 #[.pointer (some ⟨q, 0, none⟩)] w fun e w' => e = .returned (.tuple #[.int .i64 (takeR cs).1, .bool (takeR cs).2]) ∧ RHas W w' q most (takeS cs) ∧ RKeeps w w' := by
  skip
  obtain ⟨sv, hP, hbl⟩ := h
  have hlen := hi.len
  have hm64 := hi.most
  have HI := Lib.hid hi
  have HP := Lib.hid hP; have HBL := Lib.hid hbl
  have hsv := OwnR.slice hP.row
  clear hP hbl hi
  obtain ⟨va, vc, rfl, hc1, hc2⟩ := hsv
  unfold maxLen at hc2
  go_enter Try.func30, Try.ntmps30
  go_wp2_with fail
  go_loopw [4, 5] (fun bv iv wr => ∃ (k : Nat) (b : Option Nat), k ≤ cs.length ∧ iv = .int .i64 k ∧ b = bestK cs k ∧ bv = .int .i64 (bI b) ∧ Chg [] w wr) (fun _ iv _ => cs.length - (intOf iv).toNat)
  case atStart => exact ⟨0, none, Nat.zero_le _, rfl, rfl, rfl, Chg.refl _⟩
  case round =>
    obtain ⟨k, b, hk, rfl, hb, rfl, hc⟩ := hrel
    have hP2 := HP.out.chg hc (by simp)
    have c0 : World.cell? wr ⟨q, 1, none⟩ = some (.slice va cs.length vc) := hP2.head.cell rfl
    have hqlt : q < wr.heap.size := hP2.head.lt
    have HBK := Lib.hid hb.symm; have HC := Lib.hid hc; have HP2 := Lib.hid hP2
    clear hc hP2
    by_cases hlt : k < cs.length
    · obtain ⟨x, hx⟩ : ∃ x, cs[k]? = some x := ⟨_, List.getElem?_eq_getElem hlt⟩
      obtain ⟨g, cap, cur, hv, _, hg2, hg3, hg4, _⟩ := OwnR.block HP2.out.row (by omega)
      simp only [Value.slice.injEq, true_and] at hv
      obtain ⟨rfl, rfl⟩ := hv
      have hcg : ∀ (i : Nat) (y : Cn), cs[i]? = some y → ∀ (j : Nat), j < 4 → World.cell? wr ⟨g, i * 4 + j, none⟩ = (cells y)[j]? := fun i y hy j hj => OwnR.cellAt cells_len HP2.out.row hy hj
      have x0 : World.cell? wr ⟨g, k * 4, none⟩ = some (.int .i64 x.id) := hcg k x hx 0 (by omega)
      have x1 : World.cell? wr ⟨g, k * 4 + 1, none⟩ = some (.int .i64 x.slots) := hcg k x hx 1 (by omega)
      have x2 : World.cell? wr ⟨g, k * 4 + 2, none⟩ = some (.int .i64 x.used) := hcg k x hx 2 (by omega)
      have x3 : World.cell? wr ⟨g, k * 4 + 3, none⟩ = some (.bool x.drains) := hcg k x hx 3 (by omega)
      have hglt : g < wr.heap.size := hg2.lt
      have hkI : (k : Int) < (cs.length : Int) := by omega
      have hk0 : (0 : Int) ≤ (k : Int) := by omega
      have HX := Lib.hid hx; have HCG := Lib.hid hcg
      clear hx hcg hb
      by_cases hd : x.drains = true
      · have HNO : Hid (¬ (okB x && better cs (bestK cs k) x) = true) := Lib.hid (by unfold okB; rw [hd]; simp)
        rw [hd] at x3
        clear hd
        skip
        have hb2 : bestK cs (k + 1) = bestK cs k := by rw [bestK_succ HX.out, if_neg HNO.out]
        have HB := Lib.hid (hb2.trans HBK.out)
        clear hb2
        go_wp2_with fail
        go_roundw
        case rel => exact ⟨k + 1, b, by omega, by go_num, HB.out.symm, rfl, HC.out.alloc _⟩
        case measure => simp [intOf]; omega
      · have hd' : x.drains = false := by simpa using hd
        rw [hd'] at x3
        by_cases hu : x.used < x.slots
        · have hu1 : decide (x.slots ≤ x.used) = false := decide_eq_false (by omega)
          have hok : okB x = true := by unfold okB; rw [hd']; simpa using hu
          cases b with
          | none =>
            have hb2 : bestK cs (k + 1) = some k := by
              rw [bestK_succ HX.out, HBK.out, hok]; rfl
            have HB := Lib.hid hb2
            have hb0 : decide (bI none < 0) = true := by decide
            have hb1 : bI none = -1 := rfl
            rw [hb1]
            clear hd hd' hu hok hb2 hb0 hb1
            skip
            go_wp2_with fail
            go_quiet (fail)
            go_wp2_with fail
            go_roundw
            case rel => exact ⟨k + 1, (some k), by omega, by go_num, HB.out.symm, by first | rfl | simp [bI], (HC.out.alloc _).drewN _⟩
            case measure => simp [intOf]; omega
          | some j =>
            obtain ⟨hj1, y, hj2, _⟩ := bestK_some HBK.out
            have y2 : World.cell? wr ⟨g, j * 4 + 2, none⟩ = some (.int .i64 y.used) := HCG.out j y hj2 2 (by omega)
            have hjI : (j : Int) < (cs.length : Int) := by omega
            have hj0 : (0 : Int) ≤ (j : Int) := by omega
            have hjn : decide ((j : Int) < 0) = false := decide_eq_false (by omega)
            have hb1 : bI (some j) = (j : Int) := rfl
            have hbt : better cs (some j) x = decide (x.used < y.used) := by show decide (x.used < ((cs[j]?).getD default).used) = _; rw [hj2]; rfl
            rw [hb1]
            by_cases hlt2 : x.used < y.used
            · have hq : decide (x.used < y.used) = true := decide_eq_true hlt2
              have hb2 : bestK cs (k + 1) = some k := by
                rw [bestK_succ HX.out, HBK.out, hok, hbt, hq]; rfl
              have HB := Lib.hid hb2
              clear hd hd' hu hok hb2 hb1 hbt hj2
              skip
              go_wp2_with fail
              go_quiet (fail)
              go_wp2_with fail
              go_roundw
              case rel => exact ⟨k + 1, (some k), by omega, by go_num, HB.out.symm, by first | rfl | simp [bI], (HC.out.alloc _).drewN _⟩
              case measure => simp [intOf]; omega
            · have hq : decide (x.used < y.used) = false := decide_eq_false hlt2
              have hb2 : bestK cs (k + 1) = some j := by
                rw [bestK_succ HX.out, HBK.out, hok, hbt, hq]; rfl
              have HB := Lib.hid hb2
              clear hd hd' hu hok hb2 hb1 hbt hj2
              skip
              go_wp2_with fail
              go_quiet (fail)
              go_wp2_with fail
              go_roundw
              case rel => exact ⟨k + 1, (some j), by omega, by go_num, HB.out.symm, by first | rfl | simp [bI], (HC.out.alloc _).drewN _⟩
              case measure => simp [intOf]; omega
        · have hu1 : decide (x.slots ≤ x.used) = true := decide_eq_true (by omega)
          have HNO : Hid (¬ (okB x && better cs (bestK cs k) x) = true) := Lib.hid (by unfold okB; simp [hu])
          clear hd hd' hu
          skip
          have hb2 : bestK cs (k + 1) = bestK cs k := by rw [bestK_succ HX.out, if_neg HNO.out]
          have HB := Lib.hid (hb2.trans HBK.out)
          clear hb2
          go_wp2_with fail
          go_roundw
          case rel => exact ⟨k + 1, b, by omega, by go_num, HB.out.symm, rfl, HC.out.alloc _⟩
          case measure => simp [intOf]; omega
    · obtain rfl : cs.length = k := by omega
      clear hb
      cases b with
      | none =>
        have e1 : takeR cs = (0, false) := by unfold takeR; rw [HBK.out]
        have e2 : takeS cs = cs := by unfold takeS; rw [HBK.out]
        have E1 := Lib.hid e1; have E2 := Lib.hid e2
        have hb1 : bI none = -1 := rfl
        rw [hb1]
        clear e1 e2 hb1
        go_wp2_with fail
        go_ret2
        rw [E1.out, E2.out]
        exact ⟨rfl, ⟨_, HP2.out, HBL.out.chg HC.out (Nat.le_refl _) (by simp)⟩, fun _ _ _ _ _ h => h.chg HC.out (by simp)⟩
      | some i =>
        obtain ⟨hil, hio⟩ := best_lt HBK.out
        obtain ⟨g, cap, cur, hv, hg1, hg2, hg3, hg4, _⟩ := OwnR.block HP2.out.row (by omega)
        simp only [Value.slice.injEq, true_and] at hv
        obtain ⟨rfl, rfl⟩ := hv
        have hx := cnAt_get hil
        have hus : (cnAt cs i).used < (cnAt cs i).slots := by unfold okB at hio; simp at hio; exact hio.2
        obtain ⟨_, hs1, hu0, _⟩ := HI.out.at hil
        have hcg : ∀ (j : Nat), j < 4 → World.cell? wr ⟨g, i * 4 + j, none⟩ = (cells (cnAt cs i))[j]? := fun j hj => OwnR.cellAt cells_len HP2.out.row hx hj
        have x0 : World.cell? wr ⟨g, i * 4, none⟩ = some (.int .i64 (cnAt cs i).id) := hcg 0 (by omega)
        have x2 : World.cell? wr ⟨g, i * 4 + 2, none⟩ = some (.int .i64 (cnAt cs i).used) := hcg 2 (by omega)
        have xf : ∀ j, World.frozen? wr ⟨g, j, none⟩ = false := fun j => hg2.free j
        have hgq : ¬ g = q := HP2.out.nd g rfl
        have hqg : ¬ q = g := fun e => hgq e.symm
        have hiI : (i : Int) < (cs.length : Int) := by omega
        have hi0 : (0 : Int) ≤ (i : Int) := by omega
        have e1 : takeR cs = ((cnAt cs i).id, true) := by unfold takeR; rw [HBK.out]
        have e2 : takeS cs = cs.set i { cnAt cs i with used := (cnAt cs i).used + 1 } := by unfold takeS; rw [HBK.out]
        have E1 := Lib.hid e1; have E2 := Lib.hid e2; have HX := Lib.hid hx
        have hb1 : bI (some i) = (i : Int) := rfl
        rw [hb1]
        clear e1 e2 hb1 hx hcg hio
        go_wp2_with fail
        go_ret2
        rw [E1.out, E2.out]
        have h6 := RHas.of HP2.out (HBL.out.chg HC.out (Nat.le_refl _) (by simp)) (RP.putc (k := i * 4 + 2) (.int .i64 ((cnAt cs i).used + 1))) (RP.put HP2.out rfl HX.out (j := 2) (x' := { cnAt cs i with used := (cnAt cs i).used + 1 }) (by omega) rfl)
        have h7 : RKeeps w wr := fun _ _ _ _ _ h => h.chg HC.out (by simp)
        exact ⟨rfl, h6.1, h7.trans h6.2⟩
end
end Go.Proofs.Ythinceoklkjcpaa.Pool
