/-
  TableStatic: the static table is one: any number, any field.
-/
import Derived.Test.YthhfnmgonjippaaRefA
namespace Go.Proofs.Ythhfnmgonjippaa.Tb.Static
open Go.ChangeShapes Go.WideShapes Go.ChangeAt Go.RowKit
open Go.Proofs.Ythhfnmgonjippaa.B
set_option linter.unusedVariables false
set_option linter.unusedSimpArgs false

set_option maxRecDepth 100000 in
set_option maxHeartbeats 4000000 in
theorem walk (i : Int) (f : Fd) (W : World) (hf : f.In) :
    Calls Try.prog 3 #[.int .i64 i, .agg (aF f)] W fun e w' => e = .returned (.bool true) ∧ Below W.heap.size W w' := by
  have hfs := hf.sz
  unfold aF
  by_cases hi : 1 ≤ i ∧ i ≤ 61
  · obtain ⟨k, hk⟩ : ∃ k : Nat, i = k + 1 := ⟨i.toNat - 1, by omega⟩
    have hk6 : k < 61 := by omega
    obtain ⟨x, hx⟩ : ∃ x, STAT[k]? = some x := ⟨_, List.getElem?_eq_getElem (by rw [STAT_len]; exact hk6)⟩
    have hR : statR i = (x, true) := by
      unfold statR
      rw [if_pos hi, show i.toNat - 1 = k by omega, List.getD_eq_getElem?_getD, hx]; rfl
    subst hk
    have HR := Lib.hid hR; have HX := Lib.hid hx
    have hdk : decide ((k : Int) + 1 ≤ 61) = true := by simp; omega
    clear hR hi hx
    go_enter Try.func3, Try.ntmps3
    go_wp2_with fail
    refine (shown_any _).mono ?_; rintro e w1 ⟨rfl, c1⟩
    have b1 := (At.new W (.cells #[.string f.n, .string f.v, .bool f.nv] 23)).chg c1 (by simp)
    have d1 : Chg [] W w1 := ((Chg.refl W).alloc _).trans' c1
    clear c1
    go_wp2_with fail
    refine (statics_any _).mono ?_; rintro e w2 ⟨rfl, rfl⟩
    have s2 := At.new w1 (.cells statC 23)
    have b2 := b1.alloc (.cells statC 23)
    have d2 := d1.alloc (.cells statC 23)
    have hlt1 := b1.lt
    clear b1 d1
    go_wp2_with fail
    refine (static_any _ _).mono ?_; rintro e w3 ⟨he, c3⟩
    rw [HR.out] at he
    simp only [aF] at he
    subst he
    have s3 := s2.chg c3 (by simp)
    have b3 := b2.chg c3 (by simp)
    have d3 := d2.trans' c3
    clear c3 s2 b2 d2
    have hs3 := s3.lt; have hb3 := b3.lt
    have D3 := Lib.hid d3; have B3 := Lib.hid b3; have S3 := Lib.hid s3
    clear d3 b3 s3
    go_wp2_with fail
    have x4 := At.new w3 (.cells #[.string x.n, .string x.v, .bool x.nv] 23)
    have b4 := B3.out.alloc (.cells #[.string x.n, .string x.v, .bool x.nv] 23)
    have s4 := S3.out.alloc (.cells #[.string x.n, .string x.v, .bool x.nv] 23)
    have d4 := D3.out.alloc (.cells #[.string x.n, .string x.v, .bool x.nv] 23)
    generalize w3.alloc (.cells #[.string x.n, .string x.v, .bool x.nv] 23) = w4 at *
    generalize w3.heap.size = X at *
    clear hs3 hb3 B3 S3 D3 hlt1
    obtain ⟨g0, g1, g2⟩ := statC_get HX.out
    have hxl := x4.lt; have hbl := b4.lt; have hsl := s4.lt
    have q0 := b4.cell (o := 0) rfl
    have q1 := b4.cell (o := 1) rfl
    have q2 := b4.cell (o := 2) rfl
    have X4 := Lib.hid x4; have S4 := Lib.hid s4; have D4 := Lib.hid d4; have G0 := Lib.hid g0; have G1 := Lib.hid g1; have G2 := Lib.hid g2
    clear x4 b4 s4 d4 g0 g1 g2
    go_region_held3 (fun w' => w'.cell? ⟨W.heap.size, 0, none⟩ = some (.string f.n) ∧ w'.cell? ⟨W.heap.size, 1, none⟩ = some (.string f.v) ∧ w'.cell? ⟨W.heap.size, 2, none⟩ = some (.bool f.nv)) (go_keep)
      (first
        | (refine (size_any f _ (by omega)).mono ?_; rintro e w' ⟨rfl, rfl⟩)
        | (refine (rsize_any f _ (by omega)).mono ?_; rintro e w' ⟨rfl, rfl⟩))
    all_goals
      have x0 := X4.out.cell (o := 0) rfl
      have x1 := X4.out.cell (o := 1) rfl
      have x2 := X4.out.cell (o := 2) rfl
      have s0 := S4.out.cell G0.out
      have s1 := S4.out.cell G1.out
      have s2 := S4.out.cell G2.out
      have hT : (k : Int).tmod 61 = (k : Int) := Int.tmod_eq_of_lt (by omega) (by omega)
      have hT2 : (k : Int) % 61 = (k : Int) := by omega
      have hw1 : IntKind.i64.wrap (k : Int) = (k : Int) := by rw [IntKind.wrap_i64]; omega
      have hk0 : (0 : Int) ≤ (k : Int) := by omega
      have hk1 : (k : Int) < 61 := by omega
      go_wp2_with fail
      go_quiet (fail)
      go_wp2_with fail
      go_ret
      exact ⟨rfl, by refine Chg.below_nil ?_; repeat (first | exact D4.out | refine Chg.drewN ?_ _ | refine Chg.alloc ?_ _ | refine Chg.drew ?_)⟩
  · have hR : statR i = (Fd.no, false) := by unfold statR; rw [if_neg hi]
    have HR := Lib.hid hR
    clear hR
    have hi2 : i < 1 ∨ (1 ≤ i ∧ 61 < i) := by omega
    clear hi
    rcases hi2 with hi2 | ⟨hi3, hi2⟩
    · have e1 : decide (1 ≤ i) = false := by simp; omega
      go_enter Try.func3, Try.ntmps3
      go_wp2_with fail
      refine (shown_any _).mono ?_; rintro e w1 ⟨rfl, c1⟩
      have b1 := (At.new W (.cells #[.string f.n, .string f.v, .bool f.nv] 23)).chg c1 (by simp)
      have d1 : Chg [] W w1 := ((Chg.refl W).alloc _).trans' c1
      clear c1
      go_wp2_with fail
      refine (statics_any _).mono ?_; rintro e w2 ⟨rfl, rfl⟩
      have s2 := At.new w1 (.cells statC 23)
      have b2 := b1.alloc (.cells statC 23)
      have d2 := d1.alloc (.cells statC 23)
      have hlt1 := b1.lt
      clear b1 d1
      go_wp2_with fail
      refine (static_any _ _).mono ?_; rintro e w3 ⟨he, c3⟩
      rw [HR.out] at he
      simp only [aF, Fd.no] at he
      subst he
      have s3 := s2.chg c3 (by simp)
      have b3 := b2.chg c3 (by simp)
      have d3 := d2.trans' c3
      clear c3 s2 b2 d2
      have hs3 := s3.lt; have hb3 := b3.lt
      have D3 := Lib.hid d3; have B3 := Lib.hid b3; have S3 := Lib.hid s3
      clear d3 b3 s3
      go_wp2_with fail
      have x4 := At.new w3 (.cells #[.string ⟨#[]⟩, .string ⟨#[]⟩, .bool false] 23)
      have b4 := B3.out.alloc (.cells #[.string ⟨#[]⟩, .string ⟨#[]⟩, .bool false] 23)
      have s4 := S3.out.alloc (.cells #[.string ⟨#[]⟩, .string ⟨#[]⟩, .bool false] 23)
      have d4 := D3.out.alloc (.cells #[.string ⟨#[]⟩, .string ⟨#[]⟩, .bool false] 23)
      generalize w3.alloc (.cells #[.string ⟨#[]⟩, .string ⟨#[]⟩, .bool false] 23) = w4 at *
      generalize w3.heap.size = X at *
      clear hs3 hb3 B3 S3 D3 hlt1
      have hxl := x4.lt; have hbl := b4.lt; have hsl := s4.lt
      have q0 := b4.cell (o := 0) rfl
      have q1 := b4.cell (o := 1) rfl
      have q2 := b4.cell (o := 2) rfl
      have X4 := Lib.hid x4; have S4 := Lib.hid s4; have D4 := Lib.hid d4
      clear x4 b4 s4 d4
      go_region_held3 (fun w' => w'.cell? ⟨W.heap.size, 0, none⟩ = some (.string f.n) ∧ w'.cell? ⟨W.heap.size, 1, none⟩ = some (.string f.v) ∧ w'.cell? ⟨W.heap.size, 2, none⟩ = some (.bool f.nv)) (go_keep)
        (first
          | (refine (size_any f _ (by omega)).mono ?_; rintro e w' ⟨rfl, rfl⟩)
          | (refine (rsize_any f _ (by omega)).mono ?_; rintro e w' ⟨rfl, rfl⟩))
      all_goals
        have x0 := X4.out.cell (o := 0) rfl
        have x1 := X4.out.cell (o := 1) rfl
        have x2 := X4.out.cell (o := 2) rfl
        go_wp2_with fail
        go_quiet (fail)
        go_wp2_with fail
        go_ret
        exact ⟨rfl, by refine Chg.below_nil ?_; repeat (first | exact D4.out | refine Chg.drewN ?_ _ | refine Chg.alloc ?_ _ | refine Chg.drew ?_)⟩
    · have e1 : decide (1 ≤ i) = true := by simpa using hi3
      have e2 : decide (i ≤ 61) = false := by simp; omega
      go_enter Try.func3, Try.ntmps3
      go_wp2_with fail
      refine (shown_any _).mono ?_; rintro e w1 ⟨rfl, c1⟩
      have b1 := (At.new W (.cells #[.string f.n, .string f.v, .bool f.nv] 23)).chg c1 (by simp)
      have d1 : Chg [] W w1 := ((Chg.refl W).alloc _).trans' c1
      clear c1
      go_wp2_with fail
      refine (statics_any _).mono ?_; rintro e w2 ⟨rfl, rfl⟩
      have s2 := At.new w1 (.cells statC 23)
      have b2 := b1.alloc (.cells statC 23)
      have d2 := d1.alloc (.cells statC 23)
      have hlt1 := b1.lt
      clear b1 d1
      go_wp2_with fail
      refine (static_any _ _).mono ?_; rintro e w3 ⟨he, c3⟩
      rw [HR.out] at he
      simp only [aF, Fd.no] at he
      subst he
      have s3 := s2.chg c3 (by simp)
      have b3 := b2.chg c3 (by simp)
      have d3 := d2.trans' c3
      clear c3 s2 b2 d2
      have hs3 := s3.lt; have hb3 := b3.lt
      have D3 := Lib.hid d3; have B3 := Lib.hid b3; have S3 := Lib.hid s3
      clear d3 b3 s3
      go_wp2_with fail
      have x4 := At.new w3 (.cells #[.string ⟨#[]⟩, .string ⟨#[]⟩, .bool false] 23)
      have b4 := B3.out.alloc (.cells #[.string ⟨#[]⟩, .string ⟨#[]⟩, .bool false] 23)
      have s4 := S3.out.alloc (.cells #[.string ⟨#[]⟩, .string ⟨#[]⟩, .bool false] 23)
      have d4 := D3.out.alloc (.cells #[.string ⟨#[]⟩, .string ⟨#[]⟩, .bool false] 23)
      generalize w3.alloc (.cells #[.string ⟨#[]⟩, .string ⟨#[]⟩, .bool false] 23) = w4 at *
      generalize w3.heap.size = X at *
      clear hs3 hb3 B3 S3 D3 hlt1
      have hxl := x4.lt; have hbl := b4.lt; have hsl := s4.lt
      have q0 := b4.cell (o := 0) rfl
      have q1 := b4.cell (o := 1) rfl
      have q2 := b4.cell (o := 2) rfl
      have X4 := Lib.hid x4; have S4 := Lib.hid s4; have D4 := Lib.hid d4
      clear x4 b4 s4 d4
      go_region_held3 (fun w' => w'.cell? ⟨W.heap.size, 0, none⟩ = some (.string f.n) ∧ w'.cell? ⟨W.heap.size, 1, none⟩ = some (.string f.v) ∧ w'.cell? ⟨W.heap.size, 2, none⟩ = some (.bool f.nv)) (go_keep)
        (first
          | (refine (size_any f _ (by omega)).mono ?_; rintro e w' ⟨rfl, rfl⟩)
          | (refine (rsize_any f _ (by omega)).mono ?_; rintro e w' ⟨rfl, rfl⟩))
      all_goals
        have x0 := X4.out.cell (o := 0) rfl
        have x1 := X4.out.cell (o := 1) rfl
        have x2 := X4.out.cell (o := 2) rfl
        go_wp2_with fail
        go_quiet (fail)
        go_wp2_with fail
        go_ret
        exact ⟨rfl, by refine Chg.below_nil ?_; repeat (first | exact D4.out | refine Chg.drewN ?_ _ | refine Chg.alloc ?_ _ | refine Chg.drew ?_)⟩

/-! ### The row's step -/
theorem own : ownKnob Try.prog.godebug = none := by kernel_rfl
theorem laid : laidOutB Try.prog = true := by kernel_rfl

set_option maxRecDepth 100000 in
theorem lifted (os : Os) (started : os.Started) (H : Type) (enc : TypeId × Value → H) :
    ReturnsInHanded {} Try.checked os 3 .any (Rows.tableStaticSpec.pre6 enc Try.prog Try.f3 Rows.tableStaticRow.domain false) (Rows.tableStaticSpec.post enc Try.prog Try.f3 false true false false) := by
  refine lift_law (C := Try.checked) (tb := 4) own started (by kernel_rfl) Try.func3
    (ChangeSpec.witness6 (enc := enc) (C := Try.checked) false ⟨#[], #[.int .i64 0, .agg #[.string ⟨#[]⟩, .string ⟨#[]⟩, .bool false]], []⟩ 8 (by kernel_rfl) (by kernel_rfl) (by kernel_rfl) (by kernel_rfl))
    laid (by rw [Try.params3]; intro t ht; simp only [List.mem_cons, List.not_mem_nil, or_false] at ht; rcases ht with rfl | rfl <;> exact ⟨by kernel_rfl, of_decide_eq_true (by kernel_rfl)⟩) (by kernel_rfl) Try.underlying4 rfl
    (fun ds h => by rw [Try.params3] at h; match ds, h with | [d0, d1], _ => rfl) ?_
  intro W base args ds before hval hA hlt hsz
  rw [Try.params3] at hA hval
  try rw [Try.params3] at hsz
  have hlt0 := hlt
  obtain ⟨v0, vs0, d0, ds0, p0, q0, hargs, rfl, rfl, h0, r0⟩ := trodAll_cons hA
  obtain ⟨v1, vs1, d1, ds1, p1, q1, rfl, rfl, rfl, h1, r1⟩ := trodAll_cons r0
  obtain ⟨rfl, rfl, rfl⟩ := trodAll_nil r1
  obtain rfl : args = #[v0, v1] := by cases args; simp_all
  have l0 : ∀ p ∈ p0, p.block < W.heap.size := fun x hx => hlt x (by simp [hx])
  have l1 : ∀ p ∈ p1, p.block < W.heap.size := fun x hx => hlt x (by simp [hx])
  obtain ⟨i0, rfl, rfl, rfl, wi0⟩ := open_int Try.underlying3 (hval 0 3 v0 rfl rfl) h0
  obtain ⟨f1, rfl, hf1⟩ := open_struct_w 3 encF Fd.In Try.underlying23 (by kernel_rfl) (hval 1 23 v1 rfl rfl) decF h1 (small_of hsz (j := 1) rfl rfl)
  exact walk i0 f1 W hf1

theorem over : Rows.tableStaticRow.holds Try.pinned (OpenSpec.ofChange Rows.tableStaticSpec) :=
  OpenClaim.holds_of_wide 3 Try.f3 rfl rfl rfl rfl rfl rfl rfl ⟨rfl, rfl, rfl, rfl, rfl⟩ rfl rfl rfl rfl rfl (by kernel_rfl) Try.func3 (by kernel_rfl)
    (of_decide_eq_true (by kernel_rfl)) (by unfold Func.isWrapper; first | (rw [if_pos (by decide +kernel)]; kernel_rfl) | (rw [if_neg (by decide +kernel)]; exact ⟨rfl, rfl⟩))
    (fun os started H enc _ => lifted os started H enc)

/-- The statement. -/
theorem proved : Rows.TableStaticSaid :=
  over
#print axioms proved

end Go.Proofs.Ythhfnmgonjippaa.Tb.Static
