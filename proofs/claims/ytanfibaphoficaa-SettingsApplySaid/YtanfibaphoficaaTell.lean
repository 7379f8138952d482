/-
  The walk of settings.Tell.
-/
import Derived.Test.YtanfibaphoficaaAll
import Derived.Test.YtanfibaphoficaaRow
namespace Go.Proofs.Ytanfibaphoficaa.Set
open Go.ChangeShapes Go.WideShapes Go.ChangeAt Go.RowKit
open Go.Proofs.Ytanfibaphoficaa.B
set_option linter.unusedVariables false
set_option linter.unusedSimpArgs false

/-- The number that stands at an ID. -/
def numOf (v : V) (d : Int) : Int := if d = 1 then v.table else if d = 3 then v.streams else if d = 4 then v.window else if d = 5 then v.frame else v.list
/-- What is told of an ID: nothing, or one setting. -/
def tellD (a b : V) (d : Int) : List S :=
  if d = 2 then (if a.push = b.push then [] else [⟨2, if b.push then 1 else 0⟩])
  else if numOf a d = numOf b d ∨ numOf b d < 0 ∨ 4294967295 < numOf b d then [] else [⟨d, numOf b d⟩]
def tellK (a b : V) : Nat → List S
  | 0 => []
  | k + 1 => tellK a b k ++ tellD a b (k + 1 : Nat)
def tellR (a b : V) : List S := tellK a b 6
theorem tellD_len (a b : V) (d : Int) : (tellD a b d).length ≤ 1 := by
  unfold tellD
  split <;> split <;> simp
theorem tellK_len (a b : V) : ∀ k, (tellK a b k).length ≤ k
  | 0 => by simp [tellK]
  | k + 1 => by simp only [tellK, List.length_append]; have := tellK_len a b k; have := tellD_len a b (k + 1 : Nat); omega
def rowS (l : List S) : List Value := l.flatMap fun s => [.int .i64 s.id, .int .u32 s.val]
theorem rowS_append (l m : List S) : rowS (l ++ m) = rowS l ++ rowS m := by simp [rowS]
theorem info30 : (Try.prog.info? 30).map (fun i => (i.zero, i.size, i.bytes)) = some (some (.agg #[.int .i64 0, .int .u32 0]), 2, 16) := by kernel_rfl

/-- An elder row, its value told apart. -/
theorem owns_slice {w : World} {base : Nat} {e : TypeId} {size : Nat} {v : Value} {n : Nat} {xs : List Value} (h : w.ownsRow base e size v n xs) : ∃ a cap, v = .slice a n cap := by
  obtain ⟨a, cap, h1, _⟩ := owns_val h; exact ⟨a, cap, h1⟩

set_option maxRecDepth 100000 in
set_option maxHeartbeats 4000000 in
theorem tell_any (a b : V) (base : Nat) (w : World) (hb : base ≤ w.heap.size) :
    Calls Try.prog 10 #[.agg (vA a), .agg (vA b)] w fun e w' => ∃ sv, e = .returned sv ∧ Chg [] w w' ∧ w'.ownsRow base 30 2 sv (tellR a b).length (rowS (tellR a b)) := by
  have a0 : At ((w.alloc (vB a)).alloc (vB b)) w.heap.size (vB a) := (At.new' rfl).alloc _
  have a1 : At ((w.alloc (vB a)).alloc (vB b)) (w.heap.size + 1) (vB b) := At.new' (by simp)
  have hbl : Below w.heap.size w ((w.alloc (vB a)).alloc (vB b)) := (((Chg.refl w).alloc _).alloc (l := []) _).below_nil
  have p0 : w.heap.size < w.heap.size + 1 := by omega
  obtain ⟨i0, hi, hz0, hz1, hz2⟩ := info_parts info30
  unfold vA
  go_enter Try.func10, Try.ntmps10
  go_wp2_with fail
  generalize h1 : w.heap.size + 1 = B1 at *
  have q0 : w.heap.size ≤ w.heap.size := Nat.le_refl _
  generalize h0 : w.heap.size = B0 at p0 a0 a1 h1 ⊢
  clear h1 q0
  have HB := Lib.hid h0
  clear h0
  go_loopw [5, 6, 7, 8, 9] (fun l i _ _ _ wr => ∃ k : Nat, k ≤ 6 ∧ i = .int .i64 (k + 1 : Nat) ∧ At wr B0 (vB a) ∧ At wr B1 (vB b) ∧ wr.ownsRow w.heap.size 30 2 l (tellK a b k).length (rowS (tellK a b k)) ∧ Below w.heap.size w wr) (fun _ i _ _ _ _ => 8 - (intOf i).toNat)
  case atStart => exact ⟨0, by omega, rfl, a0, a1, World.ownsRow_nil _ _ _ _, hbl⟩
  case round =>
    clear a0 a1 hbl
    obtain ⟨k, hk, rfl, a0, a1, hown, hbl⟩ := hrel
    by_cases hlt : k < 6
    · have t0 : B0 < wr.heap.size := a0.lt
      have t1 : B1 < wr.heap.size := a1.lt
      have x0 : World.cell? wr ⟨B0, 0, none⟩ = some (.int .i64 (a).table) := (a0).cell rfl
      have x1 : World.cell? wr ⟨B0, 1, none⟩ = some (.bool (a).push) := (a0).cell rfl
      have x2 : World.cell? wr ⟨B0, 2, none⟩ = some (.int .i64 (a).streams) := (a0).cell rfl
      have x3 : World.cell? wr ⟨B0, 3, none⟩ = some (.int .i64 (a).window) := (a0).cell rfl
      have x4 : World.cell? wr ⟨B0, 4, none⟩ = some (.int .i64 (a).frame) := (a0).cell rfl
      have x5 : World.cell? wr ⟨B0, 5, none⟩ = some (.int .i64 (a).list) := (a0).cell rfl
      have y0 : World.cell? wr ⟨B1, 0, none⟩ = some (.int .i64 (b).table) := (a1).cell rfl
      have y1 : World.cell? wr ⟨B1, 1, none⟩ = some (.bool (b).push) := (a1).cell rfl
      have y2 : World.cell? wr ⟨B1, 2, none⟩ = some (.int .i64 (b).streams) := (a1).cell rfl
      have y3 : World.cell? wr ⟨B1, 3, none⟩ = some (.int .i64 (b).window) := (a1).cell rfl
      have y4 : World.cell? wr ⟨B1, 4, none⟩ = some (.int .i64 (b).frame) := (a1).cell rfl
      have y5 : World.cell? wr ⟨B1, 5, none⟩ = some (.int .i64 (b).list) := (a1).cell rfl
      obtain ⟨sa, cap, rfl⟩ := owns_slice hown
      have hkl := tellK_len a b k
      have HO := Lib.hid hown
      clear hown
      have hkk : k = 0 ∨ k = 1 ∨ k = 2 ∨ k = 3 ∨ k = 4 ∨ k = 5 := by omega
      rcases hkk with rfl | rfl | rfl | rfl | rfl | rfl
      · skip
        rcases neC a.table b.table with he | ⟨he, _, he2⟩
        · have HT0 : tellD a b (0 + 1 : Nat) = [] := by unfold tellD; rw [if_neg (by decide), if_pos (Or.inl (by simpa [numOf] using he))]
          have HT := Lib.hid HT0
          have he2 : (a.table != b.table) = false := by simpa using he
          clear he HT0
          go_wp2_with fail
          refine (place_some B0 1 0 _ rfl).mono ?_; rintro e w2 ⟨rfl, rfl⟩
          go_wp2_with fail
          refine (place_some B1 1 0 _ rfl).mono ?_; rintro e w2 ⟨rfl, rfl⟩
          go_wp2_with fail
          go_quiet (fail)
          go_wp2_with fail
          go_roundw
          case rel => exact ⟨0 + 1, by omega, rfl, a0.drewN _, a1.drewN _, by show (wr.drewN _).ownsRow _ _ _ _ (tellK a b 0 ++ tellD a b _).length (rowS (tellK a b 0 ++ tellD a b _)); rw [HT.out, List.append_nil]; exact HO.out, hbl.drewN _⟩
          case measure => simp [intOf]
        · rcases ltC b.table 0 with ⟨hn, _⟩ | ⟨hn, hn'⟩
          · have HT0 : tellD a b (0 + 1 : Nat) = [] := by unfold tellD; rw [if_neg (by decide), if_pos (Or.inr (Or.inl (by simpa [numOf] using hn)))]
            have HT := Lib.hid HT0
            have he3 : decide (0 ≤ b.table) = false := by simp; exact hn
            clear he HT0
            go_wp2_with fail
            refine (place_some B0 1 0 _ rfl).mono ?_; rintro e w2 ⟨rfl, rfl⟩
            go_wp2_with fail
            refine (place_some B1 1 0 _ rfl).mono ?_; rintro e w2 ⟨rfl, rfl⟩
            go_wp2_with fail
            go_quiet (fail)
            go_wp2_with fail
            go_roundw
            case rel => exact ⟨0 + 1, by omega, rfl, a0.drewN _, a1.drewN _, by show (wr.drewN _).ownsRow _ _ _ _ (tellK a b 0 ++ tellD a b _).length (rowS (tellK a b 0 ++ tellD a b _)); rw [HT.out, List.append_nil]; exact HO.out, hbl.drewN _⟩
            case measure => simp [intOf]
          · have he3 : decide (0 ≤ b.table) = true := by simp; exact hn'
            rcases ltC 4294967295 b.table with ⟨hx, _⟩ | ⟨hx, hx'⟩
            · have HT0 : tellD a b (0 + 1 : Nat) = [] := by unfold tellD; rw [if_neg (by decide), if_pos (Or.inr (Or.inr (by simpa [numOf] using hx)))]
              have HT := Lib.hid HT0
              have he4 : decide (b.table ≤ 4294967295) = false := by simp; exact hx
              clear he HT0
              go_wp2_with fail
              refine (place_some B0 1 0 _ rfl).mono ?_; rintro e w2 ⟨rfl, rfl⟩
              go_wp2_with fail
              refine (place_some B1 1 0 _ rfl).mono ?_; rintro e w2 ⟨rfl, rfl⟩
              go_wp2_with fail
              go_quiet (fail)
              go_wp2_with fail
              go_roundw
              case rel => exact ⟨0 + 1, by omega, rfl, a0.drewN _, a1.drewN _, by show (wr.drewN _).ownsRow _ _ _ _ (tellK a b 0 ++ tellD a b _).length (rowS (tellK a b 0 ++ tellD a b _)); rw [HT.out, List.append_nil]; exact HO.out, hbl.drewN _⟩
              case measure => simp [intOf]
            · have HT0 : tellD a b (0 + 1 : Nat) = [⟨1, b.table⟩] := by unfold tellD; rw [if_neg (by decide), if_neg (by simp [numOf]; exact ⟨he, hn', hx'⟩)]; simp [numOf]
              have HT := Lib.hid HT0
              have he4 : decide (b.table ≤ 4294967295) = true := by simp; exact hx'
              clear he HT0
              go_wp2_with fail
              refine (place_some B0 1 0 _ rfl).mono ?_; rintro e w2 ⟨rfl, rfl⟩
              go_wp2_with fail
              refine (place_some B1 1 0 _ rfl).mono ?_; rintro e w2 ⟨rfl, rfl⟩
              go_wp2_with fail
              go_quiet (fail)
              go_wp2_with (at_builtin; refine wpList_append_fresh rfl _ _ 25 rfl w.heap.size 30 i0 (.agg #[.int .i64 0, .int .u32 0]) 2 16 Try.underlying25 hi hz0 hz1 hz2 rfl (by decide) _ _ _ rfl ((owns_drewN HO.out _).alloc _) ⟨wr.heap.size, 0, none⟩ 1 1 [.int .i64 1, .int .u32 b.table] rfl rfl ?c1 ?c2 ?c3 ?c4 ?c5 ?_)
              case c1 => intro j u hu; match j, hu with | 0, hu => (simp at hu; subst hu; simp [Addr.add] <;> exact (At.new _ _).cell rfl) | 1, hu => (simp at hu; subst hu; simp [Addr.add] <;> exact (At.new _ _).cell rfl)
              case c2 => simp [Value.oneCell']
              case c3 => simp only [maxLen]; omega
              case c4 => omega
              case c5 => have := hbl.size; simp; omega
              intro v' w4 hown4 hch hfr
              have HR := (owns_drewN HO.out nq).alloc (.cells #[.int .i64 1, .int .u32 b.table] 30)
              have A0 := ((a0.drewN nq).alloc (.cells #[.int .i64 1, .int .u32 b.table] 30)).chg hch (owns_alien HR ((a0.drewN nq).alloc _) (by decide))
              have A1 := ((a1.drewN nq).alloc (.cells #[.int .i64 1, .int .u32 b.table] 30)).chg hch (owns_alien HR ((a1.drewN nq).alloc _) (by decide))
              have HB4 : Below w.heap.size w w4 := ((hbl.drewN nq).alloc (by have := hbl.size; simpa using this) _).chg hch (Nat.le_refl _) (owns_lo HR)
              clear a0 a1 hbl
              obtain ⟨sb, capb, rfl⟩ := owns_slice hown4
              have HOW := Lib.hid hown4
              clear hown4 hfr hch HR
              go_wp2_with fail
              go_roundw
              case rel => exact ⟨0 + 1, by omega, rfl, A0, A1, by show w4.ownsRow _ _ _ _ (tellK a b 0 ++ tellD a b _).length (rowS (tellK a b 0 ++ tellD a b _)); rw [HT.out, rowS_append, List.length_append]; exact HOW.out, HB4⟩
              case measure => simp [intOf]
      · rcases Bool.eq_false_or_eq_true b.push with hbp | hbp <;> rcases Bool.eq_false_or_eq_true a.push with hap | hap
        · skip
          have HT0 : tellD a b (1 + 1 : Nat) = [] := by unfold tellD; rw [if_pos (by decide), if_pos (by rw [hap, hbp])]
          have HT := Lib.hid HT0
          clear HT0
          rw [hbp] at y1
          rw [hap] at x1
          clear hap hbp
          go_wp2_with fail
          refine (place_none B0 2 _ rfl).mono ?_; rintro e w2 ⟨rfl, rfl⟩
          go_wp2_with fail
          refine (place_none B1 2 _ rfl).mono ?_; rintro e w2 ⟨rfl, rfl⟩
          go_wp2_with fail
          go_quiet (fail)
          have b0 := a0.drewN nq
          have b1 := a1.drewN nq
          have z0 : (wr.drewN nq).cell? ⟨B0, 1, none⟩ = some (.bool _) := x1
          have z1 : (wr.drewN nq).cell? ⟨B1, 1, none⟩ = some (.bool _) := y1
          have HO2 : Hid ((wr.drewN nq).ownsRow _ _ _ _ _ _) := Lib.hid (owns_drewN HO.out nq)
          have hbl2 := hbl.drewN nq
          have t2 : B0 < (wr.drewN nq).heap.size := t0
          have t3 : B1 < (wr.drewN nq).heap.size := t1
          clear x0 x1 x2 x3 x4 x5 y0 y1 y2 y3 y4 y5 a0 a1 HO hbl t0 t1
          generalize wr.drewN nq = wq at *
          go_wp2_with fail
          go_roundw
          case rel => exact ⟨1 + 1, by omega, rfl, b0, b1, by show (wq).ownsRow _ _ _ _ (tellK a b 1 ++ tellD a b _).length (rowS (tellK a b 1 ++ tellD a b _)); rw [HT.out, List.append_nil]; exact HO2.out, hbl2⟩
          case measure => simp [intOf]
        · skip
          have HT0 : tellD a b (1 + 1 : Nat) = [⟨2, 1⟩] := by unfold tellD; rw [if_pos (by decide), if_neg (by rw [hap, hbp]; decide)]; simp [hbp]
          have HT := Lib.hid HT0
          clear HT0
          rw [hbp] at y1
          rw [hap] at x1
          clear hap hbp
          go_wp2_with fail
          refine (place_none B0 2 _ rfl).mono ?_; rintro e w2 ⟨rfl, rfl⟩
          go_wp2_with fail
          refine (place_none B1 2 _ rfl).mono ?_; rintro e w2 ⟨rfl, rfl⟩
          go_wp2_with fail
          go_quiet (fail)
          have b0 := a0.drewN nq
          have b1 := a1.drewN nq
          have z0 : (wr.drewN nq).cell? ⟨B0, 1, none⟩ = some (.bool _) := x1
          have z1 : (wr.drewN nq).cell? ⟨B1, 1, none⟩ = some (.bool _) := y1
          have HO2 : Hid ((wr.drewN nq).ownsRow _ _ _ _ _ _) := Lib.hid (owns_drewN HO.out nq)
          have hbl2 := hbl.drewN nq
          have t2 : B0 < (wr.drewN nq).heap.size := t0
          have t3 : B1 < (wr.drewN nq).heap.size := t1
          clear x0 x1 x2 x3 x4 x5 y0 y1 y2 y3 y4 y5 a0 a1 HO hbl t0 t1
          generalize wr.drewN nq = wq at *
          go_wp2_with (at_builtin; refine wpList_append_fresh rfl _ _ 25 rfl w.heap.size 30 i0 (.agg #[.int .i64 0, .int .u32 0]) 2 16 Try.underlying25 hi hz0 hz1 hz2 rfl (by decide) _ _ _ rfl ((HO2.out.alloc _).alloc _) ⟨wq.heap.size + 1, 0, none⟩ 1 1 [.int .i64 2, .int .u32 1] rfl rfl ?c1 ?c2 ?c3 ?c4 ?c5 ?_)
          case c1 => intro j u hu; match j, hu with | 0, hu => (simp at hu; subst hu; simp [Addr.add] <;> exact (At.new _ _).cell rfl) | 1, hu => (simp at hu; subst hu; simp [Addr.add] <;> exact (At.new _ _).cell rfl)
          case c2 => simp [Value.oneCell']
          case c3 => simp only [maxLen]; omega
          case c4 => omega
          case c5 => have := hbl2.size; simp; omega
          intro v' w4 hown4 hch hfr
          have HR := (HO2.out.alloc (.cells #[.int .i64 2, .int .u32 1] 30)).alloc (.cells #[.int .i64 2, .int .u32 1] 30)
          have A0 := ((b0.alloc (.cells #[.int .i64 2, .int .u32 1] 30)).alloc (.cells #[.int .i64 2, .int .u32 1] 30)).chg hch (owns_alien HR ((b0.alloc _).alloc _) (by decide))
          have A1 := ((b1.alloc (.cells #[.int .i64 2, .int .u32 1] 30)).alloc (.cells #[.int .i64 2, .int .u32 1] 30)).chg hch (owns_alien HR ((b1.alloc _).alloc _) (by decide))
          have HB4 : Below w.heap.size w w4 := ((hbl2.alloc hbl2.size _).alloc (by have := hbl2.size; simp; omega) _).chg hch (Nat.le_refl _) (owns_lo HR)
          clear b0 b1 hbl2
          obtain ⟨sb, capb, rfl⟩ := owns_slice hown4
          have HOW := Lib.hid hown4
          clear hown4 hfr hch HR
          go_wp2_with fail
          go_roundw
          case rel => exact ⟨1 + 1, by omega, rfl, A0, A1, by show w4.ownsRow _ _ _ _ (tellK a b 1 ++ tellD a b _).length (rowS (tellK a b 1 ++ tellD a b _)); rw [HT.out, rowS_append, List.length_append]; exact HOW.out, HB4⟩
          case measure => simp [intOf]
        · skip
          have HT0 : tellD a b (1 + 1 : Nat) = [⟨2, 0⟩] := by unfold tellD; rw [if_pos (by decide), if_neg (by rw [hap, hbp]; decide)]; simp [hbp]
          have HT := Lib.hid HT0
          clear HT0
          rw [hbp] at y1
          rw [hap] at x1
          clear hap hbp
          go_wp2_with fail
          refine (place_none B0 2 _ rfl).mono ?_; rintro e w2 ⟨rfl, rfl⟩
          go_wp2_with fail
          refine (place_none B1 2 _ rfl).mono ?_; rintro e w2 ⟨rfl, rfl⟩
          go_wp2_with fail
          go_quiet (fail)
          have b0 := a0.drewN nq
          have b1 := a1.drewN nq
          have z0 : (wr.drewN nq).cell? ⟨B0, 1, none⟩ = some (.bool _) := x1
          have z1 : (wr.drewN nq).cell? ⟨B1, 1, none⟩ = some (.bool _) := y1
          have HO2 : Hid ((wr.drewN nq).ownsRow _ _ _ _ _ _) := Lib.hid (owns_drewN HO.out nq)
          have hbl2 := hbl.drewN nq
          have t2 : B0 < (wr.drewN nq).heap.size := t0
          have t3 : B1 < (wr.drewN nq).heap.size := t1
          clear x0 x1 x2 x3 x4 x5 y0 y1 y2 y3 y4 y5 a0 a1 HO hbl t0 t1
          generalize wr.drewN nq = wq at *
          go_wp2_with (at_builtin; refine wpList_append_fresh rfl _ _ 25 rfl w.heap.size 30 i0 (.agg #[.int .i64 0, .int .u32 0]) 2 16 Try.underlying25 hi hz0 hz1 hz2 rfl (by decide) _ _ _ rfl ((HO2.out.alloc _).alloc _) ⟨wq.heap.size + 1, 0, none⟩ 1 1 [.int .i64 2, .int .u32 0] rfl rfl ?c1 ?c2 ?c3 ?c4 ?c5 ?_)
          case c1 => intro j u hu; match j, hu with | 0, hu => (simp at hu; subst hu; simp [Addr.add] <;> exact (At.new _ _).cell rfl) | 1, hu => (simp at hu; subst hu; simp [Addr.add] <;> exact (At.new _ _).cell rfl)
          case c2 => simp [Value.oneCell']
          case c3 => simp only [maxLen]; omega
          case c4 => omega
          case c5 => have := hbl2.size; simp; omega
          intro v' w4 hown4 hch hfr
          have HR := (HO2.out.alloc (.cells #[.int .i64 2, .int .u32 0] 30)).alloc (.cells #[.int .i64 2, .int .u32 0] 30)
          have A0 := ((b0.alloc (.cells #[.int .i64 2, .int .u32 0] 30)).alloc (.cells #[.int .i64 2, .int .u32 0] 30)).chg hch (owns_alien HR ((b0.alloc _).alloc _) (by decide))
          have A1 := ((b1.alloc (.cells #[.int .i64 2, .int .u32 0] 30)).alloc (.cells #[.int .i64 2, .int .u32 0] 30)).chg hch (owns_alien HR ((b1.alloc _).alloc _) (by decide))
          have HB4 : Below w.heap.size w w4 := ((hbl2.alloc hbl2.size _).alloc (by have := hbl2.size; simp; omega) _).chg hch (Nat.le_refl _) (owns_lo HR)
          clear b0 b1 hbl2
          obtain ⟨sb, capb, rfl⟩ := owns_slice hown4
          have HOW := Lib.hid hown4
          clear hown4 hfr hch HR
          go_wp2_with fail
          go_roundw
          case rel => exact ⟨1 + 1, by omega, rfl, A0, A1, by show w4.ownsRow _ _ _ _ (tellK a b 1 ++ tellD a b _).length (rowS (tellK a b 1 ++ tellD a b _)); rw [HT.out, rowS_append, List.length_append]; exact HOW.out, HB4⟩
          case measure => simp [intOf]
        · skip
          have HT0 : tellD a b (1 + 1 : Nat) = [] := by unfold tellD; rw [if_pos (by decide), if_pos (by rw [hap, hbp])]
          have HT := Lib.hid HT0
          clear HT0
          rw [hbp] at y1
          rw [hap] at x1
          clear hap hbp
          go_wp2_with fail
          refine (place_none B0 2 _ rfl).mono ?_; rintro e w2 ⟨rfl, rfl⟩
          go_wp2_with fail
          refine (place_none B1 2 _ rfl).mono ?_; rintro e w2 ⟨rfl, rfl⟩
          go_wp2_with fail
          go_quiet (fail)
          have b0 := a0.drewN nq
          have b1 := a1.drewN nq
          have z0 : (wr.drewN nq).cell? ⟨B0, 1, none⟩ = some (.bool _) := x1
          have z1 : (wr.drewN nq).cell? ⟨B1, 1, none⟩ = some (.bool _) := y1
          have HO2 : Hid ((wr.drewN nq).ownsRow _ _ _ _ _ _) := Lib.hid (owns_drewN HO.out nq)
          have hbl2 := hbl.drewN nq
          have t2 : B0 < (wr.drewN nq).heap.size := t0
          have t3 : B1 < (wr.drewN nq).heap.size := t1
          clear x0 x1 x2 x3 x4 x5 y0 y1 y2 y3 y4 y5 a0 a1 HO hbl t0 t1
          generalize wr.drewN nq = wq at *
          go_wp2_with fail
          go_roundw
          case rel => exact ⟨1 + 1, by omega, rfl, b0, b1, by show (wq).ownsRow _ _ _ _ (tellK a b 1 ++ tellD a b _).length (rowS (tellK a b 1 ++ tellD a b _)); rw [HT.out, List.append_nil]; exact HO2.out, hbl2⟩
          case measure => simp [intOf]
      · skip
        rcases neC a.streams b.streams with he | ⟨he, _, he2⟩
        · have HT0 : tellD a b (2 + 1 : Nat) = [] := by unfold tellD; rw [if_neg (by decide), if_pos (Or.inl (by simpa [numOf] using he))]
          have HT := Lib.hid HT0
          have he2 : (a.streams != b.streams) = false := by simpa using he
          clear he HT0
          go_wp2_with fail
          refine (place_some B0 3 2 _ rfl).mono ?_; rintro e w2 ⟨rfl, rfl⟩
          go_wp2_with fail
          refine (place_some B1 3 2 _ rfl).mono ?_; rintro e w2 ⟨rfl, rfl⟩
          go_wp2_with fail
          go_quiet (fail)
          go_wp2_with fail
          go_roundw
          case rel => exact ⟨2 + 1, by omega, rfl, a0.drewN _, a1.drewN _, by show (wr.drewN _).ownsRow _ _ _ _ (tellK a b 2 ++ tellD a b _).length (rowS (tellK a b 2 ++ tellD a b _)); rw [HT.out, List.append_nil]; exact HO.out, hbl.drewN _⟩
          case measure => simp [intOf]
        · rcases ltC b.streams 0 with ⟨hn, _⟩ | ⟨hn, hn'⟩
          · have HT0 : tellD a b (2 + 1 : Nat) = [] := by unfold tellD; rw [if_neg (by decide), if_pos (Or.inr (Or.inl (by simpa [numOf] using hn)))]
            have HT := Lib.hid HT0
            have he3 : decide (0 ≤ b.streams) = false := by simp; exact hn
            clear he HT0
            go_wp2_with fail
            refine (place_some B0 3 2 _ rfl).mono ?_; rintro e w2 ⟨rfl, rfl⟩
            go_wp2_with fail
            refine (place_some B1 3 2 _ rfl).mono ?_; rintro e w2 ⟨rfl, rfl⟩
            go_wp2_with fail
            go_quiet (fail)
            go_wp2_with fail
            go_roundw
            case rel => exact ⟨2 + 1, by omega, rfl, a0.drewN _, a1.drewN _, by show (wr.drewN _).ownsRow _ _ _ _ (tellK a b 2 ++ tellD a b _).length (rowS (tellK a b 2 ++ tellD a b _)); rw [HT.out, List.append_nil]; exact HO.out, hbl.drewN _⟩
            case measure => simp [intOf]
          · have he3 : decide (0 ≤ b.streams) = true := by simp; exact hn'
            rcases ltC 4294967295 b.streams with ⟨hx, _⟩ | ⟨hx, hx'⟩
            · have HT0 : tellD a b (2 + 1 : Nat) = [] := by unfold tellD; rw [if_neg (by decide), if_pos (Or.inr (Or.inr (by simpa [numOf] using hx)))]
              have HT := Lib.hid HT0
              have he4 : decide (b.streams ≤ 4294967295) = false := by simp; exact hx
              clear he HT0
              go_wp2_with fail
              refine (place_some B0 3 2 _ rfl).mono ?_; rintro e w2 ⟨rfl, rfl⟩
              go_wp2_with fail
              refine (place_some B1 3 2 _ rfl).mono ?_; rintro e w2 ⟨rfl, rfl⟩
              go_wp2_with fail
              go_quiet (fail)
              go_wp2_with fail
              go_roundw
              case rel => exact ⟨2 + 1, by omega, rfl, a0.drewN _, a1.drewN _, by show (wr.drewN _).ownsRow _ _ _ _ (tellK a b 2 ++ tellD a b _).length (rowS (tellK a b 2 ++ tellD a b _)); rw [HT.out, List.append_nil]; exact HO.out, hbl.drewN _⟩
              case measure => simp [intOf]
            · have HT0 : tellD a b (2 + 1 : Nat) = [⟨3, b.streams⟩] := by unfold tellD; rw [if_neg (by decide), if_neg (by simp [numOf]; exact ⟨he, hn', hx'⟩)]; simp [numOf]
              have HT := Lib.hid HT0
              have he4 : decide (b.streams ≤ 4294967295) = true := by simp; exact hx'
              clear he HT0
              go_wp2_with fail
              refine (place_some B0 3 2 _ rfl).mono ?_; rintro e w2 ⟨rfl, rfl⟩
              go_wp2_with fail
              refine (place_some B1 3 2 _ rfl).mono ?_; rintro e w2 ⟨rfl, rfl⟩
              go_wp2_with fail
              go_quiet (fail)
              go_wp2_with (at_builtin; refine wpList_append_fresh rfl _ _ 25 rfl w.heap.size 30 i0 (.agg #[.int .i64 0, .int .u32 0]) 2 16 Try.underlying25 hi hz0 hz1 hz2 rfl (by decide) _ _ _ rfl ((owns_drewN HO.out _).alloc _) ⟨wr.heap.size, 0, none⟩ 1 1 [.int .i64 3, .int .u32 b.streams] rfl rfl ?c1 ?c2 ?c3 ?c4 ?c5 ?_)
              case c1 => intro j u hu; match j, hu with | 0, hu => (simp at hu; subst hu; simp [Addr.add] <;> exact (At.new _ _).cell rfl) | 1, hu => (simp at hu; subst hu; simp [Addr.add] <;> exact (At.new _ _).cell rfl)
              case c2 => simp [Value.oneCell']
              case c3 => simp only [maxLen]; omega
              case c4 => omega
              case c5 => have := hbl.size; simp; omega
              intro v' w4 hown4 hch hfr
              have HR := (owns_drewN HO.out nq).alloc (.cells #[.int .i64 3, .int .u32 b.streams] 30)
              have A0 := ((a0.drewN nq).alloc (.cells #[.int .i64 3, .int .u32 b.streams] 30)).chg hch (owns_alien HR ((a0.drewN nq).alloc _) (by decide))
              have A1 := ((a1.drewN nq).alloc (.cells #[.int .i64 3, .int .u32 b.streams] 30)).chg hch (owns_alien HR ((a1.drewN nq).alloc _) (by decide))
              have HB4 : Below w.heap.size w w4 := ((hbl.drewN nq).alloc (by have := hbl.size; simpa using this) _).chg hch (Nat.le_refl _) (owns_lo HR)
              clear a0 a1 hbl
              obtain ⟨sb, capb, rfl⟩ := owns_slice hown4
              have HOW := Lib.hid hown4
              clear hown4 hfr hch HR
              go_wp2_with fail
              go_roundw
              case rel => exact ⟨2 + 1, by omega, rfl, A0, A1, by show w4.ownsRow _ _ _ _ (tellK a b 2 ++ tellD a b _).length (rowS (tellK a b 2 ++ tellD a b _)); rw [HT.out, rowS_append, List.length_append]; exact HOW.out, HB4⟩
              case measure => simp [intOf]
      · skip
        rcases neC a.window b.window with he | ⟨he, _, he2⟩
        · have HT0 : tellD a b (3 + 1 : Nat) = [] := by unfold tellD; rw [if_neg (by decide), if_pos (Or.inl (by simpa [numOf] using he))]
          have HT := Lib.hid HT0
          have he2 : (a.window != b.window) = false := by simpa using he
          clear he HT0
          go_wp2_with fail
          refine (place_some B0 4 3 _ rfl).mono ?_; rintro e w2 ⟨rfl, rfl⟩
          go_wp2_with fail
          refine (place_some B1 4 3 _ rfl).mono ?_; rintro e w2 ⟨rfl, rfl⟩
          go_wp2_with fail
          go_quiet (fail)
          go_wp2_with fail
          go_roundw
          case rel => exact ⟨3 + 1, by omega, rfl, a0.drewN _, a1.drewN _, by show (wr.drewN _).ownsRow _ _ _ _ (tellK a b 3 ++ tellD a b _).length (rowS (tellK a b 3 ++ tellD a b _)); rw [HT.out, List.append_nil]; exact HO.out, hbl.drewN _⟩
          case measure => simp [intOf]
        · rcases ltC b.window 0 with ⟨hn, _⟩ | ⟨hn, hn'⟩
          · have HT0 : tellD a b (3 + 1 : Nat) = [] := by unfold tellD; rw [if_neg (by decide), if_pos (Or.inr (Or.inl (by simpa [numOf] using hn)))]
            have HT := Lib.hid HT0
            have he3 : decide (0 ≤ b.window) = false := by simp; exact hn
            clear he HT0
            go_wp2_with fail
            refine (place_some B0 4 3 _ rfl).mono ?_; rintro e w2 ⟨rfl, rfl⟩
            go_wp2_with fail
            refine (place_some B1 4 3 _ rfl).mono ?_; rintro e w2 ⟨rfl, rfl⟩
            go_wp2_with fail
            go_quiet (fail)
            go_wp2_with fail
            go_roundw
            case rel => exact ⟨3 + 1, by omega, rfl, a0.drewN _, a1.drewN _, by show (wr.drewN _).ownsRow _ _ _ _ (tellK a b 3 ++ tellD a b _).length (rowS (tellK a b 3 ++ tellD a b _)); rw [HT.out, List.append_nil]; exact HO.out, hbl.drewN _⟩
            case measure => simp [intOf]
          · have he3 : decide (0 ≤ b.window) = true := by simp; exact hn'
            rcases ltC 4294967295 b.window with ⟨hx, _⟩ | ⟨hx, hx'⟩
            · have HT0 : tellD a b (3 + 1 : Nat) = [] := by unfold tellD; rw [if_neg (by decide), if_pos (Or.inr (Or.inr (by simpa [numOf] using hx)))]
              have HT := Lib.hid HT0
              have he4 : decide (b.window ≤ 4294967295) = false := by simp; exact hx
              clear he HT0
              go_wp2_with fail
              refine (place_some B0 4 3 _ rfl).mono ?_; rintro e w2 ⟨rfl, rfl⟩
              go_wp2_with fail
              refine (place_some B1 4 3 _ rfl).mono ?_; rintro e w2 ⟨rfl, rfl⟩
              go_wp2_with fail
              go_quiet (fail)
              go_wp2_with fail
              go_roundw
              case rel => exact ⟨3 + 1, by omega, rfl, a0.drewN _, a1.drewN _, by show (wr.drewN _).ownsRow _ _ _ _ (tellK a b 3 ++ tellD a b _).length (rowS (tellK a b 3 ++ tellD a b _)); rw [HT.out, List.append_nil]; exact HO.out, hbl.drewN _⟩
              case measure => simp [intOf]
            · have HT0 : tellD a b (3 + 1 : Nat) = [⟨4, b.window⟩] := by unfold tellD; rw [if_neg (by decide), if_neg (by simp [numOf]; exact ⟨he, hn', hx'⟩)]; simp [numOf]
              have HT := Lib.hid HT0
              have he4 : decide (b.window ≤ 4294967295) = true := by simp; exact hx'
              clear he HT0
              go_wp2_with fail
              refine (place_some B0 4 3 _ rfl).mono ?_; rintro e w2 ⟨rfl, rfl⟩
              go_wp2_with fail
              refine (place_some B1 4 3 _ rfl).mono ?_; rintro e w2 ⟨rfl, rfl⟩
              go_wp2_with fail
              go_quiet (fail)
              go_wp2_with (at_builtin; refine wpList_append_fresh rfl _ _ 25 rfl w.heap.size 30 i0 (.agg #[.int .i64 0, .int .u32 0]) 2 16 Try.underlying25 hi hz0 hz1 hz2 rfl (by decide) _ _ _ rfl ((owns_drewN HO.out _).alloc _) ⟨wr.heap.size, 0, none⟩ 1 1 [.int .i64 4, .int .u32 b.window] rfl rfl ?c1 ?c2 ?c3 ?c4 ?c5 ?_)
              case c1 => intro j u hu; match j, hu with | 0, hu => (simp at hu; subst hu; simp [Addr.add] <;> exact (At.new _ _).cell rfl) | 1, hu => (simp at hu; subst hu; simp [Addr.add] <;> exact (At.new _ _).cell rfl)
              case c2 => simp [Value.oneCell']
              case c3 => simp only [maxLen]; omega
              case c4 => omega
              case c5 => have := hbl.size; simp; omega
              intro v' w4 hown4 hch hfr
              have HR := (owns_drewN HO.out nq).alloc (.cells #[.int .i64 4, .int .u32 b.window] 30)
              have A0 := ((a0.drewN nq).alloc (.cells #[.int .i64 4, .int .u32 b.window] 30)).chg hch (owns_alien HR ((a0.drewN nq).alloc _) (by decide))
              have A1 := ((a1.drewN nq).alloc (.cells #[.int .i64 4, .int .u32 b.window] 30)).chg hch (owns_alien HR ((a1.drewN nq).alloc _) (by decide))
              have HB4 : Below w.heap.size w w4 := ((hbl.drewN nq).alloc (by have := hbl.size; simpa using this) _).chg hch (Nat.le_refl _) (owns_lo HR)
              clear a0 a1 hbl
              obtain ⟨sb, capb, rfl⟩ := owns_slice hown4
              have HOW := Lib.hid hown4
              clear hown4 hfr hch HR
              go_wp2_with fail
              go_roundw
              case rel => exact ⟨3 + 1, by omega, rfl, A0, A1, by show w4.ownsRow _ _ _ _ (tellK a b 3 ++ tellD a b _).length (rowS (tellK a b 3 ++ tellD a b _)); rw [HT.out, rowS_append, List.length_append]; exact HOW.out, HB4⟩
              case measure => simp [intOf]
      · skip
        rcases neC a.frame b.frame with he | ⟨he, _, he2⟩
        · have HT0 : tellD a b (4 + 1 : Nat) = [] := by unfold tellD; rw [if_neg (by decide), if_pos (Or.inl (by simpa [numOf] using he))]
          have HT := Lib.hid HT0
          have he2 : (a.frame != b.frame) = false := by simpa using he
          clear he HT0
          go_wp2_with fail
          refine (place_some B0 5 4 _ rfl).mono ?_; rintro e w2 ⟨rfl, rfl⟩
          go_wp2_with fail
          refine (place_some B1 5 4 _ rfl).mono ?_; rintro e w2 ⟨rfl, rfl⟩
          go_wp2_with fail
          go_quiet (fail)
          go_wp2_with fail
          go_roundw
          case rel => exact ⟨4 + 1, by omega, rfl, a0.drewN _, a1.drewN _, by show (wr.drewN _).ownsRow _ _ _ _ (tellK a b 4 ++ tellD a b _).length (rowS (tellK a b 4 ++ tellD a b _)); rw [HT.out, List.append_nil]; exact HO.out, hbl.drewN _⟩
          case measure => simp [intOf]
        · rcases ltC b.frame 0 with ⟨hn, _⟩ | ⟨hn, hn'⟩
          · have HT0 : tellD a b (4 + 1 : Nat) = [] := by unfold tellD; rw [if_neg (by decide), if_pos (Or.inr (Or.inl (by simpa [numOf] using hn)))]
            have HT := Lib.hid HT0
            have he3 : decide (0 ≤ b.frame) = false := by simp; exact hn
            clear he HT0
            go_wp2_with fail
            refine (place_some B0 5 4 _ rfl).mono ?_; rintro e w2 ⟨rfl, rfl⟩
            go_wp2_with fail
            refine (place_some B1 5 4 _ rfl).mono ?_; rintro e w2 ⟨rfl, rfl⟩
            go_wp2_with fail
            go_quiet (fail)
            go_wp2_with fail
            go_roundw
            case rel => exact ⟨4 + 1, by omega, rfl, a0.drewN _, a1.drewN _, by show (wr.drewN _).ownsRow _ _ _ _ (tellK a b 4 ++ tellD a b _).length (rowS (tellK a b 4 ++ tellD a b _)); rw [HT.out, List.append_nil]; exact HO.out, hbl.drewN _⟩
            case measure => simp [intOf]
          · have he3 : decide (0 ≤ b.frame) = true := by simp; exact hn'
            rcases ltC 4294967295 b.frame with ⟨hx, _⟩ | ⟨hx, hx'⟩
            · have HT0 : tellD a b (4 + 1 : Nat) = [] := by unfold tellD; rw [if_neg (by decide), if_pos (Or.inr (Or.inr (by simpa [numOf] using hx)))]
              have HT := Lib.hid HT0
              have he4 : decide (b.frame ≤ 4294967295) = false := by simp; exact hx
              clear he HT0
              go_wp2_with fail
              refine (place_some B0 5 4 _ rfl).mono ?_; rintro e w2 ⟨rfl, rfl⟩
              go_wp2_with fail
              refine (place_some B1 5 4 _ rfl).mono ?_; rintro e w2 ⟨rfl, rfl⟩
              go_wp2_with fail
              go_quiet (fail)
              go_wp2_with fail
              go_roundw
              case rel => exact ⟨4 + 1, by omega, rfl, a0.drewN _, a1.drewN _, by show (wr.drewN _).ownsRow _ _ _ _ (tellK a b 4 ++ tellD a b _).length (rowS (tellK a b 4 ++ tellD a b _)); rw [HT.out, List.append_nil]; exact HO.out, hbl.drewN _⟩
              case measure => simp [intOf]
            · have HT0 : tellD a b (4 + 1 : Nat) = [⟨5, b.frame⟩] := by unfold tellD; rw [if_neg (by decide), if_neg (by simp [numOf]; exact ⟨he, hn', hx'⟩)]; simp [numOf]
              have HT := Lib.hid HT0
              have he4 : decide (b.frame ≤ 4294967295) = true := by simp; exact hx'
              clear he HT0
              go_wp2_with fail
              refine (place_some B0 5 4 _ rfl).mono ?_; rintro e w2 ⟨rfl, rfl⟩
              go_wp2_with fail
              refine (place_some B1 5 4 _ rfl).mono ?_; rintro e w2 ⟨rfl, rfl⟩
              go_wp2_with fail
              go_quiet (fail)
              go_wp2_with (at_builtin; refine wpList_append_fresh rfl _ _ 25 rfl w.heap.size 30 i0 (.agg #[.int .i64 0, .int .u32 0]) 2 16 Try.underlying25 hi hz0 hz1 hz2 rfl (by decide) _ _ _ rfl ((owns_drewN HO.out _).alloc _) ⟨wr.heap.size, 0, none⟩ 1 1 [.int .i64 5, .int .u32 b.frame] rfl rfl ?c1 ?c2 ?c3 ?c4 ?c5 ?_)
              case c1 => intro j u hu; match j, hu with | 0, hu => (simp at hu; subst hu; simp [Addr.add] <;> exact (At.new _ _).cell rfl) | 1, hu => (simp at hu; subst hu; simp [Addr.add] <;> exact (At.new _ _).cell rfl)
              case c2 => simp [Value.oneCell']
              case c3 => simp only [maxLen]; omega
              case c4 => omega
              case c5 => have := hbl.size; simp; omega
              intro v' w4 hown4 hch hfr
              have HR := (owns_drewN HO.out nq).alloc (.cells #[.int .i64 5, .int .u32 b.frame] 30)
              have A0 := ((a0.drewN nq).alloc (.cells #[.int .i64 5, .int .u32 b.frame] 30)).chg hch (owns_alien HR ((a0.drewN nq).alloc _) (by decide))
              have A1 := ((a1.drewN nq).alloc (.cells #[.int .i64 5, .int .u32 b.frame] 30)).chg hch (owns_alien HR ((a1.drewN nq).alloc _) (by decide))
              have HB4 : Below w.heap.size w w4 := ((hbl.drewN nq).alloc (by have := hbl.size; simpa using this) _).chg hch (Nat.le_refl _) (owns_lo HR)
              clear a0 a1 hbl
              obtain ⟨sb, capb, rfl⟩ := owns_slice hown4
              have HOW := Lib.hid hown4
              clear hown4 hfr hch HR
              go_wp2_with fail
              go_roundw
              case rel => exact ⟨4 + 1, by omega, rfl, A0, A1, by show w4.ownsRow _ _ _ _ (tellK a b 4 ++ tellD a b _).length (rowS (tellK a b 4 ++ tellD a b _)); rw [HT.out, rowS_append, List.length_append]; exact HOW.out, HB4⟩
              case measure => simp [intOf]
      · skip
        rcases neC a.list b.list with he | ⟨he, _, he2⟩
        · have HT0 : tellD a b (5 + 1 : Nat) = [] := by unfold tellD; rw [if_neg (by decide), if_pos (Or.inl (by simpa [numOf] using he))]
          have HT := Lib.hid HT0
          have he2 : (a.list != b.list) = false := by simpa using he
          clear he HT0
          go_wp2_with fail
          refine (place_some B0 6 5 _ rfl).mono ?_; rintro e w2 ⟨rfl, rfl⟩
          go_wp2_with fail
          refine (place_some B1 6 5 _ rfl).mono ?_; rintro e w2 ⟨rfl, rfl⟩
          go_wp2_with fail
          go_quiet (fail)
          go_wp2_with fail
          go_roundw
          case rel => exact ⟨5 + 1, by omega, rfl, a0.drewN _, a1.drewN _, by show (wr.drewN _).ownsRow _ _ _ _ (tellK a b 5 ++ tellD a b _).length (rowS (tellK a b 5 ++ tellD a b _)); rw [HT.out, List.append_nil]; exact HO.out, hbl.drewN _⟩
          case measure => simp [intOf]
        · rcases ltC b.list 0 with ⟨hn, _⟩ | ⟨hn, hn'⟩
          · have HT0 : tellD a b (5 + 1 : Nat) = [] := by unfold tellD; rw [if_neg (by decide), if_pos (Or.inr (Or.inl (by simpa [numOf] using hn)))]
            have HT := Lib.hid HT0
            have he3 : decide (0 ≤ b.list) = false := by simp; exact hn
            clear he HT0
            go_wp2_with fail
            refine (place_some B0 6 5 _ rfl).mono ?_; rintro e w2 ⟨rfl, rfl⟩
            go_wp2_with fail
            refine (place_some B1 6 5 _ rfl).mono ?_; rintro e w2 ⟨rfl, rfl⟩
            go_wp2_with fail
            go_quiet (fail)
            go_wp2_with fail
            go_roundw
            case rel => exact ⟨5 + 1, by omega, rfl, a0.drewN _, a1.drewN _, by show (wr.drewN _).ownsRow _ _ _ _ (tellK a b 5 ++ tellD a b _).length (rowS (tellK a b 5 ++ tellD a b _)); rw [HT.out, List.append_nil]; exact HO.out, hbl.drewN _⟩
            case measure => simp [intOf]
          · have he3 : decide (0 ≤ b.list) = true := by simp; exact hn'
            rcases ltC 4294967295 b.list with ⟨hx, _⟩ | ⟨hx, hx'⟩
            · have HT0 : tellD a b (5 + 1 : Nat) = [] := by unfold tellD; rw [if_neg (by decide), if_pos (Or.inr (Or.inr (by simpa [numOf] using hx)))]
              have HT := Lib.hid HT0
              have he4 : decide (b.list ≤ 4294967295) = false := by simp; exact hx
              clear he HT0
              go_wp2_with fail
              refine (place_some B0 6 5 _ rfl).mono ?_; rintro e w2 ⟨rfl, rfl⟩
              go_wp2_with fail
              refine (place_some B1 6 5 _ rfl).mono ?_; rintro e w2 ⟨rfl, rfl⟩
              go_wp2_with fail
              go_quiet (fail)
              go_wp2_with fail
              go_roundw
              case rel => exact ⟨5 + 1, by omega, rfl, a0.drewN _, a1.drewN _, by show (wr.drewN _).ownsRow _ _ _ _ (tellK a b 5 ++ tellD a b _).length (rowS (tellK a b 5 ++ tellD a b _)); rw [HT.out, List.append_nil]; exact HO.out, hbl.drewN _⟩
              case measure => simp [intOf]
            · have HT0 : tellD a b (5 + 1 : Nat) = [⟨6, b.list⟩] := by unfold tellD; rw [if_neg (by decide), if_neg (by simp [numOf]; exact ⟨he, hn', hx'⟩)]; simp [numOf]
              have HT := Lib.hid HT0
              have he4 : decide (b.list ≤ 4294967295) = true := by simp; exact hx'
              clear he HT0
              go_wp2_with fail
              refine (place_some B0 6 5 _ rfl).mono ?_; rintro e w2 ⟨rfl, rfl⟩
              go_wp2_with fail
              refine (place_some B1 6 5 _ rfl).mono ?_; rintro e w2 ⟨rfl, rfl⟩
              go_wp2_with fail
              go_quiet (fail)
              go_wp2_with (at_builtin; refine wpList_append_fresh rfl _ _ 25 rfl w.heap.size 30 i0 (.agg #[.int .i64 0, .int .u32 0]) 2 16 Try.underlying25 hi hz0 hz1 hz2 rfl (by decide) _ _ _ rfl ((owns_drewN HO.out _).alloc _) ⟨wr.heap.size, 0, none⟩ 1 1 [.int .i64 6, .int .u32 b.list] rfl rfl ?c1 ?c2 ?c3 ?c4 ?c5 ?_)
              case c1 => intro j u hu; match j, hu with | 0, hu => (simp at hu; subst hu; simp [Addr.add] <;> exact (At.new _ _).cell rfl) | 1, hu => (simp at hu; subst hu; simp [Addr.add] <;> exact (At.new _ _).cell rfl)
              case c2 => simp [Value.oneCell']
              case c3 => simp only [maxLen]; omega
              case c4 => omega
              case c5 => have := hbl.size; simp; omega
              intro v' w4 hown4 hch hfr
              have HR := (owns_drewN HO.out nq).alloc (.cells #[.int .i64 6, .int .u32 b.list] 30)
              have A0 := ((a0.drewN nq).alloc (.cells #[.int .i64 6, .int .u32 b.list] 30)).chg hch (owns_alien HR ((a0.drewN nq).alloc _) (by decide))
              have A1 := ((a1.drewN nq).alloc (.cells #[.int .i64 6, .int .u32 b.list] 30)).chg hch (owns_alien HR ((a1.drewN nq).alloc _) (by decide))
              have HB4 : Below w.heap.size w w4 := ((hbl.drewN nq).alloc (by have := hbl.size; simpa using this) _).chg hch (Nat.le_refl _) (owns_lo HR)
              clear a0 a1 hbl
              obtain ⟨sb, capb, rfl⟩ := owns_slice hown4
              have HOW := Lib.hid hown4
              clear hown4 hfr hch HR
              go_wp2_with fail
              go_roundw
              case rel => exact ⟨5 + 1, by omega, rfl, A0, A1, by show w4.ownsRow _ _ _ _ (tellK a b 5 ++ tellD a b _).length (rowS (tellK a b 5 ++ tellD a b _)); rw [HT.out, rowS_append, List.length_append]; exact HOW.out, HB4⟩
              case measure => simp [intOf]
    · obtain ⟨sa, cap, rfl⟩ := owns_slice hown
      go_wp2_with fail
      go_ret
      refine ⟨_, rfl, Below.chg_nil hbl, owns_mono ?_ hb⟩
      rw [show tellR a b = tellK a b k from by rw [show k = 6 from by omega]; rfl]
      exact hown
end Go.Proofs.Ytanfibaphoficaa.Set
