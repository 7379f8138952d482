/-
  The document's Tell, and Same.
-/
import Derived.Test.YtanfibaphoficaaBack
namespace Go.Proofs.Ytanfibaphoficaa.RT
open Go.ChangeShapes Go.WideShapes Go.ChangeAt Go.RowKit
open Go.Proofs.Ytanfibaphoficaa.B Go.Proofs.Ytanfibaphoficaa.Set Go.Proofs.Ytanfibaphoficaa.Back
set_option linter.unusedVariables false
set_option linter.unusedSimpArgs false

theorem _root_.Go.Proofs.Ytanfibaphoficaa.B.At.eq {w : World} {b : Nat} {o o' : Obj} (h : At w b o) (e : o = o') : At w b o' := e ▸ h
def nbF (b : V) (k : Nat) : Int := if k = 0 then b.table else if k = 1 then (if b.push then 1 else 0) else if k = 2 then b.streams else if k = 3 then b.window else if k = 4 then b.frame else b.list
def obF (a b : V) (k : Nat) : Bool := if k = 0 then a.table != b.table else if k = 1 then a.push != b.push else if k = 2 then a.streams != b.streams else if k = 3 then a.window != b.window else if k = 4 then a.frame != b.frame else a.list != b.list
def nbA (b : V) : Array Value := #[.int .i64 b.table, .int .i64 (if b.push then 1 else 0), .int .i64 b.streams, .int .i64 b.window, .int .i64 b.frame, .int .i64 b.list]
def obA (a b : V) : Array Value := #[.bool (a.table != b.table), .bool (a.push != b.push), .bool (a.streams != b.streams), .bool (a.window != b.window), .bool (a.frame != b.frame), .bool (a.list != b.list)]
theorem nbA_get (b : V) {k : Nat} (h : k < 6) : (nbA b)[k]? = some (.int .i64 (nbF b k)) := by
  have hk : k = 0 ∨ k = 1 ∨ k = 2 ∨ k = 3 ∨ k = 4 ∨ k = 5 := by omega
  rcases hk with rfl | rfl | rfl | rfl | rfl | rfl <;> rfl
theorem obA_get (a b : V) {k : Nat} (h : k < 6) : (obA a b)[k]? = some (.bool (obF a b k)) := by
  have hk : k = 0 ∨ k = 1 ∨ k = 2 ∨ k = 3 ∨ k = 4 ∨ k = 5 := by omega
  rcases hk with rfl | rfl | rfl | rfl | rfl | rfl <;> rfl
theorem tellD_at (a b : V) {k : Nat} (h : k < 6) : tellD a b (k + 1 : Nat) = if obF a b k = true ∧ 0 ≤ nbF b k ∧ nbF b k ≤ 4294967295 then [⟨(k + 1 : Nat), nbF b k⟩] else [] := by
  have hk : k = 0 ∨ k = 1 ∨ k = 2 ∨ k = 3 ∨ k = 4 ∨ k = 5 := by omega
  have key : ∀ (x y : Int) (d : Int), (if x = y ∨ y < 0 ∨ 4294967295 < y then ([] : List S) else [⟨d, y⟩]) = if (x != y) = true ∧ 0 ≤ y ∧ y ≤ 4294967295 then [⟨d, y⟩] else [] := by
    intro x y d
    by_cases h1 : x = y
    · subst h1; simp
    · by_cases h2 : y < 0
      · rw [if_pos (.inr (.inl h2)), if_neg (by omega)]
      · by_cases h3 : 4294967295 < y
        · rw [if_pos (.inr (.inr h3)), if_neg (by omega)]
        · rw [if_neg (by omega), if_pos ⟨by simp [h1], by omega, by omega⟩]
  rcases hk with rfl | rfl | rfl | rfl | rfl | rfl
  · exact key a.table b.table 1
  · unfold tellD nbF obF
    rcases Bool.eq_false_or_eq_true b.push with hbp | hbp <;> rcases Bool.eq_false_or_eq_true a.push with hap | hap <;> simp [hbp, hap]
  · exact key a.streams b.streams 3
  · exact key a.window b.window 4
  · exact key a.frame b.frame 5
  · exact key a.list b.list 6

set_option maxRecDepth 100000 in
set_option maxHeartbeats 4000000 in
theorem rtell_any (a b : V) (base : Nat) (w : World) (hb : base ≤ w.heap.size) :
    Calls Try.prog 12 #[.agg (vA a), .agg (vA b)] w fun e w' => ∃ sv, e = .returned sv ∧ Chg [] w w' ∧ w'.ownsRow base 30 2 sv (tellR a b).length (rowS (tellR a b)) := by
  obtain ⟨i0, hi, hz0, hz1, hz2⟩ := info_parts info30
  have hnb : Hid (∀ k, k < 6 → (nbA b)[k]? = some (.int .i64 (nbF b k))) := Lib.hid (fun k h => nbA_get b h)
  have hob : Hid (∀ k, k < 6 → (obA a b)[k]? = some (.bool (obF a b k))) := Lib.hid (fun k h => obA_get a b h)
  obtain ⟨na, hna⟩ : ∃ na, na = nbA b := ⟨_, rfl⟩
  obtain ⟨oa, hoa⟩ : ∃ oa, oa = obA a b := ⟨_, rfl⟩
  have HNA := Lib.hid hna; have HOA := Lib.hid hoa
  clear hna hoa
  obtain ⟨ap, hap⟩ : ∃ ap, ap = a.push := ⟨_, rfl⟩
  obtain ⟨bp, hbp⟩ : ∃ bp, bp = b.push := ⟨_, rfl⟩
  unfold vA
  rw [← hap, ← hbp]
  have HBP := Lib.hid hbp; have HAP := Lib.hid hap
  clear hbp hap
  go_enter Try.func12, Try.ntmps12
  cases bp <;> cases ap
  · skip
    go_wp2_with fail
    go_loopw [8, 9] (fun l i wr => ∃ k : Nat, k ≤ 6 ∧ i = .int .i64 (k : Nat) ∧ At wr (w.heap.size + 1 + 1) (.cells na 3 (0, 0)) ∧ At wr (w.heap.size + 1 + 1 + 1) (.cells oa 4 (0, 0)) ∧ wr.ownsRow w.heap.size 30 2 l (tellK a b k).length (rowS (tellK a b k)) ∧ Below w.heap.size w wr) (fun _ i _ => 6 - (intOf i).toNat)
    case atStart =>
      refine ⟨0, by omega, rfl, ?_, ?_, World.ownsRow_nil _ _ _ _, ?_⟩
      · refine B.At.eq ((At.new' (by simp)).alloc _) ?_
        rw [HNA.out]; unfold nbA; rw [← HBP.out]; rfl
      · refine B.At.eq (At.new' (by simp)) ?_
        rw [HOA.out]; unfold obA; rw [← HBP.out, ← HAP.out]; rfl
      · exact (((((Chg.refl w).alloc (l := []) _).alloc _).alloc _).alloc _).below_nil
    case round =>
      obtain ⟨k, hk, rfl, an, ao, hown, hbl⟩ := hrel
      have hkl := tellK_len a b k
      obtain ⟨sa, cap, rfl⟩ := owns_slice hown
      have HO := Lib.hid hown
      clear hown
      have tn := an.lt; have to2 := ao.lt
      by_cases hlt : k < 6
      · have c1 := an.cell (o := k) (v := .int .i64 (nbF b k)) (by rw [HNA.out]; exact hnb.out k hlt)
        have c2 := ao.cell (o := k) (v := .bool (obF a b k)) (by rw [HOA.out]; exact hob.out k hlt)
        have hT := tellD_at a b hlt
        obtain ⟨n, hn⟩ : ∃ n, n = nbF b k := ⟨_, rfl⟩
        obtain ⟨o, ho⟩ : ∃ o, o = obF a b k := ⟨_, rfl⟩
        rw [← hn] at c1 hT
        rw [← ho] at c2 hT
        have HN := Lib.hid hn; have HOO := Lib.hid ho
        clear hn ho
        have hk0 : (0 : Int) ≤ (k : Int) := by omega
        have hk6 : (k : Int) < 6 := by omega
        cases o
        · have HT : Hid (tellD a b (k + 1 : Nat) = []) := Lib.hid (by rw [hT, if_neg (by simp)])
          clear hT
          go_wp2_with fail
          go_roundw
          case rel => exact ⟨k + 1, by omega, by go_num, an, ao, by show wr.ownsRow _ _ _ _ (tellK a b k ++ tellD a b _).length (rowS (tellK a b k ++ tellD a b _)); rw [HT.out, List.append_nil]; exact HO.out, hbl⟩
          case measure => simp [intOf]; omega
        · by_cases h0 : 0 ≤ n
          · by_cases h1 : n ≤ 4294967295
            · have HT : Hid (tellD a b (k + 1 : Nat) = [⟨(k + 1 : Nat), n⟩]) := Lib.hid (by rw [hT, if_pos ⟨rfl, h0, h1⟩])
              clear hT
              go_wp2_with (at_builtin; refine wpList_append_fresh rfl _ _ 25 rfl w.heap.size 30 i0 (.agg #[.int .i64 0, .int .u32 0]) 2 16 Try.underlying25 hi hz0 hz1 hz2 rfl (by decide) _ _ _ rfl (HO.out.alloc _) ⟨wr.heap.size, 0, none⟩ 1 1 [.int .i64 (k + 1), .int .u32 n] rfl rfl ?c1 ?c2 ?c3 ?c4 ?c5 ?_)
              case c1 => intro j u hu; match j, hu with | 0, hu => (simp at hu; subst hu; simp [Addr.add] <;> exact (At.new _ _).cell rfl) | 1, hu => (simp at hu; subst hu; simp [Addr.add] <;> exact (At.new _ _).cell rfl)
              case c2 => simp [Value.oneCell']
              case c3 => simp only [maxLen]; omega
              case c4 => omega
              case c5 => have := hbl.size; simp; omega
              intro v' w4 hown4 hch hfr
              have HR := HO.out.alloc (.cells #[.int .i64 (k + 1), .int .u32 n] 30)
              have A0 := (an.alloc (.cells #[.int .i64 (k + 1), .int .u32 n] 30)).chg hch (owns_alien HR (an.alloc _) (by decide))
              have A1 := (ao.alloc (.cells #[.int .i64 (k + 1), .int .u32 n] 30)).chg hch (owns_alien HR (ao.alloc _) (by decide))
              have HB4 : Below w.heap.size w w4 := (hbl.alloc (by have := hbl.size; simpa using this) _).chg hch (Nat.le_refl _) (owns_lo HR)
              have HOW := Lib.hid hown4
              clear an ao hbl hown4 hch hfr HR c1 c2
              go_wp2_with fail
              go_roundw
              case rel => exact ⟨k + 1, by omega, by go_num, A0, A1, by show w4.ownsRow _ _ _ _ (tellK a b k ++ tellD a b _).length (rowS (tellK a b k ++ tellD a b _)); rw [HT.out, rowS_append, List.length_append]; exact HOW.out, HB4⟩
              case measure => simp [intOf]; omega
            · have HT : Hid (tellD a b (k + 1 : Nat) = []) := Lib.hid (by rw [hT, if_neg (by rintro ⟨_, _, h⟩; exact h1 h)])
              have h2 : (n ≤ 4294967295) = False := eq_false h1
              clear hT h1
              go_wp2_with fail
              go_roundw
              case rel => exact ⟨k + 1, by omega, by go_num, an, ao, by show wr.ownsRow _ _ _ _ (tellK a b k ++ tellD a b _).length (rowS (tellK a b k ++ tellD a b _)); rw [HT.out, List.append_nil]; exact HO.out, hbl⟩
              case measure => simp [intOf]; omega
          · have HT : Hid (tellD a b (k + 1 : Nat) = []) := Lib.hid (by rw [hT, if_neg (by rintro ⟨_, h, _⟩; exact h0 h)])
            have h2 : (0 ≤ n) = False := eq_false h0
            clear hT h0
            go_wp2_with fail
            go_roundw
            case rel => exact ⟨k + 1, by omega, by go_num, an, ao, by show wr.ownsRow _ _ _ _ (tellK a b k ++ tellD a b _).length (rowS (tellK a b k ++ tellD a b _)); rw [HT.out, List.append_nil]; exact HO.out, hbl⟩
            case measure => simp [intOf]; omega
      · obtain rfl : k = 6 := by omega
        go_wp2_with fail
        go_ret
        exact ⟨_, rfl, hbl.chg_nil, owns_mono HO.out hb⟩
  · skip
    go_wp2_with fail
    go_loopw [8, 9] (fun l i wr => ∃ k : Nat, k ≤ 6 ∧ i = .int .i64 (k : Nat) ∧ At wr (w.heap.size + 1 + 1) (.cells na 3 (0, 0)) ∧ At wr (w.heap.size + 1 + 1 + 1) (.cells oa 4 (0, 0)) ∧ wr.ownsRow w.heap.size 30 2 l (tellK a b k).length (rowS (tellK a b k)) ∧ Below w.heap.size w wr) (fun _ i _ => 6 - (intOf i).toNat)
    case atStart =>
      refine ⟨0, by omega, rfl, ?_, ?_, World.ownsRow_nil _ _ _ _, ?_⟩
      · refine B.At.eq ((At.new' (by simp)).alloc _) ?_
        rw [HNA.out]; unfold nbA; rw [← HBP.out]; rfl
      · refine B.At.eq (At.new' (by simp)) ?_
        rw [HOA.out]; unfold obA; rw [← HBP.out, ← HAP.out]; rfl
      · exact (((((Chg.refl w).alloc (l := []) _).alloc _).alloc _).alloc _).below_nil
    case round =>
      obtain ⟨k, hk, rfl, an, ao, hown, hbl⟩ := hrel
      have hkl := tellK_len a b k
      obtain ⟨sa, cap, rfl⟩ := owns_slice hown
      have HO := Lib.hid hown
      clear hown
      have tn := an.lt; have to2 := ao.lt
      by_cases hlt : k < 6
      · have c1 := an.cell (o := k) (v := .int .i64 (nbF b k)) (by rw [HNA.out]; exact hnb.out k hlt)
        have c2 := ao.cell (o := k) (v := .bool (obF a b k)) (by rw [HOA.out]; exact hob.out k hlt)
        have hT := tellD_at a b hlt
        obtain ⟨n, hn⟩ : ∃ n, n = nbF b k := ⟨_, rfl⟩
        obtain ⟨o, ho⟩ : ∃ o, o = obF a b k := ⟨_, rfl⟩
        rw [← hn] at c1 hT
        rw [← ho] at c2 hT
        have HN := Lib.hid hn; have HOO := Lib.hid ho
        clear hn ho
        have hk0 : (0 : Int) ≤ (k : Int) := by omega
        have hk6 : (k : Int) < 6 := by omega
        cases o
        · have HT : Hid (tellD a b (k + 1 : Nat) = []) := Lib.hid (by rw [hT, if_neg (by simp)])
          clear hT
          go_wp2_with fail
          go_roundw
          case rel => exact ⟨k + 1, by omega, by go_num, an, ao, by show wr.ownsRow _ _ _ _ (tellK a b k ++ tellD a b _).length (rowS (tellK a b k ++ tellD a b _)); rw [HT.out, List.append_nil]; exact HO.out, hbl⟩
          case measure => simp [intOf]; omega
        · by_cases h0 : 0 ≤ n
          · by_cases h1 : n ≤ 4294967295
            · have HT : Hid (tellD a b (k + 1 : Nat) = [⟨(k + 1 : Nat), n⟩]) := Lib.hid (by rw [hT, if_pos ⟨rfl, h0, h1⟩])
              clear hT
              go_wp2_with (at_builtin; refine wpList_append_fresh rfl _ _ 25 rfl w.heap.size 30 i0 (.agg #[.int .i64 0, .int .u32 0]) 2 16 Try.underlying25 hi hz0 hz1 hz2 rfl (by decide) _ _ _ rfl (HO.out.alloc _) ⟨wr.heap.size, 0, none⟩ 1 1 [.int .i64 (k + 1), .int .u32 n] rfl rfl ?c1 ?c2 ?c3 ?c4 ?c5 ?_)
              case c1 => intro j u hu; match j, hu with | 0, hu => (simp at hu; subst hu; simp [Addr.add] <;> exact (At.new _ _).cell rfl) | 1, hu => (simp at hu; subst hu; simp [Addr.add] <;> exact (At.new _ _).cell rfl)
              case c2 => simp [Value.oneCell']
              case c3 => simp only [maxLen]; omega
              case c4 => omega
              case c5 => have := hbl.size; simp; omega
              intro v' w4 hown4 hch hfr
              have HR := HO.out.alloc (.cells #[.int .i64 (k + 1), .int .u32 n] 30)
              have A0 := (an.alloc (.cells #[.int .i64 (k + 1), .int .u32 n] 30)).chg hch (owns_alien HR (an.alloc _) (by decide))
              have A1 := (ao.alloc (.cells #[.int .i64 (k + 1), .int .u32 n] 30)).chg hch (owns_alien HR (ao.alloc _) (by decide))
              have HB4 : Below w.heap.size w w4 := (hbl.alloc (by have := hbl.size; simpa using this) _).chg hch (Nat.le_refl _) (owns_lo HR)
              have HOW := Lib.hid hown4
              clear an ao hbl hown4 hch hfr HR c1 c2
              go_wp2_with fail
              go_roundw
              case rel => exact ⟨k + 1, by omega, by go_num, A0, A1, by show w4.ownsRow _ _ _ _ (tellK a b k ++ tellD a b _).length (rowS (tellK a b k ++ tellD a b _)); rw [HT.out, rowS_append, List.length_append]; exact HOW.out, HB4⟩
              case measure => simp [intOf]; omega
            · have HT : Hid (tellD a b (k + 1 : Nat) = []) := Lib.hid (by rw [hT, if_neg (by rintro ⟨_, _, h⟩; exact h1 h)])
              have h2 : (n ≤ 4294967295) = False := eq_false h1
              clear hT h1
              go_wp2_with fail
              go_roundw
              case rel => exact ⟨k + 1, by omega, by go_num, an, ao, by show wr.ownsRow _ _ _ _ (tellK a b k ++ tellD a b _).length (rowS (tellK a b k ++ tellD a b _)); rw [HT.out, List.append_nil]; exact HO.out, hbl⟩
              case measure => simp [intOf]; omega
          · have HT : Hid (tellD a b (k + 1 : Nat) = []) := Lib.hid (by rw [hT, if_neg (by rintro ⟨_, h, _⟩; exact h0 h)])
            have h2 : (0 ≤ n) = False := eq_false h0
            clear hT h0
            go_wp2_with fail
            go_roundw
            case rel => exact ⟨k + 1, by omega, by go_num, an, ao, by show wr.ownsRow _ _ _ _ (tellK a b k ++ tellD a b _).length (rowS (tellK a b k ++ tellD a b _)); rw [HT.out, List.append_nil]; exact HO.out, hbl⟩
            case measure => simp [intOf]; omega
      · obtain rfl : k = 6 := by omega
        go_wp2_with fail
        go_ret
        exact ⟨_, rfl, hbl.chg_nil, owns_mono HO.out hb⟩
  · skip
    go_wp2_with fail
    go_loopw [8, 9] (fun l i wr => ∃ k : Nat, k ≤ 6 ∧ i = .int .i64 (k : Nat) ∧ At wr (w.heap.size + 1 + 1) (.cells na 3 (0, 0)) ∧ At wr (w.heap.size + 1 + 1 + 1) (.cells oa 4 (0, 0)) ∧ wr.ownsRow w.heap.size 30 2 l (tellK a b k).length (rowS (tellK a b k)) ∧ Below w.heap.size w wr) (fun _ i _ => 6 - (intOf i).toNat)
    case atStart =>
      refine ⟨0, by omega, rfl, ?_, ?_, World.ownsRow_nil _ _ _ _, ?_⟩
      · refine B.At.eq ((At.new' (by simp)).alloc _) ?_
        rw [HNA.out]; unfold nbA; rw [← HBP.out]; rfl
      · refine B.At.eq (At.new' (by simp)) ?_
        rw [HOA.out]; unfold obA; rw [← HBP.out, ← HAP.out]; rfl
      · exact (((((Chg.refl w).alloc (l := []) _).alloc _).alloc _).alloc _).below_nil
    case round =>
      obtain ⟨k, hk, rfl, an, ao, hown, hbl⟩ := hrel
      have hkl := tellK_len a b k
      obtain ⟨sa, cap, rfl⟩ := owns_slice hown
      have HO := Lib.hid hown
      clear hown
      have tn := an.lt; have to2 := ao.lt
      by_cases hlt : k < 6
      · have c1 := an.cell (o := k) (v := .int .i64 (nbF b k)) (by rw [HNA.out]; exact hnb.out k hlt)
        have c2 := ao.cell (o := k) (v := .bool (obF a b k)) (by rw [HOA.out]; exact hob.out k hlt)
        have hT := tellD_at a b hlt
        obtain ⟨n, hn⟩ : ∃ n, n = nbF b k := ⟨_, rfl⟩
        obtain ⟨o, ho⟩ : ∃ o, o = obF a b k := ⟨_, rfl⟩
        rw [← hn] at c1 hT
        rw [← ho] at c2 hT
        have HN := Lib.hid hn; have HOO := Lib.hid ho
        clear hn ho
        have hk0 : (0 : Int) ≤ (k : Int) := by omega
        have hk6 : (k : Int) < 6 := by omega
        cases o
        · have HT : Hid (tellD a b (k + 1 : Nat) = []) := Lib.hid (by rw [hT, if_neg (by simp)])
          clear hT
          go_wp2_with fail
          go_roundw
          case rel => exact ⟨k + 1, by omega, by go_num, an, ao, by show wr.ownsRow _ _ _ _ (tellK a b k ++ tellD a b _).length (rowS (tellK a b k ++ tellD a b _)); rw [HT.out, List.append_nil]; exact HO.out, hbl⟩
          case measure => simp [intOf]; omega
        · by_cases h0 : 0 ≤ n
          · by_cases h1 : n ≤ 4294967295
            · have HT : Hid (tellD a b (k + 1 : Nat) = [⟨(k + 1 : Nat), n⟩]) := Lib.hid (by rw [hT, if_pos ⟨rfl, h0, h1⟩])
              clear hT
              go_wp2_with (at_builtin; refine wpList_append_fresh rfl _ _ 25 rfl w.heap.size 30 i0 (.agg #[.int .i64 0, .int .u32 0]) 2 16 Try.underlying25 hi hz0 hz1 hz2 rfl (by decide) _ _ _ rfl (HO.out.alloc _) ⟨wr.heap.size, 0, none⟩ 1 1 [.int .i64 (k + 1), .int .u32 n] rfl rfl ?c1 ?c2 ?c3 ?c4 ?c5 ?_)
              case c1 => intro j u hu; match j, hu with | 0, hu => (simp at hu; subst hu; simp [Addr.add] <;> exact (At.new _ _).cell rfl) | 1, hu => (simp at hu; subst hu; simp [Addr.add] <;> exact (At.new _ _).cell rfl)
              case c2 => simp [Value.oneCell']
              case c3 => simp only [maxLen]; omega
              case c4 => omega
              case c5 => have := hbl.size; simp; omega
              intro v' w4 hown4 hch hfr
              have HR := HO.out.alloc (.cells #[.int .i64 (k + 1), .int .u32 n] 30)
              have A0 := (an.alloc (.cells #[.int .i64 (k + 1), .int .u32 n] 30)).chg hch (owns_alien HR (an.alloc _) (by decide))
              have A1 := (ao.alloc (.cells #[.int .i64 (k + 1), .int .u32 n] 30)).chg hch (owns_alien HR (ao.alloc _) (by decide))
              have HB4 : Below w.heap.size w w4 := (hbl.alloc (by have := hbl.size; simpa using this) _).chg hch (Nat.le_refl _) (owns_lo HR)
              have HOW := Lib.hid hown4
              clear an ao hbl hown4 hch hfr HR c1 c2
              go_wp2_with fail
              go_roundw
              case rel => exact ⟨k + 1, by omega, by go_num, A0, A1, by show w4.ownsRow _ _ _ _ (tellK a b k ++ tellD a b _).length (rowS (tellK a b k ++ tellD a b _)); rw [HT.out, rowS_append, List.length_append]; exact HOW.out, HB4⟩
              case measure => simp [intOf]; omega
            · have HT : Hid (tellD a b (k + 1 : Nat) = []) := Lib.hid (by rw [hT, if_neg (by rintro ⟨_, _, h⟩; exact h1 h)])
              have h2 : (n ≤ 4294967295) = False := eq_false h1
              clear hT h1
              go_wp2_with fail
              go_roundw
              case rel => exact ⟨k + 1, by omega, by go_num, an, ao, by show wr.ownsRow _ _ _ _ (tellK a b k ++ tellD a b _).length (rowS (tellK a b k ++ tellD a b _)); rw [HT.out, List.append_nil]; exact HO.out, hbl⟩
              case measure => simp [intOf]; omega
          · have HT : Hid (tellD a b (k + 1 : Nat) = []) := Lib.hid (by rw [hT, if_neg (by rintro ⟨_, h, _⟩; exact h0 h)])
            have h2 : (0 ≤ n) = False := eq_false h0
            clear hT h0
            go_wp2_with fail
            go_roundw
            case rel => exact ⟨k + 1, by omega, by go_num, an, ao, by show wr.ownsRow _ _ _ _ (tellK a b k ++ tellD a b _).length (rowS (tellK a b k ++ tellD a b _)); rw [HT.out, List.append_nil]; exact HO.out, hbl⟩
            case measure => simp [intOf]; omega
      · obtain rfl : k = 6 := by omega
        go_wp2_with fail
        go_ret
        exact ⟨_, rfl, hbl.chg_nil, owns_mono HO.out hb⟩
  · skip
    go_wp2_with fail
    go_loopw [8, 9] (fun l i wr => ∃ k : Nat, k ≤ 6 ∧ i = .int .i64 (k : Nat) ∧ At wr (w.heap.size + 1 + 1) (.cells na 3 (0, 0)) ∧ At wr (w.heap.size + 1 + 1 + 1) (.cells oa 4 (0, 0)) ∧ wr.ownsRow w.heap.size 30 2 l (tellK a b k).length (rowS (tellK a b k)) ∧ Below w.heap.size w wr) (fun _ i _ => 6 - (intOf i).toNat)
    case atStart =>
      refine ⟨0, by omega, rfl, ?_, ?_, World.ownsRow_nil _ _ _ _, ?_⟩
      · refine B.At.eq ((At.new' (by simp)).alloc _) ?_
        rw [HNA.out]; unfold nbA; rw [← HBP.out]; rfl
      · refine B.At.eq (At.new' (by simp)) ?_
        rw [HOA.out]; unfold obA; rw [← HBP.out, ← HAP.out]; rfl
      · exact (((((Chg.refl w).alloc (l := []) _).alloc _).alloc _).alloc _).below_nil
    case round =>
      obtain ⟨k, hk, rfl, an, ao, hown, hbl⟩ := hrel
      have hkl := tellK_len a b k
      obtain ⟨sa, cap, rfl⟩ := owns_slice hown
      have HO := Lib.hid hown
      clear hown
      have tn := an.lt; have to2 := ao.lt
      by_cases hlt : k < 6
      · have c1 := an.cell (o := k) (v := .int .i64 (nbF b k)) (by rw [HNA.out]; exact hnb.out k hlt)
        have c2 := ao.cell (o := k) (v := .bool (obF a b k)) (by rw [HOA.out]; exact hob.out k hlt)
        have hT := tellD_at a b hlt
        obtain ⟨n, hn⟩ : ∃ n, n = nbF b k := ⟨_, rfl⟩
        obtain ⟨o, ho⟩ : ∃ o, o = obF a b k := ⟨_, rfl⟩
        rw [← hn] at c1 hT
        rw [← ho] at c2 hT
        have HN := Lib.hid hn; have HOO := Lib.hid ho
        clear hn ho
        have hk0 : (0 : Int) ≤ (k : Int) := by omega
        have hk6 : (k : Int) < 6 := by omega
        cases o
        · have HT : Hid (tellD a b (k + 1 : Nat) = []) := Lib.hid (by rw [hT, if_neg (by simp)])
          clear hT
          go_wp2_with fail
          go_roundw
          case rel => exact ⟨k + 1, by omega, by go_num, an, ao, by show wr.ownsRow _ _ _ _ (tellK a b k ++ tellD a b _).length (rowS (tellK a b k ++ tellD a b _)); rw [HT.out, List.append_nil]; exact HO.out, hbl⟩
          case measure => simp [intOf]; omega
        · by_cases h0 : 0 ≤ n
          · by_cases h1 : n ≤ 4294967295
            · have HT : Hid (tellD a b (k + 1 : Nat) = [⟨(k + 1 : Nat), n⟩]) := Lib.hid (by rw [hT, if_pos ⟨rfl, h0, h1⟩])
              clear hT
              go_wp2_with (at_builtin; refine wpList_append_fresh rfl _ _ 25 rfl w.heap.size 30 i0 (.agg #[.int .i64 0, .int .u32 0]) 2 16 Try.underlying25 hi hz0 hz1 hz2 rfl (by decide) _ _ _ rfl (HO.out.alloc _) ⟨wr.heap.size, 0, none⟩ 1 1 [.int .i64 (k + 1), .int .u32 n] rfl rfl ?c1 ?c2 ?c3 ?c4 ?c5 ?_)
              case c1 => intro j u hu; match j, hu with | 0, hu => (simp at hu; subst hu; simp [Addr.add] <;> exact (At.new _ _).cell rfl) | 1, hu => (simp at hu; subst hu; simp [Addr.add] <;> exact (At.new _ _).cell rfl)
              case c2 => simp [Value.oneCell']
              case c3 => simp only [maxLen]; omega
              case c4 => omega
              case c5 => have := hbl.size; simp; omega
              intro v' w4 hown4 hch hfr
              have HR := HO.out.alloc (.cells #[.int .i64 (k + 1), .int .u32 n] 30)
              have A0 := (an.alloc (.cells #[.int .i64 (k + 1), .int .u32 n] 30)).chg hch (owns_alien HR (an.alloc _) (by decide))
              have A1 := (ao.alloc (.cells #[.int .i64 (k + 1), .int .u32 n] 30)).chg hch (owns_alien HR (ao.alloc _) (by decide))
              have HB4 : Below w.heap.size w w4 := (hbl.alloc (by have := hbl.size; simpa using this) _).chg hch (Nat.le_refl _) (owns_lo HR)
              have HOW := Lib.hid hown4
              clear an ao hbl hown4 hch hfr HR c1 c2
              go_wp2_with fail
              go_roundw
              case rel => exact ⟨k + 1, by omega, by go_num, A0, A1, by show w4.ownsRow _ _ _ _ (tellK a b k ++ tellD a b _).length (rowS (tellK a b k ++ tellD a b _)); rw [HT.out, rowS_append, List.length_append]; exact HOW.out, HB4⟩
              case measure => simp [intOf]; omega
            · have HT : Hid (tellD a b (k + 1 : Nat) = []) := Lib.hid (by rw [hT, if_neg (by rintro ⟨_, _, h⟩; exact h1 h)])
              have h2 : (n ≤ 4294967295) = False := eq_false h1
              clear hT h1
              go_wp2_with fail
              go_roundw
              case rel => exact ⟨k + 1, by omega, by go_num, an, ao, by show wr.ownsRow _ _ _ _ (tellK a b k ++ tellD a b _).length (rowS (tellK a b k ++ tellD a b _)); rw [HT.out, List.append_nil]; exact HO.out, hbl⟩
              case measure => simp [intOf]; omega
          · have HT : Hid (tellD a b (k + 1 : Nat) = []) := Lib.hid (by rw [hT, if_neg (by rintro ⟨_, h, _⟩; exact h0 h)])
            have h2 : (0 ≤ n) = False := eq_false h0
            clear hT h0
            go_wp2_with fail
            go_roundw
            case rel => exact ⟨k + 1, by omega, by go_num, an, ao, by show wr.ownsRow _ _ _ _ (tellK a b k ++ tellD a b _).length (rowS (tellK a b k ++ tellD a b _)); rw [HT.out, List.append_nil]; exact HO.out, hbl⟩
            case measure => simp [intOf]; omega
      · obtain rfl : k = 6 := by omega
        go_wp2_with fail
        go_ret
        exact ⟨_, rfl, hbl.chg_nil, owns_mono HO.out hb⟩
end Go.Proofs.Ytanfibaphoficaa.RT
