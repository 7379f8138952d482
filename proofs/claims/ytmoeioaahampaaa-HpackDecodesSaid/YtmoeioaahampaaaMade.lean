/-
  The walks of huffman's tables: symbols, counts, and the book that 'made' makes.
-/
import Derived.Test.YtmoeioaahampaaaPlain
import Derived.Test.YtmoeioaahampaaaRows
import Derived.Deep.WholeRow
import Derived.Laws.Rows
import Derived.Laws.Tables
import Derived.Great.BuildSlice
namespace Go.Proofs.Ytmoeioaahampaaa.Hf
open Go.ChangeShapes Go.WideShapes Go.ChangeAt Go.RowKit
open Go.Proofs.Ytmoeioaahampaaa.B
set_option linter.unusedVariables false
set_option linter.unusedSimpArgs false

def symZ : List Int := SYM.map fun (n : Nat) => (n : Int)
def cntZ : List Int := CNT.map fun (n : Nat) => (n : Int)
def symC : Array Value := (symZ.map (Value.int .u16)).toArray
def cntC : Array Value := (cntZ.map (Value.int .i64)).toArray
def symO : Array Value := (List.replicate 257 (Value.int .u16 0)).toArray
def cntO : Array Value := (List.replicate 31 (Value.int .i64 0)).toArray
theorem symC_size : symC.size = 257 := by decide +kernel
theorem cntC_size : cntC.size = 31 := by decide +kernel
theorem symO_size : symO.size = 257 := by decide +kernel
theorem cntO_size : cntO.size = 31 := by decide +kernel
theorem symC_one : symC.all (·.oneCell') = true := by decide +kernel
theorem cntC_one : cntC.all (·.oneCell') = true := by decide +kernel
theorem info_sym : (Try.prog.info? 131).map (fun i => (i.zero, i.size)) = some (some (.agg symO), 257) := by kernel_rfl
theorem info_cnt : (Try.prog.info? 133).map (fun i => (i.zero, i.size)) = some (some (.agg cntO), 31) := by kernel_rfl
theorem sz_sym : (Try.prog.info? 131).map (·.size) = some symC.size := by rw [symC_size]; exact (zero_of_info info_sym).2
theorem sz_cnt : (Try.prog.info? 133).map (·.size) = some cntC.size := by rw [cntC_size]; exact (zero_of_info info_cnt).2

theorem At.row {w : World} {g : Nat} {old : Array Value} {t : TypeId} (h : At w g (.cells old t (0, 0))) (cs : Array Value) : At (w.setRow g cs) g (.cells cs t (0, 0)) := setRow_heap w g old cs t (0, 0) h
theorem At.row_ne {w : World} {b : Nat} {o : Obj} (h : At w b o) {g : Nat} (cs : Array Value) (hn : b ≠ g) : At (w.setRow g cs) b o := by
  unfold At at *; rw [setRow_other w g b cs hn]; exact h
theorem Chg.setRow {l : List Nat} {a b : World} (h : Chg l a b) {g : Nat} (hg : g ∈ l ∨ a.heap.size ≤ g) (cs : Array Value) : Chg l a (b.setRow g cs) :=
  ⟨h.os, h.tape, h.output, Nat.le_trans h.size (by simp [World.setRow]), fun k hk hn => by
    rw [setRow_other b g k cs (fun hc => hg.elim (fun h1 => hn (hc ▸ h1)) (fun h1 => by omega)), h.block k hk hn]⟩

set_option maxRecDepth 100000 in
set_option maxHeartbeats 4000000 in
theorem counts_any (w : World) :
    Calls Try.prog 86 #[] w fun e w' => e = .returned (.agg cntC) ∧ Chg [] w w' := by
  have hz := (zero_of_info info_cnt).1
  go_enter Try.func86, Try.ntmps86
  go_wp2_with (first
    | (refine wpList_buildFlatArrTo rfl 133 3 31 _ rfl .i64 cntZ (some 1) rfl (by kernel_rfl) (by kernel_rfl) (by kernel_rfl) (by kernel_rfl) ?_; rw [show (cntZ.map (Value.int .i64)).toArray = cntC from rfl])
    | (refine wpList_store_rowTo rfl 133 _ _ rfl rfl w.heap.size cntC (by rfl) (by rfl) 133 cntO (heap_alloc_last _ _) sz_cnt (by rw [cntC_size]; decide +kernel) cntC_one ?_; rw [World.setRow_alloc_new]))
  refine bodyPost_ret (v := .agg cntC) ?_ rfl ⟨rfl, (Chg.refl _).alloc _⟩
  exact results_cell_row rfl _ _ w.heap.size 133 cntC (0, 0) _ (by rfl) (heap_alloc_last _ _) Try.underlying133 (by rfl) sz_cnt
set_option maxRecDepth 100000 in
set_option maxHeartbeats 4000000 in
theorem symbols_any (w : World) :
    Calls Try.prog 85 #[] w fun e w' => e = .returned (.agg symC) ∧ Chg [] w w' := by
  have hz := (zero_of_info info_sym).1
  go_enter Try.func85, Try.ntmps85
  go_wp2_with (first
    | (refine wpList_buildFlatArrTo rfl 131 130 257 _ rfl .u16 symZ (some 1) rfl (by kernel_rfl) (by kernel_rfl) (by kernel_rfl) (by kernel_rfl) ?_; rw [show (symZ.map (Value.int .u16)).toArray = symC from rfl])
    | (refine wpList_store_rowTo rfl 131 _ _ rfl rfl w.heap.size symC (by rfl) (by rfl) 131 symO (heap_alloc_last _ _) sz_sym (by rw [symC_size]; decide +kernel) symC_one ?_; rw [World.setRow_alloc_new]))
  refine bodyPost_ret (v := .agg symC) ?_ rfl ⟨rfl, (Chg.refl _).alloc _⟩
  exact results_cell_row rfl _ _ w.heap.size 131 symC (0, 0) _ (by rfl) (heap_alloc_last _ _) Try.underlying131 (by rfl) sz_sym

/-! ### The book -/
def pos (s : Nat) : Nat := ats (len s) + (code s - fst (len s))
theorem tab_pos : (List.range 257).all (fun k => decide (pos (sym k) = k)) = true := by decide +kernel
theorem pos_sym {k : Nat} (h : k < 257) : pos (sym k) = k := of_decide_eq_true (all_lt tab_pos h)
theorem sym_pos {s : Nat} (h : s < 257) : sym (pos s) = s := (of_sym h).2.2.2.2
theorem pos_lt {s : Nat} (h : s < 257) : pos s < 257 := by
  have h1 := of_sym h
  have h2 := (fst_bd (n := len s) (by omega)).2
  unfold pos; omega
def bookC (k : Nat) : Array Value :=
  ((List.range 257).map (fun s => Value.int .u32 ((if pos s < k then code s else 0 : Nat) : Int)) ++ (List.range 257).map (fun s => Value.int .u8 ((if pos s < k then len s else 0 : Nat) : Int))).toArray
def bookO (k : Nat) : Obj := .cells (bookC k) 127 (0, 0)
theorem bookC_size (k : Nat) : (bookC k).size = 514 := by simp [bookC]
theorem bookC_code {k s : Nat} (h : s < 257) : (bookC k)[s]? = some (.int .u32 ((if pos s < k then code s else 0 : Nat) : Int)) := by
  unfold bookC
  rw [List.getElem?_toArray, List.getElem?_append_left (by simpa using h), List.getElem?_map, List.getElem?_range h]; rfl
theorem bookC_len {k s : Nat} (h : s < 257) : (bookC k)[257 + s]? = some (.int .u8 ((if pos s < k then len s else 0 : Nat) : Int)) := by
  unfold bookC
  rw [List.getElem?_toArray, List.getElem?_append_right (by simp), List.getElem?_map]
  simp [List.getElem?_range h]
theorem bookC_next {k : Nat} (h : k < 257) : ((bookC k).setIfInBounds (sym k) (.int .u32 (code (sym k)))).setIfInBounds (257 + sym k) (.int .u8 (len (sym k))) = bookC (k + 1) := by
  have hs := sym_le h
  have hk := pos_sym h
  apply Array.ext_getElem?
  intro i
  have key : ∀ s, s < 257 → s ≠ sym k → (pos s < k + 1 ↔ pos s < k) := fun s hs' hn => by
    have : pos s ≠ k := fun hc => hn (by rw [← hc, sym_pos hs'])
    omega
  rcases Nat.lt_or_ge i 257 with hi | hi
  · rw [Array.getElem?_setIfInBounds_ne (by omega), bookC_code hi]
    by_cases he : i = sym k
    · subst he
      rw [Array.getElem?_setIfInBounds_self_of_lt (by rw [bookC_size]; omega), hk, if_pos (by omega)]
    · rw [Array.getElem?_setIfInBounds_ne (Ne.symm he), bookC_code hi, ite_congr (propext (key i hi he)) (fun _ => rfl) (fun _ => rfl)]
  · obtain ⟨s, rfl⟩ : ∃ s, i = 257 + s := ⟨i - 257, by omega⟩
    rcases Nat.lt_or_ge s 257 with hs2 | hs2
    · rw [bookC_len hs2]
      by_cases he : s = sym k
      · subst he
        rw [Array.getElem?_setIfInBounds_self_of_lt (by rw [Array.size_setIfInBounds, bookC_size]; omega), hk, if_pos (by omega)]
      · rw [Array.getElem?_setIfInBounds_ne (by omega), Array.getElem?_setIfInBounds_ne (by omega), bookC_len hs2, ite_congr (propext (key s hs2 he)) (fun _ => rfl) (fun _ => rfl)]
    · rw [Array.getElem?_eq_none (by rw [Array.size_setIfInBounds, Array.size_setIfInBounds, bookC_size]; omega), Array.getElem?_eq_none (by rw [bookC_size]; omega)]
theorem book_code {s : Nat} (h : s < 257) : (bookC 257)[s]? = some (.int .u32 (code s)) := by rw [bookC_code h, if_pos (pos_lt h)]
theorem book_len {s : Nat} (h : s < 257) : (bookC 257)[257 + s]? = some (.int .u8 (len s)) := by rw [bookC_len h, if_pos (pos_lt h)]
theorem symC_get {k : Nat} (h : k < 257) : symC[k]? = some (.int .u16 (sym k)) := by
  have hl : SYM.length = 257 := by decide +kernel
  have : SYM[k]? = some (sym k) := by
    rw [List.getElem?_eq_getElem (by omega)]; congr 1
    unfold sym; rw [List.getD_eq_getElem?_getD, List.getElem?_eq_getElem (by omega)]; rfl
  unfold symC symZ
  rw [List.getElem?_toArray, List.getElem?_map, List.getElem?_map, this]; rfl
theorem cntC_get {n : Nat} (h : n < 31) : cntC[n]? = some (.int .i64 (cnt n)) := by
  have hl : CNT.length = 31 := by decide +kernel
  have : CNT[n]? = some (cnt n) := by
    rw [List.getElem?_eq_getElem (by omega)]; congr 1
    unfold cnt; rw [List.getD_eq_getElem?_getD, List.getElem?_eq_getElem (by omega)]; rfl
  unfold cntC cntZ
  rw [List.getElem?_toArray, List.getElem?_map, List.getElem?_map, this]; rfl
theorem info_book : (Try.prog.info? 127).map (fun i => (i.zero, i.size)) = some (some (.agg (bookC 0)), 514) := by kernel_rfl

def pre (n : Nat) : Nat := if n = 0 then 0 else fse (n - 1)
def atE (n : Nat) : Nat := if n = 0 then 0 else ats (n - 1) + cnt (n - 1)
theorem tab_pre : (List.range 31).all (fun n => decide (fst n = 2 * pre n ∧ atE n = ats n ∧ pre n ≤ 536870912 ∧ fst n + cnt n ≤ 1073741824)) = true := by decide +kernel
theorem pre_fst {n : Nat} (h : n < 31) : fst n = 2 * pre n ∧ atE n = ats n ∧ pre n ≤ 536870912 ∧ fst n + cnt n ≤ 1073741824 := of_decide_eq_true (all_lt tab_pre h)
theorem atE_end : atE 31 = 257 := by decide +kernel

set_option maxRecDepth 100000 in
set_option maxHeartbeats 4000000 in
theorem made_any (w : World) :
    Calls Try.prog 82 #[] w fun e w' => ∃ b, e = .returned (.pointer (some ⟨b, 0, none⟩)) ∧ w.heap.size ≤ b ∧ Chg [] w w' ∧ At w' b (bookO 257) := by
  go_enter Try.func82, Try.ntmps82
  have hz1 := (zero_of_info info_book).1
  have hz2 := (zero_of_info info_sym).1
  have hz3 := (zero_of_info info_cnt).1
  go_wp2_with fail
  refine (symbols_any _).mono ?_; rintro e w1 ⟨rfl, h1⟩
  have a1 : At w1 w.heap.size (bookO 0) := At.chg (At.new w (.cells (bookC 0) 127)) h1 (by simp)
  have c1 : Chg [] w w1 := ((Chg.refl w).alloc (l := []) (.cells (bookC 0) 127)).trans' h1
  clear h1
  go_wp2_with fail
  refine (counts_any _).mono ?_; rintro e w2 ⟨rfl, h2⟩
  have a2 := a1.chg h2 (by simp)
  have c2 := c1.trans' h2
  clear h2 a1 c1
  have lt2 : w.heap.size < w2.heap.size := a2.lt
  have b2 : At ((w2.alloc (.cells symO 131)).alloc (.cells cntO 133)) w2.heap.size (.cells symO 131 (0, 0)) := At.alloc (At.new _ _) _
  have d2 : At ((w2.alloc (.cells symO 131)).alloc (.cells cntO 133)) (w2.heap.size + 1) (.cells cntO 133 (0, 0)) := At.new' (by simp)
  have a3 := At.row_ne (At.row_ne ((a2.alloc (.cells symO 131)).alloc (.cells cntO 133)) (g := w2.heap.size) symC (by omega)) (g := w2.heap.size + 1) cntC (by omega)
  have b3 := At.row_ne (At.row b2 symC) (g := w2.heap.size + 1) cntC (by omega)
  have d3 := At.row (At.row_ne d2 (g := w2.heap.size) symC (by omega)) cntC
  have c3 := Chg.setRow (Chg.setRow ((c2.alloc (.cells symO 131)).alloc (.cells cntO 133)) (g := w2.heap.size) (Or.inr (by omega)) symC) (g := w2.heap.size + 1) (Or.inr (by omega)) cntC
  have HB2 := Lib.hid b2; have HD2 := Lib.hid (At.row_ne d2 (g := w2.heap.size) symC (by omega))
  clear a2 c2 b2 d2
  go_wp2_with (first
    | (refine wpList_store_rowTo rfl 131 _ _ rfl rfl w2.heap.size symC (by rfl) (by rfl) 131 symO HB2.out sz_sym (by rw [symC_size, symO_size]) symC_one ?_)
    | (refine wpList_store_rowTo rfl 133 _ _ rfl rfl (w2.heap.size + 1) cntC (by rfl) (by rfl) 133 cntO HD2.out sz_cnt (by rw [cntC_size, cntO_size]) cntC_one ?_))
  clear HB2 HD2
  generalize (((w2.alloc (.cells symO 131)).alloc (.cells cntO 133)).setRow w2.heap.size symC).setRow (w2.heap.size + 1) cntC = w3 at *
  have hwb : w.heap.size ≤ w.heap.size := Nat.le_refl _
  have l12 : w2.heap.size < w2.heap.size + 1 := by omega
  generalize w2.heap.size + 1 = B2 at *
  generalize w2.heap.size = B1 at *
  generalize hB0 : w.heap.size = B0 at a3 lt2 hwb ⊢
  have HB0 := Lib.hid hB0
  clear hB0
  have n01 : ¬ B0 = B1 := by omega
  have n10 : ¬ B1 = B0 := by omega
  have n02 : ¬ B0 = B2 := by omega
  have n20 : ¬ B2 = B0 := by omega
  go_loopw [4, 5, 12] (fun nx av nv wr => ∃ n : Nat, n ≤ 31 ∧ nv = .int .i64 n ∧ nx = .int .u32 (pre n) ∧ av = .int .i64 (atE n) ∧ At wr B0 (bookO (atE n)) ∧ At wr B1 (.cells symC 131 (0, 0)) ∧ At wr B2 (.cells cntC 133 (0, 0)) ∧ Chg [] w wr) (fun _ _ nv _ => 31 - (intOf nv).toNat)
  case atStart => exact ⟨0, by omega, rfl, rfl, rfl, a3, b3, d3, c3⟩
  case round =>
    clear a3 b3 d3 c3
    obtain ⟨n, hn, rfl, rfl, rfl, a3, b3, d3, c3⟩ := hrel
    by_cases hlt : n < 31
    · have q0 := d3.cell (cntC_get hlt)
      obtain ⟨p1, p2, p3, p4⟩ := pre_fst hlt
      have HA3 := Lib.hid a3; have HB3 := Lib.hid b3; have HD3 := Lib.hid d3; have HC3 := Lib.hid c3; have HP1 := Lib.hid p1; have HP2 := Lib.hid p2
      clear a3 b3 d3 c3 p1 p2
      go_wp2_with fail
      go_loopw [4, 5, 20] (fun nx av jv wr => ∃ i K X : Nat, i ≤ cnt n ∧ K = ats n + i ∧ X = fst n + i ∧ jv = .int .i64 i ∧ nx = .int .u32 X ∧ av = .int .i64 K ∧ At wr B0 (bookO K) ∧ At wr B1 (.cells symC 131 (0, 0)) ∧ At wr B2 (.cells cntC 133 (0, 0)) ∧ Chg [] w wr) (fun _ _ jv _ => cnt n - (intOf jv).toNat)
      case atStart => exact ⟨0, ats n, fst n, by omega, rfl, rfl, rfl, by rw [HP1.out]; congr 1; omega, by rw [HP2.out], by rw [← HP2.out]; exact HA3.out, HB3.out, HD3.out, HC3.out⟩
      case round =>
        clear HA3 HB3 HD3 HC3 q0
        obtain ⟨i, K, X, hi, hK, hX, rfl, rfl, rfl, a3, b3, d3, c3⟩ := hrel
        by_cases hic : i < cnt n
        · have hats := (fst_bd (n := n) hlt).2
          have hK7 : K < 257 := by omega
          have hat := at_sym hlt hic
          have q1 := b3.cell (symC_get hK7)
          have hsle := sym_le hK7
          have hnext := bookC_next hK7
          obtain ⟨s, hs⟩ : ∃ s, s = sym K := ⟨_, rfl⟩
          have hc : code s = X := by rw [hs, hK, hat.2, hX]
          have hl : len s = n := by rw [hs, hK, hat.1]
          rw [← hs] at q1 hsle hnext
          rw [hc, hl] at hnext
          have hs7 : s < 257 := by omega
          have e0 : wr.cell? ⟨B0, s, none⟩ = some (.int .u32 ((if pos s < K then code s else 0 : Nat) : Int)) := a3.cell (bookC_code hs7)
          have e1 : wr.cell? ⟨B0, 257 + s, none⟩ = some (.int .u8 ((if pos s < K then len s else 0 : Nat) : Int)) := a3.cell (bookC_len hs7)
          obtain ⟨y0, hy0⟩ : ∃ y, y = Value.int .u32 ((if pos s < K then code s else 0 : Nat) : Int) := ⟨_, rfl⟩
          obtain ⟨y1, hy1⟩ : ∃ y, y = Value.int .u8 ((if pos s < K then len s else 0 : Nat) : Int) := ⟨_, rfl⟩
          rw [← hy0] at e0
          rw [← hy1] at e1
          have ef : ∀ j, wr.frozen? ⟨B0, j, none⟩ = false := fun j => a3.free j
          have hX1 : X < 1073741824 := by omega
          have HA3 := Lib.hid a3; have HB3 := Lib.hid b3; have HD3 := Lib.hid d3; have HC3 := Lib.hid c3; have HK := Lib.hid hK; have HX := Lib.hid hX; have HN := Lib.hid hnext
          clear a3 b3 d3 c3 hat hc hl hs hnext hK hX hy0 hy1
          go_wp2_with fail
          go_region
          all_goals go_wp2_with fail
          all_goals go_roundw
          case rel =>
            refine ⟨i + 1, K + 1, X + 1, by omega, by rw [HK.out]; omega, by rw [HX.out]; omega, by go_num, by go_num, by go_num, ?_, ?_, ?_, ?_⟩
            · have h1 := ((HA3.out.set s (.int .u32 X)).set (257 + s) (.int .u8 n)).drew
              rw [show (((bookC K).setIfInBounds s (.int .u32 X)).setIfInBounds (257 + s) (.int .u8 n)) = bookC (K + 1) from HN.out] at h1
              exact h1
            · exact ((HB3.out.set_ne (p := ⟨B0, s, none⟩) n10 _).set_ne (p := ⟨B0, 257 + s, none⟩) n10 _).drew
            · exact ((HD3.out.set_ne (p := ⟨B0, s, none⟩) n20 _).set_ne (p := ⟨B0, 257 + s, none⟩) n20 _).drew
            · exact ((HC3.out.setCell (p := ⟨B0, s, none⟩) (Or.inr (by have := HB0.out; dsimp only; omega)) _).setCell (p := ⟨B0, 257 + s, none⟩) (Or.inr (by have := HB0.out; dsimp only; omega)) _).drew
          case measure => simp [intOf]; omega
        · go_wp2_with fail
          go_roundw
          case rel =>
            have hpre : pre (n + 1) = fse n := by simp [pre]
            have hatE : atE (n + 1) = ats n + cnt n := by simp [atE]
            obtain rfl : i = cnt n := by omega
            refine ⟨n + 1, by omega, by go_num, by rw [hpre, hX]; rfl, by rw [hatE, hK], by rw [hatE, ← hK]; exact a3, b3, d3, c3⟩
          case measure => simp [intOf]; omega
    · obtain rfl : n = 31 := by omega
      rw [atE_end] at a3 ⊢
      go_wp2_with fail
      go_ret
      exact ⟨B0, rfl, by rw [HB0.out]; exact Nat.le_refl _, c3, a3⟩
end Go.Proofs.Ytmoeioaahampaaa.Hf
