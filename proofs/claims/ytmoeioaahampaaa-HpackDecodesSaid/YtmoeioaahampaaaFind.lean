/-
  The walk of Find.
-/
import Derived.Test.YtmoeioaahampaaaTab4
namespace Go.Proofs.Ytmoeioaahampaaa.Tb
open Go.ChangeShapes Go.WideShapes Go.ChangeAt Go.RowKit
open Go.Proofs.Ytmoeioaahampaaa.B
set_option linter.unusedVariables false
set_option linter.unusedSimpArgs false
attribute [local go_sem] eq_field

theorem ix_stat {k : Nat} {x : Fd} (h : STAT[k]? = some x) (w : World) : (Instr.index 99 (.agg statC) (.int .i64 (k : Int))).run Try.prog w = .ok (.agg #[.string x.n, .string x.v, .bool x.nv]) w := by
  have hk : k < 61 := by have := (List.getElem?_eq_some_iff.1 h).1; rwa [STAT_len] at this
  obtain ⟨g0, g1, g2⟩ := statC_get h
  have hx : statC.extract (k * 3) (k * 3 + 3) = #[.string x.n, .string x.v, .bool x.nv] := by
    apply Array.ext_getElem?
    intro i
    rw [Array.getElem?_extract]
    match i with
    | 0 => rw [if_pos (by rw [statC_size]; omega), Nat.add_zero, g0]; rfl
    | 1 => rw [if_pos (by rw [statC_size]; omega), g1]; rfl
    | 2 => rw [if_pos (by rw [statC_size]; omega), g2]; rfl
    | i + 3 => rw [if_neg (by omega)]; rfl
  have h1 : (0 : Int) ≤ (k : Int) ∧ (k : Int) < ((61 : Nat) : Int) := by omega
  have hs : ∀ w, (sizeOf 44).run Try.prog w = .ok 3 w := fun w => by first | exact Try.sizeOf44 w | kernel_rfl
  have ha : ∀ w, (isAgg 44).run Try.prog w = .ok true w := fun w => by first | exact Try.isAgg44 w | kernel_rfl
  unfold Instr.index
  simp only [asIntOf, Sem.run_bind, Sem.run_pure, Result.andThen_ok, run_underlying Try.underlying99, if_pos h1, hs, part, ha, if_true, Int.toNat_natCast, hx]
/-- The least index of a field of this name; 0: there is none. -/
def nm (f : Fd) (l : List Fd) : Nat := match l.findIdx? (fun x => decide (x.n = f.n)) with | some i => i + 1 | none => 0
def findR (es : List Fd) (f : Fd) : Nat × Bool := match (allF es).findIdx? (fun x => decide (x = f.un)) with | some i => (i + 1, true) | none => (nm f (allF es), false)
theorem findIdx_take {p : Fd → Bool} {l : List Fd} {k : Nat} {x : Fd} (h : l[k]? = some x) : (l.take (k + 1)).findIdx? p = match (l.take k).findIdx? p with | some i => some i | none => if p x = true then some k else none := by
  obtain ⟨hk, rfl⟩ := List.getElem?_eq_some_iff.1 h
  rw [List.take_succ_eq_append_getElem hk, List.findIdx?_append]
  have hl : (l.take k).length = k := by simp; omega
  cases hq : (l.take k).findIdx? p with
  | some i => simp
  | none => cases hp : p l[k] <;> simp [List.findIdx?_cons, hp, hl]
theorem nm_succ {f : Fd} {l : List Fd} {k : Nat} {x : Fd} (h : l[k]? = some x) : nm f (l.take (k + 1)) = if x.n = f.n ∧ nm f (l.take k) = 0 then k + 1 else nm f (l.take k) := by
  unfold nm
  rw [findIdx_take h]
  cases hq : (l.take k).findIdx? (fun x => decide (x.n = f.n)) with
  | some i => simp
  | none =>
    by_cases hx : x.n = f.n
    · simp [hx]
    · simp [hx]
theorem nm_le (f : Fd) (l : List Fd) : nm f l ≤ l.length := by
  unfold nm
  cases hq : l.findIdx? (fun x => decide (x.n = f.n)) with
  | none => exact Nat.zero_le _
  | some i => have := (List.findIdx?_eq_some_iff_getElem.1 hq).1; simp; omega
theorem findR_hit {es : List Fd} {f x : Fd} {k : Nat} (h : (allF es)[k]? = some x) (hx : x = f.un) (hn : ∀ j y, j < k → (allF es)[j]? = some y → y ≠ f.un) : findR es f = (k + 1, true) := by
  unfold findR
  have : (allF es).findIdx? (fun x => decide (x = f.un)) = some k := by
    obtain ⟨hk, hk2⟩ := List.getElem?_eq_some_iff.1 h
    rw [List.findIdx?_eq_some_iff_getElem]
    refine ⟨hk, by rw [hk2, hx]; simp, fun j hj => ?_⟩
    have := hn j _ hj (List.getElem?_eq_getElem (by omega))
    simpa using this
  rw [this]
theorem findR_miss {es : List Fd} {f : Fd} (hn : ∀ (j : Nat) (y : Fd), (allF es)[j]? = some y → y ≠ f.un) : findR es f = (nm f (allF es), false) := by
  unfold findR
  have : (allF es).findIdx? (fun x => decide (x = f.un)) = none := by
    rw [List.findIdx?_eq_none_iff]
    intro x hx
    obtain ⟨j, hj⟩ := List.getElem?_of_mem hx
    simpa using hn j x hj
  rw [this]
theorem allF_low {es : List Fd} {k : Nat} (h : k < 61) : (allF es)[k]? = STAT[k]? := by
  unfold allF; rw [List.getElem?_append_left (by rw [STAT_len]; exact h)]
theorem allF_nv {es : List Fd} (h : ∀ e ∈ es, e.nv = false) : ∀ e ∈ allF es, e.nv = false := by
  intro e he
  rcases List.mem_append.1 he with he | he
  · exact STAT_nv e he
  · exact h e (List.mem_reverse.1 he)
theorem ret_ib {k : IntKind} {a b : Int} {c d : Bool} (h : a = b) (h' : c = d) : Ending.returned (.tuple #[.int k a, .bool c]) = .returned (.tuple #[.int k b, .bool d]) := by rw [h, h']
theorem fd_eq {x f : Fd} (hn : x.n = f.n) (hv : x.v = f.v) (hb : x.nv = false) : x = f.un := by
  obtain ⟨a, b, c⟩ := x
  obtain ⟨d, e, g⟩ := f
  simp only at hn hv hb
  subst hn; subst hv; subst hb; rfl
theorem str_ne {a b : ByteArray} (h : ¬ a = b) : (a.toList = b.toList) = False := by
  have := beq_str a b
  rw [decide_eq_false h] at this
  simpa using this
set_option maxRecDepth 100000 in
set_option maxHeartbeats 8000000 in
theorem find_any {w : World} {base p : Nat} {sv : Value} {m : Nat} {es : List Fd} (f : Fd) (h : TT w base p sv m es) (hi : Inv m es) :
    Calls Try.prog 43 #[.pointer (some ⟨p, 0, none⟩), .agg (aF f)] w fun e w' => e = .returned (.tuple #[.int .i64 (findR es f).1, .bool (findR es f).2]) ∧ Chg [] w w' := by
  obtain ⟨a, cap, rfl, hcap, hcapm⟩ := h.row.slice
  have hlen := h.len
  have hh := h.head
  have hpw := hh.lt
  have hsl := OwnF.sl h.row
  obtain ⟨B, hB⟩ : ∃ B, B = w.heap.size := ⟨_, rfl⟩
  have hnv := allF_nv hi.nv
  have hL := allF_len es
  obtain ⟨L, hLL⟩ : ∃ L, L = allF es := ⟨_, rfl⟩
  rw [← hLL] at hnv hL
  have HS := Lib.hid hsl; have HD := Lib.hid hh; have HB := Lib.hid hB; have HNV := Lib.hid hnv; have HL := Lib.hid hL; have HLL := Lib.hid hLL
  clear h hh hsl hi hB hnv hL hLL
  unfold aF
  go_enter Try.func43, Try.ntmps43
  go_wp2_with fail
  refine (fixed_any _).mono ?_; rintro e w1 ⟨rfl, h1⟩
  have hc1 : Chg [] w w1 := ((Chg.refl w).alloc _).trans' h1
  have hb1 := (At.new w (.cells #[.string f.n, .string f.v, .bool false] 44)).chg h1 (by simp)
  rw [← HB.out] at hb1 ⊢
  have HC1 := Lib.hid hc1; have HB1 := Lib.hid hb1
  clear hc1 hb1 h1
  go_wp2_with fail
  go_loopw [6, 13] (fun mv iv wr => ∃ k N : Nat, k ≤ 61 ∧ iv = .int .i64 k ∧ N = nm f (L.take k) ∧ mv = .int .i64 N ∧ (∀ j y, j < k → L[j]? = some y → y ≠ f.un) ∧ At wr B (.cells #[.string f.n, .string f.v, .bool false] 44 (0, 0)) ∧ Chg [] w wr) (fun _ iv _ => 61 - (intOf iv).toNat)
  case atStart => exact ⟨0, 0, by omega, rfl, by simp [nm], rfl, by intro j y hj; omega, HB1.out, HC1.out⟩
  case round =>
    clear HB1 HC1
    obtain ⟨k, N, hk, rfl, hN, rfl, hno, hb, hch⟩ := hrel
    have hNk : N ≤ 2109 := by rw [hN]; have := nm_le f (L.take k); have := HL.out; simp at *; omega
    have b0 := hb.cell (o := 0) rfl
    have b1 := hb.cell (o := 1) rfl
    have b2 := hb.cell (o := 2) rfl
    have hbl := hb.lt
    have HN := Lib.hid hN; have HNO := Lib.hid hno; have HB2 := Lib.hid hb; have HCH := Lib.hid hch
    clear hN hno hb hch
    by_cases hlt : k < 61
    · obtain ⟨x, hx⟩ : ∃ x, STAT[k]? = some x := ⟨_, List.getElem?_eq_getElem (by rw [STAT_len]; exact hlt)⟩
      have hxL : L[k]? = some x := by rw [HLL.out, allF_low hlt]; exact hx
      have hix := ix_stat hx
      have hxnv : x.nv = false := HNV.out x (List.mem_of_getElem? hxL)
      rw [hxnv] at hix
      have HX := Lib.hid hxL; have HXN := Lib.hid hxnv
      clear hx hxL hxnv
      by_cases hxn : x.n = f.n
      · have e1 : (x.n.toList = f.n.toList) = True := by rw [hxn]; simp
        have e1b : (x.n.toList == f.n.toList) = true := by rw [hxn]; simp
        by_cases hxv : x.v = f.v
        · have e2 : (x.v.toList = f.v.toList) = True := by rw [hxv]; simp
          have heq : x = f.un := fd_eq hxn hxv HXN.out
          have hR : findR es f = (k + 1, true) := findR_hit (by rw [← HLL.out]; exact HX.out) heq (by rw [← HLL.out]; exact HNO.out)
          have HR := Lib.hid hR
          clear heq hR hxn hxv
          go_wp2_with fail
          go_ret2
          rw [HR.out]
          exact ⟨rfl, HCH.out.alloc _⟩
        · have e2 : (x.v.toList = f.v.toList) = False := str_ne hxv
          have hno2 : ∀ j y, j < k + 1 → L[j]? = some y → y ≠ f.un := fun j y hj hy => by
            rcases Nat.lt_or_ge j k with h1 | h1
            · exact HNO.out j y h1 hy
            · obtain rfl : j = k := by omega
              rw [HX.out] at hy; rw [← Option.some.inj hy]; exact fun hc => hxv (by rw [hc]; rfl)
          have hns := nm_succ (f := f) HX.out
          rw [← HN.out] at hns
          by_cases hN0 : N = 0
          · rw [if_pos ⟨hxn, hN0⟩] at hns
            subst hN0
            have HNO2 := Lib.hid hno2; have HNS := Lib.hid hns
            clear hno2 hns hxn hxv
            go_wp2_with fail
            go_roundw
            case rel => exact ⟨k + 1, k + 1, by omega, by go_num, HNS.out.symm, by go_num, HNO2.out, HB2.out.alloc _, HCH.out.alloc _⟩
            case measure => simp [intOf]; omega
          · rw [if_neg (by omega)] at hns
            have hN0b : ((N : Int) == 0) = false := by simp; omega
            have HNO2 := Lib.hid hno2; have HNS := Lib.hid hns
            clear hno2 hns hxn hxv hN0
            go_wp2_with fail
            go_roundw
            case rel => exact ⟨k + 1, N, by omega, by go_num, HNS.out.symm, by go_num, HNO2.out, HB2.out.alloc _, HCH.out.alloc _⟩
            case measure => simp [intOf]; omega
      · have e1 : (x.n.toList = f.n.toList) = False := str_ne hxn
        have e1b : (x.n.toList == f.n.toList) = false := by rw [beq_str]; simpa using hxn
        have hno2 : ∀ j y, j < k + 1 → L[j]? = some y → y ≠ f.un := fun j y hj hy => by
          rcases Nat.lt_or_ge j k with h1 | h1
          · exact HNO.out j y h1 hy
          · obtain rfl : j = k := by omega
            rw [HX.out] at hy; rw [← Option.some.inj hy]; exact fun hc => hxn (by rw [hc]; rfl)
        have hns := nm_succ (f := f) HX.out
        rw [← HN.out, if_neg (fun hc => hxn hc.1)] at hns
        have HNO2 := Lib.hid hno2; have HNS := Lib.hid hns
        clear hno2 hns hxn
        go_wp2_with fail
        go_roundw
        case rel => exact ⟨k + 1, N, by omega, by go_num, HNS.out.symm, by go_num, HNO2.out, HB2.out.alloc _, HCH.out.alloc _⟩
        case measure => simp [intOf]; omega
    · obtain rfl : k = 61 := by omega
      have hh2 := HD.out.chg HCH.out (by simp)
      have q0 := hh2.cell (o := 0) rfl
      have hpw2 := hh2.lt
      have HD2 := Lib.hid hh2; have HNO3 := HNO; have HN3 := HN
      clear hh2 hk hlt
      go_wp2_with fail
      clear q0 hpw2 b0 b1 b2 hbl
      go_loopw [6, 39] (fun mv iv wt => ∃ i N : Nat, i ≤ es.length ∧ iv = .int .i64 i ∧ N = nm f (L.take (61 + i)) ∧ mv = .int .i64 N ∧ (∀ j y, j < 61 + i → L[j]? = some y → y ≠ f.un) ∧ At wt B (.cells #[.string f.n, .string f.v, .bool false] 44 (0, 0)) ∧ Chg [] w wt) (fun _ iv _ => es.length - (intOf iv).toNat)
      case atStart => exact ⟨0, N, by omega, rfl, HN3.out, rfl, HNO3.out, HB2.out, HCH.out⟩
      case round =>
        clear HNO HN HB2 HCH HNO3 HN3 hNk HD2
        obtain ⟨i, N, hik, rfl, hN, rfl, hno, hb, hch⟩ := hrel
        have hNk : N ≤ 2109 := by rw [hN]; have := nm_le f (L.take (61 + i)); have := HL.out; simp at *; omega
        have b0 := hb.cell (o := 0) rfl
        have b1 := hb.cell (o := 1) rfl
        have b2 := hb.cell (o := 2) rfl
        have hbl := hb.lt
        have hh2 := HD.out.chg hch (by simp)
        have q0 := hh2.cell (o := 0) rfl
        have hpw2 := hh2.lt
        by_cases hlt : i < es.length
        · obtain ⟨x, hx⟩ : ∃ x, es[es.length - 1 - i]? = some x := ⟨_, List.getElem?_eq_getElem (by omega)⟩
          have hxL : L[61 + i]? = some x := by rw [HLL.out]; exact allF_get hx hlt
          have hxnv : x.nv = false := HNV.out x (List.mem_of_getElem? hxL)
          obtain ⟨b, off, rfl, hbw, hcell⟩ := HS.out.cells (by omega)
          obtain ⟨c0, c1, c2⟩ := hcell _ _ hx
          obtain ⟨j, hj⟩ : ∃ j, j = es.length - 1 - i := ⟨_, rfl⟩
          rw [← hj] at c0 c1 c2
          rw [hxnv] at c2
          rw [← hch.cell hbw (by simp)] at c0 c1 c2
          have hbl2 : b < wr.heap.size := Nat.lt_of_lt_of_le hbw hch.size
          have hj0 : (0 : Int) ≤ (j : Int) := by omega
          have hj1 : (j : Int) < (es.length : Int) := by omega
          have hw1 : IntKind.i64.wrap ((es.length : Int) - 1) = (es.length : Int) - 1 := by rw [IntKind.wrap_i64]; omega
          have hw2 : IntKind.i64.wrap ((es.length : Int) - 1 - (i : Int)) = (j : Int) := by rw [IntKind.wrap_i64]; omega
          have hidx : (es.length : Int) - 1 - (i : Int) = (j : Int) := by omega
          have hjl : j < es.length := by omega
          have HX := Lib.hid hxL; have HXN := Lib.hid hxnv; have HJ := Lib.hid hj
          have HN := Lib.hid hN; have HNO := Lib.hid hno; have HB2 := Lib.hid hb; have HCH := Lib.hid hch; have HD2 := Lib.hid hh2
          clear hx hxL hxnv hcell hj hN hno hb hch hh2
          by_cases hxn : x.n = f.n
          · have e1 : (x.n.toList = f.n.toList) = True := by rw [hxn]; simp
            have e1b : (x.n.toList == f.n.toList) = true := by rw [hxn]; simp
            by_cases hxv : x.v = f.v
            · have e2 : (x.v.toList = f.v.toList) = True := by rw [hxv]; simp
              have heq : x = f.un := fd_eq hxn hxv HXN.out
              have hR : findR es f = (61 + i + 1, true) := findR_hit (by rw [← HLL.out]; exact HX.out) heq (by rw [← HLL.out]; exact HNO.out)
              have HR := Lib.hid hR
              clear heq hR hxn hxv
              go_wp2_with fail
              go_region
              all_goals
                go_wp2_with fail
                go_ret2
                rw [HR.out]
                exact ⟨ret_ib (by omega) rfl, (HCH.out.alloc _).drew⟩
            · have e2 : (x.v.toList = f.v.toList) = False := str_ne hxv
              have hno2 : ∀ j y, j < 61 + i + 1 → L[j]? = some y → y ≠ f.un := fun j y hj hy => by
                rcases Nat.lt_or_ge j (61 + i) with h1 | h1
                · exact HNO.out j y h1 hy
                · obtain rfl : j = 61 + i := by omega
                  rw [HX.out] at hy; rw [← Option.some.inj hy]; exact fun hc => hxv (by rw [hc]; rfl)
              have hns := nm_succ (f := f) HX.out
              rw [← HN.out] at hns
              by_cases hN0 : N = 0
              · rw [if_pos ⟨hxn, hN0⟩] at hns
                subst hN0
                have HNO2 := Lib.hid hno2; have HNS := Lib.hid hns
                clear hno2 hns hxn hxv
                go_wp2_with fail
                go_region
                all_goals
                  go_wp2_with fail
                  go_roundw
                  case rel => exact ⟨i + 1, 61 + i + 1, by omega, by go_num, HNS.out.symm, by first | go_num | (congr 1; omega), HNO2.out, (HB2.out.alloc _).drew, (HCH.out.alloc _).drew⟩
                  case measure => simp [intOf]; omega
              · rw [if_neg (by omega)] at hns
                have hN0b : ((N : Int) == 0) = false := by simp; omega
                have HNO2 := Lib.hid hno2; have HNS := Lib.hid hns
                clear hno2 hns hxn hxv hN0
                go_wp2_with fail
                go_region
                all_goals
                  go_wp2_with fail
                  go_roundw
                  case rel => exact ⟨i + 1, N, by omega, by go_num, HNS.out.symm, by go_num, HNO2.out, (HB2.out.alloc _).drew, (HCH.out.alloc _).drew⟩
                  case measure => simp [intOf]; omega
          · have e1 : (x.n.toList = f.n.toList) = False := str_ne hxn
            have e1b : (x.n.toList == f.n.toList) = false := by rw [beq_str]; simpa using hxn
            have hno2 : ∀ j y, j < 61 + i + 1 → L[j]? = some y → y ≠ f.un := fun j y hj hy => by
              rcases Nat.lt_or_ge j (61 + i) with h1 | h1
              · exact HNO.out j y h1 hy
              · obtain rfl : j = 61 + i := by omega
                rw [HX.out] at hy; rw [← Option.some.inj hy]; exact fun hc => hxn (by rw [hc]; rfl)
            have hns := nm_succ (f := f) HX.out
            rw [← HN.out, if_neg (fun hc => hxn hc.1)] at hns
            have HNO2 := Lib.hid hno2; have HNS := Lib.hid hns
            clear hno2 hns hxn
            go_wp2_with fail
            go_region
            all_goals
              go_wp2_with fail
              go_roundw
              case rel => exact ⟨i + 1, N, by omega, by go_num, HNS.out.symm, by go_num, HNO2.out, (HB2.out.alloc _).drew, (HCH.out.alloc _).drew⟩
              case measure => simp [intOf]; omega
        · obtain rfl : i = es.length := by omega
          have hR : findR es f = (N, false) := by
            rw [findR_miss (fun j y hy => hno j y (by have := (List.getElem?_eq_some_iff.1 hy).1; rw [allF_len] at this; exact this) (by rw [HLL.out]; exact hy)), hN, ← HLL.out, List.take_of_length_le (by have := HL.out; omega)]
          have HR := Lib.hid hR; have HCH := Lib.hid hch
          clear hR hN hno hb hch hh2
          go_wp2_with fail
          go_ret2
          rw [HR.out]
          exact ⟨rfl, HCH.out⟩
end Go.Proofs.Ytmoeioaahampaaa.Tb
