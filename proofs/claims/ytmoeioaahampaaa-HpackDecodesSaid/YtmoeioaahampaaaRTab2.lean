/-
  The document's table: At, Find, Clone.
-/
import Derived.Test.YtmoeioaahampaaaRTab
import Derived.Test.YtmoeioaahampaaaNew
namespace Go.Proofs.Ytmoeioaahampaaa.Tb
open Go.ChangeShapes Go.WideShapes Go.ChangeAt Go.RowKit
open Go.Proofs.Ytmoeioaahampaaa.B
set_option linter.unusedVariables false
set_option linter.unusedSimpArgs false

theorem own_stat (w : World) {base : Nat} (hb : base ≤ w.heap.size) : OwnF (w.alloc (.cells statC 44)) base (.slice (some ⟨w.heap.size, 0, none⟩) 61 61) STAT := by
  refine ⟨by decide +kernel, Or.inr ⟨w.heap.size, 61, statC, ?_, hb, ?_, ?_, by simp [maxLen], statC_size, ?_⟩⟩
  · rw [STAT_len]
  · exact At.new w _
  · rw [STAT_len]; exact Nat.le_refl _
  · show List.take _ (STAT.flatMap encF).toArray.toList = _
    rw [List.toList_toArray]
    exact List.take_of_length_le (by rw [flat_len encF_len]; exact Nat.le_refl _)
theorem OwnR.none {α : Type} {e : TypeId} {size : Nat} {enc : α → List Value} {w : World} {base : Nat} (hb : base ≤ w.heap.size) : OwnR e size enc (w.alloc (.cells #[] e)) base (.slice (some ⟨w.heap.size, 0, Option.none⟩) 0 0) ([] : List α) := by
  refine ⟨by simp, Or.inr ⟨w.heap.size, 0, #[], rfl, hb, ?_, Nat.le_refl _, by simp [maxLen], by simp, by simp⟩⟩
  exact At.new w _
theorem atR_in {es : List Fd} {k : Nat} {f : Fd} (h : (allF es)[k]? = some f) : atR es ((k : Int) + 1) = (f, true) := by
  unfold atR atL
  have hk := (List.getElem?_eq_some_iff.1 h).1
  rw [if_pos (by omega), List.getD_eq_getElem?_getD, show ((k : Int) + 1).toNat - 1 = k by omega, h]; rfl
def ZF : Obj := .cells #[.string ⟨#[]⟩, .string ⟨#[]⟩, .bool false] 44 (0, 0)
set_option maxRecDepth 100000 in
set_option maxHeartbeats 4000000 in
theorem rat_any {w : World} {base p : Nat} {sv : Value} {m : Nat} {es : List Fd} (i : Int) (h : RT w base p sv m es.reverse) :
    Calls Try.prog 76 #[.pointer (some ⟨p, 0, none⟩), .int .i64 i] w fun e w' => e = .returned (.tuple #[.agg (aF (atR es i).1), .bool (atR es i).2]) ∧ Chg [] w w' := by
  skip
  obtain ⟨a0, cap0, rfl, hcA, hcB⟩ := h.row.len
  have hlen := h.len
  rw [List.length_reverse] at hlen h hcA
  have HT := Lib.hid h
  clear h
  go_enter Try.func76, Try.ntmps76
  go_wp2_with fail
  skip
  have hsz : ∀ o, (w.alloc o).heap.size = w.heap.size + 1 := fun o => by simp
  refine (statics_any _).mono ?_; rintro e w2 ⟨rfl, h2⟩
  have hc2 : Chg [] w w2 := by rw [h2]; exact ((Chg.refl w).alloc _).alloc _
  have ho2 : OwnF w2 (w.heap.size + 1) (.slice (some ⟨w.heap.size + 1, 0, none⟩) 61 61) STAT := by
    have := own_stat (w.alloc ZF) (base := w.heap.size + 1) (by simp)
    rw [hsz] at this
    rw [h2]; exact this
  have hx2 : At w2 w.heap.size ZF := by rw [h2]; exact (At.new w _).alloc _
  have hT2 := HT.out.chg0 hc2
  have d0 : World.cell? w2 ⟨p, 0, none⟩ = some (.slice a0 es.length cap0) := hT2.head.cell rfl
  have hs2 : w.heap.size + 1 ≤ w2.heap.size := by rw [h2]; simp
  have HC2 := Lib.hid hc2; have HO2 := Lib.hid ho2; have HX2 := Lib.hid hx2; have HT2 := Lib.hid hT2
  clear h2 hc2 ho2 hx2 hT2
  rw [hsz]
  go_wp2_with (at_builtin; refine app_row encF_len encF_one 26 Try.underlying26 infoF (by decide) (by omega) rfl _ _ rfl (w.heap.size + 1) (.slice (some ⟨w.heap.size + 1, 0, none⟩) 61 61) STAT rfl HO2.out _ _ rfl HT2.out.row (by rw [STAT_len, List.length_reverse]; simp [maxLen]; omega) (by rw [STAT_len, List.length_reverse]; omega) hs2 ?_)
  intro v3 w3 own3 ch3 _
  have hc3 : Chg [] w w3 := HC2.out.trans ch3 (fun x hx => Or.inr (by have := HO2.out.lo x hx; omega))
  have hx3 := HX2.out.chg ch3 (fun hx => by have := HO2.out.lo _ hx; omega)
  obtain ⟨va, N, vc, rfl, hN⟩ : ∃ va N vc, v3 = .slice va N vc ∧ N = 61 + es.length ∧ N ≤ vc ∧ vc ≤ maxLen := by
    obtain ⟨va, vc, h, h1, h2⟩ := OwnR.slice own3
    have hl : (STAT ++ es.reverse).length = 61 + es.length := by rw [List.length_append, STAT_len, List.length_reverse]
    exact ⟨va, _, vc, h, hl, h1, h2⟩
  obtain ⟨hN, hNc, hvc⟩ := hN
  unfold maxLen at hvc
  have hsl3 : FdsOf w3 (.slice va N vc) (allF es) := OwnF.sl own3
  have HC3 := Lib.hid hc3; have HX3 := Lib.hid hx3; have HS3 := Lib.hid hsl3; have HN := Lib.hid hN
  clear own3 ch3 hc3 hx3 hsl3 d0
  by_cases hi : 1 ≤ i ∧ i ≤ (N : Int)
  · obtain ⟨hi1, hi2⟩ := hi
    obtain ⟨k, rfl⟩ : ∃ k : Nat, i = (k : Int) + 1 := ⟨(i - 1).toNat, by omega⟩
    have hkN : k < N := by omega
    have hkI : (k : Int) < (N : Int) := by omega
    obtain ⟨f, hf⟩ : ∃ f, (allF es)[k]? = some f := ⟨_, List.getElem?_eq_getElem (by rw [allF_len, ← HN.out]; exact hkN)⟩
    have HF := Lib.hid hf
    obtain ⟨b, off, rfl, hb, hcells⟩ := HS3.out.cells (by rw [allF_len]; omega)
    obtain ⟨d0, d1, d2⟩ := hcells k f hf
    have x0 : World.cell? w3 ⟨w.heap.size, 0, none⟩ = some (.string ⟨#[]⟩) := HX3.out.cell rfl
    have x1 : World.cell? w3 ⟨w.heap.size, 1, none⟩ = some (.string ⟨#[]⟩) := HX3.out.cell rfl
    have x2 : World.cell? w3 ⟨w.heap.size, 2, none⟩ = some (.bool false) := HX3.out.cell rfl
    have xf : ∀ j, World.frozen? w3 ⟨w.heap.size, j, none⟩ = false := fun j => HX3.out.free j
    have q1 : decide ((k : Int) + 1 < 1) = false := decide_eq_false (by omega)
    have q2 : decide ((N : Int) < (k : Int) + 1) = false := decide_eq_false (by omega)
    clear hcells hf
    go_wp2_with fail
    have hz := ((HX3.out.set 0 (.string f.n)).set 1 (.string f.v)).set 2 (.bool f.nv)
    have z0 := hz.cell (o := 0) (v := .string f.n) rfl
    have z1 := hz.cell (o := 1) (v := .string f.v) rfl
    have z2 := hz.cell (o := 2) (v := .bool f.nv) rfl
    refine bodyPost_ret (v := .tuple #[.agg #[.string f.n, .string f.v, .bool f.nv], .bool true]) (by simp [results, Try.results76, go_sem, z0, z1, z2]) rfl ⟨by rw [atR_in HF.out]; rfl, ?_⟩
    exact ((HC3.out.setCell (p := ⟨w.heap.size, 0, none⟩) (Or.inr (Nat.le_refl _)) _).setCell (p := ⟨w.heap.size, 1, none⟩) (Or.inr (Nat.le_refl _)) _).setCell (p := ⟨w.heap.size, 2, none⟩) (Or.inr (Nat.le_refl _)) _
  · have hi' : i < 1 ∨ (1 ≤ i ∧ (N : Int) < i) := by omega
    have hnone : atR es i = (Fd.no, false) := atR_none (by have := HN.out; omega)
    have HNO := Lib.hid hnone
    clear hnone
    have x0 : World.cell? w3 ⟨w.heap.size, 0, none⟩ = some (.string ⟨#[]⟩) := HX3.out.cell rfl
    have x1 : World.cell? w3 ⟨w.heap.size, 1, none⟩ = some (.string ⟨#[]⟩) := HX3.out.cell rfl
    have x2 : World.cell? w3 ⟨w.heap.size, 2, none⟩ = some (.bool false) := HX3.out.cell rfl
    have xf : ∀ j, World.frozen? w3 ⟨w.heap.size, j, none⟩ = false := fun j => HX3.out.free j
    clear hi
    rcases hi' with h1 | ⟨h1, h2⟩
    all_goals
      go_wp2_with fail
      have hz := ((HX3.out.set 0 (.string ⟨#[]⟩)).set 1 (.string ⟨#[]⟩)).set 2 (.bool false)
      have z0 := hz.cell (o := 0) (v := .string ⟨#[]⟩) rfl
      have z1 := hz.cell (o := 1) (v := .string ⟨#[]⟩) rfl
      have z2 := hz.cell (o := 2) (v := .bool false) rfl
      refine bodyPost_ret (v := .tuple #[.agg #[.string ⟨#[]⟩, .string ⟨#[]⟩, .bool false], .bool false]) (by simp [results, Try.results76, go_sem, z0, z1, z2]) rfl ⟨by rw [HNO.out]; rfl, ?_⟩
      exact ((HC3.out.setCell (p := ⟨w.heap.size, 0, none⟩) (Or.inr (Nat.le_refl _)) _).setCell (p := ⟨w.heap.size, 1, none⟩) (Or.inr (Nat.le_refl _)) _).setCell (p := ⟨w.heap.size, 2, none⟩) (Or.inr (Nat.le_refl _)) _
theorem nm_hit {f x : Fd} {l : List Fd} {k : Nat} (h : l[k]? = some x) (hx : x.n = f.n) (hn : ∀ (j : Nat) (y : Fd), j < k → l[j]? = some y → y.n ≠ f.n) : nm f l = k + 1 := by
  unfold nm
  have : l.findIdx? (fun x => decide (x.n = f.n)) = some k := by
    obtain ⟨hk, hk2⟩ := List.getElem?_eq_some_iff.1 h
    rw [List.findIdx?_eq_some_iff_getElem]
    refine ⟨hk, by rw [hk2, hx]; simp, fun j hj => ?_⟩
    have := hn j _ hj (List.getElem?_eq_getElem (by omega))
    simpa using this
  rw [this]
theorem nm_none {f : Fd} {l : List Fd} (hn : ∀ (j : Nat) (y : Fd), l[j]? = some y → y.n ≠ f.n) : nm f l = 0 := by
  unfold nm
  have : l.findIdx? (fun x => decide (x.n = f.n)) = none := by
    rw [List.findIdx?_eq_none_iff]
    intro x hx
    obtain ⟨j, hj⟩ := List.getElem?_of_mem hx
    simpa using hn j x hj
  rw [this]
def FN (f : Fd) : Obj := .cells #[.string f.n, .string f.v, .bool f.nv] 44 (0, 0)
set_option maxRecDepth 100000 in
set_option maxHeartbeats 4000000 in
theorem rfind_any {w : World} {base p : Nat} {sv : Value} {m : Nat} {es : List Fd} (f : Fd) (hi : Inv m es) (h : RT w base p sv m es.reverse) :
    Calls Try.prog 64 #[.pointer (some ⟨p, 0, none⟩), .agg (aF f)] w fun e w' => e = .returned (.tuple #[.int .i64 (findR es f).1, .bool (findR es f).2]) ∧ Chg [] w w' := by
  have HNV := Lib.hid (allF_nv hi.nv)
  clear hi
  skip
  obtain ⟨a0, cap0, rfl, hcA, hcB⟩ := h.row.len
  have hlen := h.len
  rw [List.length_reverse] at hlen h hcA
  have HT := Lib.hid h
  clear h
  unfold aF
  go_enter Try.func64, Try.ntmps64
  go_wp2_with fail
  skip
  have hsz : ∀ o, (w.alloc o).heap.size = w.heap.size + 1 := fun o => by simp
  refine (statics_any _).mono ?_; rintro e w2 ⟨rfl, h2⟩
  have hc2 : Chg [] w w2 := by rw [h2]; exact ((Chg.refl w).alloc _).alloc _
  have ho2 : OwnF w2 (w.heap.size + 1) (.slice (some ⟨w.heap.size + 1, 0, none⟩) 61 61) STAT := by
    have := own_stat (w.alloc (FN f)) (base := w.heap.size + 1) (by simp)
    rw [hsz] at this
    rw [h2]; exact this
  have hx2 : At w2 w.heap.size (FN f) := by rw [h2]; exact (At.new w _).alloc _
  have hT2 := HT.out.chg0 hc2
  have d0 : World.cell? w2 ⟨p, 0, none⟩ = some (.slice a0 es.length cap0) := hT2.head.cell rfl
  have hs2 : w.heap.size + 1 ≤ w2.heap.size := by rw [h2]; simp
  have HC2 := Lib.hid hc2; have HO2 := Lib.hid ho2; have HX2 := Lib.hid hx2; have HT2 := Lib.hid hT2
  clear h2 hc2 ho2 hx2 hT2
  rw [hsz]
  go_wp2_with (at_builtin; refine app_row encF_len encF_one 26 Try.underlying26 infoF (by decide) (by omega) rfl _ _ rfl (w.heap.size + 1) (.slice (some ⟨w.heap.size + 1, 0, none⟩) 61 61) STAT rfl HO2.out _ _ rfl HT2.out.row (by rw [STAT_len, List.length_reverse]; simp [maxLen]; omega) (by rw [STAT_len, List.length_reverse]; omega) hs2 ?_)
  intro v3 w3 own3 ch3 _
  have hc3 : Chg [] w w3 := HC2.out.trans ch3 (fun x hx => Or.inr (by have := HO2.out.lo x hx; omega))
  have hx3 := HX2.out.chg ch3 (fun hx => by have := HO2.out.lo _ hx; omega)
  obtain ⟨va, N, vc, rfl, hN⟩ : ∃ va N vc, v3 = .slice va N vc ∧ N = 61 + es.length ∧ N ≤ vc ∧ vc ≤ maxLen := by
    obtain ⟨va, vc, h, h1, h2⟩ := OwnR.slice own3
    have hl : (STAT ++ es.reverse).length = 61 + es.length := by rw [List.length_append, STAT_len, List.length_reverse]
    exact ⟨va, _, vc, h, hl, h1, h2⟩
  obtain ⟨hN, hNc, hvc⟩ := hN
  unfold maxLen at hvc
  have hsl3 : FdsOf w3 (.slice va N vc) (allF es) := OwnF.sl own3
  have HC3 := Lib.hid hc3; have HX3 := Lib.hid hx3; have HS3 := Lib.hid hsl3; have HN := Lib.hid hN
  clear own3 ch3 hc3 hx3 hsl3 d0
  obtain ⟨L, hL⟩ : ∃ L, L = allF es := ⟨_, rfl⟩
  have hLN : L.length = N := by rw [hL, allF_len, HN.out]
  rw [← hL] at HS3 HNV
  have HL := Lib.hid hL; have HLN := Lib.hid hLN
  have hNb : N ≤ 2109 := by omega
  clear hL hLN hN hvc
  go_wp2_with fail
  go_loopw [7] (fun iv wr => ∃ k : Nat, k ≤ N ∧ iv = .int .i64 k ∧ (∀ (j : Nat) (y : Fd), j < k → L[j]? = some y → y ≠ f.un) ∧ Chg [] w3 wr) (fun iv _ => N - (intOf iv).toNat)
  case atStart => exact ⟨0, Nat.zero_le _, rfl, fun j y hj => by omega, Chg.refl _⟩
  case round =>
    obtain ⟨k, hk, rfl, hno, hc⟩ := hrel
    have hX := HX3.out.chg hc (by simp)
    have e0 : World.cell? wr ⟨w.heap.size, 0, none⟩ = some (.string f.n) := hX.cell rfl
    have e1 : World.cell? wr ⟨w.heap.size, 1, none⟩ = some (.string f.v) := hX.cell rfl
    have HNO := Lib.hid hno; have HC := Lib.hid hc
    clear hX hno
    by_cases hlt : k < N
    · have hltI : (k : Int) < (N : Int) := by omega
      have hk0 : (0 : Int) ≤ (k : Int) := by omega
      obtain ⟨x, hx⟩ : ∃ x, L[k]? = some x := ⟨_, List.getElem?_eq_getElem (by rw [HLN.out]; exact hlt)⟩
      obtain ⟨b, off, rfl, hb, hcells⟩ := FdsOf.cells (HS3.out.chg0 hc) (by rw [HLN.out]; omega)
      obtain ⟨d0, d1, _⟩ := hcells k x hx
      have hnv := HNV.out x (List.mem_of_getElem? hx)
      have HXX := Lib.hid hx; have HXV := Lib.hid hnv
      clear hcells hx hc hnv
      by_cases hxn : x.n = f.n
      · rw [hxn] at d0
        by_cases hxv : x.v = f.v
        · rw [hxv] at d1
          have HF := Lib.hid (fd_eq hxn hxv HXV.out)
          clear hxn hxv
          go_wp2_with fail
          go_quiet (fail)
          go_wp2_with fail
          go_ret2
          refine ⟨?_, HC3.out.trans' (HC.out.drewN nq)⟩
          rw [findR_hit (by rw [← HL.out]; exact HXX.out) HF.out (by rw [← HL.out]; exact HNO.out)]
          rfl
        · have hv : (x.v.toList == f.v.toList) = false := by rw [beq_str]; exact decide_eq_false hxv
          have hno2 : ∀ (j : Nat) (y : Fd), j < k + 1 → L[j]? = some y → y ≠ f.un := by
            intro j y hj hy
            rcases Nat.lt_or_ge j k with h1 | h1
            · exact HNO.out j y h1 hy
            · obtain rfl : j = k := by omega
              rw [HXX.out] at hy; rw [← Option.some.inj hy]; exact fun hc => hxv (by rw [hc]; rfl)
          have HNO2 := Lib.hid hno2
          clear hxn hxv hno2
          go_wp2_with fail
          go_quiet (fail)
          go_wp2_with fail
          go_roundw
          case rel => exact ⟨k + 1, by omega, by go_num, HNO2.out, HC.out.drewN _⟩
          case measure => simp [intOf]; omega
      · have hn : (x.n.toList == f.n.toList) = false := by rw [beq_str]; exact decide_eq_false hxn
        have hno2 : ∀ (j : Nat) (y : Fd), j < k + 1 → L[j]? = some y → y ≠ f.un := by
          intro j y hj hy
          rcases Nat.lt_or_ge j k with h1 | h1
          · exact HNO.out j y h1 hy
          · obtain rfl : j = k := by omega
            rw [HXX.out] at hy; rw [← Option.some.inj hy]; exact fun hc => hxn (by rw [hc]; rfl)
        have HNO2 := Lib.hid hno2
        clear hxn hno2
        go_wp2_with fail
        go_quiet (fail)
        go_wp2_with fail
        go_roundw
        case rel => exact ⟨k + 1, by omega, by go_num, HNO2.out, HC.out.drewN _⟩
        case measure => simp [intOf]; omega
    · obtain rfl : N = k := by omega
      have hmiss : findR es f = (nm f L, false) := by
        rw [HL.out]; exact findR_miss (fun j y hy => HNO.out j y (by rw [← HLN.out, HL.out]; exact (List.getElem?_eq_some_iff.1 hy).1) (by rw [HL.out]; exact hy))
      have HM := Lib.hid hmiss
      clear hmiss e0 e1
      rename World => wo
      go_wp2_with fail
      go_loopw [8] (fun iv wr => ∃ k : Nat, k ≤ N ∧ iv = .int .i64 k ∧ (∀ (j : Nat) (y : Fd), j < k → L[j]? = some y → y.n ≠ f.n) ∧ Chg [] w3 wr) (fun iv _ => N - (intOf iv).toNat)
      case atStart => exact ⟨0, Nat.zero_le _, rfl, fun j y hj => by omega, HC.out⟩
      case round =>
        clear HC hc HNO
        obtain ⟨k, hk, rfl, hno, hc⟩ := hrel
        have hX := HX3.out.chg hc (by simp)
        have e0 : World.cell? wr ⟨w.heap.size, 0, none⟩ = some (.string f.n) := hX.cell rfl
        have HNO := Lib.hid hno; have HC := Lib.hid hc
        clear hX hno
        by_cases hlt : k < N
        · have hltI : (k : Int) < (N : Int) := by omega
          have hk0 : (0 : Int) ≤ (k : Int) := by omega
          obtain ⟨x, hx⟩ : ∃ x, L[k]? = some x := ⟨_, List.getElem?_eq_getElem (by rw [HLN.out]; exact hlt)⟩
          obtain ⟨b, off, rfl, hb, hcells⟩ := FdsOf.cells (HS3.out.chg0 hc) (by rw [HLN.out]; omega)
          obtain ⟨d0, d1, _⟩ := hcells k x hx
          have HXX := Lib.hid hx
          clear hcells hx hc d1
          by_cases hxn : x.n = f.n
          · rw [hxn] at d0
            have HXN := Lib.hid hxn
            clear hxn
            go_wp2_with fail
            go_quiet (fail)
            go_wp2_with fail
            go_ret2
            refine ⟨?_, HC3.out.trans' (HC.out.drewN nq)⟩
            rw [HM.out, nm_hit HXX.out HXN.out HNO.out]
            rfl
          · have hn : (x.n.toList == f.n.toList) = false := by rw [beq_str]; exact decide_eq_false hxn
            have hno2 : ∀ (j : Nat) (y : Fd), j < k + 1 → L[j]? = some y → y.n ≠ f.n := by
              intro j y hj hy
              rcases Nat.lt_or_ge j k with h1 | h1
              · exact HNO.out j y h1 hy
              · obtain rfl : j = k := by omega
                rw [HXX.out] at hy; rw [← Option.some.inj hy]; exact hxn
            have HNO2 := Lib.hid hno2
            clear hxn hno2
            go_wp2_with fail
            go_quiet (fail)
            go_wp2_with fail
            go_roundw
            case rel => exact ⟨k + 1, by omega, by go_num, HNO2.out, HC.out.drewN _⟩
            case measure => simp [intOf]; omega
        · obtain rfl : N = k := by omega
          have hm0 : nm f L = 0 := nm_none (fun j y hy => HNO.out j y (by rw [← HLN.out]; exact (List.getElem?_eq_some_iff.1 hy).1) hy)
          have HM0 := Lib.hid hm0
          clear hm0
          go_wp2_with fail
          go_ret2
          refine ⟨?_, HC3.out.trans' HC.out⟩
          rw [HM.out, HM0.out]
          rfl
end Go.Proofs.Ytmoeioaahampaaa.Tb
