/-
  TableFinds: what is found is the first that there is: any table, any field.
-/
import Derived.Test.YthhfnmgonjippaaNew
namespace Go.Proofs.Ythhfnmgonjippaa.Tb.Finds
open Go.ChangeShapes Go.WideShapes Go.ChangeAt Go.RowKit
open Go.Proofs.Ythhfnmgonjippaa.B
set_option linter.unusedVariables false
set_option linter.unusedSimpArgs false

/-- What Find tells. -/
structure Found (L : List Fd) (f : Fd) (N : Nat) (b : Bool) : Prop where
  le : N ≤ L.length
  zero : N = 0 → b = false
  lt : ∀ k x, k + 1 < N → L[k]? = some x → ¬ (x.n = f.n ∧ x.v = f.v) ∧ (b = false → x.n ≠ f.n)
  eq : ∀ k x, k + 1 = N → L[k]? = some x → x.n = f.n ∧ (b = true → x.v = f.v) ∧ (b = false → x.v ≠ f.v)
  gt : ∀ k x, N < k + 1 → L[k]? = some x → b = false → ¬ (x.n = f.n ∧ x.v = f.v) ∧ (N = 0 → x.n ≠ f.n)
theorem un_eq {x f : Fd} (hx : x.nv = false) : x = f.un ↔ (x.n = f.n ∧ x.v = f.v) := ⟨fun h => by rw [h]; exact ⟨rfl, rfl⟩, fun h => fd_eq h.1 h.2 hx⟩
theorem found_of (es : List Fd) (f : Fd) (hnv : ∀ e ∈ es, e.nv = false) : Found (allF es) f (findR es f).1 (findR es f).2 := by
  have hL := allF_nv hnv
  unfold findR
  generalize allF es = L at *
  cases hq : L.findIdx? (fun x => decide (x = f.un)) with
  | some j =>
    obtain ⟨hj, hj2, hj3⟩ := List.findIdx?_eq_some_iff_getElem.1 hq
    refine ⟨by simp; omega, by simp, fun k x hk hx => ?_, fun k x hk hx => ?_, fun k x _ _ h => by simp at h⟩
    · obtain ⟨q1, q2⟩ := List.getElem?_eq_some_iff.1 hx
      have := hj3 k (by simp at hk; omega)
      rw [q2] at this
      refine ⟨fun hc => ?_, by simp⟩
      have := (un_eq (hL x (List.mem_of_getElem? hx))).2 hc
      simp_all
    · obtain ⟨q1, q2⟩ := List.getElem?_eq_some_iff.1 hx
      obtain rfl : k = j := by simp at hk; omega
      rw [q2] at hj2
      have := (un_eq (hL x (List.mem_of_getElem? hx))).1 (by simpa using hj2)
      exact ⟨this.1, fun _ => this.2, by simp⟩
  | none =>
    have hno : ∀ x ∈ L, ¬ (x.n = f.n ∧ x.v = f.v) := fun x hx hc => by
      have := List.findIdx?_eq_none_iff.1 hq x hx
      have h2 := (un_eq (hL x hx)).2 hc
      simp [h2] at this
    simp only
    unfold nm
    cases hr : L.findIdx? (fun x => decide (x.n = f.n)) with
    | some j =>
      obtain ⟨hj, hj2, hj3⟩ := List.findIdx?_eq_some_iff_getElem.1 hr
      refine ⟨by simp; omega, by simp, fun k x hk hx => ?_, fun k x hk hx => ?_, fun k x hk hx _ => ?_⟩
      · obtain ⟨q1, q2⟩ := List.getElem?_eq_some_iff.1 hx
        have := hj3 k (by simp at hk; omega)
        rw [q2] at this
        exact ⟨hno x (List.mem_of_getElem? hx), fun _ => by simpa using this⟩
      · obtain ⟨q1, q2⟩ := List.getElem?_eq_some_iff.1 hx
        obtain rfl : k = j := by simp at hk; omega
        rw [q2] at hj2
        have hn : x.n = f.n := by simpa using hj2
        exact ⟨hn, by simp, fun _ hv => hno x (List.mem_of_getElem? hx) ⟨hn, hv⟩⟩
      · exact ⟨hno x (List.mem_of_getElem? hx), by simp⟩
    | none =>
      refine ⟨by simp, by simp, fun k x hk => by simp at hk, fun k x hk => by simp at hk, fun k x _ hx _ => ⟨hno x (List.mem_of_getElem? hx), fun _ hc => ?_⟩⟩
      have := List.findIdx?_eq_none_iff.1 hr x (List.mem_of_getElem? hx)
      simp [hc] at this
set_option maxRecDepth 100000 in
set_option maxHeartbeats 16000000 in
theorem walk (mx : Int) (v : Value) (zs : List Fd) (f : Fd) (W : World) (hzm : zs.length ≤ maxLen) (hsl : FdsOf W v zs) (hin : ∀ z ∈ zs, z.In) (hf : f.In) :
    Calls Try.prog 8 #[.int .i64 mx, v, .agg (aF f)] W fun e w' => e = .returned (.bool true) ∧ Below W.heap.size W w' := by
  obtain ⟨a, cap, rfl, hcap, hcapm⟩ := hsl.len
  obtain ⟨box, hbox⟩ : ∃ box : Obj, box = .cells #[.string f.n, .string f.v, .bool f.nv] 23 (0, 0) := ⟨_, rfl⟩
  have HSL := Lib.hid hsl; have HIN := Lib.hid hin; have HBOX := Lib.hid hbox
  unfold maxLen at hzm hcapm
  clear hsl hin hf
  unfold aF
  go_enter Try.func8, Try.ntmps8
  go_wp2_with fail
  refine (shown_any _).mono ?_; rintro e w1 ⟨rfl, c1⟩
  have hb1 := (At.new W (.cells #[.string f.n, .string f.v, .bool f.nv] 23)).chg c1 (by simp)
  have hc1 : Chg [] W w1 := ((Chg.refl W).alloc _).trans' c1
  rw [← hbox] at hb1
  obtain ⟨B, hB⟩ : ∃ B, B = W.heap.size := ⟨_, rfl⟩
  rw [← hB] at hb1 ⊢
  have HB := Lib.hid hB
  have hb1l := hb1.lt
  clear c1 hbox hB
  go_wp2_with fail
  refine (H_new (W := W) mx _ hc1.below_nil).mono ?_; rintro e w2 ⟨rfl, c2, F0, h2, f2⟩
  have hb2 := hb1.chg c2 (by simp)
  have hbf2 : B ∉ F0 := fun hx => by have := f2 B hx; omega
  have hBp : B ≠ w1.heap.size := by omega
  generalize w1.heap.size = p at *
  obtain ⟨m, hm⟩ : ∃ m, m = hgt mx := ⟨_, rfl⟩
  rw [← hm] at h2
  have hm6 : m ≤ 65536 := by rw [hm]; exact hgt_le mx
  have H2 := Lib.hid h2; have HB2 := Lib.hid hb2; have HBF2 := Lib.hid hbf2
  clear c2 h2 f2 hb1 hb1l hb2 hbf2 hc1 hm
  go_wp2_with fail
  go_loopw [9] (fun iv wr => ∃ (i : Nat) (F : List Nat) (es : List Fd), i ≤ zs.length ∧ i ≤ 40 ∧ iv = .int .i64 i ∧ es.length ≤ i ∧ B ∉ F ∧ At wr B box ∧ Has W wr F p m es) (fun iv _ => 40 - (intOf iv).toNat)
  case atStart => exact ⟨0, F0, [], by omega, by omega, rfl, by simp, ⟨HBF2.out, HB2.out, H2.out⟩⟩
  case round =>
    clear H2 HB2 HBF2
    obtain ⟨i, F, es, hi1, hi2, rfl, hel, hbf, hbx, hs⟩ := hrel
    by_cases hlt : i < zs.length ∧ i < 40
    · skip
      obtain ⟨hlt1, hlt2⟩ := hlt
      have hlt3 : (i : Int) < 40 := by omega
      obtain ⟨o, ho⟩ : ∃ o, zs[i]? = some o := ⟨_, List.getElem?_eq_getElem hlt1⟩
      obtain ⟨b, off, rfl, hbw, hcell⟩ := FdsOf.cells HSL.out (by omega)
      obtain ⟨d0, d1, d2⟩ := hcell i o ho
      have hbc : ∀ j, wr.cell? ⟨b, j, none⟩ = W.cell? ⟨b, j, none⟩ := fun j => hs.below.cell (p := ⟨b, j, none⟩) hbw
      rw [← hbc] at d0 d1 d2
      have hfs := (HIN.out o (List.mem_of_getElem? ho)).sz
      have hblt := hbx.lt
      have HS := Lib.hid hs; have HO := Lib.hid ho; have HBX := Lib.hid hbx; have HBF := Lib.hid hbf
      clear hcell hs ho hbc hbx hbf
      go_wp2_with fail
      refine (H_add o _ HS.out hfs).mono ?_; rintro e w3 ⟨rfl, ⟨F3, h3, f3⟩, c3⟩
      have hbx3 := HBX.out.chg c3 HBF.out
      have hbf3 := f3.notin HBF.out hblt
      have hl3 := addS_len o m es
      have H3 := Lib.hid h3; have BX3 := Lib.hid hbx3; have BF3 := Lib.hid hbf3
      clear h3 f3 c3 hbx3 hbf3
      go_wp2_with fail
      go_roundw
      case rel => exact ⟨i + 1, F3, _, by omega, by omega, by go_num, by omega, BF3.out, BX3.out, H3.out⟩
      case measure => simp [intOf] <;> omega
    · skip
      have hways : (i < zs.length ∧ ¬ (i : Int) < 40 ∧ decide (i < zs.length) = true ∧ decide ((i : Int) < 40) = false) ∨ (¬ i < zs.length ∧ (0 : Int) ≤ (i : Int) ∧ decide (i < zs.length) = false ∧ (0 : Int) ≤ 1) := by
        by_cases h1 : i < zs.length
        · have h2 := off_and hlt h1
          exact Or.inl ⟨h1, h2, by simpa using h1, by simp; omega⟩
        · exact Or.inr ⟨h1, by omega, by simpa using h1, by omega⟩
      have HS := Lib.hid hs; have HBX := Lib.hid hbx; have HBF := Lib.hid hbf
      have helm : es.length ≤ 40 := by omega
      have hinv := hs.inv
      have HINV := Lib.hid hinv
      clear hs hbx hbf hlt hel hi1 hi2 hinv
      rcases hways with ⟨h1, h2, hd1, hd2⟩ | ⟨h1, h2, hd1, hd2⟩
      all_goals
        have hbx' := HBX.out
        rw [HBOX.out] at hbx'
        have b0 := hbx'.cell (o := 0) rfl
        have b1 := hbx'.cell (o := 1) rfl
        have b2 := hbx'.cell (o := 2) rfl
        obtain ⟨N, hN⟩ : ∃ N, N = (findR es f).1 := ⟨_, rfl⟩
        obtain ⟨t, ht⟩ : ∃ t, t = (findR es f).2 := ⟨_, rfl⟩
        have hFd := found_of es f HINV.out.nv
        rw [← hN, ← ht] at hFd
        have hNl : N ≤ 61 + es.length := by have := hFd.le; rw [allF_len] at this; exact this
        have hz := hFd.zero
        have HN := Lib.hid hN; have HT := Lib.hid ht; have HFD := Lib.hid hFd; have HZ := Lib.hid hz
        clear hbx' hN ht hFd hz
        go_wp2_with fail
        refine (H_find f _ HS.out).mono ?_; rintro e w3 ⟨he, hc⟩
        rw [← HN.out, ← HT.out] at he
        subst he
        have h3 := HS.out.chg0 hc
        have x3 := HBX.out.chg hc (by simp)
        have H3 := Lib.hid h3; have X3 := Lib.hid x3
        have hdn : decide ((N : Int) < 0) = false := decide_eq_false (by omega)
        have hdl : decide ((61 : Int) + (es.length : Int) < (N : Int)) = false := decide_eq_false (by omega)
        have hzt : (((N : Int) == 0) = true ∧ N ≤ 0 ∧ t = false) ∨ (((N : Int) == 0) = false ∧ 0 < N ∧ t = false) ∨ (((N : Int) == 0) = false ∧ 0 < N ∧ t = true) := by
          by_cases h0 : N = 0
          · exact Or.inl ⟨by simp; omega, by omega, HZ.out h0⟩
          · cases t
            · exact Or.inr (Or.inl ⟨by simp; omega, by omega, rfl⟩)
            · exact Or.inr (Or.inr ⟨by simp; omega, by omega, rfl⟩)
        clear h3 x3 hc b0 b1 b2 HS HBX h1 h2 hd1 hd2
        rcases hzt with ⟨hn0, hn1, rfl⟩ | ⟨hn0, hn1, rfl⟩ | ⟨hn0, hn1, rfl⟩
        · as_aux_lemma =>
          skip
          go_wp2_with fail
          refine (H_len _ H3.out).mono ?_; rintro e w3 ⟨rfl, rfl⟩
          go_wp2_with fail
          go_loopw [12] (fun iv wt => ∃ k : Nat, k ≤ 61 + es.length ∧ iv = .int .i64 ((k : Int) + 1) ∧ At wt B box ∧ Has W wt F p m es) (fun iv _ => 103 - (intOf iv).toNat)
          case atStart => exact ⟨0, by omega, rfl, X3.out, H3.out⟩
          case round =>
            clear H3 X3
            obtain ⟨k, hk, rfl, hbx, hs⟩ := hrel
            by_cases hkl : k < 61 + es.length
            · skip
              obtain ⟨x, hx⟩ : ∃ x, (allF es)[k]? = some x := ⟨_, List.getElem?_eq_getElem (by rw [allF_len]; exact hkl)⟩
              have hat : atR es ((k : Int) + 1) = (x, true) := by
                unfold atR atL
                rw [allF_len, if_pos (by omega), List.getD_eq_getElem?_getD, show ((k : Int) + 1).toNat - 1 = k by omega, hx]; rfl
              have hd1 : decide ((k : Int) + 1 ≤ 61 + (es.length : Int)) = true := decide_eq_true (by omega)
              have hd2 : decide ((k : Int) + 1 < 300) = true := decide_eq_true (by omega)
              have hc1 : (k : Int) + 1 ≤ 61 + (es.length : Int) := by omega
              have hc2 : (k : Int) + 1 < 300 := by omega
              have FL := fun h => HFD.out.lt k x h hx
              have FE := fun h => HFD.out.eq k x h hx
              have FG := fun h => HFD.out.gt k x h hx
              have HS := Lib.hid hs; have HBX := Lib.hid hbx; have HAT := Lib.hid hat
              clear hs hbx hat hx
              rcases Nat.lt_trichotomy (k + 1) N with h1 | h1 | h1
              · exfalso; omega
              · exfalso; omega
              · as_aux_lemma =>
                skip
                have l1 : decide ((k : Int) + 1 < (N : Int)) = false := decide_eq_false (by omega)
                have l2 : (((k : Int) + 1) == (N : Int)) = false := by simp; omega
                have l3 : decide ((N : Int) < (k : Int) + 1) = true := decide_eq_true (by omega)
                have hg := FG h1 rfl
                by_cases hxn : x.n = f.n
                · have e1 : (x.n.toList == f.n.toList) = true := by rw [hxn]; simp
                  have e2 : (x.v.toList == f.v.toList) = false := by rw [beq_str]; exact decide_eq_false (fun h => hg.1 ⟨hxn, h⟩)
                  have hN2 : ((N : Int) == 0) = false := by
                    have : N ≠ 0 := fun h => hg.2 h hxn
                    simp; omega
                  clear FL FE FG hg hxn hn0
                  go_wp2_with fail
                  refine (H_len _ HS.out).mono ?_; rintro e w3 ⟨rfl, rfl⟩
                  go_wp2_with fail
                  refine (H_at _ _ HS.out (by omega)).mono ?_; rintro e w4 ⟨he, hc⟩
                  rw [HAT.out] at he
                  simp only [aF] at he
                  subst he
                  have h4 := HS.out.chg0 hc
                  have x4 := HBX.out.chg hc (by simp)
                  have x4l := x4.lt
                  have x4' := x4
                  rw [HBOX.out] at x4'
                  have y0 := x4'.cell (o := 0) rfl
                  have y1 := x4'.cell (o := 1) rfl
                  have y2 := x4'.cell (o := 2) rfl
                  have H4 := Lib.hid h4; have X4 := Lib.hid x4
                  clear h4 x4 x4' hc HS HBX
                  go_wp2_with fail
                  go_roundw
                  case rel => exact ⟨k + 1, by omega, by go_num, X4.out.alloc _, H4.out.alloc _⟩
                  case measure => simp [intOf] <;> omega
                · have e1 : (x.n.toList == f.n.toList) = false := by rw [beq_str]; exact decide_eq_false hxn
                  clear FL FE FG hg hxn
                  go_wp2_with fail
                  refine (H_len _ HS.out).mono ?_; rintro e w3 ⟨rfl, rfl⟩
                  go_wp2_with fail
                  refine (H_at _ _ HS.out (by omega)).mono ?_; rintro e w4 ⟨he, hc⟩
                  rw [HAT.out] at he
                  simp only [aF] at he
                  subst he
                  have h4 := HS.out.chg0 hc
                  have x4 := HBX.out.chg hc (by simp)
                  have x4l := x4.lt
                  have x4' := x4
                  rw [HBOX.out] at x4'
                  have y0 := x4'.cell (o := 0) rfl
                  have y1 := x4'.cell (o := 1) rfl
                  have y2 := x4'.cell (o := 2) rfl
                  have H4 := Lib.hid h4; have X4 := Lib.hid x4
                  clear h4 x4 x4' hc HS HBX
                  go_wp2_with fail
                  go_roundw
                  case rel => exact ⟨k + 1, by omega, by go_num, X4.out.alloc _, H4.out.alloc _⟩
                  case measure => simp [intOf] <;> omega
            · as_aux_lemma =>
              skip
              obtain rfl : k = 61 + es.length := by omega
              have hdd : decide (((61 + es.length : Nat) : Int) + 1 ≤ 61 + (es.length : Int)) = false := decide_eq_false (by omega)
              have HS := Lib.hid hs
              clear hs hbx hkl
              go_wp2_with fail
              refine (H_len _ HS.out).mono ?_; rintro e w3 ⟨rfl, rfl⟩
              go_wp2_with fail
              refine (H_at 0 _ HS.out (by omega)).mono ?_; rintro e w4 ⟨he, hc⟩
              rw [atR_none (Or.inl (by omega))] at he
              simp only [aF, Fd.no] at he
              subst he
              have h4 := HS.out.chg0 hc
              have h4' := h4.alloc (.cells #[.string ⟨#[]⟩, .string ⟨#[]⟩, .bool false] 23)
              have H4 := Lib.hid h4'
              clear h4 h4' hc HS
              go_wp2_with fail
              refine (H_len _ H4.out).mono ?_; rintro e w3 ⟨rfl, rfl⟩
              go_wp2_with fail
              refine (H_at _ _ H4.out (by omega)).mono ?_; rintro e w5 ⟨he, hc⟩
              rw [atR_none (Or.inr (by omega))] at he
              simp only [aF, Fd.no] at he
              subst he
              have H5 := Lib.hid (H4.out.chg0 hc)
              clear hc H4
              go_wp2_with fail
              go_ret
              exact ⟨rfl, (H5.out.alloc _).below⟩
        · as_aux_lemma =>
          skip
          go_wp2_with fail
          refine (H_len _ H3.out).mono ?_; rintro e w3 ⟨rfl, rfl⟩
          go_wp2_with fail
          go_loopw [12] (fun iv wt => ∃ k : Nat, k ≤ 61 + es.length ∧ iv = .int .i64 ((k : Int) + 1) ∧ At wt B box ∧ Has W wt F p m es) (fun iv _ => 103 - (intOf iv).toNat)
          case atStart => exact ⟨0, by omega, rfl, X3.out, H3.out⟩
          case round =>
            clear H3 X3
            obtain ⟨k, hk, rfl, hbx, hs⟩ := hrel
            by_cases hkl : k < 61 + es.length
            · skip
              obtain ⟨x, hx⟩ : ∃ x, (allF es)[k]? = some x := ⟨_, List.getElem?_eq_getElem (by rw [allF_len]; exact hkl)⟩
              have hat : atR es ((k : Int) + 1) = (x, true) := by
                unfold atR atL
                rw [allF_len, if_pos (by omega), List.getD_eq_getElem?_getD, show ((k : Int) + 1).toNat - 1 = k by omega, hx]; rfl
              have hd1 : decide ((k : Int) + 1 ≤ 61 + (es.length : Int)) = true := decide_eq_true (by omega)
              have hd2 : decide ((k : Int) + 1 < 300) = true := decide_eq_true (by omega)
              have hc1 : (k : Int) + 1 ≤ 61 + (es.length : Int) := by omega
              have hc2 : (k : Int) + 1 < 300 := by omega
              have FL := fun h => HFD.out.lt k x h hx
              have FE := fun h => HFD.out.eq k x h hx
              have FG := fun h => HFD.out.gt k x h hx
              have HS := Lib.hid hs; have HBX := Lib.hid hbx; have HAT := Lib.hid hat
              clear hs hbx hat hx
              rcases Nat.lt_trichotomy (k + 1) N with h1 | h1 | h1
              · as_aux_lemma =>
                skip
                have l1 : decide ((k : Int) + 1 < (N : Int)) = true := decide_eq_true (by omega)
                have l2 : (((k : Int) + 1) == (N : Int)) = false := by simp; omega
                have l3 : decide ((N : Int) < (k : Int) + 1) = false := decide_eq_false (by omega)
                have e1 : (x.n.toList == f.n.toList) = false := by rw [beq_str]; exact decide_eq_false ((FL h1).2 rfl)
                clear FL FE FG
                go_wp2_with fail
                refine (H_len _ HS.out).mono ?_; rintro e w3 ⟨rfl, rfl⟩
                go_wp2_with fail
                refine (H_at _ _ HS.out (by omega)).mono ?_; rintro e w4 ⟨he, hc⟩
                rw [HAT.out] at he
                simp only [aF] at he
                subst he
                have h4 := HS.out.chg0 hc
                have x4 := HBX.out.chg hc (by simp)
                have x4l := x4.lt
                have x4' := x4
                rw [HBOX.out] at x4'
                have y0 := x4'.cell (o := 0) rfl
                have y1 := x4'.cell (o := 1) rfl
                have y2 := x4'.cell (o := 2) rfl
                have H4 := Lib.hid h4; have X4 := Lib.hid x4
                clear h4 x4 x4' hc HS HBX
                go_wp2_with fail
                go_roundw
                case rel => exact ⟨k + 1, by omega, by go_num, X4.out.alloc _, H4.out.alloc _⟩
                case measure => simp [intOf] <;> omega
              · as_aux_lemma =>
                skip
                have l1 : decide ((k : Int) + 1 < (N : Int)) = false := decide_eq_false (by omega)
                have l2 : (((k : Int) + 1) == (N : Int)) = true := by simp; omega
                have l3 : decide ((N : Int) < (k : Int) + 1) = false := decide_eq_false (by omega)
                obtain ⟨q1, q2, q3⟩ := FE h1
                have e1 : (x.n.toList == f.n.toList) = true := by rw [q1]; simp
                have e1n : (x.n.toList != f.n.toList) = false := by rw [q1]; simp
                have e2 : (x.v.toList == f.v.toList) = false := by rw [beq_str]; exact decide_eq_false (q3 rfl)
                clear FL FE FG q1 q2 q3 h1
                go_wp2_with fail
                refine (H_len _ HS.out).mono ?_; rintro e w3 ⟨rfl, rfl⟩
                go_wp2_with fail
                refine (H_at _ _ HS.out (by omega)).mono ?_; rintro e w4 ⟨he, hc⟩
                rw [HAT.out] at he
                simp only [aF] at he
                subst he
                have h4 := HS.out.chg0 hc
                have x4 := HBX.out.chg hc (by simp)
                have x4l := x4.lt
                have x4' := x4
                rw [HBOX.out] at x4'
                have y0 := x4'.cell (o := 0) rfl
                have y1 := x4'.cell (o := 1) rfl
                have y2 := x4'.cell (o := 2) rfl
                have H4 := Lib.hid h4; have X4 := Lib.hid x4
                clear h4 x4 x4' hc HS HBX
                go_wp2_with fail
                go_roundw
                case rel => exact ⟨k + 1, by omega, by go_num, X4.out.alloc _, H4.out.alloc _⟩
                case measure => simp [intOf] <;> omega
              · as_aux_lemma =>
                skip
                have l1 : decide ((k : Int) + 1 < (N : Int)) = false := decide_eq_false (by omega)
                have l2 : (((k : Int) + 1) == (N : Int)) = false := by simp; omega
                have l3 : decide ((N : Int) < (k : Int) + 1) = true := decide_eq_true (by omega)
                have hg := FG h1 rfl
                by_cases hxn : x.n = f.n
                · have e1 : (x.n.toList == f.n.toList) = true := by rw [hxn]; simp
                  have e2 : (x.v.toList == f.v.toList) = false := by rw [beq_str]; exact decide_eq_false (fun h => hg.1 ⟨hxn, h⟩)
                  have hN2 : ((N : Int) == 0) = false := by
                    have : N ≠ 0 := fun h => hg.2 h hxn
                    simp; omega
                  clear FL FE FG hg hxn hn0
                  go_wp2_with fail
                  refine (H_len _ HS.out).mono ?_; rintro e w3 ⟨rfl, rfl⟩
                  go_wp2_with fail
                  refine (H_at _ _ HS.out (by omega)).mono ?_; rintro e w4 ⟨he, hc⟩
                  rw [HAT.out] at he
                  simp only [aF] at he
                  subst he
                  have h4 := HS.out.chg0 hc
                  have x4 := HBX.out.chg hc (by simp)
                  have x4l := x4.lt
                  have x4' := x4
                  rw [HBOX.out] at x4'
                  have y0 := x4'.cell (o := 0) rfl
                  have y1 := x4'.cell (o := 1) rfl
                  have y2 := x4'.cell (o := 2) rfl
                  have H4 := Lib.hid h4; have X4 := Lib.hid x4
                  clear h4 x4 x4' hc HS HBX
                  go_wp2_with fail
                  go_roundw
                  case rel => exact ⟨k + 1, by omega, by go_num, X4.out.alloc _, H4.out.alloc _⟩
                  case measure => simp [intOf] <;> omega
                · have e1 : (x.n.toList == f.n.toList) = false := by rw [beq_str]; exact decide_eq_false hxn
                  clear FL FE FG hg hxn
                  go_wp2_with fail
                  refine (H_len _ HS.out).mono ?_; rintro e w3 ⟨rfl, rfl⟩
                  go_wp2_with fail
                  refine (H_at _ _ HS.out (by omega)).mono ?_; rintro e w4 ⟨he, hc⟩
                  rw [HAT.out] at he
                  simp only [aF] at he
                  subst he
                  have h4 := HS.out.chg0 hc
                  have x4 := HBX.out.chg hc (by simp)
                  have x4l := x4.lt
                  have x4' := x4
                  rw [HBOX.out] at x4'
                  have y0 := x4'.cell (o := 0) rfl
                  have y1 := x4'.cell (o := 1) rfl
                  have y2 := x4'.cell (o := 2) rfl
                  have H4 := Lib.hid h4; have X4 := Lib.hid x4
                  clear h4 x4 x4' hc HS HBX
                  go_wp2_with fail
                  go_roundw
                  case rel => exact ⟨k + 1, by omega, by go_num, X4.out.alloc _, H4.out.alloc _⟩
                  case measure => simp [intOf] <;> omega
            · as_aux_lemma =>
              skip
              obtain rfl : k = 61 + es.length := by omega
              have hdd : decide (((61 + es.length : Nat) : Int) + 1 ≤ 61 + (es.length : Int)) = false := decide_eq_false (by omega)
              have HS := Lib.hid hs
              clear hs hbx hkl
              go_wp2_with fail
              refine (H_len _ HS.out).mono ?_; rintro e w3 ⟨rfl, rfl⟩
              go_wp2_with fail
              refine (H_at 0 _ HS.out (by omega)).mono ?_; rintro e w4 ⟨he, hc⟩
              rw [atR_none (Or.inl (by omega))] at he
              simp only [aF, Fd.no] at he
              subst he
              have h4 := HS.out.chg0 hc
              have h4' := h4.alloc (.cells #[.string ⟨#[]⟩, .string ⟨#[]⟩, .bool false] 23)
              have H4 := Lib.hid h4'
              clear h4 h4' hc HS
              go_wp2_with fail
              refine (H_len _ H4.out).mono ?_; rintro e w3 ⟨rfl, rfl⟩
              go_wp2_with fail
              refine (H_at _ _ H4.out (by omega)).mono ?_; rintro e w5 ⟨he, hc⟩
              rw [atR_none (Or.inr (by omega))] at he
              simp only [aF, Fd.no] at he
              subst he
              have H5 := Lib.hid (H4.out.chg0 hc)
              clear hc H4
              go_wp2_with fail
              go_ret
              exact ⟨rfl, (H5.out.alloc _).below⟩
        · as_aux_lemma =>
          skip
          go_wp2_with fail
          refine (H_len _ H3.out).mono ?_; rintro e w3 ⟨rfl, rfl⟩
          go_wp2_with fail
          go_loopw [12] (fun iv wt => ∃ k : Nat, k ≤ 61 + es.length ∧ iv = .int .i64 ((k : Int) + 1) ∧ At wt B box ∧ Has W wt F p m es) (fun iv _ => 103 - (intOf iv).toNat)
          case atStart => exact ⟨0, by omega, rfl, X3.out, H3.out⟩
          case round =>
            clear H3 X3
            obtain ⟨k, hk, rfl, hbx, hs⟩ := hrel
            by_cases hkl : k < 61 + es.length
            · skip
              obtain ⟨x, hx⟩ : ∃ x, (allF es)[k]? = some x := ⟨_, List.getElem?_eq_getElem (by rw [allF_len]; exact hkl)⟩
              have hat : atR es ((k : Int) + 1) = (x, true) := by
                unfold atR atL
                rw [allF_len, if_pos (by omega), List.getD_eq_getElem?_getD, show ((k : Int) + 1).toNat - 1 = k by omega, hx]; rfl
              have hd1 : decide ((k : Int) + 1 ≤ 61 + (es.length : Int)) = true := decide_eq_true (by omega)
              have hd2 : decide ((k : Int) + 1 < 300) = true := decide_eq_true (by omega)
              have hc1 : (k : Int) + 1 ≤ 61 + (es.length : Int) := by omega
              have hc2 : (k : Int) + 1 < 300 := by omega
              have FL := fun h => HFD.out.lt k x h hx
              have FE := fun h => HFD.out.eq k x h hx
              have FG := fun h => HFD.out.gt k x h hx
              have HS := Lib.hid hs; have HBX := Lib.hid hbx; have HAT := Lib.hid hat
              clear hs hbx hat hx
              rcases Nat.lt_trichotomy (k + 1) N with h1 | h1 | h1
              · as_aux_lemma =>
                skip
                have l1 : decide ((k : Int) + 1 < (N : Int)) = true := decide_eq_true (by omega)
                have l2 : (((k : Int) + 1) == (N : Int)) = false := by simp; omega
                have l3 : decide ((N : Int) < (k : Int) + 1) = false := decide_eq_false (by omega)
                have hno := (FL h1).1
                by_cases hxn : x.n = f.n
                · have e1 : (x.n.toList == f.n.toList) = true := by rw [hxn]; simp
                  have e2 : (x.v.toList == f.v.toList) = false := by rw [beq_str]; exact decide_eq_false (fun h => hno ⟨hxn, h⟩)
                  clear FL FE FG hno hxn
                  go_wp2_with fail
                  refine (H_len _ HS.out).mono ?_; rintro e w3 ⟨rfl, rfl⟩
                  go_wp2_with fail
                  refine (H_at _ _ HS.out (by omega)).mono ?_; rintro e w4 ⟨he, hc⟩
                  rw [HAT.out] at he
                  simp only [aF] at he
                  subst he
                  have h4 := HS.out.chg0 hc
                  have x4 := HBX.out.chg hc (by simp)
                  have x4l := x4.lt
                  have x4' := x4
                  rw [HBOX.out] at x4'
                  have y0 := x4'.cell (o := 0) rfl
                  have y1 := x4'.cell (o := 1) rfl
                  have y2 := x4'.cell (o := 2) rfl
                  have H4 := Lib.hid h4; have X4 := Lib.hid x4
                  clear h4 x4 x4' hc HS HBX
                  go_wp2_with fail
                  go_roundw
                  case rel => exact ⟨k + 1, by omega, by go_num, X4.out.alloc _, H4.out.alloc _⟩
                  case measure => simp [intOf] <;> omega
                · have e1 : (x.n.toList == f.n.toList) = false := by rw [beq_str]; exact decide_eq_false hxn
                  clear FL FE FG hno hxn
                  go_wp2_with fail
                  refine (H_len _ HS.out).mono ?_; rintro e w3 ⟨rfl, rfl⟩
                  go_wp2_with fail
                  refine (H_at _ _ HS.out (by omega)).mono ?_; rintro e w4 ⟨he, hc⟩
                  rw [HAT.out] at he
                  simp only [aF] at he
                  subst he
                  have h4 := HS.out.chg0 hc
                  have x4 := HBX.out.chg hc (by simp)
                  have x4l := x4.lt
                  have x4' := x4
                  rw [HBOX.out] at x4'
                  have y0 := x4'.cell (o := 0) rfl
                  have y1 := x4'.cell (o := 1) rfl
                  have y2 := x4'.cell (o := 2) rfl
                  have H4 := Lib.hid h4; have X4 := Lib.hid x4
                  clear h4 x4 x4' hc HS HBX
                  go_wp2_with fail
                  go_roundw
                  case rel => exact ⟨k + 1, by omega, by go_num, X4.out.alloc _, H4.out.alloc _⟩
                  case measure => simp [intOf] <;> omega
              · as_aux_lemma =>
                skip
                have l1 : decide ((k : Int) + 1 < (N : Int)) = false := decide_eq_false (by omega)
                have l2 : (((k : Int) + 1) == (N : Int)) = true := by simp; omega
                have l3 : decide ((N : Int) < (k : Int) + 1) = false := decide_eq_false (by omega)
                obtain ⟨q1, q2, q3⟩ := FE h1
                have e1 : (x.n.toList == f.n.toList) = true := by rw [q1]; simp
                have e1n : (x.n.toList != f.n.toList) = false := by rw [q1]; simp
                have e2 : (x.v.toList == f.v.toList) = true := by rw [q2 rfl]; simp
                clear FL FE FG q1 q2 q3 h1
                go_wp2_with fail
                refine (H_len _ HS.out).mono ?_; rintro e w3 ⟨rfl, rfl⟩
                go_wp2_with fail
                refine (H_at _ _ HS.out (by omega)).mono ?_; rintro e w4 ⟨he, hc⟩
                rw [HAT.out] at he
                simp only [aF] at he
                subst he
                have h4 := HS.out.chg0 hc
                have x4 := HBX.out.chg hc (by simp)
                have x4l := x4.lt
                have x4' := x4
                rw [HBOX.out] at x4'
                have y0 := x4'.cell (o := 0) rfl
                have y1 := x4'.cell (o := 1) rfl
                have y2 := x4'.cell (o := 2) rfl
                have H4 := Lib.hid h4; have X4 := Lib.hid x4
                clear h4 x4 x4' hc HS HBX
                go_wp2_with fail
                go_roundw
                case rel => exact ⟨k + 1, by omega, by go_num, X4.out.alloc _, H4.out.alloc _⟩
                case measure => simp [intOf] <;> omega
              · as_aux_lemma =>
                skip
                have l1 : decide ((k : Int) + 1 < (N : Int)) = false := decide_eq_false (by omega)
                have l2 : (((k : Int) + 1) == (N : Int)) = false := by simp; omega
                have l3 : decide ((N : Int) < (k : Int) + 1) = true := decide_eq_true (by omega)
                clear FL FE FG
                by_cases hxn : x.n = f.n
                · have e1 : (x.n.toList == f.n.toList) = true := by rw [hxn]; simp
                  by_cases hxv : x.v = f.v
                  · have e2 : (x.v.toList == f.v.toList) = true := by rw [hxv]; simp
                    clear hxn hxv
                    go_wp2_with fail
                    refine (H_len _ HS.out).mono ?_; rintro e w3 ⟨rfl, rfl⟩
                    go_wp2_with fail
                    refine (H_at _ _ HS.out (by omega)).mono ?_; rintro e w4 ⟨he, hc⟩
                    rw [HAT.out] at he
                    simp only [aF] at he
                    subst he
                    have h4 := HS.out.chg0 hc
                    have x4 := HBX.out.chg hc (by simp)
                    have x4l := x4.lt
                    have x4' := x4
                    rw [HBOX.out] at x4'
                    have y0 := x4'.cell (o := 0) rfl
                    have y1 := x4'.cell (o := 1) rfl
                    have y2 := x4'.cell (o := 2) rfl
                    have H4 := Lib.hid h4; have X4 := Lib.hid x4
                    clear h4 x4 x4' hc HS HBX
                    go_wp2_with fail
                    go_roundw
                    case rel => exact ⟨k + 1, by omega, by go_num, X4.out.alloc _, H4.out.alloc _⟩
                    case measure => simp [intOf] <;> omega
                  · have e2 : (x.v.toList == f.v.toList) = false := by rw [beq_str]; exact decide_eq_false hxv
                    clear hxn hxv
                    go_wp2_with fail
                    refine (H_len _ HS.out).mono ?_; rintro e w3 ⟨rfl, rfl⟩
                    go_wp2_with fail
                    refine (H_at _ _ HS.out (by omega)).mono ?_; rintro e w4 ⟨he, hc⟩
                    rw [HAT.out] at he
                    simp only [aF] at he
                    subst he
                    have h4 := HS.out.chg0 hc
                    have x4 := HBX.out.chg hc (by simp)
                    have x4l := x4.lt
                    have x4' := x4
                    rw [HBOX.out] at x4'
                    have y0 := x4'.cell (o := 0) rfl
                    have y1 := x4'.cell (o := 1) rfl
                    have y2 := x4'.cell (o := 2) rfl
                    have H4 := Lib.hid h4; have X4 := Lib.hid x4
                    clear h4 x4 x4' hc HS HBX
                    go_wp2_with fail
                    go_roundw
                    case rel => exact ⟨k + 1, by omega, by go_num, X4.out.alloc _, H4.out.alloc _⟩
                    case measure => simp [intOf] <;> omega
                · have e1 : (x.n.toList == f.n.toList) = false := by rw [beq_str]; exact decide_eq_false hxn
                  clear hxn
                  go_wp2_with fail
                  refine (H_len _ HS.out).mono ?_; rintro e w3 ⟨rfl, rfl⟩
                  go_wp2_with fail
                  refine (H_at _ _ HS.out (by omega)).mono ?_; rintro e w4 ⟨he, hc⟩
                  rw [HAT.out] at he
                  simp only [aF] at he
                  subst he
                  have h4 := HS.out.chg0 hc
                  have x4 := HBX.out.chg hc (by simp)
                  have x4l := x4.lt
                  have x4' := x4
                  rw [HBOX.out] at x4'
                  have y0 := x4'.cell (o := 0) rfl
                  have y1 := x4'.cell (o := 1) rfl
                  have y2 := x4'.cell (o := 2) rfl
                  have H4 := Lib.hid h4; have X4 := Lib.hid x4
                  clear h4 x4 x4' hc HS HBX
                  go_wp2_with fail
                  go_roundw
                  case rel => exact ⟨k + 1, by omega, by go_num, X4.out.alloc _, H4.out.alloc _⟩
                  case measure => simp [intOf] <;> omega
            · as_aux_lemma =>
              skip
              obtain rfl : k = 61 + es.length := by omega
              have hdd : decide (((61 + es.length : Nat) : Int) + 1 ≤ 61 + (es.length : Int)) = false := decide_eq_false (by omega)
              have HS := Lib.hid hs
              clear hs hbx hkl
              go_wp2_with fail
              refine (H_len _ HS.out).mono ?_; rintro e w3 ⟨rfl, rfl⟩
              go_wp2_with fail
              refine (H_at 0 _ HS.out (by omega)).mono ?_; rintro e w4 ⟨he, hc⟩
              rw [atR_none (Or.inl (by omega))] at he
              simp only [aF, Fd.no] at he
              subst he
              have h4 := HS.out.chg0 hc
              have h4' := h4.alloc (.cells #[.string ⟨#[]⟩, .string ⟨#[]⟩, .bool false] 23)
              have H4 := Lib.hid h4'
              clear h4 h4' hc HS
              go_wp2_with fail
              refine (H_len _ H4.out).mono ?_; rintro e w3 ⟨rfl, rfl⟩
              go_wp2_with fail
              refine (H_at _ _ H4.out (by omega)).mono ?_; rintro e w5 ⟨he, hc⟩
              rw [atR_none (Or.inr (by omega))] at he
              simp only [aF, Fd.no] at he
              subst he
              have H5 := Lib.hid (H4.out.chg0 hc)
              clear hc H4
              go_wp2_with fail
              go_ret
              exact ⟨rfl, (H5.out.alloc _).below⟩

/-! ### The row's step -/
theorem own : ownKnob Try.prog.godebug = none := by kernel_rfl
theorem laid : laidOutB Try.prog = true := by kernel_rfl

set_option maxRecDepth 100000 in
theorem lifted (os : Os) (started : os.Started) (H : Type) (enc : TypeId × Value → H) :
    ReturnsInHanded {} Try.checked os 8 .any (Rows.tableFindsSpec.pre6 enc Try.prog Try.f8 Rows.tableFindsRow.domain false) (Rows.tableFindsSpec.post enc Try.prog Try.f8 false true false false) := by
  refine lift_law (C := Try.checked) (tb := 4) own started (by kernel_rfl) Try.func8
    (ChangeSpec.witness6 (enc := enc) (C := Try.checked) false ⟨#[], #[.int .i64 0, .slice none 0 0, .agg #[.string ⟨#[]⟩, .string ⟨#[]⟩, .bool false]], []⟩ 8 (by kernel_rfl) (by kernel_rfl) (by kernel_rfl) (by kernel_rfl))
    laid (by rw [Try.params8]; intro t ht; simp only [List.mem_cons, List.not_mem_nil, or_false] at ht; rcases ht with rfl | rfl | rfl <;> exact ⟨by kernel_rfl, of_decide_eq_true (by kernel_rfl)⟩) (by kernel_rfl) Try.underlying4 rfl
    (fun ds h => by rw [Try.params8] at h; match ds, h with | [d0, d1, d2], _ => rfl) ?_
  intro W base args ds before hval hA hlt hsz
  rw [Try.params8] at hA hval
  try rw [Try.params8] at hsz
  have hlt0 := hlt
  obtain ⟨v0, vs0, d0, ds0, p0, q0, hargs, rfl, rfl, h0, r0⟩ := trodAll_cons hA
  obtain ⟨v1, vs1, d1, ds1, p1, q1, rfl, rfl, rfl, h1, r1⟩ := trodAll_cons r0
  obtain ⟨v2, vs2, d2, ds2, p2, q2, rfl, rfl, rfl, h2, r2⟩ := trodAll_cons r1
  obtain ⟨rfl, rfl, rfl⟩ := trodAll_nil r2
  obtain rfl : args = #[v0, v1, v2] := by cases args; simp_all
  have l0 : ∀ p ∈ p0, p.block < W.heap.size := fun x hx => hlt x (by simp [hx])
  have l1 : ∀ p ∈ p1, p.block < W.heap.size := fun x hx => hlt x (by simp [hx])
  have l2 : ∀ p ∈ p2, p.block < W.heap.size := fun x hx => hlt x (by simp [hx])
  obtain ⟨i0, rfl, rfl, rfl, wi0⟩ := open_int Try.underlying3 (hval 0 3 v0 rfl rfl) h0
  obtain ⟨zs, zg, zb, zm, zs1⟩ := open_slice_w 3 encF Fd.In Try.underlying25 (by kernel_rfl) (by omega) (hval 1 25 v1 rfl rfl) decF h1 l1 (small_of hsz (j := 1) rfl rfl)
  obtain ⟨f1, rfl, hf1⟩ := open_struct_w 3 encF Fd.In Try.underlying23 (by kernel_rfl) (hval 2 23 v2 rfl rfl) decF h2 (small_of hsz (j := 2) rfl rfl)
  exact walk i0 v1 zs f1 W zm zs1 zg hf1

theorem over : Rows.tableFindsRow.holds Try.pinned (OpenSpec.ofChange Rows.tableFindsSpec) :=
  OpenClaim.holds_of_wide 8 Try.f8 rfl rfl rfl rfl rfl rfl rfl ⟨rfl, rfl, rfl, rfl, rfl⟩ rfl rfl rfl rfl rfl (by kernel_rfl) Try.func8 (by kernel_rfl)
    (of_decide_eq_true (by kernel_rfl)) (by unfold Func.isWrapper; first | (rw [if_pos (by decide +kernel)]; kernel_rfl) | (rw [if_neg (by decide +kernel)]; exact ⟨rfl, rfl⟩))
    (fun os started H enc _ => lifted os started H enc)

/-- The statement. -/
theorem proved : Rows.TableFindsSaid :=
  over
#print axioms proved

end Go.Proofs.Ythhfnmgonjippaa.Tb.Finds
