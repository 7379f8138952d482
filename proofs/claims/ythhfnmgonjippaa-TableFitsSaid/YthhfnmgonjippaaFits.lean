/-
  TableFits: a table never has more than Max: any Max, any steps.
-/
import Derived.Test.YthhfnmgonjippaaArgT
namespace Go.Proofs.Ythhfnmgonjippaa.Tb.Fits
open Go.ChangeShapes Go.WideShapes Go.ChangeAt Go.RowKit
open Go.Proofs.Ythhfnmgonjippaa.B
set_option linter.unusedVariables false
set_option linter.unusedSimpArgs false

theorem rev_get {es : List Fd} {k : Nat} (hk : k < es.length) : ∃ f, es[es.length - 1 - k]? = some f ∧ es.reverse[k]? = some f := by
  refine ⟨es[es.length - 1 - k]'(by omega), List.getElem?_eq_getElem (by omega), ?_⟩
  rw [List.getElem?_reverse hk]
  exact List.getElem?_eq_getElem (by omega)
theorem tot_take_succ {l : List Fd} {k : Nat} {f : Fd} (h : l[k]? = some f) : tot (l.take (k + 1)) = tot (l.take k) + f.sz := by
  obtain ⟨hk, rfl⟩ := List.getElem?_eq_some_iff.1 h
  rw [List.take_succ_eq_append_getElem hk, tot_append]; simp [tot]
theorem tot_take_le (l : List Fd) (k : Nat) : tot (l.take k) ≤ tot l := by
  have := tot_append (l.take k) (l.drop k)
  rw [List.take_append_drop] at this; omega
set_option maxRecDepth 100000 in
set_option maxHeartbeats 16000000 in
theorem walk (mx : Int) (v : Value) (zs : List O) (W : World) (hmx : (Lit.int .i64 mx).wf = true) (hzm : zs.length ≤ maxLen) (hsl : SliceOf W v 5 encO zs) (hin : ∀ z ∈ zs, z.In) :
    Calls Try.prog 4 #[.int .i64 mx, v] W fun e w' => e = .returned (.bool true) ∧ Below W.heap.size W w' := by
  obtain ⟨a, cap, rfl, hcap, hcapm⟩ := hsl.len
  obtain ⟨hx1, hx2⟩ := i64_bounds hmx
  have HSL := Lib.hid hsl; have HIN := Lib.hid hin
  unfold maxLen at hzm hcapm
  clear hsl hin hmx
  go_enter Try.func4, Try.ntmps4
  go_wp2_with fail
  refine (shown_any _).mono ?_; rintro e w1 ⟨rfl, c1⟩
  go_wp2_with fail
  refine (H_new (W := W) mx _ c1.below_nil).mono ?_; rintro e w2 ⟨rfl, c2, F, h2, _⟩
  generalize w1.heap.size = p at *
  have H2 := Lib.hid h2
  clear c1 c2 h2
  go_wp2_with fail
  go_loopw [7, 8] (fun lv iv wr => ∃ (i : Nat) (F : List Nat) (m : Nat) (es : List Fd) (lim : Int), i ≤ zs.length ∧ i ≤ 60 ∧ iv = .int .i64 i ∧ lv = .int .i64 lim ∧ -9223372036854775808 ≤ lim ∧ lim ≤ 9223372036854775807 ∧ m = hgt lim ∧ Has W wr F p m es) (fun _ iv _ => 60 - (intOf iv).toNat)
  case atStart => exact ⟨0, F, _, _, mx, by omega, by omega, rfl, rfl, hx1, hx2, rfl, H2.out⟩
  case round =>
    clear H2
    obtain ⟨i, F, m, es, lim, hi1, hi2, rfl, rfl, hl1, hl2, hm, hs⟩ := hrel
    rename_i wr
    by_cases hlt : i < zs.length ∧ i < 60
    · obtain ⟨hlt1, hlt2⟩ := hlt
      have hlt3 : (i : Int) < 60 := by omega
      obtain ⟨o, ho⟩ : ∃ o, zs[i]? = some o := ⟨_, List.getElem?_eq_getElem hlt1⟩
      obtain ⟨b, off, rfl, hbw, hcell⟩ := o_cells HSL.out (by omega)
      obtain ⟨d0, d1, d2, d3, d4⟩ := hcell i o ho
      have hbc : ∀ w', Below W.heap.size W w' → ∀ j, w'.cell? ⟨b, j, none⟩ = W.cell? ⟨b, j, none⟩ := fun w' h j => h.cell (p := ⟨b, j, none⟩) hbw
      have HBC := Lib.hid hbc
      clear hbc
      have c0 := d0; have c1 := d1; have c2 := d2; have c3 := d3; have c4 := d4
      rw [← HBC.out wr hs.below] at c0 c1 c2 c3 c4
      have D1 := Lib.hid d1
      clear d0 d1 d2 d3 d4
      obtain ⟨hn1, hn2, hfin⟩ := HIN.out o (List.mem_of_getElem? ho)
      have hfs := hfin.sz
      have HS := Lib.hid hs; have HM := Lib.hid hm; have HO := Lib.hid ho
      clear hcell hs hm ho hfin
      rcases eqC o.k 1 with ⟨e1, e2⟩ | ⟨e1, e2⟩
      · clear e1
        go_wp2_with fail
        refine (H_add o.f _ HS.out hfs).mono ?_; rintro e w3 ⟨rfl, ⟨F3, h3, f3⟩, c3'⟩
        obtain ⟨es2, hes⟩ : ∃ es2, es2 = addS o.f m es := ⟨_, rfl⟩
        rw [← hes] at h3
        clear hes f3 c3' e2 c0 c1 c2 c3 c4
        have hmt := (h3).inv.t
        have hm6 := (h3).inv.hm
        have hlen := (h3).inv.len
        have hnv := (h3).inv.nv
        have HS := Lib.hid h3; have HNV := Lib.hid hnv
        clear hnv
        go_wp2_with fail
        go_loopw [9, 10] (fun nv kv wt => ∃ k T : Nat, k ≤ (es2).length ∧ kv = .int .i64 k ∧ T = tot ((es2).reverse.take k) ∧ nv = .int .i64 T ∧ Has W wt F3 p m es2) (fun _ kv _ => (es2).length - (intOf kv).toNat)
        case atStart => exact ⟨0, 0, by omega, rfl, by simp [tot], rfl, HS.out⟩
        case round =>
          clear HS
          obtain ⟨k, T, hk, rfl, hT, rfl, hs⟩ := hrel
          have hT6 : T ≤ 65536 := by rw [hT]; have := tot_take_le (es2).reverse k; rw [tot_reverse] at this; omega
          by_cases hlt : k < (es2).length
          · obtain ⟨f, hf1, hf2⟩ := rev_get hlt
            have hat : atR es2 ((k : Int) + 62) = (f, true) := atR_high hf1 hlt
            have hfn : f.nv = false := HNV.out f (List.mem_of_getElem? hf1)
            have hsz : f.sz ≤ 65536 := hs.inv.sz (List.mem_of_getElem? hf1)
            have hts := tot_take_succ hf2
            rw [← hT] at hts
            have HS := Lib.hid hs; have HTS := Lib.hid hts; have HAT := Lib.hid hat; have HFN := Lib.hid hfn
            clear hs hts hat hfn hf1 hf2 hT
            go_wp2_with fail
            refine (H_len _ HS.out).mono ?_; rintro e w1 ⟨rfl, rfl⟩
            go_wp2_with fail
            rw [show (62 : Int) + (k : Int) = (k : Int) + 62 by omega]
            refine (H_at _ _ HS.out (by omega)).mono ?_; rintro e w1 ⟨he, hc⟩
            rw [HAT.out] at he
            simp only [aF] at he
            rw [HFN.out] at he
            subst he
            have h1 := HS.out.chg0 hc
            have hlt1 : W.heap.size ≤ w1.heap.size := h1.below.size
            have H1 := Lib.hid h1
            clear hc h1 HS
            go_wp2_with fail
            refine (size_any ⟨f.n, f.v, false⟩ _ (by show f.n.size + f.v.size + 32 ≤ _; have : f.n.size + f.v.size + 32 = f.sz := rfl; omega)).mono ?_; rintro e w2 ⟨he, rfl⟩
            rw [show Fd.sz ⟨f.n, f.v, false⟩ = f.sz from rfl] at he
            subst he
            go_wp2_with fail
            go_roundw
            case rel => exact ⟨k + 1, T + f.sz, by omega, by go_num, HTS.out.symm, by go_num, (H1.out.alloc _).alloc _⟩
            case measure => simp [intOf] <;> omega
          · obtain rfl : k = (es2).length := by omega
            rw [List.take_of_length_le (by simp), tot_reverse] at hT
            subst hT
            have hd1 : decide (((m : Nat) : Int) < (tot es2 : Int)) = false := by simp; omega
            have hd2 : decide (m < tot es2) = false := by simp; omega
            have HS := Lib.hid hs
            clear hs
            rcases Int.lt_or_le lim 0 with hneg | hpos
            · have hm0 : ((m : Nat) : Int) = 0 := by rw [HM.out, hgt_cast]; omega
              have hm1 : (((m : Nat) : Int) != 0) = false := by rw [hm0]; rfl
              have hq1 : decide (0 ≤ lim) = false := by simp; omega
              clear hm0
              go_wp2_with fail
              refine (H_len _ HS.out).mono ?_; rintro e w1 ⟨rfl, rfl⟩
              go_wp2_with fail
              refine (H_size _ HS.out).mono ?_; rintro e w1 ⟨rfl, rfl⟩
              go_wp2_with fail
              refine (H_max _ HS.out).mono ?_; rintro e w1 ⟨rfl, rfl⟩
              go_wp2_with fail
              refine (H_max _ HS.out).mono ?_; rintro e w1 ⟨rfl, rfl⟩
              go_wp2_with fail
              go_roundw
              case rel => exact ⟨i + 1, _, _, _, lim, by omega, by omega, by go_num, rfl, by omega, by omega, HM.out, HS.out⟩
              case measure => simp [intOf] <;> omega
            · have hm0 : ((m : Nat) : Int) = min 65536 lim := by rw [HM.out, hgt_cast]; omega
              have hm1 : (((m : Nat) : Int) != min 65536 lim) = false := by rw [hm0]; simp
              have hq1 : decide (lim < 0) = false := by simp; omega
              clear hm0
              go_wp2_with fail
              refine (H_len _ HS.out).mono ?_; rintro e w1 ⟨rfl, rfl⟩
              go_wp2_with fail
              refine (H_size _ HS.out).mono ?_; rintro e w1 ⟨rfl, rfl⟩
              go_wp2_with fail
              refine (H_max _ HS.out).mono ?_; rintro e w1 ⟨rfl, rfl⟩
              go_wp2_with fail
              refine (H_max _ HS.out).mono ?_; rintro e w1 ⟨rfl, rfl⟩
              go_wp2_with fail
              go_roundw
              case rel => exact ⟨i + 1, _, _, _, lim, by omega, by omega, by go_num, rfl, by omega, by omega, HM.out, HS.out⟩
              case measure => simp [intOf] <;> omega
      · rcases eqC o.k 2 with ⟨e3, e4⟩ | ⟨e3, e4⟩
        · clear e1 e3
          go_wp2_with fail
          refine (H_set o.n _ HS.out).mono ?_; rintro e w3 ⟨rfl, ⟨F3, h3, f3⟩, c3'⟩
          obtain ⟨m2, hm2⟩ : ∃ m2, m2 = hgt o.n := ⟨_, rfl⟩
          rw [← hm2] at h3
          obtain ⟨es2, hes⟩ : ∃ es2, es2 = fit 0 m2 es := ⟨_, rfl⟩
          rw [← hes] at h3
          have d1 := D1.out
          rw [← HBC.out w3 h3.below] at d1
          obtain ⟨nn, hnn⟩ : ∃ nn, nn = o.n := ⟨_, rfl⟩
          rw [← hnn] at hm2 d1 hn1 hn2 c1
          have HM := Lib.hid hm2
          clear hes f3 c3' e2 e4 c0 c2 c3 c4 hm2 hnn
          have hmt := (h3).inv.t
          have hm6 := (h3).inv.hm
          have hlen := (h3).inv.len
          have hnv := (h3).inv.nv
          have HS := Lib.hid h3; have HNV := Lib.hid hnv
          clear hnv
          go_wp2_with fail
          go_loopw [9, 10] (fun nv kv wt => ∃ k T : Nat, k ≤ (es2).length ∧ kv = .int .i64 k ∧ T = tot ((es2).reverse.take k) ∧ nv = .int .i64 T ∧ Has W wt F3 p m2 es2) (fun _ kv _ => (es2).length - (intOf kv).toNat)
          case atStart => exact ⟨0, 0, by omega, rfl, by simp [tot], rfl, HS.out⟩
          case round =>
            clear HS
            obtain ⟨k, T, hk, rfl, hT, rfl, hs⟩ := hrel
            have hT6 : T ≤ 65536 := by rw [hT]; have := tot_take_le (es2).reverse k; rw [tot_reverse] at this; omega
            by_cases hlt : k < (es2).length
            · obtain ⟨f, hf1, hf2⟩ := rev_get hlt
              have hat : atR es2 ((k : Int) + 62) = (f, true) := atR_high hf1 hlt
              have hfn : f.nv = false := HNV.out f (List.mem_of_getElem? hf1)
              have hsz : f.sz ≤ 65536 := hs.inv.sz (List.mem_of_getElem? hf1)
              have hts := tot_take_succ hf2
              rw [← hT] at hts
              have HS := Lib.hid hs; have HTS := Lib.hid hts; have HAT := Lib.hid hat; have HFN := Lib.hid hfn
              clear hs hts hat hfn hf1 hf2 hT
              go_wp2_with fail
              refine (H_len _ HS.out).mono ?_; rintro e w1 ⟨rfl, rfl⟩
              go_wp2_with fail
              rw [show (62 : Int) + (k : Int) = (k : Int) + 62 by omega]
              refine (H_at _ _ HS.out (by omega)).mono ?_; rintro e w1 ⟨he, hc⟩
              rw [HAT.out] at he
              simp only [aF] at he
              rw [HFN.out] at he
              subst he
              have h1 := HS.out.chg0 hc
              have hlt1 : W.heap.size ≤ w1.heap.size := h1.below.size
              have H1 := Lib.hid h1
              clear hc h1 HS
              go_wp2_with fail
              refine (size_any ⟨f.n, f.v, false⟩ _ (by show f.n.size + f.v.size + 32 ≤ _; have : f.n.size + f.v.size + 32 = f.sz := rfl; omega)).mono ?_; rintro e w2 ⟨he, rfl⟩
              rw [show Fd.sz ⟨f.n, f.v, false⟩ = f.sz from rfl] at he
              subst he
              go_wp2_with fail
              go_roundw
              case rel => exact ⟨k + 1, T + f.sz, by omega, by go_num, HTS.out.symm, by go_num, (H1.out.alloc _).alloc _⟩
              case measure => simp [intOf] <;> omega
            · obtain rfl : k = (es2).length := by omega
              rw [List.take_of_length_le (by simp), tot_reverse] at hT
              subst hT
              have hd1 : decide (((m2 : Nat) : Int) < (tot es2 : Int)) = false := by simp; omega
              have hd2 : decide (m2 < tot es2) = false := by simp; omega
              have HS := Lib.hid hs
              clear hs
              rcases Int.lt_or_le nn 0 with hneg | hpos
              · have hm0 : ((m2 : Nat) : Int) = 0 := by rw [HM.out, hgt_cast]; omega
                have hm1 : (((m2 : Nat) : Int) != 0) = false := by rw [hm0]; rfl
                have hq1 : decide (0 ≤ nn) = false := by simp; omega
                clear hm0
                go_wp2_with fail
                refine (H_len _ HS.out).mono ?_; rintro e w1 ⟨rfl, rfl⟩
                go_wp2_with fail
                refine (H_size _ HS.out).mono ?_; rintro e w1 ⟨rfl, rfl⟩
                go_wp2_with fail
                refine (H_max _ HS.out).mono ?_; rintro e w1 ⟨rfl, rfl⟩
                go_wp2_with fail
                refine (H_max _ HS.out).mono ?_; rintro e w1 ⟨rfl, rfl⟩
                go_wp2_with fail
                go_roundw
                case rel => exact ⟨i + 1, _, _, _, nn, by omega, by omega, by go_num, rfl, by omega, by omega, HM.out, HS.out⟩
                case measure => simp [intOf] <;> omega
              · have hm0 : ((m2 : Nat) : Int) = min 65536 nn := by rw [HM.out, hgt_cast]; omega
                have hm1 : (((m2 : Nat) : Int) != min 65536 nn) = false := by rw [hm0]; simp
                have hq1 : decide (nn < 0) = false := by simp; omega
                clear hm0
                go_wp2_with fail
                refine (H_len _ HS.out).mono ?_; rintro e w1 ⟨rfl, rfl⟩
                go_wp2_with fail
                refine (H_size _ HS.out).mono ?_; rintro e w1 ⟨rfl, rfl⟩
                go_wp2_with fail
                refine (H_max _ HS.out).mono ?_; rintro e w1 ⟨rfl, rfl⟩
                go_wp2_with fail
                refine (H_max _ HS.out).mono ?_; rintro e w1 ⟨rfl, rfl⟩
                go_wp2_with fail
                go_roundw
                case rel => exact ⟨i + 1, _, _, _, nn, by omega, by omega, by go_num, rfl, by omega, by omega, HM.out, HS.out⟩
                case measure => simp [intOf] <;> omega
        · clear e1 e3
          have h3 := HS.out
          have hmt := (h3).inv.t
          have hm6 := (h3).inv.hm
          have hlen := (h3).inv.len
          have hnv := (h3).inv.nv
          have HS := Lib.hid h3; have HNV := Lib.hid hnv
          clear hnv
          go_wp2_with fail
          go_loopw [9, 10] (fun nv kv wt => ∃ k T : Nat, k ≤ (es).length ∧ kv = .int .i64 k ∧ T = tot ((es).reverse.take k) ∧ nv = .int .i64 T ∧ Has W wt F p m es) (fun _ kv _ => (es).length - (intOf kv).toNat)
          case atStart => exact ⟨0, 0, by omega, rfl, by simp [tot], rfl, HS.out⟩
          case round =>
            clear HS
            obtain ⟨k, T, hk, rfl, hT, rfl, hs⟩ := hrel
            have hT6 : T ≤ 65536 := by rw [hT]; have := tot_take_le (es).reverse k; rw [tot_reverse] at this; omega
            by_cases hlt : k < (es).length
            · obtain ⟨f, hf1, hf2⟩ := rev_get hlt
              have hat : atR es ((k : Int) + 62) = (f, true) := atR_high hf1 hlt
              have hfn : f.nv = false := HNV.out f (List.mem_of_getElem? hf1)
              have hsz : f.sz ≤ 65536 := hs.inv.sz (List.mem_of_getElem? hf1)
              have hts := tot_take_succ hf2
              rw [← hT] at hts
              have HS := Lib.hid hs; have HTS := Lib.hid hts; have HAT := Lib.hid hat; have HFN := Lib.hid hfn
              clear hs hts hat hfn hf1 hf2 hT
              go_wp2_with fail
              refine (H_len _ HS.out).mono ?_; rintro e w1 ⟨rfl, rfl⟩
              go_wp2_with fail
              rw [show (62 : Int) + (k : Int) = (k : Int) + 62 by omega]
              refine (H_at _ _ HS.out (by omega)).mono ?_; rintro e w1 ⟨he, hc⟩
              rw [HAT.out] at he
              simp only [aF] at he
              rw [HFN.out] at he
              subst he
              have h1 := HS.out.chg0 hc
              have hlt1 : W.heap.size ≤ w1.heap.size := h1.below.size
              have H1 := Lib.hid h1
              clear hc h1 HS
              go_wp2_with fail
              refine (size_any ⟨f.n, f.v, false⟩ _ (by show f.n.size + f.v.size + 32 ≤ _; have : f.n.size + f.v.size + 32 = f.sz := rfl; omega)).mono ?_; rintro e w2 ⟨he, rfl⟩
              rw [show Fd.sz ⟨f.n, f.v, false⟩ = f.sz from rfl] at he
              subst he
              go_wp2_with fail
              go_roundw
              case rel => exact ⟨k + 1, T + f.sz, by omega, by go_num, HTS.out.symm, by go_num, (H1.out.alloc _).alloc _⟩
              case measure => simp [intOf] <;> omega
            · obtain rfl : k = (es).length := by omega
              rw [List.take_of_length_le (by simp), tot_reverse] at hT
              subst hT
              have hd1 : decide (((m : Nat) : Int) < (tot es : Int)) = false := by simp; omega
              have hd2 : decide (m < tot es) = false := by simp; omega
              have HS := Lib.hid hs
              clear hs
              rcases Int.lt_or_le lim 0 with hneg | hpos
              · have hm0 : ((m : Nat) : Int) = 0 := by rw [HM.out, hgt_cast]; omega
                have hm1 : (((m : Nat) : Int) != 0) = false := by rw [hm0]; rfl
                have hq1 : decide (0 ≤ lim) = false := by simp; omega
                clear hm0
                go_wp2_with fail
                refine (H_len _ HS.out).mono ?_; rintro e w1 ⟨rfl, rfl⟩
                go_wp2_with fail
                refine (H_size _ HS.out).mono ?_; rintro e w1 ⟨rfl, rfl⟩
                go_wp2_with fail
                refine (H_max _ HS.out).mono ?_; rintro e w1 ⟨rfl, rfl⟩
                go_wp2_with fail
                refine (H_max _ HS.out).mono ?_; rintro e w1 ⟨rfl, rfl⟩
                go_wp2_with fail
                go_roundw
                case rel => exact ⟨i + 1, _, _, _, lim, by omega, by omega, by go_num, rfl, by omega, by omega, HM.out, HS.out⟩
                case measure => simp [intOf] <;> omega
              · have hm0 : ((m : Nat) : Int) = min 65536 lim := by rw [HM.out, hgt_cast]; omega
                have hm1 : (((m : Nat) : Int) != min 65536 lim) = false := by rw [hm0]; simp
                have hq1 : decide (lim < 0) = false := by simp; omega
                clear hm0
                go_wp2_with fail
                refine (H_len _ HS.out).mono ?_; rintro e w1 ⟨rfl, rfl⟩
                go_wp2_with fail
                refine (H_size _ HS.out).mono ?_; rintro e w1 ⟨rfl, rfl⟩
                go_wp2_with fail
                refine (H_max _ HS.out).mono ?_; rintro e w1 ⟨rfl, rfl⟩
                go_wp2_with fail
                refine (H_max _ HS.out).mono ?_; rintro e w1 ⟨rfl, rfl⟩
                go_wp2_with fail
                go_roundw
                case rel => exact ⟨i + 1, _, _, _, lim, by omega, by omega, by go_num, rfl, by omega, by omega, HM.out, HS.out⟩
                case measure => simp [intOf] <;> omega
    · have hend : (decide (i < zs.length) && decide ((i : Int) < 60)) = false := by
        by_cases h1 : i < zs.length
        · have : ¬ (i : Int) < 60 := fun h => hlt ⟨h1, by omega⟩
          simp [this]
        · simp [h1]
      have hb := hs.below
      have HB := Lib.hid hb
      clear hb hs hm hlt
      by_cases h1 : i < zs.length
      · have h2 : ¬ (i : Int) < 60 := by
          intro h
          rw [decide_eq_true h1, decide_eq_true h] at hend
          cases hend
        clear hend
        go_wp2_with fail
        go_ret
        exact ⟨rfl, HB.out⟩
      · clear hend
        go_wp2_with fail
        go_ret
        exact ⟨rfl, HB.out⟩

/-! ### The row's step -/
theorem own : ownKnob Try.prog.godebug = none := by kernel_rfl
theorem laid : laidOutB Try.prog = true := by kernel_rfl

set_option maxRecDepth 100000 in
theorem lifted (os : Os) (started : os.Started) (H : Type) (enc : TypeId × Value → H) :
    ReturnsInHanded {} Try.checked os 4 .any (Rows.tableFitsSpec.pre6 enc Try.prog Try.f4 Rows.tableFitsRow.domain false) (Rows.tableFitsSpec.post enc Try.prog Try.f4 false true false false) := by
  refine lift_law (C := Try.checked) (tb := 4) own started (by kernel_rfl) Try.func4
    (ChangeSpec.witness6 (enc := enc) (C := Try.checked) false ⟨#[], #[.int .i64 0, .slice none 0 0], []⟩ 8 (by kernel_rfl) (by kernel_rfl) (by kernel_rfl) (by kernel_rfl))
    laid (by rw [Try.params4]; intro t ht; simp only [List.mem_cons, List.not_mem_nil, or_false] at ht; rcases ht with rfl | rfl <;> exact ⟨by kernel_rfl, of_decide_eq_true (by kernel_rfl)⟩) (by kernel_rfl) Try.underlying4 rfl
    (fun ds h => by rw [Try.params4] at h; match ds, h with | [d0, d1], _ => rfl) ?_
  intro W base args ds before hval hA hlt hsz
  rw [Try.params4] at hA hval
  try rw [Try.params4] at hsz
  have hlt0 := hlt
  obtain ⟨v0, vs0, d0, ds0, p0, q0, hargs, rfl, rfl, h0, r0⟩ := trodAll_cons hA
  obtain ⟨v1, vs1, d1, ds1, p1, q1, rfl, rfl, rfl, h1, r1⟩ := trodAll_cons r0
  obtain ⟨rfl, rfl, rfl⟩ := trodAll_nil r1
  obtain rfl : args = #[v0, v1] := by cases args; simp_all
  have l0 : ∀ p ∈ p0, p.block < W.heap.size := fun x hx => hlt x (by simp [hx])
  have l1 : ∀ p ∈ p1, p.block < W.heap.size := fun x hx => hlt x (by simp [hx])
  obtain ⟨i0, rfl, rfl, rfl, wi0⟩ := open_int Try.underlying3 (hval 0 3 v0 rfl rfl) h0
  obtain ⟨zs, zg, zb, zm, zs1⟩ := open_slice_w 5 encO O.In Try.underlying31 (by kernel_rfl) (by omega) (hval 1 31 v1 rfl rfl) decO h1 l1 (small_of hsz (j := 1) rfl rfl)
  exact walk i0 v1 zs W wi0 zm zs1 zg

theorem over : Rows.tableFitsRow.holds Try.pinned (OpenSpec.ofChange Rows.tableFitsSpec) :=
  OpenClaim.holds_of_wide 4 Try.f4 rfl rfl rfl rfl rfl rfl rfl ⟨rfl, rfl, rfl, rfl, rfl⟩ rfl rfl rfl rfl rfl (by kernel_rfl) Try.func4 (by kernel_rfl)
    (of_decide_eq_true (by kernel_rfl)) (by unfold Func.isWrapper; first | (rw [if_pos (by decide +kernel)]; kernel_rfl) | (rw [if_neg (by decide +kernel)]; exact ⟨rfl, rfl⟩))
    (fun os started H enc _ => lifted os started H enc)

/-- The statement. -/
theorem proved : Rows.TableFitsSaid :=
  over
#print axioms proved

end Go.Proofs.Ythhfnmgonjippaa.Tb.Fits
