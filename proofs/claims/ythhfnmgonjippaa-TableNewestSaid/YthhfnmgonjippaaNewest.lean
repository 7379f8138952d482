/-
  TableNewest: what is put in stands first, and the others go on behind it: any table, any field.
-/
import Derived.Test.YthhfnmgonjippaaNew
namespace Go.Proofs.Ythhfnmgonjippaa.Tb.Newest
open Go.ChangeShapes Go.WideShapes Go.ChangeAt Go.RowKit
open Go.Proofs.Ythhfnmgonjippaa.B
set_option linter.unusedVariables false
set_option linter.unusedSimpArgs false

set_option maxRecDepth 100000 in
set_option maxHeartbeats 16000000 in
theorem walk (mx : Int) (v : Value) (zs : List Fd) (f : Fd) (W : World) (hzm : zs.length ≤ maxLen) (hsl : FdsOf W v zs) (hin : ∀ z ∈ zs, z.In) (hf : f.In) :
    Calls Try.prog 5 #[.int .i64 mx, v, .agg (aF f)] W fun e w' => e = .returned (.bool true) ∧ Below W.heap.size W w' := by
  obtain ⟨a, cap, rfl, hcap, hcapm⟩ := hsl.len
  obtain ⟨box, hbox⟩ : ∃ box : Obj, box = .cells #[.string f.n, .string f.v, .bool f.nv] 23 (0, 0) := ⟨_, rfl⟩
  have hffs := hf.sz
  have HSL := Lib.hid hsl; have HIN := Lib.hid hin; have HBOX := Lib.hid hbox
  unfold maxLen at hzm hcapm
  clear hsl hin hf
  unfold aF
  go_enter Try.func5, Try.ntmps5
  go_wp2_with fail
  refine (shown_any _).mono ?_; rintro e w1 ⟨rfl, c1⟩
  have hb1 := (At.new W (.cells #[.string f.n, .string f.v, .bool f.nv] 23)).chg c1 (by simp)
  have hc1 : Chg [] W w1 := ((Chg.refl W).alloc _).trans' c1
  rw [← hbox] at hb1
  obtain ⟨B, hB⟩ : ∃ B, B = W.heap.size := ⟨_, rfl⟩
  rw [← hB] at hb1 ⊢
  have HB := Lib.hid hB
  have hb1l := hb1.lt
  clear c1 hbox hB
  go_wp2_with fail
  refine (H_new (W := W) mx _ hc1.below_nil).mono ?_; rintro e w2 ⟨rfl, c2, F0, h2, f2⟩
  have hb2 := hb1.chg c2 (by simp)
  have hbf2 : B ∉ F0 := fun hx => by have := f2 B hx; omega
  have hBp : B ≠ w1.heap.size := by omega
  generalize w1.heap.size = p at *
  obtain ⟨m, hm⟩ : ∃ m, m = hgt mx := ⟨_, rfl⟩
  rw [← hm] at h2
  have hm6 : m ≤ 65536 := by rw [hm]; exact hgt_le mx
  have H2 := Lib.hid h2; have HB2 := Lib.hid hb2; have HBF2 := Lib.hid hbf2
  clear c2 h2 f2 hb1 hb1l hb2 hbf2 hc1 hm
  go_wp2_with fail
  go_loopw [9] (fun iv wr => ∃ (i : Nat) (F : List Nat) (es : List Fd), i ≤ zs.length ∧ i ≤ 60 ∧ iv = .int .i64 i ∧ es.length ≤ i ∧ B ∉ F ∧ At wr B box ∧ Has W wr F p m es) (fun iv _ => 60 - (intOf iv).toNat)
  case atStart => exact ⟨0, F0, [], by omega, by omega, rfl, by simp, ⟨HBF2.out, HB2.out, H2.out⟩⟩
  case round =>
    clear H2 HB2 HBF2
    obtain ⟨i, F, es, hi1, hi2, rfl, hel, hbf, hbx, hs⟩ := hrel
    by_cases hlt : i < zs.length ∧ i < 60
    · skip
      obtain ⟨hlt1, hlt2⟩ := hlt
      have hlt3 : (i : Int) < 60 := by omega
      obtain ⟨o, ho⟩ : ∃ o, zs[i]? = some o := ⟨_, List.getElem?_eq_getElem hlt1⟩
      obtain ⟨b, off, rfl, hbw, hcell⟩ := FdsOf.cells HSL.out (by omega)
      obtain ⟨d0, d1, d2⟩ := hcell i o ho
      have hbc : ∀ j, wr.cell? ⟨b, j, none⟩ = W.cell? ⟨b, j, none⟩ := fun j => hs.below.cell (p := ⟨b, j, none⟩) hbw
      rw [← hbc] at d0 d1 d2
      have hfs := (HIN.out o (List.mem_of_getElem? ho)).sz
      have hblt := hbx.lt
      have HS := Lib.hid hs; have HO := Lib.hid ho; have HBX := Lib.hid hbx; have HBF := Lib.hid hbf
      clear hcell hs ho hbc hbx hbf
      go_wp2_with fail
      refine (H_add o _ HS.out hfs).mono ?_; rintro e w3 ⟨rfl, ⟨F3, h3, f3⟩, c3⟩
      have hbx3 := HBX.out.chg c3 HBF.out
      have hbf3 := f3.notin HBF.out hblt
      have hl3 := addS_len o m es
      have H3 := Lib.hid h3; have BX3 := Lib.hid hbx3; have BF3 := Lib.hid hbf3
      clear h3 f3 c3 hbx3 hbf3
      go_wp2_with fail
      go_roundw
      case rel => exact ⟨i + 1, F3, _, by omega, by omega, by go_num, by omega, BF3.out, BX3.out, H3.out⟩
      case measure => simp [intOf] <;> omega
    · skip
      have hways : (i < zs.length ∧ ¬ (i : Int) < 60 ∧ decide (i < zs.length) = true ∧ decide ((i : Int) < 60) = false) ∨ (¬ i < zs.length ∧ (0 : Int) ≤ (i : Int) ∧ decide (i < zs.length) = false ∧ (0 : Int) ≤ 1) := by
        by_cases h1 : i < zs.length
        · have h2 := off_and hlt h1
          exact Or.inl ⟨h1, h2, by simpa using h1, by simp; omega⟩
        · exact Or.inr ⟨h1, by omega, by simpa using h1, by omega⟩
      have HS := Lib.hid hs; have HBX := Lib.hid hbx; have HBF := Lib.hid hbf
      have helm : es.length ≤ 60 := by omega
      have hinv := hs.inv
      have HINV := Lib.hid hinv
      clear hs hbx hbf hlt hel hi1 hi2 hinv
      rcases hways with ⟨h1, h2, hd1, hd2⟩ | ⟨h1, h2, hd1, hd2⟩
      all_goals
        go_wp2_with fail
        obtain ⟨Z, hZ⟩ : ∃ Z, Z = wr.heap.size := ⟨_, rfl⟩
        have hFZ : ∀ x ∈ F, x < Z := by rw [hZ]; exact HS.out.lt
        have hBZ : B < Z := by rw [hZ]; exact HBX.out.lt
        have hZw : Z ≤ wr.heap.size := by omega
        have hWZ : W.heap.size ≤ Z := by rw [hZ]; exact HS.out.below.size
        have HZ := Lib.hid hZ; have HFZ := Lib.hid hFZ
        clear hZ hFZ h1 h2 hd1 hd2
        go_loopw [10, 11] (fun ov kv wt => ∃ k : Nat, k ≤ es.length ∧ kv = .int .i64 k ∧ OwnF wt Z ov (es.reverse.take k) ∧ Z ≤ wt.heap.size ∧ At wt B box ∧ Has W wt F p m es) (fun _ kv _ => es.length - (intOf kv).toNat)
        case atStart => exact ⟨0, by omega, rfl, OwnR.nil _ _, hZw, HBX.out, HS.out⟩
        case round =>
          clear HS HBX hZw
          obtain ⟨k, hk, rfl, hown, hzt, hbx, hs⟩ := hrel
          by_cases hlt : k < es.length
          · skip
            obtain ⟨x, hx1, hx2⟩ := rev_get hlt
            have hat : atR es ((k : Int) + 62) = (x, true) := atR_high hx1 hlt
            have htk : es.reverse.take (k + 1) = es.reverse.take k ++ [x] := by
              obtain ⟨q1, q2⟩ := List.getElem?_eq_some_iff.1 hx2
              rw [List.take_succ_eq_append_getElem q1, q2]
            have hkl : (es.reverse.take k).length = k := by simp; omega
            have hd3 : decide (k < es.length) = true := by simpa using hlt
            have hk100 : (k : Int) < 100 := by omega
            have hd4 : decide ((k : Int) < 100) = true := by simpa using hk100
            have HS := Lib.hid hs; have HOWN := Lib.hid hown; have HBX := Lib.hid hbx; have HAT := Lib.hid hat; have HTK := Lib.hid htk; have HKL := Lib.hid hkl
            clear hs hown hbx hat htk hkl hx1 hx2
            go_wp2_with fail
            refine (H_len _ HS.out).mono ?_; rintro e w3 ⟨rfl, rfl⟩
            go_wp2_with fail
            rw [show (62 : Int) + (k : Int) = (k : Int) + 62 by omega]
            refine (H_at _ _ HS.out (by omega)).mono ?_; rintro e w4 ⟨he, hc⟩
            rw [HAT.out] at he
            simp only [aF] at he
            subst he
            have h4 := HS.out.chg0 hc
            have o4 : OwnF w4 Z u10 (es.reverse.take k) := OwnR.chg0 HOWN.out hc
            have b4 := HBX.out.chg hc (by simp)
            have z4 : Z ≤ w4.heap.size := Nat.le_trans hzt hc.size
            have H4 := Lib.hid h4; have O4 := Lib.hid o4; have B4 := Lib.hid b4
            clear h4 o4 b4 hc HS HOWN HBX
            go_wp2_with (at_builtin; refine app_row encF_len encF_one 25 Try.underlying25 infoF rfl (by decide) rfl _ _ rfl Z u10 _ rfl (OwnR.alloc (OwnR.alloc O4.out _) _) _ [x] rfl (one_field' _ x (k := w4.heap.size + 1) (by simp)) (by rw [HKL.out]; simp [maxLen]; omega) (by rw [HKL.out]; simp; omega) (by simp; omega) ?_)
            intro v' w' hown' hch' hfr'
            have hno : ∀ y ∈ (u10).ownBlock.toList, Z ≤ y := OwnR.lo O4.out
            have h5 := ((H4.out.alloc (.cells #[.string x.n, .string x.v, .bool x.nv] 23)).alloc (.cells #[.string x.n, .string x.v, .bool x.nv] 23)).chg hch' (fun y hy hy2 => by have := HFZ.out y hy; have := hno y hy2; omega) (fun y hy => by have := hno y hy; omega)
            have b5 := ((B4.out.alloc (.cells #[.string x.n, .string x.v, .bool x.nv] 23)).alloc (.cells #[.string x.n, .string x.v, .bool x.nv] 23)).chg hch' (fun hy => by have := hno _ hy; omega)
            have z5 : Z ≤ w'.heap.size := by have := hch'.size; simp at this; omega
            rw [← HTK.out] at hown'
            have H5 := Lib.hid h5; have O5 := Lib.hid hown'; have B5 := Lib.hid b5
            clear h5 hown' b5 hch' hfr' hno H4 O4 B4
            go_wp2_with fail
            go_roundw
            case rel => exact ⟨k + 1, by omega, by go_num, O5.out, z5, B5.out, H5.out⟩
            case measure => simp [intOf] <;> omega
          · obtain rfl : k = es.length := by omega
            rw [List.take_of_length_le (by simp)] at hown
            have hd3 : decide (es.length < es.length) = false := by simp
            obtain ⟨wa, wc, rfl, hwc1, hwc2⟩ := OwnR.slice hown
            rw [List.length_reverse] at hown
            have hwsl := OwnF.sl hown
            have HS := Lib.hid hs; have HOWN := Lib.hid hown; have HBX := Lib.hid hbx; have HWS := Lib.hid hwsl
            have hbx' := hbx
            rw [HBOX.out] at hbx'
            have b0 := hbx'.cell (o := 0) rfl
            have b1 := hbx'.cell (o := 1) rfl
            have b2 := hbx'.cell (o := 2) rfl
            clear hs hown hbx hwsl hbx' hwc1
            unfold maxLen at hwc2
            go_wp2_with fail
            refine (H_len _ HS.out).mono ?_; rintro e w3 ⟨rfl, rfl⟩
            go_wp2_with fail
            refine (H_add f _ HS.out hffs).mono ?_; rintro e w4 ⟨rfl, ⟨F4, h4, f4⟩, c4⟩
            have hbx4 := HBX.out.chg c4 HBF.out
            rw [HBOX.out] at hbx4
            have hbf4 := f4.notin HBF.out (Nat.lt_of_lt_of_le hBZ hzt)
            have hown4 : OwnF w4 Z (.slice wa es.length wc) es.reverse := OwnR.chg HOWN.out c4 (fun g hg hx => by have := HFZ.out g hx; have := OwnR.lo HOWN.out g (by simpa using hg); omega)
            have hz4 : Z ≤ w4.heap.size := Nat.le_trans hzt c4.size
            obtain ⟨es3, hes3⟩ : ∃ es3, es3 = addS f m es := ⟨_, rfl⟩
            rw [← hes3] at h4
            have hch5 : Chg [B] w4 (w4.setCell ⟨B, 2, none⟩ (.bool false)) := (Chg.refl w4).setCell (Or.inl (by simp)) _
            have h5 := h4.chg hch5 (fun x hx => by simp; rintro rfl; exact hbf4 hx) (by simp; rw [HB.out]; exact Nat.le_refl _)
            have o5 : OwnF _ Z (.slice wa es.length wc) es.reverse := OwnR.chg hown4 hch5 (fun g hg => by simp; have := OwnR.lo hown4 g (by simpa using hg); omega)
            have b5 := hbx4.set 2 (.bool false)
            have c0 := hbx4.cell (o := 0) rfl
            have c1 := hbx4.cell (o := 1) rfl
            have c2 := hbx4.cell (o := 2) rfl
            have cf := hbx4.free
            have H5 := Lib.hid h5; have O5 := Lib.hid o5; have B5 := Lib.hid b5; have HE3 := Lib.hid hes3
            clear h4 f4 c4 hbx4 hown4 h5 o5 b5 hch5 hes3 b0 b1 b2 HS HOWN HBX HWS
            go_wp2_with fail
            refine (size_any ⟨f.n, f.v, false⟩ _ (by show f.n.size + f.v.size + 32 ≤ _; have : f.n.size + f.v.size + 32 = f.sz := rfl; omega)).mono ?_; rintro e w6 ⟨he, rfl⟩
            rw [show Fd.sz ⟨f.n, f.v, false⟩ = f.sz from rfl] at he
            subst he
            clear c0 c1 c2 cf
            obtain ⟨n, hn⟩ : ∃ n, n = f.sz := ⟨_, rfl⟩
            rw [← hn] at hffs ⊢
            have HN := Lib.hid hn
            clear hn
            have h6 := H5.out.alloc (.cells #[.string f.n, .string f.v, .bool false] 23)
            have o6 : OwnF _ Z (.slice wa es.length wc) es.reverse := OwnR.alloc O5.out (.cells #[.string f.n, .string f.v, .bool false] 23)
            have b6 := B5.out.alloc (.cells #[.string f.n, .string f.v, .bool false] 23)
            have z6 : Z ≤ ((w4.setCell ⟨B, 2, none⟩ (.bool false)).alloc (.cells #[.string f.n, .string f.v, .bool false] 23)).heap.size := by simp [World.setCell]; omega
            generalize (w4.setCell ⟨B, 2, none⟩ (.bool false)).alloc (.cells #[.string f.n, .string f.v, .bool false] 23) = w6 at *
            have H6 := Lib.hid h6; have O6 := Lib.hid o6; have B6 := Lib.hid b6
            clear h6 o6 b6 H5 O5 B5
            by_cases hbig : m < n
            · have hd5 : decide ((m : Int) < (n : Int)) = true := by simp; omega
              have he3 : es3 = [] := by rw [HE3.out]; exact addS_big (by rw [← HN.out]; exact hbig) es
              subst he3
              go_wp2_with fail
              refine (H_max _ H6.out).mono ?_; rintro e w7 ⟨rfl, rfl⟩
              go_wp2_with fail
              refine (H_len _ H6.out).mono ?_; rintro e w7 ⟨rfl, rfl⟩
              go_wp2_with fail
              refine (H_size _ H6.out).mono ?_; rintro e w7 ⟨rfl, rfl⟩
              go_wp2_with fail
              go_ret
              exact ⟨rfl, H6.out.below⟩
            · have hd5 : decide ((m : Int) < (n : Int)) = false := by simp; omega
              obtain ⟨r, hP⟩ := put_of (f := f) (m := m) (es := es) (by rw [← HN.out]; omega) HE3.out
              have hrle := hP.le
              have hlen3 := hP.len
              have hat := atR_rev hP.fst
              have HP := Lib.hid hP; have HAT := Lib.hid hat
              clear hP hat
              go_wp2_with fail
              refine (H_max _ H6.out).mono ?_; rintro e w7 ⟨rfl, rfl⟩
              go_wp2_with fail
              refine (H_at 62 _ H6.out (by omega)).mono ?_; rintro e w7 ⟨he, c7⟩
              rw [show (62 : Int) = ((0 : Nat) : Int) + 62 from rfl, HAT.out] at he
              simp only [aF, Fd.un] at he
              subst he
              have h7 := H6.out.chg0 c7
              have o7 : OwnF w7 Z (.slice wa es.length wc) es.reverse := OwnR.chg0 O6.out c7
              have b7 := B6.out.chg c7 (by simp)
              have hlt7 := b7.lt
              have q0 := b7.cell (o := 0) rfl
              have q1 := b7.cell (o := 1) rfl
              have q2 := b7.cell (o := 2) rfl
              have h8 := h7.alloc (.cells #[.string f.n, .string f.v, .bool false] 23)
              have o8 : OwnF _ Z (.slice wa es.length wc) es.reverse := OwnR.alloc o7 (.cells #[.string f.n, .string f.v, .bool false] 23)
              have hws8 := OwnF.sl o8
              have H8 := Lib.hid h8; have WS8 := Lib.hid hws8; have HL3 := Lib.hid hlen3
              clear c7 h7 o7 b7 h8 o8 hws8 H6 O6 B6 hlen3
              go_wp2_with fail
              refine (H_len _ H8.out).mono ?_; rintro e w9 ⟨he, rfl⟩
              rw [HL3.out] at he
              subst he
              have hr6 : r ≤ 60 := by omega
              have hdr : decide (es.length < r) = false := by simp; omega
              have hdr2 : decide ((es.length : Int) < (r : Int)) = false := by simp; omega
              go_wp2_with fail
              clear q0 q1 q2
              go_loopw [17] (fun kv wt => ∃ k : Nat, k ≤ r ∧ kv = .int .i64 k ∧ FdsOf wt (.slice wa es.length wc) es.reverse ∧ Has W wt F4 p m es3) (fun kv _ => r - (intOf kv).toNat)
              case atStart => exact ⟨0, by omega, rfl, WS8.out, H8.out⟩
              case round =>
                clear H8 WS8
                obtain ⟨k, hkr, rfl, hws, hs⟩ := hrel
                by_cases hkr2 : k < r
                · obtain ⟨x, hx1, hx2⟩ := rev_get (es := es) (k := k) (by omega)
                  have hat := atR_rev (HP.out.snd k x hkr2 hx2)
                  have HWS := Lib.hid hws; have HS := Lib.hid hs; have HAT := Lib.hid hat; have HX := Lib.hid hx2
                  clear hws hs hat hx1 hx2
                  go_wp2_with fail
                  rw [show (63 : Int) + (k : Int) = ((k + 1 : Nat) : Int) + 62 by omega]
                  refine (H_at _ _ HS.out (by omega)).mono ?_; rintro e w9 ⟨he, c9⟩
                  rw [HAT.out] at he
                  simp only [aF] at he
                  subst he
                  have h9 := HS.out.chg0 c9
                  have s9 := SliceOf.chg0 HWS.out c9
                  obtain ⟨bw, offw, rfl, hbw9, hcw⟩ := FdsOf.cells s9 (by simp; omega)
                  obtain ⟨g0, g1, g2⟩ := hcw k x HX.out
                  have H9 := Lib.hid h9; have S9 := Lib.hid s9
                  have hkl : (k : Int) < (es.length : Int) := by omega
                  have hk0 : (0 : Int) ≤ (k : Int) := by omega
                  clear h9 s9 hcw c9 HWS HS
                  go_wp2_with fail
                  go_quiet (fail)
                  go_wp2_with fail
                  go_roundw
                  case rel => exact ⟨k + 1, by omega, by go_num, SliceOf.chg0 S9.out (((Chg.refl _).alloc _).drewN _), (H9.out.alloc _).drewN _⟩
                  case measure => simp [intOf] <;> omega
                · obtain rfl : k = r := by omega
                  have hdk : decide (k < k) = false := by simp
                  by_cases hkl : k = es.length
                  · have HKL := Lib.hid hkl
                    have hs := hs
                    have HS := Lib.hid hs
                    have hee : ((k : Int) == (es.length : Int)) = true := by rw [hkl]; simp
                    clear hkl hs hws
                    go_wp2_with fail
                    go_quiet (fail)
                    go_wp2_with fail
                    go_ret
                    exact ⟨rfl, HS.out.below.drewN _⟩
                  · obtain ⟨x, hx1, hx2⟩ := rev_get (es := es) (k := k) (by omega)
                    have hmost := HP.out.most x (by omega) hx2
                    obtain ⟨bw, offw, rfl, hbw9, hcw⟩ := FdsOf.cells hws (by simp; omega)
                    obtain ⟨g0, g1, g2⟩ := hcw k x hx2
                    have hxs : x.sz ≤ 65536 := HINV.out.sz (List.mem_of_getElem? hx1)
                    have htb := hs.inv.t
                    have hee : ((k : Int) == (es.length : Int)) = false := by simp; omega
                    have hkl2 : (k : Int) < (es.length : Int) := by omega
                    have hk0 : (0 : Int) ≤ (k : Int) := by omega
                    obtain ⟨T, hT⟩ : ∃ T, T = tot es3 := ⟨_, rfl⟩
                    rw [← hT] at hmost htb
                    have hgt : decide ((m : Int) < (T : Int) + (x.sz : Int)) = true := by simp; omega
                    have hwr : IntKind.i64.wrap ((T : Int) + (x.sz : Int)) = (T : Int) + (x.sz : Int) := by rw [IntKind.wrap_i64]; omega
                    have HS := Lib.hid hs; have HT := Lib.hid hT
                    clear hkl hs hws hcw hx1 hx2 hT
                    go_wp2_with fail
                    go_region_held3 (fun w' => w'.cell? ⟨bw, offw + k * 3, none⟩ = some (.string x.n) ∧ w'.cell? ⟨bw, offw + k * 3 + 1, none⟩ = some (.string x.v) ∧ w'.cell? ⟨bw, offw + k * 3 + 2, none⟩ = some (.bool x.nv)) (go_keep)
                      (first
                        | (refine (H_size _ (HS.out.chg0 (by repeat (first | exact Chg.refl _ | refine Chg.drewN ?_ _ | refine Chg.alloc ?_ _ | refine Chg.drew ?_)))).mono ?_; rintro e w' ⟨he, rfl⟩; rw [← HT.out] at he; subst he)
                        | (refine (H_max _ (HS.out.chg0 (by repeat (first | exact Chg.refl _ | refine Chg.drewN ?_ _ | refine Chg.alloc ?_ _ | refine Chg.drew ?_)))).mono ?_; rintro e w' ⟨rfl, rfl⟩)
                        | (refine (size_any x _ (by omega)).mono ?_; rintro e w' ⟨rfl, rfl⟩))
                    all_goals
                      go_wp2_with fail
                      go_ret
                      exact ⟨rfl, (HS.out.chg0 (by repeat (first | exact Chg.refl _ | refine Chg.drewN ?_ _ | refine Chg.alloc ?_ _ | refine Chg.drew ?_))).below⟩

/-! ### The row's step -/
theorem own : ownKnob Try.prog.godebug = none := by kernel_rfl
theorem laid : laidOutB Try.prog = true := by kernel_rfl

set_option maxRecDepth 100000 in
theorem lifted (os : Os) (started : os.Started) (H : Type) (enc : TypeId × Value → H) :
    ReturnsInHanded {} Try.checked os 5 .any (Rows.tableNewestSpec.pre6 enc Try.prog Try.f5 Rows.tableNewestRow.domain false) (Rows.tableNewestSpec.post enc Try.prog Try.f5 false true false false) := by
  refine lift_law (C := Try.checked) (tb := 4) own started (by kernel_rfl) Try.func5
    (ChangeSpec.witness6 (enc := enc) (C := Try.checked) false ⟨#[], #[.int .i64 0, .slice none 0 0, .agg #[.string ⟨#[]⟩, .string ⟨#[]⟩, .bool false]], []⟩ 8 (by kernel_rfl) (by kernel_rfl) (by kernel_rfl) (by kernel_rfl))
    laid (by rw [Try.params5]; intro t ht; simp only [List.mem_cons, List.not_mem_nil, or_false] at ht; rcases ht with rfl | rfl | rfl <;> exact ⟨by kernel_rfl, of_decide_eq_true (by kernel_rfl)⟩) (by kernel_rfl) Try.underlying4 rfl
    (fun ds h => by rw [Try.params5] at h; match ds, h with | [d0, d1, d2], _ => rfl) ?_
  intro W base args ds before hval hA hlt hsz
  rw [Try.params5] at hA hval
  try rw [Try.params5] at hsz
  have hlt0 := hlt
  obtain ⟨v0, vs0, d0, ds0, p0, q0, hargs, rfl, rfl, h0, r0⟩ := trodAll_cons hA
  obtain ⟨v1, vs1, d1, ds1, p1, q1, rfl, rfl, rfl, h1, r1⟩ := trodAll_cons r0
  obtain ⟨v2, vs2, d2, ds2, p2, q2, rfl, rfl, rfl, h2, r2⟩ := trodAll_cons r1
  obtain ⟨rfl, rfl, rfl⟩ := trodAll_nil r2
  obtain rfl : args = #[v0, v1, v2] := by cases args; simp_all
  have l0 : ∀ p ∈ p0, p.block < W.heap.size := fun x hx => hlt x (by simp [hx])
  have l1 : ∀ p ∈ p1, p.block < W.heap.size := fun x hx => hlt x (by simp [hx])
  have l2 : ∀ p ∈ p2, p.block < W.heap.size := fun x hx => hlt x (by simp [hx])
  obtain ⟨i0, rfl, rfl, rfl, wi0⟩ := open_int Try.underlying3 (hval 0 3 v0 rfl rfl) h0
  obtain ⟨zs, zg, zb, zm, zs1⟩ := open_slice_w 3 encF Fd.In Try.underlying25 (by kernel_rfl) (by omega) (hval 1 25 v1 rfl rfl) decF h1 l1 (small_of hsz (j := 1) rfl rfl)
  obtain ⟨f1, rfl, hf1⟩ := open_struct_w 3 encF Fd.In Try.underlying23 (by kernel_rfl) (hval 2 23 v2 rfl rfl) decF h2 (small_of hsz (j := 2) rfl rfl)
  exact walk i0 v1 zs f1 W zm zs1 zg hf1

theorem over : Rows.tableNewestRow.holds Try.pinned (OpenSpec.ofChange Rows.tableNewestSpec) :=
  OpenClaim.holds_of_wide 5 Try.f5 rfl rfl rfl rfl rfl rfl rfl ⟨rfl, rfl, rfl, rfl, rfl⟩ rfl rfl rfl rfl rfl (by kernel_rfl) Try.func5 (by kernel_rfl)
    (of_decide_eq_true (by kernel_rfl)) (by unfold Func.isWrapper; first | (rw [if_pos (by decide +kernel)]; kernel_rfl) | (rw [if_neg (by decide +kernel)]; exact ⟨rfl, rfl⟩))
    (fun os started H enc _ => lifted os started H enc)

/-- The statement. -/
theorem proved : Rows.TableNewestSaid :=
  over
#print axioms proved

end Go.Proofs.Ythhfnmgonjippaa.Tb.Newest
