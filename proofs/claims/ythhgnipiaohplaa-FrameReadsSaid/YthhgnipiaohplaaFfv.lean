/-
  The document's read: kind 4; all kinds.
-/
import Derived.Test.YthhgnipiaohplaaFre
import Derived.Deep.RegionLaw
namespace Go.Proofs.Ythhgnipiaohplaa.Fr
open Go.ChangeShapes Go.WideShapes Go.ChangeAt Go.RowKit
open Go.Proofs.Ythhgnipiaohplaa.B
set_option linter.unusedVariables false
set_option linter.unusedSimpArgs false

/-- RdPost, and the list's row is new. -/
def RdX (F : Fm) (w : World) (e : Ending) (w' : World) : Prop := ∃ pv lv, e = .returned (.agg (fcs (F.mem pv lv))) ∧ BytesOf w' pv F.pay ∧ SliceOf w' lv 2 encS F.list ∧ Chg [] w w' ∧ (0 < F.list.length → OwnR 50 2 encS w' w.heap.size lv F.list)
theorem RdPost.x {F : Fm} {w w' : World} {e : Ending} (h : RdPost F w e w') (hl : F.list = []) : RdX F w e w' := by
  obtain ⟨pv, lv, h1, h2, h3, h4⟩ := h
  exact ⟨pv, lv, h1, h2, h3, h4, fun h0 => by rw [hl] at h0; simp at h0⟩
def lst (s : List UInt8) (k : Nat) : List (Int × Int) := (List.range k).map (setAt s)
theorem lst_succ (s : List UInt8) (k : Nat) : lst s (k + 1) = lst s k ++ [setAt s k] := by simp [lst, List.range_succ]
theorem lst_len (s : List UInt8) (k : Nat) : (lst s k).length = k := by simp [lst]
theorem lst_all {s : List UInt8} {m : Nat} (h : s.length = 6 * m) : lst s m = sets s := by
  rw [← sets_eq m s h]
  unfold lst
  apply List.ext_getElem
  · simp
  · intro i h1 h2
    simp
theorem val2 (a b : UInt8) : val [a, b] = a.toNat * 256 + b.toNat := by simp [val]
theorem val4 (a b c d : UInt8) : val [a, b, c, d] = fourN a b c d := by unfold val fourN; simp; try omega
theorem cut_at {l m : List UInt8} {p n : Nat} (hn : m.length = n) (h : ∀ i, i < n → l[p + i]? = m[i]?) : (l.drop p).take n = m := by
  apply List.ext_getElem?
  intro i
  rw [List.getElem?_take]
  split
  · rw [List.getElem?_drop]; exact h i (by omega)
  · rw [List.getElem?_eq_none (by omega)]
set_option maxRecDepth 100000 in
set_option maxHeartbeats 8000000 in
theorem rread_4 (fl : UInt8) (s : List UInt8) (hs : s.length ≤ 16777215) (h6 : s.length % 6 = 0) (w : World) :
    Calls Try.prog 50 #[.int .i64 4, .int .i64 ((fl.toNat : Nat) : Int), .string (bstr s)] w (RdX (readF 4 fl s) w) := by
  obtain ⟨S, hS⟩ : ∃ S, S = bstr (hasL 4) := ⟨_, rfl⟩
  have Ie : Hid (∀ w, Calls Try.prog 48 #[.string S, .int .u8 101] w fun e w' => e = .returned (.bool false) ∧ w' = w) := Lib.hid (fun w => by rw [hS]; exact in_has 4 101 false (by decide) w)
  have Ia : Hid (∀ w, Calls Try.prog 48 #[.string S, .int .u8 97] w fun e w' => e = .returned (.bool true) ∧ w' = w) := Lib.hid (fun w => by rw [hS]; exact in_has 4 97 true (by decide) w)
  have Ih : Hid (∀ w, Calls Try.prog 48 #[.string S, .int .u8 104] w fun e w' => e = .returned (.bool false) ∧ w' = w) := Lib.hid (fun w => by rw [hS]; exact in_has 4 104 false (by decide) w)
  have Ir : Hid (∀ w, Calls Try.prog 48 #[.string S, .int .u8 114] w fun e w' => e = .returned (.bool false) ∧ w' = w) := Lib.hid (fun w => by rw [hS]; exact in_has 4 114 false (by decide) w)
  have If : Hid (∀ w, Calls Try.prog 48 #[.string S, .int .u8 102] w fun e w' => e = .returned (.bool false) ∧ w' = w) := Lib.hid (fun w => by rw [hS]; exact in_has 4 102 false (by decide) w)
  have Ip : Hid (∀ w, Calls Try.prog 48 #[.string S, .int .u8 112] w fun e w' => e = .returned (.bool false) ∧ w' = w) := Lib.hid (fun w => by rw [hS]; exact in_has 4 112 false (by decide) w)
  have It : Hid (∀ w, Calls Try.prog 48 #[.string S, .int .u8 116] w fun e w' => e = .returned (.bool false) ∧ w' = w) := Lib.hid (fun w => by rw [hS]; exact in_has 4 116 false (by decide) w)
  have Ic : Hid (∀ w, Calls Try.prog 48 #[.string S, .int .u8 99] w fun e w' => e = .returned (.bool false) ∧ w' = w) := Lib.hid (fun w => by rw [hS]; exact in_has 4 99 false (by decide) w)
  have Ii : Hid (∀ w, Calls Try.prog 48 #[.string S, .int .u8 105] w fun e w' => e = .returned (.bool false) ∧ w' = w) := Lib.hid (fun w => by rw [hS]; exact in_has 4 105 false (by decide) w)
  have Il : Hid (∀ w, Calls Try.prog 48 #[.string S, .int .u8 108] w fun e w' => e = .returned (.bool true) ∧ w' = w) := Lib.hid (fun w => by rw [hS]; exact in_has 4 108 true (by decide) w)
  have Ib : Hid (∀ w, Calls Try.prog 48 #[.string S, .int .u8 98] w fun e w' => e = .returned (.bool false) ∧ w' = w) := Lib.hid (fun w => by rw [hS]; exact in_has 4 98 false (by decide) w)
  have HS := Lib.hid hS
  obtain ⟨g1, hg1⟩ : ∃ b, b = bitB fl 0 := ⟨_, rfl⟩
  have E1 : (Go.bits .and .i64 ((fl.toNat : Nat) : Int) 1 != 0) = g1 := by rw [hg1]; exact (bne_of _ 1 (by decide) _ (bit1 fl)).1
  have Hg1 := Lib.hid hg1
  clear hg1
  obtain ⟨g4, hg4⟩ : ∃ b, b = bitB fl 2 := ⟨_, rfl⟩
  have E4 : (Go.bits .and .i64 ((fl.toNat : Nat) : Int) 4 != 0) = g4 := by rw [hg4]; exact (bne_of _ 4 (by decide) _ (bit4 fl)).1
  have Hg4 := Lib.hid hg4
  clear hg4
  obtain ⟨g8, hg8⟩ : ∃ b, b = bitB fl 3 := ⟨_, rfl⟩
  have E8 : (Go.bits .and .i64 ((fl.toNat : Nat) : Int) 8 != 0) = g8 := by rw [hg8]; exact (bne_of _ 8 (by decide) _ (bit8 fl)).1
  have Hg8 := Lib.hid hg8
  clear hg8
  obtain ⟨g32, hg32⟩ : ∃ b, b = bitB fl 5 := ⟨_, rfl⟩
  have E32 : (Go.bits .and .i64 ((fl.toNat : Nat) : Int) 32 != 0) = g32 := by rw [hg32]; exact (bne_of _ 32 (by decide) _ (bit32 fl)).1
  have Hg32 := Lib.hid hg32
  clear hg32
  have HLL : Hid (s.length ≤ 16777215) := Lib.hid hs
  obtain ⟨X, hX⟩ : ∃ X, X = bstr s := ⟨_, rfl⟩
  rw [← hX]
  have HX := Lib.hid hX
  have HA := Lib.hid (rhas_any 4)
  rw [← hS] at HA
  obtain ⟨F, hF⟩ : ∃ F, F = readF 4 fl s := ⟨_, rfl⟩
  rw [← hF]
  have HF := Lib.hid hF
  obtain ⟨m, hm⟩ : ∃ m, s.length = 6 * m := ⟨s.length / 6, by omega⟩
  have hXs : X.size = 6 * m := by rw [hX, bstr_size]; exact hm
  have HM := Lib.hid hm
  have hmb : 6 * m ≤ 16777215 := by omega
  obtain ⟨XZ, hXZ⟩ : ∃ n, n = X.size := ⟨_, rfl⟩
  clear hm h6
  clear hS hs hX hF
  go_enter Try.func50, Try.ntmps50
  go_wp2_with fail
  refine (HA.out _).mono ?_; rintro e w1 ⟨rfl, c1⟩
  have HC1 := Lib.hid ((Chg.refl w).alloc _ |>.trans' c1)
  have A0 := Lib.hid ((At.new w (.cells noF 27)).chg c1 (by simp))
  clear c1
  go_upto_region 27 with (first
    | (go_at_call 48; first
      | (with_reducible refine (Ie.out _).mono ?_; rintro e wx ⟨rfl, rfl⟩)
      | (with_reducible refine (Ia.out _).mono ?_; rintro e wx ⟨rfl, rfl⟩)
      | (with_reducible refine (Ih.out _).mono ?_; rintro e wx ⟨rfl, rfl⟩)
      | (with_reducible refine (Ir.out _).mono ?_; rintro e wx ⟨rfl, rfl⟩)
      | (with_reducible refine (If.out _).mono ?_; rintro e wx ⟨rfl, rfl⟩)
      | (with_reducible refine (Ip.out _).mono ?_; rintro e wx ⟨rfl, rfl⟩)
      | (with_reducible refine (It.out _).mono ?_; rintro e wx ⟨rfl, rfl⟩)
      | (with_reducible refine (Ic.out _).mono ?_; rintro e wx ⟨rfl, rfl⟩)
      | (with_reducible refine (Ii.out _).mono ?_; rintro e wx ⟨rfl, rfl⟩)
      | (with_reducible refine (Il.out _).mono ?_; rintro e wx ⟨rfl, rfl⟩)
      | (with_reducible refine (Ib.out _).mono ?_; rintro e wx ⟨rfl, rfl⟩))
    | (go_at_call 43; first
      | (with_reducible refine (GG _).out.mono ?_; rintro e wx ⟨rfl, rfl⟩)
      | (with_reducible refine (GH _).out.mono ?_; rintro e wx ⟨rfl, rfl⟩))
    | (go_at_call 44; with_reducible refine (LOW _).out.mono ?_; rintro e wx ⟨rfl, rfl⟩))
  generalize hW : World.alloc w1 _ = W
  obtain ⟨G, hG⟩ : ∃ G : Fm, G = ⟨4, 0, false, false, g1, false, [], 0, 0, 0, false, 0, 0, [], 0, 0⟩ := ⟨_, rfl⟩
  have a1 : At W w1.heap.size (.cells (fcs (Fm.mem G (.slice none 0 0) (.slice none 0 0))) 27 (0, 0)) := by rw [← hW, hG]; exact At.new w1 _
  have a0 : At W w.heap.size (.cells noF 27 (0, 0)) := by rw [← hW]; exact A0.out.alloc _
  have cW : Chg [] w W := by rw [← hW]; exact HC1.out.alloc _
  have hRO : Hid (w.heap.size < w1.heap.size) := Lib.hid A0.out.lt
  clear hW
  obtain ⟨R, hR⟩ : ∃ R, R = w1.heap.size := ⟨_, rfl⟩
  obtain ⟨O, hO⟩ : ∃ R, R = w.heap.size := ⟨_, rfl⟩
  rw [← hR] at a1
  rw [← hO] at a0
  rw [← hR, ← hO] at hRO
  simp only [← hR, ← hO]
  have hOR : ¬ O = R := by have := hRO.out; omega
  have hRO' : ¬ R = O := by have := hRO.out; omega
  have hG2 := Lib.hid hG
  have HO := Lib.hid hO
  have A1 := Lib.hid a1; have B0 := Lib.hid a0; have CW := Lib.hid cW
  clear hR hO hG a1 a0 cW
  go_wp2_with fail
  go_loopw [10] (fun iv wr => ∃ (k : Nat) (lv : Value), k ≤ m ∧ iv = .int .i64 ((6 * k : Nat) : Int) ∧ At wr R (.cells (fcs (Fm.mem G (.slice none 0 0) lv)) 27 (0, 0)) ∧ OwnR 50 2 encS wr O lv (lst s k) ∧ Chg [] w wr ∧ At wr O (.cells noF 27 (0, 0))) (fun iv _ => 6 * m - (intOf iv).toNat)
  case atStart => exact ⟨0, .slice none 0 0, by omega, rfl, A1.out, OwnR.nil _ _, CW.out, B0.out⟩
  case round =>
    obtain ⟨k, lv, hk, rfl, ha, ho, hcc, hbo⟩ := hrel
    obtain ⟨la, lc, rfl, hl1, hl2⟩ := OwnR.slice ho
    rw [lst_len] at ha ho hl1
    have AA := Lib.hid ha; have OO := Lib.hid ho; have CC := Lib.hid hcc; have BO := Lib.hid hbo
    have hOs : O ≤ wr.heap.size := by have := HO.out; have := hcc.size; omega
    clear ha ho hcc hbo
    by_cases hlt : k < m
    · obtain ⟨I, hI⟩ : ∃ I, I = 6 * k := ⟨_, rfl⟩
      have hI6 : I + 6 ≤ 6 * m := by omega
      rw [← hI]
      have hII := Lib.hid hI
      obtain ⟨a, b, c, d, e, f, hg, hset⟩ := six_at s k (by have := HM.out; omega)
      obtain ⟨V2, hV2⟩ : ∃ V, V = a.toNat * 256 + b.toNat := ⟨_, rfl⟩
      obtain ⟨V4, hV4⟩ : ∃ V, V = fourN c d e f := ⟨_, rfl⟩
      have hV2b : V2 ≤ 65535 := by have := a.toNat_lt; have := b.toNat_lt; omega
      have hV4b : V4 < 4294967296 := by rw [hV4]; exact get4_lt [c, d, e, f]
      have hsz : (bstr s).size = 6 * m := by rw [bstr_size]; exact HM.out
      have G2 : Hid (∀ w, Calls Try.prog 43 #[.string X, .int .i64 (I : Int), .int .i64 2] w fun e w' => e = .returned (.int .u64 (V2 : Int)) ∧ w' = w) := Lib.hid (fun w => by
        have h1 := get_any (bstr s) I 2 (by omega) (by omega) (by omega) w
        rw [bx_bstr, cut_at (m := [a, b]) (n := 2) rfl (fun i hi => by
          rw [hI]
          rw [hg i (by omega)]
          match i, hi with
          | 0, _ => rfl
          | 1, _ => rfl), val2, ← hV2] at h1
        rw [HX.out]
        exact h1)
      have G4 : Hid (∀ w, Calls Try.prog 43 #[.string X, .int .i64 ((I : Int) + 2), .int .i64 4] w fun e w' => e = .returned (.int .u64 (V4 : Int)) ∧ w' = w) := Lib.hid (fun w => by
        have h1 := get_any (bstr s) (I + 2) 4 (by omega) (by omega) (by omega) w
        rw [bx_bstr, cut_at (m := [c, d, e, f]) (n := 4) rfl (fun i hi => by
          rw [hI, Nat.add_assoc]
          rw [hg (2 + i) (by omega)]
          match i, hi with
          | 0, _ => rfl
          | 1, _ => rfl
          | 2, _ => rfl
          | 3, _ => rfl), val4, ← hV4] at h1
        rw [HX.out]
        exact h1)
      have hnx : Hid (lst s (k + 1) = lst s k ++ [((V2 : Int), (V4 : Int))]) := Lib.hid (by rw [lst_succ, hset, hV2, hV4])
      have y13 : World.cell? wr ⟨R, 13, none⟩ = some (.slice la k lc) := AA.out.cell rfl
      have yf : ∀ j, World.frozen? wr ⟨R, j, none⟩ = false := fun j => AA.out.free j
      have hRl := AA.out.lt
      have hkb : k ≤ 2796203 := by omega
      have hXI : (I : Int) < (X.size : Int) := by rw [hXs]; omega
      clear hg hset hV2 hV4 hsz hI
      go_wp2_with fail
      have wI2 : IntKind.i64.wrap ((I : Int) + 2) = (I : Int) + 2 := by rw [IntKind.wrap_i64]; omega
      have wV2 : IntKind.i64.wrap (V2 : Int) = (V2 : Int) := by rw [IntKind.wrap_i64]; omega
      have wV4 : IntKind.u32.wrap (V4 : Int) = (V4 : Int) := by show (V4 : Int) % 4294967296 = _; omega
      go_region_law (first
        | (go_simp; go_at_call 43; first
          | (with_reducible refine (G2.out _).mono ?_; rintro e wx ⟨rfl, rfl⟩)
          | (with_reducible refine (G4.out _).mono ?_; rintro e wx ⟨rfl, rfl⟩))
        | (refine step_row encS_len encS_one 25 Try.underlying25 infoS rfl (by decide) rfl (.tmp 123) (.tmp 134) (by rfl) O (.slice la k lc) (lst s k) (by rfl) (by first | exact OwnR.alloc OO.out.drew _ | exact (OwnR.alloc OO.out _).drew) (.slice (some ⟨wr.heap.size, 0, none⟩) 1 1) [((V2 : Int), (V4 : Int))] (by rfl) (by first | exact SliceOf.one (enc := encS) (x := ((V2 : Int), (V4 : Int))) (size := 2) rfl (cs := #[.int .i64 (V2 : Int), .int .u32 (V4 : Int)]) rfl wr.drew | exact SliceOf.chg0 (SliceOf.one (enc := encS) (x := ((V2 : Int), (V4 : Int))) (size := 2) rfl (cs := #[.int .i64 (V2 : Int), .int .u32 (V4 : Int)]) rfl wr) ((Chg.refl _).drew)) (by simp [lst_len, maxLen]; omega) (by simp [lst_len]; omega) (by simp; omega) ?_; intro v' w6 hown' hch' hfr'; obtain ⟨la', lc', rfl, hq1, hq2⟩ := OwnR.slice hown'; have hl1 : (lst s k ++ [((V2 : Int), (V4 : Int))]).length = k + 1 := (by simp [lst_len]); rw [hl1] at hown'; have hat : At w6 R (.cells (fcs (Fm.mem G (.slice none 0 0) (.slice la k lc))) 27 (0, 0)) := At.chg (by first | exact AA.out.drew.alloc _ | exact (AA.out.alloc _).drew) hch' (OwnR.alien OO.out AA.out (by decide)); have k13 : World.cell? w6 ⟨R, 13, none⟩ = some (.slice la k lc) := hat.cell rfl; have kf : World.frozen? w6 ⟨R, 13, none⟩ = false := hat.free 13; have HBT : Hid (At w6 O (.cells noF 27 (0, 0))) := Lib.hid (At.chg (by first | exact BO.out.drew.alloc _ | exact (BO.out.alloc _).drew) hch' (OwnR.alien OO.out BO.out (by decide))); have HAT := Lib.hid hat; have HOW := Lib.hid hown'; have HCH : Hid (Chg [] w w6) := Lib.hid (Chg.trans (by first | exact CC.out.drew.alloc _ | exact (CC.out.alloc _).drew) hch' (fun x hx => Or.inr (Nat.le_trans (Nat.le_of_eq HO.out.symm) (OO.out.lo x hx)))); have hRl6 := hat.lt; rw [hl1]; clear hown' hch' hfr' hat hl1 hq1 hq2)
        | fail)
      all_goals
        go_wp2_with fail
        go_roundw
        case rel => exact ⟨k + 1, .slice la' (k + 1) lc', by omega, by rw [hII.out]; go_num, HAT.out.set 13 _, by
            rw [hnx.out]
            exact HOW.out.chg ((Chg.refl w6).setCell (l := [R]) (Or.inl (by simp)) _) (fun g hg hx => by
              have h1 := OwnR.alien HOW.out HAT.out (by decide)
              simp at hx; subst hx; exact h1 (by simp [hg])), HCH.out.setCell (Or.inr (by have := hRO.out; have := HO.out; simp; omega)) _, HBT.out.set_ne (by simpa using hOR) _⟩
        case measure => simp [intOf]; omega
    · obtain rfl : k = m := by omega
      obtain ⟨I, hI⟩ : ∃ I, I = 6 * k := ⟨_, rfl⟩
      rw [← hI]
      have hge : ¬ (I : Int) < (X.size : Int) := by rw [hXs, hI]; omega
      have HLS : Hid (lst s k = sets s) := Lib.hid (lst_all HM.out)
      clear hI hXs
      go_upto_region 33 with (first
        | (go_at_call 48; first
          | (with_reducible refine (Ie.out _).mono ?_; rintro e wx ⟨rfl, rfl⟩)
          | (with_reducible refine (Ia.out _).mono ?_; rintro e wx ⟨rfl, rfl⟩)
          | (with_reducible refine (Ih.out _).mono ?_; rintro e wx ⟨rfl, rfl⟩)
          | (with_reducible refine (Ir.out _).mono ?_; rintro e wx ⟨rfl, rfl⟩)
          | (with_reducible refine (If.out _).mono ?_; rintro e wx ⟨rfl, rfl⟩)
          | (with_reducible refine (Ip.out _).mono ?_; rintro e wx ⟨rfl, rfl⟩)
          | (with_reducible refine (It.out _).mono ?_; rintro e wx ⟨rfl, rfl⟩)
          | (with_reducible refine (Ic.out _).mono ?_; rintro e wx ⟨rfl, rfl⟩)
          | (with_reducible refine (Ii.out _).mono ?_; rintro e wx ⟨rfl, rfl⟩)
          | (with_reducible refine (Il.out _).mono ?_; rintro e wx ⟨rfl, rfl⟩)
          | (with_reducible refine (Ib.out _).mono ?_; rintro e wx ⟨rfl, rfl⟩))
        | (go_at_call 43; first
          | (with_reducible refine (GG _).out.mono ?_; rintro e wx ⟨rfl, rfl⟩)
          | (with_reducible refine (GH _).out.mono ?_; rintro e wx ⟨rfl, rfl⟩))
        | (go_at_call 44; with_reducible refine (LOW _).out.mono ?_; rintro e wx ⟨rfl, rfl⟩))
      have y0 : World.cell? wx ⟨R, 0, none⟩ = some (.int .i64 (G).kind) := AA.out.cell rfl
      have y1 : World.cell? wx ⟨R, 1, none⟩ = some (.int .i64 (G).stream) := AA.out.cell rfl
      have y2 : World.cell? wx ⟨R, 2, none⟩ = some (.bool (G).fin) := AA.out.cell rfl
      have y3 : World.cell? wx ⟨R, 3, none⟩ = some (.bool (G).eh) := AA.out.cell rfl
      have y4 : World.cell? wx ⟨R, 4, none⟩ = some (.bool (G).ack) := AA.out.cell rfl
      have y5 : World.cell? wx ⟨R, 5, none⟩ = some (.bool (G).prio) := AA.out.cell rfl
      have y6 : World.cell? wx ⟨R, 6, none⟩ = some (.slice none 0 0) := AA.out.cell rfl
      have y7 : World.cell? wx ⟨R, 7, none⟩ = some (.int .i64 (G).flags) := AA.out.cell rfl
      have y8 : World.cell? wx ⟨R, 8, none⟩ = some (.int .i64 (G).pad) := AA.out.cell rfl
      have y9 : World.cell? wx ⟨R, 9, none⟩ = some (.int .i64 (G).depend) := AA.out.cell rfl
      have y10 : World.cell? wx ⟨R, 10, none⟩ = some (.bool (G).excl) := AA.out.cell rfl
      have y11 : World.cell? wx ⟨R, 11, none⟩ = some (.int .i64 (G).weight) := AA.out.cell rfl
      have y12 : World.cell? wx ⟨R, 12, none⟩ = some (.int .u32 (G).code) := AA.out.cell rfl
      have y13 : World.cell? wx ⟨R, 13, none⟩ = some (.slice la k lc) := AA.out.cell rfl
      have y14 : World.cell? wx ⟨R, 14, none⟩ = some (.int .i64 (G).last) := AA.out.cell rfl
      have y15 : World.cell? wx ⟨R, 15, none⟩ = some (.int .i64 (G).inc) := AA.out.cell rfl
      go_wp2_with (refine store_whole rfl 27 _ _ rfl O (fcs (Fm.mem G (.slice none 0 0) (.slice la k lc))) _ 27 rfl rfl BO.out infoFr rfl (by simp [Value.oneCell', Fm.mem]) ?_)
      intro w4 s4 c4
      have C4 := Lib.hid (CC.out.trans c4 (fun x hx => Or.inr (by simp at hx; subst hx; exact Nat.le_of_eq HO.out.symm)))
      have OW4 := Lib.hid (OO.out.chg c4 (fun g hg hx => by
        have h1 := OwnR.alien OO.out BO.out (by decide)
        simp at hx; subst hx; exact h1 (by simp [hg])))
      clear c4 y0 y1 y2 y3 y4 y5 y6 y7 y8 y9 y10 y11 y12 y13 y14 y15
      have z0 : World.cell? w4 ⟨O, 0, none⟩ = some (.int .i64 (G).kind) := s4.cell rfl
      have z1 : World.cell? w4 ⟨O, 1, none⟩ = some (.int .i64 (G).stream) := s4.cell rfl
      have z2 : World.cell? w4 ⟨O, 2, none⟩ = some (.bool (G).fin) := s4.cell rfl
      have z3 : World.cell? w4 ⟨O, 3, none⟩ = some (.bool (G).eh) := s4.cell rfl
      have z4 : World.cell? w4 ⟨O, 4, none⟩ = some (.bool (G).ack) := s4.cell rfl
      have z5 : World.cell? w4 ⟨O, 5, none⟩ = some (.bool (G).prio) := s4.cell rfl
      have z6 : World.cell? w4 ⟨O, 6, none⟩ = some (.slice none 0 0) := s4.cell rfl
      have z7 : World.cell? w4 ⟨O, 7, none⟩ = some (.int .i64 (G).flags) := s4.cell rfl
      have z8 : World.cell? w4 ⟨O, 8, none⟩ = some (.int .i64 (G).pad) := s4.cell rfl
      have z9 : World.cell? w4 ⟨O, 9, none⟩ = some (.int .i64 (G).depend) := s4.cell rfl
      have z10 : World.cell? w4 ⟨O, 10, none⟩ = some (.bool (G).excl) := s4.cell rfl
      have z11 : World.cell? w4 ⟨O, 11, none⟩ = some (.int .i64 (G).weight) := s4.cell rfl
      have z12 : World.cell? w4 ⟨O, 12, none⟩ = some (.int .u32 (G).code) := s4.cell rfl
      have z13 : World.cell? w4 ⟨O, 13, none⟩ = some (.slice la k lc) := s4.cell rfl
      have z14 : World.cell? w4 ⟨O, 14, none⟩ = some (.int .i64 (G).last) := s4.cell rfl
      have z15 : World.cell? w4 ⟨O, 15, none⟩ = some (.int .i64 (G).inc) := s4.cell rfl
      clear s4
      go_wp2_with fail
      refine bodyPost_ret (v := .agg (fcs (Fm.mem G (.slice none 0 0) (.slice la k lc)))) (by simp [results, Try.results50, go_sem, Fm.mem, z0, z1, z2, z3, z4, z5, z6, z7, z8, z9, z10, z11, z12, z13, z14, z15]) rfl ?_
      have hFG : F = { G with list := sets s } := by rw [HF.out, hG2.out, Hg1.out]; rfl
      rw [hFG]
      refine ⟨.slice none 0 0, .slice la k lc, rfl, ?_, ?_, C4.out, fun _ => ?_⟩
      · rw [hG2.out]; exact bytes_nil
      · show SliceOf w4 (.slice la k lc) 2 encS (sets s)
        rw [← HLS.out]
        exact OwnR.sl encS_len (by decide) OW4.out
      · show OwnR 50 2 encS w4 w.heap.size (.slice la k lc) (sets s)
        rw [← HLS.out, ← HO.out]
        exact OW4.out
end Go.Proofs.Ythhgnipiaohplaa.Fr
