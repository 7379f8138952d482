/-
  The document's read, kind by kind: 7 and those above 9.
-/
import Derived.Test.YthhgnipiaohplaaFre
namespace Go.Proofs.Ythhgnipiaohplaa.Fr
open Go.ChangeShapes Go.WideShapes Go.ChangeAt Go.RowKit
open Go.Proofs.Ythhgnipiaohplaa.B
set_option linter.unusedVariables false
set_option linter.unusedSimpArgs false

set_option maxRecDepth 100000 in
set_option maxHeartbeats 8000000 in
theorem rread_7 (fl : UInt8) (s : List UInt8) (hs : s.length ≤ 16777215) (h8 : 8 ≤ s.length) (w : World) :
    Calls Try.prog 50 #[.int .i64 7, .int .i64 ((fl.toNat : Nat) : Int), .string (bstr s)] w (RdPost (readF 7 fl s) w) := by
  obtain ⟨S, hS⟩ : ∃ S, S = bstr (hasL 7) := ⟨_, rfl⟩
  have Ie : Hid (∀ w, Calls Try.prog 48 #[.string S, .int .u8 101] w fun e w' => e = .returned (.bool false) ∧ w' = w) := Lib.hid (fun w => by rw [hS]; exact in_has 7 101 false (by decide) w)
  have Ia : Hid (∀ w, Calls Try.prog 48 #[.string S, .int .u8 97] w fun e w' => e = .returned (.bool false) ∧ w' = w) := Lib.hid (fun w => by rw [hS]; exact in_has 7 97 false (by decide) w)
  have Ih : Hid (∀ w, Calls Try.prog 48 #[.string S, .int .u8 104] w fun e w' => e = .returned (.bool false) ∧ w' = w) := Lib.hid (fun w => by rw [hS]; exact in_has 7 104 false (by decide) w)
  have Ir : Hid (∀ w, Calls Try.prog 48 #[.string S, .int .u8 114] w fun e w' => e = .returned (.bool false) ∧ w' = w) := Lib.hid (fun w => by rw [hS]; exact in_has 7 114 false (by decide) w)
  have If : Hid (∀ w, Calls Try.prog 48 #[.string S, .int .u8 102] w fun e w' => e = .returned (.bool false) ∧ w' = w) := Lib.hid (fun w => by rw [hS]; exact in_has 7 102 false (by decide) w)
  have Ip : Hid (∀ w, Calls Try.prog 48 #[.string S, .int .u8 112] w fun e w' => e = .returned (.bool false) ∧ w' = w) := Lib.hid (fun w => by rw [hS]; exact in_has 7 112 false (by decide) w)
  have It : Hid (∀ w, Calls Try.prog 48 #[.string S, .int .u8 116] w fun e w' => e = .returned (.bool true) ∧ w' = w) := Lib.hid (fun w => by rw [hS]; exact in_has 7 116 true (by decide) w)
  have Ic : Hid (∀ w, Calls Try.prog 48 #[.string S, .int .u8 99] w fun e w' => e = .returned (.bool true) ∧ w' = w) := Lib.hid (fun w => by rw [hS]; exact in_has 7 99 true (by decide) w)
  have Ii : Hid (∀ w, Calls Try.prog 48 #[.string S, .int .u8 105] w fun e w' => e = .returned (.bool false) ∧ w' = w) := Lib.hid (fun w => by rw [hS]; exact in_has 7 105 false (by decide) w)
  have Il : Hid (∀ w, Calls Try.prog 48 #[.string S, .int .u8 108] w fun e w' => e = .returned (.bool false) ∧ w' = w) := Lib.hid (fun w => by rw [hS]; exact in_has 7 108 false (by decide) w)
  have Ib : Hid (∀ w, Calls Try.prog 48 #[.string S, .int .u8 98] w fun e w' => e = .returned (.bool true) ∧ w' = w) := Lib.hid (fun w => by rw [hS]; exact in_has 7 98 true (by decide) w)
  have HS := Lib.hid hS
  obtain ⟨g1, hg1⟩ : ∃ b, b = bitB fl 0 := ⟨_, rfl⟩
  have E1 : (Go.bits .and .i64 ((fl.toNat : Nat) : Int) 1 != 0) = g1 := by rw [hg1]; exact (bne_of _ 1 (by decide) _ (bit1 fl)).1
  have Hg1 := Lib.hid hg1
  clear hg1
  obtain ⟨g4, hg4⟩ : ∃ b, b = bitB fl 2 := ⟨_, rfl⟩
  have E4 : (Go.bits .and .i64 ((fl.toNat : Nat) : Int) 4 != 0) = g4 := by rw [hg4]; exact (bne_of _ 4 (by decide) _ (bit4 fl)).1
  have Hg4 := Lib.hid hg4
  clear hg4
  obtain ⟨g8, hg8⟩ : ∃ b, b = bitB fl 3 := ⟨_, rfl⟩
  have E8 : (Go.bits .and .i64 ((fl.toNat : Nat) : Int) 8 != 0) = g8 := by rw [hg8]; exact (bne_of _ 8 (by decide) _ (bit8 fl)).1
  have Hg8 := Lib.hid hg8
  clear hg8
  obtain ⟨g32, hg32⟩ : ∃ b, b = bitB fl 5 := ⟨_, rfl⟩
  have E32 : (Go.bits .and .i64 ((fl.toNat : Nat) : Int) 32 != 0) = g32 := by rw [hg32]; exact (bne_of _ 32 (by decide) _ (bit32 fl)).1
  have Hg32 := Lib.hid hg32
  clear hg32
  have HLL : Hid (s.length ≤ 16777215) := Lib.hid hs
  obtain ⟨X, hX⟩ : ∃ X, X = bstr s := ⟨_, rfl⟩
  rw [← hX]
  have HX := Lib.hid hX
  have HA := Lib.hid (rhas_any 7)
  rw [← hS] at HA
  obtain ⟨F, hF⟩ : ∃ F, F = readF 7 fl s := ⟨_, rfl⟩
  rw [← hF]
  have HF := Lib.hid hF
  have GG := fun w => Lib.hid (get4_any s (by omega) (by omega) w)
  rw [← hX] at GG
  obtain ⟨V, hV⟩ : ∃ V, V = get4 s := ⟨_, rfl⟩
  rw [← hV] at GG
  have hV4 : V < 4294967296 := by rw [hV]; exact get4_lt s
  have HV := Lib.hid hV
  have LOW := fun w => Lib.hid (low_any V w)
  obtain ⟨VL, hVL⟩ : ∃ v, v = V % 2147483648 := ⟨_, rfl⟩
  rw [← hVL] at LOW
  have HVL := Lib.hid hVL
  have hXs : 8 ≤ X.size := by rw [hX, bstr_size]; exact h8
  have GH := fun w => Lib.hid (get4_any (s.drop 4) (by rw [List.length_drop]; omega) (by rw [List.length_drop]; omega) w)
  obtain ⟨V2, hV2⟩ : ∃ V, V = get4 (s.drop 4) := ⟨_, rfl⟩
  rw [← hV2] at GH
  have hV24 : V2 < 4294967296 := by rw [hV2]; exact get4_lt _
  have HV2 := Lib.hid hV2
  obtain ⟨X2, hX2⟩ : ∃ X2, X2 = bstr (s.drop 4) := ⟨_, rfl⟩
  rw [← hX2] at GH
  have hX2s : 4 ≤ X2.size := by rw [hX2, bstr_size, List.length_drop]; omega
  have hcut1 : Hid (X.extract 4 X.size = X2) := Lib.hid (by rw [hX, hX2, bstr_cut, bstr_size, List.take_length])
  obtain ⟨M, hM⟩ : ∃ M, M = s.drop 8 := ⟨_, rfl⟩
  have hcut2 : Hid (X2.extract 4 X2.size = bstr M) := Lib.hid (by rw [hM, hX2, bstr_cut, bstr_size, List.take_length, List.drop_drop])
  have HPC : Hid (readF 7 fl s = ⟨7, 0, false, false, false, false, M, 0, 0, 0, false, 0, (V2 : Nat), [], (VL : Nat), 0⟩) := Lib.hid (by rw [hM, hV2, hVL, hV]; rfl)
  have HLM : Hid (M.length ≤ 16777215) := Lib.hid (by rw [hM, List.length_drop]; omega)
  clear HLL hV h8 hVL hV2 hX2 hM
  have HLL := HLM
  clear hS hs hX hF
  go_enter Try.func50, Try.ntmps50
  go_wp2_with fail
  refine (HA.out _).mono ?_; rintro e w1 ⟨rfl, c1⟩
  have HC1 := Lib.hid ((Chg.refl w).alloc _ |>.trans' c1)
  have A0 := Lib.hid ((At.new w (.cells noF 27)).chg c1 (by simp))
  clear c1
  go_upto_region 21 with (first
    | (go_at_call 48; first
      | (with_reducible refine (Ie.out _).mono ?_; rintro e wx ⟨rfl, rfl⟩)
      | (with_reducible refine (Ia.out _).mono ?_; rintro e wx ⟨rfl, rfl⟩)
      | (with_reducible refine (Ih.out _).mono ?_; rintro e wx ⟨rfl, rfl⟩)
      | (with_reducible refine (Ir.out _).mono ?_; rintro e wx ⟨rfl, rfl⟩)
      | (with_reducible refine (If.out _).mono ?_; rintro e wx ⟨rfl, rfl⟩)
      | (with_reducible refine (Ip.out _).mono ?_; rintro e wx ⟨rfl, rfl⟩)
      | (with_reducible refine (It.out _).mono ?_; rintro e wx ⟨rfl, rfl⟩)
      | (with_reducible refine (Ic.out _).mono ?_; rintro e wx ⟨rfl, rfl⟩)
      | (with_reducible refine (Ii.out _).mono ?_; rintro e wx ⟨rfl, rfl⟩)
      | (with_reducible refine (Il.out _).mono ?_; rintro e wx ⟨rfl, rfl⟩)
      | (with_reducible refine (Ib.out _).mono ?_; rintro e wx ⟨rfl, rfl⟩))
    | (go_at_call 43; first
      | (with_reducible refine (GG _).out.mono ?_; rintro e wx ⟨rfl, rfl⟩)
      | (with_reducible refine (GH _).out.mono ?_; rintro e wx ⟨rfl, rfl⟩))
    | (go_at_call 44; with_reducible refine (LOW _).out.mono ?_; rintro e wx ⟨rfl, rfl⟩))
  rw [hcut1.out]
  go_upto_region 32 with (first
    | (go_at_call 48; first
      | (with_reducible refine (Ie.out _).mono ?_; rintro e wx ⟨rfl, rfl⟩)
      | (with_reducible refine (Ia.out _).mono ?_; rintro e wx ⟨rfl, rfl⟩)
      | (with_reducible refine (Ih.out _).mono ?_; rintro e wx ⟨rfl, rfl⟩)
      | (with_reducible refine (Ir.out _).mono ?_; rintro e wx ⟨rfl, rfl⟩)
      | (with_reducible refine (If.out _).mono ?_; rintro e wx ⟨rfl, rfl⟩)
      | (with_reducible refine (Ip.out _).mono ?_; rintro e wx ⟨rfl, rfl⟩)
      | (with_reducible refine (It.out _).mono ?_; rintro e wx ⟨rfl, rfl⟩)
      | (with_reducible refine (Ic.out _).mono ?_; rintro e wx ⟨rfl, rfl⟩)
      | (with_reducible refine (Ii.out _).mono ?_; rintro e wx ⟨rfl, rfl⟩)
      | (with_reducible refine (Il.out _).mono ?_; rintro e wx ⟨rfl, rfl⟩)
      | (with_reducible refine (Ib.out _).mono ?_; rintro e wx ⟨rfl, rfl⟩))
    | (go_at_call 43; first
      | (with_reducible refine (GG _).out.mono ?_; rintro e wx ⟨rfl, rfl⟩)
      | (with_reducible refine (GH _).out.mono ?_; rintro e wx ⟨rfl, rfl⟩))
    | (go_at_call 44; with_reducible refine (LOW _).out.mono ?_; rintro e wx ⟨rfl, rfl⟩))
  rw [hcut2.out]
  obtain ⟨Y, hY⟩ : ∃ Y, Y = bstr M := ⟨_, rfl⟩
  rw [← hY]
  have HY := Lib.hid hY
  clear hY
  generalize hW : World.alloc w1 _ = W
  obtain ⟨G, hG⟩ : ∃ G : Fm, G = ⟨7, 0, false, false, false, false, [], 0, 0, 0, false, 0, (V2 : Nat), [], (VL : Nat), 0⟩ := ⟨_, rfl⟩
  have a1 : At W w1.heap.size (.cells (fcs (Fm.mem G (.slice none 0 0) (.slice none 0 0))) 27 (0, 0)) := by rw [← hW, hG]; exact At.new w1 _
  have a0 : At W w.heap.size (.cells noF 27 (0, 0)) := by rw [← hW]; exact A0.out.alloc _
  have cW : Chg [] w W := by rw [← hW]; exact HC1.out.alloc _
  have hRO : Hid (w.heap.size < w1.heap.size) := Lib.hid A0.out.lt
  clear hW
  have hXs : (Y).size = (M).length := by rw [HY.out]; exact bstr_size _
  have hXl : (M).length ≤ 16777215 := HLL.out
  have sb := str_bytes Y W (by rw [hXs]; unfold maxLen; omega)
  have sc := str_chg Y W
  unfold strRow at sb
  rw [hXs, show (Y).data.toList = M by rw [HY.out]; exact bstr_toList _] at sb
  obtain ⟨CAP, hCAP⟩ : ∃ C, C = grownCap W (M).length 0 5 := ⟨_, rfl⟩
  have hrow : strRow Y W = .slice (some ⟨W.heap.size, 0, none⟩) (M).length CAP := by unfold strRow; rw [hXs, ← hCAP]
  have hsr := str_run Y W
  rw [hrow] at hsr
  rw [← hCAP] at sb
  generalize strWorld Y W = w2 at *
  clear hrow hCAP
  obtain ⟨R, hR⟩ : ∃ R, R = w1.heap.size := ⟨_, rfl⟩
  obtain ⟨O, hO⟩ : ∃ R, R = w.heap.size := ⟨_, rfl⟩
  rw [← hR] at a1
  rw [← hO] at a0
  rw [← hR, ← hO] at hRO
  simp only [← hR, ← hO]
  have hOR : ¬ O = R := by have := hRO.out; omega
  have hRO' : ¬ R = O := by have := hRO.out; omega
  have hNR : ¬ W.heap.size = R := by have := a1.lt; omega
  have hNO : ¬ W.heap.size = O := by have := a0.lt; omega
  have b1 := a1.chg sc (by simp)
  have b0 := a0.chg sc (by simp)
  have hc2 := cW.trans' sc
  have x13 : World.frozen? w2 ⟨R, 6, none⟩ = false := b1.free 6
  have x14 : World.cell? w2 ⟨R, 6, none⟩ = some (.slice none 0 0) := b1.cell rfl
  have hRl := b1.lt
  have sb3 : BytesOf (w2.setCell ⟨R, 6, none⟩ (.slice (some ⟨W.heap.size, 0, none⟩) (M).length CAP)) (.slice (some ⟨W.heap.size, 0, none⟩) (M).length CAP) M := sb.chg ((Chg.refl w2).setCell (l := [R]) (Or.inl (by simp)) _) (by intro a n c he; cases he; simpa using hNR)
  have b13 : At (w2.setCell ⟨R, 6, none⟩ (.slice (some ⟨W.heap.size, 0, none⟩) (M).length CAP)) R (.cells (fcs (Fm.mem G (.slice (some ⟨W.heap.size, 0, none⟩) (M).length CAP) (.slice none 0 0))) 27 (0, 0)) := b1.set 6 _
  have b03 : At (w2.setCell ⟨R, 6, none⟩ (.slice (some ⟨W.heap.size, 0, none⟩) (M).length CAP)) O (.cells noF 27 (0, 0)) := b0.set_ne (by simpa using hOR) _
  have hc3 : Chg [] w (w2.setCell ⟨R, 6, none⟩ (.slice (some ⟨W.heap.size, 0, none⟩) (M).length CAP)) := hc2.setCell (Or.inr (by have := hRO.out; simp; omega)) _
  obtain ⟨N, hN⟩ : ∃ N, N = W.heap.size := ⟨_, rfl⟩
  rw [← hN] at sb3 b13 b03 hc3 hNR hNO hsr
  have hG2 := Lib.hid hG
  have HO := Lib.hid hO
  clear hN a1 a0 cW sc sb hc2 b1 b0 hXs hR hO hG
  obtain ⟨w3, hw3⟩ : ∃ x, x = w2.setCell ⟨R, 6, none⟩ (.slice (some ⟨N, 0, none⟩) (M).length CAP) := ⟨_, rfl⟩
  rw [← hw3] at sb3 b13 b03 hc3
  have SB3 := Lib.hid sb3; have B03 := Lib.hid b03; have HC3 := Lib.hid hc3; have B13 := Lib.hid b13
  have HW3 := Lib.hid hw3.symm
  clear sb3 b03 hc3 hw3
  go_upto_region 33 with fail
  rw [HW3.out]
  clear x13 x14 hRl
  have y0 : World.cell? w3 ⟨R, 0, none⟩ = some (.int .i64 (G).kind) := b13.cell rfl
  have y1 : World.cell? w3 ⟨R, 1, none⟩ = some (.int .i64 (G).stream) := b13.cell rfl
  have y2 : World.cell? w3 ⟨R, 2, none⟩ = some (.bool (G).fin) := b13.cell rfl
  have y3 : World.cell? w3 ⟨R, 3, none⟩ = some (.bool (G).eh) := b13.cell rfl
  have y4 : World.cell? w3 ⟨R, 4, none⟩ = some (.bool (G).ack) := b13.cell rfl
  have y5 : World.cell? w3 ⟨R, 5, none⟩ = some (.bool (G).prio) := b13.cell rfl
  have y6 : World.cell? w3 ⟨R, 6, none⟩ = some (.slice (some ⟨N, 0, none⟩) (M).length CAP) := b13.cell rfl
  have y7 : World.cell? w3 ⟨R, 7, none⟩ = some (.int .i64 (G).flags) := b13.cell rfl
  have y8 : World.cell? w3 ⟨R, 8, none⟩ = some (.int .i64 (G).pad) := b13.cell rfl
  have y9 : World.cell? w3 ⟨R, 9, none⟩ = some (.int .i64 (G).depend) := b13.cell rfl
  have y10 : World.cell? w3 ⟨R, 10, none⟩ = some (.bool (G).excl) := b13.cell rfl
  have y11 : World.cell? w3 ⟨R, 11, none⟩ = some (.int .i64 (G).weight) := b13.cell rfl
  have y12 : World.cell? w3 ⟨R, 12, none⟩ = some (.int .u32 (G).code) := b13.cell rfl
  have y13 : World.cell? w3 ⟨R, 13, none⟩ = some (.slice none 0 0) := b13.cell rfl
  have y14 : World.cell? w3 ⟨R, 14, none⟩ = some (.int .i64 (G).last) := b13.cell rfl
  have y15 : World.cell? w3 ⟨R, 15, none⟩ = some (.int .i64 (G).inc) := b13.cell rfl
  clear b13
  go_wp2_with (refine store_whole rfl 27 _ _ rfl O (fcs (Fm.mem G (.slice (some ⟨N, 0, none⟩) (M).length CAP) (.slice none 0 0))) _ 27 rfl rfl B03.out infoFr rfl (by simp [Value.oneCell', Fm.mem]) ?_)
  intro w4 s4 c4
  have C4 := Lib.hid (HC3.out.trans c4 (fun x hx => Or.inr (by simp at hx; subst hx; exact Nat.le_of_eq HO.out.symm)))
  have SB4 := Lib.hid (SB3.out.chg c4 (by intro a n c he; cases he; simpa using hNO))
  clear c4 y0 y1 y2 y3 y4 y5 y6 y7 y8 y9 y10 y11 y12 y13 y14 y15 SB3 B03 B13 HC3 HW3
  have z0 : World.cell? w4 ⟨O, 0, none⟩ = some (.int .i64 (G).kind) := s4.cell rfl
  have z1 : World.cell? w4 ⟨O, 1, none⟩ = some (.int .i64 (G).stream) := s4.cell rfl
  have z2 : World.cell? w4 ⟨O, 2, none⟩ = some (.bool (G).fin) := s4.cell rfl
  have z3 : World.cell? w4 ⟨O, 3, none⟩ = some (.bool (G).eh) := s4.cell rfl
  have z4 : World.cell? w4 ⟨O, 4, none⟩ = some (.bool (G).ack) := s4.cell rfl
  have z5 : World.cell? w4 ⟨O, 5, none⟩ = some (.bool (G).prio) := s4.cell rfl
  have z6 : World.cell? w4 ⟨O, 6, none⟩ = some (.slice (some ⟨N, 0, none⟩) (M).length CAP) := s4.cell rfl
  have z7 : World.cell? w4 ⟨O, 7, none⟩ = some (.int .i64 (G).flags) := s4.cell rfl
  have z8 : World.cell? w4 ⟨O, 8, none⟩ = some (.int .i64 (G).pad) := s4.cell rfl
  have z9 : World.cell? w4 ⟨O, 9, none⟩ = some (.int .i64 (G).depend) := s4.cell rfl
  have z10 : World.cell? w4 ⟨O, 10, none⟩ = some (.bool (G).excl) := s4.cell rfl
  have z11 : World.cell? w4 ⟨O, 11, none⟩ = some (.int .i64 (G).weight) := s4.cell rfl
  have z12 : World.cell? w4 ⟨O, 12, none⟩ = some (.int .u32 (G).code) := s4.cell rfl
  have z13 : World.cell? w4 ⟨O, 13, none⟩ = some (.slice none 0 0) := s4.cell rfl
  have z14 : World.cell? w4 ⟨O, 14, none⟩ = some (.int .i64 (G).last) := s4.cell rfl
  have z15 : World.cell? w4 ⟨O, 15, none⟩ = some (.int .i64 (G).inc) := s4.cell rfl
  clear s4
  go_wp2_with fail
  refine bodyPost_ret (v := .agg (fcs (Fm.mem G (.slice (some ⟨N, 0, none⟩) (M).length CAP) (.slice none 0 0)))) (by simp [results, Try.results50, go_sem, Fm.mem, z0, z1, z2, z3, z4, z5, z6, z7, z8, z9, z10, z11, z12, z13, z14, z15]) rfl ?_
  have hFG : F = { G with pay := M } := by rw [HF.out, hG2.out, HPC.out]; try rfl
  rw [hFG]
  refine ⟨_, _, rfl, SB4.out, ?_, C4.out⟩
  rw [hG2.out]
  exact slice_nil
theorem hasL_ot2 (k : Nat) (h : 10 ≤ k) : hasL (k : Int) = [102, 98] := by
  unfold hasL
  repeat rw [if_neg (by omega)]
set_option maxRecDepth 100000 in
set_option maxHeartbeats 8000000 in
theorem rread_10 (k : Nat) (fl : UInt8) (s : List UInt8) (hs : s.length ≤ 16777215) (w : World) :
    Calls Try.prog 50 #[.int .i64 ((k + 10 : Nat) : Int), .int .i64 ((fl.toNat : Nat) : Int), .string (bstr s)] w (RdPost (readF (k + 10) fl s) w) := by
  obtain ⟨KI, hKI⟩ : ∃ KI, KI = ((k + 10 : Nat) : Int) := ⟨_, rfl⟩
  have hLL : hasL KI = [102, 98] := by rw [hKI]; exact hasL_ot2 _ (by omega)
  rw [← hKI]
  obtain ⟨S, hS⟩ : ∃ S, S = bstr (hasL KI) := ⟨_, rfl⟩
  have Ie : Hid (∀ w, Calls Try.prog 48 #[.string S, .int .u8 101] w fun e w' => e = .returned (.bool false) ∧ w' = w) := Lib.hid (fun w => by rw [hS]; exact in_has KI 101 false (by rw [hLL]; decide) w)
  have Ia : Hid (∀ w, Calls Try.prog 48 #[.string S, .int .u8 97] w fun e w' => e = .returned (.bool false) ∧ w' = w) := Lib.hid (fun w => by rw [hS]; exact in_has KI 97 false (by rw [hLL]; decide) w)
  have Ih : Hid (∀ w, Calls Try.prog 48 #[.string S, .int .u8 104] w fun e w' => e = .returned (.bool false) ∧ w' = w) := Lib.hid (fun w => by rw [hS]; exact in_has KI 104 false (by rw [hLL]; decide) w)
  have Ir : Hid (∀ w, Calls Try.prog 48 #[.string S, .int .u8 114] w fun e w' => e = .returned (.bool false) ∧ w' = w) := Lib.hid (fun w => by rw [hS]; exact in_has KI 114 false (by rw [hLL]; decide) w)
  have If : Hid (∀ w, Calls Try.prog 48 #[.string S, .int .u8 102] w fun e w' => e = .returned (.bool true) ∧ w' = w) := Lib.hid (fun w => by rw [hS]; exact in_has KI 102 true (by rw [hLL]; decide) w)
  have Ip : Hid (∀ w, Calls Try.prog 48 #[.string S, .int .u8 112] w fun e w' => e = .returned (.bool false) ∧ w' = w) := Lib.hid (fun w => by rw [hS]; exact in_has KI 112 false (by rw [hLL]; decide) w)
  have It : Hid (∀ w, Calls Try.prog 48 #[.string S, .int .u8 116] w fun e w' => e = .returned (.bool false) ∧ w' = w) := Lib.hid (fun w => by rw [hS]; exact in_has KI 116 false (by rw [hLL]; decide) w)
  have Ic : Hid (∀ w, Calls Try.prog 48 #[.string S, .int .u8 99] w fun e w' => e = .returned (.bool false) ∧ w' = w) := Lib.hid (fun w => by rw [hS]; exact in_has KI 99 false (by rw [hLL]; decide) w)
  have Ii : Hid (∀ w, Calls Try.prog 48 #[.string S, .int .u8 105] w fun e w' => e = .returned (.bool false) ∧ w' = w) := Lib.hid (fun w => by rw [hS]; exact in_has KI 105 false (by rw [hLL]; decide) w)
  have Il : Hid (∀ w, Calls Try.prog 48 #[.string S, .int .u8 108] w fun e w' => e = .returned (.bool false) ∧ w' = w) := Lib.hid (fun w => by rw [hS]; exact in_has KI 108 false (by rw [hLL]; decide) w)
  have Ib : Hid (∀ w, Calls Try.prog 48 #[.string S, .int .u8 98] w fun e w' => e = .returned (.bool true) ∧ w' = w) := Lib.hid (fun w => by rw [hS]; exact in_has KI 98 true (by rw [hLL]; decide) w)
  have HS := Lib.hid hS
  obtain ⟨g1, hg1⟩ : ∃ b, b = bitB fl 0 := ⟨_, rfl⟩
  have E1 : (Go.bits .and .i64 ((fl.toNat : Nat) : Int) 1 != 0) = g1 := by rw [hg1]; exact (bne_of _ 1 (by decide) _ (bit1 fl)).1
  have Hg1 := Lib.hid hg1
  clear hg1
  obtain ⟨g4, hg4⟩ : ∃ b, b = bitB fl 2 := ⟨_, rfl⟩
  have E4 : (Go.bits .and .i64 ((fl.toNat : Nat) : Int) 4 != 0) = g4 := by rw [hg4]; exact (bne_of _ 4 (by decide) _ (bit4 fl)).1
  have Hg4 := Lib.hid hg4
  clear hg4
  obtain ⟨g8, hg8⟩ : ∃ b, b = bitB fl 3 := ⟨_, rfl⟩
  have E8 : (Go.bits .and .i64 ((fl.toNat : Nat) : Int) 8 != 0) = g8 := by rw [hg8]; exact (bne_of _ 8 (by decide) _ (bit8 fl)).1
  have Hg8 := Lib.hid hg8
  clear hg8
  obtain ⟨g32, hg32⟩ : ∃ b, b = bitB fl 5 := ⟨_, rfl⟩
  have E32 : (Go.bits .and .i64 ((fl.toNat : Nat) : Int) 32 != 0) = g32 := by rw [hg32]; exact (bne_of _ 32 (by decide) _ (bit32 fl)).1
  have Hg32 := Lib.hid hg32
  clear hg32
  have HLL : Hid (s.length ≤ 16777215) := Lib.hid hs
  obtain ⟨X, hX⟩ : ∃ X, X = bstr s := ⟨_, rfl⟩
  rw [← hX]
  have HX := Lib.hid hX
  have HA := Lib.hid (rhas_any KI)
  rw [← hS] at HA
  obtain ⟨F, hF⟩ : ∃ F, F = readF (k + 10) fl s := ⟨_, rfl⟩
  rw [← hF]
  have HF := Lib.hid hF
  have HPC : Hid (readF (k + 10) fl s = ⟨KI, 0, false, false, false, false, s, (fl.toNat : Nat), 0, 0, false, 0, 0, [], 0, 0⟩) := Lib.hid (by rw [hKI]; rfl)
  have hk2 : (KI == 2) = false := by rw [hKI]; first | (simp; done) | (simp; omega)
  clear hLL hKI
  clear hS hs hX hF
  go_enter Try.func50, Try.ntmps50
  go_wp2_with fail
  refine (HA.out _).mono ?_; rintro e w1 ⟨rfl, c1⟩
  have HC1 := Lib.hid ((Chg.refl w).alloc _ |>.trans' c1)
  have A0 := Lib.hid ((At.new w (.cells noF 27)).chg c1 (by simp))
  clear c1
  go_upto_region 32 with (first
    | (go_at_call 48; first
      | (with_reducible refine (Ie.out _).mono ?_; rintro e wx ⟨rfl, rfl⟩)
      | (with_reducible refine (Ia.out _).mono ?_; rintro e wx ⟨rfl, rfl⟩)
      | (with_reducible refine (Ih.out _).mono ?_; rintro e wx ⟨rfl, rfl⟩)
      | (with_reducible refine (Ir.out _).mono ?_; rintro e wx ⟨rfl, rfl⟩)
      | (with_reducible refine (If.out _).mono ?_; rintro e wx ⟨rfl, rfl⟩)
      | (with_reducible refine (Ip.out _).mono ?_; rintro e wx ⟨rfl, rfl⟩)
      | (with_reducible refine (It.out _).mono ?_; rintro e wx ⟨rfl, rfl⟩)
      | (with_reducible refine (Ic.out _).mono ?_; rintro e wx ⟨rfl, rfl⟩)
      | (with_reducible refine (Ii.out _).mono ?_; rintro e wx ⟨rfl, rfl⟩)
      | (with_reducible refine (Il.out _).mono ?_; rintro e wx ⟨rfl, rfl⟩)
      | (with_reducible refine (Ib.out _).mono ?_; rintro e wx ⟨rfl, rfl⟩))
    | (go_at_call 43; first
      | (with_reducible refine (GG _).out.mono ?_; rintro e wx ⟨rfl, rfl⟩)
      | (with_reducible refine (GH _).out.mono ?_; rintro e wx ⟨rfl, rfl⟩))
    | (go_at_call 44; with_reducible refine (LOW _).out.mono ?_; rintro e wx ⟨rfl, rfl⟩))
  generalize hW : World.alloc w1 _ = W
  obtain ⟨G, hG⟩ : ∃ G : Fm, G = ⟨KI, 0, false, false, false, false, [], (fl.toNat : Nat), 0, 0, false, 0, 0, [], 0, 0⟩ := ⟨_, rfl⟩
  have a1 : At W w1.heap.size (.cells (fcs (Fm.mem G (.slice none 0 0) (.slice none 0 0))) 27 (0, 0)) := by rw [← hW, hG]; exact At.new w1 _
  have a0 : At W w.heap.size (.cells noF 27 (0, 0)) := by rw [← hW]; exact A0.out.alloc _
  have cW : Chg [] w W := by rw [← hW]; exact HC1.out.alloc _
  have hRO : Hid (w.heap.size < w1.heap.size) := Lib.hid A0.out.lt
  clear hW
  have hXs : (X).size = (s).length := by rw [HX.out]; exact bstr_size _
  have hXl : (s).length ≤ 16777215 := HLL.out
  have sb := str_bytes X W (by rw [hXs]; unfold maxLen; omega)
  have sc := str_chg X W
  unfold strRow at sb
  rw [hXs, show (X).data.toList = s by rw [HX.out]; exact bstr_toList _] at sb
  obtain ⟨CAP, hCAP⟩ : ∃ C, C = grownCap W (s).length 0 5 := ⟨_, rfl⟩
  have hrow : strRow X W = .slice (some ⟨W.heap.size, 0, none⟩) (s).length CAP := by unfold strRow; rw [hXs, ← hCAP]
  have hsr := str_run X W
  rw [hrow] at hsr
  rw [← hCAP] at sb
  generalize strWorld X W = w2 at *
  clear hrow hCAP
  obtain ⟨R, hR⟩ : ∃ R, R = w1.heap.size := ⟨_, rfl⟩
  obtain ⟨O, hO⟩ : ∃ R, R = w.heap.size := ⟨_, rfl⟩
  rw [← hR] at a1
  rw [← hO] at a0
  rw [← hR, ← hO] at hRO
  simp only [← hR, ← hO]
  have hOR : ¬ O = R := by have := hRO.out; omega
  have hRO' : ¬ R = O := by have := hRO.out; omega
  have hNR : ¬ W.heap.size = R := by have := a1.lt; omega
  have hNO : ¬ W.heap.size = O := by have := a0.lt; omega
  have b1 := a1.chg sc (by simp)
  have b0 := a0.chg sc (by simp)
  have hc2 := cW.trans' sc
  have x13 : World.frozen? w2 ⟨R, 6, none⟩ = false := b1.free 6
  have x14 : World.cell? w2 ⟨R, 6, none⟩ = some (.slice none 0 0) := b1.cell rfl
  have hRl := b1.lt
  have sb3 : BytesOf (w2.setCell ⟨R, 6, none⟩ (.slice (some ⟨W.heap.size, 0, none⟩) (s).length CAP)) (.slice (some ⟨W.heap.size, 0, none⟩) (s).length CAP) s := sb.chg ((Chg.refl w2).setCell (l := [R]) (Or.inl (by simp)) _) (by intro a n c he; cases he; simpa using hNR)
  have b13 : At (w2.setCell ⟨R, 6, none⟩ (.slice (some ⟨W.heap.size, 0, none⟩) (s).length CAP)) R (.cells (fcs (Fm.mem G (.slice (some ⟨W.heap.size, 0, none⟩) (s).length CAP) (.slice none 0 0))) 27 (0, 0)) := b1.set 6 _
  have b03 : At (w2.setCell ⟨R, 6, none⟩ (.slice (some ⟨W.heap.size, 0, none⟩) (s).length CAP)) O (.cells noF 27 (0, 0)) := b0.set_ne (by simpa using hOR) _
  have hc3 : Chg [] w (w2.setCell ⟨R, 6, none⟩ (.slice (some ⟨W.heap.size, 0, none⟩) (s).length CAP)) := hc2.setCell (Or.inr (by have := hRO.out; simp; omega)) _
  obtain ⟨N, hN⟩ : ∃ N, N = W.heap.size := ⟨_, rfl⟩
  rw [← hN] at sb3 b13 b03 hc3 hNR hNO hsr
  have hG2 := Lib.hid hG
  have HO := Lib.hid hO
  clear hN a1 a0 cW sc sb hc2 b1 b0 hXs hR hO hG
  obtain ⟨w3, hw3⟩ : ∃ x, x = w2.setCell ⟨R, 6, none⟩ (.slice (some ⟨N, 0, none⟩) (s).length CAP) := ⟨_, rfl⟩
  rw [← hw3] at sb3 b13 b03 hc3
  have SB3 := Lib.hid sb3; have B03 := Lib.hid b03; have HC3 := Lib.hid hc3; have B13 := Lib.hid b13
  have HW3 := Lib.hid hw3.symm
  clear sb3 b03 hc3 hw3
  go_upto_region 33 with fail
  rw [HW3.out]
  clear x13 x14 hRl
  have y0 : World.cell? w3 ⟨R, 0, none⟩ = some (.int .i64 (G).kind) := b13.cell rfl
  have y1 : World.cell? w3 ⟨R, 1, none⟩ = some (.int .i64 (G).stream) := b13.cell rfl
  have y2 : World.cell? w3 ⟨R, 2, none⟩ = some (.bool (G).fin) := b13.cell rfl
  have y3 : World.cell? w3 ⟨R, 3, none⟩ = some (.bool (G).eh) := b13.cell rfl
  have y4 : World.cell? w3 ⟨R, 4, none⟩ = some (.bool (G).ack) := b13.cell rfl
  have y5 : World.cell? w3 ⟨R, 5, none⟩ = some (.bool (G).prio) := b13.cell rfl
  have y6 : World.cell? w3 ⟨R, 6, none⟩ = some (.slice (some ⟨N, 0, none⟩) (s).length CAP) := b13.cell rfl
  have y7 : World.cell? w3 ⟨R, 7, none⟩ = some (.int .i64 (G).flags) := b13.cell rfl
  have y8 : World.cell? w3 ⟨R, 8, none⟩ = some (.int .i64 (G).pad) := b13.cell rfl
  have y9 : World.cell? w3 ⟨R, 9, none⟩ = some (.int .i64 (G).depend) := b13.cell rfl
  have y10 : World.cell? w3 ⟨R, 10, none⟩ = some (.bool (G).excl) := b13.cell rfl
  have y11 : World.cell? w3 ⟨R, 11, none⟩ = some (.int .i64 (G).weight) := b13.cell rfl
  have y12 : World.cell? w3 ⟨R, 12, none⟩ = some (.int .u32 (G).code) := b13.cell rfl
  have y13 : World.cell? w3 ⟨R, 13, none⟩ = some (.slice none 0 0) := b13.cell rfl
  have y14 : World.cell? w3 ⟨R, 14, none⟩ = some (.int .i64 (G).last) := b13.cell rfl
  have y15 : World.cell? w3 ⟨R, 15, none⟩ = some (.int .i64 (G).inc) := b13.cell rfl
  clear b13
  go_wp2_with (refine store_whole rfl 27 _ _ rfl O (fcs (Fm.mem G (.slice (some ⟨N, 0, none⟩) (s).length CAP) (.slice none 0 0))) _ 27 rfl rfl B03.out infoFr rfl (by simp [Value.oneCell', Fm.mem]) ?_)
  intro w4 s4 c4
  have C4 := Lib.hid (HC3.out.trans c4 (fun x hx => Or.inr (by simp at hx; subst hx; exact Nat.le_of_eq HO.out.symm)))
  have SB4 := Lib.hid (SB3.out.chg c4 (by intro a n c he; cases he; simpa using hNO))
  clear c4 y0 y1 y2 y3 y4 y5 y6 y7 y8 y9 y10 y11 y12 y13 y14 y15 SB3 B03 B13 HC3 HW3
  have z0 : World.cell? w4 ⟨O, 0, none⟩ = some (.int .i64 (G).kind) := s4.cell rfl
  have z1 : World.cell? w4 ⟨O, 1, none⟩ = some (.int .i64 (G).stream) := s4.cell rfl
  have z2 : World.cell? w4 ⟨O, 2, none⟩ = some (.bool (G).fin) := s4.cell rfl
  have z3 : World.cell? w4 ⟨O, 3, none⟩ = some (.bool (G).eh) := s4.cell rfl
  have z4 : World.cell? w4 ⟨O, 4, none⟩ = some (.bool (G).ack) := s4.cell rfl
  have z5 : World.cell? w4 ⟨O, 5, none⟩ = some (.bool (G).prio) := s4.cell rfl
  have z6 : World.cell? w4 ⟨O, 6, none⟩ = some (.slice (some ⟨N, 0, none⟩) (s).length CAP) := s4.cell rfl
  have z7 : World.cell? w4 ⟨O, 7, none⟩ = some (.int .i64 (G).flags) := s4.cell rfl
  have z8 : World.cell? w4 ⟨O, 8, none⟩ = some (.int .i64 (G).pad) := s4.cell rfl
  have z9 : World.cell? w4 ⟨O, 9, none⟩ = some (.int .i64 (G).depend) := s4.cell rfl
  have z10 : World.cell? w4 ⟨O, 10, none⟩ = some (.bool (G).excl) := s4.cell rfl
  have z11 : World.cell? w4 ⟨O, 11, none⟩ = some (.int .i64 (G).weight) := s4.cell rfl
  have z12 : World.cell? w4 ⟨O, 12, none⟩ = some (.int .u32 (G).code) := s4.cell rfl
  have z13 : World.cell? w4 ⟨O, 13, none⟩ = some (.slice none 0 0) := s4.cell rfl
  have z14 : World.cell? w4 ⟨O, 14, none⟩ = some (.int .i64 (G).last) := s4.cell rfl
  have z15 : World.cell? w4 ⟨O, 15, none⟩ = some (.int .i64 (G).inc) := s4.cell rfl
  clear s4
  go_wp2_with fail
  refine bodyPost_ret (v := .agg (fcs (Fm.mem G (.slice (some ⟨N, 0, none⟩) (s).length CAP) (.slice none 0 0)))) (by simp [results, Try.results50, go_sem, Fm.mem, z0, z1, z2, z3, z4, z5, z6, z7, z8, z9, z10, z11, z12, z13, z14, z15]) rfl ?_
  have hFG : F = { G with pay := s } := by rw [HF.out, hG2.out, HPC.out]; try rfl
  rw [hFG]
  refine ⟨_, _, rfl, SB4.out, ?_, C4.out⟩
  rw [hG2.out]
  exact slice_nil
end Go.Proofs.Ythhgnipiaohplaa.Fr
