/-
  The document's read, kind by kind: 2, 3, 8.
-/
import Derived.Test.YthhgnipiaohplaaFre
namespace Go.Proofs.Ythhgnipiaohplaa.Fr
open Go.ChangeShapes Go.WideShapes Go.ChangeAt Go.RowKit
open Go.Proofs.Ythhgnipiaohplaa.B
set_option linter.unusedVariables false
set_option linter.unusedSimpArgs false

set_option maxRecDepth 100000 in
set_option maxHeartbeats 8000000 in
theorem rread_3 (fl : UInt8) (s : List UInt8) (hs : s.length ≤ 16777215) (h4 : s.length = 4) (w : World) :
    Calls Try.prog 50 #[.int .i64 3, .int .i64 ((fl.toNat : Nat) : Int), .string (bstr s)] w (RdPost (readF 3 fl s) w) := by
  obtain ⟨S, hS⟩ : ∃ S, S = bstr (hasL 3) := ⟨_, rfl⟩
  have Ie : Hid (∀ w, Calls Try.prog 48 #[.string S, .int .u8 101] w fun e w' => e = .returned (.bool false) ∧ w' = w) := Lib.hid (fun w => by rw [hS]; exact in_has 3 101 false (by decide) w)
  have Ia : Hid (∀ w, Calls Try.prog 48 #[.string S, .int .u8 97] w fun e w' => e = .returned (.bool false) ∧ w' = w) := Lib.hid (fun w => by rw [hS]; exact in_has 3 97 false (by decide) w)
  have Ih : Hid (∀ w, Calls Try.prog 48 #[.string S, .int .u8 104] w fun e w' => e = .returned (.bool false) ∧ w' = w) := Lib.hid (fun w => by rw [hS]; exact in_has 3 104 false (by decide) w)
  have Ir : Hid (∀ w, Calls Try.prog 48 #[.string S, .int .u8 114] w fun e w' => e = .returned (.bool false) ∧ w' = w) := Lib.hid (fun w => by rw [hS]; exact in_has 3 114 false (by decide) w)
  have If : Hid (∀ w, Calls Try.prog 48 #[.string S, .int .u8 102] w fun e w' => e = .returned (.bool false) ∧ w' = w) := Lib.hid (fun w => by rw [hS]; exact in_has 3 102 false (by decide) w)
  have Ip : Hid (∀ w, Calls Try.prog 48 #[.string S, .int .u8 112] w fun e w' => e = .returned (.bool false) ∧ w' = w) := Lib.hid (fun w => by rw [hS]; exact in_has 3 112 false (by decide) w)
  have It : Hid (∀ w, Calls Try.prog 48 #[.string S, .int .u8 116] w fun e w' => e = .returned (.bool false) ∧ w' = w) := Lib.hid (fun w => by rw [hS]; exact in_has 3 116 false (by decide) w)
  have Ic : Hid (∀ w, Calls Try.prog 48 #[.string S, .int .u8 99] w fun e w' => e = .returned (.bool true) ∧ w' = w) := Lib.hid (fun w => by rw [hS]; exact in_has 3 99 true (by decide) w)
  have Ii : Hid (∀ w, Calls Try.prog 48 #[.string S, .int .u8 105] w fun e w' => e = .returned (.bool false) ∧ w' = w) := Lib.hid (fun w => by rw [hS]; exact in_has 3 105 false (by decide) w)
  have Il : Hid (∀ w, Calls Try.prog 48 #[.string S, .int .u8 108] w fun e w' => e = .returned (.bool false) ∧ w' = w) := Lib.hid (fun w => by rw [hS]; exact in_has 3 108 false (by decide) w)
  have Ib : Hid (∀ w, Calls Try.prog 48 #[.string S, .int .u8 98] w fun e w' => e = .returned (.bool false) ∧ w' = w) := Lib.hid (fun w => by rw [hS]; exact in_has 3 98 false (by decide) w)
  have HS := Lib.hid hS
  obtain ⟨g1, hg1⟩ : ∃ b, b = bitB fl 0 := ⟨_, rfl⟩
  have E1 : (Go.bits .and .i64 ((fl.toNat : Nat) : Int) 1 != 0) = g1 := by rw [hg1]; exact (bne_of _ 1 (by decide) _ (bit1 fl)).1
  have Hg1 := Lib.hid hg1
  clear hg1
  obtain ⟨g4, hg4⟩ : ∃ b, b = bitB fl 2 := ⟨_, rfl⟩
  have E4 : (Go.bits .and .i64 ((fl.toNat : Nat) : Int) 4 != 0) = g4 := by rw [hg4]; exact (bne_of _ 4 (by decide) _ (bit4 fl)).1
  have Hg4 := Lib.hid hg4
  clear hg4
  obtain ⟨g8, hg8⟩ : ∃ b, b = bitB fl 3 := ⟨_, rfl⟩
  have E8 : (Go.bits .and .i64 ((fl.toNat : Nat) : Int) 8 != 0) = g8 := by rw [hg8]; exact (bne_of _ 8 (by decide) _ (bit8 fl)).1
  have Hg8 := Lib.hid hg8
  clear hg8
  obtain ⟨g32, hg32⟩ : ∃ b, b = bitB fl 5 := ⟨_, rfl⟩
  have E32 : (Go.bits .and .i64 ((fl.toNat : Nat) : Int) 32 != 0) = g32 := by rw [hg32]; exact (bne_of _ 32 (by decide) _ (bit32 fl)).1
  have Hg32 := Lib.hid hg32
  clear hg32
  have HLL : Hid (s.length ≤ 16777215) := Lib.hid hs
  obtain ⟨X, hX⟩ : ∃ X, X = bstr s := ⟨_, rfl⟩
  rw [← hX]
  have HX := Lib.hid hX
  have HA := Lib.hid (rhas_any 3)
  rw [← hS] at HA
  obtain ⟨F, hF⟩ : ∃ F, F = readF 3 fl s := ⟨_, rfl⟩
  rw [← hF]
  have HF := Lib.hid hF
  have GG := fun w => Lib.hid (get4_any s (by omega) (by omega) w)
  rw [← hX] at GG
  obtain ⟨V, hV⟩ : ∃ V, V = get4 s := ⟨_, rfl⟩
  rw [← hV] at GG
  have hV4 : V < 4294967296 := by rw [hV]; exact get4_lt s
  have HV := Lib.hid hV
  have LOW := fun w => Lib.hid (low_any V w)
  obtain ⟨VL, hVL⟩ : ∃ v, v = V % 2147483648 := ⟨_, rfl⟩
  rw [← hVL] at LOW
  have HVL := Lib.hid hVL
  have hXs : 4 ≤ X.size := by rw [hX, bstr_size]; omega
  clear hV h4 hVL
  clear hS hs hX hF
  go_enter Try.func50, Try.ntmps50
  go_wp2_with fail
  refine (HA.out _).mono ?_; rintro e w1 ⟨rfl, c1⟩
  have HC1 := Lib.hid ((Chg.refl w).alloc _ |>.trans' c1)
  have A0 := Lib.hid ((At.new w (.cells noF 27)).chg c1 (by simp))
  clear c1
  go_upto_region 33 with (first
    | (go_at_call 48; first
      | (with_reducible refine (Ie.out _).mono ?_; rintro e wx ⟨rfl, rfl⟩)
      | (with_reducible refine (Ia.out _).mono ?_; rintro e wx ⟨rfl, rfl⟩)
      | (with_reducible refine (Ih.out _).mono ?_; rintro e wx ⟨rfl, rfl⟩)
      | (with_reducible refine (Ir.out _).mono ?_; rintro e wx ⟨rfl, rfl⟩)
      | (with_reducible refine (If.out _).mono ?_; rintro e wx ⟨rfl, rfl⟩)
      | (with_reducible refine (Ip.out _).mono ?_; rintro e wx ⟨rfl, rfl⟩)
      | (with_reducible refine (It.out _).mono ?_; rintro e wx ⟨rfl, rfl⟩)
      | (with_reducible refine (Ic.out _).mono ?_; rintro e wx ⟨rfl, rfl⟩)
      | (with_reducible refine (Ii.out _).mono ?_; rintro e wx ⟨rfl, rfl⟩)
      | (with_reducible refine (Il.out _).mono ?_; rintro e wx ⟨rfl, rfl⟩)
      | (with_reducible refine (Ib.out _).mono ?_; rintro e wx ⟨rfl, rfl⟩))
    | (go_at_call 43; first
      | (with_reducible refine (GG _).out.mono ?_; rintro e wx ⟨rfl, rfl⟩)
      | (with_reducible refine (GH _).out.mono ?_; rintro e wx ⟨rfl, rfl⟩))
    | (go_at_call 44; with_reducible refine (LOW _).out.mono ?_; rintro e wx ⟨rfl, rfl⟩))
  generalize hW : World.alloc w1 _ = W
  obtain ⟨G, hG⟩ : ∃ G : Fm, G = ⟨3, 0, false, false, false, false, [], 0, 0, 0, false, 0, (V : Nat), [], 0, 0⟩ := ⟨_, rfl⟩
  have a1 : At W w1.heap.size (.cells (fcs (Fm.mem G (.slice none 0 0) (.slice none 0 0))) 27 (0, 0)) := by rw [← hW, hG]; exact At.new w1 _
  have a0 : At W w.heap.size (.cells noF 27 (0, 0)) := by rw [← hW]; exact A0.out.alloc _
  have cW : Chg [] w W := by rw [← hW]; exact HC1.out.alloc _
  have hRO : Hid (w.heap.size < w1.heap.size) := Lib.hid A0.out.lt
  clear hW
  obtain ⟨R, hR⟩ : ∃ R, R = w1.heap.size := ⟨_, rfl⟩
  obtain ⟨O, hO⟩ : ∃ R, R = w.heap.size := ⟨_, rfl⟩
  rw [← hR] at a1
  rw [← hO] at a0
  rw [← hR, ← hO] at hRO
  simp only [← hR, ← hO]
  have hOR : ¬ O = R := by have := hRO.out; omega
  have hRO' : ¬ R = O := by have := hRO.out; omega
  have hG2 := Lib.hid hG
  have HO := Lib.hid hO
  have B03 := Lib.hid a0; have HC3 := Lib.hid cW
  clear hR hO hG a0 cW
  have y0 : World.cell? W ⟨R, 0, none⟩ = some (.int .i64 (G).kind) := a1.cell rfl
  have y1 : World.cell? W ⟨R, 1, none⟩ = some (.int .i64 (G).stream) := a1.cell rfl
  have y2 : World.cell? W ⟨R, 2, none⟩ = some (.bool (G).fin) := a1.cell rfl
  have y3 : World.cell? W ⟨R, 3, none⟩ = some (.bool (G).eh) := a1.cell rfl
  have y4 : World.cell? W ⟨R, 4, none⟩ = some (.bool (G).ack) := a1.cell rfl
  have y5 : World.cell? W ⟨R, 5, none⟩ = some (.bool (G).prio) := a1.cell rfl
  have y6 : World.cell? W ⟨R, 6, none⟩ = some (.slice none 0 0) := a1.cell rfl
  have y7 : World.cell? W ⟨R, 7, none⟩ = some (.int .i64 (G).flags) := a1.cell rfl
  have y8 : World.cell? W ⟨R, 8, none⟩ = some (.int .i64 (G).pad) := a1.cell rfl
  have y9 : World.cell? W ⟨R, 9, none⟩ = some (.int .i64 (G).depend) := a1.cell rfl
  have y10 : World.cell? W ⟨R, 10, none⟩ = some (.bool (G).excl) := a1.cell rfl
  have y11 : World.cell? W ⟨R, 11, none⟩ = some (.int .i64 (G).weight) := a1.cell rfl
  have y12 : World.cell? W ⟨R, 12, none⟩ = some (.int .u32 (G).code) := a1.cell rfl
  have y13 : World.cell? W ⟨R, 13, none⟩ = some (.slice none 0 0) := a1.cell rfl
  have y14 : World.cell? W ⟨R, 14, none⟩ = some (.int .i64 (G).last) := a1.cell rfl
  have y15 : World.cell? W ⟨R, 15, none⟩ = some (.int .i64 (G).inc) := a1.cell rfl
  clear a1
  go_wp2_with (refine store_whole rfl 27 _ _ rfl O (fcs (Fm.mem G (.slice none 0 0) (.slice none 0 0))) _ 27 rfl rfl B03.out infoFr rfl (by simp [Value.oneCell', Fm.mem]) ?_)
  intro w4 s4 c4
  have C4 := Lib.hid (HC3.out.trans c4 (fun x hx => Or.inr (by simp at hx; subst hx; exact Nat.le_of_eq HO.out.symm)))
  clear c4 y0 y1 y2 y3 y4 y5 y6 y7 y8 y9 y10 y11 y12 y13 y14 y15 B03 HC3
  have z0 : World.cell? w4 ⟨O, 0, none⟩ = some (.int .i64 (G).kind) := s4.cell rfl
  have z1 : World.cell? w4 ⟨O, 1, none⟩ = some (.int .i64 (G).stream) := s4.cell rfl
  have z2 : World.cell? w4 ⟨O, 2, none⟩ = some (.bool (G).fin) := s4.cell rfl
  have z3 : World.cell? w4 ⟨O, 3, none⟩ = some (.bool (G).eh) := s4.cell rfl
  have z4 : World.cell? w4 ⟨O, 4, none⟩ = some (.bool (G).ack) := s4.cell rfl
  have z5 : World.cell? w4 ⟨O, 5, none⟩ = some (.bool (G).prio) := s4.cell rfl
  have z6 : World.cell? w4 ⟨O, 6, none⟩ = some (.slice none 0 0) := s4.cell rfl
  have z7 : World.cell? w4 ⟨O, 7, none⟩ = some (.int .i64 (G).flags) := s4.cell rfl
  have z8 : World.cell? w4 ⟨O, 8, none⟩ = some (.int .i64 (G).pad) := s4.cell rfl
  have z9 : World.cell? w4 ⟨O, 9, none⟩ = some (.int .i64 (G).depend) := s4.cell rfl
  have z10 : World.cell? w4 ⟨O, 10, none⟩ = some (.bool (G).excl) := s4.cell rfl
  have z11 : World.cell? w4 ⟨O, 11, none⟩ = some (.int .i64 (G).weight) := s4.cell rfl
  have z12 : World.cell? w4 ⟨O, 12, none⟩ = some (.int .u32 (G).code) := s4.cell rfl
  have z13 : World.cell? w4 ⟨O, 13, none⟩ = some (.slice none 0 0) := s4.cell rfl
  have z14 : World.cell? w4 ⟨O, 14, none⟩ = some (.int .i64 (G).last) := s4.cell rfl
  have z15 : World.cell? w4 ⟨O, 15, none⟩ = some (.int .i64 (G).inc) := s4.cell rfl
  clear s4
  go_wp2_with fail
  refine bodyPost_ret (v := .agg (fcs (Fm.mem G (.slice none 0 0) (.slice none 0 0)))) (by simp [results, Try.results50, go_sem, Fm.mem, z0, z1, z2, z3, z4, z5, z6, z7, z8, z9, z10, z11, z12, z13, z14, z15]) rfl ?_
  have hFG : F = G := by rw [HF.out, hG2.out, HV.out]; try rfl
  rw [hFG]
  refine ⟨_, _, rfl, ?_, ?_, C4.out⟩
  · rw [hG2.out]; exact bytes_nil
  · rw [hG2.out]; exact slice_nil
set_option maxRecDepth 100000 in
set_option maxHeartbeats 8000000 in
theorem rread_8 (fl : UInt8) (s : List UInt8) (hs : s.length ≤ 16777215) (h4 : s.length = 4) (w : World) :
    Calls Try.prog 50 #[.int .i64 8, .int .i64 ((fl.toNat : Nat) : Int), .string (bstr s)] w (RdPost (readF 8 fl s) w) := by
  obtain ⟨S, hS⟩ : ∃ S, S = bstr (hasL 8) := ⟨_, rfl⟩
  have Ie : Hid (∀ w, Calls Try.prog 48 #[.string S, .int .u8 101] w fun e w' => e = .returned (.bool false) ∧ w' = w) := Lib.hid (fun w => by rw [hS]; exact in_has 8 101 false (by decide) w)
  have Ia : Hid (∀ w, Calls Try.prog 48 #[.string S, .int .u8 97] w fun e w' => e = .returned (.bool false) ∧ w' = w) := Lib.hid (fun w => by rw [hS]; exact in_has 8 97 false (by decide) w)
  have Ih : Hid (∀ w, Calls Try.prog 48 #[.string S, .int .u8 104] w fun e w' => e = .returned (.bool false) ∧ w' = w) := Lib.hid (fun w => by rw [hS]; exact in_has 8 104 false (by decide) w)
  have Ir : Hid (∀ w, Calls Try.prog 48 #[.string S, .int .u8 114] w fun e w' => e = .returned (.bool false) ∧ w' = w) := Lib.hid (fun w => by rw [hS]; exact in_has 8 114 false (by decide) w)
  have If : Hid (∀ w, Calls Try.prog 48 #[.string S, .int .u8 102] w fun e w' => e = .returned (.bool false) ∧ w' = w) := Lib.hid (fun w => by rw [hS]; exact in_has 8 102 false (by decide) w)
  have Ip : Hid (∀ w, Calls Try.prog 48 #[.string S, .int .u8 112] w fun e w' => e = .returned (.bool false) ∧ w' = w) := Lib.hid (fun w => by rw [hS]; exact in_has 8 112 false (by decide) w)
  have It : Hid (∀ w, Calls Try.prog 48 #[.string S, .int .u8 116] w fun e w' => e = .returned (.bool false) ∧ w' = w) := Lib.hid (fun w => by rw [hS]; exact in_has 8 116 false (by decide) w)
  have Ic : Hid (∀ w, Calls Try.prog 48 #[.string S, .int .u8 99] w fun e w' => e = .returned (.bool false) ∧ w' = w) := Lib.hid (fun w => by rw [hS]; exact in_has 8 99 false (by decide) w)
  have Ii : Hid (∀ w, Calls Try.prog 48 #[.string S, .int .u8 105] w fun e w' => e = .returned (.bool true) ∧ w' = w) := Lib.hid (fun w => by rw [hS]; exact in_has 8 105 true (by decide) w)
  have Il : Hid (∀ w, Calls Try.prog 48 #[.string S, .int .u8 108] w fun e w' => e = .returned (.bool false) ∧ w' = w) := Lib.hid (fun w => by rw [hS]; exact in_has 8 108 false (by decide) w)
  have Ib : Hid (∀ w, Calls Try.prog 48 #[.string S, .int .u8 98] w fun e w' => e = .returned (.bool false) ∧ w' = w) := Lib.hid (fun w => by rw [hS]; exact in_has 8 98 false (by decide) w)
  have HS := Lib.hid hS
  obtain ⟨g1, hg1⟩ : ∃ b, b = bitB fl 0 := ⟨_, rfl⟩
  have E1 : (Go.bits .and .i64 ((fl.toNat : Nat) : Int) 1 != 0) = g1 := by rw [hg1]; exact (bne_of _ 1 (by decide) _ (bit1 fl)).1
  have Hg1 := Lib.hid hg1
  clear hg1
  obtain ⟨g4, hg4⟩ : ∃ b, b = bitB fl 2 := ⟨_, rfl⟩
  have E4 : (Go.bits .and .i64 ((fl.toNat : Nat) : Int) 4 != 0) = g4 := by rw [hg4]; exact (bne_of _ 4 (by decide) _ (bit4 fl)).1
  have Hg4 := Lib.hid hg4
  clear hg4
  obtain ⟨g8, hg8⟩ : ∃ b, b = bitB fl 3 := ⟨_, rfl⟩
  have E8 : (Go.bits .and .i64 ((fl.toNat : Nat) : Int) 8 != 0) = g8 := by rw [hg8]; exact (bne_of _ 8 (by decide) _ (bit8 fl)).1
  have Hg8 := Lib.hid hg8
  clear hg8
  obtain ⟨g32, hg32⟩ : ∃ b, b = bitB fl 5 := ⟨_, rfl⟩
  have E32 : (Go.bits .and .i64 ((fl.toNat : Nat) : Int) 32 != 0) = g32 := by rw [hg32]; exact (bne_of _ 32 (by decide) _ (bit32 fl)).1
  have Hg32 := Lib.hid hg32
  clear hg32
  have HLL : Hid (s.length ≤ 16777215) := Lib.hid hs
  obtain ⟨X, hX⟩ : ∃ X, X = bstr s := ⟨_, rfl⟩
  rw [← hX]
  have HX := Lib.hid hX
  have HA := Lib.hid (rhas_any 8)
  rw [← hS] at HA
  obtain ⟨F, hF⟩ : ∃ F, F = readF 8 fl s := ⟨_, rfl⟩
  rw [← hF]
  have HF := Lib.hid hF
  have GG := fun w => Lib.hid (get4_any s (by omega) (by omega) w)
  rw [← hX] at GG
  obtain ⟨V, hV⟩ : ∃ V, V = get4 s := ⟨_, rfl⟩
  rw [← hV] at GG
  have hV4 : V < 4294967296 := by rw [hV]; exact get4_lt s
  have HV := Lib.hid hV
  have LOW := fun w => Lib.hid (low_any V w)
  obtain ⟨VL, hVL⟩ : ∃ v, v = V % 2147483648 := ⟨_, rfl⟩
  rw [← hVL] at LOW
  have HVL := Lib.hid hVL
  have hXs : 4 ≤ X.size := by rw [hX, bstr_size]; omega
  clear hV h4 hVL
  clear hS hs hX hF
  go_enter Try.func50, Try.ntmps50
  go_wp2_with fail
  refine (HA.out _).mono ?_; rintro e w1 ⟨rfl, c1⟩
  have HC1 := Lib.hid ((Chg.refl w).alloc _ |>.trans' c1)
  have A0 := Lib.hid ((At.new w (.cells noF 27)).chg c1 (by simp))
  clear c1
  go_upto_region 33 with (first
    | (go_at_call 48; first
      | (with_reducible refine (Ie.out _).mono ?_; rintro e wx ⟨rfl, rfl⟩)
      | (with_reducible refine (Ia.out _).mono ?_; rintro e wx ⟨rfl, rfl⟩)
      | (with_reducible refine (Ih.out _).mono ?_; rintro e wx ⟨rfl, rfl⟩)
      | (with_reducible refine (Ir.out _).mono ?_; rintro e wx ⟨rfl, rfl⟩)
      | (with_reducible refine (If.out _).mono ?_; rintro e wx ⟨rfl, rfl⟩)
      | (with_reducible refine (Ip.out _).mono ?_; rintro e wx ⟨rfl, rfl⟩)
      | (with_reducible refine (It.out _).mono ?_; rintro e wx ⟨rfl, rfl⟩)
      | (with_reducible refine (Ic.out _).mono ?_; rintro e wx ⟨rfl, rfl⟩)
      | (with_reducible refine (Ii.out _).mono ?_; rintro e wx ⟨rfl, rfl⟩)
      | (with_reducible refine (Il.out _).mono ?_; rintro e wx ⟨rfl, rfl⟩)
      | (with_reducible refine (Ib.out _).mono ?_; rintro e wx ⟨rfl, rfl⟩))
    | (go_at_call 43; first
      | (with_reducible refine (GG _).out.mono ?_; rintro e wx ⟨rfl, rfl⟩)
      | (with_reducible refine (GH _).out.mono ?_; rintro e wx ⟨rfl, rfl⟩))
    | (go_at_call 44; with_reducible refine (LOW _).out.mono ?_; rintro e wx ⟨rfl, rfl⟩))
  generalize hW : World.alloc w1 _ = W
  obtain ⟨G, hG⟩ : ∃ G : Fm, G = ⟨8, 0, false, false, false, false, [], 0, 0, 0, false, 0, 0, [], 0, (VL : Nat)⟩ := ⟨_, rfl⟩
  have a1 : At W w1.heap.size (.cells (fcs (Fm.mem G (.slice none 0 0) (.slice none 0 0))) 27 (0, 0)) := by rw [← hW, hG]; exact At.new w1 _
  have a0 : At W w.heap.size (.cells noF 27 (0, 0)) := by rw [← hW]; exact A0.out.alloc _
  have cW : Chg [] w W := by rw [← hW]; exact HC1.out.alloc _
  have hRO : Hid (w.heap.size < w1.heap.size) := Lib.hid A0.out.lt
  clear hW
  obtain ⟨R, hR⟩ : ∃ R, R = w1.heap.size := ⟨_, rfl⟩
  obtain ⟨O, hO⟩ : ∃ R, R = w.heap.size := ⟨_, rfl⟩
  rw [← hR] at a1
  rw [← hO] at a0
  rw [← hR, ← hO] at hRO
  simp only [← hR, ← hO]
  have hOR : ¬ O = R := by have := hRO.out; omega
  have hRO' : ¬ R = O := by have := hRO.out; omega
  have hG2 := Lib.hid hG
  have HO := Lib.hid hO
  have B03 := Lib.hid a0; have HC3 := Lib.hid cW
  clear hR hO hG a0 cW
  have y0 : World.cell? W ⟨R, 0, none⟩ = some (.int .i64 (G).kind) := a1.cell rfl
  have y1 : World.cell? W ⟨R, 1, none⟩ = some (.int .i64 (G).stream) := a1.cell rfl
  have y2 : World.cell? W ⟨R, 2, none⟩ = some (.bool (G).fin) := a1.cell rfl
  have y3 : World.cell? W ⟨R, 3, none⟩ = some (.bool (G).eh) := a1.cell rfl
  have y4 : World.cell? W ⟨R, 4, none⟩ = some (.bool (G).ack) := a1.cell rfl
  have y5 : World.cell? W ⟨R, 5, none⟩ = some (.bool (G).prio) := a1.cell rfl
  have y6 : World.cell? W ⟨R, 6, none⟩ = some (.slice none 0 0) := a1.cell rfl
  have y7 : World.cell? W ⟨R, 7, none⟩ = some (.int .i64 (G).flags) := a1.cell rfl
  have y8 : World.cell? W ⟨R, 8, none⟩ = some (.int .i64 (G).pad) := a1.cell rfl
  have y9 : World.cell? W ⟨R, 9, none⟩ = some (.int .i64 (G).depend) := a1.cell rfl
  have y10 : World.cell? W ⟨R, 10, none⟩ = some (.bool (G).excl) := a1.cell rfl
  have y11 : World.cell? W ⟨R, 11, none⟩ = some (.int .i64 (G).weight) := a1.cell rfl
  have y12 : World.cell? W ⟨R, 12, none⟩ = some (.int .u32 (G).code) := a1.cell rfl
  have y13 : World.cell? W ⟨R, 13, none⟩ = some (.slice none 0 0) := a1.cell rfl
  have y14 : World.cell? W ⟨R, 14, none⟩ = some (.int .i64 (G).last) := a1.cell rfl
  have y15 : World.cell? W ⟨R, 15, none⟩ = some (.int .i64 (G).inc) := a1.cell rfl
  clear a1
  go_wp2_with (refine store_whole rfl 27 _ _ rfl O (fcs (Fm.mem G (.slice none 0 0) (.slice none 0 0))) _ 27 rfl rfl B03.out infoFr rfl (by simp [Value.oneCell', Fm.mem]) ?_)
  intro w4 s4 c4
  have C4 := Lib.hid (HC3.out.trans c4 (fun x hx => Or.inr (by simp at hx; subst hx; exact Nat.le_of_eq HO.out.symm)))
  clear c4 y0 y1 y2 y3 y4 y5 y6 y7 y8 y9 y10 y11 y12 y13 y14 y15 B03 HC3
  have z0 : World.cell? w4 ⟨O, 0, none⟩ = some (.int .i64 (G).kind) := s4.cell rfl
  have z1 : World.cell? w4 ⟨O, 1, none⟩ = some (.int .i64 (G).stream) := s4.cell rfl
  have z2 : World.cell? w4 ⟨O, 2, none⟩ = some (.bool (G).fin) := s4.cell rfl
  have z3 : World.cell? w4 ⟨O, 3, none⟩ = some (.bool (G).eh) := s4.cell rfl
  have z4 : World.cell? w4 ⟨O, 4, none⟩ = some (.bool (G).ack) := s4.cell rfl
  have z5 : World.cell? w4 ⟨O, 5, none⟩ = some (.bool (G).prio) := s4.cell rfl
  have z6 : World.cell? w4 ⟨O, 6, none⟩ = some (.slice none 0 0) := s4.cell rfl
  have z7 : World.cell? w4 ⟨O, 7, none⟩ = some (.int .i64 (G).flags) := s4.cell rfl
  have z8 : World.cell? w4 ⟨O, 8, none⟩ = some (.int .i64 (G).pad) := s4.cell rfl
  have z9 : World.cell? w4 ⟨O, 9, none⟩ = some (.int .i64 (G).depend) := s4.cell rfl
  have z10 : World.cell? w4 ⟨O, 10, none⟩ = some (.bool (G).excl) := s4.cell rfl
  have z11 : World.cell? w4 ⟨O, 11, none⟩ = some (.int .i64 (G).weight) := s4.cell rfl
  have z12 : World.cell? w4 ⟨O, 12, none⟩ = some (.int .u32 (G).code) := s4.cell rfl
  have z13 : World.cell? w4 ⟨O, 13, none⟩ = some (.slice none 0 0) := s4.cell rfl
  have z14 : World.cell? w4 ⟨O, 14, none⟩ = some (.int .i64 (G).last) := s4.cell rfl
  have z15 : World.cell? w4 ⟨O, 15, none⟩ = some (.int .i64 (G).inc) := s4.cell rfl
  clear s4
  go_wp2_with fail
  refine bodyPost_ret (v := .agg (fcs (Fm.mem G (.slice none 0 0) (.slice none 0 0)))) (by simp [results, Try.results50, go_sem, Fm.mem, z0, z1, z2, z3, z4, z5, z6, z7, z8, z9, z10, z11, z12, z13, z14, z15]) rfl ?_
  have hFG : F = G := by rw [HF.out, hG2.out, HVL.out, HV.out]; try rfl
  rw [hFG]
  refine ⟨_, _, rfl, ?_, ?_, C4.out⟩
  · rw [hG2.out]; exact bytes_nil
  · rw [hG2.out]; exact slice_nil
set_option maxRecDepth 100000 in
set_option maxHeartbeats 8000000 in
theorem rread_2 (fl : UInt8) (s : List UInt8) (hs : s.length ≤ 16777215) (h4 : s.length = 5) (w : World) :
    Calls Try.prog 50 #[.int .i64 2, .int .i64 ((fl.toNat : Nat) : Int), .string (bstr s)] w (RdPost (readF 2 fl s) w) := by
  obtain ⟨S, hS⟩ : ∃ S, S = bstr (hasL 2) := ⟨_, rfl⟩
  have Ie : Hid (∀ w, Calls Try.prog 48 #[.string S, .int .u8 101] w fun e w' => e = .returned (.bool false) ∧ w' = w) := Lib.hid (fun w => by rw [hS]; exact in_has 2 101 false (by decide) w)
  have Ia : Hid (∀ w, Calls Try.prog 48 #[.string S, .int .u8 97] w fun e w' => e = .returned (.bool false) ∧ w' = w) := Lib.hid (fun w => by rw [hS]; exact in_has 2 97 false (by decide) w)
  have Ih : Hid (∀ w, Calls Try.prog 48 #[.string S, .int .u8 104] w fun e w' => e = .returned (.bool false) ∧ w' = w) := Lib.hid (fun w => by rw [hS]; exact in_has 2 104 false (by decide) w)
  have Ir : Hid (∀ w, Calls Try.prog 48 #[.string S, .int .u8 114] w fun e w' => e = .returned (.bool false) ∧ w' = w) := Lib.hid (fun w => by rw [hS]; exact in_has 2 114 false (by decide) w)
  have If : Hid (∀ w, Calls Try.prog 48 #[.string S, .int .u8 102] w fun e w' => e = .returned (.bool false) ∧ w' = w) := Lib.hid (fun w => by rw [hS]; exact in_has 2 102 false (by decide) w)
  have Ip : Hid (∀ w, Calls Try.prog 48 #[.string S, .int .u8 112] w fun e w' => e = .returned (.bool false) ∧ w' = w) := Lib.hid (fun w => by rw [hS]; exact in_has 2 112 false (by decide) w)
  have It : Hid (∀ w, Calls Try.prog 48 #[.string S, .int .u8 116] w fun e w' => e = .returned (.bool false) ∧ w' = w) := Lib.hid (fun w => by rw [hS]; exact in_has 2 116 false (by decide) w)
  have Ic : Hid (∀ w, Calls Try.prog 48 #[.string S, .int .u8 99] w fun e w' => e = .returned (.bool false) ∧ w' = w) := Lib.hid (fun w => by rw [hS]; exact in_has 2 99 false (by decide) w)
  have Ii : Hid (∀ w, Calls Try.prog 48 #[.string S, .int .u8 105] w fun e w' => e = .returned (.bool false) ∧ w' = w) := Lib.hid (fun w => by rw [hS]; exact in_has 2 105 false (by decide) w)
  have Il : Hid (∀ w, Calls Try.prog 48 #[.string S, .int .u8 108] w fun e w' => e = .returned (.bool false) ∧ w' = w) := Lib.hid (fun w => by rw [hS]; exact in_has 2 108 false (by decide) w)
  have Ib : Hid (∀ w, Calls Try.prog 48 #[.string S, .int .u8 98] w fun e w' => e = .returned (.bool false) ∧ w' = w) := Lib.hid (fun w => by rw [hS]; exact in_has 2 98 false (by decide) w)
  have HS := Lib.hid hS
  obtain ⟨g1, hg1⟩ : ∃ b, b = bitB fl 0 := ⟨_, rfl⟩
  have E1 : (Go.bits .and .i64 ((fl.toNat : Nat) : Int) 1 != 0) = g1 := by rw [hg1]; exact (bne_of _ 1 (by decide) _ (bit1 fl)).1
  have Hg1 := Lib.hid hg1
  clear hg1
  obtain ⟨g4, hg4⟩ : ∃ b, b = bitB fl 2 := ⟨_, rfl⟩
  have E4 : (Go.bits .and .i64 ((fl.toNat : Nat) : Int) 4 != 0) = g4 := by rw [hg4]; exact (bne_of _ 4 (by decide) _ (bit4 fl)).1
  have Hg4 := Lib.hid hg4
  clear hg4
  obtain ⟨g8, hg8⟩ : ∃ b, b = bitB fl 3 := ⟨_, rfl⟩
  have E8 : (Go.bits .and .i64 ((fl.toNat : Nat) : Int) 8 != 0) = g8 := by rw [hg8]; exact (bne_of _ 8 (by decide) _ (bit8 fl)).1
  have Hg8 := Lib.hid hg8
  clear hg8
  obtain ⟨g32, hg32⟩ : ∃ b, b = bitB fl 5 := ⟨_, rfl⟩
  have E32 : (Go.bits .and .i64 ((fl.toNat : Nat) : Int) 32 != 0) = g32 := by rw [hg32]; exact (bne_of _ 32 (by decide) _ (bit32 fl)).1
  have Hg32 := Lib.hid hg32
  clear hg32
  have HLL : Hid (s.length ≤ 16777215) := Lib.hid hs
  obtain ⟨X, hX⟩ : ∃ X, X = bstr s := ⟨_, rfl⟩
  rw [← hX]
  have HX := Lib.hid hX
  have HA := Lib.hid (rhas_any 2)
  rw [← hS] at HA
  obtain ⟨F, hF⟩ : ∃ F, F = readF 2 fl s := ⟨_, rfl⟩
  rw [← hF]
  have HF := Lib.hid hF
  have GG := fun w => Lib.hid (get4_any s (by omega) (by omega) w)
  rw [← hX] at GG
  obtain ⟨V, hV⟩ : ∃ V, V = get4 s := ⟨_, rfl⟩
  rw [← hV] at GG
  have hV4 : V < 4294967296 := by rw [hV]; exact get4_lt s
  have HV := Lib.hid hV
  have LOW := fun w => Lib.hid (low_any V w)
  obtain ⟨VL, hVL⟩ : ∃ v, v = V % 2147483648 := ⟨_, rfl⟩
  rw [← hVL] at LOW
  have HVL := Lib.hid hVL
  have hXs : 5 ≤ X.size := by rw [hX, bstr_size]; omega
  obtain ⟨c, hc⟩ : ∃ c, c = s.getD 4 0 := ⟨_, rfl⟩
  have hX4 : ∀ h, ((X[4]'h).toNat : Int) = (c.toNat : Int) := fun h => by subst hX; rw [bstr_at, hc]
  have HC := Lib.hid hc
  have hc8 := c.toNat_lt
  obtain ⟨xb, hxb⟩ : ∃ b, b = (get4 s / 2147483648 == 1) := ⟨_, rfl⟩
  have hxc : decide ((2147483648 : Int) ≤ (V : Int)) = xb := by
    rw [hxb, ← hV]
    by_cases h : 2147483648 ≤ V
    · have : V / 2147483648 = 1 := by omega
      rw [this, decide_eq_true (by omega)]; rfl
    · have : V / 2147483648 = 0 := by omega
      rw [this, decide_eq_false (by omega)]; rfl
  have HXB := Lib.hid hxb
  clear hV h4 hVL hc hxb
  clear hS hs hX hF
  go_enter Try.func50, Try.ntmps50
  go_wp2_with fail
  refine (HA.out _).mono ?_; rintro e w1 ⟨rfl, c1⟩
  have HC1 := Lib.hid ((Chg.refl w).alloc _ |>.trans' c1)
  have A0 := Lib.hid ((At.new w (.cells noF 27)).chg c1 (by simp))
  clear c1
  go_upto_region 33 with (first
    | (go_at_call 48; first
      | (with_reducible refine (Ie.out _).mono ?_; rintro e wx ⟨rfl, rfl⟩)
      | (with_reducible refine (Ia.out _).mono ?_; rintro e wx ⟨rfl, rfl⟩)
      | (with_reducible refine (Ih.out _).mono ?_; rintro e wx ⟨rfl, rfl⟩)
      | (with_reducible refine (Ir.out _).mono ?_; rintro e wx ⟨rfl, rfl⟩)
      | (with_reducible refine (If.out _).mono ?_; rintro e wx ⟨rfl, rfl⟩)
      | (with_reducible refine (Ip.out _).mono ?_; rintro e wx ⟨rfl, rfl⟩)
      | (with_reducible refine (It.out _).mono ?_; rintro e wx ⟨rfl, rfl⟩)
      | (with_reducible refine (Ic.out _).mono ?_; rintro e wx ⟨rfl, rfl⟩)
      | (with_reducible refine (Ii.out _).mono ?_; rintro e wx ⟨rfl, rfl⟩)
      | (with_reducible refine (Il.out _).mono ?_; rintro e wx ⟨rfl, rfl⟩)
      | (with_reducible refine (Ib.out _).mono ?_; rintro e wx ⟨rfl, rfl⟩))
    | (go_at_call 43; first
      | (with_reducible refine (GG _).out.mono ?_; rintro e wx ⟨rfl, rfl⟩)
      | (with_reducible refine (GH _).out.mono ?_; rintro e wx ⟨rfl, rfl⟩))
    | (go_at_call 44; with_reducible refine (LOW _).out.mono ?_; rintro e wx ⟨rfl, rfl⟩))
  generalize hW : World.alloc w1 _ = W
  obtain ⟨G, hG⟩ : ∃ G : Fm, G = ⟨2, 0, false, false, false, false, [], 0, 0, (VL : Nat), xb, ((c.toNat : Int) + 1), 0, [], 0, 0⟩ := ⟨_, rfl⟩
  have a1 : At W w1.heap.size (.cells (fcs (Fm.mem G (.slice none 0 0) (.slice none 0 0))) 27 (0, 0)) := by rw [← hW, hG]; exact At.new w1 _
  have a0 : At W w.heap.size (.cells noF 27 (0, 0)) := by rw [← hW]; exact A0.out.alloc _
  have cW : Chg [] w W := by rw [← hW]; exact HC1.out.alloc _
  have hRO : Hid (w.heap.size < w1.heap.size) := Lib.hid A0.out.lt
  clear hW
  obtain ⟨R, hR⟩ : ∃ R, R = w1.heap.size := ⟨_, rfl⟩
  obtain ⟨O, hO⟩ : ∃ R, R = w.heap.size := ⟨_, rfl⟩
  rw [← hR] at a1
  rw [← hO] at a0
  rw [← hR, ← hO] at hRO
  simp only [← hR, ← hO]
  have hOR : ¬ O = R := by have := hRO.out; omega
  have hRO' : ¬ R = O := by have := hRO.out; omega
  have hG2 := Lib.hid hG
  have HO := Lib.hid hO
  have B03 := Lib.hid a0; have HC3 := Lib.hid cW
  clear hR hO hG a0 cW
  have y0 : World.cell? W ⟨R, 0, none⟩ = some (.int .i64 (G).kind) := a1.cell rfl
  have y1 : World.cell? W ⟨R, 1, none⟩ = some (.int .i64 (G).stream) := a1.cell rfl
  have y2 : World.cell? W ⟨R, 2, none⟩ = some (.bool (G).fin) := a1.cell rfl
  have y3 : World.cell? W ⟨R, 3, none⟩ = some (.bool (G).eh) := a1.cell rfl
  have y4 : World.cell? W ⟨R, 4, none⟩ = some (.bool (G).ack) := a1.cell rfl
  have y5 : World.cell? W ⟨R, 5, none⟩ = some (.bool (G).prio) := a1.cell rfl
  have y6 : World.cell? W ⟨R, 6, none⟩ = some (.slice none 0 0) := a1.cell rfl
  have y7 : World.cell? W ⟨R, 7, none⟩ = some (.int .i64 (G).flags) := a1.cell rfl
  have y8 : World.cell? W ⟨R, 8, none⟩ = some (.int .i64 (G).pad) := a1.cell rfl
  have y9 : World.cell? W ⟨R, 9, none⟩ = some (.int .i64 (G).depend) := a1.cell rfl
  have y10 : World.cell? W ⟨R, 10, none⟩ = some (.bool (G).excl) := a1.cell rfl
  have y11 : World.cell? W ⟨R, 11, none⟩ = some (.int .i64 (G).weight) := a1.cell rfl
  have y12 : World.cell? W ⟨R, 12, none⟩ = some (.int .u32 (G).code) := a1.cell rfl
  have y13 : World.cell? W ⟨R, 13, none⟩ = some (.slice none 0 0) := a1.cell rfl
  have y14 : World.cell? W ⟨R, 14, none⟩ = some (.int .i64 (G).last) := a1.cell rfl
  have y15 : World.cell? W ⟨R, 15, none⟩ = some (.int .i64 (G).inc) := a1.cell rfl
  clear a1
  go_wp2_with (refine store_whole rfl 27 _ _ rfl O (fcs (Fm.mem G (.slice none 0 0) (.slice none 0 0))) _ 27 rfl rfl B03.out infoFr rfl (by simp [Value.oneCell', Fm.mem]) ?_)
  intro w4 s4 c4
  have C4 := Lib.hid (HC3.out.trans c4 (fun x hx => Or.inr (by simp at hx; subst hx; exact Nat.le_of_eq HO.out.symm)))
  clear c4 y0 y1 y2 y3 y4 y5 y6 y7 y8 y9 y10 y11 y12 y13 y14 y15 B03 HC3
  have z0 : World.cell? w4 ⟨O, 0, none⟩ = some (.int .i64 (G).kind) := s4.cell rfl
  have z1 : World.cell? w4 ⟨O, 1, none⟩ = some (.int .i64 (G).stream) := s4.cell rfl
  have z2 : World.cell? w4 ⟨O, 2, none⟩ = some (.bool (G).fin) := s4.cell rfl
  have z3 : World.cell? w4 ⟨O, 3, none⟩ = some (.bool (G).eh) := s4.cell rfl
  have z4 : World.cell? w4 ⟨O, 4, none⟩ = some (.bool (G).ack) := s4.cell rfl
  have z5 : World.cell? w4 ⟨O, 5, none⟩ = some (.bool (G).prio) := s4.cell rfl
  have z6 : World.cell? w4 ⟨O, 6, none⟩ = some (.slice none 0 0) := s4.cell rfl
  have z7 : World.cell? w4 ⟨O, 7, none⟩ = some (.int .i64 (G).flags) := s4.cell rfl
  have z8 : World.cell? w4 ⟨O, 8, none⟩ = some (.int .i64 (G).pad) := s4.cell rfl
  have z9 : World.cell? w4 ⟨O, 9, none⟩ = some (.int .i64 (G).depend) := s4.cell rfl
  have z10 : World.cell? w4 ⟨O, 10, none⟩ = some (.bool (G).excl) := s4.cell rfl
  have z11 : World.cell? w4 ⟨O, 11, none⟩ = some (.int .i64 (G).weight) := s4.cell rfl
  have z12 : World.cell? w4 ⟨O, 12, none⟩ = some (.int .u32 (G).code) := s4.cell rfl
  have z13 : World.cell? w4 ⟨O, 13, none⟩ = some (.slice none 0 0) := s4.cell rfl
  have z14 : World.cell? w4 ⟨O, 14, none⟩ = some (.int .i64 (G).last) := s4.cell rfl
  have z15 : World.cell? w4 ⟨O, 15, none⟩ = some (.int .i64 (G).inc) := s4.cell rfl
  clear s4
  go_wp2_with fail
  refine bodyPost_ret (v := .agg (fcs (Fm.mem G (.slice none 0 0) (.slice none 0 0)))) (by simp [results, Try.results50, go_sem, Fm.mem, z0, z1, z2, z3, z4, z5, z6, z7, z8, z9, z10, z11, z12, z13, z14, z15]) rfl ?_
  have hFG : F = G := by rw [HF.out, hG2.out, HVL.out, HV.out, HXB.out, HC.out]; try rfl
  rw [hFG]
  refine ⟨_, _, rfl, ?_, ?_, C4.out⟩
  · rw [hG2.out]; exact bytes_nil
  · rw [hG2.out]; exact slice_nil
end Go.Proofs.Ythhgnipiaohplaa.Fr
