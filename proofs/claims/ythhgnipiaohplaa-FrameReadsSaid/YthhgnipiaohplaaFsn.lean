/-
  The small case that must work.
-/
import Derived.Test.YthhgnipiaohplaaFnl
import Derived.Test.YthhgnipiaohplaaFwr
import Derived.Lib.SlBytesConst
namespace Go.Proofs.Ythhgnipiaohplaa.Fr
open Go.ChangeShapes Go.WideShapes Go.ChangeAt Go.RowKit
open Go.Proofs.Ythhgnipiaohplaa.B
set_option linter.unusedVariables false
set_option linter.unusedSimpArgs false

def L0 : List UInt8 := [0, 0, 4, 8, 0, 0, 0, 0, 3, 0, 0, 0, 0, 0, 64, 1, 0, 0, 0, 0, 0, 1]
def L1 : List UInt8 := [0, 64, 1, 0, 0, 0, 0, 0, 1]
set_option maxRecDepth 100000 in
theorem nxt0 : nxt 16384 L0 = .fault 1 3 L1 := by kernel_rfl
set_option maxRecDepth 100000 in
theorem nxt1 : nxt 16384 L1 = .broken 6 := by kernel_rfl
theorem nxt2 (mx : Nat) : nxt mx [] = .none := rfl
theorem feed0 : feedN 16384 false [] L0 = 22 := by decide
theorem mxP0 : mxP 0 = 16384 := by decide
theorem lit_b (w : World) (l : List UInt8) (fz : Nat × Nat) (h63 : l.length ≤ maxLen) : BytesOf (w.alloc (.cells (rowB l).toArray 5 fz)) (.slice (some ⟨w.heap.size, 0, none⟩) l.length l.length) l := by
  refine ⟨_, l.length, rfl, Nat.le_refl _, h63, fun _ => ⟨w.heap.size, 0, rfl, by simp, fun i z hz j hj => ?_⟩⟩
  obtain rfl : j = 0 := by omega
  have hc : (rowB l).toArray[i]? = some (.int .u8 (z.toNat : Int)) := by simp [rowB, hz]
  have := At.cell (At.new w (.cells (rowB l).toArray 5 fz)) hc
  rw [show 0 + i * 1 + 0 = i by omega, this]; rfl
set_option maxRecDepth 100000 in
set_option maxHeartbeats 4000000 in
theorem shown_any (w : World) : Calls Try.prog 12 #[] w fun e w' => e = .returned (.bool true) ∧ Chg [] w w' := by
  have qc : ∀ (w : World) (C : Array Value) (n c : Nat), (convert 22 22 (.slice (some ⟨w.heap.size, 0, none⟩) n c)).run Try.prog (w.alloc (.cells C 5)) = .ok (.slice (some ⟨w.heap.size, 0, none⟩) n c) (w.alloc (.cells C 5 (C.size, C.size + 1))) := fun w C n c => Lib.run_convert_bytes_const w _ _ C n c Try.underlying22 Try.underlying5
  go_enter Try.func12, Try.ntmps12
  go_wp2_with fail
  refine (write_one (some ⟨w.heap.size, 0, none⟩) 2 (w.alloc (.cells #[.int .u8 97, .int .u8 98] 5 (2, 3))) (lit_b w [97, 98] (2, 3) (by simp [maxLen]))).mono ?_; rintro e w1 ⟨rv, rfl, o1, c1⟩
  have C1 : Hid (Chg [] w w1) := Lib.hid (((Chg.refl w).alloc _).trans' c1)
  have O1 : Hid (OwnB w1 w.heap.size rv [0, 0, 5, 0, 9, 0, 0, 0, 1, 2, 97, 98, 0, 0]) := Lib.hid (owns_mono o1 (by simp))
  clear o1 c1
  go_wp2_with fail
  refine (write_no w1).mono ?_; rintro e w2 ⟨rfl, c2⟩
  have C2 := Lib.hid (C1.out.trans' c2); have O2 := Lib.hid (OwnB.chg0' O1.out c2)
  clear c2 C1 O1
  go_wp2_with fail
  refine (pnew_any (W := w2) 0 w2 (Nat.le_refl _)).mono ?_; rintro e w3 ⟨p, hv, rfl, h3, c3, f3⟩
  rw [mxP0] at h3
  have C3 := Lib.hid (C2.out.trans' c3); have O3 := Lib.hid (OwnB.chg0' O2.out c3); have H3 := Lib.hid h3; have F3 := Lib.hid f3
  have S2 : Hid (w.heap.size ≤ w2.heap.size) := Lib.hid C2.out.size
  have S3 : Hid (w2.heap.size ≤ w3.heap.size) := Lib.hid c3.size
  clear c3 h3 f3 C2
  go_wp2_with fail
  have cA : Chg [] w3 (w3.alloc (.cells (rowB L0).toArray 5 (22, 23))) := (Chg.refl w3).alloc _
  have h4 := H3.out.chg0 cA
  refine (pfeed_any h4 (.slice (some ⟨w3.heap.size, 0, none⟩) 22 22) L0 (lit_b w3 L0 (22, 23) (by simp [maxLen, L0])) (by simp) (by simp [L0])).mono ?_; rintro e w5 ⟨hv5, he, h5, c5, f5⟩
  rw [feed0] at he h5
  subst he
  have h5' : PH w2 w5 p hv5 L0 16384 false := h5
  have lo3 : ∀ x ∈ footP p hv, w2.heap.size ≤ x := F3.out
  have C5 := Lib.hid ((C3.out.trans' cA).trans c5 (fun x hx => Or.inr (by have := lo3 x hx; have := S2.out; omega)))
  have O5 : Hid (OwnB w5 w.heap.size rv [0, 0, 5, 0, 9, 0, 0, 0, 1, 2, 97, 98, 0, 0]) := Lib.hid (OwnB.chg (OwnB.chg0' O3.out cA) c5 (fun g hg hx => by have := lo3 g hx; have := (World.ownsRow.lt O2.out g hg).2; omega))
  have lo5 : Hid (∀ x ∈ footP p hv5, w2.heap.size ≤ x) := Lib.hid (fun x hx => h5.los x hx)
  have H5 := Lib.hid h5'
  clear h5 h5' h4 cA c5 f5 H3 C3 O3 F3 lo3
  go_wp2_with fail
  refine (next_any H5.out (by simp [L0])).mono ?_; rintro e w6 hp
  have hp' : NextPost w2 w5 p hv5 L0 16384 false e w6 (.fault 1 3 L1) := by rw [← nxt0]; exact hp
  obtain ⟨hv6, rfl, h6, c6, o6⟩ := hp'
  have pl5 : w.heap.size ≤ p := Nat.le_trans S2.out (lo5.out p (by simp [footP]))
  have C6 := Lib.hid (C5.out.trans c6 (fun x hx => Or.inr (by simp at hx; omega)))
  have O6 : Hid (OwnB w6 w.heap.size rv [0, 0, 5, 0, 9, 0, 0, 0, 1, 2, 97, 98, 0, 0]) := Lib.hid (OwnB.chg O5.out c6 (fun g hg hx => owns_alien O5.out H5.out.head (by decide) (by simp at hx; subst hx; simp [hg])))
  have H6 := Lib.hid h6
  clear hp h6 c6 o6 C5 O5 H5
  go_wp2_with fail
  have cB : Chg [] w6 ((w6.alloc (.cells noF 27)).alloc (.cells #[.bool true, .int .u32 1, .int .i64 3] 46)) := ((Chg.refl w6).alloc _).alloc _
  have T7 : Hid (At ((w6.alloc (.cells noF 27)).alloc (.cells #[.bool true, .int .u32 1, .int .i64 3] 46)) (w6.heap.size + 1) (.cells #[.bool true, .int .u32 1, .int .i64 3] 46)) := Lib.hid (At.new' (by simp))
  have H7 := Lib.hid (H6.out.chg0 cB); have C7 := Lib.hid (C6.out.trans' cB); have O7 := Lib.hid (OwnB.chg0' O6.out cB)
  have pY : p < w6.heap.size := H6.out.head.lt
  obtain ⟨Y, hY⟩ : ∃ Y, Y = w6.heap.size := ⟨_, rfl⟩
  rw [← hY] at T7 pY ⊢
  clear cB H6 C6 O6 hY
  generalize (w6.alloc (.cells noF 27)).alloc (.cells #[.bool true, .int .u32 1, .int .i64 3] 46) = w7 at *
  refine (next_any H7.out (by simp [L1])).mono ?_; rintro e w8 hp
  have hp' : NextPost w2 w7 p hv6 L1 16384 false e w8 (.broken 6) := by rw [← nxt1]; exact hp
  obtain ⟨rfl, h8, c8⟩ := hp'
  have C8 := Lib.hid (C7.out.trans c8 (fun x hx => Or.inr (by simp at hx; omega)))
  have O8 : Hid (OwnB w8 w.heap.size rv [0, 0, 5, 0, 9, 0, 0, 0, 1, 2, 97, 98, 0, 0]) := Lib.hid (OwnB.chg O7.out c8 (fun g hg hx => owns_alien O7.out H7.out.head (by decide) (by simp at hx; subst hx; simp [hg])))
  have T8 := Lib.hid (T7.out.chg c8 (by simp; omega)); have H8 := Lib.hid h8
  clear hp h8 c8 C7 O7 H7 T7
  go_wp2_with fail
  have cB : Chg [] w8 ((w8.alloc (.cells noF 27)).alloc (.cells #[.bool true, .int .u32 6, .int .i64 0] 46)) := ((Chg.refl w8).alloc _).alloc _
  have U9 : Hid (At ((w8.alloc (.cells noF 27)).alloc (.cells #[.bool true, .int .u32 6, .int .i64 0] 46)) (w8.heap.size + 1) (.cells #[.bool true, .int .u32 6, .int .i64 0] 46)) := Lib.hid (At.new' (by simp))
  have H9 := Lib.hid (H8.out.chg0 cB); have C9 := Lib.hid (C8.out.trans' cB); have O9 := Lib.hid (OwnB.chg0' O8.out cB); have T9 := Lib.hid (T8.out.chg cB (by simp))
  obtain ⟨Z, hZ⟩ : ∃ Z, Z = w8.heap.size := ⟨_, rfl⟩
  rw [← hZ] at U9 ⊢
  clear cB H8 C8 O8 T8 hZ
  generalize (w8.alloc (.cells noF 27)).alloc (.cells #[.bool true, .int .u32 6, .int .i64 0] 46) = w9 at *
  refine (next_any H9.out (by simp)).mono ?_; rintro e wa hp
  have hp' : NextPost w2 w9 p (.slice none 0 0) [] 16384 true e wa .none := by rw [← nxt2]; exact hp
  obtain ⟨rfl, ha, ca⟩ := hp'
  have HA := Lib.hid ha; have CA := Lib.hid (C9.out.trans' ca); have OA := Lib.hid (OwnB.chg0' O9.out ca)
  have TA := Lib.hid (T9.out.chg ca (by simp)); have UA := Lib.hid (U9.out.chg ca (by simp))
  clear hp ha ca H9 C9 O9 T9 U9
  go_upto_region 10 with fail
  have cB : Chg [] wa ((wa.alloc (.cells noF 27)).alloc (.cells noX 46)) := ((Chg.refl wa).alloc _).alloc _
  have HB := Lib.hid (HA.out.chg0 cB); have CB := Lib.hid (CA.out.trans' cB); have tb := TA.out.chg cB (by simp); have ub := UA.out.chg cB (by simp)
  have ob := OwnB.chg0' OA.out cB
  clear cB HA CA OA TA UA
  generalize (wa.alloc (.cells noF 27)).alloc (.cells noX 46) = wb at *
  have t0 : World.cell? wb ⟨Y + 1, 0, none⟩ = some (.bool true) := tb.cell rfl
  have t1 : World.cell? wb ⟨Y + 1, 1, none⟩ = some (.int .u32 1) := tb.cell rfl
  have t2 : World.cell? wb ⟨Y + 1, 2, none⟩ = some (.int .i64 3) := tb.cell rfl
  have u0 : World.cell? wb ⟨Z + 1, 0, none⟩ = some (.bool true) := ub.cell rfl
  have u1 : World.cell? wb ⟨Z + 1, 1, none⟩ = some (.int .u32 6) := ub.cell rfl
  have u2 : World.cell? wb ⟨Z + 1, 2, none⟩ = some (.int .i64 0) := ub.cell rfl
  have k1 := BytesOf.str (OwnB.bytes ob)
  clear tb ub ob
  go_wp2_with fail
  refine (psize_any HB.out).mono ?_; rintro e wc ⟨rfl, rfl⟩
  go_wp2_with fail
  refine (opening_any (lit_b wb [80, 82, 73] (3, 4) (by simp [maxLen]))).mono ?_; rintro e wd ⟨rfl, nd, rfl⟩
  rw [show opn [80, 82, 73] = 2 by decide]
  have CD : Hid (Chg [] w ((wb.alloc (.cells (rowB [80, 82, 73]).toArray 5 (3, 4))).drewN nd)) := Lib.hid ((CB.out.alloc _).drewN nd)
  go_wp2_with fail
  go_ret
  exact ⟨rfl, CD.out⟩
end Go.Proofs.Ythhgnipiaohplaa.Fr
