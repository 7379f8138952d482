/-
  A priority's octets.
-/
import Derived.Test.YthhgnipiaohplaaFmw
import Derived.Deep.DeepCutAuto
import Derived.Deep.RegionHeldLaw
namespace Go.Proofs.Ythhgnipiaohplaa.Fr
open Go.ChangeShapes Go.WideShapes Go.ChangeAt Go.RowKit
open Go.Proofs.Ythhgnipiaohplaa.B
set_option linter.unusedVariables false
set_option linter.unusedSimpArgs false

theorem or_u64 {d : Nat} (h : d ≤ 2147483647) : Go.bits .or .u64 (d : Int) 2147483648 = ((d + 2147483648 : Nat) : Int) := by
  have key : (BitVec.ofInt 64 (d : Int) ||| BitVec.ofInt 64 2147483648).toNat = d ||| 2147483648 := by
    rw [BitVec.toNat_or, BitVec.toNat_ofInt, BitVec.toNat_ofInt]
    have a1 : ((d : Int) % ((2 ^ 64 : Nat) : Int)).toNat = d := by omega
    have a2 : ((2147483648 : Int) % ((2 ^ 64 : Nat) : Int)).toNat = 2147483648 := by decide
    rw [a1, a2]
  have hor : d ||| 2147483648 = d + 2147483648 := by
    have h1 := Nat.two_pow_add_eq_or_of_lt (show d < 2 ^ 31 by omega) 1
    rw [Nat.mul_one] at h1
    rw [Nat.or_comm]
    have h2 : (2 : Nat) ^ 31 = 2147483648 := rfl
    rw [h2] at h1
    omega
  show IntKind.u64.wrap ((BitVec.ofInt 64 (d : Int) ||| BitVec.ofInt 64 2147483648).toNat : Nat) = _
  rw [key, hor]
  show (((d + 2147483648 : Nat) : Int)) % 18446744073709551616 = _
  omega
set_option maxRecDepth 100000 in
set_option maxHeartbeats 16000000 in
theorem prio_any {w : World} {base : Nat} (F : Fm) (pa : Option Addr) (n pc : Nat) (la : Option Addr) (m lc : Nat) (ov : Value) (l : List UInt8) (ho : OwnB w base ov l) (d wt : Nat) (hd : F.depend = (d : Int)) (hw : F.weight = (wt : Int)) (h3 : d ≤ 2147483647) (h4 : 1 ≤ wt ∧ wt ≤ 256) (hl : l.length ≤ 100000) (hb : base ≤ w.heap.size) :
    Calls Try.prog 32 #[ov, .agg (fcs (F.mem (.slice pa n pc) (.slice la m lc)))] w fun e w' => ∃ rv, e = .returned rv ∧ OwnB w' base rv (l ++ prioO d F.excl wt) ∧ Chg ov.ownBlock.toList w w' ∧ ∀ k ∈ rv.ownBlock.toList, k ∈ ov.ownBlock.toList ∨ w.heap.size ≤ k := by
  obtain ⟨w2, hw2⟩ : ∃ w2, w2 = w.alloc (.cells (fcs (F.mem (.slice pa n pc) (.slice la m lc))) 27) := ⟨_, rfl⟩
  have hc : Chg [] w w2 := by rw [hw2]; exact (Chg.refl w).alloc _
  have a1 : At w2 w.heap.size (.cells (fcs (F.mem (.slice pa n pc) (.slice la m lc))) 27 (0, 0)) := by rw [hw2]; exact At.new w _
  obtain ⟨A, hA⟩ : ∃ A, A = w.heap.size := ⟨_, rfl⟩
  rw [← hA] at a1
  have x9 : World.cell? w2 ⟨A, 9, none⟩ = some (.int .i64 F.depend) := a1.cell rfl
  have x10 : World.cell? w2 ⟨A, 10, none⟩ = some (.bool F.excl) := a1.cell rfl
  have x11 : World.cell? w2 ⟨A, 11, none⟩ = some (.int .i64 F.weight) := a1.cell rfl
  rw [hd] at x9
  rw [hw] at x11
  obtain ⟨V, hV⟩ : ∃ V : Nat, V = d + if F.excl then 2147483648 else 0 := ⟨_, rfl⟩
  have hV4 : V < 4294967296 := by rw [hV]; split <;> omega
  obtain ⟨wb, hwb⟩ : ∃ b, b = UInt8.ofNat (wt - 1) := ⟨_, rfl⟩
  have hwI : (wt : Int) - 1 = (wb.toNat : Int) := by rw [hwb]; simp only [UInt8.toNat_ofNat']; omega
  have hor := or_u64 h3
  have A1 := Lib.hid a1; have HC := Lib.hid hc; have HW := Lib.hid hw2; have HA := Lib.hid hA; have HV := Lib.hid hV; have HO := Lib.hid ho; have HWB := Lib.hid hwb; have HB := Lib.hid hb; have HLN := Lib.hid hl; have HWI := Lib.hid hwI
  have hwb4 : IntKind.u8.wrap (IntKind.i64.wrap (wb.toNat : Int)) = (wb.toNat : Int) := by
    have := wb.toNat_lt
    rw [IntWalk.i64_in _ (by omega), IntKind.wrap_u8]
    omega
  have hwb3 : (wb.toNat : Int) % 256 = (wb.toNat : Int) := by have := wb.toNat_lt; omega
  have hAl := a1.lt
  clear a1 hc hw2 hA ho hwb hb hl hd hw hV
  obtain ⟨ex, hex⟩ : ∃ b, b = F.excl := ⟨_, rfl⟩
  rw [← hex] at x10
  have HEX := Lib.hid hex
  clear hex
  go_enter Try.func32, Try.ntmps32
  go_upto_region 1 with fail
  rw [← HW.out, ← HA.out]
  iterate 17 go_step
  go_cut [5] (fun v wx => v = .int .u64 (V : Int) ∧ wx = w2)
  case first =>
    cases ex with
    | true =>
      have hVe : Hid (((d : Int) + 2147483648) = (V : Int)) := Lib.hid (by rw [HV.out, ← HEX.out]; simp)
      go_wp2_with fail
      go_meet
      case rel => exact ⟨by rw [hVe.out], rfl⟩
    | false =>
      have hVe : Hid ((d : Int) = (V : Int)) := Lib.hid (by rw [HV.out, ← HEX.out]; simp)
      go_wp2_with fail
      go_meet
      case rel => exact ⟨by rw [hVe.out], rfl⟩
  case rest =>
    obtain ⟨rfl, hwx⟩ := hcut
    have hwx' := hwx.symm
    subst hwx'
    clear hor x9 x10
    have hs2 : base ≤ w2.heap.size := Nat.le_trans HB.out HC.out.size
    have OVL : Hid (∀ g, ov.ownBlock = some g → g < w.heap.size) := Lib.hid (fun g hg => (World.ownsRow.lt HO.out g hg).2)
    obtain ⟨M, hMM⟩ : ∃ M, M = (l ++ be V 4) ++ [wb] := ⟨_, rfl⟩
    have HMM := Lib.hid hMM
    clear hMM
    have POST : Hid (∀ (rv : Value) (w' : World), (OwnB w' base rv M ∧ Chg ov.ownBlock.toList w w' ∧ (∀ k ∈ rv.ownBlock.toList, k ∈ ov.ownBlock.toList ∨ w.heap.size ≤ k)) → OwnB w' base rv (l ++ prioO d F.excl wt) ∧ Chg ov.ownBlock.toList w w' ∧ ∀ k ∈ rv.ownBlock.toList, k ∈ ov.ownBlock.toList ∨ w.heap.size ≤ k) := Lib.hid (fun rv w' h => ⟨by unfold prioO; rw [← HV.out, ← HWB.out, ← List.append_assoc, ← HMM.out]; exact h.1, h.2⟩)
    have hAov : Hid (A ∉ ov.ownBlock.toList) := Lib.hid (fun hx => by have := OVL.out A (by simpa using hx); have := HA.out; omega)
    have hBov : Hid (w2.heap.size ∉ ov.ownBlock.toList) := Lib.hid (fun hx => by have := OVL.out _ (Option.mem_toList.1 hx); have := HC.out.size; omega)
    have OA : Hid (∀ w', Chg [] w2 w' → Calls Try.prog 33 #[ov, .int .u64 V, .int .i64 4] w' fun e w'' => ∃ rv, e = .returned rv ∧ OwnB w'' base rv (l ++ be V 4) ∧ Chg ov.ownBlock.toList w' w'' ∧ ∀ k ∈ rv.ownBlock.toList, k ∈ ov.ownBlock.toList ∨ w'.heap.size ≤ k) := Lib.hid (fun w' hc => put_any (base := base) ov l (OwnB.chg0' (OwnB.chg0' HO.out HC.out) hc) V 4 (by omega) (by omega) (by have := HLN.out; omega) (Nat.le_trans hs2 hc.size))
    have x11d : World.cell? w2.drew ⟨A, 11, none⟩ = some (.int .i64 (wt : Int)) := x11
    go_upto_region 4 with fail
    have hlen5 : Hid ((l ++ be V 4).length + [wb].length ≤ 140737488355328) := Lib.hid (by have := HLN.out; simp [be_len]; omega)
    go_region_law (first
      | (go_simp; go_at_call 33; go_loud (refine (OA.out _ (by first | exact (Chg.refl w2).drew | exact ((Chg.refl w2).drew).alloc _)).mono ?_; rintro e w5 ⟨rv, rfl, o5, c5, n5⟩; have c25 : Chg ov.ownBlock.toList w2 w5 := (by first | exact ((Chg.refl w2).drew).trans' c5 | exact (((Chg.refl w2).drew).alloc _).trans' c5); have N5 : Hid (∀ k ∈ rv.ownBlock.toList, k ∈ ov.ownBlock.toList ∨ w2.heap.size ≤ k) := Lib.hid (fun k hk => (n5 k hk).imp id (fun h => by first | exact h | exact Nat.le_trans (by simp) h)); have O5 := Lib.hid o5; have C5 := Lib.hid ((HC.out.mono (by simp)).trans' c25); have y11 : World.cell? w5 ⟨A, 11, none⟩ = some (.int .i64 (wt : Int)) := (c25.cell hAl hAov.out _).trans x11; have CX := Lib.hid c5; have hA5 : A < w5.heap.size := Nat.lt_of_lt_of_le hAl c25.size; have hArv : Hid (A ∉ rv.ownBlock.toList) := Lib.hid (fun hx => (N5.out A hx).elim hAov.out (fun h => by omega)); clear o5 c5 n5 c25))
      | (skip; (refine step_any rfl (.tmp 15) (.tmp 20) rfl base rv (l ++ be V 4) rfl (OwnB.alloc O5.out _) (.slice (some ⟨w5.heap.size, 0, none⟩) 1 1) [wb] rfl (BytesOf.new w5 wb) hlen5.out (Nat.le_trans HB.out (Nat.le_trans C5.out.size (by simp))) ?_; intro v6 w6 own6 ch6 n6; rw [← HMM.out] at own6; obtain ⟨a', cap', rfl⟩ := OwnB.slice own6; have y11 : World.cell? w6 ⟨A, 11, none⟩ = some (.int .i64 (wt : Int)) := ((((Chg.refl w5).alloc (l := rv.ownBlock.toList) _).trans' ch6).cell hA5 hArv.out _).trans y11; have P6 := Lib.hid (POST.out _ w6 ⟨own6, (C5.out.alloc _).trans ch6 (fun x hx => (N5.out x hx).imp id (fun h => Nat.le_trans HC.out.size h)), fun k hk => ((n6 k (by simpa using hk)).elim (fun h => (N5.out k (by simp [h])).imp id (fun h => Nat.le_trans HC.out.size h)) (fun h => Or.inr (Nat.le_trans C5.out.size (Nat.le_trans (by simp) h))))⟩); clear own6 ch6 n6))
      | (skip; (refine step_any rfl (.tmp 15) (.tmp 20) rfl base rv (l ++ be V 4) rfl O5.out (.slice (some ⟨w2.heap.size, 0, none⟩) 1 1) [wb] rfl (BytesOf.chg (BytesOf.new w2.drew wb) CX.out (fun a n cap he => by simp only [Value.slice.injEq, Option.some.injEq] at he; rw [← he.1]; exact hBov.out)) hlen5.out (Nat.le_trans HB.out C5.out.size) ?_; intro v6 w6 own6 ch6 n6; rw [← HMM.out] at own6; obtain ⟨a', cap', rfl⟩ := OwnB.slice own6; have y11 : World.cell? w6 ⟨A, 11, none⟩ = some (.int .i64 (wt : Int)) := (ch6.cell hA5 hArv.out _).trans y11; have P6 := Lib.hid (POST.out _ w6 ⟨own6, C5.out.trans ch6 (fun x hx => (N5.out x hx).imp id (fun h => Nat.le_trans HC.out.size h)), fun k hk => ((n6 k (by simpa using hk)).elim (fun h => (N5.out k (by simp [h])).imp id (fun h => Nat.le_trans HC.out.size h)) (fun h => Or.inr (Nat.le_trans C5.out.size h)))⟩); clear own6 ch6 n6))
      | fail)
    all_goals
      go_wp2_with fail
      go_ret
      exact ⟨_, rfl, P6.out.1, P6.out.2.1, fun k hk => (P6.out.2.2 k (Option.mem_toList.2 hk)).imp Option.mem_toList.1 id⟩
end Go.Proofs.Ythhgnipiaohplaa.Fr
