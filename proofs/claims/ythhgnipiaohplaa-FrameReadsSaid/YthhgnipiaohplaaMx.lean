/-
  The document's Next.
-/
import Derived.Test.YthhgnipiaohplaaFrf
import Derived.Test.YthhgnipiaohplaaFrg
import Derived.Test.YthhgnipiaohplaaFfx
import Derived.Test.YthhgnipiaohplaaFfy
import Derived.Test.YthhgnipiaohplaaFfz
import Derived.Test.YthhgnipiaohplaaFfu
import Derived.Test.YthhgnipiaohplaaFfv
import Derived.Test.YthhgnipiaohplaaFxa
import Derived.Deep.DeepCutAuto
import Derived.Test.YthhgnipiaohplaaFnl
import Derived.BigGuardPart
namespace Go.Proofs.Ythhgnipiaohplaa.Fr
open Go.ChangeShapes Go.WideShapes Go.ChangeAt Go.RowKit
open Go.Proofs.Ythhgnipiaohplaa.B
set_option linter.unusedVariables false
set_option linter.unusedSimpArgs false

theorem rread_any (k : Nat) (fl : UInt8) (s : List UInt8) (hs : s.length ≤ 16777215) (h1 : badLen k fl s.length = false) (h2 : badPad k fl s = false) (w : World) :
    Calls Try.prog 50 #[.int .i64 (k : Int), .int .i64 ((fl.toNat : Nat) : Int), .string (bstr s)] w (RdX (readF k fl s) w) := by
  match k with
  | 0 =>
    cases hb : bitB fl 3 with
    | true =>
      cases s with
      | nil => simp [badLen, leastN, pb, hb] at h1
      | cons c t =>
        simp [badLen, badPad, leastN, pb, justK, padK, hb] at h1 h2
        exact (rread_0t fl _ hs hb (by simp; omega) w).mono (fun e w2 h => RdPost.x h (by simp [readF]))
    | false => exact (rread_0f fl s hs hb w).mono (fun e w2 h => RdPost.x h (by simp [readF]))
  | 1 =>
    cases hb : bitB fl 3 with
    | true =>
      cases h5 : bitB fl 5 with
      | true =>
        cases s with
        | nil => simp [badLen, leastN, pb, hb, h5] at h1
        | cons c t =>
          simp [badLen, badPad, leastN, pb, justK, padK, hb, h5] at h1 h2
          exact (rread_1tt fl _ hs hb h5 (by simp; omega) w).mono (fun e w2 h => RdPost.x h (by simp [readF, h5]))
      | false =>
        cases s with
        | nil => simp [badLen, leastN, pb, hb, h5] at h1
        | cons c t =>
          simp [badLen, badPad, leastN, pb, justK, padK, hb, h5] at h1 h2
          exact (rread_1tf fl _ hs hb h5 (by simp; omega) w).mono (fun e w2 h => RdPost.x h (by simp [readF, h5]))
    | false =>
      cases h5 : bitB fl 5 with
      | true =>
        simp [badLen, badPad, leastN, pb, justK, padK, hb, h5] at h1 h2
        exact (rread_1ft fl s hs hb h5 (by omega) w).mono (fun e w2 h => RdPost.x h (by simp [readF, h5]))
      | false => exact (rread_1ff fl s hs hb h5 (by omega) w).mono (fun e w2 h => RdPost.x h (by simp [readF, h5]))
  | 2 => exact (rread_2 fl s hs (by simp [badLen, leastN, justK] at h1; omega) w).mono (fun e w2 h => RdPost.x h (by simp [readF]))
  | 3 => exact (rread_3 fl s hs (by simp [badLen, leastN, justK] at h1; omega) w).mono (fun e w2 h => RdPost.x h (by simp [readF]))
  | 4 => exact rread_4 fl s hs (by simp [badLen, leastN, justK] at h1; omega) w
  | 5 =>
    cases hb : bitB fl 3 with
    | true =>
      cases s with
      | nil => simp [badLen, leastN, pb, hb] at h1
      | cons c t =>
        simp [badLen, badPad, leastN, pb, justK, padK, hb] at h1 h2
        exact (rread_5t fl _ hs hb (by simp; omega) w).mono (fun e w2 h => RdPost.x h (by simp [readF]))
    | false =>
      simp [badLen, badPad, leastN, pb, justK, padK, hb] at h1 h2
      exact (rread_5f fl s hs hb (by omega) w).mono (fun e w2 h => RdPost.x h (by simp [readF]))
  | 6 => exact (rread_6 fl s hs w).mono (fun e w2 h => RdPost.x h (by simp [readF]))
  | 7 => exact (rread_7 fl s hs (by simp [badLen, leastN, justK] at h1; omega) w).mono (fun e w2 h => RdPost.x h (by simp [readF]))
  | 8 => exact (rread_8 fl s hs (by simp [badLen, leastN, justK] at h1; omega) w).mono (fun e w2 h => RdPost.x h (by simp [readF]))
  | 9 => exact (rread_9 fl s hs w).mono (fun e w2 h => RdPost.x h (by simp [readF]))
  | n + 10 => exact (rread_10 n fl s hs w).mono (fun e w2 h => RdPost.x h (by simp [readF]))
end Go.Proofs.Ythhgnipiaohplaa.Fr
namespace Go.Proofs.Ythhgnipiaohplaa.Fr
open Go.ChangeShapes Go.WideShapes Go.ChangeAt Go.RowKit
open Go.Proofs.Ythhgnipiaohplaa.B
set_option linter.unusedVariables false
set_option linter.unusedSimpArgs false

set_option maxRecDepth 100000 in
set_option maxHeartbeats 4000000 in
theorem rfeed_any {W w : World} {p : Nat} {l : List UInt8} {mx : Nat} {dn : Bool} (h : RP W w p l mx dn) (m : List UInt8) (hl : l.length ≤ 20000000) (hm : m.length ≤ 20000000) :
    Calls Try.prog 24 #[.pointer (some ⟨p, 0, none⟩), .string (bstr m)] w fun e w' => e = .returned (.int .i64 (feedN mx dn l m : Nat)) ∧ RP W w' p (l ++ m.take (feedN mx dn l m)) mx dn ∧ Chg [p] w w' := by
  obtain ⟨S, hS⟩ : ∃ S, S = bstr l := ⟨_, rfl⟩
  obtain ⟨Y, hY⟩ : ∃ Y, Y = bstr m := ⟨_, rfl⟩
  obtain ⟨LN, hLN⟩ : ∃ n, n = l.length := ⟨_, rfl⟩
  obtain ⟨MN, hMN⟩ : ∃ n, n = m.length := ⟨_, rfl⟩
  have zS : S.size = LN := by rw [hS, bstr_size, hLN]
  have zY : Y.size = MN := by rw [hY, bstr_size, hMN]
  have x0 : World.cell? w ⟨p, 0, none⟩ = some (.string S) := by rw [hS]; exact h.head.cell rfl
  have x1 : World.cell? w ⟨p, 1, none⟩ = some (.int .i64 (mx : Int)) := h.head.cell rfl
  have x2 : World.cell? w ⟨p, 2, none⟩ = some (.bool dn) := h.head.cell rfl
  have xf : ∀ j, World.frozen? w ⟨p, j, none⟩ = false := fun j => h.head.free j
  have hpl := h.head.lt
  have hm1 := h.b1; have hm2 := h.b2
  rw [← hLN] at hl
  rw [← hMN] at hm
  obtain ⟨N, hN⟩ : ∃ N, N = feedN mx dn l m := ⟨_, rfl⟩
  rw [← hY, ← hN]
  have hN2 : N = if dn = true then 0 else min MN (mx + 9 - LN) := by rw [hN, hMN, hLN]; rfl
  have HH := Lib.hid h; have HS := Lib.hid hS; have HY := Lib.hid hY
  clear h hS hY hLN hMN hN
  cases dn with
  | true =>
    rw [if_pos rfl] at hN2
    have HN := Lib.hid hN2
    clear hN2
    go_enter Try.func24, Try.ntmps24
    go_wp2_with fail
    go_quiet (fail)
    go_wp2_with fail
    go_ret
    exact ⟨by rw [HN.out]; rfl, by rw [HN.out]; simpa using HH.out.chg0 ((Chg.refl w).drewN _), (Chg.refl w).drewN _⟩
  | false =>
    rw [if_neg (by simp)] at hN2
    by_cases hr : mx + 9 < LN
    · have HN : Hid (N = 0) := Lib.hid (by omega)
      have hrI : (mx : Int) + 9 - (LN : Int) < 0 := by omega
      clear hN2
      go_enter Try.func24, Try.ntmps24
      go_wp2_with fail
      go_quiet (fail)
      go_wp2_with fail
      go_ret
      exact ⟨by rw [HN.out]; rfl, by rw [HN.out]; simpa using HH.out.chg0 ((Chg.refl w).drewN _), (Chg.refl w).drewN _⟩
    · have hNI : ((mx : Int) + 9 - (LN : Int) > (MN : Int) → N = MN) ∧ (¬ (mx : Int) + 9 - (LN : Int) > (MN : Int) → (N : Int) = (mx : Int) + 9 - (LN : Int)) := by omega
      have hNM : N ≤ MN := by omega
      have HL : Hid (bstr (l ++ m.take N) = S ++ Y.extract 0 N) := Lib.hid (by rw [bstr_append, ← HS.out, HY.out, bstr_cut]; rfl)
      have hr1 : ¬ (mx : Int) + 9 - (LN : Int) < 0 := by omega
      have hEx : (Y.extract 0 N).size = N := by rw [ByteArray.size_extract]; omega
      have hNY : N ≤ Y.size := by omega
      have HT : Hid (∀ k, RP W ((w.drewN k).setCell ⟨p, 0, none⟩ (.string (S ++ Y.extract 0 N))) p (l ++ m.take N) mx false) := Lib.hid (fun k => ⟨by rw [HL.out]; exact (HH.out.head.drewN k).set 0 _, HH.out.lo, HH.out.b1, HH.out.b2⟩)
      have HT2 : Hid (∀ k, Chg [p] w ((w.drewN k).setCell ⟨p, 0, none⟩ (.string (S ++ Y.extract 0 N)))) := Lib.hid (fun k => ((Chg.refl w).drewN k).setCell (Or.inl (by simp)) _)
      clear hN2
      by_cases hb : (mx : Int) + 9 - (LN : Int) > (MN : Int)
      · obtain rfl : N = MN := hNI.1 hb
        clear hNI
        go_enter Try.func24, Try.ntmps24
        go_wp2_with fail
        go_quiet (fail)
        go_wp2_with fail
        go_region
        all_goals
          go_wp2_with fail
          go_ret
          first
          | exact ⟨rfl, HT.out _, HT2.out _⟩
          | exact ⟨rfl, HT.out (_ + 1), HT2.out (_ + 1)⟩
          | trace_state
      · have hNe := (hNI.2 hb).symm
        have hNM2 : ¬ (N : Int) > (MN : Int) := by omega
        clear hNI hb hr1
        go_enter Try.func24, Try.ntmps24
        go_wp2_with fail
        go_quiet (fail)
        go_wp2_with fail
        go_region
        all_goals
          go_wp2_with fail
          go_ret
          first
          | exact ⟨rfl, HT.out _, HT2.out _⟩
          | exact ⟨rfl, HT.out (_ + 1), HT2.out (_ + 1)⟩
          | trace_state
end Go.Proofs.Ythhgnipiaohplaa.Fr
namespace Go.Proofs.Ythhgnipiaohplaa.Fr
open Go.ChangeShapes Go.WideShapes Go.ChangeAt Go.RowKit
open Go.Proofs.Ythhgnipiaohplaa.B
set_option linter.unusedVariables false
set_option linter.unusedSimpArgs false

/-- What the document's Next answers, and what it leaves. -/
def RNext (W w : World) (p : Nat) (l : List UInt8) (mx : Nat) (dn : Bool) (e : Ending) (w' : World) : NR → Prop
  | .none => e = .returned (.tuple #[.agg noF, .agg noX, .bool false]) ∧ RP W w' p l mx dn ∧ Chg [] w w'
  | .broken c => e = .returned (.tuple #[.agg noF, .agg #[.bool true, .int .u32 (c : Nat), .int .i64 0], .bool true]) ∧ RP W w' p [] mx true ∧ Chg [p] w w'
  | .fault c st rest => e = .returned (.tuple #[.agg noF, .agg #[.bool true, .int .u32 (c : Nat), .int .i64 (st : Nat)], .bool true]) ∧ RP W w' p rest mx dn ∧ Chg [p] w w'
  | .frame F rest => ∃ pv lv, e = .returned (.tuple #[.agg (fcs (F.mem pv lv)), .agg noX, .bool true]) ∧ BytesOf w' pv F.pay ∧ SliceOf w' lv 2 encS F.list ∧ RP W w' p rest mx dn ∧ Chg [p] w w'
set_option maxRecDepth 100000 in
set_option maxHeartbeats 4000000 in
theorem rnext_done {W w : World} {p : Nat} {l : List UInt8} {mx : Nat} (h : RP W w p l mx true) :
    Calls Try.prog 22 #[.pointer (some ⟨p, 0, none⟩)] w fun e w' => e = .returned (.tuple #[.agg noF, .agg noX, .bool false]) ∧ RP W w' p l mx true ∧ Chg [] w w' := by
  have x2 : World.cell? w ⟨p, 2, none⟩ = some (.bool true) := h.head.cell rfl
  have hpl := h.head.lt
  have HH := Lib.hid h
  clear h
  go_enter Try.func22, Try.ntmps22
  go_wp2_with fail
  refine bodyPost_ret (v := .tuple #[.agg noF, .agg noX, .bool false]) (by simp [results, Try.results22, go_sem]) rfl ⟨rfl, ?_, ?_⟩
  · exact HH.out.chg0 (((Chg.refl w).alloc (.cells noF 27)).alloc (.cells noX 46))
  · exact (((Chg.refl w).alloc (.cells noF 27)).alloc (.cells noX 46))
set_option maxRecDepth 100000 in
set_option maxHeartbeats 4000000 in
theorem rnext_short {W w : World} {p : Nat} {l : List UInt8} {mx : Nat} (h : RP W w p l mx false) (hl : l.length < 9) :
    Calls Try.prog 22 #[.pointer (some ⟨p, 0, none⟩)] w fun e w' => e = .returned (.tuple #[.agg noF, .agg noX, .bool false]) ∧ RP W w' p l mx false ∧ Chg [] w w' := by
  obtain ⟨S, hS⟩ : ∃ S, S = bstr l := ⟨_, rfl⟩
  have x0 : World.cell? w ⟨p, 0, none⟩ = some (.string S) := by rw [hS]; exact h.head.cell rfl
  have x2 : World.cell? w ⟨p, 2, none⟩ = some (.bool false) := h.head.cell rfl
  have zS : (S.size : Int) < 9 := by rw [hS, bstr_size]; omega
  have hpl := h.head.lt
  have HH := Lib.hid h
  clear h hS
  go_enter Try.func22, Try.ntmps22
  go_wp2_with fail
  refine bodyPost_ret (v := .tuple #[.agg noF, .agg noX, .bool false]) (by simp [results, Try.results22, go_sem]) rfl ⟨rfl, ?_, ?_⟩
  · exact HH.out.chg0 (((Chg.refl w).alloc (.cells noF 27)).alloc (.cells noX 46))
  · exact (((Chg.refl w).alloc (.cells noF 27)).alloc (.cells noX 46))
theorem get3_any (a b c : UInt8) (r : List UInt8) (hr : r.length ≤ 100000010) (w : World) :
    Calls Try.prog 43 #[.string (bstr (a :: b :: c :: r)), .int .i64 0, .int .i64 3] w fun e w' => e = .returned (.int .u64 (threeN a b c : Nat)) ∧ w' = w := by
  have h1 := get_any (bstr (a :: b :: c :: r)) 0 3 (by omega) (by rw [bstr_size]; simp) (by rw [bstr_size]; simp; omega) w
  have h2 : val (((bx (bstr (a :: b :: c :: r))).drop 0).take 3) = threeN a b c := by
    rw [bx_bstr]
    show val [a, b, c] = _
    unfold val threeN
    simp
  rw [h2] at h1
  exact h1
theorem get5_any (a b c k fl s1 s2 s3 s4 : UInt8) (r : List UInt8) (hr : r.length ≤ 100000000) (w : World) :
    Calls Try.prog 43 #[.string (bstr (a :: b :: c :: k :: fl :: s1 :: s2 :: s3 :: s4 :: r)), .int .i64 5, .int .i64 4] w fun e w' => e = .returned (.int .u64 (fourN s1 s2 s3 s4 : Nat)) ∧ w' = w := by
  have h1 := get_any (bstr (a :: b :: c :: k :: fl :: s1 :: s2 :: s3 :: s4 :: r)) 5 4 (by omega) (by rw [bstr_size]; simp) (by rw [bstr_size]; simp; omega) w
  have h2 : val (((bx (bstr (a :: b :: c :: k :: fl :: s1 :: s2 :: s3 :: s4 :: r))).drop 5).take 4) = fourN s1 s2 s3 s4 := by
    rw [bx_bstr]
    show val [s1, s2, s3, s4] = _
    unfold val fourN
    simp
    try omega
  rw [h2] at h1
  exact h1
end Go.Proofs.Ythhgnipiaohplaa.Fr
