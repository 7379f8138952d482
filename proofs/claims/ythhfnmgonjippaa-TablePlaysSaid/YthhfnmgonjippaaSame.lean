/-
  The law's own functions: same, small; a pair of tables in memory.
-/
import Derived.Test.YthhfnmgonjippaaRTab2
namespace Go.Proofs.Ythhfnmgonjippaa.Tb
open Go.ChangeShapes Go.WideShapes Go.ChangeAt Go.RowKit
open Go.Proofs.Ythhfnmgonjippaa.B
set_option linter.unusedVariables false
set_option linter.unusedSimpArgs false

theorem Has.later {W w : World} {F : List Nat} {p m : Nat} {es : List Fd} (h : Has W w F p m es) (x : Later [] w) : Has W x.world F p m es := h.chg0 x.chg
set_option maxRecDepth 100000 in
set_option maxHeartbeats 4000000 in
theorem same_any {W w : World} {F : List Nat} {p q m base : Nat} {es : List Fd} {sv : Value} (h : Has W w F p m es) (hr : RT w base q sv m es.reverse) :
    Calls Try.prog 31 #[.pointer (some ⟨p, 0, none⟩), .pointer (some ⟨q, 0, none⟩)] w fun e w' => e = .returned (.bool true) ∧ Chg [] w w' := by
  obtain ⟨a0, cap0, rfl, hcA, hcB⟩ := hr.row.len
  have hlen := hr.len
  rw [List.length_reverse] at hlen hr hcA
  have htr : tot es.reverse = tot es := tot_reverse es
  have g0 : ∀ x : Later [] w, World.cell? x.world ⟨q, 0, none⟩ = some (.slice a0 es.length cap0) := fun x => (hr.later x).head.cell rfl
  have g1 : ∀ x : Later [] w, World.cell? x.world ⟨q, 1, none⟩ = some (.int .i64 m) := fun x => (hr.later x).head.cell rfl
  have HH := Lib.hid h; have HR := Lib.hid hr; have HTR := Lib.hid htr
  clear h hr htr
  go_enter Try.func31, Try.ntmps31
  go_wp2_with fail
  refine wp_region_later (S := []) (by kernel_rfl) (by kernel_rfl) ?_
  repeat (go_big_quiet_step (first
    | (go_at_call 18; exact Calls.later_same ((H_len _ (HH.out.later _)).mono (fun e w' h => ⟨h.1, h.2.symm⟩)))
    | (go_at_call 20; exact Calls.later_same ((H_size _ (HH.out.later _)).mono (fun e w' h => ⟨h.1, h.2.symm⟩)))
    | (go_at_call 21; exact Calls.later_same ((H_max _ (HH.out.later _)).mono (fun e w' h => ⟨h.1, h.2.symm⟩)))
    | (go_at_call 35; exact Calls.later (rtsize_eq (HR.out.later _) HTR.out))))
  refine wpQuiet_nil ?_
  intro _ hw'
  obtain ⟨xq, rfl⟩ := hw'
  have hcq := xq.chg
  generalize xq.world = w1 at *
  have HCQ := Lib.hid hcq
  clear hcq g0 g1
  go_wp2_with fail
  go_loopw [5] (fun iv wr => ∃ k : Nat, k ≤ es.length ∧ iv = .int .i64 k ∧ Chg [] w wr) (fun iv _ => es.length - (intOf iv).toNat)
  case atStart => exact ⟨0, Nat.zero_le _, rfl, HCQ.out⟩
  case round =>
    obtain ⟨k, hk, rfl, hc⟩ := hrel
    have hH := HH.out.chg0 hc
    have hR := HR.out.chg0 hc
    have d0 : World.cell? wr ⟨q, 0, none⟩ = some (.slice a0 es.length cap0) := hR.head.cell rfl
    have HH2 := Lib.hid hH; have HR2 := Lib.hid hR; have HC := Lib.hid hc
    clear hH hR hc
    by_cases hlt : k < es.length
    · obtain ⟨f, hf⟩ : ∃ f, es.reverse[k]? = some f := ⟨_, List.getElem?_eq_getElem (by rw [List.length_reverse]; exact hlt)⟩
      have HF := Lib.hid (atR_rev hf); have HFF := Lib.hid hf
      clear hf
      go_wp2_with fail
      rw [show (62 : Int) + (k : Int) = (k : Int) + 62 by omega]
      refine (H_at _ _ HH2.out (by omega)).mono ?_; rintro e w2 ⟨he, hc2⟩
      rw [HF.out] at he
      simp only [aF] at he
      subst he
      have hR3 := HR2.out.chg0 (hc2.alloc (.cells #[.string f.n, .string f.v, .bool f.nv] 23))
      have hR2 := HR2.out.chg0 hc2
      obtain ⟨b, off, rfl, hb, hcells⟩ := FdsOf.cells hR2.row (by rw [List.length_reverse]; omega)
      obtain ⟨e0, e1, e2⟩ := hcells k f HFF.out
      have d1 : World.cell? w2 ⟨q, 0, none⟩ = some (.slice (some ⟨b, off, none⟩) es.length cap0) := hR2.head.cell rfl
      have hq2 := hR2.head.lt
      have HC2 := Lib.hid (HC.out.trans' hc2)
      have hkI : (k : Int) < (es.length : Int) := by omega
      clear hcells hR2 hR3 hc2 d0
      go_wp2_with fail
      go_quiet (fail)
      go_wp2_with fail
      go_roundw
      case rel => exact ⟨k + 1, by omega, by go_num, (HC2.out.alloc _).drewN _⟩
      case measure => simp [intOf]; omega
    · obtain rfl : es.length = k := by omega
      have hn : atR es ((es.length : Int) + 62) = (Fd.no, false) := atR_none (by omega)
      have HN := Lib.hid hn
      clear hn
      go_wp2_with fail
      rw [show (62 : Int) + (es.length : Int) = (es.length : Int) + 62 by omega]
      refine (H_at _ _ HH2.out (by omega)).mono ?_; rintro e w2 ⟨he, hc2⟩
      rw [HN.out] at he
      simp only [aF, Fd.no] at he
      subst he
      go_wp2_with fail
      go_ret
      exact ⟨rfl, (HC.out.trans' hc2).alloc _⟩
end Go.Proofs.Ythhfnmgonjippaa.Tb
