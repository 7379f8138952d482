/-
  The readers of the payloads, but for the list of settings.
-/
import Derived.Test.YthhgnipiaohplaaFrc
namespace Go.Proofs.Ythhgnipiaohplaa.Fr
open Go.ChangeShapes Go.WideShapes Go.ChangeAt Go.RowKit
open Go.Proofs.Ythhgnipiaohplaa.B
set_option linter.unusedVariables false
set_option linter.unusedSimpArgs false
section
variable {w w' w'' : World} {r : Nat} {pv lv bv : Value} {R : Rg}
theorem bit31 (x : Nat) (hx : x < 4294967296) : ((x : Int) / 2147483648 == 1) = (x / 2147483648 == 1) := by
  by_cases h : x / 2147483648 = 1
  · have : (x : Int) / 2147483648 = 1 := by omega
    rw [h, this]; rfl
  · have : ¬ (x : Int) / 2147483648 = 1 := by omega
    rw [beq_false_of_ne h, beq_false_of_ne this]
set_option maxRecDepth 100000 in
set_option maxHeartbeats 4000000 in
theorem weighed_any (h : RM w r pv lv bv R) {a b c d e : UInt8} {rest : List UInt8} (hl : R.l = a :: b :: c :: d :: e :: rest) :
    Calls Try.prog 68 #[.pointer (some ⟨r, 0, none⟩)] w fun en w' => en = .returned (.tuple #[]) ∧ RX w w' r (weighedR a b c d e rest R) := by
  have HH := Lib.hid h; have HL := Lib.hid hl
  clear h hl
  obtain ⟨N, hN⟩ : ∃ N, N = fourN a b c d := ⟨_, rfl⟩
  have hNl : N < 4294967296 := by rw [hN]; exact fourN_lt a b c d
  have ha := and31 N hNl
  have e31 := bit31 N hNl
  obtain ⟨E, hE⟩ : ∃ E : Nat, E = e.toNat := ⟨_, rfl⟩
  have hE6 : E < 256 := by rw [hE]; exact e.toNat_lt
  obtain ⟨D, hD⟩ : ∃ D : Nat, D = N % 2147483648 := ⟨_, rfl⟩
  rw [← hD] at ha
  have hD6 : D < 2147483648 := by omega
  obtain ⟨X, hX⟩ : ∃ X : Bool, X = (N / 2147483648 == 1) := ⟨_, rfl⟩
  rw [← hX] at e31
  obtain ⟨R2, hR2⟩ : ∃ R2, R2 = weighedR a b c d e rest R := ⟨_, rfl⟩
  have hR2' : R2 = { R with F := { R.F with depend := (D : Nat), excl := X, weight := (E + 1 : Nat) }, l := rest } := by rw [hR2, hX, hD, hE, hN]; rfl
  rw [← hR2]
  have HR := Lib.hid hR2'; have HN := Lib.hid hN; have HE := Lib.hid hE
  clear hR2 hR2' hN hD hX hE
  go_enter Try.func68, Try.ntmps68
  go_wp2_with fail
  refine (wordM_any HH.out HL.out).mono ?_; rintro en w1 ⟨he, h1⟩
  rw [← HN.out] at he
  subst he
  obtain ⟨⟨pv1, lv1, bv1, h1⟩, b1⟩ := h1
  obtain ⟨sa, cap, rfl, hc, hcm⟩ := h1.h.b.slice
  have hb1 : BytesOf w1 (.slice sa (e :: rest).length cap) (e :: rest) := h1.h.b
  obtain ⟨bb, off, rfl, hbb, hcell⟩ := hb1.cell (by simp)
  have q0 := hcell 0 e rfl
  simp only [Nat.add_zero] at q0
  rw [← HE.out] at q0
  have hdr : BytesOf w1 (.slice (some ⟨bb, off + 1, none⟩) rest.length (cap - 1)) rest := by simpa using bytes_drop hb1 1 (by simp) hc hcm
  have x17 : World.cell? w1 ⟨r, 17, none⟩ = some (.slice (some ⟨bb, off, none⟩) (rest.length + 1) cap) := h1.h.head.cell rfl
  have x9 : World.cell? w1 ⟨r, 9, none⟩ = some (.int .i64 R.F.depend) := h1.h.head.cell rfl
  have x10 : World.cell? w1 ⟨r, 10, none⟩ = some (.bool R.F.excl) := h1.h.head.cell rfl
  have x11 : World.cell? w1 ⟨r, 11, none⟩ = some (.int .i64 R.F.weight) := h1.h.head.cell rfl
  have xf : ∀ j, World.frozen? w1 ⟨r, j, none⟩ = false := fun j => h1.h.head.free j
  have hap : bb < r := h1.h.ap _ _ _ rfl
  have hrl := h1.lt
  unfold maxLen at hcm
  simp only [List.length_cons] at hc
  have hne : ¬ bb = r := by omega
  have B1 := Lib.hid b1; have H1 := Lib.hid h1
  have k1 := h1.put 9 (.int .i64 (D : Nat)) (R' := { R with F := { R.F with depend := (D : Nat) }, l := e :: rest }) rfl rfl rfl rfl
  have k2 := k1.put 10 (.bool X) (R' := { R with F := { R.F with depend := (D : Nat), excl := X }, l := e :: rest }) rfl rfl rfl rfl
  have k3 := k2.put 11 (.int .i64 (E + 1 : Nat)) (R' := { R with F := { R.F with depend := (D : Nat), excl := X, weight := (E + 1 : Nat) }, l := e :: rest }) rfl rfl rfl rfl
  have c3 : Chg [r] w1 (((w1.setCell ⟨r, 9, none⟩ (.int .i64 (D : Nat))).setCell ⟨r, 10, none⟩ (.bool X)).setCell ⟨r, 11, none⟩ (.int .i64 (E + 1 : Nat))) := (((Chg.refl w1).setCell (Or.inl (by simp)) _).setCell (Or.inl (by simp)) _).setCell (Or.inl (by simp)) _
  have BB := Lib.hid (hdr.chg c3 (fun a n c e => by cases e; simpa using hne))
  have BW : Hid (∀ v, Below r w ((((w1.setCell ⟨r, 9, none⟩ (.int .i64 (D : Nat))).setCell ⟨r, 10, none⟩ (.bool X)).setCell ⟨r, 11, none⟩ (.int .i64 (E + 1 : Nat))).setCell ⟨r, 17, none⟩ v)) := Lib.hid (fun v => (((b1.setCell (Nat.le_refl _) _).setCell (Nat.le_refl _) _).setCell (Nat.le_refl _) _).setCell (Nat.le_refl _) _)
  have K3 := Lib.hid k3
  clear hb1 hcell hdr h1 b1 k1 k2 k3 c3
  rcases Nat.lt_or_ge 1 cap with h4 | h4
  · have hne1 : ¬ cap = 1 := by omega
    go_wp2_with fail
    go_end0
    have k := K3.out.rest BB.out (fun a n c e => by cases e; exact hap)
    exact ⟨rfl, ⟨_, _, _, by rw [HR.out]; exact k⟩, BW.out _⟩
  · obtain rfl : cap = 1 := by omega
    have hr0 : rest.length = 0 := by omega
    go_wp2_with fail
    go_end0
    have k := K3.out.rest (bv' := .slice (some ⟨bb, off, none⟩) rest.length 0) (m := rest) ⟨_, _, rfl, by omega, by simp [maxLen], fun h0 => by omega⟩ (fun a n c e => by cases e; exact hap)
    first | exact ⟨rfl, ⟨_, _, _, by rw [HR.out]; exact k⟩, BW.out _⟩ | (rw [hr0] at k; exact ⟨rfl, ⟨_, _, _, by rw [HR.out]; exact k⟩, BW.out _⟩)
end
end Go.Proofs.Ythhgnipiaohplaa.Fr
