/-
  The arguments of this seat's laws, opened; a row that is cut.
-/
import Derived.Test.YtgoelobkehebjaaShown
namespace Go.Proofs.Ytgoelobkehebjaa.Wg
open Go.ChangeShapes Go.WideShapes Go.ChangeAt Go.RowKit
open Go.Proofs.Ytgoelobkehebjaa.B Go.Proofs.Ytgoelobkehebjaa.Fl
set_option linter.unusedVariables false
set_option linter.unusedSimpArgs false

def Wf64 (x : Nat) : Prop := x < 2 ^ 64
theorem trod_float {H : Type} {enc : TypeId × Value → H} {P : Program} {w : World} {base : Nat} {spare : Nat → Bool} {held : Bool} {fuel : Nat} {t : TypeId} {cs : List Value} {x : DataW H × List MemPlace} {k : FloatKind} (ht : P.underlying t = some (.float k)) (h : DataW.trod enc P w base spare held fuel t cs = some x) : ∃ n, cs = [.float k n] ∧ x = (.lit (.float k n), []) ∧ (Lit.float k n).wf = true := by
  cases fuel with
  | zero => simp [DataW.trod] at h
  | succ m =>
    simp only [DataW.trod, ht] at h
    split at h <;> simp_all
theorem decF {H : Type} {enc : TypeId × Value → H} {W : World} (n : Nat) (cs : List Value) (x : DataW H × List MemPlace) (hl : cs.length = 1)
    (h : DataW.trod enc Try.prog W 0 (fun _ => true) true n 26 cs = some x) : ∃ z, cs = encF z ∧ Wf64 z := by
  obtain ⟨a, ha, _, hwa⟩ := trod_float Try.underlying26 h
  refine ⟨a, ha, ?_⟩
  unfold Wf64
  simpa [Lit.wf] using hwa
theorem slice_cut {W : World} {a : Option Addr} {cap : Nat} {w : List Nat} (h : SliceOf W (.slice a w.length cap) 1 encF w) (m : Nat) (hm : m ≤ w.length) : SliceOf W (.slice a m cap) 1 encF (w.take m) := by
  obtain ⟨a', cap', he, h1, h2, h3⟩ := h
  simp only [Value.slice.injEq, true_and] at he
  obtain ⟨rfl, rfl⟩ := he
  have hl : (w.take m).length = m := by simp; omega
  refine ⟨a, cap, by rw [hl], by omega, h2, fun h0 => ?_⟩
  obtain ⟨b, off, rfl, hb, hcell⟩ := h3 (by omega)
  refine ⟨b, off, rfl, hb, fun i z hz j hj => hcell i z ?_ j hj⟩
  have hi : i < m := by have := (List.getElem?_eq_some_iff.1 hz).1; omega
  rw [List.getElem?_take_of_lt hi] at hz; exact hz
theorem mem_cut {w : List Nat} (h : ∀ x ∈ w, x < 2 ^ 64) (m : Nat) : ∀ x ∈ w.take m, x < 2 ^ 64 := fun x hx => h x (List.mem_of_mem_take hx)
theorem len_cut {w : List Nat} {m : Nat} (h : m ≤ w.length) : (w.take m).length = m := by simp; omega
theorem min_cut (w : List Nat) (c : Nat) : ∃ m : Nat, min (w.length : Int) (c : Int) = (m : Int) ∧ m ≤ w.length ∧ m ≤ c := ⟨min w.length c, by omega, by omega, by omega⟩
theorem u64_bounds {n : Int} (h : (Lit.int .u64 n).wf = true) : 0 ≤ n ∧ n ≤ 18446744073709551615 := by
  simpa [Lit.wf, IntKind.min, IntKind.max, IntKind.signed, IntKind.bits] using h
theorem u64_nat {n : Int} (h : (Lit.int .u64 n).wf = true) : ∃ d : Nat, n = d ∧ d < 2 ^ 64 := by
  have := u64_bounds h; exact ⟨n.toNat, by omega, by omega⟩
theorem Chg.below_of {w w' : World} (h : Chg [] w w') : Below w.heap.size w w' := h.below_nil
end Go.Proofs.Ytgoelobkehebjaa.Wg
