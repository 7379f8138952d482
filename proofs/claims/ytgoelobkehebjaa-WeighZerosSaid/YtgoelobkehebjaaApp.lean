/-
  A row of floats that the call itself lays, one weight behind the other.
-/
import Derived.Test.YtgoelobkehebjaaArg
import Derived.Test.YtgoelobkehebjaaRow
namespace Go.Proofs.Ytgoelobkehebjaa.Wg
open Go.ChangeShapes Go.WideShapes Go.ChangeAt Go.RowKit
open Go.Proofs.Ytgoelobkehebjaa.B Go.Proofs.Ytgoelobkehebjaa.Fl
set_option linter.unusedVariables false
set_option linter.unusedSimpArgs false

theorem info_parts {P : Program} {e : TypeId} {z : Value} {sz b : Nat} (h : (P.info? e).map (fun i => (i.zero, i.size, i.bytes)) = some (some z, sz, b)) : ∃ i, P.info? e = some i ∧ i.zero = some z ∧ i.size = sz ∧ i.bytes = b := by
  obtain ⟨i, hi, hzz⟩ := Option.map_eq_some_iff.1 h
  simp only [Prod.mk.injEq] at hzz
  exact ⟨i, hi, hzz.1, hzz.2.1, hzz.2.2⟩
def fRow (l : List Nat) : List Value := l.map (Value.float .f64)
theorem fRow_get {l : List Nat} {i z : Nat} (h : l[i]? = some z) : (fRow l)[i]? = some (.float .f64 z) := by simp [fRow, h]
theorem owns_sliceF {w : World} {base : Nat} {v : Value} {l : List Nat} (h : w.ownsRow base 26 1 v l.length (fRow l)) : SliceOf w v 1 encF l := by
  obtain ⟨a, cap, rfl, hc, hm, hr⟩ := owns_val h
  refine ⟨a, cap, rfl, hc, hm, fun h0 => ?_⟩
  obtain ⟨g, rfl, hg, hcell, _⟩ := hr h0
  refine ⟨g, 0, rfl, (h.lt g hg).2, fun i z hz j hj => ?_⟩
  have hi : i < l.length := (List.getElem?_eq_some_iff.1 hz).1
  obtain rfl : j = 0 := by omega
  rw [Nat.zero_add, hcell _ (by omega)]
  simp [encF, fRow, hz]
end Go.Proofs.Ytgoelobkehebjaa.Wg
