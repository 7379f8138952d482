/-
  Octets into a text and back: what the two conversions do.
-/
import Derived.Test.YthhgnipiaohplaaByte
import Derived.Laws.IdiomStrings
namespace Go.Proofs.Ythhgnipiaohplaa.B
open Go.ChangeShapes Go.WideShapes Go.ChangeAt Go.RowKit
set_option linter.unusedVariables false
set_option linter.unusedSimpArgs false

theorem BytesOf.str {w : World} {v : Value} {l : List UInt8} (h : BytesOf w v l) : (convert 22 9 v).run Try.prog w = .ok (.string ⟨l.toArray⟩) w := by
  obtain ⟨a, cap, rfl, h1, h2⟩ := h.slice
  rcases Nat.eq_zero_or_pos l.length with h0 | h0
  · obtain rfl : l = [] := List.length_eq_zero_iff.1 h0
    rw [run_convert_bytes_string w 22 9 5 a _ cap Try.underlying22 Try.underlying5 Try.underlying9]
    cases a with
    | none => simp [Conv.bytesToString]; rfl
    | some a =>
      have := run_bytesToString (P := Try.prog) w a 0 cap [] (by simp [loadCells, loadCellsFrom])
      exact this
  · obtain ⟨b, off, rfl, hb, hc⟩ := h.cell h0
    exact run_convert_bytes_back (P := Try.prog) w 22 9 5 ⟨b, off, none⟩ cap l Try.underlying22 Try.underlying5 Try.underlying9 (fun j hj => by rw [add_off]; exact hc j _ (List.getElem?_eq_getElem hj))
/-- '[]byte(s)': a new row. -/
def strRow (s : ByteArray) (w : World) : Value := .slice (some ⟨w.heap.size, 0, none⟩) s.size (grownCap w s.size 0 5)
def strWorld (s : ByteArray) (w : World) : World :=
  w.drew.alloc (.cells (bytesRow s (grownCap w s.size 0 5)) 5 ((bytesRow s (grownCap w s.size 0 5)).size, (bytesRow s (grownCap w s.size 0 5)).size + 1))
theorem str_run (s : ByteArray) (w : World) : (convert 9 22 (.string s)).run Try.prog w = .ok (strRow s w) (strWorld s w) :=
  run_bytes_of_string (P := Try.prog) w 9 22 5 s Try.underlying9 Try.underlying22 Try.underlying5
theorem str_chg (s : ByteArray) (w : World) : Chg [] w (strWorld s w) := ((Chg.refl w).drew).alloc _
theorem str_bytes (s : ByteArray) (w : World) (hs : s.size ≤ maxLen) : BytesOf (strWorld s w) (strRow s w) s.data.toList := by
  have hc : s.size ≤ grownCap w s.size 0 5 := grownCap_ge w s.size 0 _
  have hm : grownCap w s.size 0 5 ≤ maxLen := grownCap_le_maxLen w s.size 0 _ hs
  refine ⟨_, grownCap w s.size 0 5, by unfold strRow; first | (congr 1; done) | (congr 1; simp), by simpa using hc, hm, fun h0 => ⟨w.heap.size, 0, rfl, by simp [strWorld], fun i z hz j hj => ?_⟩⟩
  obtain rfl : j = 0 := by omega
  have hi : i < s.size := by have := (List.getElem?_eq_some_iff.1 hz).1; simpa using this
  have hat : At (strWorld s w) w.heap.size (.cells (bytesRow s (grownCap w s.size 0 5)) 5 ((bytesRow s (grownCap w s.size 0 5)).size, (bytesRow s (grownCap w s.size 0 5)).size + 1)) := At.new _ _
  have hg : (bytesRow s (grownCap w s.size 0 5))[i]? = some (.int .u8 (z.toNat : Int)) := by
    unfold bytesRow
    rw [Array.getElem?_append_left (by simpa using hi), Array.getElem?_map]
    have : s.data[i]? = some z := by simpa using hz
    rw [this]; rfl
  rw [show 0 + i * 1 + 0 = i by omega, At.cell hat hg]
  rfl
end Go.Proofs.Ythhgnipiaohplaa.B
