/-
  The walks of package table: what a table is in memory; Size, fit.
-/
import Derived.Test.YtmoeioaahampaaaStat
import Derived.Test.YtmoeioaahampaaaOwnR
import Derived.Test.YtmoeioaahampaaaRows
import Derived.Laws.StructEq
namespace Go.Proofs.Ytmoeioaahampaaa.Tb
open Go.ChangeShapes Go.WideShapes Go.ChangeAt Go.RowKit
open Go.Proofs.Ytmoeioaahampaaa.B
set_option linter.unusedVariables false
set_option linter.unusedSimpArgs false

def encF (f : Fd) : List Value := [.string f.n, .string f.v, .bool f.nv]
def aF (f : Fd) : Array Value := #[.string f.n, .string f.v, .bool f.nv]
theorem encF_len (f : Fd) : (encF f).length = 3 := rfl
theorem encF_one (f : Fd) : ∀ u ∈ encF f, u.oneCell' = true := by intro u hu; simp [encF] at hu; rcases hu with rfl | rfl | rfl <;> rfl
theorem infoF : (Try.prog.info? 44).map (fun i => (i.zero, i.size, i.bytes)) = some (some (.agg #[.string ⟨#[]⟩, .string ⟨#[]⟩, .bool false]), 3, 40) := by kernel_rfl
/-- A row of fields of one's own. -/
abbrev OwnF (w : World) (base : Nat) (v : Value) (l : List Fd) : Prop := OwnR 44 3 encF w base v l
/-- A slice that reads as these fields. -/
abbrev FdsOf (w : World) (v : Value) (l : List Fd) : Prop := SliceOf w v 3 encF l
theorem OwnF.sl {w : World} {base : Nat} {v : Value} {l : List Fd} (h : OwnF w base v l) : FdsOf w v l := OwnR.sl encF_len (by decide) h
theorem FdsOf.cells {w : World} {a : Option Addr} {n cap : Nat} {l : List Fd} (h : FdsOf w (.slice a n cap) l) (h0 : 0 < l.length) :
    ∃ b off, a = some ⟨b, off, none⟩ ∧ b < w.heap.size ∧ ∀ i f, l[i]? = some f → w.cell? ⟨b, off + i * 3, none⟩ = some (.string f.n) ∧ w.cell? ⟨b, off + i * 3 + 1, none⟩ = some (.string f.v) ∧ w.cell? ⟨b, off + i * 3 + 2, none⟩ = some (.bool f.nv) := by
  obtain ⟨b, off, rfl, hb, hc⟩ := h.at h0
  exact ⟨b, off, rfl, hb, fun i f hf => ⟨hc i f hf 0 (by omega), hc i f hf 1 (by omega), hc i f hf 2 (by omega)⟩⟩

/-- A table in memory: its head at block p, its entries (the oldest first). -/
structure TT (w : World) (base p : Nat) (sv : Value) (m : Nat) (es : List Fd) : Prop where
  head : At w p (.cells #[sv, .int .i64 (tot es), .int .i64 m] 94 (0, 0))
  row : OwnF w base sv es
  m : m ≤ 65536
  t : tot es ≤ 65536
  lo : base ≤ p
  nd : ∀ g, sv.ownBlock = some g → g ≠ p
def foot (p : Nat) (sv : Value) : List Nat := p :: sv.ownBlock.toList
section
variable {w w' : World} {base p : Nat} {sv : Value} {m : Nat} {es : List Fd}
theorem TT.chg {l : List Nat} (h : TT w base p sv m es) (hc : Chg l w w') (hd : ∀ x ∈ foot p sv, x ∉ l) : TT w' base p sv m es :=
  ⟨h.head.chg hc (hd p (by simp [foot])), h.row.chg hc (fun g hg => hd g (by simp [foot, hg])), h.m, h.t, h.lo, h.nd⟩
theorem TT.drewN (h : TT w base p sv m es) (n : Nat) : TT (w.drewN n) base p sv m es := ⟨h.head, h.row, h.m, h.t, h.lo, h.nd⟩
theorem TT.foot_lo (h : TT w base p sv m es) : ∀ x ∈ foot p sv, base ≤ x := by
  intro x hx
  rcases List.mem_cons.1 hx with rfl | hx
  · exact h.lo
  · exact h.row.lo x hx
theorem TT.foot_lt (h : TT w base p sv m es) : ∀ x ∈ foot p sv, x < w.heap.size := by
  intro x hx
  rcases List.mem_cons.1 hx with rfl | hx
  · exact h.head.lt
  · exact h.row.lt x hx
theorem TT.len (h : TT w base p sv m es) : es.length ≤ 2048 := by have := tot_len es; have := h.t; omega
theorem TT.sz (h : TT w base p sv m es) {f : Fd} (hf : f ∈ es) : f.sz ≤ 65536 := by have := tot_mem hf; have := h.t; omega
end

set_option maxHeartbeats 1000000 in
theorem size_any (f : Fd) (w : World) (h : f.sz ≤ 9223372036854775807) :
    Calls Try.prog 41 #[.agg (aF f)] w fun e w' => e = .returned (.int .i64 f.sz) ∧ w' = w.alloc (.cells #[.string f.n, .string f.v, .bool f.nv] 44) := by
  unfold aF Fd.sz at *
  go_enter Try.func41, Try.ntmps41
  go_wp2_with fail
  go_ret
  exact ⟨by first | rfl | (congr 2; omega), rfl⟩
end Go.Proofs.Ytmoeioaahampaaa.Tb
