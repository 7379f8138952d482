/-
  slices.Chunk over octets, by sixes: its iterator's contract.
-/
import Derived.Test.YthhgnipiaohplaaFry
import Derived.Test.YthhgnipiaohplaaRound
import Derived.Shelf.RegionOpen
namespace Go.Proofs.Ythhgnipiaohplaa.Fr
open Go.ChangeShapes Go.WideShapes Go.ChangeAt Go.RowKit
open Go.Proofs.Ythhgnipiaohplaa.B Go.Shelf
set_option linter.unusedVariables false
set_option linter.unusedSimpArgs false
attribute [local go_sem] Oper.semAt_some

/-- What the iterator reads between two rounds. -/
def KpC (Bs Bn : Nat) (W W' : World) : Prop := W'.heap[Bs]? = W.heap[Bs]? ∧ W'.heap[Bn]? = W.heap[Bn]?
theorem KpC.cell {Bs Bn : Nat} {W W' : World} (h : KpC Bs Bn W W') : W'.cell? ⟨Bs, 0, none⟩ = W.cell? ⟨Bs, 0, none⟩ ∧ W'.cell? ⟨Bn, 0, none⟩ = W.cell? ⟨Bn, 0, none⟩ := by
  unfold World.cell?; simp only; rw [h.1, h.2]; exact ⟨rfl, rfl⟩
theorem KpC.trans {Bs Bn : Nat} {A B C : World} (h : KpC Bs Bn A B) (k : KpC Bs Bn B C) : KpC Bs Bn A C := ⟨k.1.trans h.1, k.2.trans h.2⟩
def fins (m k : Nat) : List (Fin m) := (List.finRange m).take k
theorem fins_len {m k : Nat} (h : k ≤ m) : (fins m k).length = k := by simp [fins]; omega
theorem fins_succ {m k : Nat} (h : k < m) : fins m (k + 1) = fins m k ++ [⟨k, h⟩] := by
  unfold fins
  rw [List.take_add_one]
  congr 1
  simp [h]
theorem fins_all (m : Nat) : fins m m = List.finRange m := by
  unfold fins
  rw [List.take_of_length_le (by simp)]
def chunkV (b off m : Nat) (x : Fin m) : Value := .slice (some ⟨b, off + 6 * x.val, none⟩) 6 6
set_option maxRecDepth 100000 in
set_option maxHeartbeats 4000000 in
theorem chunk1_in (n : Nat) (hn : 1 ≤ n) (l Bs Bn b off m cap : Nat) (a : Option Addr) (ha : 0 < m → a = some ⟨b, off, none⟩) (hcap : 6 * m ≤ cap) (hc2 : cap ≤ 9223372036854775807) (hm : m ≤ 100000000) (J Jx : List (Fin m) → World → Prop)
    (hY : ∀ pre x W, J pre W → pre.length < m → YieldAt Fence.wide (n - 1) Try.prog l #[chunkV b off m x] W fun e W' =>
      (e = .returned (.bool true) ∧ J (pre ++ [x]) W' ∧ KpC Bs Bn W W') ∨ (e = .returned (.bool false) ∧ Jx (pre ++ [x]) W'))
    (hJ : ∀ pre W, J pre W → J pre W.drew)
    (W : World) (hBs : W.cell? ⟨Bs, 0, none⟩ = some (.slice a (6 * m) cap)) (hBn : W.cell? ⟨Bn, 0, none⟩ = some (.int .i64 6)) (h0 : J [] W) :
    CallsIn Fence.wide n Try.prog 73 #[.func (.yield l) #[] #[], .pointer (some ⟨Bs, 0, none⟩), .pointer (some ⟨Bn, 0, none⟩)] W fun e W' => (∃ v, e = .returned v) ∧
      ((∃ ys, ys = List.finRange m ∧ J ys W') ∨ (∃ pre, True ∧ Jx pre W')) := by
  refine callsIn_of_wp Try.func73 rfl trivial ?_ rfl
  simp only [Try.ntmps73, List.size_toArray, List.length_cons, List.length_nil, Nat.reduceAdd, Nat.reduceSub, Array.replicate_succ, Array.replicate_zero, List.push_toArray, List.append_toArray, List.nil_append, List.cons_append]
  gi_wp2
  gi_loopw [4] (fun i wr => ∃ k : Nat, k ≤ m ∧ i = .int .i64 ((6 * k : Nat) : Int) ∧ J (fins m k) wr ∧ KpC Bs Bn W wr)
    (fun i _ => 6 * m - (intOf i).toNat)
  case atStart => exact ⟨0, Nat.zero_le _, rfl, by simpa [fins] using h0, rfl, rfl⟩
  case round =>
    obtain ⟨k, hk, rfl, hJs, hkp⟩ := hrel
    have y1 : wr.cell? ⟨Bs, 0, none⟩ = some (.slice a (6 * m) cap) := (hkp.cell).1.trans hBs
    have y2 : wr.cell? ⟨Bn, 0, none⟩ = some (.int .i64 6) := (hkp.cell).2.trans hBn
    by_cases hlt : k < m
    · obtain rfl := ha (by omega)
      have g1 : ((6 * k : Nat) : Int) < ((6 * m : Nat) : Int) := by omega
      have g2 : min (6 : Int) ((6 * m : Nat) - (6 * k : Nat) : Int) = 6 := by omega
      have g3 : min (6 : Int) (6 * (m : Int) - 6 * (k : Int)) = 6 := by omega
      have g4 : ¬ cap - 6 * k = 0 := by omega
      gi_wp2
      gi_region
      have g5 : min (6 : Int) ((6 * m - 6 * k : Nat) : Int) = 6 := by omega
      simp only [g5]
      obtain ⟨fn, tmps, assign, body, hy, hR⟩ := hY _ ⟨k, hlt⟩ wr.drew (hJ _ _ hJs) (by rw [fins_len hk]; exact hlt)
      dsimp only [chunkV] at hy
      have kp2 : KpC Bs Bn W wr.drew := hkp
      clear hJs hkp g2 g3 g5
      generalize wr.drew = w2 at *
      have y3 : w2.cell? ⟨Bs, 0, none⟩ = some (.slice (some ⟨b, off, none⟩) (6 * m) cap) := (kp2.cell).1.trans hBs
      have w1 : wrap64 (6 * (k : Int) + 6) = 6 * (k : Int) + 6 := by unfold wrap64; omega
      gi_wp2
      refine hR.mono ?_
      rintro e W3 (⟨rfl, hJ3, hk3⟩ | ⟨rfl, hJx3⟩)
      · have z2 : W3.cell? ⟨Bn, 0, none⟩ = some (.int .i64 6) := ((kp2.trans hk3).cell).2.trans hBn
        gi_wp2
        go_roundw
        case rel => exact ⟨k + 1, by omega, by go_num, by rw [fins_succ hlt]; exact hJ3, kp2.trans hk3⟩
        case measure => simp [intOf]; omega
      · gi_wp2
        refine bodyPost_ret (results_none rfl _ _ _) rfl ?_
        exact ⟨⟨_, rfl⟩, .inr ⟨_, trivial, hJx3⟩⟩
    · obtain rfl : k = m := by omega
      gi_wp2
      go_end0
      exact ⟨⟨_, rfl⟩, .inl ⟨_, rfl, by rw [← fins_all]; exact hJs⟩⟩
theorem KpC.below {Bs Bn B : Nat} {W W' : World} (h : Below B W W') (h1 : Bs < B) (h2 : Bn < B) : KpC Bs Bn W W' := ⟨h.block _ h1, h.block _ h2⟩
theorem chunk_stops (n : Nat) (hn : 1 ≤ n) (Bs Bn b off m cap : Nat) (a : Option Addr) (ha : 0 < m → a = some ⟨b, off, none⟩) (hcap : 6 * m ≤ cap) (hc2 : cap ≤ 9223372036854775807) (hm : m ≤ 100000000)
    (w : World) (hBs : At w Bs (.cells #[.slice a (6 * m) cap] 22 (0, 0))) (hBn : At w Bn (.cells #[.int .i64 6] 3 (0, 0))) :
    SeqStopsK Fence.wide n Try.prog 73 #[.pointer (some ⟨Bs, 0, none⟩), .pointer (some ⟨Bn, 0, none⟩)] (fun x : Fin m => #[chunkV b off m x]) (KpC Bs Bn) (fun ys => ys = List.finRange m) (fun _ => True) m w := by
  intro l J Jx W hW hJ hJx hY h0
  exact chunk1_in n hn l Bs Bn b off m cap a ha hcap hc2 hm J Jx hY (fun pre W1 h => hJ pre W1 W1.drew none h ⟨rfl, rfl, rfl, Nat.le_refl _, fun _ _ _ => rfl⟩ (fun r e => by cases e)) W ((hBs.below hW hBs.lt).cell rfl) ((hBn.below hW hBn.lt).cell rfl) h0
set_option maxRecDepth 100000 in
set_option maxHeartbeats 4000000 in
theorem chunk_any (v : Value) (hv : ∃ a n c, v = .slice a n c) (w : World) :
    Calls Try.prog 71 #[v, .int .i64 6] w fun e w' => e = .returned (.func (.func 73) #[] #[.pointer (some ⟨w.heap.size, 0, none⟩), .pointer (some ⟨w.heap.size + 1, 0, none⟩)]) ∧ w' = (w.alloc (.cells #[v] 22)).alloc (.cells #[.int .i64 6] 3) := by
  obtain ⟨a, n, c, rfl⟩ := hv
  go_enter Try.func71, Try.ntmps71
  go_wp2_with fail
  go_ret
  exact ⟨rfl, rfl⟩
end Go.Proofs.Ythhgnipiaohplaa.Fr
