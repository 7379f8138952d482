/-
  PoolMore: with more slots there are more places, with fewer nobody is put out: one connection, any two numbers of slots.
-/
import Derived.Test.YthinceoklkjcpaaShown
import Derived.Test.YthinceoklkjcpaaLift
namespace Go.Proofs.Ythinceoklkjcpaa.More
open Go.ChangeShapes Go.WideShapes Go.ChangeAt Go.RowKit
open Go.Proofs.Ythinceoklkjcpaa.B Go.Proofs.Ythinceoklkjcpaa.Pool
set_option linter.unusedVariables false
set_option linter.unusedSimpArgs false

theorem best1 (d s u : Int) (h : u < s) : bestK [⟨d, s, u, false⟩] 1 = some 0 := by simp [bestK, okB, better, h]
theorem best1n (d s u : Int) (h : s ≤ u) : bestK [⟨d, s, u, false⟩] 1 = none := by simp [bestK, okB, better]; omega
theorem ok1 (d s u : Int) (h1 : 0 ≤ s) (h2 : s ≤ 1000) (h3 : 0 ≤ u) (h4 : u ≤ 1000) : ∀ c ∈ [(⟨d, s, u, false⟩ : Cn)], c.Ok := by
  intro c hc; simp at hc; subst hc; exact ⟨h1, by simp; omega, h3, by simp; omega⟩

set_option maxRecDepth 100000 in
set_option maxHeartbeats 4000000 in
theorem walk (a b : Int) (W : World) :
    Calls Try.prog 4 #[.int .i64 a, .int .i64 b] W fun e w' => e = .returned (.bool true) ∧ Below W.heap.size W w' := by
  obtain ⟨a0, a1⟩ := i64_and_le a 31 (by decide)
  obtain ⟨b0, b1⟩ := i64_and_le b 31 (by decide)
  rw [show ((31 : Nat) : Int) = 31 from rfl] at a0 a1 b0 b1
  obtain ⟨m, hm⟩ : ∃ m, bits .and .i64 a 31 = m := ⟨_, rfl⟩
  obtain ⟨n, hn⟩ : ∃ n, bits .and .i64 b 31 = n := ⟨_, rfl⟩
  rw [hm] at a0 a1
  rw [hn] at b0 b1
  go_enter Try.func4, Try.ntmps4
  go_wp2_with fail
  refine (shown_any _).mono ?_; rintro e w1 ⟨rfl, hb1⟩
  go_wp2_with fail
  refine (H_new 1 w1 hb1).mono ?_; rintro e w2 ⟨rfl, h2⟩
  have h2 : Has W w2 w1.heap.size 1 [] := h2
  generalize w1.heap.size = p at *
  go_wp2_with fail
  clear hm hn
  refine (H_add 5 m w2 h2 (by simp [None']) (by decide) (by decide)).mono ?_; rintro e w3 ⟨rfl, h3⟩
  have h3 : Has W w3 p 1 [⟨5, m, 0, false⟩] := by rw [show max m 0 = m from by omega] at h3; exact h3
  go_wp2_with fail
  go_loopw [7] (fun i wr => ∃ k : Int, 0 ≤ k ∧ k ≤ m ∧ i = .int .i64 k ∧ Has W wr p 1 [⟨5, m, k, false⟩]) (fun i _ => (m - intOf i).toNat)
  case atStart => exact ⟨0, by omega, a0, rfl, h3⟩
  case round =>
    obtain ⟨k, k0, hk, rfl, hh⟩ := hrel
    by_cases hlt : k < m
    · go_wp2_with fail
      refine (H_take wr hh (ok1 _ _ _ a0 (by omega) k0 (by omega)) (best1 5 m k hlt) rfl).mono ?_; rintro e w4 ⟨rfl, h4⟩
      have h4 : Has W w4 p 1 [⟨5, m, k + 1, false⟩] := h4
      go_wp2_with fail
      go_roundw
      case rel => exact ⟨k + 1, by omega, by omega, rfl, h4⟩
      case measure => simp [intOf]; omega
    · obtain rfl : k = m := by omega
      go_wp2_with fail
      refine (H_take_none wr hh (ok1 _ _ _ a0 (by omega) k0 (by omega)) (best1n 5 k k (by omega))).mono ?_; rintro e w4 ⟨rfl, h4⟩
      go_wp2_with fail
      refine (H_slots 5 n w4 h4 (first0 ⟨5, k, k, false⟩ [])).mono ?_; rintro e w5 ⟨rfl, h5⟩
      have h5 : Has W w5 p 1 [⟨5, n, k, false⟩] := by rw [show max n 0 = n from by omega] at h5; exact h5
      go_wp2_with fail
      refine (H_used 5 w5 h5 (first0 ⟨5, n, k, false⟩ [])).mono ?_; rintro e w6 ⟨rfl, rfl⟩
      go_wp2_with fail
      obtain ⟨wo, rfl⟩ : ∃ wo : World, wo = wr := ⟨_, rfl⟩
      go_loopw [12, 13] (fun c i wr => ∃ (j : Int) (c' : Int), 0 ≤ j ∧ j ≤ 40 ∧ i = .int .i64 j ∧ c = .int .i64 c' ∧ 0 ≤ c' ∧ (c' = j ∧ j ≤ max 0 (n - k) ∨ c' = max 0 (n - k) ∧ max 0 (n - k) ≤ j) ∧ Has W wr p 1 [⟨5, n, k + c', false⟩]) (fun _ i _ => (40 - intOf i).toNat)
      case atStart => exact ⟨0, 0, by omega, by omega, rfl, rfl, by omega, by omega, by simpa using h5⟩
      case round =>
        obtain ⟨j, c', j0, hj, rfl, rfl, hc0, hc, hh⟩ := hrel
        have HC := Lib.hid hc
        by_cases hlt : j < 40
        · by_cases hmore : k + c' < n
          · have hc1 : c' ≤ 40 := by omega
            clear hc
            go_wp2_with fail
            refine (H_take wr hh (ok1 _ _ _ b0 (by omega) (by omega) (by omega)) (best1 5 n (k + c') hmore) rfl).mono ?_; rintro e w7 ⟨rfl, h7⟩
            have h7 : Has W w7 p 1 [⟨5, n, k + c' + 1, false⟩] := h7
            rw [Int.add_assoc] at h7
            go_wp2_with fail
            go_roundw
            case rel => exact ⟨j + 1, c' + 1, by omega, by omega, rfl, rfl, by omega, by have := HC.out; omega, h7⟩
            case measure => simp [intOf]; omega
          · have hc1 : k + c' ≤ 1000 := by omega
            clear hc
            go_wp2_with fail
            refine (H_take_none wr hh (ok1 _ _ _ b0 (by omega) (by omega) (by omega)) (best1n 5 n (k + c') (by omega))).mono ?_; rintro e w7 ⟨rfl, h7⟩
            go_wp2_with fail
            go_roundw
            case rel => exact ⟨j + 1, c', by omega, by omega, rfl, rfl, by omega, by have := HC.out; omega, h7⟩
            case measure => simp [intOf]; omega
        · have hx : c' = max 0 (n - k) := by omega
          have e1 : (c' == max 0 (n - k)) = true := by simpa using hx
          have HX := Lib.hid hx
          have hc1 : c' ≤ 1000 := by omega
          clear hc hx
          go_wp2_with (go_at_call 13; refine (H_used 5 _ hh (first0 ⟨5, n, k + c', false⟩ [])).mono ?_; rintro e w12 ⟨rfl, rfl⟩)
          go_ret
          exact ⟨by simp, hh.below⟩

/-! ### The row's step -/
theorem own : ownKnob Try.prog.godebug = none := by kernel_rfl
theorem laid : laidOutB Try.prog = true := by kernel_rfl

set_option maxRecDepth 100000 in
theorem lifted (os : Os) (started : os.Started) (H : Type) (enc : TypeId × Value → H) :
    ReturnsInHanded {} Try.checked os 4 .any (Rows.poolMoreSpec.pre6 enc Try.prog Try.f4 Rows.poolMoreRow.domain false) (Rows.poolMoreSpec.post enc Try.prog Try.f4 false true false false) := by
  refine lift_law (C := Try.checked) (tb := 4) own started (by kernel_rfl) Try.func4
    (ChangeSpec.witness6 (enc := enc) (C := Try.checked) false ⟨#[], #[.int .i64 0, .int .i64 0], []⟩ 8 (by kernel_rfl) (by kernel_rfl) (by kernel_rfl) (by kernel_rfl))
    laid (by rw [Try.params4]; intro t ht; simp at ht; (repeat (rcases ht with rfl | ht)) <;> (try subst ht) <;> exact ⟨by kernel_rfl, of_decide_eq_true (by kernel_rfl)⟩) (by kernel_rfl) Try.underlying4 rfl
    (fun ds h => by rw [Try.params4] at h; match ds, h with | [d0, d1], _ => rfl) ?_
  intro W base args ds before hval hA hlt hsz
  rw [Try.params4] at hA hval
  have hlt0 := hlt
  obtain ⟨v0, vs0, d0, ds0, p0, q0, hargs, rfl, rfl, h0, r0⟩ := trodAll_cons hA
  obtain ⟨v1, vs1, d1, ds1, p1, q1, rfl, rfl, rfl, h1, r1⟩ := trodAll_cons r0
  obtain ⟨rfl, rfl, rfl⟩ := trodAll_nil r1
  obtain rfl : args = #[v0, v1] := by cases args; simp_all
  have l0 : ∀ p ∈ p0, p.block < W.heap.size := fun x hx => hlt x (by simp [hx])
  have l1 : ∀ p ∈ p1, p.block < W.heap.size := fun x hx => hlt x (by simp [hx])
  obtain ⟨a0, rfl, rfl, rfl, wa0⟩ := open_int Try.underlying3 (hval 0 3 v0 rfl rfl) h0
  obtain ⟨a1, rfl, rfl, rfl, wa1⟩ := open_int Try.underlying3 (hval 1 3 v1 rfl rfl) h1
  exact walk a0 a1 W

theorem over : Rows.poolMoreRow.holds Try.pinned (OpenSpec.ofChange Rows.poolMoreSpec) :=
  OpenClaim.holds_of_wide 4 Try.f4 rfl rfl rfl rfl rfl rfl rfl ⟨rfl, rfl, rfl, rfl, rfl⟩ rfl rfl rfl rfl rfl (by kernel_rfl) Try.func4 (by kernel_rfl)
    (of_decide_eq_true (by kernel_rfl)) (by unfold Func.isWrapper; first | (rw [if_pos (by decide +kernel)]; kernel_rfl) | (rw [if_neg (by decide +kernel)]; exact ⟨rfl, rfl⟩))
    (fun os started H enc _ => lifted os started H enc)

/-- The statement. -/
theorem proved : Rows.PoolMoreSaid :=
  over
#print axioms proved

end Go.Proofs.Ythinceoklkjcpaa.More
