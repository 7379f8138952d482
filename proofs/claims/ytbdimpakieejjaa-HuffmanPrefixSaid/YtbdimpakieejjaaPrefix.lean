/-
  HuffmanPrefix: no code begins another one, and all codes together leave no room: any two symbols.
-/
import Derived.Test.YtbdimpakieejjaaShown
namespace Go.Proofs.Ytbdimpakieejjaa.Prefix
open Go.ChangeShapes Go.WideShapes Go.ChangeAt Go.RowKit
open Go.Proofs.Ytbdimpakieejjaa.B Go.Proofs.Ytbdimpakieejjaa.Hf
set_option linter.unusedVariables false
set_option linter.unusedSimpArgs false

theorem code_prefix {a b : Nat} (ha : a < 257) (hb : b < 257) (hl : len a ≤ len b) (h : code b / 2 ^ (len b - len a) = code a) : a = b := by
  have h1 : (cb b).take (len a) = cb a := by
    apply val_inj
    · rw [List.length_take, cb_length, cb_length]; omega
    · rw [val_take _ _ (by rw [cb_length]; exact hl), cb_length, val_cb hb, val_cb ha, h]
  have h2 : cb a ++ (cb b).drop (len a) = cb b ++ [] := by rw [← h1, List.take_append_drop, List.append_nil]
  exact (cb_inj ha hb h2).1
def room : Nat → Nat
  | 0 => 0
  | s + 1 => room s + 2 ^ (30 - len s)
def roomL : Nat → Nat × Nat
  | 0 => (0, 0)
  | s + 1 => let r := roomL s; (r.1 + 2 ^ (30 - len s), max r.2 (r.1 + 2 ^ (30 - len s)))
theorem roomL_fst (s : Nat) : (roomL s).1 = room s := by
  induction s with
  | zero => rfl
  | succ s ih => simp [roomL, room, ih]
theorem room_end : room 257 = 1073741824 := by rw [← roomL_fst]; decide +kernel
theorem room_mono (s k : Nat) : room s ≤ room (s + k) := by
  induction k with
  | zero => exact Nat.le_refl _
  | succ k ih => exact Nat.le_trans ih (Nat.le_add_right _ _)
theorem room_le {s : Nat} (h : s ≤ 257) : room s ≤ 1073741824 := by
  have := room_mono s (257 - s)
  rw [show s + (257 - s) = 257 by omega, room_end] at this
  exact this
theorem mask16 (n : Int) : ∃ A : Nat, Go.bits .and .i64 n 65535 = (A : Int) ∧ A < 65536 := by
  have h : 0 ≤ Go.bits .and .i64 n 65535 ∧ Go.bits .and .i64 n 65535 ≤ 65535 := i64_and_le n 65535 (by decide)
  exact ⟨(Go.bits .and .i64 n 65535).toNat, by omega, by omega⟩
set_option maxRecDepth 100000 in
set_option maxHeartbeats 4000000 in
theorem walk (a0 b0 : Int) (W : World) :
    Calls Try.prog 6 #[.int .i64 a0, .int .i64 b0] W fun e w' => e = .returned (.bool true) ∧ Below W.heap.size W w' := by
  obtain ⟨A, hA, hA6⟩ := mask16 a0
  obtain ⟨D, hD, hD6⟩ := mask16 b0
  obtain ⟨a, ha⟩ : ∃ a, a = A % 257 := ⟨_, rfl⟩
  obtain ⟨b, hb⟩ : ∃ b, b = D % 257 := ⟨_, rfl⟩
  have ea : (A : Int) % 257 = (a : Int) := by omega
  have eb : (D : Int) % 257 = (b : Int) := by omega
  have ha7 : a < 257 := by omega
  have hb7 : b < 257 := by omega
  obtain ⟨a1, a2, _⟩ := of_sym ha7
  obtain ⟨b1, b2, _⟩ := of_sym hb7
  have ca := code_lt ha7
  have cb' := code_lt hb7
  have pa := two_pow_le a2
  have pb := two_pow_le b2
  have hpre := @code_prefix a b ha7 hb7
  have hma : len a ≤ 30 ∧ 1 ≤ len a := by omega
  obtain ⟨n, hn⟩ : ∃ n, n = len a := ⟨_, rfl⟩
  obtain ⟨m, hm⟩ : ∃ m, m = len b := ⟨_, rfl⟩
  obtain ⟨c, hc⟩ : ∃ c, c = code a := ⟨_, rfl⟩
  obtain ⟨d, hd⟩ : ∃ d, d = code b := ⟨_, rfl⟩
  rw [← hn] at a1 a2 ca pa hpre
  rw [← hm] at b1 b2 cb' pb hpre
  rw [← hc] at ca hpre
  rw [← hd] at cb' hpre
  have hc9 : c < 1073741824 := by omega
  have hd9 : d < 1073741824 := by omega
  have HN := Lib.hid hn; have HM := Lib.hid hm; have HC := Lib.hid hc; have HD := Lib.hid hd; have HP := Lib.hid hpre; have HA := Lib.hid ha; have HB := Lib.hid hb
  clear ca cb' pa pb hpre hn hm hc hd ha hb hma
  go_enter Try.func6, Try.ntmps6
  go_wp2_with fail
  refine (shown_any _).mono ?_; rintro e w1 ⟨rfl, c1⟩
  go_wp2_with fail
  refine (code_ok a ha7 _).mono ?_; rintro e w2 ⟨he, c2⟩; rw [← HC.out, ← HN.out] at he; subst he
  have c2' := c1.trans' c2
  clear c1 c2
  go_wp2_with fail
  refine (code_ok b hb7 _).mono ?_; rintro e w3 ⟨he, c3⟩; rw [← HD.out, ← HM.out] at he; subst he
  have c3' := c2'.trans' c3
  clear c2' c3
  go_wp2_with fail
  go_loopw [10, 11] (fun rv sv wr => ∃ s R : Nat, s ≤ 257 ∧ sv = .int .i64 s ∧ R = room s ∧ rv = .int .u64 R ∧ Chg [] W wr) (fun _ sv _ => 257 - (intOf sv).toNat)
  case atStart => exact ⟨0, 0, by omega, rfl, rfl, rfl, c3'⟩
  case round =>
    clear c3'
    obtain ⟨s, R, hs, rfl, hR, rfl, hch⟩ := hrel
    by_cases hlt : s < 257
    · obtain ⟨k1, k2, _⟩ := of_sym hlt
      have hR2 := room_le (show s + 1 ≤ 257 by omega)
      have hsucc : room (s + 1) = room s + 2 ^ (30 - len s) := rfl
      obtain ⟨k, hk⟩ : ∃ k, k = len s := ⟨_, rfl⟩
      rw [← hk] at k1 k2 hsucc
      rw [hsucc, ← hR] at hR2
      obtain ⟨P, hP⟩ : ∃ P, P = 2 ^ (30 - k) := ⟨_, rfl⟩
      have eP : (2 : Int) ^ (30 - k) = (P : Int) := by rw [hP]; simp
      rw [← hP] at hR2
      have HK := Lib.hid hk; have HR := Lib.hid hR; have HS := Lib.hid hsucc; have HPP := Lib.hid hP
      clear hk hR hsucc hP
      go_wp2_with fail
      refine (code_ok s hlt _).mono ?_; rintro e w4 ⟨he, c4⟩; rw [← HK.out] at he; subst he
      have hch2 := hch.trans' c4
      clear hch c4
      go_wp2_with fail
      go_roundw
      case rel => exact ⟨s + 1, R + P, by omega, by go_num, by rw [HS.out, HR.out, HPP.out], by go_num, hch2⟩
      case measure => simp [intOf]; omega
    · obtain rfl : s = 257 := by omega
      rw [room_end] at hR
      subst hR
      by_cases hnm : n ≤ m
      · by_cases hab : a = b
        · have e1 : ((a : Int) != b) = false := by simp [hab]
          have HAB := Lib.hid hab
          clear hab
          go_wp2_with fail
          go_ret
          exact ⟨rfl, hch.below_nil⟩
        · have e1 : ((a : Int) != b) = true := by simp [bne]; omega
          have hne : ¬ d / 2 ^ (m - n) = c := fun h => hab (HP.out hnm h)
          have e2 : ((d : Int) / 2 ^ (m - n) == c) = false := by
            have : ((d : Int) / 2 ^ (m - n)) = ((d / 2 ^ (m - n) : Nat) : Int) := by simp
            rw [this]; simp; omega
          have HNE := Lib.hid hne; have HAB := Lib.hid hab
          clear hne hab
          go_wp2_with fail
          go_ret
          exact ⟨rfl, hch.below_nil⟩
      · go_wp2_with fail
        go_ret
        exact ⟨rfl, hch.below_nil⟩

/-! ### The row's step -/
theorem own : ownKnob Try.prog.godebug = none := by kernel_rfl
theorem laid : laidOutB Try.prog = true := by kernel_rfl

set_option maxRecDepth 100000 in
theorem lifted (os : Os) (started : os.Started) (H : Type) (enc : TypeId × Value → H) :
    ReturnsInHanded {} Try.checked os 6 .any (Rows.huffmanPrefixSpec.pre6 enc Try.prog Try.f6 Rows.huffmanPrefixRow.domain false) (Rows.huffmanPrefixSpec.post enc Try.prog Try.f6 false true false false) := by
  refine lift_law (C := Try.checked) (tb := 4) own started (by kernel_rfl) Try.func6
    (ChangeSpec.witness6 (enc := enc) (C := Try.checked) false ⟨#[], #[.int .i64 0, .int .i64 0], []⟩ 8 (by kernel_rfl) (by kernel_rfl) (by kernel_rfl) (by kernel_rfl))
    laid (by rw [Try.params6]; intro t ht; simp only [List.mem_cons, List.not_mem_nil, or_false] at ht; rcases ht with rfl | rfl <;> exact ⟨by kernel_rfl, of_decide_eq_true (by kernel_rfl)⟩) (by kernel_rfl) Try.underlying4 rfl
    (fun ds h => by rw [Try.params6] at h; match ds, h with | [d0, d1], _ => rfl) ?_
  intro W base args ds before hval hA hlt hsz
  rw [Try.params6] at hA hval
  have hlt0 := hlt
  obtain ⟨v0, vs0, d0, ds0, p0, q0, hargs, rfl, rfl, h0, r0⟩ := trodAll_cons hA
  obtain ⟨v1, vs1, d1, ds1, p1, q1, rfl, rfl, rfl, h1, r1⟩ := trodAll_cons r0
  obtain ⟨rfl, rfl, rfl⟩ := trodAll_nil r1
  obtain rfl : args = #[v0, v1] := by cases args; simp_all
  have l0 : ∀ p ∈ p0, p.block < W.heap.size := fun x hx => hlt x (by simp [hx])
  have l1 : ∀ p ∈ p1, p.block < W.heap.size := fun x hx => hlt x (by simp [hx])
  obtain ⟨a0, rfl, rfl, rfl, wa0⟩ := open_int Try.underlying3 (hval 0 3 v0 rfl rfl) h0
  obtain ⟨a1, rfl, rfl, rfl, wa1⟩ := open_int Try.underlying3 (hval 1 3 v1 rfl rfl) h1
  exact walk a0 a1 W

theorem over : Rows.huffmanPrefixRow.holds Try.pinned (OpenSpec.ofChange Rows.huffmanPrefixSpec) :=
  OpenClaim.holds_of_wide 6 Try.f6 rfl rfl rfl rfl rfl rfl rfl ⟨rfl, rfl, rfl, rfl, rfl⟩ rfl rfl rfl rfl rfl (by kernel_rfl) Try.func6 (by kernel_rfl)
    (of_decide_eq_true (by kernel_rfl)) (by unfold Func.isWrapper; first | (rw [if_pos (by decide +kernel)]; kernel_rfl) | (rw [if_neg (by decide +kernel)]; exact ⟨rfl, rfl⟩))
    (fun os started H enc _ => lifted os started H enc)

/-- The statement. -/
theorem proved : Rows.HuffmanPrefixSaid :=
  over
#print axioms proved

end Go.Proofs.Ytbdimpakieejjaa.Prefix
