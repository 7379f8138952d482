/-
  A head's nine octets, and what comes of them.
-/
import Derived.Test.YthhgnipiaohplaaFsn
import Derived.Test.YthhgnipiaohplaaFdr
namespace Go.Proofs.Ythhgnipiaohplaa.Fr
open Go.ChangeShapes Go.WideShapes Go.ChangeAt Go.RowKit
open Go.Proofs.Ythhgnipiaohplaa.B
set_option linter.unusedVariables false
set_option linter.unusedSimpArgs false

/-- The octets of a head. -/
def h9 (n k fl st : Nat) : List UInt8 := [UInt8.ofNat (n / 65536), UInt8.ofNat (n / 256), UInt8.ofNat n, UInt8.ofNat k, UInt8.ofNat fl, UInt8.ofNat (st / 16777216), UInt8.ofNat (st / 65536), UInt8.ofNat (st / 256), UInt8.ofNat st]
theorem h9_len (n k fl st : Nat) : (h9 n k fl st).length = 9 := rfl
theorem h9_nxt (mx : Nat) {n k fl st : Nat} (hn : n < 16777216) (hk : k < 256) (hst : st < 2147483648) (r : List UInt8) :
    nxt mx (h9 n k fl st ++ r) = if mx < n then .broken 6 else if r.length < n then .none else if strayB (k : Int) (st : Int) then .broken 1
      else outR k st (kindR k (rg0 k st (UInt8.ofNat fl) (r.take n))) (r.drop n) := by
  have h3 : threeN (UInt8.ofNat (n / 65536)) (UInt8.ofNat (n / 256)) (UInt8.ofNat n) = n := by
    unfold threeN
    simp only [UInt8.toNat_ofNat']
    omega
  have h4 : fourN (UInt8.ofNat (st / 16777216)) (UInt8.ofNat (st / 65536)) (UInt8.ofNat (st / 256)) (UInt8.ofNat st) % 2147483648 = st := by
    unfold fourN
    simp only [UInt8.toNat_ofNat']
    omega
  have hk' : (UInt8.ofNat k).toNat = k := by simp only [UInt8.toNat_ofNat']; omega
  show nxt9 mx _ _ _ _ _ _ _ _ _ r = _
  unfold nxt9
  rw [h3, h4, hk']
theorem own_lit (w : World) (l : List UInt8) (h63 : l.length ≤ maxLen) : OwnB (w.alloc (.cells (rowB l).toArray 5)) w.heap.size (.slice (some ⟨w.heap.size, 0, none⟩) l.length l.length) l :=
  ⟨by simp [rowB], Or.inr ⟨w.heap.size, l.length, (rowB l).toArray, rfl, Nat.le_refl _, At.new w _, Nat.le_refl _, h63, by simp [rowB], by simp [rowB]; exact List.take_of_length_le (by simp)⟩⟩
set_option maxRecDepth 100000 in
set_option maxHeartbeats 4000000 in
theorem head9_any (n k fl st : Nat) (hn : n < 16777216) (hk : k < 256) (hf : fl < 256) (hst : st < 2147483648) (w : World) :
    Calls Try.prog 28 #[.int .i64 n, .int .i64 k, .int .i64 fl, .int .i64 st] w fun e w' => ∃ rv, e = .returned rv ∧ OwnB w' w.heap.size rv (h9 n k fl st) ∧ Chg [] w w' := by
  have O := Lib.hid (own_lit w (h9 n k fl st) (by simp [h9, maxLen]))
  have E : Hid ((n : Int) / 65536 = ((UInt8.ofNat (n / 65536)).toNat : Int) ∧ (n : Int) / 256 % 256 = ((UInt8.ofNat (n / 256)).toNat : Int) ∧ (n : Int) % 256 = ((UInt8.ofNat (n)).toNat : Int) ∧ (k : Int) = ((UInt8.ofNat (k)).toNat : Int) ∧ (fl : Int) = ((UInt8.ofNat (fl)).toNat : Int) ∧ (st : Int) / 16777216 = ((UInt8.ofNat (st / 16777216)).toNat : Int) ∧ (st : Int) / 65536 % 256 = ((UInt8.ofNat (st / 65536)).toNat : Int) ∧ (st : Int) / 256 % 256 = ((UInt8.ofNat (st / 256)).toNat : Int) ∧ (st : Int) % 256 = ((UInt8.ofNat (st)).toNat : Int)) := Lib.hid (by
    simp only [UInt8.toNat_ofNat']
    refine ⟨?_, ?_, ?_, ?_, ?_, ?_, ?_, ?_, ?_⟩ <;> omega)
  go_enter Try.func28, Try.ntmps28
  go_wp2_with fail
  go_ret
  obtain ⟨e0, e1, e2, e3, e4, e5, e6, e7, e8⟩ := E.out
  refine ⟨_, rfl, ?_, (Chg.refl w).alloc _⟩
  rw [e0, e1, e2, e5, e6, e7, e8, e3, e4]
  exact O.out
/-! ### FrameStreams -/
theorem nxt_early {n k fl st : Nat} {body : List UInt8} (hb : body.length = n) (hn : n ≤ 16384) (hk : k < 256) (hst : st < 2147483648) :
    nxt 16384 ((h9 n k fl st ++ body).take (8 + n)) = .none := by
  rcases Nat.eq_zero_or_pos n with h0 | h0
  · rw [nxt_short]
    rw [List.length_take]; omega
  · rw [List.take_append, List.take_of_length_le (by rw [h9_len]; omega), h9_len, h9_nxt 16384 (by omega) hk hst, if_neg (by omega), if_pos]
    rw [List.length_take]; omega
theorem nxt_streams {n k fl st : Nat} {body : List UInt8} (hb : body.length = n) (hn : n ≤ 16384) (hk : k < 256) (hst : st < 2147483648) :
    (strayB (k : Int) (st : Int) = true → nxt 16384 (h9 n k fl st ++ body) = .broken 1) ∧
    (strayB (k : Int) (st : Int) = false → (∃ F, nxt 16384 (h9 n k fl st ++ body) = .frame F []) ∨ (∃ c, nxt 16384 (h9 n k fl st ++ body) = .broken c) ∨ (∃ c, nxt 16384 (h9 n k fl st ++ body) = .fault c st [] ∧ (k = 2 ∨ k = 8))) := by
  have h0 : nxt 16384 (h9 n k fl st ++ body) = if strayB (k : Int) (st : Int) then .broken 1 else outR k st (kindR k (rg0 k st (UInt8.ofNat fl) (body.take n))) (body.drop n) := by
    rw [h9_nxt 16384 (by omega) hk hst, if_neg (by omega), if_neg (by omega)]
  have hd : body.drop n = [] := List.drop_eq_nil_of_le (by omega)
  rw [h0, hd]
  refine ⟨fun h => by rw [if_pos h], fun h => ?_⟩
  rw [if_neg (by rw [h]; simp)]
  generalize kindR k (rg0 k st (UInt8.ofNat fl) (body.take n)) = R
  unfold outR
  split
  · exact Or.inl ⟨_, rfl⟩
  · split
    · rename_i h1
      refine Or.inr (Or.inr ⟨_, rfl, ?_⟩)
      unfold ownK at h1
      simp at h1
      omega
    · exact Or.inr (Or.inl ⟨_, rfl⟩)
end Go.Proofs.Ythhgnipiaohplaa.Fr
