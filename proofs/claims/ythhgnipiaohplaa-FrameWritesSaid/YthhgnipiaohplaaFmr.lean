/-
  What is written is read as it was.
-/
import Derived.Test.YthhgnipiaohplaaFmw
namespace Go.Proofs.Ythhgnipiaohplaa.Fr
open Go.ChangeShapes Go.WideShapes Go.ChangeAt Go.RowKit
open Go.Proofs.Ythhgnipiaohplaa.B
set_option linter.unusedVariables false
set_option linter.unusedSimpArgs false

theorem data_wr (st pad : Nat) (fl : UInt8) (pay : List UInt8) (hp : pad ≤ 256) (hb : bitB fl 3 = decide (0 < pad)) :
    ∃ l', dataR (rg0 0 st fl (padH pad ++ (pay ++ padT pad))) = ⟨{ fm0 0 st with fin := bitB fl 0, pad := (pad : Nat), pay := pay }, fl, l', pad, 0⟩ := by
  unfold dataR
  obtain ⟨h1, h2⟩ := opened_pad (R := { rg0 0 st fl (padH pad ++ (pay ++ padT pad)) with F := { (rg0 0 st fl (padH pad ++ (pay ++ padT pad))).F with fin := bitB (rg0 0 st fl (padH pad ++ (pay ++ padT pad))).fl 0 } }) (n := 0) (p := pad) (m := pay ++ padT pad) hp hb rfl (by omega) rfl
  rw [h1, if_pos rfl, h2]
  obtain ⟨l', h3⟩ := closed_pad (R := { rg0 0 st fl (padH pad ++ (pay ++ padT pad)) with F := { (rg0 0 st fl (padH pad ++ (pay ++ padT pad))).F with fin := bitB (rg0 0 st fl (padH pad ++ (pay ++ padT pad))).fl 0 }, pad := pad, l := pay ++ padT pad }) (pay := pay) rfl rfl
  rw [h3]
  exact ⟨l', rfl⟩
theorem heads_wr (st pad : Nat) (fl : UInt8) (pay : List UInt8) (hp : pad ≤ 256) (hb : bitB fl 3 = decide (0 < pad)) (h5 : bitB fl 5 = false) :
    ∃ l', headersR (rg0 1 st fl (padH pad ++ (pay ++ padT pad))) = ⟨{ fm0 1 st with fin := bitB fl 0, eh := bitB fl 2, prio := false, pad := (pad : Nat), pay := pay }, fl, l', pad, 0⟩ := by
  have e : headers1 (rg0 1 st fl (padH pad ++ (pay ++ padT pad))) = ⟨{ fm0 1 st with fin := bitB fl 0, eh := bitB fl 2, prio := false }, fl, padH pad ++ (pay ++ padT pad), 0, 0⟩ := by
    unfold headers1 rg0; rw [h5]
  have n0 : headersN (rg0 1 st fl (padH pad ++ (pay ++ padT pad))) = 0 := by
    unfold headersN rg0; rw [h5]; rfl
  have f5 : bitB (rg0 1 st fl (padH pad ++ (pay ++ padT pad))).fl 5 = false := h5
  unfold headersR
  rw [n0, e, f5]
  obtain ⟨h1, h2⟩ := opened_pad (R := ⟨{ fm0 1 st with fin := bitB fl 0, eh := bitB fl 2, prio := false }, fl, padH pad ++ (pay ++ padT pad), 0, 0⟩) (n := 0) (p := pad) (m := pay ++ padT pad) hp hb rfl (by omega) rfl
  rw [h1, if_pos rfl, h2, if_neg (by simp)]
  obtain ⟨l', h3⟩ := closed_pad (R := ⟨{ fm0 1 st with fin := bitB fl 0, eh := bitB fl 2, prio := false }, fl, pay ++ padT pad, pad, 0⟩) (pay := pay) rfl rfl
  rw [h3]
  exact ⟨l', rfl⟩
theorem prio_read {d wt : Nat} {x : Bool} (h3 : d ≤ 2147483647) (h4 : 1 ≤ wt ∧ wt ≤ 256) (F : Fm) (fl : UInt8) (m : List UInt8) (pad code : Nat) :
    weighR ⟨F, fl, prioO d x wt ++ m, pad, code⟩ = ⟨{ F with depend := (d : Nat), excl := x, weight := (wt : Nat) }, fl, m, pad, code⟩ := by
  obtain ⟨v, hv⟩ : ∃ v, v = d + if x then 2147483648 else 0 := ⟨_, rfl⟩
  have hv1 : v < 4294967296 := by rw [hv]; split <;> omega
  have e : prioO d x wt ++ m = UInt8.ofNat (v / 16777216) :: UInt8.ofNat (v / 65536) :: UInt8.ofNat (v / 256) :: UInt8.ofNat v :: UInt8.ofNat (wt - 1) :: m := by
    unfold prioO; rw [← hv, be4]; rfl
  rw [e]
  show weighedR _ _ _ _ _ _ _ = _
  unfold weighedR
  have f4 := four_be hv1
  have hw : (UInt8.ofNat (wt - 1)).toNat + 1 = wt := by simp only [UInt8.toNat_ofNat']; omega
  rw [f4, hw]
  have hd : v % 2147483648 = d := by rw [hv]; split <;> omega
  have hx : (v / 2147483648 == 1) = x := by
    cases x with
    | true =>
      have : v / 2147483648 = 1 := by simp at hv; omega
      rw [this]; rfl
    | false =>
      have : v / 2147483648 = 0 := by simp at hv; omega
      rw [this]; rfl
  rw [hd, hx]
theorem prioO_len (d : Nat) (x : Bool) (wt : Nat) : (prioO d x wt).length = 5 := by unfold prioO; rw [be4]; rfl
theorem headp_wr (st pad d wt : Nat) (x : Bool) (fl : UInt8) (pay : List UInt8) (hp : pad ≤ 256) (hb : bitB fl 3 = decide (0 < pad)) (h5 : bitB fl 5 = true) (h3 : d ≤ 2147483647) (h4 : 1 ≤ wt ∧ wt ≤ 256) :
    ∃ l', headersR (rg0 1 st fl (padH pad ++ (prioO d x wt ++ (pay ++ padT pad)))) = ⟨{ fm0 1 st with fin := bitB fl 0, eh := bitB fl 2, prio := true, pad := (pad : Nat), pay := pay, depend := (d : Nat), excl := x, weight := (wt : Nat) }, fl, l', pad, 0⟩ := by
  obtain ⟨L, hL⟩ : ∃ L, L = padH pad ++ (prioO d x wt ++ (pay ++ padT pad)) := ⟨_, rfl⟩
  rw [← hL]
  have e : headers1 (rg0 1 st fl L) = ⟨{ fm0 1 st with fin := bitB fl 0, eh := bitB fl 2, prio := true }, fl, L, 0, 0⟩ := by
    unfold headers1 rg0; rw [h5]
  have n0 : headersN (rg0 1 st fl L) = 5 := by
    unfold headersN rg0; rw [h5]; rfl
  have f5 : bitB (rg0 1 st fl L).fl 5 = true := h5
  unfold headersR
  rw [n0, e, f5]
  obtain ⟨h1, h2⟩ := opened_pad (R := ⟨{ fm0 1 st with fin := bitB fl 0, eh := bitB fl 2, prio := true }, fl, L, 0, 0⟩) (n := 5) (p := pad) (m := prioO d x wt ++ (pay ++ padT pad)) hp hb hL (by rw [List.length_append, prioO_len]; omega) rfl
  rw [h1, if_pos rfl, h2, if_pos rfl]
  have h6 := prio_read (x := x) h3 h4 { fm0 1 st with fin := bitB fl 0, eh := bitB fl 2, prio := true } fl (pay ++ padT pad) pad 0
  rw [h6]
  obtain ⟨l', h3⟩ := closed_pad (R := ⟨{ fm0 1 st with fin := bitB fl 0, eh := bitB fl 2, prio := true, depend := (d : Nat), excl := x, weight := (wt : Nat) }, fl, pay ++ padT pad, pad, 0⟩) (pay := pay) rfl rfl
  rw [h3]
  exact ⟨l', rfl⟩
theorem prom_wr (st pad last : Nat) (fl : UInt8) (pay : List UInt8) (hp : pad ≤ 256) (hb : bitB fl 3 = decide (0 < pad)) (h3 : StB last) :
    ∃ l', promiseR (rg0 5 st fl (padH pad ++ (be last 4 ++ (pay ++ padT pad)))) = ⟨{ fm0 5 st with eh := bitB fl 2, pad := (pad : Nat), pay := pay, last := (last : Nat) }, fl, l', pad, 0⟩ := by
  obtain ⟨L, hL⟩ : ∃ L, L = padH pad ++ (be last 4 ++ (pay ++ padT pad)) := ⟨_, rfl⟩
  rw [← hL]
  unfold promiseR
  have e : ({ rg0 5 st fl L with F := { (rg0 5 st fl L).F with eh := bitB (rg0 5 st fl L).fl 2 } } : Rg) = ⟨{ fm0 5 st with eh := bitB fl 2 }, fl, L, 0, 0⟩ := rfl
  rw [e]
  obtain ⟨h1, h2⟩ := opened_pad (R := ⟨{ fm0 5 st with eh := bitB fl 2 }, fl, L, 0, 0⟩) (n := 4) (p := pad) (m := be last 4 ++ (pay ++ padT pad)) hp hb hL (by rw [len4_be]; omega) rfl
  rw [h1, if_pos rfl, h2]
  obtain ⟨h5, h6⟩ := h3
  have h7 : promise1 ⟨{ fm0 5 st with eh := bitB fl 2 }, fl, be last 4 ++ (pay ++ padT pad), pad, 0⟩ = closedR ⟨{ fm0 5 st with eh := bitB fl 2, last := (last : Nat) }, fl, pay ++ padT pad, pad, 0⟩ := by
    unfold promise1
    simp only
    rw [get4_be (by omega), drop4_be, Nat.mod_eq_of_lt (by omega)]
  rw [h7]
  obtain ⟨l', h8⟩ := closed_pad (R := ⟨{ fm0 5 st with eh := bitB fl 2, last := (last : Nat) }, fl, pay ++ padT pad, pad, 0⟩) (pay := pay) rfl rfl
  rw [h8]
  rw [if_neg (by
    intro hh
    have h9 := hh.2
    simp only at h9
    omega)]
  exact ⟨l', rfl⟩
/-- Of a frame that may be, its octets say it. -/
theorem read_wr {F : Fm} (h : May F) : (kindR F.kind.toNat (rg0 F.kind.toNat F.stream.toNat (UInt8.ofNat (flagsF F)) (bodyF F))).code = 0 ∧ (kindR F.kind.toNat (rg0 F.kind.toNat F.stream.toNat (UInt8.ofNat (flagsF F)) (bodyF F))).F = F := by
  cases h with
  | data st pad fin pay h1 h2 =>
    have hfl : flagsF ⟨0, (st : Nat), fin, false, false, false, pay, 0, (pad : Nat), 0, false, 0, 0, [], 0, 0⟩ = flg fin false (decide (0 < pad)) false := by simp [flagsF, flg]
    have hbd : bodyF ⟨0, (st : Nat), fin, false, false, false, pay, 0, (pad : Nat), 0, false, 0, 0, [], 0, 0⟩ = padH pad ++ (pay ++ padT pad) := by simp [bodyF, midF]
    obtain ⟨g1, g2, g3, g4⟩ := flg_bits fin false (decide (0 < pad)) false
    obtain ⟨l', h3⟩ := data_wr st pad (UInt8.ofNat (flg fin false (decide (0 < pad)) false)) pay h2 g3
    rw [hfl, hbd]
    show (dataR (rg0 0 (st : Int).toNat _ _)).code = 0 ∧ (dataR (rg0 0 (st : Int).toNat _ _)).F = _
    rw [Int.toNat_natCast, h3, g1]
    exact ⟨by first | rfl | trivial, rfl⟩
  | heads st pad fin eh pay h1 h2 =>
    have hfl : flagsF ⟨1, (st : Nat), fin, eh, false, false, pay, 0, (pad : Nat), 0, false, 0, 0, [], 0, 0⟩ = flg fin eh (decide (0 < pad)) false := by simp [flagsF, flg]
    have hbd : bodyF ⟨1, (st : Nat), fin, eh, false, false, pay, 0, (pad : Nat), 0, false, 0, 0, [], 0, 0⟩ = padH pad ++ (pay ++ padT pad) := by simp [bodyF, midF]
    obtain ⟨g1, g2, g3, g4⟩ := flg_bits fin eh (decide (0 < pad)) false
    obtain ⟨l', h3⟩ := heads_wr st pad (UInt8.ofNat (flg fin eh (decide (0 < pad)) false)) pay h2 g3 g4
    rw [hfl, hbd]
    show (headersR (rg0 1 (st : Int).toNat _ _)).code = 0 ∧ (headersR (rg0 1 (st : Int).toNat _ _)).F = _
    rw [Int.toNat_natCast, h3, g1, g2]
    exact ⟨by first | rfl | trivial, rfl⟩
  | headp st pad d wt fin eh x pay h1 h2 h3 h4 =>
    have hfl : flagsF ⟨1, (st : Nat), fin, eh, false, true, pay, 0, (pad : Nat), (d : Nat), x, (wt : Nat), 0, [], 0, 0⟩ = flg fin eh (decide (0 < pad)) true := by simp [flagsF, flg]
    have hbd : bodyF ⟨1, (st : Nat), fin, eh, false, true, pay, 0, (pad : Nat), (d : Nat), x, (wt : Nat), 0, [], 0, 0⟩ = padH pad ++ (prioO d x wt ++ (pay ++ padT pad)) := by simp [bodyF, midF]
    obtain ⟨g1, g2, g3, g4⟩ := flg_bits fin eh (decide (0 < pad)) true
    obtain ⟨l', h5⟩ := headp_wr st pad d wt x (UInt8.ofNat (flg fin eh (decide (0 < pad)) true)) pay h2 g3 g4 h3 h4
    rw [hfl, hbd]
    show (headersR (rg0 1 (st : Int).toNat _ _)).code = 0 ∧ (headersR (rg0 1 (st : Int).toNat _ _)).F = _
    rw [Int.toNat_natCast, h5, g1, g2]
    exact ⟨by first | rfl | trivial, rfl⟩
  | prio st d wt x h1 h3 h4 =>
    have hbd : bodyF ⟨2, (st : Nat), false, false, false, false, [], 0, 0, (d : Nat), x, (wt : Nat), 0, [], 0, 0⟩ = prioO d x wt ++ [] := by simp [bodyF, midF, padH, padT]
    rw [hbd]
    show (priorityR (rg0 2 (st : Int).toNat _ _)).code = 0 ∧ (priorityR (rg0 2 (st : Int).toNat _ _)).F = _
    rw [Int.toNat_natCast]
    unfold priorityR
    rw [if_pos (by show (prioO d x wt ++ []).length = 5; rw [List.append_nil, prioO_len])]
    unfold rg0
    rw [prio_read h3 h4]
    exact ⟨by first | rfl | trivial, rfl⟩
  | reset st c h1 h2 =>
    have hbd : bodyF ⟨3, (st : Nat), false, false, false, false, [], 0, 0, 0, false, 0, (c : Nat), [], 0, 0⟩ = be c 4 ++ [] := by simp [bodyF, midF, padH, padT]
    rw [hbd]
    show (resetR (rg0 3 (st : Int).toNat _ _)).code = 0 ∧ (resetR (rg0 3 (st : Int).toNat _ _)).F = _
    rw [Int.toNat_natCast]
    unfold resetR
    rw [if_pos (by show (be c 4 ++ []).length = 4; rw [List.append_nil, be_len])]
    unfold rg0
    simp only
    rw [get4_be h2]
    exact ⟨by first | rfl | trivial, rfl⟩
  | sets ack l h1 h2 =>
    have hbd : bodyF ⟨4, 0, false, false, ack, false, [], 0, 0, 0, false, 0, 0, l, 0, 0⟩ = setO l := by simp [bodyF, midF, padH, padT]
    have hfl : flagsF ⟨4, 0, false, false, ack, false, [], 0, 0, 0, false, 0, 0, l, 0, 0⟩ = flg ack false false false := by simp [flagsF, flg]
    obtain ⟨g1, g2, g3, g4⟩ := flg_bits ack false false false
    rw [hbd, hfl]
    show (settingsR (rg0 4 (0 : Int).toNat _ _)).code = 0 ∧ (settingsR (rg0 4 (0 : Int).toNat _ _)).F = _
    unfold settingsR
    have hl : (setO l).length = 6 * l.length := setO_len l
    rw [if_neg (by
      show ¬ ((setO l).length % 6 ≠ 0 ∨ (bitB (UInt8.ofNat (flg ack false false false)) 0 = true ∧ 0 < (setO l).length))
      rw [g1, hl]
      intro hh
      rcases hh with hh | ⟨hh, hk⟩
      · omega
      · rw [h2 hh] at hk; simp at hk)]
    unfold settings1 rg0
    simp only [g1]
    rw [sets_setO l h1]
    exact ⟨by first | rfl | trivial, rfl⟩
  | prom st pad last eh pay h1 h2 h3 =>
    have hfl : flagsF ⟨5, (st : Nat), false, eh, false, false, pay, 0, (pad : Nat), 0, false, 0, 0, [], (last : Nat), 0⟩ = flg false eh (decide (0 < pad)) false := by simp [flagsF, flg]
    have hbd : bodyF ⟨5, (st : Nat), false, eh, false, false, pay, 0, (pad : Nat), 0, false, 0, 0, [], (last : Nat), 0⟩ = padH pad ++ (be last 4 ++ (pay ++ padT pad)) := by simp [bodyF, midF]
    obtain ⟨g1, g2, g3, g4⟩ := flg_bits false eh (decide (0 < pad)) false
    obtain ⟨l', h5⟩ := prom_wr st pad last (UInt8.ofNat (flg false eh (decide (0 < pad)) false)) pay h2 g3 h3
    rw [hfl, hbd]
    show (promiseR (rg0 5 (st : Int).toNat _ _)).code = 0 ∧ (promiseR (rg0 5 (st : Int).toNat _ _)).F = _
    rw [Int.toNat_natCast, h5, g2]
    exact ⟨by first | rfl | trivial, rfl⟩
  | ping ack pay h1 =>
    have hbd : bodyF ⟨6, 0, false, false, ack, false, pay, 0, 0, 0, false, 0, 0, [], 0, 0⟩ = pay := by simp [bodyF, midF, padH, padT]
    have hfl : flagsF ⟨6, 0, false, false, ack, false, pay, 0, 0, 0, false, 0, 0, [], 0, 0⟩ = flg ack false false false := by simp [flagsF, flg]
    obtain ⟨g1, g2, g3, g4⟩ := flg_bits ack false false false
    rw [hbd, hfl]
    show (pingR (rg0 6 (0 : Int).toNat _ _)).code = 0 ∧ (pingR (rg0 6 (0 : Int).toNat _ _)).F = _
    unfold pingR
    rw [if_pos (by exact h1), closed_none rfl]
    unfold rg0
    simp only [g1]
    exact ⟨by first | rfl | trivial, rfl⟩
  | away last c pay h1 h2 =>
    have hbd : bodyF ⟨7, 0, false, false, false, false, pay, 0, 0, 0, false, 0, (c : Nat), [], (last : Nat), 0⟩ = be last 4 ++ (be c 4 ++ pay) := by simp [bodyF, midF, padH, padT]
    rw [hbd]
    show (goawayR (rg0 7 (0 : Int).toNat _ _)).code = 0 ∧ (goawayR (rg0 7 (0 : Int).toNat _ _)).F = _
    unfold goawayR
    rw [if_pos (by show 8 ≤ (be last 4 ++ (be c 4 ++ pay)).length; rw [len4_be, len4_be]; omega), closed_none rfl]
    unfold rg0
    simp only
    rw [get4_be (by omega), drop4_be, get4_be h2, Nat.mod_eq_of_lt (by omega)]
    have h8 : (be last 4 ++ (be c 4 ++ pay)).drop 8 = pay := by
      rw [show (8 : Nat) = 4 + 4 from rfl, ← List.drop_drop, drop4_be, drop4_be]
    rw [h8]
    exact ⟨by first | rfl | trivial, rfl⟩
  | wind st inc h1 h2 =>
    obtain ⟨h3, h4⟩ := h2
    have hbd : bodyF ⟨8, (st : Nat), false, false, false, false, [], 0, 0, 0, false, 0, 0, [], 0, (inc : Nat)⟩ = be inc 4 ++ [] := by simp [bodyF, midF, padH, padT]
    rw [hbd]
    show (windowR (rg0 8 (st : Int).toNat _ _)).code = 0 ∧ (windowR (rg0 8 (st : Int).toNat _ _)).F = _
    rw [Int.toNat_natCast]
    unfold windowR
    rw [if_pos (by show (be inc 4 ++ []).length = 4; rw [List.append_nil, be_len])]
    unfold rg0
    simp only
    rw [get4_be (by omega), Nat.mod_eq_of_lt (by omega), if_neg (by omega)]
    exact ⟨by first | rfl | trivial, rfl⟩
  | cont st eh pay h1 =>
    have hbd : bodyF ⟨9, (st : Nat), false, eh, false, false, pay, 0, 0, 0, false, 0, 0, [], 0, 0⟩ = pay := by simp [bodyF, midF, padH, padT]
    have hfl : flagsF ⟨9, (st : Nat), false, eh, false, false, pay, 0, 0, 0, false, 0, 0, [], 0, 0⟩ = flg false eh false false := by simp [flagsF, flg]
    obtain ⟨g1, g2, g3, g4⟩ := flg_bits false eh false false
    rw [hbd, hfl]
    show (moreR (rg0 9 (st : Int).toNat _ _)).code = 0 ∧ (moreR (rg0 9 (st : Int).toNat _ _)).F = _
    rw [Int.toNat_natCast]
    unfold moreR
    rw [closed_none rfl]
    unfold rg0
    simp only [g2]
    exact ⟨by first | rfl | trivial, rfl⟩
  | other k st fl pay h0 h1 h2 =>
    obtain ⟨q, rfl⟩ : ∃ q, k = q + 10 := ⟨k - 10, by omega⟩
    have hbd : bodyF ⟨((q + 10 : Nat) : Int), (st : Nat), false, false, false, false, pay, (fl : Nat), 0, 0, false, 0, 0, [], 0, 0⟩ = pay := by
      unfold bodyF midF
      rw [if_neg (by simp only; omega), if_neg (by simp only; omega), if_neg (by simp only; omega), if_neg (by simp only; omega), if_neg (by simp only; omega), if_neg (by simp only; omega), if_neg (by simp only; omega)]
      simp [padH, padT]
    have hfl : flagsF ⟨((q + 10 : Nat) : Int), (st : Nat), false, false, false, false, pay, (fl : Nat), 0, 0, false, 0, 0, [], 0, 0⟩ = fl := by simp [flagsF]
    rw [hbd, hfl]
    show (kindR ((q + 10 : Nat) : Int).toNat (rg0 ((q + 10 : Nat) : Int).toNat (st : Int).toNat _ _)).code = 0 ∧ (kindR ((q + 10 : Nat) : Int).toNat (rg0 ((q + 10 : Nat) : Int).toNat (st : Int).toNat _ _)).F = _
    rw [Int.toNat_natCast, Int.toNat_natCast]
    show (otherR _).code = 0 ∧ (otherR _).F = _
    unfold otherR
    rw [closed_none rfl]
    unfold rg0
    simp only [UInt8.toNat_ofNat', Nat.mod_eq_of_lt (show fl < 2 ^ 8 by omega)]
    exact ⟨by first | rfl | trivial, rfl⟩
theorem May.head {F : Fm} (h : May F) : 0 ≤ F.kind ∧ F.kind ≤ 255 ∧ 0 ≤ F.stream ∧ F.stream ≤ 2147483647 ∧ strayB F.kind F.stream = false := by
  cases h with
  | data st pad fin pay h1 h2 => exact ⟨by dsimp only; omega, by dsimp only; omega, by simp, by have := h1.2; simp only; omega, by have := h1.1; show ((st : Int) == 0) = false; simp; omega⟩
  | heads st pad fin eh pay h1 h2 => exact ⟨by dsimp only; omega, by dsimp only; omega, by simp, by have := h1.2; simp only; omega, by have := h1.1; show ((st : Int) == 0) = false; simp; omega⟩
  | headp st pad d wt fin eh x pay h1 h2 h3 h4 => exact ⟨by dsimp only; omega, by dsimp only; omega, by simp, by have := h1.2; simp only; omega, by have := h1.1; show ((st : Int) == 0) = false; simp; omega⟩
  | prio st d wt x h1 h3 h4 => exact ⟨by dsimp only; omega, by dsimp only; omega, by simp, by have := h1.2; simp only; omega, by have := h1.1; show ((st : Int) == 0) = false; simp; omega⟩
  | reset st c h1 h2 => exact ⟨by dsimp only; omega, by dsimp only; omega, by simp, by have := h1.2; simp only; omega, by have := h1.1; show ((st : Int) == 0) = false; simp; omega⟩
  | sets ack l h1 h2 => exact ⟨by dsimp only; omega, by dsimp only; omega, by dsimp only; omega, by dsimp only; omega, rfl⟩
  | prom st pad last eh pay h1 h2 h3 => exact ⟨by dsimp only; omega, by dsimp only; omega, by simp, by have := h1.2; simp only; omega, by have := h1.1; show ((st : Int) == 0) = false; simp; omega⟩
  | ping ack pay h1 => exact ⟨by dsimp only; omega, by dsimp only; omega, by dsimp only; omega, by dsimp only; omega, rfl⟩
  | away last c pay h1 h2 => exact ⟨by dsimp only; omega, by dsimp only; omega, by dsimp only; omega, by dsimp only; omega, rfl⟩
  | wind st inc h1 h2 => exact ⟨by dsimp only; omega, by dsimp only; omega, by simp, by simp only; omega, rfl⟩
  | cont st eh pay h1 => exact ⟨by dsimp only; omega, by dsimp only; omega, by simp, by have := h1.2; simp only; omega, by have := h1.1; show ((st : Int) == 0) = false; simp; omega⟩
  | other k st fl pay h0 h1 h2 => exact ⟨by simp, by simp only; omega, by simp, by simp only; omega, by unfold strayB; simp only; rw [if_neg (by omega), if_neg (by omega)]⟩
/-- A frame that is written is told as it was. -/
theorem nxt_wr {F : Fm} (h : May F) {mx : Nat} (hb : (bodyF F).length ≤ mx) (hm : mx ≤ 16777215) (rest : List UInt8) : nxt mx (wrO F ++ rest) = .frame F rest := by
  obtain ⟨h1, h2, h3, h4, h5⟩ := h.head
  obtain ⟨r1, r2⟩ := read_wr h
  unfold wrO
  rw [List.append_assoc, h9_nxt mx (by omega) (by omega) (by omega), if_neg (by omega), if_neg (by rw [List.length_append]; omega), Int.toNat_of_nonneg h1, Int.toNat_of_nonneg h3, h5, if_neg (by simp), List.take_append_of_le_length (Nat.le_refl _), List.take_length, List.drop_append_of_le_length (Nat.le_refl _), List.drop_length, List.nil_append]
  unfold outR
  rw [if_pos r1, r2]
theorem wrO_len (F : Fm) : (wrO F).length = 9 + (bodyF F).length := by unfold wrO; rw [List.length_append, h9_len]
end Go.Proofs.Ythhgnipiaohplaa.Fr
