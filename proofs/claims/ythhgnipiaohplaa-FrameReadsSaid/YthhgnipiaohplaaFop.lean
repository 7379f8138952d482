/-
  The preface: what Opening answers, the program's and the document's.
-/
import Derived.Test.YthhgnipiaohplaaArg
import Derived.Test.YthhgnipiaohplaaConv
import Derived.Deep.QuietTactic
import Derived.BigQuiet
import Derived.Deep.DeepCutAuto
import Derived.Lib.Hide
import Derived.Lib.MinMax
namespace Go.Proofs.Ythhgnipiaohplaa.Fr
open Go.ChangeShapes Go.WideShapes Go.ChangeAt Go.RowKit
open Go.Proofs.Ythhgnipiaohplaa.B
set_option linter.unusedVariables false
set_option linter.unusedSimpArgs false

def PRE : List UInt8 := [80, 82, 73, 32, 42, 32, 72, 84, 84, 80, 47, 50, 46, 48, 13, 10, 13, 10, 83, 77, 13, 10, 13, 10]
abbrev PREB : ByteArray := { data := #[80, 82, 73, 32, 42, 32, 72, 84, 84, 80, 47, 50, 46, 48, 13, 10, 13, 10, 83, 77, 13, 10, 13, 10] }
/-- Whether octets begin with the preface: 0 they do, 2 they may still, 3 they do not. -/
def opn (l : List UInt8) : Nat := if l.take (min l.length 24) = PRE.take (min l.length 24) then (if l.length < 24 then 2 else 0) else 3
theorem beq_str (a b : ByteArray) : (a.toList == b.toList) = decide (a = b) := by
  by_cases h : a = b
  · subst h; simp
  · have hn : a.toList ≠ b.toList := fun hc => h (by
      rw [ByteArray.toList_eq, ByteArray.toList_eq] at hc
      exact ByteArray.ext (Array.toList_inj.1 hc))
    simp [h, hn]
theorem str_ne {a b : ByteArray} (h : ¬ a = b) : (a.toList = b.toList) = False := by
  have := beq_str a b
  rw [decide_eq_false h] at this
  simpa using this
theorem pre_cut (K : Nat) : PREB.extract 0 K = ⟨(PRE.take K).toArray⟩ := by
  apply ByteArray.ext
  have : (PREB.extract 0 K).data = PREB.data.extract 0 K := by first | rfl | simp
  rw [this]
  apply Array.toList_inj.1
  simp [PRE]
theorem opn_ne {l : List UInt8} {K : Nat} (hK : min l.length 24 = K) (h : ¬ (⟨(l.take K).toArray⟩ : ByteArray) = PREB.extract 0 K) : opn l = 3 := by
  unfold opn
  rw [hK, if_neg]
  intro he
  apply h
  rw [pre_cut, he]
theorem opn_eq {l : List UInt8} {K : Nat} (hK : min l.length 24 = K) (h : (⟨(l.take K).toArray⟩ : ByteArray) = PREB.extract 0 K) : opn l = if K < 24 then 2 else 0 := by
  unfold opn
  rw [pre_cut] at h
  have h2 : (l.take K).toArray = (PRE.take K).toArray := congrArg ByteArray.data h
  have he : l.take K = PRE.take K := by simpa using congrArg Array.toList h2
  rw [hK, if_pos he]
  by_cases h3 : K < 24
  · rw [if_pos h3, if_pos (by omega)]
  · rw [if_neg h3, if_neg (by omega)]
theorem BytesOf.pre {w : World} {a : Option Addr} {n cap : Nat} {l : List UInt8} (h : BytesOf w (.slice a n cap) l) (k : Nat) (hk : k ≤ l.length) : BytesOf w (.slice a k cap) (l.take k) := by
  obtain ⟨a', cap', he, hc, hm⟩ := h.slice
  simp only [Value.slice.injEq] at he
  obtain ⟨rfl, rfl, rfl⟩ := he
  refine ⟨_, _, by rw [List.length_take, Nat.min_eq_left hk], by rw [List.length_take]; omega, hm, fun h0 => ?_⟩
  rw [List.length_take] at h0
  obtain ⟨a2, cap2, he2, _, _, h3⟩ := h
  simp only [Value.slice.injEq] at he2
  obtain ⟨rfl, _, rfl⟩ := he2
  obtain ⟨b, off, h4, h5, h6⟩ := h3 (by omega)
  refine ⟨b, off, h4, h5, fun i z hz j hj => h6 i z ?_ j hj⟩
  have hi := (List.getElem?_eq_some_iff.1 hz).1
  rw [List.length_take] at hi
  rwa [List.getElem?_take_of_lt (by omega)] at hz
theorem BytesOf.drewN' {w : World} {v : Value} {l : List UInt8} (h : BytesOf w v l) (n : Nat) : BytesOf (w.drewN n) v l := h
set_option maxRecDepth 100000 in
set_option maxHeartbeats 4000000 in
theorem opening_any {w : World} {v : Value} {l : List UInt8} (hb : BytesOf w v l) :
    Calls Try.prog 29 #[v] w fun e w' => e = .returned (.int .i64 (opn l : Nat)) ∧ ∃ n, w' = w.drewN n := by
  obtain ⟨a, cap, rfl, hc, hcm⟩ := hb.slice
  unfold maxLen at hcm
  obtain ⟨K, hK⟩ : ∃ K : Nat, min l.length 24 = K := ⟨_, rfl⟩
  have j1 : (K : Int) ≤ (cap : Int) := by omega
  have j2 : (0 : Int) ≤ (K : Int) := by omega
  have j3 : (K : Int) ≤ 24 := by omega
  have hp := BytesOf.pre hb K (by omega)
  have k1 := fun n => BytesOf.str (BytesOf.drewN' hp n)
  have eK : min (l.length : Int) 24 = (K : Int) := by omega
  have HK := Lib.hid hK
  obtain ⟨S1, hS1⟩ : ∃ S : ByteArray, S = ⟨(l.take K).toArray⟩ := ⟨_, rfl⟩
  simp only [← hS1] at k1
  by_cases h : S1 = PREB.extract 0 K
  · have ho : opn l = if K < 24 then 2 else 0 := opn_eq hK (by rw [← hS1]; exact h)
    have HO := Lib.hid ho; have HH := Lib.hid h
    have hS2 : PREB.extract 0 K = S1 := h.symm
    clear h ho hS1 hp hb
    by_cases h3 : K < 24
    · have g3 : decide ((K : Int) < 24) = true := decide_eq_true (by omega)
      have HO2 : Hid (opn l = 2) := Lib.hid (by rw [HO.out, if_pos h3])
      rw [HO2.out]
      clear HO HO2
      go_enter Try.func29, Try.ntmps29
      go_wp2_with fail
      go_quiet (fail)
      go_wp2_with fail
      go_ret
      exact ⟨rfl, _, rfl⟩
    · have g3 : decide ((K : Int) < 24) = false := decide_eq_false (by omega)
      have HO2 : Hid (opn l = 0) := Lib.hid (by rw [HO.out, if_neg h3])
      rw [HO2.out]
      clear HO HO2
      go_enter Try.func29, Try.ntmps29
      go_wp2_with fail
      go_quiet (fail)
      go_wp2_with fail
      go_ret
      exact ⟨rfl, _, rfl⟩
  · have ho : opn l = 3 := opn_ne hK (by rw [← hS1]; exact h)
    rw [ho]
    obtain ⟨S2, hS2⟩ : ∃ S2, PREB.extract 0 K = S2 := ⟨_, rfl⟩
    rw [hS2] at h
    have hne := str_ne h
    have hne2 : (S1.toList == S2.toList) = false := by rw [beq_str]; exact decide_eq_false h
    have hne3 : ¬ S1.toList = S2.toList := by rw [hne]; simp
    have hne4 : (S1.toList != S2.toList) = true := by simp [bne, hne2]
    clear ho hS1 hp hb
    go_enter Try.func29, Try.ntmps29
    go_wp2_with fail
    go_quiet (fail)
    go_wp2_with fail
    go_ret
    exact ⟨rfl, _, rfl⟩
def bx (s : ByteArray) : List UInt8 := s.data.toList
theorem PRE_len : PRE.length = 24 := rfl
theorem str_drop (s : ByteArray) (i : Nat) (h : i < s.size) : s.data.toList.drop i = s[i] :: s.data.toList.drop (i + 1) := by
  rw [List.drop_eq_getElem_cons (by rw [Array.length_toList]; exact h)]; rfl
theorem bx_get (s : ByteArray) (i : Nat) (h : i < s.size) : (bx s)[i]? = some s[i] := by
  have h1 : i < s.data.toList.length := by rw [Array.length_toList]; exact h
  unfold bx
  rw [List.getElem?_eq_getElem h1]; rfl
theorem pre_get (k : Nat) (h : k < PREB.size) : ∃ c, PRE[k]? = some c ∧ PREB[k] = c := by
  have h24 : k < 24 := h
  exact ⟨PREB[k], by rw [show PRE = bx PREB from rfl]; exact bx_get PREB k h, rfl⟩
theorem opn_mis {l : List UInt8} {k : Nat} {a c : UInt8} (hk : k < 24) (ha : l[k]? = some a) (hc : PRE[k]? = some c) (h : a ≠ c) : opn l = 3 := by
  have hkl := (List.getElem?_eq_some_iff.1 ha).1
  unfold opn
  rw [if_neg]
  intro he
  have h1 : (l.take (min l.length 24))[k]? = some a := by rw [List.getElem?_take_of_lt (by omega)]; exact ha
  rw [he, List.getElem?_take_of_lt (by omega), hc] at h1
  exact h (Option.some.inj h1).symm
theorem opn_short {l : List UInt8} (h : l.length < 24) (he : l.take l.length = PRE.take l.length) : opn l = 2 := by
  unfold opn
  rw [Nat.min_eq_left (by omega), if_pos he, if_pos h]
theorem opn_full {l : List UInt8} (h : 24 ≤ l.length) (he : l.take 24 = PRE.take 24) : opn l = 0 := by
  unfold opn
  rw [Nat.min_eq_right h, if_pos he, if_neg (by omega)]
set_option maxRecDepth 100000 in
set_option maxHeartbeats 4000000 in
theorem ropening_any (s : ByteArray) (w : World) (hs : s.size ≤ 9223372036854775807) :
    Calls Try.prog 30 #[.string s] w fun e w' => e = .returned (.int .i64 (opn (bx s) : Nat)) ∧ ∃ n, w' = w.drewN n := by
  have hbl : (bx s).length = s.size := by simp [bx]
  obtain ⟨R, hR⟩ : ∃ R, R = opn (bx s) := ⟨_, rfl⟩
  rw [← hR]
  have HR := Lib.hid hR; have HBL := Lib.hid hbl
  clear hR hbl
  go_enter Try.func30, Try.ntmps30
  go_wp2_with fail
  go_loopw [4] (fun iv wr => ∃ k : Nat, k ≤ 24 ∧ k ≤ s.size ∧ iv = .int .i64 k ∧ (bx s).take k = PRE.take k ∧ ∃ n, wr = w.drewN n) (fun iv _ => 24 - (intOf iv).toNat)
  case atStart => exact ⟨0, by omega, by omega, rfl, by simp, 0, rfl⟩
  case round =>
    obtain ⟨k, hk, hks, rfl, he, n0, rfl⟩ := hrel
    by_cases hlt : k < 24
    · have hkI : (k : Int) < 24 := by omega
      by_cases hke : k = s.size
      · have g1 : ((k : Int) == (s.size : Int)) = true := by rw [hke]; simp
        have hr : Hid (R = 2) := Lib.hid (by
          rw [HR.out]
          exact opn_short (by rw [HBL.out]; omega) (by rw [HBL.out, ← hke]; exact he))
        have hki : (k : Int) = (s.size : Int) := by omega
        clear he hke
        go_wp2_with fail
        go_ret
        exact ⟨by rw [hr.out]; rfl, by first | exact ⟨_, rfl⟩ | exact ⟨_, World.drewN_drewN _ _ _⟩ | exact ⟨n0 + nq, by simp [World.drewN, Nat.add_assoc]⟩⟩
      · have hk2 : k < s.size := by omega
        have g1 : ((k : Int) == (s.size : Int)) = false := by simp; omega
        have hkp : k < PREB.size := hlt
        obtain ⟨c, hc1, hc2⟩ := pre_get k hkp
        have ha := bx_get s k hk2
        obtain ⟨a, haa⟩ : ∃ a, a = s[k] := ⟨_, rfl⟩
        rw [← haa] at ha
        have q1 : (s[k].toNat : Int) = (a.toNat : Int) := by rw [haa]
        have q2 : (PREB[k].toNat : Int) = (c.toNat : Int) := by rw [hc2]
        have hk2I : (k : Int) < (s.size : Int) := by omega
        by_cases hac : a = c
        · have hs : Hid ((bx s).take (k + 1) = PRE.take (k + 1)) := Lib.hid (by rw [List.take_add_one, List.take_add_one, he, ha, hc1, hac])
          rw [hac] at q1
          clear he ha hc1 hc2 haa hac hke
          go_wp2_with fail
          go_quiet (fail)
          go_wp2_with fail
          go_roundw
          case rel => exact ⟨k + 1, by omega, by omega, by go_num, hs.out, by first | exact ⟨_, rfl⟩ | exact ⟨_, World.drewN_drewN _ _ _⟩ | exact ⟨n0 + nq, by simp [World.drewN, Nat.add_assoc]⟩⟩
          case measure => simp [intOf]; omega
        · have hr : Hid (R = 3) := Lib.hid (by rw [HR.out]; exact opn_mis hlt ha hc1 hac)
          have hne : ¬ (a.toNat : Int) = (c.toNat : Int) := fun h => hac (UInt8.toNat_inj.1 (by omega))
          have hne2 : ((a.toNat : Int) == (c.toNat : Int)) = false := by simpa using hne
          have hne3 : ((a.toNat : Int) != (c.toNat : Int)) = true := by simp [bne, hne2]
          have hne4 : ¬ a.toNat = c.toNat := fun h => hac (UInt8.toNat_inj.1 h)
          clear he ha hc1 hc2 haa hac hke
          go_wp2_with fail
          go_quiet (fail)
          go_wp2_with fail
          go_ret
          exact ⟨by rw [hr.out]; rfl, by first | exact ⟨_, rfl⟩ | exact ⟨_, World.drewN_drewN _ _ _⟩ | exact ⟨n0 + nq, by simp [World.drewN, Nat.add_assoc]⟩⟩
    · obtain rfl : k = 24 := by omega
      have hr : Hid (R = 0) := Lib.hid (by rw [HR.out]; exact opn_full (by rw [HBL.out]; omega) he)
      clear he
      go_wp2_with fail
      go_ret
      exact ⟨by rw [hr.out]; rfl, by first | exact ⟨_, rfl⟩ | exact ⟨_, World.drewN_drewN _ _ _⟩ | exact ⟨n0 + nq, by simp [World.drewN, Nat.add_assoc]⟩⟩
end Go.Proofs.Ythhgnipiaohplaa.Fr
