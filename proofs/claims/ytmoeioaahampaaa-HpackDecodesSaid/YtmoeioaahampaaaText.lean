/-
  PutText, the document's too.
-/
import Derived.Test.YtmoeioaahampaaaRPut
import Derived.Test.YtmoeioaahampaaaREnc
import Derived.Test.YtmoeioaahampaaaConv
namespace Go.Proofs.Ytmoeioaahampaaa.Hi
open Go.ChangeShapes Go.WideShapes Go.ChangeAt Go.RowKit
open Go.Proofs.Ytmoeioaahampaaa.B
open Go.Proofs.Ytmoeioaahampaaa.Hf (bx need enc enc_length size_any encode_any rencode_any)
set_option linter.unusedVariables false
set_option linter.unusedSimpArgs false
attribute [local go_sem] str_run

/-- The octets of a text. -/
def putT (l : List UInt8) : List UInt8 := if need l < l.length then (putI 128 7 ((need l : Nat) : Int)).1 ++ enc l else (putI 0 7 ((l.length : Nat) : Int)).1 ++ l
theorem putI_len (f : UInt8) (p v : Int) : (putI f p v).1.length ≤ 6 := by
  unfold putI
  split
  · simp
  · rename_i h
    show (putN f.toNat p.toNat v.toNat).length ≤ 6
    unfold putN
    split
    · simp
    · have := more_len5 (v.toNat - (2 ^ p.toNat - 1)) (by omega)
      simp; omega
set_option maxRecDepth 100000 in
set_option maxHeartbeats 4000000 in
theorem puttext_any (s : ByteArray) (w : World) (hs : s.size ≤ 1000000) :
    Calls Try.prog 59 #[.string s] w fun e w' => ∃ rv, e = .returned rv ∧ OwnB w' w.heap.size rv (putT (bx s)) ∧ Chg [] w w' := by
  have hbl : (bx s).length = s.size := by simp [bx]
  obtain ⟨N, hN⟩ : ∃ N, N = need (bx s) := ⟨_, rfl⟩
  have HN := Lib.hid hN
  have hpt : putT (bx s) = if N < s.size then (putI 128 7 (N : Int)).1 ++ enc (bx s) else (putI 0 7 (s.size : Int)).1 ++ bx s := by unfold putT; rw [hbl, ← hN]
  have hel : (enc (bx s)).length = N := by rw [enc_length, hN]
  clear hN
  by_cases hlt : N < s.size
  · rw [if_pos hlt] at hpt
    rw [hpt]
    have HEL := Lib.hid hel
    clear hpt hel hbl
    go_enter Try.func59, Try.ntmps59
    go_wp2_with fail
    refine (size_any s _ (by omega)).mono ?_; rintro e w1 ⟨he, h1⟩
    rw [show need s.data.toList = N from HN.out.symm] at he
    subst he
    have c1 := (str_chg s w).trans' h1
    generalize strRow s w = sr at *
    have C1 := Lib.hid c1
    clear c1 h1
    go_wp2_with fail
    refine (encode_any s w.heap.size _ (by omega) C1.out.size).mono ?_; rintro e w2 ⟨ev, rfl, h2, o2⟩
    obtain ⟨ea, ecap, rfl⟩ := OwnB.slice o2
    rw [HEL.out]
    have c2 := C1.out.trans' h2
    have O2 := Lib.hid o2; have C2 := Lib.hid c2
    clear o2 c2 h2 C1
    go_wp2_with fail
    refine (putint_any 128 7 (N : Int) _).mono ?_; rintro e w3 ⟨rv, rfl, o3, h3⟩
    have b3 := (OwnB.chg O2.out h3 (fun _ _ => by simp)).bytes
    have o3' := OwnB.weak o3 C2.out.size
    have hpl := putI_len 128 7 (N : Int)
    have HPL := Lib.hid hpl; have O3 := Lib.hid o3; have B3 := Lib.hid b3; have C3 := Lib.hid (C2.out.trans' h3)
    have hb3 := (C2.out.trans' h3).size
    have lo3 : ∀ x ∈ rv.ownBlock.toList, w.heap.size ≤ x := OwnB.lo o3'
    have O3' := Lib.hid o3'
    clear o3 o3' b3 h3 hpl O2 C2
    rw [HEL.out] at B3
    go_wp2_with (at_builtin; refine app_any rfl _ _ rfl w.heap.size rv _ rfl O3'.out _ _ rfl B3.out (by have := HPL.out; have := HEL.out; omega) (by omega) ?_)
    intro v' w' hown' hch' hfr'
    go_wp2_with fail
    go_ret
    exact ⟨_, rfl, hown', C3.out.trans hch' (fun x hx => Or.inr (lo3 x hx))⟩
  · rw [if_neg hlt] at hpt
    rw [hpt]
    clear hpt hel
    have hsb := str_bytes s w (by unfold maxLen; omega)
    obtain ⟨sa, scap, hsr, _, _⟩ := hsb.slice
    rw [hsr] at hsb
    have hbl2 : s.data.toList.length = s.size := by rw [Array.length_toList]; rfl
    rw [hbl2] at hsr hsb
    have SB := Lib.hid hsb; have HSR := Lib.hid hsr; have HBL := Lib.hid hbl2
    clear hsb hsr hbl2 hbl
    go_enter Try.func59, Try.ntmps59
    go_wp2_with fail
    refine (size_any s _ (by omega)).mono ?_; rintro e w1 ⟨he, h1⟩
    rw [show need s.data.toList = N from HN.out.symm] at he
    subst he
    have c1 := (str_chg s w).trans' h1
    have b1 := SB.out.chg0 h1
    rw [HSR.out]
    have C1 := Lib.hid c1; have B1 := Lib.hid b1
    clear c1 h1 b1 HSR SB
    go_wp2_with fail
    refine (putint_any 0 7 (s.size : Int) _).mono ?_; rintro e w3 ⟨rv, rfl, o3, h3⟩
    have o3' := OwnB.weak o3 C1.out.size
    have hpl := putI_len 0 7 (s.size : Int)
    have HPL := Lib.hid hpl; have O3' := Lib.hid o3'; have B3 := Lib.hid (B1.out.chg0 h3); have C3 := Lib.hid (C1.out.trans' h3)
    have hb3 := (C1.out.trans' h3).size
    have lo3 : ∀ x ∈ rv.ownBlock.toList, w.heap.size ≤ x := OwnB.lo o3'
    clear o3 o3' h3 hpl B1 C1
    go_wp2_with (at_builtin; refine app_any rfl _ _ rfl w.heap.size rv _ rfl O3'.out _ _ rfl B3.out (by have := HPL.out; have := HBL.out; omega) (by omega) ?_)
    intro v' w' hown' hch' hfr'
    go_wp2_with fail
    go_ret
    exact ⟨_, rfl, hown', C3.out.trans hch' (fun x hx => Or.inr (lo3 x hx))⟩
theorem ba_append (a b : List UInt8) : (⟨a.toArray⟩ : ByteArray) ++ ⟨b.toArray⟩ = ⟨(a ++ b).toArray⟩ := by
  apply ByteArray.ext
  have : ((⟨a.toArray⟩ : ByteArray) ++ ⟨b.toArray⟩).data = a.toArray ++ b.toArray := by simp
  rw [this]; simp
theorem ba_size (a : List UInt8) : (⟨a.toArray⟩ : ByteArray).size = a.length := by show a.toArray.size = _; simp
set_option maxRecDepth 100000 in
set_option maxHeartbeats 4000000 in
theorem rputtext_any (s : ByteArray) (w : World) (hs : s.size ≤ 1000000) :
    Calls Try.prog 78 #[.string s] w fun e w' => e = .returned (txt (putT (bx s))) ∧ Chg [] w w' := by
  have hbl : (bx s).length = s.size := by simp [bx]
  obtain ⟨N, hN⟩ : ∃ N, N = need (bx s) := ⟨_, rfl⟩
  have hpt : putT (bx s) = if N < s.size then (putI 128 7 (N : Int)).1 ++ enc (bx s) else (putI 0 7 (s.size : Int)).1 ++ bx s := by unfold putT; rw [hbl, ← hN]
  obtain ⟨E, hE⟩ : ∃ E : ByteArray, E = ⟨(enc (bx s)).toArray⟩ := ⟨_, rfl⟩
  have hEs : E.size = N := by rw [hE, ba_size, enc_length, hN]
  have HE := Lib.hid hE; have HES := Lib.hid hEs
  have hNb : N ≤ 3750001 := by
    have h1 := Hf.sl_le (bx s)
    unfold Hf.sl at h1
    rw [hN]; unfold need; omega
  have hEb : E.size ≤ 3750001 := by omega
  clear hE
  by_cases hlt : N < s.size
  · rw [if_pos hlt] at hpt
    rw [hpt]
    obtain ⟨A, hA⟩ : ∃ A : ByteArray, A = ⟨(putI 128 7 (N : Int)).1.toArray⟩ := ⟨_, rfl⟩
    have hAs : A.size ≤ 6 := by rw [hA, ba_size]; exact putI_len _ _ _
    have hout : (txt ((putI 128 7 (N : Int)).1 ++ enc (bx s))) = .string (A ++ E) := by rw [hA, HE.out, ba_append]
    rw [hout]
    have HA := Lib.hid hA
    have hes : E.size < s.size := by omega
    have hd : decide (E.size < s.size) = true := decide_eq_true hes
    clear hpt hbl hN hA hout hEs
    go_enter Try.func78, Try.ntmps78
    go_wp2_with fail
    refine (rencode_any s hs _).mono ?_; rintro e w1 ⟨he, h1⟩
    unfold Hf.txt at he
    rw [← HE.out] at he
    subst he
    go_wp2_with fail
    rw [HES.out]
    refine (rputint_any 128 7 (N : Int) _).mono ?_; rintro e w2 ⟨he, h2⟩
    unfold txt at he
    rw [← HA.out] at he
    subst he
    go_wp2_with fail
    go_ret
    exact ⟨rfl, h1.trans' h2⟩
  · rw [if_neg hlt] at hpt
    rw [hpt]
    obtain ⟨A, hA⟩ : ∃ A : ByteArray, A = ⟨(putI 0 7 (s.size : Int)).1.toArray⟩ := ⟨_, rfl⟩
    have hAs : A.size ≤ 6 := by rw [hA, ba_size]; exact putI_len _ _ _
    have hsb : s = ⟨(bx s).toArray⟩ := by apply ByteArray.ext; simp [bx]
    have hout : (txt ((putI 0 7 (s.size : Int)).1 ++ bx s)) = .string (A ++ s) := by
      have : A ++ s = A ++ (⟨(bx s).toArray⟩ : ByteArray) := congrArg (A ++ ·) hsb
      rw [this, hA, ba_append]
    rw [hout]
    have HA := Lib.hid hA
    have hes : ¬ E.size < s.size := by omega
    have hd : decide (E.size < s.size) = false := decide_eq_false hes
    clear hpt hbl hN hA hout hEs hsb
    go_enter Try.func78, Try.ntmps78
    go_wp2_with fail
    refine (rencode_any s hs _).mono ?_; rintro e w1 ⟨he, h1⟩
    unfold Hf.txt at he
    rw [← HE.out] at he
    subst he
    go_wp2_with fail
    refine (rputint_any 0 7 (s.size : Int) _).mono ?_; rintro e w2 ⟨he, h2⟩
    unfold txt at he
    rw [← HA.out] at he
    subst he
    go_wp2_with fail
    go_ret
    exact ⟨rfl, h1.trans' h2⟩
end Go.Proofs.Ytmoeioaahampaaa.Hi
