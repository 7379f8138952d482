/-
  The document's Has: what a kind has.
-/
import Derived.Test.YthhgnipiaohplaaFsm
import Derived.Test.YthhgnipiaohplaaFmw
import Derived.Test.YthhgnipiaohplaaConv
import Derived.Test.YthhgnipiaohplaaFop
namespace Go.Proofs.Ythhgnipiaohplaa.Fr
open Go.ChangeShapes Go.WideShapes Go.ChangeAt Go.RowKit
open Go.Proofs.Ythhgnipiaohplaa.B
set_option linter.unusedVariables false
set_option linter.unusedSimpArgs false

/-- A text of octets. -/
def bstr (l : List UInt8) : ByteArray := ⟨l.toArray⟩
theorem bstr_toList (l : List UInt8) : (bstr l).data.toList = l := by simp [bstr]
theorem bstr_size (l : List UInt8) : (bstr l).size = l.length := by show l.toArray.size = _; simp
theorem bstr_append (a b : List UInt8) : bstr (a ++ b) = bstr a ++ bstr b := by
  apply ByteArray.ext
  simp [bstr]
theorem OwnB.empty {w : World} {base : Nat} (hb : base ≤ w.heap.size) : OwnB (w.alloc (.cells #[] 5)) base (.slice (some ⟨w.heap.size, 0, none⟩) 0 0) [] := ownB_R.2 (OwnR.empty hb)
set_option maxRecDepth 100000 in
set_option maxHeartbeats 4000000 in
theorem number_any (v n : Nat) (hv : v < 18446744073709551616) (hn : n ≤ 8) (w : World) :
    Calls Try.prog 35 #[.int .u64 v, .int .i64 n] w fun e w' => e = .returned (.string (bstr (be v n))) ∧ Chg [] w w' := by
  have w0 : wrap64 ((n : Int) - 1) = (n : Int) - 1 := by unfold wrap64; omega
  go_enter Try.func35, Try.ntmps35
  go_wp2_with fail
  go_loopw [5, 6] (fun rv nv wr => ∃ (k : Nat) (pre : List UInt8), k ≤ n ∧ nv = .int .i64 ((k : Int) - 1) ∧ pre ++ be v k = be v n ∧ OwnB wr w.heap.size rv pre ∧ Chg [] w wr) (fun _ nv _ => (intOf nv + 1).toNat)
  case atStart => exact ⟨n, [], Nat.le_refl _, rfl, rfl, OwnB.empty (Nat.le_refl _), (Chg.refl w).alloc _⟩
  case round =>
    obtain ⟨k, pre, hk, rfl, hp, ho, hc⟩ := hrel
    obtain ⟨ra, rc, rfl⟩ := OwnB.slice ho
    cases k with
    | zero =>
      have g : decide ((0 : Int) ≤ ((0 : Nat) : Int) - 1) = false := by decide
      have hpe : pre = be v n := by rw [← hp]; simp [be]
      obtain ⟨S, hS⟩ : ∃ S, S = bstr (be v n) := ⟨_, rfl⟩
      have kb : (convert 22 9 (.slice ra pre.length rc)).run Try.prog wr = .ok (.string S) wr := by rw [hS, ← hpe]; exact BytesOf.str (OwnB.bytes ho)
      have HC := Lib.hid hc; have HS := Lib.hid hS
      clear ho hc hp hS hpe
      go_wp2_with fail
      go_ret
      exact ⟨by rw [HS.out]; rfl, HC.out⟩
    | succ k =>
      have g : decide ((0 : Int) ≤ ((k + 1 : Nat) : Int) - 1) = true := decide_eq_true (by omega)
      obtain ⟨c, hcc⟩ : ∃ c, c = UInt8.ofNat (v / 256 ^ k) := ⟨_, rfl⟩
      have hx : (v : Int) / 2 ^ (8 * k) % 256 = (c.toNat : Int) := by
        have h1 : (2 : Int) ^ (8 * k) = ((256 ^ k : Nat) : Int) := by
          have h2 : (2 : Nat) ^ (8 * k) = 256 ^ k := by rw [Nat.pow_mul]
          rw [← h2]; simp
        rw [h1, ← Int.natCast_ediv, hcc]
        have h3 : (UInt8.ofNat (v / 256 ^ k)).toNat = v / 256 ^ k % 256 := by simp
        rw [h3]; omega
      have hpe : Hid ((pre ++ [c]) ++ be v k = be v n) := Lib.hid (by rw [← hp, hcc]; simp [be])
      have HO := Lib.hid ho; have HC := Lib.hid hc
      have hpl : Hid (pre.length ≤ 8) := Lib.hid (by
        have := congrArg List.length hp
        rw [List.length_append, be_len, be_len] at this; omega)
      have hpl2 := hpl.out
      have hbs : w.heap.size ≤ wr.heap.size := hc.size
      clear ho hc hp hcc
      go_wp2_with (at_builtin; refine app_any rfl _ _ rfl w.heap.size _ pre rfl (OwnB.chg0' HO.out ((Chg.refl wr).alloc _)) _ [c] rfl (SliceOf.one (enc := encB) (x := c) (size := 1) rfl (cs := #[.int .u8 (c.toNat : Int)]) rfl wr) (by simp; omega) (by simp; omega) ?_)
      intro v' w6 own6 ch6 n6
      obtain ⟨a', cap', rfl, hc1, hc2⟩ := (OwnB.bytes own6).slice
      have HO6 := Lib.hid own6
      have HC6 : Hid (Chg [] w w6) := Lib.hid ((HC.out.alloc _).trans ch6 (fun x hx => Or.inr (owns_lo HO.out x hx)))
      clear own6 ch6 n6
      go_wp2_with fail
      go_roundw
      case rel => exact ⟨k, pre ++ [c], by omega, by go_num, hpe.out, by first | exact HO6.out | (simpa using HO6.out), HC6.out⟩
      case measure => first | (simp [intOf]; done) | (simp [intOf]; omega)
/-- The number of n octets. -/
def val (l : List UInt8) : Nat := l.foldl (fun v c => v * 256 + c.toNat) 0
theorem val_snoc (l : List UInt8) (c : UInt8) : val (l ++ [c]) = val l * 256 + c.toNat := by unfold val; rw [List.foldl_append]; rfl
theorem val_lt : ∀ (n : Nat) (l : List UInt8), l.length = n → val l < 256 ^ n := by
  intro n
  induction n with
  | zero => intro l h; rw [List.eq_nil_of_length_eq_zero h]; simp [val]
  | succ n ih =>
    intro l h
    obtain ⟨m, c, rfl⟩ : ∃ m c, l = m ++ [c] := ⟨l.dropLast, l.getLast (by intro h0; rw [h0] at h; simp at h), (List.dropLast_concat_getLast _).symm⟩
    have h1 := ih m (by simp at h; omega)
    rw [val_snoc, Nat.pow_succ]
    have := c.toNat_lt
    omega
end Go.Proofs.Ythhgnipiaohplaa.Fr
namespace Go.Proofs.Ythhgnipiaohplaa.Fr
open Go.ChangeShapes Go.WideShapes Go.ChangeAt Go.RowKit
open Go.Proofs.Ythhgnipiaohplaa.B
set_option linter.unusedVariables false
set_option linter.unusedSimpArgs false

theorem bx_len (s : ByteArray) : (bx s).length = s.size := by simp [bx]
set_option maxRecDepth 100000 in
set_option maxHeartbeats 4000000 in
theorem get_any (s : ByteArray) (a n : Nat) (hn : n ≤ 4) (hs : a + n ≤ s.size) (hsz : s.size ≤ 9223372036854775807) (w : World) :
    Calls Try.prog 43 #[.string s, .int .i64 a, .int .i64 n] w fun e w' => e = .returned (.int .u64 (val (((bx s).drop a).take n) : Nat)) ∧ w' = w := by
  go_enter Try.func43, Try.ntmps43
  go_wp2_with fail
  go_loopw [7, 8] (fun vv iv wr => ∃ k V : Nat, k ≤ n ∧ iv = .int .i64 k ∧ vv = .int .u64 V ∧ V = val (((bx s).drop a).take k) ∧ wr = w) (fun _ iv _ => n - (intOf iv).toNat)
  case atStart => exact ⟨0, 0, by omega, rfl, rfl, by simp [val], rfl⟩
  case round =>
    obtain ⟨k, V, hk, rfl, rfl, hV, rfl⟩ := hrel
    by_cases hlt : k < n
    · have hkI : (k : Int) < (n : Int) := by omega
      have hV3 : V < 16777216 := by
        have h1 := val_lt _ (((bx s).drop a).take k) rfl
        rw [← hV] at h1
        have h2 : (((bx s).drop a).take k).length ≤ 3 := by rw [List.length_take]; omega
        exact Nat.lt_of_lt_of_le h1 (Nat.pow_le_pow_right (by omega) h2)
      have hidx : a + k < s.size := by omega
      obtain ⟨c, hc⟩ : ∃ c, c = s[a + k] := ⟨_, rfl⟩
      have hx : ((bx s).drop a)[k]? = some c := by rw [List.getElem?_drop, hc]; exact bx_get s (a + k) hidx
      have hV2 : Hid (V * 256 + c.toNat = val (((bx s).drop a).take (k + 1))) := Lib.hid (by rw [List.take_add_one, hx, hV]; exact (val_snoc _ _).symm)
      have q1 : (s[a + k].toNat : Int) = (c.toNat : Int) := by rw [hc]
      have hidxI : (a : Int) + (k : Int) < (s.size : Int) := by omega
      have hc8 := c.toNat_lt
      have hwi : wrap64 ((a : Int) + (k : Int)) = (a : Int) + (k : Int) := by unfold wrap64; omega
      have htn : ((a : Int) + (k : Int)).toNat = a + k := by omega
      have HV := Lib.hid hV
      clear hV hx hc
      go_wp2_with fail
      go_roundw
      case rel => exact ⟨k + 1, V * 256 + c.toNat, by omega, by go_num, by go_num, hV2.out, by first | rfl | trivial⟩
      case measure => simp [intOf]; omega
    · obtain rfl : k = n := by omega
      have hkI : ¬ (k : Int) < (k : Int) := by omega
      have HV := Lib.hid hV
      clear hV
      go_wp2_with fail
      go_ret
      exact ⟨by rw [HV.out]; rfl, rfl⟩
set_option maxRecDepth 100000 in
theorem low_any (v : Nat) (w : World) : Calls Try.prog 44 #[.int .u64 v] w fun e w' => e = .returned (.int .i64 ((v % 2147483648 : Nat) : Int)) ∧ w' = w := by
  obtain ⟨V, hV⟩ : ∃ V, V = v % 2147483648 := ⟨_, rfl⟩
  have hV2 : V < 2147483648 := by omega
  have h1 : (v : Int) % 2147483648 = (V : Int) := by omega
  have h2 : (v : Int).tmod 2147483648 = (V : Int) := by rw [Int.tmod_eq_emod_of_nonneg (by omega)]; exact h1
  rw [← hV]
  have HV := Lib.hid hV
  clear hV
  go_enter Try.func44, Try.ntmps44
  go_wp2_with fail
  go_ret
  exact ⟨rfl, rfl⟩
set_option maxRecDepth 100000 in
set_option maxHeartbeats 4000000 in
theorem in_any (s : ByteArray) (c : UInt8) (hsz : s.size ≤ 100000) (w : World) :
    Calls Try.prog 48 #[.string s, .int .u8 (c.toNat : Int)] w fun e w' => e = .returned (.bool ((bx s).contains c)) ∧ w' = w := by
  obtain ⟨R, hR⟩ : ∃ R, R = (bx s).contains c := ⟨_, rfl⟩
  rw [← hR]
  have HR := Lib.hid hR
  clear hR
  go_enter Try.func48, Try.ntmps48
  go_wp2_with fail
  go_loopw [5] (fun iv wr => ∃ k : Nat, k ≤ s.size ∧ iv = .int .i64 k ∧ (c ∉ (bx s).take k) ∧ wr = w) (fun iv _ => s.size - (intOf iv).toNat)
  case atStart => exact ⟨0, by omega, rfl, by simp, rfl⟩
  case round =>
    obtain ⟨k, hk, rfl, hno, rfl⟩ := hrel
    by_cases hlt : k < s.size
    · have hkI : (k : Int) < (s.size : Int) := by omega
      obtain ⟨d, hd⟩ : ∃ d, d = s[k] := ⟨_, rfl⟩
      have hx : (bx s)[k]? = some d := by rw [hd]; exact bx_get s k hlt
      have q1 : (s[k].toNat : Int) = (d.toNat : Int) := by rw [hd]
      by_cases hcd : d = c
      · have hall : Hid (R = true) := Lib.hid (by rw [HR.out, List.contains_iff_mem, ← hcd]; exact List.mem_of_getElem? hx)
        have g1 : ((d.toNat : Int) == (c.toNat : Int)) = true := by rw [hcd]; simp
        clear hx hd hno hcd
        go_wp2_with fail
        go_ret
        exact ⟨by rw [hall.out]; rfl, rfl⟩
      · have hs2 : Hid (c ∉ (bx s).take (k + 1)) := Lib.hid (by rw [List.take_add_one, hx]; intro h; rcases List.mem_append.1 h with h | h; exact hno h; simp at h; exact hcd h.symm)
        have g1 : ((d.toNat : Int) == (c.toNat : Int)) = false := by
          simp
          intro h
          exact hcd (UInt8.toNat_inj.1 (by omega))
        clear hx hd hno hcd
        go_wp2_with fail
        go_roundw
        case rel => exact ⟨k + 1, by omega, by go_num, hs2.out, by first | rfl | trivial⟩
        case measure => simp [intOf]; omega
    · obtain rfl : k = s.size := by omega
      have hkI : ¬ (s.size : Int) < (s.size : Int) := by omega
      have hall : Hid (R = false) := Lib.hid (by rw [← bx_len, List.take_length] at hno; rw [HR.out]; cases h : (bx s).contains c with | false => rfl | true => exact (hno (List.contains_iff_mem.1 h)).elim)
      clear hno
      go_wp2_with fail
      go_ret
      exact ⟨by rw [hall.out]; rfl, rfl⟩
def namedN (k : Int) : Int := if k = 0 ∨ k = 1 ∨ k = 2 ∨ k = 3 ∨ k = 5 ∨ k = 9 then 1 else if k = 4 ∨ k = 6 ∨ k = 7 then -1 else 0
set_option maxRecDepth 100000 in
set_option maxHeartbeats 4000000 in
theorem named_any (k : Int) (w : World) : Calls Try.prog 65 #[.int .i64 k] w fun e w' => e = .returned (.int .i64 (namedN k)) ∧ w' = w := by
  by_cases k0 : k = 0
  · subst k0
    go_enter Try.func65, Try.ntmps65
    go_wp2_with fail
    go_ret
    exact ⟨rfl, rfl⟩
  have e0 : (k == 0) = false := by simp [k0]
  by_cases k1 : k = 1
  · subst k1
    go_enter Try.func65, Try.ntmps65
    go_wp2_with fail
    go_ret
    exact ⟨rfl, rfl⟩
  have e1 : (k == 1) = false := by simp [k1]
  by_cases k2 : k = 2
  · subst k2
    go_enter Try.func65, Try.ntmps65
    go_wp2_with fail
    go_ret
    exact ⟨rfl, rfl⟩
  have e2 : (k == 2) = false := by simp [k2]
  by_cases k3 : k = 3
  · subst k3
    go_enter Try.func65, Try.ntmps65
    go_wp2_with fail
    go_ret
    exact ⟨rfl, rfl⟩
  have e3 : (k == 3) = false := by simp [k3]
  by_cases k4 : k = 4
  · subst k4
    go_enter Try.func65, Try.ntmps65
    go_wp2_with fail
    go_ret
    exact ⟨rfl, rfl⟩
  have e4 : (k == 4) = false := by simp [k4]
  by_cases k5 : k = 5
  · subst k5
    go_enter Try.func65, Try.ntmps65
    go_wp2_with fail
    go_ret
    exact ⟨rfl, rfl⟩
  have e5 : (k == 5) = false := by simp [k5]
  by_cases k6 : k = 6
  · subst k6
    go_enter Try.func65, Try.ntmps65
    go_wp2_with fail
    go_ret
    exact ⟨rfl, rfl⟩
  have e6 : (k == 6) = false := by simp [k6]
  by_cases k7 : k = 7
  · subst k7
    go_enter Try.func65, Try.ntmps65
    go_wp2_with fail
    go_ret
    exact ⟨rfl, rfl⟩
  have e7 : (k == 7) = false := by simp [k7]
  by_cases k9 : k = 9
  · subst k9
    go_enter Try.func65, Try.ntmps65
    go_wp2_with fail
    go_ret
    exact ⟨rfl, rfl⟩
  have e9 : (k == 9) = false := by simp [k9]
  have hn : Hid (namedN k = 0) := Lib.hid (by unfold namedN; rw [if_neg (by omega), if_neg (by omega)])
  go_enter Try.func65, Try.ntmps65
  go_wp2_with fail
  go_ret
  exact ⟨by rw [hn.out]; rfl, rfl⟩
theorem stray_named (k st : Int) : strayB k st = (if namedN k = 1 then st == 0 else if namedN k = -1 then st != 0 else false) := by
  by_cases h1 : k = 4 ∨ k = 6 ∨ k = 7
  · rcases h1 with rfl | rfl | rfl <;> simp [strayB, namedN]
  · by_cases h2 : k = 0 ∨ k = 1 ∨ k = 2 ∨ k = 3 ∨ k = 5 ∨ k = 9
    · rcases h2 with rfl | rfl | rfl | rfl | rfl | rfl <;> simp [strayB, namedN]
    · have e : namedN k = 0 := by unfold namedN; rw [if_neg h2, if_neg h1]
      rw [e]
      unfold strayB
      rw [if_neg h1, if_neg h2]
      rfl
set_option maxRecDepth 100000 in
set_option maxHeartbeats 4000000 in
theorem rstray_any (k st : Int) (w : World) : Calls Try.prog 46 #[.int .i64 k, .int .i64 st] w fun e w' => e = .returned (.bool (strayB k st)) ∧ w' = w := by
  have hs := stray_named k st
  have h3 : namedN k = 1 ∨ namedN k = -1 ∨ namedN k = 0 := by unfold namedN; split; exact Or.inl rfl; split; exact Or.inr (Or.inl rfl); exact Or.inr (Or.inr rfl)
  obtain ⟨B, hB⟩ : ∃ B, B = strayB k st := ⟨_, rfl⟩
  rw [← hB] at hs ⊢
  have NA := Lib.hid (named_any k w)
  obtain ⟨N, hN⟩ : ∃ N, N = namedN k := ⟨_, rfl⟩
  rw [← hN] at hs h3 NA
  clear hB hN
  rcases h3 with rfl | rfl | rfl
  all_goals
    rcases neC st 0 with h0 | ⟨h0, e1, e2⟩
    · subst h0
      simp at hs
      have HS := Lib.hid hs
      clear hs
      go_enter Try.func46, Try.ntmps46
      go_wp2_with fail
      refine NA.out.mono ?_; rintro e w1 ⟨rfl, rfl⟩
      go_wp2_with fail
      go_ret
      exact ⟨by rw [HS.out]; rfl, rfl⟩
    · rw [e1, e2] at hs
      simp at hs
      have HS := Lib.hid hs
      clear hs
      go_enter Try.func46, Try.ntmps46
      go_wp2_with fail
      refine NA.out.mono ?_; rintro e w1 ⟨rfl, rfl⟩
      go_wp2_with fail
      go_ret
      exact ⟨by rw [HS.out]; rfl, rfl⟩
end Go.Proofs.Ythhgnipiaohplaa.Fr
namespace Go.Proofs.Ythhgnipiaohplaa.Fr
open Go.ChangeShapes Go.WideShapes Go.ChangeAt Go.RowKit
open Go.Proofs.Ythhgnipiaohplaa.B
set_option linter.unusedVariables false
set_option linter.unusedSimpArgs false

/-- The letters of a kind. -/
def hasL (k : Int) : List UInt8 :=
  if k = 0 then [101, 112, 98] else if k = 1 then [101, 104, 112, 114, 98] else if k = 2 then [119] else if k = 3 then [99] else if k = 4 then [97, 108] else
  if k = 5 then [104, 112, 116, 98] else if k = 6 then [97, 98] else if k = 7 then [116, 99, 98] else if k = 8 then [105] else if k = 9 then [104, 98] else [102, 98]
theorem hasL_len (k : Int) : (hasL k).length ≤ 5 := by
  unfold hasL
  repeat' split
  all_goals decide
set_option maxRecDepth 100000 in
set_option maxHeartbeats 4000000 in
theorem rhas_any (k : Int) (w : World) : Calls Try.prog 49 #[.int .i64 k] w fun e w' => e = .returned (.string (bstr (hasL k))) ∧ Chg [] w w' := by
  by_cases k0 : k = 0
  · subst k0
    go_enter Try.func49, Try.ntmps49
    go_wp2_with fail
    go_ret
    exact ⟨rfl, (Chg.refl w).alloc _⟩
  by_cases k1 : k = 1
  · subst k1
    go_enter Try.func49, Try.ntmps49
    go_wp2_with fail
    go_ret
    exact ⟨rfl, (Chg.refl w).alloc _⟩
  by_cases k2 : k = 2
  · subst k2
    go_enter Try.func49, Try.ntmps49
    go_wp2_with fail
    go_ret
    exact ⟨rfl, (Chg.refl w).alloc _⟩
  by_cases k3 : k = 3
  · subst k3
    go_enter Try.func49, Try.ntmps49
    go_wp2_with fail
    go_ret
    exact ⟨rfl, (Chg.refl w).alloc _⟩
  by_cases k4 : k = 4
  · subst k4
    go_enter Try.func49, Try.ntmps49
    go_wp2_with fail
    go_ret
    exact ⟨rfl, (Chg.refl w).alloc _⟩
  by_cases k5 : k = 5
  · subst k5
    go_enter Try.func49, Try.ntmps49
    go_wp2_with fail
    go_ret
    exact ⟨rfl, (Chg.refl w).alloc _⟩
  by_cases k6 : k = 6
  · subst k6
    go_enter Try.func49, Try.ntmps49
    go_wp2_with fail
    go_ret
    exact ⟨rfl, (Chg.refl w).alloc _⟩
  by_cases k7 : k = 7
  · subst k7
    go_enter Try.func49, Try.ntmps49
    go_wp2_with fail
    go_ret
    exact ⟨rfl, (Chg.refl w).alloc _⟩
  by_cases k8 : k = 8
  · subst k8
    go_enter Try.func49, Try.ntmps49
    go_wp2_with fail
    go_ret
    exact ⟨rfl, (Chg.refl w).alloc _⟩
  by_cases k9 : k = 9
  · subst k9
    go_enter Try.func49, Try.ntmps49
    go_wp2_with fail
    go_ret
    exact ⟨rfl, (Chg.refl w).alloc _⟩
  have hh : Hid (hasL k = [102, 98]) := Lib.hid (by unfold hasL; rw [if_neg k0, if_neg k1, if_neg k2, if_neg k3, if_neg k4, if_neg k5, if_neg k6, if_neg k7, if_neg k8, if_neg k9])
  rcases ltC k 0 with ⟨h1, _⟩ | ⟨h1, h1'⟩
  · clear k0 k1 k2 k3 k4 k5 k6 k7 k8 k9
    go_enter Try.func49, Try.ntmps49
    go_wp2_with fail
    go_ret
    exact ⟨by rw [hh.out]; rfl, Chg.refl w⟩
  · have h2 : ¬ k ≤ 9 := by omega
    clear k0 k1 k2 k3 k4 k5 k6 k7 k8 k9
    go_enter Try.func49, Try.ntmps49
    go_wp2_with fail
    go_ret
    exact ⟨by rw [hh.out]; rfl, Chg.refl w⟩
theorem bx_bstr (l : List UInt8) : bx (bstr l) = l := by simp [bx, bstr]
theorem in_has (k : Int) (c : UInt8) (b : Bool) (h : (hasL k).contains c = b) (w : World) :
    Calls Try.prog 48 #[.string (bstr (hasL k)), .int .u8 (c.toNat : Int)] w fun e w' => e = .returned (.bool b) ∧ w' = w := by
  have h1 := in_any (bstr (hasL k)) c (by rw [bstr_size]; have := hasL_len k; omega) w
  rw [show bx (bstr (hasL k)) = hasL k by simp [bx, bstr], h] at h1
  exact h1
end Go.Proofs.Ythhgnipiaohplaa.Fr
