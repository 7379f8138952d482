/-
  The document's Next: a head is all there: too long, not all there, stray.
-/
import Derived.Test.YthhgnipiaohplaaMx
import Derived.Deep.DeepCutAuto
namespace Go.Proofs.Ythhgnipiaohplaa.Fr
open Go.ChangeShapes Go.WideShapes Go.ChangeAt Go.RowKit
open Go.Proofs.Ythhgnipiaohplaa.B
set_option linter.unusedVariables false
set_option linter.unusedSimpArgs false

theorem at_cell? {w : World} {g : Nat} {cs : Array Value} {T : TypeId} {fz : Nat × Nat} (h : At w g (.cells cs T fz)) (i : Nat) : w.cell? ⟨g, i, none⟩ = cs[i]? := by
  unfold At at h
  simp [World.cell?, h]
/-- Octets do not lie in a block that holds none. -/
theorem bytes_ne {w : World} {v : Value} {l : List UInt8} {g : Nat} {cs : Array Value} {T : TypeId} {fz : Nat × Nat} (h : BytesOf w v l) (hAt : At w g (.cells cs T fz)) (hno : (cs.all fun c => match c with | .int .u8 _ => false | _ => true) = true)
    {w' : World} (hc : Chg [g] w w') : BytesOf w' v l := by
  obtain ⟨a, cap, rfl, h1, h2⟩ := h.slice
  rcases Nat.eq_zero_or_pos l.length with h0 | h0
  · exact ⟨a, cap, rfl, h1, h2, fun hh => by omega⟩
  · obtain ⟨b, off, rfl, hb, hcell⟩ := h.cell h0
    refine h.chg hc (fun a n cap e => ?_)
    cases e
    simp only [List.mem_singleton]
    rintro rfl
    obtain ⟨c, hc0⟩ : ∃ c, l[0]? = some c := ⟨_, List.getElem?_eq_getElem h0⟩
    have h3 := hcell 0 c hc0
    rw [at_cell? hAt] at h3
    have h4 := Array.all_eq_true'.1 hno _ (Array.mem_of_getElem? h3)
    simp at h4
theorem has_pad (k : Nat) : (hasL (k : Int)).contains 112 = padK k := by
  match k with
  | 0 | 1 | 2 | 3 | 4 | 5 | 6 | 7 | 8 | 9 => decide
  | n + 10 =>
    rw [hasL_oth ((n + 10 : Nat)) (by omega)]
    rfl
theorem docR_len2 {k st : Nat} {fl : UInt8} {s rest : List UInt8} (h : badLen k fl s.length = true) (hk : k = 2) : docR k st fl s rest = .fault 6 st rest := by
  unfold docR; rw [if_pos h, if_pos hk]
theorem docR_len {k st : Nat} {fl : UInt8} {s rest : List UInt8} (h : badLen k fl s.length = true) (hk : ¬ k = 2) : docR k st fl s rest = .broken 6 := by
  unfold docR; rw [if_pos h, if_neg hk]
theorem docR_pad {k st : Nat} {fl : UInt8} {s rest : List UInt8} (h : badLen k fl s.length = false) (hk : badPad k fl s = true) : docR k st fl s rest = .broken 1 := by
  unfold docR; rw [if_neg (by simp [h]), if_pos hk]
theorem docR_ok {k st : Nat} {fl : UInt8} {s rest : List UInt8} (h : badLen k fl s.length = false) (hk : badPad k fl s = false) : docR k st fl s rest = okR k st (readF k fl s) rest := by
  unfold docR; rw [if_neg (by simp [h]), if_neg (by simp [hk])]
theorem leastN_le (k : Nat) (fl : UInt8) : leastN k fl ≤ 14 := by
  unfold leastN pb
  repeat' split
  all_goals omega
set_option maxRecDepth 100000 in
set_option maxHeartbeats 16000000 in
theorem rnext_low {W w : World} {p : Nat} {a b c k fl s1 s2 s3 s4 : UInt8} {r : List UInt8} {mx : Nat} (h : RP W w p (a :: b :: c :: k :: fl :: s1 :: s2 :: s3 :: s4 :: r) mx false) (hr : r.length ≤ 100000000) (ql : mx < threeN a b c ∨ r.length < threeN a b c ∨ strayB (k.toNat : Nat) ((fourN s1 s2 s3 s4 % 2147483648 : Nat) : Int) = true) :
    Calls Try.prog 22 #[.pointer (some ⟨p, 0, none⟩)] w fun e w' => RNext W w p (a :: b :: c :: k :: fl :: s1 :: s2 :: s3 :: s4 :: r) mx false e w' (nxt9 mx a b c k fl s1 s2 s3 s4 r) := by
  have QL := Lib.hid ql
  clear ql
  obtain ⟨X, hX⟩ : ∃ X, X = bstr (a :: b :: c :: k :: fl :: s1 :: s2 :: s3 :: s4 :: r) := ⟨_, rfl⟩
  obtain ⟨RN, hRN⟩ : ∃ n, n = r.length := ⟨_, rfl⟩
  have zX : X.size = RN + 9 := by rw [hX, bstr_size, hRN]; simp
  obtain ⟨K, hK⟩ : ∃ n : Nat, n = k.toNat := ⟨_, rfl⟩
  obtain ⟨FL, hFL⟩ : ∃ n : Nat, n = fl.toNat := ⟨_, rfl⟩
  have hK8 : K < 256 := by rw [hK]; exact k.toNat_lt
  have hF8 : FL < 256 := by rw [hFL]; exact fl.toNat_lt
  have q3 : ∀ h, ((X[3]'h).toNat : Int) = (K : Int) := fun h => by subst hX; rw [bstr_at, hK]; rfl
  have q4 : ∀ h, ((X[4]'h).toNat : Int) = (FL : Int) := fun h => by subst hX; rw [bstr_at, hFL]; rfl
  obtain ⟨N, hN⟩ : ∃ N, N = threeN a b c := ⟨_, rfl⟩
  have hN3 : N < 16777216 := by rw [hN]; unfold threeN; have := a.toNat_lt; have := b.toNat_lt; have := c.toNat_lt; omega
  obtain ⟨V, hV⟩ : ∃ V, V = fourN s1 s2 s3 s4 := ⟨_, rfl⟩
  have hV4 : V < 4294967296 := by rw [hV]; exact get4_lt [s1, s2, s3, s4]
  obtain ⟨ST, hST⟩ : ∃ n, n = V % 2147483648 := ⟨_, rfl⟩
  have hST2 : ST < 2147483648 := by rw [hST]; omega
  have G3 : Hid (∀ w, Calls Try.prog 43 #[.string X, .int .i64 0, .int .i64 3] w fun e w' => e = .returned (.int .u64 (N : Int)) ∧ w' = w) := Lib.hid (fun w => by rw [hX, hN]; exact get3_any a b c _ (by simp; omega) w)
  have G5 : Hid (∀ w, Calls Try.prog 43 #[.string X, .int .i64 5, .int .i64 4] w fun e w' => e = .returned (.int .u64 (V : Int)) ∧ w' = w) := Lib.hid (fun w => by rw [hX, hV]; exact get5_any a b c k fl s1 s2 s3 s4 r hr w)
  have LOW : Hid (∀ w, Calls Try.prog 44 #[.int .u64 (V : Int)] w fun e w' => e = .returned (.int .i64 (ST : Int)) ∧ w' = w) := Lib.hid (fun w => by rw [hST]; exact low_any V w)
  obtain ⟨w3, hw3⟩ : ∃ w3, w3 = (w.alloc (.cells noF 27)).alloc (.cells noX 46) := ⟨_, rfl⟩
  have c0 : Chg [] w w3 := by rw [hw3]; exact ((Chg.refl w).alloc _).alloc _
  have b1 : At w3 w.heap.size (.cells noF 27 (0, 0)) := by rw [hw3]; exact (At.new w _).alloc _
  have b2 : At w3 (w.heap.size + 1) (.cells noX 46 (0, 0)) := by rw [hw3]; exact At.new' (w := w.alloc (.cells noF 27)) (by simp)
  have hpw := h.head.lt
  have H3 := Lib.hid (h.chg0 c0); have C0 := Lib.hid c0; have B1 := Lib.hid b1; have B2 := Lib.hid b2; have HW := Lib.hid hw3
  have x0 : World.cell? w3 ⟨p, 0, none⟩ = some (.string X) := by rw [hX]; exact H3.out.head.cell rfl
  have x1 : World.cell? w3 ⟨p, 1, none⟩ = some (.int .i64 (mx : Int)) := H3.out.head.cell rfl
  have x2 : World.cell? w3 ⟨p, 2, none⟩ = some (.bool false) := H3.out.head.cell rfl
  have hp3 := H3.out.head.lt
  have xf : True := trivial
  have HX := Lib.hid hX; have HRN := Lib.hid hRN; have HK := Lib.hid hK; have HFL := Lib.hid hFL; have HN := Lib.hid hN; have HV := Lib.hid hV; have HST := Lib.hid hST
  have hm2 := h.b2
  rw [← hRN] at hr
  clear h hX hRN hK hFL hN hV hST hw3 c0 b1 b2
  go_enter Try.func22, Try.ntmps22
  go_upto_region 1 with fail
  rw [← HW.out]
  go_upto_region 7 with (first
    | (go_at_call 43; first
      | (with_reducible refine (G3.out _).mono ?_; rintro e wx ⟨rfl, hw⟩; have hw' := hw.symm; subst hw')
      | (with_reducible refine (G5.out _).mono ?_; rintro e wx ⟨rfl, hw⟩; have hw' := hw.symm; subst hw'))
    | (go_at_call 44; with_reducible refine (LOW.out _).mono ?_; rintro e wx ⟨rfl, hw⟩; have hw' := hw.symm; subst hw'))
  by_cases hm : mx < N
  · have HO : Hid (nxt9 mx a b c k fl s1 s2 s3 s4 r = .broken 6) := Lib.hid (by unfold nxt9; rw [← HN.out, if_pos hm])
    have g : (mx : Int) < (N : Int) := by omega
    go_wp2_with fail
    refine (rbroken_any H3.out 6).mono ?_; rintro e w5 ⟨rfl, h5, c5⟩
    have b15 := B1.out.chg c5 (by simp; omega)
    have b25 := B2.out.chg c5 (by simp; omega)
    have H5 := Lib.hid h5; have C5 := Lib.hid ((C0.out.mono (m := [p]) (by simp)).trans' c5)
    clear h5 c5 x0 x2 xf
    go_wp2_with (refine store_whole rfl 27 _ _ rfl w.heap.size _ _ 27 rfl rfl b15 infoFr rfl (by simp [Value.oneCell']) ?_)
    intro w31 s31 c31
    have b231 := At.chg b25 c31 (by simp)
    go_wp2_with (refine store_whole rfl 46 _ _ rfl (w.heap.size + 1) _ _ 46 rfl rfl b231 infoFa rfl (by simp [Value.oneCell']) ?_)
    intro w32 s32 c32
    have s33 := At.chg s31 c32 (by simp)
    have c33 : Chg [w.heap.size, w.heap.size + 1] w5 w32 := (c31.mono (by simp)).trans' (c32.mono (by simp))
    have C33 := Lib.hid c33; have C31 := Lib.hid c31; have C32 := Lib.hid c32
    clear c31 c32 c33 b231 s31
    go_wp2_with fail
    have z0 := s33.cell (o := 0) rfl
    have z1 := s33.cell (o := 1) rfl
    have z2 := s33.cell (o := 2) rfl
    have z3 := s33.cell (o := 3) rfl
    have z4 := s33.cell (o := 4) rfl
    have z5 := s33.cell (o := 5) rfl
    have z6 := s33.cell (o := 6) rfl
    have z7 := s33.cell (o := 7) rfl
    have z8 := s33.cell (o := 8) rfl
    have z9 := s33.cell (o := 9) rfl
    have z10 := s33.cell (o := 10) rfl
    have z11 := s33.cell (o := 11) rfl
    have z12 := s33.cell (o := 12) rfl
    have z13 := s33.cell (o := 13) rfl
    have z14 := s33.cell (o := 14) rfl
    have z15 := s33.cell (o := 15) rfl
    have y0 := s32.cell (o := 0) rfl
    have y1 := s32.cell (o := 1) rfl
    have y2 := s32.cell (o := 2) rfl
    refine bodyPost_ret (v := .tuple #[.agg noF, .agg #[.bool true, .int .u32 6, .int .i64 0], .bool true]) (by simp [results, Try.results22, go_sem, z0, z1, z2, z3, z4, z5, z6, z7, z8, z9, z10, z11, z12, z13, z14, z15, y0, y1, y2]) rfl ?_
    rw [HO.out]
    exact ⟨rfl, H5.out.chg C33.out (by simp; omega), C5.out.trans C33.out (fun x hx => Or.inr (by simp at hx; omega))⟩
  have g7 : ¬ (mx : Int) < (N : Int) := by omega
  by_cases hw : RN < N
  · have HO : Hid (nxt9 mx a b c k fl s1 s2 s3 s4 r = .none) := Lib.hid (by unfold nxt9; rw [← HN.out, if_neg hm, ← HRN.out, if_pos hw])
    have g : (RN : Int) < (N : Int) := by omega
    go_wp2_with (refine store_whole rfl 27 _ _ rfl w.heap.size _ _ 27 rfl rfl B1.out infoFr rfl (by simp [Value.oneCell']) ?_)
    intro w31 s31 c31
    have b231 := At.chg B2.out c31 (by simp)
    go_wp2_with (refine store_whole rfl 46 _ _ rfl (w.heap.size + 1) _ _ 46 rfl rfl b231 infoFa rfl (by simp [Value.oneCell']) ?_)
    intro w32 s32 c32
    have s33 := At.chg s31 c32 (by simp)
    have c33 : Chg [w.heap.size, w.heap.size + 1] w3 w32 := (c31.mono (by simp)).trans' (c32.mono (by simp))
    have C33 := Lib.hid c33; have C31 := Lib.hid c31; have C32 := Lib.hid c32
    clear c31 c32 c33 b231 s31
    go_wp2_with fail
    have z0 := s33.cell (o := 0) rfl
    have z1 := s33.cell (o := 1) rfl
    have z2 := s33.cell (o := 2) rfl
    have z3 := s33.cell (o := 3) rfl
    have z4 := s33.cell (o := 4) rfl
    have z5 := s33.cell (o := 5) rfl
    have z6 := s33.cell (o := 6) rfl
    have z7 := s33.cell (o := 7) rfl
    have z8 := s33.cell (o := 8) rfl
    have z9 := s33.cell (o := 9) rfl
    have z10 := s33.cell (o := 10) rfl
    have z11 := s33.cell (o := 11) rfl
    have z12 := s33.cell (o := 12) rfl
    have z13 := s33.cell (o := 13) rfl
    have z14 := s33.cell (o := 14) rfl
    have z15 := s33.cell (o := 15) rfl
    have y0 := s32.cell (o := 0) rfl
    have y1 := s32.cell (o := 1) rfl
    have y2 := s32.cell (o := 2) rfl
    refine bodyPost_ret (v := .tuple #[.agg noF, .agg noX, .bool false]) (by simp [results, Try.results22, go_sem, z0, z1, z2, z3, z4, z5, z6, z7, z8, z9, z10, z11, z12, z13, z14, z15, y0, y1, y2]) rfl ?_
    rw [HO.out]
    exact ⟨rfl, H3.out.chg C33.out (by simp; omega), C0.out.trans C33.out (fun x hx => Or.inr (by simp at hx; omega))⟩
  have g8 : ¬ (RN : Int) < (N : Int) := by omega
  obtain ⟨sb, hsb⟩ : ∃ b, b = strayB (K : Int) (ST : Int) := ⟨_, rfl⟩
  have RS : Hid (∀ w, Calls Try.prog 46 #[.int .i64 (K : Int), .int .i64 (ST : Int)] w fun e w' => e = .returned (.bool sb) ∧ w' = w) := Lib.hid (fun w => by rw [hsb]; exact rstray_any _ _ w)
  have HSB := Lib.hid hsb
  clear hsb
  go_wp2_with fail
  refine (RS.out _).mono ?_; rintro e wx ⟨rfl, hw'⟩
  have hw2 := hw'.symm
  subst hw2
  cases sb with
  | true =>
    have HO : Hid (nxt9 mx a b c k fl s1 s2 s3 s4 r = .broken 1) := Lib.hid (by unfold nxt9; rw [← HN.out, if_neg hm, ← HRN.out, if_neg hw, ← HV.out, ← HST.out, ← HK.out, ← HSB.out, if_pos rfl])
    go_wp2_with fail
    refine (rbroken_any H3.out 1).mono ?_; rintro e w5 ⟨rfl, h5, c5⟩
    have b15 := B1.out.chg c5 (by simp; omega)
    have b25 := B2.out.chg c5 (by simp; omega)
    have H5 := Lib.hid h5; have C5 := Lib.hid ((C0.out.mono (m := [p]) (by simp)).trans' c5)
    clear h5 c5 x0 x2 xf
    go_wp2_with (refine store_whole rfl 27 _ _ rfl w.heap.size _ _ 27 rfl rfl b15 infoFr rfl (by simp [Value.oneCell']) ?_)
    intro w31 s31 c31
    have b231 := At.chg b25 c31 (by simp)
    go_wp2_with (refine store_whole rfl 46 _ _ rfl (w.heap.size + 1) _ _ 46 rfl rfl b231 infoFa rfl (by simp [Value.oneCell']) ?_)
    intro w32 s32 c32
    have s33 := At.chg s31 c32 (by simp)
    have c33 : Chg [w.heap.size, w.heap.size + 1] w5 w32 := (c31.mono (by simp)).trans' (c32.mono (by simp))
    have C33 := Lib.hid c33; have C31 := Lib.hid c31; have C32 := Lib.hid c32
    clear c31 c32 c33 b231 s31
    go_wp2_with fail
    have z0 := s33.cell (o := 0) rfl
    have z1 := s33.cell (o := 1) rfl
    have z2 := s33.cell (o := 2) rfl
    have z3 := s33.cell (o := 3) rfl
    have z4 := s33.cell (o := 4) rfl
    have z5 := s33.cell (o := 5) rfl
    have z6 := s33.cell (o := 6) rfl
    have z7 := s33.cell (o := 7) rfl
    have z8 := s33.cell (o := 8) rfl
    have z9 := s33.cell (o := 9) rfl
    have z10 := s33.cell (o := 10) rfl
    have z11 := s33.cell (o := 11) rfl
    have z12 := s33.cell (o := 12) rfl
    have z13 := s33.cell (o := 13) rfl
    have z14 := s33.cell (o := 14) rfl
    have z15 := s33.cell (o := 15) rfl
    have y0 := s32.cell (o := 0) rfl
    have y1 := s32.cell (o := 1) rfl
    have y2 := s32.cell (o := 2) rfl
    refine bodyPost_ret (v := .tuple #[.agg noF, .agg #[.bool true, .int .u32 1, .int .i64 0], .bool true]) (by simp [results, Try.results22, go_sem, z0, z1, z2, z3, z4, z5, z6, z7, z8, z9, z10, z11, z12, z13, z14, z15, y0, y1, y2]) rfl ?_
    rw [HO.out]
    exact ⟨rfl, H5.out.chg C33.out (by simp; omega), C5.out.trans C33.out (fun x hx => Or.inr (by simp at hx; omega))⟩
  | false =>
    exfalso
    rcases QL.out with q | q | q
    · exact hm (by rw [HN.out]; exact q)
    · exact hw (by rw [HN.out, HRN.out]; exact q)
    · have := HSB.out
      rw [HK.out, HST.out, HV.out, q] at this
      cases this
end Go.Proofs.Ythhgnipiaohplaa.Fr
