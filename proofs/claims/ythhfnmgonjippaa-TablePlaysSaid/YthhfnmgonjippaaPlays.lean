/-
  TablePlays: each call does what the document says: any Max, any steps.
-/
import Derived.Test.YthhfnmgonjippaaSmall
import Derived.Test.YthhfnmgonjippaaArgT
namespace Go.Proofs.Ythhfnmgonjippaa.Tb.Plays
open Go.ChangeShapes Go.WideShapes Go.ChangeAt Go.RowKit
open Go.Proofs.Ythhfnmgonjippaa.B Go.Proofs.Ythhfnmgonjippaa.Tb
set_option linter.unusedVariables false
set_option linter.unusedSimpArgs false

/-- A table and the document's, of like content, apart from each other. -/
def PR (W w : World) (F G : List Nat) (p q m : Nat) (es : List Fd) : Prop := Has W w F p m es ∧ (∃ sv, RT w W.heap.size q sv m es.reverse ∧ G = foot q sv) ∧ ∀ x ∈ F, x ∉ G
section
variable {W w w' w1 w2 : World} {F F2 G : List Nat} {p q m m2 : Nat} {es es2 : List Fd}
theorem PR.lt (h : PR W w F G p q m es) : ∀ x ∈ F ++ G, x < w.heap.size := by
  obtain ⟨h1, ⟨sv, h2, rfl⟩, _⟩ := h
  intro x hx
  rcases List.mem_append.1 hx with hx | hx
  · exact h1.lt x hx
  · exact h2.foot_lt x hx
theorem PR.lo (h : PR W w F G p q m es) : ∀ x ∈ F ++ G, W.heap.size ≤ x := by
  obtain ⟨h1, ⟨sv, h2, rfl⟩, _⟩ := h
  intro x hx
  rcases List.mem_append.1 hx with hx | hx
  · exact h1.lo x hx
  · exact h2.foot_lo x hx
theorem PR.chg {l : List Nat} (h : PR W w F G p q m es) (hc : Chg l w w') (hd : ∀ x ∈ F ++ G, x ∉ l) (hl : ∀ x ∈ l, W.heap.size ≤ x) : PR W w' F G p q m es := by
  obtain ⟨h1, ⟨sv, h2, rfl⟩, h3⟩ := h
  exact ⟨h1.chg hc (fun x hx => hd x (List.mem_append_left _ hx)) hl, ⟨sv, h2.chg hc (fun x hx => hd x (List.mem_append_right _ hx)), rfl⟩, h3⟩
theorem PR.first (h : PR W w F G p q m es) (c1 : Chg F w w1) : ∃ sv, RT w1 W.heap.size q sv m es.reverse ∧ G = foot q sv := by
  obtain ⟨_, ⟨sv, h2, rfl⟩, h3⟩ := h
  exact ⟨sv, h2.chg c1 (fun x hx hx2 => h3 x hx2 hx), rfl⟩
theorem PR.second {sv sv2 : Value} (h : PR W w F G p q m es) (s1 : Has W w1 F2 p m2 es2) (f1 : Fresh F2 F w) (c1 : Chg F w w1) (hG : G = foot q sv) (c2 : Chg [q] w1 w2) (r2 : RT w2 W.heap.size q sv2 m2 es2.reverse)
    (f2 : ∀ g ∈ sv2.ownBlock.toList, g ∈ sv.ownBlock.toList ∨ w1.heap.size ≤ g) : PR W w2 F2 (foot q sv2) p q m2 es2 ∧ Fresh (F2 ++ foot q sv2) (F ++ G) w ∧ Chg (F ++ G) w w2 := by
  obtain ⟨h1, ⟨sv0, h2, hG2⟩, h3⟩ := h
  have hqG : q ∈ G := by rw [hG]; simp [foot]
  have hq : q < w.heap.size := h2.head.lt
  have hF2 : ∀ x ∈ F2, x ∉ G := by
    intro x hx hxG
    rcases f1 x hx with h | h
    · exact h3 x h hxG
    · rw [hG2] at hxG
      have := h2.foot_lt x hxG; omega
  have hs := c1.size
  refine ⟨⟨s1.chg c2 (fun x hx hq2 => hF2 x hx (by simp at hq2; rw [hq2]; exact hqG)) (by intro x hx; simp at hx; rw [hx]; exact h2.lo), ⟨sv2, r2, rfl⟩, ?_⟩, ?_, ?_⟩
  · intro x hx hxf
    rcases List.mem_cons.1 hxf with rfl | hxf
    · exact hF2 x hx hqG
    · rcases f2 x hxf with h | h
      · exact hF2 x hx (by rw [hG]; simp [foot, h])
      · have := s1.lt x hx; omega
  · intro x hx
    rcases List.mem_append.1 hx with hx | hx
    · exact (f1 x hx).imp (fun h => List.mem_append_left _ h) id
    · rcases List.mem_cons.1 hx with rfl | hx
      · exact Or.inl (List.mem_append_right _ hqG)
      · rcases f2 x hx with h | h
        · exact Or.inl (List.mem_append_right _ (by rw [hG]; simp [foot, h]))
        · exact Or.inr (by omega)
  · exact (c1.mono (fun x hx => List.mem_append_left _ hx)).trans (c2.mono (m := F ++ G) (fun x hx => by simp at hx; rw [hx]; exact List.mem_append_right _ hqG)) (fun x hx => Or.inl hx)
end
/-- The pair that does not go on; none, or one of its own. -/
def Old (W w : World) (o z : Value) (A : List Nat) : Prop := (o = .pointer none ∧ z = .pointer none ∧ A = []) ∨ ∃ F G p q m es, o = .pointer (some ⟨p, 0, none⟩) ∧ z = .pointer (some ⟨q, 0, none⟩) ∧ PR W w F G p q m es ∧ A = F ++ G
theorem Old.lt {W w : World} {o z : Value} {A : List Nat} (h : Old W w o z A) : ∀ x ∈ A, x < w.heap.size := by
  rcases h with ⟨_, _, rfl⟩ | ⟨F, G, p, q, m, es, _, _, h, rfl⟩
  · simp
  · exact h.lt
theorem Old.chg {W w w' : World} {o z : Value} {A l : List Nat} (h : Old W w o z A) (hc : Chg l w w') (hd : ∀ x ∈ A, x ∉ l) (hl : ∀ x ∈ l, W.heap.size ≤ x) : Old W w' o z A := by
  rcases h with h | ⟨F, G, p, q, m, es, h1, h2, h3, rfl⟩
  · exact Or.inl h
  · exact Or.inr ⟨F, G, p, q, m, es, h1, h2, h3.chg hc hd hl, rfl⟩
/-- All that the steps go on with. -/
def St (W w : World) (p q : Nat) (o z : Value) : Prop := ∃ F G m es A, PR W w F G p q m es ∧ Old W w o z A ∧ ∀ x ∈ F ++ G, x ∉ A
section
variable {W w w' w1 w2 : World} {F F2 G A : List Nat} {p q m m2 : Nat} {es es2 : List Fd} {o z : Value}
theorem St.below (h : St W w p q o z) : Below W.heap.size W w := by obtain ⟨F, G, m, es, A, h, _⟩ := h; exact h.1.below
theorem St.chg0 (h : St W w p q o z) (hc : Chg [] w w') : St W w' p q o z := by
  obtain ⟨F, G, m, es, A, h1, h2, h3⟩ := h
  exact ⟨F, G, m, es, A, h1.chg hc (by simp) (by simp), h2.chg hc (by simp) (by simp), h3⟩
theorem St.two {sv sv2 : Value} (h : PR W w F G p q m es) (ho : Old W w o z A) (ha : ∀ x ∈ F ++ G, x ∉ A) (s1 : Has W w1 F2 p m2 es2) (f1 : Fresh F2 F w) (c1 : Chg F w w1) (hG : G = foot q sv) (c2 : Chg [q] w1 w2) (r2 : RT w2 W.heap.size q sv2 m2 es2.reverse)
    (f2 : ∀ g ∈ sv2.ownBlock.toList, g ∈ sv.ownBlock.toList ∨ w1.heap.size ≤ g) : St W w2 p q o z := by
  obtain ⟨a, b, c⟩ := h.second s1 f1 c1 hG c2 r2 f2
  refine ⟨_, _, _, _, A, a, ho.chg c (fun x hx hx2 => ha x hx2 hx) h.lo, fun x hx hxA => ?_⟩
  rcases b x hx with h1 | h1
  · exact ha x h1 hxA
  · have := ho.lt x hxA; omega
theorem St.five {q2 p2 : Nat} {sv : Value} (h : PR W w F G p q m es) (c1 : Chg [] w w1) (r : RT w1 W.heap.size q2 sv m es.reverse) (hq : w.heap.size ≤ q2) (hr : ∀ g ∈ sv.ownBlock.toList, w.heap.size ≤ g)
    (c2 : Chg [] w1 w2) (s : Has W w2 F2 p2 m es) (hs : ∀ x ∈ F2, w1.heap.size ≤ x) : St W w2 p2 q (.pointer (some ⟨p, 0, none⟩)) (.pointer (some ⟨q2, 0, none⟩)) := by
  have hlt := h.lt
  have hsz := c1.size
  obtain ⟨h1, ⟨sv0, h2, rfl⟩, h3⟩ := h
  have hf2 : ∀ x ∈ foot q2 sv, w.heap.size ≤ x := by
    intro x hx
    rcases List.mem_cons.1 hx with rfl | hx
    · exact hq
    · exact hr x hx
  refine ⟨F2, foot q sv0, m, es, F ++ foot q2 sv, ⟨s, ⟨sv0, (h2.chg0 c1).chg0 c2, rfl⟩, ?_⟩, Or.inr ⟨F, foot q2 sv, p, q2, m, es, rfl, rfl, ⟨(h1.chg0 c1).chg0 c2, ⟨sv, r.chg0 c2, rfl⟩, ?_⟩, rfl⟩, ?_⟩
  · intro x hx hx2
    have := hs x hx; have := hlt x (List.mem_append_right _ hx2); omega
  · intro x hx hx2
    have := hf2 x hx2; have := hlt x (List.mem_append_left _ hx); omega
  · intro x hx hx2
    rcases List.mem_append.1 hx with hx | hx <;> rcases List.mem_append.1 hx2 with hx2 | hx2
    · have := hs x hx; have := hlt x (List.mem_append_left _ hx2); omega
    · have := hs x hx; have := r.foot_lt x hx2; omega
    · exact h3 x hx2 hx
    · have := hf2 x hx2; have := hlt x (List.mem_append_right _ hx); omega
theorem St.six {q2 p2 : Nat} {sv : Value} (h : PR W w F G p q m es) (c1 : Chg [] w w1) (s : Has W w1 F2 p2 m es) (hs : ∀ x ∈ F2, w.heap.size ≤ x)
    (c2 : Chg [] w1 w2) (r : RT w2 W.heap.size q2 sv m es.reverse) (hq : w1.heap.size ≤ q2) (hr : ∀ g ∈ sv.ownBlock.toList, w1.heap.size ≤ g) : St W w2 p q (.pointer (some ⟨p2, 0, none⟩)) (.pointer (some ⟨q2, 0, none⟩)) := by
  have hlt := h.lt
  have hsz := c1.size
  have hf2 : ∀ x ∈ foot q2 sv, w1.heap.size ≤ x := by
    intro x hx
    rcases List.mem_cons.1 hx with rfl | hx
    · exact hq
    · exact hr x hx
  refine ⟨F, G, m, es, F2 ++ foot q2 sv, (h.chg c1 (by simp) (by simp)).chg c2 (by simp) (by simp), Or.inr ⟨F2, foot q2 sv, p2, q2, m, es, rfl, rfl, ⟨s.chg0 c2, ⟨sv, r, rfl⟩, ?_⟩, rfl⟩, ?_⟩
  · intro x hx hx2
    have := s.lt x hx; have := hf2 x hx2; omega
  · intro x hx hx2
    have h5 := hlt x hx
    rcases List.mem_append.1 hx2 with hx2 | hx2
    · have := hs x hx2; omega
    · have := hf2 x hx2; omega
end
set_option maxRecDepth 100000 in
set_option maxHeartbeats 16000000 in
theorem walk (mx : Int) (v : Value) (zs : List O) (W : World) (hmx : (Lit.int .i64 mx).wf = true) (hzm : zs.length ≤ maxLen) (hsl : SliceOf W v 5 encO zs) (hin : ∀ z ∈ zs, z.In) :
    Calls Try.prog 9 #[.int .i64 mx, v] W fun e w' => e = .returned (.bool true) ∧ Below W.heap.size W w' := by
  obtain ⟨a, cap, rfl, hcap, hcapm⟩ := hsl.len
  have HSL := Lib.hid hsl; have HIN := Lib.hid hin
  unfold maxLen at hzm hcapm
  clear hsl hin hmx
  go_enter Try.func9, Try.ntmps9
  go_wp2_with fail
  refine (shown_any _).mono ?_; rintro e w1 ⟨rfl, c1⟩
  go_wp2_with fail
  refine (H_new (W := W) mx _ c1.below_nil).mono ?_; rintro e w2 ⟨rfl, c2, F, h2, hF⟩
  generalize w1.heap.size = p at *
  have hs2 := h2.below.size
  have hF2 := h2.lt
  have H2 := Lib.hid h2; have HF2 := Lib.hid hF2
  clear c1 c2 h2 hF hF2
  go_wp2_with fail
  refine (rnew_any mx W.heap.size _ hs2).mono ?_; rintro e w3 ⟨rfl, c3, sv, h3, ho3⟩
  have hst : St W w3 p w2.heap.size (.pointer none) (.pointer none) := by
    refine ⟨F, foot w2.heap.size sv, hgt mx, [], [], ⟨H2.out.chg0 c3, ⟨sv, h3, rfl⟩, fun x hx hx2 => ?_⟩, Or.inl ⟨rfl, rfl, rfl⟩, by simp⟩
    have := HF2.out x hx
    rw [foot, ho3] at hx2
    simp at hx2; omega
  generalize w2.heap.size = q at *
  have HST := Lib.hid hst
  clear h3 c3 hst H2 HF2
  go_wp2_with fail
  go_loopw [6, 8, 9, 10] (fun tv ov zv iv wr => ∃ (i p : Nat), i ≤ zs.length ∧ i ≤ 80 ∧ iv = .int .i64 i ∧ tv = .pointer (some ⟨p, 0, none⟩) ∧ St W wr p q ov zv) (fun _ _ _ iv _ => 80 - (intOf iv).toNat)
  case atStart => exact ⟨0, p, by omega, by omega, rfl, rfl, HST.out⟩
  case round =>
    clear HST
    obtain ⟨i, p, hi1, hi2, rfl, rfl, hst⟩ := hrel
    rename_i wr
    have HST := Lib.hid hst
    by_cases hlt : i < zs.length ∧ i < 80
    · obtain ⟨hlt1, hlt2⟩ := hlt
      have hlt3 : (i : Int) < 80 := by omega
      obtain ⟨o, ho⟩ : ∃ o, zs[i]? = some o := ⟨_, List.getElem?_eq_getElem hlt1⟩
      obtain ⟨b, off, rfl, hbw, hcell⟩ := o_cells HSL.out (by omega)
      obtain ⟨d0, d1, d2, d3, d4⟩ := hcell i o ho
      have hbc : ∀ w', Below W.heap.size W w' → ∀ j, w'.cell? ⟨b, j, none⟩ = W.cell? ⟨b, j, none⟩ := fun w' h j => h.cell (p := ⟨b, j, none⟩) hbw
      have HBC := Lib.hid hbc
      clear hbc
      have c0 := d0; have c1 := d1; have c2 := d2; have c3 := d3; have c4 := d4
      rw [← HBC.out wr hst.below] at c0 c1 c2 c3 c4
      have D0 := Lib.hid d0; have D1 := Lib.hid d1
      clear d0 d1 d2 d3 d4
      obtain ⟨hn1, hn2, hfin⟩ := HIN.out o (List.mem_of_getElem? ho)
      obtain ⟨hfn, hfv⟩ := hfin
      clear hcell ho hst
      go_wp2_with fail
      refine (small_any o.f _ (by omega) (by omega)).mono ?_; rintro e w4 ⟨g, rfl, hg, c5⟩
      have hst := HST.out.chg0 c5
      have e0 : World.cell? w4 ⟨b, off + i * 5, none⟩ = some (.int .i64 o.k) := by rw [HBC.out w4 hst.below]; exact D0.out
      have e1' : World.cell? w4 ⟨b, off + i * 5 + 1, none⟩ = some (.int .i64 o.n) := by rw [HBC.out w4 hst.below]; exact D1.out
      have hbw4 : b < w4.heap.size := Nat.lt_of_lt_of_le hbw hst.below.size
      have hst4 := hst.chg0 ((Chg.refl w4).alloc (.cells #[.string g.n, .string g.v, .bool g.nv] 23))
      have HST4 := Lib.hid hst4
      have hbx := At.new w4 (.cells #[.string g.n, .string g.v, .bool g.nv] 23)
      have HBX := Lib.hid hbx
      clear c0 c1 c2 c3 c4 hst4 hbx HST c5
      unfold aF
      obtain ⟨F, G, m, es, A, hP, hO, hA⟩ := hst
      have hltP := hP.lt
      have hP5 := hP.chg (l := []) ((Chg.refl w4).alloc (.cells #[.string g.n, .string g.v, .bool g.nv] 23)) (by simp) (by simp)
      have hO5 := hO.chg (l := []) ((Chg.refl w4).alloc (.cells #[.string g.n, .string g.v, .bool g.nv] 23)) (by simp) (by simp)
      have HP5 := Lib.hid hP5; have HO5 := Lib.hid hO5; have HA := Lib.hid hA; have HLT := Lib.hid hltP
      clear hP hP5 hO5 hA hltP
      rcases hO with ⟨rfl, rfl, _⟩ | ⟨F0, G0, p0, q0, m0, es0, rfl, rfl, _, _⟩
      · skip
        rcases eqC o.k 1 with ⟨e1, k1⟩ | ⟨e1, k1⟩
        · clear e1
          go_wp2_with fail
          refine (H_add g _ HP5.out.1 (by omega)).mono ?_; rintro e w6 ⟨rfl, ⟨F2, h2, f2⟩, c6⟩
          obtain ⟨sv, hr, hG⟩ := HP5.out.first c6
          have hbx6 := HBX.out.chg c6 (fun h => by have := HLT.out _ (List.mem_append_left _ h); omega)
          have hW6 := h2.below.size
          have b0 : World.cell? w6 ⟨w4.heap.size, 0, none⟩ = some (.string g.n) := (hbx6).cell rfl
          have b1 : World.cell? w6 ⟨w4.heap.size, 1, none⟩ = some (.string g.v) := (hbx6).cell rfl
          have b2 : World.cell? w6 ⟨w4.heap.size, 2, none⟩ = some (.bool g.nv) := (hbx6).cell rfl
          have H2 := Lib.hid h2; have F2H := Lib.hid f2; have C6 := Lib.hid c6; have HRR := Lib.hid hr; have HGG := Lib.hid hG
          clear h2 f2 c6 hr hG hbx6 e0
          go_wp2_with fail
          refine (radd_any g (by omega) HP5.out.1.inv HRR.out hW6).mono ?_; rintro e w7 ⟨rfl, c7, sv2, r2, f3⟩
          have HX := Lib.hid (St.two HP5.out HO5.out HA.out H2.out F2H.out C6.out HGG.out c7 r2 f3)
          clear c7 r2 f3 b0 b1 b2 H2 F2H C6 HRR HGG
          skip
          obtain ⟨F, G, m, es, A, hP, hO, hA⟩ := HX.out
          obtain ⟨hh, ⟨sv, hr, hG⟩, _⟩ := hP
          have HHH := Lib.hid hh; have HRR := Lib.hid hr; have HOO := Lib.hid hO
          clear hh hr hG hO hA
          go_wp2_with fail
          refine (same_any HHH.out HRR.out).mono ?_; rintro e w8 ⟨rfl, c8⟩
          have HX8 := Lib.hid (HX.out.chg0 c8)
          clear c8
          go_wp2_with fail
          go_roundw
          case rel => exact ⟨i + 1, p, by omega, by omega, by go_num, rfl, HX8.out⟩
          case measure => simp [intOf]; omega
        rcases eqC o.k 2 with ⟨e2, k2⟩ | ⟨e2, k2⟩
        · clear e2
          go_wp2_with fail
          refine (H_set o.n _ HP5.out.1).mono ?_; rintro e w6 ⟨rfl, ⟨F2, h2, f2⟩, c6⟩
          obtain ⟨sv, hr, hG⟩ := HP5.out.first c6
          have hW6 := h2.below.size
          have f1 : World.cell? w6 ⟨b, off + i * 5 + 1, none⟩ = some (.int .i64 o.n) := by rw [HBC.out w6 h2.below]; exact D1.out
          have H2 := Lib.hid h2; have F2H := Lib.hid f2; have C6 := Lib.hid c6; have HRR := Lib.hid hr; have HGG := Lib.hid hG
          clear h2 f2 c6 hr hG e0
          go_wp2_with fail
          refine (rset_any o.n HRR.out).mono ?_; rintro e w7 ⟨rfl, c7, sv2, r2, ho2⟩
          have HX := Lib.hid (St.two HP5.out HO5.out HA.out H2.out F2H.out C6.out HGG.out c7 r2 (fun x hx => Or.inl (by rw [← ho2]; exact hx)))
          clear c7 r2 ho2 f1 H2 F2H C6 HRR HGG
          skip
          obtain ⟨F, G, m, es, A, hP, hO, hA⟩ := HX.out
          obtain ⟨hh, ⟨sv, hr, hG⟩, _⟩ := hP
          have HHH := Lib.hid hh; have HRR := Lib.hid hr; have HOO := Lib.hid hO
          clear hh hr hG hO hA
          go_wp2_with fail
          refine (same_any HHH.out HRR.out).mono ?_; rintro e w8 ⟨rfl, c8⟩
          have HX8 := Lib.hid (HX.out.chg0 c8)
          clear c8
          go_wp2_with fail
          go_roundw
          case rel => exact ⟨i + 1, p, by omega, by omega, by go_num, rfl, HX8.out⟩
          case measure => simp [intOf]; omega
        rcases eqC o.k 3 with ⟨e3, k3⟩ | ⟨e3, k3⟩
        · clear e3
          obtain ⟨R, hR⟩ : ∃ R, R = atR es o.n := ⟨_, rfl⟩
          have HR := Lib.hid hR
          clear hR
          go_wp2_with fail
          refine (H_at o.n _ HP5.out.1 (by omega)).mono ?_; rintro e w6 ⟨he, c6⟩
          rw [← HR.out] at he
          simp only [aF] at he
          subst he
          have hP6 := HP5.out.chg (c6.alloc (.cells #[.string R.1.n, .string R.1.v, .bool R.1.nv] 23)) (by simp) (by simp)
          have f1 : World.cell? w6 ⟨b, off + i * 5 + 1, none⟩ = some (.int .i64 o.n) := by rw [HBC.out w6 (HP5.out.1.chg0 c6).below]; exact D1.out
          have hb6 : b < w6.heap.size := by have := c6.size; simp at this; omega
          have hx6 := At.new w6 (.cells #[.string R.1.n, .string R.1.v, .bool R.1.nv] 23)
          have HP6 := Lib.hid hP6; have C6 := Lib.hid (c6.alloc (.cells #[.string R.1.n, .string R.1.v, .bool R.1.nv] 23)); have HX6 := Lib.hid hx6
          clear c6 hP6 e0 hx6
          go_wp2_with fail
          obtain ⟨_, ⟨sv, hr, _⟩, _⟩ := HP6.out
          refine (rat_any o.n hr).mono ?_; rintro e w7 ⟨he, c7⟩
          rw [← HR.out] at he
          simp only [aF] at he
          subst he
          have hx7 := HX6.out.chg c7 (by simp)
          have HX := Lib.hid (((HST4.out.chg0 C6.out).chg0 c7).chg0 ((Chg.refl w7).alloc (.cells #[.string R.1.n, .string R.1.v, .bool R.1.nv] 23)))
          have z0 : World.cell? w7 ⟨w6.heap.size, 0, none⟩ = some (.string R.1.n) := hx7.cell rfl
          have z1 : World.cell? w7 ⟨w6.heap.size, 1, none⟩ = some (.string R.1.v) := hx7.cell rfl
          have z2 : World.cell? w7 ⟨w6.heap.size, 2, none⟩ = some (.bool R.1.nv) := hx7.cell rfl
          have hz7 : w6.heap.size < w7.heap.size := hx7.lt
          clear c7 hr f1 hb6 hx7
          skip
          obtain ⟨F, G, m, es, A, hP, hO, hA⟩ := HX.out
          obtain ⟨hh, ⟨sv, hr, hG⟩, _⟩ := hP
          have HHH := Lib.hid hh; have HRR := Lib.hid hr; have HOO := Lib.hid hO
          clear hh hr hG hO hA
          go_wp2_with fail
          refine (same_any HHH.out HRR.out).mono ?_; rintro e w8 ⟨rfl, c8⟩
          have HX8 := Lib.hid (HX.out.chg0 c8)
          clear c8
          go_wp2_with fail
          go_roundw
          case rel => exact ⟨i + 1, p, by omega, by omega, by go_num, rfl, HX8.out⟩
          case measure => simp [intOf]; omega
        rcases eqC o.k 4 with ⟨e4, k4⟩ | ⟨e4, k4⟩
        · clear e4
          obtain ⟨R, hR⟩ : ∃ R, R = findR es g := ⟨_, rfl⟩
          have HR := Lib.hid hR
          clear hR
          go_wp2_with fail
          refine (H_find g _ HP5.out.1).mono ?_; rintro e w6 ⟨he, c6⟩
          rw [← HR.out] at he
          subst he
          have hbx6 := HBX.out.chg c6 (by simp)
          have b0 : World.cell? w6 ⟨w4.heap.size, 0, none⟩ = some (.string g.n) := (hbx6).cell rfl
          have b1 : World.cell? w6 ⟨w4.heap.size, 1, none⟩ = some (.string g.v) := (hbx6).cell rfl
          have b2 : World.cell? w6 ⟨w4.heap.size, 2, none⟩ = some (.bool g.nv) := (hbx6).cell rfl
          have HP6 := Lib.hid (HP5.out.chg c6 (by simp) (by simp)); have C6 := Lib.hid c6
          clear c6 e0 hbx6
          go_wp2_with fail
          obtain ⟨_, ⟨sv, hr, _⟩, _⟩ := HP6.out
          refine (rfind_any g HP5.out.1.inv hr).mono ?_; rintro e w7 ⟨he, c7⟩
          rw [← HR.out] at he
          subst he
          have HX := Lib.hid ((HST4.out.chg0 C6.out).chg0 c7)
          clear c7 hr b0 b1 b2
          skip
          obtain ⟨F, G, m, es, A, hP, hO, hA⟩ := HX.out
          obtain ⟨hh, ⟨sv, hr, hG⟩, _⟩ := hP
          have HHH := Lib.hid hh; have HRR := Lib.hid hr; have HOO := Lib.hid hO
          clear hh hr hG hO hA
          go_wp2_with fail
          refine (same_any HHH.out HRR.out).mono ?_; rintro e w8 ⟨rfl, c8⟩
          have HX8 := Lib.hid (HX.out.chg0 c8)
          clear c8
          go_wp2_with fail
          go_roundw
          case rel => exact ⟨i + 1, p, by omega, by omega, by go_num, rfl, HX8.out⟩
          case measure => simp [intOf]; omega
        rcases eqC o.k 5 with ⟨e5, k5⟩ | ⟨e5, k5⟩
        · clear e5
          go_wp2_with fail
          obtain ⟨_, ⟨sv, hr, _⟩, _⟩ := HP5.out
          refine (rclone_any W.heap.size HP5.out.1.below.size hr).mono ?_; rintro e w6 ⟨q2, sv2, rfl, c6, r2, hq2, hr2⟩
          have C6 := Lib.hid c6; have R2 := Lib.hid r2; have HQ2 := Lib.hid hq2; have HR2 := Lib.hid hr2
          clear c6 r2 hq2 hr2 e0 hr
          go_wp2_with fail
          refine (H_clone _ (HP5.out.1.chg0 C6.out)).mono ?_; rintro e w7 ⟨p2, rfl, c7, F2, h2, hf2⟩
          have HX := Lib.hid (St.five HP5.out C6.out R2.out HQ2.out HR2.out c7 h2 hf2)
          clear c7 h2 hf2
          skip
          obtain ⟨F, G, m, es, A, hP, hO, hA⟩ := HX.out
          obtain ⟨hh, ⟨sv, hr, hG⟩, _⟩ := hP
          have HHH := Lib.hid hh; have HRR := Lib.hid hr; have HOO := Lib.hid hO
          clear hh hr hG hO hA
          go_wp2_with fail
          refine (same_any HHH.out HRR.out).mono ?_; rintro e w8 ⟨rfl, c8⟩
          have HX8 := Lib.hid (HX.out.chg0 c8)
          obtain ⟨F', G', p9, q9, m', es', hp9, hq9, hP', _⟩ : ∃ F' G' p9 q9 m' es', _ ∧ _ ∧ _ ∧ _ := by
            rcases HOO.out with ⟨h, _⟩ | h
            · cases h
            · exact h
          cases hp9
          cases hq9
          obtain ⟨hh', ⟨sv', hr', _⟩, _⟩ := hP'
          have hh8 := hh'.chg0 c8
          have hr8 := hr'.chg0 c8
          have HH8 := Lib.hid hh8; have HR8 := Lib.hid hr8
          clear hh' hr' hh8 hr8 c8
          go_wp2_with fail
          refine (same_any HH8.out HR8.out).mono ?_; rintro e w9 ⟨rfl, c9⟩
          have HX9 := Lib.hid (HX8.out.chg0 c9)
          clear c9
          go_wp2_with fail
          go_roundw
          case rel => exact ⟨i + 1, p2, by omega, by omega, by go_num, rfl, HX9.out⟩
          case measure => simp [intOf]; omega
        rcases eqC o.k 6 with ⟨e6, k6⟩ | ⟨e6, k6⟩
        · clear e6
          go_wp2_with fail
          refine (H_clone _ HP5.out.1).mono ?_; rintro e w6 ⟨p2, rfl, c6, F2, h2, hf2⟩
          have C6 := Lib.hid c6; have H2 := Lib.hid h2; have HF2 := Lib.hid hf2
          have hW6 := h2.below.size
          clear c6 h2 hf2 e0
          go_wp2_with fail
          obtain ⟨_, ⟨sv, hr, _⟩, _⟩ := HP5.out
          refine (rclone_any W.heap.size hW6 (hr.chg0 C6.out)).mono ?_; rintro e w7 ⟨q2, sv2, rfl, c7, r2, hq2, hr2⟩
          have HX := Lib.hid (St.six HP5.out C6.out H2.out HF2.out c7 r2 hq2 hr2)
          clear c7 r2 hq2 hr2 hr
          skip
          obtain ⟨F, G, m, es, A, hP, hO, hA⟩ := HX.out
          obtain ⟨hh, ⟨sv, hr, hG⟩, _⟩ := hP
          have HHH := Lib.hid hh; have HRR := Lib.hid hr; have HOO := Lib.hid hO
          clear hh hr hG hO hA
          go_wp2_with fail
          refine (same_any HHH.out HRR.out).mono ?_; rintro e w8 ⟨rfl, c8⟩
          have HX8 := Lib.hid (HX.out.chg0 c8)
          obtain ⟨F', G', p9, q9, m', es', hp9, hq9, hP', _⟩ : ∃ F' G' p9 q9 m' es', _ ∧ _ ∧ _ ∧ _ := by
            rcases HOO.out with ⟨h, _⟩ | h
            · cases h
            · exact h
          cases hp9
          cases hq9
          obtain ⟨hh', ⟨sv', hr', _⟩, _⟩ := hP'
          have hh8 := hh'.chg0 c8
          have hr8 := hr'.chg0 c8
          have HH8 := Lib.hid hh8; have HR8 := Lib.hid hr8
          clear hh' hr' hh8 hr8 c8
          go_wp2_with fail
          refine (same_any HH8.out HR8.out).mono ?_; rintro e w9 ⟨rfl, c9⟩
          have HX9 := Lib.hid (HX8.out.chg0 c9)
          clear c9
          go_wp2_with fail
          go_roundw
          case rel => exact ⟨i + 1, p, by omega, by omega, by go_num, rfl, HX9.out⟩
          case measure => simp [intOf]; omega
        have HX := HST4
        clear e1 e2 e3 e4 e5 e6
        obtain ⟨F, G, m, es, A, hP, hO, hA⟩ := HX.out
        obtain ⟨hh, ⟨sv, hr, hG⟩, _⟩ := hP
        have HHH := Lib.hid hh; have HRR := Lib.hid hr; have HOO := Lib.hid hO
        clear hh hr hG hO hA
        go_wp2_with fail
        refine (same_any HHH.out HRR.out).mono ?_; rintro e w8 ⟨rfl, c8⟩
        have HX8 := Lib.hid (HX.out.chg0 c8)
        clear c8
        go_wp2_with fail
        go_roundw
        case rel => exact ⟨i + 1, p, by omega, by omega, by go_num, rfl, HX8.out⟩
        case measure => simp [intOf]; omega
      · skip
        rcases eqC o.k 1 with ⟨e1, k1⟩ | ⟨e1, k1⟩
        · clear e1
          go_wp2_with fail
          refine (H_add g _ HP5.out.1 (by omega)).mono ?_; rintro e w6 ⟨rfl, ⟨F2, h2, f2⟩, c6⟩
          obtain ⟨sv, hr, hG⟩ := HP5.out.first c6
          have hbx6 := HBX.out.chg c6 (fun h => by have := HLT.out _ (List.mem_append_left _ h); omega)
          have hW6 := h2.below.size
          have b0 : World.cell? w6 ⟨w4.heap.size, 0, none⟩ = some (.string g.n) := (hbx6).cell rfl
          have b1 : World.cell? w6 ⟨w4.heap.size, 1, none⟩ = some (.string g.v) := (hbx6).cell rfl
          have b2 : World.cell? w6 ⟨w4.heap.size, 2, none⟩ = some (.bool g.nv) := (hbx6).cell rfl
          have H2 := Lib.hid h2; have F2H := Lib.hid f2; have C6 := Lib.hid c6; have HRR := Lib.hid hr; have HGG := Lib.hid hG
          clear h2 f2 c6 hr hG hbx6 e0
          go_wp2_with fail
          refine (radd_any g (by omega) HP5.out.1.inv HRR.out hW6).mono ?_; rintro e w7 ⟨rfl, c7, sv2, r2, f3⟩
          have HX := Lib.hid (St.two HP5.out HO5.out HA.out H2.out F2H.out C6.out HGG.out c7 r2 f3)
          clear c7 r2 f3 b0 b1 b2 H2 F2H C6 HRR HGG
          skip
          obtain ⟨F, G, m, es, A, hP, hO, hA⟩ := HX.out
          obtain ⟨hh, ⟨sv, hr, hG⟩, _⟩ := hP
          have HHH := Lib.hid hh; have HRR := Lib.hid hr; have HOO := Lib.hid hO
          clear hh hr hG hO hA
          go_wp2_with fail
          refine (same_any HHH.out HRR.out).mono ?_; rintro e w8 ⟨rfl, c8⟩
          have HX8 := Lib.hid (HX.out.chg0 c8)
          obtain ⟨F', G', p9, q9, m', es', hp9, hq9, hP', _⟩ : ∃ F' G' p9 q9 m' es', _ ∧ _ ∧ _ ∧ _ := by
            rcases HOO.out with ⟨h, _⟩ | h
            · cases h
            · exact h
          cases hp9
          cases hq9
          obtain ⟨hh', ⟨sv', hr', _⟩, _⟩ := hP'
          have hh8 := hh'.chg0 c8
          have hr8 := hr'.chg0 c8
          have HH8 := Lib.hid hh8; have HR8 := Lib.hid hr8
          clear hh' hr' hh8 hr8 c8
          go_wp2_with fail
          refine (same_any HH8.out HR8.out).mono ?_; rintro e w9 ⟨rfl, c9⟩
          have HX9 := Lib.hid (HX8.out.chg0 c9)
          clear c9
          go_wp2_with fail
          go_roundw
          case rel => exact ⟨i + 1, p, by omega, by omega, by go_num, rfl, HX9.out⟩
          case measure => simp [intOf]; omega
        rcases eqC o.k 2 with ⟨e2, k2⟩ | ⟨e2, k2⟩
        · clear e2
          go_wp2_with fail
          refine (H_set o.n _ HP5.out.1).mono ?_; rintro e w6 ⟨rfl, ⟨F2, h2, f2⟩, c6⟩
          obtain ⟨sv, hr, hG⟩ := HP5.out.first c6
          have hW6 := h2.below.size
          have f1 : World.cell? w6 ⟨b, off + i * 5 + 1, none⟩ = some (.int .i64 o.n) := by rw [HBC.out w6 h2.below]; exact D1.out
          have H2 := Lib.hid h2; have F2H := Lib.hid f2; have C6 := Lib.hid c6; have HRR := Lib.hid hr; have HGG := Lib.hid hG
          clear h2 f2 c6 hr hG e0
          go_wp2_with fail
          refine (rset_any o.n HRR.out).mono ?_; rintro e w7 ⟨rfl, c7, sv2, r2, ho2⟩
          have HX := Lib.hid (St.two HP5.out HO5.out HA.out H2.out F2H.out C6.out HGG.out c7 r2 (fun x hx => Or.inl (by rw [← ho2]; exact hx)))
          clear c7 r2 ho2 f1 H2 F2H C6 HRR HGG
          skip
          obtain ⟨F, G, m, es, A, hP, hO, hA⟩ := HX.out
          obtain ⟨hh, ⟨sv, hr, hG⟩, _⟩ := hP
          have HHH := Lib.hid hh; have HRR := Lib.hid hr; have HOO := Lib.hid hO
          clear hh hr hG hO hA
          go_wp2_with fail
          refine (same_any HHH.out HRR.out).mono ?_; rintro e w8 ⟨rfl, c8⟩
          have HX8 := Lib.hid (HX.out.chg0 c8)
          obtain ⟨F', G', p9, q9, m', es', hp9, hq9, hP', _⟩ : ∃ F' G' p9 q9 m' es', _ ∧ _ ∧ _ ∧ _ := by
            rcases HOO.out with ⟨h, _⟩ | h
            · cases h
            · exact h
          cases hp9
          cases hq9
          obtain ⟨hh', ⟨sv', hr', _⟩, _⟩ := hP'
          have hh8 := hh'.chg0 c8
          have hr8 := hr'.chg0 c8
          have HH8 := Lib.hid hh8; have HR8 := Lib.hid hr8
          clear hh' hr' hh8 hr8 c8
          go_wp2_with fail
          refine (same_any HH8.out HR8.out).mono ?_; rintro e w9 ⟨rfl, c9⟩
          have HX9 := Lib.hid (HX8.out.chg0 c9)
          clear c9
          go_wp2_with fail
          go_roundw
          case rel => exact ⟨i + 1, p, by omega, by omega, by go_num, rfl, HX9.out⟩
          case measure => simp [intOf]; omega
        rcases eqC o.k 3 with ⟨e3, k3⟩ | ⟨e3, k3⟩
        · clear e3
          obtain ⟨R, hR⟩ : ∃ R, R = atR es o.n := ⟨_, rfl⟩
          have HR := Lib.hid hR
          clear hR
          go_wp2_with fail
          refine (H_at o.n _ HP5.out.1 (by omega)).mono ?_; rintro e w6 ⟨he, c6⟩
          rw [← HR.out] at he
          simp only [aF] at he
          subst he
          have hP6 := HP5.out.chg (c6.alloc (.cells #[.string R.1.n, .string R.1.v, .bool R.1.nv] 23)) (by simp) (by simp)
          have f1 : World.cell? w6 ⟨b, off + i * 5 + 1, none⟩ = some (.int .i64 o.n) := by rw [HBC.out w6 (HP5.out.1.chg0 c6).below]; exact D1.out
          have hb6 : b < w6.heap.size := by have := c6.size; simp at this; omega
          have hx6 := At.new w6 (.cells #[.string R.1.n, .string R.1.v, .bool R.1.nv] 23)
          have HP6 := Lib.hid hP6; have C6 := Lib.hid (c6.alloc (.cells #[.string R.1.n, .string R.1.v, .bool R.1.nv] 23)); have HX6 := Lib.hid hx6
          clear c6 hP6 e0 hx6
          go_wp2_with fail
          obtain ⟨_, ⟨sv, hr, _⟩, _⟩ := HP6.out
          refine (rat_any o.n hr).mono ?_; rintro e w7 ⟨he, c7⟩
          rw [← HR.out] at he
          simp only [aF] at he
          subst he
          have hx7 := HX6.out.chg c7 (by simp)
          have HX := Lib.hid (((HST4.out.chg0 C6.out).chg0 c7).chg0 ((Chg.refl w7).alloc (.cells #[.string R.1.n, .string R.1.v, .bool R.1.nv] 23)))
          have z0 : World.cell? w7 ⟨w6.heap.size, 0, none⟩ = some (.string R.1.n) := hx7.cell rfl
          have z1 : World.cell? w7 ⟨w6.heap.size, 1, none⟩ = some (.string R.1.v) := hx7.cell rfl
          have z2 : World.cell? w7 ⟨w6.heap.size, 2, none⟩ = some (.bool R.1.nv) := hx7.cell rfl
          have hz7 : w6.heap.size < w7.heap.size := hx7.lt
          clear c7 hr f1 hb6 hx7
          skip
          obtain ⟨F, G, m, es, A, hP, hO, hA⟩ := HX.out
          obtain ⟨hh, ⟨sv, hr, hG⟩, _⟩ := hP
          have HHH := Lib.hid hh; have HRR := Lib.hid hr; have HOO := Lib.hid hO
          clear hh hr hG hO hA
          go_wp2_with fail
          refine (same_any HHH.out HRR.out).mono ?_; rintro e w8 ⟨rfl, c8⟩
          have HX8 := Lib.hid (HX.out.chg0 c8)
          obtain ⟨F', G', p9, q9, m', es', hp9, hq9, hP', _⟩ : ∃ F' G' p9 q9 m' es', _ ∧ _ ∧ _ ∧ _ := by
            rcases HOO.out with ⟨h, _⟩ | h
            · cases h
            · exact h
          cases hp9
          cases hq9
          obtain ⟨hh', ⟨sv', hr', _⟩, _⟩ := hP'
          have hh8 := hh'.chg0 c8
          have hr8 := hr'.chg0 c8
          have HH8 := Lib.hid hh8; have HR8 := Lib.hid hr8
          clear hh' hr' hh8 hr8 c8
          go_wp2_with fail
          refine (same_any HH8.out HR8.out).mono ?_; rintro e w9 ⟨rfl, c9⟩
          have HX9 := Lib.hid (HX8.out.chg0 c9)
          clear c9
          go_wp2_with fail
          go_roundw
          case rel => exact ⟨i + 1, p, by omega, by omega, by go_num, rfl, HX9.out⟩
          case measure => simp [intOf]; omega
        rcases eqC o.k 4 with ⟨e4, k4⟩ | ⟨e4, k4⟩
        · clear e4
          obtain ⟨R, hR⟩ : ∃ R, R = findR es g := ⟨_, rfl⟩
          have HR := Lib.hid hR
          clear hR
          go_wp2_with fail
          refine (H_find g _ HP5.out.1).mono ?_; rintro e w6 ⟨he, c6⟩
          rw [← HR.out] at he
          subst he
          have hbx6 := HBX.out.chg c6 (by simp)
          have b0 : World.cell? w6 ⟨w4.heap.size, 0, none⟩ = some (.string g.n) := (hbx6).cell rfl
          have b1 : World.cell? w6 ⟨w4.heap.size, 1, none⟩ = some (.string g.v) := (hbx6).cell rfl
          have b2 : World.cell? w6 ⟨w4.heap.size, 2, none⟩ = some (.bool g.nv) := (hbx6).cell rfl
          have HP6 := Lib.hid (HP5.out.chg c6 (by simp) (by simp)); have C6 := Lib.hid c6
          clear c6 e0 hbx6
          go_wp2_with fail
          obtain ⟨_, ⟨sv, hr, _⟩, _⟩ := HP6.out
          refine (rfind_any g HP5.out.1.inv hr).mono ?_; rintro e w7 ⟨he, c7⟩
          rw [← HR.out] at he
          subst he
          have HX := Lib.hid ((HST4.out.chg0 C6.out).chg0 c7)
          clear c7 hr b0 b1 b2
          skip
          obtain ⟨F, G, m, es, A, hP, hO, hA⟩ := HX.out
          obtain ⟨hh, ⟨sv, hr, hG⟩, _⟩ := hP
          have HHH := Lib.hid hh; have HRR := Lib.hid hr; have HOO := Lib.hid hO
          clear hh hr hG hO hA
          go_wp2_with fail
          refine (same_any HHH.out HRR.out).mono ?_; rintro e w8 ⟨rfl, c8⟩
          have HX8 := Lib.hid (HX.out.chg0 c8)
          obtain ⟨F', G', p9, q9, m', es', hp9, hq9, hP', _⟩ : ∃ F' G' p9 q9 m' es', _ ∧ _ ∧ _ ∧ _ := by
            rcases HOO.out with ⟨h, _⟩ | h
            · cases h
            · exact h
          cases hp9
          cases hq9
          obtain ⟨hh', ⟨sv', hr', _⟩, _⟩ := hP'
          have hh8 := hh'.chg0 c8
          have hr8 := hr'.chg0 c8
          have HH8 := Lib.hid hh8; have HR8 := Lib.hid hr8
          clear hh' hr' hh8 hr8 c8
          go_wp2_with fail
          refine (same_any HH8.out HR8.out).mono ?_; rintro e w9 ⟨rfl, c9⟩
          have HX9 := Lib.hid (HX8.out.chg0 c9)
          clear c9
          go_wp2_with fail
          go_roundw
          case rel => exact ⟨i + 1, p, by omega, by omega, by go_num, rfl, HX9.out⟩
          case measure => simp [intOf]; omega
        rcases eqC o.k 5 with ⟨e5, k5⟩ | ⟨e5, k5⟩
        · clear e5
          go_wp2_with fail
          obtain ⟨_, ⟨sv, hr, _⟩, _⟩ := HP5.out
          refine (rclone_any W.heap.size HP5.out.1.below.size hr).mono ?_; rintro e w6 ⟨q2, sv2, rfl, c6, r2, hq2, hr2⟩
          have C6 := Lib.hid c6; have R2 := Lib.hid r2; have HQ2 := Lib.hid hq2; have HR2 := Lib.hid hr2
          clear c6 r2 hq2 hr2 e0 hr
          go_wp2_with fail
          refine (H_clone _ (HP5.out.1.chg0 C6.out)).mono ?_; rintro e w7 ⟨p2, rfl, c7, F2, h2, hf2⟩
          have HX := Lib.hid (St.five HP5.out C6.out R2.out HQ2.out HR2.out c7 h2 hf2)
          clear c7 h2 hf2
          skip
          obtain ⟨F, G, m, es, A, hP, hO, hA⟩ := HX.out
          obtain ⟨hh, ⟨sv, hr, hG⟩, _⟩ := hP
          have HHH := Lib.hid hh; have HRR := Lib.hid hr; have HOO := Lib.hid hO
          clear hh hr hG hO hA
          go_wp2_with fail
          refine (same_any HHH.out HRR.out).mono ?_; rintro e w8 ⟨rfl, c8⟩
          have HX8 := Lib.hid (HX.out.chg0 c8)
          obtain ⟨F', G', p9, q9, m', es', hp9, hq9, hP', _⟩ : ∃ F' G' p9 q9 m' es', _ ∧ _ ∧ _ ∧ _ := by
            rcases HOO.out with ⟨h, _⟩ | h
            · cases h
            · exact h
          cases hp9
          cases hq9
          obtain ⟨hh', ⟨sv', hr', _⟩, _⟩ := hP'
          have hh8 := hh'.chg0 c8
          have hr8 := hr'.chg0 c8
          have HH8 := Lib.hid hh8; have HR8 := Lib.hid hr8
          clear hh' hr' hh8 hr8 c8
          go_wp2_with fail
          refine (same_any HH8.out HR8.out).mono ?_; rintro e w9 ⟨rfl, c9⟩
          have HX9 := Lib.hid (HX8.out.chg0 c9)
          clear c9
          go_wp2_with fail
          go_roundw
          case rel => exact ⟨i + 1, p2, by omega, by omega, by go_num, rfl, HX9.out⟩
          case measure => simp [intOf]; omega
        rcases eqC o.k 6 with ⟨e6, k6⟩ | ⟨e6, k6⟩
        · clear e6
          go_wp2_with fail
          refine (H_clone _ HP5.out.1).mono ?_; rintro e w6 ⟨p2, rfl, c6, F2, h2, hf2⟩
          have C6 := Lib.hid c6; have H2 := Lib.hid h2; have HF2 := Lib.hid hf2
          have hW6 := h2.below.size
          clear c6 h2 hf2 e0
          go_wp2_with fail
          obtain ⟨_, ⟨sv, hr, _⟩, _⟩ := HP5.out
          refine (rclone_any W.heap.size hW6 (hr.chg0 C6.out)).mono ?_; rintro e w7 ⟨q2, sv2, rfl, c7, r2, hq2, hr2⟩
          have HX := Lib.hid (St.six HP5.out C6.out H2.out HF2.out c7 r2 hq2 hr2)
          clear c7 r2 hq2 hr2 hr
          skip
          obtain ⟨F, G, m, es, A, hP, hO, hA⟩ := HX.out
          obtain ⟨hh, ⟨sv, hr, hG⟩, _⟩ := hP
          have HHH := Lib.hid hh; have HRR := Lib.hid hr; have HOO := Lib.hid hO
          clear hh hr hG hO hA
          go_wp2_with fail
          refine (same_any HHH.out HRR.out).mono ?_; rintro e w8 ⟨rfl, c8⟩
          have HX8 := Lib.hid (HX.out.chg0 c8)
          obtain ⟨F', G', p9, q9, m', es', hp9, hq9, hP', _⟩ : ∃ F' G' p9 q9 m' es', _ ∧ _ ∧ _ ∧ _ := by
            rcases HOO.out with ⟨h, _⟩ | h
            · cases h
            · exact h
          cases hp9
          cases hq9
          obtain ⟨hh', ⟨sv', hr', _⟩, _⟩ := hP'
          have hh8 := hh'.chg0 c8
          have hr8 := hr'.chg0 c8
          have HH8 := Lib.hid hh8; have HR8 := Lib.hid hr8
          clear hh' hr' hh8 hr8 c8
          go_wp2_with fail
          refine (same_any HH8.out HR8.out).mono ?_; rintro e w9 ⟨rfl, c9⟩
          have HX9 := Lib.hid (HX8.out.chg0 c9)
          clear c9
          go_wp2_with fail
          go_roundw
          case rel => exact ⟨i + 1, p, by omega, by omega, by go_num, rfl, HX9.out⟩
          case measure => simp [intOf]; omega
        have HX := HST4
        clear e1 e2 e3 e4 e5 e6
        obtain ⟨F, G, m, es, A, hP, hO, hA⟩ := HX.out
        obtain ⟨hh, ⟨sv, hr, hG⟩, _⟩ := hP
        have HHH := Lib.hid hh; have HRR := Lib.hid hr; have HOO := Lib.hid hO
        clear hh hr hG hO hA
        go_wp2_with fail
        refine (same_any HHH.out HRR.out).mono ?_; rintro e w8 ⟨rfl, c8⟩
        have HX8 := Lib.hid (HX.out.chg0 c8)
        obtain ⟨F', G', p9, q9, m', es', hp9, hq9, hP', _⟩ : ∃ F' G' p9 q9 m' es', _ ∧ _ ∧ _ ∧ _ := by
          rcases HOO.out with ⟨h, _⟩ | h
          · cases h
          · exact h
        cases hp9
        cases hq9
        obtain ⟨hh', ⟨sv', hr', _⟩, _⟩ := hP'
        have hh8 := hh'.chg0 c8
        have hr8 := hr'.chg0 c8
        have HH8 := Lib.hid hh8; have HR8 := Lib.hid hr8
        clear hh' hr' hh8 hr8 c8
        go_wp2_with fail
        refine (same_any HH8.out HR8.out).mono ?_; rintro e w9 ⟨rfl, c9⟩
        have HX9 := Lib.hid (HX8.out.chg0 c9)
        clear c9
        go_wp2_with fail
        go_roundw
        case rel => exact ⟨i + 1, p, by omega, by omega, by go_num, rfl, HX9.out⟩
        case measure => simp [intOf]; omega
    · obtain ⟨F, G, m, es, A, hP, hO, hA⟩ := hst
      obtain ⟨hh, ⟨sv, hr, _⟩, _⟩ := hP
      have hways : (i < zs.length ∧ decide (i < zs.length) = true ∧ decide ((i : Int) < 80) = false) ∨ (¬ i < zs.length ∧ decide (i < zs.length) = false ∧ (0 : Int) ≤ 1) := by
        by_cases h1 : i < zs.length
        · exact Or.inl ⟨h1, by simpa using h1, by simp; omega⟩
        · exact Or.inr ⟨h1, by simpa using h1, by omega⟩
      have HHH := Lib.hid hh; have HRR := Lib.hid hr
      clear hh hr hO hA hlt
      rcases hways with ⟨h1, hd1, hd2⟩ | ⟨h1, hd1, hd2⟩
      all_goals
        go_wp2_with fail
        refine (same_any HHH.out HRR.out).mono ?_; rintro e w8 ⟨rfl, c8⟩
        go_wp2_with fail
        go_ret
        exact ⟨rfl, (HHH.out.chg0 c8).below⟩

/-! ### The row's step -/
theorem own : ownKnob Try.prog.godebug = none := by kernel_rfl
theorem laid : laidOutB Try.prog = true := by kernel_rfl

set_option maxRecDepth 100000 in
theorem lifted (os : Os) (started : os.Started) (H : Type) (enc : TypeId × Value → H) :
    ReturnsInHanded {} Try.checked os 9 .any (Rows.tablePlaysSpec.pre6 enc Try.prog Try.f9 Rows.tablePlaysRow.domain false) (Rows.tablePlaysSpec.post enc Try.prog Try.f9 false true false false) := by
  refine lift_law (C := Try.checked) (tb := 4) own started (by kernel_rfl) Try.func9
    (ChangeSpec.witness6 (enc := enc) (C := Try.checked) false ⟨#[], #[.int .i64 0, .slice none 0 0], []⟩ 8 (by kernel_rfl) (by kernel_rfl) (by kernel_rfl) (by kernel_rfl))
    laid (by rw [Try.params9]; intro t ht; simp only [List.mem_cons, List.not_mem_nil, or_false] at ht; rcases ht with rfl | rfl <;> exact ⟨by kernel_rfl, of_decide_eq_true (by kernel_rfl)⟩) (by kernel_rfl) Try.underlying4 rfl
    (fun ds h => by rw [Try.params9] at h; match ds, h with | [d0, d1], _ => rfl) ?_
  intro W base args ds before hval hA hlt hsz
  rw [Try.params9] at hA hval
  try rw [Try.params9] at hsz
  have hlt0 := hlt
  obtain ⟨v0, vs0, d0, ds0, p0, q0, hargs, rfl, rfl, h0, r0⟩ := trodAll_cons hA
  obtain ⟨v1, vs1, d1, ds1, p1, q1, rfl, rfl, rfl, h1, r1⟩ := trodAll_cons r0
  obtain ⟨rfl, rfl, rfl⟩ := trodAll_nil r1
  obtain rfl : args = #[v0, v1] := by cases args; simp_all
  have l0 : ∀ p ∈ p0, p.block < W.heap.size := fun x hx => hlt x (by simp [hx])
  have l1 : ∀ p ∈ p1, p.block < W.heap.size := fun x hx => hlt x (by simp [hx])
  obtain ⟨i0, rfl, rfl, rfl, wi0⟩ := open_int Try.underlying3 (hval 0 3 v0 rfl rfl) h0
  obtain ⟨zs, zg, zb, zm, zs1⟩ := open_slice_w 5 encO O.In Try.underlying31 (by kernel_rfl) (by omega) (hval 1 31 v1 rfl rfl) decO h1 l1 (small_of hsz (j := 1) rfl rfl)
  exact walk i0 v1 zs W wi0 zm zs1 zg

theorem over : Rows.tablePlaysRow.holds Try.pinned (OpenSpec.ofChange Rows.tablePlaysSpec) :=
  OpenClaim.holds_of_wide 9 Try.f9 rfl rfl rfl rfl rfl rfl rfl ⟨rfl, rfl, rfl, rfl, rfl⟩ rfl rfl rfl rfl rfl (by kernel_rfl) Try.func9 (by kernel_rfl)
    (of_decide_eq_true (by kernel_rfl)) (by unfold Func.isWrapper; first | (rw [if_pos (by decide +kernel)]; kernel_rfl) | (rw [if_neg (by decide +kernel)]; exact ⟨rfl, rfl⟩))
    (fun os started H enc _ => lifted os started H enc)

/-- The statement. -/
theorem proved : Rows.TablePlaysSaid :=
  over
#print axioms proved

end Go.Proofs.Ythhfnmgonjippaa.Tb.Plays
