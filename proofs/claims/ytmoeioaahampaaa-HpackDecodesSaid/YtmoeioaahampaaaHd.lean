/-
  The walks of package hpack: the reader, the decoder's small functions.
-/
import Derived.Test.YtmoeioaahampaaaHp
import Derived.Test.YtmoeioaahampaaaGetT
namespace Go.Proofs.Ytmoeioaahampaaa.Tb.Hp
open Go.ChangeShapes Go.WideShapes Go.ChangeAt Go.RowKit
open Go.Proofs.Ytmoeioaahampaaa.B Go.Proofs.Ytmoeioaahampaaa.Hi Go.Proofs.Ytmoeioaahampaaa.Tb
open Go.Proofs.Ytmoeioaahampaaa.Hf (bx need enc dec bitsOf)
set_option linter.unusedVariables false
set_option linter.unusedSimpArgs false

/-- A decoder in memory. -/
structure DH (W w : World) (d : Nat) (F : List Nat) (p m : Nat) (es : List Fd) (limit : Nat) (list : Int) (broken : Bool) : Prop where
  head : At w d (.cells #[.pointer (some ⟨p, 0, none⟩), .int .i64 limit, .int .i64 list, .bool broken] 47 (0, 0))
  tab : Has W w F p m es
  nf : d ∉ F
  lo : W.heap.size ≤ d
  b1 : limit ≤ 65536
theorem DH.chg {W w w' : World} {d : Nat} {F : List Nat} {p m : Nat} {es : List Fd} {limit : Nat} {list : Int} {broken : Bool} {l : List Nat} (h : DH W w d F p m es limit list broken) (hc : Chg l w w') (hd : ∀ x ∈ d :: F, x ∉ l) (hl : ∀ x ∈ l, W.heap.size ≤ x) : DH W w' d F p m es limit list broken :=
  ⟨h.head.chg hc (hd d (by simp)), h.tab.chg hc (fun x hx => hd x (by simp [hx])) hl, h.nf, h.lo, h.b1⟩
theorem DH.chg0 {W w w' : World} {d : Nat} {F : List Nat} {p m : Nat} {es : List Fd} {limit : Nat} {list : Int} {broken : Bool} (h : DH W w d F p m es limit list broken) (hc : Chg [] w w') : DH W w' d F p m es limit list broken :=
  h.chg hc (fun _ _ => by simp) (by simp)
theorem DH.lt {W w : World} {d : Nat} {F : List Nat} {p m : Nat} {es : List Fd} {limit : Nat} {list : Int} {broken : Bool} (h : DH W w d F p m es limit list broken) : ∀ x ∈ d :: F, x < w.heap.size := by
  intro x hx
  rcases List.mem_cons.1 hx with rfl | hx
  · exact h.head.lt
  · exact h.tab.lt x hx
theorem DH.alien {W w : World} {d : Nat} {F : List Nat} {p m : Nat} {es : List Fd} {limit : Nat} {list : Int} {broken : Bool} (h : DH W w d F p m es limit list broken) {b : Nat} {cs : Array Value} {T : TypeId} {fz : Nat × Nat} (hb : At w b (.cells cs T fz)) (h0 : T ≠ 47) (h1 : T ≠ 94) (h2 : T ≠ 44) : b ∉ d :: F := by
  intro hx
  rcases List.mem_cons.1 hx with rfl | hx
  · exact h0 (at_typ_inj hb h.head)
  · exact h.tab.alienF hb h1 h2 hx
theorem DH.apart {W w : World} {d : Nat} {F : List Nat} {p m : Nat} {es : List Fd} {limit : Nat} {list : Int} {broken : Bool} (h : DH W w d F p m es limit list broken) {base : Nat} {ov : Value} {l : List UInt8} (ho : OwnB w base ov l) : ∀ x ∈ d :: F, x ∉ ov.ownBlock.toList := by
  intro x hx hxo
  obtain ⟨cur, hc⟩ := owns_at ho (g := x) (by simpa using hxo)
  exact h.alien hc (by decide) (by decide) (by decide) hx
theorem decsize_any {W w : World} {d : Nat} {F : List Nat} {p m : Nat} {es : List Fd} {limit : Nat} {list : Int} {broken : Bool} (h : DH W w d F p m es limit list broken) :
    Calls Try.prog 19 #[.pointer (some ⟨d, 0, none⟩)] w fun e w' => e = .returned (.int .i64 (tot es)) ∧ Chg [] w w' := by
  have c0 : World.cell? w ⟨d, 0, none⟩ = some (.pointer (some ⟨p, 0, none⟩)) := h.head.cell rfl
  have HH := Lib.hid h.tab
  go_enter Try.func19, Try.ntmps19
  go_wp2_with fail
  refine (H_size _ HH.out).mono ?_; rintro e w1 ⟨rfl, rfl⟩
  go_wp2_with fail
  go_ret
  exact ⟨rfl, Chg.refl _⟩
theorem decmax_any {W w : World} {d : Nat} {F : List Nat} {p m : Nat} {es : List Fd} {limit : Nat} {list : Int} {broken : Bool} (h : DH W w d F p m es limit list broken) :
    Calls Try.prog 22 #[.pointer (some ⟨d, 0, none⟩)] w fun e w' => e = .returned (.int .i64 m) ∧ Chg [] w w' := by
  have c0 : World.cell? w ⟨d, 0, none⟩ = some (.pointer (some ⟨p, 0, none⟩)) := h.head.cell rfl
  have HH := Lib.hid h.tab
  go_enter Try.func22, Try.ntmps22
  go_wp2_with fail
  refine (H_max _ HH.out).mono ?_; rintro e w1 ⟨rfl, rfl⟩
  go_wp2_with fail
  go_ret
  exact ⟨rfl, Chg.refl _⟩
set_option maxRecDepth 100000 in
set_option maxHeartbeats 4000000 in
theorem newdec_any {W : World} (n list : Int) (w : World) (hb : Below W.heap.size W w) :
    Calls Try.prog 13 #[.int .i64 n, .int .i64 list] w fun e w' => ∃ d F p, e = .returned (.pointer (some ⟨d, 0, none⟩)) ∧ DH W w' d F p (hgt n) [] (hgt n) list false ∧ Chg [] w w' ∧ ∀ x ∈ d :: F, w.heap.size ≤ x := by
  go_enter Try.func13, Try.ntmps13
  go_wp2_with fail
  refine (H_new (W := W) n w hb).mono ?_; rintro e w2 ⟨rfl, c2, F, h2, hF⟩
  have hs := c2.size
  have hlt := h2.lt
  have hbl := h2.below.size
  have hh := hgt_le n
  go_wp2_with fail
  refine (fit_any n _).mono ?_; rintro e w3 ⟨rfl, rfl⟩
  go_wp2_with fail
  go_ret
  refine ⟨w3.heap.size, F, _, rfl, ⟨At.new w3 _, h2.alloc _, fun hx => by have := hlt _ hx; omega, hbl, by omega⟩, c2.alloc _, fun x hx => ?_⟩
  rcases List.mem_cons.1 hx with rfl | hx
  · exact hs
  · exact hF x hx
set_option maxRecDepth 100000 in
theorem dsetmax_any {W w : World} {d : Nat} {F : List Nat} {p m : Nat} {es : List Fd} {limit : Nat} {list : Int} {broken : Bool} (h : DH W w d F p m es limit list broken) (n : Int) :
    Calls Try.prog 15 #[.pointer (some ⟨d, 0, none⟩), .int .i64 n] w fun e w' => e = .returned (.tuple #[]) ∧ DH W w' d F p m es (hgt n) list broken ∧ Chg [d] w w' := by
  have c1 : World.cell? w ⟨d, 1, none⟩ = some (.int .i64 limit) := h.head.cell rfl
  have cf : ∀ j, World.frozen? w ⟨d, j, none⟩ = false := fun j => h.head.free j
  have hh := hgt_le n
  have HH := Lib.hid h
  clear h
  go_enter Try.func15, Try.ntmps15
  go_wp2_with fail
  refine (fit_any n _).mono ?_; rintro e w3 ⟨rfl, rfl⟩
  go_wp2_with fail
  go_end0
  have hc : Chg [d] w3 (w3.setCell ⟨d, 1, none⟩ (.int .i64 (hgt n : Nat))) := (Chg.refl w3).setCell (Or.inl (by simp)) _
  exact ⟨rfl, ⟨HH.out.head.set 1 _, HH.out.tab.chg hc (fun x hx he => HH.out.nf (by simp at he; exact he ▸ hx)) (fun x hx => by simp at hx; exact hx ▸ HH.out.lo), HH.out.nf, HH.out.lo, hh⟩, hc⟩
set_option maxRecDepth 100000 in
set_option maxHeartbeats 4000000 in
theorem esetmax_any {W w : World} {c : Nat} {F : List Nat} {p m : Nat} {es : List Fd} {least last : Nat} {called : Bool} (h : EH W w c F p m es least last called) (n : Int) :
    Calls Try.prog 29 #[.pointer (some ⟨c, 0, none⟩), .int .i64 n] w fun e w' => e = .returned (.tuple #[]) ∧ EH W w' c F p m es (if called = true then min least (hgt n) else hgt n) (hgt n) true ∧ Chg [c] w w' := by
  have c1 : World.cell? w ⟨c, 1, none⟩ = some (.int .i64 least) := h.head.cell rfl
  have c2 : World.cell? w ⟨c, 2, none⟩ = some (.int .i64 last) := h.head.cell rfl
  have c3 : World.cell? w ⟨c, 3, none⟩ = some (.bool called) := h.head.cell rfl
  have cf : ∀ j, World.frozen? w ⟨c, j, none⟩ = false := fun j => h.head.free j
  have hh := hgt_le n
  have hb1 := h.b1
  have HH := Lib.hid h
  clear h
  go_enter Try.func29, Try.ntmps29
  go_wp2_with fail
  refine (fit_any n _).mono ?_; rintro e w3 ⟨rfl, rfl⟩
  obtain ⟨N, hN⟩ : ∃ N, N = hgt n := ⟨_, rfl⟩
  rw [← hN] at hh ⊢
  have HN := Lib.hid hN
  clear hN
  cases called with
  | false =>
    go_wp2_with fail
    go_end0
    rw [← HN.out]
    have hc : Chg [c] w3 ((((w3.setCell { block := c, off := 1 } (Value.int IntKind.i64 ↑N)).setCell { block := c, off := 1 } (Value.int IntKind.i64 ↑N)).setCell { block := c, off := 2 } (Value.int IntKind.i64 ↑N)).setCell { block := c, off := 3 } (Value.bool true)) :=
      ((((Chg.refl w3).setCell (Or.inl (by simp)) _).setCell (Or.inl (by simp)) _).setCell (Or.inl (by simp)) _).setCell (Or.inl (by simp)) _
    exact ⟨rfl, ⟨(((HH.out.head.set 1 _).set 1 _).set 2 _).set 3 _, HH.out.tab.chg hc (fun x hx he => HH.out.nf (by simp at he; exact he ▸ hx)) (fun x hx => by simp at hx; exact hx ▸ HH.out.lo), HH.out.nf, HH.out.lo, hh, hh⟩, hc⟩
  | true =>
    go_wp2_with fail
    go_end0
    rw [← HN.out]
    have em : (min (least : Int) (N : Int)) = ((min least N : Nat) : Int) := by omega
    rw [em]
    have hc : Chg [c] w3 (((w3.setCell { block := c, off := 1 } (Value.int IntKind.i64 ((min least N : Nat) : Int))).setCell { block := c, off := 2 } (Value.int IntKind.i64 ↑N)).setCell { block := c, off := 3 } (Value.bool true)) :=
      (((Chg.refl w3).setCell (Or.inl (by simp)) _).setCell (Or.inl (by simp)) _).setCell (Or.inl (by simp)) _
    exact ⟨rfl, ⟨((HH.out.head.set 1 _).set 2 _).set 3 _, HH.out.tab.chg hc (fun x hx he => HH.out.nf (by simp at he; exact he ▸ hx)) (fun x hx => by simp at hx; exact hx ▸ HH.out.lo), HH.out.nf, HH.out.lo, by omega, hh⟩, hc⟩
theorem _root_.Go.Proofs.Ytmoeioaahampaaa.B.BytesOf.chg1 {L : List Nat} {w w' : World} {v : Value} {xs : List UInt8} (h : BytesOf w v xs) (hc : Chg L w w') (hn : 0 < xs.length → ∀ a n cap, v = .slice (some a) n cap → a.block ∉ L) : BytesOf w' v xs := by
  rcases Nat.eq_zero_or_pos xs.length with h0 | h0
  · obtain ⟨a, cap, rfl, h1, h2⟩ := h.slice
    exact ⟨a, cap, rfl, h1, h2, fun h => by omega⟩
  · exact h.chg hc (hn h0)
/-- A reader in memory: the octets that are left. -/
structure RdH (w : World) (B : Nat) (F : List Nat) (r : Nat) (sv : Value) (l : List UInt8) (bad : Bool) : Prop where
  head : At w r (.cells #[sv, .bool bad] 72 (0, 0))
  bytes : BytesOf w sv l
  out : 0 < l.length → ∀ a n cap, sv = .slice (some a) n cap → a.block < B ∧ a.block ∉ F
  lo : B ≤ r
theorem RdH.chg {w w' : World} {B : Nat} {F : List Nat} {r : Nat} {sv : Value} {l : List UInt8} {bad : Bool} {L : List Nat} (h : RdH w B F r sv l bad) (hc : Chg L w w') (hr : r ∉ L) (hL : ∀ x ∈ L, x ∈ F ∨ B ≤ x) : RdH w' B F r sv l bad :=
  ⟨h.head.chg hc hr, h.bytes.chg1 hc (fun h0 a n cap e hx => by have := h.out h0 a n cap e; exact (hL _ hx).elim this.2 (fun h => by omega)), h.out, h.lo⟩
theorem RdH.chg0 {w w' : World} {B : Nat} {F : List Nat} {r : Nat} {sv : Value} {l : List UInt8} {bad : Bool} (h : RdH w B F r sv l bad) (hc : Chg [] w w') : RdH w' B F r sv l bad := h.chg hc (by simp) (by simp)
theorem RdH.put1 {w : World} {B : Nat} {F : List Nat} {r : Nat} {sv : Value} {l : List UInt8} {bad : Bool} (h : RdH w B F r sv l bad) (b : Bool) : RdH (w.setCell ⟨r, 1, none⟩ (.bool b)) B F r sv l b :=
  ⟨h.head.set 1 (.bool b), h.bytes.chg1 (L := [r]) ((Chg.refl w).setCell (Or.inl (by simp)) _) (fun h0 a n cap e hx => by have := h.out h0 a n cap e; have := h.lo; simp at hx; omega), h.out, h.lo⟩
theorem RdH.put0 {w : World} {B : Nat} {F : List Nat} {r : Nat} {sv : Value} {l : List UInt8} {bad : Bool} (h : RdH w B F r sv l bad) (v : Value) (l' : List UInt8) (hv : BytesOf w v l') (ho : 0 < l'.length → ∀ a n cap, v = .slice (some a) n cap → a.block < B ∧ a.block ∉ F) : RdH (w.setCell ⟨r, 0, none⟩ v) B F r v l' bad :=
  ⟨h.head.set 0 v, hv.chg1 (L := [r]) ((Chg.refl w).setCell (Or.inl (by simp)) _) (fun h0 a n cap e hx => by have := ho h0 a n cap e; have := h.lo; simp at hx; omega), ho, h.lo⟩
/-- What is left of octets behind some. -/
theorem cut_any {w : World} {ba : Option Addr} {n cap : Nat} {l : List UInt8} (h : BytesOf w (.slice ba n cap) l) (k : Nat) (hk : k ≤ l.length) :
    ∃ a2 n2 c2, (∀ w', (Instr.sliceAt 22 (.slice ba n cap) (some (.int .i64 (k : Int))) none none).run Try.prog w' = .ok (.slice a2 n2 c2) w') ∧ (∀ w', BytesOf w' (.slice ba n cap) l → BytesOf w' (.slice a2 n2 c2) (l.drop k)) ∧ (∀ a, a2 = some a → ∃ a', ba = some a' ∧ a.block = a'.block) := by
  obtain ⟨ba', cap', he, hc1, hc2⟩ := h.slice
  simp only [Value.slice.injEq] at he
  obtain ⟨rfl, rfl, rfl⟩ := he
  refine ⟨if cap = k then ba else ba.map (·.add (k * 1)), l.length - k, cap - k, fun w' => ?_, fun w' hb => ?_, fun a ha => ?_⟩
  · have hu : Try.prog.underlying 22 = some (.slice (Try.prog.elem 22)) := by kernel_rfl
    refine (run_sliceAt_slice (P := Try.prog) (w := w') 22 _ _ _ _ hu).trans ?_
    refine (run_slice_l (P := Try.prog) (w := w') 22 ba l.length cap hu .i64 (k : Int) (by omega) (by omega)).trans ?_
    have hs : (sizeOf (Try.prog.elem 22)).run Try.prog w' = .ok 1 w' := by kernel_rfl
    rw [hs]
    simp only [Result.andThen, sliced, Int.toNat_natCast]
  · by_cases hl : l.length = k
    · have e0 : l.drop k = [] := List.drop_of_length_le (by omega)
      rw [e0, show l.length - k = 0 by omega]
      exact ⟨_, cap - k, rfl, by simp, by unfold maxLen at *; omega, fun h0 => by simp at h0⟩
    · obtain ⟨b, off, rfl, hbw, hcell⟩ := hb.cell (by omega)
      rw [if_neg (by omega)]
      have := hb.cut k l.length (by omega) (by omega) (c' := cap - k) (by omega) (by unfold maxLen at *; omega)
      rw [List.take_of_length_le (by simp)] at this
      show BytesOf w' (.slice (some (Addr.add ⟨b, off, none⟩ (k * 1))) _ _) _
      unfold Addr.add
      split
      · rename_i h0
        obtain rfl : k = 0 := by omega
        exact hb
      · simpa using this
  · split at ha
    · exact ⟨a, ha, rfl⟩
    · cases ba with
      | none => simp at ha
      | some a' =>
        refine ⟨a', rfl, ?_⟩
        simp at ha
        subst ha
        unfold Addr.add
        split <;> rfl
theorem RdH.cut {w : World} {B : Nat} {F : List Nat} {r : Nat} {sv : Value} {l : List UInt8} {bad : Bool} (h : RdH w B F r sv l bad) (k : Nat) (hk : k ≤ l.length) :
    ∃ a2 n2 c2, (∀ w', (Instr.sliceAt 22 sv (some (.int .i64 (k : Int))) none none).run Try.prog w' = .ok (.slice a2 n2 c2) w') ∧ (∀ w', BytesOf w' sv l → BytesOf w' (.slice a2 n2 c2) (l.drop k)) ∧ (0 < (l.drop k).length → ∀ a n c, Value.slice a2 n2 c2 = .slice (some a) n c → a.block < B ∧ a.block ∉ F) := by
  obtain ⟨ba, cap, rfl, _, _⟩ := h.bytes.slice
  obtain ⟨a2, n2, c2, h1, h2, h3⟩ := cut_any h.bytes k hk
  refine ⟨a2, n2, c2, h1, h2, fun h0 a n c e => ?_⟩
  simp only [Value.slice.injEq] at e
  obtain ⟨a', ha', hb⟩ := h3 a e.1
  have := h.out (by rw [List.length_drop] at h0; omega) a' _ _ (by rw [ha'])
  rw [hb]; exact this
set_option maxRecDepth 100000 in
set_option maxHeartbeats 4000000 in
theorem number_any {w : World} {B : Nat} {F : List Nat} {r : Nat} {sv : Value} {l : List UInt8} {bad : Bool} (h : RdH w B F r sv l bad) (P : Nat) :
    Calls Try.prog 37 #[.pointer (some ⟨r, 0, none⟩), .int .i64 P] w fun e w' => e = .returned (.int .i64 (getI l P).1) ∧ (∃ sv', RdH w' B F r sv' (l.drop (getI l P).2.1) (bad || decide ((getI l P).2.2 ≠ 0))) ∧ Chg [r] w w' := by
  have hk : (getI l P).2.1 ≤ l.length := by
    by_cases h0 : (getI l P).2.2 = 0
    · exact (getI_ok h0).2.2
    · rw [(getI_bad l P h0).2]; exact Nat.zero_le _
  obtain ⟨G, hG⟩ : ∃ G, G = getI l P := ⟨_, rfl⟩
  rw [← hG] at hk ⊢
  have HG := Lib.hid hG
  clear hG
  obtain ⟨V, n, E⟩ := G
  simp only at hk ⊢
  obtain ⟨a2, n2, c2, hsl, hb2, ho2⟩ := h.cut n hk
  have x0 : World.cell? w ⟨r, 0, none⟩ = some sv := h.head.cell rfl
  have x1 : World.cell? w ⟨r, 1, none⟩ = some (.bool bad) := h.head.cell rfl
  have xf : ∀ j, World.frozen? w ⟨r, j, none⟩ = false := fun j => h.head.free j
  have HR := Lib.hid h; have HB2 := Lib.hid hb2; have HO2 := Lib.hid ho2
  clear h hb2 ho2 hk
  cases bad with
  | true =>
    rw [Bool.true_or]
    go_enter Try.func37, Try.ntmps37
    go_wp2_with fail
    skip
    refine (getint_any _ l (P : Int) _ HR.out.bytes).mono ?_; rintro e w1 ⟨he, c1⟩
    rw [← HG.out] at he; subst he
    have HR1 := Lib.hid (HR.out.chg0 c1); have C1 := Lib.hid (c1.mono (m := [r]) (by simp))
    clear c1 HR x0 x1 xf
    have x0 : World.cell? w1 ⟨r, 0, none⟩ = some sv := HR1.out.head.cell rfl
    have xf : ∀ j, World.frozen? w1 ⟨r, j, none⟩ = false := fun j => HR1.out.head.free j
    have x1 : World.cell? w1 ⟨r, 1, none⟩ = some (.bool true) := HR1.out.head.cell rfl
    go_wp2_with fail
    go_ret
    skip
    refine ⟨rfl, ⟨_, RdH.put0 (RdH.put1 HR1.out true) _ _ (HB2.out _ (RdH.put1 HR1.out true).bytes) HO2.out⟩, (C1.out.setCell (p := ⟨r, 1, none⟩) (Or.inl (by simp)) _).setCell (p := ⟨r, 0, none⟩) (Or.inl (by simp)) _⟩
  | false =>
    rw [Bool.false_or]
    by_cases h0 : E = 0
    · have hne : ((E : Int) != 0) = false := by simp [h0]
      rw [show decide (E ≠ 0) = false by simp [h0]]
      clear h0
      go_enter Try.func37, Try.ntmps37
      go_wp2_with fail
      skip
      refine (getint_any _ l (P : Int) _ HR.out.bytes).mono ?_; rintro e w1 ⟨he, c1⟩
      rw [← HG.out] at he; subst he
      have HR1 := Lib.hid (HR.out.chg0 c1); have C1 := Lib.hid (c1.mono (m := [r]) (by simp))
      clear c1 HR x0 x1 xf
      have x0 : World.cell? w1 ⟨r, 0, none⟩ = some sv := HR1.out.head.cell rfl
      have xf : ∀ j, World.frozen? w1 ⟨r, j, none⟩ = false := fun j => HR1.out.head.free j
      have x1 : World.cell? w1 ⟨r, 1, none⟩ = some (.bool false) := HR1.out.head.cell rfl
      go_wp2_with fail
      go_ret
      skip
      refine ⟨rfl, ⟨_, RdH.put0 (RdH.put1 HR1.out false) _ _ (HB2.out _ (RdH.put1 HR1.out false).bytes) HO2.out⟩, (C1.out.setCell (p := ⟨r, 1, none⟩) (Or.inl (by simp)) _).setCell (p := ⟨r, 0, none⟩) (Or.inl (by simp)) _⟩
    · have hne : ((E : Int) != 0) = true := by simp [h0]
      rw [show decide (E ≠ 0) = true by simp [h0]]
      clear h0
      go_enter Try.func37, Try.ntmps37
      go_wp2_with fail
      skip
      refine (getint_any _ l (P : Int) _ HR.out.bytes).mono ?_; rintro e w1 ⟨he, c1⟩
      rw [← HG.out] at he; subst he
      have HR1 := Lib.hid (HR.out.chg0 c1); have C1 := Lib.hid (c1.mono (m := [r]) (by simp))
      clear c1 HR x0 x1 xf
      have x0 : World.cell? w1 ⟨r, 0, none⟩ = some sv := HR1.out.head.cell rfl
      have xf : ∀ j, World.frozen? w1 ⟨r, j, none⟩ = false := fun j => HR1.out.head.free j
      have x1 : World.cell? w1 ⟨r, 1, none⟩ = some (.bool false) := HR1.out.head.cell rfl
      go_wp2_with fail
      go_ret
      skip
      refine ⟨rfl, ⟨_, RdH.put0 (RdH.put1 HR1.out true) _ _ (HB2.out _ (RdH.put1 HR1.out true).bytes) HO2.out⟩, (C1.out.setCell (p := ⟨r, 1, none⟩) (Or.inl (by simp)) _).setCell (p := ⟨r, 0, none⟩) (Or.inl (by simp)) _⟩
theorem getT_ok {l : List UInt8} : (getT l).2.1 ≤ l.length ∧ ((getT l).2.2 ≠ 0 → (getT l).2.1 = 0) := by
  unfold getT
  split
  · simp
  · rename_i h0
    split
    · simp
    · have := getI_ok (l := l) (p := 7) (by simpa using h0)
      split
      · exact ⟨by show (getI l 7).2.1 + (getI l 7).1 ≤ _; omega, fun h => absurd rfl h⟩
      · split
        · simp
        · exact ⟨by show (getI l 7).2.1 + (getI l 7).1 ≤ _; omega, fun h => absurd rfl h⟩
/-- A text read: what it is, what is left, whether it is none. -/
def textR (l : List UInt8) (bad : Bool) : List UInt8 × List UInt8 × Bool := if bad = true then ([], l, true) else ((getT l).1, l.drop (getT l).2.1, decide ((getT l).2.2 ≠ 0))
set_option maxRecDepth 100000 in
set_option maxHeartbeats 4000000 in
theorem text_any {w : World} {B : Nat} {F : List Nat} {r : Nat} {sv : Value} {l : List UInt8} {bad : Bool} (h : RdH w B F r sv l bad) :
    Calls Try.prog 57 #[.pointer (some ⟨r, 0, none⟩)] w fun e w' => e = .returned (Hi.txt (textR l bad).1) ∧ (∃ sv', RdH w' B F r sv' (textR l bad).2.1 (textR l bad).2.2) ∧ Chg [r] w w' := by
  unfold textR
  have hk := (getT_ok (l := l)).1
  obtain ⟨G, hG⟩ : ∃ G, G = getT l := ⟨_, rfl⟩
  rw [← hG] at hk ⊢
  have HG := Lib.hid hG
  clear hG
  obtain ⟨V, n, E⟩ := G
  simp only at hk ⊢
  obtain ⟨a2, n2, c2, hsl, hb2, ho2⟩ := h.cut n hk
  have x0 : World.cell? w ⟨r, 0, none⟩ = some sv := h.head.cell rfl
  have x1 : World.cell? w ⟨r, 1, none⟩ = some (.bool bad) := h.head.cell rfl
  have xf : ∀ j, World.frozen? w ⟨r, j, none⟩ = false := fun j => h.head.free j
  have HR := Lib.hid h; have HB2 := Lib.hid hb2; have HO2 := Lib.hid ho2
  clear h hb2 ho2 hk
  cases bad with
  | true =>
    rw [if_pos rfl]
    go_enter Try.func57, Try.ntmps57
    go_wp2_with fail
    go_ret
    exact ⟨rfl, ⟨_, HR.out⟩, Chg.refl _⟩
  | false =>
    rw [if_neg (by simp)]
    by_cases h0 : E = 0
    · have hne : ((E : Int) != 0) = false := by simp [h0]
      rw [show decide (E ≠ 0) = false by simp [h0]]
      clear h0
      go_enter Try.func57, Try.ntmps57
      go_wp2_with fail
      skip
      refine (gettext_any _ l _ HR.out.bytes).mono ?_; rintro e w1 ⟨he, c1⟩
      rw [← HG.out] at he; subst he
      have HR1 := Lib.hid (HR.out.chg0 c1); have C1 := Lib.hid (c1.mono (m := [r]) (by simp))
      clear c1 HR x0 x1 xf
      have x0 : World.cell? w1 ⟨r, 0, none⟩ = some sv := HR1.out.head.cell rfl
      have xf : ∀ j, World.frozen? w1 ⟨r, j, none⟩ = false := fun j => HR1.out.head.free j
      have x1 : World.cell? w1 ⟨r, 1, none⟩ = some (.bool false) := HR1.out.head.cell rfl
      go_wp2_with fail
      go_ret
      skip
      refine ⟨rfl, ⟨_, RdH.put0 (RdH.put1 HR1.out false) _ _ (HB2.out _ (RdH.put1 HR1.out false).bytes) HO2.out⟩, (C1.out.setCell (p := ⟨r, 1, none⟩) (Or.inl (by simp)) _).setCell (p := ⟨r, 0, none⟩) (Or.inl (by simp)) _⟩
    · have hne : ((E : Int) != 0) = true := by simp [h0]
      rw [show decide (E ≠ 0) = true by simp [h0]]
      clear h0
      go_enter Try.func57, Try.ntmps57
      go_wp2_with fail
      skip
      refine (gettext_any _ l _ HR.out.bytes).mono ?_; rintro e w1 ⟨he, c1⟩
      rw [← HG.out] at he; subst he
      have HR1 := Lib.hid (HR.out.chg0 c1); have C1 := Lib.hid (c1.mono (m := [r]) (by simp))
      clear c1 HR x0 x1 xf
      have x0 : World.cell? w1 ⟨r, 0, none⟩ = some sv := HR1.out.head.cell rfl
      have xf : ∀ j, World.frozen? w1 ⟨r, j, none⟩ = false := fun j => HR1.out.head.free j
      have x1 : World.cell? w1 ⟨r, 1, none⟩ = some (.bool false) := HR1.out.head.cell rfl
      go_wp2_with fail
      go_ret
      skip
      refine ⟨rfl, ⟨_, RdH.put0 (RdH.put1 HR1.out true) _ _ (HB2.out _ (RdH.put1 HR1.out true).bytes) HO2.out⟩, (C1.out.setCell (p := ⟨r, 1, none⟩) (Or.inl (by simp)) _).setCell (p := ⟨r, 0, none⟩) (Or.inl (by simp)) _⟩
set_option maxRecDepth 100000 in
set_option maxHeartbeats 4000000 in
theorem at_any {W w : World} {d : Nat} {F0 : List Nat} {p m : Nat} {es : List Fd} {limit : Nat} {list : Int} {broken : Bool} (hd : DH W w d F0 p m es limit list broken) {B : Nat} {F : List Nat} {r : Nat} {sv : Value} {l : List UInt8} {bad : Bool} (h : RdH w B F r sv l bad) (i : Nat) (hi : i ≤ 2147483647) :
    Calls Try.prog 56 #[.pointer (some ⟨d, 0, none⟩), .pointer (some ⟨r, 0, none⟩), .int .i64 i] w fun e w' => e = .returned (.agg (aF (atR es i).1)) ∧ RdH w' B F r sv l (bad || !(atR es i).2) ∧ Chg [r] w w' := by
  obtain ⟨R, hR⟩ : ∃ R, R = atR es i := ⟨_, rfl⟩
  rw [← hR]
  have HRR := Lib.hid hR
  clear hR
  obtain ⟨f, ok⟩ := R
  simp only
  have h1 := h.chg0 ((Chg.refl w).alloc (.cells #[.string ⟨#[]⟩, .string ⟨#[]⟩, .bool false] 44))
  have hd1 := hd.chg0 ((Chg.refl w).alloc (.cells #[.string ⟨#[]⟩, .string ⟨#[]⟩, .bool false] 44))
  have c0 := At.new w (.cells #[.string ⟨#[]⟩, .string ⟨#[]⟩, .bool false] 44)
  have x0 : World.cell? w ⟨d, 0, none⟩ = some (.pointer (some ⟨p, 0, none⟩)) := hd.head.cell rfl
  have hdl := hd.head.lt
  have hrl := h.head.lt
  have HR := Lib.hid h1; have HD := Lib.hid hd1; have HC0 := Lib.hid c0; have HH := Lib.hid h
  clear h h1 hd hd1 c0
  unfold aF
  go_enter Try.func56, Try.ntmps56
  go_wp2_with fail
  refine (H_at (i : Int) _ HD.out.tab (by omega)).mono ?_; rintro e w1 ⟨he, c1⟩
  rw [← HRR.out] at he
  replace he : e = .returned (.tuple #[.agg #[.string f.n, .string f.v, .bool f.nv], .bool ok]) := he
  subst he
  have hs1 := c1.size
  simp at hs1
  obtain ⟨z, hz⟩ : ∃ z, z = w.heap.size := ⟨_, rfl⟩
  have HRZ := HR.out.chg0 c1
  have HCZ := HC0.out.chg c1 (by simp)
  have hC := ((Chg.refl w).alloc (l := [r]) (.cells #[.string ⟨#[]⟩, .string ⟨#[]⟩, .bool false] 44)).trans' (c1.mono (by simp))
  rw [← hz] at HCZ hs1 hrl hdl ⊢
  have hrz : r ≠ z := by omega
  have hzr : z ≠ r := by omega
  have hzw : w.heap.size ≤ z := by omega
  have x1 : World.cell? w1 ⟨r, 1, none⟩ = some (.bool bad) := HRZ.head.cell rfl
  have xf : ∀ j, World.frozen? w1 ⟨r, j, none⟩ = false := fun j => HRZ.head.free j
  have y0 : World.cell? w1 ⟨z, 0, none⟩ = some (.string ⟨#[]⟩) := HCZ.cell rfl
  have y1 : World.cell? w1 ⟨z, 1, none⟩ = some (.string ⟨#[]⟩) := HCZ.cell rfl
  have y2 : World.cell? w1 ⟨z, 2, none⟩ = some (.bool false) := HCZ.cell rfl
  have yf : ∀ j, World.frozen? w1 ⟨z, j, none⟩ = false := fun j => HCZ.free j
  have hrw : r < w1.heap.size := by omega
  have hzw1 : z < w1.heap.size := by omega
  have HR1 := Lib.hid HRZ; have HCC := Lib.hid hC
  have hBr := HRZ.lo
  clear HRZ HCZ hC c1 HR HD HC0 HH hz x0
  cases bad <;> cases ok
  · skip
    go_wp2_with fail
    refine bodyPost_ret (v := .agg #[.string f.n, .string f.v, .bool f.nv]) (by simp [results, Try.results56, go_sem, y0, y1, y2, hrz, hzr, yf, hzw1, hrw]) rfl ⟨rfl, ?_, ?_⟩
    · have hc2 : ∀ u : World, Chg [z] u ((((u.setCell ⟨z, 0, none⟩ (.string f.n)).setCell ⟨z, 1, none⟩ (.string f.v)).setCell ⟨z, 2, none⟩ (.bool f.nv)).alloc (.cells #[.string f.n, .string f.v, .bool f.nv] 44)) := fun u =>
        ((((Chg.refl u).setCell (Or.inl (by simp)) _).setCell (Or.inl (by simp)) _).setCell (Or.inl (by simp)) _).alloc _
      exact (RdH.put1 HR1.out true).chg (hc2 _) (by simpa using hrz) (fun x hx => Or.inr (by simp at hx; omega))
    · exact ((((HCC.out.setCell (p := ⟨r, 1, none⟩) (Or.inl (by simp)) _).setCell (p := ⟨z, 0, none⟩) (Or.inr hzw) _).setCell (p := ⟨z, 1, none⟩) (Or.inr hzw) _).setCell (p := ⟨z, 2, none⟩) (Or.inr hzw) _).alloc _
  · skip
    go_wp2_with fail
    refine bodyPost_ret (v := .agg #[.string f.n, .string f.v, .bool f.nv]) (by simp [results, Try.results56, go_sem, y0, y1, y2, hrz, hzr, yf, hzw1, hrw]) rfl ⟨rfl, ?_, ?_⟩
    · have hc2 : ∀ u : World, Chg [z] u ((((u.setCell ⟨z, 0, none⟩ (.string f.n)).setCell ⟨z, 1, none⟩ (.string f.v)).setCell ⟨z, 2, none⟩ (.bool f.nv)).alloc (.cells #[.string f.n, .string f.v, .bool f.nv] 44)) := fun u =>
        ((((Chg.refl u).setCell (Or.inl (by simp)) _).setCell (Or.inl (by simp)) _).setCell (Or.inl (by simp)) _).alloc _
      exact (RdH.put1 HR1.out false).chg (hc2 _) (by simpa using hrz) (fun x hx => Or.inr (by simp at hx; omega))
    · exact ((((HCC.out.setCell (p := ⟨r, 1, none⟩) (Or.inl (by simp)) _).setCell (p := ⟨z, 0, none⟩) (Or.inr hzw) _).setCell (p := ⟨z, 1, none⟩) (Or.inr hzw) _).setCell (p := ⟨z, 2, none⟩) (Or.inr hzw) _).alloc _
  · skip
    go_wp2_with fail
    refine bodyPost_ret (v := .agg #[.string f.n, .string f.v, .bool f.nv]) (by simp [results, Try.results56, go_sem, y0, y1, y2, hrz, hzr, yf, hzw1, hrw]) rfl ⟨rfl, ?_, ?_⟩
    · have hc2 : ∀ u : World, Chg [z] u ((((u.setCell ⟨z, 0, none⟩ (.string f.n)).setCell ⟨z, 1, none⟩ (.string f.v)).setCell ⟨z, 2, none⟩ (.bool f.nv)).alloc (.cells #[.string f.n, .string f.v, .bool f.nv] 44)) := fun u =>
        ((((Chg.refl u).setCell (Or.inl (by simp)) _).setCell (Or.inl (by simp)) _).setCell (Or.inl (by simp)) _).alloc _
      exact (RdH.put1 HR1.out true).chg (hc2 _) (by simpa using hrz) (fun x hx => Or.inr (by simp at hx; omega))
    · exact ((((HCC.out.setCell (p := ⟨r, 1, none⟩) (Or.inl (by simp)) _).setCell (p := ⟨z, 0, none⟩) (Or.inr hzw) _).setCell (p := ⟨z, 1, none⟩) (Or.inr hzw) _).setCell (p := ⟨z, 2, none⟩) (Or.inr hzw) _).alloc _
  · skip
    go_wp2_with fail
    refine bodyPost_ret (v := .agg #[.string f.n, .string f.v, .bool f.nv]) (by simp [results, Try.results56, go_sem, y0, y1, y2, hrz, hzr, yf, hzw1, hrw]) rfl ⟨rfl, ?_, ?_⟩
    · have hc2 : ∀ u : World, Chg [z] u ((((u.setCell ⟨z, 0, none⟩ (.string f.n)).setCell ⟨z, 1, none⟩ (.string f.v)).setCell ⟨z, 2, none⟩ (.bool f.nv)).alloc (.cells #[.string f.n, .string f.v, .bool f.nv] 44)) := fun u =>
        ((((Chg.refl u).setCell (Or.inl (by simp)) _).setCell (Or.inl (by simp)) _).setCell (Or.inl (by simp)) _).alloc _
      exact (RdH.put1 HR1.out true).chg (hc2 _) (by simpa using hrz) (fun x hx => Or.inr (by simp at hx; omega))
    · exact ((((HCC.out.setCell (p := ⟨r, 1, none⟩) (Or.inl (by simp)) _).setCell (p := ⟨z, 0, none⟩) (Or.inr hzw) _).setCell (p := ⟨z, 1, none⟩) (Or.inr hzw) _).setCell (p := ⟨z, 2, none⟩) (Or.inr hzw) _).alloc _
end Go.Proofs.Ytmoeioaahampaaa.Tb.Hp
