/-
  The walks of package hpack: the encoder.
-/
import Derived.Test.YtmoeioaahampaaaHpP
import Derived.Test.YtmoeioaahampaaaLater
import Derived.Test.YtmoeioaahampaaaText
import Derived.Deep.RegionHeldLaw
import Derived.Deep.DrawnRows
import Derived.Deep.DeepCutAuto
namespace Go.Proofs.Ytmoeioaahampaaa.Tb.Hp
open Go.ChangeShapes Go.WideShapes Go.ChangeAt Go.RowKit
open Go.Proofs.Ytmoeioaahampaaa.B Go.Proofs.Ytmoeioaahampaaa.Hi Go.Proofs.Ytmoeioaahampaaa.Tb
open Go.Proofs.Ytmoeioaahampaaa.Hf (bx need enc dec bitsOf)
set_option linter.unusedVariables false
set_option linter.unusedSimpArgs false

end Go.Proofs.Ytmoeioaahampaaa.Tb.Hp
namespace Go.Proofs.Ytmoeioaahampaaa.B
theorem OwnB.chg0 {w w' : World} {base : Nat} {v : Value} {xs : List UInt8} (h : OwnB w base v xs) (hc : Chg [] w w') : OwnB w' base v xs := OwnB.chg h hc (fun _ _ => by simp)
end Go.Proofs.Ytmoeioaahampaaa.B
namespace Go.Proofs.Ytmoeioaahampaaa.Tb
open Go.ChangeShapes Go.WideShapes Go.ChangeAt Go.RowKit
open Go.Proofs.Ytmoeioaahampaaa.B Go.Proofs.Ytmoeioaahampaaa.Hi
theorem Has.alienF {W w : World} {F : List Nat} {p m : Nat} {es : List Fd} (h : Has W w F p m es) {b : Nat} {c : Array Value} {T : TypeId} {fz : Nat × Nat} (hb : At w b (.cells c T fz)) (h1 : T ≠ 94) (h2 : T ≠ 44) : b ∉ F := by
  obtain ⟨sv, ht, _, rfl, _⟩ := h
  intro hx
  rcases List.mem_cons.1 hx with rfl | hx
  · exact h1 (at_typ_inj hb ht.head)
  · exact owns_alien ht.row hb h2 hx
end Go.Proofs.Ytmoeioaahampaaa.Tb
namespace Go.Proofs.Ytmoeioaahampaaa.Tb.Hp
open Go.ChangeShapes Go.WideShapes Go.ChangeAt Go.RowKit
open Go.Proofs.Ytmoeioaahampaaa.B Go.Proofs.Ytmoeioaahampaaa.Hi Go.Proofs.Ytmoeioaahampaaa.Tb
open Go.Proofs.Ytmoeioaahampaaa.Hf (bx need enc dec bitsOf)

abbrev FN (f : Fd) : Obj := .cells #[.string f.n, .string f.v, .bool f.nv] 44 (0, 0)
/-- An encoder in memory. -/
structure EH (W w : World) (c : Nat) (F : List Nat) (p m : Nat) (es : List Fd) (least last : Nat) (called : Bool) : Prop where
  head : At w c (.cells #[.pointer (some ⟨p, 0, none⟩), .int .i64 least, .int .i64 last, .bool called] 41 (0, 0))
  tab : Has W w F p m es
  nf : c ∉ F
  lo : W.heap.size ≤ c
  b1 : least ≤ 65536
  b2 : last ≤ 65536
theorem EH.chg0 {W w w' : World} {c : Nat} {F : List Nat} {p m : Nat} {es : List Fd} {least last : Nat} {called : Bool} (h : EH W w c F p m es least last called) (hc : Chg [] w w') : EH W w' c F p m es least last called :=
  ⟨h.head.chg hc (by simp), h.tab.chg0 hc, h.nf, h.lo, h.b1, h.b2⟩
theorem EH.lt {W w : World} {c : Nat} {F : List Nat} {p m : Nat} {es : List Fd} {least last : Nat} {called : Bool} (h : EH W w c F p m es least last called) : ∀ x ∈ c :: F, x < w.heap.size := by
  intro x hx
  rcases List.mem_cons.1 hx with rfl | hx
  · exact h.head.lt
  · exact h.tab.lt x hx
theorem fit_any (n : Int) (w : World) :
    Calls Try.prog 36 #[.int .i64 n] w fun e w' => e = .returned (.int .i64 (hgt n)) ∧ w' = w := by
  have e : ((hgt n : Nat) : Int) = min (max n 0) 65536 := hgt_cast n
  have HE := Lib.hid e
  clear e
  go_enter Try.func36, Try.ntmps36
  go_wp2_with fail
  go_ret
  rw [HE.out]
  exact ⟨rfl, rfl⟩
set_option maxRecDepth 100000 in
set_option maxHeartbeats 4000000 in
theorem newenc_any {W : World} (n : Int) (w : World) (hb : Below W.heap.size W w) :
    Calls Try.prog 16 #[.int .i64 n] w fun e w' => ∃ c F p, e = .returned (.pointer (some ⟨c, 0, none⟩)) ∧ EH W w' c F p (hgt n) [] 0 0 false ∧ Chg [] w w' ∧ ∀ x ∈ c :: F, w.heap.size ≤ x := by
  go_enter Try.func16, Try.ntmps16
  go_wp2_with fail
  refine (H_new (W := W) n w hb).mono ?_; rintro e w2 ⟨rfl, c2, F, h2, hF⟩
  have hs := c2.size
  have hlt := h2.lt
  have hbl := h2.below.size
  go_wp2_with fail
  go_ret
  refine ⟨w2.heap.size, F, _, rfl, ⟨At.new w2 _, h2.alloc _, fun hx => by have := hlt _ hx; omega, hbl, by omega, by omega⟩, c2.alloc _, fun x hx => ?_⟩
  rcases List.mem_cons.1 hx with rfl | hx
  · exact hs
  · exact hF x hx
set_option maxRecDepth 100000 in
set_option maxHeartbeats 4000000 in
theorem literal_any {w : World} {base : Nat} (ov : Value) (l : List UInt8) (first : UInt8) (P i : Nat) (f : Fd) (hn : f.n.size ≤ 1000000) (hv : f.v.size ≤ 1000000) (ho : OwnB w base ov l) (hl : l.length ≤ 100000000) (hb : base ≤ w.heap.size) :
    Calls Try.prog 44 #[ov, .int .u8 (first.toNat : Int), .int .i64 P, .int .i64 i, .agg (aF f)] w fun e w' => ∃ rv, e = .returned rv ∧ OwnB w' base rv (l ++ lit first P i f) ∧ Chg ov.ownBlock.toList w w' := by
  unfold aF
  go_enter Try.func44, Try.ntmps44
  go_wp2_with fail
  have hbx := At.new w (FN f)
  have hc0 : Chg ov.ownBlock.toList w (w.alloc (FN f)) := (Chg.refl w).alloc _
  have ho1 := OwnB.chg0 ho ((Chg.refl w).alloc (FN f))
  have hlo := ho.lo
  have HBX := Lib.hid hbx; have HC0 := Lib.hid hc0; have HO1 := Lib.hid ho1
  clear hbx hc0 ho1 ho
  refine (putint_any first P i _).mono ?_; rintro e w1 ⟨rv, rfl, o1, c1⟩
  have hl1 := putI_len first P i
  have HBX1 := Lib.hid (HBX.out.chg c1 (by simp)); have HC1 := Lib.hid (HC0.out.trans' (c1.mono (by simp))); have HO2 := Lib.hid (OwnB.chg0 HO1.out c1); have OB := Lib.hid o1.bytes
  have hs1 := c1.size
  simp at hs1
  clear c1 o1 HBX HC0 HO1
  go_wp2_with (at_builtin; refine app_any rfl _ _ rfl base ov l rfl HO2.out rv _ rfl OB.out (by omega) (by omega) ?_)
  intro v2 w2 own2 ch2 n2
  have HBX2 := Lib.hid (HBX1.out.chg ch2 (owns_alien HO2.out HBX1.out (by decide)))
  have HC2 := Lib.hid (HC1.out.trans' ch2)
  have hn2 : ∀ x ∈ v2.ownBlock.toList, x ∈ ov.ownBlock.toList ∨ w.heap.size ≤ x := fun x hx => (n2 x (by simpa using hx)).elim (fun h => Or.inl (by simpa using h)) (fun h => Or.inr (by omega))
  have O2 := Lib.hid own2; have HN2 := Lib.hid hn2
  have hs2 := ch2.size
  clear own2 ch2 n2 hn2 HBX1 HC1 HO2 OB
  have hpl : (l ++ (putI first (P : Int) (i : Int)).1).length ≤ l.length + 6 := by rw [List.length_append]; omega
  have HLIT : Hid (∀ Y : List UInt8, l ++ lit first P i f = (l ++ (putI first (P : Int) (i : Int)).1) ++ ((if i = 0 then putT (bx f.n) else []) ++ putT (bx f.v))) := Lib.hid (fun _ => by unfold lit; rw [List.append_assoc])
  generalize l ++ (putI first (P : Int) (i : Int)).1 = A at *
  have hpn := putT_le (bx f.n)
  have hpv := putT_le (bx f.v)
  have e1 : (bx f.n).length = f.n.size := by simp [bx]
  have e2 : (bx f.v).length = f.v.size := by simp [bx]
  rw [e1] at hpn
  rw [e2] at hpv
  clear e1 e2
  have d1 : World.cell? w2 ⟨w.heap.size, 1, none⟩ = some (.string f.v) := HBX2.out.cell rfl
  by_cases hi : i = 0
  · subst hi
    have d0 : World.cell? w2 ⟨w.heap.size, 0, none⟩ = some (.string f.n) := HBX2.out.cell rfl
    go_wp2_with fail
    refine (puttext_any f.n _ (by omega)).mono ?_; rintro e w3 ⟨rv3, rfl, o3, c3⟩
    have OB3 := Lib.hid o3.bytes; have HBX3 := Lib.hid (HBX2.out.chg c3 (by simp)); have O3 := Lib.hid (OwnB.chg0 O2.out c3); have HC3 := Lib.hid (HC2.out.trans' (c3.mono (by simp)))
    have hs3 := c3.size
    clear c3 o3 HBX2 O2 HC2 d0 d1
    go_wp2_with (at_builtin; refine app_any rfl _ _ rfl base v2 _ rfl O3.out rv3 _ rfl OB3.out (by first | omega | (rw [List.length_append]; omega)) (by omega) ?_)
    intro v4 w4 own4 ch4 n4
    have HBX4 := Lib.hid (HBX3.out.chg ch4 (owns_alien O3.out HBX3.out (by decide)))
    have HC4 := Lib.hid (HC3.out.trans ch4 HN2.out)
    have hn4 : ∀ x ∈ v4.ownBlock.toList, x ∈ ov.ownBlock.toList ∨ w.heap.size ≤ x := fun x hx => (n4 x (by simpa using hx)).elim (fun h => HN2.out x (by simpa using h)) (fun h => Or.inr (by omega))
    have O4 := Lib.hid own4; have HN4 := Lib.hid hn4
    have hs4 := ch4.size
    clear own4 ch4 n4 hn4 HBX3 HC3 O3 OB3
    have d1 : World.cell? w4 ⟨w.heap.size, 1, none⟩ = some (.string f.v) := HBX4.out.cell rfl
    go_wp2_with fail
    refine (puttext_any f.v _ (by omega)).mono ?_; rintro e w5 ⟨rv5, rfl, o5, c5⟩
    have OB5 := Lib.hid o5.bytes; have O5 := Lib.hid (OwnB.chg0 O4.out c5); have HC5 := Lib.hid (HC4.out.trans' (c5.mono (by simp)))
    have hs5 := c5.size
    clear c5 o5 HBX4 O4 HC4 d1
    go_wp2_with (at_builtin; refine app_any rfl _ _ rfl base v4 _ rfl O5.out rv5 _ rfl OB5.out (by first | omega | (rw [List.length_append]; omega)) (by omega) ?_)
    intro v6 w6 own6 ch6 n6
    have HC6 := Lib.hid (HC5.out.trans ch6 HN4.out); have O6 := Lib.hid own6
    clear own6 ch6 n6 HC5 O5 OB5
    go_wp2_with fail
    go_ret
    refine ⟨_, rfl, ?_, HC6.out⟩
    rw [HLIT.out [], if_pos trivial]
    exact O6.out
  · have hi0 : ((i : Int) == 0) = false := by simp; omega
    go_wp2_with fail
    refine (puttext_any f.v _ (by omega)).mono ?_; rintro e w5 ⟨rv5, rfl, o5, c5⟩
    have OB5 := Lib.hid o5.bytes; have O5 := Lib.hid (OwnB.chg0 O2.out c5); have HC5 := Lib.hid (HC2.out.trans' (c5.mono (by simp)))
    have hs5 := c5.size
    clear c5 o5 HBX2 O2 HC2 d1
    go_wp2_with (at_builtin; refine app_any rfl _ _ rfl base v2 _ rfl O5.out rv5 _ rfl OB5.out (by first | omega | (rw [List.length_append]; omega)) (by omega) ?_)
    intro v6 w6 own6 ch6 n6
    have HC6 := Lib.hid (HC5.out.trans ch6 HN2.out); have O6 := Lib.hid own6
    clear own6 ch6 n6 HC5 O5 OB5
    go_wp2_with fail
    go_ret
    refine ⟨_, rfl, ?_, HC6.out⟩
    rw [HLIT.out [], if_neg hi, List.nil_append]
    exact O6.out
theorem EH.alien {W w : World} {c : Nat} {F : List Nat} {p m : Nat} {es : List Fd} {least last : Nat} {called : Bool} (h : EH W w c F p m es least last called) {b : Nat} {cs : Array Value} {T : TypeId} {fz : Nat × Nat} (hb : At w b (.cells cs T fz)) (h0 : T ≠ 41) (h1 : T ≠ 94) (h2 : T ≠ 44) : b ∉ c :: F := by
  intro hx
  rcases List.mem_cons.1 hx with rfl | hx
  · exact h0 (at_typ_inj hb h.head)
  · exact h.tab.alienF hb h1 h2 hx
theorem EH.apart {W w : World} {c : Nat} {F : List Nat} {p m : Nat} {es : List Fd} {least last : Nat} {called : Bool} (h : EH W w c F p m es least last called) {base : Nat} {ov : Value} {l : List UInt8} (ho : OwnB w base ov l) : ∀ x ∈ c :: F, x ∉ ov.ownBlock.toList := by
  intro x hx hxo
  obtain ⟨cur, hc⟩ := owns_at ho (g := x) (by simpa using hxo)
  exact h.alien hc (by decide) (by decide) (by decide) hx
theorem EH.chg {W w w' : World} {c : Nat} {F : List Nat} {p m : Nat} {es : List Fd} {least last : Nat} {called : Bool} {l : List Nat} (h : EH W w c F p m es least last called) (hc : Chg l w w') (hd : ∀ x ∈ c :: F, x ∉ l) (hl : ∀ x ∈ l, W.heap.size ≤ x) : EH W w' c F p m es least last called :=
  ⟨h.head.chg hc (hd c (by simp)), h.tab.chg hc (fun x hx => hd x (by simp [hx])) hl, h.nf, h.lo, h.b1, h.b2⟩
/-- An update written. -/
theorem upd_any {W w : World} {c : Nat} {F : List Nat} {p m : Nat} {es : List Fd} {least last : Nat} {called : Bool} {base : Nat} (h : EH W w c F p m es least last called) (ov : Value) (l : List UInt8) (ho : OwnB w base ov l) (hl : l.length ≤ 1000) (hb : base ≤ w.heap.size) (hbW : W.heap.size ≤ base) (n : Nat) (hn : n ≤ 65536) :
    Calls Try.prog 42 #[.pointer (some ⟨c, 0, none⟩), ov, .int .i64 n] w fun e w' => ∃ rv F', e = .returned rv ∧ OwnB w' base rv (l ++ upd n) ∧ EH W w' c F' p n (Tb.fit 0 n es) least last called ∧ Fresh F' F w ∧ Chg (ov.ownBlock.toList ++ F) w w' ∧ (∀ k, rv.ownBlock = some k → ov.ownBlock = some k ∨ w.heap.size ≤ k) := by
  have hg : hgt (n : Int) = n := by unfold hgt; omega
  have HG := Lib.hid hg
  have c0 : World.cell? w ⟨c, 0, none⟩ = some (.pointer (some ⟨p, 0, none⟩)) := h.head.cell rfl
  have HH := Lib.hid h; have HO := Lib.hid ho
  have hlt := h.lt
  clear h ho hg
  go_enter Try.func42, Try.ntmps42
  go_wp2_with fail
  refine (H_set (n : Int) _ HH.out.tab).mono ?_; rintro e w1 ⟨rfl, ⟨F1, h1, f1⟩, c1⟩
  rw [HG.out] at h1
  have he1 : EH W w1 c F1 p n (Tb.fit 0 n es) least last called := ⟨HH.out.head.chg c1 HH.out.nf, h1, fun hx => (f1 c hx).elim HH.out.nf (fun h => by have := hlt c (by simp); omega), HH.out.lo, HH.out.b1, HH.out.b2⟩
  have ho1 : OwnB w1 base ov l := HO.out.chg c1 (fun g hg hx => HH.out.apart HO.out g (by simp [hx]) (by simp [hg]))
  have HE1 := Lib.hid he1; have HO1 := Lib.hid ho1; have F1H := Lib.hid f1; have C1 := Lib.hid c1
  have hs1 := c1.size
  clear he1 ho1 f1 c1 h1 c0 hlt
  go_wp2_with fail
  refine (putint_any 32 5 (n : Int) _).mono ?_; rintro e w2 ⟨rv, rfl, o2, c2⟩
  have hpl := putI_len 32 5 (n : Int)
  have HE2 := Lib.hid (HE1.out.chg0 c2); have HO2 := Lib.hid (OwnB.chg0 HO1.out c2); have OB := Lib.hid o2.bytes; have C2 := Lib.hid c2
  have hs2 := c2.size
  clear c2 o2 HE1 HO1
  go_wp2_with (at_builtin; refine app_any rfl _ _ rfl base ov l rfl HO2.out rv _ rfl OB.out (by omega) (by omega) ?_)
  intro v3 w3 own3 ch3 n3
  have HE3 := Lib.hid (HE2.out.chg ch3 (HE2.out.apart HO2.out) (fun x hx => Nat.le_trans hbW (HO2.out.lo x hx)))
  have O3 := Lib.hid own3
  have C3 := Lib.hid (((C1.out.mono (m := ov.ownBlock.toList ++ F) (fun x hx => List.mem_append_right _ hx)).trans' (C2.out.mono (by simp))).trans' (ch3.mono (fun x hx => List.mem_append_left _ hx)))
  have N3 := Lib.hid (show ∀ k, v3.ownBlock = some k → ov.ownBlock = some k ∨ w.heap.size ≤ k from fun k hk => (n3 k hk).imp id (fun h => by omega))
  clear own3 ch3 n3 HE2 HO2 OB
  go_wp2_with fail
  go_ret
  exact ⟨_, F1, rfl, O3.out, HE3.out, F1H.out, C3.out, N3.out⟩
theorem literal_nv {w : World} {base : Nat} {f : Fd} {nv : Bool} (hf : f.nv = nv) (ov : Value) (l : List UInt8) (first : UInt8) (P i : Nat) (hn : f.n.size ≤ 1000000) (hv : f.v.size ≤ 1000000) (ho : OwnB w base ov l) (hl : l.length ≤ 100000000) (hb : base ≤ w.heap.size) :
    Calls Try.prog 44 #[ov, .int .u8 (first.toNat : Int), .int .i64 P, .int .i64 i, .agg #[.string f.n, .string f.v, .bool nv]] w fun e w' => ∃ rv, e = .returned rv ∧ OwnB w' base rv (l ++ lit first P i f) ∧ Chg ov.ownBlock.toList w w' := by
  subst hf; exact literal_any ov l first P i f hn hv ho hl hb
theorem add_nv {W : World} {F : List Nat} {p m : Nat} {es : List Fd} {f : Fd} {nv : Bool} (hf : f.nv = nv) (w : World) (h : Has W w F p m es) (hs : f.sz ≤ 4611686018427387904) :
    Calls Try.prog 46 #[.pointer (some ⟨p, 0, none⟩), .agg #[.string f.n, .string f.v, .bool nv]] w fun e w' => e = .returned (.tuple #[]) ∧ Step W w F p m (addS f m es) w' := by
  subst hf; exact H_add f w h hs
/-- The memory of an encoder behind a store of 'called'. -/
theorem EH.put {W w : World} {c : Nat} {F : List Nat} {p m : Nat} {es : List Fd} {least last : Nat} {called : Bool} (h : EH W w c F p m es least last called) (b : Bool) : EH W (w.setCell ⟨c, 3, none⟩ (.bool b)) c F p m es least last b := by
  refine ⟨h.head.set 3 (.bool b), h.tab.chg (l := [c]) ((Chg.refl w).setCell (Or.inl (by simp)) _) (fun x hx he => h.nf (by simp at he; exact he ▸ hx)) (fun x hx => by simp at hx; exact hx ▸ h.lo), h.nf, h.lo, h.b1, h.b2⟩
theorem encsize_any {W w : World} {c : Nat} {F : List Nat} {p m : Nat} {es : List Fd} {least last : Nat} {called : Bool} (h : EH W w c F p m es least last called) :
    Calls Try.prog 19 #[.pointer (some ⟨c, 0, none⟩)] w fun e w' => e = .returned (.int .i64 (tot es)) ∧ Chg [] w w' := by
  have c0 : World.cell? w ⟨c, 0, none⟩ = some (.pointer (some ⟨p, 0, none⟩)) := h.head.cell rfl
  have HH := Lib.hid h.tab
  go_enter Try.func19, Try.ntmps19
  go_wp2_with fail
  refine (H_size _ HH.out).mono ?_; rintro e w1 ⟨rfl, rfl⟩
  go_wp2_with fail
  go_ret
  exact ⟨rfl, Chg.refl _⟩
theorem encmax_any {W w : World} {c : Nat} {F : List Nat} {p m : Nat} {es : List Fd} {least last : Nat} {called : Bool} (h : EH W w c F p m es least last called) :
    Calls Try.prog 22 #[.pointer (some ⟨c, 0, none⟩)] w fun e w' => e = .returned (.int .i64 m) ∧ Chg [] w w' := by
  have c0 : World.cell? w ⟨c, 0, none⟩ = some (.pointer (some ⟨p, 0, none⟩)) := h.head.cell rfl
  have HH := Lib.hid h.tab
  go_enter Try.func22, Try.ntmps22
  go_wp2_with fail
  refine (H_max _ HH.out).mono ?_; rintro e w1 ⟨rfl, rfl⟩
  go_wp2_with fail
  go_ret
  exact ⟨rfl, Chg.refl _⟩
end Go.Proofs.Ytmoeioaahampaaa.Tb.Hp
