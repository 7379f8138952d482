/-
  The reader of a list of settings.
-/
import Derived.Test.YthhgnipiaohplaaFck
import Derived.Test.YthhgnipiaohplaaFrh
import Derived.Test.YthhgnipiaohplaaFnx
namespace Go.Proofs.Ythhgnipiaohplaa.Fr
open Go.ChangeShapes Go.WideShapes Go.ChangeAt Go.RowKit
open Go.Proofs.Ythhgnipiaohplaa.B Go.Shelf
set_option linter.unusedVariables false
set_option linter.unusedSimpArgs false
attribute [local go_sem] Oper.semAt_some

/-- The settings that octets are. -/
def sets : List UInt8 → List (Int × Int)
  | a :: b :: c :: d :: e :: f :: rest => (((a.toNat * 256 + b.toNat : Nat) : Int), ((fourN c d e f : Nat) : Int)) :: sets rest
  | _ => []
def setAt (l : List UInt8) (k : Nat) : Int × Int := ((((l.getD (6 * k) 0).toNat * 256 + (l.getD (6 * k + 1) 0).toNat : Nat) : Int), ((fourN (l.getD (6 * k + 2) 0) (l.getD (6 * k + 3) 0) (l.getD (6 * k + 4) 0) (l.getD (6 * k + 5) 0) : Nat) : Int))
theorem sets_eq : ∀ (m : Nat) (l : List UInt8), l.length = 6 * m → (List.finRange m).map (fun x => setAt l x.val) = sets l := by
  intro m
  induction m with
  | zero => intro l h; have : l = [] := List.eq_nil_of_length_eq_zero h; subst this; rfl
  | succ m ih =>
    intro l h
    match l, h with
    | a :: b :: c :: d :: e :: f :: rest, h =>
      have hr : rest.length = 6 * m := by simp at h; omega
      rw [List.finRange_succ, List.map_cons, List.map_map]
      show _ = _ :: sets rest
      rw [← ih rest hr]
      congr 1
theorem six_at (l : List UInt8) (k : Nat) (h : 6 * k + 6 ≤ l.length) : ∃ a b c d e f, (∀ i, i < 6 → l[6 * k + i]? = [a, b, c, d, e, f][i]?) ∧ setAt l k = (((a.toNat * 256 + b.toNat : Nat) : Int), ((fourN c d e f : Nat) : Int)) := by
  have g : ∀ i, i < 6 → l[6 * k + i]? = some (l.getD (6 * k + i) 0) := fun i hi => by
    rw [List.getD_eq_getElem?_getD, List.getElem?_eq_getElem (by omega)]; rfl
  refine ⟨_, _, _, _, _, _, fun i hi => ?_, rfl⟩
  rw [g i hi]
  match i, hi with
  | 0, _ => rfl
  | 1, _ => rfl
  | 2, _ => rfl
  | 3, _ => rfl
  | 4, _ => rfl
  | 5, _ => rfl
theorem byte_at {w : World} {b off n cap : Nat} {l : List UInt8} (h : BytesOf w (.slice (some ⟨b, off, none⟩) n cap) l) (h0 : 0 < l.length) (i : Nat) (c : UInt8) (hc : l[i]? = some c) : w.cell? ⟨b, off + i, none⟩ = some (.int .u8 (c.toNat : Int)) := by
  obtain ⟨b', off', he, _, hcell⟩ := h.cell h0
  cases he
  exact hcell i c hc
theorem four_at {w : World} {b off n cap k : Nat} {l : List UInt8} {a b' c d e f : UInt8} (h : BytesOf w (.slice (some ⟨b, off, none⟩) n cap) l) (hg : ∀ i, i < 6 → l[6 * k + i]? = [a, b', c, d, e, f][i]?) (hk : 6 * k + 6 ≤ l.length) : BytesOf w (.slice (some ⟨b, off + (6 * k + 2), none⟩) 4 4) [c, d, e, f] := by
  have h2 := BytesOf.cut h (6 * k + 2) (6 * k + 6) (by omega) hk (c' := 4) (by omega) (by simp [maxLen])
  rw [show 6 * k + 6 - (6 * k + 2) = 4 by omega] at h2
  have he : (l.drop (6 * k + 2)).take 4 = [c, d, e, f] := by
    apply List.ext_getElem?
    intro i
    by_cases hi : i < 4
    · rw [List.getElem?_take_of_lt hi, List.getElem?_drop, show 6 * k + 2 + i = 6 * k + (2 + i) by omega, hg _ (by omega)]
      match i, hi with
      | 0, _ => rfl
      | 1, _ => rfl
      | 2, _ => rfl
      | 3, _ => rfl
    · rw [List.getElem?_eq_none (by simp; omega), List.getElem?_eq_none (by simp; omega)]
  rw [he] at h2
  exact h2
theorem infoS : (Try.prog.info? 50).map (fun i => (i.zero, i.size, i.bytes)) = some (some (.agg #[.int .i64 0, .int .u32 0]), 2, 16) := by kernel_rfl
theorem encS_len (x : Int × Int) : (encS x).length = 2 := rfl
theorem encS_one (x : Int × Int) : ∀ u ∈ encS x, u.oneCell' = true := by intro u hu; simp [encS] at hu; rcases hu with rfl | rfl <;> rfl
def withList (R1 : Rg) {m : Nat} (pre : List (Fin m)) : Rg := { R1 with F := { R1.F with list := R1.F.list ++ pre.map (fun x => setAt R1.l x.val) } }
/-- Between two rounds. -/
structure IS (w0 : World) (r B Bs Bn H : Nat) (pv bv sv : Value) (R1 : Rg) (m : Nat) (pre : List (Fin m)) (W : World) : Prop where
  h : ∃ lv, RM W r pv lv bv (withList R1 pre)
  b : At W B (.cells #[.pointer (some ⟨r, 0, none⟩)] 84 (0, 0))
  s : At W Bs (.cells #[sv] 22 (0, 0))
  n : At W Bn (.cells #[.int .i64 6] 3 (0, 0))
  l : Below r w0 W
  z : H ≤ W.heap.size
theorem KpC.put {Bs Bn H : Nat} (h1 : Bs < H) (h2 : Bn < H) (W : World) (l : Nat) (o o' : Obj) (hl : H ≤ l) (_ : W.heap[l]? = some o) (_ : o.isCells = false) (_ : o.isWalk = false) : KpC Bs Bn W (W.putObj l o') :=
  ⟨World.putObj_heap_other (by omega), World.putObj_heap_other (by omega)⟩
theorem at_not {W : World} {k : Nat} {cs : Array Value} {T : TypeId} {fz : Nat × Nat} (h : At W k (.cells cs T fz)) {row : Option Nat} (hr : ∀ r, row = some r → ∃ o : Obj, W.heap[r]? = some o ∧ o.isCells = false) : k ∉ row.toList := by
  intro hk
  obtain ⟨o, h1, h2⟩ := hr k (by simpa using hk)
  unfold At at h
  rw [h] at h1
  cases h1
  cases h2
theorem RM.kept {W W' : World} {r : Nat} {pv lv bv : Value} {R : Rg} {ls : List Nat} (h : RM W r pv lv bv R) (hc : Chg ls W W') (h1 : r ∉ ls) (h2 : ∀ g, pv.ownBlock = some g → g ∉ ls) (h3 : ∀ g, lv.ownBlock = some g → g ∉ ls) (h4 : ∀ k ∈ ls, r ≤ k) : RM W' r pv lv bv R :=
  ⟨⟨h.h.head.chg hc h1, h.h.b.chg hc (fun a n c e hk => by have := h.h.ap a n c e; have := h4 _ hk; omega), h.h.ap⟩, h.p.chg hc h2, h.s.chg hc h3⟩
theorem IS_own {w0 : World} {r B Bs Bn H : Nat} {pv bv sv : Value} {R1 : Rg} {m : Nat} (hH : r < H) : OwnFrom H (IS w0 r B Bs Bn H pv bv sv R1 m) := by
  rintro s W W' row ⟨⟨lv, h⟩, hb, hs, hn, hl, hz⟩ hg hr
  have hc := Chg.grown hg
  have hr2 : ∀ r, row = some r → ∃ o : Obj, W.heap[r]? = some o ∧ o.isCells = false := fun r e => (hr r e).2
  refine ⟨⟨lv, h.kept hc (at_not h.h.head hr2) (fun g hg => ?_) (fun g hg => ?_) (fun k hk => ?_)⟩, hb.chg hc (at_not hb hr2), hs.chg hc (at_not hs hr2), hn.chg hc (at_not hn hr2), hl.trans (hc.below (fun k hk => ?_) (Nat.le_of_lt h.lt)), Nat.le_trans hz hc.size⟩
  · obtain ⟨cur, hcur⟩ := owns_at h.p hg; exact at_not hcur hr2
  · obtain ⟨cur, hcur⟩ := owns_at h.s hg; exact at_not hcur hr2
  · have := (hr k (by simpa using hk)).1; omega
  · have := (hr k (by simpa using hk)).1; omega
theorem KeepsOthers.of_chg {W W' : World} {ls : List Nat} (hc : Chg ls W W') (h : ∀ k ∈ ls, ∃ cs T fz, At W k (.cells cs T fz)) : KeepsOthers W W' :=
  ⟨hc.size, fun k o hk ho => by
    have hlt : k < W.heap.size := (Array.getElem?_eq_some_iff.1 hk).1
    by_cases hm : k ∈ ls
    · obtain ⟨cs, T, fz, ha⟩ := h k hm
      unfold At at ha
      rw [hk] at ha
      cases ha
      cases ho
    · rw [hc.block k hlt hm]; exact hk⟩
theorem withList_snoc (R1 : Rg) {m : Nat} (pre : List (Fin m)) (x : Fin m) : (withList R1 (pre ++ [x])).F.list = (withList R1 pre).F.list ++ [setAt R1.l x.val] := by
  unfold withList
  show R1.F.list ++ (pre ++ [x]).map _ = _
  rw [List.map_append, ← List.append_assoc]; rfl
theorem IS_step {w0 W w8 w9 : World} {r B Bs Bn H : Nat} {pv lv bv sv v9 : Value} {R1 : Rg} {m : Nat} {pre : List (Fin m)} {x : Fin m} {se : Int × Int}
    (h5 : RM W r pv lv bv (withList R1 pre)) (b5 : At W B (.cells #[.pointer (some ⟨r, 0, none⟩)] 84 (0, 0))) (s5 : At W Bs (.cells #[sv] 22 (0, 0))) (n5 : At W Bn (.cells #[.int .i64 6] 3 (0, 0)))
    (l5 : Below r w0 W) (z5 : H ≤ W.heap.size) (hr0 : r ≤ w0.heap.size) (c8 : Chg [] W w8) (own9 : OwnR 50 2 encS w9 r v9 ((withList R1 pre).F.list ++ [se])) (ch9 : Chg lv.ownBlock.toList w8 w9) (hse : setAt R1.l x.val = se) :
    KeepsOthers W (w9.setCell ⟨r, 13, none⟩ v9) ∧ KpC Bs Bn W (w9.setCell ⟨r, 13, none⟩ v9) ∧ IS w0 r B Bs Bn H pv bv sv R1 m (pre ++ [x]) (w9.setCell ⟨r, 13, none⟩ v9) := by
  have h8 := h5.chg0 c8
  have hd9 : At w9 r _ := h8.h.head.chg ch9 h8.sr
  have c9 : Chg lv.ownBlock.toList W w9 := (c8.mono (by simp)).trans' ch9
  have c10 : Chg (r :: lv.ownBlock.toList) W (w9.setCell ⟨r, 13, none⟩ v9) := (c9.mono (fun k hk => List.mem_cons_of_mem _ hk)).setCell (Or.inl (by simp)) _
  have cS : Chg [r] w9 (w9.setCell ⟨r, 13, none⟩ v9) := (Chg.refl w9).setCell (Or.inl (by simp)) _
  have ali : ∀ {k : Nat} {cs : Array Value} {T : TypeId}, At W k (.cells cs T (0, 0)) → T ≠ 87 → T ≠ 50 → k ∉ r :: lv.ownBlock.toList := fun {k cs T} ha h1 h2 hk => by
    rcases List.mem_cons.1 hk with rfl | hk
    · exact h1 (at_typ_inj ha h5.h.head)
    · exact owns_alien h5.s ha h2 hk
  have lo : ∀ k ∈ r :: lv.ownBlock.toList, r ≤ k := fun k hk => by
    rcases List.mem_cons.1 hk with rfl | hk
    · exact Nat.le_refl _
    · exact h5.s.lo _ hk
  have nb : Bs ∉ r :: lv.ownBlock.toList := ali s5 (by decide) (by decide)
  have nn : Bn ∉ r :: lv.ownBlock.toList := ali n5 (by decide) (by decide)
  refine ⟨KeepsOthers.of_chg c10 (fun k hk => ?_), ⟨c10.block _ s5.lt nb, c10.block _ n5.lt nn⟩, ?_⟩
  · rcases List.mem_cons.1 hk with rfl | hk
    · exact ⟨_, _, _, h5.h.head⟩
    · obtain ⟨cur, hcur⟩ := owns_at h5.s (g := k) (by simpa using hk)
      exact ⟨_, _, _, hcur⟩
  · refine ⟨⟨v9, ⟨⟨hd9.set 13 v9, h5.h.b.chg c10 (fun a n c e hk => by have := h5.h.ap a n c e; have := lo _ hk; omega), h5.h.ap⟩, ?_, ?_⟩⟩, b5.chg c10 (ali b5 (by decide) (by decide)), s5.chg c10 nb, n5.chg c10 nn, l5.chg c10 hr0 lo, Nat.le_trans z5 c10.size⟩
    · refine h5.p.chg c10 (fun g hg => ?_)
      obtain ⟨cur, hcur⟩ := owns_at h5.p hg
      exact ali hcur (by decide) (by decide)
    · rw [withList_snoc, hse]
      exact own9.chg cS (fun g hg hx => owns_alien own9 hd9 (by decide) (by simp at hx; subst hx; simp [hg]))
def settings1 (R : Rg) : Rg := { R with F := { R.F with ack := bitB R.fl 0 } }
def settingsR (R : Rg) : Rg :=
  if R.l.length % 6 ≠ 0 ∨ (bitB R.fl 0 = true ∧ 0 < R.l.length) then { settings1 R with code := 6 } else { settings1 R with F := { (settings1 R).F with list := R.F.list ++ sets R.l } }
section
variable {w w' w'' : World} {r : Nat} {pv lv bv : Value} {R : Rg}
set_option maxRecDepth 100000 in
set_option maxHeartbeats 4000000 in
theorem settings_any (h : RM w r pv lv bv R) (hl : R.l.length ≤ 16777215) (hll : R.F.list = []) :
    Calls Try.prog 59 #[.pointer (some ⟨r, 0, none⟩)] w fun e w' => e = .returned (.tuple #[]) ∧ RX w w' r (settingsR R) := by
  obtain ⟨R1, hR1⟩ : ∃ R1, R1 = settings1 R := ⟨_, rfl⟩
  obtain ⟨R2, hR2⟩ : ∃ R2, R2 = settingsR R := ⟨_, rfl⟩
  rw [← hR2]
  have x16 : World.cell? w ⟨r, 16, none⟩ = some (.int .i64 ((R.fl.toNat : Nat) : Int)) := h.h.head.cell rfl
  have x4 : World.cell? w ⟨r, 4, none⟩ = some (.bool R.F.ack) := h.h.head.cell rfl
  have xf : ∀ j, World.frozen? w ⟨r, j, none⟩ = false := fun j => h.h.head.free j
  have hrl := h.lt
  have HH := Lib.hid h
  clear h
  refine (callsIn_wide (n := 5)).1 ?_
  refine callsIn_of_wp_marks Try.func59 rfl trivial ?_ rfl
  simp only [Try.ntmps59, List.size_toArray, List.length_cons, List.length_nil, Nat.reduceAdd, Nat.reduceSub, Array.replicate_succ, Array.replicate_zero, List.push_toArray, List.append_toArray, List.nil_append, List.cons_append]
  gi_wp2
  obtain ⟨B, hB⟩ : ∃ B, B = w.heap.size := ⟨_, rfl⟩
  have h1 : RM (w.alloc (.cells #[.pointer (some ⟨r, 0, none⟩)] 84)) r pv lv bv R := HH.out.chg0 ((Chg.refl w).alloc _)
  have b1 : At (w.alloc (.cells #[.pointer (some ⟨r, 0, none⟩)] 84)) B (.cells #[.pointer (some ⟨r, 0, none⟩)] 84) := At.new' hB.symm
  have l1 : Below r w (w.alloc (.cells #[.pointer (some ⟨r, 0, none⟩)] 84)) := (Below.refl r w).alloc (Nat.le_of_lt hrl) _
  have k1 := h1.put 4 (fb R.fl 1) (R' := R1) (by rw [hR1]; rfl) (by rw [hR1]; rfl) (by rw [hR1]; rfl) (by rw [hR1, fb1]; rfl)
  have hBr : B ≠ r := by omega
  have y0 : World.cell? (w.alloc (.cells #[.pointer (some ⟨r, 0, none⟩)] 84)) ⟨B, 0, none⟩ = some (.pointer (some ⟨r, 0, none⟩)) := b1.cell rfl
  have y16 : World.cell? (w.alloc (.cells #[.pointer (some ⟨r, 0, none⟩)] 84)) ⟨r, 16, none⟩ = some (.int .i64 ((R.fl.toNat : Nat) : Int)) := h1.h.head.cell rfl
  have y4 : World.cell? (w.alloc (.cells #[.pointer (some ⟨r, 0, none⟩)] 84)) ⟨r, 4, none⟩ = some (.bool R.F.ack) := h1.h.head.cell rfl
  have yf : ∀ j, World.frozen? (w.alloc (.cells #[.pointer (some ⟨r, 0, none⟩)] 84)) ⟨r, j, none⟩ = false := fun j => h1.h.head.free j
  have k2 : RM ((World.setCell (w.alloc (.cells #[.pointer (some ⟨r, 0, none⟩)] 84)) ⟨r, 4, none⟩ (fb R.fl 1)).drew) r pv lv bv R1 := k1.chg0 ((Chg.refl _).drew)
  have b2 : At ((World.setCell (w.alloc (.cells #[.pointer (some ⟨r, 0, none⟩)] 84)) ⟨r, 4, none⟩ (fb R.fl 1)).drew) B (.cells #[.pointer (some ⟨r, 0, none⟩)] 84) := (b1.set_ne (p := ⟨r, 4, none⟩) hBr _).drew
  have l2 : Below r w ((World.setCell (w.alloc (.cells #[.pointer (some ⟨r, 0, none⟩)] 84)) ⟨r, 4, none⟩ (fb R.fl 1)).drew) := (l1.setCell (Nat.le_refl _) _).drew
  unfold fb at k2 b2 l2
  have K2 := Lib.hid k2; have B2 := Lib.hid b2; have L2 := Lib.hid l2
  rw [← hB]
  clear x16 x4 xf k1 k2 b1 b2 l1 l2 h1 HH hB
  generalize w.alloc (.cells #[.pointer (some ⟨r, 0, none⟩)] 84) = w1 at *
  gi_region
  have z0 := B2.out.cell (o := 0) rfl
  obtain ⟨a, cap, rfl, hcap, hcm⟩ := K2.out.h.b.slice
  have hlen : R1.l.length = R.l.length := by rw [hR1]; rfl
  rw [hlen] at hcap
  have z17 : World.cell? ((World.setCell w1 ⟨r, 4, none⟩ (.bool (Go.bits .and .i64 ((R.fl.toNat : Nat) : Int) 1 != 0))).drew) ⟨r, 17, none⟩ = some (.slice a R1.l.length cap) := K2.out.h.head.cell rfl
  have z4 : World.cell? ((World.setCell w1 ⟨r, 4, none⟩ (.bool (Go.bits .and .i64 ((R.fl.toNat : Nat) : Int) 1 != 0))).drew) ⟨r, 4, none⟩ = some (.bool R1.F.ack) := K2.out.h.head.cell rfl
  have z19 : World.cell? ((World.setCell w1 ⟨r, 4, none⟩ (.bool (Go.bits .and .i64 ((R.fl.toNat : Nat) : Int) 1 != 0))).drew) ⟨r, 19, none⟩ = some (.int .u32 ((R1.code : Nat) : Int)) := K2.out.h.head.cell rfl
  have zf : ∀ j, World.frozen? ((World.setCell w1 ⟨r, 4, none⟩ (.bool (Go.bits .and .i64 ((R.fl.toNat : Nat) : Int) 1 != 0))).drew) ⟨r, j, none⟩ = false := fun j => K2.out.h.head.free j
  have hrl2 := K2.out.lt
  rw [hlen] at z17
  have hack : R1.F.ack = bitB R.fl 0 := by rw [hR1]; rfl
  rw [hack] at z4
  clear y0 y16 y4 yf
  generalize (World.setCell w1 ⟨r, 4, none⟩ (.bool (Go.bits .and .i64 ((R.fl.toNat : Nat) : Int) 1 != 0))).drew = w2 at *
  obtain ⟨X, hX⟩ : ∃ X, X = bitB R.fl 0 := ⟨_, rfl⟩
  rw [← hX] at z4
  have hRR : R2 = if R.l.length % 6 ≠ 0 ∨ (X = true ∧ 0 < R.l.length) then { R1 with code := 6 } else { R1 with F := { R1.F with list := R.F.list ++ sets R.l } } := by rw [hR2, hX, hR1]; rfl
  obtain ⟨L, hL⟩ : ∃ L, L = R.l.length := ⟨_, rfl⟩
  rw [← hL] at z17 hcap hl hlen hRR
  have HL := Lib.hid hL; have HR1 := Lib.hid hR1; have HLEN := Lib.hid hlen; have HLL := Lib.hid hll
  clear hR2 hX hack hL hR1 hlen hll
  have K6 := Lib.hid (K2.out.put 19 (.int .u32 6) (R' := { R1 with code := 6 }) rfl rfl rfl rfl)
  have L6 : Hid (Below r w (w2.setCell ⟨r, 19, none⟩ (.int .u32 6))) := Lib.hid (L2.out.setCell (Nat.le_refl _) _)
  by_cases h6 : L % 6 = 0
  · obtain ⟨m, rfl⟩ : ∃ m, L = 6 * m := ⟨L / 6, by omega⟩
    have g1 : ((6 * m : Nat) : Int) % 6 = 0 := by omega
    have g1' : (6 * (m : Int)) % 6 = 0 := by omega
    cases X with
    | true =>
      by_cases h0 : 0 < m
      · have HRR : Hid (R2 = { R1 with code := 6 }) := Lib.hid (by rw [hRR, if_pos (Or.inr ⟨rfl, by omega⟩)])
        clear hRR h6
        gi_wp2
        exact ⟨_, results_none rfl _ _ _, rfl, ⟨_, _, _, by rw [HRR.out]; exact K6.out⟩, L6.out⟩
      · have HRR : Hid (R2 = { R1 with F := { R1.F with list := R.F.list ++ sets R.l } }) := Lib.hid (by rw [hRR, if_neg (by simp; omega)])
        have g5 : (0 < 6 * (m : Int)) = False := by simp; omega
        have g6 : ((0 : Int) < ((6 * m : Nat) : Int)) = False := by simp; omega
        have g7 : (0 < 6 * m) = False := by simp; omega
        have g8 : (0 < m) = False := by simp; omega
        clear hRR h6 h0
        gi_wp2
        refine ⟨trivial, ?_⟩
        refine (callsIn_wide.2 (chunk_any _ ⟨_, _, _, rfl⟩ _)).mono ?_; rintro e w' ⟨rfl, rfl⟩
        gi_wp2
        obtain ⟨Bs, hBs⟩ : ∃ Bs, Bs = w2.heap.size := ⟨_, rfl⟩
        rw [← hBs]
        have cN : Chg [] w2 ((w2.alloc (.cells #[.slice a (6 * m) cap] 22)).alloc (.cells #[.int .i64 6] 3)) := ((Chg.refl w2).alloc _).alloc _
        have K3 := Lib.hid (K2.out.chg0 cN)
        have B3 := Lib.hid (B2.out.chg cN (by simp))
        have S3 : Hid (At ((w2.alloc (.cells #[.slice a (6 * m) cap] 22)).alloc (.cells #[.int .i64 6] 3)) Bs (.cells #[.slice a (6 * m) cap] 22 (0, 0))) := Lib.hid ((At.new' hBs.symm).alloc _)
        have N3 : Hid (At ((w2.alloc (.cells #[.slice a (6 * m) cap] 22)).alloc (.cells #[.int .i64 6] 3)) (Bs + 1) (.cells #[.int .i64 6] 3 (0, 0))) := Lib.hid (At.new' (by rw [hBs]; simp))
        have L3 := Lib.hid (L2.out.chg cN (Nat.le_of_lt hrl) (by simp))
        have hsz : ((w2.alloc (.cells #[.slice a (6 * m) cap] 22)).alloc (.cells #[.int .i64 6] 3)).heap.size = Bs + 2 := by rw [hBs]; simp
        obtain ⟨b, off, ha, hbr⟩ : ∃ b off, (0 < m → a = some ⟨b, off, none⟩) ∧ (0 < m → b < r) := by
          rcases Nat.eq_zero_or_pos m with h0 | h0
          · exact ⟨0, 0, fun h => by omega, fun h => by omega⟩
          · obtain ⟨b, off, rfl, _, _⟩ := K2.out.h.b.cell (by rw [HLEN.out]; omega)
            exact ⟨b, off, fun _ => rfl, fun _ => K2.out.h.ap _ _ _ rfl⟩
        clear cN z0 z17 z4 z19 zf K2 B2 L2 K6 L6 hBs
        generalize (w2.alloc (.cells #[.slice a (6 * m) cap] 22)).alloc (.cells #[.int .i64 6] 3) = w3 at *
        refine' wpIn_rangeFunc_ownF (n := 5) (F := Fence.wide) rfl (by omega) (gf := 73) (lb := #[.pointer (some ⟨Bs, 0, none⟩), .pointer (some ⟨Bs + 1, 0, none⟩)]) rfl trivial (enters_of Try.func73 (by kernel_rfl) rfl)
          (chunk_stops 4 (by omega) Bs (Bs + 1) b off m cap a ha hcap (by unfold maxLen at hcm; omega) (by omega) w3 S3.out N3.out) KpC.trans (KpC.put (by omega) (by omega)) (Below.refl _ _) (fun _ => rfl)
          (IS w r B Bs (Bs + 1) w3.heap.size pv (.slice a R1.l.length cap) (.slice a (6 * m) cap) R1 m) (fun _ _ _ => False) (IS_own K3.out.lt) (fun _ _ _ _ _ h _ _ => h) ?start _ ?assign ?body ?done ?stop
        case start => exact ⟨⟨lv, by simpa [withList] using K3.out⟩, B3.out, S3.out, N3.out, L3.out, Nat.le_refl _⟩
        case assign =>
          intro l x W K hK
          gi_wp2
          exact hK
        case stop =>
          rintro D c pre W _ _ h _
          exact h.elim
        case done =>
          rintro D ys W hD rfl hI hK
          gi_wp2
          refine ⟨by simp, .inl ⟨_, _, rfl, run_takeDeferred hK, ?_⟩⟩
          obtain ⟨⟨lv', hf⟩, _, _, _, hfl, _⟩ := (IS_own K3.out.lt).putObj (.deferred none) hI hD hK rfl
          have hw : withList R1 (List.finRange m) = R2 := by
            rw [HRR.out]
            unfold withList
            rw [sets_eq m R1.l HLEN.out, show R1.F.list = R.F.list by rw [HR1.out]; rfl, show R1.l = R.l by rw [HR1.out]; rfl]
          rw [hw] at hf
          exact ⟨_, results_none rfl _ _ _, rfl, ⟨_, _, _, hf⟩, hfl⟩
        case body =>
          rintro l pre x W hI hlt
          exact absurd x.isLt (by rw [show ¬ (x.val < m) ↔ True from ⟨fun _ => trivial, fun _ h => by have := g8; simp at this; omega⟩]; trivial)
    | false =>
      have HRR : Hid (R2 = { R1 with F := { R1.F with list := R.F.list ++ sets R.l } }) := Lib.hid (by rw [hRR, if_neg (by simp)])
      clear hRR h6
      gi_wp2
      refine ⟨trivial, ?_⟩
      refine (callsIn_wide.2 (chunk_any _ ⟨_, _, _, rfl⟩ _)).mono ?_; rintro e w' ⟨rfl, rfl⟩
      gi_wp2
      obtain ⟨Bs, hBs⟩ : ∃ Bs, Bs = w2.heap.size := ⟨_, rfl⟩
      rw [← hBs]
      have cN : Chg [] w2 ((w2.alloc (.cells #[.slice a (6 * m) cap] 22)).alloc (.cells #[.int .i64 6] 3)) := ((Chg.refl w2).alloc _).alloc _
      have K3 := Lib.hid (K2.out.chg0 cN)
      have B3 := Lib.hid (B2.out.chg cN (by simp))
      have S3 : Hid (At ((w2.alloc (.cells #[.slice a (6 * m) cap] 22)).alloc (.cells #[.int .i64 6] 3)) Bs (.cells #[.slice a (6 * m) cap] 22 (0, 0))) := Lib.hid ((At.new' hBs.symm).alloc _)
      have N3 : Hid (At ((w2.alloc (.cells #[.slice a (6 * m) cap] 22)).alloc (.cells #[.int .i64 6] 3)) (Bs + 1) (.cells #[.int .i64 6] 3 (0, 0))) := Lib.hid (At.new' (by rw [hBs]; simp))
      have L3 := Lib.hid (L2.out.chg cN (Nat.le_of_lt hrl) (by simp))
      have hsz : ((w2.alloc (.cells #[.slice a (6 * m) cap] 22)).alloc (.cells #[.int .i64 6] 3)).heap.size = Bs + 2 := by rw [hBs]; simp
      obtain ⟨b, off, ha, hbr⟩ : ∃ b off, (0 < m → a = some ⟨b, off, none⟩) ∧ (0 < m → b < r) := by
        rcases Nat.eq_zero_or_pos m with h0 | h0
        · exact ⟨0, 0, fun h => by omega, fun h => by omega⟩
        · obtain ⟨b, off, rfl, _, _⟩ := K2.out.h.b.cell (by rw [HLEN.out]; omega)
          exact ⟨b, off, fun _ => rfl, fun _ => K2.out.h.ap _ _ _ rfl⟩
      clear cN z0 z17 z4 z19 zf K2 B2 L2 K6 L6 hBs
      generalize (w2.alloc (.cells #[.slice a (6 * m) cap] 22)).alloc (.cells #[.int .i64 6] 3) = w3 at *
      refine' wpIn_rangeFunc_ownF (n := 5) (F := Fence.wide) rfl (by omega) (gf := 73) (lb := #[.pointer (some ⟨Bs, 0, none⟩), .pointer (some ⟨Bs + 1, 0, none⟩)]) rfl trivial (enters_of Try.func73 (by kernel_rfl) rfl)
        (chunk_stops 4 (by omega) Bs (Bs + 1) b off m cap a ha hcap (by unfold maxLen at hcm; omega) (by omega) w3 S3.out N3.out) KpC.trans (KpC.put (by omega) (by omega)) (Below.refl _ _) (fun _ => rfl)
        (IS w r B Bs (Bs + 1) w3.heap.size pv (.slice a R1.l.length cap) (.slice a (6 * m) cap) R1 m) (fun _ _ _ => False) (IS_own K3.out.lt) (fun _ _ _ _ _ h _ _ => h) ?start _ ?assign ?body ?done ?stop
      case start => exact ⟨⟨lv, by simpa [withList] using K3.out⟩, B3.out, S3.out, N3.out, L3.out, Nat.le_refl _⟩
      case assign =>
        intro l x W K hK
        gi_wp2
        exact hK
      case stop =>
        rintro D c pre W _ _ h _
        exact h.elim
      case done =>
        rintro D ys W hD rfl hI hK
        gi_wp2
        refine ⟨by simp, .inl ⟨_, _, rfl, run_takeDeferred hK, ?_⟩⟩
        obtain ⟨⟨lv', hf⟩, _, _, _, hfl, _⟩ := (IS_own K3.out.lt).putObj (.deferred none) hI hD hK rfl
        have hw : withList R1 (List.finRange m) = R2 := by
          rw [HRR.out]
          unfold withList
          rw [sets_eq m R1.l HLEN.out, show R1.F.list = R.F.list by rw [HR1.out]; rfl, show R1.l = R.l by rw [HR1.out]; rfl]
        rw [hw] at hf
        exact ⟨_, results_none rfl _ _ _, rfl, ⟨_, _, _, hf⟩, hfl⟩
      case body =>
        rintro l pre x W hI hlt
        obtain ⟨⟨lv', h5⟩, b5, s5, n5, l5, z5⟩ := hI
        have hx := x.isLt
        obtain ⟨X0, hX0⟩ : ∃ X0, X0 = x.val := ⟨_, rfl⟩
        obtain ⟨sa, sb, sc, sd, se, sf, hget, hset⟩ := six_at R1.l x.val (by rw [HLEN.out]; omega)
        obtain rfl := ha (by omega)
        have hbr' := hbr (by omega)
        have u0 := byte_at h5.h.b (show 0 < R1.l.length by rw [HLEN.out]; omega) (6 * x.val) sa (hget 0 (by omega))
        have u1 := byte_at h5.h.b (show 0 < R1.l.length by rw [HLEN.out]; omega) (6 * x.val + 1) sb (hget 1 (by omega))
        refine wpIn_block ?_
        unfold chunkV
        obtain ⟨la, lc, hlv, _, _⟩ := h5.s.slice
        subst hlv
        have cD : Chg [] W W.drew := (Chg.refl W).drew
        have d5 := Lib.hid (h5.chg0 cD); have D5 := Lib.hid (b5.chg cD (by simp)); have E5 := Lib.hid (s5.chg cD (by simp)); have F5 := Lib.hid (n5.chg cD (by simp)); have L5 := Lib.hid (l5.chg cD (Nat.le_of_lt hrl) (by simp))
        have FB : Hid (∀ w' lv'', RM w' r pv lv'' (.slice (some ⟨b, off, none⟩) R1.l.length cap) (withList R1 pre) → BytesOf w' (.slice (some ⟨b, off + (6 * x.val + 2), none⟩) 4 4) [sc, sd, se, sf]) := Lib.hid (fun w' lv'' hh => four_at hh.h.b hget (show 6 * x.val + 6 ≤ R1.l.length by rw [HLEN.out]; omega))
        have SB : Hid (∀ w' lv'' RR, RR.l = R1.l → RM w' r pv lv'' (.slice (some ⟨b, off, none⟩) R1.l.length cap) RR → At w' B (.cells #[.pointer (some ⟨r, 0, none⟩)] 84 (0, 0)) → w'.cell? ⟨B, 0, none⟩ = some (.pointer (some ⟨r, 0, none⟩)) ∧ w'.cell? ⟨b, off + 6 * x.val, none⟩ = some (.int .u8 (sa.toNat : Int)) ∧ w'.cell? ⟨b, off + 6 * x.val + 1, none⟩ = some (.int .u8 (sb.toNat : Int))) := Lib.hid (fun w' lv'' RR he hh hB => ⟨hB.cell rfl, byte_at (he ▸ hh.h.b) (show 0 < R1.l.length by rw [HLEN.out]; omega) (6 * x.val) sa (hget 0 (by omega)), byte_at (he ▸ hh.h.b) (show 0 < R1.l.length by rw [HLEN.out]; omega) (6 * x.val + 1) sb (hget 1 (by omega))⟩)
        have hS0 := SB.out _ _ (withList R1 pre) rfl d5.out D5.out
        have CD := Lib.hid cD
        obtain ⟨ID, hID⟩ : ∃ ID : Nat, ID = sa.toNat * 256 + sb.toNat := ⟨_, rfl⟩
        obtain ⟨VA, hVA⟩ : ∃ VA : Nat, VA = fourN sc sd se sf := ⟨_, rfl⟩
        have hset2 : Hid (setAt R1.l x.val = ((ID : Int), (VA : Int))) := Lib.hid (by rw [hset, hID, hVA])
        have hsa := sa.toNat_lt; have hsb := sb.toNat_lt
        have hor : Go.bits .or .i64 ((sa.toNat : Int) * 256) (sb.toNat : Int) = (ID : Int) := by
          have := or64_add 8 sa.toNat sb.toNat (by omega) (by omega)
          rw [show ((2 ^ 8 * sa.toNat : Nat) : Int) = (sa.toNat : Int) * 256 by omega] at this
          rw [this, hID]; omega
        have hw1 : IntKind.i64.wrap (sa.toNat : Int) = (sa.toNat : Int) := by rw [IntKind.wrap_i64]; omega
        have hw2 : IntKind.i64.wrap (sb.toNat : Int) = (sb.toNat : Int) := by rw [IntKind.wrap_i64]; omega
        have hw3 : IntKind.i64.wrap ((sa.toNat : Int) * 256) = (sa.toNat : Int) * 256 := by rw [IntKind.wrap_i64]; omega
        have hor2 : Go.bits .or .i64 (IntKind.i64.wrap (IntKind.i64.wrap (sa.toNat : Int) * 256)) (IntKind.i64.wrap (sb.toNat : Int)) = (ID : Int) := by rw [hw1, hw2, hw3, hor]
        have HOR := Lib.hid hor2
        clear hw1 hw2 hw3 hor hor2
        have HVA := Lib.hid hVA
        have hll := h5.s
        have hlen5 : (withList R1 pre).F.list.length ≤ 2796202 := by
          have e1 : R1.F.list = [] := by rw [HR1.out]; exact HLL.out
          have : (withList R1 pre).F.list.length = pre.length := by show (R1.F.list ++ pre.map _).length = _; rw [e1]; simp
          rw [this]; omega
        refine region_round (S := fun w' => w'.cell? ⟨B, 0, none⟩ = some (.pointer (some ⟨r, 0, none⟩)) ∧ w'.cell? ⟨b, off + 6 * x.val, none⟩ = some (.int .u8 (sa.toNat : Int)) ∧ w'.cell? ⟨b, off + 6 * x.val + 1, none⟩ = some (.int .u8 (sb.toNat : Int))) (by kernel_rfl) (by kernel_rfl) (by rintro ⟨_, _, h⟩; exact h) hS0 (fun hHeld => ?_)
        have HG := Lib.hid hget; have H5W := Lib.hid h5; have B5W := Lib.hid b5; have S5W := Lib.hid s5; have N5W := Lib.hid n5; have L5W := Lib.hid l5
        clear h5 b5 s5 n5 l5 cD hS0 hID hVA hset hget hll
        generalize W.drew = w6 at *
        refine take_nth (i := 0) (v := ?_) rfl (by kernel_rfl) (by kernel_rfl) (by kernel_rfl) (fun _ _ _ h => h) rfl ?hy (by assumption) ?_
        case hy => (intro w hSw; (try dsimp only at hSw); go_simp); with_reducible rfl
        simp only [Act.put, List.setIfInBounds_toArray, List.set_cons_zero, List.set_cons_succ]
        refine take_nth (i := 1) (v := ?_) rfl (by kernel_rfl) (by kernel_rfl) (by kernel_rfl) (fun _ _ _ h => h) rfl ?hy (by assumption) ?_
        case hy => (intro w hSw; (try dsimp only at hSw); go_simp); with_reducible rfl
        simp only [Act.put, List.setIfInBounds_toArray, List.set_cons_zero, List.set_cons_succ]
        refine take_nth (i := 2) (v := ?_) rfl (by kernel_rfl) (by kernel_rfl) (by kernel_rfl) (fun _ _ _ h => h) rfl ?hy (by assumption) ?_
        case hy => (intro w hSw; (try dsimp only at hSw); go_simp); with_reducible rfl
        simp only [Act.put, List.setIfInBounds_toArray, List.set_cons_zero, List.set_cons_succ]
        refine take_nth (i := 3) (v := ?_) rfl (by kernel_rfl) (by kernel_rfl) (by kernel_rfl) (fun _ _ _ h => h) rfl ?hy (by assumption) ?_
        case hy => (intro w hSw; (try dsimp only at hSw); go_simp); with_reducible rfl
        simp only [Act.put, List.setIfInBounds_toArray, List.set_cons_zero, List.set_cons_succ]
        refine take_nth (i := 4) (v := ?_) rfl (by kernel_rfl) (by kernel_rfl) (by kernel_rfl) (fun _ _ _ h => h) rfl ?hy (by assumption) ?_
        case hy => (intro w hSw; (try dsimp only at hSw); go_simp); with_reducible rfl
        simp only [Act.put, List.setIfInBounds_toArray, List.set_cons_zero, List.set_cons_succ]
        refine take_nth (i := 6) (v := ?_) rfl (by kernel_rfl) (by kernel_rfl) (by kernel_rfl) (fun _ _ _ h => h) rfl ?hy (by assumption) ?_
        case hy => (intro w hSw; (try dsimp only at hSw); go_simp); with_reducible rfl
        simp only [Act.put, List.setIfInBounds_toArray, List.set_cons_zero, List.set_cons_succ]
        refine take_nth (i := 7) (v := ?_) rfl (by kernel_rfl) (by kernel_rfl) (by kernel_rfl) (fun _ _ _ h => h) rfl ?hy (by assumption) ?_
        case hy => (intro w hSw; (try dsimp only at hSw); go_simp); with_reducible rfl
        simp only [Act.put, List.setIfInBounds_toArray, List.set_cons_zero, List.set_cons_succ]
        refine take_nth (i := 8) (v := ?_) rfl (by kernel_rfl) (by kernel_rfl) (by kernel_rfl) (fun _ _ _ h => h) rfl ?hy (by assumption) ?_
        case hy => (intro w hSw; (try dsimp only at hSw); go_simp); with_reducible rfl
        simp only [Act.put, List.setIfInBounds_toArray, List.set_cons_zero, List.set_cons_succ]
        refine take_nth (i := 9) (v := ?_) rfl (by kernel_rfl) (by kernel_rfl) (by kernel_rfl) (fun _ _ _ h => h) rfl ?hy (by assumption) ?_
        case hy => (intro w hSw; (try dsimp only at hSw); go_simp); with_reducible rfl
        simp only [Act.put, List.setIfInBounds_toArray, List.set_cons_zero, List.set_cons_succ]
        refine take_nth (i := 10) (v := ?_) rfl (by kernel_rfl) (by kernel_rfl) (by kernel_rfl) (fun _ _ _ h => h) rfl ?hy (by assumption) ?_
        case hy => (intro w hSw; (try dsimp only at hSw); go_simp); with_reducible rfl
        simp only [Act.put, List.setIfInBounds_toArray, List.set_cons_zero, List.set_cons_succ]
        refine take_nth (i := 11) (v := ?_) rfl (by kernel_rfl) (by kernel_rfl) (by kernel_rfl) (fun _ _ _ h => h) rfl ?hy (by assumption) ?_
        case hy => (intro w hSw; (try dsimp only at hSw); go_simp); with_reducible rfl
        simp only [Act.put, List.setIfInBounds_toArray, List.set_cons_zero, List.set_cons_succ]
        refine take_nth (i := 12) (v := ?_) rfl (by kernel_rfl) (by kernel_rfl) (by kernel_rfl) (fun _ _ _ h => h) rfl ?hy (by assumption) ?_
        case hy => (intro w hSw; (try dsimp only at hSw); go_simp); with_reducible rfl
        simp only [Act.put, List.setIfInBounds_toArray, List.set_cons_zero, List.set_cons_succ]
        refine take_nth (i := 13) (v := ?_) rfl (by kernel_rfl) (by kernel_rfl) (by kernel_rfl) (fun _ _ _ h => h) rfl ?hy (by assumption) ?_
        case hy => (intro w hSw; (try dsimp only at hSw); go_simp); with_reducible rfl
        simp only [Act.put, List.setIfInBounds_toArray, List.set_cons_zero, List.set_cons_succ]
        refine take_nth (i := 14) (v := ?_) rfl (by kernel_rfl) (by kernel_rfl) (by kernel_rfl) (fun _ _ _ h => h) rfl ?hy (by assumption) ?_
        case hy => (intro w hSw; (try dsimp only at hSw); go_simp); with_reducible rfl
        simp only [Act.put, List.setIfInBounds_toArray, List.set_cons_zero, List.set_cons_succ]
        refine take_nth (i := 15) (v := ?_) rfl (by kernel_rfl) (by kernel_rfl) (by kernel_rfl) (fun _ _ _ h => h) rfl ?hy (by assumption) ?_
        case hy => (intro w hSw; (try dsimp only at hSw); go_simp); with_reducible rfl
        simp only [Act.put, List.setIfInBounds_toArray, List.set_cons_zero, List.set_cons_succ]
        refine take_nth (i := 16) (v := ?_) rfl (by kernel_rfl) (by kernel_rfl) (by kernel_rfl) (fun _ _ _ h => h) rfl ?hy (by assumption) ?_
        case hy => (intro w hSw; (try dsimp only at hSw); go_simp); with_reducible rfl
        simp only [Act.put, List.setIfInBounds_toArray, List.set_cons_zero, List.set_cons_succ]
        refine take_nth (i := 17) (v := ?_) rfl (by kernel_rfl) (by kernel_rfl) (by kernel_rfl) (fun _ _ _ h => h) rfl ?hy (by assumption) ?_
        case hy => (intro w hSw; (try dsimp only at hSw); go_simp); with_reducible rfl
        simp only [Act.put, List.setIfInBounds_toArray, List.set_cons_zero, List.set_cons_succ]
        refine wpAnyH_ready (rs := [5, 18]) (by kernel_rfl) (by simp) ?_
        refine step_nth rfl rfl (fun K hK => ?_) (step_nth rfl rfl (fun K hK => ?_) AllReadyH.nil)
        · skip
          have x13 : World.cell? w6 ⟨r, 13, none⟩ = some (.slice la (withList R1 pre).F.list.length lc) := d5.out.h.head.cell rfl
          go_simp
          refine hK.out _ _ (by assumption) (fun hHeld2 => ?_)
          try simp only [Act.put, List.setIfInBounds_toArray, List.set_cons_zero, List.set_cons_succ]
          clear hK K x13
          refine wpAnyH_ready (rs := [18]) (by kernel_rfl) (by simp) ?_
          refine step_nth rfl rfl (fun K hK => ?_) AllReadyH.nil
          go_simp
          refine (four_any (FB.out _ _ d5.out)).mono ?_; rintro e w7 ⟨he, n4, hw7⟩
          rw [← HVA.out] at he
          subst he
          have cF : Chg [] w6 w7 := by rw [hw7]; exact (Chg.refl w6).drewN n4
          have d7 := Lib.hid (d5.out.chg0 cF); have D7 := Lib.hid (D5.out.chg cF (by simp)); have CD7 := Lib.hid (CD.out.trans' cF)
          have hS7 := SB.out _ _ (withList R1 pre) rfl d7.out D7.out
          dsimp only
          refine hK.out _ _ hS7 (fun hHeld3 => ?_)
          try simp only [Act.put, List.setIfInBounds_toArray, List.set_cons_zero, List.set_cons_succ]
          clear hK K cF hw7
          refine take_nth (i := 19) (v := ?_) rfl (by kernel_rfl) (by kernel_rfl) (by kernel_rfl) (fun _ _ _ h => h) rfl ?hy (by assumption) ?_
          case hy => (intro w hSw; (try dsimp only at hSw); go_simp); with_reducible rfl
          simp only [Act.put, List.setIfInBounds_toArray, List.set_cons_zero, List.set_cons_succ]
          refine wpAnyH_ready (rs := [20]) (by kernel_rfl) (by simp) ?_
          refine step_nth rfl rfl (fun K hK => ?_) AllReadyH.nil
          go_simp
          simp only [HOR.out]
          have cG : Chg [] w7 (w7.alloc (.cells #[.int .i64 (ID : Int), .int .u32 (VA : Int)] 50)) := (Chg.refl w7).alloc _
          have d8 := Lib.hid (d7.out.chg0 cG); have D8 := Lib.hid (D7.out.chg cG (by simp)); have CD8 := Lib.hid (CD7.out.trans' cG)
          have hS8 := SB.out _ _ (withList R1 pre) rfl d8.out D8.out
          have one : SliceOf (w7.alloc (.cells #[.int .i64 (ID : Int), .int .u32 (VA : Int)] 50)) (.slice (some ⟨w7.heap.size, 0, none⟩) 1 1) 2 encS [((ID : Int), (VA : Int))] := SliceOf.one (enc := encS) (x := ((ID : Int), (VA : Int))) (size := 2) rfl (cs := #[.int .i64 (ID : Int), .int .u32 (VA : Int)]) rfl w7
          have ONE := Lib.hid one
          refine hK.out _ _ hS8 (fun hHeld4 => ?_)
          try simp only [Act.put, List.setIfInBounds_toArray, List.set_cons_zero, List.set_cons_succ]
          clear hK K cG one hS8
          generalize w7.alloc (.cells #[.int .i64 (ID : Int), .int .u32 (VA : Int)] 50) = w8 at *
          refine wpAnyH_ready (rs := [21]) (by kernel_rfl) (by simp) ?_
          refine step_nth rfl rfl (fun K hK => ?_) AllReadyH.nil
          refine wp_row encS_len encS_one 25 Try.underlying25 infoS (by decide) (by omega) _ _ rfl r (.slice la (withList R1 pre).F.list.length lc) (withList R1 pre).F.list rfl d8.out.s _ [((ID : Int), (VA : Int))] rfl ONE.out (by simp [maxLen]; omega) (by simp; omega) (Nat.le_of_lt d8.out.lt) ?_
          intro v9 w9 own9 ch9 n9
          have hd9 : At w9 r _ := d8.out.h.head.chg ch9 d8.out.sr
          have hb9 : BytesOf w9 (.slice (some ⟨b, off, none⟩) R1.l.length cap) R1.l := d8.out.h.b.chg ch9 (fun a n c e hk => by cases e; have h3 : r ≤ b := d8.out.s.lo _ hk; omega)
          have hp9 : OwnB w9 r pv R1.F.pay := d8.out.p.chg ch9 (fun g hg => by obtain ⟨cur, hcur⟩ := owns_at d8.out.p hg; exact owns_alien d8.out.s hcur (by decide))
          have hB9 := D8.out.chg ch9 (owns_alien d8.out.s D8.out (by decide))
          have hS9 : w9.cell? ⟨B, 0, none⟩ = some (.pointer (some ⟨r, 0, none⟩)) ∧ w9.cell? ⟨b, off + 6 * x.val, none⟩ = some (.int .u8 (sa.toNat : Int)) ∧ w9.cell? ⟨b, off + 6 * x.val + 1, none⟩ = some (.int .u8 (sb.toNat : Int)) :=
            ⟨hB9.cell rfl, byte_at hb9 (show 0 < R1.l.length by rw [HLEN.out]; omega) (6 * x.val) sa (HG.out 0 (by omega)), byte_at hb9 (show 0 < R1.l.length by rw [HLEN.out]; omega) (6 * x.val + 1) sb (HG.out 1 (by omega))⟩
          obtain ⟨a9, c9, hv9, _, _⟩ := own9.slice
          subst hv9
          have x13' : World.cell? w9 ⟨r, 13, none⟩ = some (.slice la (withList R1 pre).F.list.length lc) := hd9.cell rfl
          have xf9 : ∀ j, World.frozen? w9 ⟨r, j, none⟩ = false := fun j => hd9.free j
          have CH9 := Lib.hid ch9; have HD9 := Lib.hid hd9; have HB9 := Lib.hid hb9; have HP9 := Lib.hid hp9; have HBB9 := Lib.hid hB9; have OWN9 := Lib.hid own9
          refine hK.out _ _ hS9 (fun hHeld5 => ?_)
          try simp only [Act.put, List.setIfInBounds_toArray, List.set_cons_zero, List.set_cons_succ]
          clear hK K ch9 hd9 hb9 hp9 hB9 own9 n9
          refine take_nth (i := 22) (v := ?_) rfl (by kernel_rfl) (by kernel_rfl) (by kernel_rfl) (fun _ _ _ h => h) rfl ?hy (by assumption) ?_
          case hy => (intro w hSw; (try dsimp only at hSw); go_simp); with_reducible rfl
          simp only [Act.put, List.setIfInBounds_toArray, List.set_cons_zero, List.set_cons_succ]
          refine take_nth (i := 23) (v := ?_) rfl (by kernel_rfl) (by kernel_rfl) (by kernel_rfl) (fun _ _ _ h => h) rfl ?hy (by assumption) ?_
          case hy => (intro w hSw; (try dsimp only at hSw); go_simp); with_reducible rfl
          simp only [Act.put, List.setIfInBounds_toArray, List.set_cons_zero, List.set_cons_succ]
          refine take_nth (i := 24) (v := ?_) rfl (by kernel_rfl) (by kernel_rfl) (by kernel_rfl) (fun _ _ _ h => h) rfl ?hy (by assumption) ?_
          case hy => (intro w hSw; (try dsimp only at hSw); go_simp); with_reducible rfl
          simp only [Act.put, List.setIfInBounds_toArray, List.set_cons_zero, List.set_cons_succ]
          refine wpAnyH_ready (rs := [25]) (by kernel_rfl) (by simp) ?_
          refine step_nth rfl rfl (fun K hK => ?_) AllReadyH.nil
          go_simp
          have hS10 : (w9.setCell ⟨r, 13, none⟩ (.slice a9 ((withList R1 pre).F.list ++ [((ID : Int), (VA : Int))]).length c9)).cell? ⟨B, 0, none⟩ = some (.pointer (some ⟨r, 0, none⟩)) ∧ (w9.setCell ⟨r, 13, none⟩ (.slice a9 ((withList R1 pre).F.list ++ [((ID : Int), (VA : Int))]).length c9)).cell? ⟨b, off + 6 * x.val, none⟩ = some (.int .u8 (sa.toNat : Int)) ∧ (w9.setCell ⟨r, 13, none⟩ (.slice a9 ((withList R1 pre).F.list ++ [((ID : Int), (VA : Int))]).length c9)).cell? ⟨b, off + 6 * x.val + 1, none⟩ = some (.int .u8 (sb.toNat : Int)) := by
            refine ⟨?_, ?_, ?_⟩
            · rw [World.cell?_setCell_far _ _ _ _ (Ne.symm hBr)]; exact hS9.1
            · rw [World.cell?_setCell_far _ _ _ _ (show r ≠ b by omega)]; exact hS9.2.1
            · rw [World.cell?_setCell_far _ _ _ _ (show r ≠ b by omega)]; exact hS9.2.2
          refine hK.out _ _ ?_ (fun hHeld6 => ?_)
          · simpa using hS10
          refine wpAnyH_done (by kernel_rfl) ?_ _
          have FIN := IS_step H5W.out B5W.out S5W.out N5W.out L5W.out z5 (Nat.le_of_lt hrl) CD8.out OWN9.out CH9.out hset2.out
          simp only [List.length_append, List.length_cons, List.length_nil, Nat.zero_add] at FIN
          exact FIN
        · go_simp
          refine (four_any (FB.out _ _ d5.out)).mono ?_; rintro e w7 ⟨he, n4, hw7⟩
          rw [← HVA.out] at he
          subst he
          have cF : Chg [] w6 w7 := by rw [hw7]; exact (Chg.refl w6).drewN n4
          have d7 := Lib.hid (d5.out.chg0 cF); have D7 := Lib.hid (D5.out.chg cF (by simp)); have CD7 := Lib.hid (CD.out.trans' cF)
          have hS7 := SB.out _ _ (withList R1 pre) rfl d7.out D7.out
          dsimp only
          refine hK.out _ _ hS7 (fun hHeld3 => ?_)
          try simp only [Act.put, List.setIfInBounds_toArray, List.set_cons_zero, List.set_cons_succ]
          clear hK K cF hw7
          refine take_nth (i := 19) (v := ?_) rfl (by kernel_rfl) (by kernel_rfl) (by kernel_rfl) (fun _ _ _ h => h) rfl ?hy (by assumption) ?_
          case hy => (intro w hSw; (try dsimp only at hSw); go_simp); with_reducible rfl
          simp only [Act.put, List.setIfInBounds_toArray, List.set_cons_zero, List.set_cons_succ]
          refine wpAnyH_ready (rs := [5, 20]) (by kernel_rfl) (by simp) ?_
          refine step_nth rfl rfl (fun K hK => ?_) (step_nth rfl rfl (fun K hK => ?_) AllReadyH.nil)
          · skip
            have x13 : World.cell? w7 ⟨r, 13, none⟩ = some (.slice la (withList R1 pre).F.list.length lc) := d7.out.h.head.cell rfl
            go_simp
            refine hK.out _ _ (by assumption) (fun hHeld2 => ?_)
            try simp only [Act.put, List.setIfInBounds_toArray, List.set_cons_zero, List.set_cons_succ]
            clear hK K x13
            refine wpAnyH_ready (rs := [20]) (by kernel_rfl) (by simp) ?_
            refine step_nth rfl rfl (fun K hK => ?_) AllReadyH.nil
            go_simp
            simp only [HOR.out]
            have cG : Chg [] w7 (w7.alloc (.cells #[.int .i64 (ID : Int), .int .u32 (VA : Int)] 50)) := (Chg.refl w7).alloc _
            have d8 := Lib.hid (d7.out.chg0 cG); have D8 := Lib.hid (D7.out.chg cG (by simp)); have CD8 := Lib.hid (CD7.out.trans' cG)
            have hS8 := SB.out _ _ (withList R1 pre) rfl d8.out D8.out
            have one : SliceOf (w7.alloc (.cells #[.int .i64 (ID : Int), .int .u32 (VA : Int)] 50)) (.slice (some ⟨w7.heap.size, 0, none⟩) 1 1) 2 encS [((ID : Int), (VA : Int))] := SliceOf.one (enc := encS) (x := ((ID : Int), (VA : Int))) (size := 2) rfl (cs := #[.int .i64 (ID : Int), .int .u32 (VA : Int)]) rfl w7
            have ONE := Lib.hid one
            refine hK.out _ _ hS8 (fun hHeld4 => ?_)
            try simp only [Act.put, List.setIfInBounds_toArray, List.set_cons_zero, List.set_cons_succ]
            clear hK K cG one hS8
            generalize w7.alloc (.cells #[.int .i64 (ID : Int), .int .u32 (VA : Int)] 50) = w8 at *
            refine wpAnyH_ready (rs := [21]) (by kernel_rfl) (by simp) ?_
            refine step_nth rfl rfl (fun K hK => ?_) AllReadyH.nil
            refine wp_row encS_len encS_one 25 Try.underlying25 infoS (by decide) (by omega) _ _ rfl r (.slice la (withList R1 pre).F.list.length lc) (withList R1 pre).F.list rfl d8.out.s _ [((ID : Int), (VA : Int))] rfl ONE.out (by simp [maxLen]; omega) (by simp; omega) (Nat.le_of_lt d8.out.lt) ?_
            intro v9 w9 own9 ch9 n9
            have hd9 : At w9 r _ := d8.out.h.head.chg ch9 d8.out.sr
            have hb9 : BytesOf w9 (.slice (some ⟨b, off, none⟩) R1.l.length cap) R1.l := d8.out.h.b.chg ch9 (fun a n c e hk => by cases e; have h3 : r ≤ b := d8.out.s.lo _ hk; omega)
            have hp9 : OwnB w9 r pv R1.F.pay := d8.out.p.chg ch9 (fun g hg => by obtain ⟨cur, hcur⟩ := owns_at d8.out.p hg; exact owns_alien d8.out.s hcur (by decide))
            have hB9 := D8.out.chg ch9 (owns_alien d8.out.s D8.out (by decide))
            have hS9 : w9.cell? ⟨B, 0, none⟩ = some (.pointer (some ⟨r, 0, none⟩)) ∧ w9.cell? ⟨b, off + 6 * x.val, none⟩ = some (.int .u8 (sa.toNat : Int)) ∧ w9.cell? ⟨b, off + 6 * x.val + 1, none⟩ = some (.int .u8 (sb.toNat : Int)) :=
              ⟨hB9.cell rfl, byte_at hb9 (show 0 < R1.l.length by rw [HLEN.out]; omega) (6 * x.val) sa (HG.out 0 (by omega)), byte_at hb9 (show 0 < R1.l.length by rw [HLEN.out]; omega) (6 * x.val + 1) sb (HG.out 1 (by omega))⟩
            obtain ⟨a9, c9, hv9, _, _⟩ := own9.slice
            subst hv9
            have x13' : World.cell? w9 ⟨r, 13, none⟩ = some (.slice la (withList R1 pre).F.list.length lc) := hd9.cell rfl
            have xf9 : ∀ j, World.frozen? w9 ⟨r, j, none⟩ = false := fun j => hd9.free j
            have CH9 := Lib.hid ch9; have HD9 := Lib.hid hd9; have HB9 := Lib.hid hb9; have HP9 := Lib.hid hp9; have HBB9 := Lib.hid hB9; have OWN9 := Lib.hid own9
            refine hK.out _ _ hS9 (fun hHeld5 => ?_)
            try simp only [Act.put, List.setIfInBounds_toArray, List.set_cons_zero, List.set_cons_succ]
            clear hK K ch9 hd9 hb9 hp9 hB9 own9 n9
            refine take_nth (i := 22) (v := ?_) rfl (by kernel_rfl) (by kernel_rfl) (by kernel_rfl) (fun _ _ _ h => h) rfl ?hy (by assumption) ?_
            case hy => (intro w hSw; (try dsimp only at hSw); go_simp); with_reducible rfl
            simp only [Act.put, List.setIfInBounds_toArray, List.set_cons_zero, List.set_cons_succ]
            refine take_nth (i := 23) (v := ?_) rfl (by kernel_rfl) (by kernel_rfl) (by kernel_rfl) (fun _ _ _ h => h) rfl ?hy (by assumption) ?_
            case hy => (intro w hSw; (try dsimp only at hSw); go_simp); with_reducible rfl
            simp only [Act.put, List.setIfInBounds_toArray, List.set_cons_zero, List.set_cons_succ]
            refine take_nth (i := 24) (v := ?_) rfl (by kernel_rfl) (by kernel_rfl) (by kernel_rfl) (fun _ _ _ h => h) rfl ?hy (by assumption) ?_
            case hy => (intro w hSw; (try dsimp only at hSw); go_simp); with_reducible rfl
            simp only [Act.put, List.setIfInBounds_toArray, List.set_cons_zero, List.set_cons_succ]
            refine wpAnyH_ready (rs := [25]) (by kernel_rfl) (by simp) ?_
            refine step_nth rfl rfl (fun K hK => ?_) AllReadyH.nil
            go_simp
            have hS10 : (w9.setCell ⟨r, 13, none⟩ (.slice a9 ((withList R1 pre).F.list ++ [((ID : Int), (VA : Int))]).length c9)).cell? ⟨B, 0, none⟩ = some (.pointer (some ⟨r, 0, none⟩)) ∧ (w9.setCell ⟨r, 13, none⟩ (.slice a9 ((withList R1 pre).F.list ++ [((ID : Int), (VA : Int))]).length c9)).cell? ⟨b, off + 6 * x.val, none⟩ = some (.int .u8 (sa.toNat : Int)) ∧ (w9.setCell ⟨r, 13, none⟩ (.slice a9 ((withList R1 pre).F.list ++ [((ID : Int), (VA : Int))]).length c9)).cell? ⟨b, off + 6 * x.val + 1, none⟩ = some (.int .u8 (sb.toNat : Int)) := by
              refine ⟨?_, ?_, ?_⟩
              · rw [World.cell?_setCell_far _ _ _ _ (Ne.symm hBr)]; exact hS9.1
              · rw [World.cell?_setCell_far _ _ _ _ (show r ≠ b by omega)]; exact hS9.2.1
              · rw [World.cell?_setCell_far _ _ _ _ (show r ≠ b by omega)]; exact hS9.2.2
            refine hK.out _ _ ?_ (fun hHeld6 => ?_)
            · simpa using hS10
            refine wpAnyH_done (by kernel_rfl) ?_ _
            have FIN := IS_step H5W.out B5W.out S5W.out N5W.out L5W.out z5 (Nat.le_of_lt hrl) CD8.out OWN9.out CH9.out hset2.out
            simp only [List.length_append, List.length_cons, List.length_nil, Nat.zero_add] at FIN
            exact FIN
          · skip
            go_simp
            simp only [HOR.out]
            have cG : Chg [] w7 (w7.alloc (.cells #[.int .i64 (ID : Int), .int .u32 (VA : Int)] 50)) := (Chg.refl w7).alloc _
            have d8 := Lib.hid (d7.out.chg0 cG); have D8 := Lib.hid (D7.out.chg cG (by simp)); have CD8 := Lib.hid (CD7.out.trans' cG)
            have hS8 := SB.out _ _ (withList R1 pre) rfl d8.out D8.out
            have one : SliceOf (w7.alloc (.cells #[.int .i64 (ID : Int), .int .u32 (VA : Int)] 50)) (.slice (some ⟨w7.heap.size, 0, none⟩) 1 1) 2 encS [((ID : Int), (VA : Int))] := SliceOf.one (enc := encS) (x := ((ID : Int), (VA : Int))) (size := 2) rfl (cs := #[.int .i64 (ID : Int), .int .u32 (VA : Int)]) rfl w7
            have ONE := Lib.hid one
            refine hK.out _ _ hS8 (fun hHeld4 => ?_)
            try simp only [Act.put, List.setIfInBounds_toArray, List.set_cons_zero, List.set_cons_succ]
            clear hK K cG one hS8
            generalize w7.alloc (.cells #[.int .i64 (ID : Int), .int .u32 (VA : Int)] 50) = w8 at *
            refine wpAnyH_ready (rs := [5]) (by kernel_rfl) (by simp) ?_
            refine step_nth rfl rfl (fun K hK => ?_) AllReadyH.nil
            have x13 : World.cell? w8 ⟨r, 13, none⟩ = some (.slice la (withList R1 pre).F.list.length lc) := d8.out.h.head.cell rfl
            go_simp
            refine hK.out _ _ (by assumption) (fun hHeld2 => ?_)
            try simp only [Act.put, List.setIfInBounds_toArray, List.set_cons_zero, List.set_cons_succ]
            clear hK K x13
            refine wpAnyH_ready (rs := [21]) (by kernel_rfl) (by simp) ?_
            refine step_nth rfl rfl (fun K hK => ?_) AllReadyH.nil
            refine wp_row encS_len encS_one 25 Try.underlying25 infoS (by decide) (by omega) _ _ rfl r (.slice la (withList R1 pre).F.list.length lc) (withList R1 pre).F.list rfl d8.out.s _ [((ID : Int), (VA : Int))] rfl ONE.out (by simp [maxLen]; omega) (by simp; omega) (Nat.le_of_lt d8.out.lt) ?_
            intro v9 w9 own9 ch9 n9
            have hd9 : At w9 r _ := d8.out.h.head.chg ch9 d8.out.sr
            have hb9 : BytesOf w9 (.slice (some ⟨b, off, none⟩) R1.l.length cap) R1.l := d8.out.h.b.chg ch9 (fun a n c e hk => by cases e; have h3 : r ≤ b := d8.out.s.lo _ hk; omega)
            have hp9 : OwnB w9 r pv R1.F.pay := d8.out.p.chg ch9 (fun g hg => by obtain ⟨cur, hcur⟩ := owns_at d8.out.p hg; exact owns_alien d8.out.s hcur (by decide))
            have hB9 := D8.out.chg ch9 (owns_alien d8.out.s D8.out (by decide))
            have hS9 : w9.cell? ⟨B, 0, none⟩ = some (.pointer (some ⟨r, 0, none⟩)) ∧ w9.cell? ⟨b, off + 6 * x.val, none⟩ = some (.int .u8 (sa.toNat : Int)) ∧ w9.cell? ⟨b, off + 6 * x.val + 1, none⟩ = some (.int .u8 (sb.toNat : Int)) :=
              ⟨hB9.cell rfl, byte_at hb9 (show 0 < R1.l.length by rw [HLEN.out]; omega) (6 * x.val) sa (HG.out 0 (by omega)), byte_at hb9 (show 0 < R1.l.length by rw [HLEN.out]; omega) (6 * x.val + 1) sb (HG.out 1 (by omega))⟩
            obtain ⟨a9, c9, hv9, _, _⟩ := own9.slice
            subst hv9
            have x13' : World.cell? w9 ⟨r, 13, none⟩ = some (.slice la (withList R1 pre).F.list.length lc) := hd9.cell rfl
            have xf9 : ∀ j, World.frozen? w9 ⟨r, j, none⟩ = false := fun j => hd9.free j
            have CH9 := Lib.hid ch9; have HD9 := Lib.hid hd9; have HB9 := Lib.hid hb9; have HP9 := Lib.hid hp9; have HBB9 := Lib.hid hB9; have OWN9 := Lib.hid own9
            refine hK.out _ _ hS9 (fun hHeld5 => ?_)
            try simp only [Act.put, List.setIfInBounds_toArray, List.set_cons_zero, List.set_cons_succ]
            clear hK K ch9 hd9 hb9 hp9 hB9 own9 n9
            refine take_nth (i := 22) (v := ?_) rfl (by kernel_rfl) (by kernel_rfl) (by kernel_rfl) (fun _ _ _ h => h) rfl ?hy (by assumption) ?_
            case hy => (intro w hSw; (try dsimp only at hSw); go_simp); with_reducible rfl
            simp only [Act.put, List.setIfInBounds_toArray, List.set_cons_zero, List.set_cons_succ]
            refine take_nth (i := 23) (v := ?_) rfl (by kernel_rfl) (by kernel_rfl) (by kernel_rfl) (fun _ _ _ h => h) rfl ?hy (by assumption) ?_
            case hy => (intro w hSw; (try dsimp only at hSw); go_simp); with_reducible rfl
            simp only [Act.put, List.setIfInBounds_toArray, List.set_cons_zero, List.set_cons_succ]
            refine take_nth (i := 24) (v := ?_) rfl (by kernel_rfl) (by kernel_rfl) (by kernel_rfl) (fun _ _ _ h => h) rfl ?hy (by assumption) ?_
            case hy => (intro w hSw; (try dsimp only at hSw); go_simp); with_reducible rfl
            simp only [Act.put, List.setIfInBounds_toArray, List.set_cons_zero, List.set_cons_succ]
            refine wpAnyH_ready (rs := [25]) (by kernel_rfl) (by simp) ?_
            refine step_nth rfl rfl (fun K hK => ?_) AllReadyH.nil
            go_simp
            have hS10 : (w9.setCell ⟨r, 13, none⟩ (.slice a9 ((withList R1 pre).F.list ++ [((ID : Int), (VA : Int))]).length c9)).cell? ⟨B, 0, none⟩ = some (.pointer (some ⟨r, 0, none⟩)) ∧ (w9.setCell ⟨r, 13, none⟩ (.slice a9 ((withList R1 pre).F.list ++ [((ID : Int), (VA : Int))]).length c9)).cell? ⟨b, off + 6 * x.val, none⟩ = some (.int .u8 (sa.toNat : Int)) ∧ (w9.setCell ⟨r, 13, none⟩ (.slice a9 ((withList R1 pre).F.list ++ [((ID : Int), (VA : Int))]).length c9)).cell? ⟨b, off + 6 * x.val + 1, none⟩ = some (.int .u8 (sb.toNat : Int)) := by
              refine ⟨?_, ?_, ?_⟩
              · rw [World.cell?_setCell_far _ _ _ _ (Ne.symm hBr)]; exact hS9.1
              · rw [World.cell?_setCell_far _ _ _ _ (show r ≠ b by omega)]; exact hS9.2.1
              · rw [World.cell?_setCell_far _ _ _ _ (show r ≠ b by omega)]; exact hS9.2.2
            refine hK.out _ _ ?_ (fun hHeld6 => ?_)
            · simpa using hS10
            refine wpAnyH_done (by kernel_rfl) ?_ _
            have FIN := IS_step H5W.out B5W.out S5W.out N5W.out L5W.out z5 (Nat.le_of_lt hrl) CD8.out OWN9.out CH9.out hset2.out
            simp only [List.length_append, List.length_cons, List.length_nil, Nat.zero_add] at FIN
            exact FIN
  · have HRR : Hid (R2 = { R1 with code := 6 }) := Lib.hid (by rw [hRR, if_pos (Or.inl h6)])
    have g1 : ((L : Int) % 6 != 0) = true := by simp; omega
    have g2 : ¬ (L : Int) % 6 = 0 := by omega
    clear hRR
    gi_wp2
    all_goals first | exact ⟨_, results_none rfl _ _ _, rfl, ⟨_, _, _, by rw [HRR.out]; exact K6.out⟩, L6.out⟩ | (rename_i h1 h2; simp [undef] at h1) | (rename_i h1 h2 h3; simp [undef] at h2) | (rename_i h1; simp [undef] at h1)
end
end Go.Proofs.Ythhgnipiaohplaa.Fr
