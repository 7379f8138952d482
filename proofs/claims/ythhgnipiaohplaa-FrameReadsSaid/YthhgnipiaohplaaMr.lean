/-
  FrameReads: octets are frames, or have faults: a parser with any Max, any steps: every answer, and Size; what came out is its owner's.
-/
import Derived.Test.YthhgnipiaohplaaFxh
import Derived.Test.YthhgnipiaohplaaFdr
import Derived.Test.YthhgnipiaohplaaMx
import Derived.Test.YthhgnipiaohplaaFsn
import Derived.Test.YthhgnipiaohplaaFsa
import Derived.Test.YthhgnipiaohplaaOpenN
import Derived.Test.YthhgnipiaohplaaArg
import Derived.BigQuiet
namespace Go.Proofs.Ythhgnipiaohplaa.Fr
open Go.ChangeShapes Go.WideShapes Go.ChangeAt Go.RowKit
open Go.Proofs.Ythhgnipiaohplaa.B
set_option linter.unusedVariables false
set_option linter.unusedSimpArgs false

def nrF : NR → Fm | .frame F _ => F | _ => noFm
def nrC : NR → Nat | .broken c => c | .fault c _ _ => c | _ => 0
def nrS : NR → Nat | .fault _ st _ => st | _ => 0
def nrI : NR → Bool | .broken _ => true | .fault _ _ _ => true | _ => false
def nrK : NR → Bool | .none => false | _ => true
def nrL (L : List UInt8) : NR → List UInt8 | .none => L | .broken _ => [] | .fault _ _ r => r | .frame _ r => r
def nrD (dn : Bool) : NR → Bool | .broken _ => true | _ => dn
theorem rnext_any {W w : World} {p : Nat} {l : List UInt8} {mx : Nat} {dn : Bool} (h : RP W w p l mx dn) (hl : l.length ≤ 100000000) (hd : dn = true → l = []) :
    Calls Try.prog 22 #[.pointer (some ⟨p, 0, none⟩)] w fun e w' => RNext W w p l mx dn e w' (nxt mx l) := by
  cases dn with
  | true =>
    obtain rfl := hd rfl
    exact rnext_done h
  | false =>
    by_cases h9 : l.length < 9
    · rw [nxt_short h9]
      exact rnext_short h h9
    · obtain ⟨a, b, c, k, fl, s1, s2, s3, s4, r, rfl⟩ := split9 (l := l) (by omega)
      exact rnext_nine h (by simp at hl; omega)
/-- What Next hands out. -/
structure NTold (W w : World) (p : Nat) (hv : Value) (l : List UInt8) (mx : Nat) (dn : Bool) (w' : World) (R : NR) (hv' pv lv : Value) : Prop where
  h : PH W w' p hv' (nrL l R) mx (nrD dn R)
  c : Chg [p] w w'
  po : OwnB w' w.heap.size pv (nrF R).pay
  so : OwnR 50 2 encS w' w.heap.size lv (nrF R).list
  d : ∀ g ∈ pv.ownBlock.toList, g ∉ hv'.ownBlock.toList
  v : ∃ k, PH W w p hv l mx k ∧ (∀ x ∈ hv'.ownBlock.toList, x ∈ footP p hv ∨ w.heap.size ≤ x)
theorem next_told {W w : World} {p : Nat} {hv : Value} {l : List UInt8} {mx : Nat} {dn : Bool} (h : PH W w p hv l mx dn) (hl : l.length ≤ 100000000) :
    Calls Try.prog 21 #[.pointer (some ⟨p, 0, none⟩)] w fun e w' => ∃ hv' pv lv, e = .returned (.tuple #[.agg (fcs ((nrF (nxt mx l)).mem pv lv)), .agg #[.bool (nrI (nxt mx l)), .int .u32 (nrC (nxt mx l) : Nat), .int .i64 (nrS (nxt mx l) : Nat)], .bool (nrK (nxt mx l))]) ∧ NTold W w p hv l mx dn w' (nxt mx l) hv' pv lv := by
  have no1 : ∀ w' : World, OwnB w' w.heap.size (.slice none 0 0) noFm.pay := fun w' => OwnB.nil w' _
  have no2 : ∀ w' : World, OwnR 50 2 encS w' w.heap.size (.slice none 0 0) noFm.list := fun w' => OwnR.nil w' _
  refine (next_any h hl).mono ?_
  intro e w' hp
  generalize nxt mx l = R at hp
  cases R with
  | none =>
    obtain ⟨rfl, h5, c5⟩ := hp
    exact ⟨hv, .slice none 0 0, .slice none 0 0, rfl, h5, c5.mono (by simp), no1 w', no2 w', by simp [Value.ownBlock], dn, h, fun x hx => Or.inl (by simp only [footP]; exact List.mem_cons_of_mem _ hx)⟩
  | broken c =>
    obtain ⟨rfl, h5, c5⟩ := hp
    exact ⟨.slice none 0 0, .slice none 0 0, .slice none 0 0, rfl, h5, c5, no1 w', no2 w', by simp [Value.ownBlock], dn, h, by simp [Value.ownBlock]⟩
  | fault c st r =>
    obtain ⟨hv', rfl, h5, c5, o5⟩ := hp
    exact ⟨hv', .slice none 0 0, .slice none 0 0, rfl, h5, c5, no1 w', no2 w', by simp [Value.ownBlock], dn, h, fun x hx => Or.inr (OwnB.lo o5 x hx)⟩
  | frame F r =>
    obtain ⟨hv', pv, lv, rfl, h5, c5, o5, op, os, d5⟩ := hp
    exact ⟨hv', pv, lv, rfl, h5, c5, op, os, d5, dn, h, fun x hx => Or.inr (OwnB.lo o5 x hx)⟩
/-- What the document's Next hands out. -/
structure RTold (W w : World) (p : Nat) (l : List UInt8) (mx : Nat) (dn : Bool) (w' : World) (R : NR) (pv lv : Value) : Prop where
  h : RP W w' p (nrL l R) mx (nrD dn R)
  c : Chg [p] w w'
  po : BytesOf w' pv (nrF R).pay
  so : SliceOf w' lv 2 encS (nrF R).list
theorem rnext_told {W w : World} {p : Nat} {l : List UInt8} {mx : Nat} {dn : Bool} (h : RP W w p l mx dn) (hl : l.length ≤ 100000000) (hd : dn = true → l = []) :
    Calls Try.prog 22 #[.pointer (some ⟨p, 0, none⟩)] w fun e w' => ∃ pv lv, e = .returned (.tuple #[.agg (fcs ((nrF (nxt mx l)).mem pv lv)), .agg #[.bool (nrI (nxt mx l)), .int .u32 (nrC (nxt mx l) : Nat), .int .i64 (nrS (nxt mx l) : Nat)], .bool (nrK (nxt mx l))]) ∧ RTold W w p l mx dn w' (nxt mx l) pv lv := by
  refine (rnext_any h hl hd).mono ?_
  intro e w' hp
  generalize nxt mx l = R at hp
  cases R with
  | none =>
    obtain ⟨rfl, h5, c5⟩ := hp
    exact ⟨.slice none 0 0, .slice none 0 0, rfl, h5, c5.mono (by simp), bytes_nil, slice_nil⟩
  | broken c =>
    obtain ⟨rfl, h5, c5⟩ := hp
    exact ⟨.slice none 0 0, .slice none 0 0, rfl, h5, c5, bytes_nil, slice_nil⟩
  | fault c st r =>
    obtain ⟨rfl, h5, c5⟩ := hp
    exact ⟨.slice none 0 0, .slice none 0 0, rfl, h5, c5, bytes_nil, slice_nil⟩
  | frame F r =>
    obtain ⟨pv, lv, rfl, b5, s5, h5, c5⟩ := hp
    exact ⟨pv, lv, rfl, h5, c5, b5, s5⟩
theorem nr_len {mx : Nat} {l : List UInt8} : (nrL l (nxt mx l)).length ≤ l.length := by
  cases h : nxt mx l with
  | none => exact Nat.le_refl _
  | broken c => exact Nat.zero_le _
  | fault c st r => have := nxt_fault_len h; simp only [nrL]; omega
  | frame F r => have := nxt_frame_len h; simp only [nrL]; omega
theorem nr_done {mx : Nat} {l : List UInt8} {dn : Bool} (h : dn = true → l = []) : nrD dn (nxt mx l) = true → nrL l (nxt mx l) = [] := by
  cases dn with
  | true =>
    obtain rfl := h rfl
    intro _
    rfl
  | false =>
    cases nxt mx l <;> simp [nrD, nrL]
end Go.Proofs.Ythhgnipiaohplaa.Fr
namespace Go.Proofs.Ythhgnipiaohplaa.Reads
open Go.ChangeShapes Go.WideShapes Go.ChangeAt Go.RowKit
open Go.Proofs.Ythhgnipiaohplaa.B Go.Proofs.Ythhgnipiaohplaa.Fr
set_option linter.unusedVariables false
set_option linter.unusedSimpArgs false

/-- A step. -/
structure St where
  k : Int
  n : Int
  v : Value
  b : List UInt8
def encO (o : St) : List Value := [.int .i64 o.k, .int .i64 o.n, o.v]
set_option maxRecDepth 100000 in
theorem decO {H : Type} {enc : TypeId × Value → H} {W : World} (n : Nat) (cs : List Value) (x : DataW H × List MemPlace) (hl : cs.length = 3)
    (h : DataW.trod enc Try.prog W 0 (fun _ => true) true n 43 cs = some x) (hlt : ∀ p ∈ x.2, p.block < W.heap.size) (hs : Small' Try.prog 43 x.1) : ∃ z : St, cs = encO z ∧ BytesOf W z.v z.b := by
  obtain ⟨xs, k, hk, hx, hlen, hxl, hf⟩ := DataW.trod_struct Try.underlying43 h
  have g0 : DataW.trod enc Try.prog W 0 (fun _ => true) true k 3 ((cs.drop 0).take (Try.prog.cellsOf 3)) = xs[0]? := hf 0 _ rfl
  have g1 : DataW.trod enc Try.prog W 0 (fun _ => true) true k 3 ((cs.drop 1).take (Try.prog.cellsOf 3)) = xs[1]? := hf 1 _ rfl
  have g2 : DataW.trod enc Try.prog W 0 (fun _ => true) true k 22 ((cs.drop 2).take (Try.prog.cellsOf 22)) = xs[2]? := hf 2 _ rfl
  match xs, hxl, cs, hl with
  | [y0, y1, y2], _, [v0, v1, v2], _ =>
    simp only [show Try.prog.cellsOf 3 = 1 from by kernel_rfl, show Try.prog.cellsOf 22 = 1 from by kernel_rfl] at g0 g1 g2
    obtain ⟨a, ha, _, _⟩ := DataW.trod_int Try.underlying3 (by simpa using g0)
    obtain ⟨b, hb, _, _⟩ := DataW.trod_int Try.underlying3 (by simpa using g1)
    simp at ha hb
    subst hx
    have s2 := small_struct Try.underlying43 hs (j := 2) (t' := 22) (d := y2.1) rfl rfl
    obtain ⟨l2, _, _, _, q2⟩ := open_slice_n 1 encB (fun _ => True) Try.underlying22 (by kernel_rfl) (by omega)
      (fun n cs x hl h _ hs => (Go.Proofs.Ythhgnipiaohplaa.B.decB n cs x hl h).imp fun z hz => ⟨hz.1, trivial⟩) (by simpa using g2) (fun p hp => hlt p (by simp [hp])) s2
    exact ⟨⟨a, b, v2, l2⟩, by simp [encO, ha, hb], q2⟩
theorem o_cells {w : World} {a : Option Addr} {n cap : Nat} {zs : List St} (h : SliceOf w (.slice a n cap) 3 encO zs) (h0 : 0 < zs.length) :
    ∃ b off, a = some ⟨b, off, none⟩ ∧ b < w.heap.size ∧ ∀ i o, zs[i]? = some o → w.cell? ⟨b, off + i * 3, none⟩ = some (.int .i64 o.k) ∧ w.cell? ⟨b, off + i * 3 + 1, none⟩ = some (.int .i64 o.n) ∧ w.cell? ⟨b, off + i * 3 + 2, none⟩ = some o.v := by
  obtain ⟨b, off, rfl, hb, hc⟩ := h.at h0
  exact ⟨b, off, rfl, hb, fun i f hf => ⟨hc i f hf 0 (by omega), hc i f hf 1 (by omega), hc i f hf 2 (by omega)⟩⟩
/-- The block of a row, if it has elements. -/
structure Blk (T : TypeId) (sz : Nat) (w : World) (v : Value) (n : Nat) : Prop where
  h : 0 < n → ∃ g cap cur, v = .slice (some ⟨g, 0, none⟩) n cap ∧ At w g (.cells cur T (0, 0)) ∧ n * sz ≤ cur.size
theorem blk_of {T : TypeId} {base sz n : Nat} {v : Value} {xs : List Value} {w : World} (h : w.ownsRow base T sz v n xs) : Blk T sz w v n := ⟨fun h0 => by
  rcases h.2 with ⟨_, h1⟩ | ⟨g, cap, cur, h1, h2, h3, h4, h5, h6, h7⟩
  · omega
  · exact ⟨g, cap, cur, h1, h3, by rw [h6]; exact Nat.mul_le_mul_right _ h4⟩⟩
theorem Blk.chg {T : TypeId} {sz n : Nat} {v : Value} {w w' : World} {ls : List Nat} (h : Blk T sz w v n) (hc : Chg ls w w') (hd : ∀ x ∈ v.ownBlock.toList, x ∉ ls) : Blk T sz w' v n := ⟨fun h0 => by
  obtain ⟨g, cap, cur, rfl, h2, h3⟩ := h.h h0
  exact ⟨g, cap, cur, rfl, h2.chg hc (hd g (by simp [Value.ownBlock])), h3⟩⟩
/-- Both parsers between two steps. -/
structure Two (W w : World) (p q : Nat) (hv : Value) (L : List UInt8) (m : Nat) (dn : Bool) : Prop where
  p : PH W w p hv L m dn
  q : RP W w q L m dn
  d : dn = true → L = []
  l : L.length ≤ 16777224
  c : Chg [] W w
theorem Two.ne {W w : World} {p q : Nat} {hv : Value} {L : List UInt8} {m : Nat} {dn : Bool} (h : Two W w p q hv L m dn) : q ∉ footP p hv := by
  intro hx
  rcases List.mem_cons.1 hx with rfl | hx
  · exact absurd (at_typ_inj h.p.head h.q.head) (by decide)
  · exact owns_alien h.p.row h.q.head (by decide) hx
theorem Two.chg {W w w' : World} {p q : Nat} {hv : Value} {L : List UInt8} {m : Nat} {dn : Bool} {ls : List Nat} (h : Two W w p q hv L m dn) (hc : Chg ls w w') (h1 : ∀ x ∈ footP p hv, x ∉ ls) (h2 : q ∉ ls) (h3 : ∀ x ∈ ls, W.heap.size ≤ x) : Two W w' p q hv L m dn :=
  ⟨h.p.chg hc h1, h.q.chg hc h2, h.d, h.l, h.c.trans hc (fun x hx => Or.inr (h3 x hx))⟩
theorem Two.chg0 {W w w' : World} {p q : Nat} {hv : Value} {L : List UInt8} {m : Nat} {dn : Bool} (h : Two W w p q hv L m dn) (hc : Chg [] w w') : Two W w' p q hv L m dn :=
  h.chg hc (fun _ _ => by simp) (by simp) (by simp)
set_option maxRecDepth 100000 in
set_option maxHeartbeats 8000000 in
theorem walk (max : Int) (lv : Value) (zs : List St) (W : World) (hsl : SliceOf W lv 3 encO zs) (hbs : ∀ z ∈ zs, BytesOf W z.v z.b) :
    Calls Try.prog 4 #[.int .i64 max, lv] W fun e w' => e = .returned (.bool true) ∧ Below W.heap.size W w' := by
  obtain ⟨la, lc, rfl, hlc, hlcm⟩ := hsl.len
  unfold maxLen at hlcm
  have HSL := Lib.hid hsl; have HBS := Lib.hid hbs
  clear hsl hbs
  go_enter Try.func4, Try.ntmps4
  go_wp2_with fail
  refine (shown_any W).mono ?_; rintro e w1 ⟨rfl, c1⟩
  go_wp2_with fail
  refine (pnew_any (W := W) max w1 c1.size).mono ?_; rintro e w2 ⟨p, hv0, rfl, h2, c2, f2⟩
  have C2 := Lib.hid (c1.trans' c2)
  have H2 := Lib.hid h2
  clear h2 c1 c2 f2
  go_wp2_with fail
  refine (rnew_any (W := W) max w2 C2.out.size).mono ?_; rintro e w3 ⟨q, rfl, h3, c3, f3⟩
  have TW : Hid (Two W w3 p q hv0 [] (mxP max) false) := Lib.hid ⟨H2.out.chg0 c3, h3, by simp, by simp, C2.out.trans' c3⟩
  clear h3 c3 f3 H2 C2
  go_wp2_with fail
  go_loopw [8] (fun iv wr => ∃ (k : Nat) (L : List UInt8) (hv : Value) (m : Nat) (dn : Bool), k ≤ zs.length ∧ k ≤ 60 ∧ iv = .int .i64 k ∧ Two W wr p q hv L m dn) (fun iv _ => 60 - (intOf iv).toNat)
  case atStart => exact ⟨0, [], hv0, _, false, by omega, by omega, rfl, TW.out⟩
  case round =>
    clear TW
    obtain ⟨k, L, hv, m, dn, hk, hk2, rfl, hT⟩ := hrel
    have TW := Lib.hid hT
    clear hT
    by_cases hlt : k < zs.length ∧ k < 60
    · obtain ⟨hlt1, hlt2⟩ := hlt
      have hltI : (k : Int) < (zs.length : Int) := by omega
      have hlt3 : (k : Int) < 60 := by omega
      obtain ⟨o, ho⟩ : ∃ o, zs[k]? = some o := ⟨_, List.getElem?_eq_getElem hlt1⟩
      obtain ⟨b, off, rfl, hbw, hcell⟩ := o_cells HSL.out (by omega)
      obtain ⟨d0, d1, d2⟩ := hcell k o ho
      have hbc : ∀ w', Below W.heap.size W w' → ∀ j, w'.cell? ⟨b, j, none⟩ = W.cell? ⟨b, j, none⟩ := fun w' h j => h.cell (p := ⟨b, j, none⟩) hbw
      have HBC := Lib.hid hbc
      have OB := Lib.hid (HBS.out o (List.mem_of_getElem? ho))
      have c0 := d0; have c1 := d1; have c2 := d2
      rw [← HBC.out wr TW.out.c.below_nil] at c0 c1 c2
      have D1 := Lib.hid d1
      clear d0 d1 d2 hbc hcell ho
      by_cases hk1 : o.k = 1
      · rw [hk1] at c0
        clear c2
        go_wp2_with fail
        refine (psetmax_any TW.out.p o.n).mono ?_; rintro e w9 ⟨rfl, h9, c9⟩
        have hps : ∀ x ∈ [p], W.heap.size ≤ x := fun x hx => by simp at hx; subst hx; exact TW.out.p.lo
        have hqp : q ∉ [p] := fun hx => TW.out.ne (by simp at hx; simp [footP, hx])
        have H9 := Lib.hid h9; have Q9 := Lib.hid (TW.out.q.chg c9 hqp); have C9 := Lib.hid (TW.out.c.trans c9 (fun x hx => Or.inr (hps x hx)))
        have e1 : World.cell? w9 ⟨b, off + k * 3 + 1, none⟩ = some (.int .i64 o.n) := by rw [HBC.out w9 C9.out.below_nil]; exact D1.out
        clear h9 c9 hps hqp c0 c1
        go_wp2_with fail
        refine (rsetmax_any Q9.out o.n).mono ?_; rintro e w8 ⟨rfl, h8, c8⟩
        have hqf := TW.out.ne
        have T8 : Hid (Two W w8 p q hv L (mxP o.n) dn) := Lib.hid ⟨H9.out.chg c8 (fun x hx hy => hqf (by simp at hy; rw [← hy]; exact hx)), h8, TW.out.d, TW.out.l, C9.out.trans c8 (fun x hx => Or.inr (by simp at hx; rw [hx]; exact h8.lo))⟩
        clear h8 c8 H9 Q9 C9 e1 TW hqf
        obtain ⟨XS, hXS⟩ : ∃ S, S = bstr L := ⟨_, rfl⟩
        have zXS : XS.size = (L).length := by rw [hXS, bstr_size]
        have t0 : World.cell? w8 ⟨q, 0, none⟩ = some (.string XS) := by rw [hXS]; exact T8.out.q.head.cell rfl
        have hql := T8.out.q.head.lt
        have SZ := Lib.hid (fun n => psize_any (T8.out.p.chg0 ((Chg.refl w8).drewN n)))
        clear hXS
        go_wp2_with fail
        go_quiet ((go_at_call 25; exact Calls.quiet_of_same ((SZ.out _).mono (fun e w' h => ⟨h.1, h.2.symm⟩))))
        go_wp2_with fail
        go_roundw
        case rel => exact ⟨k + 1, L, hv, (mxP o.n), dn, by omega, by omega, by go_num, T8.out.chg0 ((Chg.refl w8).drewN _)⟩
        case measure => simp [intOf]; omega
      · have g1 : (o.k == 1) = false := by simp [hk1]
        by_cases hkt : o.k = 2
        · rw [hkt] at c0
          have hL100 : L.length ≤ 100000000 := by have := TW.out.l; omega
          have NT := next_told TW.out.p hL100
          have RT : ∀ w', RP W w' q L m dn → Calls Try.prog 22 #[.pointer (some ⟨q, 0, none⟩)] w' _ := fun w' h => rnext_told h hL100 TW.out.d
          have hlen := nr_len (mx := m) (l := L)
          have hdn := nr_done (mx := m) TW.out.d
          generalize nxt m L = R at NT RT hlen hdn
          obtain ⟨F, hF⟩ : ∃ F, F = nrF R := ⟨_, rfl⟩
          obtain ⟨fi, hxi⟩ : ∃ F, F = nrI R := ⟨_, rfl⟩
          obtain ⟨fc, hxc⟩ : ∃ F, F = nrC R := ⟨_, rfl⟩
          obtain ⟨fs, hxs⟩ : ∃ F, F = nrS R := ⟨_, rfl⟩
          obtain ⟨ok, hok⟩ : ∃ F, F = nrK R := ⟨_, rfl⟩
          simp only [← hF, ← hxi, ← hxc, ← hxs, ← hok] at NT RT
          have HF := Lib.hid hF; have RT' := Lib.hid RT; have NT' := Lib.hid NT; have HLN := Lib.hid hlen; have HDN := Lib.hid hdn
          clear hF hxi hxc hxs hok NT RT hlen hdn c1 c2
          go_wp2_with fail
          refine NT'.out.mono ?_; rintro e w5 ⟨hv5, pv, lv, rfl, n5⟩
          have op5 := n5.po; have os5 := n5.so; have c5 := n5.c
          rw [← HF.out] at op5 os5
          have hqp : q ∉ [p] := fun hx => TW.out.ne (by simp at hx; simp [footP, hx])
          have Q5 := Lib.hid (TW.out.q.chg c5 hqp)
          have C5 := Lib.hid (TW.out.c.trans c5 (fun x hx => Or.inr (by simp at hx; rw [hx]; exact TW.out.p.lo)))
          have P5 := Lib.hid n5.h
          have DP : Hid (∀ x ∈ footP p hv5, x ∉ pv.ownBlock.toList) := Lib.hid (fun x hx hy => by
            rcases List.mem_cons.1 hx with rfl | hx
            · exact owns_alien op5 n5.h.head (by decide) hy
            · exact n5.d x hy hx)
          have DL : Hid (∀ x ∈ footP p hv5, x ∉ lv.ownBlock.toList) := Lib.hid (fun x hx hy => by
            rcases List.mem_cons.1 hx with rfl | hx
            · exact owns_alien os5 n5.h.head (by decide) hy
            · obtain ⟨cur, hc⟩ := owns_at n5.h.row (g := x) (by simpa using hx)
              exact owns_alien os5 hc (by decide) hy)
          have DQ1 : Hid (q ∉ pv.ownBlock.toList) := Lib.hid (owns_alien op5 Q5.out.head (by decide))
          have DQ2 : Hid (q ∉ lv.ownBlock.toList) := Lib.hid (owns_alien os5 Q5.out.head (by decide))
          have DPL : Hid (∀ x ∈ lv.ownBlock.toList, x ∉ pv.ownBlock.toList) := Lib.hid (fun x hx hy => by
            obtain ⟨cur, hc⟩ := owns_at op5 (g := x) (by simpa using hy)
            exact owns_alien os5 hc (by decide) hx)
          have LO1 : Hid (∀ x ∈ pv.ownBlock.toList, W.heap.size ≤ x) := Lib.hid (fun x hx => Nat.le_trans TW.out.c.size (owns_lo op5 x hx))
          have LO2 : Hid (∀ x ∈ lv.ownBlock.toList, W.heap.size ≤ x) := Lib.hid (fun x hx => Nat.le_trans TW.out.c.size (owns_lo os5 x hx))
          have U1 : Hid (∀ x ∈ pv.ownBlock.toList, x < w5.heap.size) := Lib.hid (fun x hx => (World.ownsRow.lt op5 x (by simpa using hx)).2)
          have U2 : Hid (∀ x ∈ lv.ownBlock.toList, x < w5.heap.size) := Lib.hid (fun x hx => (World.ownsRow.lt os5 x (by simpa using hx)).2)
          have BP5 := Lib.hid (blk_of op5); have BL5 := Lib.hid (blk_of os5)
          have OP5 := Lib.hid op5; have OS5 := Lib.hid os5
          have DQ0 : Hid (q ∉ footP p hv5) := Lib.hid (fun hx => by
            rcases List.mem_cons.1 hx with hx | hx
            · exact hqp (by simp [hx])
            · exact owns_alien n5.h.row Q5.out.head (by decide) hx)
          have hq5 := Q5.out.head.lt
          clear op5 os5 n5 hqp NT'
          obtain ⟨pa, pc, rfl, _, _⟩ := (OwnB.bytes OP5.out).slice
          obtain ⟨sa, sc, rfl, _, _⟩ := OwnR.slice OS5.out
          have b1 : At ((w5.alloc (.cells noF 27)).alloc (.cells noX 46)) w5.heap.size (.cells noF 27) := (At.new w5 _).alloc _
          have b2 : At ((w5.alloc (.cells noF 27)).alloc (.cells noX 46)) (w5.heap.size + 1) (.cells noX 46) := At.new' (w := w5.alloc (.cells noF 27)) (by simp)
          go_wp2_with (refine store_whole rfl 27 _ _ rfl w5.heap.size _ _ 27 rfl rfl b1 infoFr rfl (by simp [Value.oneCell', Fm.mem]) ?_)
          intro w31 s31 c31
          have b231 := At.chg b2 c31 (by simp)
          go_wp2_with (refine store_whole rfl 46 _ _ rfl (w5.heap.size + 1) _ _ 46 rfl rfl b231 infoFa rfl (by simp [Value.oneCell']) ?_)
          intro w32 s32 c32
          have S31 := Lib.hid (s31.chg c32 (by simp)); have S32 := Lib.hid s32
          have C32 : Hid (Chg [] w5 w32) := Lib.hid ((((Chg.refl w5).alloc _).alloc _).trans ((c31.mono (m := [w5.heap.size, w5.heap.size + 1]) (by simp)).trans' (c32.mono (by simp))) (fun x hx => Or.inr (by simp at hx; omega)))
          clear b1 b2 b231 s31 c31 c32 s32
          have Q32 := Lib.hid (Q5.out.chg0 C32.out)
          have hl1 := S31.out.lt
          clear c5
          go_wp2_with fail
          refine (RT'.out _ Q32.out).mono ?_; rintro e w6 ⟨pv', lv', rfl, r6⟩
          have pp6 := r6.po; have ss6 := r6.so
          rw [← HF.out] at pp6 ss6
          have C6 := Lib.hid r6.c; have R6 := Lib.hid r6.h
          have PP6 := Lib.hid pp6; have SS6 := Lib.hid ss6
          clear pp6 ss6 r6 RT'
          obtain ⟨pa', pc', rfl, _, _⟩ := (PP6.out).slice
          obtain ⟨sa', sc', rfl, _, _⟩ := SliceOf.len SS6.out
          have b1 : At ((w6.alloc (.cells noF 27)).alloc (.cells noX 46)) w6.heap.size (.cells noF 27) := (At.new w6 _).alloc _
          have b2 : At ((w6.alloc (.cells noF 27)).alloc (.cells noX 46)) (w6.heap.size + 1) (.cells noX 46) := At.new' (w := w6.alloc (.cells noF 27)) (by simp)
          go_wp2_with (refine store_whole rfl 27 _ _ rfl w6.heap.size _ _ 27 rfl rfl b1 infoFr rfl (by simp [Value.oneCell', Fm.mem]) ?_)
          intro w41 s41 c41
          have b241 := At.chg b2 c41 (by simp)
          go_wp2_with (refine store_whole rfl 46 _ _ rfl (w6.heap.size + 1) _ _ 46 rfl rfl b241 infoFa rfl (by simp [Value.oneCell']) ?_)
          intro w42 s42 c42
          have S41 := Lib.hid (s41.chg c42 (by simp)); have S42 := Lib.hid s42
          have C42 : Hid (Chg [] w6 w42) := Lib.hid ((((Chg.refl w6).alloc _).alloc _).trans ((c41.mono (m := [w6.heap.size, w6.heap.size + 1]) (by simp)).trans' (c42.mono (by simp))) (fun x hx => Or.inr (by simp at hx; omega)))
          clear b1 b2 b241 s41 c41 c42 s42
          have C51 : Hid (Chg [q] w5 w42) := Lib.hid (((C32.out.mono (by simp)).trans' C6.out).trans' (C42.out.mono (by simp)))
          have A1 := Lib.hid ((S31.out.chg C6.out (by simp; omega)).chg C42.out (by simp))
          have A2 := Lib.hid ((S32.out.chg C6.out (by simp; omega)).chg C42.out (by simp))
          have hB1 := A1.out.lt; have hB3 := S41.out.lt
          have hpn : F.pay.length ≤ 9223372036854775807 := by
            obtain ⟨_, _, _, k1, k2⟩ := (OwnB.bytes OP5.out).slice
            unfold maxLen at k2
            omega
          have hln : F.list.length ≤ 9223372036854775807 := by
            obtain ⟨_, _, _, k1, k2⟩ := SliceOf.len SS6.out
            unfold maxLen at k2
            omega
          have x0 : World.cell? w42 ⟨w5.heap.size, 0, none⟩ = some (.int .i64 F.kind) := A1.out.cell rfl
          have x1 : World.cell? w42 ⟨w5.heap.size, 1, none⟩ = some (.int .i64 F.stream) := A1.out.cell rfl
          have x2 : World.cell? w42 ⟨w5.heap.size, 2, none⟩ = some (.bool F.fin) := A1.out.cell rfl
          have x3 : World.cell? w42 ⟨w5.heap.size, 3, none⟩ = some (.bool F.eh) := A1.out.cell rfl
          have x4 : World.cell? w42 ⟨w5.heap.size, 4, none⟩ = some (.bool F.ack) := A1.out.cell rfl
          have x5 : World.cell? w42 ⟨w5.heap.size, 5, none⟩ = some (.bool F.prio) := A1.out.cell rfl
          have x6 : World.cell? w42 ⟨w5.heap.size, 6, none⟩ = some (.slice pa F.pay.length pc) := A1.out.cell rfl
          have x7 : World.cell? w42 ⟨w5.heap.size, 7, none⟩ = some (.int .i64 F.flags) := A1.out.cell rfl
          have x8 : World.cell? w42 ⟨w5.heap.size, 8, none⟩ = some (.int .i64 F.pad) := A1.out.cell rfl
          have x9 : World.cell? w42 ⟨w5.heap.size, 9, none⟩ = some (.int .i64 F.depend) := A1.out.cell rfl
          have xa : World.cell? w42 ⟨w5.heap.size, 10, none⟩ = some (.bool F.excl) := A1.out.cell rfl
          have xb : World.cell? w42 ⟨w5.heap.size, 11, none⟩ = some (.int .i64 F.weight) := A1.out.cell rfl
          have xc : World.cell? w42 ⟨w5.heap.size, 12, none⟩ = some (.int .u32 F.code) := A1.out.cell rfl
          have xd : World.cell? w42 ⟨w5.heap.size, 13, none⟩ = some (.slice sa F.list.length sc) := A1.out.cell rfl
          have xe : World.cell? w42 ⟨w5.heap.size, 14, none⟩ = some (.int .i64 F.last) := A1.out.cell rfl
          have xf : World.cell? w42 ⟨w5.heap.size, 15, none⟩ = some (.int .i64 F.inc) := A1.out.cell rfl
          have y0 : World.cell? w42 ⟨w6.heap.size, 0, none⟩ = some (.int .i64 F.kind) := S41.out.cell rfl
          have y1 : World.cell? w42 ⟨w6.heap.size, 1, none⟩ = some (.int .i64 F.stream) := S41.out.cell rfl
          have y2 : World.cell? w42 ⟨w6.heap.size, 2, none⟩ = some (.bool F.fin) := S41.out.cell rfl
          have y3 : World.cell? w42 ⟨w6.heap.size, 3, none⟩ = some (.bool F.eh) := S41.out.cell rfl
          have y4 : World.cell? w42 ⟨w6.heap.size, 4, none⟩ = some (.bool F.ack) := S41.out.cell rfl
          have y5 : World.cell? w42 ⟨w6.heap.size, 5, none⟩ = some (.bool F.prio) := S41.out.cell rfl
          have y6 : World.cell? w42 ⟨w6.heap.size, 6, none⟩ = some (.slice pa' F.pay.length pc') := S41.out.cell rfl
          have y7 : World.cell? w42 ⟨w6.heap.size, 7, none⟩ = some (.int .i64 F.flags) := S41.out.cell rfl
          have y8 : World.cell? w42 ⟨w6.heap.size, 8, none⟩ = some (.int .i64 F.pad) := S41.out.cell rfl
          have y9 : World.cell? w42 ⟨w6.heap.size, 9, none⟩ = some (.int .i64 F.depend) := S41.out.cell rfl
          have ya : World.cell? w42 ⟨w6.heap.size, 10, none⟩ = some (.bool F.excl) := S41.out.cell rfl
          have yb : World.cell? w42 ⟨w6.heap.size, 11, none⟩ = some (.int .i64 F.weight) := S41.out.cell rfl
          have yc : World.cell? w42 ⟨w6.heap.size, 12, none⟩ = some (.int .u32 F.code) := S41.out.cell rfl
          have yd : World.cell? w42 ⟨w6.heap.size, 13, none⟩ = some (.slice sa' F.list.length sc') := S41.out.cell rfl
          have ye : World.cell? w42 ⟨w6.heap.size, 14, none⟩ = some (.int .i64 F.last) := S41.out.cell rfl
          have yf : World.cell? w42 ⟨w6.heap.size, 15, none⟩ = some (.int .i64 F.inc) := S41.out.cell rfl
          have SM : Hid (Calls Try.prog 16 #[.agg #[.int .i64 F.kind, .int .i64 F.stream, .bool F.fin, .bool F.eh, .bool F.ack, .bool F.prio, .slice pa F.pay.length pc, .int .i64 F.flags, .int .i64 F.pad, .int .i64 F.depend, .bool F.excl, .int .i64 F.weight, .int .u32 F.code, .slice sa F.list.length sc, .int .i64 F.last, .int .i64 F.inc], .agg #[.int .i64 F.kind, .int .i64 F.stream, .bool F.fin, .bool F.eh, .bool F.ack, .bool F.prio, .slice pa' F.pay.length pc', .int .i64 F.flags, .int .i64 F.pad, .int .i64 F.depend, .bool F.excl, .int .i64 F.weight, .int .u32 F.code, .slice sa' F.list.length sc', .int .i64 F.last, .int .i64 F.inc]] w42 fun e w' => e = .returned (.bool true) ∧ Chg [] w42 w') :=
            Lib.hid (same_any F _ _ _ _ (OwnB.bytes (OwnB.chg OP5.out C51.out (fun g hg hx => DQ1.out (by simp at hx; subst hx; simpa using hg)))) (PP6.out.chg0 C42.out) (OwnR.sl encS_len (by decide) (OwnR.chg OS5.out C51.out (fun g hg hx => DQ2.out (by simp at hx; subst hx; simpa using hg)))) (SS6.out.chg0 C42.out))
          clear c0
          go_wp2_with fail
          with_reducible refine SM.out.mono ?_; rintro e w43 ⟨rfl, c43⟩
          have D43 := Lib.hid c43
          have C52 : Hid (Chg [q] w5 w43) := Lib.hid (C51.out.trans' (c43.mono (by simp)))
          have A43 := Lib.hid (A1.out.chg c43 (by simp))
          have u0 := (A2.out.chg c43 (by simp)).cell (o := 0) rfl
          have u1 := (A2.out.chg c43 (by simp)).cell (o := 1) rfl
          have u2 := (A2.out.chg c43 (by simp)).cell (o := 2) rfl
          have v0 := (S42.out.chg c43 (by simp)).cell (o := 0) rfl
          have v1 := (S42.out.chg c43 (by simp)).cell (o := 1) rfl
          have v2 := (S42.out.chg c43 (by simp)).cell (o := 2) rfl
          clear c43 SM x0 x1 x2 x3 x4 x5 x6 x7 x8 x9 xa xb xc xd xe xf y0 y1 y2 y3 y4 y5 y6 y7 y8 y9 ya yb yc yd ye yf
          have DB1 : Hid (w5.heap.size ∉ (Value.slice pa F.pay.length pc).ownBlock.toList) := Lib.hid (fun hx => by have := U1.out _ hx; omega)
          have DB2 : Hid (w5.heap.size ∉ (Value.slice sa F.list.length sc).ownBlock.toList) := Lib.hid (fun hx => by have := U2.out _ hx; omega)
          have BP := Lib.hid (BP5.out.chg C52.out (fun x hx hy => DQ1.out (by simp at hy; rw [← hy]; exact hx)))
          have BL := Lib.hid (BL5.out.chg C52.out (fun x hx hy => DQ2.out (by simp at hy; rw [← hy]; exact hx)))
          have P43 := Lib.hid (P5.out.chg C52.out (fun x hx hy => DQ0.out (by simp at hy; rw [← hy]; exact hx)))
          have R43 := Lib.hid ((R6.out.chg0 C42.out).chg0 D43.out)
          have C43 := Lib.hid (C5.out.trans C52.out (fun x hx => Or.inr (by simp at hx; rw [hx]; exact R6.out.lo)))
          have h43 := A43.out.lt
          clear S31 S32 C32 Q32 C6 R6 PP6 SS6 S41 S42 C42 C51 A1 A2 D43 C52 hB1 hB3 hl1 OP5 OS5 P5 BP5 BL5 Q5 C5 U1 U2 DQ0
          go_wp2_with fail
          go_loopw [16] (fun iv wx => ∃ j : Nat, j ≤ F.pay.length ∧ iv = .int .i64 j ∧ Blk 5 1 wx (.slice pa F.pay.length pc) F.pay.length ∧ Chg (Value.slice pa F.pay.length pc).ownBlock.toList w43 wx) (fun iv _ => F.pay.length - (intOf iv).toNat)
          case atStart => exact ⟨0, Nat.zero_le _, rfl, BP.out, Chg.refl _⟩
          case round =>
            clear u0 u1 u2 v0 v1 v2
            obtain ⟨j, hj, rfl, hb, hcx⟩ := hrel
            obtain ⟨wx, rfl⟩ : ∃ wx, wx = wr := ⟨_, rfl⟩
            have AX := Lib.hid (A43.out.chg hcx DB1.out)
            have z6 : World.cell? wx ⟨w5.heap.size, 6, none⟩ = some (.slice pa F.pay.length pc) := AX.out.cell rfl
            have hxl := AX.out.lt
            by_cases hjl : j < F.pay.length
            · have hjI : (j : Int) < (F.pay.length : Int) := by omega
              obtain ⟨g, cp, cur, he, hat, hcs⟩ := hb.h (by omega)
              cases he
              have i0 : j < cur.size := by omega
              have z0 : World.cell? wx ⟨g, j, none⟩ = some (cur[j]'i0) := hat.cell (Array.getElem?_eq_getElem i0)
              have zf : ∀ i, World.frozen? wx ⟨g, i, none⟩ = false := fun i => hat.free i
              generalize cur[j]'i0 = v0 at *
              have hgl := hat.lt
              have HAT := Lib.hid hat; have HCX := Lib.hid hcx; have HCS := Lib.hid hcs
              clear hat hcx hb hcs i0
              go_wp2_with fail
              go_roundw
              case rel => exact ⟨j + 1, by omega, by go_num, ⟨fun _ => ⟨g, _, _, rfl, HAT.out.set _ _, by simp only [Array.size_setIfInBounds]; exact HCS.out⟩⟩, HCX.out.setCell (Or.inl (by simp [Value.ownBlock])) _⟩
              case measure => simp [intOf]; omega
            · obtain rfl : j = F.pay.length := by omega
              have PX := Lib.hid (P43.out.chg hcx DP.out)
              have RX := Lib.hid (R43.out.chg hcx DQ1.out)
              have CX := Lib.hid (C43.out.trans hcx (fun x hx => Or.inr (LO1.out x hx)))
              have BLX := Lib.hid (BL.out.chg hcx DPL.out)
              clear hcx hb A43 P43 R43 C43 BL
              go_wp2_with fail
              go_loopw [17] (fun iv wy => ∃ j : Nat, j ≤ F.list.length ∧ iv = .int .i64 j ∧ Blk 50 2 wy (.slice sa F.list.length sc) F.list.length ∧ Chg (Value.slice sa F.list.length sc).ownBlock.toList wx wy) (fun iv _ => F.list.length - (intOf iv).toNat)
              case atStart => exact ⟨0, Nat.zero_le _, rfl, BLX.out, Chg.refl _⟩
              case round =>
                clear z6 hxl
                obtain ⟨j, hj, rfl, hb, hcx⟩ := hrel
                obtain ⟨wy, rfl⟩ : ∃ wy, wy = wr := ⟨_, rfl⟩
                have AY := Lib.hid (AX.out.chg hcx DB2.out)
                have z13 : World.cell? wy ⟨w5.heap.size, 13, none⟩ = some (.slice sa F.list.length sc) := AY.out.cell rfl
                have hyl := AY.out.lt
                by_cases hjl : j < F.list.length
                · have hjI : (j : Int) < (F.list.length : Int) := by omega
                  obtain ⟨g, cp, cur, he, hat, hcs⟩ := hb.h (by omega)
                  cases he
                  have i0 : j * 2 < cur.size := by omega
                  have i1 : j * 2 + 1 < cur.size := by omega
                  have z0 : World.cell? wy ⟨g, j * 2, none⟩ = some (cur[j * 2]'i0) := hat.cell (Array.getElem?_eq_getElem i0)
                  have z1 : World.cell? wy ⟨g, j * 2 + 1, none⟩ = some (cur[j * 2 + 1]'i1) := hat.cell (Array.getElem?_eq_getElem i1)
                  have zf : ∀ i, World.frozen? wy ⟨g, i, none⟩ = false := fun i => hat.free i
                  generalize cur[j * 2]'i0 = v0 at *
                  generalize cur[j * 2 + 1]'i1 = v1 at *
                  have hgl := hat.lt
                  have HAT := Lib.hid hat; have HCX := Lib.hid hcx; have HCS := Lib.hid hcs
                  clear hat hcx hb hcs i0 i1
                  go_wp2_with fail
                  go_roundw
                  case rel => exact ⟨j + 1, by omega, by go_num, ⟨fun _ => ⟨g, _, _, rfl, (HAT.out.set _ _).set _ _, by simp only [Array.size_setIfInBounds]; exact HCS.out⟩⟩, (HCX.out.setCell (Or.inl (by simp [Value.ownBlock])) _).setCell (Or.inl (by simp [Value.ownBlock])) _⟩
                  case measure => simp [intOf]; omega
                · obtain rfl : j = F.list.length := by omega
                  have T9 : Hid (Two W wy p q hv5 (nrL L R) m (nrD dn R)) := Lib.hid ⟨PX.out.chg hcx DL.out, RX.out.chg hcx DQ2.out, HDN.out, Nat.le_trans HLN.out TW.out.l, CX.out.trans hcx (fun x hx => Or.inr (LO2.out x hx))⟩
                  clear hcx hb AX AY PX RX CX BLX
                  generalize nrL L R = LR at T9
                  generalize nrD dn R = dR at T9
                  obtain ⟨XS, hXS⟩ : ∃ S, S = bstr LR := ⟨_, rfl⟩
                  have zXS : XS.size = (LR).length := by rw [hXS, bstr_size]
                  have t0 : World.cell? wy ⟨q, 0, none⟩ = some (.string XS) := by rw [hXS]; exact T9.out.q.head.cell rfl
                  have hql := T9.out.q.head.lt
                  have SZ := Lib.hid (fun n => psize_any (T9.out.p.chg0 ((Chg.refl wy).drewN n)))
                  clear hXS
                  go_wp2_with fail
                  go_quiet ((go_at_call 25; exact Calls.quiet_of_same ((SZ.out _).mono (fun e w' h => ⟨h.1, h.2.symm⟩))))
                  go_wp2_with fail
                  go_roundw
                  case rel => exact ⟨k + 1, LR, hv5, m, dR, by omega, by omega, by go_num, T9.out.chg0 ((Chg.refl wy).drewN _)⟩
                  case measure => simp [intOf]; omega
        · have g2 : (o.k == 2) = false := by simp [hkt]
          obtain ⟨ba, bc, hbv, hbl, hbm⟩ := OB.out.slice
          rw [hbv] at c2
          unfold maxLen at hbm
          have sb0 := OB.out
          rw [hbv] at sb0
          obtain ⟨N, hN⟩ : ∃ N : Nat, N = min o.b.length 20000 := ⟨_, rfl⟩
          have eN : min (o.b.length : Int) 20000 = (N : Int) := by omega
          have hN1 : N ≤ o.b.length := by omega
          have j1 : (N : Int) ≤ (bc : Int) := by omega
          have j2 : (0 : Int) ≤ (N : Int) := by omega
          have j3 : (N : Int) ≤ (o.b.length : Int) := by omega
          have p1 := BytesOf.pre sb0 N hN1
          obtain ⟨l, hl⟩ : ∃ l, l = o.b.take N := ⟨_, rfl⟩
          have hll : l.length = N := by rw [hl, List.length_take]; omega
          have hl3 : l.length ≤ 20000 := by omega
          rw [← hl] at p1
          clear hN hl
          subst hll
          have P1 := Lib.hid p1
          obtain ⟨NF, hNF⟩ : ∃ n, n = feedN m dn L l := ⟨_, rfl⟩
          have hNF2 : NF ≤ 16777224 := by
            rw [hNF]; unfold feedN
            have := TW.out.p.b2
            split <;> omega
          have hTL : (L ++ l.take NF).length ≤ 16777224 := by
            rw [List.length_append, List.length_take, hNF]; unfold feedN
            have := TW.out.p.b2; have := TW.out.l
            split <;> omega
          have hTD : dn = true → L ++ l.take NF = [] := fun h => by
            rw [TW.out.d h, hNF, h]; simp [feedN]
          have FD : Hid (∀ (w' : World) (hv' bv : Value), PH W w' p hv' L m dn → BytesOf w' bv l → Calls Try.prog 23 #[.pointer (some ⟨p, 0, none⟩), bv] w' fun e w'' => ∃ hv2, e = .returned (.int .i64 (NF : Nat)) ∧ PH W w'' p hv2 (L ++ l.take NF) m dn ∧ Chg (footP p hv') w' w'' ∧ ∀ x ∈ footP p hv2, x ∈ footP p hv' ∨ w'.heap.size ≤ x) := Lib.hid (fun w' hv' bv h hb => by
            rw [hNF]; exact pfeed_any h bv l hb (by have := TW.out.l; omega) (by omega))
          have FR : Hid (∀ w' : World, RP W w' q L m dn → Calls Try.prog 24 #[.pointer (some ⟨q, 0, none⟩), .string (bstr l)] w' fun e w'' => e = .returned (.int .i64 (NF : Nat)) ∧ RP W w'' q (L ++ l.take NF) m dn ∧ Chg [q] w' w'') := Lib.hid (fun w' h => by
            rw [hNF]; exact rfeed_any h l (by have := TW.out.l; omega) (by omega))
          have HTL := Lib.hid hTL; have HTD := Lib.hid hTD; have HBV := Lib.hid hbv
          clear p1 hbv sb0 c1 D1 HBC hNF hTL hTD
          go_wp2_with fail
          go_quiet (fail)
          have T5 := Lib.hid (TW.out.chg0 ((Chg.refl wr).drewN nq))
          clear TW c0 c2
          generalize wr.drewN nq = w5 at *
          go_wp2_with (at_builtin; refine app_any rfl _ _ rfl w5.heap.size (.slice (some ⟨w5.heap.size, 0, none⟩) 0 0) [] rfl (B.OwnB.empty (Nat.le_refl _)) _ l rfl (P1.out.chg0 (T5.out.c.alloc _)) (by simp; omega) (by simp) ?_)
          intro v' w6 own6 ch6 n6
          have c6 : Chg [] w5 w6 := ((Chg.refl w5).alloc _).trans ch6 (fun x hx => Or.inr (by simp [Value.ownBlock] at hx; omega))
          obtain ⟨oa, oc, rfl, hoc1, hoc2⟩ := (OwnB.bytes own6).slice
          unfold maxLen at hoc2
          have T6 := Lib.hid (T5.out.chg0 c6); have O6 := Lib.hid own6
          have LO6 : Hid (∀ x ∈ (Value.slice oa l.length oc).ownBlock.toList, W.heap.size ≤ x) := Lib.hid (fun x hx => Nat.le_trans T5.out.c.size (OwnB.lo own6 x hx))
          have DO6 : Hid (∀ x ∈ (Value.slice oa l.length oc).ownBlock.toList, x ∉ footP p hv ∧ x < w6.heap.size) := Lib.hid (fun x hx => ⟨fun hy => by have := T5.out.p.lt x hy; have := OwnB.lo own6 x hx; omega, (World.ownsRow.lt own6 x (by simpa using hx)).2⟩)
          clear own6 ch6 n6 c6 T5
          go_wp2_with fail
          refine (FD.out w6 hv (.slice oa l.length oc) T6.out.p (OwnB.bytes O6.out)).mono ?_; rintro e w7 ⟨hv7, rfl, h7, c7, f7⟩
          have Q7 := Lib.hid (T6.out.q.chg c7 T6.out.ne); have C7 := Lib.hid (T6.out.c.trans c7 (fun x hx => Or.inr (T6.out.p.los x hx))); have H7 := Lib.hid h7
          have O7 := Lib.hid (OwnB.chg O6.out c7 (fun g hg hx => (DO6.out g (by simpa using hg)).1 hx))
          have D7 : Hid (∀ x ∈ footP p hv7, x ∉ (Value.slice oa l.length oc).ownBlock.toList) := Lib.hid (fun x hx hy => by
            obtain ⟨k1, k2⟩ := DO6.out x hy
            rcases f7 x hx with h | h
            · exact k1 h
            · omega)
          have k2 := BytesOf.str (P1.out.chg0 C7.out)
          clear h7 c7 f7 T6 O6 DO6
          go_wp2_with fail
          refine (FR.out w7 Q7.out).mono ?_; rintro e w8 ⟨rfl, q8, c8⟩
          have hqh : q ∉ footP p hv7 := fun hx => by
            rcases List.mem_cons.1 hx with hx | hx
            · exact absurd (at_typ_inj H7.out.head (by rw [← hx]; exact Q7.out.head)) (by decide)
            · exact owns_alien H7.out.row Q7.out.head (by decide) hx
          have DQ : Hid (q ∉ (Value.slice oa l.length oc).ownBlock.toList) := Lib.hid (owns_alien O7.out Q7.out.head (by decide))
          have T8 : Hid (Two W w8 p q hv7 (L ++ l.take NF) m dn) := Lib.hid ⟨H7.out.chg c8 (fun x hx hy => hqh (by simp at hy; rw [← hy]; exact hx)), q8, HTD.out, HTL.out, C7.out.trans c8 (fun x hx => Or.inr (by simp at hx; rw [hx]; exact q8.lo))⟩
          have O8 := Lib.hid (OwnB.chg O7.out c8 (fun g hg hx => DQ.out (by simp at hx; rw [← hx]; simpa using hg)))
          clear q8 c8 hqh Q7 C7 H7 O7 k2
          have k1 := BytesOf.str (OwnB.bytes O8.out)
          have k2 := BytesOf.str (P1.out.chg0 T8.out.c)
          go_wp2_with fail
          have BO := Lib.hid (blk_of O8.out)
          clear k1 k2 O8
          go_loopw [22] (fun iv wx => ∃ j : Nat, j ≤ l.length ∧ iv = .int .i64 j ∧ Blk 5 1 wx (.slice oa l.length oc) l.length ∧ Chg (Value.slice oa l.length oc).ownBlock.toList w8 wx) (fun iv _ => l.length - (intOf iv).toNat)
          case atStart => exact ⟨0, Nat.zero_le _, rfl, BO.out, Chg.refl _⟩
          case round =>
            obtain ⟨j, hj, rfl, hb, hcx⟩ := hrel
            obtain ⟨wx, rfl⟩ : ∃ wx, wx = wr := ⟨_, rfl⟩
            by_cases hjl : j < l.length
            · have hjI : (j : Int) < (l.length : Int) := by omega
              obtain ⟨g, cp, cur, he, hat, hcs⟩ := hb.h (by omega)
              cases he
              have i0 : j < cur.size := by omega
              have z0 : World.cell? wx ⟨g, j, none⟩ = some (cur[j]'i0) := hat.cell (Array.getElem?_eq_getElem i0)
              have zf : ∀ i, World.frozen? wx ⟨g, i, none⟩ = false := fun i => hat.free i
              generalize cur[j]'i0 = v0 at *
              have hgl := hat.lt
              have HAT := Lib.hid hat; have HCX := Lib.hid hcx; have HCS := Lib.hid hcs
              clear hat hcx hb hcs i0
              go_wp2_with fail
              go_roundw
              case rel => exact ⟨j + 1, by omega, by go_num, ⟨fun _ => ⟨g, _, _, rfl, HAT.out.set _ _, by simp only [Array.size_setIfInBounds]; exact HCS.out⟩⟩, HCX.out.setCell (Or.inl (by simp [Value.ownBlock])) _⟩
              case measure => simp [intOf]; omega
            · obtain rfl : j = l.length := by omega
              have T9 := Lib.hid (T8.out.chg hcx D7.out DQ.out LO6.out)
              clear hcx hb T8
              generalize L ++ l.take NF = LR at T9
              obtain ⟨XS, hXS⟩ : ∃ S, S = bstr LR := ⟨_, rfl⟩
              have zXS : XS.size = (LR).length := by rw [hXS, bstr_size]
              have t0 : World.cell? wx ⟨q, 0, none⟩ = some (.string XS) := by rw [hXS]; exact T9.out.q.head.cell rfl
              have hql := T9.out.q.head.lt
              have SZ := Lib.hid (fun n => psize_any (T9.out.p.chg0 ((Chg.refl wx).drewN n)))
              clear hXS
              go_wp2_with fail
              go_quiet ((go_at_call 25; exact Calls.quiet_of_same ((SZ.out _).mono (fun e w' h => ⟨h.1, h.2.symm⟩))))
              go_wp2_with fail
              go_roundw
              case rel => exact ⟨k + 1, LR, hv7, m, dn, by omega, by omega, by go_num, T9.out.chg0 ((Chg.refl wx).drewN _)⟩
              case measure => simp [intOf]; omega
    · have hways : (k < zs.length ∧ decide (k < zs.length) = true ∧ decide ((k : Int) < 60) = false) ∨ (¬ k < zs.length ∧ decide (k < zs.length) = false ∧ (0 : Int) ≤ 1) := by
        by_cases h1 : k < zs.length
        · exact Or.inl ⟨h1, by simpa using h1, by simp; omega⟩
        · exact Or.inr ⟨h1, by simpa using h1, by omega⟩
      have HC := Lib.hid TW.out.c
      clear hlt TW
      rcases hways with ⟨h1, hd1, hd2⟩ | ⟨h1, hd1, hd2⟩
      all_goals
        go_wp2_with fail
        go_ret
        exact ⟨rfl, HC.out.below_nil⟩

/-! ### The row's step -/
theorem own : ownKnob Try.prog.godebug = none := by kernel_rfl
theorem laid : laidOutB Try.prog = true := by kernel_rfl

set_option maxRecDepth 100000 in
theorem lifted (os : Os) (started : os.Started) (H : Type) (enc : TypeId × Value → H) :
    ReturnsInHanded {} Try.checked os 4 .any (Rows.frameReadsSpec.pre6 enc Try.prog Try.f4 Rows.frameReadsRow.domain false) (Rows.frameReadsSpec.post enc Try.prog Try.f4 false true false false) := by
  refine lift_law (C := Try.checked) (tb := 4) own started (by kernel_rfl) Try.func4
    (ChangeSpec.witness6 (enc := enc) (C := Try.checked) false ⟨#[], #[.int .i64 0, .slice none 0 0], []⟩ 8 (by kernel_rfl) (by kernel_rfl) (by kernel_rfl) (by kernel_rfl))
    laid (by rw [Try.params4]; intro t ht; simp only [List.mem_cons, List.not_mem_nil, or_false] at ht; rcases ht with rfl | rfl <;> exact ⟨by kernel_rfl, of_decide_eq_true (by kernel_rfl)⟩) (by kernel_rfl) Try.underlying4 rfl
    (fun ds h => by rw [Try.params4] at h; match ds, h with | [d0, d1], _ => rfl) ?_
  intro W base args ds before hval hA hlt hsz
  rw [Try.params4] at hA hval
  try rw [Try.params4] at hsz
  have hlt0 := hlt
  obtain ⟨v0, vs0, d0, ds0, p0, q0, hargs, rfl, rfl, h0, r0⟩ := trodAll_cons hA
  obtain ⟨v1, vs1, d1, ds1, p1, q1, rfl, rfl, rfl, h1, r1⟩ := trodAll_cons r0
  obtain ⟨rfl, rfl, rfl⟩ := trodAll_nil r1
  obtain rfl : args = #[v0, v1] := by cases args; simp_all
  have l0 : ∀ p ∈ p0, p.block < W.heap.size := fun x hx => hlt x (by simp [hx])
  have l1 : ∀ p ∈ p1, p.block < W.heap.size := fun x hx => hlt x (by simp [hx])
  obtain ⟨n0, rfl, rfl, rfl, wn0⟩ := open_int Try.underlying3 (hval 0 3 v0 rfl rfl) h0
  obtain ⟨zs, g1, _, _, s1⟩ := open_slice_a 3 encO (fun z => BytesOf W z.v z.b) Try.underlying37 (by kernel_rfl) (by omega) (hval 1 37 v1 rfl rfl) decO h1 l1 (small_of hsz (j := 1) rfl rfl)
  exact walk n0 v1 zs W s1 g1

theorem over : Rows.frameReadsRow.holds Try.pinned (OpenSpec.ofChange Rows.frameReadsSpec) :=
  OpenClaim.holds_of_wide 4 Try.f4 rfl rfl rfl rfl rfl rfl rfl ⟨rfl, rfl, rfl, rfl, rfl⟩ rfl rfl rfl rfl rfl (by kernel_rfl) Try.func4 (by kernel_rfl)
    (of_decide_eq_true (by kernel_rfl)) (by unfold Func.isWrapper; first | (rw [if_pos (by decide +kernel)]; kernel_rfl) | (rw [if_neg (by decide +kernel)]; exact ⟨rfl, rfl⟩))
    (fun os started H enc _ => lifted os started H enc)

/-- The statement. -/
theorem proved : Rows.FrameReadsSaid :=
  over
#print axioms proved

end Go.Proofs.Ythhgnipiaohplaa.Reads
