/-
  The document's Codes and Spelt.
-/
import Derived.Test.YtmoeioaahampaaaRCode
import Derived.Test.YtmoeioaahampaaaArg
import Derived.Test.YtmoeioaahampaaaOwnR
import Derived.Lib.AppendStr
namespace Go.Proofs.Ytmoeioaahampaaa.Hf
open Go.ChangeShapes Go.WideShapes Go.ChangeAt Go.RowKit
open Go.Proofs.Ytmoeioaahampaaa.B
set_option linter.unusedVariables false
set_option linter.unusedSimpArgs false

def encT (l : List UInt8) : List Value := [txt l]
theorem encT_len (l : List UInt8) : (encT l).length = 1 := rfl
theorem encT_one (l : List UInt8) : ∀ u ∈ encT l, u.oneCell' = true := by intro u hu; simp [encT] at hu; subst hu; rfl
theorem infoT : (Try.prog.info? 9).map (fun i => (i.zero, i.size, i.bytes)) = some (some (.string ⟨#[]⟩), 1, 16) := by kernel_rfl
theorem one_text (w : World) (l : List UInt8) : SliceOf (w.alloc (.cells #[txt l] 9)) (.slice (some ⟨w.heap.size, 0, none⟩) 1 1) 1 encT [l] :=
  SliceOf.one (enc := encT) (x := l) (size := 1) rfl (cs := #[txt l]) rfl w
/-- A new row without elements. -/
theorem OwnR.empty {α : Type} {e : TypeId} {size : Nat} {enc : α → List Value} {w : World} {base : Nat} (hb : base ≤ w.heap.size) : OwnR e size enc (w.alloc (.cells #[] e)) base (.slice (some ⟨w.heap.size, 0, none⟩) 0 0) ([] : List α) := by
  refine ⟨by simp, Or.inr ⟨w.heap.size, 0, #[], rfl, hb, ?_, Nat.le_refl _, by simp [maxLen], by simp, by simp⟩⟩
  exact At.new w _
/-- A symbol's code, when the lengths below n and of n the first t symbols have been dealt out. -/
def dealt (n t s : Nat) : Bool := decide (len s < n ∨ (len s = n ∧ s < t))
def cellT (n t s : Nat) : List UInt8 := if dealt n t s = true then btext (cb s) else []
def codesL : List (List UInt8) := (List.range 257).map fun s => btext (cb s)
theorem codesL_get {s : Nat} (h : s < 257) : codesL[s]? = some (btext (cb s)) := by unfold codesL; rw [List.getElem?_map, List.getElem?_range h]; rfl
theorem cellT_zero {n s : Nat} (h : s < 257) (hn : n ≤ 1) : cellT n 0 s = [] := by
  unfold cellT dealt
  have := (of_sym h).1
  rw [if_neg (by simp; omega)]
theorem cellT_next {n t s : Nat} (hs : s ≠ t) : cellT n (t + 1) s = cellT n t s := by
  unfold cellT dealt
  have : (len s < n ∨ (len s = n ∧ s < t + 1)) ↔ (len s < n ∨ (len s = n ∧ s < t)) := by omega
  rw [decide_eq_decide.2 this]
theorem cellT_hit {n t : Nat} (h : len t = n) : cellT n (t + 1) t = btext (cb t) := by
  unfold cellT dealt
  rw [if_pos (by simp; omega)]
theorem cellT_miss {n t : Nat} (h : len t ≠ n) : cellT n (t + 1) t = cellT n t t := by
  unfold cellT dealt
  have : (len t < n ∨ (len t = n ∧ t < t + 1)) ↔ (len t < n ∨ (len t = n ∧ t < t)) := by omega
  rw [decide_eq_decide.2 this]
theorem cellT_round {n s : Nat} (h : s < 257) : cellT n 257 s = cellT (n + 1) 0 s := by
  unfold cellT dealt
  have : (len s < n ∨ (len s = n ∧ s < 257)) ↔ (len s < n + 1 ∨ (len s = n + 1 ∧ s < 0)) := by omega
  rw [decide_eq_decide.2 this]
theorem cellT_end {s : Nat} (h : s < 257) : cellT 31 0 s = btext (cb s) := by
  unfold cellT dealt
  have := (of_sym h).2.1
  rw [if_pos (by simp; omega)]

def CodesQ (w : World) (e : Ending) (w' : World) : Prop := ∃ g cap, e = .returned (.slice (some ⟨g, 0, none⟩) 257 cap) ∧ Chg [] w w' ∧ g < w'.heap.size ∧ 257 ≤ cap ∧ cap ≤ maxLen ∧ ∀ s, s < 257 → w'.cell? ⟨g, s, none⟩ = some (txt (btext (cb s)))
set_option maxRecDepth 100000 in
set_option maxHeartbeats 8000000 in
theorem codes_any (w : World) :
    Calls Try.prog 90 #[] w (CodesQ w) := by
  go_enter Try.func90, Try.ntmps90
  go_wp2_with fail
  have hown0 : OwnR 9 1 encT (w.alloc (.cells #[] 9)) w.heap.size (.slice (some ⟨w.heap.size, 0, none⟩) 0 0) [] := OwnR.empty (Nat.le_refl _)
  have hch0 : Chg [] w (w.alloc (.cells #[] 9)) := (Chg.refl w).alloc _
  have HOWN0 := Lib.hid hown0; have HCH0 := Lib.hid hch0
  clear hown0 hch0
  go_loopw [1, 2] (fun ov kv wr => ∃ k : Nat, k ≤ 257 ∧ kv = .int .i64 k ∧ OwnR 9 1 encT wr w.heap.size ov (List.replicate k []) ∧ Chg [] w wr) (fun _ kv _ => 257 - (intOf kv).toNat)
  case atStart => exact ⟨0, by omega, rfl, HOWN0.out, HCH0.out⟩
  case round =>
    clear HOWN0 HCH0
    obtain ⟨k, hk, rfl, hown, hch⟩ := hrel
    by_cases hlt : k < 257
    · have hlen : (List.replicate k ([] : List UInt8)).length = k := by simp
      have HOWN := Lib.hid hown; have HCH := Lib.hid hch; have HL := Lib.hid hlen
      clear hown hch hlen
      go_wp2_with (at_builtin; refine app_row encT_len encT_one 137 Try.underlying137 infoT rfl (by decide) rfl _ _ rfl w.heap.size u1 _ rfl (OwnR.alloc HOWN.out _) _ [[]] rfl (one_text wr []) (by rw [HL.out]; simp [maxLen]; omega) (by rw [HL.out]; simp; omega) (by have := HCH.out.size; simp; omega) ?_)
      intro v' w' hown' hch' hfr'
      go_wp2_with fail
      go_roundw
      case rel => exact ⟨k + 1, by omega, by go_num, by rw [List.replicate_succ']; exact hown', (HCH.out.alloc _).trans hch' (fun x hx => Or.inr (HOWN.out.lo x hx))⟩
      case measure => simp [intOf] <;> omega
    · obtain rfl : k = 257 := by omega
      rcases hown.2 with ⟨_, h0⟩ | ⟨g, cap, cur, rfl, hbg, hg, hnc, hcm, hcs, htake⟩
      · simp at h0
      have hg : At wr g (.cells cur 9 (0, 0)) := hg
      simp only [List.length_replicate] at hnc htake ⊢
      have hcur : ∀ s, s < 257 → cur[s]? = some (txt (cellT 1 0 s)) := fun s hs => by
        have h1 : (cur.toList.take (257 * 1))[s]? = some (txt []) := by
          rw [htake]
          have := flat_get (enc := encT) (size := 1) encT_len (l := List.replicate 257 ([] : List UInt8)) (i := s) (x := []) (by rw [List.getElem?_replicate, if_pos hs]) (j := 0) (by omega)
          rw [Nat.mul_one] at this
          exact this
        rw [List.getElem?_take_of_lt (by omega)] at h1
        rw [cellT_zero hs (Nat.le_refl _)]
        simpa using h1
      have hcsz : cur.size = cap := by simpa using hcs
      have HG := Lib.hid hg; have HCUR := Lib.hid hcur; have HCSZ := Lib.hid hcsz; have HCH := Lib.hid hch
      have hgw := hg.lt
      clear hown hg hcs htake hcur hcsz hch
      go_wp2_with fail
      refine (lengths_any _).mono ?_; rintro e w1 ⟨rfl, h1, a1⟩
      have hg1 := HG.out.chg h1 (by simp)
      have hch1 := HCH.out.trans' h1
      have hgL : g ≠ wr.heap.size := by omega
      generalize hL : wr.heap.size = L at *
      clear hL
      have hgl1 := hg1.lt
      have HA := Lib.hid a1; have HG1 := Lib.hid hg1; have HC1 := Lib.hid hch1; have HGL := Lib.hid hgL
      clear a1 h1 hg1 hch1 HG HCH hgL hgw
      go_wp2_with fail
      go_loopw [4, 5] (fun cv nv wt => ∃ (n C : Nat) (cu : Array Value), 1 ≤ n ∧ n ≤ 31 ∧ nv = .int .i64 n ∧ C = fse (n - 1) ∧ cv = .int .u32 C ∧ Chg [] w wt ∧ At wt L (.cells lenC 3 (0, 0)) ∧ At wt g (.cells cu 9 (0, 0)) ∧ cu.size = cap ∧ (∀ s, s < 257 → cu[s]? = some (txt (cellT n 0 s)))) (fun _ nv _ => 31 - (intOf nv).toNat)
      case atStart => exact ⟨1, 0, cur, by omega, by omega, rfl, by rw [fse_zero], rfl, HC1.out, HA.out, HG1.out, HCSZ.out, HCUR.out⟩
      case round =>
        clear HA HG1 HC1 HCUR HCSZ
        obtain ⟨n, C, cu, hn1, hn2, rfl, hC, rfl, hch, ha, hg, hcs, hcu⟩ := hrel
        by_cases hlt : n ≤ 30
        · have hd30 : decide ((n : Int) ≤ 30) = true := by simp; omega
          have hf := fse_fst (n := n - 1) (by omega)
          rw [show n - 1 + 1 = n by omega, ← hC] at hf
          have hfb := (pre_fst (n := n) (by omega)).2.2.2
          obtain ⟨F, hF⟩ : ∃ F, F = fst n := ⟨_, rfl⟩
          rw [← hF] at hf hfb
          have hC3 : (C : Int) * 2 = (F : Int) := by omega
          have HC1 := Lib.hid hC; have HF := Lib.hid hF; have HCH := Lib.hid hch; have HA := Lib.hid ha; have HG := Lib.hid hg; have HCS := Lib.hid hcs; have HCU := Lib.hid hcu
          clear hC hf hF hch ha hg hcs hcu
          go_wp2_with fail
          go_loopw [4, 6] (fun cv tv wt => ∃ (t X : Nat) (cu : Array Value), t ≤ 257 ∧ tv = .int .i64 t ∧ X = F + rk n t ∧ cv = .int .u32 X ∧ Chg [] w wt ∧ At wt L (.cells lenC 3 (0, 0)) ∧ At wt g (.cells cu 9 (0, 0)) ∧ cu.size = cap ∧ (∀ s, s < 257 → cu[s]? = some (txt (cellT n t s)))) (fun _ tv _ => 257 - (intOf tv).toNat)
          case atStart => exact ⟨0, F, cu, by omega, rfl, by rw [rk_zero]; rfl, rfl, HCH.out, HA.out, HG.out, HCS.out, HCU.out⟩
          case round =>
            clear HCH HA HG HCS HCU
            obtain ⟨t, X, cu, ht, rfl, hX, rfl, hch, ha, hg, hcs, hcu⟩ := hrel
            by_cases hlt2 : t < 257
            · have q0 := ha.cell (lenC_get hlt2)
              have hLw := ha.lt
              have hrk := rk_succ n t
              have hXb1 := rk_mono n (show t + 1 ≤ 257 by omega)
              rw [rk_all (by omega)] at hXb1
              by_cases hl : len t = n
              · rw [hl] at q0
                rw [if_pos hl] at hrk
                have hXb2 : X < 1073741824 := by omega
                have hXc : X = code t := by rw [hX, code_rk hlt2, hl, HF.out]
                have hXl : X < 4294967296 := by omega
                have HX := Lib.hid hX; have HXC := Lib.hid hXc; have HRK := Lib.hid hrk; have HL := Lib.hid hl; have HCH := Lib.hid hch; have HA := Lib.hid ha; have HG := Lib.hid hg; have HCS := Lib.hid hcs; have HCU := Lib.hid hcu
                clear hX hXc hrk hl hch ha hg hcs hcu
                go_wp2_with fail
                refine (bits_any X n hXl (by omega) _).mono ?_; rintro e w2 ⟨he, h2⟩
                have hT : (btext (Hf.bits n X)) = btext (cb t) := by rw [HXC.out, ← HL.out]; rfl
                rw [hT] at he
                subst he
                have hg2 := HG.out.chg h2 (by simp)
                obtain ⟨y, hy⟩ : ∃ y, cu[t]? = some y := ⟨_, HCU.out t hlt2⟩
                have q1 := hg2.cell hy
                have qf := hg2.free t
                have hyt : y = txt (cellT n t t) := by have := HCU.out t hlt2; rw [hy] at this; exact Option.some.inj this
                unfold txt at hyt
                subst hyt
                have HG2 := Lib.hid hg2; have HA2 := Lib.hid (HA.out.chg h2 (by simp)); have HC2 := Lib.hid (HCH.out.trans' h2)
                clear hg2 h2 hy hT q0
                go_wp2_with fail
                go_roundw
                case rel =>
                  refine ⟨t + 1, X + 1, cu.setIfInBounds t (txt (btext (cb t))), by omega, by go_num, by rw [HRK.out, HX.out]; omega, by go_num, HC2.out.setCell (Or.inr hbg) _, HA2.out.set_ne (p := ⟨g, t, none⟩) (Ne.symm HGL.out) _, HG2.out.set t _, by simpa using HCS.out, fun s hs => ?_⟩
                  have := HCS.out
                  by_cases hst : s = t
                  · subst hst
                    rw [Array.getElem?_setIfInBounds_self_of_lt (by omega), cellT_hit HL.out]
                  · rw [Array.getElem?_setIfInBounds_ne (Ne.symm hst), HCU.out s hs, cellT_next hst]
                case measure => simp [intOf] <;> omega
              · have hne : ((len t : Int) == n) = false := by simp; omega
                rw [if_neg hl] at hrk
                have HX := Lib.hid hX; have HRK := Lib.hid hrk; have HCH := Lib.hid hch; have HA := Lib.hid ha; have HG := Lib.hid hg; have HCS := Lib.hid hcs; have HCU := Lib.hid hcu; have HL := Lib.hid hl
                clear hX hrk hch ha hg hcs hcu hl
                go_wp2_with fail
                go_roundw
                case rel =>
                  refine ⟨t + 1, X, cu, by omega, by go_num, by rw [HRK.out, HX.out]; omega, rfl, HCH.out, HA.out, HG.out, HCS.out, fun s hs => ?_⟩
                  rw [HCU.out s hs]
                  by_cases hst : s = t
                  · subst hst; rw [cellT_miss HL.out]
                  · rw [cellT_next hst]
                case measure => simp [intOf] <;> omega
            · obtain rfl : t = 257 := by omega
              rw [rk_all (by omega), HF.out] at hX
              have hXf : X = fse n := hX
              have HX := Lib.hid hXf; have HCH := Lib.hid hch; have HA := Lib.hid ha; have HG := Lib.hid hg; have HCS := Lib.hid hcs; have HCU := Lib.hid hcu
              clear hX hXf hch ha hg hcs hcu
              go_wp2_with fail
              go_roundw
              case rel => exact ⟨n + 1, X, cu, by omega, by omega, by go_num, by rw [show n + 1 - 1 = n by omega]; exact HX.out, rfl, HCH.out, HA.out, HG.out, HCS.out, fun s hs => by rw [HCU.out s hs, cellT_round hs]⟩
              case measure => simp [intOf] <;> omega
        · obtain rfl : n = 31 := by omega
          have HCH := Lib.hid hch; have HG := Lib.hid hg; have HCS := Lib.hid hcs; have HCU := Lib.hid hcu
          clear hch ha hg hcs hcu hC
          go_wp2_with fail
          go_ret
          exact ⟨g, cap, rfl, HCH.out, HG.out.lt, hnc, hcm, fun s hs => by
            have := HG.out.cell (HCU.out s hs)
            rw [cellT_end hs] at this
            exact this⟩
/-- 'append' of a text's octets. -/
theorem app_str {w : World} {ops : Array Oper} {rest : List Oper} {o : Oper} {a : Act} {Q : Exit → Act → World → Prop} (hgd : o.guard = none) (s x : Operand)
    (ho : o.op = .call { callee := .builtin .append, args := #[s, x], argTypes := #[22, 9] })
    (base : Nat) (v : Value) (l : List UInt8) (hs : a.eval s = v) (hown : OwnB w base v l) (t : ByteArray) (hx : a.eval x = .string t)
    (hb : l.length + t.size ≤ 140737488355328) (hbase : base ≤ w.heap.size)
    (h : ∀ v' w', OwnB w' base v' (l ++ t.data.toList) → Chg v.ownBlock.toList w w' → wpList Try.prog ops Q rest (a.put o.dst v') w') : wpList Try.prog ops Q (o :: rest) a w := by
  obtain ⟨i, hi, hz, hsz, hby⟩ := info_parts infoB
  refine Lib.wpList_append_own_string w hgd s x 22 9 ho base 5 i Try.underlying22 Try.underlying9 hi hz hsz hby v l.length (rowB l) hs hown t hx (by simp only [maxLen]; omega) hb hbase ?_
  intro v' w' h1 h2 _
  refine h v' w' ?_ (Chg.grown h2)
  unfold OwnB
  rw [List.length_append, rowB_append, show t.data.toList.length = t.size by rw [Array.length_toList]; rfl]
  exact h1
theorem spell_take (s : ByteArray) (k : Nat) (h : k < s.size) : spell ((bx s).take (k + 1)) = spell ((bx s).take k) ++ cb s[k].toNat := T_succ s k h
set_option maxRecDepth 100000 in
set_option maxHeartbeats 8000000 in
theorem spelt_any (s : ByteArray) (hs : s.size ≤ 1000000) (w : World) :
    Calls Try.prog 88 #[.string s] w fun e w' => e = .returned (txt (btext (spell (bx s)))) ∧ Chg [] w w' := by
  go_enter Try.func88, Try.ntmps88
  go_wp2_with fail
  refine (codes_any _).mono ?_; rintro e w1 ⟨g, cap, rfl, h1, hg, hc1, hc2, hcell⟩
  have HC1 := Lib.hid h1; have HCELL := Lib.hid hcell
  unfold maxLen at hc2
  clear h1 hcell
  go_wp2_with fail
  have hown0 : OwnB (w1.alloc (.cells #[] 5)) w1.heap.size (.slice (some ⟨w1.heap.size, 0, none⟩) 0 0) [] := OwnB.empty (Nat.le_refl _)
  have hch0 : Chg [] w1 (w1.alloc (.cells #[] 5)) := (Chg.refl w1).alloc _
  have HOWN0 := Lib.hid hown0; have HCH0 := Lib.hid hch0
  clear hown0 hch0
  go_loopw [4, 5] (fun tv iv wr => ∃ k : Nat, k ≤ s.size ∧ iv = .int .i64 k ∧ OwnB wr w1.heap.size tv (btext (spell ((bx s).take k))) ∧ Chg [] w1 wr) (fun _ iv _ => s.size - (intOf iv).toNat)
  case atStart => exact ⟨0, by omega, rfl, by simpa [spell, btext] using HOWN0.out, HCH0.out⟩
  case round =>
    clear HOWN0 HCH0
    obtain ⟨k, hk, rfl, hown, hch⟩ := hrel
    by_cases hlt : k < s.size
    · have hc7 : s[k].toNat < 257 := by have := s[k].toNat_lt; omega
      have q0 : wr.cell? ⟨g, s[k].toNat, none⟩ = some (.string ⟨(btext (cb s[k].toNat)).toArray⟩) := by
        rw [hch.cell hg (by simp)]; exact HCELL.out _ hc7
      have hc6 : (s[k].toNat : Int) < 256 := by have := s[k].toNat_lt; omega
      have hsp := spell_take s k hlt
      have hl1 : (btext (spell ((bx s).take k))).length ≤ 30000000 := by
        have h1 : (spell ((bx s).take k)).length ≤ 30 * ((bx s).take k).length := sl_le _
        have h2 : ((bx s).take k).length ≤ k := by simp; omega
        simp [btext]; omega
      have hl2 : (btext (cb s[k].toNat)).length ≤ 30 := by
        have := (of_sym hc7).2.1
        simp [btext, cb_length]; exact this
      obtain ⟨C, hC⟩ : ∃ C : ByteArray, C = ⟨(btext (cb s[k].toNat)).toArray⟩ := ⟨_, rfl⟩
      have hCl : C.data.toList = btext (cb s[k].toNat) := by rw [hC]
      have hCs : C.size ≤ 30 := by
        have : C.size = C.data.toList.length := by rw [Array.length_toList]; rfl
        rw [this, hCl]; exact hl2
      rw [← hC] at q0
      have HOWN := Lib.hid hown; have HCH := Lib.hid hch; have HSP := Lib.hid hsp; have HCL := Lib.hid hCl
      clear hown hch hsp hC hCl
      go_wp2_with (at_builtin; refine app_str rfl _ _ rfl w1.heap.size _ _ rfl HOWN.out C rfl (by omega) HCH.out.size ?_)
      intro v' w' hown' hch'
      go_wp2_with fail
      go_roundw
      case rel => exact ⟨k + 1, by omega, by go_num, by rw [HSP.out, btext_append, ← HCL.out]; exact hown', HCH.out.trans hch' (fun x hx => Or.inr (owns_lo HOWN.out x hx))⟩
      case measure => simp [intOf] <;> omega
    · obtain rfl : k = s.size := by omega
      rw [List.take_of_length_le (by simp [bx])] at hown
      have hcv := hown.bytes.str
      have HCH := Lib.hid hch
      clear hown hch
      go_wp2_with fail
      go_ret
      exact ⟨rfl, HC1.out.trans' HCH.out⟩
end Go.Proofs.Ytmoeioaahampaaa.Hf
