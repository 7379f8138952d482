/-
  PoolFull: as many are taken as there are places, the first of those with the fewest each time: any numbers of slots.
-/
import Derived.Test.YthinceoklkjcpaaKeep
import Derived.Test.YthinceoklkjcpaaFullS
import Derived.Test.YthinceoklkjcpaaLift
namespace Go.Proofs.Ythinceoklkjcpaa.Full
open Go.ChangeShapes Go.WideShapes Go.ChangeAt Go.RowKit
open Go.Proofs.Ythinceoklkjcpaa.B Go.Proofs.Ythinceoklkjcpaa.Pool
set_option linter.unusedVariables false
set_option linter.unusedSimpArgs false

def encI (z : Int) : List Value := [.int .i64 z]
def WfI (z : Int) : Prop := (Lit.int .i64 z).wf = true
def rowOf (N : Nat) (f : Nat → Int) : List Value := (List.range N).map fun (i : Nat) => Value.int .i64 (f i)
theorem rowOf_get {N : Nat} {f : Nat → Int} {i : Nat} (h : i < N) : (rowOf N f)[i]? = some (.int .i64 (f i)) := by simp [rowOf, h]
theorem info3 : (Try.prog.info? 3).map (fun i => (i.zero, i.size, i.bytes)) = some (some (.int .i64 0), 1, 8) := by kernel_rfl
theorem alien3 : Alien 3 := ⟨by decide, by decide, by decide⟩

theorem sm_zero : ∀ n, sm (fun _ => 0) n = 0
  | 0 => rfl
  | n + 1 => by simp [sm, sm_zero n]
theorem inv_start (ns : Nat → Int) (k : Nat) (h : ∀ i, i < k → 0 ≤ ns i) : Inv k ns (fun _ => 0) 0 (-1) := by
  intro i hi
  have := h i hi
  rw [if_neg (by omega)]
  simp; omega
theorem rowOf_set {N : Nat} {ns us : Nat → Int} {j : Nat} (h : j < N) : (rowOf N (fun i => ns i - us i)).set j (.int .i64 (ns j - us j - 1)) = rowOf N (fun i => ns i - up us j i) := by
  apply List.ext_getElem?
  intro i
  by_cases hi : i < N
  · by_cases hj : j = i
    · subst hj; rw [List.getElem?_set_self (by simp [rowOf]; exact h), rowOf_get hi]; simp [up]; omega
    · rw [List.getElem?_set_ne hj, rowOf_get hi, rowOf_get hi]; simp [up, Ne.symm hj]
  · rw [List.getElem?_eq_none (by simp [rowOf]; omega), List.getElem?_eq_none (by simp [rowOf]; omega)]
theorem dec {H : Type} {enc : TypeId × Value → H} {W : World} (n : Nat) (cs : List Value) (x : DataW H × List MemPlace) (hl : cs.length = 1)
    (h : DataW.trod enc Try.prog W 0 (fun _ => true) true n 3 cs = some x) : ∃ z, cs = encI z ∧ WfI z := by
  obtain ⟨a, ha, _, hwa⟩ := DataW.trod_int Try.underlying3 h
  exact ⟨a, ha, hwa⟩

set_option maxRecDepth 100000 in
set_option maxHeartbeats 4000000 in
theorem walk (v : Value) (zs : List Int) (W : World) (hm : zs.length ≤ maxLen) (hs : SliceOf W v 1 encI zs) :
    Calls Try.prog 3 #[v] W fun e w' => e = .returned (.bool true) ∧ Below W.heap.size W w' := by
  unfold maxLen at hm
  obtain ⟨a, cap, rfl, hc, hcm, hcell⟩ := hs
  obtain ⟨i0, hi, hz0, hz1, hz2⟩ := info_parts info3
  obtain ⟨ns, hns⟩ : ∃ ns : Nat → Int, ns = fun i => bits .and .i64 (zs.getD i 0) 15 := ⟨_, rfl⟩
  have hnb : ∀ i, 0 ≤ ns i ∧ ns i ≤ 15 := fun i => by rw [hns]; exact i64_and_le _ 15 (by decide)
  have HNS := Lib.hid hns; have HNB := Lib.hid hnb
  clear hns hnb
  go_enter Try.func3, Try.ntmps3
  go_wp2_with fail
  refine (shown_any _).mono ?_; rintro e w1 ⟨rfl, hb1⟩
  go_wp2_with fail
  refine (H_new 32 w1 hb1).mono ?_; rintro e w2 ⟨rfl, h2⟩
  have h2 : Has W w2 w1.heap.size 32 [] := h2
  generalize w1.heap.size = p at *
  go_wp2_with fail
  go_loopw [5, 6, 7, 8] (fun t lv i _ wr => ∃ k : Nat, k ≤ zs.length ∧ k ≤ 32 ∧ i = .int .i64 k ∧ t = .int .i64 (sm ns k) ∧ Has W wr p 32 (pc k ns (fun _ => 0)) ∧ wr.ownsRow W.heap.size 3 1 lv k (rowOf k ns)) (fun _ _ i _ _ => zs.length - (intOf i).toNat)
  case atStart => exact ⟨0, by omega, by omega, rfl, rfl, h2, World.ownsRow_nil _ _ _ _⟩
  case round =>
    obtain ⟨k, hk, hk2, rfl, rfl, hh, hown⟩ := hrel
    have hsm := sm_bd ns 15 k (fun i _ => HNB.out i)
    obtain ⟨sm0, sm1⟩ := hsm
    by_cases hlt : k < zs.length ∧ k < 32
    · obtain ⟨hlt, h32⟩ := hlt
      obtain ⟨b, off, rfl, hb, hcell⟩ := hcell (by omega)
      obtain ⟨z, hz⟩ : ∃ z, zs[k]? = some z := ⟨_, List.getElem?_eq_getElem hlt⟩
      have c0 : wr.cell? ⟨b, off + k, none⟩ = some (.int .i64 z) := by have := hcell k z hz 0 (by omega); rw [hh.below.cell hb]; simpa [encI] using this
      have hnk : bits .and .i64 z 15 = ns k := by rw [HNS.out]; simp [List.getD, hz]
      clear hz hcell
      have n0 := (HNB.out k).1; have n1 := (HNB.out k).2
      go_wp2_with fail
      clear hnk
      refine (K_add k (ns k) wr hh (pc_new k ns _) (by rw [pc_len]; omega) (by decide)).mono ?_; rintro e w3 ⟨rfl, h3, kk⟩
      have h3 : Has W w3 p 32 (pc (k + 1) ns (fun _ => 0)) := by rw [pc_succ]; rw [show max (ns k) 0 = ns k from by omega] at h3; exact h3
      have hown3 := kk.row alien3 hown
      have hlo := h3.lo
      clear kk hown hh c0
      obtain ⟨a', cap', hv', _, _, _⟩ := owns_val hown3
      subst hv'
      have HH3 := Lib.hid h3; have HO3 := Lib.hid hown3
      clear h3 hown3
      go_wp2_with (at_builtin; refine wpList_append_fresh rfl _ _ 22 rfl W.heap.size 3 i0 (.int .i64 0) 1 8 Try.underlying22 hi hz0 hz1 hz2 rfl (by decide) _ _ _ rfl (HO3.out.alloc _) ⟨w3.heap.size, 0, none⟩ 1 1 [.int .i64 (ns k)] rfl rfl ?c1 ?c2 ?c3 ?c4 ?c5 ?_)
      case c1 => intro j u hu; match j, hu with | 0, hu => (simp at hu; subst hu; simp [Addr.add, go_sem])
      case c2 => simp [Value.oneCell']
      case c3 => simp only [maxLen]; omega
      case c4 => omega
      case c5 => simp; omega
      intro v' w4 hown4 hch hfr
      have h4 : Has W w4 p 32 (pc (k + 1) ns (fun _ => 0)) := by
        refine (HH3.out.step ((Chg.refl w3).alloc (l := []) _)).keep hch ?_ ?_
        · intro x hx; exact ((HO3.out.alloc (.cells #[.int .i64 (ns k)] 3)).lt x (by simpa using hx)).1
        · intro x hx
          rcases (HO3.out.alloc (.cells #[.int .i64 (ns k)] 3)).2 with ⟨hv, _⟩ | ⟨g, cap, cur, hv, _, hg, _⟩
          · rw [hv] at hx; simp [Value.ownBlock] at hx
          · rw [hv] at hx; simp [Value.ownBlock] at hx; subst hx
            exact ⟨cur, _, _, alien3, hg⟩
      have hown5 : w4.ownsRow W.heap.size 3 1 v' (k + 1) (rowOf (k + 1) ns) := by
        have : rowOf (k + 1) ns = rowOf k ns ++ [.int .i64 (ns k)] := by simp [rowOf, List.range_succ]
        rw [this]; exact hown4
      have hsk : sm ns (k + 1) = sm ns k + ns k := rfl
      have HSK := Lib.hid hsk; have HH4 := Lib.hid h4; have HO5 := Lib.hid hown5
      clear hown4 hch hfr h4 hown5 hsk
      go_wp2_with fail
      go_roundw
      case rel => exact ⟨k + 1, by omega, by omega, by go_num, by rw [HSK.out], HH4.out, HO5.out⟩
      case measure => simp [intOf]; omega
    · obtain ⟨a', cap', hv', _, _, hrow⟩ := owns_val hown
      subst hv'
      clear hrow
      have HR := Lib.hid (show wr.ownsRow W.heap.size 3 1 (Value.slice a' k cap') k (rowOf k (fun i => ns i - (fun _ => 0) i)) from by simpa using hown)
      clear hown hcell
      by_cases hlt2 : k < zs.length
      · have h32 : ¬ k < 32 := by omega
        clear hlt
        go_wp2_with fail
        obtain ⟨wo, rfl⟩ : ∃ wo : World, wo = wr := ⟨_, rfl⟩
        go_loopw [9, 10, 11, 12, 13] (fun rd la i _ _ wr => ∃ (t : Int) (us : Nat → Int) (round last : Int), 0 ≤ t ∧ t ≤ sm ns k ∧ i = .int .i64 t ∧ rd = .int .i64 round ∧ la = .int .i64 last ∧ 0 ≤ round ∧ round ≤ t ∧ -1 ≤ last ∧ sm us k = t ∧ Inv k ns us round last ∧
            Has W wr p 32 (pc k ns us) ∧ wr.ownsRow W.heap.size 3 1 (Value.slice a' k cap') k (rowOf k (fun i => ns i - us i))) (fun _ _ i _ _ _ => (sm ns k - intOf i).toNat)
        case atStart => exact ⟨0, fun _ => 0, 0, -1, by omega, sm0, rfl, rfl, rfl, by omega, by omega, by omega, sm_zero k, inv_start ns k (fun i _ => (HNB.out i).1), hh, HR.out⟩
        case round =>
          obtain ⟨t, us, round, last, t0, t1, rfl, rfl, rfl, r0, r1, l0, hsu, hinv, hh2, hown2⟩ := hrel
          have hle := inv_le hinv
          by_cases htl : t < sm ns k
          · obtain ⟨j, hj⟩ := best_ex (ns := ns) (us := us) (N := k) (by omega)
            obtain ⟨hjk, huj, hcase⟩ := inv_step hinv (fun i _ => (HNB.out i).1) r0 hj
            have hnn := inv_nn hinv (fun i _ => (HNB.out i).1) r0
            have hokc : ∀ c ∈ pc k ns us, c.Ok := by
              intro c hc
              obtain ⟨i, hi⟩ := List.getElem?_of_mem hc
              obtain ⟨hi', rfl⟩ := pc_get' hi
              exact ⟨(HNB.out i).1, by have := (HNB.out i).2; simp; omega, hnn i hi', by have := (HNB.out i).2; have := hle i hi'; simp; omega⟩
            have HCASE := Lib.hid hcase; have HSU := Lib.hid hsu; have HJ := Lib.hid hj; have HOK := Lib.hid hokc; have HOWN := Lib.hid hown2; have HHH := Lib.hid hh2
            have hu0 := hnn j hjk
            have hn15 := (HNB.out j).2
            clear hcase hsu hj hokc hown2 hle hnn hinv hh2
            go_wp2_with fail
            refine (K_take _ HHH.out HOK.out (by rw [pc_len]; exact HJ.out) (pc_get hjk)).mono ?_; rintro e w6 ⟨rfl, h6, kk⟩
            have h6' : Has W w6 p 32 (pc k ns (up us j)) := by rw [← pc_set hjk]; exact h6
            have hown6 := kk.row alien3 HOWN.out
            obtain ⟨a2, cap2, hv2, _, _, hrow⟩ := owns_val hown6
            simp only [Value.slice.injEq, true_and] at hv2
            obtain ⟨rfl, rfl⟩ := hv2
            obtain ⟨g, rfl, hgo, hgc, hgf⟩ := hrow (by omega)
            have c6 : w6.cell? ⟨g, j, none⟩ = some (.int .i64 (ns j - us j)) := by rw [hgc j (by omega)]; exact rowOf_get hjk
            have f6 := hgf j
            have e6 : (ns j - us j == 0) = false := by simp; omega
            have hst := hown6.stored j (.int .i64 (ns j - us j - 1))
            obtain ⟨hown7, hgr⟩ := hst
            have hch : Chg [g] w6 (w6.setCell ⟨g, j, none⟩ (.int .i64 (ns j - us j - 1))) := (Chg.refl _).setCell (Or.inl (by simp)) _
            have h7 : Has W (w6.setCell ⟨g, j, none⟩ (.int .i64 (ns j - us j - 1))) p 32 (pc k ns (up us j)) := by
              refine h6'.keep hch ?_ ?_
              · intro x hx; simp at hx; subst hx; exact (hown6.lt _ hgo).1
              · intro x hx
                rcases hown6.2 with ⟨hv, _⟩ | ⟨g', cap', cur, hv, _, hg', _⟩
                · simp at hv
                · simp only [Value.slice.injEq, Option.some.injEq, Addr.mk.injEq, and_true, true_and] at hv
                  obtain ⟨rfl, rfl⟩ := hv
                  simp at hx; subst hx
                  exact ⟨cur, _, _, alien3, hg'⟩
            have hown8 : (w6.setCell ⟨g, j, none⟩ (.int .i64 (ns j - us j - 1))).ownsRow W.heap.size 3 1 (Value.slice (some ⟨g, 0, none⟩) k cap') k (rowOf k (fun i => ns i - up us j i)) := by
              rw [← rowOf_set hjk]; exact hown7
            have hus : sm (up us j) k = t + 1 := by rw [sm_up us j k hjk, HSU.out]
            have HH7 := Lib.hid h7; have HO8 := Lib.hid hown8; have HUS := Lib.hid hus
            clear h6 h6' kk hown6 hgo hgc hgf hown7 hgr hch h7 hown8 hus HOWN HHH
            rcases HCASE.out with ⟨q1, q2, q3⟩ | ⟨q1, q2, q3⟩
            · have e7 : (us j + 1 != round) = false := by simp; omega
              have HQ := Lib.hid q3
              clear q1 q3
              go_wp2_with (go_at_call 13; refine (H_used j _ HH7.out (pc_first hjk)).mono ?_; rintro e w8 ⟨he, rfl⟩; simp only [up, if_true] at he; subst he)
              go_roundw
              case rel => exact ⟨t + 1, up us j, round, j, by omega, by omega, rfl, rfl, rfl, by omega, by omega, by omega, HUS.out, HQ.out, HH7.out, HO8.out⟩
              case measure => simp [intOf]; omega
            · have e7 : (us j + 1 != round) = true := by simpa using q1
              have e8 : (us j + 1 != round + 1) = false := by simp; omega
              have HQ := Lib.hid q3
              clear q1 q2 q3
              go_wp2_with (go_at_call 13; refine (H_used j _ HH7.out (pc_first hjk)).mono ?_; rintro e w8 ⟨he, rfl⟩; simp only [up, if_true] at he; subst he)
              go_roundw
              case rel => exact ⟨t + 1, up us j, round + 1, j, by omega, by omega, rfl, rfl, rfl, by omega, by omega, by omega, HUS.out, HQ.out, HH7.out, HO8.out⟩
              case measure => simp [intOf]; omega
          · have hb := best_no (fun i hi => hle i hi) (show sm us k = sm ns k by omega)
            have hnn := inv_nn hinv (fun i _ => (HNB.out i).1) r0
            have hokc : ∀ c ∈ pc k ns us, c.Ok := by
              intro c hc
              obtain ⟨i, hi⟩ := List.getElem?_of_mem hc
              obtain ⟨hi', rfl⟩ := pc_get' hi
              exact ⟨(HNB.out i).1, by have := (HNB.out i).2; simp; omega, hnn i hi', by have := (HNB.out i).2; have := hle i hi'; simp; omega⟩
            have HB := Lib.hid hb; have HOK := Lib.hid hokc; have HHH := Lib.hid hh2
            clear hb hokc hsu hle hnn hinv hh2 hown2
            go_wp2_with fail
            refine (H_take_none _ HHH.out HOK.out (by rw [pc_len]; exact HB.out)).mono ?_; rintro e w6 ⟨rfl, h6⟩
            go_wp2_with fail
            go_ret
            exact ⟨rfl, h6.below⟩
      · clear hlt
        go_wp2_with fail
        obtain ⟨wo, rfl⟩ : ∃ wo : World, wo = wr := ⟨_, rfl⟩
        go_loopw [9, 10, 11, 12, 13] (fun rd la i _ _ wr => ∃ (t : Int) (us : Nat → Int) (round last : Int), 0 ≤ t ∧ t ≤ sm ns k ∧ i = .int .i64 t ∧ rd = .int .i64 round ∧ la = .int .i64 last ∧ 0 ≤ round ∧ round ≤ t ∧ -1 ≤ last ∧ sm us k = t ∧ Inv k ns us round last ∧
            Has W wr p 32 (pc k ns us) ∧ wr.ownsRow W.heap.size 3 1 (Value.slice a' k cap') k (rowOf k (fun i => ns i - us i))) (fun _ _ i _ _ _ => (sm ns k - intOf i).toNat)
        case atStart => exact ⟨0, fun _ => 0, 0, -1, by omega, sm0, rfl, rfl, rfl, by omega, by omega, by omega, sm_zero k, inv_start ns k (fun i _ => (HNB.out i).1), hh, HR.out⟩
        case round =>
          obtain ⟨t, us, round, last, t0, t1, rfl, rfl, rfl, r0, r1, l0, hsu, hinv, hh2, hown2⟩ := hrel
          have hle := inv_le hinv
          by_cases htl : t < sm ns k
          · obtain ⟨j, hj⟩ := best_ex (ns := ns) (us := us) (N := k) (by omega)
            obtain ⟨hjk, huj, hcase⟩ := inv_step hinv (fun i _ => (HNB.out i).1) r0 hj
            have hnn := inv_nn hinv (fun i _ => (HNB.out i).1) r0
            have hokc : ∀ c ∈ pc k ns us, c.Ok := by
              intro c hc
              obtain ⟨i, hi⟩ := List.getElem?_of_mem hc
              obtain ⟨hi', rfl⟩ := pc_get' hi
              exact ⟨(HNB.out i).1, by have := (HNB.out i).2; simp; omega, hnn i hi', by have := (HNB.out i).2; have := hle i hi'; simp; omega⟩
            have HCASE := Lib.hid hcase; have HSU := Lib.hid hsu; have HJ := Lib.hid hj; have HOK := Lib.hid hokc; have HOWN := Lib.hid hown2; have HHH := Lib.hid hh2
            have hu0 := hnn j hjk
            have hn15 := (HNB.out j).2
            clear hcase hsu hj hokc hown2 hle hnn hinv hh2
            go_wp2_with fail
            refine (K_take _ HHH.out HOK.out (by rw [pc_len]; exact HJ.out) (pc_get hjk)).mono ?_; rintro e w6 ⟨rfl, h6, kk⟩
            have h6' : Has W w6 p 32 (pc k ns (up us j)) := by rw [← pc_set hjk]; exact h6
            have hown6 := kk.row alien3 HOWN.out
            obtain ⟨a2, cap2, hv2, _, _, hrow⟩ := owns_val hown6
            simp only [Value.slice.injEq, true_and] at hv2
            obtain ⟨rfl, rfl⟩ := hv2
            obtain ⟨g, rfl, hgo, hgc, hgf⟩ := hrow (by omega)
            have c6 : w6.cell? ⟨g, j, none⟩ = some (.int .i64 (ns j - us j)) := by rw [hgc j (by omega)]; exact rowOf_get hjk
            have f6 := hgf j
            have e6 : (ns j - us j == 0) = false := by simp; omega
            have hst := hown6.stored j (.int .i64 (ns j - us j - 1))
            obtain ⟨hown7, hgr⟩ := hst
            have hch : Chg [g] w6 (w6.setCell ⟨g, j, none⟩ (.int .i64 (ns j - us j - 1))) := (Chg.refl _).setCell (Or.inl (by simp)) _
            have h7 : Has W (w6.setCell ⟨g, j, none⟩ (.int .i64 (ns j - us j - 1))) p 32 (pc k ns (up us j)) := by
              refine h6'.keep hch ?_ ?_
              · intro x hx; simp at hx; subst hx; exact (hown6.lt _ hgo).1
              · intro x hx
                rcases hown6.2 with ⟨hv, _⟩ | ⟨g', cap', cur, hv, _, hg', _⟩
                · simp at hv
                · simp only [Value.slice.injEq, Option.some.injEq, Addr.mk.injEq, and_true, true_and] at hv
                  obtain ⟨rfl, rfl⟩ := hv
                  simp at hx; subst hx
                  exact ⟨cur, _, _, alien3, hg'⟩
            have hown8 : (w6.setCell ⟨g, j, none⟩ (.int .i64 (ns j - us j - 1))).ownsRow W.heap.size 3 1 (Value.slice (some ⟨g, 0, none⟩) k cap') k (rowOf k (fun i => ns i - up us j i)) := by
              rw [← rowOf_set hjk]; exact hown7
            have hus : sm (up us j) k = t + 1 := by rw [sm_up us j k hjk, HSU.out]
            have HH7 := Lib.hid h7; have HO8 := Lib.hid hown8; have HUS := Lib.hid hus
            clear h6 h6' kk hown6 hgo hgc hgf hown7 hgr hch h7 hown8 hus HOWN HHH
            rcases HCASE.out with ⟨q1, q2, q3⟩ | ⟨q1, q2, q3⟩
            · have e7 : (us j + 1 != round) = false := by simp; omega
              have HQ := Lib.hid q3
              clear q1 q3
              go_wp2_with (go_at_call 13; refine (H_used j _ HH7.out (pc_first hjk)).mono ?_; rintro e w8 ⟨he, rfl⟩; simp only [up, if_true] at he; subst he)
              go_roundw
              case rel => exact ⟨t + 1, up us j, round, j, by omega, by omega, rfl, rfl, rfl, by omega, by omega, by omega, HUS.out, HQ.out, HH7.out, HO8.out⟩
              case measure => simp [intOf]; omega
            · have e7 : (us j + 1 != round) = true := by simpa using q1
              have e8 : (us j + 1 != round + 1) = false := by simp; omega
              have HQ := Lib.hid q3
              clear q1 q2 q3
              go_wp2_with (go_at_call 13; refine (H_used j _ HH7.out (pc_first hjk)).mono ?_; rintro e w8 ⟨he, rfl⟩; simp only [up, if_true] at he; subst he)
              go_roundw
              case rel => exact ⟨t + 1, up us j, round + 1, j, by omega, by omega, rfl, rfl, rfl, by omega, by omega, by omega, HUS.out, HQ.out, HH7.out, HO8.out⟩
              case measure => simp [intOf]; omega
          · have hb := best_no (fun i hi => hle i hi) (show sm us k = sm ns k by omega)
            have hnn := inv_nn hinv (fun i _ => (HNB.out i).1) r0
            have hokc : ∀ c ∈ pc k ns us, c.Ok := by
              intro c hc
              obtain ⟨i, hi⟩ := List.getElem?_of_mem hc
              obtain ⟨hi', rfl⟩ := pc_get' hi
              exact ⟨(HNB.out i).1, by have := (HNB.out i).2; simp; omega, hnn i hi', by have := (HNB.out i).2; have := hle i hi'; simp; omega⟩
            have HB := Lib.hid hb; have HOK := Lib.hid hokc; have HHH := Lib.hid hh2
            clear hb hokc hsu hle hnn hinv hh2 hown2
            go_wp2_with fail
            refine (H_take_none _ HHH.out HOK.out (by rw [pc_len]; exact HB.out)).mono ?_; rintro e w6 ⟨rfl, h6⟩
            go_wp2_with fail
            go_ret
            exact ⟨rfl, h6.below⟩

/-! ### The row's step -/
theorem own : ownKnob Try.prog.godebug = none := by kernel_rfl
theorem laid : laidOutB Try.prog = true := by kernel_rfl

set_option maxRecDepth 100000 in
theorem lifted (os : Os) (started : os.Started) (H : Type) (enc : TypeId × Value → H) :
    ReturnsInHanded {} Try.checked os 3 .any (Rows.poolFullSpec.pre6 enc Try.prog Try.f3 Rows.poolFullRow.domain false) (Rows.poolFullSpec.post enc Try.prog Try.f3 false true false false) := by
  refine lift_law (C := Try.checked) (tb := 4) own started (by kernel_rfl) Try.func3
    (ChangeSpec.witness6 (enc := enc) (C := Try.checked) false ⟨#[], #[.slice none 0 0], []⟩ 8 (by kernel_rfl) (by kernel_rfl) (by kernel_rfl) (by kernel_rfl))
    laid (by rw [Try.params3]; intro t ht; simp at ht; (repeat (rcases ht with rfl | ht)) <;> (try subst ht) <;> exact ⟨by kernel_rfl, of_decide_eq_true (by kernel_rfl)⟩) (by kernel_rfl) Try.underlying4 rfl
    (fun ds h => by rw [Try.params3] at h; match ds, h with | [d0], _ => rfl) ?_
  intro W base args ds before hval hA hlt hsz
  rw [Try.params3] at hA hval
  have hlt0 := hlt
  obtain ⟨v0, vs0, d0, ds0, p0, q0, hargs, rfl, rfl, h0, r0⟩ := trodAll_cons hA
  obtain ⟨rfl, rfl, rfl⟩ := trodAll_nil r0
  obtain rfl : args = #[v0] := by cases args; simp_all
  have l0 : ∀ p ∈ p0, p.block < W.heap.size := fun x hx => hlt x (by simp [hx])
  obtain ⟨zs, zg, zm, zs1⟩ := open_arg_slice 1 encI WfI Try.underlying22 (by kernel_rfl) (by omega) (hval 0 22 v0 rfl rfl) dec h0 l0
  exact walk v0 zs W zm zs1

theorem over : Rows.poolFullRow.holds Try.pinned (OpenSpec.ofChange Rows.poolFullSpec) :=
  OpenClaim.holds_of_wide 3 Try.f3 rfl rfl rfl rfl rfl rfl rfl ⟨rfl, rfl, rfl, rfl, rfl⟩ rfl rfl rfl rfl rfl (by kernel_rfl) Try.func3 (by kernel_rfl)
    (of_decide_eq_true (by kernel_rfl)) (by unfold Func.isWrapper; first | (rw [if_pos (by decide +kernel)]; kernel_rfl) | (rw [if_neg (by decide +kernel)]; exact ⟨rfl, rfl⟩))
    (fun os started H enc _ => lifted os started H enc)

/-- The statement. -/
theorem proved : Rows.PoolFullSaid :=
  over
#print axioms proved

end Go.Proofs.Ythinceoklkjcpaa.Full
