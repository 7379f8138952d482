/-
  The walk of Pool.Take.
-/
import Derived.Test.YthinceoklkjcpaaPool3
import Derived.Test.YthinceoklkjcpaaPoolS
namespace Go.Proofs.Ythinceoklkjcpaa.Pool
open Go.ChangeShapes Go.WideShapes Go.ChangeAt Go.RowKit
open Go.Proofs.Ythinceoklkjcpaa.B
set_option linter.unusedVariables false
set_option linter.unusedSimpArgs false

/-- The variable 'best' behind k rounds. -/
def BestV (bs : List Nat) (cs : List Cn) (k : Nat) (v : Value) : Prop :=
  (bestK cs k = none ∧ v = .pointer none) ∨ ∃ j b c, bestK cs k = some j ∧ bs[j]? = some b ∧ cs[j]? = some c ∧ v = .pointer (some ⟨b, 0, none⟩)

theorem bestK_succ {cs : List Cn} {k : Nat} {c : Cn} (h : cs[k]? = some c) : bestK cs (k + 1) = if okB c && better cs (bestK cs k) c then some k else bestK cs k := by
  rw [bestK, h]
theorem bestV_keep {bs : List Nat} {cs : List Cn} {k : Nat} {v : Value} {c : Cn} (h : cs[k]? = some c) (hv : BestV bs cs k v) (hn : (okB c && better cs (bestK cs k) c) = false) : BestV bs cs (k + 1) v := by
  unfold BestV at *
  rw [bestK_succ h, hn]
  exact hv
theorem bestV_take {bs : List Nat} {cs : List Cn} {k b : Nat} {c : Cn} (h : cs[k]? = some c) (hb : bs[k]? = some b) (hn : (okB c && better cs (bestK cs k) c) = true) : BestV bs cs (k + 1) (.pointer (some ⟨b, 0, none⟩)) := by
  unfold BestV
  rw [bestK_succ h, if_pos hn]
  exact Or.inr ⟨k, b, c, rfl, hb, h, rfl⟩

set_option maxHeartbeats 4000000 in
theorem take_loop {base p : Nat} {sv : Value} {bs : List Nat} {most : Int} {cs : List Cn} (w : World) (h : PP w base p sv bs most cs) (R : Ending → World → Prop)
    (hnone : bestK cs cs.length = none → ∀ n, R (.returned (.tuple #[.int .i64 0, .bool false])) (w.drewN n))
    (hsome : ∀ j b c, bestK cs cs.length = some j → bs[j]? = some b → cs[j]? = some c → ∀ n, R (.returned (.tuple #[.int .i64 c.id, .bool true])) ((w.drewN n).setCell ⟨b, 2, none⟩ (.int .i64 (c.used + 1))))
    (hok : ∀ c ∈ cs, c.Ok) :
    Calls Try.prog 12 #[.pointer (some ⟨p, 0, none⟩)] w R := by
  obtain ⟨hh, hr, hl, hcn, hn1, hn2, hn3, hl1, hl2⟩ := h
  obtain ⟨a, cap, rfl, hcap, hcapm, hrow⟩ := owns_val hr
  have hm : bs.length ≤ maxLen := by omega
  unfold maxLen at hm hcapm
  have h1 := hh.cell (o := 1) rfl
  have HR := Lib.hid hr; have HH := Lib.hid hh; have HC := Lib.hid hcn; have HW := Lib.hid hrow; have HN := Lib.hid hl; have HOK := Lib.hid hok; have HNO := Lib.hid hnone; have HSO := Lib.hid hsome
  clear hr hh hcn hrow hn1 hn2 hn3 hl1 hl2 hl hok hnone hsome
  go_enter Try.func12, Try.ntmps12
  go_wp2_with fail
  go_loopw [4, 12] (fun bv i wr => ∃ (k nn : Nat), k ≤ bs.length ∧ i = .int .i64 k ∧ BestV bs cs k bv ∧ wr = w.drewN nn) (fun _ i _ => bs.length - (intOf i).toNat)
  case atStart => exact ⟨0, 0, Nat.zero_le _, rfl, Or.inl ⟨rfl, rfl⟩, rfl⟩
  case round =>
    obtain ⟨k, nn, hk, rfl, hv, rfl⟩ := hrel
    by_cases hlt : k < bs.length
    · have hkc : k < cs.length := by have := HN.out; omega
      obtain ⟨b0, hb⟩ : ∃ b, bs[k]? = some b := ⟨_, List.getElem?_eq_getElem hlt⟩
      obtain ⟨c, hc⟩ : ∃ c, cs[k]? = some c := ⟨_, List.getElem?_eq_getElem hkc⟩
      obtain ⟨g, rfl, _, hg, _⟩ := HW.out (by omega)
      have g0 : w.cell? ⟨g, k, none⟩ = some (.pointer (some ⟨b0, 0, none⟩)) := by rw [hg k (by omega)]; simp [hb, ptr]
      have g1 : w.cell? ⟨b0, 1, none⟩ = some (.int .i64 c.slots) := (HC.out k b0 c hb hc).cell rfl
      have g2 : w.cell? ⟨b0, 2, none⟩ = some (.int .i64 c.used) := (HC.out k b0 c hb hc).cell rfl
      have g3 : w.cell? ⟨b0, 3, none⟩ = some (.bool c.drains) := (HC.out k b0 c hb hc).cell rfl
      clear hg
      rcases Bool.eq_false_or_eq_true c.drains with hd | hd
      · -- it drains
        have HV : Hid (BestV bs cs (k + 1) _) := bestV_keep hc hv (by simp [okB, hd])
        rw [hd] at g3
        clear hd hc hb
        unfold BestV at hv
        rcases hv with ⟨hq, rfl⟩ | ⟨j, b, c', hq, hjb, hjc, rfl⟩
        · clear hq
          go_wp2_with fail
          go_quiet (fail)
          go_wp2_with fail
          go_roundw
          case rel => exact ⟨k + 1, nn + nq, by omega, by go_num, HV.out, by simp [World.drewN_drewN]⟩
          case measure => simp [intOf]; omega
        · clear hq hjb hjc
          go_wp2_with fail
          go_quiet (fail)
          go_wp2_with fail
          go_roundw
          case rel => exact ⟨k + 1, nn + nq, by omega, by go_num, HV.out, by simp [World.drewN_drewN]⟩
          case measure => simp [intOf]; omega
      · rw [hd] at g3
        rcases ltC c.used c.slots with ⟨hu, hu'⟩ | ⟨hu, hu'⟩
        · have hok' : okB c = true := by simp [okB, hd, hu]
          unfold BestV at hv
          rcases hv with ⟨hq, rfl⟩ | ⟨j, b, c', hq, hjb, hjc, rfl⟩
          · have HV : Hid (BestV bs cs (k + 1) (.pointer (some ⟨b0, 0, none⟩))) := bestV_take hc hb (by simp [hok', hq, better])
            have hdd : decide (c.used < c.slots) = true := by simpa using hu
            clear hq hd hc hb hok'
            go_wp2_with fail
            go_quiet (fail)
            go_wp2_with fail
            go_roundw
            case rel => exact ⟨k + 1, nn + nq, by omega, by go_num, HV.out, by simp [World.drewN_drewN]⟩
            case measure => simp [intOf]; omega
          · have g4 : w.cell? ⟨b, 2, none⟩ = some (.int .i64 c'.used) := (HC.out j b c' hjb hjc).cell rfl
            have hdd : decide (c.used < c.slots) = true := by simpa using hu
            rcases ltC c.used c'.used with ⟨hx, hx'⟩ | ⟨hx, hx'⟩
            · have HV : Hid (BestV bs cs (k + 1) (.pointer (some ⟨b0, 0, none⟩))) := bestV_take hc hb (by simp [hok', hq, better, hjc, hx])
              have hxx : decide (c.used < c'.used) = true := by simpa using hx
              clear hq hd hc hb hok' hjb hjc
              go_wp2_with fail
              go_quiet (fail)
              go_wp2_with fail
              go_roundw
              case rel => exact ⟨k + 1, nn + nq, by omega, by go_num, HV.out, by simp [World.drewN_drewN]⟩
              case measure => simp [intOf]; omega
            · have HV : Hid (BestV bs cs (k + 1) (.pointer (some ⟨b, 0, none⟩))) := bestV_keep hc (Or.inr ⟨j, b, c', hq, hjb, hjc, rfl⟩) (by simp [hok', hq, better, hjc]; exact hx')
              have hxx : decide (c.used < c'.used) = false := by simp; exact hx'
              clear hq hd hc hb hok' hjb hjc
              go_wp2_with fail
              go_quiet (fail)
              go_wp2_with fail
              go_roundw
              case rel => exact ⟨k + 1, nn + nq, by omega, by go_num, HV.out, by simp [World.drewN_drewN]⟩
              case measure => simp [intOf]; omega
        · have HV : Hid (BestV bs cs (k + 1) _) := bestV_keep hc hv (by simp [okB, hd]; exact fun h => absurd h hu)
          have hdd : decide (c.used < c.slots) = false := by simp; exact hu'
          clear hd hc hb
          unfold BestV at hv
          rcases hv with ⟨hq, rfl⟩ | ⟨j, b, c', hq, hjb, hjc, rfl⟩
          · clear hq
            go_wp2_with fail
            go_quiet (fail)
            go_wp2_with fail
            go_roundw
            case rel => exact ⟨k + 1, nn + nq, by omega, by go_num, HV.out, by simp [World.drewN_drewN]⟩
            case measure => simp [intOf]; omega
          · clear hq hjb hjc
            go_wp2_with fail
            go_quiet (fail)
            go_wp2_with fail
            go_roundw
            case rel => exact ⟨k + 1, nn + nq, by omega, by go_num, HV.out, by simp [World.drewN_drewN]⟩
            case measure => simp [intOf]; omega
    · have hkk : k = cs.length := by have := HN.out; omega
      rw [hkk] at hv
      clear hkk
      unfold BestV at hv
      rcases hv with ⟨hq, rfl⟩ | ⟨j, b, c', hq, hjb, hjc, rfl⟩
      · have HNN := Lib.hid (HNO.out hq)
        clear hq
        go_wp2_with fail
        exact HNN.out _
      · have HSS := Lib.hid (HSO.out j b c' hq hjb hjc)
        have ho := HOK.out c' (List.mem_of_getElem? hjc)
        obtain ⟨_, c2, hc2, hok2, _, _⟩ := bestK_some hq
        obtain rfl : c' = c2 := by rw [hjc] at hc2; exact Option.some.inj hc2
        have hus : c'.used < c'.slots := by simp [okB] at hok2; exact hok2.2
        have u0 := ho.u0; have s1 := ho.s1
        have g1 : w.cell? ⟨b, 0, none⟩ = some (.int .i64 c'.id) := (HC.out j b c' hjb hjc).cell rfl
        have g2 : w.cell? ⟨b, 2, none⟩ = some (.int .i64 c'.used) := (HC.out j b c' hjb hjc).cell rfl
        have g3 : w.frozen? ⟨b, 2, none⟩ = false := (HC.out j b c' hjb hjc).free 2
        clear hq hjb hjc hc2 hok2
        go_wp2_with fail
        exact HSS.out _

theorem take_none {base p : Nat} {sv : Value} {bs : List Nat} {most : Int} {cs : List Cn} (w : World) (h : PP w base p sv bs most cs) (hok : ∀ c ∈ cs, c.Ok) (hb : bestK cs cs.length = none) :
    Calls Try.prog 12 #[.pointer (some ⟨p, 0, none⟩)] w fun e w' => e = .returned (.tuple #[.int .i64 0, .bool false]) ∧ ∃ n, w' = w.drewN n :=
  take_loop w h _ (fun _ n => ⟨rfl, n, rfl⟩) (fun j b c hj => by rw [hb] at hj; cases hj) hok
theorem take_some {base p : Nat} {sv : Value} {bs : List Nat} {most : Int} {cs : List Cn} (w : World) (h : PP w base p sv bs most cs) (hok : ∀ c ∈ cs, c.Ok) {j : Nat} {c : Cn} (hb : bestK cs cs.length = some j) (hc : cs[j]? = some c) :
    Calls Try.prog 12 #[.pointer (some ⟨p, 0, none⟩)] w fun e w' => e = .returned (.tuple #[.int .i64 c.id, .bool true]) ∧ Chg (foot p sv bs) w w' ∧ PP w' base p sv bs most (cs.set j { c with used := c.used + 1 }) := by
  refine take_loop w h _ (fun hn => by rw [hb] at hn; cases hn) (fun i b d hi hbi hdi n => ?_) hok
  obtain rfl : j = i := by rw [hb] at hi; exact Option.some.inj hi
  obtain rfl : c = d := by rw [hc] at hdi; exact Option.some.inj hdi
  have hbb := List.mem_of_getElem? hbi
  have hcb : Chg [b] w ((w.drewN n).setCell ⟨b, 2, none⟩ (.int .i64 (c.used + 1))) := ((Chg.refl _).drewN n).setCell (Or.inl (by simp)) _
  exact ⟨rfl, hcb.mono (by simp [foot, hbb]), h.put hbi _ hcb (((h.conn j b c hbi hc).drewN n).set 2 _)⟩
end Go.Proofs.Ythinceoklkjcpaa.Pool
