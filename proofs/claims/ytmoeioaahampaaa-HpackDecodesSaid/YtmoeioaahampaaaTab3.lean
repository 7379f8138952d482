/-
  The walks of SetMax, New, Add.
-/
import Derived.Test.YtmoeioaahampaaaTab2
namespace Go.Proofs.Ytmoeioaahampaaa.Tb
open Go.ChangeShapes Go.WideShapes Go.ChangeAt Go.RowKit
open Go.Proofs.Ytmoeioaahampaaa.B
set_option linter.unusedVariables false
set_option linter.unusedSimpArgs false

theorem one_field (w : World) (f : Fd) : FdsOf (w.alloc (.cells #[.string f.n, .string f.v, .bool f.nv] 44)) (.slice (some ⟨w.heap.size, 0, none⟩) 1 1) [f] :=
  SliceOf.one (enc := encF) (x := f) (size := 3) rfl (cs := #[.string f.n, .string f.v, .bool f.nv]) rfl w
set_option maxRecDepth 100000 in
set_option maxHeartbeats 4000000 in
theorem set_any {w : World} {base p : Nat} {sv : Value} {m : Nat} {es : List Fd} (n : Int) (h : TT w base p sv m es) (hbase : base ≤ w.heap.size) :
    Calls Try.prog 38 #[.pointer (some ⟨p, 0, none⟩), .int .i64 n] w fun e w' => e = .returned (.tuple #[]) ∧ Chg [p] w w' ∧ ∃ sv', TT w' base p sv' (hgt n) (fit 0 (hgt n) es) ∧ (∀ k, sv'.ownBlock = some k → sv.ownBlock = some k ∨ w.heap.size ≤ k) := by
  obtain ⟨hh, hr, hm, ht, hlo, hnd⟩ := h
  have c2 := hh.cell (o := 2) rfl
  have hfr := hh.free
  obtain ⟨M, hM⟩ : ∃ M : Nat, M = hgt n := ⟨_, rfl⟩
  have hM2 : min (max n 0) 65536 = (M : Int) := by rw [hM, hgt_cast]
  have hM6 : M ≤ 65536 := by rw [hM]; exact hgt_le n
  have h' : TT (w.setCell ⟨p, 2, none⟩ (.int .i64 M)) base p sv M es :=
    ⟨hh.set 2 _, hr.chg ((Chg.refl w).setCell (l := [p]) (Or.inl (by simp)) _) (fun g hg => by simp; exact hnd g hg), hM6, ht, hlo, hnd⟩
  rw [← hM]
  have HM2 := Lib.hid hM2; have HT := Lib.hid h'; have HND := Lib.hid hnd
  clear hM hM2 h' hr hh hnd
  go_enter Try.func38, Try.ntmps38
  go_wp2_with fail
  rw [HM2.out]
  refine (fit_any 0 (by omega) HT.out (by simp [World.setCell]; exact hbase)).mono ?_; rintro e w1 ⟨rfl, hc, sv', h1, h2⟩
  go_wp2_with fail
  go_end0
  exact ⟨rfl, ((Chg.refl w).setCell (l := [p]) (Or.inl (by simp)) _).trans' hc, sv', h1, fun k hk => by have := h2 k hk; simpa [World.setCell] using this⟩
set_option maxRecDepth 100000 in
set_option maxHeartbeats 4000000 in
theorem new_any (n : Int) (base : Nat) (w : World) (hb : base ≤ w.heap.size) :
    Calls Try.prog 35 #[.int .i64 n] w fun e w' => e = .returned (.pointer (some ⟨w.heap.size, 0, none⟩)) ∧ Chg [] w w' ∧ ∃ sv, TT w' base w.heap.size sv (hgt n) [] ∧ (∀ k, sv.ownBlock = some k → w.heap.size < k) := by
  go_enter Try.func35, Try.ntmps35
  go_wp2_with fail
  have h0 : TT (w.alloc (.cells #[.slice none 0 0, .int .i64 0, .int .i64 0] 94)) base w.heap.size (.slice none 0 0) 0 [] := ⟨At.new _ _, OwnR.nil _ _, by omega, by simp [tot], hb, by simp [Value.ownBlock]⟩
  refine (set_any n h0 (by simp; omega)).mono ?_; rintro e w1 ⟨rfl, hc, sv', h1, h2⟩
  go_wp2_with fail
  go_ret
  exact ⟨rfl, ((Chg.refl w).alloc (l := [w.heap.size]) _).trans' hc |>.drop (fun x hx => Or.inr (by simp at hx; omega)), sv', h1, fun k hk => by
    rcases h2 k hk with h | h
    · simp [Value.ownBlock] at h
    · simp at h; omega⟩
set_option maxRecDepth 100000 in
set_option maxHeartbeats 4000000 in
theorem add_any {w : World} {base p : Nat} {sv : Value} {m : Nat} {es : List Fd} (f : Fd) (h : TT w base p sv m es) (hi : Inv m es) (hf : f.sz ≤ 4611686018427387904) (hbase : base ≤ w.heap.size) :
    Calls Try.prog 46 #[.pointer (some ⟨p, 0, none⟩), .agg (aF f)] w fun e w' => e = .returned (.tuple #[]) ∧ Chg (foot p sv) w w' ∧ ∃ sv', TT w' base p sv' m (addS f m es) ∧ (∀ k, sv'.ownBlock = some k → sv.ownBlock = some k ∨ w.heap.size ≤ k) := by
  have hm6 := hi.hm
  obtain ⟨u, hu⟩ : ∃ u, u = f.un := ⟨_, rfl⟩
  have hun : u.n = f.n ∧ u.v = f.v ∧ u.nv = false ∧ u.sz = f.sz := by subst hu; exact ⟨rfl, rfl, rfl, rfl⟩
  obtain ⟨n, hn⟩ : ∃ n, n = f.sz := ⟨_, rfl⟩
  have hn4 : n ≤ 4611686018427387904 := by omega
  have hpw := h.head.lt
  have hplo := h.lo
  have hft := h.foot_lt
  have hus : u.sz ≤ 9223372036854775807 := by omega
  unfold aF
  rw [← hun.1, ← hun.2.1]
  have HT := Lib.hid h; have HI := Lib.hid hi; have HU := Lib.hid hu; have HN := Lib.hid hn; have HUN := Lib.hid hun; have HFT := Lib.hid hft
  clear h hi hu hn hun hft
  go_enter Try.func46, Try.ntmps46
  go_wp2_with fail
  refine (size_any ⟨u.n, u.v, false⟩ _ (by show u.n.size + u.v.size + 32 ≤ _; exact hus)).mono ?_; rintro e w1 ⟨he, rfl⟩
  have hsz : Fd.sz ⟨u.n, u.v, false⟩ = n := by rw [HN.out, ← HUN.out.2.2.2]; rfl
  rw [hsz] at he
  subst he
  clear hsz
  go_wp2_with fail
  have hT1 : TT ((w.alloc (.cells #[.string u.n, .string u.v, .bool false] 44)).alloc (.cells #[.string u.n, .string u.v, .bool false] 44)) base p sv m es := HT.out.chg (((Chg.refl w).alloc (l := []) _).alloc _) (fun _ _ => by simp)
  have hbx : At ((w.alloc (.cells #[.string u.n, .string u.v, .bool false] 44)).alloc (.cells #[.string u.n, .string u.v, .bool false] 44)) w.heap.size (.cells #[.string u.n, .string u.v, .bool false] 44 (0, 0)) := (At.new w _).alloc _
  refine (fit_any n hn4 hT1 (by simp; omega)).mono ?_; rintro e w2 ⟨rfl, hc2, sv2, hT2, ho2⟩
  have hbx2 := hbx.chg hc2 (by simp; omega)
  have hcA : Chg [p] w w2 := (((Chg.refl w).alloc (l := [p]) _).alloc _).trans' hc2
  have ho3 : ∀ k, sv2.ownBlock = some k → sv.ownBlock = some k ∨ w.heap.size < k := fun k hk => by
    rcases ho2 k hk with h | h
    · exact Or.inl h
    · simp at h; omega
  clear hT1 hbx hc2 ho2
  obtain ⟨es2, hes2⟩ : ∃ es2, es2 = fit n m es := ⟨_, rfl⟩
  rw [← hes2] at hT2
  obtain ⟨hh, hr, hm, ht, hlo, hnd⟩ := hT2
  obtain ⟨a2, cap2, rfl, hcap2, hcapm2⟩ := hr.slice
  have q0 := hh.cell (o := 0) rfl
  have q1 := hh.cell (o := 1) rfl
  have q2 := hh.cell (o := 2) rfl
  have qf := hh.free
  have b0 := hbx2.cell (o := 0) rfl
  have b1 := hbx2.cell (o := 1) rfl
  have b2 := hbx2.cell (o := 2) rfl
  have hpw2 := hh.lt
  have hbw2 := hbx2.lt
  have hl2 : es2.length ≤ 2048 := by have := tot_len es2; omega
  have hpb : p ≠ w.heap.size := by omega
  have hbp : w.heap.size ≠ p := by omega
  obtain ⟨B, hB⟩ : ∃ B, B = w.heap.size := ⟨_, rfl⟩
  rw [← hB] at hbx2 b0 b1 b2 hbw2 hpb hbp ⊢
  obtain ⟨T2, hT2⟩ : ∃ T2, T2 = tot es2 := ⟨_, rfl⟩
  rw [← hT2] at hh q0 q1 q2 ht
  have HH := Lib.hid hh; have HR := Lib.hid hr; have HND := Lib.hid hnd; have HBX := Lib.hid hbx2; have HCA := Lib.hid hcA; have HO := Lib.hid ho3; have HE := Lib.hid hes2; have HB := Lib.hid hB; have HT2 := Lib.hid hT2
  clear hh hr hnd hbx2 hcA ho3 hes2 hB hT2
  by_cases hle : n ≤ m
  · go_wp2_with fail
    go_region_law (first
      | (refine step_row encF_len encF_one 26 Try.underlying26 infoF rfl (by decide) rfl (.tmp 21) (.tmp 23) (by rfl) base (.slice a2 es2.length cap2) es2 (by rfl) ((OwnR.alloc HR.out _).drew) (.slice (some ⟨w2.heap.size, 0, none⟩) 1 1) [⟨u.n, u.v, false⟩] (by rfl) (SliceOf.chg0 (one_field w2 ⟨u.n, u.v, false⟩) ((Chg.refl _).drew)) (by simp [maxLen]; omega) (by simp; omega) (by have := HCA.out.size; simp; omega) ?_; intro v' w' hown' hch' hfr'; obtain ⟨va, vc, hv, _, _⟩ := OwnR.slice hown'; simp only [List.length_append, List.length_singleton] at hv; subst hv; have hat := ((HH.out.alloc (.cells #[.string u.n, .string u.v, .bool false] 44)).drew).chg hch' (fun hx => HND.out p (by simpa using hx) rfl); have h0 := hat.cell (o := 0) rfl; have h1 := hat.cell (o := 1) rfl; have hf := hat.free)
      | fail)
    all_goals go_wp2_with fail
    all_goals
      go_end0
      have hadd : addS f m es = es2 ++ [⟨u.n, u.v, false⟩] := by
        rw [addS_small (by rw [← HN.out]; exact hle), HE.out, HN.out]
        congr 2
        rw [← HU.out, ← HUN.out.2.2.1]
      have hown2 : ∀ x ∈ (Value.slice a2 es2.length cap2).ownBlock.toList, x ∈ foot p sv ∨ w.heap.size ≤ x := fun x hx => by
        rcases HO.out x (by simpa using hx) with h | h
        · exact Or.inl (by simp [foot, h])
        · exact Or.inr (by omega)
      have hC : Chg (foot p sv) w w' := (((HCA.out.mono (by simp [foot])).alloc _).drew).trans hch' hown2
      have hlt2 : w2.heap.size + 1 ≤ w'.heap.size := by have := hch'.size; simpa using this
      have htot : tot es2 + n = tot (addS f m es) := by
        rw [hadd, tot_append, HN.out]
        show _ = _ + (Fd.sz ⟨u.n, u.v, false⟩ + 0)
        have : Fd.sz ⟨u.n, u.v, false⟩ = f.sz := by rw [← HUN.out.2.2.2]; rfl
        omega
      have hnp : ∀ g, (Value.slice va (es2.length + 1) vc).ownBlock = some g → g ≠ p := fun g hg => by
        rcases hfr' g hg with h | h
        · exact HND.out g h
        · simp at h; omega
      refine ⟨rfl, (hC.setCell (Or.inl (by simp [foot])) _).setCell (Or.inl (by simp [foot])) _, .slice va (es2.length + 1) vc, ⟨?_, ?_, hm, ?_, hlo, hnp⟩, fun k hk => ?_⟩
      · have := (hat.set 0 (.slice va (es2.length + 1) vc)).set 1 (.int .i64 ((T2 : Int) + n))
        rw [← htot, ← HT2.out]
        exact this
      · rw [hadd]
        unfold OwnF
        have := hown'.chg ((((Chg.refl w').setCell (l := [p]) (p := ⟨p, 0, none⟩) (Or.inl (by simp)) (.slice va (es2.length + 1) vc))).setCell (p := ⟨p, 1, none⟩) (Or.inl (by simp)) (.int .i64 ((T2 : Int) + n))) (fun g hg => by simp; exact hnp g (by simpa using hg))
        exact this
      · have := (HI.out.add f).t; omega
      · rcases hfr' k hk with h | h
        · exact (HO.out k h).imp id (fun h => by omega)
        · have := HCA.out.size; simp at h; exact Or.inr (by omega)
  · go_wp2_with fail
    go_end0
    have hbig : addS f m es = [] := addS_big (by have := HN.out; omega) es
    have he2 : es2 = [] := by rw [HE.out, HN.out]; exact fit_big (by have := HN.out; omega) es
    refine ⟨rfl, HCA.out.mono (by simp [foot]), _, ⟨?_, ?_, hm, ?_, hlo, HND.out⟩, fun k hk => (HO.out k hk).imp id (fun h => by omega)⟩
    · rw [hbig, ← he2, ← HT2.out]; exact HH.out
    · rw [hbig, ← he2]; exact HR.out
    · rw [hbig]; simp [tot]
end Go.Proofs.Ytmoeioaahampaaa.Tb
