/-
  The laws' own functions: small, Same; the ends' Size and Max, which only read.
-/
import Derived.Test.YtmoeioaahampaaaHdL
import Derived.Test.YtmoeioaahampaaaArgT
namespace Go.Proofs.Ytmoeioaahampaaa.Tb.Hp
open Go.ChangeShapes Go.WideShapes Go.ChangeAt Go.RowKit
open Go.Proofs.Ytmoeioaahampaaa.B Go.Proofs.Ytmoeioaahampaaa.Hi Go.Proofs.Ytmoeioaahampaaa.Tb
open Go.Proofs.Ytmoeioaahampaaa.Hf (bx need enc dec bitsOf)
set_option linter.unusedVariables false
set_option linter.unusedSimpArgs false

/-- A row apart from a footprint is apart from it as an argument. -/
theorem ap_hap {A X : List Nat} {rv : Value} (h : Ap A X) (hx : ∀ x ∈ rv.ownBlock.toList, x ∈ X) : ∀ a n cap, rv = .slice (some a) n cap → a.block ∉ A := fun a n cap e ha => by
  subst e
  exact h _ ha (hx _ (by simp [Value.ownBlock]))
/-- Footprints that are apart, all of them elder than the world's next block. -/
structure Sep (w : World) (Fs : List (List Nat)) : Prop where
  ap : ∀ (i j : Nat) (A B : List Nat), i ≠ j → Fs[i]? = some A → Fs[j]? = some B → Ap A B
  lt : ∀ (i : Nat) (A : List Nat), Fs[i]? = some A → ∀ x ∈ A, x < w.heap.size
theorem Sep.nil (w : World) : Sep w [] := ⟨fun i j A B _ h => by simp at h, fun i A h => by simp at h⟩
theorem Sep.get {w : World} {Fs : List (List Nat)} (h : Sep w Fs) (i j : Nat) {A B : List Nat} (hA : Fs[i]? = some A) (hB : Fs[j]? = some B) (hij : i ≠ j) : Ap A B := h.ap i j A B hij hA hB
theorem Sep.le {w w' : World} {Fs : List (List Nat)} (h : Sep w Fs) (hs : w.heap.size ≤ w'.heap.size) : Sep w' Fs := ⟨h.ap, fun i A hA x hx => Nat.lt_of_lt_of_le (h.lt i A hA x hx) hs⟩
theorem Sep.put {w w' : World} {Fs : List (List Nat)} (h : Sep w Fs) (i : Nat) {A A' : List Nat} (hA : Fs[i]? = some A) (hf : ∀ x ∈ A', x ∈ A ∨ w.heap.size ≤ x) (hb : ∀ x ∈ A', x < w'.heap.size) (hs : w.heap.size ≤ w'.heap.size) : Sep w' (Fs.set i A') := by
  have hi := (List.getElem?_eq_some_iff.1 hA).1
  have hn : ∀ (j : Nat) (B : List Nat), i ≠ j → Fs[j]? = some B → Ap A' B := fun j B hij hB x hx hy => by
    rcases hf x hx with h1 | h1
    · exact h.ap i j A B hij hA hB x h1 hy
    · have := h.lt j B hB x hy; omega
  refine ⟨fun a b X Y hab hX hY => ?_, fun a X hX x hx => ?_⟩
  · rw [List.getElem?_set] at hX hY
    by_cases ha : i = a
    · rw [if_pos ha, if_pos (by omega)] at hX
      rw [if_neg (by omega)] at hY
      cases hX
      exact hn b Y (by omega) hY
    · rw [if_neg ha] at hX
      by_cases hb' : i = b
      · rw [if_pos hb', if_pos (by omega)] at hY
        cases hY
        exact (hn a X ha hX).symm
      · rw [if_neg hb'] at hY
        exact h.ap a b X Y hab hX hY
  · rw [List.getElem?_set] at hX
    by_cases ha : i = a
    · rw [if_pos ha, if_pos (by omega)] at hX
      cases hX
      exact hb x hx
    · rw [if_neg ha] at hX
      exact Nat.lt_of_lt_of_le (h.lt a X hX x hx) hs
theorem Sep.add {w w' : World} {Fs : List (List Nat)} (h : Sep w Fs) {N : List Nat} (hN : ∀ x ∈ N, w.heap.size ≤ x) (hb : ∀ x ∈ N, x < w'.heap.size) (hs : w.heap.size ≤ w'.heap.size) : Sep w' (N :: Fs) := by
  have hn : ∀ (j : Nat) (B : List Nat), Fs[j]? = some B → Ap N B := fun j B hB x hx hy => by
    have := hN x hx; have := h.lt j B hB x hy; omega
  refine ⟨fun a b X Y hab hX hY => ?_, fun a X hX x hx => ?_⟩
  · cases a with
    | zero =>
      cases b with
      | zero => exact absurd rfl hab
      | succ b => simp at hX hY; subst hX; exact hn b Y hY
    | succ a =>
      cases b with
      | zero => simp at hX hY; subst hY; exact (hn a X hX).symm
      | succ b => simp at hX hY; exact h.ap a b X Y (by omega) hX hY
  · cases a with
    | zero => simp at hX; subst hX; exact hb x hx
    | succ a => simp at hX; exact Nat.lt_of_lt_of_le (h.lt a X hX x hx) hs
/-- One footprint grows, and a new one comes that is apart from it. -/
theorem Sep.putAdd {w w' : World} {Fs : List (List Nat)} (h : Sep w Fs) (i : Nat) {A A' N : List Nat} (hA : Fs[i]? = some A) (hf : ∀ x ∈ A', x ∈ A ∨ w.heap.size ≤ x) (hb : ∀ x ∈ A', x < w'.heap.size) (hs : w.heap.size ≤ w'.heap.size)
    (hN : ∀ x ∈ N, w.heap.size ≤ x) (hNb : ∀ x ∈ N, x < w'.heap.size) (hAN : ∀ x ∈ A', x ∉ N) : Sep w' (N :: Fs.set i A') := by
  have hp := h.put i hA hf hb hs
  have hi := (List.getElem?_eq_some_iff.1 hA).1
  have hn : ∀ (j : Nat) (B : List Nat), (Fs.set i A')[j]? = some B → Ap N B := fun j B hB x hx hy => by
    rw [List.getElem?_set] at hB
    by_cases hj : i = j
    · rw [if_pos hj, if_pos (by omega)] at hB
      cases hB
      exact hAN x hy hx
    · rw [if_neg hj] at hB
      have := hN x hx; have := h.lt j B hB x hy; omega
  refine ⟨fun a b X Y hab hX hY => ?_, fun a X hX x hx => ?_⟩
  · cases a with
    | zero =>
      cases b with
      | zero => exact absurd rfl hab
      | succ b => simp only [List.getElem?_cons_zero, List.getElem?_cons_succ, Option.some.injEq] at hX hY; subst hX; exact hn b Y hY
    | succ a =>
      cases b with
      | zero => simp only [List.getElem?_cons_zero, List.getElem?_cons_succ, Option.some.injEq] at hX hY; subst hY; exact (hn a X hX).symm
      | succ b => simp only [List.getElem?_cons_succ] at hX hY; exact hp.ap a b X Y (by omega) hX hY
  · cases a with
    | zero => simp only [List.getElem?_cons_zero, Option.some.injEq] at hX; subst hX; exact hNb x hx
    | succ a => simp only [List.getElem?_cons_succ] at hX; exact hp.lt a X hX x hx
theorem fresh_cons {c : Nat} {F F' : List Nat} {w : World} (h : Fresh F' F w) : ∀ x ∈ c :: F', x ∈ c :: F ∨ w.heap.size ≤ x := fun x hx => by
  rcases List.mem_cons.1 hx with rfl | hx
  · exact Or.inl (by simp)
  · exact (h x hx).imp (fun h => List.mem_cons_of_mem _ h) id
/-- A field cut to texts of four hundred octets. -/
def cutF (f : Fd) : Fd := ⟨f.n.extract 0 (min f.n.size 400), f.v.extract 0 (min f.v.size 400), f.nv⟩
def smallL (l : List Fd) : List Fd := (l.take 20).map cutF
theorem cutF_sz (f : Fd) : (cutF f).n.size ≤ 400 ∧ (cutF f).v.size ≤ 400 := by
  unfold cutF
  simp only [ByteArray.size_extract]
  omega
theorem smallL_sz {l : List Fd} : ∀ f ∈ smallL l, f.n.size ≤ 400 ∧ f.v.size ≤ 400 := by
  intro f hf
  obtain ⟨g, _, rfl⟩ := List.mem_map.1 hf
  exact cutF_sz g
theorem smallL_len (l : List Fd) : (smallL l).length ≤ 20 := by unfold smallL; rw [List.length_map, List.length_take]; omega
set_option maxRecDepth 100000 in
theorem encsize_eq {W w : World} {c : Nat} {F : List Nat} {p m : Nat} {es : List Fd} {least last : Nat} {called : Bool} (h : EH W w c F p m es least last called) :
    Calls Try.prog 19 #[.pointer (some ⟨c, 0, none⟩)] w fun e w' => e = .returned (.int .i64 (tot es)) ∧ w = w' := by
  have c0 : World.cell? w ⟨c, 0, none⟩ = some (.pointer (some ⟨p, 0, none⟩)) := h.head.cell rfl
  have HH := Lib.hid h.tab
  go_enter Try.func19, Try.ntmps19
  go_wp2_with fail
  refine (H_size _ HH.out).mono ?_; rintro e w1 ⟨rfl, rfl⟩
  go_wp2_with fail
  go_ret
  exact ⟨rfl, rfl⟩
set_option maxRecDepth 100000 in
theorem encmax_eq {W w : World} {c : Nat} {F : List Nat} {p m : Nat} {es : List Fd} {least last : Nat} {called : Bool} (h : EH W w c F p m es least last called) :
    Calls Try.prog 22 #[.pointer (some ⟨c, 0, none⟩)] w fun e w' => e = .returned (.int .i64 m) ∧ w = w' := by
  have c0 : World.cell? w ⟨c, 0, none⟩ = some (.pointer (some ⟨p, 0, none⟩)) := h.head.cell rfl
  have HH := Lib.hid h.tab
  go_enter Try.func22, Try.ntmps22
  go_wp2_with fail
  refine (H_max _ HH.out).mono ?_; rintro e w1 ⟨rfl, rfl⟩
  go_wp2_with fail
  go_ret
  exact ⟨rfl, rfl⟩
set_option maxRecDepth 100000 in
theorem decsize_eq {W w : World} {d : Nat} {F : List Nat} {p m : Nat} {es : List Fd} {limit : Nat} {list : Int} {broken : Bool} (h : DH W w d F p m es limit list broken) :
    Calls Try.prog 19 #[.pointer (some ⟨d, 0, none⟩)] w fun e w' => e = .returned (.int .i64 (tot es)) ∧ w = w' := by
  have c0 : World.cell? w ⟨d, 0, none⟩ = some (.pointer (some ⟨p, 0, none⟩)) := h.head.cell rfl
  have HH := Lib.hid h.tab
  go_enter Try.func19, Try.ntmps19
  go_wp2_with fail
  refine (H_size _ HH.out).mono ?_; rintro e w1 ⟨rfl, rfl⟩
  go_wp2_with fail
  go_ret
  exact ⟨rfl, rfl⟩
set_option maxRecDepth 100000 in
theorem decmax_eq {W w : World} {d : Nat} {F : List Nat} {p m : Nat} {es : List Fd} {limit : Nat} {list : Int} {broken : Bool} (h : DH W w d F p m es limit list broken) :
    Calls Try.prog 22 #[.pointer (some ⟨d, 0, none⟩)] w fun e w' => e = .returned (.int .i64 m) ∧ w = w' := by
  have c0 : World.cell? w ⟨d, 0, none⟩ = some (.pointer (some ⟨p, 0, none⟩)) := h.head.cell rfl
  have HH := Lib.hid h.tab
  go_enter Try.func22, Try.ntmps22
  go_wp2_with fail
  refine (H_max _ HH.out).mono ?_; rintro e w1 ⟨rfl, rfl⟩
  go_wp2_with fail
  go_ret
  exact ⟨rfl, rfl⟩
set_option maxRecDepth 100000 in
set_option maxHeartbeats 4000000 in
theorem same_fds {w : World} {va vb : Value} {l : List Fd} (ha : FdsOf w va l) (hb : FdsOf w vb l) :
    Calls Try.prog 20 #[va, vb] w fun e w' => e = .returned (.bool true) ∧ Chg [] w w' := by
  obtain ⟨a, ca, rfl, hca, hcam⟩ := ha.len
  obtain ⟨b, cb, rfl, hcb, hcbm⟩ := hb.len
  unfold maxLen at hcam hcbm
  have HA := Lib.hid ha; have HB := Lib.hid hb
  clear ha hb
  go_enter Try.func20, Try.ntmps20
  go_wp2_with fail
  go_loopw [5] (fun iv wr => ∃ k : Nat, k ≤ l.length ∧ iv = .int .i64 k ∧ Chg [] w wr) (fun iv _ => l.length - (intOf iv).toNat)
  case atStart => exact ⟨0, Nat.zero_le _, rfl, Chg.refl _⟩
  case round =>
    obtain ⟨k, hk, rfl, hc⟩ := hrel
    by_cases hlt : k < l.length
    · obtain ⟨f, hf⟩ : ∃ f, l[k]? = some f := ⟨_, List.getElem?_eq_getElem hlt⟩
      have hA2 := HA.out.chg0 hc
      have hB2 := HB.out.chg0 hc
      obtain ⟨b1, o1, rfl, hb1, hc1⟩ := FdsOf.cells hA2 (by omega)
      obtain ⟨b2, o2, rfl, hb2, hc2⟩ := FdsOf.cells hB2 (by omega)
      obtain ⟨e0, e1, e2⟩ := hc1 k f hf
      obtain ⟨g0, g1, g2⟩ := hc2 k f hf
      have HC := Lib.hid hc
      have hkI : (k : Int) < (l.length : Int) := by omega
      clear hc hc1 hc2 hA2 hB2 hf
      go_wp2_with fail
      go_quiet (fail)
      go_wp2_with fail
      go_roundw
      case rel => exact ⟨k + 1, by omega, by go_num, HC.out.drewN _⟩
      case measure => simp [intOf]; omega
    · obtain rfl : l.length = k := by omega
      have HC := Lib.hid hc
      clear hc
      go_wp2_with fail
      go_ret
      exact ⟨rfl, HC.out⟩
set_option maxRecDepth 100000 in
set_option maxHeartbeats 4000000 in
theorem small_any {w : World} {v : Value} {l : List Fd} (h : FdsOf w v l) (hi : ∀ f ∈ l, f.In) :
    Calls Try.prog 17 #[v] w fun e w' => ∃ rv, e = .returned rv ∧ OwnF w' w.heap.size rv (smallL l) ∧ Chg [] w w' := by
  obtain ⟨a, cap, rfl, hca, hcam⟩ := h.len
  unfold maxLen at hcam
  have HH := Lib.hid h; have HI := Lib.hid hi
  clear h hi
  go_enter Try.func17, Try.ntmps17
  go_wp2_with fail
  go_loopw [3, 4] (fun ov iv wr => ∃ k : Nat, k ≤ l.length ∧ k ≤ 20 ∧ iv = .int .i64 k ∧ OwnF wr w.heap.size ov ((l.take k).map cutF) ∧ Chg [] w wr) (fun _ iv _ => l.length - (intOf iv).toNat)
  case atStart => exact ⟨0, Nat.zero_le _, Nat.zero_le _, rfl, OwnR.nil _ _, Chg.refl _⟩
  case round =>
    obtain ⟨k, hk, hk2, rfl, ho, hc⟩ := hrel
    by_cases hlt : k < l.length
    · have g0 : decide ((k : Int) < (l.length : Int)) = true := decide_eq_true (by omega)
      by_cases h20 : k < 20
      · have g1 : decide ((k : Int) < 20) = true := decide_eq_true (by omega)
        obtain ⟨f, hf⟩ : ∃ f, l[k]? = some f := ⟨_, List.getElem?_eq_getElem hlt⟩
        have hfi := HI.out f (List.mem_of_getElem? hf)
        unfold Fd.In at hfi
        have hA2 := HH.out.chg0 hc
        obtain ⟨b1, o1, rfl, hb1, hc1⟩ := FdsOf.cells hA2 (by omega)
        obtain ⟨e0, e1, e2⟩ := hc1 k f hf
        obtain ⟨A, hA⟩ : ∃ A : Nat, A = min f.n.size 400 := ⟨_, rfl⟩
        obtain ⟨B, hB⟩ : ∃ B : Nat, B = min f.v.size 400 := ⟨_, rfl⟩
        have eA : min (f.n.size : Int) 400 = (A : Int) := by omega
        have eB : min (f.v.size : Int) 400 = (B : Int) := by omega
        have lA : (A : Int) ≤ (f.n.size : Int) := by omega
        have lB : (B : Int) ≤ (f.v.size : Int) := by omega
        have lA0 : (0 : Int) ≤ (A : Int) := by omega
        have lB0 : (0 : Int) ≤ (B : Int) := by omega
        have hkI : (k : Int) < (l.length : Int) := by omega
        have hcut : cutF f = ⟨f.n.extract 0 A, f.v.extract 0 B, f.nv⟩ := by rw [hA, hB]; rfl
        have hsn : (l.take (k + 1)).map cutF = (l.take k).map cutF ++ [cutF f] := by rw [List.take_add_one, hf]; simp
        have hOl : ((l.take k).map cutF).length ≤ 20 := by rw [List.length_map, List.length_take]; omega
        obtain ⟨L, hL⟩ : ∃ L, L = (l.take k).map cutF := ⟨_, rfl⟩
        rw [← hL] at ho hsn hOl
        rw [hcut] at hsn
        have HSN := Lib.hid hsn
        have hws := hc.size
        have HC := Lib.hid hc; have HO := Lib.hid ho
        clear hc hc1 hA2 hf hA hB hcut hsn ho hL
        go_upto_region 8 with fail
        obtain ⟨q, hq⟩ : ∃ q, q = wr.heap.size := ⟨_, rfl⟩
        obtain ⟨g, hg⟩ : ∃ g : Fd, g = ⟨f.n.extract 0 A, f.v.extract 0 B, f.nv⟩ := ⟨_, rfl⟩
        have hgn : f.n.extract 0 A = g.n := by rw [hg]
        have hgv : f.v.extract 0 B = g.v := by rw [hg]
        have hgb : f.nv = g.nv := by rw [hg]
        have HSN2 : Hid ((l.take (k + 1)).map cutF = L ++ [g]) := Lib.hid (by rw [HSN.out, hg])
        rw [hgn, hgv, hgb, ← hq]
        have HQ := Lib.hid (At.new' (w := wr) (o := FN g) hq.symm)
        have HO4 := Lib.hid (OwnR.alloc HO.out (FN g)); have HC4 := Lib.hid (HC.out.alloc (FN g))
        have hs4 : q + 1 ≤ (wr.alloc (FN g)).heap.size := by rw [hq]; simp
        have hqw : w.heap.size ≤ q := by omega
        clear HO HC HSN e0 e1 e2 hgn hgv hgb hg hq
        generalize wr.alloc (FN g) = w4 at *
        have y0 : World.cell? w4 ⟨q, 0, none⟩ = some (.string g.n) := HQ.out.cell rfl
        have y1 : World.cell? w4 ⟨q, 1, none⟩ = some (.string g.v) := HQ.out.cell rfl
        have y2 : World.cell? w4 ⟨q, 2, none⟩ = some (.bool g.nv) := HQ.out.cell rfl
        go_wp2_with (at_builtin; refine app_row encF_len encF_one 26 Try.underlying26 infoF rfl (by decide) rfl _ _ rfl w.heap.size u3 L rfl (OwnR.alloc HO4.out (FN g)) _ [g] rfl (one_field w4 g) (by simp [maxLen]; omega) (by simp; omega) (by simp; omega) ?_)
        intro v' w6 hown' hch' hfr'
        go_wp2_with fail
        go_roundw
        case rel => exact ⟨k + 1, by omega, by omega, by go_num, by rw [HSN2.out]; exact hown', (HC4.out.alloc (FN g)).trans hch' (fun x hx => Or.inr (OwnR.lo HO4.out x hx))⟩
        case measure => simp [intOf]; omega
      · have g1 : decide ((k : Int) < 20) = false := decide_eq_false (by omega)
        have hk3 : smallL l = (l.take k).map cutF := by unfold smallL; rw [show k = 20 by omega]
        have HC := Lib.hid hc; have HO := Lib.hid ho; have HK := Lib.hid hk3
        clear hc ho hk3
        go_wp2_with fail
        go_ret
        exact ⟨_, rfl, by rw [HK.out]; exact HO.out, HC.out⟩
    · have g0 : decide ((k : Int) < (l.length : Int)) = false := decide_eq_false (by omega)
      have hk3 : smallL l = (l.take k).map cutF := by unfold smallL; rw [show k = l.length by omega, List.take_length, List.take_of_length_le (by omega)]
      have HC := Lib.hid hc; have HO := Lib.hid ho; have HK := Lib.hid hk3
      clear hc ho hk3
      go_wp2_with fail
      go_ret
      exact ⟨_, rfl, by rw [HK.out]; exact HO.out, HC.out⟩
end Go.Proofs.Ytmoeioaahampaaa.Tb.Hp
