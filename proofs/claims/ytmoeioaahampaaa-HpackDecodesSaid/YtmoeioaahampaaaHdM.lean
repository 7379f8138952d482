/-
  The laws' own functions; footprints apart; what an encoder writes a decoder reads.
-/
import Derived.Test.YtmoeioaahampaaaHdL
import Derived.Test.YtmoeioaahampaaaArgT
import Derived.Test.YtmoeioaahampaaaRTab2
namespace Go.Proofs.Ytmoeioaahampaaa.Tb.Hp
open Go.ChangeShapes Go.WideShapes Go.ChangeAt Go.RowKit
open Go.Proofs.Ytmoeioaahampaaa.B Go.Proofs.Ytmoeioaahampaaa.Hi Go.Proofs.Ytmoeioaahampaaa.Tb
open Go.Proofs.Ytmoeioaahampaaa.Hf (bx need enc dec bitsOf)
set_option linter.unusedVariables false
set_option linter.unusedSimpArgs false

/-- A row apart from a footprint is apart from it as an argument. -/
theorem ap_hap {A X : List Nat} {rv : Value} (h : Ap A X) (hx : ∀ x ∈ rv.ownBlock.toList, x ∈ X) : ∀ a n cap, rv = .slice (some a) n cap → a.block ∉ A := fun a n cap e ha => by
  subst e
  exact h _ ha (hx _ (by simp [Value.ownBlock]))
/-- Footprints that are apart, all of them elder than the world's next block. -/
structure Sep (w : World) (Fs : List (List Nat)) : Prop where
  ap : ∀ (i j : Nat) (A B : List Nat), i ≠ j → Fs[i]? = some A → Fs[j]? = some B → Ap A B
  lt : ∀ (i : Nat) (A : List Nat), Fs[i]? = some A → ∀ x ∈ A, x < w.heap.size
theorem Sep.nil (w : World) : Sep w [] := ⟨fun i j A B _ h => by simp at h, fun i A h => by simp at h⟩
theorem Sep.get {w : World} {Fs : List (List Nat)} (h : Sep w Fs) (i j : Nat) {A B : List Nat} (hA : Fs[i]? = some A) (hB : Fs[j]? = some B) (hij : i ≠ j) : Ap A B := h.ap i j A B hij hA hB
theorem Sep.le {w w' : World} {Fs : List (List Nat)} (h : Sep w Fs) (hs : w.heap.size ≤ w'.heap.size) : Sep w' Fs := ⟨h.ap, fun i A hA x hx => Nat.lt_of_lt_of_le (h.lt i A hA x hx) hs⟩
theorem Sep.put {w w' : World} {Fs : List (List Nat)} (h : Sep w Fs) (i : Nat) {A A' : List Nat} (hA : Fs[i]? = some A) (hf : ∀ x ∈ A', x ∈ A ∨ w.heap.size ≤ x) (hb : ∀ x ∈ A', x < w'.heap.size) (hs : w.heap.size ≤ w'.heap.size) : Sep w' (Fs.set i A') := by
  have hi := (List.getElem?_eq_some_iff.1 hA).1
  have hn : ∀ (j : Nat) (B : List Nat), i ≠ j → Fs[j]? = some B → Ap A' B := fun j B hij hB x hx hy => by
    rcases hf x hx with h1 | h1
    · exact h.ap i j A B hij hA hB x h1 hy
    · have := h.lt j B hB x hy; omega
  refine ⟨fun a b X Y hab hX hY => ?_, fun a X hX x hx => ?_⟩
  · rw [List.getElem?_set] at hX hY
    by_cases ha : i = a
    · rw [if_pos ha, if_pos (by omega)] at hX
      rw [if_neg (by omega)] at hY
      cases hX
      exact hn b Y (by omega) hY
    · rw [if_neg ha] at hX
      by_cases hb' : i = b
      · rw [if_pos hb', if_pos (by omega)] at hY
        cases hY
        exact (hn a X ha hX).symm
      · rw [if_neg hb'] at hY
        exact h.ap a b X Y hab hX hY
  · rw [List.getElem?_set] at hX
    by_cases ha : i = a
    · rw [if_pos ha, if_pos (by omega)] at hX
      cases hX
      exact hb x hx
    · rw [if_neg ha] at hX
      exact Nat.lt_of_lt_of_le (h.lt a X hX x hx) hs
theorem Sep.add {w w' : World} {Fs : List (List Nat)} (h : Sep w Fs) {N : List Nat} (hN : ∀ x ∈ N, w.heap.size ≤ x) (hb : ∀ x ∈ N, x < w'.heap.size) (hs : w.heap.size ≤ w'.heap.size) : Sep w' (N :: Fs) := by
  have hn : ∀ (j : Nat) (B : List Nat), Fs[j]? = some B → Ap N B := fun j B hB x hx hy => by
    have := hN x hx; have := h.lt j B hB x hy; omega
  refine ⟨fun a b X Y hab hX hY => ?_, fun a X hX x hx => ?_⟩
  · cases a with
    | zero =>
      cases b with
      | zero => exact absurd rfl hab
      | succ b => simp at hX hY; subst hX; exact hn b Y hY
    | succ a =>
      cases b with
      | zero => simp at hX hY; subst hY; exact (hn a X hX).symm
      | succ b => simp at hX hY; exact h.ap a b X Y (by omega) hX hY
  · cases a with
    | zero => simp at hX; subst hX; exact hb x hx
    | succ a => simp at hX; exact Nat.lt_of_lt_of_le (h.lt a X hX x hx) hs
/-- One footprint grows, and a new one comes that is apart from it. -/
theorem Sep.putAdd {w w' : World} {Fs : List (List Nat)} (h : Sep w Fs) (i : Nat) {A A' N : List Nat} (hA : Fs[i]? = some A) (hf : ∀ x ∈ A', x ∈ A ∨ w.heap.size ≤ x) (hb : ∀ x ∈ A', x < w'.heap.size) (hs : w.heap.size ≤ w'.heap.size)
    (hN : ∀ x ∈ N, w.heap.size ≤ x) (hNb : ∀ x ∈ N, x < w'.heap.size) (hAN : ∀ x ∈ A', x ∉ N) : Sep w' (N :: Fs.set i A') := by
  have hp := h.put i hA hf hb hs
  have hi := (List.getElem?_eq_some_iff.1 hA).1
  have hn : ∀ (j : Nat) (B : List Nat), (Fs.set i A')[j]? = some B → Ap N B := fun j B hB x hx hy => by
    rw [List.getElem?_set] at hB
    by_cases hj : i = j
    · rw [if_pos hj, if_pos (by omega)] at hB
      cases hB
      exact hAN x hy hx
    · rw [if_neg hj] at hB
      have := hN x hx; have := h.lt j B hB x hy; omega
  refine ⟨fun a b X Y hab hX hY => ?_, fun a X hX x hx => ?_⟩
  · cases a with
    | zero =>
      cases b with
      | zero => exact absurd rfl hab
      | succ b => simp only [List.getElem?_cons_zero, List.getElem?_cons_succ, Option.some.injEq] at hX hY; subst hX; exact hn b Y hY
    | succ a =>
      cases b with
      | zero => simp only [List.getElem?_cons_zero, List.getElem?_cons_succ, Option.some.injEq] at hX hY; subst hY; exact (hn a X hX).symm
      | succ b => simp only [List.getElem?_cons_succ] at hX hY; exact hp.ap a b X Y (by omega) hX hY
  · cases a with
    | zero => simp only [List.getElem?_cons_zero, Option.some.injEq] at hX; subst hX; exact hNb x hx
    | succ a => simp only [List.getElem?_cons_succ] at hX; exact hp.lt a X hX x hx
theorem fresh_cons {c : Nat} {F F' : List Nat} {w : World} (h : Fresh F' F w) : ∀ x ∈ c :: F', x ∈ c :: F ∨ w.heap.size ≤ x := fun x hx => by
  rcases List.mem_cons.1 hx with rfl | hx
  · exact Or.inl (by simp)
  · exact (h x hx).imp (fun h => List.mem_cons_of_mem _ h) id
/-- A field cut to texts of four hundred octets. -/
def cutF (f : Fd) : Fd := ⟨f.n.extract 0 (min f.n.size 400), f.v.extract 0 (min f.v.size 400), f.nv⟩
def smallL (l : List Fd) : List Fd := (l.take 20).map cutF
theorem cutF_sz (f : Fd) : (cutF f).n.size ≤ 400 ∧ (cutF f).v.size ≤ 400 := by
  unfold cutF
  simp only [ByteArray.size_extract]
  omega
theorem smallL_sz {l : List Fd} : ∀ f ∈ smallL l, f.n.size ≤ 400 ∧ f.v.size ≤ 400 := by
  intro f hf
  obtain ⟨g, _, rfl⟩ := List.mem_map.1 hf
  exact cutF_sz g
theorem smallL_len (l : List Fd) : (smallL l).length ≤ 20 := by unfold smallL; rw [List.length_map, List.length_take]; omega
set_option maxRecDepth 100000 in
theorem encsize_eq {W w : World} {c : Nat} {F : List Nat} {p m : Nat} {es : List Fd} {least last : Nat} {called : Bool} (h : EH W w c F p m es least last called) :
    Calls Try.prog 19 #[.pointer (some ⟨c, 0, none⟩)] w fun e w' => e = .returned (.int .i64 (tot es)) ∧ w = w' := by
  have c0 : World.cell? w ⟨c, 0, none⟩ = some (.pointer (some ⟨p, 0, none⟩)) := h.head.cell rfl
  have HH := Lib.hid h.tab
  go_enter Try.func19, Try.ntmps19
  go_wp2_with fail
  refine (H_size _ HH.out).mono ?_; rintro e w1 ⟨rfl, rfl⟩
  go_wp2_with fail
  go_ret
  exact ⟨rfl, rfl⟩
set_option maxRecDepth 100000 in
theorem encmax_eq {W w : World} {c : Nat} {F : List Nat} {p m : Nat} {es : List Fd} {least last : Nat} {called : Bool} (h : EH W w c F p m es least last called) :
    Calls Try.prog 22 #[.pointer (some ⟨c, 0, none⟩)] w fun e w' => e = .returned (.int .i64 m) ∧ w = w' := by
  have c0 : World.cell? w ⟨c, 0, none⟩ = some (.pointer (some ⟨p, 0, none⟩)) := h.head.cell rfl
  have HH := Lib.hid h.tab
  go_enter Try.func22, Try.ntmps22
  go_wp2_with fail
  refine (H_max _ HH.out).mono ?_; rintro e w1 ⟨rfl, rfl⟩
  go_wp2_with fail
  go_ret
  exact ⟨rfl, rfl⟩
set_option maxRecDepth 100000 in
theorem decsize_eq {W w : World} {d : Nat} {F : List Nat} {p m : Nat} {es : List Fd} {limit : Nat} {list : Int} {broken : Bool} (h : DH W w d F p m es limit list broken) :
    Calls Try.prog 19 #[.pointer (some ⟨d, 0, none⟩)] w fun e w' => e = .returned (.int .i64 (tot es)) ∧ w = w' := by
  have c0 : World.cell? w ⟨d, 0, none⟩ = some (.pointer (some ⟨p, 0, none⟩)) := h.head.cell rfl
  have HH := Lib.hid h.tab
  go_enter Try.func19, Try.ntmps19
  go_wp2_with fail
  refine (H_size _ HH.out).mono ?_; rintro e w1 ⟨rfl, rfl⟩
  go_wp2_with fail
  go_ret
  exact ⟨rfl, rfl⟩
set_option maxRecDepth 100000 in
theorem decmax_eq {W w : World} {d : Nat} {F : List Nat} {p m : Nat} {es : List Fd} {limit : Nat} {list : Int} {broken : Bool} (h : DH W w d F p m es limit list broken) :
    Calls Try.prog 22 #[.pointer (some ⟨d, 0, none⟩)] w fun e w' => e = .returned (.int .i64 m) ∧ w = w' := by
  have c0 : World.cell? w ⟨d, 0, none⟩ = some (.pointer (some ⟨p, 0, none⟩)) := h.head.cell rfl
  have HH := Lib.hid h.tab
  go_enter Try.func22, Try.ntmps22
  go_wp2_with fail
  refine (H_max _ HH.out).mono ?_; rintro e w1 ⟨rfl, rfl⟩
  go_wp2_with fail
  go_ret
  exact ⟨rfl, rfl⟩
set_option maxRecDepth 100000 in
set_option maxHeartbeats 4000000 in
theorem same_fds {w : World} {va vb : Value} {l : List Fd} (ha : FdsOf w va l) (hb : FdsOf w vb l) :
    Calls Try.prog 20 #[va, vb] w fun e w' => e = .returned (.bool true) ∧ Chg [] w w' := by
  obtain ⟨a, ca, rfl, hca, hcam⟩ := ha.len
  obtain ⟨b, cb, rfl, hcb, hcbm⟩ := hb.len
  unfold maxLen at hcam hcbm
  have HA := Lib.hid ha; have HB := Lib.hid hb
  clear ha hb
  go_enter Try.func20, Try.ntmps20
  go_wp2_with fail
  go_loopw [5] (fun iv wr => ∃ k : Nat, k ≤ l.length ∧ iv = .int .i64 k ∧ Chg [] w wr) (fun iv _ => l.length - (intOf iv).toNat)
  case atStart => exact ⟨0, Nat.zero_le _, rfl, Chg.refl _⟩
  case round =>
    obtain ⟨k, hk, rfl, hc⟩ := hrel
    by_cases hlt : k < l.length
    · obtain ⟨f, hf⟩ : ∃ f, l[k]? = some f := ⟨_, List.getElem?_eq_getElem hlt⟩
      have hA2 := HA.out.chg0 hc
      have hB2 := HB.out.chg0 hc
      obtain ⟨b1, o1, rfl, hb1, hc1⟩ := FdsOf.cells hA2 (by omega)
      obtain ⟨b2, o2, rfl, hb2, hc2⟩ := FdsOf.cells hB2 (by omega)
      obtain ⟨e0, e1, e2⟩ := hc1 k f hf
      obtain ⟨g0, g1, g2⟩ := hc2 k f hf
      have HC := Lib.hid hc
      have hkI : (k : Int) < (l.length : Int) := by omega
      clear hc hc1 hc2 hA2 hB2 hf
      go_wp2_with fail
      go_quiet (fail)
      go_wp2_with fail
      go_roundw
      case rel => exact ⟨k + 1, by omega, by go_num, HC.out.drewN _⟩
      case measure => simp [intOf]; omega
    · obtain rfl : l.length = k := by omega
      have HC := Lib.hid hc
      clear hc
      go_wp2_with fail
      go_ret
      exact ⟨rfl, HC.out⟩
set_option maxRecDepth 100000 in
set_option maxHeartbeats 4000000 in
theorem small_any {w : World} {v : Value} {l : List Fd} (h : FdsOf w v l) (hi : ∀ f ∈ l, f.In) :
    Calls Try.prog 17 #[v] w fun e w' => ∃ rv, e = .returned rv ∧ OwnF w' w.heap.size rv (smallL l) ∧ Chg [] w w' := by
  obtain ⟨a, cap, rfl, hca, hcam⟩ := h.len
  unfold maxLen at hcam
  have HH := Lib.hid h; have HI := Lib.hid hi
  clear h hi
  go_enter Try.func17, Try.ntmps17
  go_wp2_with fail
  go_loopw [3, 4] (fun ov iv wr => ∃ k : Nat, k ≤ l.length ∧ k ≤ 20 ∧ iv = .int .i64 k ∧ OwnF wr w.heap.size ov ((l.take k).map cutF) ∧ Chg [] w wr) (fun _ iv _ => l.length - (intOf iv).toNat)
  case atStart => exact ⟨0, Nat.zero_le _, Nat.zero_le _, rfl, OwnR.nil _ _, Chg.refl _⟩
  case round =>
    obtain ⟨k, hk, hk2, rfl, ho, hc⟩ := hrel
    by_cases hlt : k < l.length
    · have g0 : decide ((k : Int) < (l.length : Int)) = true := decide_eq_true (by omega)
      by_cases h20 : k < 20
      · have g1 : decide ((k : Int) < 20) = true := decide_eq_true (by omega)
        obtain ⟨f, hf⟩ : ∃ f, l[k]? = some f := ⟨_, List.getElem?_eq_getElem hlt⟩
        have hfi := HI.out f (List.mem_of_getElem? hf)
        unfold Fd.In at hfi
        have hA2 := HH.out.chg0 hc
        obtain ⟨b1, o1, rfl, hb1, hc1⟩ := FdsOf.cells hA2 (by omega)
        obtain ⟨e0, e1, e2⟩ := hc1 k f hf
        obtain ⟨A, hA⟩ : ∃ A : Nat, A = min f.n.size 400 := ⟨_, rfl⟩
        obtain ⟨B, hB⟩ : ∃ B : Nat, B = min f.v.size 400 := ⟨_, rfl⟩
        have eA : min (f.n.size : Int) 400 = (A : Int) := by omega
        have eB : min (f.v.size : Int) 400 = (B : Int) := by omega
        have lA : (A : Int) ≤ (f.n.size : Int) := by omega
        have lB : (B : Int) ≤ (f.v.size : Int) := by omega
        have lA0 : (0 : Int) ≤ (A : Int) := by omega
        have lB0 : (0 : Int) ≤ (B : Int) := by omega
        have hkI : (k : Int) < (l.length : Int) := by omega
        have hcut : cutF f = ⟨f.n.extract 0 A, f.v.extract 0 B, f.nv⟩ := by rw [hA, hB]; rfl
        have hsn : (l.take (k + 1)).map cutF = (l.take k).map cutF ++ [cutF f] := by rw [List.take_add_one, hf]; simp
        have hOl : ((l.take k).map cutF).length ≤ 20 := by rw [List.length_map, List.length_take]; omega
        obtain ⟨L, hL⟩ : ∃ L, L = (l.take k).map cutF := ⟨_, rfl⟩
        rw [← hL] at ho hsn hOl
        rw [hcut] at hsn
        have HSN := Lib.hid hsn
        have hws := hc.size
        have HC := Lib.hid hc; have HO := Lib.hid ho
        clear hc hc1 hA2 hf hA hB hcut hsn ho hL
        go_upto_region 8 with fail
        obtain ⟨q, hq⟩ : ∃ q, q = wr.heap.size := ⟨_, rfl⟩
        obtain ⟨g, hg⟩ : ∃ g : Fd, g = ⟨f.n.extract 0 A, f.v.extract 0 B, f.nv⟩ := ⟨_, rfl⟩
        have hgn : f.n.extract 0 A = g.n := by rw [hg]
        have hgv : f.v.extract 0 B = g.v := by rw [hg]
        have hgb : f.nv = g.nv := by rw [hg]
        have HSN2 : Hid ((l.take (k + 1)).map cutF = L ++ [g]) := Lib.hid (by rw [HSN.out, hg])
        rw [hgn, hgv, hgb, ← hq]
        have HQ := Lib.hid (At.new' (w := wr) (o := FN g) hq.symm)
        have HO4 := Lib.hid (OwnR.alloc HO.out (FN g)); have HC4 := Lib.hid (HC.out.alloc (FN g))
        have hs4 : q + 1 ≤ (wr.alloc (FN g)).heap.size := by rw [hq]; simp
        have hqw : w.heap.size ≤ q := by omega
        clear HO HC HSN e0 e1 e2 hgn hgv hgb hg hq
        generalize wr.alloc (FN g) = w4 at *
        have y0 : World.cell? w4 ⟨q, 0, none⟩ = some (.string g.n) := HQ.out.cell rfl
        have y1 : World.cell? w4 ⟨q, 1, none⟩ = some (.string g.v) := HQ.out.cell rfl
        have y2 : World.cell? w4 ⟨q, 2, none⟩ = some (.bool g.nv) := HQ.out.cell rfl
        go_wp2_with (at_builtin; refine app_row encF_len encF_one 26 Try.underlying26 infoF rfl (by decide) rfl _ _ rfl w.heap.size u3 L rfl (OwnR.alloc HO4.out (FN g)) _ [g] rfl (one_field w4 g) (by simp [maxLen]; omega) (by simp; omega) (by simp; omega) ?_)
        intro v' w6 hown' hch' hfr'
        go_wp2_with fail
        go_roundw
        case rel => exact ⟨k + 1, by omega, by omega, by go_num, by rw [HSN2.out]; exact hown', (HC4.out.alloc (FN g)).trans hch' (fun x hx => Or.inr (OwnR.lo HO4.out x hx))⟩
        case measure => simp [intOf]; omega
      · have g1 : decide ((k : Int) < 20) = false := decide_eq_false (by omega)
        have hk3 : smallL l = (l.take k).map cutF := by unfold smallL; rw [show k = 20 by omega]
        have HC := Lib.hid hc; have HO := Lib.hid ho; have HK := Lib.hid hk3
        clear hc ho hk3
        go_wp2_with fail
        go_ret
        exact ⟨_, rfl, by rw [HK.out]; exact HO.out, HC.out⟩
    · have g0 : decide ((k : Int) < (l.length : Int)) = false := decide_eq_false (by omega)
      have hk3 : smallL l = (l.take k).map cutF := by unfold smallL; rw [show k = l.length by omega, List.take_length, List.take_of_length_le (by omega)]
      have HC := Lib.hid hc; have HO := Lib.hid ho; have HK := Lib.hid hk3
      clear hc ho hk3
      go_wp2_with fail
      go_ret
      exact ⟨_, rfl, by rw [HK.out]; exact HO.out, HC.out⟩
end Go.Proofs.Ytmoeioaahampaaa.Tb.Hp
namespace Go.Proofs.Ytmoeioaahampaaa.Tb.Hp
open Go.ChangeShapes Go.WideShapes Go.ChangeAt Go.RowKit
open Go.Proofs.Ytmoeioaahampaaa.B Go.Proofs.Ytmoeioaahampaaa.Hi Go.Proofs.Ytmoeioaahampaaa.Tb
open Go.Proofs.Ytmoeioaahampaaa.Hf (bx need enc dec bitsOf)
set_option linter.unusedVariables false
set_option linter.unusedSimpArgs false

theorem bx_str (s : ByteArray) : (⟨(bx s).toArray⟩ : ByteArray) = s := by simp [bx]
theorem findR_at {es : List Fd} {f : Fd} (h : (findR es f).2 = true) : atR es ((findR es f).1 : Int) = (f.un, true) := by
  unfold findR at h ⊢
  cases hq : (allF es).findIdx? (fun x => decide (x = f.un)) with
  | none => rw [hq] at h; simp at h
  | some i =>
    obtain ⟨hi, h1, _⟩ := List.findIdx?_eq_some_iff_getElem.1 hq
    have h1 := of_decide_eq_true h1
    exact atR_in (es := es) (k := i) (f := f.un) (by rw [List.getElem?_eq_getElem hi, h1])
theorem findR_name {es : List Fd} {f : Fd} (h0 : (findR es f).1 ≠ 0) : ∃ g, atR es ((findR es f).1 : Int) = (g, true) ∧ g.n = f.n := by
  unfold findR at h0 ⊢
  cases hq : (allF es).findIdx? (fun x => decide (x = f.un)) with
  | some i =>
    obtain ⟨hi, h1, _⟩ := List.findIdx?_eq_some_iff_getElem.1 hq
    have h1 := of_decide_eq_true h1
    exact ⟨f.un, atR_in (es := es) (k := i) (f := f.un) (by rw [List.getElem?_eq_getElem hi, h1]), rfl⟩
  | none =>
    rw [hq] at h0
    simp only at h0 ⊢
    unfold nm at h0 ⊢
    cases hr : (allF es).findIdx? (fun x => decide (x.n = f.n)) with
    | none => rw [hr] at h0; simp at h0
    | some i =>
      obtain ⟨hi, h1, _⟩ := List.findIdx?_eq_some_iff_getElem.1 hr
      have h1 := of_decide_eq_true h1
      exact ⟨(allF es)[i], atR_in (es := es) (k := i) (f := (allF es)[i]) (List.getElem?_eq_getElem hi), h1⟩
theorem textR_kept (v t : List UInt8) (hl : v.length ≤ 100000) : textR (putT v ++ t) false = (v, t, false) := by
  unfold textR
  rw [if_neg (by simp), (kept v t hl).1]
  simp
theorem bx_len (s : ByteArray) : (bx s).length = s.size := size_list s
theorem nameR_back {es : List Fd} {f : Fd} (hn : f.n.size ≤ 100000) (t : List UInt8) :
    nameR es (findR es f).1 ((if (findR es f).1 = 0 then putT (bx f.n) else []) ++ t) false = (f.n, t, false) := by
  unfold nameR
  by_cases h0 : (findR es f).1 = 0
  · rw [if_pos h0, if_pos h0, textR_kept _ _ (by rw [bx_len]; exact hn)]
    show ((⟨(bx f.n).toArray⟩ : ByteArray), t, false) = _
    rw [bx_str]
  · rw [if_neg h0, if_neg h0]
    obtain ⟨g, h1, h2⟩ := findR_name h0
    rw [h1]
    simp [h2]
theorem litR_back {first : UInt8} {P : Nat} {nv : Bool} {m : Nat} {es : List Fd} {f : Fd} (h1 : 1 ≤ P) (h2 : P ≤ 8) (he : es.length ≤ 2048) (hn : f.n.size ≤ 100000) (hv : f.v.size ≤ 100000) (t : List UInt8) :
    litR P nv m es (lit first P (findR es f).1 f ++ t) = (⟨f.n, f.v, nv⟩, t, false, if P = 6 then addS ⟨f.n, f.v, nv⟩ m es else es) := by
  have hi : (findR es f).1 ≤ 61 + es.length := findR_le
  have hb := (back (f := first) (P := P) (V := (findR es f).1) h1 h2 (by omega) ((if (findR es f).1 = 0 then putT (bx f.n) else []) ++ (putT (bx f.v) ++ t))).1
  have hl : lit first P (findR es f).1 f ++ t = putN first.toNat P (findR es f).1 ++ ((if (findR es f).1 = 0 then putT (bx f.n) else []) ++ (putT (bx f.v) ++ t)) := by
    unfold lit
    rw [putI_in h1 h2 (by omega)]
    simp only [List.append_assoc]
  rw [hl]
  unfold litR
  simp only [hb, List.drop_left]
  rw [show decide ((0 : Nat) ≠ 0) = false from rfl, nameR_back hn]
  simp only
  rw [textR_kept _ _ (by rw [bx_len]; exact hv)]
  simp only [bx_str, and_true]
theorem lit_head {first : UInt8} {P : Nat} {es : List Fd} {f : Fd} (h1 : 1 ≤ P) (h2 : P ≤ 8) (he : es.length ≤ 2048) : ∃ c r, lit first P (findR es f).1 f = c :: r ∧ c.toNat / 2 ^ P = first.toNat / 2 ^ P := by
  have hi : (findR es f).1 ≤ 61 + es.length := findR_le
  obtain ⟨c, r, e1, e2, _⟩ := (back (f := first) (P := P) (V := (findR es f).1) h1 h2 (by omega) []).2.2
  refine ⟨c, r ++ ((if (findR es f).1 = 0 then putT (bx f.n) else []) ++ putT (bx f.v)), ?_, e2⟩
  unfold lit
  rw [putI_in h1 h2 (by omega)]
  show putN first.toNat P (findR es f).1 ++ _ = _
  rw [e1]; rfl
theorem fieldR_back {m : Nat} {es : List Fd} {f : Fd} (he : es.length ≤ 2048) (hn : f.n.size ≤ 100000) (hv : f.v.size ≤ 100000) (t : List UInt8) :
    fieldR m es ((encF m es f).1 ++ t) = (f, t, false, (encF m es f).2) ∧ ∃ c r, (encF m es f).1 = c :: r ∧ c.toNat / 32 ≠ 1 := by
  have hi : (findR es f).1 ≤ 61 + es.length := findR_le
  unfold encF
  by_cases hnv : f.nv = true
  · rw [if_pos hnv]
    obtain ⟨c, r, e1, e2⟩ := lit_head (first := 16) (P := 4) (f := f) (by omega) (by omega) he
    have e3 : c.toNat / 16 = 1 := e2
    refine ⟨?_, c, r, e1, by omega⟩
    unfold fieldR
    rw [show (lit 16 4 (findR es f).1 f ++ t).headD 0 = c by rw [e1]; rfl, if_neg (by omega), if_neg (by omega), if_neg (by omega), litR_back (by omega) (by omega) he hn hv, if_neg (by omega), e3]
    show ((⟨f.n, f.v, true⟩ : Fd), t, false, es) = (f, t, false, es)
    rw [show (⟨f.n, f.v, true⟩ : Fd) = f by rw [← hnv]]
  · have hnv : f.nv = false := by simpa using hnv
    rw [if_neg (by rw [hnv]; simp)]
    have hf : f = ⟨f.n, f.v, false⟩ := by rw [← hnv]
    by_cases hfd : (findR es f).2 = true
    · rw [if_pos hfd]
      obtain ⟨b1, _, c, r, e1, e2, _⟩ := back (f := 128) (P := 7) (V := (findR es f).1) (by omega) (by omega) (by omega) t
      have e3 : c.toNat / 128 = 1 := e2
      have ep : (putI 128 7 ((findR es f).1 : Int)).1 = putN 128 7 (findR es f).1 := by
        show (putI 128 ((7 : Nat) : Int) ((findR es f).1 : Int)).1 = _
        rw [putI_in (by omega) (by omega) (by omega)]; rfl
      rw [ep]
      refine ⟨?_, c, r, e1, by omega⟩
      unfold fieldR
      rw [show (putN 128 7 (findR es f).1 ++ t).headD 0 = c by rw [show putN 128 7 (findR es f).1 = c :: r from e1]; rfl, if_pos (by omega)]
      have b2 : getI (putN 128 7 (findR es f).1 ++ t) 7 = ((findR es f).1, (putN 128 7 (findR es f).1).length, 0) := b1
      rw [b2]
      simp only [findR_at hfd, List.drop_left]
      rw [show f.un = f by rw [hf]; rfl]; rfl
    · rw [if_neg hfd]
      by_cases hm : m < f.sz
      · rw [if_pos hm]
        obtain ⟨c, r, e1, e2⟩ := lit_head (first := 0) (P := 4) (f := f) (by omega) (by omega) he
        have e3 : c.toNat / 16 = 0 := e2
        refine ⟨?_, c, r, e1, by omega⟩
        unfold fieldR
        rw [show (lit 0 4 (findR es f).1 f ++ t).headD 0 = c by rw [e1]; rfl, if_neg (by omega), if_neg (by omega), if_neg (by omega), litR_back (by omega) (by omega) he hn hv, if_neg (by omega), e3]
        show ((⟨f.n, f.v, false⟩ : Fd), _) = _
        rw [← hf]
      · rw [if_neg hm]
        obtain ⟨c, r, e1, e2⟩ := lit_head (first := 64) (P := 6) (f := f) (by omega) (by omega) he
        have e3 : c.toNat / 64 = 1 := e2
        refine ⟨?_, c, r, e1, by omega⟩
        unfold fieldR
        rw [show (lit 64 6 (findR es f).1 f ++ t).headD 0 = c by rw [e1]; rfl, if_neg (by omega), if_neg (by omega), if_pos (by omega), litR_back (by omega) (by omega) he hn hv, if_pos rfl, ← hf]
theorem fldR_back {m : Nat} : ∀ (L es : List Fd) (k : Nat), (∀ f ∈ L, f.n.size ≤ 100000 ∧ f.v.size ≤ 100000) → Inv m es → (encL m es L).1.length ≤ k → fldR m k es (encL m es L).1 = (L, false, (encL m es L).2) := by
  intro L
  induction L with
  | nil => intro es k _ _ _; exact fldR_stop (by simp [encL])
  | cons f L ih =>
    intro es k hs hi hk
    obtain ⟨hb, c, r, e1, _⟩ := fieldR_back (m := m) (es := es) (f := f) hi.len (hs f (by simp)).1 (hs f (by simp)).2 (encL m (encF m es f).2 L).1
    have hL : (encL m es (f :: L)).1 = (encF m es f).1 ++ (encL m (encF m es f).2 L).1 := rfl
    rw [hL] at hk ⊢
    have hlen : 0 < ((encF m es f).1 ++ (encL m (encF m es f).2 L).1).length := by rw [e1]; simp
    rw [List.length_append, e1, List.length_cons] at hk
    obtain ⟨k', rfl⟩ : ∃ k', k = k' + 1 := ⟨k - 1, by omega⟩
    rw [fldR_step hlen, hb, if_neg (by simp)]
    simp only
    rw [ih _ k' (fun g hg => hs g (List.mem_cons_of_mem _ hg)) (encF_inv hi f) (by omega)]
    rfl
theorem encL_head {m : Nat} {es L : List Fd} (hi : Inv m es) (hs : ∀ f ∈ L, f.n.size ≤ 100000 ∧ f.v.size ≤ 100000) : ¬ (0 < (encL m es L).1.length ∧ ((encL m es L).1.headD 0).toNat / 32 = 1) := by
  intro ⟨h1, h2⟩
  cases L with
  | nil => simp [encL] at h1
  | cons f L =>
    obtain ⟨_, c, r, e1, e2⟩ := fieldR_back (m := m) (es := es) (f := f) hi.len (hs f (by simp)).1 (hs f (by simp)).2 []
    have hL : (encL m es (f :: L)).1 = (encF m es f).1 ++ (encL m (encF m es f).2 L).1 := rfl
    rw [hL, e1] at h2
    exact e2 h2
theorem updR_back {limit k m n : Nat} {es : List Fd} (hn : n ≤ 65536) (hl : n ≤ limit) (t : List UInt8) : updR limit (k + 1) m es (upd n ++ t) = updR limit k n (Tb.fit 0 n es) t := by
  obtain ⟨b1, _, c, r, e1, e2, _⟩ := back (f := 32) (P := 5) (V := n) (by omega) (by omega) (by omega) t
  have e3 : c.toNat / 32 = 1 := e2
  have ep : upd n = putN 32 5 n := by
    show (putI 32 ((5 : Nat) : Int) (n : Int)).1 = _
    rw [putI_in (by omega) (by omega) (by omega)]; rfl
  have b2 : getI (putN 32 5 n ++ t) 5 = (n, (putN 32 5 n).length, 0) := b1
  have e1' : putN 32 5 n = c :: r := e1
  have hh : hgt (n : Int) = n := by unfold hgt; omega
  rw [ep, updR_step (by rw [e1']; simp) (by rw [e1']; exact e3), b2, if_neg (by simp; omega)]
  simp only [List.drop_left, hh]
theorem upd_pos (n : Nat) (hn : n ≤ 65536) : 1 ≤ (upd n).length := by
  obtain ⟨_, _, c, r, e1, _, _⟩ := back (f := 32) (P := 5) (V := n) (by omega) (by omega) (by omega) []
  have ep : upd n = putN 32 5 n := by
    show (putI 32 ((5 : Nat) : Int) (n : Int)).1 = _
    rw [putI_in (by omega) (by omega) (by omega)]; rfl
  rw [ep, show putN 32 5 n = c :: r from e1]; simp
/-- What was written is read, with the table that the encoder has. -/
theorem decB_encB {m : Nat} {es : List Fd} {least last limit : Nat} {called : Bool} {list : Int} {L : List Fd} (hi : Inv m es) (hs : ∀ f ∈ L, f.n.size ≤ 100000 ∧ f.v.size ≤ 100000)
    (h0 : called = false → m ≤ limit) (h1 : called = true → last ≤ limit ∧ last ≤ 65536) :
    decB m es limit list false (encB m es least last called L).1 =
      if list < (tot L : Int) then ([], 4, false, (encB m es least last called L).2.1, (encB m es least last called L).2.2) else (L, 0, false, (encB m es least last called L).2.1, (encB m es least last called L).2.2) := by
  have key : ∀ (M : Nat) (ES : List Fd) (l : List UInt8), Inv M ES → M ≤ limit → updR limit l.length m es l = ((encL M ES L).1, false, M, ES) →
      decB m es limit list false l = if list < (tot L : Int) then ([], 4, false, M, (encL M ES L).2) else (L, 0, false, M, (encL M ES L).2) := by
    intro M ES l hI hM hU
    have hf : (false || decide (limit < M)) = false := by rw [decide_eq_false (by omega)]; rfl
    have hX : finR false M ES (encL M ES L).1 = (L, false, (encL M ES L).2) := by
      unfold finR
      rw [if_neg (by simp)]
      exact fldR_back L ES _ hs hI (Nat.le_refl _)
    rw [decB_fin hU rfl, hf, hX, if_neg (by simp)]
  cases called with
  | false =>
    have e : encB m es least last false L = ((encL m es L).1, m, (encL m es L).2) := by
      show ([] ++ (encL m es L).1, m, (encL m es L).2) = _
      rfl
    rw [e]
    exact key m es _ hi (h0 rfl) (updR_stop (encL_head hi hs))
  | true =>
    obtain ⟨hl1, hl2⟩ := h1 rfl
    by_cases hlt : least < last
    · have e : encB m es least last true L = ((upd least ++ upd last) ++ (encL last (Tb.fit 0 last (Tb.fit 0 least es)) L).1, last, (encL last (Tb.fit 0 last (Tb.fit 0 least es)) L).2) := by unfold encB encU; rw [if_pos rfl, if_pos hlt]
      rw [e]
      have hI : Inv last (Tb.fit 0 last (Tb.fit 0 least es)) := (hi.set (m' := least) (by omega)).set (by omega)
      refine key _ _ _ hI hl1 ?_
      have hp1 := upd_pos least (by omega)
      have hp2 := upd_pos last (by omega)
      simp only [List.append_assoc]
      obtain ⟨k, hk⟩ : ∃ k, (upd least ++ (upd last ++ (encL last (Tb.fit 0 last (Tb.fit 0 least es)) L).1)).length = k + 1 + 1 := ⟨(upd least ++ (upd last ++ (encL last (Tb.fit 0 last (Tb.fit 0 least es)) L).1)).length - 2, by simp only [List.length_append]; omega⟩
      rw [hk, updR_back (by omega) (by omega), updR_back (by omega) (by omega), updR_stop (encL_head hI hs)]
    · have e : encB m es least last true L = (upd last ++ (encL last (Tb.fit 0 last es) L).1, last, (encL last (Tb.fit 0 last es) L).2) := by unfold encB encU; rw [if_pos rfl, if_neg hlt]
      rw [e]
      have hI : Inv last (Tb.fit 0 last es) := hi.set (by omega)
      refine key _ _ _ hI hl1 ?_
      have hp2 := upd_pos last (by omega)
      obtain ⟨k, hk⟩ : ∃ k, (upd last ++ (encL last (Tb.fit 0 last es) L).1).length = k + 1 := ⟨(upd last ++ (encL last (Tb.fit 0 last es) L).1).length - 1, by simp only [List.length_append]; omega⟩
      rw [hk, updR_back (by omega) (by omega), updR_stop (encL_head hI hs)]
end Go.Proofs.Ytmoeioaahampaaa.Tb.Hp
