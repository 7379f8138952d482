/-
  From a walk that ends in 'true' and leaves all that was there as it was to the given row's 'post'.
-/
import Derived.Test.YthhgnipiaohplaaBase
import Derived.Carry
import Derived.SizedLaws
import Derived.Deep.Slices
namespace Go.Proofs.Ythhgnipiaohplaa.B
open Go.ChangeShapes Go.WideShapes Go.ChangeAt Go.RowKit
set_option linter.unusedVariables false
set_option linter.unusedSimpArgs false

section
variable {H : Type} {enc : TypeId × Value → H} {P : Program}

theorem trodAll_stays (hl : laidOutB P = true) {W W' : World} {sp' : Nat → Bool} : ∀ {ts : List TypeId} {vs : List Value} {ds : List (DataW H)} {ps : List MemPlace},
    (∀ t ∈ ts, P.readableRec t = true ∧ t < P.types.size) → DataW.TrodAll enc P W 0 (fun _ => true) true ts vs ds ps →
    (∀ p ∈ ps, W.sameAt W' p) → (∀ p ∈ ps, sp' p.block = true) → DataW.TrodAll enc P W' 0 sp' true ts vs ds ps
  | [], vs, ds, ps, _, h, _, _ => by
    obtain ⟨rfl, rfl, rfl⟩ := trodAll_nil h
    exact trodAll_mk0
  | t :: ts, vs, ds, ps, hr, h, hs, hsp => by
    obtain ⟨v, vs', d, ds', p, q, rfl, rfl, rfl, h1, h2⟩ := trodAll_cons h
    have hr1 := hr t (List.mem_cons_self)
    exact ⟨p, q, WideElems.Trod_stays hl hr1.1 hr1.2 h1 (fun x hx => hs x (List.mem_append_left _ hx)) (fun x hx => hsp x (List.mem_append_left _ hx)),
      trodAll_stays hl (fun t' ht' => hr t' (List.mem_cons_of_mem _ ht')) h2 (fun x hx => hs x (List.mem_append_right _ hx)) (fun x hx => hsp x (List.mem_append_right _ hx)), rfl⟩

theorem trodAll_length {W : World} {b : Nat} {sp : Nat → Bool} {hd : Bool} : ∀ {ts : List TypeId} {vs : List Value} {ds : List (DataW H)} {ps : List MemPlace},
    DataW.TrodAll enc P W b sp hd ts vs ds ps → ds.length = ts.length
  | [], _, _, _, h => by obtain ⟨rfl, rfl, rfl⟩ := trodAll_nil h; rfl
  | t :: ts, _, _, _, h => by
    obtain ⟨v, vs', d, ds', p, q, rfl, rfl, rfl, h1, h2⟩ := trodAll_cons h
    simp [trodAll_length h2]

/-- The row's 'post' of a law: the walk answered true, and below the heap's size nothing has turned. -/
theorem post_true {f : Func} {s : ChangeSpec} {tb : TypeId} {W W' : World} {args : Array Value} {ds gs : List (DataW H)} {before : List MemPlace}
    (hl : laidOutB P = true) (hp : ∀ t ∈ f.params.toList, P.readableRec t = true ∧ t < P.types.size) (hrt : f.resultTypes = #[tb]) (hb : P.underlying tb = some .bool)
    (hv : s.vars = []) (hfn : ∀ ds : List (DataW H), ds.length = f.params.toList.length → s.fn H (ds ++ []) = { results := [.lit (.bool true)], args := ds })
    (hW : DataW.Whole enc P f.params.toList s.vars false W args.toList ds gs before) (hbl : Below W.heap.size W W') :
    s.post enc P f false true false false W args (.bool true) W' := by
  have hW0 := hW
  have hlt := hW.lt
  obtain ⟨p, q, hA, hV, rfl, hz, hn⟩ := hW
  rw [hv] at hV
  obtain ⟨rfl, rfl⟩ := trodVars_none hV
  have hf := hfn ds (trodAll_length hA)
  have hlt' : ∀ x ∈ p, x.block < W.heap.size := fun x hx => by simpa using hlt x (by simpa using hx)
  refine ⟨ds, [], p ++ [], [], p, [], hW0, ?_, ?_, ?_, hbl.frame _, fun h => by cases h⟩
  · rw [hf, hrt]
    exact trodAll_cons_mk (shut_bool hb true) trodAll_mk0
  · rw [hf]
    exact trodAll_stays hl hp hA (fun x hx => hbl.same (hlt' x hx)) (fun x hx => by simpa using hlt' x hx)
  · rw [hf, hv]
    rfl
end

/-- The step of a law's row. -/
theorem lift_law {C : Checked} {os : Os} {f : FuncId} {fn : Func} {s : ChangeSpec} {conds : List PathCond} {H : Type} {enc : TypeId × Value → H} {tb : TypeId}
    (own : ownKnob C.prog.godebug = none) (started : os.Started) (noInit : C.prog.inits.idxOf? f = none) (hfn : C.prog.funcs[f]? = some fn)
    (witness : ∃ (w : World) (tape : Tape) (i : Input), w.os = os ∧ (w.forCall tape i).Shaped C.prog ∧ i.vars = [] ∧ Input.okWide C.prog (w.forCall tape i) .any w.heap.size f i ∧
      s.pre6 enc C.prog fn conds false (w.forCall tape i).memory i.args ∧ ({} : Assume).holds C.prog (lone (Frame.enter C.prog f i.args .normal) [] (w.forCall tape i)))
    (hl : laidOutB C.prog = true) (hp : ∀ t ∈ fn.params.toList, C.prog.readableRec t = true ∧ t < C.prog.types.size) (hrt : fn.resultTypes = #[tb]) (hb : C.prog.underlying tb = some .bool)
    (hv : s.vars = []) (hsp : ∀ ds : List (DataW H), ds.length = fn.params.toList.length → s.fn H (ds ++ []) = { results := [.lit (.bool true)], args := ds })
    (contract : ∀ (W : World) (base : Nat) (args : Array Value) (ds : List (DataW H)) (before : List MemPlace),
      (∀ (j : Nat) t v, fn.params[j]? = some t → args[j]? = some v → Value.okWide C.prog W .any base t v) →
      DataW.TrodAll enc C.prog W 0 (fun _ => true) true fn.params.toList args.toList ds before →
      (∀ p ∈ before, p.block < W.heap.size) →
      (DataW.weightsEach C.prog fn.params.toList ds).all (· ≤ reachBytes) = true →
      Calls C.prog f args W fun e W' => e = .returned (.bool true) ∧ Below W.heap.size W W') :
    ReturnsInHanded {} C os f .any (s.pre6 enc C.prog fn conds false) (s.post enc C.prog fn false true false false) := by
  refine returnsInHanded_of_change_sized own started noInit hfn witness ?_
  intro W base args ds gs before hval hW hcnd hsz _
  have hlt := hW.lt
  have hW0 := hW
  obtain ⟨p, q, hA, hV, rfl, hz, hn⟩ := hW
  rw [hv] at hV
  obtain ⟨rfl, rfl⟩ := trodVars_none hV
  have hvt : s.plain.varTypes C.prog = [] := by simp [DataSpec.varTypes, ChangeSpec.plain, hv]
  refine (contract W base args ds p hval hA (fun x hx => by simpa using hlt x (by simpa using hx)) (by simpa [hvt] using hsz)).mono ?_
  rintro e W' ⟨rfl, hbl⟩
  exact ⟨_, rfl, post_true hl hp hrt hb hv hsp hW0 hbl⟩

/-- A slice whose elements are 'zs', each laid out as 'enc' says in 'size' cells. -/
def SliceOf {α : Type} (W : World) (v : Value) (size : Nat) (enc : α → List Value) (zs : List α) : Prop :=
  ∃ a cap, v = .slice a zs.length cap ∧ zs.length ≤ cap ∧ cap ≤ maxLen ∧ (0 < zs.length → ∃ b off, a = some ⟨b, off, none⟩ ∧ b < W.heap.size ∧
    ∀ i z, zs[i]? = some z → ∀ j, j < size → W.cell? ⟨b, off + i * size + j, none⟩ = (enc z)[j]?)

theorem list_of_fn {α : Type} (n : Nat) (p : Nat → α → Prop) (h : ∀ i, i < n → ∃ z, p i z) : ∃ zs : List α, zs.length = n ∧ ∀ i z, zs[i]? = some z → p i z := by
  induction n with
  | zero => exact ⟨[], rfl, by simp⟩
  | succ n ih =>
    obtain ⟨zs, hl, hz⟩ := ih (fun i hi => h i (by omega))
    obtain ⟨z, hp⟩ := h n (by omega)
    refine ⟨zs ++ [z], by simp [hl], fun i y hy => ?_⟩
    rcases Nat.lt_trichotomy i n with h1 | h1 | h1
    · rw [List.getElem?_append_left (by omega)] at hy; exact hz i y hy
    · subst h1; rw [List.getElem?_append_right (by omega), hl] at hy; simp at hy; subst hy; exact hp
    · rw [List.getElem?_eq_none (by simp; omega)] at hy; cases hy

section
variable {H : Type} {enc : TypeId × Value → H} {P : Program}
/-- An argument that is a struct of plain cells. -/
theorem open_arg_struct {α : Type} {W : World} {r : Reach} {b0 : Nat} {t : TypeId} {fs : Array Field} {v : Value} {d : DataW H} {ps : List MemPlace} (size : Nat) (encE : α → List Value) (good : α → Prop)
    (ht : P.underlying t = some (.struct fs)) (hsz : P.cellsOf t = size) (hval : Value.okWide P W r b0 t v)
    (hdec : ∀ n cs x, cs.length = size → DataW.trod enc P W 0 (fun _ => true) true n t cs = some x → ∃ z, cs = encE z ∧ good z)
    (hd : DataW.Trod enc P W 0 (fun _ => true) true t v d ps) : ∃ z, v = .agg (encE z).toArray ∧ good z := by
  obtain ⟨fuel, hf⟩ := hd
  simp only [Value.okWide, ht] at hval
  obtain ⟨cs, rfl, hs, _⟩ := hval
  obtain ⟨z, hz, hg⟩ := hdec fuel cs.toList _ (by simpa [hsz] using hs) (by simpa [Value.cells] using hf)
  exact ⟨z, by rw [← hz], hg⟩
/-- An argument that is a slice. -/
theorem open_arg_slice {α : Type} {W : World} {r : Reach} {b0 : Nat} {t e : TypeId} {v : Value} {d : DataW H} {ps : List MemPlace} (size : Nat) (encE : α → List Value) (good : α → Prop)
    (ht : P.underlying t = some (.slice e)) (hsz : P.cellsOf e = size) (hpos : 0 < size) (hval : Value.okWide P W r b0 t v)
    (hdec : ∀ n cs x, cs.length = size → DataW.trod enc P W 0 (fun _ => true) true n e cs = some x → ∃ z, cs = encE z ∧ good z)
    (hd : DataW.Trod enc P W 0 (fun _ => true) true t v d ps) (hlt : ∀ p ∈ ps, p.block < W.heap.size) :
    ∃ zs : List α, (∀ z ∈ zs, good z) ∧ zs.length ≤ maxLen ∧ SliceOf W v size encE zs := by
  obtain ⟨fuel, hf⟩ := hd
  have hv1 : v.cells.toList = [v] := by
    cases v <;> first | rfl | (exfalso; simp [Value.okWide, ht, Cell.okWide, Cell.ok] at hval)
  rw [hv1] at hf
  rcases Deep.open_slice ht hf with ⟨h0, _⟩ | ⟨a, len, cap, m, n, D, Pl, h0, hb, hl, hm, hmm, hx, hc⟩
  · simp only [List.cons.injEq, and_true] at h0
    exact ⟨[], by simp, by simp [maxLen], none, 0, h0, by simp, by simp [maxLen], by simp⟩
  · simp only [List.cons.injEq, and_true] at h0
    simp at hmm; subst hmm
    rcases Nat.eq_zero_or_pos len with hz | hz
    · subst hz
      exact ⟨[], by simp, by simp [maxLen], some a, _, h0, by simp, hm, by simp⟩
    · have each : ∀ i, i < len → ∃ z, good z ∧ ∀ j, j < size → W.cell? ((a.add (i * size)).add j) = (encE z)[j]? := by
        intro i hi
        obtain ⟨cs', h1, h2⟩ := hc i (by omega)
        rw [hsz] at h1
        obtain ⟨_, hlen, hcell⟩ := World.cells?_some h1
        obtain ⟨z, rfl, hg⟩ := hdec n cs' _ hlen h2
        exact ⟨z, hg, fun j hj => hcell j hj⟩
      obtain ⟨zs, hzl, hzz⟩ := list_of_fn len _ each
      have hfirst : a.spot = none := by
        obtain ⟨cs', h1, h2⟩ := hc 0 (by omega)
        rw [hsz] at h1
        obtain ⟨_, hlen, hcell⟩ := World.cells?_some h1
        have h00 := hcell 0 (by omega)
        obtain ⟨x, hx⟩ : ∃ x, cs'[0]? = some x := ⟨_, List.getElem?_eq_getElem (by omega)⟩
        rw [hx] at h00
        simp [Addr.add, World.cell?] at h00
        cases hs : a.spot with
        | none => rfl
        | some q => rw [hs] at h00; revert h00; split <;> simp
      obtain ⟨b, off, sp⟩ := a
      simp only at hfirst; subst hfirst
      have hblk : b < W.heap.size := by
        have hp0 : MemPlace.cell b off ∈ ps := by
          have : ps = MemPlace.row ⟨b, off, none⟩ (m * P.cellsOf e) ++ (List.range m).flatMap Pl := congrArg Prod.snd hx
          rw [this]
          refine List.mem_append_left _ ?_
          unfold MemPlace.row
          refine List.mem_map.2 ⟨0, by rw [hsz]; simp only [List.mem_range]; exact Nat.mul_pos (by omega) hpos, by simp⟩
        exact hlt _ hp0
      refine ⟨zs, ?_, by omega, _, m, by rw [hzl]; exact h0, by omega, hm, fun _ => ⟨b, off, rfl, hblk, ?_⟩⟩
      · intro z hz'
        obtain ⟨i, hi⟩ := List.getElem?_of_mem hz'
        exact (hzz i z hi).1
      · intro i z hz' j hj
        rw [← (hzz i z hz').2 j hj]
        congr 1
        unfold Addr.add
        (repeat' split) <;> simp_all <;> omega
end
end Go.Proofs.Ythhgnipiaohplaa.B
