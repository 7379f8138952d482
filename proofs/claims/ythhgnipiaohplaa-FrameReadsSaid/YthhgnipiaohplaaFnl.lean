/-
  Next: whatever is held.
-/
import Derived.Test.YthhgnipiaohplaaFnr
namespace Go.Proofs.Ythhgnipiaohplaa.Fr
open Go.ChangeShapes Go.WideShapes Go.ChangeAt Go.RowKit
open Go.Proofs.Ythhgnipiaohplaa.B
set_option linter.unusedVariables false
set_option linter.unusedSimpArgs false

theorem next_any {W w : World} {p : Nat} {hv : Value} {l : List UInt8} {mx : Nat} {dn : Bool} (h : PH W w p hv l mx dn) (hl : l.length ≤ 100000000) :
    Calls Try.prog 21 #[.pointer (some ⟨p, 0, none⟩)] w fun e w' => NextPost W w p hv l mx dn e w' (nxt mx l) := by
  by_cases h9 : l.length < 9
  · rw [nxt_short h9]
    exact next_short h h9
  · obtain ⟨a, b, c, k, fl, s1, s2, s3, s4, r, rfl⟩ := split9 (l := l) (by omega)
    show Calls _ _ _ _ fun e w' => NextPost W w p hv _ mx dn e w' (nxt9 mx a b c k fl s1 s2 s3 s4 r)
    have hr9 : r.length ≤ 100000000 := by simp at hl; omega
    by_cases hm : mx < threeN a b c
    · have hx : nxt9 mx a b c k fl s1 s2 s3 s4 r = .broken 6 := by unfold nxt9; rw [if_pos hm]
      rw [hx]
      exact next_big h (by simp) hm
    · by_cases hr : r.length < threeN a b c
      · have hx : nxt9 mx a b c k fl s1 s2 s3 s4 r = .none := by unfold nxt9; rw [if_neg hm, if_pos hr]
        rw [hx]
        exact next_wait h (by omega) hr
      · exact next_read h (by omega) (by omega) hr9
end Go.Proofs.Ythhgnipiaohplaa.Fr
