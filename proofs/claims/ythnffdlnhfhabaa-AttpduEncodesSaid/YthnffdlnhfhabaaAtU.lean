/- attpdu: the reference: the error of an element. -/
import Derived.Test.YthnffdlnhfhabaaAtS
namespace Go.Proofs.Ythnffdlnhfhabaa
open Go.RowKit

theorem Cells.fst {W : World} : ∀ {l l' : List (Nat × Nat × Value)}, Cells W (l ++ l') → Cells W l
  | [], _, _ => trivial
  | (_, _, _) :: _, _, h => ⟨h.1, Cells.fst h.2⟩
/-- what the walk of checkItem asks of the two other elements -/
def lastOf (k : Nat) (tp : It) : Nat := if k = 0 then 0 else max tp.ha tp.la
theorem chk1 {k : Int} {last L : Nat} {t : It} (h : unuI k t.la t.hi t.lo t.n = false) : chkIt k last L t = 1 := by unfold chkIt; rw [if_pos h]
theorem chk5 {k : Int} {last L : Nat} {t : It} (h : unuI k t.la t.hi t.lo t.n = true) (h0 : t.ha = 0) : chkIt k last L t = 5 := by unfold chkIt; rw [if_neg (by rw [h]; decide), if_pos h0]
theorem chk13 {k : Int} {last L : Nat} {t : It} (h : unuI k t.la t.hi t.lo t.n = true) (h0 : ¬ t.ha = 0) (h1 : t.ha ≤ last ∨ (k = 17 ∧ t.la < t.ha)) : chkIt k last L t = 13 := by unfold chkIt; rw [if_neg (by rw [h]; decide), if_neg h0, if_pos h1]
theorem chk11 {k : Int} {last L : Nat} {t : It} (h : unuI k t.la t.hi t.lo t.n = true) (h0 : ¬ t.ha = 0) (h1 : ¬ (t.ha ≤ last ∨ (k = 17 ∧ t.la < t.ha))) (h2 : sizeI k t.hi t.lo t.n ≠ L) : chkIt k last L t = 11 := by unfold chkIt; rw [if_neg (by rw [h]; decide), if_neg h0, if_neg h1, if_pos h2]
theorem chk0 {k : Int} {last L : Nat} {t : It} (h : unuI k t.la t.hi t.lo t.n = true) (h0 : ¬ t.ha = 0) (h1 : ¬ (t.ha ≤ last ∨ (k = 17 ∧ t.la < t.ha))) (h2 : sizeI k t.hi t.lo t.n = L) : chkIt k last L t = 0 := by unfold chkIt; rw [if_neg (by rw [h]; decide), if_neg h0, if_neg h1, if_neg (by rw [h2]; exact fun h => h rfl)]
end Go.Proofs.Ythnffdlnhfhabaa
