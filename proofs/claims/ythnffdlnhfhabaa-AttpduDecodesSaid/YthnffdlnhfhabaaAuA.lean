/- attpdu: the bytes of a PDU depend on its data alone. -/
import Derived.Test.YthnffdlnhfhabaaAtQ
import Derived.Test.YthnffdlnhfhabaaAtK
namespace Go.Proofs.Ythnffdlnhfhabaa
open Go.RowKit

theorem itB_of (k : Int) (t : It) : itB k t = itB k (itOf (dat t)) := rfl
theorem itsTo_of (k : Int) (its : List It) : its.flatMap (itB k) = (its.map (fun t => itOf (dat t))).flatMap (itB k) := by
  induction its with
  | nil => rfl
  | cons t l ih => rw [List.map_cons, List.flatMap_cons, List.flatMap_cons, ih, ← itB_of]
theorem elB_of (k : Int) (its : List It) (h : ∀ t ∈ its, t.bs.length = t.n) : elB k its = elB k (its.map (fun t => itOf (dat t))) := by
  cases its with
  | nil => rfl
  | cons t l =>
    have e := h t (by simp)
    have hn : elN k t = elN k (itOf (dat t)) := by
      unfold elN itOf dat
      simp only [e]
    have := itsTo_of k (t :: l)
    rw [List.map_cons] at this ⊢
    rw [elB, elB, hn, this]
theorem encP_of (ki ak : Int) (ha la hi lo : Nat) (of mt co : Int) (cm : Bool) (bs : List Nat) (its : List It) (h : ∀ t ∈ its, t.bs.length = t.n) : encP ki ak ha la hi lo of mt co cm bs its = encP ki ak ha la hi lo of mt co cm bs (its.map (fun t => itOf (dat t))) := by
  unfold encP flB fiB
  rw [elB_of ki its h]
end Go.Proofs.Ythnffdlnhfhabaa
