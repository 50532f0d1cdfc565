/- Small lemmas for the walks of this seat. -/
import Derived.Test.YtldcihjddebciaaRows
import Derived.WalkKit
import Derived.WalkLawsBesides
import Derived.Lib.Hide
namespace Go.Proofs.Ytldcihjddebciaa
open Go.RowKit

theorem ret_eq {k : IntKind} {a b : Int} (h : a = b) : Ending.returned (.int k a) = .returned (.int k b) := by rw [h]
theorem ret_bool {a b : Bool} (h : a = b) : Ending.returned (.bool a) = .returned (.bool b) := by rw [h]
/-- what lay below reads on -/
theorem bcell {W w1 : World} (hb : Below W.heap.size W w1) : (∀ b o, b < W.heap.size → w1.cell? ⟨b, o, none⟩ = W.cell? ⟨b, o, none⟩) ∧ (∀ b o, b < W.heap.size → w1.frozen? ⟨b, o, none⟩ = W.frozen? ⟨b, o, none⟩) :=
  ⟨fun b o h => hb.cell (p := ⟨b, o, none⟩) h, fun b o h => hb.frozen (p := ⟨b, o, none⟩) h⟩
theorem and64 {x y : Int} {X Y : Nat} (hx : x = X) (hy : y = Y) (h1 : X < 18446744073709551616) (h2 : Y < 18446744073709551616) : bits .and .u64 x y = ((X &&& Y : Nat) : Int) := by
  subst hx hy
  exact u64_and_nat _ _ h1 h2
theorem or64 {x y : Int} {X Y : Nat} (hx : x = X) (hy : y = Y) (h1 : X < 18446744073709551616) (h2 : Y < 18446744073709551616) : bits .or .u64 x y = ((X ||| Y : Nat) : Int) := by
  subst hx hy
  exact u64_or_nat _ _ h1 h2
theorem xor16 {x y : Int} {X Y : Nat} (hx : x = X) (hy : y = Y) (h1 : X < 65536) (h2 : Y < 65536) : bits .xor .u16 x y = ((X ^^^ Y : Nat) : Int) := by
  subst hx hy
  exact u16_xor_nat _ _ h1 h2
theorem tmod_bd (a n : Int) (h : 0 < n) : -n < a.tmod n ∧ a.tmod n < n :=
  ⟨Int.lt_tmod_of_pos a h, Int.tmod_lt_of_pos a h⟩
/-- a cell of a new block -/
theorem cellNew (w : World) (cs : Array Value) (t : TypeId) (j : Nat) (v : Value) (h : cs[j]? = some v) : (w.alloc (.cells cs t)).cell? ⟨w.heap.size, j, none⟩ = some v := by
  have e := heap_alloc_new w (Obj.cells cs t)
  unfold World.cell?
  simp only [e]
  exact h
end Go.Proofs.Ytldcihjddebciaa
