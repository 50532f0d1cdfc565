/- facts of cells, in a list. -/
import Derived.Test.YtldcihjddebciaaStr
import Derived.Deep.QuietTactic
import Derived.BigQuiet
import Derived.WalkSmall
import Derived.Deep.RegionHeld3
namespace Go.Proofs.Ytldcihjddebciaa
open Go.RowKit

theorem kc {W W' : World} {b j : Nat} {x : Value} (h : W.cell? ⟨b, j, none⟩ = some x) (hb : Below W.heap.size W W') : W'.cell? ⟨b, j, none⟩ = some x :=
  (hb.cell (p := ⟨b, j, none⟩) (World.block_lt_of_cell? W _ h)).trans h
/-- facts of cells, in a list -/
def Cells (W : World) : List (Nat × Nat × Value) → Prop
  | [] => True
  | (b, o, v) :: l => W.cell? ⟨b, o, none⟩ = some v ∧ Cells W l
def blk (b o : Nat) : Nat → List Value → List (Nat × Nat × Value)
  | _, [] => []
  | j, x :: l => (b, o + j, x) :: blk b o (j + 1) l
theorem Cells.keep {W W' : World} : ∀ {l : List (Nat × Nat × Value)}, Cells W l → Below W.heap.size W W' → Cells W' l
  | [], _, _ => trivial
  | (_, _, _) :: _, h, hb => ⟨kc h.1 hb, Cells.keep h.2 hb⟩
theorem Cells.app {W : World} : ∀ {l l' : List (Nat × Nat × Value)}, Cells W l → Cells W l' → Cells W (l ++ l')
  | [], _, _, h' => h'
  | (_, _, _) :: _, _, h, h' => ⟨h.1, Cells.app h.2 h'⟩
theorem Cells.drew {W : World} : ∀ {l : List (Nat × Nat × Value)}, Cells W l → Cells W.drew l
  | [], _ => trivial
  | (_, _, _) :: _, h => ⟨h.1, Cells.drew h.2⟩
theorem cells_from (w : World) (xs : List Value) (t : TypeId) : ∀ (j : Nat) (l : List Value), (∀ i x, l[i]? = some x → xs[j + i]? = some x) → Cells (w.alloc (.cells xs.toArray t)) (blk w.heap.size 0 j l)
  | _, [], _ => trivial
  | j, x :: l, h => by
    refine ⟨cellNew w xs.toArray t (0 + j) x (by have := h 0 x rfl; simpa using this), cells_from w xs t (j + 1) l fun i y hy => ?_⟩
    have := h (i + 1) y (by simpa using hy)
    rwa [show j + 1 + i = j + (i + 1) by omega]
theorem cells_new (w : World) (xs : List Value) (t : TypeId) : Cells (w.alloc (.cells xs.toArray t)) (blk w.heap.size 0 0 xs) := cells_from w xs t 0 xs fun i x h => by simpa using h
end Go.Proofs.Ytldcihjddebciaa
