/- client: whole structs stored into the side. -/
import Derived.Test.YtldcihjddebciaaClJ
import Derived.Deep.MidRow
namespace Go.Proofs.Ytldcihjddebciaa
open Go.RowKit

/-- cells laid over cells -/
def over : Nat → List Value → List Value → List Value
  | _, [], cs => cs
  | o, v :: vs, cs => over (o + 1) vs (cs.set o v)
theorem Blk.setCells {b : Nat} {t : TypeId} : ∀ {vs : List Value} {o : Nat} {w : World} {cs : List Value}, Blk w b t cs → Blk (w.setCells b o vs) b t (over o vs cs)
  | [], _, _, _, h => h
  | v :: vs, o, w, cs, h => by
    rw [World.setCells]
    exact Blk.setCells (h.setAt v)
theorem setCells_grown (b : Nat) : ∀ (vs : List Value) (o : Nat) (w : World), w.grownBy (w.setCells b o vs) (some b)
  | [], _, w => World.grownBy.refl w _
  | v :: vs, o, w => by
    rw [World.setCells]
    exact (set1 w ⟨b, o, none⟩ v).trans (setCells_grown b vs (o + 1) _)
theorem Blk.range {w : World} {b : Nat} {t : TypeId} {cs : List Value} (h : Blk w b t cs) (o : Nat) (vs : List Value) (he : ∀ j v, vs[j]? = some v → cs[o + j]? = some v) : w.rangeAt b o vs := fun j v hv => h.cell (he j v hv)
theorem Blk.there {w : World} {b : Nat} {t : TypeId} {cs : List Value} (h : Blk w b t cs) (o n : Nat) (hn : o + n ≤ cs.length) : w.there b o n := fun j hj => by
  refine ⟨?_, h.frozen _⟩
  rw [h.cell (j := o + j) (v := cs[o + j]'(by omega)) (List.getElem?_eq_getElem _)]
  rfl
end Go.Proofs.Ytldcihjddebciaa
