/- server: read and writable, by its reference. And what follows it. -/
import Derived.Test.YtldcihjddebciaaGreatDSdH
import Derived.Deep.MidRow
import Derived.Laws.ResultCell
set_option linter.unusedSimpArgs false
set_option linter.unusedVariables false
set_option maxRecDepth 100000
set_option maxHeartbeats 4000000
namespace Go.Proofs.YtldcihjddebciaaGreat
open Go.RowKit
theorem fI_pos {db : List At} {h : Int} {K : Nat} (hK : findN db h = K) (hi : K < db.length) : fI db h = (K : Int) := by
 unfold fI
 rw [hK,if_pos hi]
theorem results_cell1 {fn : Func} {p : Tmp} {ty : TypeId} (h : fn.results = #[.cell p ty]) (tmps : Array Value) (P : Program) (w : World) :
 (results fn tmps).run P w = ((asAddr (tmps.getD p undef)).run P w).andThen fun a w₁ => (loadVar ty a).run P w₁ := by
 simp only [results,h]
 simp [Sem.run_bind,Result.andThen]
theorem aenc_one {qs : List (At × Value)} {w : World} (h : ∀ q ∈ qs,BV w q.2 q.1.bs) : ∀ u ∈ qs.flatMap aenc,u.oneCell' = true := fun u hu => by
 obtain ⟨q,hq,hu⟩ := List.mem_flatMap.1 hu
 obtain ⟨a,c,e⟩ := (h q hq).form
 simp only [aenc,e,List.mem_cons,List.not_mem_nil,or_false] at hu
 rcases hu with rfl | rfl | rfl | rfl | rfl <;> rfl
end Go.Proofs.YtldcihjddebciaaGreat
