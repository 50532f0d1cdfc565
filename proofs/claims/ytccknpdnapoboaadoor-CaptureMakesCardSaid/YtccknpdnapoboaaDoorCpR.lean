/- capture.need; the closure that recovers. -/
import Derived.Test.YtccknpdnapoboaaDoorCpB
import Derived.Defers
import Derived.Recover
import Derived.Laws.Pointers
namespace Go.Proofs.YtccknpdnapoboaaDoor
open Go.RowKit

/-- why reading ends -/
def stp (E : Int) (r : Bool) : PanicEntry := { v := .iface 68 (.agg #[.int .i64 E]), recovered := r }
theorem need_ok (E : Int) (w : World) : Calls Tryd.prog 35 #[.bool true, .int .i64 E] w fun e w' => e = .returned (.tuple #[]) ∧ w = w' := by
  go_enter Tryd.func35, Tryd.ntmps35
  go_wp2
  go_end0
  exact ⟨rfl, rfl⟩
theorem need_no (E : Int) (w : World) : Calls Tryd.prog 35 #[.bool false, .int .i64 E] w fun e w' => e = .panicked [stp E false] ∧ w = w' := by
  go_enter Tryd.func35, Tryd.ntmps35
  go_wp2
  exact ⟨rfl, rfl, rfl⟩
theorem assert_yes (W : World) (E : Int) : (Instr.typeAssert (.iface 68 (.agg #[.int .i64 E])) 20 68 true).run Tryd.prog W = .ok (.tuple #[.agg #[.int .i64 E], .bool true]) W := by kernel_rfl
theorem assert_no (W : World) : (Instr.typeAssert .nilIface 20 68 true).run Tryd.prog W = .ok (.tuple #[.agg #[.int .i64 0], .bool false]) W := by kernel_rfl
/-! one operation of a body that recovers -/
/-- what is not reckoned -/
structure Box (p : Prop) : Prop where
  out : p
theorem wpOpsS_val {P : Program} {ops : Array Oper} {Q : Exit → Act → List Frame → World → Prop} {i : Nat} {rest : List Nat} {a : Act} {cs : List Frame} {w : World} (o : Oper) (v : Value) (w' : World) (ho : ops[i]? = some o) (hw : Region.wanted o (yielded ops a.tmps) = true)
    (hr : (execOp a.eval o).run P w = .ok (.value v) w') (h : Box (wpOpsS P ops Q rest (a.put o.dst v) cs w')) : Box (wpOpsS P ops Q (i :: rest) a cs w) := by
  refine ⟨?_⟩
  simp only [wpOpsS, ho, hw, if_true, hr, Oper.upon]
  exact h.out
theorem wpOpsS_void {P : Program} {ops : Array Oper} {Q : Exit → Act → List Frame → World → Prop} {i : Nat} {rest : List Nat} {a : Act} {cs : List Frame} {w : World} (o : Oper) (w' : World) (ho : ops[i]? = some o) (hw : Region.wanted o (yielded ops a.tmps) = true)
    (hr : (execOp a.eval o).run P w = .ok .skip w') (h : Box (wpOpsS P ops Q rest (a.put o.dst undef) cs w')) : Box (wpOpsS P ops Q (i :: rest) a cs w) := by
  refine ⟨?_⟩
  simp only [wpOpsS, ho, hw, if_true, hr, Oper.upon]
  exact h.out
theorem wpOpsS_some {P : Program} {ops : Array Oper} {Q : Exit → Act → List Frame → World → Prop} {i : Nat} {rest : List Nat} {a : Act} {cs cs' : List Frame} {w : World} (o : Oper) (v : Value) (w' : World) (ho : ops[i]? = some o) (hw : Region.wanted o (yielded ops a.tmps) = true)
    (hr : (execOp a.eval o).run P w = .ok .recover w') (hc : recoverD cs = some (v, cs')) (h : Box (wpOpsS P ops Q rest (a.put o.dst v) cs' w')) : Box (wpOpsS P ops Q (i :: rest) a cs w) := by
  refine ⟨?_⟩
  simp only [wpOpsS, ho, hw, if_true, hr, hc]
  exact h.out
theorem wpOpsS_none {P : Program} {ops : Array Oper} {Q : Exit → Act → List Frame → World → Prop} {i : Nat} {rest : List Nat} {a : Act} {cs : List Frame} {w : World} (o : Oper) (w' : World) (ho : ops[i]? = some o) (hw : Region.wanted o (yielded ops a.tmps) = true)
    (hr : (execOp a.eval o).run P w = .ok .recover w') (hc : recoverD cs = none) (h : Box (wpOpsS P ops Q rest (a.put o.dst .nilIface) cs w')) : Box (wpOpsS P ops Q (i :: rest) a cs w) := by
  refine ⟨?_⟩
  simp only [wpOpsS, ho, hw, if_true, hr, hc]
  exact h.out
set_option linter.unusedSimpArgs false in
set_option linter.unusedVariables false in
set_option maxRecDepth 100000 in
set_option maxHeartbeats 400000 in
theorem catch_panicking (p : Addr) (E : Int) (x : Value) (w : World) (hc : w.cell? p = some x) (hz : w.frozen? p = false) (hp : p.block < w.heap.size) :
    CallsD Tryd.prog 34 #[.pointer (some p)] (.panicking [stp E false]) w fun e u' w' =>
      e = .returned (.tuple #[]) ∧ u' = .panicking [stp E true] ∧ w' = (w.alloc (.cells #[.int .i64 E] 68)).setCell p (.int .i64 E) := by
  have ay := fun W => assert_yes W E
  refine callsD_of_wpS Tryd.func34 rfl fun c₀ cs hu => ?_
  apply wpS_seq
  apply wpS_region
  rw [show Tryd.f34.ntmps = 11 from rfl]
  simp only [List.size_toArray, List.length_cons, List.length_nil, Nat.reduceAdd, Nat.reduceSub, Array.replicate, List.replicate, List.append_toArray, List.cons_append, List.nil_append]
  rw [show List.range 8 = [0, 1, 2, 3, 4, 5, 6, 7] from rfl]
  generalize hQ : Exit.thenS _ _ = Q
  refine Box.out ?_
  obtain ⟨c1, hc1⟩ : ∃ c1 : Frame, c1 = { c₀ with mode := .panicking [stp E true] } := ⟨_, rfl⟩
  refine wpOpsS_some _ (.iface 68 (.agg #[.int .i64 E])) w (by rw [List.getElem?_toArray]; rfl) (by simp [Region.wanted]) (by go_simp) (cs' := c1 :: cs) (by rw [hc1]; simp [recoverD, hu, stp]) ?_
  simp only [Act.put, List.setIfInBounds_toArray, List.set_cons_zero, List.set_cons_succ]
  refine wpOpsS_val _ (.tuple #[.agg #[.int .i64 E], .bool true]) w (by rw [List.getElem?_toArray]; rfl) (by simp [Region.wanted]) (by go_simp) ?_
  simp only [Act.put, List.setIfInBounds_toArray, List.set_cons_zero, List.set_cons_succ]
  refine wpOpsS_val _ (.tuple #[.agg #[.int .i64 E], .bool true]) w (by rw [List.getElem?_toArray]; rfl) (by simp [Region.wanted]) (by go_simp) ?_
  simp only [Act.put, List.setIfInBounds_toArray, List.set_cons_zero, List.set_cons_succ]
  refine wpOpsS_val _ (.agg #[.int .i64 E]) w (by rw [List.getElem?_toArray]; rfl) (by simp [Region.wanted]) (by go_simp) ?_
  simp only [Act.put, List.setIfInBounds_toArray, List.set_cons_zero, List.set_cons_succ]
  refine wpOpsS_val _ (.bool true) w (by rw [List.getElem?_toArray]; rfl) (by simp [Region.wanted]) (by go_simp) ?_
  simp only [Act.put, List.setIfInBounds_toArray, List.set_cons_zero, List.set_cons_succ]
  refine wpOpsS_val _ (.pointer (some ⟨w.heap.size, 0, none⟩)) (w.alloc (.cells #[.int .i64 0] 68)) (by rw [List.getElem?_toArray]; rfl) (by simp [Region.wanted]) (by go_simp) ?_
  simp only [Act.put, List.setIfInBounds_toArray, List.set_cons_zero, List.set_cons_succ]
  refine wpOpsS_void _ (w.alloc (.cells #[.int .i64 E] 68)) (by rw [List.getElem?_toArray]; rfl) (by simp [Region.wanted]) (by go_simp) ?_
  simp only [Act.put]
  refine wpOpsS_val _ (.bool true) (w.alloc (.cells #[.int .i64 E] 68)) (by rw [List.getElem?_toArray]; rfl) (by simp [Region.wanted]) (by go_simp) ?_
  simp only [Act.put, List.setIfInBounds_toArray, List.set_cons_zero, List.set_cons_succ]
  refine ⟨?_⟩
  simp only [wpOpsS]
  rw [← hQ]
  simp only [Exit.thenS]
  have hb1 : Below w.heap.size w (w.alloc (.cells #[.int .i64 E] 68)) := (Below.refl _ _).alloc (Nat.le_refl _) _
  have hc2 := (hb1.cell hp).trans hc
  have hz2 := (hb1.frozen hp).trans hz
  clear hc hz hb1
  apply wpS_of_wp
  go_wp2
  refine ⟨rfl, _, by rw [hc1], _, by simp [results, Tryd.results34, go_sem] <;> rfl, rfl, rfl, rfl⟩
set_option linter.unusedSimpArgs false in
set_option linter.unusedVariables false in
set_option maxRecDepth 100000 in
set_option maxHeartbeats 400000 in
theorem catch_idle (p : Addr) (w : World) :
    CallsD Tryd.prog 34 #[.pointer (some p)] .returning w fun e u' w' =>
      e = .returned (.tuple #[]) ∧ u' = .returning ∧ w' = w.alloc (.cells #[.int .i64 0] 68) := by
  have ay := fun W => assert_no W
  refine callsD_of_wpS Tryd.func34 rfl fun c₀ cs hu => ?_
  apply wpS_seq
  apply wpS_region
  rw [show Tryd.f34.ntmps = 11 from rfl]
  simp only [List.size_toArray, List.length_cons, List.length_nil, Nat.reduceAdd, Nat.reduceSub, Array.replicate, List.replicate, List.append_toArray, List.cons_append, List.nil_append]
  rw [show List.range 8 = [0, 1, 2, 3, 4, 5, 6, 7] from rfl]
  generalize hQ : Exit.thenS _ _ = Q
  refine Box.out ?_
  refine wpOpsS_none _ w (by rw [List.getElem?_toArray]; rfl) (by simp [Region.wanted]) (by go_simp) (by simp [recoverD, hu]) ?_
  simp only [Act.put, List.setIfInBounds_toArray, List.set_cons_zero, List.set_cons_succ]
  refine wpOpsS_val _ (.tuple #[.agg #[.int .i64 0], .bool false]) w (by rw [List.getElem?_toArray]; rfl) (by simp [Region.wanted]) (by go_simp) ?_
  simp only [Act.put, List.setIfInBounds_toArray, List.set_cons_zero, List.set_cons_succ]
  refine wpOpsS_val _ (.tuple #[.agg #[.int .i64 0], .bool false]) w (by rw [List.getElem?_toArray]; rfl) (by simp [Region.wanted]) (by go_simp) ?_
  simp only [Act.put, List.setIfInBounds_toArray, List.set_cons_zero, List.set_cons_succ]
  refine wpOpsS_val _ (.agg #[.int .i64 0]) w (by rw [List.getElem?_toArray]; rfl) (by simp [Region.wanted]) (by go_simp) ?_
  simp only [Act.put, List.setIfInBounds_toArray, List.set_cons_zero, List.set_cons_succ]
  refine wpOpsS_val _ (.bool false) w (by rw [List.getElem?_toArray]; rfl) (by simp [Region.wanted]) (by go_simp) ?_
  simp only [Act.put, List.setIfInBounds_toArray, List.set_cons_zero, List.set_cons_succ]
  refine wpOpsS_val _ (.pointer (some ⟨w.heap.size, 0, none⟩)) (w.alloc (.cells #[.int .i64 0] 68)) (by rw [List.getElem?_toArray]; rfl) (by simp [Region.wanted]) (by go_simp) ?_
  simp only [Act.put, List.setIfInBounds_toArray, List.set_cons_zero, List.set_cons_succ]
  refine wpOpsS_void _ (w.alloc (.cells #[.int .i64 0] 68)) (by rw [List.getElem?_toArray]; rfl) (by simp [Region.wanted]) (by go_simp) ?_
  simp only [Act.put]
  refine wpOpsS_val _ (.bool false) (w.alloc (.cells #[.int .i64 0] 68)) (by rw [List.getElem?_toArray]; rfl) (by simp [Region.wanted]) (by go_simp) ?_
  simp only [Act.put, List.setIfInBounds_toArray, List.set_cons_zero, List.set_cons_succ]
  refine ⟨?_⟩
  simp only [wpOpsS]
  rw [← hQ]
  simp only [Exit.thenS]
  apply wpS_of_wp
  go_wp2
  refine ⟨rfl, .returning, by cases c₀; simp at hu; subst hu; rfl, _, by simp [results, Tryd.results34, go_sem] <;> rfl, rfl, rfl, rfl⟩
end Go.Proofs.YtccknpdnapoboaaDoor
