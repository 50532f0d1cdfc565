/- Appending to an empty literal: a new row, or none; nothing that was there is turned. -/
import Derived.Test.YtldcihjddebciaaSlArg2
namespace Go.Proofs.Ytldcihjddebciaa
open Go.RowKit

theorem SR.val {w : World} {v : Value} {n size : Nat} {cs : List Value} (h : SR w v n size cs) : ∃ ao cap, v = .slice ao n cap := by
  obtain ⟨_, _, _, ao, cap, rfl, _, _⟩ := h
  exact ⟨ao, cap, rfl⟩
/-- the slice is the call's own: what it lies in is block B or above -/
def Own (B : Nat) (v : Value) : Prop := ∀ k, v.ownBlock = some k → B ≤ k
theorem Own.mono {B B' : Nat} {v : Value} (h : Own B v) (hb : B' ≤ B) : Own B' v := fun k hk => Nat.le_trans hb (h k hk)
/-- reading and ownership -/
def SRO (B : Nat) (w : World) (v : Value) (n size : Nat) (cs : List Value) : Prop := SR w v n size cs ∧ Own B v
theorem SRO.below {B : Nat} {w w' : World} {v : Value} {n size : Nat} {cs : List Value} (h : SRO B w v n size cs) (hb : Below w.heap.size w w') : SRO B w' v n size cs := ⟨h.1.below hb, h.2⟩
theorem SRO.alloc {B : Nat} {w : World} {v : Value} {n size : Nat} {cs : List Value} (h : SRO B w v n size cs) (o : Obj) : SRO B (w.alloc o) v n size cs := h.below ((Below.refl _ _).alloc (Nat.le_refl _) _)
theorem SRO.drew {B : Nat} {w : World} {v : Value} {n size : Nat} {cs : List Value} (h : SRO B w v n size cs) : SRO B w.drew v n size cs := h.below (Below.refl _ _).drew
/-- a cell below is written -/
theorem SRO.set {B : Nat} {w : World} {v : Value} {n size : Nat} {cs : List Value} (h : SRO B w v n size cs) {p : Addr} (hp : p.block < B) (u : Value) : SRO B (w.setCell p u) v n size cs := by
  obtain ⟨⟨h1, h2, h3, ao, cap, rfl, hn, h4⟩, ho⟩ := h
  refine ⟨⟨h1, h2, h3, ao, cap, rfl, hn, fun h0 => ?_⟩, ho⟩
  obtain ⟨b, off, rfl, hlt, hc⟩ := h4 h0
  have hb := ho b (by simp [Value.ownBlock])
  refine ⟨b, off, rfl, by simpa [World.setCell] using hlt, fun j u hj => ?_⟩
  rw [← hc j u hj]
  exact World.cell?_of_block (Below.heap_setCell _ _ _ _ (by simp; omega))

theorem storeCells_no {P : Program} (w : World) (a : Addr) : (storeCells a []).run P w = .ok () w := by
  simp [storeCells]

theorem run_append_empty {P : Program} (w : World) (t ty e : TypeId) (i : TypeInfo) (z : Value) (size bytes : Nat) (ht : P.underlying t = some (.slice e)) (hi : P.info? e = some i) (hz : i.zero = some z)
    (hsize : i.size = size) (hby : i.bytes = bytes) (hzs : z.cells.size = size) (hsz : 0 < size) (g : Nat) (sv : Value) (m : Nat) (cs : List Value) (hsr : SR w sv m size cs) (hbytes : m * bytes ≤ 140737488355328) :
    ∃ v' w', (Builtin.append_ #[t, t] ty #[.slice (some ⟨g, 0, none⟩) 0 0, sv]).run P w = .ok v' w' ∧ SR w' v' m size cs ∧ Below w.heap.size w w' ∧ (v'.ownBlock = some g ∨ v'.ownBlock = some w.heap.size) ∧ v' ≠ .slice none 0 0 := by
  obtain ⟨hm, hl, h1, ao, cap, rfl, hnil, hc⟩ := hsr
  subst hsize
  subst hby
  by_cases h0 : m = 0
  · subst h0
    have hcs : cs = [] := List.eq_nil_of_length_eq_zero (by simpa using hl)
    subst hcs
    have hld : ∀ (x : Addr), (loadCells x 0).run P w = .ok #[] w := fun x => by simpa using run_loadCells_list (P := P) w x [] (by simp)
    refine ⟨.slice (some ⟨g, 0, none⟩) 0 0, w, ?_, ⟨Nat.zero_le _, by simp, by simp, some ⟨g, 0, none⟩, 0, rfl, fun h => (by cases h), fun h => absurd h (by simp)⟩, Below.refl _ _, .inl (by simp [Value.ownBlock]), by simp⟩
    cases ao <;> simp [Builtin.append_, run_underlying ht, sizeOf, typeInfo, hi, Builtin.lenOf, Builtin.firstCells, hld, storeCells_no]
  · obtain ⟨b, off, rfl, hlt, hcell⟩ := hc (by omega)
    have hr := run_append_grow (P := P) w t ty e i z ht hi hz ⟨g, 0, none⟩ 0 0 [] (by simp) (by simp) ⟨b, off, none⟩ m cap cs hl (fun j v hj => by rw [addr_add]; exact hcell j v hj) (by omega) (by unfold maxLen at hm; omega) (growslice_fits (by omega) (by simpa using hbytes))
    simp only [Nat.zero_add] at hr
    refine ⟨_, _, hr, ⟨hm, hl, h1, _, _, rfl, fun h => (by cases h), fun _ => ⟨w.heap.size, 0, rfl, by simp, fun j u hj => ?_⟩⟩, ((Below.refl w.heap.size w).drew).alloc (Nat.le_refl _) _, .inr (by simp [Value.ownBlock]), by simp⟩
    have := cellNew w.drew (#[] ++ cs.toArray ++ Builtin.zeroCells z.cells (grownCap w m 0 e - m)) e (0 + j) u (by
      rw [Nat.zero_add]
      have hjl := (List.getElem?_eq_some_iff.1 hj).1
      rw [Array.getElem?_append_left (by simpa using hjl)]
      simpa using hj)
    exact this

theorem wpList_append_empty {P : Program} {w : World} {ops : Array Oper} {rest : List Oper} {o : Oper} {a : Act} {Q : Exit → Act → World → Prop} (hgd : o.guard = none) (s x : Operand) (t : TypeId)
    (ho : o.op = .call { callee := .builtin .append, args := #[s, x], argTypes := #[t, t] })
    (e : TypeId) (i : TypeInfo) (z : Value) (size bytes : Nat) (ht : P.underlying t = some (.slice e)) (hi : P.info? e = some i) (hz : i.zero = some z)
    (hsize : i.size = size) (hby : i.bytes = bytes) (hzs : z.cells.size = size) (hsz : 0 < size) (g : Nat) (hs : a.eval s = .slice (some ⟨g, 0, none⟩) 0 0)
    (sv : Value) (m : Nat) (cs : List Value) (hx : a.eval x = sv) (hsr : SR w sv m size cs) (hbytes : m * bytes ≤ 140737488355328)
    (h : ∀ v' w', SR w' v' m size cs → Below w.heap.size w w' → (v'.ownBlock = some g ∨ v'.ownBlock = some w.heap.size) → v' ≠ .slice none 0 0 → wpList P ops Q rest (a.put o.dst v') w') : wpList P ops Q (o :: rest) a w := by
  refine wpList_plain hgd fun K hK => ?_
  obtain ⟨v', w', hr, h1, h2, h3, h4⟩ := run_append_empty (P := P) w t o.type e i z size bytes ht hi hz hsize hby hzs hsz g sv m cs hsr hbytes
  unfold Oper.wp execOp
  simp only [ho, resolve, invoke, builtin, Sem.run_bind, Sem.run_pure, Result.andThen_ok, List.map_toArray, List.map_cons, List.map_nil, hs, hx, hr]
  exact hK _ _ (h v' w' h1 h2 h3 h4)
/-- at a step of a region that draws -/
theorem step_append_empty {P : Program} {w : World} {ops : Array Oper} {o : Oper} {a : Act} {K : Act → World → Prop} {Q : Exit → Act → World → Prop} {E : Prop} (hgd : o.guard = none) (s x : Operand) (t : TypeId)
    (ho : o.op = .call { callee := .builtin .append, args := #[s, x], argTypes := #[t, t] })
    (e : TypeId) (i : TypeInfo) (z : Value) (size bytes : Nat) (ht : P.underlying t = some (.slice e)) (hi : P.info? e = some i) (hz : i.zero = some z)
    (hsize : i.size = size) (hby : i.bytes = bytes) (hzs : z.cells.size = size) (hsz : 0 < size) (g : Nat) (hs : a.eval s = .slice (some ⟨g, 0, none⟩) 0 0)
    (sv : Value) (m : Nat) (cs : List Value) (hx : a.eval x = sv) (hsr : SR w sv m size cs) (hbytes : m * bytes ≤ 140737488355328)
    (h : ∀ v' w', SR w' v' m size cs → Below w.heap.size w w' → (v'.ownBlock = some g ∨ v'.ownBlock = some w.heap.size) → v' ≠ .slice none 0 0 → K (a.put o.dst v') w') : if Region.wanted o (yielded ops a.tmps) = true then Oper.wp P o a w K Q else E := by
  have hw : Region.wanted o (yielded ops a.tmps) = true := by simp [Region.wanted, hgd]
  rw [if_pos hw]
  obtain ⟨v', w', hr, h1, h2, h3, h4⟩ := run_append_empty (P := P) w t o.type e i z size bytes ht hi hz hsize hby hzs hsz g sv m cs hsr hbytes
  unfold Oper.wp execOp
  simp only [ho, resolve, invoke, builtin, Sem.run_bind, Sem.run_pure, Result.andThen_ok, List.map_toArray, List.map_cons, List.map_nil, hs, hx, hr]
  exact h v' w' h1 h2 h3 h4
end Go.Proofs.Ytldcihjddebciaa
