/- server: prepare, by its reference. -/
import Derived.Test.YtldcihjddebciaaGreatDSdK
set_option linter.unusedSimpArgs false
set_option linter.unusedVariables false
set_option maxRecDepth 100000
set_option maxHeartbeats 4000000
namespace Go.Proofs.YtldcihjddebciaaGreat
open Go.RowKit
theorem run_app_own {P : Program} (w : World) (base : Nat) (t ty e : TypeId) (i : TypeInfo) (z : Value) (size bytes : Nat) (ht : P.underlying t = some (.slice e)) (hi : P.info? e = some i) (hz : i.zero = some z)
 (hsize : i.size = size) (hby : i.bytes = bytes) (hzs : z.cells.size = size) (hsz : 0 < size) (v : Value) (n : Nat) (xs : List Value) (hown : w.ownsRow base e size v n xs)
 (sv : Value) (m : Nat) (cs : List Value) (hsr : SR w sv m size cs) (h63 : n + m ≤ maxLen) (hbytes : (n + m) * bytes ≤ 140737488355328) (hbase : base ≤ w.heap.size) :
 ∃ v' w',(Builtin.append_ #[t,t] ty #[v,sv]).run P w = .ok v' w' ∧ w'.ownsRow base e size v' (n + m) (xs ++ cs) ∧ w.grownBy w' v.ownBlock := by
 obtain ⟨hm,hl,h1,ao,cap,rfl,hnil,hc⟩ := hsr
 cases ao with
 |none =>
  obtain ⟨rfl,rfl⟩ := hnil rfl
  have hcs : cs = [] := List.eq_nil_of_length_eq_zero (by simpa using hl)
  subst hcs
  exact ⟨v,w,run_append_owned_none (P := P) (w := w) base t ty e i size ht hi v n xs hown,by simpa using hown,World.grownBy.refl w _⟩
 |some ad =>
  obtain ⟨v',w',hr,h2,h3,_⟩ := run_append_own_at (P := P) w base t ty e i z size bytes ht hi hz hsize hby hzs hsz v n xs hown ad m cap cs hl (fun j u hj => by
   have hj' := (List.getElem?_eq_some_iff.1 hj).1
   obtain ⟨b,off,e0,_,hcs⟩ := hc (by
    rcases Nat.eq_zero_or_pos m with h0 | h0
    ·subst h0; omega
    ·exact h0)
   cases e0
   rw [addr_add]
   exact hcs j u hj) h1 h63 hbytes hbase
  exact ⟨v',w',hr,h2,h3⟩
theorem step_app_own {P : Program} {w : World} {ops : Array Oper} {o : Oper} {a : Act} {K : Act → World → Prop} {Q : Exit → Act → World → Prop} {E : Prop} (hgd : o.guard = none) (s x : Operand) (t : TypeId)
 (ho : o.op = .call { callee := .builtin .append,args := #[s,x],argTypes := #[t,t] })
 (base : Nat) (e : TypeId) (i : TypeInfo) (z : Value) (size bytes : Nat) (ht : P.underlying t = some (.slice e)) (hi : P.info? e = some i) (hz : i.zero = some z)
 (hsize : i.size = size) (hby : i.bytes = bytes) (hzs : z.cells.size = size) (hsz : 0 < size) (v : Value) (n : Nat) (xs : List Value) (hs : a.eval s = v) (hown : w.ownsRow base e size v n xs)
 (sv : Value) (m : Nat) (cs : List Value) (hx : a.eval x = sv) (hsr : SR w sv m size cs) (h63 : n + m ≤ maxLen) (hbytes : (n + m) * bytes ≤ 140737488355328) (hbase : base ≤ w.heap.size)
 (h : ∀ v' w',w'.ownsRow base e size v' (n + m) (xs ++ cs) → w.grownBy w' v.ownBlock → K (a.put o.dst v') w') : if Region.wanted o (yielded ops a.tmps) = true then Oper.wp P o a w K Q else E := by
 have hw : Region.wanted o (yielded ops a.tmps) = true := by simp [Region.wanted,hgd]
 rw [if_pos hw]
 obtain ⟨v',w',hr,h1,h2⟩ := run_app_own (P := P) w base t o.type e i z size bytes ht hi hz hsize hby hzs hsz v n xs hown sv m cs hsr h63 hbytes hbase
 unfold Oper.wp execOp
 simp only [ho,resolve,invoke,builtin,Sem.run_bind,Sem.run_pure,Result.andThen_ok,List.map_toArray,List.map_cons,List.map_nil,hs,hx,hr]
 exact h v' w' h1 h2
theorem own_low {w w' : World} {base e k n : Nat} {v : Value} {cs : List Value} (h : w.ownsRow base e k v n cs) (hg : w.grownBy w' v.ownBlock) (hb : base ≤ w.heap.size) : Below base w w' := (Below.refl base w).grown hg hb (fun i hi => (World.ownsRow.lt h i hi).1)
theorem run_app_zero {P : Program} (w : World) (base : Nat) (t ty e : TypeId) (i : TypeInfo) (z : Value) (size bytes : Nat) (ht : P.underlying t = some (.slice e)) (hi : P.info? e = some i) (hz : i.zero = some z)
 (hsize : i.size = size) (hby : i.bytes = bytes) (hzs : z.cells.size = size) (hsz : 0 < size) (g : Nat) (hown : w.ownsRow base e size (.slice (some ⟨g,0,none⟩) 0 0) 0 [])
 (sv : Value) (m : Nat) (cs : List Value) (hsr : SR w sv m size cs) (hbytes : m * bytes ≤ 140737488355328) (hbase : base ≤ w.heap.size) :
 ∃ v' w',(Builtin.append_ #[t,t] ty #[.slice (some ⟨g,0,none⟩) 0 0,sv]).run P w = .ok v' w' ∧ w'.ownsRow base e size v' m cs ∧ Below w.heap.size w w' := by
 obtain ⟨v1,w1,hr1,h1,_⟩ := run_app_own (P := P) w base t ty e i z size bytes ht hi hz hsize hby hzs hsz _ 0 [] hown sv m cs hsr (by have := hsr.1; omega) (by simpa using hbytes) hbase
 obtain ⟨a,c,w2,hr2,_,_,h2,_⟩ := run_append_empty2 (P := P) w t ty e i z size bytes ht hi hz hsize hby hzs hsz g sv m cs hsr hbytes
 have e := hr1.symm.trans hr2
 injection e with e1 e2
 subst e2
 exact ⟨v1,w1,hr1,by simpa using h1,h2⟩
theorem step_app_zero {P : Program} {w : World} {ops : Array Oper} {o : Oper} {a : Act} {K : Act → World → Prop} {Q : Exit → Act → World → Prop} {E : Prop} (hgd : o.guard = none) (s x : Operand) (t : TypeId)
 (ho : o.op = .call { callee := .builtin .append,args := #[s,x],argTypes := #[t,t] })
 (base : Nat) (e : TypeId) (i : TypeInfo) (z : Value) (size bytes : Nat) (ht : P.underlying t = some (.slice e)) (hi : P.info? e = some i) (hz : i.zero = some z)
 (hsize : i.size = size) (hby : i.bytes = bytes) (hzs : z.cells.size = size) (hsz : 0 < size) (g : Nat) (hs : a.eval s = .slice (some ⟨g,0,none⟩) 0 0) (hown : w.ownsRow base e size (.slice (some ⟨g,0,none⟩) 0 0) 0 [])
 (sv : Value) (m : Nat) (cs : List Value) (hx : a.eval x = sv) (hsr : SR w sv m size cs) (hbytes : m * bytes ≤ 140737488355328) (hbase : base ≤ w.heap.size)
 (h : ∀ v' w',w'.ownsRow base e size v' m cs → Below w.heap.size w w' → K (a.put o.dst v') w') : if Region.wanted o (yielded ops a.tmps) = true then Oper.wp P o a w K Q else E := by
 have hw : Region.wanted o (yielded ops a.tmps) = true := by simp [Region.wanted,hgd]
 rw [if_pos hw]
 obtain ⟨v',w',hr,h1,h2⟩ := run_app_zero (P := P) w base t o.type e i z size bytes ht hi hz hsize hby hzs hsz g hown sv m cs hsr hbytes hbase
 unfold Oper.wp execOp
 simp only [ho,resolve,invoke,builtin,Sem.run_bind,Sem.run_pure,Result.andThen_ok,List.map_toArray,List.map_cons,List.map_nil,hs,hx,hr]
 exact h v' w' h1 h2
theorem sr_oneblk {w : World} {b size : Nat} {t : TypeId} {cs : List Value} (h : Blk w b t cs) (hl : cs.length = size) (h1 : ∀ u ∈ cs,u.oneCell' = true) : SR w (.slice (some ⟨b,0,none⟩) 1 1) 1 size cs :=
 ⟨by unfold maxLen; omega,by rw [hl,Nat.one_mul],h1,some ⟨b,0,none⟩,1,rfl,(fun e => (by cases e)),(fun _ => ⟨b,0,rfl,h.lt,(fun j u hj => (by rw [Nat.zero_add]; exact h.cell hj))⟩)⟩
end Go.Proofs.YtldcihjddebciaaGreat
