/- client: whole structs stored into the side. And what follows it. -/
import Derived.Test.YtldcihjddebciaaGreatDClJ
import Derived.Deep.MidRow
import Derived.Laws.ResultCell
set_option linter.unusedSimpArgs false
set_option linter.unusedVariables false
set_option maxRecDepth 100000
set_option maxHeartbeats 4000000
namespace Go.Proofs.YtldcihjddebciaaGreat
open Go.RowKit
/-- cells laid over cells -/
def over : Nat → List Value → List Value → List Value
 |_,[],cs => cs
 |o,v :: vs,cs => over (o + 1) vs (cs.set o v)
theorem Blk.setCells {b : Nat} {t : TypeId} : ∀ {vs : List Value} {o : Nat} {w : World} {cs : List Value},Blk w b t cs → Blk (w.setCells b o vs) b t (over o vs cs)
 |[],_,_,_,h => h
 |v :: vs,o,w,cs,h => by
  rw [World.setCells]
  exact Blk.setCells (h.setAt v)
theorem setCells_grown (b : Nat) : ∀ (vs : List Value) (o : Nat) (w : World),w.grownBy (w.setCells b o vs) (some b)
 |[],_,w => World.grownBy.refl w _
 |v :: vs,o,w => by
  rw [World.setCells]
  exact (set1 w ⟨b,o,none⟩ v).trans (setCells_grown b vs (o + 1) _)
theorem Blk.range {w : World} {b : Nat} {t : TypeId} {cs : List Value} (h : Blk w b t cs) (o : Nat) (vs : List Value) (he : ∀ j v,vs[j]? = some v → cs[o + j]? = some v) : w.rangeAt b o vs := fun j v hv => h.cell (he j v hv)
theorem Blk.there {w : World} {b : Nat} {t : TypeId} {cs : List Value} (h : Blk w b t cs) (o n : Nat) (hn : o + n ≤ cs.length) : w.there b o n := fun j hj => by
 refine ⟨?_,h.frozen _⟩
 rw [h.cell (j := o + j) (v := cs[o + j]'(by omega)) (List.getElem?_eq_getElem _)]
 rfl
theorem new_ok (mx : Int) (w : World) (h1 : 23 ≤ mx) (h2 : mx ≤ 517) : Calls Tryz.prog 19 #[.int .i64 mx] w fun e w' => e = .returned (.tuple #[.agg #[.int .i64 23,.int .i64 mx,.int .i64 0,.int .u16 0,.int .u16 0,.int .u16 0,.slice none 0 0,.int .i64 0,.slice none 0 0,.bool false,.int .i64 0,.int .i64 0,.int .u16 0,.int .u16 0,.int .u64 0,.int .u64 0,.int .i64 0,.int .i64 0,.int .i64 0,.bool false,.slice none 0 0,.slice none 0 0,.bool false,.int .i64 0,.bool false,.slice none 0 0],.int .i64 0]) ∧ Below w.heap.size w w' := by
 have g1 : decide (mx < 23) = false := by simp; omega
 have g2 : decide (517 < mx) = false := by simp; omega
 have bZ := Blk.new w 52 [.int .i64 0,.int .i64 0,.int .i64 0,.int .u16 0,.int .u16 0,.int .u16 0,.slice none 0 0,.int .i64 0,.slice none 0 0,.bool false,.int .i64 0,.int .i64 0,.int .u16 0,.int .u16 0,.int .u64 0,.int .u64 0,.int .i64 0,.int .i64 0,.int .i64 0,.bool false,.slice none 0 0,.slice none 0 0,.bool false,.int .i64 0,.bool false,.slice none 0 0]
 have hB : Below w.heap.size w (w.alloc (.cells #[.int .i64 0,.int .i64 0,.int .i64 0,.int .u16 0,.int .u16 0,.int .u16 0,.slice none 0 0,.int .i64 0,.slice none 0 0,.bool false,.int .i64 0,.int .i64 0,.int .u16 0,.int .u16 0,.int .u64 0,.int .u64 0,.int .i64 0,.int .i64 0,.int .i64 0,.bool false,.slice none 0 0,.slice none 0 0,.bool false,.int .i64 0,.bool false,.slice none 0 0] 52)) := (Below.refl _ _).alloc (Nat.le_refl _) _
 go_enter Tryz.func19,Tryz.ntmps19
 go_upto_region 3 with fail
 generalize hV : World.alloc w _ = V at bZ hB ⊢
 clear hV
 have hth := bZ.there 0 26 (by simp)
 have bY := bZ.setCells (vs := [.int .i64 23,.int .i64 mx,.int .i64 0,.int .u16 0,.int .u16 0,.int .u16 0,.slice none 0 0,.int .i64 0,.slice none 0 0,.bool false,.int .i64 0,.int .i64 0,.int .u16 0,.int .u16 0,.int .u64 0,.int .u64 0,.int .i64 0,.int .i64 0,.int .i64 0,.bool false,.slice none 0 0,.slice none 0 0,.bool false,.int .i64 0,.bool false,.slice none 0 0]) (o := 0)
 simp only [over,List.set_cons_zero,List.set_cons_succ,Nat.reduceAdd,Nat.zero_add] at bY
 have hY := hB.grown (setCells_grown w.heap.size [.int .i64 23,.int .i64 mx,.int .i64 0,.int .u16 0,.int .u16 0,.int .u16 0,.slice none 0 0,.int .i64 0,.slice none 0 0,.bool false,.int .i64 0,.int .i64 0,.int .u16 0,.int .u16 0,.int .u64 0,.int .u64 0,.int .i64 0,.int .i64 0,.int .i64 0,.bool false,.slice none 0 0,.slice none 0 0,.bool false,.int .i64 0,.bool false,.slice none 0 0] 0 V) hB.size (fun q hq => by cases hq; omega)
 have h1c : (#[.int .i64 23,.int .i64 mx,.int .i64 0,.int .u16 0,.int .u16 0,.int .u16 0,.slice none 0 0,.int .i64 0,.slice none 0 0,.bool false,.int .i64 0,.int .i64 0,.int .u16 0,.int .u16 0,.int .u64 0,.int .u64 0,.int .i64 0,.int .i64 0,.int .i64 0,.bool false,.slice none 0 0,.slice none 0 0,.bool false,.int .i64 0,.bool false,.slice none 0 0] : Array Value).all (·.oneCell') = true := by simp [Value.oneCell']
 go_wp2_with (refine wpList_store_mid rfl 52 _ _ rfl w.heap.size 0 #[.int .i64 23,.int .i64 mx,.int .i64 0,.int .u16 0,.int .u16 0,.int .u16 0,.slice none 0 0,.int .i64 0,.slice none 0 0,.bool false,.int .i64 0,.int .i64 0,.int .u16 0,.int .u16 0,.int .u64 0,.int .u64 0,.int .i64 0,.int .i64 0,.int .i64 0,.bool false,.slice none 0 0,.slice none 0 0,.bool false,.int .i64 0,.bool false,.slice none 0 0] rfl rfl hth (by kernel_rfl) h1c ?_)
 have hbt : (V.setCells w.heap.size 0 [.int .i64 23,.int .i64 mx,.int .i64 0,.int .u16 0,.int .u16 0,.int .u16 0,.slice none 0 0,.int .i64 0,.slice none 0 0,.bool false,.int .i64 0,.int .i64 0,.int .u16 0,.int .u16 0,.int .u64 0,.int .u64 0,.int .i64 0,.int .i64 0,.int .i64 0,.bool false,.slice none 0 0,.slice none 0 0,.bool false,.int .i64 0,.bool false,.slice none 0 0]).heap[w.heap.size]? = some (.cells #[.int .i64 23,.int .i64 mx,.int .i64 0,.int .u16 0,.int .u16 0,.int .u16 0,.slice none 0 0,.int .i64 0,.slice none 0 0,.bool false,.int .i64 0,.int .i64 0,.int .u16 0,.int .u16 0,.int .u64 0,.int .u64 0,.int .i64 0,.int .i64 0,.int .i64 0,.bool false,.slice none 0 0,.slice none 0 0,.bool false,.int .i64 0,.bool false,.slice none 0 0] 52 (0,0)) := bY
 have hl := run_loadVar_row (P := Tryz.prog) _ w.heap.size 52 52 _ (0,0) _ hbt Tryz.underlying52 rfl (by kernel_rfl)
 refine bodyPost_ret (v := .tuple #[.agg #[.int .i64 23,.int .i64 mx,.int .i64 0,.int .u16 0,.int .u16 0,.int .u16 0,.slice none 0 0,.int .i64 0,.slice none 0 0,.bool false,.int .i64 0,.int .i64 0,.int .u16 0,.int .u16 0,.int .u64 0,.int .u64 0,.int .i64 0,.int .i64 0,.int .i64 0,.bool false,.slice none 0 0,.slice none 0 0,.bool false,.int .i64 0,.bool false,.slice none 0 0],.int .i64 0]) (by rw [results_cell_tmp rfl]; simp [asAddr,hl]) rfl ⟨rfl,hY⟩
theorem SR.both {w w' : World} {v : Value} {n size : Nat} {cs : List Value} {R R' : List (Option Nat)} {r : Option Nat} (h : SR w v n size cs) (ha : n = 0 ∨ Apart R v) (hg : w.grownBy w' r) (hr : Turns w R r) (hf : Follows w R R') : SR w' v n size cs ∧ (n = 0 ∨ Apart R' v) := ⟨h.turned ha hg hr,apart_follows h ha hf⟩
theorem BD.both {w w' : World} {v : Value} {bs : List Nat} {R R' : List (Option Nat)} {r : Option Nat} (h : BD w R v bs) (hg : w.grownBy w' r) (hr : Turns w R r) (hf : Follows w R R') : BD w' R' v bs := ⟨(h.turned hg hr).1,apart_follows h.1.sr h.2 hf⟩
theorem FD.both {w w' : World} {v : Value} {l : List Fd} {R R' : List (Option Nat)} {r : Option Nat} (h : FD w R v l) (hg : w.grownBy w' r) (hr : Turns w R r) (hf : Follows w R R') : FD w' R' v l := ⟨(h.turned hg hr).1,apart_follows h.1 h.2 hf⟩
/-- the rows that a call may turn -/
def Sv.rw (s : Sv) (X : Nat) : List (Option Nat) := [some X,s.fv.ownBlock,s.ov.ownBlock,s.rv.ownBlock]
/-- the parts of a side -/
structure Pt (w : World) (B X : Nat) (s : Sv) : Prop where
 bv : BD w (s.rw X) s.bv s.c.tk.vs
 fv : FdO B w s.fv s.c.tk.fo
 ab : BD w (s.rw X) s.ab s.c.ad.vs
 ai : SR w s.ai 0 5 []
 wv : SR w s.wv s.qs.length 8 (s.qs.flatMap wenc)
 wa : s.qs.length = 0 ∨ Apart (s.rw X) s.wv
 wt : s.qs.map (·.1) = s.c.wt
 wi : ∀ q ∈ s.qs,BD w (s.rw X) q.2 q.1.vs ∧ q.1.fo = []
 ov : w.ownsRow B 49 12 s.ov s.ps.length (s.ps.flatMap penc)
 oi : ∀ q ∈ s.ps,BD w (s.rw X) q.2.1 q.1.vs ∧ SR w q.2.2 0 5 []
 rv : w.ownsRow B 43 6 s.rv s.us.length (s.us.flatMap renc)
 ri : ∀ q ∈ s.us,BD w (s.rw X) q.2.1 q.1.vs ∧ FD w (s.rw X) q.2.2 q.1.fo
 lt : X < w.heap.size
 wl : ∀ a n c,s.wv = .slice a n c → n ≤ c
 wb : s.qs.length = 0 ∨ ∃ k,s.wv.ownBlock = some k ∧ B ≤ k
/-- a side -/
structure Sq (w : World) (B X : Nat) (s : Sv) : Prop where
 blk : Blk w X 103 s.cells
 own : B ≤ X
 pt : Pt w B X s
theorem tkc_one (t : Tk) {w : World} {R : List (Option Nat)} {v : Value} (h : BD w R v t.vs) : ∀ u ∈ tkc t v (.slice none 0 0),u.oneCell' = true := by
 obtain ⟨⟨a,c,rfl,_⟩,_⟩ := h
 simp [tkc,Value.oneCell']
theorem Sd.weak {w : World} {B X : Nat} {s : Sv} (h : Sd w B X s) (hm : s.qs.length ≤ 1000000) : Sq w B X s := by
 have hf : Follows w (s.rows X) (s.rw X) := fun k hk => by
  refine .inl ?_
  simp only [Sv.rw,Sv.rows,List.mem_cons,List.not_mem_nil,or_false,Option.some.injEq] at hk ⊢
  rcases hk with e | e | e | e <;> simp [e]
 refine ⟨h.blk,h.own,⟨h.bv.follows hf,h.fv,h.ab.follows hf,h.ai,?_,?_,h.wt,fun q hq => ⟨(h.wi q hq).1.follows hf,(h.wi q hq).2⟩,h.ov,fun q hq => ⟨(h.oi q hq).1.follows hf,(h.oi q hq).2⟩,h.rv,fun q hq => ⟨(h.ri q hq).1.follows hf,(h.ri q hq).2.follows hf⟩,h.blk.lt,?_,?_⟩⟩
 ·refine SR.of_own h.wv (fun u hu => ?_) (by unfold maxLen; omega)
  obtain ⟨q,hq,hu⟩ := List.mem_flatMap.1 hu
  exact tkc_one q.1 (h.wi q hq).1 u hu
 ·refine .inr fun k hk hmm => ?_
  simp only [Sv.rw,List.mem_cons,List.not_mem_nil,or_false,Option.some.injEq] at hmm
  rcases hmm with e | e | e | e
  ·subst e
   exact blk_ne h.blk h.wv (by decide) hk
  ·exact rows_ne h.wv h.fv (by decide) k hk e.symm
  ·exact rows_ne h.wv h.ov (by decide) k hk e.symm
  ·exact rows_ne h.wv h.rv (by decide) k hk e.symm
 ·intro a n c e
  rcases h.wv.2 with ⟨e1,_⟩ | ⟨g,cap,cur,e1,_,_,hc,_⟩
  ·rw [e1] at e
   injection e with _ e2 e3
   omega
  ·rw [e1] at e
   injection e with _ e2 e3
   omega
 ·rcases h.wv.2 with ⟨_,e2⟩ | ⟨g,cap,cur,e1,hb,_⟩
  ·exact .inl e2
  ·exact .inr ⟨g,by rw [e1]; rfl,hb⟩
theorem Sq.ne {w : World} {B X : Nat} {s : Sv} (h : Sq w B X s) : s.fv.ownBlock ≠ some X ∧ s.ov.ownBlock ≠ some X ∧ s.rv.ownBlock ≠ some X := ⟨blk_ne h.blk h.pt.fv (by decide),blk_ne h.blk h.pt.ov (by decide),blk_ne h.blk h.pt.rv (by decide)⟩
theorem Pt.below {w w' : World} {B X : Nat} {s : Sv} (h : Pt w B X s) (hb : Below w.heap.size w w') : Pt w' B X s :=
 ⟨h.bv.below hb,h.fv.below hb,h.ab.below hb,h.ai.empty,h.wv.below hb,h.wa,h.wt,fun q hq => ⟨(h.wi q hq).1.below hb,(h.wi q hq).2⟩,own_below h.ov hb,fun q hq => ⟨(h.oi q hq).1.below hb,(h.oi q hq).2.empty⟩,own_below h.rv hb,fun q hq => ⟨(h.ri q hq).1.below hb,(h.ri q hq).2.below hb⟩,Nat.lt_of_lt_of_le h.lt hb.size,h.wl,h.wb⟩
theorem Sq.below {w w' : World} {B X : Nat} {s : Sv} (h : Sq w B X s) (hb : Below w.heap.size w w') : Sq w' B X s := ⟨h.blk.below hb,h.own,h.pt.below hb⟩
theorem Sq.drew {w : World} {B X : Nat} {s : Sv} (h : Sq w B X s) : Sq w.drew B X s := h.below (Below.refl _ _).drew
theorem Sq.lts {w : World} {B X : Nat} {s : Sv} (h : Sq w B X s) : ∀ k,some k ∈ s.rw X → k < w.heap.size := by
 intro k hk
 simp only [Sv.rw,List.mem_cons,List.not_mem_nil,or_false,Option.some.injEq] at hk
 rcases hk with e | e | e | e
 ·subst e
  exact h.blk.lt
 ·exact own_lt h.pt.fv k e.symm
 ·exact own_lt h.pt.ov k e.symm
 ·exact own_lt h.pt.rv k e.symm
theorem turns_x {w : World} {X : Nat} {s : Sv} : Turns w (s.rw X) (some X) := fun k hk => .inl (by simp [Sv.rw,hk])
theorem follows_refl (w : World) (R : List (Option Nat)) : Follows w R R := fun _ hk => .inl hk
/-- the cells of the side itself have turned -/
theorem Sq.part {w w' : World} {B X : Nat} {s : Sv} (h : Sq w B X s) (hg : w.grownBy w' (some X)) : Pt w' B X s :=
 have n1 := h.ne
 have hf := follows_refl w (s.rw X)
 ⟨h.pt.bv.both hg turns_x hf,own_none h.pt.fv hg (fun _ hi e => n1.1 (hi.trans e.symm)),h.pt.ab.both hg turns_x hf,h.pt.ai.empty,(h.pt.wv.both h.pt.wa hg turns_x hf).1,h.pt.wa,h.pt.wt,fun q hq => ⟨(h.pt.wi q hq).1.both hg turns_x hf,(h.pt.wi q hq).2⟩,own_none h.pt.ov hg (fun _ hi e => n1.2.1 (hi.trans e.symm)),fun q hq => ⟨(h.pt.oi q hq).1.both hg turns_x hf,(h.pt.oi q hq).2.empty⟩,own_none h.pt.rv hg (fun _ hi e => n1.2.2 (hi.trans e.symm)),fun q hq => ⟨(h.pt.ri q hq).1.both hg turns_x hf,(h.pt.ri q hq).2.both hg turns_x hf⟩,Nat.lt_of_lt_of_le h.pt.lt hg.size,h.pt.wl,h.pt.wb⟩
/-- a request is appended to what is sent -/
theorem Pt.app_out {w w' : World} {B X : Nat} {s : Sv} (h : Pt w B X s) (hg : w.grownBy w' s.ov.ownBlock) {ov' : Value} {q : Pd × Value × Value} (hv : w'.ownsRow B 49 12 ov' (s.ps.length + 1) (s.ps.flatMap penc ++ penc q)) (hor : ov'.ownBlock = s.ov.ownBlock ∨ ov'.ownBlock = some w.heap.size)
 (hq : BD w (s.rw X) q.2.1 q.1.vs ∧ SR w q.2.2 0 5 []) : Pt w' B X { s with ov := ov',ps := s.ps ++ [q] } := by
 have ht : Turns w (s.rw X) s.ov.ownBlock := fun k hk => .inl (by simp [Sv.rw,hk])
 have hf : Follows w (s.rw X) (({ s with ov := ov',ps := s.ps ++ [q] } : Sv).rw X) := fun k hk => by
  simp only [Sv.rw,List.mem_cons,List.not_mem_nil,or_false,Option.some.injEq] at hk ⊢
  rcases hk with e | e | e | e
  ·exact .inl (.inl e)
  ·exact .inl (.inr (.inl e))
  ·rcases hor with e' | e'
   ·exact .inl (.inr (.inr (.inl (e.trans e'))))
   ·exact .inr (by rw [e'] at e; injection e with e; omega)
  ·exact .inl (.inr (.inr (.inr e)))
 refine ⟨h.bv.both hg ht hf,own_none h.fv hg (fun i hi e => rows_ne h.fv h.ov (by decide) i hi e),h.ab.both hg ht hf,h.ai.empty,(h.wv.both h.wa hg ht hf).1,(h.wv.both h.wa hg ht hf).2,h.wt,fun q hq => ⟨(h.wi q hq).1.both hg ht hf,(h.wi q hq).2⟩,?_,fun q' hq' => ?_,own_none h.rv hg (fun i hi e => rows_ne h.rv h.ov (by decide) i hi e),fun q hq => ⟨(h.ri q hq).1.both hg ht hf,(h.ri q hq).2.both hg ht hf⟩,Nat.lt_of_lt_of_le h.lt hg.size,h.wl,h.wb⟩
 ·simpa [List.flatMap_append] using hv
 ·rcases List.mem_append.1 hq' with hm | hm
  ·exact ⟨(h.oi q' hm).1.both hg ht hf,(h.oi q' hm).2.empty⟩
  ·rw [List.mem_singleton.1 hm]
   exact ⟨hq.1.both hg ht hf,hq.2.empty⟩
/-- a result is appended -/
theorem Pt.app_res {w w' : World} {B X : Nat} {s : Sv} (h : Pt w B X s) (hg : w.grownBy w' s.rv.ownBlock) {rv' : Value} {q : Rs × Value × Value} (hv : w'.ownsRow B 43 6 rv' (s.us.length + 1) (s.us.flatMap renc ++ renc q)) (hor : rv'.ownBlock = s.rv.ownBlock ∨ rv'.ownBlock = some w.heap.size)
 (hq : BD w (s.rw X) q.2.1 q.1.vs ∧ FD w (s.rw X) q.2.2 q.1.fo) : Pt w' B X { s with rv := rv',us := s.us ++ [q] } := by
 have ht : Turns w (s.rw X) s.rv.ownBlock := fun k hk => .inl (by simp [Sv.rw,hk])
 have hf : Follows w (s.rw X) (({ s with rv := rv',us := s.us ++ [q] } : Sv).rw X) := fun k hk => by
  simp only [Sv.rw,List.mem_cons,List.not_mem_nil,or_false,Option.some.injEq] at hk ⊢
  rcases hk with e | e | e | e
  ·exact .inl (.inl e)
  ·exact .inl (.inr (.inl e))
  ·exact .inl (.inr (.inr (.inl e)))
  ·rcases hor with e' | e'
   ·exact .inl (.inr (.inr (.inr (e.trans e'))))
   ·exact .inr (by rw [e'] at e; injection e with e; omega)
 refine ⟨h.bv.both hg ht hf,own_none h.fv hg (fun i hi e => rows_ne h.fv h.rv (by decide) i hi e),h.ab.both hg ht hf,h.ai.empty,(h.wv.both h.wa hg ht hf).1,(h.wv.both h.wa hg ht hf).2,h.wt,fun q hq => ⟨(h.wi q hq).1.both hg ht hf,(h.wi q hq).2⟩,own_none h.ov hg (fun i hi e => rows_ne h.ov h.rv (by decide) i hi e),fun q hq => ⟨(h.oi q hq).1.both hg ht hf,(h.oi q hq).2.empty⟩,?_,fun q' hq' => ?_,Nat.lt_of_lt_of_le h.lt hg.size,h.wl,h.wb⟩
 ·simpa [List.flatMap_append] using hv
 ·rcases List.mem_append.1 hq' with hm | hm
  ·exact ⟨(h.ri q' hm).1.both hg ht hf,(h.ri q' hm).2.both hg ht hf⟩
  ·rw [List.mem_singleton.1 hm]
   exact ⟨hq.1.both hg ht hf,hq.2.both hg ht hf⟩
/-- what was found grows -/
theorem Pt.app_found {w w' : World} {B X : Nat} {s : Sv} (h : Pt w B X s) (hg : w.grownBy w' s.fv.ownBlock) {fv' : Value} {x : Fd} (hv : FdO B w' fv' (s.c.tk.fo ++ [x])) (hor : fv'.ownBlock = s.fv.ownBlock ∨ fv'.ownBlock = some w.heap.size) : Pt w' B X { s with fv := fv',c := { s.c with tk := { s.c.tk with fo := s.c.tk.fo ++ [x] } } } := by
 have ht : Turns w (s.rw X) s.fv.ownBlock := fun k hk => .inl (by simp [Sv.rw,hk])
 have hf : Follows w (s.rw X) (({ s with fv := fv',c := { s.c with tk := { s.c.tk with fo := s.c.tk.fo ++ [x] } } } : Sv).rw X) := fun k hk => by
  simp only [Sv.rw,List.mem_cons,List.not_mem_nil,or_false,Option.some.injEq] at hk ⊢
  rcases hk with e | e | e | e
  ·exact .inl (.inl e)
  ·rcases hor with e' | e'
   ·exact .inl (.inr (.inl (e.trans e')))
   ·exact .inr (by rw [e'] at e; injection e with e; omega)
  ·exact .inl (.inr (.inr (.inl e)))
  ·exact .inl (.inr (.inr (.inr e)))
 exact ⟨h.bv.both hg ht hf,hv,h.ab.both hg ht hf,h.ai.empty,(h.wv.both h.wa hg ht hf).1,(h.wv.both h.wa hg ht hf).2,h.wt,fun q hq => ⟨(h.wi q hq).1.both hg ht hf,(h.wi q hq).2⟩,own_none h.ov hg (fun i hi e => rows_ne h.ov h.fv (by decide) i hi e),fun q hq => ⟨(h.oi q hq).1.both hg ht hf,(h.oi q hq).2.empty⟩,own_none h.rv hg (fun i hi e => rows_ne h.rv h.fv (by decide) i hi e),fun q hq => ⟨(h.ri q hq).1.both hg ht hf,(h.ri q hq).2.both hg ht hf⟩,Nat.lt_of_lt_of_le h.lt hg.size,h.wl,h.wb⟩
/-- a side, in plain data -/
structure Sp where
 c : Cl
 now : Int
 ps : List Pd
 us : List Rs
def Sv.sp (s : Sv) : Sp := ⟨s.c,s.now,s.ps.map (·.1),s.us.map (·.1)⟩
def tk0 : Tk := ⟨0,0,0,0,[],0,[],false⟩
def pd0 : Pd := ⟨0,0,0,0,0,0,0,0,0,false,[]⟩
def Sp.send (x : Sp) (p : Pd) : Sp := { x with c := { x.c with ad := p,since := x.now,busy := true },ps := x.ps ++ [p] }
/-- the room for a piece, as a number -/
def roomN (k m : Int) : Nat := (roomI k m).toNat
def pieceP (mt : Int) (t : Tk) : Pd := { pd0 with kd := 22,ha := t.ha,of := t.of,vs := (t.vs.drop t.of.toNat).take (roomN 22 mt) }
/-- the first request of a task -/
def firstP (c : Cl) (t : Tk) : Option Pd :=
 if t.kd = 1 then some { pd0 with kd := 2,mt := c.mx }
 else if t.kd = 2 then some { pd0 with kd := 16,ha := 1,la := 65535,hi := 43980465115136,lo := 9223372588214596859 }
 else if t.kd = 3 then some { pd0 with kd := 8,ha := t.fi,la := t.la,hi := 43993350017024,lo := 9223372588214596859 }
 else if t.kd = 4 then some { pd0 with kd := 4,ha := t.fi,la := t.la }
 else if t.kd = 5 ∨ t.kd = 6 then some { pd0 with kd := 10,ha := t.ha }
 else if t.kd = 7 then (if (t.vs.length : Int) ≤ roomI 18 c.mt then some { pd0 with kd := 18,ha := t.ha,vs := t.vs } else some (pieceP c.mt t))
 else if t.kd = 8 then some (pieceP c.mt t)
 else if t.kd = 9 then some { pd0 with kd := 8,ha := 1,la := 65535,hi := 47459388624896,lo := 9223372588214596859 }
 else none
def Sp.begin (x : Sp) (t : Tk) : Sp := match firstP x.c t with
 |some p => ({ x with c := { x.c with tk := t } } : Sp).send p
 |none => { x with c := { x.c with tk := t } }
def Sp.report (x : Sp) (r : Rs) : Sp := { x with us := x.us ++ [{ r with tk := x.c.tk.kd }] }
def Sp.close (x : Sp) : Sp := match x.c.wt with
 |[] => { x with c := { x.c with busy := false,tk := tk0,ad := pd0 } }
 |t :: l => ({ x with c := { x.c with busy := false,tk := tk0,ad := pd0,wt := l } } : Sp).begin t
def Sp.endd (x : Sp) (r : Rs) : Sp := (x.report (if r.ha = 0 then { r with ha := x.c.tk.ha } else r)).close
def Sp.fail (x : Sp) (code : Int) : Sp := x.endd ⟨5,0,0,[],[],code⟩
def Sp.found (x : Sp) : Sp := x.endd ⟨2,0,0,[],x.c.tk.fo,0⟩
def Sp.value (x : Sp) : Sp := x.endd ⟨3,0,0,x.c.tk.vs,[],0⟩
def Sp.cancel (x : Sp) (code : Int) : Sp := (({ x.report ⟨5,0,x.c.tk.ha,[],[],code⟩ with c := { x.c with tk := { x.c.tk with bad := true } } } : Sp)).send { pd0 with kd := 24 }
theorem step_store_mid {P : Program} {w : World} {ops : Array Oper} {o : Oper} {a : Act} {K : Act → World → Prop} {Q : Exit → Act → World → Prop} {E : Prop} (hgd : o.guard = none) (ty : TypeId) (x y : Operand) (ho : o.op = .store ty x y)
 (b off : Nat) (cells : Array Value) (hx : a.eval x = .pointer (some ⟨b,off,none⟩)) (hy : a.eval y = .agg cells)
 (ht : w.there b off cells.size) (hi : (P.info? ty).map (·.size) = some cells.size) (h1 : cells.all (·.oneCell') = true)
 (h : K (a.put o.dst undef) (w.setCells b off cells.toList)) : if Region.wanted o (yielded ops a.tmps) = true then Oper.wp P o a w K Q else E := by
 have hw : Region.wanted o (yielded ops a.tmps) = true := by simp [Region.wanted,hgd]
 rw [if_pos hw]
 exact wp_store_mid ty x y ho b off cells hx hy ht hi h1 h
theorem step_load_mid {P : Program} {w : World} {ops : Array Oper} {o : Oper} {a : Act} {K : Act → World → Prop} {Q : Exit → Act → World → Prop} {E : Prop} (hgd : o.guard = none) (ty : TypeId) (x : Operand) (ho : o.op = .load ty x)
 (b off : Nat) (hx : a.eval x = .pointer (some ⟨b,off,none⟩)) (cs : List Value) (dd : TypeDesc) (hc : w.rangeAt b off cs)
 (hu : P.underlying ty = some dd) (hd : dd.isRow = true) (hi : (P.info? ty).map (·.size) = some cs.length)
 (h : K (a.put o.dst (.agg cs.toArray)) w) : if Region.wanted o (yielded ops a.tmps) = true then Oper.wp P o a w K Q else E := by
 have hw : Region.wanted o (yielded ops a.tmps) = true := by simp [Region.wanted,hgd]
 rw [if_pos hw]
 exact wp_load_mid ty x ho b off hx cs dd hc hu hd hi h
theorem BV.form {w : World} {v : Value} {bs : List Nat} (h : BV w v bs) : ∃ a c,v = .slice a bs.length c := by
 obtain ⟨a,c,e,_⟩ := h
 exact ⟨a,c,e⟩
theorem SR.form {w : World} {v : Value} {n size : Nat} {cs : List Value} (h : SR w v n size cs) : ∃ a c,v = .slice a n c := by
 obtain ⟨_,_,_,ao,cap,rfl,_⟩ := h
 exact ⟨_,_,rfl⟩
theorem blk_tk {W : World} {i : Nat} {t : TypeId} {x0 x1 x2 x3 x4 x5 x6 x7 x8 x9 x10 x11 x12 x13 x14 x15 x16 x17 x18 x19 x20 x21 x22 x23 x24 x25 x26 x27 x28 y0 y1 y2 y3 y4 y5 y6 y7 : Value} (h : Blk W i t [x0,x1,x2,x3,x4,x5,x6,x7,x8,x9,x10,x11,x12,x13,x14,x15,x16,x17,x18,x19,x20,x21,x22,x23,x24,x25,x26,x27,x28]) : Blk (W.setCells i 2 [y0,y1,y2,y3,y4,y5,y6,y7]) i t [x0,x1,y0,y1,y2,y3,y4,y5,y6,y7,x10,x11,x12,x13,x14,x15,x16,x17,x18,x19,x20,x21,x22,x23,x24,x25,x26,x27,x28] := by
 have h1 := h.setCells (vs := [y0,y1,y2,y3,y4,y5,y6,y7]) (o := 2)
 simp only [over,List.set_cons_zero,List.set_cons_succ,Nat.reduceAdd] at h1
 exact h1
theorem blk_ad {W : World} {i : Nat} {t : TypeId} {x0 x1 x2 x3 x4 x5 x6 x7 x8 x9 x10 x11 x12 x13 x14 x15 x16 x17 x18 x19 x20 x21 x22 x23 x24 x25 x26 x27 x28 y0 y1 y2 y3 y4 y5 y6 y7 y8 y9 y10 y11 : Value} (h : Blk W i t [x0,x1,x2,x3,x4,x5,x6,x7,x8,x9,x10,x11,x12,x13,x14,x15,x16,x17,x18,x19,x20,x21,x22,x23,x24,x25,x26,x27,x28]) : Blk (W.setCells i 10 [y0,y1,y2,y3,y4,y5,y6,y7,y8,y9,y10,y11]) i t [x0,x1,x2,x3,x4,x5,x6,x7,x8,x9,y0,y1,y2,y3,y4,y5,y6,y7,y8,y9,y10,y11,x22,x23,x24,x25,x26,x27,x28] := by
 have h1 := h.setCells (vs := [y0,y1,y2,y3,y4,y5,y6,y7,y8,y9,y10,y11]) (o := 10)
 simp only [over,List.set_cons_zero,List.set_cons_succ,Nat.reduceAdd] at h1
 exact h1
theorem Sq.low {w w' : World} {B X : Nat} {s : Sv} (h : Sq w B X s) (hg : w.grownBy w' (some X)) : Below B w w' := (Below.refl B w).grown hg (Nat.le_trans h.own (Nat.le_of_lt h.blk.lt)) (fun k hk => by cases hk; exact h.own)
theorem Sq.put_ad {w : World} {B X : Nat} {s : Sv} (h : Sq w B X s) (p : Pd) {bv iv : Value} (hp : BD w (s.rw X) bv p.vs) (hi : SR w iv 0 5 []) :
 Sq (w.setCells X 10 (pdc p bv iv)) B X { s with c := { s.c with ad := p },ab := bv,ai := iv } ∧ Below B w (w.setCells X 10 (pdc p bv iv)) := by
 have hg := setCells_grown X (pdc p bv iv) 10 w
 have h2 := h.part hg
 exact ⟨⟨blk_ad h.blk,h.own,{ h2 with ab := hp.both hg turns_x (follows_refl _ _),ai := hi.empty }⟩,h.low hg⟩
theorem Sq.put_tk {w : World} {B X : Nat} {s : Sv} (h : Sq w B X s) (t : Tk) {bv : Value} (hp : BD w (s.rw X) bv t.vs) (hf : t.fo = []) :
 Sq (w.setCells X 2 (tkc t bv (.slice none 0 0))) B X { s with c := { s.c with tk := t },bv := bv,fv := .slice none 0 0 } ∧ Below B w (w.setCells X 2 (tkc t bv (.slice none 0 0))) := by
 have hg := setCells_grown X (tkc t bv (.slice none 0 0)) 2 w
 have h2 := h.part hg
 have hfw : ∀ W : World,Follows W (s.rw X) (({ s with c := { s.c with tk := t },bv := bv,fv := .slice none 0 0 } : Sv).rw X) := fun W k hk => by
  refine .inl ?_
  simp only [Sv.rw,List.mem_cons,List.not_mem_nil,or_false,Option.some.injEq,Value.ownBlock,reduceCtorEq,false_or] at hk ⊢
  rcases hk with e | e | e <;> simp [e]
 refine ⟨⟨blk_tk h.blk,h.own,⟨hp.both hg turns_x (hfw _),?_,h2.ab.follows (hfw _),h2.ai,h2.wv,apart_follows h2.wv h2.wa (hfw _),h2.wt,fun q hq => ⟨(h2.wi q hq).1.follows (hfw _),(h2.wi q hq).2⟩,h2.ov,fun q hq => ⟨(h2.oi q hq).1.follows (hfw _),(h2.oi q hq).2⟩,h2.rv,fun q hq => ⟨(h2.ri q hq).1.follows (hfw _),(h2.ri q hq).2.follows (hfw _)⟩,h2.lt,h2.wl,h2.wb⟩⟩,h.low hg⟩
 show FdO B _ (.slice none 0 0) t.fo
 rw [hf]
 exact World.ownsRow_nil _ _ _ _
theorem Sq.put_mt {w : World} {B X : Nat} {s : Sv} (h : Sq w B X s) (m : Int) : Sq (w.setCell ⟨X,0,none⟩ (.int .i64 m)) B X { s with c := { s.c with mt := m } } ∧ Below B w (w.setCell ⟨X,0,none⟩ (.int .i64 m)) := by
 have hg := set1 w ⟨X,0,none⟩ (.int .i64 m)
 have h2 := h.part hg
 exact ⟨⟨h.blk.setAt (j := 0) (.int .i64 m),h.own,{ h2 with  }⟩,h.low hg⟩
theorem Sq.put_of {w : World} {B X : Nat} {s : Sv} (h : Sq w B X s) (m : Int) : Sq (w.setCell ⟨X,7,none⟩ (.int .i64 m)) B X { s with c := { s.c with tk := { s.c.tk with of := m } } } ∧ Below B w (w.setCell ⟨X,7,none⟩ (.int .i64 m)) := by
 have hg := set1 w ⟨X,7,none⟩ (.int .i64 m)
 have h2 := h.part hg
 exact ⟨⟨h.blk.setAt (j := 7) (.int .i64 m),h.own,{ h2 with  }⟩,h.low hg⟩
theorem Sq.put_bad {w : World} {B X : Nat} {s : Sv} (h : Sq w B X s) (b : Bool) : Sq (w.setCell ⟨X,9,none⟩ (.bool b)) B X { s with c := { s.c with tk := { s.c.tk with bad := b } } } ∧ Below B w (w.setCell ⟨X,9,none⟩ (.bool b)) := by
 have hg := set1 w ⟨X,9,none⟩ (.bool b)
 have h2 := h.part hg
 exact ⟨⟨h.blk.setAt (j := 9) (.bool b),h.own,{ h2 with  }⟩,h.low hg⟩
theorem Sq.put_busy {w : World} {B X : Nat} {s : Sv} (h : Sq w B X s) (b : Bool) : Sq (w.setCell ⟨X,22,none⟩ (.bool b)) B X { s with c := { s.c with busy := b } } ∧ Below B w (w.setCell ⟨X,22,none⟩ (.bool b)) := by
 have hg := set1 w ⟨X,22,none⟩ (.bool b)
 have h2 := h.part hg
 exact ⟨⟨h.blk.setAt (j := 22) (.bool b),h.own,{ h2 with  }⟩,h.low hg⟩
theorem Sq.put_since {w : World} {B X : Nat} {s : Sv} (h : Sq w B X s) (m : Int) : Sq (w.setCell ⟨X,23,none⟩ (.int .i64 m)) B X { s with c := { s.c with since := m } } ∧ Below B w (w.setCell ⟨X,23,none⟩ (.int .i64 m)) := by
 have hg := set1 w ⟨X,23,none⟩ (.int .i64 m)
 have h2 := h.part hg
 exact ⟨⟨h.blk.setAt (j := 23) (.int .i64 m),h.own,{ h2 with  }⟩,h.low hg⟩
theorem Sq.put_bv {w : World} {B X : Nat} {s : Sv} (h : Sq w B X s) {bv : Value} {vs : List Nat} (hp : BD w (s.rw X) bv vs) : Sq (w.setCell ⟨X,6,none⟩ bv) B X { s with c := { s.c with tk := { s.c.tk with vs := vs } },bv := bv } ∧ Below B w (w.setCell ⟨X,6,none⟩ bv) := by
 have hg := set1 w ⟨X,6,none⟩ bv
 have h2 := h.part hg
 exact ⟨⟨h.blk.setAt (j := 6) bv,h.own,{ h2 with bv := hp.both hg turns_x (follows_refl _ _) }⟩,h.low hg⟩
theorem Sq.put_wt {w : World} {B X : Nat} {s : Sv} (h : Sq w B X s) {wv : Value} {qs : List (Tk × Value)} (h1 : SR w wv qs.length 8 (qs.flatMap wenc)) (ha : qs.length = 0 ∨ Apart (s.rw X) wv) (hi : ∀ q ∈ qs,BD w (s.rw X) q.2 q.1.vs ∧ q.1.fo = []) (hl : ∀ a n c,wv = .slice a n c → n ≤ c) (hwb : qs.length = 0 ∨ ∃ k,wv.ownBlock = some k ∧ B ≤ k) : Sq (w.setCell ⟨X,25,none⟩ wv) B X { s with c := { s.c with wt := qs.map (·.1) },wv := wv,qs := qs } ∧ Below B w (w.setCell ⟨X,25,none⟩ wv) := by
 have hg := set1 w ⟨X,25,none⟩ wv
 have h2 := h.part hg
 exact ⟨⟨h.blk.setAt (j := 25) wv,h.own,{ h2 with wv := (h1.both ha hg turns_x (follows_refl _ _)).1,wa := ha,wt := rfl,wl := hl,wb := hwb,wi := fun q hq => ⟨(hi q hq).1.both hg turns_x (follows_refl _ _),(hi q hq).2⟩ }⟩,h.low hg⟩
/-- the block of the side has turned -/
theorem Pt.turnX {w w' : World} {B X : Nat} {s : Sv} (h : Pt w B X s) (hg : w.grownBy w' (some X)) (n1 : s.fv.ownBlock ≠ some X) (n2 : s.ov.ownBlock ≠ some X) (n3 : s.rv.ownBlock ≠ some X) : Pt w' B X s :=
 have hf := follows_refl w (s.rw X)
 ⟨h.bv.both hg turns_x hf,own_none h.fv hg (fun _ hi e => n1 (hi.trans e.symm)),h.ab.both hg turns_x hf,h.ai.empty,(h.wv.both h.wa hg turns_x hf).1,h.wa,h.wt,fun q hq => ⟨(h.wi q hq).1.both hg turns_x hf,(h.wi q hq).2⟩,own_none h.ov hg (fun _ hi e => n2 (hi.trans e.symm)),fun q hq => ⟨(h.oi q hq).1.both hg turns_x hf,(h.oi q hq).2.empty⟩,own_none h.rv hg (fun _ hi e => n3 (hi.trans e.symm)),fun q hq => ⟨(h.ri q hq).1.both hg turns_x hf,(h.ri q hq).2.both hg turns_x hf⟩,Nat.lt_of_lt_of_le h.lt hg.size,h.wl,h.wb⟩
theorem Sq.app_out {w w' : World} {B X : Nat} {s : Sv} (h : Sq w B X s) (hg : w.grownBy w' s.ov.ownBlock) {v' : Value} {q : Pd × Value × Value} (hv : w'.ownsRow B 49 12 v' (s.ps.length + 1) (s.ps.flatMap penc ++ penc q)) (hor : v'.ownBlock = s.ov.ownBlock ∨ v'.ownBlock = some w.heap.size)
 (hq : BD w (s.rw X) q.2.1 q.1.vs ∧ SR w q.2.2 0 5 []) : Sq (w'.setCell ⟨X,27,none⟩ v') B X { s with ov := v',ps := s.ps ++ [q] } ∧ Below B w (w'.setCell ⟨X,27,none⟩ v') := by
 have hb := h.blk.kept hg (fun e => h.ne.2.1 e.symm)
 have hp := h.pt.app_out hg hv hor hq
 have hbl : Below B w w' := (Below.refl B w).grown hg (Nat.le_trans h.own (Nat.le_of_lt h.blk.lt)) (fun k hk => (h.pt.ov.lt k hk).1)
 have hg2 := set1 w' ⟨X,27,none⟩ v'
 have hne : v'.ownBlock ≠ some X := by
  rcases hor with e | e
  ·rw [e]; exact h.ne.2.1
  ·rw [e]; intro e; injection e with e; have := h.blk.lt; omega
 have h3 := hp.turnX hg2 h.ne.1 hne h.ne.2.2
 exact ⟨⟨hb.setAt (j := 27) v',h.own,h3⟩,hbl.grown hg2 (Nat.le_trans h.own (Nat.le_of_lt hb.lt)) (fun k hk => by cases hk; exact h.own)⟩
theorem Sq.app_res {w w' : World} {B X : Nat} {s : Sv} (h : Sq w B X s) (hg : w.grownBy w' s.rv.ownBlock) {v' : Value} {q : Rs × Value × Value} (hv : w'.ownsRow B 43 6 v' (s.us.length + 1) (s.us.flatMap renc ++ renc q)) (hor : v'.ownBlock = s.rv.ownBlock ∨ v'.ownBlock = some w.heap.size)
 (hq : BD w (s.rw X) q.2.1 q.1.vs ∧ FD w (s.rw X) q.2.2 q.1.fo) : Sq (w'.setCell ⟨X,28,none⟩ v') B X { s with rv := v',us := s.us ++ [q] } ∧ Below B w (w'.setCell ⟨X,28,none⟩ v') := by
 have hb := h.blk.kept hg (fun e => h.ne.2.2 e.symm)
 have hp := h.pt.app_res hg hv hor hq
 have hbl : Below B w w' := (Below.refl B w).grown hg (Nat.le_trans h.own (Nat.le_of_lt h.blk.lt)) (fun k hk => (h.pt.rv.lt k hk).1)
 have hg2 := set1 w' ⟨X,28,none⟩ v'
 have hne : v'.ownBlock ≠ some X := by
  rcases hor with e | e
  ·rw [e]; exact h.ne.2.2
  ·rw [e]; intro e; injection e with e; have := h.blk.lt; omega
 have h3 := hp.turnX hg2 h.ne.1 h.ne.2.1 hne
 exact ⟨⟨hb.setAt (j := 28) v',h.own,h3⟩,hbl.grown hg2 (Nat.le_trans h.own (Nat.le_of_lt hb.lt)) (fun k hk => by cases hk; exact h.own)⟩
theorem Sq.app_fo {w w' : World} {B X : Nat} {s : Sv} (h : Sq w B X s) (hg : w.grownBy w' s.fv.ownBlock) {v' : Value} {x : Fd} (hv : FdO B w' v' (s.c.tk.fo ++ [x])) (hor : v'.ownBlock = s.fv.ownBlock ∨ v'.ownBlock = some w.heap.size) :
 Sq (w'.setCell ⟨X,8,none⟩ v') B X { s with fv := v',c := { s.c with tk := { s.c.tk with fo := s.c.tk.fo ++ [x] } } } ∧ Below B w (w'.setCell ⟨X,8,none⟩ v') := by
 have hb := h.blk.kept hg (fun e => h.ne.1 e.symm)
 have hp := h.pt.app_found hg hv hor
 have hbl : Below B w w' := (Below.refl B w).grown hg (Nat.le_trans h.own (Nat.le_of_lt h.blk.lt)) (fun k hk => (h.pt.fv.lt k hk).1)
 have hg2 := set1 w' ⟨X,8,none⟩ v'
 have hne : v'.ownBlock ≠ some X := by
  rcases hor with e | e
  ·rw [e]; exact h.ne.1
  ·rw [e]; intro e; injection e with e; have := h.blk.lt; omega
 have h3 := hp.turnX hg2 hne h.ne.2.1 h.ne.2.2
 exact ⟨⟨hb.setAt (j := 8) v',h.own,h3⟩,hbl.grown hg2 (Nat.le_trans h.own (Nat.le_of_lt hb.lt)) (fun k hk => by cases hk; exact h.own)⟩
end Go.Proofs.YtldcihjddebciaaGreat
