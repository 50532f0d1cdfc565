/- client: stores into the side, as steps of its data. -/
import Derived.Test.YtldcihjddebciaaGreatVClM
set_option linter.unusedSimpArgs false
set_option linter.unusedVariables false
set_option maxRecDepth 100000
set_option maxHeartbeats 4000000
namespace Go.Proofs.YtldcihjddebciaaGreat
open Go.RowKit
theorem step_store_mid {P : Program} {w : World} {ops : Array Oper} {o : Oper} {a : Act} {K : Act → World → Prop} {Q : Exit → Act → World → Prop} {E : Prop} (hgd : o.guard = none) (ty : TypeId) (x y : Operand) (ho : o.op = .store ty x y)
 (b off : Nat) (cells : Array Value) (hx : a.eval x = .pointer (some ⟨b,off,none⟩)) (hy : a.eval y = .agg cells)
 (ht : w.there b off cells.size) (hi : (P.info? ty).map (·.size) = some cells.size) (h1 : cells.all (·.oneCell') = true)
 (h : K (a.put o.dst undef) (w.setCells b off cells.toList)) : if Region.wanted o (yielded ops a.tmps) = true then Oper.wp P o a w K Q else E := by
 have hw : Region.wanted o (yielded ops a.tmps) = true := by simp [Region.wanted,hgd]
 rw [if_pos hw]
 exact wp_store_mid ty x y ho b off cells hx hy ht hi h1 h
theorem step_load_mid {P : Program} {w : World} {ops : Array Oper} {o : Oper} {a : Act} {K : Act → World → Prop} {Q : Exit → Act → World → Prop} {E : Prop} (hgd : o.guard = none) (ty : TypeId) (x : Operand) (ho : o.op = .load ty x)
 (b off : Nat) (hx : a.eval x = .pointer (some ⟨b,off,none⟩)) (cs : List Value) (dd : TypeDesc) (hc : w.rangeAt b off cs)
 (hu : P.underlying ty = some dd) (hd : dd.isRow = true) (hi : (P.info? ty).map (·.size) = some cs.length)
 (h : K (a.put o.dst (.agg cs.toArray)) w) : if Region.wanted o (yielded ops a.tmps) = true then Oper.wp P o a w K Q else E := by
 have hw : Region.wanted o (yielded ops a.tmps) = true := by simp [Region.wanted,hgd]
 rw [if_pos hw]
 exact wp_load_mid ty x ho b off hx cs dd hc hu hd hi h
theorem BV.form {w : World} {v : Value} {bs : List Nat} (h : BV w v bs) : ∃ a c,v = .slice a bs.length c := by
 obtain ⟨a,c,e,_⟩ := h
 exact ⟨a,c,e⟩
theorem SR.form {w : World} {v : Value} {n size : Nat} {cs : List Value} (h : SR w v n size cs) : ∃ a c,v = .slice a n c := by
 obtain ⟨_,_,_,ao,cap,rfl,_⟩ := h
 exact ⟨_,_,rfl⟩
theorem blk_tk {W : World} {i : Nat} {t : TypeId} {x0 x1 x2 x3 x4 x5 x6 x7 x8 x9 x10 x11 x12 x13 x14 x15 x16 x17 x18 x19 x20 x21 x22 x23 x24 x25 x26 x27 x28 y0 y1 y2 y3 y4 y5 y6 y7 : Value} (h : Blk W i t [x0,x1,x2,x3,x4,x5,x6,x7,x8,x9,x10,x11,x12,x13,x14,x15,x16,x17,x18,x19,x20,x21,x22,x23,x24,x25,x26,x27,x28]) : Blk (W.setCells i 2 [y0,y1,y2,y3,y4,y5,y6,y7]) i t [x0,x1,y0,y1,y2,y3,y4,y5,y6,y7,x10,x11,x12,x13,x14,x15,x16,x17,x18,x19,x20,x21,x22,x23,x24,x25,x26,x27,x28] := by
 have h1 := h.setCells (vs := [y0,y1,y2,y3,y4,y5,y6,y7]) (o := 2)
 simp only [over,List.set_cons_zero,List.set_cons_succ,Nat.reduceAdd] at h1
 exact h1
theorem blk_ad {W : World} {i : Nat} {t : TypeId} {x0 x1 x2 x3 x4 x5 x6 x7 x8 x9 x10 x11 x12 x13 x14 x15 x16 x17 x18 x19 x20 x21 x22 x23 x24 x25 x26 x27 x28 y0 y1 y2 y3 y4 y5 y6 y7 y8 y9 y10 y11 : Value} (h : Blk W i t [x0,x1,x2,x3,x4,x5,x6,x7,x8,x9,x10,x11,x12,x13,x14,x15,x16,x17,x18,x19,x20,x21,x22,x23,x24,x25,x26,x27,x28]) : Blk (W.setCells i 10 [y0,y1,y2,y3,y4,y5,y6,y7,y8,y9,y10,y11]) i t [x0,x1,x2,x3,x4,x5,x6,x7,x8,x9,y0,y1,y2,y3,y4,y5,y6,y7,y8,y9,y10,y11,x22,x23,x24,x25,x26,x27,x28] := by
 have h1 := h.setCells (vs := [y0,y1,y2,y3,y4,y5,y6,y7,y8,y9,y10,y11]) (o := 10)
 simp only [over,List.set_cons_zero,List.set_cons_succ,Nat.reduceAdd] at h1
 exact h1
theorem Sq.low {w w' : World} {B X : Nat} {s : Sv} (h : Sq w B X s) (hg : w.grownBy w' (some X)) : Below B w w' := (Below.refl B w).grown hg (Nat.le_trans h.own (Nat.le_of_lt h.blk.lt)) (fun k hk => by cases hk; exact h.own)
theorem Sq.put_ad {w : World} {B X : Nat} {s : Sv} (h : Sq w B X s) (p : Pd) {bv iv : Value} (hp : BD w (s.rw X) bv p.vs) (hi : SR w iv 0 5 []) :
 Sq (w.setCells X 10 (pdc p bv iv)) B X { s with c := { s.c with ad := p },ab := bv,ai := iv } ∧ Below B w (w.setCells X 10 (pdc p bv iv)) := by
 have hg := setCells_grown X (pdc p bv iv) 10 w
 have h2 := h.part hg
 exact ⟨⟨blk_ad h.blk,h.own,{ h2 with ab := hp.both hg turns_x (follows_refl _ _),ai := hi.empty }⟩,h.low hg⟩
theorem Sq.put_tk {w : World} {B X : Nat} {s : Sv} (h : Sq w B X s) (t : Tk) {bv : Value} (hp : BD w (s.rw X) bv t.vs) (hf : t.fo = []) :
 Sq (w.setCells X 2 (tkc t bv (.slice none 0 0))) B X { s with c := { s.c with tk := t },bv := bv,fv := .slice none 0 0 } ∧ Below B w (w.setCells X 2 (tkc t bv (.slice none 0 0))) := by
 have hg := setCells_grown X (tkc t bv (.slice none 0 0)) 2 w
 have h2 := h.part hg
 have hfw : ∀ W : World,Follows W (s.rw X) (({ s with c := { s.c with tk := t },bv := bv,fv := .slice none 0 0 } : Sv).rw X) := fun W k hk => by
  refine .inl ?_
  simp only [Sv.rw,List.mem_cons,List.not_mem_nil,or_false,Option.some.injEq,Value.ownBlock,reduceCtorEq,false_or] at hk ⊢
  rcases hk with e | e | e <;> simp [e]
 refine ⟨⟨blk_tk h.blk,h.own,⟨hp.both hg turns_x (hfw _),?_,h2.ab.follows (hfw _),h2.ai,h2.wv,apart_follows h2.wv h2.wa (hfw _),h2.wt,fun q hq => ⟨(h2.wi q hq).1.follows (hfw _),(h2.wi q hq).2⟩,h2.ov,fun q hq => ⟨(h2.oi q hq).1.follows (hfw _),(h2.oi q hq).2⟩,h2.rv,fun q hq => ⟨(h2.ri q hq).1.follows (hfw _),(h2.ri q hq).2.follows (hfw _)⟩,h2.lt,h2.wl,h2.wb⟩⟩,h.low hg⟩
 show FdO B _ (.slice none 0 0) t.fo
 rw [hf]
 exact World.ownsRow_nil _ _ _ _
theorem Sq.put_mt {w : World} {B X : Nat} {s : Sv} (h : Sq w B X s) (m : Int) : Sq (w.setCell ⟨X,0,none⟩ (.int .i64 m)) B X { s with c := { s.c with mt := m } } ∧ Below B w (w.setCell ⟨X,0,none⟩ (.int .i64 m)) := by
 have hg := set1 w ⟨X,0,none⟩ (.int .i64 m)
 have h2 := h.part hg
 exact ⟨⟨h.blk.setAt (j := 0) (.int .i64 m),h.own,{ h2 with  }⟩,h.low hg⟩
theorem Sq.put_of {w : World} {B X : Nat} {s : Sv} (h : Sq w B X s) (m : Int) : Sq (w.setCell ⟨X,7,none⟩ (.int .i64 m)) B X { s with c := { s.c with tk := { s.c.tk with of := m } } } ∧ Below B w (w.setCell ⟨X,7,none⟩ (.int .i64 m)) := by
 have hg := set1 w ⟨X,7,none⟩ (.int .i64 m)
 have h2 := h.part hg
 exact ⟨⟨h.blk.setAt (j := 7) (.int .i64 m),h.own,{ h2 with  }⟩,h.low hg⟩
theorem Sq.put_bad {w : World} {B X : Nat} {s : Sv} (h : Sq w B X s) (b : Bool) : Sq (w.setCell ⟨X,9,none⟩ (.bool b)) B X { s with c := { s.c with tk := { s.c.tk with bad := b } } } ∧ Below B w (w.setCell ⟨X,9,none⟩ (.bool b)) := by
 have hg := set1 w ⟨X,9,none⟩ (.bool b)
 have h2 := h.part hg
 exact ⟨⟨h.blk.setAt (j := 9) (.bool b),h.own,{ h2 with  }⟩,h.low hg⟩
theorem Sq.put_busy {w : World} {B X : Nat} {s : Sv} (h : Sq w B X s) (b : Bool) : Sq (w.setCell ⟨X,22,none⟩ (.bool b)) B X { s with c := { s.c with busy := b } } ∧ Below B w (w.setCell ⟨X,22,none⟩ (.bool b)) := by
 have hg := set1 w ⟨X,22,none⟩ (.bool b)
 have h2 := h.part hg
 exact ⟨⟨h.blk.setAt (j := 22) (.bool b),h.own,{ h2 with  }⟩,h.low hg⟩
theorem Sq.put_since {w : World} {B X : Nat} {s : Sv} (h : Sq w B X s) (m : Int) : Sq (w.setCell ⟨X,23,none⟩ (.int .i64 m)) B X { s with c := { s.c with since := m } } ∧ Below B w (w.setCell ⟨X,23,none⟩ (.int .i64 m)) := by
 have hg := set1 w ⟨X,23,none⟩ (.int .i64 m)
 have h2 := h.part hg
 exact ⟨⟨h.blk.setAt (j := 23) (.int .i64 m),h.own,{ h2 with  }⟩,h.low hg⟩
theorem Sq.put_bv {w : World} {B X : Nat} {s : Sv} (h : Sq w B X s) {bv : Value} {vs : List Nat} (hp : BD w (s.rw X) bv vs) : Sq (w.setCell ⟨X,6,none⟩ bv) B X { s with c := { s.c with tk := { s.c.tk with vs := vs } },bv := bv } ∧ Below B w (w.setCell ⟨X,6,none⟩ bv) := by
 have hg := set1 w ⟨X,6,none⟩ bv
 have h2 := h.part hg
 exact ⟨⟨h.blk.setAt (j := 6) bv,h.own,{ h2 with bv := hp.both hg turns_x (follows_refl _ _) }⟩,h.low hg⟩
theorem Sq.put_wt {w : World} {B X : Nat} {s : Sv} (h : Sq w B X s) {wv : Value} {qs : List (Tk × Value)} (h1 : SR w wv qs.length 8 (qs.flatMap wenc)) (ha : qs.length = 0 ∨ Apart (s.rw X) wv) (hi : ∀ q ∈ qs,BD w (s.rw X) q.2 q.1.vs ∧ q.1.fo = []) (hl : ∀ a n c,wv = .slice a n c → n ≤ c) (hwb : qs.length = 0 ∨ ∃ k,wv.ownBlock = some k ∧ B ≤ k) : Sq (w.setCell ⟨X,25,none⟩ wv) B X { s with c := { s.c with wt := qs.map (·.1) },wv := wv,qs := qs } ∧ Below B w (w.setCell ⟨X,25,none⟩ wv) := by
 have hg := set1 w ⟨X,25,none⟩ wv
 have h2 := h.part hg
 exact ⟨⟨h.blk.setAt (j := 25) wv,h.own,{ h2 with wv := (h1.both ha hg turns_x (follows_refl _ _)).1,wa := ha,wt := rfl,wl := hl,wb := hwb,wi := fun q hq => ⟨(hi q hq).1.both hg turns_x (follows_refl _ _),(hi q hq).2⟩ }⟩,h.low hg⟩
/-- the block of the side has turned -/
theorem Pt.turnX {w w' : World} {B X : Nat} {s : Sv} (h : Pt w B X s) (hg : w.grownBy w' (some X)) (n1 : s.fv.ownBlock ≠ some X) (n2 : s.ov.ownBlock ≠ some X) (n3 : s.rv.ownBlock ≠ some X) : Pt w' B X s :=
 have hf := follows_refl w (s.rw X)
 ⟨h.bv.both hg turns_x hf,own_none h.fv hg (fun _ hi e => n1 (hi.trans e.symm)),h.ab.both hg turns_x hf,h.ai.empty,(h.wv.both h.wa hg turns_x hf).1,h.wa,h.wt,fun q hq => ⟨(h.wi q hq).1.both hg turns_x hf,(h.wi q hq).2⟩,own_none h.ov hg (fun _ hi e => n2 (hi.trans e.symm)),fun q hq => ⟨(h.oi q hq).1.both hg turns_x hf,(h.oi q hq).2.empty⟩,own_none h.rv hg (fun _ hi e => n3 (hi.trans e.symm)),fun q hq => ⟨(h.ri q hq).1.both hg turns_x hf,(h.ri q hq).2.both hg turns_x hf⟩,Nat.lt_of_lt_of_le h.lt hg.size,h.wl,h.wb⟩
theorem Sq.app_out {w w' : World} {B X : Nat} {s : Sv} (h : Sq w B X s) (hg : w.grownBy w' s.ov.ownBlock) {v' : Value} {q : Pd × Value × Value} (hv : w'.ownsRow B 49 12 v' (s.ps.length + 1) (s.ps.flatMap penc ++ penc q)) (hor : v'.ownBlock = s.ov.ownBlock ∨ v'.ownBlock = some w.heap.size)
 (hq : BD w (s.rw X) q.2.1 q.1.vs ∧ SR w q.2.2 0 5 []) : Sq (w'.setCell ⟨X,27,none⟩ v') B X { s with ov := v',ps := s.ps ++ [q] } ∧ Below B w (w'.setCell ⟨X,27,none⟩ v') := by
 have hb := h.blk.kept hg (fun e => h.ne.2.1 e.symm)
 have hp := h.pt.app_out hg hv hor hq
 have hbl : Below B w w' := (Below.refl B w).grown hg (Nat.le_trans h.own (Nat.le_of_lt h.blk.lt)) (fun k hk => (h.pt.ov.lt k hk).1)
 have hg2 := set1 w' ⟨X,27,none⟩ v'
 have hne : v'.ownBlock ≠ some X := by
  rcases hor with e | e
  ·rw [e]; exact h.ne.2.1
  ·rw [e]; intro e; injection e with e; have := h.blk.lt; omega
 have h3 := hp.turnX hg2 h.ne.1 hne h.ne.2.2
 exact ⟨⟨hb.setAt (j := 27) v',h.own,h3⟩,hbl.grown hg2 (Nat.le_trans h.own (Nat.le_of_lt hb.lt)) (fun k hk => by cases hk; exact h.own)⟩
theorem Sq.app_res {w w' : World} {B X : Nat} {s : Sv} (h : Sq w B X s) (hg : w.grownBy w' s.rv.ownBlock) {v' : Value} {q : Rs × Value × Value} (hv : w'.ownsRow B 43 6 v' (s.us.length + 1) (s.us.flatMap renc ++ renc q)) (hor : v'.ownBlock = s.rv.ownBlock ∨ v'.ownBlock = some w.heap.size)
 (hq : BD w (s.rw X) q.2.1 q.1.vs ∧ FD w (s.rw X) q.2.2 q.1.fo) : Sq (w'.setCell ⟨X,28,none⟩ v') B X { s with rv := v',us := s.us ++ [q] } ∧ Below B w (w'.setCell ⟨X,28,none⟩ v') := by
 have hb := h.blk.kept hg (fun e => h.ne.2.2 e.symm)
 have hp := h.pt.app_res hg hv hor hq
 have hbl : Below B w w' := (Below.refl B w).grown hg (Nat.le_trans h.own (Nat.le_of_lt h.blk.lt)) (fun k hk => (h.pt.rv.lt k hk).1)
 have hg2 := set1 w' ⟨X,28,none⟩ v'
 have hne : v'.ownBlock ≠ some X := by
  rcases hor with e | e
  ·rw [e]; exact h.ne.2.2
  ·rw [e]; intro e; injection e with e; have := h.blk.lt; omega
 have h3 := hp.turnX hg2 h.ne.1 h.ne.2.1 hne
 exact ⟨⟨hb.setAt (j := 28) v',h.own,h3⟩,hbl.grown hg2 (Nat.le_trans h.own (Nat.le_of_lt hb.lt)) (fun k hk => by cases hk; exact h.own)⟩
theorem Sq.app_fo {w w' : World} {B X : Nat} {s : Sv} (h : Sq w B X s) (hg : w.grownBy w' s.fv.ownBlock) {v' : Value} {x : Fd} (hv : FdO B w' v' (s.c.tk.fo ++ [x])) (hor : v'.ownBlock = s.fv.ownBlock ∨ v'.ownBlock = some w.heap.size) :
 Sq (w'.setCell ⟨X,8,none⟩ v') B X { s with fv := v',c := { s.c with tk := { s.c.tk with fo := s.c.tk.fo ++ [x] } } } ∧ Below B w (w'.setCell ⟨X,8,none⟩ v') := by
 have hb := h.blk.kept hg (fun e => h.ne.1 e.symm)
 have hp := h.pt.app_found hg hv hor
 have hbl : Below B w w' := (Below.refl B w).grown hg (Nat.le_trans h.own (Nat.le_of_lt h.blk.lt)) (fun k hk => (h.pt.fv.lt k hk).1)
 have hg2 := set1 w' ⟨X,8,none⟩ v'
 have hne : v'.ownBlock ≠ some X := by
  rcases hor with e | e
  ·rw [e]; exact h.ne.1
  ·rw [e]; intro e; injection e with e; have := h.blk.lt; omega
 have h3 := hp.turnX hg2 hne h.ne.2.1 h.ne.2.2
 exact ⟨⟨hb.setAt (j := 8) v',h.own,h3⟩,hbl.grown hg2 (Nat.le_trans h.own (Nat.le_of_lt hb.lt)) (fun k hk => by cases hk; exact h.own)⟩
end Go.Proofs.YtldcihjddebciaaGreat
