/- client: results read; Expire. -/
import Derived.Test.YtldcihjddebciaaPClW
import Derived.Laws.ResultCell
set_option linter.unusedSimpArgs false
set_option linter.unusedVariables false
set_option maxRecDepth 100000
set_option maxHeartbeats 8000000
namespace Go.Proofs.Ytldcihjddebciaa
open Go.RowKit
/-- requests, read -/
def PsV (w : World) (v : Value) (ps : List Pd) : Prop := ∃ qs : List (Pd × Value × Value),qs.map (·.1) = ps ∧ SR w v qs.length 12 (qs.flatMap penc) ∧ ∀ q ∈ qs,BV w q.2.1 q.1.vs ∧ SR w q.2.2 0 5 []
/-- results, read -/
def RsV (w : World) (v : Value) (us : List Rs) : Prop := ∃ qs : List (Rs × Value × Value),qs.map (·.1) = us ∧ SR w v qs.length 6 (qs.flatMap renc) ∧ ∀ q ∈ qs,BV w q.2.1 q.1.vs ∧ FdV w q.2.2 q.1.fo
theorem PsV.nil (w : World) : PsV w (.slice none 0 0) [] := ⟨[],rfl,SR.nil _ _,by simp⟩
theorem RsV.nil (w : World) : RsV w (.slice none 0 0) [] := ⟨[],rfl,SR.nil _ _,by simp⟩
theorem Sq.psv {w : World} {B X : Nat} {s : Sv} (h : Sq w B X s) (hm : s.ps.length ≤ 100000) : PsV w s.ov (s.ps.map (·.1)) := by
 refine ⟨s.ps,rfl,SR.of_own h.pt.ov (fun u hu => ?_) (by unfold maxLen; omega),fun q hq => ⟨(h.pt.oi q hq).1.1,(h.pt.oi q hq).2⟩⟩
 obtain ⟨q,hq,hu⟩ := List.mem_flatMap.1 hu
 obtain ⟨a,c,e⟩ := (h.pt.oi q hq).1.1.form
 obtain ⟨a',c',e'⟩ := (h.pt.oi q hq).2.form
 simp only [penc,pdc,e,e',List.mem_cons,List.not_mem_nil,or_false] at hu
 rcases hu with rfl | rfl | rfl | rfl | rfl | rfl | rfl | rfl | rfl | rfl | rfl | rfl <;> rfl
theorem Sq.one {w : World} {B X : Nat} {s : Sv} (h : Sq w B X s) : (clc s.c s.bv s.fv s.ab s.ai s.wv).toArray.all (·.oneCell') = true := by
 obtain ⟨a1,c1,e1⟩ := h.pt.bv.1.form
 obtain ⟨a2,c2,e2⟩ := own_form h.pt.fv
 obtain ⟨a3,c3,e3⟩ := h.pt.ab.1.form
 obtain ⟨a4,c4,e4⟩ := h.pt.ai.form
 obtain ⟨a5,c5,e5⟩ := h.pt.wv.form
 rw [e1,e2,e3,e4,e5]
 simp [clc,Value.oneCell']
theorem Sq.range {w : World} {B X : Nat} {s : Sv} (h : Sq w B X s) : w.rangeAt X 0 (clc s.c s.bv s.fv s.ab s.ai s.wv) := h.blk.range 0 _ (fun j v hv => by
 have e : s.cells = clc s.c s.bv s.fv s.ab s.ai s.wv ++ [.int .i64 s.now,s.ov,s.rv] := rfl
 rw [e,Nat.zero_add,List.getElem?_append_left (List.getElem?_eq_some_iff.1 hv).1]
 exact hv)
theorem results_cell_tmp2 {fn : Func} {p u v : Tmp} {ty : TypeId} (h : fn.results = #[.cell p ty,.tmp u,.tmp v]) (tmps : Array Value) (P : Program) (w : World) :
 (results fn tmps).run P w =
  ((asAddr (tmps.getD p undef)).run P w).andThen fun a w₁ => ((loadVar ty a).run P w₁).andThen fun x w₂ => .ok (.tuple #[x,tmps.getD u undef,tmps.getD v undef]) w₂ := by
 simp only [results,h]
 simp [Sem.run_bind,Result.andThen]
/-- a client that a call takes -/
structure ClOk (c : Cl) : Prop where
 wt : ∀ t ∈ c.wt,TkOk t
 wl : c.wt.length ≤ 1000
 vs : c.tk.vs.length ≤ 1000000
 fo : c.tk.fo.length ≤ 50000
 ad : c.ad.vs.length ≤ 1000000
 of : ∃ O : Nat,c.tk.of = (O : Int) ∧ O ≤ 1000000
 la : c.tk.la < 65536
/-- of, of a client that is read -/
theorem of_clv {w : World} {v : Value} {c : Cl} (hv : ClV w v c) (hc : ClOk c) (now : Int) : Calls Try.prog 25 #[v,.int .i64 now] w fun e w' => ∃ X s,e = .returned (.pointer (some ⟨X,0,none⟩)) ∧ Sd w' w.heap.size X s ∧ s.c = c ∧ s.now = now ∧ s.ps = [] ∧ s.us = [] ∧ Below w.heap.size w w' := by
 obtain ⟨bv,fv,ab,ai,wv,rfl,h1,h2,h3,h4,qs,h5,h6,h7⟩ := hv
 have hl : qs.length = c.wt.length := by rw [← h5]; simp
 exact of_any c bv fv ab ai wv now qs w h1 h2 h3 h4 h6 h5 (fun q hq => ⟨(h7 q hq).1,(h7 q hq).2,(hc.wt q.1 (by rw [← h5]; exact List.mem_map_of_mem hq)).len⟩) hc.vs (by have := hc.fo; omega) hc.ad (by have := hc.wl; omega)
theorem Sd.q {w : World} {B X : Nat} {s : Sv} {c : Cl} (h : Sd w B X s) (hc : ClOk c) (e : s.c = c) : Sq w B X s := h.weak (by
 have hl : s.qs.length = s.c.wt.length := by rw [← h.wt]; simp
 rw [hl,e]
 have := hc.wl
 omega)
theorem ClV.below {w w' : World} {v : Value} {c : Cl} (h : ClV w v c) (hb : Below w.heap.size w w') : ClV w' v c := by
 obtain ⟨bv,fv,ab,ai,wv,rfl,h1,h2,h3,h4,qs,h5,h6,h7⟩ := h
 exact ⟨bv,fv,ab,ai,wv,rfl,h1.below hb,h2.below hb,h3.below hb,h4.below hb,qs,h5,h6.below hb,fun q hq => ⟨(h7 q hq).1.below hb,(h7 q hq).2⟩⟩
theorem ClV.agg {w : World} {v : Value} {c : Cl} (h : ClV w v c) : ∃ bv fv ab ai wv : Value,v = .agg #[.int .i64 c.mt,.int .i64 c.mx,.int .i64 c.tk.kd,.int .u16 c.tk.fi,.int .u16 c.tk.la,.int .u16 c.tk.ha,bv,.int .i64 c.tk.of,fv,.bool c.tk.bad,.int .i64 c.ad.kd,.int .i64 c.ad.ask,.int .u16 c.ad.ha,.int .u16 c.ad.la,.int .u64 c.ad.hi,.int .u64 c.ad.lo,.int .i64 c.ad.of,.int .i64 c.ad.mt,.int .i64 c.ad.co,.bool c.ad.cm,ab,ai,.bool c.busy,.int .i64 c.since,.bool c.dead,wv] := by
 obtain ⟨bv,fv,ab,ai,wv,rfl,_⟩ := h
 exact ⟨bv,fv,ab,ai,wv,rfl⟩
def czl : List Value := [.int .i64 0,.int .i64 0,.int .i64 0,.int .u16 0,.int .u16 0,.int .u16 0,.slice none 0 0,.int .i64 0,.slice none 0 0,.bool false,.int .i64 0,.int .i64 0,.int .u16 0,.int .u16 0,.int .u64 0,.int .u64 0,.int .i64 0,.int .i64 0,.int .i64 0,.bool false,.slice none 0 0,.slice none 0 0,.bool false,.int .i64 0,.bool false,.slice none 0 0]
theorem czl_u8 (off : Nat) (x : Int) : czl[off]? ≠ some (.int .u8 x) := by
 intro h
 have hm := List.mem_of_getElem? h
 simp [czl] at hm
theorem czl_fd (off : Nat) (a b c d : Int) (h0 : czl[off]? = some (.int .u16 a)) (h1 : czl[off + 1]? = some (.int .u16 b)) (h2 : czl[off + 2]? = some (.int .u16 c)) (h3 : czl[off + 3]? = some (.int .i64 d)) : False := by
 have hl : off < 26 := (List.getElem?_eq_some_iff.1 h0).1
 unfold czl at h0 h1 h2 h3
 match off,hl with
 |0,_ => simp at h0 h1 h2 h3
 |1,_ => simp at h0 h1 h2 h3
 |2,_ => simp at h0 h1 h2 h3
 |3,_ => simp at h0 h1 h2 h3
 |4,_ => simp at h0 h1 h2 h3
 |5,_ => simp at h0 h1 h2 h3
 |6,_ => simp at h0 h1 h2 h3
 |7,_ => simp at h0 h1 h2 h3
 |8,_ => simp at h0 h1 h2 h3
 |9,_ => simp at h0 h1 h2 h3
 |10,_ => simp at h0 h1 h2 h3
 |11,_ => simp at h0 h1 h2 h3
 |12,_ => simp at h0 h1 h2 h3
 |13,_ => simp at h0 h1 h2 h3
 |14,_ => simp at h0 h1 h2 h3
 |15,_ => simp at h0 h1 h2 h3
 |16,_ => simp at h0 h1 h2 h3
 |17,_ => simp at h0 h1 h2 h3
 |18,_ => simp at h0 h1 h2 h3
 |19,_ => simp at h0 h1 h2 h3
 |20,_ => simp at h0 h1 h2 h3
 |21,_ => simp at h0 h1 h2 h3
 |22,_ => simp at h0 h1 h2 h3
 |23,_ => simp at h0 h1 h2 h3
 |24,_ => simp at h0 h1 h2 h3
 |25,_ => simp at h0 h1 h2 h3
theorem Blk.at? {w : World} {b : Nat} {t : TypeId} {cs : List Value} (h : Blk w b t cs) (off : Nat) : w.cell? ⟨b,off,none⟩ = cs[off]? := by
 simp [World.cell?,show w.heap[b]? = _ from h]
theorem Blk.putC {w : World} {b : Nat} (h : Blk w b 35 czl) (c : Cl) (bv fv ab ai wv : Value) : Blk (w.setCells b 0 (clc c bv fv ab ai wv)) b 35 (clc c bv fv ab ai wv) := by
 have h1 := h.setCells (vs := clc c bv fv ab ai wv) (o := 0)
 simp only [czl,clc,over,List.set_cons_zero,List.set_cons_succ,Nat.reduceAdd] at h1 ⊢
 exact h1
theorem BV.notz {w w' : World} {v : Value} {bs : List Nat} {rb : Nat} (h : BV w v bs) (hz : Blk w rb 35 czl) (hg : w.grownBy w' (some rb)) : BV w' v bs := by
 by_cases h0 : bs.length = 0
 ·refine h.with ?_
  have h1 := h.sr
  rw [h0] at h1 ⊢
  have e : bs = [] := List.eq_nil_of_length_eq_zero h0
  subst e
  exact h1.empty
 ·refine h.with (h.sr.grown hg ?_)
  obtain ⟨_,_,_,ao,cap,rfl,_,h4⟩ := h.sr
  obtain ⟨b,off,rfl,_,hc⟩ := h4 (by omega)
  refine .inr ⟨b,rfl,fun e => ?_⟩
  injection e with e
  subst e
  cases bs with
  |nil => simp at h0
  |cons x r =>
   have h5 := hc 0 (.int .u8 (x : Int)) rfl
   rw [hz.at?] at h5
   exact czl_u8 _ _ h5
theorem FdV.notz {w w' : World} {v : Value} {l : List Fd} {rb : Nat} (h : FdV w v l) (hz : Blk w rb 35 czl) (hg : w.grownBy w' (some rb)) : FdV w' v l := by
 by_cases h0 : l.length = 0
 ·have e : l = [] := List.eq_nil_of_length_eq_zero h0
  subst e
  exact SR.empty h
 ·refine SR.grown h hg ?_
  obtain ⟨_,_,_,ao,cap,rfl,_,h4⟩ := h
  obtain ⟨b,off,rfl,_,hc⟩ := h4 (by omega)
  refine .inr ⟨b,rfl,fun e => ?_⟩
  injection e with e
  subst e
  cases l with
  |nil => simp at h0
  |cons x r =>
   have h5 := hc 0 (.int .u16 x.ha) rfl
   have h6 := hc 1 (.int .u16 x.la) rfl
   have h7 := hc 2 (.int .u16 x.va) rfl
   have h8 := hc 3 (.int .i64 x.pr) rfl
   rw [hz.at?] at h5 h6 h7 h8
   exact czl_fd _ _ _ _ _ h5 h6 h7 h8
/-- the readings stand when the result's block is written -/
theorem Sq.ends {w w' : World} {B X rb : Nat} {s : Sv} (h : Sq w B X s) (hz : Blk w rb 35 czl) (hrb : rb < B) (hg : w.grownBy w' (some rb)) (hfo : s.c.tk.fo.length ≤ 10000000) (hp : s.ps.length ≤ 100000) (hu : s.us.length ≤ 100000) :
 ClV w' (.agg (clc s.c s.bv s.fv s.ab s.ai s.wv).toArray) s.c ∧ PsV w' s.ov (s.ps.map (·.1)) ∧ RsV w' s.rv (s.us.map (·.1)) := by
 have hfv : FdO B w' s.fv s.c.tk.fo := own_none h.pt.fv hg (fun i hi e => blk_ne hz h.pt.fv (by decide) (hi.trans e.symm))
 have hov := own_none h.pt.ov hg (fun i hi e => blk_ne hz h.pt.ov (by decide) (hi.trans e.symm))
 have hrv := own_none h.pt.rv hg (fun i hi e => blk_ne hz h.pt.rv (by decide) (hi.trans e.symm))
 refine ⟨⟨_,_,_,_,_,rfl,h.pt.bv.1.notz hz hg,hfv.fdv (by omega),h.pt.ab.1.notz hz hg,h.pt.ai.empty,s.qs,h.pt.wt,?_,fun q hq => ⟨(h.pt.wi q hq).1.1.notz hz hg,(h.pt.wi q hq).2⟩⟩,?_,?_⟩
 ·refine h.pt.wv.grown hg ?_
  rcases h.pt.wb with h0 | ⟨k,hk,hb⟩
  ·exact .inl h0
  ·exact .inr ⟨k,hk,fun e => by injection e with e; omega⟩
 ·obtain ⟨qs,h1,h2,h3⟩ := h.psv hp
  refine ⟨s.ps,rfl,SR.of_own hov (fun u hu => ?_) (by unfold maxLen; omega),fun q hq => ⟨(h.pt.oi q hq).1.1.notz hz hg,(h.pt.oi q hq).2.empty⟩⟩
  obtain ⟨q,hq,hu⟩ := List.mem_flatMap.1 hu
  obtain ⟨a,c,e⟩ := (h.pt.oi q hq).1.1.form
  obtain ⟨a',c',e'⟩ := (h.pt.oi q hq).2.form
  simp only [penc,pdc,e,e',List.mem_cons,List.not_mem_nil,or_false] at hu
  rcases hu with rfl | rfl | rfl | rfl | rfl | rfl | rfl | rfl | rfl | rfl | rfl | rfl <;> rfl
 ·refine ⟨s.us,rfl,SR.of_own hrv (fun u hu => ?_) (by unfold maxLen; omega),fun q hq => ⟨(h.pt.ri q hq).1.1.notz hz hg,(h.pt.ri q hq).2.1.notz hz hg⟩⟩
  obtain ⟨q,hq,hu⟩ := List.mem_flatMap.1 hu
  obtain ⟨a,c,e⟩ := (h.pt.ri q hq).1.1.form
  obtain ⟨a',c',e'⟩ := (h.pt.ri q hq).2.1.form
  simp only [renc,rsc,e,e',List.mem_cons,List.not_mem_nil,or_false] at hu
  rcases hu with rfl | rfl | rfl | rfl | rfl | rfl <;> rfl
/-- a row that does not lie in a block -/
def Off (rb : Nat) (v : Value) : Prop := ∀ k,v.ownBlock = some k → k ≠ rb
/-- a client's waiting row does not lie in a block -/
def WOff (rb : Nat) (v : Value) (c : Cl) : Prop := ∀ cs : List Value,v = .agg cs.toArray → ∀ u,cs[25]? = some u → c.wt.length = 0 ∨ Off rb u
/-- the rows of a side lie in no block of the caller's -/
theorem Sq.off {w : World} {B X rb : Nat} {s : Sv} (h : Sq w B X s) (hrb : rb < B) : WOff rb (.agg (clc s.c s.bv s.fv s.ab s.ai s.wv).toArray) s.c ∧ Off rb s.ov ∧ Off rb s.rv := by
 refine ⟨fun cs e u hu => ?_,fun k hk e => ?_,fun k hk e => ?_⟩
 ·simp only [Value.agg.injEq] at e
  have e' : clc s.c s.bv s.fv s.ab s.ai s.wv = cs := by simpa using congrArg Array.toList e
  subst e'
  have hu' : s.wv = u := by
   have : (clc s.c s.bv s.fv s.ab s.ai s.wv)[25]? = some s.wv := rfl
   rw [this] at hu
   injection hu
  subst hu'
  rw [← h.pt.wt,List.length_map]
  rcases h.pt.wb with h0 | ⟨k,hk,hb⟩
  ·exact .inl h0
  ·exact .inr fun k' hk' e' => by rw [hk] at hk'; injection hk' with hk'; omega
 ·have := (h.pt.ov.lt k hk).1
  omega
 ·have := (h.pt.rv.lt k hk).1
  omega
/-- the same readings, and their rows lie in no block below B -/
def ClVo (B : Nat) (w : World) (v : Value) (c : Cl) : Prop := ClV w v c ∧ ∀ rb,rb < B → WOff rb v c
def PsVo (B : Nat) (w : World) (v : Value) (ps : List Pd) : Prop := PsV w v ps ∧ (∀ rb,rb < B → Off rb v) ∧ ∃ a c,v = .slice a ps.length c ∧ ps.length ≤ c
theorem own_cap {w : World} {base e k n : Nat} {v : Value} {cs : List Value} (h : w.ownsRow base e k v n cs) : ∃ a c,v = .slice a n c ∧ n ≤ c := by
 rcases h.2 with ⟨h1,h2⟩ | ⟨g,cap,cur,h1,_,_,h2,_⟩
 ·exact ⟨none,0,by rw [h1,h2],by omega⟩
 ·exact ⟨_,_,h1,h2⟩
def RsVo (B : Nat) (w : World) (v : Value) (us : List Rs) : Prop := RsV w v us ∧ ∀ rb,rb < B → Off rb v
theorem off_nil (rb : Nat) : Off rb (.slice none 0 0) := fun k hk => by cases hk
theorem PsVo.nil (B : Nat) (w : World) : PsVo B w (.slice none 0 0) [] := ⟨PsV.nil w,fun rb _ => off_nil rb,none,0,rfl,Nat.le_refl _⟩
theorem RsVo.nil (B : Nat) (w : World) : RsVo B w (.slice none 0 0) [] := ⟨RsV.nil w,fun rb _ => off_nil rb⟩
theorem Sq.endo {w w' : World} {B B' X rb : Nat} {s : Sv} (h : Sq w B X s) (hB : B' ≤ B) (hz : Blk w rb 35 czl) (hrb : rb < B) (hg : w.grownBy w' (some rb)) (hfo : s.c.tk.fo.length ≤ 10000000) (hp : s.ps.length ≤ 100000) (hu : s.us.length ≤ 100000) :
 ClVo B' w' (.agg (clc s.c s.bv s.fv s.ab s.ai s.wv).toArray) s.c ∧ PsVo B' w' s.ov (s.ps.map (·.1)) ∧ RsVo B' w' s.rv (s.us.map (·.1)) :=
 have e := h.ends hz hrb hg hfo hp hu
 ⟨⟨e.1,fun r hr => (h.off (Nat.lt_of_lt_of_le hr hB)).1⟩,⟨e.2.1,fun r hr => (h.off (Nat.lt_of_lt_of_le hr hB)).2.1,by simpa using own_cap h.pt.ov⟩,⟨e.2.2,fun r hr => (h.off (Nat.lt_of_lt_of_le hr hB)).2.2⟩⟩
def expireP (c : Cl) (now : Int) : Sp := if c.busy = false ∨ now - c.since ≤ 30000000 then ⟨c,now,[],[]⟩ else ⟨{ c with dead := true,busy := false,tk := tk0,ad := pd0,wt := [] },now,[],[⟨8,c.tk.kd,0,[],[],0⟩]⟩
theorem expire_any (c : Cl) (v : Value) (now : Int) (w : World) (hv : ClV w v c) (hc : ClOk c) (hwr : IntKind.i64.wrap (now - c.since) = now - c.since) :
 Calls Try.prog 20 #[v,.int .i64 now] w fun e w' => ∃ v' r,e = .returned (.tuple #[v',r]) ∧ ClVo w.heap.size w' v' (expireP c now).c ∧ RsVo w.heap.size w' r (expireP c now).us ∧ Below w.heap.size w w' := by
 have HV := Lib.hid hv
 obtain ⟨bv,fv,ab,ai,wv,rfl⟩ := hv.agg
 have bC0 := (Blk.new w 35 [.int .i64 c.mt,.int .i64 c.mx,.int .i64 c.tk.kd,.int .u16 c.tk.fi,.int .u16 c.tk.la,.int .u16 c.tk.ha,bv,.int .i64 c.tk.of,fv,.bool c.tk.bad,.int .i64 c.ad.kd,.int .i64 c.ad.ask,.int .u16 c.ad.ha,.int .u16 c.ad.la,.int .u64 c.ad.hi,.int .u64 c.ad.lo,.int .i64 c.ad.of,.int .i64 c.ad.mt,.int .i64 c.ad.co,.bool c.ad.cm,ab,ai,.bool c.busy,.int .i64 c.since,.bool c.dead,wv]).alloc (.cells #[.int .i64 0,.int .i64 0,.int .i64 0,.int .u16 0,.int .u16 0,.int .u16 0,.slice none 0 0,.int .i64 0,.slice none 0 0,.bool false,.int .i64 0,.int .i64 0,.int .u16 0,.int .u16 0,.int .u64 0,.int .u64 0,.int .i64 0,.int .i64 0,.int .i64 0,.bool false,.slice none 0 0,.slice none 0 0,.bool false,.int .i64 0,.bool false,.slice none 0 0] 35)
 have bR0 := Blk.new (w.alloc (.cells #[.int .i64 c.mt,.int .i64 c.mx,.int .i64 c.tk.kd,.int .u16 c.tk.fi,.int .u16 c.tk.la,.int .u16 c.tk.ha,bv,.int .i64 c.tk.of,fv,.bool c.tk.bad,.int .i64 c.ad.kd,.int .i64 c.ad.ask,.int .u16 c.ad.ha,.int .u16 c.ad.la,.int .u64 c.ad.hi,.int .u64 c.ad.lo,.int .i64 c.ad.of,.int .i64 c.ad.mt,.int .i64 c.ad.co,.bool c.ad.cm,ab,ai,.bool c.busy,.int .i64 c.since,.bool c.dead,wv] 35)) 35 czl
 have hz0 : (w.alloc (.cells #[.int .i64 c.mt,.int .i64 c.mx,.int .i64 c.tk.kd,.int .u16 c.tk.fi,.int .u16 c.tk.la,.int .u16 c.tk.ha,bv,.int .i64 c.tk.of,fv,.bool c.tk.bad,.int .i64 c.ad.kd,.int .i64 c.ad.ask,.int .u16 c.ad.ha,.int .u16 c.ad.la,.int .u64 c.ad.hi,.int .u64 c.ad.lo,.int .i64 c.ad.of,.int .i64 c.ad.mt,.int .i64 c.ad.co,.bool c.ad.cm,ab,ai,.bool c.busy,.int .i64 c.since,.bool c.dead,wv] 35)).heap.size = w.heap.size + 1 := by simp
 have hB0 : Below w.heap.size w ((w.alloc (.cells #[.int .i64 c.mt,.int .i64 c.mx,.int .i64 c.tk.kd,.int .u16 c.tk.fi,.int .u16 c.tk.la,.int .u16 c.tk.ha,bv,.int .i64 c.tk.of,fv,.bool c.tk.bad,.int .i64 c.ad.kd,.int .i64 c.ad.ask,.int .u16 c.ad.ha,.int .u16 c.ad.la,.int .u64 c.ad.hi,.int .u64 c.ad.lo,.int .i64 c.ad.of,.int .i64 c.ad.mt,.int .i64 c.ad.co,.bool c.ad.cm,ab,ai,.bool c.busy,.int .i64 c.since,.bool c.dead,wv] 35)).alloc (.cells #[.int .i64 0,.int .i64 0,.int .i64 0,.int .u16 0,.int .u16 0,.int .u16 0,.slice none 0 0,.int .i64 0,.slice none 0 0,.bool false,.int .i64 0,.int .i64 0,.int .u16 0,.int .u16 0,.int .u64 0,.int .u64 0,.int .i64 0,.int .i64 0,.int .i64 0,.bool false,.slice none 0 0,.slice none 0 0,.bool false,.int .i64 0,.bool false,.slice none 0 0] 35)) := ((Below.refl _ _).alloc (Nat.le_refl _) _).alloc (by simp) _
 rw [hz0] at bR0
 unfold czl at bR0
 have HW := Lib.hid hwr
 clear hv hz0 hwr
 go_enter Try.func20,Try.ntmps20
 go_upto_region 1 with fail
 generalize hX : World.alloc (World.alloc w _) _ = V at bC0 bR0 hB0 ⊢
 clear hX
 have hV := HV.out.below hB0
 have hbt : V.heap[w.heap.size]? = some (.cells #[.int .i64 c.mt,.int .i64 c.mx,.int .i64 c.tk.kd,.int .u16 c.tk.fi,.int .u16 c.tk.la,.int .u16 c.tk.ha,bv,.int .i64 c.tk.of,fv,.bool c.tk.bad,.int .i64 c.ad.kd,.int .i64 c.ad.ask,.int .u16 c.ad.ha,.int .u16 c.ad.la,.int .u64 c.ad.hi,.int .u64 c.ad.lo,.int .i64 c.ad.of,.int .i64 c.ad.mt,.int .i64 c.ad.co,.bool c.ad.cm,ab,ai,.bool c.busy,.int .i64 c.since,.bool c.dead,wv] 35 (0,0)) := bC0
 have hsz := bR0.lt
 go_wp2_with (refine wpList_load_row rfl 35 _ rfl w.heap.size rfl 35 _ (0,0) _ hbt Try.underlying35 rfl (by kernel_rfl) ?_)
 refine (of_clv hV hc now).mono ?_
 rintro e w1 ⟨X,s,rfl,hSd,e1,e2,e3,e4,hB1⟩
 have H1 := hSd.q hc e1
 have bR1 : Blk w1 (w.heap.size + 1) 35 czl := bR0.below hB1
 have hl1 : Below w.heap.size w w1 := hB0.trans (hB1.mono hB0.size)
 have hrb : w.heap.size + 1 < V.heap.size := hsz
 have HFO : s.c.tk.fo.length ≤ 10000000 := by rw [e1]; have := hc.fo; omega
 have HPS : s.ps.length ≤ 100000 := by rw [e3]; simp
 have HUS : s.us.length ≤ 100000 := by rw [e4]; simp
 have hXl := H1.blk.lt
 have x22 := H1.blk.cell (j := 22) (v := .bool s.c.busy) rfl
 have x23 := H1.blk.cell (j := 23) (v := .int .i64 s.c.since) rfl
 have HE1 := Lib.hid e1
 rw [e1] at x22 x23
 have HE2 := Lib.hid (And.intro e2 (And.intro e3 e4))
 clear hbt bC0 bR0 hV hSd hB1 hsz hB0 e1 e2 e3 e4
 cases hb : c.busy with
 |false =>
  rw [hb] at x22
  have HB := Lib.hid hb
  clear hb
  have hth := bR1.there 0 26 (by simp [czl])
  go_wp2_with (first | (refine wpList_load_mid rfl 35 _ rfl X 0 rfl (clc s.c s.bv s.fv s.ab s.ai s.wv) _ H1.range Try.underlying35 rfl (by kernel_rfl) ?_) | (refine wpList_store_mid rfl 35 _ _ rfl (w.heap.size + 1) 0 (clc s.c s.bv s.fv s.ab s.ai s.wv).toArray rfl rfl hth (by kernel_rfl) H1.one ?_; simp only [Act.put]))
  have hgR := setCells_grown (w.heap.size + 1) (clc s.c s.bv s.fv s.ab s.ai s.wv) 0 w1
  have bRR : Blk (w1.setCells (w.heap.size + 1) 0 (clc s.c s.bv s.fv s.ab s.ai s.wv)) (w.heap.size + 1) 35 (clc s.c s.bv s.fv s.ab s.ai s.wv) := bR1.putC s.c s.bv s.fv s.ab s.ai s.wv
  have hl := run_loadVar_row (P := Try.prog) _ (w.heap.size + 1) 35 35 _ (0,0) _ bRR Try.underlying35 rfl (by kernel_rfl)
  have HE := H1.endo (B' := w.heap.size) (by omega) bR1 hrb hgR HFO HPS HUS
  exact bodyPost_ret (v := .tuple #[.agg (clc s.c s.bv s.fv s.ab s.ai s.wv).toArray,.slice none 0 0]) (by rw [results_cell_tmp rfl]; simp [asAddr,hl]) rfl ⟨_,_,rfl,by rw [show (expireP c now).c = c by unfold expireP; rw [if_pos (.inl HB.out)],← HE1.out]; exact HE.1,by rw [show (expireP c now).us = [] by unfold expireP; rw [if_pos (.inl HB.out)]]; exact RsVo.nil _ _,hl1.grown hgR hl1.size (fun k hk => by cases hk; omega)⟩
 |true =>
  rw [hb] at x22
  have HB := Lib.hid hb
  clear hb
  obtain ⟨Z,hZ⟩ : ∃ z,now - c.since = z := ⟨_,rfl⟩
  have hnb : IntKind.i64.wrap (now - c.since) = Z := HW.out.trans hZ
  have HZ := Lib.hid hZ
  clear hZ
  by_cases hle : Z ≤ 30000000
  ·have t1 : decide (Z ≤ 30000000) = true := by simpa using hle
   have HLE := Lib.hid hle
   clear hle
   have hth := bR1.there 0 26 (by simp [czl])
   go_wp2_with (first | (refine wpList_load_mid rfl 35 _ rfl X 0 rfl (clc s.c s.bv s.fv s.ab s.ai s.wv) _ H1.range Try.underlying35 rfl (by kernel_rfl) ?_) | (refine wpList_store_mid rfl 35 _ _ rfl (w.heap.size + 1) 0 (clc s.c s.bv s.fv s.ab s.ai s.wv).toArray rfl rfl hth (by kernel_rfl) H1.one ?_; simp only [Act.put]))
   have hgR := setCells_grown (w.heap.size + 1) (clc s.c s.bv s.fv s.ab s.ai s.wv) 0 w1
   have bRR : Blk (w1.setCells (w.heap.size + 1) 0 (clc s.c s.bv s.fv s.ab s.ai s.wv)) (w.heap.size + 1) 35 (clc s.c s.bv s.fv s.ab s.ai s.wv) := bR1.putC s.c s.bv s.fv s.ab s.ai s.wv
   have hl := run_loadVar_row (P := Try.prog) _ (w.heap.size + 1) 35 35 _ (0,0) _ bRR Try.underlying35 rfl (by kernel_rfl)
   have HE := H1.endo (B' := w.heap.size) (by omega) bR1 hrb hgR HFO HPS HUS
   exact bodyPost_ret (v := .tuple #[.agg (clc s.c s.bv s.fv s.ab s.ai s.wv).toArray,.slice none 0 0]) (by rw [results_cell_tmp rfl]; simp [asAddr,hl]) rfl ⟨_,_,rfl,by rw [show (expireP c now).c = c by unfold expireP; rw [if_pos (.inr (by rw [HZ.out]; exact HLE.out))],← HE1.out]; exact HE.1,by rw [show (expireP c now).us = [] by unfold expireP; rw [if_pos (.inr (by rw [HZ.out]; exact HLE.out))]]; exact RsVo.nil _ _,hl1.grown hgR hl1.size (fun k hk => by cases hk; omega)⟩
  ·have t1 : decide (Z ≤ 30000000) = false := by simpa using hle
   have t2 : decide (30000000 < Z) = true := by simp; omega
   have HLE := Lib.hid hle
   have i9 : 30000000 < Z := by omega
   clear hle
   go_wp2_with fail
   clear x22 x23 i9 t1 t2 hnb
   refine (report_any ⟨8,0,0,[],[],0⟩ (.slice none 0 0) (.slice none 0 0) _ V.heap.size X s H1 (BD.nil _ _) (FD.nil _ _) (by rw [HE2.out.2.2]; simp)).mono ?_
   rintro e w2 ⟨rfl,s2,H2,hs2,hb2⟩
   have bR2 : Blk w2 (w.heap.size + 1) 35 czl := (hb2.block _ hrb).trans bR1
   have hl2 : Below w.heap.size w w2 := hl1.trans (hb2.mono (by omega))
   have q1 : s2.c = c := (congrArg Sp.c hs2).trans HE1.out
   have q2 : s2.now = now := (congrArg Sp.now hs2).trans HE2.out.1
   have q3 : s2.ps.map (·.1) = [] := (congrArg Sp.ps hs2).trans (by show s.ps.map (·.1) = []; rw [HE2.out.2.1]; rfl)
   have q4 : s2.us.map (·.1) = [⟨8,c.tk.kd,0,[],[],0⟩] := (congrArg Sp.us hs2).trans (by show s.us.map (·.1) ++ [_] = _; rw [HE2.out.2.2]; show [(⟨8,s.c.tk.kd,0,[],[],0⟩ : Rs)] = _; rw [HE1.out])
   have hex : expireP c now = ⟨{ c with dead := true,busy := false,tk := tk0,ad := pd0,wt := [] },now,[],[⟨8,c.tk.kd,0,[],[],0⟩]⟩ := by
    unfold expireP
    rw [if_neg (by rw [HB.out,HZ.out]; simp; exact HLE.out)]
   have HEX := Lib.hid hex
   obtain ⟨K1,l1⟩ := H2.put_dead true
   obtain ⟨K2,l2⟩ := K1.put_busy false
   have hth1 := K2.blk.there 2 8 (by simp [Sv.cells])
   have m24 := H2.blk.cell (j := 24) (v := .bool s2.c.dead) rfl
   have z24 := H2.blk.frozen 24
   have m22 := K1.blk.cell (j := 22) (v := .bool s2.c.busy) rfl
   have z22 := K1.blk.frozen 22
   obtain ⟨K3,l3⟩ := K2.put_tk tk0 (BD.nil _ _) rfl
   rw [show tkc tk0 (.slice none 0 0) (.slice none 0 0) = [.int .i64 0,.int .u16 0,.int .u16 0,.int .u16 0,.slice none 0 0,.int .i64 0,.slice none 0 0,.bool false] from rfl] at K3 l3
   have hth2 := K3.blk.there 10 12 (by simp [Sv.cells])
   obtain ⟨K4,l4⟩ := K3.put_ad pd0 (BD.nil _ _) (SR.nil _ _)
   rw [show pdc pd0 (.slice none 0 0) (.slice none 0 0) = [.int .i64 0,.int .i64 0,.int .u16 0,.int .u16 0,.int .u64 0,.int .u64 0,.int .i64 0,.int .i64 0,.int .i64 0,.bool false,.slice none 0 0,.slice none 0 0] from rfl] at K4 l4
   obtain ⟨wa,wc,hwv⟩ := K4.pt.wv.form
   have m25 := K4.blk.cell (j := 25) (v := s2.wv) rfl
   have z25 := K4.blk.frozen 25
   obtain ⟨K5,l5⟩ := K4.put_wt (wv := .slice none 0 0) (qs := []) (SR.nil _ _) (.inl rfl) (by simp) (fun a n c e => by injection e with _ e1 e2; omega) (.inl rfl)
   have HTH : Hid (∀ w3,((w2.setCell ⟨X,24,none⟩ (.bool true)).setCell ⟨X,22,none⟩ (.bool false)).setCells X 2 [.int .i64 0,.int .u16 0,.int .u16 0,.int .u16 0,.slice none 0 0,.int .i64 0,.slice none 0 0,.bool false] = w3 → w3.there X 10 12) := Lib.hid (fun w3 e => e ▸ hth2)
   have HTM : Hid (∀ w3 w4,((w2.setCell ⟨X,24,none⟩ (.bool true)).setCell ⟨X,22,none⟩ (.bool false)).setCells X 2 [.int .i64 0,.int .u16 0,.int .u16 0,.int .u16 0,.slice none 0 0,.int .i64 0,.slice none 0 0,.bool false] = w3 → w3.setCells X 10 [.int .i64 0,.int .i64 0,.int .u16 0,.int .u16 0,.int .u64 0,.int .u64 0,.int .i64 0,.int .i64 0,.int .i64 0,.bool false,.slice none 0 0,.slice none 0 0] = w4 → w4.cell? ⟨X,25,none⟩ = some s2.wv ∧ w4.frozen? ⟨X,25,none⟩ = false) := Lib.hid (fun w3 w4 e3 e4 => by
    subst e3
    subst e4
    exact ⟨m25,z25⟩)
   have HALL : Hid (∀ w3 w4 w5,((w2.setCell ⟨X,24,none⟩ (.bool true)).setCell ⟨X,22,none⟩ (.bool false)).setCells X 2 [.int .i64 0,.int .u16 0,.int .u16 0,.int .u16 0,.slice none 0 0,.int .i64 0,.slice none 0 0,.bool false] = w3 → w3.setCells X 10 [.int .i64 0,.int .i64 0,.int .u16 0,.int .u16 0,.int .u64 0,.int .u64 0,.int .i64 0,.int .i64 0,.int .i64 0,.bool false,.slice none 0 0,.slice none 0 0] = w4 → w4.setCell ⟨X,25,none⟩ (.slice none 0 0) = w5 → ∃ s5,Sq w5 V.heap.size X s5 ∧ s5.sp = expireP c now ∧ Below V.heap.size w2 w5) := Lib.hid (fun w3 w4 w5 e3 e4 e5 => by
    subst e3
    subst e4
    subst e5
    refine ⟨_,K5,?_,(((l1.trans l2).trans l3).trans l4).trans l5⟩
    show (⟨{ s2.c with dead := true,busy := false,tk := tk0,ad := pd0,wt := [] },s2.now,s2.ps.map (·.1),s2.us.map (·.1)⟩ : Sp) = _
    rw [q1,q2,q3,q4]
    exact hex.symm)
   obtain ⟨wa,wc,hwv2⟩ := H2.pt.wv.form
   have HWV := Lib.hid hwv2
   have hX2 := H2.blk.lt
   clear H1 H2 K1 K2 K3 K4 K5 l1 l2 l3 l4 l5 hth2 m25 z25 hs2 hwv hwv2 bR1 hl1 hb2 q1 q2 q3 q4 hex
   go_upto_region 6 with (first | (refine wpList_store_mid rfl 26 _ _ rfl X 2 #[.int .i64 0,.int .u16 0,.int .u16 0,.int .u16 0,.slice none 0 0,.int .i64 0,.slice none 0 0,.bool false] rfl rfl hth1 (by kernel_rfl) (by simp [Value.oneCell']) ?_; simp only [Act.put]; generalize hW2 : World.setCells _ X 2 _ = w3; have hth2 := HTH.out w3 hW2; have HW2 := Lib.hid hW2; clear hW2) | (refine wpList_store_mid rfl 32 _ _ rfl X 10 #[.int .i64 0,.int .i64 0,.int .u16 0,.int .u16 0,.int .u64 0,.int .u64 0,.int .i64 0,.int .i64 0,.int .i64 0,.bool false,.slice none 0 0,.slice none 0 0] rfl rfl hth2 (by kernel_rfl) (by simp [Value.oneCell']) ?_; simp only [Act.put]; generalize hW3 : World.setCells _ X 10 _ = w4; obtain ⟨m25,z25⟩ := HTM.out _ _ HW2.out hW3; rw [HWV.out] at m25; have HW3 := Lib.hid hW3; clear hW3))
   generalize hW5 : World.setCell _ ⟨X,25,none⟩ _ = w5
   obtain ⟨s5,H5,hs5,l5⟩ := HALL.out _ _ _ HW2.out HW3.out hW5
   clear hW5 hth1 m24 z24 m22 z22 hth2 m25 z25 HALL HTM HTH HW2 HW3
   have HFO : s5.c.tk.fo.length ≤ 10000000 := by
    have h := congrArg (fun x : Sp => x.c.tk.fo) (hs5.trans HEX.out)
    rw [show s5.c.tk.fo = [] from h]
    simp
   have HPS : s5.ps.length ≤ 100000 := by
    have h := congrArg (fun x : Sp => x.ps.length) (hs5.trans HEX.out)
    simp [Sv.sp] at h
    simp [h]
   have HUS : s5.us.length ≤ 100000 := by
    have h := congrArg (fun x : Sp => x.us.length) (hs5.trans HEX.out)
    simp [Sv.sp] at h
    omega
   have bR5 : Blk w5 (w.heap.size + 1) 35 czl := (l5.block _ hrb).trans bR2
   have hl5 : Below w.heap.size w w5 := hl2.trans (l5.mono (by omega))
   obtain ⟨ra,rc,hrv⟩ := own_form H5.pt.rv
   have x28 := H5.blk.cell (j := 28) (v := s5.rv) rfl
   rw [hrv] at x28
   have TE : Cells w5.drew [(X,28,.slice ra s5.us.length rc)] := ⟨x28,trivial⟩
   have H6 := H5.drew
   have bRd := bR5.drew
   have hld := hl5.drew
   have HRV := Lib.hid hrv
   have HSP := Lib.hid hs5
   have hXb : X ≠ w.heap.size + 1 := by have := H5.own; omega
   clear hrv x28 hs5 H5 bR5 hl5 bR2 hl2
   refine wp_region_held_drew (S := (fun W' : World => Cells W' [(X,28,.slice ra s5.us.length rc)])) (by kernel_rfl) (TE) (fun hHeld => ?_)
   generalize World.drew _ = wd at hHeld TE H6 bRd hld ⊢
   refine tkU 0 ?_
   refine tkU 1 ?_
   refine tkU 2 ?_
   refine tkU 4 ?_
   refine tkU 5 ?_
   refine tkU 6 ?_
   refine tkU 7 ?_
   refine rd1 3 fun K hK => ?_
   refine step_load_mid (by rfl) 35 _ (by rfl) X 0 (by rfl) (clc s5.c s5.bv s5.fv s5.ab s5.ai s5.wv) _ H6.range Try.underlying35 rfl (by kernel_rfl) ?_
   clear hHeld
   refine hK.out _ _ (TE) (fun hHeld => ?_)
   clear hK K
   try simp only [Act.put,List.setIfInBounds_toArray,List.set_cons_zero,List.set_cons_succ]
   refine rd1 8 fun K hK => ?_
   refine step_store_mid (by rfl) 35 _ _ (by rfl) (w.heap.size + 1) 0 (clc s5.c s5.bv s5.fv s5.ab s5.ai s5.wv).toArray (by rfl) (by rfl) (bRd.there 0 26 (by simp [czl])) (by kernel_rfl) H6.one ?_
   generalize hX : World.setCells wd (w.heap.size + 1) 0 _ = w9
   have bR9 : Blk w9 (w.heap.size + 1) 35 (clc s5.c s5.bv s5.fv s5.ab s5.ai s5.wv) := hX ▸ bRd.putC s5.c s5.bv s5.fv s5.ab s5.ai s5.wv
   have hg9 : wd.grownBy w9 (some (w.heap.size + 1)) := hX ▸ setCells_grown (w.heap.size + 1) (clc s5.c s5.bv s5.fv s5.ab s5.ai s5.wv) 0 wd
   have TE9 : Cells w9 [(X,28,.slice ra s5.us.length rc)] := TE.grown hg9 (by simp; omega)
   have HE9 := H6.endo (B' := w.heap.size) (by omega) bRd hrb hg9 HFO HPS HUS
   clear hX
   clear hHeld
   refine hK.out _ _ (TE9) (fun hHeld => ?_)
   clear hK K
   try simp only [Act.put,List.setIfInBounds_toArray,List.set_cons_zero,List.set_cons_succ]
   refine tkU 9 ?_
   refine wpAnyH_done (by kernel_rfl) ?_ _
   go_wp2_with fail
   have hl := run_loadVar_row (P := Try.prog) _ (w.heap.size + 1) 35 35 _ (0,0) _ bR9 Try.underlying35 rfl (by kernel_rfl)
   refine bodyPost_ret (v := .tuple #[.agg (clc s5.c s5.bv s5.fv s5.ab s5.ai s5.wv).toArray,.slice ra s5.us.length rc]) (by rw [results_cell_tmp rfl]; simp [asAddr,hl]) rfl ⟨_,_,rfl,?_,?_,hld.grown hg9 hld.size (fun k hk => by cases hk; omega)⟩
   ·rw [show (expireP c now).c = s5.c from congrArg Sp.c HSP.out.symm]
    exact HE9.1
   ·rw [← HRV.out,show (expireP c now).us = s5.us.map (·.1) from congrArg Sp.us HSP.out.symm]
    exact HE9.2.2
end Go.Proofs.Ytldcihjddebciaa
