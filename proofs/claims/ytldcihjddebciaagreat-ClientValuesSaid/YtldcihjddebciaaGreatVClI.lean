/- client: the side of a client in memory. -/
import Derived.Test.YtldcihjddebciaaGreatVClH
set_option linter.unusedSimpArgs false
set_option linter.unusedVariables false
namespace Go.Proofs.YtldcihjddebciaaGreat
open Go.RowKit
structure Pd where
 kd : Int
 ask : Int
 ha : Nat
 la : Nat
 hi : Nat
 lo : Nat
 of : Int
 mt : Int
 co : Int
 cm : Bool
 vs : List Nat
instance : Inhabited Pd := ⟨⟨0,0,0,0,0,0,0,0,0,false,[]⟩⟩
def pdc (p : Pd) (bv iv : Value) : List Value := [.int .i64 p.kd,.int .i64 p.ask,.int .u16 p.ha,.int .u16 p.la,.int .u64 p.hi,.int .u64 p.lo,.int .i64 p.of,.int .i64 p.mt,.int .i64 p.co,.bool p.cm,bv,iv]
/-- a client -/
structure Cl where
 mt : Int
 mx : Int
 tk : Tk
 ad : Pd
 busy : Bool
 since : Int
 dead : Bool
 wt : List Tk
def clc (c : Cl) (bv fv ab ai wv : Value) : List Value := [.int .i64 c.mt,.int .i64 c.mx,.int .i64 c.tk.kd,.int .u16 c.tk.fi,.int .u16 c.tk.la,.int .u16 c.tk.ha,bv,.int .i64 c.tk.of,fv,.bool c.tk.bad,.int .i64 c.ad.kd,.int .i64 c.ad.ask,.int .u16 c.ad.ha,.int .u16 c.ad.la,.int .u64 c.ad.hi,.int .u64 c.ad.lo,.int .i64 c.ad.of,.int .i64 c.ad.mt,.int .i64 c.ad.co,.bool c.ad.cm,ab,ai,.bool c.busy,.int .i64 c.since,.bool c.dead,wv]
/-- a result -/
structure Rs where
 kd : Int
 tk : Int
 ha : Nat
 vs : List Nat
 fo : List Fd
 co : Int
instance : Inhabited Rs := ⟨⟨0,0,0,[],[],0⟩⟩
def rsc (r : Rs) (bv fv : Value) : List Value := [.int .i64 r.kd,.int .i64 r.tk,.int .u16 r.ha,bv,fv,.int .i64 r.co]
theorem SR.empty {w w' : World} {v : Value} {size : Nat} {cs : List Value} (h : SR w v 0 size cs) : SR w' v 0 size cs := by
 obtain ⟨h1,h2,h3,ao,cap,rfl,hn,_⟩ := h
 exact ⟨h1,h2,h3,ao,cap,rfl,hn,fun h => absurd h (by omega)⟩
/-- which block may turn -/
def Turns (w : World) (R : List (Option Nat)) (r : Option Nat) : Prop := ∀ k,r = some k → some k ∈ R ∨ w.heap.size ≤ k
theorem SR.turned {w w' : World} {v : Value} {n size : Nat} {cs : List Value} {R : List (Option Nat)} {r : Option Nat} (h : SR w v n size cs) (ha : n = 0 ∨ Apart R v) (hg : w.grownBy w' r) (hr : Turns w R r) : SR w' v n size cs := by
 by_cases h0 : n = 0
 ·subst h0
  exact h.empty
 ·refine h.grown hg (.inr ?_)
  obtain ⟨b,hb,hlt⟩ := h.lies.resolve_left h0
  refine ⟨b,hb,fun e => ?_⟩
  rcases hr b e with h1 | h1
  ·exact ha.resolve_left h0 b hb h1
  ·omega
/-- the rows are among the old ones, or new -/
def Follows (w : World) (R R' : List (Option Nat)) : Prop := ∀ k,some k ∈ R' → some k ∈ R ∨ w.heap.size ≤ k
theorem apart_follows {w : World} {v : Value} {n size : Nat} {cs : List Value} {R R' : List (Option Nat)} (h : SR w v n size cs) (ha : n = 0 ∨ Apart R v) (hR : Follows w R R') : n = 0 ∨ Apart R' v := by
 rcases ha with h0 | ha
 ·exact .inl h0
 ·rcases h.lies with h0 | ⟨b,hb,hlt⟩
  ·exact .inl h0
  ·refine .inr fun k hk hm => ?_
   rw [hb] at hk
   injection hk with hk
   subst hk
   rcases hR b hm with h1 | h1
   ·exact ha b hb h1
   ·omega
theorem apart_new {v : Value} {R : List (Option Nat)} {n : Nat} (h : Own n v) (hR : ∀ k,some k ∈ R → k < n) : Apart R v := fun k hk hm => by
 have := h k hk
 have := hR k hm
 omega
/-- bytes, apart from the rows -/
def BD (w : World) (R : List (Option Nat)) (v : Value) (bs : List Nat) : Prop := BV w v bs ∧ (bs.length = 0 ∨ Apart R v)
theorem BV.with {w w' : World} {v : Value} {bs : List Nat} (h : BV w v bs) (hs : SR w' v bs.length 1 (bcells bs)) : BV w' v bs := by
 obtain ⟨a,c,rfl,hc,_,h2⟩ := h
 exact ⟨a,c,rfl,hc,hs,h2⟩
theorem BD.turned {w w' : World} {v : Value} {bs : List Nat} {R : List (Option Nat)} {r : Option Nat} (h : BD w R v bs) (hg : w.grownBy w' r) (hr : Turns w R r) : BD w' R v bs := ⟨h.1.with (h.1.sr.turned h.2 hg hr),h.2⟩
theorem BD.follows {w : World} {v : Value} {bs : List Nat} {R R' : List (Option Nat)} (h : BD w R v bs) (hR : Follows w R R') : BD w R' v bs := ⟨h.1,apart_follows h.1.sr h.2 hR⟩
theorem BD.new {w : World} {v : Value} {bs : List Nat} {R : List (Option Nat)} {n : Nat} (h : BV w v bs) (ho : Own n v) (hR : ∀ k,some k ∈ R → k < n) : BD w R v bs := ⟨h,.inr (apart_new ho hR)⟩
theorem BD.below {w w' : World} {v : Value} {bs : List Nat} {R : List (Option Nat)} (h : BD w R v bs) (hb : Below w.heap.size w w') : BD w' R v bs := ⟨h.1.below hb,h.2⟩
theorem BD.nil (w : World) (R : List (Option Nat)) : BD w R (.slice none 0 0) [] := ⟨BV.nil w,.inl rfl⟩
/-- what was found, apart from the rows -/
def FD (w : World) (R : List (Option Nat)) (v : Value) (l : List Fd) : Prop := FdV w v l ∧ (l.length = 0 ∨ Apart R v)
theorem FD.turned {w w' : World} {v : Value} {l : List Fd} {R : List (Option Nat)} {r : Option Nat} (h : FD w R v l) (hg : w.grownBy w' r) (hr : Turns w R r) : FD w' R v l := ⟨SR.turned h.1 h.2 hg hr,h.2⟩
theorem FD.follows {w : World} {v : Value} {l : List Fd} {R R' : List (Option Nat)} (h : FD w R v l) (hR : Follows w R R') : FD w R' v l := ⟨h.1,apart_follows h.1 h.2 hR⟩
theorem FD.new {w : World} {v : Value} {l : List Fd} {R : List (Option Nat)} {n : Nat} (h : FdV w v l) (ho : Own n v) (hR : ∀ k,some k ∈ R → k < n) : FD w R v l := ⟨h,.inr (apart_new ho hR)⟩
theorem FD.below {w w' : World} {v : Value} {l : List Fd} {R : List (Option Nat)} (h : FD w R v l) (hb : Below w.heap.size w w') : FD w' R v l := ⟨h.1.below hb,h.2⟩
theorem FD.nil (w : World) (R : List (Option Nat)) : FD w R (.slice none 0 0) [] := ⟨FdV.nil w,.inl rfl⟩
/-- a waiting task -/
def wenc (q : Tk × Value) : List Value := tkc q.1 q.2 (.slice none 0 0)
def penc (q : Pd × Value × Value) : List Value := pdc q.1 q.2.1 q.2.2
def renc (q : Rs × Value × Value) : List Value := rsc q.1 q.2.1 q.2.2
/-- a client's value, read -/
def ClV (w : World) (v : Value) (c : Cl) : Prop := ∃ bv fv ab ai wv,v = .agg (clc c bv fv ab ai wv).toArray ∧ BV w bv c.tk.vs ∧ FdV w fv c.tk.fo ∧ BV w ab c.ad.vs ∧ SR w ai 0 5 [] ∧
 ∃ qs : List (Tk × Value),qs.map (·.1) = c.wt ∧ SR w wv qs.length 8 (qs.flatMap wenc) ∧ ∀ q ∈ qs,BV w q.2 q.1.vs ∧ q.1.fo = []
/-- a side, with its values -/
structure Sv where
 c : Cl
 now : Int
 bv : Value
 fv : Value
 ab : Value
 ai : Value
 wv : Value
 ov : Value
 rv : Value
 qs : List (Tk × Value)
 ps : List (Pd × Value × Value)
 us : List (Rs × Value × Value)
def Sv.cells (s : Sv) : List Value := [.int .i64 s.c.mt,.int .i64 s.c.mx,.int .i64 s.c.tk.kd,.int .u16 s.c.tk.fi,.int .u16 s.c.tk.la,.int .u16 s.c.tk.ha,s.bv,.int .i64 s.c.tk.of,s.fv,.bool s.c.tk.bad,.int .i64 s.c.ad.kd,.int .i64 s.c.ad.ask,.int .u16 s.c.ad.ha,.int .u16 s.c.ad.la,.int .u64 s.c.ad.hi,.int .u64 s.c.ad.lo,.int .i64 s.c.ad.of,.int .i64 s.c.ad.mt,.int .i64 s.c.ad.co,.bool s.c.ad.cm,s.ab,s.ai,.bool s.c.busy,.int .i64 s.c.since,.bool s.c.dead,s.wv,.int .i64 s.now,s.ov,s.rv]
def Sv.rows (s : Sv) (X : Nat) : List (Option Nat) := [some X,s.fv.ownBlock,s.wv.ownBlock,s.ov.ownBlock,s.rv.ownBlock]
structure Sd (w : World) (B X : Nat) (s : Sv) : Prop where
 blk : Blk w X 103 s.cells
 own : B ≤ X
 bv : BD w (s.rows X) s.bv s.c.tk.vs
 fv : FdO B w s.fv s.c.tk.fo
 ab : BD w (s.rows X) s.ab s.c.ad.vs
 ai : SR w s.ai 0 5 []
 wv : w.ownsRow B 46 8 s.wv s.qs.length (s.qs.flatMap wenc)
 wt : s.qs.map (·.1) = s.c.wt
 wi : ∀ q ∈ s.qs,BD w (s.rows X) q.2 q.1.vs ∧ q.1.fo = []
 ov : w.ownsRow B 49 12 s.ov s.ps.length (s.ps.flatMap penc)
 oi : ∀ q ∈ s.ps,BD w (s.rows X) q.2.1 q.1.vs ∧ SR w q.2.2 0 5 []
 rv : w.ownsRow B 43 6 s.rv s.us.length (s.us.flatMap renc)
 ri : ∀ q ∈ s.us,BD w (s.rows X) q.2.1 q.1.vs ∧ FD w (s.rows X) q.2.2 q.1.fo
theorem own_none {w w' : World} {base e k n : Nat} {v : Value} {cs : List Value} {r : Option Nat} (h : w.ownsRow base e k v n cs) (hg : w.grownBy w' r) (hne : ∀ i,v.ownBlock = some i → r ≠ some i) : w'.ownsRow base e k v n cs := by
 refine ⟨h.1,?_⟩
 rcases h.2 with h0 | ⟨g,cap,cur,rfl,hb,hh,q⟩
 ·exact .inl h0
 ·exact .inr ⟨g,cap,cur,rfl,hb,by rw [hg.block g (Array.getElem?_eq_some_iff.1 hh).1 (fun e => hne g (by simp [Value.ownBlock]) e.symm)]; exact hh,q⟩
/-- two rows of two types lie apart -/
theorem rows_ne {w : World} {base e k n base' e' k' n' : Nat} {v v' : Value} {cs cs' : List Value} (h : w.ownsRow base e k v n cs) (h' : w.ownsRow base' e' k' v' n' cs') (he : e ≠ e') : ∀ i,v.ownBlock = some i → v'.ownBlock ≠ some i := by
 intro i hi hi'
 rcases h.2 with ⟨rfl,_⟩ | ⟨g,cap,cur,rfl,hb,hh,q⟩
 ·cases hi
 ·rcases h'.2 with ⟨rfl,_⟩ | ⟨g',cap',cur',rfl,hb',hh',q'⟩
  ·cases hi'
  ·simp only [Value.ownBlock,Option.some.injEq] at hi hi'
   subst hi
   subst hi'
   rw [hh] at hh'
   injection hh' with hh'
   injection hh' with _ hh'
   exact he hh'
theorem blk_ne {w : World} {X t base e k n : Nat} {v : Value} {cs l : List Value} (hb : Blk w X t l) (h : w.ownsRow base e k v n cs) (he : e ≠ t) : v.ownBlock ≠ some X := by
 intro hi
 rcases h.2 with ⟨rfl,_⟩ | ⟨g,cap,cur,rfl,hbb,hh,q⟩
 ·cases hi
 ·simp only [Value.ownBlock,Option.some.injEq] at hi
  subst hi
  have hb' : w.heap[g]? = some (.cells l.toArray t (0,0)) := hb
  rw [hh] at hb'
  injection hb' with hb'
  injection hb' with _ hb'
  exact he hb'
theorem own_lt {w : World} {base e k n : Nat} {v : Value} {cs : List Value} (h : w.ownsRow base e k v n cs) : ∀ i,v.ownBlock = some i → i < w.heap.size := fun i hi => (h.lt i hi).2
theorem Sd.below {w w' : World} {B X : Nat} {s : Sv} (h : Sd w B X s) (hb : Below w.heap.size w w') : Sd w' B X s :=
 ⟨h.blk.below hb,h.own,h.bv.below hb,h.fv.below hb,h.ab.below hb,h.ai.empty,own_below h.wv hb,h.wt,fun q hq => ⟨(h.wi q hq).1.below hb,(h.wi q hq).2⟩,own_below h.ov hb,fun q hq => ⟨(h.oi q hq).1.below hb,(h.oi q hq).2.empty⟩,own_below h.rv hb,fun q hq => ⟨(h.ri q hq).1.below hb,(h.ri q hq).2.below hb⟩⟩
theorem Sd.drew {w : World} {B X : Nat} {s : Sv} (h : Sd w B X s) : Sd w.drew B X s := h.below (Below.refl _ _).drew
theorem Sd.lts {w : World} {B X : Nat} {s : Sv} (h : Sd w B X s) : ∀ k,some k ∈ s.rows X → k < w.heap.size := by
 intro k hk
 simp only [Sv.rows,List.mem_cons,List.not_mem_nil,or_false,Option.some.injEq] at hk
 rcases hk with e | e | e | e | e
 ·subst e
  exact h.blk.lt
 ·exact own_lt h.fv k e.symm
 ·exact own_lt h.wv k e.symm
 ·exact own_lt h.ov k e.symm
 ·exact own_lt h.rv k e.symm
end Go.Proofs.YtldcihjddebciaaGreat
