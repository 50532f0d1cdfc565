/- client with a server: plain: what is found in a database is what the tasks find; the argument. And what follows it. -/
import Derived.Test.YtldcihjddebciaaGreatDSdS
import Derived.Test.YtldcihjddebciaaGreatDSvE
set_option linter.unusedSimpArgs false
set_option linter.unusedVariables false
set_option maxRecDepth 100000
namespace Go.Proofs.YtldcihjddebciaaGreat
open Go.RowKit
/-- the services, the characteristics of a range among what is found -/
def pS (db : List At) (f : Fd) : Bool := !(f.la == 0) && isU 43980465115136 (atI db (findN db f.ha)).hi (atI db (findN db f.ha)).lo
def pC (F La : Int) (f : Fd) : Bool := (!(f.va == 0) && decide (F ≤ f.ha)) && decide (f.ha ≤ La)
theorem db_range (db : List At) : db = (List.range db.length).map (atI db) := by
 refine List.ext_getElem (by simp) fun i h1 h2 => ?_
 rw [List.getElem_map,List.getElem_range,atI_get h1]
theorem filterMap_cg {α β : Type} {f g : α → Option β} : ∀ l : List α,(∀ x ∈ l,f x = g x) → l.filterMap f = l.filterMap g
 |[],_ => rfl
 |x :: l,h => by rw [List.filterMap_cons,List.filterMap_cons,h x (by simp),filterMap_cg l fun y hy => h y (by simp [hy])]
theorem sel_eq (db : List At) (p : Fd → Bool) (q : At → Bool) (g : At → Fd) (h : ∀ i,i < db.length → (fdAt db i).filter p = if q (atI db i) = true then some (g (atI db i)) else none) : (fdL db).filter p = (db.filter q).map g := by
 have e : (db.filter q).map g = (List.range db.length).filterMap (fun i => if q (atI db i) = true then some (g (atI db i)) else none) := by
  conv => lhs; rw [db_range db]
  rw [List.filter_map,List.map_map]
  generalize List.range db.length = r
  induction r with
  |nil => rfl
  |cons i r ih =>
   rw [List.filter_cons,List.filterMap_cons]
   by_cases c : q (atI db i) = true
   ·simp only [Function.comp,c,if_true,List.map_cons]
    rw [← ih]
   ·simp only [Function.comp,c,if_false,Bool.false_eq_true]
    rw [← ih]
 rw [e]
 unfold fdL fdTo
 rw [List.filter_filterMap]
 refine filterMap_cg _ fun i hi => ?_
 rw [← h i (List.mem_range.1 hi)]
theorem fd_services {db : List At} (hg : Gdb db) (hw : DbW db) : (fdL db).filter (pS db) = (candL db 1 65535 43980465115136 9223372588214596859).map (tofS db) := by
 refine sel_eq db _ _ _ fun i hi => ?_
 have hpos := hg.pos i hi
 have hwi := hw i hi
 have hfn := findN_at hg hi
 have hin : inT 1 65535 43980465115136 9223372588214596859 (atI db i) = isU 43980465115136 (atI db i).hi (atI db i).lo := by
  unfold inT inB isU
  rw [show decide ((1 : Int) ≤ (atI db i).ha) = true by simp; omega,show decide ((atI db i).ha ≤ 65535) = true by simp; omega]
  rfl
 rw [hin]
 by_cases hp : 0 < i ∧ chA db (i - 1) = true
 ·rw [fdAt_skip hp.1 hp.2]
  have h1 := (hg.chr (i - 1) (by omega) hp.2).2.2.2.2.1
  rw [show i - 1 + 1 = i by omega] at h1
  have h2 : isU 43980465115136 (atI db i).hi (atI db i).lo = false := by
   unfold kpU dcU at h1
   simp only [Bool.or_eq_false_iff] at h1
   exact h1.1.1
  rw [h2]
  rfl
 ·by_cases hs : svA db i = true
  ·rw [fdAt_sv hp hs]
   have hge := (grLast_spec hg (at_mem hi)).1
   have hgl : grLast db (atI db i).ha = lastOf (atI db i).ha (db.drop (i + 1)) := by unfold grLast; rw [hfn]
   have hpS : pS db ⟨(atI db i).ha,lastOf (atI db i).ha (db.drop (i + 1)),0,0,((decR (atI db i).bs).1 : Nat),((decR (atI db i).bs).2.1 : Nat)⟩ = isU 43980465115136 (atI db i).hi (atI db i).lo := by
    unfold pS
    simp only [hfn]
    rw [show (lastOf (atI db i).ha (db.drop (i + 1)) == 0) = false by rw [beq_eq_false_iff_ne,← hgl]; omega]
    rfl
   cases hu : isU 43980465115136 (atI db i).hi (atI db i).lo with
   |true =>
    rw [hu] at hpS
    simp only [Option.filter,hpS,if_true]
    unfold tofS
    rw [hgl]
   |false =>
    rw [hu] at hpS
    simp only [Option.filter,hpS,if_false,Bool.false_eq_true]
  ·have hs' : svA db i = false := by simpa using hs
   have hu : isU 43980465115136 (atI db i).hi (atI db i).lo = false := by
    unfold svA svU at hs'
    simp only [Bool.or_eq_false_iff] at hs'
    exact hs'.1
   rw [hu]
   by_cases hc : chA db i = true
   ·rw [fdAt_ch hp hs' hc]
    simp [Option.filter,pS]
   ·rw [fdAt_de hp hs' (by simpa using hc)]
    simp [Option.filter,pS]
theorem fd_chars {db : List At} (hg : Gdb db) (F La : Int) : (fdL db).filter (pC F La) = (candL db F La 43993350017024 9223372588214596859).map tofC := by
 refine sel_eq db _ _ _ fun i hi => ?_
 have hin : inT F La 43993350017024 9223372588214596859 (atI db i) = (inB F La (atI db i) && chA db i) := rfl
 rw [hin]
 by_cases hp : 0 < i ∧ chA db (i - 1) = true
 ·rw [fdAt_skip hp.1 hp.2]
  have h1 := (hg.chr (i - 1) (by omega) hp.2).2.2.2.2.1
  rw [show i - 1 + 1 = i by omega] at h1
  have h2 : chA db i = false := by
   unfold kpU dcU at h1
   unfold chA chU
   simp only [Bool.or_eq_false_iff] at h1
   exact h1.1.2.2.2
  rw [h2,Bool.and_false]
  rfl
 ·by_cases hs : svA db i = true
  ·rw [fdAt_sv hp hs]
   have h2 : chA db i = false := sv_not_ch hs
   rw [h2,Bool.and_false]
   simp [Option.filter,pC]
  ·have hs' : svA db i = false := by simpa using hs
   by_cases hc : chA db i = true
   ·rw [fdAt_ch hp hs' hc,hc,Bool.and_true]
    have hv := (ch_mem hg (at_mem hi) hc).2
    have hpC : pC F La ⟨(atI db i).ha,0,(chP (atI db i).bs).2.1,(chP (atI db i).bs).1,(chP (atI db i).bs).2.2.1,(chP (atI db i).bs).2.2.2.1⟩ = inB F La (atI db i) := by
     unfold pC inB
     rw [show ((chP (atI db i).bs).2.1 == 0) = false by rw [beq_eq_false_iff_ne]; omega]
     rfl
    cases hu : inB F La (atI db i) with
    |true =>
     rw [hu] at hpC
     simp only [Option.filter,hpC,if_true]
     rfl
    |false =>
     rw [hu] at hpC
     simp only [Option.filter,hpC,if_false,Bool.false_eq_true]
   ·rw [fdAt_de hp hs' (by simpa using hc)]
    have hc' : chA db i = false := by simpa using hc
    rw [hc',Bool.and_false]
    simp [Option.filter,pC]
/-- whatever is found has the handle of an attribute -/
theorem fd_ha {db : List At} (hg : Gdb db) {f : Fd} (hf : f ∈ fdL db) : ∃ i,i < db.length ∧ findN db f.ha = i := by
 unfold fdL fdTo at hf
 obtain ⟨i,hi,e⟩ := List.mem_filterMap.1 hf
 have hi := List.mem_range.1 hi
 refine ⟨i,hi,?_⟩
 have hh : f.ha = (atI db i).ha := by
  by_cases hp : 0 < i ∧ chA db (i - 1) = true
  ·rw [fdAt_skip hp.1 hp.2] at e
   cases e
  ·by_cases hs : svA db i = true
   ·rw [fdAt_sv hp hs] at e
    cases e
    rfl
   ·have hs' : svA db i = false := by simpa using hs
    by_cases hc : chA db i = true
    ·rw [fdAt_ch hp hs' hc] at e
     cases e
     rfl
    ·rw [fdAt_de hp hs' (by simpa using hc)] at e
     cases e
     rfl
 rw [hh]
 exact findN_at hg hi
theorem rd_atW {w : World} (cs : List Value) (h : Rd Tryz.prog w 29 cs) : ∃ (t : At) (a : Option Addr) (c : Nat),cs = [.int .u16 t.ha,.int .u64 t.hi,.int .u64 t.lo,.int .i64 t.pe,.slice a t.bs.length c] ∧ (t.bs.length ≤ c ∧ BytesAt w (.slice a t.bs.length c) t.bs) ∧ (0 ≤ t.ha ∧ t.ha < 65536) ∧ (0 ≤ t.hi ∧ t.hi < 18446744073709551616) ∧ 0 ≤ t.lo ∧ t.lo < 18446744073709551616 := by
 obtain ⟨hl,hf⟩ := h.struct Tryz.underlying29
 rw [Tryz.cells_at] at hl
 obtain ⟨c0,c1,c2,c3,c4,rfl⟩ : ∃ c0 c1 c2 c3 c4,cs = [c0,c1,c2,c3,c4] := by
  match cs,hl with
  |[c0,c1,c2,c3,c4],_ => exact ⟨c0,c1,c2,c3,c4,rfl⟩
 have f0 : Rd Tryz.prog w 23 (([c0,c1,c2,c3,c4].drop 0).take (Tryz.prog.cellsOf 23)) := hf 0 _ rfl
 have f1 : Rd Tryz.prog w 26 (([c0,c1,c2,c3,c4].drop 1).take (Tryz.prog.cellsOf 26)) := hf 1 _ rfl
 have f2 : Rd Tryz.prog w 3 (([c0,c1,c2,c3,c4].drop 3).take (Tryz.prog.cellsOf 3)) := hf 2 _ rfl
 have f3 : Rd Tryz.prog w 27 (([c0,c1,c2,c3,c4].drop 4).take (Tryz.prog.cellsOf 27)) := hf 3 _ rfl
 simp only [Tryz.cells_u16,Tryz.cells_int,Tryz.cells_uuid,Tryz.cells_bts,List.drop_succ_cons,List.drop_zero,List.take_succ_cons,List.take_zero] at f0 f1 f2 f3
 obtain ⟨hl1,hf1⟩ := f1.struct Tryz.underlying26
 have g0 : Rd Tryz.prog w 24 (([c1,c2].drop 0).take (Tryz.prog.cellsOf 24)) := hf1 0 _ rfl
 have g1 : Rd Tryz.prog w 24 (([c1,c2].drop 1).take (Tryz.prog.cellsOf 24)) := hf1 1 _ rfl
 simp only [Tryz.cells_u64,List.drop_succ_cons,List.drop_zero,List.take_succ_cons,List.take_zero] at g0 g1
 obtain ⟨x0,e0,b0⟩ := f0.u16 Tryz.underlying23
 obtain ⟨hi,e1,b1⟩ := g0.u64 Tryz.underlying24
 obtain ⟨lo,e3,b3⟩ := g1.u64 Tryz.underlying24
 obtain ⟨x2,e2,_⟩ := f2.i64 Tryz.underlying3
 obtain ⟨bs,a,n,c,rfl,hc,rfl,hb⟩ := rd_bts f3
 simp only [List.cons.injEq,and_true] at e0 e1 e2 e3
 subst e0 e1 e2 e3
 exact ⟨⟨x0,hi,lo,x2,bs⟩,a,c,rfl,⟨hc,hb⟩,by simp only; omega,by simp only; omega,by simp only; omega,by simp only; omega⟩
theorem arg_dbw {w : World} {v : Value} (h : Arg Tryz.prog w 22 v) : ∃ db,DbR w v db ∧ DbW db := by
 obtain ⟨l,h1,h2,h3⟩ := sr_of_in (α := At × Option Addr × Nat) (fun x => [.int .u16 x.1.ha,.int .u64 x.1.hi,.int .u64 x.1.lo,.int .i64 x.1.pe,.slice x.2.1 x.1.bs.length x.2.2]) (fun x => (x.1.bs.length ≤ x.2.2 ∧ BytesAt w (.slice x.2.1 x.1.bs.length x.2.2) x.1.bs) ∧ (0 ≤ x.1.ha ∧ x.1.ha < 65536) ∧ (0 ≤ x.1.hi ∧ x.1.hi < 18446744073709551616) ∧ 0 ≤ x.1.lo ∧ x.1.lo < 18446744073709551616) 5 56 (fun _ => rfl)
  (fun x _ u hu => by simp at hu; rcases hu with rfl | rfl | rfl | rfl | rfl <;> rfl) (by decide) Tryz.cells_at Tryz.bytes_at (fun cs hcs => by obtain ⟨t,a,c,e,hc⟩ := rd_atW cs hcs; exact ⟨(t,a,c),e,hc⟩) (h.slIn Tryz.underlying22)
 refine ⟨l.map (·.1),⟨l.map (fun x => (x.1,.slice x.2.1 x.1.bs.length x.2.2)),by simp,?_,fun q hq => ?_⟩,fun i hi => ?_⟩
 ·rw [List.length_map,List.flatMap_map]
  exact h1
 ·obtain ⟨x,hx,rfl⟩ := List.mem_map.1 hq
  show BV w (.slice x.2.1 x.1.bs.length x.2.2) x.1.bs
  exact ⟨x.2.1,x.2.2,rfl,(h3 x hx).1.1,(h3 x hx).1.2⟩
 ·have hi' : i < l.length := by simpa using hi
  rw [← atI_get hi,List.getElem_map]
  exact (h3 _ (List.getElem_mem hi')).2
/-- what was found, read, apart from a block -/
def SrA (X : Nat) (w : World) (v : Value) (l : List Fd) : Prop := SR w v l.length 6 (fcells l) ∧ (l.length = 0 ∨ Apart [some X] v)
theorem SrA.below {X : Nat} {w w' : World} {v : Value} {l : List Fd} (h : SrA X w v l) (hb : Below w.heap.size w w') : SrA X w' v l := ⟨SR.below h.1 hb,h.2⟩
theorem SrA.kx {X : Nat} {w w' : World} {v : Value} {l : List Fd} (h : SrA X w v l) (hk : KX X w w') : SrA X w' v l := ⟨h.1.kp h.2 hk.kp,h.2⟩
theorem SrA.form {X : Nat} {w : World} {v : Value} {l : List Fd} (h : SrA X w v l) : ∃ a c,v = .slice a l.length c := by
 obtain ⟨⟨_,_,_,ao,cap,rfl,_,_⟩,_⟩ := h
 exact ⟨ao,cap,rfl⟩
theorem SrA.of {w : World} {X : Nat} {t : TypeId} {zs : List Value} {v : Value} {l : List Fd} (h : FdV w v l) (hn : Nob zs) (hz : Blk w X t zs) : SrA X w v l := by
 refine ⟨h,?_⟩
 cases l with
 |nil => exact .inl rfl
 |cons f r =>
  obtain ⟨_,_,_,ao,cap,rfl,_,hx⟩ := h
  obtain ⟨b,off,rfl,_,hc⟩ := hx (by simp)
  refine .inr (fun k hk hm => ?_)
  have hk2 : b = k := by injection hk
  have hm2 : k = X := by simpa using hm
  subst hk2 hm2
  have hg : ∀ j u,(fcells (f :: r))[j]? = some u → zs[off + j]? = some u := fun j u hj => by
   have h1 := hc j u hj
   rwa [hz.at?] at h1
  exact hn.fd off f.ha f.la f.va f.pr (hg 0 _ rfl) (hg 1 _ rfl) (hg 2 _ rfl) (hg 3 _ rfl)
/-- a task without a value is carried out by an idle pair -/
def DoT (X : Nat) (db : List At) (mx : Int) (t : Tk) (r : Rs) : Prop := ∀ (W : World) (cs ss : List Value),PR W X cs ss (idle mx mx 0) ⟨db,mx,mx,[]⟩ true →
 Calls Tryz.prog 12 #[.pointer (some ⟨X,0,none⟩),.agg #[.int .i64 t.kd,.int .u16 t.fi,.int .u16 t.la,.int .u16 t.ha,.slice none 0 0,.int .i64 t.of,.slice none 0 0,.bool t.bad]] W fun e w' => ∃ ba bc fa fc cs2 ss2,e = .returned (.agg #[.int .i64 r.kd,.int .i64 r.tk,.int .u16 r.ha,.slice ba r.vs.length bc,.slice fa r.fo.length fc,.int .i64 r.co]) ∧ BV w' (.slice ba r.vs.length bc) r.vs ∧ SrA X w' (.slice fa r.fo.length fc) r.fo ∧ PR w' X cs2 ss2 (idle mx mx 0) ⟨db,mx,mx,[]⟩ true ∧ KX X W w'
theorem doT {st : Ss → Pd → Ss × Pd × List Im} {G : Cl → Ss → Pd → Prop} (H : HOk st G) (X : Nat) (db : List At) (mx : Int) (t : Tk) (r : Rs) (hv : t.vs = []) (hkd : (Lit.int .i64 t.kd).wf = true) (hr : r.tk = t.kd)
 (h : ∃ c1 q,(startP (idle mx mx 0) t 0).2 = 0 ∧ (startP (idle mx mx 0) t 0).1.c = c1 ∧ (startP (idle mx mx 0) t 0).1.ps = [q] ∧ PlayG st G 3000 c1 ⟨db,mx,mx,[]⟩ q r (idle mx mx 0) ⟨db,mx,mx,[]⟩) : DoT X db mx t r := by
 intro W cs ss hP
 obtain ⟨c1,q,h1,h2,h3,h4⟩ := h
 refine (do_any H X cs ss (idle mx mx 0) ⟨db,mx,mx,[]⟩ t none 0 0 none 0 0 q r c1 (idle mx mx 0) ⟨db,mx,mx,[]⟩ W hP (ok_idle mx mx 0) (by rw [hv]; exact BV.nil _) (by rw [hv]; exact Nat.zero_le _) hkd h1 h2 h3 h4 hr rfl).mono ?_
 rintro e w' ⟨bv,fv,cs2,ss2,rfl,hbv,hfv,hP2,hK⟩
 obtain ⟨ba,bc,rfl⟩ := hbv.form
 have hf := SrA.of hfv hP2.nox.nob hP2.blk
 obtain ⟨fa,fc,rfl⟩ := hf.form
 exact ⟨ba,bc,fa,fc,cs2,ss2,rfl,hbv,hf,hP2,hK⟩
theorem ok_read {db : List At} (hg : Gdb db) (h : ∀ j,j < db.length → (!((bits .and .i64 (atI db j).pe 1 == 0) && (chU (atI db j).hi (atI db j).lo || isU 47459388624896 (atI db j).hi (atI db j).lo))) = true) : ∀ x ∈ db,(chU x.hi x.lo || isU 47459388624896 x.hi x.lo) = true → rdB x = true := fun x hx hc => by
 obtain ⟨j,hj,e⟩ := List.getElem_of_mem hx
 rw [atI_get hj] at e
 have h1 := h j hj
 have h2 := (bits_pe (hg.prm j hj)).1
 rw [h2,e,hc] at h1
 unfold rdB
 cases hq : (x.pe % 2 == 1) with
 |true => rfl
 |false => rw [hq] at h1; cases h1
end Go.Proofs.YtldcihjddebciaaGreat
