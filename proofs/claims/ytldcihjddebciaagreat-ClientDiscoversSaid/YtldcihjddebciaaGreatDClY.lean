/- client: Handle. -/
import Derived.Test.YtldcihjddebciaaGreatDClX
set_option linter.unusedSimpArgs false
set_option linter.unusedVariables false
set_option maxRecDepth 100000
set_option maxHeartbeats 12000000
namespace Go.Proofs.YtldcihjddebciaaGreat
open Go.RowKit
theorem own_max {w : World} {base e k n : Nat} {v : Value} {cs : List Value} (h : w.ownsRow base e k v n cs) : n ≤ maxLen := by
 rcases h.2 with ⟨_,e⟩ | ⟨g,cap,cur,_,_,_,h1,h2,_⟩
 ·omega
 ·omega
theorem own_one (w : World) (cs : List Value) (e size base : Nat) (hs : cs.length = size) (hb : base ≤ w.heap.size) : (w.alloc (.cells cs.toArray e)).ownsRow base e size (.slice (some ⟨w.heap.size,0,none⟩) 1 1) 1 cs :=
 ⟨by simp [hs],.inr ⟨w.heap.size,1,cs.toArray,rfl,hb,heap_alloc_new w _,Nat.le_refl _,by unfold maxLen; omega,by simp [hs],by simp [← hs]⟩⟩
theorem Sq.new_res {w : World} {B X : Nat} {s : Sv} (h : Sq w B X s) (hu : s.us = []) {q : Rs × Value × Value} (hq : BD w (s.rw X) q.2.1 q.1.vs ∧ FD w (s.rw X) q.2.2 q.1.fo) :
 Sq ((w.alloc (.cells (renc q).toArray 43)).setCell ⟨X,28,none⟩ (.slice (some ⟨w.heap.size,0,none⟩) 1 1)) B X { s with rv := .slice (some ⟨w.heap.size,0,none⟩) 1 1,us := s.us ++ [q] } ∧ Below B w ((w.alloc (.cells (renc q).toArray 43)).setCell ⟨X,28,none⟩ (.slice (some ⟨w.heap.size,0,none⟩) 1 1)) :=
 h.app_res (World.grownBy_alloc w _ _) (by rw [hu]; exact own_one w (renc q) _ 6 B rfl (Nat.le_trans h.own (Nat.le_of_lt h.blk.lt))) (.inr rfl) hq
theorem Sq.new_out {w : World} {B X : Nat} {s : Sv} (h : Sq w B X s) (hu : s.ps = []) {q : Pd × Value × Value} (hq : BD w (s.rw X) q.2.1 q.1.vs ∧ SR w q.2.2 0 5 []) :
 Sq ((w.alloc (.cells (penc q).toArray 49)).setCell ⟨X,27,none⟩ (.slice (some ⟨w.heap.size,0,none⟩) 1 1)) B X { s with ov := .slice (some ⟨w.heap.size,0,none⟩) 1 1,ps := s.ps ++ [q] } ∧ Below B w ((w.alloc (.cells (penc q).toArray 49)).setCell ⟨X,27,none⟩ (.slice (some ⟨w.heap.size,0,none⟩) 1 1)) :=
 h.app_out (World.grownBy_alloc w _ _) (by rw [hu]; exact own_one w (penc q) _ 12 B rfl (Nat.le_trans h.own (Nat.le_of_lt h.blk.lt))) (.inr rfl) hq
theorem ItB.mono {w : World} {B B' : Nat} {v : Value} {qs : List (Im × Value)} (h : ItB w B v qs) (hb : B ≤ B') : ItB w B' v qs := ⟨h.sr,h.low.imp id (fun ⟨b,h1,h2⟩ => ⟨b,h1,by omega⟩),fun q hq => ⟨(h.bv q hq).1,(h.bv q hq).2.1.imp id (fun ⟨b,h1,h2⟩ => ⟨b,h1,by omega⟩),(h.bv q hq).2.2⟩,h.rg⟩
def handleP (c : Cl) (p : Pd) (l : List Im) (now : Int) : Sp :=
 if c.dead = true then ⟨c,now,[],[]⟩
 else if p.kd = 27 then ⟨c,now,[],[⟨6,0,p.ha,p.vs,[],0⟩]⟩
 else if p.kd = 29 then ⟨c,now,[{ pd0 with kd := 30 }],[⟨7,0,p.ha,p.vs,[],0⟩]⟩
 else if c.busy = true ∧ p.kd = 1 ∧ p.ask = c.ad.kd then (⟨c,now,[],[]⟩ : Sp).refused p.co
 else if c.busy = true ∧ p.kd = ansI c.ad.kd then (⟨c,now,[],[]⟩ : Sp).answered p l
 else ⟨c,now,[],[]⟩
/-- the readings stand when the result's block is written -/
theorem Sq.ends2 {w w' : World} {B X rb : Nat} {s : Sv} (h : Sq w B X s) (hz : Blk w rb 52 czl) (hrb : rb < B) (hg : w.grownBy w' (some rb)) :
 ClV w' (.agg (clc s.c s.bv s.fv s.ab s.ai s.wv).toArray) s.c ∧ PsV w' s.ov (s.ps.map (·.1)) ∧ RsV w' s.rv (s.us.map (·.1)) := by
 have hfv : FdO B w' s.fv s.c.tk.fo := own_none h.pt.fv hg (fun i hi e => blk_ne hz h.pt.fv (by decide) (hi.trans e.symm))
 have hov := own_none h.pt.ov hg (fun i hi e => blk_ne hz h.pt.ov (by decide) (hi.trans e.symm))
 have hrv := own_none h.pt.rv hg (fun i hi e => blk_ne hz h.pt.rv (by decide) (hi.trans e.symm))
 refine ⟨⟨_,_,_,_,_,rfl,h.pt.bv.1.notz hz hg,SR.of_own hfv (fcells_one _) (own_max hfv),h.pt.ab.1.notz hz hg,h.pt.ai.empty,s.qs,h.pt.wt,?_,fun q hq => ⟨(h.pt.wi q hq).1.1.notz hz hg,(h.pt.wi q hq).2⟩⟩,?_,?_⟩
 ·refine h.pt.wv.grown hg ?_
  rcases h.pt.wb with h0 | ⟨k,hk,hb⟩
  ·exact .inl h0
  ·exact .inr ⟨k,hk,fun e => by injection e with e; omega⟩
 ·refine ⟨s.ps,rfl,SR.of_own hov (fun u hu => ?_) (own_max hov),fun q hq => ⟨(h.pt.oi q hq).1.1.notz hz hg,(h.pt.oi q hq).2.empty⟩⟩
  obtain ⟨q,hq,hu⟩ := List.mem_flatMap.1 hu
  obtain ⟨a,c,e⟩ := (h.pt.oi q hq).1.1.form
  obtain ⟨a',c',e'⟩ := (h.pt.oi q hq).2.form
  simp only [penc,pdc,e,e',List.mem_cons,List.not_mem_nil,or_false] at hu
  rcases hu with rfl | rfl | rfl | rfl | rfl | rfl | rfl | rfl | rfl | rfl | rfl | rfl <;> rfl
 ·refine ⟨s.us,rfl,SR.of_own hrv (fun u hu => ?_) (own_max hrv),fun q hq => ⟨(h.pt.ri q hq).1.1.notz hz hg,(h.pt.ri q hq).2.1.notz hz hg⟩⟩
  obtain ⟨q,hq,hu⟩ := List.mem_flatMap.1 hu
  obtain ⟨a,c,e⟩ := (h.pt.ri q hq).1.1.form
  obtain ⟨a',c',e'⟩ := (h.pt.ri q hq).2.1.form
  simp only [renc,rsc,e,e',List.mem_cons,List.not_mem_nil,or_false] at hu
  rcases hu with rfl | rfl | rfl | rfl | rfl | rfl <;> rfl
theorem Sq.endo2 {w w' : World} {B B' X rb : Nat} {s : Sv} (h : Sq w B X s) (hB : B' ≤ B) (hz : Blk w rb 52 czl) (hrb : rb < B) (hg : w.grownBy w' (some rb)) :
 ClVo B' w' (.agg (clc s.c s.bv s.fv s.ab s.ai s.wv).toArray) s.c ∧ PsVo B' w' s.ov (s.ps.map (·.1)) ∧ RsVo B' w' s.rv (s.us.map (·.1)) :=
 have e := h.ends2 hz hrb hg
 ⟨⟨e.1,fun r hr => (h.off (Nat.lt_of_lt_of_le hr hB)).1⟩,⟨e.2.1,fun r hr => (h.off (Nat.lt_of_lt_of_le hr hB)).2.1,by simpa using own_cap h.pt.ov⟩,⟨e.2.2,fun r hr => (h.off (Nat.lt_of_lt_of_le hr hB)).2.2⟩⟩
theorem hnd_any (c : Cl) (v : Value) (p : Pd) (bv2 iv : Value) (qs : List (Im × Value)) (now : Int) (w : World) (hv : ClV w v c) (hc : ClOk c) (hb : BV w bv2 p.vs) (hI : ItB w w.heap.size iv qs) (hbs : p.vs.length ≤ 1000000) (hqs : qs.length ≤ 50000) (hk : -9223372036854775808 ≤ c.ad.kd ∧ c.ad.kd ≤ 9223372036854775807)
 (hAL : c.busy = true → p.kd = ansI c.ad.kd → (p.kd = 5 ∨ (p.kd = 9 ∧ ¬ c.tk.kd = 9)) → c.ad.la = c.tk.la) :
 Calls Tryz.prog 21 #[v,.agg #[.int .i64 p.kd,.int .i64 p.ask,.int .u16 p.ha,.int .u16 p.la,.int .u64 p.hi,.int .u64 p.lo,.int .i64 p.of,.int .i64 p.mt,.int .i64 p.co,.bool p.cm,bv2,iv],.int .i64 now] w fun e w' => ∃ v' o r,e = .returned (.tuple #[v',o,r]) ∧ ClVo w.heap.size w' v' (handleP c p (qs.map (·.1)) now).c ∧ PsVo w.heap.size w' o (handleP c p (qs.map (·.1)) now).ps ∧ RsVo w.heap.size w' r (handleP c p (qs.map (·.1)) now).us ∧ Below w.heap.size w w' := by
 have HV := Lib.hid hv
 obtain ⟨bv,fv,ab,ai,wv,rfl⟩ := hv.agg
 obtain ⟨pa,pc,rfl⟩ := hb.form
 obtain ⟨KP,hK⟩ : ∃ L,p.vs.length = L := ⟨_,rfl⟩
 obtain ⟨ia,ic,rfl⟩ := hI.sr.form
 obtain ⟨N,hN⟩ : ∃ L,qs.length = L := ⟨_,rfl⟩
 rw [hK] at hb hbs ⊢
 rw [hN] at hI ⊢
 have HK := Lib.hid hK
 have HN := Lib.hid hN
 have HQS := Lib.hid hqs
 clear hK hN hqs
 have bC0 := ((Blk.new w 52 [.int .i64 c.mt,.int .i64 c.mx,.int .i64 c.tk.kd,.int .u16 c.tk.fi,.int .u16 c.tk.la,.int .u16 c.tk.ha,bv,.int .i64 c.tk.of,fv,.bool c.tk.bad,.int .i64 c.ad.kd,.int .i64 c.ad.ask,.int .u16 c.ad.ha,.int .u16 c.ad.la,.int .u64 c.ad.hi,.int .u64 c.ad.lo,.int .i64 c.ad.of,.int .i64 c.ad.mt,.int .i64 c.ad.co,.bool c.ad.cm,ab,ai,.bool c.busy,.int .i64 c.since,.bool c.dead,wv]).alloc (.cells #[.int .i64 p.kd,.int .i64 p.ask,.int .u16 p.ha,.int .u16 p.la,.int .u64 p.hi,.int .u64 p.lo,.int .i64 p.of,.int .i64 p.mt,.int .i64 p.co,.bool p.cm,.slice pa KP pc,.slice ia N ic] 49)).alloc (.cells #[.int .i64 0,.int .i64 0,.int .i64 0,.int .u16 0,.int .u16 0,.int .u16 0,.slice none 0 0,.int .i64 0,.slice none 0 0,.bool false,.int .i64 0,.int .i64 0,.int .u16 0,.int .u16 0,.int .u64 0,.int .u64 0,.int .i64 0,.int .i64 0,.int .i64 0,.bool false,.slice none 0 0,.slice none 0 0,.bool false,.int .i64 0,.bool false,.slice none 0 0] 52)
 have bP0 := (Blk.new (w.alloc (.cells #[.int .i64 c.mt,.int .i64 c.mx,.int .i64 c.tk.kd,.int .u16 c.tk.fi,.int .u16 c.tk.la,.int .u16 c.tk.ha,bv,.int .i64 c.tk.of,fv,.bool c.tk.bad,.int .i64 c.ad.kd,.int .i64 c.ad.ask,.int .u16 c.ad.ha,.int .u16 c.ad.la,.int .u64 c.ad.hi,.int .u64 c.ad.lo,.int .i64 c.ad.of,.int .i64 c.ad.mt,.int .i64 c.ad.co,.bool c.ad.cm,ab,ai,.bool c.busy,.int .i64 c.since,.bool c.dead,wv] 52)) 49 [.int .i64 p.kd,.int .i64 p.ask,.int .u16 p.ha,.int .u16 p.la,.int .u64 p.hi,.int .u64 p.lo,.int .i64 p.of,.int .i64 p.mt,.int .i64 p.co,.bool p.cm,.slice pa KP pc,.slice ia N ic]).alloc (.cells #[.int .i64 0,.int .i64 0,.int .i64 0,.int .u16 0,.int .u16 0,.int .u16 0,.slice none 0 0,.int .i64 0,.slice none 0 0,.bool false,.int .i64 0,.int .i64 0,.int .u16 0,.int .u16 0,.int .u64 0,.int .u64 0,.int .i64 0,.int .i64 0,.int .i64 0,.bool false,.slice none 0 0,.slice none 0 0,.bool false,.int .i64 0,.bool false,.slice none 0 0] 52)
 have bR0 := Blk.new ((w.alloc (.cells #[.int .i64 c.mt,.int .i64 c.mx,.int .i64 c.tk.kd,.int .u16 c.tk.fi,.int .u16 c.tk.la,.int .u16 c.tk.ha,bv,.int .i64 c.tk.of,fv,.bool c.tk.bad,.int .i64 c.ad.kd,.int .i64 c.ad.ask,.int .u16 c.ad.ha,.int .u16 c.ad.la,.int .u64 c.ad.hi,.int .u64 c.ad.lo,.int .i64 c.ad.of,.int .i64 c.ad.mt,.int .i64 c.ad.co,.bool c.ad.cm,ab,ai,.bool c.busy,.int .i64 c.since,.bool c.dead,wv] 52)).alloc (.cells #[.int .i64 p.kd,.int .i64 p.ask,.int .u16 p.ha,.int .u16 p.la,.int .u64 p.hi,.int .u64 p.lo,.int .i64 p.of,.int .i64 p.mt,.int .i64 p.co,.bool p.cm,.slice pa KP pc,.slice ia N ic] 49)) 52 czl
 have hz0 : (w.alloc (.cells #[.int .i64 c.mt,.int .i64 c.mx,.int .i64 c.tk.kd,.int .u16 c.tk.fi,.int .u16 c.tk.la,.int .u16 c.tk.ha,bv,.int .i64 c.tk.of,fv,.bool c.tk.bad,.int .i64 c.ad.kd,.int .i64 c.ad.ask,.int .u16 c.ad.ha,.int .u16 c.ad.la,.int .u64 c.ad.hi,.int .u64 c.ad.lo,.int .i64 c.ad.of,.int .i64 c.ad.mt,.int .i64 c.ad.co,.bool c.ad.cm,ab,ai,.bool c.busy,.int .i64 c.since,.bool c.dead,wv] 52)).heap.size = w.heap.size + 1 := by simp
 have hz1 : ((w.alloc (.cells #[.int .i64 c.mt,.int .i64 c.mx,.int .i64 c.tk.kd,.int .u16 c.tk.fi,.int .u16 c.tk.la,.int .u16 c.tk.ha,bv,.int .i64 c.tk.of,fv,.bool c.tk.bad,.int .i64 c.ad.kd,.int .i64 c.ad.ask,.int .u16 c.ad.ha,.int .u16 c.ad.la,.int .u64 c.ad.hi,.int .u64 c.ad.lo,.int .i64 c.ad.of,.int .i64 c.ad.mt,.int .i64 c.ad.co,.bool c.ad.cm,ab,ai,.bool c.busy,.int .i64 c.since,.bool c.dead,wv] 52)).alloc (.cells #[.int .i64 p.kd,.int .i64 p.ask,.int .u16 p.ha,.int .u16 p.la,.int .u64 p.hi,.int .u64 p.lo,.int .i64 p.of,.int .i64 p.mt,.int .i64 p.co,.bool p.cm,.slice pa KP pc,.slice ia N ic] 49)).heap.size = w.heap.size + 2 := by simp
 have hB0 : Below w.heap.size w (((w.alloc (.cells #[.int .i64 c.mt,.int .i64 c.mx,.int .i64 c.tk.kd,.int .u16 c.tk.fi,.int .u16 c.tk.la,.int .u16 c.tk.ha,bv,.int .i64 c.tk.of,fv,.bool c.tk.bad,.int .i64 c.ad.kd,.int .i64 c.ad.ask,.int .u16 c.ad.ha,.int .u16 c.ad.la,.int .u64 c.ad.hi,.int .u64 c.ad.lo,.int .i64 c.ad.of,.int .i64 c.ad.mt,.int .i64 c.ad.co,.bool c.ad.cm,ab,ai,.bool c.busy,.int .i64 c.since,.bool c.dead,wv] 52)).alloc (.cells #[.int .i64 p.kd,.int .i64 p.ask,.int .u16 p.ha,.int .u16 p.la,.int .u64 p.hi,.int .u64 p.lo,.int .i64 p.of,.int .i64 p.mt,.int .i64 p.co,.bool p.cm,.slice pa KP pc,.slice ia N ic] 49)).alloc (.cells #[.int .i64 0,.int .i64 0,.int .i64 0,.int .u16 0,.int .u16 0,.int .u16 0,.slice none 0 0,.int .i64 0,.slice none 0 0,.bool false,.int .i64 0,.int .i64 0,.int .u16 0,.int .u16 0,.int .u64 0,.int .u64 0,.int .i64 0,.int .i64 0,.int .i64 0,.bool false,.slice none 0 0,.slice none 0 0,.bool false,.int .i64 0,.bool false,.slice none 0 0] 52)) := (((Below.refl _ _).alloc (Nat.le_refl _) _).alloc (by simp) _).alloc (by simp; omega) _
 rw [hz0] at bP0
 rw [hz1] at bR0
 unfold czl at bR0
 clear hv hz0 hz1
 go_enter Tryz.func21,Tryz.ntmps21
 go_upto_region 1 with fail
 generalize hX : World.alloc (World.alloc (World.alloc w _) _) _ = V at bC0 bP0 bR0 hB0 ⊢
 clear hX
 have hV := HV.out.below hB0
 have hbt : V.heap[w.heap.size]? = some (.cells #[.int .i64 c.mt,.int .i64 c.mx,.int .i64 c.tk.kd,.int .u16 c.tk.fi,.int .u16 c.tk.la,.int .u16 c.tk.ha,bv,.int .i64 c.tk.of,fv,.bool c.tk.bad,.int .i64 c.ad.kd,.int .i64 c.ad.ask,.int .u16 c.ad.ha,.int .u16 c.ad.la,.int .u64 c.ad.hi,.int .u64 c.ad.lo,.int .i64 c.ad.of,.int .i64 c.ad.mt,.int .i64 c.ad.co,.bool c.ad.cm,ab,ai,.bool c.busy,.int .i64 c.since,.bool c.dead,wv] 52 (0,0)) := bC0
 have hsz := bR0.lt
 go_wp2_with (refine wpList_load_row rfl 52 _ rfl w.heap.size rfl 52 _ (0,0) _ hbt Tryz.underlying52 rfl (by kernel_rfl) ?_)
 refine (of_clv hV hc now).mono ?_
 rintro e w1 ⟨X,s,rfl,hSd,e1,e2,e3,e4,hB1⟩
 have H1 := hSd.q hc e1
 have bR1 : Blk w1 (w.heap.size + 2) 52 czl := bR0.below hB1
 have bP1 := bP0.below hB1
 have hl1 : Below w.heap.size w w1 := hB0.trans (hB1.mono hB0.size)
 have hb1 := (hb.below hB0).below hB1
 have hI1 : ItB w1 V.heap.size (.slice ia N ic) qs := (hI.below hl1).mono hB0.size
 have hrb : w.heap.size + 2 < V.heap.size := hsz
 have hXl := H1.blk.lt
 have hXo := H1.own
 have HE1 := Lib.hid e1
 have HE2 := Lib.hid (And.intro e2 (And.intro e3 e4))
 have HSP : Hid (s.sp = ⟨c,now,[],[]⟩) := Lib.hid (by unfold Sv.sp; rw [e1,e2,e3,e4]; rfl)
 have hw1 : ∀ t ∈ s.c.wt,TkOk t := by rw [e1]; exact hc.wt
 have hp1 : s.ps.length ≤ 1000 := by rw [e3]; simp
 have hu1 : s.us.length ≤ 1000 := by rw [e4]; simp
 have hvs1 : s.c.tk.vs.length ≤ 1000000 := by rw [e1]; exact hc.vs
 have had1 : s.c.ad.vs.length ≤ 1000000 := by rw [e1]; exact hc.ad
 have hfo1 : s.c.tk.fo.length + qs.length ≤ 100000 := by rw [e1]; have := hc.fo; have := HQS.out; omega
 have x24 := H1.blk.cell (j := 24) (v := .bool s.c.dead) rfl
 have x22 := H1.blk.cell (j := 22) (v := .bool s.c.busy) rfl
 have x10 := H1.blk.cell (j := 10) (v := .int .i64 s.c.ad.kd) rfl
 rw [e1] at x24 x22 x10
 have q0 := bP1.cell (j := 0) (v := .int .i64 p.kd) rfl
 clear hbt bC0 bP0 bR0 hV hSd hB1 hsz hB0 e1 e2 e3 e4 hb hI
 go_upto_block 0 with fail
 go_cut [] from 13 to 100 (fun wx => ∃ s2,Sq wx V.heap.size X s2 ∧ s2.sp = handleP c p (qs.map (·.1)) now ∧ Below V.heap.size w1 wx)
 case first =>
  rcases Bool.eq_false_or_eq_true c.dead with hd | hd
  ·rw [hd] at x24
   have HD := Lib.hid hd
   clear hd
   go_wp2_with fail
   go_meet
   exact ⟨s,H1,HSP.out.trans (by unfold handleP; rw [if_pos HD.out]),Below.refl _ _⟩
  ·rw [hd] at x24
   have HD := Lib.hid (show ¬ c.dead = true by rw [hd]; simp)
   clear hd
   by_cases e27 : p.kd = 27
   ·have t27 : (p.kd == 27) = true := by simp [e27]
    have E27 := Lib.hid e27
    clear e27
    have TE : Cells w1.drew [((w.heap.size + 1),2,.int .u16 p.ha),((w.heap.size + 1),10,.slice pa KP pc)] := ⟨bP1.cell (j := 2) rfl,bP1.cell (j := 10) rfl,trivial⟩
    have H2 := H1.drew
    have hl2 : Below V.heap.size w1 w1.drew := (Below.refl _ _).drew
    have hb2 := hb1.below (Below.refl _ w1).drew
    go_upto_region 4 with fail
    refine wp_region_held_drew (S := (fun W' : World => Cells W' [((w.heap.size + 1),2,.int .u16 p.ha),((w.heap.size + 1),10,.slice pa KP pc)])) (by kernel_rfl) (TE) (fun hHeld => ?_)
    generalize World.drew _ = wd at hHeld TE H2 hl2 hb2 ⊢
    refine tkU 0 ?_
    refine tkU 1 ?_
    refine tkU 2 ?_
    refine tkU 3 ?_
    refine tkU 4 ?_
    refine rd1 5 fun K hK => ?_
    go_simp
    generalize hX : World.alloc _ (.cells _ 27) = w2
    obtain ⟨hsl,hB2,hz2⟩ := alloc_named hX
    have TE := TE.keep hB2
    have H3 := H2.below hB2
    have hl3 := hl2.trans (hB2.mono (Nat.le_trans H2.own (Nat.le_of_lt H2.blk.lt)))
    have hb3 := hb2.below hB2
    clear hX hz2
    clear hHeld
    refine hK.out _ _ (TE) (fun hHeld => ?_)
    clear hK K
    try simp only [Act.put,List.setIfInBounds_toArray,List.set_cons_zero,List.set_cons_succ]
    refine rd1 6 fun K hK => ?_
    go_simp
    go_at_call 34
    refine (join_one _ _ p.vs _ _ hsl hb3 (by rw [HK.out]; exact hbs)).mono ?_
    rintro e w3 ⟨vv,rfl,hvv,hov,hB3⟩
    have TE := TE.keep hB3
    have H4 := H3.below hB3
    have hl4 := hl3.trans (hB3.mono (Nat.le_trans H3.own (Nat.le_of_lt H3.blk.lt)))
    have hbd : BD w3 (s.rw X) vv p.vs := BD.new hvv hov H3.lts
    obtain ⟨va,vc,rfl⟩ := hvv.form
    rw [HK.out] at hbd ⊢
    clear hvv hov hsl hB2 hB3 H2 H3 hl2 hl3 hb2 hb3
    clear hHeld
    refine hK.out _ _ (TE) (fun hHeld => ?_)
    clear hK K
    try simp only [Act.put,List.setIfInBounds_toArray,List.set_cons_zero,List.set_cons_succ]
    refine tkU 7 ?_
    refine rd1 8 fun K hK => ?_
    go_simp
    have hR := H4.new_res HE2.out.2.2 (q := (⟨6,0,p.ha,p.vs,[],0⟩,.slice va KP vc,.slice none 0 0)) ⟨hbd,FD.nil _ _⟩
    generalize hX : World.alloc w3 _ = w4
    have hX' : w3.alloc (.cells (renc (⟨6,0,p.ha,p.vs,[],0⟩,.slice va KP vc,.slice none 0 0)).toArray 43) = w4 := hX
    obtain ⟨_,hB4,_⟩ := alloc_named hX
    rw [hX'] at hR
    have TE := TE.keep hB4
    have H5 := H4.below hB4
    have m28 := H5.blk.cell (j := 28) (v := s.rv) rfl
    obtain ⟨ra,rc,hrv⟩ := own_form H5.pt.rv
    rw [hrv] at m28
    have z28 := H5.blk.frozen 28
    have HR := Lib.hid hR
    have HTE := Lib.hid TE
    clear hX hX' hB4 H4 hbd hR hrv
    clear hHeld
    refine hK.out _ _ (TE) (fun hHeld => ?_)
    clear hK K
    try simp only [Act.put,List.setIfInBounds_toArray,List.set_cons_zero,List.set_cons_succ]
    refine tkU 9 ?_
    refine tkU 10 ?_
    refine rd1 11 fun K hK => ?_
    go_simp
    generalize hW : World.setCell w4 _ _ = w5
    obtain ⟨H6,hl6⟩ := HR.out
    rw [hW] at H6 hl6
    have TE5 : Cells w5 [((w.heap.size + 1),2,.int .u16 p.ha),((w.heap.size + 1),10,.slice pa KP pc)] := hW ▸ TE.setCell _ (by simp; omega)
    have hl7 := hl4.trans hl6
    clear hW m28 z28 HR H5 hl4 hl6
    clear hHeld
    refine hK.out _ _ (TE5) (fun hHeld => ?_)
    clear hK K
    try simp only [Act.put,List.setIfInBounds_toArray,List.set_cons_zero,List.set_cons_succ]
    refine wpAnyH_done (by kernel_rfl) ?_ _
    go_wp2_with fail
    go_meet
    exact ⟨_,H6,by (
     show (⟨s.c,s.now,s.ps.map (fun q : Pd × Value × Value => q.1),(s.us ++ [((⟨6,0,p.ha,p.vs,[],0⟩ : Rs),Value.slice va KP vc,Value.slice none 0 0)]).map (fun q : Rs × Value × Value => q.1)⟩ : Sp) = _
     unfold handleP
     rw [if_neg HD.out,if_pos E27.out,HE1.out,HE2.out.1,HE2.out.2.1,HE2.out.2.2]
     rfl),hl7⟩
   ·have t27 : (p.kd == 27) = false := by simp [e27]
    have E27 := Lib.hid e27
    clear e27
    by_cases e29 : p.kd = 29
    ·have t29 : (p.kd == 29) = true := by simp [e29]
     have E29 := Lib.hid e29
     clear e29
     have TE : Cells w1.drew [((w.heap.size + 1),2,.int .u16 p.ha),((w.heap.size + 1),10,.slice pa KP pc)] := ⟨bP1.cell (j := 2) rfl,bP1.cell (j := 10) rfl,trivial⟩
     have H2 := H1.drew
     have hl2 : Below V.heap.size w1 w1.drew := (Below.refl _ _).drew
     have hb2 := hb1.below (Below.refl _ w1).drew
     go_upto_region 6 with fail
     refine wp_region_held_drew (S := (fun W' : World => Cells W' [((w.heap.size + 1),2,.int .u16 p.ha),((w.heap.size + 1),10,.slice pa KP pc)])) (by kernel_rfl) (TE) (fun hHeld => ?_)
     generalize World.drew _ = wd at hHeld TE H2 hl2 hb2 ⊢
     refine tkU 0 ?_
     refine tkU 1 ?_
     refine tkU 2 ?_
     refine tkU 3 ?_
     refine tkU 4 ?_
     refine rd1 5 fun K hK => ?_
     go_simp
     generalize hX : World.alloc _ (.cells _ 27) = w2
     obtain ⟨hsl,hB2,hz2⟩ := alloc_named hX
     have TE := TE.keep hB2
     have H3 := H2.below hB2
     have hl3 := hl2.trans (hB2.mono (Nat.le_trans H2.own (Nat.le_of_lt H2.blk.lt)))
     have hb3 := hb2.below hB2
     clear hX hz2
     clear hHeld
     refine hK.out _ _ (TE) (fun hHeld => ?_)
     clear hK K
     try simp only [Act.put,List.setIfInBounds_toArray,List.set_cons_zero,List.set_cons_succ]
     refine rd1 6 fun K hK => ?_
     go_simp
     go_at_call 34
     refine (join_one _ _ p.vs _ _ hsl hb3 (by rw [HK.out]; exact hbs)).mono ?_
     rintro e w3 ⟨vv,rfl,hvv,hov,hB3⟩
     have TE := TE.keep hB3
     have H4 := H3.below hB3
     have hl4 := hl3.trans (hB3.mono (Nat.le_trans H3.own (Nat.le_of_lt H3.blk.lt)))
     have hbd : BD w3 (s.rw X) vv p.vs := BD.new hvv hov H3.lts
     obtain ⟨va,vc,rfl⟩ := hvv.form
     rw [HK.out] at hbd ⊢
     clear hvv hov hsl hB2 hB3 H2 H3 hl2 hl3 hb2 hb3
     clear hHeld
     refine hK.out _ _ (TE) (fun hHeld => ?_)
     clear hK K
     try simp only [Act.put,List.setIfInBounds_toArray,List.set_cons_zero,List.set_cons_succ]
     refine tkU 7 ?_
     refine rd1 8 fun K hK => ?_
     go_simp
     have hR := H4.new_res HE2.out.2.2 (q := (⟨7,0,p.ha,p.vs,[],0⟩,.slice va KP vc,.slice none 0 0)) ⟨hbd,FD.nil _ _⟩
     generalize hX : World.alloc w3 _ = w4
     have hX' : w3.alloc (.cells (renc (⟨7,0,p.ha,p.vs,[],0⟩,.slice va KP vc,.slice none 0 0)).toArray 43) = w4 := hX
     obtain ⟨_,hB4,_⟩ := alloc_named hX
     rw [hX'] at hR
     have TE := TE.keep hB4
     have H5 := H4.below hB4
     have m28 := H5.blk.cell (j := 28) (v := s.rv) rfl
     obtain ⟨ra,rc,hrv⟩ := own_form H5.pt.rv
     rw [hrv] at m28
     have z28 := H5.blk.frozen 28
     have HR := Lib.hid hR
     have HTE := Lib.hid TE
     clear hX hX' hB4 H4 hbd hR hrv
     clear hHeld
     refine hK.out _ _ (TE) (fun hHeld => ?_)
     clear hK K
     try simp only [Act.put,List.setIfInBounds_toArray,List.set_cons_zero,List.set_cons_succ]
     refine tkU 9 ?_
     refine tkU 10 ?_
     refine rd1 11 fun K hK => ?_
     go_simp
     generalize hW : World.setCell w4 _ _ = w5
     obtain ⟨H6,hl6⟩ := HR.out
     rw [hW] at H6 hl6
     have TE5 : Cells w5 [((w.heap.size + 1),2,.int .u16 p.ha),((w.heap.size + 1),10,.slice pa KP pc)] := hW ▸ TE.setCell _ (by simp; omega)
     have hl7 := hl4.trans hl6
     clear hW m28 z28 HR H5 hl4 hl6
     clear hHeld
     refine hK.out _ _ (TE5) (fun hHeld => ?_)
     clear hK K
     try simp only [Act.put,List.setIfInBounds_toArray,List.set_cons_zero,List.set_cons_succ]
     refine wpAnyH_done (by kernel_rfl) ?_ _
     have hO := H6.new_out HE2.out.2.1 (q := ({ pd0 with kd := 30 },.slice none 0 0,.slice none 0 0)) ⟨BD.nil _ _,SR.nil _ _⟩
     have m27 := H6.blk.cell (j := 27) (v := s.ov) rfl
     have z27 := H6.blk.frozen 27
     obtain ⟨oa,oc,hov⟩ := own_form H6.pt.ov
     have hov : s.ov = .slice oa s.ps.length oc := hov
     rw [hov] at m27
     have hX6 := H6.blk.lt
     rw [World.setCell_alloc_past _ X 27 _ hX6] at hO
     have HO := Lib.hid hO
     have HOV := Lib.hid hov
     clear hO H6 hov
     go_wp2_with fail
     go_meet
     exact ⟨_,HO.out.1,by (
      show (⟨s.c,s.now,(s.ps ++ [(({ pd0 with kd := 30 } : Pd),Value.slice none 0 0,Value.slice none 0 0)]).map (fun q : Pd × Value × Value => q.1),(s.us ++ [((⟨7,0,p.ha,p.vs,[],0⟩ : Rs),Value.slice va KP vc,Value.slice none 0 0)]).map (fun q : Rs × Value × Value => q.1)⟩ : Sp) = _
      unfold handleP
      rw [if_neg HD.out,if_neg E27.out,if_pos E29.out,HE1.out,HE2.out.1,HE2.out.2.1,HE2.out.2.2]
      rfl),hl7.trans HO.out.2⟩
    ·have t29 : (p.kd == 29) = false := by simp [e29]
     have E29 := Lib.hid e29
     clear e29
     have q1 := bP1.cell (j := 1) (v := .int .i64 p.ask) rfl
     rcases Bool.eq_false_or_eq_true c.busy with hbz | hbz
     ·rw [hbz] at x22
      have HBU := Lib.hid hbz
      clear hbz
      by_cases e1 : p.kd = 1
      ·have t1 : (p.kd == 1) = true := by simp [e1]
       have E1 := Lib.hid e1
       clear e1
       by_cases eA : p.ask = c.ad.kd
       ·have tA : (p.ask == c.ad.kd) = true := by simp [eA]
        have EA := Lib.hid eA
        clear eA
        go_upto_region 8 with fail
        have TE : Cells w1.drew [((w.heap.size + 1),0,.int .i64 p.kd),((w.heap.size + 1),1,.int .i64 p.ask),(X,22,.bool true),(X,10,.int .i64 c.ad.kd)] := ⟨q0,q1,x22,x10,trivial⟩
        have H2 := H1.drew
        have hl2 : Below V.heap.size w1 w1.drew := (Below.refl _ _).drew
        have hb2 := hb1.below (Below.refl _ w1).drew
        have hI2 := hI1.below hl2
        have bP2 := bP1.drew
        refine wp_region_held_drew (S := (fun W' : World => Cells W' [((w.heap.size + 1),0,.int .i64 p.kd),((w.heap.size + 1),1,.int .i64 p.ask),(X,22,.bool true),(X,10,.int .i64 c.ad.kd)])) (by kernel_rfl) (TE) (fun hHeld => ?_)
        generalize World.drew _ = wd at hHeld TE H2 hl2 hb2 hI2 bP2 ⊢
        refine tkU 0 ?_
        refine tkU 1 ?_
        refine tkU 2 ?_
        refine tkU 3 ?_
        refine tkU 4 ?_
        refine tkU 5 ?_
        refine tkU 6 ?_
        refine tkU 7 ?_
        refine tkU 8 ?_
        refine tkU 9 ?_
        refine tkU 10 ?_
        refine tkU 11 ?_
        refine tkU 12 ?_
        refine tkU 13 ?_
        refine tkU 14 ?_
        refine tkU 15 ?_
        refine tkU 16 ?_
        refine tkU 17 ?_
        refine tkU 18 ?_
        refine tkU 19 ?_
        refine tkU 20 ?_
        refine tkU 21 ?_
        refine wpAnyH_done (by kernel_rfl) ?_ _
        clear hHeld
        rename World => w3
        have y8 := bP2.cell (j := 8) (v := .int .i64 p.co) rfl
        go_wp2_with fail
        clear y8
        refine (refused_any p.co w3 V.heap.size X s H2 hw1 hp1 hu1 (by have := hfo1; omega) hvs1).mono ?_
        rintro e w6 ⟨rfl,s6,H6,hs6,hl6⟩
        go_wp2_with fail
        go_meet
        exact ⟨s6,H6,hs6.trans (by rw [HSP.out]; unfold handleP; rw [if_neg HD.out,if_neg E27.out,if_neg E29.out,if_pos ⟨HBU.out,E1.out,EA.out⟩]),hl2.trans hl6⟩
       ·have tA : (p.ask == c.ad.kd) = false := by simp [eA]
        have EA := Lib.hid eA
        clear eA
        go_upto_region 8 with fail
        have TE : Cells w1.drew [((w.heap.size + 1),0,.int .i64 p.kd),((w.heap.size + 1),1,.int .i64 p.ask),(X,22,.bool true),(X,10,.int .i64 c.ad.kd)] := ⟨q0,q1,x22,x10,trivial⟩
        have H2 := H1.drew
        have hl2 : Below V.heap.size w1 w1.drew := (Below.refl _ _).drew
        have hb2 := hb1.below (Below.refl _ w1).drew
        have hI2 := hI1.below hl2
        have bP2 := bP1.drew
        refine wp_region_held_drew (S := (fun W' : World => Cells W' [((w.heap.size + 1),0,.int .i64 p.kd),((w.heap.size + 1),1,.int .i64 p.ask),(X,22,.bool true),(X,10,.int .i64 c.ad.kd)])) (by kernel_rfl) (TE) (fun hHeld => ?_)
        generalize World.drew _ = wd at hHeld TE H2 hl2 hb2 hI2 bP2 ⊢
        refine tkU 0 ?_
        refine tkU 1 ?_
        refine tkU 2 ?_
        refine tkU 3 ?_
        refine tkU 4 ?_
        refine tkU 5 ?_
        refine tkU 6 ?_
        refine tkU 7 ?_
        refine tkU 8 ?_
        refine tkU 9 ?_
        refine tkU 10 ?_
        refine tkU 11 ?_
        refine tkU 12 ?_
        refine tkU 13 ?_
        refine tkU 14 ?_
        refine tkU 15 ?_
        refine tkU 16 ?_
        refine tkU 17 ?_
        refine tkU 18 ?_
        refine tkU 19 ?_
        refine tkU 20 ?_
        refine tkU 21 ?_
        refine wpAnyH_done (by kernel_rfl) ?_ _
        clear hHeld
        rename World => w3
        by_cases eN : p.kd = ansI c.ad.kd
        ·have tN : (p.kd == ansI c.ad.kd) = true := by simp [eN]
         have EN := Lib.hid eN
         clear eN
         go_upto_region 10 with fail
         have TF : Cells w3.drew [((w.heap.size + 1),0,.int .i64 p.kd),((w.heap.size + 1),1,.int .i64 p.ask),(X,22,.bool true),(X,10,.int .i64 c.ad.kd)] := TE.drew
         have H3 := H2.drew
         have hl3 : Below V.heap.size w1 w3.drew := hl2.drew
         have hb3 := hb2.below (Below.refl _ w3).drew
         have hI3 := hI2.below (Below.refl _ w3).drew
         have bP3 := bP2.drew
         clear TE H2 hl2 hb2 hI2 bP2
         refine wp_region_held_drew (S := (fun W' : World => Cells W' [((w.heap.size + 1),0,.int .i64 p.kd),((w.heap.size + 1),1,.int .i64 p.ask),(X,22,.bool true),(X,10,.int .i64 c.ad.kd)])) (by kernel_rfl) (TF) (fun hHeld => ?_)
         generalize World.drew _ = wd at hHeld TF H3 hl3 hb3 hI3 bP3 ⊢
         refine tkU 0 ?_
         refine tkU 1 ?_
         refine tkU 2 ?_
         refine tkU 3 ?_
         refine tkU 4 ?_
         refine tkU 5 ?_
         refine tkU 6 ?_
         refine tkU 7 ?_
         refine tkU 8 ?_
         refine tkU 9 ?_
         refine tkU 10 ?_
         refine tkU 11 ?_
         refine tkU 12 ?_
         refine tkU 13 ?_
         refine rd1 14 fun K hK => ?_
         go_simp
         go_at_call 36
         refine (answer_any c.ad.kd hk _).mono ?_
         rintro e w4 ⟨rfl,rfl⟩
         clear hHeld
         refine hK.out _ _ (TF) (fun hHeld => ?_)
         clear hK K
         try simp only [Act.put,List.setIfInBounds_toArray,List.set_cons_zero,List.set_cons_succ]
         refine tkU 15 ?_
         refine tkU 16 ?_
         refine tkU 17 ?_
         refine wpAnyH_done (by kernel_rfl) ?_ _
         clear hHeld
         rename World => w5
         have y0 := bP3.cell (j := 0) (v := .int .i64 p.kd) rfl
         have y1 := bP3.cell (j := 1) (v := .int .i64 p.ask) rfl
         have y2 := bP3.cell (j := 2) (v := .int .u16 p.ha) rfl
         have y3 := bP3.cell (j := 3) (v := .int .u16 p.la) rfl
         have y4 := bP3.cell (j := 4) (v := .int .u64 p.hi) rfl
         have y5 := bP3.cell (j := 5) (v := .int .u64 p.lo) rfl
         have y6 := bP3.cell (j := 6) (v := .int .i64 p.of) rfl
         have y7 := bP3.cell (j := 7) (v := .int .i64 p.mt) rfl
         have y8 := bP3.cell (j := 8) (v := .int .i64 p.co) rfl
         have y9 := bP3.cell (j := 9) (v := .bool p.cm) rfl
         have y10 := bP3.cell (j := 10) (v := .slice pa KP pc) rfl
         have y11 := bP3.cell (j := 11) (v := .slice ia N ic) rfl
         obtain ⟨O,hO,hOm⟩ := hc.of
         have hO1 : s.c.tk.of = (O : Int) := by rw [HE1.out]; exact hO
         have hTL1 : s.c.tk.la < 65536 := by rw [HE1.out]; exact hc.la
         have hAL1 : (p.kd = 5 ∨ (p.kd = 9 ∧ ¬ s.c.tk.kd = 9)) → s.c.ad.la = s.c.tk.la := by rw [HE1.out]; exact hAL HBU.out EN.out
         have HO1 := Lib.hid hO1
         clear hO hO1
         go_wp2_with fail
         clear y0 y1 y2 y3 y4 y5 y6 y7 y8 y9 y10 y11
         refine (answered_any p (.slice pa KP pc) (.slice ia N ic) qs O w5 V.heap.size X s H3 hw1 hp1 hu1 hb3 hI3 (by rw [HK.out]; exact hbs) hvs1 had1 hfo1 HO1.out hOm hAL1 hTL1).mono ?_
         rintro e w6 ⟨rfl,s6,H6,hs6,hl6⟩
         go_wp2_with fail
         go_meet
         exact ⟨s6,H6,hs6.trans (by rw [HSP.out]; unfold handleP; rw [if_neg HD.out,if_neg E27.out,if_neg E29.out,if_neg (fun h => EA.out h.2.2),if_pos ⟨HBU.out,EN.out⟩]),hl3.trans hl6⟩
        ·have tN : (p.kd == ansI c.ad.kd) = false := by simp [eN]
         have EN := Lib.hid eN
         clear eN
         go_upto_region 10 with fail
         have TF : Cells w3.drew [((w.heap.size + 1),0,.int .i64 p.kd),((w.heap.size + 1),1,.int .i64 p.ask),(X,22,.bool true),(X,10,.int .i64 c.ad.kd)] := TE.drew
         have H3 := H2.drew
         have hl3 : Below V.heap.size w1 w3.drew := hl2.drew
         have hb3 := hb2.below (Below.refl _ w3).drew
         have hI3 := hI2.below (Below.refl _ w3).drew
         have bP3 := bP2.drew
         clear TE H2 hl2 hb2 hI2 bP2
         refine wp_region_held_drew (S := (fun W' : World => Cells W' [((w.heap.size + 1),0,.int .i64 p.kd),((w.heap.size + 1),1,.int .i64 p.ask),(X,22,.bool true),(X,10,.int .i64 c.ad.kd)])) (by kernel_rfl) (TF) (fun hHeld => ?_)
         generalize World.drew _ = wd at hHeld TF H3 hl3 hb3 hI3 bP3 ⊢
         refine tkU 0 ?_
         refine tkU 1 ?_
         refine tkU 2 ?_
         refine tkU 3 ?_
         refine tkU 4 ?_
         refine tkU 5 ?_
         refine tkU 6 ?_
         refine tkU 7 ?_
         refine tkU 8 ?_
         refine tkU 9 ?_
         refine tkU 10 ?_
         refine tkU 11 ?_
         refine tkU 12 ?_
         refine tkU 13 ?_
         refine rd1 14 fun K hK => ?_
         go_simp
         go_at_call 36
         refine (answer_any c.ad.kd hk _).mono ?_
         rintro e w4 ⟨rfl,rfl⟩
         clear hHeld
         refine hK.out _ _ (TF) (fun hHeld => ?_)
         clear hK K
         try simp only [Act.put,List.setIfInBounds_toArray,List.set_cons_zero,List.set_cons_succ]
         refine tkU 15 ?_
         refine tkU 16 ?_
         refine tkU 17 ?_
         refine wpAnyH_done (by kernel_rfl) ?_ _
         clear hHeld
         rename World => w5
         go_wp2_with fail
         go_meet
         exact ⟨s,H3,HSP.out.trans (by unfold handleP; rw [if_neg HD.out,if_neg E27.out,if_neg E29.out,if_neg (fun h => EA.out h.2.2),if_neg (fun h => EN.out h.2)]),hl3⟩
      ·have t1 : (p.kd == 1) = false := by simp [e1]
       have E1 := Lib.hid e1
       clear e1
       go_upto_region 8 with fail
       have TE : Cells w1.drew [((w.heap.size + 1),0,.int .i64 p.kd),((w.heap.size + 1),1,.int .i64 p.ask),(X,22,.bool true),(X,10,.int .i64 c.ad.kd)] := ⟨q0,q1,x22,x10,trivial⟩
       have H2 := H1.drew
       have hl2 : Below V.heap.size w1 w1.drew := (Below.refl _ _).drew
       have hb2 := hb1.below (Below.refl _ w1).drew
       have hI2 := hI1.below hl2
       have bP2 := bP1.drew
       refine wp_region_held_drew (S := (fun W' : World => Cells W' [((w.heap.size + 1),0,.int .i64 p.kd),((w.heap.size + 1),1,.int .i64 p.ask),(X,22,.bool true),(X,10,.int .i64 c.ad.kd)])) (by kernel_rfl) (TE) (fun hHeld => ?_)
       generalize World.drew _ = wd at hHeld TE H2 hl2 hb2 hI2 bP2 ⊢
       refine tkU 0 ?_
       refine tkU 1 ?_
       refine tkU 2 ?_
       refine tkU 3 ?_
       refine tkU 4 ?_
       refine tkU 5 ?_
       refine tkU 6 ?_
       refine tkU 7 ?_
       refine tkU 8 ?_
       refine tkU 9 ?_
       refine tkU 10 ?_
       refine tkV 11 ?_
       refine tkV 12 ?_
       refine tkV 13 ?_
       refine tkV 14 ?_
       refine tkV 15 ?_
       refine tkV 16 ?_
       refine tkV 17 ?_
       refine tkV 18 ?_
       refine tkV 19 ?_
       refine tkU 20 ?_
       refine tkU 21 ?_
       refine wpAnyH_done (by kernel_rfl) ?_ _
       clear hHeld
       rename World => w3
       by_cases eN : p.kd = ansI c.ad.kd
       ·have tN : (p.kd == ansI c.ad.kd) = true := by simp [eN]
        have EN := Lib.hid eN
        clear eN
        go_upto_region 10 with fail
        have TF : Cells w3.drew [((w.heap.size + 1),0,.int .i64 p.kd),((w.heap.size + 1),1,.int .i64 p.ask),(X,22,.bool true),(X,10,.int .i64 c.ad.kd)] := TE.drew
        have H3 := H2.drew
        have hl3 : Below V.heap.size w1 w3.drew := hl2.drew
        have hb3 := hb2.below (Below.refl _ w3).drew
        have hI3 := hI2.below (Below.refl _ w3).drew
        have bP3 := bP2.drew
        clear TE H2 hl2 hb2 hI2 bP2
        refine wp_region_held_drew (S := (fun W' : World => Cells W' [((w.heap.size + 1),0,.int .i64 p.kd),((w.heap.size + 1),1,.int .i64 p.ask),(X,22,.bool true),(X,10,.int .i64 c.ad.kd)])) (by kernel_rfl) (TF) (fun hHeld => ?_)
        generalize World.drew _ = wd at hHeld TF H3 hl3 hb3 hI3 bP3 ⊢
        refine tkU 0 ?_
        refine tkU 1 ?_
        refine tkU 2 ?_
        refine tkU 3 ?_
        refine tkU 4 ?_
        refine tkU 5 ?_
        refine tkU 6 ?_
        refine tkU 7 ?_
        refine tkU 8 ?_
        refine tkU 9 ?_
        refine tkU 10 ?_
        refine tkU 11 ?_
        refine tkU 12 ?_
        refine tkU 13 ?_
        refine rd1 14 fun K hK => ?_
        go_simp
        go_at_call 36
        refine (answer_any c.ad.kd hk _).mono ?_
        rintro e w4 ⟨rfl,rfl⟩
        clear hHeld
        refine hK.out _ _ (TF) (fun hHeld => ?_)
        clear hK K
        try simp only [Act.put,List.setIfInBounds_toArray,List.set_cons_zero,List.set_cons_succ]
        refine tkU 15 ?_
        refine tkU 16 ?_
        refine tkU 17 ?_
        refine wpAnyH_done (by kernel_rfl) ?_ _
        clear hHeld
        rename World => w5
        have y0 := bP3.cell (j := 0) (v := .int .i64 p.kd) rfl
        have y1 := bP3.cell (j := 1) (v := .int .i64 p.ask) rfl
        have y2 := bP3.cell (j := 2) (v := .int .u16 p.ha) rfl
        have y3 := bP3.cell (j := 3) (v := .int .u16 p.la) rfl
        have y4 := bP3.cell (j := 4) (v := .int .u64 p.hi) rfl
        have y5 := bP3.cell (j := 5) (v := .int .u64 p.lo) rfl
        have y6 := bP3.cell (j := 6) (v := .int .i64 p.of) rfl
        have y7 := bP3.cell (j := 7) (v := .int .i64 p.mt) rfl
        have y8 := bP3.cell (j := 8) (v := .int .i64 p.co) rfl
        have y9 := bP3.cell (j := 9) (v := .bool p.cm) rfl
        have y10 := bP3.cell (j := 10) (v := .slice pa KP pc) rfl
        have y11 := bP3.cell (j := 11) (v := .slice ia N ic) rfl
        obtain ⟨O,hO,hOm⟩ := hc.of
        have hO1 : s.c.tk.of = (O : Int) := by rw [HE1.out]; exact hO
        have hTL1 : s.c.tk.la < 65536 := by rw [HE1.out]; exact hc.la
        have hAL1 : (p.kd = 5 ∨ (p.kd = 9 ∧ ¬ s.c.tk.kd = 9)) → s.c.ad.la = s.c.tk.la := by rw [HE1.out]; exact hAL HBU.out EN.out
        have HO1 := Lib.hid hO1
        clear hO hO1
        go_wp2_with fail
        clear y0 y1 y2 y3 y4 y5 y6 y7 y8 y9 y10 y11
        refine (answered_any p (.slice pa KP pc) (.slice ia N ic) qs O w5 V.heap.size X s H3 hw1 hp1 hu1 hb3 hI3 (by rw [HK.out]; exact hbs) hvs1 had1 hfo1 HO1.out hOm hAL1 hTL1).mono ?_
        rintro e w6 ⟨rfl,s6,H6,hs6,hl6⟩
        go_wp2_with fail
        go_meet
        exact ⟨s6,H6,hs6.trans (by rw [HSP.out]; unfold handleP; rw [if_neg HD.out,if_neg E27.out,if_neg E29.out,if_neg (fun h => E1.out h.2.1),if_pos ⟨HBU.out,EN.out⟩]),hl3.trans hl6⟩
       ·have tN : (p.kd == ansI c.ad.kd) = false := by simp [eN]
        have EN := Lib.hid eN
        clear eN
        go_upto_region 10 with fail
        have TF : Cells w3.drew [((w.heap.size + 1),0,.int .i64 p.kd),((w.heap.size + 1),1,.int .i64 p.ask),(X,22,.bool true),(X,10,.int .i64 c.ad.kd)] := TE.drew
        have H3 := H2.drew
        have hl3 : Below V.heap.size w1 w3.drew := hl2.drew
        have hb3 := hb2.below (Below.refl _ w3).drew
        have hI3 := hI2.below (Below.refl _ w3).drew
        have bP3 := bP2.drew
        clear TE H2 hl2 hb2 hI2 bP2
        refine wp_region_held_drew (S := (fun W' : World => Cells W' [((w.heap.size + 1),0,.int .i64 p.kd),((w.heap.size + 1),1,.int .i64 p.ask),(X,22,.bool true),(X,10,.int .i64 c.ad.kd)])) (by kernel_rfl) (TF) (fun hHeld => ?_)
        generalize World.drew _ = wd at hHeld TF H3 hl3 hb3 hI3 bP3 ⊢
        refine tkU 0 ?_
        refine tkU 1 ?_
        refine tkU 2 ?_
        refine tkU 3 ?_
        refine tkU 4 ?_
        refine tkU 5 ?_
        refine tkU 6 ?_
        refine tkU 7 ?_
        refine tkU 8 ?_
        refine tkU 9 ?_
        refine tkU 10 ?_
        refine tkU 11 ?_
        refine tkU 12 ?_
        refine tkU 13 ?_
        refine rd1 14 fun K hK => ?_
        go_simp
        go_at_call 36
        refine (answer_any c.ad.kd hk _).mono ?_
        rintro e w4 ⟨rfl,rfl⟩
        clear hHeld
        refine hK.out _ _ (TF) (fun hHeld => ?_)
        clear hK K
        try simp only [Act.put,List.setIfInBounds_toArray,List.set_cons_zero,List.set_cons_succ]
        refine tkU 15 ?_
        refine tkU 16 ?_
        refine tkU 17 ?_
        refine wpAnyH_done (by kernel_rfl) ?_ _
        clear hHeld
        rename World => w5
        go_wp2_with fail
        go_meet
        exact ⟨s,H3,HSP.out.trans (by unfold handleP; rw [if_neg HD.out,if_neg E27.out,if_neg E29.out,if_neg (fun h => E1.out h.2.1),if_neg (fun h => EN.out h.2)]),hl3⟩
     ·rw [hbz] at x22
      have HBU := Lib.hid (show ¬ c.busy = true by rw [hbz]; simp)
      clear hbz
      go_upto_region 8 with fail
      have TE : Cells w1.drew [((w.heap.size + 1),0,.int .i64 p.kd),((w.heap.size + 1),1,.int .i64 p.ask),(X,22,.bool false),(X,10,.int .i64 c.ad.kd)] := ⟨q0,q1,x22,x10,trivial⟩
      have H2 := H1.drew
      have hl2 : Below V.heap.size w1 w1.drew := (Below.refl _ _).drew
      have hb2 := hb1.below (Below.refl _ w1).drew
      have hI2 := hI1.below hl2
      have bP2 := bP1.drew
      refine wp_region_held_drew (S := (fun W' : World => Cells W' [((w.heap.size + 1),0,.int .i64 p.kd),((w.heap.size + 1),1,.int .i64 p.ask),(X,22,.bool false),(X,10,.int .i64 c.ad.kd)])) (by kernel_rfl) (TE) (fun hHeld => ?_)
      generalize World.drew _ = wd at hHeld TE H2 hl2 hb2 hI2 bP2 ⊢
      refine tkU 0 ?_
      refine tkU 1 ?_
      refine tkU 2 ?_
      refine tkU 3 ?_
      refine tkU 4 ?_
      refine tkU 5 ?_
      refine tkV 6 ?_
      refine tkV 7 ?_
      refine tkV 8 ?_
      refine tkU 9 ?_
      refine tkU 10 ?_
      refine tkV 11 ?_
      refine tkV 12 ?_
      refine tkV 13 ?_
      refine tkV 14 ?_
      refine tkV 15 ?_
      refine tkV 16 ?_
      refine tkV 17 ?_
      refine tkV 18 ?_
      refine tkV 19 ?_
      refine tkU 20 ?_
      refine tkU 21 ?_
      refine wpAnyH_done (by kernel_rfl) ?_ _
      clear hHeld
      rename World => w3
      go_upto_region 10 with fail
      have TF : Cells w3.drew [((w.heap.size + 1),0,.int .i64 p.kd),((w.heap.size + 1),1,.int .i64 p.ask),(X,22,.bool false),(X,10,.int .i64 c.ad.kd)] := TE.drew
      have H3 := H2.drew
      have hl3 : Below V.heap.size w1 w3.drew := hl2.drew
      have hb3 := hb2.below (Below.refl _ w3).drew
      have hI3 := hI2.below (Below.refl _ w3).drew
      have bP3 := bP2.drew
      clear TE H2 hl2 hb2 hI2 bP2
      refine wp_region_held_drew (S := (fun W' : World => Cells W' [((w.heap.size + 1),0,.int .i64 p.kd),((w.heap.size + 1),1,.int .i64 p.ask),(X,22,.bool false),(X,10,.int .i64 c.ad.kd)])) (by kernel_rfl) (TF) (fun hHeld => ?_)
      generalize World.drew _ = wd at hHeld TF H3 hl3 hb3 hI3 bP3 ⊢
      refine tkU 0 ?_
      refine tkU 1 ?_
      refine tkU 2 ?_
      refine tkU 3 ?_
      refine tkU 4 ?_
      refine tkU 5 ?_
      refine tkV 6 ?_
      refine tkV 7 ?_
      refine tkV 8 ?_
      refine tkV 9 ?_
      refine tkV 10 ?_
      refine tkV 11 ?_
      refine tkV 12 ?_
      refine tkV 13 ?_
      refine tkV 14 ?_
      refine tkV 15 ?_
      refine tkU 16 ?_
      refine tkU 17 ?_
      refine wpAnyH_done (by kernel_rfl) ?_ _
      clear hHeld
      rename World => w5
      go_wp2_with fail
      go_meet
      exact ⟨s,H3,HSP.out.trans (by unfold handleP; rw [if_neg HD.out,if_neg E27.out,if_neg E29.out,if_neg (fun h => HBU.out h.1),if_neg (fun h => HBU.out h.1)]),hl3⟩
 case rest =>
  obtain ⟨s2,H2,hs2,hl2⟩ := hcut
  rename World => w2
  have bR2 : Blk w2 (w.heap.size + 2) 52 czl := (hl2.block _ hrb).trans bR1
  have hl3 := hl1.trans (hl2.mono (by omega))
  obtain ⟨oa,oc,hov⟩ := own_form H2.pt.ov
  obtain ⟨ra,rc,hrv⟩ := own_form H2.pt.rv
  have x27 := H2.blk.cell (j := 27) (v := s2.ov) rfl
  have x28 := H2.blk.cell (j := 28) (v := s2.rv) rfl
  rw [hov] at x27
  rw [hrv] at x28
  have TE : Cells w2.drew [(X,27,.slice oa s2.ps.length oc),(X,28,.slice ra s2.us.length rc)] := ⟨x27,x28,trivial⟩
  have H6 := H2.drew
  have bRd := bR2.drew
  have hld := hl3.drew
  have HOV := Lib.hid hov
  have HRV := Lib.hid hrv
  have HS2 := Lib.hid hs2
  have hXb : X ≠ w.heap.size + 2 := by omega
  clear hov hrv x27 x28 hs2 H2 bR2 hl3 hl2 x24 x22 x10 q0 hb1 hI1 H1 bP1 bR1
  go_upto_region 12 with fail
  refine wp_region_held_drew (S := (fun W' : World => Cells W' [(X,27,.slice oa s2.ps.length oc),(X,28,.slice ra s2.us.length rc)])) (by kernel_rfl) (TE) (fun hHeld => ?_)
  generalize World.drew _ = wd at hHeld TE H6 bRd hld ⊢
  refine tkU 0 ?_
  refine tkU 1 ?_
  refine tkU 2 ?_
  refine tkU 4 ?_
  refine tkU 5 ?_
  refine tkU 6 ?_
  refine tkU 7 ?_
  refine tkU 8 ?_
  refine tkU 9 ?_
  refine tkU 10 ?_
  refine tkU 11 ?_
  refine rd1 3 fun K hK => ?_
  refine step_load_mid (by rfl) 52 _ (by rfl) X 0 (by rfl) (clc s2.c s2.bv s2.fv s2.ab s2.ai s2.wv) _ H6.range Tryz.underlying52 rfl (by kernel_rfl) ?_
  clear hHeld
  refine hK.out _ _ (TE) (fun hHeld => ?_)
  clear hK K
  try simp only [Act.put,List.setIfInBounds_toArray,List.set_cons_zero,List.set_cons_succ]
  refine rd1 12 fun K hK => ?_
  refine step_store_mid (by rfl) 52 _ _ (by rfl) (w.heap.size + 2) 0 (clc s2.c s2.bv s2.fv s2.ab s2.ai s2.wv).toArray (by rfl) (by rfl) (bRd.there 0 26 (by simp [czl])) (by kernel_rfl) H6.one ?_
  generalize hX : World.setCells wd (w.heap.size + 2) 0 _ = w9
  have bR9 : Blk w9 (w.heap.size + 2) 52 (clc s2.c s2.bv s2.fv s2.ab s2.ai s2.wv) := hX ▸ bRd.putC s2.c s2.bv s2.fv s2.ab s2.ai s2.wv
  have hg9 : wd.grownBy w9 (some (w.heap.size + 2)) := hX ▸ setCells_grown (w.heap.size + 2) (clc s2.c s2.bv s2.fv s2.ab s2.ai s2.wv) 0 wd
  have TE9 : Cells w9 [(X,27,.slice oa s2.ps.length oc),(X,28,.slice ra s2.us.length rc)] := TE.grown hg9 (by simp; omega)
  have HE9 := H6.endo2 (B' := w.heap.size) (by omega) bRd hrb hg9
  clear hX
  clear hHeld
  refine hK.out _ _ (TE9) (fun hHeld => ?_)
  clear hK K
  try simp only [Act.put,List.setIfInBounds_toArray,List.set_cons_zero,List.set_cons_succ]
  refine tkU 13 ?_
  refine tkU 14 ?_
  refine wpAnyH_done (by kernel_rfl) ?_ _
  go_wp2_with fail
  have hl := run_loadVar_row (P := Tryz.prog) _ (w.heap.size + 2) 52 52 _ (0,0) _ bR9 Tryz.underlying52 rfl (by kernel_rfl)
  refine bodyPost_ret (v := .tuple #[.agg (clc s2.c s2.bv s2.fv s2.ab s2.ai s2.wv).toArray,.slice oa s2.ps.length oc,.slice ra s2.us.length rc]) (by rw [results_cell_tmp2 rfl]; simp [asAddr,hl]) rfl ⟨_,_,_,rfl,?_,?_,?_,hld.grown hg9 hld.size (fun k hk => by cases hk; omega)⟩
  ·rw [show (handleP c p (qs.map (·.1)) now).c = s2.c from congrArg Sp.c HS2.out.symm]
   exact HE9.1
  ·rw [← HOV.out,show (handleP c p (qs.map (·.1)) now).ps = s2.ps.map (·.1) from congrArg Sp.ps HS2.out.symm]
   exact HE9.2.1
  ·rw [← HRV.out,show (handleP c p (qs.map (·.1)) now).us = s2.us.map (·.1) from congrArg Sp.us HS2.out.symm]
   exact HE9.2.2
end Go.Proofs.YtldcihjddebciaaGreat
