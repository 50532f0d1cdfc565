/- client's reference: send. And what follows it. -/
import Derived.Test.YtldcihjddebciaaPCmA
import Derived.StillTailTactics
set_option linter.unusedSimpArgs false
set_option linter.unusedVariables false
set_option maxRecDepth 100000
set_option maxHeartbeats 4000000
namespace Go.Proofs.Ytldcihjddebciaa
open Go.RowKit
/-- requests, read apart from some blocks -/
def PsR (w : World) (R : List (Option Nat)) (v : Value) (ps : List Pd) : Prop := ∃ qs : List (Pd × Value × Value),qs.map (·.1) = ps ∧ SR w v qs.length 12 (qs.flatMap penc) ∧ (qs.length = 0 ∨ Apart R v) ∧ ∀ q ∈ qs,BD w R q.2.1 q.1.vs ∧ SR w q.2.2 0 5 []
theorem BD.more {w : World} {R R' : List (Option Nat)} {v : Value} {bs : List Nat} (h : BD w R v bs) (hR : ∀ i,some i ∈ R' → w.heap.size ≤ i) : BD w (R ++ R') v bs := ⟨h.1,by
 rcases h.2 with h0 | h0
 ·exact .inl h0
 ·rcases apart_above h.1.sr hR with h1 | h1
  ·exact .inl h1
  ·exact .inr fun k hk hm => (List.mem_append.1 hm).elim (h0 k hk) (h1 k hk)⟩
theorem FD.more {w : World} {R R' : List (Option Nat)} {v : Value} {l : List Fd} (h : FD w R v l) (hR : ∀ i,some i ∈ R' → w.heap.size ≤ i) : FD w (R ++ R') v l := ⟨h.1,by
 rcases h.2 with h0 | h0
 ·exact .inl h0
 ·rcases apart_above h.1 hR with h1 | h1
  ·exact .inl h1
  ·exact .inr fun k hk hm => (List.mem_append.1 hm).elim (h0 k hk) (h1 k hk)⟩
theorem Cr.more {w : World} {R R' : List (Option Nat)} {c : Cl} {k : Cv} (h : Cr w R c k) (hR : ∀ i,some i ∈ R' → w.heap.size ≤ i) : Cr w (R ++ R') c k :=
 ⟨h.bv.more hR,h.fv.more hR,h.ab.more hR,h.ai,h.wv,by
  rcases h.wa with h0 | h0
  ·exact .inl h0
  ·rcases apart_above h.wv hR with h1 | h1
   ·exact .inl h1
   ·exact .inr fun k hk hm => (List.mem_append.1 hm).elim (h0 k hk) (h1 k hk),h.wt,fun q hq => ⟨(h.wi q hq).1.more hR,(h.wi q hq).2⟩,h.wc⟩
theorem BD.less {w : World} {R R' : List (Option Nat)} {v : Value} {bs : List Nat} (h : BD w R v bs) (hs : ∀ r,r ∈ R' → r ∈ R) : BD w R' v bs := ⟨h.1,h.2.imp id fun h1 k hk hm => h1 k hk (hs _ hm)⟩
theorem FD.less {w : World} {R R' : List (Option Nat)} {v : Value} {l : List Fd} (h : FD w R v l) (hs : ∀ r,r ∈ R' → r ∈ R) : FD w R' v l := ⟨h.1,h.2.imp id fun h1 k hk hm => h1 k hk (hs _ hm)⟩
theorem Cr.less {w : World} {R R' : List (Option Nat)} {c : Cl} {k : Cv} (h : Cr w R c k) (hs : ∀ r,r ∈ R' → r ∈ R) : Cr w R' c k :=
 ⟨h.bv.less hs,h.fv.less hs,h.ab.less hs,h.ai,h.wv,h.wa.imp id fun h1 k hk hm => h1 k hk (hs _ hm),h.wt,fun q hq => ⟨(h.wi q hq).1.less hs,(h.wi q hq).2⟩,h.wc⟩
theorem psr_one {w : World} {b : Nat} {p : Pd} {bv iv : Value} {R : List (Option Nat)} (h : Blk w b 32 (pdc p bv iv)) (hb : BD w R bv p.vs) (hi : SR w iv 0 5 []) (hn : some b ∉ R) : PsR w R (.slice (some ⟨b,0,none⟩) 1 1) [p] := by
 obtain ⟨a1,c1,e1⟩ := hb.1.form
 obtain ⟨a2,c2,e2⟩ := hi.form
 refine ⟨[(p,bv,iv)],rfl,⟨by unfold maxLen; simp,rfl,fun u hu => ?_,some ⟨b,0,none⟩,1,rfl,fun h => (by cases h),fun _ => ⟨b,0,rfl,h.lt,fun j u hj => ?_⟩⟩,.inr (fun k hk => by simp [Value.ownBlock] at hk; subst hk; exact hn),fun q hq => by rw [List.mem_singleton.1 hq]; exact ⟨hb,hi⟩⟩
 ·simp only [List.flatMap_cons,List.flatMap_nil,List.append_nil,penc,pdc,e1,e2,List.mem_cons,List.not_mem_nil,or_false] at hu
  rcases hu with rfl | rfl | rfl | rfl | rfl | rfl | rfl | rfl | rfl | rfl | rfl | rfl <;> rfl
 ·rw [Nat.zero_add]
  exact h.cell (by simpa [penc] using hj)
theorem rsend_any (c : Cl) (k : Cv) (R0 : List (Option Nat)) (p : Pd) (bv iv : Value) (now : Int) (w : World) (hC : Cr w R0 c k) (hp : BD w R0 bv p.vs) (hi : SR w iv 0 5 []) (hR0 : ∀ i,some i ∈ R0 → i < w.heap.size) :
 Calls Try.prog 77 #[.agg (k.cells c).toArray,.agg #[.int .i64 p.kd,.int .i64 p.ask,.int .u16 p.ha,.int .u16 p.la,.int .u64 p.hi,.int .u64 p.lo,.int .i64 p.of,.int .i64 p.mt,.int .i64 p.co,.bool p.cm,bv,iv],.int .i64 now] w fun e w' => ∃ k' o,e = .returned (.tuple #[.agg (k'.cells { c with ad := p,since := now,busy := true }).toArray,o]) ∧ Cr w' R0 { c with ad := p,since := now,busy := true } k' ∧ PsR w' R0 o [p] ∧ Below w.heap.size w w' := by
 obtain ⟨R,hR⟩ : ∃ R : List (Option Nat),R = R0 ++ [some w.heap.size,some (w.heap.size + 2)] := ⟨_,rfl⟩
 have hRs : ∀ r,r ∈ R0 → r ∈ R := fun r hr => by rw [hR]; simp [hr]
 have hm0 : some w.heap.size ∈ R := by rw [hR]; simp
 have hm2 : some (w.heap.size + 2) ∈ R := by rw [hR]; simp
 have hC : Cr w R c k := by rw [hR]; exact hC.more (fun i hi => by simp at hi; omega)
 have hP : BD w R bv p.vs := by rw [hR]; exact hp.more (fun i hi => by simp at hi; omega)
 obtain ⟨a,pc,rfl⟩ := hp.1.form
 obtain ⟨ia,ic,rfl⟩ := hi.form
 obtain ⟨L,hL⟩ : ∃ L,p.vs.length = L := ⟨_,rfl⟩
 rw [hL] at hP ⊢
 have bC0 := ((Blk.new w 35 (k.cells c)).alloc (.cells #[.int .i64 p.kd,.int .i64 p.ask,.int .u16 p.ha,.int .u16 p.la,.int .u64 p.hi,.int .u64 p.lo,.int .i64 p.of,.int .i64 p.mt,.int .i64 p.co,.bool p.cm,.slice a L pc,.slice ia 0 ic] 32)).alloc (.cells #[.int .i64 0,.int .i64 0,.int .i64 0,.int .u16 0,.int .u16 0,.int .u16 0,.slice none 0 0,.int .i64 0,.slice none 0 0,.bool false,.int .i64 0,.int .i64 0,.int .u16 0,.int .u16 0,.int .u64 0,.int .u64 0,.int .i64 0,.int .i64 0,.int .i64 0,.bool false,.slice none 0 0,.slice none 0 0,.bool false,.int .i64 0,.bool false,.slice none 0 0] 35)
 have bP0 := (Blk.new (w.alloc (.cells (k.cells c).toArray 35)) 32 [.int .i64 p.kd,.int .i64 p.ask,.int .u16 p.ha,.int .u16 p.la,.int .u64 p.hi,.int .u64 p.lo,.int .i64 p.of,.int .i64 p.mt,.int .i64 p.co,.bool p.cm,.slice a L pc,.slice ia 0 ic]).alloc (.cells #[.int .i64 0,.int .i64 0,.int .i64 0,.int .u16 0,.int .u16 0,.int .u16 0,.slice none 0 0,.int .i64 0,.slice none 0 0,.bool false,.int .i64 0,.int .i64 0,.int .u16 0,.int .u16 0,.int .u64 0,.int .u64 0,.int .i64 0,.int .i64 0,.int .i64 0,.bool false,.slice none 0 0,.slice none 0 0,.bool false,.int .i64 0,.bool false,.slice none 0 0] 35)
 have bR0 := Blk.new ((w.alloc (.cells (k.cells c).toArray 35)).alloc (.cells #[.int .i64 p.kd,.int .i64 p.ask,.int .u16 p.ha,.int .u16 p.la,.int .u64 p.hi,.int .u64 p.lo,.int .i64 p.of,.int .i64 p.mt,.int .i64 p.co,.bool p.cm,.slice a L pc,.slice ia 0 ic] 32)) 35 czl
 have hz0' : (w.alloc (.cells (k.cells c).toArray 35)).heap.size = w.heap.size + 1 := by simp
 have hz1' : ((w.alloc (.cells (k.cells c).toArray 35)).alloc (.cells #[.int .i64 p.kd,.int .i64 p.ask,.int .u16 p.ha,.int .u16 p.la,.int .u64 p.hi,.int .u64 p.lo,.int .i64 p.of,.int .i64 p.mt,.int .i64 p.co,.bool p.cm,.slice a L pc,.slice ia 0 ic] 32)).heap.size = w.heap.size + 2 := by simp
 have hB0 : Below w.heap.size w (((w.alloc (.cells (k.cells c).toArray 35)).alloc (.cells #[.int .i64 p.kd,.int .i64 p.ask,.int .u16 p.ha,.int .u16 p.la,.int .u64 p.hi,.int .u64 p.lo,.int .i64 p.of,.int .i64 p.mt,.int .i64 p.co,.bool p.cm,.slice a L pc,.slice ia 0 ic] 32)).alloc (.cells #[.int .i64 0,.int .i64 0,.int .i64 0,.int .u16 0,.int .u16 0,.int .u16 0,.slice none 0 0,.int .i64 0,.slice none 0 0,.bool false,.int .i64 0,.int .i64 0,.int .u16 0,.int .u16 0,.int .u64 0,.int .u64 0,.int .i64 0,.int .i64 0,.int .i64 0,.bool false,.slice none 0 0,.slice none 0 0,.bool false,.int .i64 0,.bool false,.slice none 0 0] 35)) := (((Below.refl _ _).alloc (Nat.le_refl _) _).alloc (by simp) _).alloc (by simp; omega) _
 rw [hz0'] at bP0
 rw [hz1'] at bR0
 unfold czl at bR0
 have HL := Lib.hid hL
 have HR := Lib.hid hR
 clear hz0' hz1' hp hL hR
 go_enter Try.func77,Try.ntmps77
 go_upto_region 1 with fail
 generalize hX : World.alloc (World.alloc (World.alloc w _) _) _ = V at bC0 bP0 bR0 hB0 ⊢
 clear hX
 have B0 : Bx V w.heap.size R c k := ⟨bC0,hC.below hB0,hm0⟩
 have hP0 := hP.below hB0
 have hI0 := hi.below hB0
 have hth := B0.blk.there 10 12 (by simp [Cv.cells,clc])
 have TB := bP0.cells
 have hOpen := TB
 simp only [Cells,blk,List.cons_append,List.nil_append,and_true,Nat.reduceAdd,Nat.add_zero,Nat.zero_add] at hOpen
 obtain ⟨q0,q1,q2,q3,q4,q5,q6,q7,q8,q9,q10,q11⟩ := hOpen
 go_upto_region 2 with (refine wpList_store_mid rfl 32 _ _ rfl w.heap.size 10 #[.int .i64 p.kd,.int .i64 p.ask,.int .u16 p.ha,.int .u16 p.la,.int .u64 p.hi,.int .u64 p.lo,.int .i64 p.of,.int .i64 p.mt,.int .i64 p.co,.bool p.cm,.slice a L pc,.slice ia 0 ic] rfl rfl hth (by kernel_rfl) (by simp [Value.oneCell']) ?_; simp only [Act.put])
 clear q0 q1 q2 q3 q4 q5 q6 q7 q8 q9 q10 q11 TB hth
 have B1 := B0.put_ad p hP0 hI0
 have bP1 := bP0.kept (setCells_grown w.heap.size (pdc p (.slice a L pc) (.slice ia 0 ic)) 10 V) (fun e => by injection e with e; omega)
 have bR1 := bR0.kept (setCells_grown w.heap.size (pdc p (.slice a L pc) (.slice ia 0 ic)) 10 V) (fun e => by injection e with e; omega)
 have hB1 := hB0.grown (setCells_grown w.heap.size (pdc p (.slice a L pc) (.slice ia 0 ic)) 10 V) hB0.size (fun k hk => by cases hk; exact Nat.le_refl _)
 generalize hW : World.setCells V w.heap.size 10 _ = w1
 have e1 : V.setCells w.heap.size 10 (pdc p (.slice a L pc) (.slice ia 0 ic)) = w1 := hW
 rw [e1] at B1 bP1 bR1 hB1
 clear hW e1 hP0 hI0 bC0 bP0 bR0 hB0 B0 hP hC
 have m23 := B1.blk.cell (j := 23) (v := .int .i64 c.since) rfl
 have z23 := B1.blk.frozen 23
 have B2 := B1.put_since now
 have m22 := B2.blk.cell (j := 22) (v := .bool c.busy) rfl
 have z22 := B2.blk.frozen 22
 have B3 := B2.put_busy true
 have hg2 := (set1 w1 ⟨w.heap.size,23,none⟩ (.int .i64 now)).trans (set1 (w1.setCell ⟨w.heap.size,23,none⟩ (.int .i64 now)) ⟨w.heap.size,22,none⟩ (.bool true))
 have bP3 := bP1.kept hg2 (fun e => by injection e with e; simp only at e; omega)
 have bR3 := bR1.kept hg2 (fun e => by injection e with e; simp only at e; omega)
 have hB3 := hB1.grown hg2 hB1.size (fun k hk => by cases hk; exact Nat.le_refl _)
 go_upto_region 4 with fail
 generalize hW : World.setCell (World.setCell w1 _ _) _ _ = w3 at B3 bP3 bR3 hB3 ⊢
 clear hW m22 z22 m23 z23 hg2 B1 B2 bP1 bR1 hB1
 obtain ⟨c1,hc1⟩ : ∃ c1 : Cl,{ c with ad := p,since := now,busy := true } = c1 := ⟨_,rfl⟩
 obtain ⟨k1,hk1⟩ : ∃ k1 : Cv,{ k with ab := .slice a L pc,ai := .slice ia 0 ic } = k1 := ⟨_,rfl⟩
 have B3 : Bx w3 w.heap.size R c1 k1 := by rw [← hc1,← hk1]; exact B3
 have HPV : BV w3 (.slice a L pc) p.vs := by have h := B3.cr.ab.1; rw [← hk1,← hc1] at h; exact h
 have HIV : SR w3 (.slice ia 0 ic) 0 5 [] := by have h := B3.cr.ai; rw [← hk1] at h; exact h
 have HPA : BD w3 R (.slice a L pc) p.vs := by have h := B3.cr.ab; rw [← hk1,← hc1] at h; exact h
 have HC1 := Lib.hid hc1
 clear hk1 hc1
 have HPA := HPA.below (Below.refl _ w3).drew
 have Bd := B3.drew
 have bPd := bP3.drew
 have bRd := bR3.drew
 have hBd := hB3.drew
 have TB := bPd.cells
 clear B3 bP3 bR3 hB3 HPV HIV
 refine wp_region_held_drew (S := (fun W' : World => Cells W' (blk (w.heap.size + 1) 0 0 [.int .i64 p.kd,.int .i64 p.ask,.int .u16 p.ha,.int .u16 p.la,.int .u64 p.hi,.int .u64 p.lo,.int .i64 p.of,.int .i64 p.mt,.int .i64 p.co,.bool p.cm,.slice a L pc,.slice ia 0 ic]))) (by kernel_rfl) (TB) (fun hHeld => ?_)
 generalize World.drew _ = wd at hHeld TB Bd bPd bRd hBd HPA ⊢
 repeat' first
  |refine tkU 1 ?_
  |refine tkU 4 ?_
  |(refine opn 0 fun K hK => ?_
    refine step_load_mid (by rfl) 35 _ (by rfl) w.heap.size 0 (by rfl) (k1.cells c1) _ Bd.range Try.underlying35 rfl (by kernel_rfl) ?_
    refine hK.out _ _ (TB) (fun h => ?_)
    replace hHeld := h
    clear hK K h
    try simp only [Act.put,List.setIfInBounds_toArray,List.set_cons_zero,List.set_cons_succ])
  |(refine opn 2 fun K hK => ?_
    go_simp
    have hltO := bRd.lt
    generalize hX : World.alloc _ (.cells _ 32) = w4
    obtain ⟨hnb,hB4,hz4⟩ := alloc_named hX
    have bO : Blk w4 _ 32 [.int .i64 p.kd,.int .i64 p.ask,.int .u16 p.ha,.int .u16 p.la,.int .u64 p.hi,.int .u64 p.lo,.int .i64 p.of,.int .i64 p.mt,.int .i64 p.co,.bool p.cm,.slice a L pc,.slice ia 0 ic] := hnb
    have Bd := Bd.below hB4
    have bPd := bPd.below hB4
    have bRd := bRd.below hB4
    have HPA := HPA.below hB4
    have hBd := hBd.trans (hB4.mono hBd.size)
    have TB := bPd.cells
    clear hX hnb hB4 hz4
    refine hK.out _ _ (TB) (fun h => ?_)
    replace hHeld := h
    clear hK K h
    try simp only [Act.put,List.setIfInBounds_toArray,List.set_cons_zero,List.set_cons_succ])
  |(refine opn 3 fun K hK => ?_
    refine step_store_mid (by rfl) 35 _ _ (by rfl) (w.heap.size + 2) 0 (k1.cells c1).toArray (by rfl) (by rfl) (bRd.there 0 26 (by simp)) (by kernel_rfl) Bd.cr.one ?_
    generalize hX : World.setCells _ (w.heap.size + 2) 0 _ = w9
    have bRd : Blk w9 (w.heap.size + 2) 35 (k1.cells c1) := hX ▸ Blk.putC bRd c1 k1.bv k1.fv k1.ab k1.ai k1.wv
    have hg9 := hX ▸ setCells_grown (w.heap.size + 2) (k1.cells c1) 0 _
    have Bd := Bd.other hg9 (by omega) hm2
    have HPA := HPA.turned hg9 (fun k hk => .inl (by rw [← hk]; exact hm2))
    have bPd := bPd.kept hg9 (fun e => by injection e with e; omega)
    try have bO := bO.kept hg9 (fun e => by injection e with e; omega)
    have hBd := hBd.grown hg9 hBd.size (fun k hk => by cases hk; omega)
    have TB := bPd.cells
    clear hX hg9
    refine hK.out _ _ (TB) (fun h => ?_)
    replace hHeld := h
    clear hK K h
    try simp only [Act.put,List.setIfInBounds_toArray,List.set_cons_zero,List.set_cons_succ])
  |refine rd2 0 2 ?_ ?_
  |refine rd2 2 3 ?_ ?_
  |refine rd1 3 ?_
  |refine rd1 2 ?_
  |refine rd1 0 ?_
  |(refine wpAnyH_done (by kernel_rfl) ?_ _
    go_wp2_with fail
    have hl := run_loadVar_row (P := Try.prog) _ (w.heap.size + 2) 35 35 _ (0,0) _ bRd Try.underlying35 rfl (by kernel_rfl)
    refine bodyPost_ret (v := .tuple #[.agg (k1.cells c1).toArray,.slice (some ⟨_,0,none⟩) 1 1]) (by rw [results_cell_tmp rfl]; simp [asAddr,hl] <;> rfl) rfl ⟨k1,_,by rw [HC1.out],by rw [HC1.out]; exact Bd.cr.less hRs,psr_one (p := p) bO (HPA.less hRs) hi.empty (fun hm => by have := hR0 _ hm; omega),hBd⟩)
theorem PsR.turned {w w' : World} {R : List (Option Nat)} {v : Value} {ps : List Pd} {r : Option Nat} (h : PsR w R v ps) (hg : w.grownBy w' r) (hr : Turns w R r) : PsR w' R v ps := by
 obtain ⟨qs,h1,h2,h3,h4⟩ := h
 exact ⟨qs,h1,h2.turned h3 hg hr,h3,fun q hq => ⟨(h4 q hq).1.turned hg hr,(h4 q hq).2.empty⟩⟩
theorem PsR.less {w : World} {R R' : List (Option Nat)} {v : Value} {ps : List Pd} (h : PsR w R v ps) (hs : ∀ r,r ∈ R' → r ∈ R) : PsR w R' v ps := by
 obtain ⟨qs,h1,h2,h3,h4⟩ := h
 exact ⟨qs,h1,h2,h3.imp id fun h5 k hk hm => h5 k hk (hs _ hm),fun q hq => ⟨(h4 q hq).1.less hs,(h4 q hq).2⟩⟩
theorem PsR.below {w w' : World} {R : List (Option Nat)} {v : Value} {ps : List Pd} (h : PsR w R v ps) (hb : Below w.heap.size w w') : PsR w' R v ps := by
 obtain ⟨qs,h1,h2,h3,h4⟩ := h
 exact ⟨qs,h1,h2.below hb,h3,fun q hq => ⟨(h4 q hq).1.below hb,(h4 q hq).2.empty⟩⟩
theorem PsR.psv {w : World} {R : List (Option Nat)} {v : Value} {ps : List Pd} (h : PsR w R v ps) : PsV w v ps := by
 obtain ⟨qs,h1,h2,h3,h4⟩ := h
 exact ⟨qs,h1,h2,fun q hq => ⟨(h4 q hq).1.1,(h4 q hq).2⟩⟩
theorem psr_nil (w : World) (R : List (Option Nat)) : PsR w R (.slice none 0 0) [] := ⟨[],rfl,SR.nil w 12,.inl rfl,fun q hq => by cases hq⟩
/-- results, read apart from some blocks -/
def RsR (w : World) (R : List (Option Nat)) (v : Value) (us : List Rs) : Prop := ∃ qs : List (Rs × Value × Value),qs.map (·.1) = us ∧ SR w v qs.length 6 (qs.flatMap renc) ∧ (qs.length = 0 ∨ Apart R v) ∧ ∀ q ∈ qs,BD w R q.2.1 q.1.vs ∧ FD w R q.2.2 q.1.fo
theorem RsR.turned {w w' : World} {R : List (Option Nat)} {v : Value} {us : List Rs} {r : Option Nat} (h : RsR w R v us) (hg : w.grownBy w' r) (hr : Turns w R r) : RsR w' R v us := by
 obtain ⟨qs,h1,h2,h3,h4⟩ := h
 exact ⟨qs,h1,h2.turned h3 hg hr,h3,fun q hq => ⟨(h4 q hq).1.turned hg hr,(h4 q hq).2.turned hg hr⟩⟩
theorem RsR.less {w : World} {R R' : List (Option Nat)} {v : Value} {us : List Rs} (h : RsR w R v us) (hs : ∀ r,r ∈ R' → r ∈ R) : RsR w R' v us := by
 obtain ⟨qs,h1,h2,h3,h4⟩ := h
 exact ⟨qs,h1,h2,h3.imp id fun h5 k hk hm => h5 k hk (hs _ hm),fun q hq => ⟨(h4 q hq).1.less hs,(h4 q hq).2.less hs⟩⟩
theorem RsR.more {w : World} {R R' : List (Option Nat)} {v : Value} {us : List Rs} (h : RsR w R v us) (hR : ∀ i,some i ∈ R' → w.heap.size ≤ i) : RsR w (R ++ R') v us := by
 obtain ⟨qs,h1,h2,h3,h4⟩ := h
 refine ⟨qs,h1,h2,?_,fun q hq => ⟨(h4 q hq).1.more hR,(h4 q hq).2.more hR⟩⟩
 rcases h3 with h0 | h0
 ·exact .inl h0
 ·rcases apart_above h2 hR with h1 | h1
  ·exact .inl h1
  ·exact .inr fun k hk hm => (List.mem_append.1 hm).elim (h0 k hk) (h1 k hk)
theorem RsR.below {w w' : World} {R : List (Option Nat)} {v : Value} {us : List Rs} (h : RsR w R v us) (hb : Below w.heap.size w w') : RsR w' R v us := by
 obtain ⟨qs,h1,h2,h3,h4⟩ := h
 exact ⟨qs,h1,h2.below hb,h3,fun q hq => ⟨(h4 q hq).1.below hb,(h4 q hq).2.below hb⟩⟩
theorem RsR.rsv {w : World} {R : List (Option Nat)} {v : Value} {us : List Rs} (h : RsR w R v us) : RsV w v us := by
 obtain ⟨qs,h1,h2,h3,h4⟩ := h
 exact ⟨qs,h1,h2,fun q hq => ⟨(h4 q hq).1.1,(h4 q hq).2.1⟩⟩
theorem rsr_nil (w : World) (R : List (Option Nat)) : RsR w R (.slice none 0 0) [] := ⟨[],rfl,SR.nil w 6,.inl rfl,fun q hq => by cases hq⟩
theorem rsr_one {w : World} {b : Nat} {r : Rs} {bv fv : Value} {R : List (Option Nat)} (h : Blk w b 64 (rsc r bv fv)) (hb : BD w R bv r.vs) (hf : FD w R fv r.fo) (hn : some b ∉ R) : RsR w R (.slice (some ⟨b,0,none⟩) 1 1) [r] := by
 obtain ⟨a1,c1,e1⟩ := hb.1.form
 obtain ⟨a2,c2,e2⟩ := hf.1.form
 refine ⟨[(r,bv,fv)],rfl,⟨by unfold maxLen; simp,rfl,fun u hu => ?_,some ⟨b,0,none⟩,1,rfl,fun h => (by cases h),fun _ => ⟨b,0,rfl,h.lt,fun j u hj => ?_⟩⟩,.inr (fun k hk => by simp [Value.ownBlock] at hk; subst hk; exact hn),fun q hq => by rw [List.mem_singleton.1 hq]; exact ⟨hb,hf⟩⟩
 ·simp only [List.flatMap_cons,List.flatMap_nil,List.append_nil,renc,rsc,e1,e2,List.mem_cons,List.not_mem_nil,or_false] at hu
  rcases hu with rfl | rfl | rfl | rfl | rfl | rfl <;> rfl
 ·rw [Nat.zero_add]
  exact h.cell (by simpa [renc] using hj)
/-- the frame of a function that takes a client -/
theorem pro2 {w : World} {R0 : List (Option Nat)} {c : Cl} {k : Cv} (hC : Cr w R0 c k) (hR0 : ∀ i,some i ∈ R0 → i < w.heap.size) (zs : List Value) (t : TypeId) :
 ∃ R,(∀ r,r ∈ R0 → r ∈ R) ∧ some w.heap.size ∈ R ∧ some (w.heap.size + 1) ∈ R ∧ (∀ i,some i ∈ R → i < w.heap.size + 2) ∧ (∃ R1,R = R0 ++ R1 ∧ ∀ i,some i ∈ R1 → w.heap.size ≤ i) ∧
   Bx ((w.alloc (.cells (k.cells c).toArray 35)).alloc (.cells zs.toArray t)) w.heap.size R c k ∧ Blk ((w.alloc (.cells (k.cells c).toArray 35)).alloc (.cells zs.toArray t)) (w.heap.size + 1) t zs ∧
   Below w.heap.size w ((w.alloc (.cells (k.cells c).toArray 35)).alloc (.cells zs.toArray t)) ∧ ((w.alloc (.cells (k.cells c).toArray 35)).alloc (.cells zs.toArray t)).heap.size = w.heap.size + 2 := by
 have hB : Below w.heap.size w ((w.alloc (.cells (k.cells c).toArray 35)).alloc (.cells zs.toArray t)) := ((Below.refl _ _).alloc (Nat.le_refl _) _).alloc (by simp) _
 have hab : ∀ i,some i ∈ [some w.heap.size,some (w.heap.size + 1)] → w.heap.size ≤ i := fun i hi => by simp at hi; omega
 have hz : (w.alloc (.cells (k.cells c).toArray 35)).heap.size = w.heap.size + 1 := by simp
 refine ⟨R0 ++ [some w.heap.size,some (w.heap.size + 1)],fun r hr => List.mem_append_left _ hr,by simp,by simp,fun i hi => ?_,⟨_,rfl,hab⟩,⟨(Blk.new w _ _).alloc _,(hC.more hab).below hB,by simp⟩,?_,hB,by simp⟩
 ·rcases List.mem_append.1 hi with h | h
  ·have := hR0 i h; omega
  ·simp at h; omega
 ·have := Blk.new (w.alloc (.cells (k.cells c).toArray 35)) t zs
  rw [hz] at this
  exact this
/-- the frame of a function that takes a client and something else in memory -/
theorem pro3 {w : World} {R0 : List (Option Nat)} {c : Cl} {k : Cv} (hC : Cr w R0 c k) (hR0 : ∀ i,some i ∈ R0 → i < w.heap.size) (xs : List Value) (s : TypeId) (zs : List Value) (t : TypeId) :
 ∃ R,(∀ r,r ∈ R0 → r ∈ R) ∧ some w.heap.size ∈ R ∧ some (w.heap.size + 1) ∈ R ∧ some (w.heap.size + 2) ∈ R ∧ (∀ i,some i ∈ R → i < w.heap.size + 3) ∧ (∃ R1,R = R0 ++ R1 ∧ ∀ i,some i ∈ R1 → w.heap.size ≤ i) ∧
   Bx (((w.alloc (.cells (k.cells c).toArray 35)).alloc (.cells xs.toArray s)).alloc (.cells zs.toArray t)) w.heap.size R c k ∧ Blk (((w.alloc (.cells (k.cells c).toArray 35)).alloc (.cells xs.toArray s)).alloc (.cells zs.toArray t)) (w.heap.size + 1) s xs ∧ Blk (((w.alloc (.cells (k.cells c).toArray 35)).alloc (.cells xs.toArray s)).alloc (.cells zs.toArray t)) (w.heap.size + 2) t zs ∧
   Below w.heap.size w (((w.alloc (.cells (k.cells c).toArray 35)).alloc (.cells xs.toArray s)).alloc (.cells zs.toArray t)) ∧ (((w.alloc (.cells (k.cells c).toArray 35)).alloc (.cells xs.toArray s)).alloc (.cells zs.toArray t)).heap.size = w.heap.size + 3 := by
 have hB : Below w.heap.size w (((w.alloc (.cells (k.cells c).toArray 35)).alloc (.cells xs.toArray s)).alloc (.cells zs.toArray t)) := (((Below.refl _ _).alloc (Nat.le_refl _) _).alloc (by simp) _).alloc (by simp; omega) _
 have hab : ∀ i,some i ∈ [some w.heap.size,some (w.heap.size + 1),some (w.heap.size + 2)] → w.heap.size ≤ i := fun i hi => by simp at hi; omega
 have hz : (w.alloc (.cells (k.cells c).toArray 35)).heap.size = w.heap.size + 1 := by simp
 have hz2 : ((w.alloc (.cells (k.cells c).toArray 35)).alloc (.cells xs.toArray s)).heap.size = w.heap.size + 2 := by simp
 refine ⟨R0 ++ [some w.heap.size,some (w.heap.size + 1),some (w.heap.size + 2)],fun r hr => List.mem_append_left _ hr,by simp,by simp,by simp,fun i hi => ?_,⟨_,rfl,hab⟩,⟨((Blk.new w _ _).alloc _).alloc _,(hC.more hab).below hB,by simp⟩,?_,?_,hB,by simp⟩
 ·rcases List.mem_append.1 hi with h | h
  ·have := hR0 i h; omega
  ·simp at h; omega
 ·have := (Blk.new (w.alloc (.cells (k.cells c).toArray 35)) s xs).alloc (.cells zs.toArray t)
  rw [hz] at this
  exact this
 ·have := Blk.new ((w.alloc (.cells (k.cells c).toArray 35)).alloc (.cells xs.toArray s)) t zs
  rw [hz2] at this
  exact this
theorem BD.up {w V : World} {R0 R : List (Option Nat)} {v : Value} {bs : List Nat} (h : BD w R0 v bs) (hR : ∃ R1,R = R0 ++ R1 ∧ ∀ i,some i ∈ R1 → w.heap.size ≤ i) (hB : Below w.heap.size w V) : BD V R v bs := by
 obtain ⟨R1,rfl,h1⟩ := hR
 exact (h.more h1).below hB
theorem FD.up {w V : World} {R0 R : List (Option Nat)} {v : Value} {l : List Fd} (h : FD w R0 v l) (hR : ∃ R1,R = R0 ++ R1 ∧ ∀ i,some i ∈ R1 → w.heap.size ≤ i) (hB : Below w.heap.size w V) : FD V R v l := by
 obtain ⟨R1,rfl,h1⟩ := hR
 exact (h.more h1).below hB
theorem RsR.up {w V : World} {R0 R : List (Option Nat)} {v : Value} {l : List Rs} (h : RsR w R0 v l) (hR : ∃ R1,R = R0 ++ R1 ∧ ∀ i,some i ∈ R1 → w.heap.size ≤ i) (hB : Below w.heap.size w V) : RsR V R v l := by
 obtain ⟨R1,rfl,h1⟩ := hR
 exact (h.more h1).below hB
theorem over_pre : ∀ (vs pre zs : List Value),zs.length = vs.length → over pre.length vs (pre ++ zs) = pre ++ vs
 |[],pre,zs,h => by
  have h0 : zs = [] := List.eq_nil_of_length_eq_zero (by simpa using h)
  simp [over,h0]
 |v :: vs,pre,[],h => by simp at h
 |v :: vs,pre,z :: zs,h => by
  have h1 := over_pre vs (pre ++ [v]) zs (by simpa using h)
  simp only [List.length_append,List.length_cons,List.length_nil,Nat.zero_add,List.append_assoc,List.cons_append,List.nil_append] at h1
  simp only [over]
  rw [show (pre ++ z :: zs).set pre.length v = pre ++ v :: zs by simp]
  exact h1
/-- a whole block is written -/
theorem Blk.putAll {w : World} {b : Nat} {t : TypeId} {zs vs : List Value} (h : Blk w b t zs) (hl : zs.length = vs.length) : Blk (w.setCells b 0 vs) b t vs := by
 have h1 := h.setCells (vs := vs) (o := 0)
 have h2 := over_pre vs [] zs hl
 simp only [List.length_nil,List.nil_append] at h2
 rw [h2] at h1
 exact h1
/-- the end of a function: the block of the result is written -/
theorem fin26 {n b : Nat} {w w1 : World} {R R0 : List (Option Nat)} {c1 : Cl} {k1 : Cv} {o r : Value} {ps : List Pd} {us : List Rs} {zs : List Value} (hC : Cr w1 R c1 k1) (hp : PsR w1 R o ps) (hr : RsR w1 R r us) (hb : Blk w1 b 35 zs) (hz : zs.length = 26) (hm : some b ∈ R) (hs : ∀ r,r ∈ R0 → r ∈ R) (hl : Below n w w1) (hn : n ≤ b) :
 (Cr (w1.setCells b 0 (k1.cells c1)) R0 c1 k1 ∧ PsR (w1.setCells b 0 (k1.cells c1)) R0 o ps ∧ RsR (w1.setCells b 0 (k1.cells c1)) R0 r us ∧ Below n w (w1.setCells b 0 (k1.cells c1))) ∧ Blk (w1.setCells b 0 (k1.cells c1)) b 35 (k1.cells c1) := by
 have hg := setCells_grown b (k1.cells c1) 0 w1
 have ht : Turns w1 R (some b) := fun k hk => .inl (by rw [← hk]; exact hm)
 refine ⟨⟨(hC.turned hg ht).less hs,(hp.turned hg ht).less hs,(hr.turned hg ht).less hs,hl.grown hg (Nat.le_trans hn (Nat.le_of_lt hb.lt)) (fun k hk => by cases hk; exact hn)⟩,?_⟩
 exact Blk.putAll hb (hz.trans rfl)
/-- what a function of the reference hands back -/
def Out2 (w' : World) (R0 : List (Option Nat)) (e : Ending) (x : Sp) : Prop := ∃ k' o,e = .returned (.tuple #[.agg (k'.cells x.c).toArray,o]) ∧ Cr w' R0 x.c k' ∧ PsR w' R0 o x.ps
def Out3 (w' : World) (R0 : List (Option Nat)) (e : Ending) (x : Sp) : Prop := ∃ k' o r,e = .returned (.tuple #[.agg (k'.cells x.c).toArray,o,r]) ∧ Cr w' R0 x.c k' ∧ PsR w' R0 o x.ps ∧ RsR w' R0 r x.us
theorem rsend2 (c : Cl) (k : Cv) (R0 : List (Option Nat)) (p : Pd) (bv iv : Value) (now : Int) (w : World) (hC : Cr w R0 c k) (hp : BD w R0 bv p.vs) (hi : SR w iv 0 5 []) (hR0 : ∀ i,some i ∈ R0 → i < w.heap.size) :
 Calls Try.prog 77 #[.agg (k.cells c).toArray,.agg (pdc p bv iv).toArray,.int .i64 now] w fun e w' => Out2 w' R0 e ((sp0 c now).send p) ∧ Below w.heap.size w w' := by
 refine (rsend_any c k R0 p bv iv now w hC hp hi hR0).mono ?_
 rintro e w1 ⟨k1,o,rfl,h1,h2,h3⟩
 exact ⟨⟨k1,o,rfl,h1,h2⟩,h3⟩
end Go.Proofs.Ytldcihjddebciaa
