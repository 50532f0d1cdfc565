/- client: send, report. And what follows it. -/
import Derived.Test.YtldcihjddebciaaGreatDClN
set_option linter.unusedSimpArgs false
set_option linter.unusedVariables false
set_option maxRecDepth 100000
set_option maxHeartbeats 8000000
namespace Go.Proofs.YtldcihjddebciaaGreat
open Go.RowKit
theorem send_any (p : Pd) (bv iv : Value) (w : World) (B X : Nat) (s : Sv) (h : Sq w B X s) (hp : BD w (s.rw X) bv p.vs) (hi : SR w iv 0 5 []) (hm : p.vs.length ≤ 1000000) (hps : s.ps.length ≤ 1000) :
 Calls Tryz.prog 75 #[.pointer (some ⟨X,0,none⟩),.agg #[.int .i64 p.kd,.int .i64 p.ask,.int .u16 p.ha,.int .u16 p.la,.int .u64 p.hi,.int .u64 p.lo,.int .i64 p.of,.int .i64 p.mt,.int .i64 p.co,.bool p.cm,bv,iv]] w fun e w' => e = .returned (.tuple #[]) ∧ ∃ s',Sq w' B X s' ∧ s'.sp = s.sp.send p ∧ Below B w w' := by
 obtain ⟨i0,hi0,hz0,hz1,hz2⟩ := info_parts Tryz.info_AttPDU
 obtain ⟨a,c,rfl⟩ := hp.1.form
 obtain ⟨ia,ic,rfl⟩ := hi.form
 obtain ⟨L,hL⟩ : ∃ L,p.vs.length = L := ⟨_,rfl⟩
 rw [hL] at hp ⊢
 have hXw := h.blk.lt
 have hBw := Nat.le_trans h.own (Nat.le_of_lt hXw)
 have bP0 := Blk.new w 49 [.int .i64 p.kd,.int .i64 p.ask,.int .u16 p.ha,.int .u16 p.la,.int .u64 p.hi,.int .u64 p.lo,.int .i64 p.of,.int .i64 p.mt,.int .i64 p.co,.bool p.cm,.slice a L c,.slice ia 0 ic]
 have hB0 : Below w.heap.size w (w.alloc (.cells #[.int .i64 p.kd,.int .i64 p.ask,.int .u16 p.ha,.int .u16 p.la,.int .u64 p.hi,.int .u64 p.lo,.int .i64 p.of,.int .i64 p.mt,.int .i64 p.co,.bool p.cm,.slice a L c,.slice ia 0 ic] 49)) := (Below.refl _ _).alloc (Nat.le_refl _) _
 go_enter Tryz.func75,Tryz.ntmps75
 go_upto_region 1 with fail
 generalize hV : World.alloc w _ = V at bP0 hB0 ⊢
 clear hV
 have bP := bP0.drew
 have hBd := hB0.drew
 have H := h.below hBd
 have hP := hp.below hBd
 have hI := hi.below hBd
 have m26 := H.blk.cell (j := 26) (v := .int .i64 s.now) rfl
 have TA : Cells V.drew (blk w.heap.size 0 0 [.int .i64 p.kd,.int .i64 p.ask,.int .u16 p.ha,.int .u16 p.la,.int .u64 p.hi,.int .u64 p.lo,.int .i64 p.of,.int .i64 p.mt,.int .i64 p.co,.bool p.cm,.slice a L c,.slice ia 0 ic] ++ [(X,26,.int .i64 s.now)]) := bP.cells.app ⟨m26,trivial⟩
 have HL := Lib.hid hL
 have HM := Lib.hid hm
 have HH := Lib.hid h
 clear h hp hi bP0 hB0 m26 hL hm
 refine wp_region_held_drew (S := (fun W' : World => Cells W' (blk w.heap.size 0 0 [.int .i64 p.kd,.int .i64 p.ask,.int .u16 p.ha,.int .u16 p.la,.int .u64 p.hi,.int .u64 p.lo,.int .i64 p.of,.int .i64 p.mt,.int .i64 p.co,.bool p.cm,.slice a L c,.slice ia 0 ic] ++ [(X,26,.int .i64 s.now)]))) (by kernel_rfl) (TA) (fun hHeld => ?_)
 generalize World.drew _ = wd at hHeld bP hBd H hP hI TA ⊢
 refine tkU 0 ?_
 refine tkU 1 ?_
 refine tkU 2 ?_
 refine tkU 3 ?_
 refine tkU 4 ?_
 refine tkU 5 ?_
 refine tkU 6 ?_
 refine tkU 7 ?_
 refine tkU 8 ?_
 refine tkU 9 ?_
 refine tkU 10 ?_
 refine rd1 11 fun K hK => ?_
 refine step_store_mid (by rfl) 49 _ _ (by rfl) X 10 #[.int .i64 p.kd,.int .i64 p.ask,.int .u16 p.ha,.int .u16 p.la,.int .u64 p.hi,.int .u64 p.lo,.int .i64 p.of,.int .i64 p.mt,.int .i64 p.co,.bool p.cm,.slice a L c,.slice ia 0 ic] (by rfl) (by rfl) (H.blk.there 10 12 (by simp [Sv.cells])) (by kernel_rfl) (by simp [Value.oneCell']) ?_
 have H1 := H.put_ad p hP hI
 generalize hW : World.setCells wd X 10 _ = w1 at hHeld ⊢
 have e1 : wd.setCells X 10 (pdc p (.slice a L c) (.slice ia 0 ic)) = w1 := hW
 have bP1 := bP.kept (setCells_grown X (pdc p (.slice a L c) (.slice ia 0 ic)) 10 wd) (fun e => by injection e with e; omega)
 rw [e1] at H1 bP1
 clear hW e1
 obtain ⟨H1,hl1⟩ := H1
 have TA1 : Cells w1 (blk w.heap.size 0 0 [.int .i64 p.kd,.int .i64 p.ask,.int .u16 p.ha,.int .u16 p.la,.int .u64 p.hi,.int .u64 p.lo,.int .i64 p.of,.int .i64 p.mt,.int .i64 p.co,.bool p.cm,.slice a L c,.slice ia 0 ic] ++ [(X,26,.int .i64 s.now)]) := bP1.cells.app ⟨H1.blk.cell (j := 26) rfl,trivial⟩
 have m23 := H1.blk.cell (j := 23) (v := .int .i64 s.c.since) rfl
 have z23 := H1.blk.frozen 23
 clear hHeld
 refine hK.out _ _ (TA1) (fun hHeld => ?_)
 clear hK K
 try simp only [Act.put,List.setIfInBounds_toArray,List.set_cons_zero,List.set_cons_succ]
 refine tkU 12 ?_
 refine tkU 13 ?_
 refine tkU 14 ?_
 refine rd1 15 fun K hK => ?_
 go_simp
 have H2 := H1.put_since s.now
 generalize hW : World.setCell w1 _ _ = w2 at H2 ⊢
 have bP2 := bP1.kept (set1 w1 ⟨X,23,none⟩ (.int .i64 s.now)) (fun e => by injection e with e; simp only at e; omega)
 rw [hW] at bP2
 clear hW
 obtain ⟨H2,hl2⟩ := H2
 have TA2 : Cells w2 (blk w.heap.size 0 0 [.int .i64 p.kd,.int .i64 p.ask,.int .u16 p.ha,.int .u16 p.la,.int .u64 p.hi,.int .u64 p.lo,.int .i64 p.of,.int .i64 p.mt,.int .i64 p.co,.bool p.cm,.slice a L c,.slice ia 0 ic] ++ [(X,26,.int .i64 s.now)]) := bP2.cells.app ⟨H2.blk.cell (j := 26) rfl,trivial⟩
 clear m23 z23
 have m22 := H2.blk.cell (j := 22) (v := .bool s.c.busy) rfl
 have z22 := H2.blk.frozen 22
 clear hHeld
 refine hK.out _ _ (TA2) (fun hHeld => ?_)
 clear hK K
 try simp only [Act.put,List.setIfInBounds_toArray,List.set_cons_zero,List.set_cons_succ]
 refine tkU 16 ?_
 refine tkU 17 ?_
 refine tkU 18 ?_
 refine rd1 19 fun K hK => ?_
 go_simp
 have H3 := H2.put_busy true
 generalize hW : World.setCell w2 _ _ = w3 at H3 ⊢
 have bP3 := bP2.kept (set1 w2 ⟨X,22,none⟩ (.bool true)) (fun e => by injection e with e; simp only at e; omega)
 rw [hW] at bP3
 clear hW
 obtain ⟨H3,hl3⟩ := H3
 have TA3 : Cells w3 (blk w.heap.size 0 0 [.int .i64 p.kd,.int .i64 p.ask,.int .u16 p.ha,.int .u16 p.la,.int .u64 p.hi,.int .u64 p.lo,.int .i64 p.of,.int .i64 p.mt,.int .i64 p.co,.bool p.cm,.slice a L c,.slice ia 0 ic] ++ [(X,26,.int .i64 s.now)]) := bP3.cells.app ⟨H3.blk.cell (j := 26) rfl,trivial⟩
 clear m22 z22
 clear hHeld
 refine hK.out _ _ (TA3) (fun hHeld => ?_)
 clear hK K
 try simp only [Act.put,List.setIfInBounds_toArray,List.set_cons_zero,List.set_cons_succ]
 refine wpAnyH_done (by kernel_rfl) ?_ _
 have hlow : Below B w w3 := (((hBd.mono hBw).trans hl1).trans hl2).trans hl3
 have hsz : w.heap.size ≤ w3.heap.size := hlow.size
 clear hHeld TA TA1 TA2 TA3 hl1 hl2 hl3 bP bP1 bP2 H1 H2 H hP hI hBd
 obtain ⟨s1,hs1⟩ : ∃ s1 : Sv,{ s with c := { s.c with ad := p,since := s.now,busy := true },ab := .slice a L c,ai := .slice ia 0 ic } = s1 := ⟨_,rfl⟩
 have H3 : Sq w3 B X s1 := by rw [← hs1]; exact H3
 have e1 : s1.c.ad = p := by rw [← hs1]
 have e2 : s1.ab = .slice a L c := by rw [← hs1]
 have e3 : s1.ai = .slice ia 0 ic := by rw [← hs1]
 have e4 : s1.sp.send p = s.sp.send p := by rw [← hs1]; rfl
 have e5 : s1.ps = s.ps := by rw [← hs1]
 have hps1 : s1.ps.length ≤ 1000 := by rw [e5]; exact hps
 have hovl : ∀ k,s1.ov.ownBlock = some k → k < w.heap.size := fun k hk => (HH.out.pt.ov.lt k (by rw [← hs1] at hk; exact hk)).2
 have HE := Lib.hid (And.intro e1 (And.intro e2 (And.intro e3 (And.intro e4 e5))))
 have HS := Lib.hid hs1
 clear hs1 e1 e2 e3 e4 e5
 go_upto_region 2 with fail
 have bPd := bP3.drew
 have Hd := H3.drew
 have hEa := HE.out
 have mF : ∀ W : World,Sq W B X s1 → W.cell? ⟨X,27,none⟩ = some s1.ov := fun W h => h.blk.cell (j := 27) rfl
 have m27 := mF _ Hd
 have hBd : Below B w w3.drew := hlow.drew
 have TB := bPd.cells
 have MF := Lib.hid mF
 obtain ⟨oa,oc,hov⟩ := own_form Hd.pt.ov
 rw [hov] at m27
 have HOV := Lib.hid hov
 clear H3 bP3 hlow mF hov hEa
 refine wp_region_held_drew (S := (fun W' : World => Cells W' (blk w.heap.size 0 0 [.int .i64 p.kd,.int .i64 p.ask,.int .u16 p.ha,.int .u16 p.la,.int .u64 p.hi,.int .u64 p.lo,.int .i64 p.of,.int .i64 p.mt,.int .i64 p.co,.bool p.cm,.slice a L c,.slice ia 0 ic]))) (by kernel_rfl) (TB) (fun hHeld => ?_)
 generalize World.drew _ = wd at hHeld TB bPd Hd m27 hBd ⊢
 repeat' first
  |refine tkU 0 ?_
  |refine tkU 1 ?_
  |refine tkU 2 ?_
  |refine tkU 3 ?_
  |refine tkU 5 ?_
  |refine tkU 9 ?_
  |refine tkU 10 ?_
  |(refine opn 4 fun K hK => ?_
    go_simp
    refine hK.out _ _ (hHeld) (fun h => ?_)
    replace hHeld := h
    clear hK K h
    try simp only [Act.put,List.setIfInBounds_toArray,List.set_cons_zero,List.set_cons_succ])
  |(refine opn 6 fun K hK => ?_
    go_simp
    go_at_call 57
    refine (pdu_any p.kd p.ask p.ha p.la p.hi p.lo p.of p.mt p.co p.cm _ _ p.vs 0 [] _ (by rw [← HE.out.2.1,← HE.out.1]; exact Hd.pt.ab.1) (by rw [← HE.out.2.2.1]; exact Hd.pt.ai) HM.out (Nat.zero_le _)).mono ?_
    rintro e w4 ⟨bv',iv',rfl,hbv',hob',hiv',hB4⟩
    have hsz4 : wd.heap.size ≤ w4.heap.size := hB4.size
    have hbd' : BD w4 (s1.rw X) bv' p.vs := BD.new hbv' hob' Hd.lts
    have hiv' : SR w4 iv' 0 5 [] := SR.of_own hiv' (by simp) (by unfold maxLen; omega)
    obtain ⟨a1,c1,rfl⟩ := hbv'.form
    obtain ⟨ia1,ic1,rfl⟩ := hiv'.form
    have Hd := Hd.below hB4
    have bPd := bPd.below hB4
    have hBd := hBd.trans (hB4.mono (by have := hBd.size; omega))
    have TB := bPd.cells
    have m27 := MF.out _ Hd
    rw [HOV.out] at m27
    rw [HL.out] at hbd' ⊢
    clear hbv' hob' hB4
    refine hK.out _ _ (TB) (fun h => ?_)
    replace hHeld := h
    clear hK K h
    try simp only [Act.put,List.setIfInBounds_toArray,List.set_cons_zero,List.set_cons_succ])
  |(refine opn 7 fun K hK => ?_
    go_simp
    generalize hX : World.alloc _ (.cells _ 49) = w5
    obtain ⟨hnb,hB5,hz5⟩ := alloc_named hX
    have hnews : ∀ (j : Nat) (u : Value),([.int .i64 p.kd,.int .i64 p.ask,.int .u16 p.ha,.int .u16 p.la,.int .u64 p.hi,.int .u64 p.lo,.int .i64 p.of,.int .i64 p.mt,.int .i64 p.co,.bool p.cm,.slice a1 L c1,.slice ia1 0 ic1] : List Value)[j]? = some u → w5.cell? ((⟨w4.heap.size,0,none⟩ : Addr).add j) = some u := fun j u hj => by
     rw [addr_off,Nat.zero_add]
     exact Blk.cell (W := w5) (B := w4.heap.size) (t := 49) (cs := [.int .i64 p.kd,.int .i64 p.ask,.int .u16 p.ha,.int .u16 p.la,.int .u64 p.hi,.int .u64 p.lo,.int .i64 p.of,.int .i64 p.mt,.int .i64 p.co,.bool p.cm,.slice a1 L c1,.slice ia1 0 ic1]) hnb hj
    have hbd' := hbd'.below hB5
    have hiv' := hiv'.below hB5
    have Hd := Hd.below hB5
    have bPd := bPd.below hB5
    have hBd := hBd.trans (hB5.mono (by have := hBd.size; omega))
    have TB := bPd.cells
    have m27 := MF.out _ Hd
    rw [HOV.out] at m27
    clear hX hB5 hnb
    refine hK.out _ _ (TB) (fun h => ?_)
    replace hHeld := h
    clear hK K h
    try simp only [Act.put,List.setIfInBounds_toArray,List.set_cons_zero,List.set_cons_succ])
  |(refine opn 8 fun K hK => ?_
    refine step_append_own (by rfl) _ _ 55 (by rfl) B 49 i0 _ 12 120 Tryz.underlying55 hi0 hz0 hz1 hz2 rfl (by decide) (.slice oa s1.ps.length oc) s1.ps.length (s1.ps.flatMap penc) (by rfl) (by rw [← HOV.out]; exact Hd.pt.ov) ⟨w4.heap.size,0,none⟩ 1 1 [.int .i64 p.kd,.int .i64 p.ask,.int .u16 p.ha,.int .u16 p.la,.int .u64 p.hi,.int .u64 p.lo,.int .i64 p.of,.int .i64 p.mt,.int .i64 p.co,.bool p.cm,.slice a1 L c1,.slice ia1 0 ic1] (by rfl) (by rfl) hnews (by simp [Value.oneCell']) (by unfold maxLen; omega) (by omega) (by have := hBd.size; omega) ?_
    intro v6 w6 hown6 hg6 hor6
    rw [← HOV.out] at hg6 hor6
    have HAPP := Lib.hid (fun W' (e : World.setCell w6 ⟨X,27,none⟩ v6 = W') => e ▸ (Hd.app_out (q := (p,.slice a1 L c1,.slice ia1 0 ic1)) hg6 hown6 hor6 ⟨hbd',hiv'⟩))
    have bPd := bPd.kept hg6 (fun e => by have := hovl _ e.symm; omega)
    have m27 : w6.cell? ⟨X,27,none⟩ = some s1.ov := (World.cell?_of_block (a := ⟨X,27,none⟩) (hg6.block X Hd.blk.lt (fun e => Hd.ne.2.1 e.symm))).trans (MF.out _ Hd)
    have z27 : w6.frozen? ⟨X,27,none⟩ = false := (Hd.blk.kept hg6 (fun e => Hd.ne.2.1 e.symm)).frozen 27
    rw [HOV.out] at m27
    obtain ⟨oa6,oc6,rfl⟩ := own_form hown6
    have TB := bPd.cells
    clear hbd' hiv' hnews hown6 hg6 hor6 Hd
    refine hK.out _ _ (TB) (fun h => ?_)
    replace hHeld := h
    clear hK K h
    try simp only [Act.put,List.setIfInBounds_toArray,List.set_cons_zero,List.set_cons_succ])
  |(refine opn 11 fun K hK => ?_
    go_simp
    generalize hX : World.setCell w6 _ _ = w7
    obtain ⟨H7,hl7⟩ := HAPP.out w7 hX
    have bPd := hX ▸ bPd.other (o := 27) (by omega) (.slice oa6 (s1.ps.length + 1) oc6)
    have TB := bPd.cells
    clear HAPP m27 z27 hX
    refine hK.out _ _ (TB) (fun h => ?_)
    replace hHeld := h
    clear hK K h
    try simp only [Act.put,List.setIfInBounds_toArray,List.set_cons_zero,List.set_cons_succ])
  |refine rd2 4 6 ?_ ?_
  |refine rd1 6 ?_
  |refine rd1 7 ?_
  |refine rd1 8 ?_
  |refine rd1 11 ?_
  |refine rd2 4 7 ?_ ?_
  |refine rd1 4 ?_
  |(refine wpAnyH_done (by kernel_rfl) ?_ _
    go_wp2_with fail
    refine bodyPost_end (results_none rfl _ _ _) rfl ⟨rfl,_,H7,?_,?_⟩
    ·rw [← HS.out]
     simp [Sv.sp,Sp.send]
    ·exact hBd.trans hl7)
theorem report_any (r : Rs) (bv fv : Value) (w : World) (B X : Nat) (s : Sv) (h : Sq w B X s) (hp : BD w (s.rw X) bv r.vs) (hf : FD w (s.rw X) fv r.fo) (hus : s.us.length ≤ 1000) :
 Calls Tryz.prog 105 #[.pointer (some ⟨X,0,none⟩),.agg #[.int .i64 r.kd,.int .i64 r.tk,.int .u16 r.ha,bv,fv,.int .i64 r.co]] w fun e w' => e = .returned (.tuple #[]) ∧ ∃ s',Sq w' B X s' ∧ s'.sp = s.sp.report r ∧ Below B w w' := by
 obtain ⟨i0,hi0,hz0,hz1,hz2⟩ := info_parts Tryz.info_Result
 obtain ⟨a,c,rfl⟩ := hp.1.form
 obtain ⟨fa,fc,rfl⟩ := hf.1.form
 obtain ⟨L,hL⟩ : ∃ L,r.vs.length = L := ⟨_,rfl⟩
 obtain ⟨N,hN⟩ : ∃ L,r.fo.length = L := ⟨_,rfl⟩
 rw [hL] at hp ⊢
 rw [hN] at hf ⊢
 have hXw := h.blk.lt
 have hBw := Nat.le_trans h.own (Nat.le_of_lt hXw)
 have bR1 := Blk.new w 43 [.int .i64 r.kd,.int .i64 s.c.tk.kd,.int .u16 r.ha,.slice a L c,.slice fa N fc,.int .i64 r.co]
 have hB1 : Below w.heap.size w (w.alloc (.cells #[.int .i64 r.kd,.int .i64 s.c.tk.kd,.int .u16 r.ha,.slice a L c,.slice fa N fc,.int .i64 r.co] 43)) := (Below.refl _ _).alloc (Nat.le_refl _) _
 have H1 := h.below hB1
 have hP1 := hp.below hB1
 have hF1 := hf.below hB1
 have m2 := h.blk.cell (j := 2) (v := .int .i64 s.c.tk.kd) rfl
 have hu : ∀ x,World.cell? (w.alloc x) ⟨X,2,none⟩ = some (.int .i64 s.c.tk.kd) := fun x => kc m2 ((Below.refl _ _).alloc (Nat.le_refl _) _)
 go_enter Tryz.func105,Tryz.ntmps105
 go_upto_region 2 with fail
 generalize hW : World.alloc w _ = V1 at bR1 hB1 H1 hP1 hF1 ⊢
 clear hW m2 hu
 have bR := bR1.drew
 have hBd := (hB1.drew).mono hBw
 have hsz := hB1.size
 have Hd := H1.drew
 have hP := hP1.below (Below.refl _ _).drew
 have hF := hF1.below (Below.refl _ _).drew
 have hovl : ∀ k,s.rv.ownBlock = some k → k < w.heap.size := fun k hk => (h.pt.rv.lt k hk).2
 have mF : ∀ W : World,Sq W B X s → W.cell? ⟨X,28,none⟩ = some s.rv := fun W h => h.blk.cell (j := 28) rfl
 have m28 := mF _ Hd
 obtain ⟨oa,oc,hov⟩ := own_form Hd.pt.rv
 rw [hov] at m28
 have HOV := Lib.hid hov
 have MF := Lib.hid mF
 have HL := Lib.hid hL
 have HN := Lib.hid hN
 have TB := bR.cells
 clear h hp hf hov mF hL hN bR1 H1 hP1 hF1 hB1
 refine wp_region_held_drew (S := (fun W' : World => Cells W' (blk w.heap.size 0 0 [.int .i64 r.kd,.int .i64 s.c.tk.kd,.int .u16 r.ha,.slice a L c,.slice fa N fc,.int .i64 r.co]))) (by kernel_rfl) (TB) (fun hHeld => ?_)
 generalize World.drew _ = wd at hHeld TB bR Hd hP hF m28 hBd hsz ⊢
 repeat' first
  |refine tkU 0 ?_
  |refine tkU 1 ?_
  |refine tkU 2 ?_
  |refine tkU 3 ?_
  |refine tkU 5 ?_
  |refine tkU 8 ?_
  |refine tkU 9 ?_
  |(refine opn 4 fun K hK => ?_
    go_simp
    refine hK.out _ _ (hHeld) (fun h => ?_)
    replace hHeld := h
    clear hK K h
    try simp only [Act.put,List.setIfInBounds_toArray,List.set_cons_zero,List.set_cons_succ])
  |(refine opn 6 fun K hK => ?_
    go_simp
    generalize hX : World.alloc _ (.cells _ 43) = w5
    obtain ⟨hnb,hB5,hz5⟩ := alloc_named hX
    have hnews : ∀ (j : Nat) (u : Value),([.int .i64 r.kd,.int .i64 s.c.tk.kd,.int .u16 r.ha,.slice a L c,.slice fa N fc,.int .i64 r.co] : List Value)[j]? = some u → w5.cell? ((⟨wd.heap.size,0,none⟩ : Addr).add j) = some u := fun j u hj => by
     rw [addr_off,Nat.zero_add]
     exact Blk.cell (W := w5) (B := wd.heap.size) (t := 43) (cs := [.int .i64 r.kd,.int .i64 s.c.tk.kd,.int .u16 r.ha,.slice a L c,.slice fa N fc,.int .i64 r.co]) hnb hj
    have hP := hP.below hB5
    have hF := hF.below hB5
    have Hd := Hd.below hB5
    have bR := bR.below hB5
    have hBd := hBd.trans (hB5.mono (by have := hBd.size; omega))
    have TB := bR.cells
    have m28 := MF.out _ Hd
    rw [HOV.out] at m28
    clear hX hB5 hnb
    refine hK.out _ _ (TB) (fun h => ?_)
    replace hHeld := h
    clear hK K h
    try simp only [Act.put,List.setIfInBounds_toArray,List.set_cons_zero,List.set_cons_succ])
  |(refine opn 7 fun K hK => ?_
    refine step_append_own (by rfl) _ _ 74 (by rfl) B 43 i0 _ 6 80 Tryz.underlying74 hi0 hz0 hz1 hz2 rfl (by decide) (.slice oa s.us.length oc) s.us.length (s.us.flatMap renc) (by rfl) (by rw [← HOV.out]; exact Hd.pt.rv) ⟨wd.heap.size,0,none⟩ 1 1 [.int .i64 r.kd,.int .i64 s.c.tk.kd,.int .u16 r.ha,.slice a L c,.slice fa N fc,.int .i64 r.co] (by rfl) (by rfl) hnews (by simp [Value.oneCell']) (by unfold maxLen; omega) (by omega) (by have := hBd.size; omega) ?_
    intro v6 w6 hown6 hg6 hor6
    rw [← HOV.out] at hg6 hor6
    have HAPP := Lib.hid (fun W' (e : World.setCell w6 ⟨X,28,none⟩ v6 = W') => e ▸ (Hd.app_res (q := ({ r with tk := s.c.tk.kd },.slice a L c,.slice fa N fc)) hg6 hown6 hor6 ⟨hP,hF⟩))
    have bR := bR.kept hg6 (fun e => by have := hovl _ e.symm; omega)
    have m28 : w6.cell? ⟨X,28,none⟩ = some s.rv := (World.cell?_of_block (a := ⟨X,28,none⟩) (hg6.block X Hd.blk.lt (fun e => Hd.ne.2.2 e.symm))).trans (MF.out _ Hd)
    have z28 : w6.frozen? ⟨X,28,none⟩ = false := (Hd.blk.kept hg6 (fun e => Hd.ne.2.2 e.symm)).frozen 28
    rw [HOV.out] at m28
    obtain ⟨oa6,oc6,rfl⟩ := own_form hown6
    have TB := bR.cells
    clear hP hF hnews hown6 hg6 hor6 Hd
    refine hK.out _ _ (TB) (fun h => ?_)
    replace hHeld := h
    clear hK K h
    try simp only [Act.put,List.setIfInBounds_toArray,List.set_cons_zero,List.set_cons_succ])
  |(refine opn 10 fun K hK => ?_
    go_simp
    generalize hX : World.setCell w6 _ _ = w7
    obtain ⟨H7,hl7⟩ := HAPP.out w7 hX
    have bR := hX ▸ bR.other (o := 28) (by omega) (.slice oa6 (s.us.length + 1) oc6)
    have TB := bR.cells
    clear HAPP m28 z28 hX
    refine hK.out _ _ (TB) (fun h => ?_)
    replace hHeld := h
    clear hK K h
    try simp only [Act.put,List.setIfInBounds_toArray,List.set_cons_zero,List.set_cons_succ])
  |refine rd2 4 6 ?_ ?_
  |refine rd1 6 ?_
  |refine rd1 7 ?_
  |refine rd1 10 ?_
  |refine rd1 4 ?_
  |(refine wpAnyH_done (by kernel_rfl) ?_ _
    go_wp2_with fail
    refine bodyPost_end (results_none rfl _ _ _) rfl ⟨rfl,_,H7,?_,hBd.trans hl7⟩
    simp [Sv.sp,Sp.report])
/-- what the table yields -/
theorem stT_form (k : Int) (b2 b9 : Nat) : ∃ c0 c1 c2 : Value,((stT b2 b9).lookup k).getD stZ = .agg #[c0,c1,c2] ∧ c0.oneCell' = true ∧ c1.oneCell' = true ∧ c2.oneCell' = true := by
 cases h : (stT b2 b9).lookup k with
 |none => exact ⟨.nilFunc,.nilFunc,.nilFunc,rfl,rfl,rfl,rfl⟩
 |some v =>
  have hm : ∀ (l : List (Int × Value)),(∀ q ∈ l,∃ c0 c1 c2 : Value,q.2 = .agg #[c0,c1,c2] ∧ c0.oneCell' = true ∧ c1.oneCell' = true ∧ c2.oneCell' = true) → l.lookup k = some v → ∃ c0 c1 c2 : Value,v = .agg #[c0,c1,c2] ∧ c0.oneCell' = true ∧ c1.oneCell' = true ∧ c2.oneCell' = true := by
   intro l
   induction l with
   |nil => intro _ h; cases h
   |cons q l ih =>
    intro hq h
    rw [List.lookup_cons] at h
    split at h
    ·injection h with h
     rw [← h]
     exact hq q (by simp)
    ·exact ih (fun q hm => hq q (by simp [hm])) h
  refine hm _ (fun q hq => ?_) h
  simp only [stT,List.mem_cons,List.not_mem_nil,or_false] at hq
  rcases hq with rfl | rfl | rfl | rfl | rfl | rfl | rfl | rfl | rfl <;> exact ⟨_,_,_,rfl,rfl,rfl,rfl⟩
theorem stT_other (k : Int) (b2 b9 : Nat) (h : ¬ (1 ≤ k ∧ k ≤ 9)) : (stT b2 b9).lookup k = none := by
 simp only [stT,List.lookup_cons,List.lookup_nil]
 have e : ∀ j : Int,1 ≤ j ∧ j ≤ 9 → (k == j) = false := fun j hj => by simp; omega
 rw [e 1 (by omega),e 2 (by omega),e 3 (by omega),e 4 (by omega),e 5 (by omega),e 6 (by omega),e 7 (by omega),e 8 (by omega),e 9 (by omega)]
theorem kinds9 (k : Int) : k = 1 ∨ k = 2 ∨ k = 3 ∨ k = 4 ∨ k = 5 ∨ k = 6 ∨ k = 7 ∨ k = 8 ∨ k = 9 ∨ ¬ (1 ≤ k ∧ k ≤ 9) := by omega
/-- the numbers of the two searches -/
structure St4 (w : World) (b2 b9 : Nat) : Prop where
 k2 : w.cell? ⟨b2,0,none⟩ = some (.int .i64 16)
 n2 : w.cell? ⟨b2 + 1,0,none⟩ = some (.int .u16 10240)
 k9 : w.cell? ⟨b9,0,none⟩ = some (.int .i64 8)
 n9 : w.cell? ⟨b9 + 1,0,none⟩ = some (.int .u16 11050)
theorem StAt.four {w : World} {B b2 b9 : Nat} (h : StAt w B b2 b9) : St4 w b2 b9 := ⟨h.k2,h.n2,h.k9,h.n9⟩
theorem St4.below {w w' : World} {b2 b9 : Nat} (h : St4 w b2 b9) (hb : Below w.heap.size w w') : St4 w' b2 b9 := ⟨kc h.k2 hb,kc h.n2 hb,kc h.k9 hb,kc h.n9 hb⟩
theorem St4.lts {w : World} {b2 b9 : Nat} (h : St4 w b2 b9) : b2 + 1 < w.heap.size ∧ b9 + 1 < w.heap.size := ⟨World.block_lt_of_cell? w _ h.n2,World.block_lt_of_cell? w _ h.n9⟩
theorem St4.grown {w w' : World} {b2 b9 b : Nat} (h : St4 w b2 b9) (hg : w.grownBy w' (some b)) (hne : b ≠ b2 ∧ b ≠ b2 + 1 ∧ b ≠ b9 ∧ b ≠ b9 + 1) : St4 w' b2 b9 := by
 have hl := h.lts
 have g : ∀ (x : Nat) (v : Value),x < w.heap.size → b ≠ x → w.cell? ⟨x,0,none⟩ = some v → w'.cell? ⟨x,0,none⟩ = some v := fun x v h1 h2 h3 => (World.cell?_of_block (a := ⟨x,0,none⟩) (hg.block x h1 (fun e => h2 (by injection e with e; exact e.symm)))).trans h3
 exact ⟨g b2 _ (by omega) hne.1 h.k2,g (b2 + 1) _ (by omega) hne.2.1 h.n2,g b9 _ (by omega) hne.2.2.1 h.k9,g (b9 + 1) _ (by omega) hne.2.2.2 h.n9⟩
theorem Blk.put3 {w w' : World} {b : Nat} {t : TypeId} {x0 x1 x2 y0 y1 y2 : Value} (h : Blk w b t [x0,x1,x2]) (hX : w.setCells b 0 [y0,y1,y2] = w') : Blk w' b t [y0,y1,y2] ∧ w.grownBy w' (some b) := by
 subst hX
 have h1 := h.setCells (vs := [y0,y1,y2]) (o := 0)
 simp only [over,List.set_cons_zero,List.set_cons_succ,Nat.reduceAdd] at h1
 exact ⟨h1,setCells_grown _ _ _ _⟩
/-- a task that may begin -/
structure TkOk (t : Tk) : Prop where
 of : t.of = 0
 fo : t.fo = []
 len : t.vs.length ≤ 1000000
 kd : (Lit.int .i64 t.kd).wf = true
theorem SR.nil (w : World) (size : Nat) : SR w (.slice none 0 0) 0 size [] := ⟨Nat.zero_le _,by simp,by simp,none,0,rfl,fun _ => ⟨rfl,rfl⟩,fun h => absurd h (by simp)⟩
theorem begin_any (t : Tk) (bv : Value) (w : World) (B X : Nat) (s : Sv) (h : Sq w B X s) (hp : BD w (s.rw X) bv t.vs) (hT : TkOk t) (hps : s.ps.length ≤ 1000) :
 Calls Tryz.prog 33 #[.pointer (some ⟨X,0,none⟩),.agg #[.int .i64 t.kd,.int .u16 t.fi,.int .u16 t.la,.int .u16 t.ha,bv,.int .i64 t.of,.slice none 0 0,.bool t.bad]] w fun e w' => e = .returned (.tuple #[]) ∧ ∃ s',Sq w' B X s' ∧ s'.sp = s.sp.begin t ∧ Below B w w' := by
 obtain ⟨a,c,rfl⟩ := hp.1.form
 obtain ⟨L,hL⟩ : ∃ L,t.vs.length = L := ⟨_,rfl⟩
 rw [hL] at hp ⊢
 have hXw := h.blk.lt
 have hBX := h.own
 have HKD := Lib.hid hT.kd
 have HM := Lib.hid hT.len
 have HOF := Lib.hid hT.of
 have bT0 := Blk.new w 46 [.int .i64 t.kd,.int .u16 t.fi,.int .u16 t.la,.int .u16 t.ha,.slice a L c,.int .i64 t.of,.slice none 0 0,.bool t.bad]
 have hB0 : Below w.heap.size w (w.alloc (.cells #[.int .i64 t.kd,.int .u16 t.fi,.int .u16 t.la,.int .u16 t.ha,.slice a L c,.int .i64 t.of,.slice none 0 0,.bool t.bad] 46)) := (Below.refl _ _).alloc (Nat.le_refl _) _
 have H0 := h.below hB0
 have hP0 := hp.below hB0
 go_enter Tryz.func33,Tryz.ntmps33
 go_upto_region 1 with fail
 generalize hV : World.alloc w _ = V at bT0 hB0 H0 hP0 ⊢
 clear hV
 have hth := H0.blk.there 2 8 (by simp [Sv.cells])
 have TB := bT0.cells
 have hOpen := TB
 simp only [Cells,blk,List.cons_append,List.nil_append,and_true,Nat.reduceAdd,Nat.add_zero,Nat.zero_add] at hOpen
 obtain ⟨m0,m1,m2,m3,m4,m5,m6,m7⟩ := hOpen
 go_upto_region 2 with (refine wpList_store_mid rfl 46 _ _ rfl X 2 #[.int .i64 t.kd,.int .u16 t.fi,.int .u16 t.la,.int .u16 t.ha,.slice a L c,.int .i64 t.of,.slice none 0 0,.bool t.bad] rfl rfl hth (by kernel_rfl) (by simp [Value.oneCell']) ?_)
 clear m0 m1 m2 m3 m4 m5 m6 m7 TB hth
 have H1 := H0.put_tk t hP0 hT.fo
 generalize hW : World.setCells V X 2 _ = wA
 have e1 : V.setCells X 2 (tkc t (.slice a L c) (.slice none 0 0)) = wA := hW
 have bT1 := bT0.kept (setCells_grown X (tkc t (.slice a L c) (.slice none 0 0)) 2 V) (fun e => by injection e with e; omega)
 rw [e1] at H1 bT1
 clear hW e1
 obtain ⟨H1,hl1⟩ := H1
 have hlow : Below B w wA := (hB0.mono (by omega)).trans hl1
 obtain ⟨s1,hs1⟩ : ∃ s1 : Sv,{ s with c := { s.c with tk := t },bv := .slice a L c,fv := .slice none 0 0 } = s1 := ⟨_,rfl⟩
 have H1 : Sq wA B X s1 := by rw [← hs1]; exact H1
 have hbv1 : BV wA (.slice a L c) t.vs := by have h := H1.pt.bv.1; rw [← hs1] at h; exact h
 have hp1 : s1.ps.length ≤ 1000 := by rw [← hs1]; exact hps
 have HS := Lib.hid hs1
 have HL := Lib.hid hL
 clear hs1 h hp hT H0 hP0 bT0 hB0 hl1 hps hL
 try simp only [Act.put]
 go_cut [4,5] (fun v4 v5 wx => ∃ (bs : Nat) (c0 c1 c2 : Value) (ok : Bool) (b2 b9 : Nat),v4 = .pointer (some ⟨bs,0,none⟩) ∧ v5 = .bool ok ∧ ok = ((stT b2 b9).lookup t.kd).isSome ∧ ((stT b2 b9).lookup t.kd).getD stZ = .agg #[c0,c1,c2] ∧ Blk wx bs 98 [c0,c1,c2] ∧ St4 wx b2 b9 ∧ Below wA.heap.size wA wx)
 case first =>
  have BX := bT1.cells
  have TB := BX.drew
  have hBA : Below wA.heap.size wA wA.drew := (Below.refl _ _).drew
  clear H1 hbv1 bT1
  refine wp_region_held_drew (S := (fun W' : World => Cells W' (blk w.heap.size 0 0 [.int .i64 t.kd,.int .u16 t.fi,.int .u16 t.la,.int .u16 t.ha,.slice a L c,.int .i64 t.of,.slice none 0 0,.bool t.bad]))) (by kernel_rfl) (TB) (fun hHeld => ?_)
  generalize World.drew _ = wd at hHeld TB hBA ⊢
  repeat' first
   |refine tkU 1 ?_
   |refine tkU 2 ?_
   |refine tkU 4 ?_
   |refine tkU 5 ?_
   |refine tkU 6 ?_
   |refine tkU 9 ?_
   |(refine opn 0 fun K hK => ?_
     go_simp
     go_at_call 32
     refine (steps_any _).mono ?_
     rintro e w2 ⟨Bm,b2,b9,rfl,hst,hBm,hB2,hg2,hg9⟩
     obtain ⟨c0,c1,c2,hlk,o0,o1,o2⟩ := stT_form t.kd b2 b9
     have hlook := hst.map.look t.kd HKD.out
     rw [hlk] at hlook
     have h4 := hst.four
     have hlt4 := h4.lts
     have hBA := hBA.trans (hB2.mono (by have := hBA.size; omega))
     have TB : Cells _ (blk w.heap.size 0 0 [.int .i64 t.kd,.int .u16 t.fi,.int .u16 t.la,.int .u16 t.ha,.slice a L c,.int .i64 t.of,.slice none 0 0,.bool t.bad]) := BX.keep hBA
     try have bSl := bS.lt
     try have bS := bS.below hB2
     clear hBm hB2
     refine hK.out _ _ (TB) (fun h => ?_)
     replace hHeld := h
     clear hK K h
     try simp only [Act.put,List.setIfInBounds_toArray,List.set_cons_zero,List.set_cons_succ])
   |(refine opn 3 fun K hK => ?_
     go_simp
     clear hlook
     refine hK.out _ _ (hHeld) (fun h => ?_)
     replace hHeld := h
     clear hK K h
     try simp only [Act.put,List.setIfInBounds_toArray,List.set_cons_zero,List.set_cons_succ])
   |(refine opn 7 fun K hK => ?_
     go_simp
     generalize hX : World.alloc _ (.cells _ 98) = w5
     obtain ⟨bS,hB5,hz5⟩ := alloc_named hX
     have bS : Blk w5 _ 98 [.nilFunc,.nilFunc,.nilFunc] := bS
     have hbA := hBA.size
     have hBA := hBA.trans (hB5.mono (by have := hBA.size; omega))
     have TB : Cells _ (blk w.heap.size 0 0 [.int .i64 t.kd,.int .u16 t.fi,.int .u16 t.la,.int .u16 t.ha,.slice a L c,.int .i64 t.of,.slice none 0 0,.bool t.bad]) := BX.keep hBA
     have hz5 := Nat.le_of_eq hz5.symm
     try have hst := hst.below hB5
     try have h4 := h4.below hB5
     try have hlook := hst.map.look t.kd HKD.out
     try rw [hlk] at hlook
     clear hX hB5
     refine hK.out _ _ (TB) (fun h => ?_)
     replace hHeld := h
     clear hK K h
     try simp only [Act.put,List.setIfInBounds_toArray,List.set_cons_zero,List.set_cons_succ])
   |(refine opn 8 fun K hK => ?_
     refine step_store_mid (by rfl) 98 _ _ (by rfl) _ 0 #[c0,c1,c2] (by rfl) (by rfl) (bS.there 0 3 (by simp)) (by kernel_rfl) (by simp [o0,o1,o2]) ?_
     generalize hX : World.setCells _ _ 0 _ = w6
     obtain ⟨bS2,hgS⟩ := bS.put3 hX
     have h4 := h4.grown hgS (by omega)
     have hBA := hBA.grown hgS hBA.size (fun k hk => by cases hk; omega)
     have TB : Cells _ (blk w.heap.size 0 0 [.int .i64 t.kd,.int .u16 t.fi,.int .u16 t.la,.int .u16 t.ha,.slice a L c,.int .i64 t.of,.slice none 0 0,.bool t.bad]) := BX.keep hBA
     clear hX hgS bS
     refine hK.out _ _ (TB) (fun h => ?_)
     replace hHeld := h
     clear hK K h
     try simp only [Act.put,List.setIfInBounds_toArray,List.set_cons_zero,List.set_cons_succ])
   |refine rd2 0 7 ?_ ?_
   |refine rd2 3 7 ?_ ?_
   |refine rd1 7 ?_
   |refine rd1 8 ?_
   |refine rd1 3 ?_
   |refine rd1 0 ?_
   |(refine wpAnyH_done (by kernel_rfl) ?_ _
     go_wp2_with fail
     go_meet
     exact ⟨_,c0,c1,c2,_,b2,b9,rfl,rfl,rfl,hlk,bS2,h4,hBA⟩)
 case rest =>
  obtain ⟨bs,c0,c1,c2,ok,b2,b9,rfl,rfl,hokv,hlk,bS,h4,hBA⟩ := hcut
  have H := H1.below hBA
  have hbv := hbv1.below hBA
  have bT := bT1.below hBA
  have hBw := hlow.trans (hBA.mono (by have := H1.blk.lt; omega))
  have TB := bT.cells
  have hOpen := TB
  simp only [Cells,blk,List.cons_append,List.nil_append,and_true,Nat.reduceAdd,Nat.add_zero,Nat.zero_add] at hOpen
  obtain ⟨m0,m1,m2,m3,m4,m5,m6,m7⟩ := hOpen
  have s2 := bS.cell (j := 2) (v := c2) rfl
  clear TB H1 hbv1 bT1 hBA hlow
  rcases kinds9 t.kd with hk | hk | hk | hk | hk | hk | hk | hk | hk | hk
  · -- 1
   have e0 : (Value.agg #[c0,c1,c2]) = ((stT b2 b9).lookup 1).getD stZ := by rw [← hlk,hk]
   simp only [stT,List.lookup,Option.getD,Int.reduceBEq] at e0
   injection e0 with e0
   injection e0 with e0
   injection e0 with e0 e1
   injection e1 with e1 e2
   injection e2 with e2 _
   unfold fnV at e2
   rw [e2] at s2
   have hok : ok = true := by rw [hokv,hk]; rfl
   subst hok
   have HK := Lib.hid hk
   clear e0 e1 e2 hlk hokv hk
   go_wp2_with fail
   refine (mtu_any X s1.c.mx t.kd t.fi t.la t.ha (.slice a L c) t.of (.slice none 0 0) t.bad _ (H.blk.cell (j := 1) rfl)).mono ?_
   rintro e w5 ⟨rfl,hB5⟩
   have H5 := H.below hB5
   have hl5 := hBw.trans (hB5.mono (by have := hBw.size; omega))
   clear m0 m1 m2 m3 m4 m5 m6 m7 s2
   go_wp2_with fail
   refine (send_any ⟨2,0,0,0,0,0,0,s1.c.mx,0,false,[]⟩ (.slice none 0 0) (.slice none 0 0) _ B X s1 H5 (BD.nil _ _) (SR.nil _ _) (by simp) hp1).mono ?_
   rintro e w6 ⟨rfl,s',H6,hsp,hl6⟩
   go_wp2_with fail
   refine bodyPost_end (results_none rfl _ _ _) rfl ⟨rfl,s',H6,?_,hl5.trans hl6⟩
   rw [hsp,← HS.out]
   simp [Sp.begin,firstP,HK.out,Sv.sp,pd0,pieceP,roomN]
  · -- 2
   have e0 : (Value.agg #[c0,c1,c2]) = ((stT b2 b9).lookup 2).getD stZ := by rw [← hlk,hk]
   simp only [stT,List.lookup,Option.getD,Int.reduceBEq] at e0
   injection e0 with e0
   injection e0 with e0
   injection e0 with e0 e1
   injection e1 with e1 e2
   injection e2 with e2 _
   unfold whV at e2
   rw [e2] at s2
   have hok : ok = true := by rw [hokv,hk]; rfl
   subst hok
   have HK := Lib.hid hk
   clear e0 e1 e2 hlk hokv hk
   go_wp2_with fail
   refine (whole1_any _ t.kd t.fi t.la t.ha (.slice a L c) t.of (.slice none 0 0) t.bad b2 (b2 + 1) 16 10240 (by omega) _ h4.k2 h4.n2).mono ?_
   rintro e w5 ⟨rfl,hB5⟩
   have H5 := H.below hB5
   have hl5 := hBw.trans (hB5.mono (by have := hBw.size; omega))
   clear m0 m1 m2 m3 m4 m5 m6 m7 s2
   go_wp2_with fail
   refine (send_any ⟨16,0,1,65535,43980465115136,9223372588214596859,0,0,0,false,[]⟩ (.slice none 0 0) (.slice none 0 0) _ B X s1 H5 (BD.nil _ _) (SR.nil _ _) (by simp) hp1).mono ?_
   rintro e w6 ⟨rfl,s',H6,hsp,hl6⟩
   go_wp2_with fail
   refine bodyPost_end (results_none rfl _ _ _) rfl ⟨rfl,s',H6,?_,hl5.trans hl6⟩
   rw [hsp,← HS.out]
   simp [Sp.begin,firstP,HK.out,Sv.sp,pd0,pieceP,roomN]
  · -- 3
   have e0 : (Value.agg #[c0,c1,c2]) = ((stT b2 b9).lookup 3).getD stZ := by rw [← hlk,hk]
   simp only [stT,List.lookup,Option.getD,Int.reduceBEq] at e0
   injection e0 with e0
   injection e0 with e0
   injection e0 with e0 e1
   injection e1 with e1 e2
   injection e2 with e2 _
   unfold fnV at e2
   rw [e2] at s2
   have hok : ok = true := by rw [hokv,hk]; rfl
   subst hok
   have HK := Lib.hid hk
   clear e0 e1 e2 hlk hokv hk
   go_wp2_with fail
   refine (chars_any _ t.kd t.fi t.la t.ha (.slice a L c) t.of (.slice none 0 0) t.bad _).mono ?_
   rintro e w5 ⟨rfl,hB5⟩
   have H5 := H.below hB5
   have hl5 := hBw.trans (hB5.mono (by have := hBw.size; omega))
   clear m0 m1 m2 m3 m4 m5 m6 m7 s2
   go_wp2_with fail
   refine (send_any ⟨8,0,t.fi,t.la,43993350017024,9223372588214596859,0,0,0,false,[]⟩ (.slice none 0 0) (.slice none 0 0) _ B X s1 H5 (BD.nil _ _) (SR.nil _ _) (by simp) hp1).mono ?_
   rintro e w6 ⟨rfl,s',H6,hsp,hl6⟩
   go_wp2_with fail
   refine bodyPost_end (results_none rfl _ _ _) rfl ⟨rfl,s',H6,?_,hl5.trans hl6⟩
   rw [hsp,← HS.out]
   simp [Sp.begin,firstP,HK.out,Sv.sp,pd0,pieceP,roomN]
  · -- 4
   have e0 : (Value.agg #[c0,c1,c2]) = ((stT b2 b9).lookup 4).getD stZ := by rw [← hlk,hk]
   simp only [stT,List.lookup,Option.getD,Int.reduceBEq] at e0
   injection e0 with e0
   injection e0 with e0
   injection e0 with e0 e1
   injection e1 with e1 e2
   injection e2 with e2 _
   unfold fnV at e2
   rw [e2] at s2
   have hok : ok = true := by rw [hokv,hk]; rfl
   subst hok
   have HK := Lib.hid hk
   clear e0 e1 e2 hlk hokv hk
   go_wp2_with fail
   refine (descs_any _ t.kd t.fi t.la t.ha (.slice a L c) t.of (.slice none 0 0) t.bad _).mono ?_
   rintro e w5 ⟨rfl,hB5⟩
   have H5 := H.below hB5
   have hl5 := hBw.trans (hB5.mono (by have := hBw.size; omega))
   clear m0 m1 m2 m3 m4 m5 m6 m7 s2
   go_wp2_with fail
   refine (send_any ⟨4,0,t.fi,t.la,0,0,0,0,0,false,[]⟩ (.slice none 0 0) (.slice none 0 0) _ B X s1 H5 (BD.nil _ _) (SR.nil _ _) (by simp) hp1).mono ?_
   rintro e w6 ⟨rfl,s',H6,hsp,hl6⟩
   go_wp2_with fail
   refine bodyPost_end (results_none rfl _ _ _) rfl ⟨rfl,s',H6,?_,hl5.trans hl6⟩
   rw [hsp,← HS.out]
   simp [Sp.begin,firstP,HK.out,Sv.sp,pd0,pieceP,roomN]
  · -- 5
   have e0 : (Value.agg #[c0,c1,c2]) = ((stT b2 b9).lookup 5).getD stZ := by rw [← hlk,hk]
   simp only [stT,List.lookup,Option.getD,Int.reduceBEq] at e0
   injection e0 with e0
   injection e0 with e0
   injection e0 with e0 e1
   injection e1 with e1 e2
   injection e2 with e2 _
   unfold fnV at e2
   rw [e2] at s2
   have hok : ok = true := by rw [hokv,hk]; rfl
   subst hok
   have HK := Lib.hid hk
   clear e0 e1 e2 hlk hokv hk
   go_wp2_with fail
   refine (reading_any _ t.kd t.fi t.la t.ha (.slice a L c) t.of (.slice none 0 0) t.bad _).mono ?_
   rintro e w5 ⟨rfl,hB5⟩
   have H5 := H.below hB5
   have hl5 := hBw.trans (hB5.mono (by have := hBw.size; omega))
   clear m0 m1 m2 m3 m4 m5 m6 m7 s2
   go_wp2_with fail
   refine (send_any ⟨10,0,t.ha,0,0,0,0,0,0,false,[]⟩ (.slice none 0 0) (.slice none 0 0) _ B X s1 H5 (BD.nil _ _) (SR.nil _ _) (by simp) hp1).mono ?_
   rintro e w6 ⟨rfl,s',H6,hsp,hl6⟩
   go_wp2_with fail
   refine bodyPost_end (results_none rfl _ _ _) rfl ⟨rfl,s',H6,?_,hl5.trans hl6⟩
   rw [hsp,← HS.out]
   simp [Sp.begin,firstP,HK.out,Sv.sp,pd0,pieceP,roomN]
  · -- 6
   have e0 : (Value.agg #[c0,c1,c2]) = ((stT b2 b9).lookup 6).getD stZ := by rw [← hlk,hk]
   simp only [stT,List.lookup,Option.getD,Int.reduceBEq] at e0
   injection e0 with e0
   injection e0 with e0
   injection e0 with e0 e1
   injection e1 with e1 e2
   injection e2 with e2 _
   unfold fnV at e2
   rw [e2] at s2
   have hok : ok = true := by rw [hokv,hk]; rfl
   subst hok
   have HK := Lib.hid hk
   clear e0 e1 e2 hlk hokv hk
   go_wp2_with fail
   refine (reading_any _ t.kd t.fi t.la t.ha (.slice a L c) t.of (.slice none 0 0) t.bad _).mono ?_
   rintro e w5 ⟨rfl,hB5⟩
   have H5 := H.below hB5
   have hl5 := hBw.trans (hB5.mono (by have := hBw.size; omega))
   clear m0 m1 m2 m3 m4 m5 m6 m7 s2
   go_wp2_with fail
   refine (send_any ⟨10,0,t.ha,0,0,0,0,0,0,false,[]⟩ (.slice none 0 0) (.slice none 0 0) _ B X s1 H5 (BD.nil _ _) (SR.nil _ _) (by simp) hp1).mono ?_
   rintro e w6 ⟨rfl,s',H6,hsp,hl6⟩
   go_wp2_with fail
   refine bodyPost_end (results_none rfl _ _ _) rfl ⟨rfl,s',H6,?_,hl5.trans hl6⟩
   rw [hsp,← HS.out]
   simp [Sp.begin,firstP,HK.out,Sv.sp,pd0,pieceP,roomN]
  ·by_cases hR : (t.vs.length : Int) ≤ roomI 18 s1.c.mt
   · -- 7, short
    have hR' : (t.vs.length : Int) ≤ roomI 18 s.c.mt := by rw [← HS.out] at hR; exact hR
    have e0 : (Value.agg #[c0,c1,c2]) = ((stT b2 b9).lookup 7).getD stZ := by rw [← hlk,hk]
    simp only [stT,List.lookup,Option.getD,Int.reduceBEq] at e0
    injection e0 with e0
    injection e0 with e0
    injection e0 with e0 e1
    injection e1 with e1 e2
    injection e2 with e2 _
    unfold fnV at e2
    rw [e2] at s2
    have hok : ok = true := by rw [hokv,hk]; rfl
    subst hok
    have HK := Lib.hid hk
    clear e0 e1 e2 hlk hokv hk
    go_wp2_with fail
    rw [HOF.out]
    refine (writing_short X s1.c.mt t.kd t.fi t.la t.ha (.slice a L c) (.slice none 0 0) t.bad t.vs _ (H.blk.cell (j := 0) rfl) hbv HM.out hR).mono ?_
    rintro e w5 ⟨vv,rfl,hvv,hov,hB5⟩
    have H5 := H.below hB5
    have hl5 := hBw.trans (hB5.mono (by have := hBw.size; omega))
    clear m0 m1 m2 m3 m4 m5 m6 m7 s2
    go_wp2_with fail
    refine (send_any ⟨18,0,t.ha,0,0,0,0,0,0,false,t.vs⟩ (vv) (.slice none 0 0) _ B X s1 H5 (BD.new hvv hov H.lts) (SR.nil _ _) (HM.out) hp1).mono ?_
    rintro e w6 ⟨rfl,s',H6,hsp,hl6⟩
    go_wp2_with fail
    refine bodyPost_end (results_none rfl _ _ _) rfl ⟨rfl,s',H6,?_,hl5.trans hl6⟩
    rw [hsp,← HS.out]
    simp [Sp.begin,firstP,HK.out,Sv.sp,pd0,pieceP,roomN,hR']
   · -- 7, long
    have hR := Int.lt_of_not_ge hR
    have hR' : ¬ (t.vs.length : Int) ≤ roomI 18 s.c.mt := by rw [← HS.out] at hR; have : s.c.mt = s.c.mt := rfl; exact Int.not_le.2 hR
    have e0 : (Value.agg #[c0,c1,c2]) = ((stT b2 b9).lookup 7).getD stZ := by rw [← hlk,hk]
    simp only [stT,List.lookup,Option.getD,Int.reduceBEq] at e0
    injection e0 with e0
    injection e0 with e0
    injection e0 with e0 e1
    injection e1 with e1 e2
    injection e2 with e2 _
    unfold fnV at e2
    rw [e2] at s2
    have hok : ok = true := by rw [hokv,hk]; rfl
    subst hok
    have HK := Lib.hid hk
    clear e0 e1 e2 hlk hokv hk
    go_wp2_with fail
    rw [HOF.out]
    refine (writing_long X s1.c.mt t.kd t.fi t.la t.ha (.slice a L c) (.slice none 0 0) t.bad t.vs _ (H.blk.cell (j := 0) rfl) hbv HM.out hR).mono ?_
    rintro e w5 ⟨vv,rfl,hvv,hov,hB5⟩
    have H5 := H.below hB5
    have hl5 := hBw.trans (hB5.mono (by have := hBw.size; omega))
    clear m0 m1 m2 m3 m4 m5 m6 m7 s2
    go_wp2_with fail
    refine (send_any ⟨22,0,t.ha,0,0,0,0,0,0,false,(t.vs.take (roomI 22 s1.c.mt).toNat)⟩ (vv) (.slice none 0 0) _ B X s1 H5 (BD.new hvv hov H.lts) (SR.nil _ _) (by have := HM.out; rw [List.length_take]; omega) hp1).mono ?_
    rintro e w6 ⟨rfl,s',H6,hsp,hl6⟩
    go_wp2_with fail
    refine bodyPost_end (results_none rfl _ _ _) rfl ⟨rfl,s',H6,?_,hl5.trans hl6⟩
    rw [hsp,← HS.out]
    simp [Sp.begin,firstP,HK.out,Sv.sp,pd0,pieceP,roomN,HOF.out]
    rw [if_neg (Int.not_le.2 hR')]
  · -- 8
   have e0 : (Value.agg #[c0,c1,c2]) = ((stT b2 b9).lookup 8).getD stZ := by rw [← hlk,hk]
   simp only [stT,List.lookup,Option.getD,Int.reduceBEq] at e0
   injection e0 with e0
   injection e0 with e0
   injection e0 with e0 e1
   injection e1 with e1 e2
   injection e2 with e2 _
   unfold fnV at e2
   rw [e2] at s2
   have hok : ok = true := by rw [hokv,hk]; rfl
   subst hok
   have HK := Lib.hid hk
   clear e0 e1 e2 hlk hokv hk
   go_wp2_with fail
   rw [HOF.out]
   refine (piece0_any X s1.c.mt t.kd t.fi t.la t.ha (.slice a L c) (.slice none 0 0) t.bad t.vs _ (H.blk.cell (j := 0) rfl) hbv HM.out).mono ?_
   rintro e w5 ⟨vv,rfl,hvv,hov,hB5⟩
   have H5 := H.below hB5
   have hl5 := hBw.trans (hB5.mono (by have := hBw.size; omega))
   clear m0 m1 m2 m3 m4 m5 m6 m7 s2
   go_wp2_with fail
   refine (send_any ⟨22,0,t.ha,0,0,0,0,0,0,false,(t.vs.take (roomI 22 s1.c.mt).toNat)⟩ (vv) (.slice none 0 0) _ B X s1 H5 (BD.new hvv hov H.lts) (SR.nil _ _) (by have := HM.out; rw [List.length_take]; omega) hp1).mono ?_
   rintro e w6 ⟨rfl,s',H6,hsp,hl6⟩
   go_wp2_with fail
   refine bodyPost_end (results_none rfl _ _ _) rfl ⟨rfl,s',H6,?_,hl5.trans hl6⟩
   rw [hsp,← HS.out]
   simp [Sp.begin,firstP,HK.out,Sv.sp,pd0,pieceP,roomN,HOF.out]
  · -- 9
   have e0 : (Value.agg #[c0,c1,c2]) = ((stT b2 b9).lookup 9).getD stZ := by rw [← hlk,hk]
   simp only [stT,List.lookup,Option.getD,Int.reduceBEq] at e0
   injection e0 with e0
   injection e0 with e0
   injection e0 with e0 e1
   injection e1 with e1 e2
   injection e2 with e2 _
   unfold whV at e2
   rw [e2] at s2
   have hok : ok = true := by rw [hokv,hk]; rfl
   subst hok
   have HK := Lib.hid hk
   clear e0 e1 e2 hlk hokv hk
   go_wp2_with fail
   refine (whole1_any _ t.kd t.fi t.la t.ha (.slice a L c) t.of (.slice none 0 0) t.bad b9 (b9 + 1) 8 11050 (by omega) _ h4.k9 h4.n9).mono ?_
   rintro e w5 ⟨rfl,hB5⟩
   have H5 := H.below hB5
   have hl5 := hBw.trans (hB5.mono (by have := hBw.size; omega))
   clear m0 m1 m2 m3 m4 m5 m6 m7 s2
   go_wp2_with fail
   refine (send_any ⟨8,0,1,65535,47459388624896,9223372588214596859,0,0,0,false,[]⟩ (.slice none 0 0) (.slice none 0 0) _ B X s1 H5 (BD.nil _ _) (SR.nil _ _) (by simp) hp1).mono ?_
   rintro e w6 ⟨rfl,s',H6,hsp,hl6⟩
   go_wp2_with fail
   refine bodyPost_end (results_none rfl _ _ _) rfl ⟨rfl,s',H6,?_,hl5.trans hl6⟩
   rw [hsp,← HS.out]
   simp [Sp.begin,firstP,HK.out,Sv.sp,pd0,pieceP,roomN]
  · -- none
   have hok : ok = false := by rw [hokv,stT_other _ _ _ hk]; rfl
   subst hok
   go_wp2_with fail
   refine bodyPost_end (results_none rfl _ _ _) rfl ⟨rfl,s1,H,?_,hBw⟩
   rw [← HS.out]
   have e : ∀ j : Int,1 ≤ j ∧ j ≤ 9 → ¬ t.kd = j := fun j hj => by omega
   simp [Sp.begin,firstP,Sv.sp,e]
end Go.Proofs.YtldcihjddebciaaGreat
