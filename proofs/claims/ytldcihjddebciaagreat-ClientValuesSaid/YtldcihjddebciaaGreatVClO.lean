/- client: send, report. -/
import Derived.Test.YtldcihjddebciaaGreatVClN
set_option linter.unusedSimpArgs false
set_option linter.unusedVariables false
set_option maxRecDepth 100000
set_option maxHeartbeats 4000000
namespace Go.Proofs.YtldcihjddebciaaGreat
open Go.RowKit
theorem send_any (p : Pd) (bv iv : Value) (w : World) (B X : Nat) (s : Sv) (h : Sq w B X s) (hp : BD w (s.rw X) bv p.vs) (hi : SR w iv 0 5 []) (hm : p.vs.length ≤ 1000000) (hps : s.ps.length ≤ 1000) :
 Calls Tryz.prog 75 #[.pointer (some ⟨X,0,none⟩),.agg #[.int .i64 p.kd,.int .i64 p.ask,.int .u16 p.ha,.int .u16 p.la,.int .u64 p.hi,.int .u64 p.lo,.int .i64 p.of,.int .i64 p.mt,.int .i64 p.co,.bool p.cm,bv,iv]] w fun e w' => e = .returned (.tuple #[]) ∧ ∃ s',Sq w' B X s' ∧ s'.sp = s.sp.send p ∧ Below B w w' := by
 obtain ⟨i0,hi0,hz0,hz1,hz2⟩ := info_parts Tryz.info_AttPDU
 obtain ⟨a,c,rfl⟩ := hp.1.form
 obtain ⟨ia,ic,rfl⟩ := hi.form
 obtain ⟨L,hL⟩ : ∃ L,p.vs.length = L := ⟨_,rfl⟩
 rw [hL] at hp ⊢
 have hXw := h.blk.lt
 have hBw := Nat.le_trans h.own (Nat.le_of_lt hXw)
 have bP0 := Blk.new w 49 [.int .i64 p.kd,.int .i64 p.ask,.int .u16 p.ha,.int .u16 p.la,.int .u64 p.hi,.int .u64 p.lo,.int .i64 p.of,.int .i64 p.mt,.int .i64 p.co,.bool p.cm,.slice a L c,.slice ia 0 ic]
 have hB0 : Below w.heap.size w (w.alloc (.cells #[.int .i64 p.kd,.int .i64 p.ask,.int .u16 p.ha,.int .u16 p.la,.int .u64 p.hi,.int .u64 p.lo,.int .i64 p.of,.int .i64 p.mt,.int .i64 p.co,.bool p.cm,.slice a L c,.slice ia 0 ic] 49)) := (Below.refl _ _).alloc (Nat.le_refl _) _
 go_enter Tryz.func75,Tryz.ntmps75
 go_upto_region 1 with fail
 generalize hV : World.alloc w _ = V at bP0 hB0 ⊢
 clear hV
 have bP := bP0.drew
 have hBd := hB0.drew
 have H := h.below hBd
 have hP := hp.below hBd
 have hI := hi.below hBd
 have m26 := H.blk.cell (j := 26) (v := .int .i64 s.now) rfl
 have TA : Cells V.drew (blk w.heap.size 0 0 [.int .i64 p.kd,.int .i64 p.ask,.int .u16 p.ha,.int .u16 p.la,.int .u64 p.hi,.int .u64 p.lo,.int .i64 p.of,.int .i64 p.mt,.int .i64 p.co,.bool p.cm,.slice a L c,.slice ia 0 ic] ++ [(X,26,.int .i64 s.now)]) := bP.cells.app ⟨m26,trivial⟩
 have HL := Lib.hid hL
 have HM := Lib.hid hm
 have HH := Lib.hid h
 clear h hp hi bP0 hB0 m26 hL hm
 refine wp_region_held_drew (S := (fun W' : World => Cells W' (blk w.heap.size 0 0 [.int .i64 p.kd,.int .i64 p.ask,.int .u16 p.ha,.int .u16 p.la,.int .u64 p.hi,.int .u64 p.lo,.int .i64 p.of,.int .i64 p.mt,.int .i64 p.co,.bool p.cm,.slice a L c,.slice ia 0 ic] ++ [(X,26,.int .i64 s.now)]))) (by kernel_rfl) (TA) (fun hHeld => ?_)
 generalize World.drew _ = wd at hHeld bP hBd H hP hI TA ⊢
 refine tkU 0 ?_
 refine tkU 1 ?_
 refine tkU 2 ?_
 refine tkU 3 ?_
 refine tkU 4 ?_
 refine tkU 5 ?_
 refine tkU 6 ?_
 refine tkU 7 ?_
 refine tkU 8 ?_
 refine tkU 9 ?_
 refine tkU 10 ?_
 refine rd1 11 fun K hK => ?_
 refine step_store_mid (by rfl) 49 _ _ (by rfl) X 10 #[.int .i64 p.kd,.int .i64 p.ask,.int .u16 p.ha,.int .u16 p.la,.int .u64 p.hi,.int .u64 p.lo,.int .i64 p.of,.int .i64 p.mt,.int .i64 p.co,.bool p.cm,.slice a L c,.slice ia 0 ic] (by rfl) (by rfl) (H.blk.there 10 12 (by simp [Sv.cells])) (by kernel_rfl) (by simp [Value.oneCell']) ?_
 have H1 := H.put_ad p hP hI
 generalize hW : World.setCells wd X 10 _ = w1 at hHeld ⊢
 have e1 : wd.setCells X 10 (pdc p (.slice a L c) (.slice ia 0 ic)) = w1 := hW
 have bP1 := bP.kept (setCells_grown X (pdc p (.slice a L c) (.slice ia 0 ic)) 10 wd) (fun e => by injection e with e; omega)
 rw [e1] at H1 bP1
 clear hW e1
 obtain ⟨H1,hl1⟩ := H1
 have TA1 : Cells w1 (blk w.heap.size 0 0 [.int .i64 p.kd,.int .i64 p.ask,.int .u16 p.ha,.int .u16 p.la,.int .u64 p.hi,.int .u64 p.lo,.int .i64 p.of,.int .i64 p.mt,.int .i64 p.co,.bool p.cm,.slice a L c,.slice ia 0 ic] ++ [(X,26,.int .i64 s.now)]) := bP1.cells.app ⟨H1.blk.cell (j := 26) rfl,trivial⟩
 have m23 := H1.blk.cell (j := 23) (v := .int .i64 s.c.since) rfl
 have z23 := H1.blk.frozen 23
 clear hHeld
 refine hK.out _ _ (TA1) (fun hHeld => ?_)
 clear hK K
 try simp only [Act.put,List.setIfInBounds_toArray,List.set_cons_zero,List.set_cons_succ]
 refine tkU 12 ?_
 refine tkU 13 ?_
 refine tkU 14 ?_
 refine rd1 15 fun K hK => ?_
 go_simp
 have H2 := H1.put_since s.now
 generalize hW : World.setCell w1 _ _ = w2 at H2 ⊢
 have bP2 := bP1.kept (set1 w1 ⟨X,23,none⟩ (.int .i64 s.now)) (fun e => by injection e with e; simp only at e; omega)
 rw [hW] at bP2
 clear hW
 obtain ⟨H2,hl2⟩ := H2
 have TA2 : Cells w2 (blk w.heap.size 0 0 [.int .i64 p.kd,.int .i64 p.ask,.int .u16 p.ha,.int .u16 p.la,.int .u64 p.hi,.int .u64 p.lo,.int .i64 p.of,.int .i64 p.mt,.int .i64 p.co,.bool p.cm,.slice a L c,.slice ia 0 ic] ++ [(X,26,.int .i64 s.now)]) := bP2.cells.app ⟨H2.blk.cell (j := 26) rfl,trivial⟩
 clear m23 z23
 have m22 := H2.blk.cell (j := 22) (v := .bool s.c.busy) rfl
 have z22 := H2.blk.frozen 22
 clear hHeld
 refine hK.out _ _ (TA2) (fun hHeld => ?_)
 clear hK K
 try simp only [Act.put,List.setIfInBounds_toArray,List.set_cons_zero,List.set_cons_succ]
 refine tkU 16 ?_
 refine tkU 17 ?_
 refine tkU 18 ?_
 refine rd1 19 fun K hK => ?_
 go_simp
 have H3 := H2.put_busy true
 generalize hW : World.setCell w2 _ _ = w3 at H3 ⊢
 have bP3 := bP2.kept (set1 w2 ⟨X,22,none⟩ (.bool true)) (fun e => by injection e with e; simp only at e; omega)
 rw [hW] at bP3
 clear hW
 obtain ⟨H3,hl3⟩ := H3
 have TA3 : Cells w3 (blk w.heap.size 0 0 [.int .i64 p.kd,.int .i64 p.ask,.int .u16 p.ha,.int .u16 p.la,.int .u64 p.hi,.int .u64 p.lo,.int .i64 p.of,.int .i64 p.mt,.int .i64 p.co,.bool p.cm,.slice a L c,.slice ia 0 ic] ++ [(X,26,.int .i64 s.now)]) := bP3.cells.app ⟨H3.blk.cell (j := 26) rfl,trivial⟩
 clear m22 z22
 clear hHeld
 refine hK.out _ _ (TA3) (fun hHeld => ?_)
 clear hK K
 try simp only [Act.put,List.setIfInBounds_toArray,List.set_cons_zero,List.set_cons_succ]
 refine wpAnyH_done (by kernel_rfl) ?_ _
 have hlow : Below B w w3 := (((hBd.mono hBw).trans hl1).trans hl2).trans hl3
 have hsz : w.heap.size ≤ w3.heap.size := hlow.size
 clear hHeld TA TA1 TA2 TA3 hl1 hl2 hl3 bP bP1 bP2 H1 H2 H hP hI hBd
 obtain ⟨s1,hs1⟩ : ∃ s1 : Sv,{ s with c := { s.c with ad := p,since := s.now,busy := true },ab := .slice a L c,ai := .slice ia 0 ic } = s1 := ⟨_,rfl⟩
 have H3 : Sq w3 B X s1 := by rw [← hs1]; exact H3
 have e1 : s1.c.ad = p := by rw [← hs1]
 have e2 : s1.ab = .slice a L c := by rw [← hs1]
 have e3 : s1.ai = .slice ia 0 ic := by rw [← hs1]
 have e4 : s1.sp.send p = s.sp.send p := by rw [← hs1]; rfl
 have e5 : s1.ps = s.ps := by rw [← hs1]
 have hps1 : s1.ps.length ≤ 1000 := by rw [e5]; exact hps
 have hovl : ∀ k,s1.ov.ownBlock = some k → k < w.heap.size := fun k hk => (HH.out.pt.ov.lt k (by rw [← hs1] at hk; exact hk)).2
 have HE := Lib.hid (And.intro e1 (And.intro e2 (And.intro e3 (And.intro e4 e5))))
 have HS := Lib.hid hs1
 clear hs1 e1 e2 e3 e4 e5
 go_upto_region 2 with fail
 have bPd := bP3.drew
 have Hd := H3.drew
 have hEa := HE.out
 have mF : ∀ W : World,Sq W B X s1 → W.cell? ⟨X,27,none⟩ = some s1.ov := fun W h => h.blk.cell (j := 27) rfl
 have m27 := mF _ Hd
 have hBd : Below B w w3.drew := hlow.drew
 have TB := bPd.cells
 have MF := Lib.hid mF
 obtain ⟨oa,oc,hov⟩ := own_form Hd.pt.ov
 rw [hov] at m27
 have HOV := Lib.hid hov
 clear H3 bP3 hlow mF hov hEa
 refine wp_region_held_drew (S := (fun W' : World => Cells W' (blk w.heap.size 0 0 [.int .i64 p.kd,.int .i64 p.ask,.int .u16 p.ha,.int .u16 p.la,.int .u64 p.hi,.int .u64 p.lo,.int .i64 p.of,.int .i64 p.mt,.int .i64 p.co,.bool p.cm,.slice a L c,.slice ia 0 ic]))) (by kernel_rfl) (TB) (fun hHeld => ?_)
 generalize World.drew _ = wd at hHeld TB bPd Hd m27 hBd ⊢
 repeat' first
  |refine tkU 0 ?_
  |refine tkU 1 ?_
  |refine tkU 2 ?_
  |refine tkU 3 ?_
  |refine tkU 5 ?_
  |refine tkU 9 ?_
  |refine tkU 10 ?_
  |(refine opn 4 fun K hK => ?_
    go_simp
    refine hK.out _ _ (hHeld) (fun h => ?_)
    replace hHeld := h
    clear hK K h
    try simp only [Act.put,List.setIfInBounds_toArray,List.set_cons_zero,List.set_cons_succ])
  |(refine opn 6 fun K hK => ?_
    go_simp
    go_at_call 57
    refine (pdu_any p.kd p.ask p.ha p.la p.hi p.lo p.of p.mt p.co p.cm _ _ p.vs 0 [] _ (by rw [← HE.out.2.1,← HE.out.1]; exact Hd.pt.ab.1) (by rw [← HE.out.2.2.1]; exact Hd.pt.ai) HM.out (Nat.zero_le _)).mono ?_
    rintro e w4 ⟨bv',iv',rfl,hbv',hob',hiv',hB4⟩
    have hsz4 : wd.heap.size ≤ w4.heap.size := hB4.size
    have hbd' : BD w4 (s1.rw X) bv' p.vs := BD.new hbv' hob' Hd.lts
    have hiv' : SR w4 iv' 0 5 [] := SR.of_own hiv' (by simp) (by unfold maxLen; omega)
    obtain ⟨a1,c1,rfl⟩ := hbv'.form
    obtain ⟨ia1,ic1,rfl⟩ := hiv'.form
    have Hd := Hd.below hB4
    have bPd := bPd.below hB4
    have hBd := hBd.trans (hB4.mono (by have := hBd.size; omega))
    have TB := bPd.cells
    have m27 := MF.out _ Hd
    rw [HOV.out] at m27
    rw [HL.out] at hbd' ⊢
    clear hbv' hob' hB4
    refine hK.out _ _ (TB) (fun h => ?_)
    replace hHeld := h
    clear hK K h
    try simp only [Act.put,List.setIfInBounds_toArray,List.set_cons_zero,List.set_cons_succ])
  |(refine opn 7 fun K hK => ?_
    go_simp
    generalize hX : World.alloc _ (.cells _ 49) = w5
    obtain ⟨hnb,hB5,hz5⟩ := alloc_named hX
    have hnews : ∀ (j : Nat) (u : Value),([.int .i64 p.kd,.int .i64 p.ask,.int .u16 p.ha,.int .u16 p.la,.int .u64 p.hi,.int .u64 p.lo,.int .i64 p.of,.int .i64 p.mt,.int .i64 p.co,.bool p.cm,.slice a1 L c1,.slice ia1 0 ic1] : List Value)[j]? = some u → w5.cell? ((⟨w4.heap.size,0,none⟩ : Addr).add j) = some u := fun j u hj => by
     rw [addr_off,Nat.zero_add]
     exact Blk.cell (W := w5) (B := w4.heap.size) (t := 49) (cs := [.int .i64 p.kd,.int .i64 p.ask,.int .u16 p.ha,.int .u16 p.la,.int .u64 p.hi,.int .u64 p.lo,.int .i64 p.of,.int .i64 p.mt,.int .i64 p.co,.bool p.cm,.slice a1 L c1,.slice ia1 0 ic1]) hnb hj
    have hbd' := hbd'.below hB5
    have hiv' := hiv'.below hB5
    have Hd := Hd.below hB5
    have bPd := bPd.below hB5
    have hBd := hBd.trans (hB5.mono (by have := hBd.size; omega))
    have TB := bPd.cells
    have m27 := MF.out _ Hd
    rw [HOV.out] at m27
    clear hX hB5 hnb
    refine hK.out _ _ (TB) (fun h => ?_)
    replace hHeld := h
    clear hK K h
    try simp only [Act.put,List.setIfInBounds_toArray,List.set_cons_zero,List.set_cons_succ])
  |(refine opn 8 fun K hK => ?_
    refine step_append_own (by rfl) _ _ 55 (by rfl) B 49 i0 _ 12 120 Tryz.underlying55 hi0 hz0 hz1 hz2 rfl (by decide) (.slice oa s1.ps.length oc) s1.ps.length (s1.ps.flatMap penc) (by rfl) (by rw [← HOV.out]; exact Hd.pt.ov) ⟨w4.heap.size,0,none⟩ 1 1 [.int .i64 p.kd,.int .i64 p.ask,.int .u16 p.ha,.int .u16 p.la,.int .u64 p.hi,.int .u64 p.lo,.int .i64 p.of,.int .i64 p.mt,.int .i64 p.co,.bool p.cm,.slice a1 L c1,.slice ia1 0 ic1] (by rfl) (by rfl) hnews (by simp [Value.oneCell']) (by unfold maxLen; omega) (by omega) (by have := hBd.size; omega) ?_
    intro v6 w6 hown6 hg6 hor6
    rw [← HOV.out] at hg6 hor6
    have HAPP := Lib.hid (fun W' (e : World.setCell w6 ⟨X,27,none⟩ v6 = W') => e ▸ (Hd.app_out (q := (p,.slice a1 L c1,.slice ia1 0 ic1)) hg6 hown6 hor6 ⟨hbd',hiv'⟩))
    have bPd := bPd.kept hg6 (fun e => by have := hovl _ e.symm; omega)
    have m27 : w6.cell? ⟨X,27,none⟩ = some s1.ov := (World.cell?_of_block (a := ⟨X,27,none⟩) (hg6.block X Hd.blk.lt (fun e => Hd.ne.2.1 e.symm))).trans (MF.out _ Hd)
    have z27 : w6.frozen? ⟨X,27,none⟩ = false := (Hd.blk.kept hg6 (fun e => Hd.ne.2.1 e.symm)).frozen 27
    rw [HOV.out] at m27
    obtain ⟨oa6,oc6,rfl⟩ := own_form hown6
    have TB := bPd.cells
    clear hbd' hiv' hnews hown6 hg6 hor6 Hd
    refine hK.out _ _ (TB) (fun h => ?_)
    replace hHeld := h
    clear hK K h
    try simp only [Act.put,List.setIfInBounds_toArray,List.set_cons_zero,List.set_cons_succ])
  |(refine opn 11 fun K hK => ?_
    go_simp
    generalize hX : World.setCell w6 _ _ = w7
    obtain ⟨H7,hl7⟩ := HAPP.out w7 hX
    have bPd := hX ▸ bPd.other (o := 27) (by omega) (.slice oa6 (s1.ps.length + 1) oc6)
    have TB := bPd.cells
    clear HAPP m27 z27 hX
    refine hK.out _ _ (TB) (fun h => ?_)
    replace hHeld := h
    clear hK K h
    try simp only [Act.put,List.setIfInBounds_toArray,List.set_cons_zero,List.set_cons_succ])
  |refine rd2 4 6 ?_ ?_
  |refine rd1 6 ?_
  |refine rd1 7 ?_
  |refine rd1 8 ?_
  |refine rd1 11 ?_
  |refine rd2 4 7 ?_ ?_
  |refine rd1 4 ?_
  |(refine wpAnyH_done (by kernel_rfl) ?_ _
    go_wp2_with fail
    refine bodyPost_end (results_none rfl _ _ _) rfl ⟨rfl,_,H7,?_,?_⟩
    ·rw [← HS.out]
     simp [Sv.sp,Sp.send]
    ·exact hBd.trans hl7)
theorem report_any (r : Rs) (bv fv : Value) (w : World) (B X : Nat) (s : Sv) (h : Sq w B X s) (hp : BD w (s.rw X) bv r.vs) (hf : FD w (s.rw X) fv r.fo) (hus : s.us.length ≤ 1000) :
 Calls Tryz.prog 105 #[.pointer (some ⟨X,0,none⟩),.agg #[.int .i64 r.kd,.int .i64 r.tk,.int .u16 r.ha,bv,fv,.int .i64 r.co]] w fun e w' => e = .returned (.tuple #[]) ∧ ∃ s',Sq w' B X s' ∧ s'.sp = s.sp.report r ∧ Below B w w' := by
 obtain ⟨i0,hi0,hz0,hz1,hz2⟩ := info_parts Tryz.info_Result
 obtain ⟨a,c,rfl⟩ := hp.1.form
 obtain ⟨fa,fc,rfl⟩ := hf.1.form
 obtain ⟨L,hL⟩ : ∃ L,r.vs.length = L := ⟨_,rfl⟩
 obtain ⟨N,hN⟩ : ∃ L,r.fo.length = L := ⟨_,rfl⟩
 rw [hL] at hp ⊢
 rw [hN] at hf ⊢
 have hXw := h.blk.lt
 have hBw := Nat.le_trans h.own (Nat.le_of_lt hXw)
 have bR1 := Blk.new w 43 [.int .i64 r.kd,.int .i64 s.c.tk.kd,.int .u16 r.ha,.slice a L c,.slice fa N fc,.int .i64 r.co]
 have hB1 : Below w.heap.size w (w.alloc (.cells #[.int .i64 r.kd,.int .i64 s.c.tk.kd,.int .u16 r.ha,.slice a L c,.slice fa N fc,.int .i64 r.co] 43)) := (Below.refl _ _).alloc (Nat.le_refl _) _
 have H1 := h.below hB1
 have hP1 := hp.below hB1
 have hF1 := hf.below hB1
 have m2 := h.blk.cell (j := 2) (v := .int .i64 s.c.tk.kd) rfl
 have hu : ∀ x,World.cell? (w.alloc x) ⟨X,2,none⟩ = some (.int .i64 s.c.tk.kd) := fun x => kc m2 ((Below.refl _ _).alloc (Nat.le_refl _) _)
 go_enter Tryz.func105,Tryz.ntmps105
 go_upto_region 2 with fail
 generalize hW : World.alloc w _ = V1 at bR1 hB1 H1 hP1 hF1 ⊢
 clear hW m2 hu
 have bR := bR1.drew
 have hBd := (hB1.drew).mono hBw
 have hsz := hB1.size
 have Hd := H1.drew
 have hP := hP1.below (Below.refl _ _).drew
 have hF := hF1.below (Below.refl _ _).drew
 have hovl : ∀ k,s.rv.ownBlock = some k → k < w.heap.size := fun k hk => (h.pt.rv.lt k hk).2
 have mF : ∀ W : World,Sq W B X s → W.cell? ⟨X,28,none⟩ = some s.rv := fun W h => h.blk.cell (j := 28) rfl
 have m28 := mF _ Hd
 obtain ⟨oa,oc,hov⟩ := own_form Hd.pt.rv
 rw [hov] at m28
 have HOV := Lib.hid hov
 have MF := Lib.hid mF
 have HL := Lib.hid hL
 have HN := Lib.hid hN
 have TB := bR.cells
 clear h hp hf hov mF hL hN bR1 H1 hP1 hF1 hB1
 refine wp_region_held_drew (S := (fun W' : World => Cells W' (blk w.heap.size 0 0 [.int .i64 r.kd,.int .i64 s.c.tk.kd,.int .u16 r.ha,.slice a L c,.slice fa N fc,.int .i64 r.co]))) (by kernel_rfl) (TB) (fun hHeld => ?_)
 generalize World.drew _ = wd at hHeld TB bR Hd hP hF m28 hBd hsz ⊢
 repeat' first
  |refine tkU 0 ?_
  |refine tkU 1 ?_
  |refine tkU 2 ?_
  |refine tkU 3 ?_
  |refine tkU 5 ?_
  |refine tkU 8 ?_
  |refine tkU 9 ?_
  |(refine opn 4 fun K hK => ?_
    go_simp
    refine hK.out _ _ (hHeld) (fun h => ?_)
    replace hHeld := h
    clear hK K h
    try simp only [Act.put,List.setIfInBounds_toArray,List.set_cons_zero,List.set_cons_succ])
  |(refine opn 6 fun K hK => ?_
    go_simp
    generalize hX : World.alloc _ (.cells _ 43) = w5
    obtain ⟨hnb,hB5,hz5⟩ := alloc_named hX
    have hnews : ∀ (j : Nat) (u : Value),([.int .i64 r.kd,.int .i64 s.c.tk.kd,.int .u16 r.ha,.slice a L c,.slice fa N fc,.int .i64 r.co] : List Value)[j]? = some u → w5.cell? ((⟨wd.heap.size,0,none⟩ : Addr).add j) = some u := fun j u hj => by
     rw [addr_off,Nat.zero_add]
     exact Blk.cell (W := w5) (B := wd.heap.size) (t := 43) (cs := [.int .i64 r.kd,.int .i64 s.c.tk.kd,.int .u16 r.ha,.slice a L c,.slice fa N fc,.int .i64 r.co]) hnb hj
    have hP := hP.below hB5
    have hF := hF.below hB5
    have Hd := Hd.below hB5
    have bR := bR.below hB5
    have hBd := hBd.trans (hB5.mono (by have := hBd.size; omega))
    have TB := bR.cells
    have m28 := MF.out _ Hd
    rw [HOV.out] at m28
    clear hX hB5 hnb
    refine hK.out _ _ (TB) (fun h => ?_)
    replace hHeld := h
    clear hK K h
    try simp only [Act.put,List.setIfInBounds_toArray,List.set_cons_zero,List.set_cons_succ])
  |(refine opn 7 fun K hK => ?_
    refine step_append_own (by rfl) _ _ 74 (by rfl) B 43 i0 _ 6 80 Tryz.underlying74 hi0 hz0 hz1 hz2 rfl (by decide) (.slice oa s.us.length oc) s.us.length (s.us.flatMap renc) (by rfl) (by rw [← HOV.out]; exact Hd.pt.rv) ⟨wd.heap.size,0,none⟩ 1 1 [.int .i64 r.kd,.int .i64 s.c.tk.kd,.int .u16 r.ha,.slice a L c,.slice fa N fc,.int .i64 r.co] (by rfl) (by rfl) hnews (by simp [Value.oneCell']) (by unfold maxLen; omega) (by omega) (by have := hBd.size; omega) ?_
    intro v6 w6 hown6 hg6 hor6
    rw [← HOV.out] at hg6 hor6
    have HAPP := Lib.hid (fun W' (e : World.setCell w6 ⟨X,28,none⟩ v6 = W') => e ▸ (Hd.app_res (q := ({ r with tk := s.c.tk.kd },.slice a L c,.slice fa N fc)) hg6 hown6 hor6 ⟨hP,hF⟩))
    have bR := bR.kept hg6 (fun e => by have := hovl _ e.symm; omega)
    have m28 : w6.cell? ⟨X,28,none⟩ = some s.rv := (World.cell?_of_block (a := ⟨X,28,none⟩) (hg6.block X Hd.blk.lt (fun e => Hd.ne.2.2 e.symm))).trans (MF.out _ Hd)
    have z28 : w6.frozen? ⟨X,28,none⟩ = false := (Hd.blk.kept hg6 (fun e => Hd.ne.2.2 e.symm)).frozen 28
    rw [HOV.out] at m28
    obtain ⟨oa6,oc6,rfl⟩ := own_form hown6
    have TB := bR.cells
    clear hP hF hnews hown6 hg6 hor6 Hd
    refine hK.out _ _ (TB) (fun h => ?_)
    replace hHeld := h
    clear hK K h
    try simp only [Act.put,List.setIfInBounds_toArray,List.set_cons_zero,List.set_cons_succ])
  |(refine opn 10 fun K hK => ?_
    go_simp
    generalize hX : World.setCell w6 _ _ = w7
    obtain ⟨H7,hl7⟩ := HAPP.out w7 hX
    have bR := hX ▸ bR.other (o := 28) (by omega) (.slice oa6 (s.us.length + 1) oc6)
    have TB := bR.cells
    clear HAPP m28 z28 hX
    refine hK.out _ _ (TB) (fun h => ?_)
    replace hHeld := h
    clear hK K h
    try simp only [Act.put,List.setIfInBounds_toArray,List.set_cons_zero,List.set_cons_succ])
  |refine rd2 4 6 ?_ ?_
  |refine rd1 6 ?_
  |refine rd1 7 ?_
  |refine rd1 10 ?_
  |refine rd1 4 ?_
  |(refine wpAnyH_done (by kernel_rfl) ?_ _
    go_wp2_with fail
    refine bodyPost_end (results_none rfl _ _ _) rfl ⟨rfl,_,H7,?_,hBd.trans hl7⟩
    simp [Sv.sp,Sp.report])
end Go.Proofs.YtldcihjddebciaaGreat
