/- client: begin. -/
import Derived.Test.YtldcihjddebciaaPClO
set_option linter.unusedSimpArgs false
set_option linter.unusedVariables false
set_option maxRecDepth 100000
set_option maxHeartbeats 8000000
namespace Go.Proofs.Ytldcihjddebciaa
open Go.RowKit
/-- what the table yields -/
theorem stT_form (k : Int) (b2 b9 : Nat) : ∃ c0 c1 c2 : Value,((stT b2 b9).lookup k).getD stZ = .agg #[c0,c1,c2] ∧ c0.oneCell' = true ∧ c1.oneCell' = true ∧ c2.oneCell' = true := by
 cases h : (stT b2 b9).lookup k with
 |none => exact ⟨.nilFunc,.nilFunc,.nilFunc,rfl,rfl,rfl,rfl⟩
 |some v =>
  have hm : ∀ (l : List (Int × Value)),(∀ q ∈ l,∃ c0 c1 c2 : Value,q.2 = .agg #[c0,c1,c2] ∧ c0.oneCell' = true ∧ c1.oneCell' = true ∧ c2.oneCell' = true) → l.lookup k = some v → ∃ c0 c1 c2 : Value,v = .agg #[c0,c1,c2] ∧ c0.oneCell' = true ∧ c1.oneCell' = true ∧ c2.oneCell' = true := by
   intro l
   induction l with
   |nil => intro _ h; cases h
   |cons q l ih =>
    intro hq h
    rw [List.lookup_cons] at h
    split at h
    ·injection h with h
     rw [← h]
     exact hq q (by simp)
    ·exact ih (fun q hm => hq q (by simp [hm])) h
  refine hm _ (fun q hq => ?_) h
  simp only [stT,List.mem_cons,List.not_mem_nil,or_false] at hq
  rcases hq with rfl | rfl | rfl | rfl | rfl | rfl | rfl | rfl | rfl <;> exact ⟨_,_,_,rfl,rfl,rfl,rfl⟩
theorem stT_other (k : Int) (b2 b9 : Nat) (h : ¬ (1 ≤ k ∧ k ≤ 9)) : (stT b2 b9).lookup k = none := by
 simp only [stT,List.lookup_cons,List.lookup_nil]
 have e : ∀ j : Int,1 ≤ j ∧ j ≤ 9 → (k == j) = false := fun j hj => by simp; omega
 rw [e 1 (by omega),e 2 (by omega),e 3 (by omega),e 4 (by omega),e 5 (by omega),e 6 (by omega),e 7 (by omega),e 8 (by omega),e 9 (by omega)]
theorem kinds9 (k : Int) : k = 1 ∨ k = 2 ∨ k = 3 ∨ k = 4 ∨ k = 5 ∨ k = 6 ∨ k = 7 ∨ k = 8 ∨ k = 9 ∨ ¬ (1 ≤ k ∧ k ≤ 9) := by omega
/-- the numbers of the two searches -/
structure St4 (w : World) (b2 b9 : Nat) : Prop where
 k2 : w.cell? ⟨b2,0,none⟩ = some (.int .i64 16)
 n2 : w.cell? ⟨b2 + 1,0,none⟩ = some (.int .u16 10240)
 k9 : w.cell? ⟨b9,0,none⟩ = some (.int .i64 8)
 n9 : w.cell? ⟨b9 + 1,0,none⟩ = some (.int .u16 11050)
theorem StAt.four {w : World} {B b2 b9 : Nat} (h : StAt w B b2 b9) : St4 w b2 b9 := ⟨h.k2,h.n2,h.k9,h.n9⟩
theorem St4.below {w w' : World} {b2 b9 : Nat} (h : St4 w b2 b9) (hb : Below w.heap.size w w') : St4 w' b2 b9 := ⟨kc h.k2 hb,kc h.n2 hb,kc h.k9 hb,kc h.n9 hb⟩
theorem St4.lts {w : World} {b2 b9 : Nat} (h : St4 w b2 b9) : b2 + 1 < w.heap.size ∧ b9 + 1 < w.heap.size := ⟨World.block_lt_of_cell? w _ h.n2,World.block_lt_of_cell? w _ h.n9⟩
theorem St4.grown {w w' : World} {b2 b9 b : Nat} (h : St4 w b2 b9) (hg : w.grownBy w' (some b)) (hne : b ≠ b2 ∧ b ≠ b2 + 1 ∧ b ≠ b9 ∧ b ≠ b9 + 1) : St4 w' b2 b9 := by
 have hl := h.lts
 have g : ∀ (x : Nat) (v : Value),x < w.heap.size → b ≠ x → w.cell? ⟨x,0,none⟩ = some v → w'.cell? ⟨x,0,none⟩ = some v := fun x v h1 h2 h3 => (World.cell?_of_block (a := ⟨x,0,none⟩) (hg.block x h1 (fun e => h2 (by injection e with e; exact e.symm)))).trans h3
 exact ⟨g b2 _ (by omega) hne.1 h.k2,g (b2 + 1) _ (by omega) hne.2.1 h.n2,g b9 _ (by omega) hne.2.2.1 h.k9,g (b9 + 1) _ (by omega) hne.2.2.2 h.n9⟩
theorem Blk.put3 {w w' : World} {b : Nat} {t : TypeId} {x0 x1 x2 y0 y1 y2 : Value} (h : Blk w b t [x0,x1,x2]) (hX : w.setCells b 0 [y0,y1,y2] = w') : Blk w' b t [y0,y1,y2] ∧ w.grownBy w' (some b) := by
 subst hX
 have h1 := h.setCells (vs := [y0,y1,y2]) (o := 0)
 simp only [over,List.set_cons_zero,List.set_cons_succ,Nat.reduceAdd] at h1
 exact ⟨h1,setCells_grown _ _ _ _⟩
/-- a task that may begin -/
structure TkOk (t : Tk) : Prop where
 of : t.of = 0
 fo : t.fo = []
 len : t.vs.length ≤ 1000000
 kd : (Lit.int .i64 t.kd).wf = true
theorem SR.nil (w : World) (size : Nat) : SR w (.slice none 0 0) 0 size [] := ⟨Nat.zero_le _,by simp,by simp,none,0,rfl,fun _ => ⟨rfl,rfl⟩,fun h => absurd h (by simp)⟩
theorem begin_any (t : Tk) (bv : Value) (w : World) (B X : Nat) (s : Sv) (h : Sq w B X s) (hp : BD w (s.rw X) bv t.vs) (hT : TkOk t) (hps : s.ps.length ≤ 1000) :
 Calls Try.prog 27 #[.pointer (some ⟨X,0,none⟩),.agg #[.int .i64 t.kd,.int .u16 t.fi,.int .u16 t.la,.int .u16 t.ha,bv,.int .i64 t.of,.slice none 0 0,.bool t.bad]] w fun e w' => e = .returned (.tuple #[]) ∧ ∃ s',Sq w' B X s' ∧ s'.sp = s.sp.begin t ∧ Below B w w' := by
 obtain ⟨a,c,rfl⟩ := hp.1.form
 obtain ⟨L,hL⟩ : ∃ L,t.vs.length = L := ⟨_,rfl⟩
 rw [hL] at hp ⊢
 have hXw := h.blk.lt
 have hBX := h.own
 have HKD := Lib.hid hT.kd
 have HM := Lib.hid hT.len
 have HOF := Lib.hid hT.of
 have bT0 := Blk.new w 26 [.int .i64 t.kd,.int .u16 t.fi,.int .u16 t.la,.int .u16 t.ha,.slice a L c,.int .i64 t.of,.slice none 0 0,.bool t.bad]
 have hB0 : Below w.heap.size w (w.alloc (.cells #[.int .i64 t.kd,.int .u16 t.fi,.int .u16 t.la,.int .u16 t.ha,.slice a L c,.int .i64 t.of,.slice none 0 0,.bool t.bad] 26)) := (Below.refl _ _).alloc (Nat.le_refl _) _
 have H0 := h.below hB0
 have hP0 := hp.below hB0
 go_enter Try.func27,Try.ntmps27
 go_upto_region 1 with fail
 generalize hV : World.alloc w _ = V at bT0 hB0 H0 hP0 ⊢
 clear hV
 have hth := H0.blk.there 2 8 (by simp [Sv.cells])
 have TB := bT0.cells
 have hOpen := TB
 simp only [Cells,blk,List.cons_append,List.nil_append,and_true,Nat.reduceAdd,Nat.add_zero,Nat.zero_add] at hOpen
 obtain ⟨m0,m1,m2,m3,m4,m5,m6,m7⟩ := hOpen
 go_upto_region 2 with (refine wpList_store_mid rfl 26 _ _ rfl X 2 #[.int .i64 t.kd,.int .u16 t.fi,.int .u16 t.la,.int .u16 t.ha,.slice a L c,.int .i64 t.of,.slice none 0 0,.bool t.bad] rfl rfl hth (by kernel_rfl) (by simp [Value.oneCell']) ?_)
 clear m0 m1 m2 m3 m4 m5 m6 m7 TB hth
 have H1 := H0.put_tk t hP0 hT.fo
 generalize hW : World.setCells V X 2 _ = wA
 have e1 : V.setCells X 2 (tkc t (.slice a L c) (.slice none 0 0)) = wA := hW
 have bT1 := bT0.kept (setCells_grown X (tkc t (.slice a L c) (.slice none 0 0)) 2 V) (fun e => by injection e with e; omega)
 rw [e1] at H1 bT1
 clear hW e1
 obtain ⟨H1,hl1⟩ := H1
 have hlow : Below B w wA := (hB0.mono (by omega)).trans hl1
 obtain ⟨s1,hs1⟩ : ∃ s1 : Sv,{ s with c := { s.c with tk := t },bv := .slice a L c,fv := .slice none 0 0 } = s1 := ⟨_,rfl⟩
 have H1 : Sq wA B X s1 := by rw [← hs1]; exact H1
 have hbv1 : BV wA (.slice a L c) t.vs := by have h := H1.pt.bv.1; rw [← hs1] at h; exact h
 have hp1 : s1.ps.length ≤ 1000 := by rw [← hs1]; exact hps
 have HS := Lib.hid hs1
 have HL := Lib.hid hL
 clear hs1 h hp hT H0 hP0 bT0 hB0 hl1 hps hL
 try simp only [Act.put]
 go_cut [4,5] (fun v4 v5 wx => ∃ (bs : Nat) (c0 c1 c2 : Value) (ok : Bool) (b2 b9 : Nat),v4 = .pointer (some ⟨bs,0,none⟩) ∧ v5 = .bool ok ∧ ok = ((stT b2 b9).lookup t.kd).isSome ∧ ((stT b2 b9).lookup t.kd).getD stZ = .agg #[c0,c1,c2] ∧ Blk wx bs 72 [c0,c1,c2] ∧ St4 wx b2 b9 ∧ Below wA.heap.size wA wx)
 case first =>
  have BX := bT1.cells
  have TB := BX.drew
  have hBA : Below wA.heap.size wA wA.drew := (Below.refl _ _).drew
  clear H1 hbv1 bT1
  refine wp_region_held_drew (S := (fun W' : World => Cells W' (blk w.heap.size 0 0 [.int .i64 t.kd,.int .u16 t.fi,.int .u16 t.la,.int .u16 t.ha,.slice a L c,.int .i64 t.of,.slice none 0 0,.bool t.bad]))) (by kernel_rfl) (TB) (fun hHeld => ?_)
  generalize World.drew _ = wd at hHeld TB hBA ⊢
  repeat' first
   |refine tkU 1 ?_
   |refine tkU 2 ?_
   |refine tkU 4 ?_
   |refine tkU 5 ?_
   |refine tkU 6 ?_
   |refine tkU 9 ?_
   |(refine opn 0 fun K hK => ?_
     go_simp
     go_at_call 26
     refine (steps_any _).mono ?_
     rintro e w2 ⟨Bm,b2,b9,rfl,hst,hBm,hB2,hg2,hg9⟩
     obtain ⟨c0,c1,c2,hlk,o0,o1,o2⟩ := stT_form t.kd b2 b9
     have hlook := hst.map.look t.kd HKD.out
     rw [hlk] at hlook
     have h4 := hst.four
     have hlt4 := h4.lts
     have hBA := hBA.trans (hB2.mono (by have := hBA.size; omega))
     have TB : Cells _ (blk w.heap.size 0 0 [.int .i64 t.kd,.int .u16 t.fi,.int .u16 t.la,.int .u16 t.ha,.slice a L c,.int .i64 t.of,.slice none 0 0,.bool t.bad]) := BX.keep hBA
     try have bSl := bS.lt
     try have bS := bS.below hB2
     clear hBm hB2
     refine hK.out _ _ (TB) (fun h => ?_)
     replace hHeld := h
     clear hK K h
     try simp only [Act.put,List.setIfInBounds_toArray,List.set_cons_zero,List.set_cons_succ])
   |(refine opn 3 fun K hK => ?_
     go_simp
     clear hlook
     refine hK.out _ _ (hHeld) (fun h => ?_)
     replace hHeld := h
     clear hK K h
     try simp only [Act.put,List.setIfInBounds_toArray,List.set_cons_zero,List.set_cons_succ])
   |(refine opn 7 fun K hK => ?_
     go_simp
     generalize hX : World.alloc _ (.cells _ 72) = w5
     obtain ⟨bS,hB5,hz5⟩ := alloc_named hX
     have bS : Blk w5 _ 72 [.nilFunc,.nilFunc,.nilFunc] := bS
     have hbA := hBA.size
     have hBA := hBA.trans (hB5.mono (by have := hBA.size; omega))
     have TB : Cells _ (blk w.heap.size 0 0 [.int .i64 t.kd,.int .u16 t.fi,.int .u16 t.la,.int .u16 t.ha,.slice a L c,.int .i64 t.of,.slice none 0 0,.bool t.bad]) := BX.keep hBA
     have hz5 := Nat.le_of_eq hz5.symm
     try have hst := hst.below hB5
     try have h4 := h4.below hB5
     try have hlook := hst.map.look t.kd HKD.out
     try rw [hlk] at hlook
     clear hX hB5
     refine hK.out _ _ (TB) (fun h => ?_)
     replace hHeld := h
     clear hK K h
     try simp only [Act.put,List.setIfInBounds_toArray,List.set_cons_zero,List.set_cons_succ])
   |(refine opn 8 fun K hK => ?_
     refine step_store_mid (by rfl) 72 _ _ (by rfl) _ 0 #[c0,c1,c2] (by rfl) (by rfl) (bS.there 0 3 (by simp)) (by kernel_rfl) (by simp [o0,o1,o2]) ?_
     generalize hX : World.setCells _ _ 0 _ = w6
     obtain ⟨bS2,hgS⟩ := bS.put3 hX
     have h4 := h4.grown hgS (by omega)
     have hBA := hBA.grown hgS hBA.size (fun k hk => by cases hk; omega)
     have TB : Cells _ (blk w.heap.size 0 0 [.int .i64 t.kd,.int .u16 t.fi,.int .u16 t.la,.int .u16 t.ha,.slice a L c,.int .i64 t.of,.slice none 0 0,.bool t.bad]) := BX.keep hBA
     clear hX hgS bS
     refine hK.out _ _ (TB) (fun h => ?_)
     replace hHeld := h
     clear hK K h
     try simp only [Act.put,List.setIfInBounds_toArray,List.set_cons_zero,List.set_cons_succ])
   |refine rd2 0 7 ?_ ?_
   |refine rd2 3 7 ?_ ?_
   |refine rd1 7 ?_
   |refine rd1 8 ?_
   |refine rd1 3 ?_
   |refine rd1 0 ?_
   |(refine wpAnyH_done (by kernel_rfl) ?_ _
     go_wp2_with fail
     go_meet
     exact ⟨_,c0,c1,c2,_,b2,b9,rfl,rfl,rfl,hlk,bS2,h4,hBA⟩)
 case rest =>
  obtain ⟨bs,c0,c1,c2,ok,b2,b9,rfl,rfl,hokv,hlk,bS,h4,hBA⟩ := hcut
  have H := H1.below hBA
  have hbv := hbv1.below hBA
  have bT := bT1.below hBA
  have hBw := hlow.trans (hBA.mono (by have := H1.blk.lt; omega))
  have TB := bT.cells
  have hOpen := TB
  simp only [Cells,blk,List.cons_append,List.nil_append,and_true,Nat.reduceAdd,Nat.add_zero,Nat.zero_add] at hOpen
  obtain ⟨m0,m1,m2,m3,m4,m5,m6,m7⟩ := hOpen
  have s2 := bS.cell (j := 2) (v := c2) rfl
  clear TB H1 hbv1 bT1 hBA hlow
  rcases kinds9 t.kd with hk | hk | hk | hk | hk | hk | hk | hk | hk | hk
  · -- 1
   have e0 : (Value.agg #[c0,c1,c2]) = ((stT b2 b9).lookup 1).getD stZ := by rw [← hlk,hk]
   simp only [stT,List.lookup,Option.getD,Int.reduceBEq] at e0
   injection e0 with e0
   injection e0 with e0
   injection e0 with e0 e1
   injection e1 with e1 e2
   injection e2 with e2 _
   unfold fnV at e2
   rw [e2] at s2
   have hok : ok = true := by rw [hokv,hk]; rfl
   subst hok
   have HK := Lib.hid hk
   clear e0 e1 e2 hlk hokv hk
   go_wp2_with fail
   refine (mtu_any X s1.c.mx t.kd t.fi t.la t.ha (.slice a L c) t.of (.slice none 0 0) t.bad _ (H.blk.cell (j := 1) rfl)).mono ?_
   rintro e w5 ⟨rfl,hB5⟩
   have H5 := H.below hB5
   have hl5 := hBw.trans (hB5.mono (by have := hBw.size; omega))
   clear m0 m1 m2 m3 m4 m5 m6 m7 s2
   go_wp2_with fail
   refine (send_any ⟨2,0,0,0,0,0,0,s1.c.mx,0,false,[]⟩ (.slice none 0 0) (.slice none 0 0) _ B X s1 H5 (BD.nil _ _) (SR.nil _ _) (by simp) hp1).mono ?_
   rintro e w6 ⟨rfl,s',H6,hsp,hl6⟩
   go_wp2_with fail
   refine bodyPost_end (results_none rfl _ _ _) rfl ⟨rfl,s',H6,?_,hl5.trans hl6⟩
   rw [hsp,← HS.out]
   simp [Sp.begin,firstP,HK.out,Sv.sp,pd0,pieceP,roomN]
  · -- 2
   have e0 : (Value.agg #[c0,c1,c2]) = ((stT b2 b9).lookup 2).getD stZ := by rw [← hlk,hk]
   simp only [stT,List.lookup,Option.getD,Int.reduceBEq] at e0
   injection e0 with e0
   injection e0 with e0
   injection e0 with e0 e1
   injection e1 with e1 e2
   injection e2 with e2 _
   unfold whV at e2
   rw [e2] at s2
   have hok : ok = true := by rw [hokv,hk]; rfl
   subst hok
   have HK := Lib.hid hk
   clear e0 e1 e2 hlk hokv hk
   go_wp2_with fail
   refine (whole1_any _ t.kd t.fi t.la t.ha (.slice a L c) t.of (.slice none 0 0) t.bad b2 (b2 + 1) 16 10240 (by omega) _ h4.k2 h4.n2).mono ?_
   rintro e w5 ⟨rfl,hB5⟩
   have H5 := H.below hB5
   have hl5 := hBw.trans (hB5.mono (by have := hBw.size; omega))
   clear m0 m1 m2 m3 m4 m5 m6 m7 s2
   go_wp2_with fail
   refine (send_any ⟨16,0,1,65535,43980465115136,9223372588214596859,0,0,0,false,[]⟩ (.slice none 0 0) (.slice none 0 0) _ B X s1 H5 (BD.nil _ _) (SR.nil _ _) (by simp) hp1).mono ?_
   rintro e w6 ⟨rfl,s',H6,hsp,hl6⟩
   go_wp2_with fail
   refine bodyPost_end (results_none rfl _ _ _) rfl ⟨rfl,s',H6,?_,hl5.trans hl6⟩
   rw [hsp,← HS.out]
   simp [Sp.begin,firstP,HK.out,Sv.sp,pd0,pieceP,roomN]
  · -- 3
   have e0 : (Value.agg #[c0,c1,c2]) = ((stT b2 b9).lookup 3).getD stZ := by rw [← hlk,hk]
   simp only [stT,List.lookup,Option.getD,Int.reduceBEq] at e0
   injection e0 with e0
   injection e0 with e0
   injection e0 with e0 e1
   injection e1 with e1 e2
   injection e2 with e2 _
   unfold fnV at e2
   rw [e2] at s2
   have hok : ok = true := by rw [hokv,hk]; rfl
   subst hok
   have HK := Lib.hid hk
   clear e0 e1 e2 hlk hokv hk
   go_wp2_with fail
   refine (chars_any _ t.kd t.fi t.la t.ha (.slice a L c) t.of (.slice none 0 0) t.bad _).mono ?_
   rintro e w5 ⟨rfl,hB5⟩
   have H5 := H.below hB5
   have hl5 := hBw.trans (hB5.mono (by have := hBw.size; omega))
   clear m0 m1 m2 m3 m4 m5 m6 m7 s2
   go_wp2_with fail
   refine (send_any ⟨8,0,t.fi,t.la,43993350017024,9223372588214596859,0,0,0,false,[]⟩ (.slice none 0 0) (.slice none 0 0) _ B X s1 H5 (BD.nil _ _) (SR.nil _ _) (by simp) hp1).mono ?_
   rintro e w6 ⟨rfl,s',H6,hsp,hl6⟩
   go_wp2_with fail
   refine bodyPost_end (results_none rfl _ _ _) rfl ⟨rfl,s',H6,?_,hl5.trans hl6⟩
   rw [hsp,← HS.out]
   simp [Sp.begin,firstP,HK.out,Sv.sp,pd0,pieceP,roomN]
  · -- 4
   have e0 : (Value.agg #[c0,c1,c2]) = ((stT b2 b9).lookup 4).getD stZ := by rw [← hlk,hk]
   simp only [stT,List.lookup,Option.getD,Int.reduceBEq] at e0
   injection e0 with e0
   injection e0 with e0
   injection e0 with e0 e1
   injection e1 with e1 e2
   injection e2 with e2 _
   unfold fnV at e2
   rw [e2] at s2
   have hok : ok = true := by rw [hokv,hk]; rfl
   subst hok
   have HK := Lib.hid hk
   clear e0 e1 e2 hlk hokv hk
   go_wp2_with fail
   refine (descs_any _ t.kd t.fi t.la t.ha (.slice a L c) t.of (.slice none 0 0) t.bad _).mono ?_
   rintro e w5 ⟨rfl,hB5⟩
   have H5 := H.below hB5
   have hl5 := hBw.trans (hB5.mono (by have := hBw.size; omega))
   clear m0 m1 m2 m3 m4 m5 m6 m7 s2
   go_wp2_with fail
   refine (send_any ⟨4,0,t.fi,t.la,0,0,0,0,0,false,[]⟩ (.slice none 0 0) (.slice none 0 0) _ B X s1 H5 (BD.nil _ _) (SR.nil _ _) (by simp) hp1).mono ?_
   rintro e w6 ⟨rfl,s',H6,hsp,hl6⟩
   go_wp2_with fail
   refine bodyPost_end (results_none rfl _ _ _) rfl ⟨rfl,s',H6,?_,hl5.trans hl6⟩
   rw [hsp,← HS.out]
   simp [Sp.begin,firstP,HK.out,Sv.sp,pd0,pieceP,roomN]
  · -- 5
   have e0 : (Value.agg #[c0,c1,c2]) = ((stT b2 b9).lookup 5).getD stZ := by rw [← hlk,hk]
   simp only [stT,List.lookup,Option.getD,Int.reduceBEq] at e0
   injection e0 with e0
   injection e0 with e0
   injection e0 with e0 e1
   injection e1 with e1 e2
   injection e2 with e2 _
   unfold fnV at e2
   rw [e2] at s2
   have hok : ok = true := by rw [hokv,hk]; rfl
   subst hok
   have HK := Lib.hid hk
   clear e0 e1 e2 hlk hokv hk
   go_wp2_with fail
   refine (reading_any _ t.kd t.fi t.la t.ha (.slice a L c) t.of (.slice none 0 0) t.bad _).mono ?_
   rintro e w5 ⟨rfl,hB5⟩
   have H5 := H.below hB5
   have hl5 := hBw.trans (hB5.mono (by have := hBw.size; omega))
   clear m0 m1 m2 m3 m4 m5 m6 m7 s2
   go_wp2_with fail
   refine (send_any ⟨10,0,t.ha,0,0,0,0,0,0,false,[]⟩ (.slice none 0 0) (.slice none 0 0) _ B X s1 H5 (BD.nil _ _) (SR.nil _ _) (by simp) hp1).mono ?_
   rintro e w6 ⟨rfl,s',H6,hsp,hl6⟩
   go_wp2_with fail
   refine bodyPost_end (results_none rfl _ _ _) rfl ⟨rfl,s',H6,?_,hl5.trans hl6⟩
   rw [hsp,← HS.out]
   simp [Sp.begin,firstP,HK.out,Sv.sp,pd0,pieceP,roomN]
  · -- 6
   have e0 : (Value.agg #[c0,c1,c2]) = ((stT b2 b9).lookup 6).getD stZ := by rw [← hlk,hk]
   simp only [stT,List.lookup,Option.getD,Int.reduceBEq] at e0
   injection e0 with e0
   injection e0 with e0
   injection e0 with e0 e1
   injection e1 with e1 e2
   injection e2 with e2 _
   unfold fnV at e2
   rw [e2] at s2
   have hok : ok = true := by rw [hokv,hk]; rfl
   subst hok
   have HK := Lib.hid hk
   clear e0 e1 e2 hlk hokv hk
   go_wp2_with fail
   refine (reading_any _ t.kd t.fi t.la t.ha (.slice a L c) t.of (.slice none 0 0) t.bad _).mono ?_
   rintro e w5 ⟨rfl,hB5⟩
   have H5 := H.below hB5
   have hl5 := hBw.trans (hB5.mono (by have := hBw.size; omega))
   clear m0 m1 m2 m3 m4 m5 m6 m7 s2
   go_wp2_with fail
   refine (send_any ⟨10,0,t.ha,0,0,0,0,0,0,false,[]⟩ (.slice none 0 0) (.slice none 0 0) _ B X s1 H5 (BD.nil _ _) (SR.nil _ _) (by simp) hp1).mono ?_
   rintro e w6 ⟨rfl,s',H6,hsp,hl6⟩
   go_wp2_with fail
   refine bodyPost_end (results_none rfl _ _ _) rfl ⟨rfl,s',H6,?_,hl5.trans hl6⟩
   rw [hsp,← HS.out]
   simp [Sp.begin,firstP,HK.out,Sv.sp,pd0,pieceP,roomN]
  ·by_cases hR : (t.vs.length : Int) ≤ roomI 18 s1.c.mt
   · -- 7, short
    have hR' : (t.vs.length : Int) ≤ roomI 18 s.c.mt := by rw [← HS.out] at hR; exact hR
    have e0 : (Value.agg #[c0,c1,c2]) = ((stT b2 b9).lookup 7).getD stZ := by rw [← hlk,hk]
    simp only [stT,List.lookup,Option.getD,Int.reduceBEq] at e0
    injection e0 with e0
    injection e0 with e0
    injection e0 with e0 e1
    injection e1 with e1 e2
    injection e2 with e2 _
    unfold fnV at e2
    rw [e2] at s2
    have hok : ok = true := by rw [hokv,hk]; rfl
    subst hok
    have HK := Lib.hid hk
    clear e0 e1 e2 hlk hokv hk
    go_wp2_with fail
    rw [HOF.out]
    refine (writing_short X s1.c.mt t.kd t.fi t.la t.ha (.slice a L c) (.slice none 0 0) t.bad t.vs _ (H.blk.cell (j := 0) rfl) hbv HM.out hR).mono ?_
    rintro e w5 ⟨vv,rfl,hvv,hov,hB5⟩
    have H5 := H.below hB5
    have hl5 := hBw.trans (hB5.mono (by have := hBw.size; omega))
    clear m0 m1 m2 m3 m4 m5 m6 m7 s2
    go_wp2_with fail
    refine (send_any ⟨18,0,t.ha,0,0,0,0,0,0,false,t.vs⟩ (vv) (.slice none 0 0) _ B X s1 H5 (BD.new hvv hov H.lts) (SR.nil _ _) (HM.out) hp1).mono ?_
    rintro e w6 ⟨rfl,s',H6,hsp,hl6⟩
    go_wp2_with fail
    refine bodyPost_end (results_none rfl _ _ _) rfl ⟨rfl,s',H6,?_,hl5.trans hl6⟩
    rw [hsp,← HS.out]
    simp [Sp.begin,firstP,HK.out,Sv.sp,pd0,pieceP,roomN,hR']
   · -- 7, long
    have hR := Int.lt_of_not_ge hR
    have hR' : ¬ (t.vs.length : Int) ≤ roomI 18 s.c.mt := by rw [← HS.out] at hR; have : s.c.mt = s.c.mt := rfl; exact Int.not_le.2 hR
    have e0 : (Value.agg #[c0,c1,c2]) = ((stT b2 b9).lookup 7).getD stZ := by rw [← hlk,hk]
    simp only [stT,List.lookup,Option.getD,Int.reduceBEq] at e0
    injection e0 with e0
    injection e0 with e0
    injection e0 with e0 e1
    injection e1 with e1 e2
    injection e2 with e2 _
    unfold fnV at e2
    rw [e2] at s2
    have hok : ok = true := by rw [hokv,hk]; rfl
    subst hok
    have HK := Lib.hid hk
    clear e0 e1 e2 hlk hokv hk
    go_wp2_with fail
    rw [HOF.out]
    refine (writing_long X s1.c.mt t.kd t.fi t.la t.ha (.slice a L c) (.slice none 0 0) t.bad t.vs _ (H.blk.cell (j := 0) rfl) hbv HM.out hR).mono ?_
    rintro e w5 ⟨vv,rfl,hvv,hov,hB5⟩
    have H5 := H.below hB5
    have hl5 := hBw.trans (hB5.mono (by have := hBw.size; omega))
    clear m0 m1 m2 m3 m4 m5 m6 m7 s2
    go_wp2_with fail
    refine (send_any ⟨22,0,t.ha,0,0,0,0,0,0,false,(t.vs.take (roomI 22 s1.c.mt).toNat)⟩ (vv) (.slice none 0 0) _ B X s1 H5 (BD.new hvv hov H.lts) (SR.nil _ _) (by have := HM.out; rw [List.length_take]; omega) hp1).mono ?_
    rintro e w6 ⟨rfl,s',H6,hsp,hl6⟩
    go_wp2_with fail
    refine bodyPost_end (results_none rfl _ _ _) rfl ⟨rfl,s',H6,?_,hl5.trans hl6⟩
    rw [hsp,← HS.out]
    simp [Sp.begin,firstP,HK.out,Sv.sp,pd0,pieceP,roomN,HOF.out]
    rw [if_neg (Int.not_le.2 hR')]
  · -- 8
   have e0 : (Value.agg #[c0,c1,c2]) = ((stT b2 b9).lookup 8).getD stZ := by rw [← hlk,hk]
   simp only [stT,List.lookup,Option.getD,Int.reduceBEq] at e0
   injection e0 with e0
   injection e0 with e0
   injection e0 with e0 e1
   injection e1 with e1 e2
   injection e2 with e2 _
   unfold fnV at e2
   rw [e2] at s2
   have hok : ok = true := by rw [hokv,hk]; rfl
   subst hok
   have HK := Lib.hid hk
   clear e0 e1 e2 hlk hokv hk
   go_wp2_with fail
   rw [HOF.out]
   refine (piece0_any X s1.c.mt t.kd t.fi t.la t.ha (.slice a L c) (.slice none 0 0) t.bad t.vs _ (H.blk.cell (j := 0) rfl) hbv HM.out).mono ?_
   rintro e w5 ⟨vv,rfl,hvv,hov,hB5⟩
   have H5 := H.below hB5
   have hl5 := hBw.trans (hB5.mono (by have := hBw.size; omega))
   clear m0 m1 m2 m3 m4 m5 m6 m7 s2
   go_wp2_with fail
   refine (send_any ⟨22,0,t.ha,0,0,0,0,0,0,false,(t.vs.take (roomI 22 s1.c.mt).toNat)⟩ (vv) (.slice none 0 0) _ B X s1 H5 (BD.new hvv hov H.lts) (SR.nil _ _) (by have := HM.out; rw [List.length_take]; omega) hp1).mono ?_
   rintro e w6 ⟨rfl,s',H6,hsp,hl6⟩
   go_wp2_with fail
   refine bodyPost_end (results_none rfl _ _ _) rfl ⟨rfl,s',H6,?_,hl5.trans hl6⟩
   rw [hsp,← HS.out]
   simp [Sp.begin,firstP,HK.out,Sv.sp,pd0,pieceP,roomN,HOF.out]
  · -- 9
   have e0 : (Value.agg #[c0,c1,c2]) = ((stT b2 b9).lookup 9).getD stZ := by rw [← hlk,hk]
   simp only [stT,List.lookup,Option.getD,Int.reduceBEq] at e0
   injection e0 with e0
   injection e0 with e0
   injection e0 with e0 e1
   injection e1 with e1 e2
   injection e2 with e2 _
   unfold whV at e2
   rw [e2] at s2
   have hok : ok = true := by rw [hokv,hk]; rfl
   subst hok
   have HK := Lib.hid hk
   clear e0 e1 e2 hlk hokv hk
   go_wp2_with fail
   refine (whole1_any _ t.kd t.fi t.la t.ha (.slice a L c) t.of (.slice none 0 0) t.bad b9 (b9 + 1) 8 11050 (by omega) _ h4.k9 h4.n9).mono ?_
   rintro e w5 ⟨rfl,hB5⟩
   have H5 := H.below hB5
   have hl5 := hBw.trans (hB5.mono (by have := hBw.size; omega))
   clear m0 m1 m2 m3 m4 m5 m6 m7 s2
   go_wp2_with fail
   refine (send_any ⟨8,0,1,65535,47459388624896,9223372588214596859,0,0,0,false,[]⟩ (.slice none 0 0) (.slice none 0 0) _ B X s1 H5 (BD.nil _ _) (SR.nil _ _) (by simp) hp1).mono ?_
   rintro e w6 ⟨rfl,s',H6,hsp,hl6⟩
   go_wp2_with fail
   refine bodyPost_end (results_none rfl _ _ _) rfl ⟨rfl,s',H6,?_,hl5.trans hl6⟩
   rw [hsp,← HS.out]
   simp [Sp.begin,firstP,HK.out,Sv.sp,pd0,pieceP,roomN]
  · -- none
   have hok : ok = false := by rw [hokv,stT_other _ _ _ hk]; rfl
   subst hok
   go_wp2_with fail
   refine bodyPost_end (results_none rfl _ _ _) rfl ⟨rfl,s1,H,?_,hBw⟩
   rw [← HS.out]
   have e : ∀ j : Int,1 ≤ j ∧ j ≤ 9 → ¬ t.kd = j := fun j hj => by omega
   simp [Sp.begin,firstP,Sv.sp,e]
end Go.Proofs.Ytldcihjddebciaa
