/- client with a server: a pair carries out a task. -/
import Derived.Test.YtldcihjddebciaaGreatDSdP
import Derived.Laws.ResultCell
set_option linter.unusedSimpArgs false
set_option linter.unusedVariables false
set_option maxRecDepth 100000
set_option maxHeartbeats 8000000
namespace Go.Proofs.YtldcihjddebciaaGreat
open Go.RowKit
theorem clv_fresh {w : World} {cs : List Value} {c : Cl} {T : Nat} (h : ClV w (.agg cs.toArray) c) (hT : w.heap.size ≤ T) : WOff T (.agg cs.toArray) c := by
 obtain ⟨bv,fv,ab,ai,wv,e,h1,h2,h3,h4,qs,h5,h6,h7⟩ := h
 intro cs' e' u hu
 rw [e] at e'
 simp only [Value.agg.injEq] at e'
 have e2 : clc c bv fv ab ai wv = cs' := by simpa using congrArg Array.toList e'
 subst e2
 have hu : u = wv := by simpa [clc] using hu.symm
 subst hu
 rcases h6.lies with h0 | ⟨b,hb,hlt⟩
 ·exact .inl (by rw [← h5,List.length_map]; exact h0)
 ·exact .inr fun k hk => by rw [hb] at hk; injection hk with hk; omega
theorem psv_fresh {w : World} {v : Value} {ps : List Pd} {T : Nat} (h : PsV w v ps) (hT : w.heap.size ≤ T) : ps.length = 0 ∨ Off T v := by
 obtain ⟨qs,h1,h2,h3⟩ := h
 rcases h2.lies with h0 | ⟨b,hb,hlt⟩
 ·exact .inl (by rw [← h1,List.length_map]; exact h0)
 ·exact .inr fun k hk => by rw [hb] at hk; injection hk with hk; omega
theorem rsv_fresh {w : World} {v : Value} {us : List Rs} {T : Nat} (h : RsV w v us) (hT : w.heap.size ≤ T) : us.length = 0 ∨ Off T v := by
 obtain ⟨qs,h1,h2,h3⟩ := h
 rcases h2.lies with h0 | ⟨b,hb,hlt⟩
 ·exact .inl (by rw [← h1,List.length_map]; exact h0)
 ·exact .inr fun k hk => by rw [hb] at hk; injection hk with hk; omega
theorem psv_one {w : World} {v : Value} {p : Pd} (h : PsV w v [p]) : ∃ b o c av iv,v = .slice (some ⟨b,o,none⟩) 1 c ∧ w.rangeAt b o (pdc p av iv) ∧ BV w av p.vs ∧ SR w iv 0 5 [] := by
 obtain ⟨qs,h1,h2,h3⟩ := h
 have l1 : qs.length = 1 := by have := congrArg List.length h1; simpa using this
 obtain ⟨⟨p',av,iv⟩,hq⟩ := List.length_eq_one_iff.1 l1
 subst hq
 simp only [List.map_cons,List.map_nil,List.cons.injEq,and_true] at h1
 subst h1
 obtain ⟨b,o,d,q1,rows⟩ := sr_rows penc (fun _ => rfl) h2 (by simp)
 have h5 := rows 0 (p',av,iv) rfl
 rw [Nat.zero_mul,Nat.add_zero] at h5
 exact ⟨b,o,d,av,iv,q1,h5,(h3 (p',av,iv) (by simp)).1,(h3 (p',av,iv) (by simp)).2⟩
theorem rsv_one {w : World} {v : Value} {r : Rs} (h : RsV w v [r]) : ∃ b o c av fv,v = .slice (some ⟨b,o,none⟩) 1 c ∧ w.rangeAt b o (rsc r av fv) ∧ BV w av r.vs ∧ FdV w fv r.fo := by
 obtain ⟨qs,h1,h2,h3⟩ := h
 have l1 : qs.length = 1 := by have := congrArg List.length h1; simpa using this
 obtain ⟨⟨p',av,iv⟩,hq⟩ := List.length_eq_one_iff.1 l1
 subst hq
 simp only [List.map_cons,List.map_nil,List.cons.injEq,and_true] at h1
 subst h1
 obtain ⟨b,o,d,q1,rows⟩ := sr_rows renc (fun _ => rfl) h2 (by simp)
 have h5 := rows 0 (p',av,iv) rfl
 rw [Nat.zero_mul,Nat.add_zero] at h5
 exact ⟨b,o,d,av,iv,q1,h5,(h3 (p',av,iv) (by simp)).1,(h3 (p',av,iv) (by simp)).2⟩
theorem clv_k {w : World} {cs : List Value} {c : Cl} (h : ClV w (.agg cs.toArray) c) : ∃ k : Cv,cs = k.cells c := by
 obtain ⟨bv,fv,ab,ai,wv,e,_⟩ := h
 simp only [Value.agg.injEq] at e
 have e' : cs = clc c bv fv ab ai wv := by simpa using congrArg Array.toList e
 exact ⟨⟨bv,fv,ab,ai,wv,[]⟩,e'⟩
theorem svv_k {w : World} {ss : List Value} {s : Ss} (h : SvV w (.agg ss.toArray) s) : ∃ dv qv uv ov,ss = svc s dv qv uv ov := by
 obtain ⟨dv,qv,uv,ov,e,_⟩ := h
 simp only [Value.agg.injEq] at e
 exact ⟨dv,qv,uv,ov,by simpa using congrArg Array.toList e⟩
theorem svv_one {w : World} {ss : List Value} {s : Ss} (h : SvV w (.agg ss.toArray) s) : ss.toArray.all (·.oneCell') = true := by
 obtain ⟨a6,n6,c6,a7,n7,c7,a8,n8,c8,a9,n9,c9,rfl⟩ := svv_cells h
 simp [svc,Value.oneCell']
theorem blk_types {w : World} {b b' : Nat} {t t' : TypeId} {l l' : List Value} (h : Blk w b t l) (h' : Blk w b' t' l') (hne : t ≠ t') : b ≠ b' := fun e => by
 subst e
 have h1 : w.heap[b]? = some (.cells l.toArray t (0,0)) := h
 have h2 : w.heap[b]? = some (.cells l'.toArray t' (0,0)) := h'
 rw [h1] at h2
 injection h2 with h2
 injection h2 with _ h2
 exact hne h2
/-- an answer in its block -/
structure AV (w : World) (ab : Nat) (p : Pd) (l : List Im) : Prop where
 row : ∃ bv iv,Blk w ab 49 (pdc p bv iv) ∧ BV w bv p.vs ∧ ∃ qs : List (Im × Value),qs.map (·.1) = l ∧ SR w iv qs.length 5 (qs.flatMap ienc) ∧ ∀ q ∈ qs,BV w q.2 q.1.bs
theorem AV.below {w w' : World} {ab : Nat} {p : Pd} {l : List Im} (h : AV w ab p l) (hb : Below w.heap.size w w') : AV w' ab p l := by
 obtain ⟨bv,iv,h3,h4,qs,h5,h6,h7⟩ := h.row
 exact ⟨bv,iv,h3.below hb,h4.below hb,qs,h5,SR.below h6 hb,fun q hq => (h7 q hq).below hb⟩
theorem AV.kept {w w' : World} {ab : Nat} {p : Pd} {l : List Im} {rb : Nat} {t : TypeId} {zs : List Value} (h : AV w ab p l) (hne : 49 ≠ t) (hn : Nox zs) (hz : Blk w rb t zs) (hg : w.grownBy w' (some rb)) : AV w' ab p l := by
 obtain ⟨bv,iv,h3,h4,qs,h5,h6,h7⟩ := h.row
 have hne' := blk_types h3 hz hne
 refine ⟨bv,iv,h3.kept hg (fun e => hne' (by injection e)),h4.notc hn.nob hz hg,qs,h5,h6.norun hn.it5 (by simp) hz hg fun h0 j c hj => ?_,fun q hq => (h7 q hq).notc hn.nob hz hg⟩
 cases qs with
 |nil => exact absurd h0 (by simp)
 |cons q r =>
  obtain ⟨a,cp,e⟩ := (h7 q (by simp)).form
  match j,hj with
  |0,hj => exact ⟨_,rfl,by simpa [code] using hj⟩
  |1,hj => exact ⟨_,rfl,by simpa [code] using hj⟩
  |2,hj => exact ⟨_,rfl,by simpa [code] using hj⟩
  |3,hj => exact ⟨_,rfl,by simpa [code] using hj⟩
  |4,hj => exact ⟨_,rfl,by rw [e]; simpa [code] using hj⟩
theorem AnsV.av {B : Nat} {w : World} {v : Value} {p : Pd} {l : List Im} (h : AnsV B w v p l) : ∃ ab,v = .slice (some ⟨ab,0,none⟩) 1 1 ∧ B ≤ ab ∧ AV w ab p l := by
 obtain ⟨b,bv,iv,h1,h2,h3⟩ := h.row
 exact ⟨b,h1,h2,bv,iv,h3⟩
theorem clv_one {w : World} {cs : List Value} {c : Cl} (h : ClV w (.agg cs.toArray) c) : cs.toArray.all (·.oneCell') = true := by
 obtain ⟨a1,n1,c1,a2,n2,c2,a3,n3,c3,a4,n4,c4,a5,n5,c5,rfl⟩ := clv_cells h
 simp [clc,Value.oneCell']
theorem RsV.form1 {w : World} {v : Value} {us : List Rs} (h : RsV w v us) : ∃ a c,v = .slice a us.length c := by
 obtain ⟨qs,h1,h2,_⟩ := h
 obtain ⟨_,_,_,ao,cap,e,_,_⟩ := h2
 exact ⟨ao,cap,by rw [e,← h1,List.length_map]⟩
theorem PR.other {w w' : World} {X rb : Nat} {cs ss : List Value} {c : Cl} {s : Ss} {ok : Bool} {t : TypeId} {zs : List Value} (h : PR w X cs ss c s ok) (hn : Nox zs) (hz : Blk w rb t zs) (hg : w.grownBy w' (some rb)) (hne : X ≠ rb) (ho : WOff rb (.agg cs.toArray) c) : PR w' X cs ss c s ok :=
 ⟨h.blk.kept hg (fun e => hne (by injection e)),h.lc,h.ls,h.cv.kept hn.nob hz hg ho,h.off,h.sv.kept hn hz hg⟩
theorem KX.new {X b : Nat} {w w1 w2 : World} (h : KX X w w1) (hg : w1.grownBy w2 (some b)) (hb : w.heap.size ≤ b) (hX : X ≤ b) (hs : X ≤ w1.heap.size) : KX X w w2 :=
 ⟨h.lo.grown hg hs (fun k hk => by cases hk; exact hX),⟨Nat.le_trans h.kp.1 hg.size,fun k hk hne => (hg.block k (Nat.lt_of_lt_of_le hk h.kp.1) (fun e => by injection e with e; omega)).trans (h.kp.2 k hk hne)⟩⟩
theorem czl_nob : Nob czl := (nob_code (by simp only [czl,List.map_cons,List.map_nil,code]; decide) (by simp only [czl,List.map_cons,List.map_nil,code]; decide))
theorem do_any {st : Ss → Pd → Ss × Pd × List Im} {G : Cl → Ss → Pd → Prop} (H : HOk st G) (X : Nat) (cs ss : List Value) (c : Cl) (s : Ss) (t : Tk) (ta : Option Addr) (tn tq : Nat) (fa : Option Addr) (FN fc : Nat) (q : Pd) (r : Rs) (c1 c2 : Cl) (s2 : Ss) (w : World)
 (hP : PR w X cs ss c s true) (hOk : ClOk c) (hb : BV w (.slice ta tn tq) t.vs) (hm : t.vs.length ≤ 1000000) (hkd : (Lit.int .i64 t.kd).wf = true)
 (h1 : (startP c t 0).2 = 0) (h2 : (startP c t 0).1.c = c1) (h3 : (startP c t 0).1.ps = [q]) (hp : PlayG st G 3000 c1 s q r c2 s2) (hr : r.tk = t.kd) (hbz : c2.busy = false) :
 Calls Tryz.prog 12 #[.pointer (some ⟨X,0,none⟩),.agg #[.int .i64 t.kd,.int .u16 t.fi,.int .u16 t.la,.int .u16 t.ha,.slice ta tn tq,.int .i64 t.of,.slice fa FN fc,.bool t.bad]] w fun e w' => ∃ bv fv cs2 ss2,e = .returned (.agg (rsc r bv fv).toArray) ∧ BV w' bv r.vs ∧ FdV w' fv r.fo ∧ PR w' X cs2 ss2 c2 s2 true ∧ KX X w w' := by
 have hst := fun W (hW : Below w.heap.size w W) => start_any c (.agg cs.toArray) t (.slice ta tn tq) (.slice fa FN fc) 0 W (hP.cv.below hW) hOk (hb.below hW) ⟨fa,FN,fc,rfl⟩ hm hkd
 simp only [h1,h2,h3] at hst
 obtain ⟨k,rfl⟩ := clv_k hP.cv
 obtain ⟨dv,qv,uv,ov,rfl⟩ := svv_k hP.sv
 have HST := Lib.hid hst
 have HPL := Lib.hid (And.intro hp (And.intro hr hbz))
 have bK := (Blk.new w 46 [.int .i64 t.kd,.int .u16 t.fi,.int .u16 t.la,.int .u16 t.ha,.slice ta tn tq,.int .i64 t.of,.slice fa FN fc,.bool t.bad]).alloc (.cells #[.int .i64 0,.int .i64 0,.int .u16 0,.slice none 0 0,.slice none 0 0,.int .i64 0] 43)
 have bR := Blk.new (w.alloc (.cells #[.int .i64 t.kd,.int .u16 t.fi,.int .u16 t.la,.int .u16 t.ha,.slice ta tn tq,.int .i64 t.of,.slice fa FN fc,.bool t.bad] 46)) 43 [.int .i64 0,.int .i64 0,.int .u16 0,.slice none 0 0,.slice none 0 0,.int .i64 0]
 have hB := ((Below.refl w.heap.size w).alloc (Nat.le_refl _) (.cells #[.int .i64 t.kd,.int .u16 t.fi,.int .u16 t.la,.int .u16 t.ha,.slice ta tn tq,.int .i64 t.of,.slice fa FN fc,.bool t.bad] 46)).alloc (by simp) (.cells #[.int .i64 0,.int .i64 0,.int .u16 0,.slice none 0 0,.slice none 0 0,.int .i64 0] 43)
 have hz : (w.alloc (.cells #[.int .i64 t.kd,.int .u16 t.fi,.int .u16 t.la,.int .u16 t.ha,.slice ta tn tq,.int .i64 t.of,.slice fa FN fc,.bool t.bad] 46)).heap.size = w.heap.size + 1 := by simp
 rw [hz] at bR
 have hXl := hP.blk.lt
 have HXL := Lib.hid hXl
 clear hst hb hp hr hbz h1 h2 h3 hm hkd hOk hz hXl
 go_enter Tryz.func12,Tryz.ntmps12
 go_upto_region 1 with fail
 generalize hX : World.alloc (World.alloc w _) _ = V at bK bR hB ⊢
 clear hX
 have hP := hP.below hB
 go_cut [5,6,7] (fun p5 l6 e7 wx => ∃ (T : Nat) (k1 : Cv) (la : Option Addr) (lc : Nat),p5 = .pointer (some ⟨T,0,none⟩) ∧ l6 = .slice la 1 lc ∧ e7 = .int .i64 0 ∧ Blk wx T 52 (k1.cells c1) ∧ ClV wx (.agg (k1.cells c1).toArray) c1 ∧ WOff X (.agg (k1.cells c1).toArray) c1 ∧ PsV wx (.slice la 1 lc) [q] ∧ Off X (.slice la 1 lc) ∧ V.heap.size ≤ T ∧ Below V.heap.size V wx)
 case first =>
  have hdr := (Below.refl V.heap.size V).drew
  have hP := hP.below hdr
  have bK := bK.below hdr
  have hB := hB.trans (hdr.mono hB.size)
  have hVd := hdr
  have hBd := Below.refl V.drew.heap.size V.drew
  clear bR
  refine wp_region_held_drew (S := (fun W' : World => W'.rangeAt X 0 (k.cells c) ∧ W'.rangeAt w.heap.size 0 [.int .i64 t.kd,.int .u16 t.fi,.int .u16 t.la,.int .u16 t.ha,.slice ta tn tq,.int .i64 t.of,.slice fa FN fc,.bool t.bad])) (by kernel_rfl) (⟨(hP.below hBd).rc,(bK.below hBd).range 0 _ (fun j v hv => by rw [Nat.zero_add]; exact hv)⟩) (fun hHeld => ?_)
  generalize World.drew _ = wd at hHeld hP bK hB hdr hVd hBd ⊢
  repeat' first
   |refine tkU 0 ?_
   |refine tkU 1 ?_
   |refine tkU 2 ?_
   |refine tkN 3 52 X 0 (k.cells c) (fun _ h => h.1) Tryz.underlying52 ?_
   |refine tkN 4 46 w.heap.size 0 [.int .i64 t.kd,.int .u16 t.fi,.int .u16 t.la,.int .u16 t.ha,.slice ta tn tq,.int .i64 t.of,.slice fa FN fc,.bool t.bad] (fun _ h => h.2) Tryz.underlying46 ?_
   |refine tkU 6 ?_
   |refine tkU 7 ?_
   |refine tkU 8 ?_
   |refine tkU 9 ?_
   |refine tkU 12 ?_
   |refine tkU 13 ?_
   |(refine opn 5 fun K hK => ?_
     go_simp
     have hlX := hP.blk.lt
     have hlV := hVd.size
     go_at_call 20
     refine (HST.out _ (hB.trans (hBd.mono hB.size))).mono ?_
     rintro e w3 ⟨v',o,rfl,hco,hpo,hC⟩
     obtain ⟨k1,rfl,one1⟩ := hco.1.kv
     obtain ⟨hps,hpoff,la,lc,hol,-⟩ := hpo
     have hol : o = .slice la 1 lc := hol
     subst hol
     have hc1 := hco.1
     have hcX := hco.2 X (Nat.lt_of_lt_of_le hlX hBd.size)
     have hpX := hpoff X (Nat.lt_of_lt_of_le hlX hBd.size)
     try have hoT := hco.2 _ bT.lt
     try have hpT : [q].length = 0 ∨ _ := .inr (hpoff _ bT.lt)
     try have bT := bT.below hC
     have hBd := hBd.trans (hC.mono hBd.size)
     clear hC hpoff hco
     refine hK.out _ _ (⟨(hP.below hBd).rc,(bK.below hBd).range 0 _ (fun j v hv => by rw [Nat.zero_add]; exact hv)⟩) (fun h => ?_)
     replace hHeld := h
     clear hK K h
     try simp only [Act.put,List.setIfInBounds_toArray,List.set_cons_zero,List.set_cons_succ])
   |(refine opn 10 fun K hK => ?_
     go_simp
     have hlV := hVd.size
     have hlB := hBd.size
     generalize hX : World.alloc _ (.cells _ 52) = w4
     obtain ⟨hnb,hB4,hz4⟩ := alloc_named hX
     have bT : Blk w4 _ 52 czl := hnb
     try have hoT := clv_fresh hc1 (Nat.le_refl _)
     try have hpT := psv_fresh hps (Nat.le_refl _)
     try have hc1 := hc1.below hB4
     try have hps := hps.below hB4
     have hTge : V.heap.size ≤ _ := Nat.le_trans hlV hlB
     have hBd := hBd.trans (hB4.mono hBd.size)
     clear hX hnb hB4 hz4
     refine hK.out _ _ (⟨(hP.below hBd).rc,(bK.below hBd).range 0 _ (fun j v hv => by rw [Nat.zero_add]; exact hv)⟩) (fun h => ?_)
     replace hHeld := h
     clear hK K h
     try simp only [Act.put,List.setIfInBounds_toArray,List.set_cons_zero,List.set_cons_succ])
   |(refine opn 11 fun K hK => ?_
     refine step_store_mid (by rfl) 52 _ _ (by rfl) _ 0 (k1.cells c1).toArray (by rfl) (by rfl) (bT.there 0 26 (by simp [czl])) (by kernel_rfl) one1 ?_
     generalize hX : World.setCells _ _ 0 _ = w9
     obtain ⟨hg9,bT9⟩ := put_namedB bT hX rfl
     have hc1 := hc1.kept czl_nob bT hg9 hoT
     have hps := hps.kept czl_nob bT hg9 hpT
     have hBd := hBd.grown hg9 hBd.size (fun k hk => by cases hk; exact hlB)
     clear hX hg9 bT
     refine hK.out _ _ (⟨(hP.below hBd).rc,(bK.below hBd).range 0 _ (fun j v hv => by rw [Nat.zero_add]; exact hv)⟩) (fun h => ?_)
     replace hHeld := h
     clear hK K h
     try simp only [Act.put,List.setIfInBounds_toArray,List.set_cons_zero,List.set_cons_succ])
   |refine rd2 5 10 ?_ ?_
   |refine rd1 10 ?_
   |refine rd1 11 ?_
   |refine rd1 5 ?_
   |(refine wpAnyH_done (by kernel_rfl) ?_ _
     go_wp2_with fail
     go_meet
     exact ⟨_,k1,la,lc,rfl,rfl,rfl,bT9,hc1,hcX,hps,hpX,hTge,hVd.trans (hBd.mono hVd.size)⟩)
 case rest =>
  obtain ⟨T,k1,la,lc,rfl,rfl,rfl,bT,hc1,hcX,hps,hpX,hTV,hBw⟩ := hcut
  have hXV := hP.blk.lt
  have hP := hP.below hBw
  have bK := bK.below hBw
  have bR := bR.below hBw
  have hB := hB.trans (hBw.mono hB.size)
  have hXw := HXL.out
  have rgT := bT.range 0 (k1.cells c1) (fun j v hv => by rw [Nat.zero_add]; exact hv)
  have hth := hP.there.1
  have one1 := clv_one hc1
  have hBws := hBw.size
  go_upto_region 3 with (first | (refine wpList_load_mid rfl 52 _ rfl T 0 rfl (k1.cells c1) _ rgT Tryz.underlying52 rfl (by kernel_rfl) ?_) | (refine wpList_store_mid rfl 52 _ _ rfl X 0 (k1.cells c1).toArray rfl rfl hth (by kernel_rfl) one1 ?_; simp only [Act.put]; generalize hW : World.setCells _ X 0 _ = w9; have HW := Lib.hid hW; clear hW))
  have hg9 := setCells_grown X (k1.cells c1) 0 wc
  have hP9 := hP.set_c rfl hc1 hcX
  rw [show wc.setCells X 0 (k1.cells c1) = w9 from HW.out] at hg9 hP9
  have hps := hps.kept hP.nox.nob hP.blk hg9 (.inr hpX)
  have bK := bK.kept hg9 (fun e => by injection e with e; omega)
  have bR := bR.kept hg9 (fun e => by injection e with e; omega)
  have hKX := ((KX.refl X w).below (by omega) hB).grown (by have := hB.size; omega) hg9
  clear HW hg9 rgT hth one1 hc1 hcX bT hTV hBw hBws hB hP
  have mX := hP9.cell
  have zX := hP9.blk.frozen 37
  go_upto_region 4 with fail
  have hg9 := set1 w9 ⟨X,37,none⟩ (.bool true)
  have hP := hP9.set_ok true
  have hps := hps.kept hP9.nox.nob hP9.blk hg9 (.inr hpX)
  have bK := bK.kept hg9 (fun e => by injection e with e; simp only at e; omega)
  have bR := bR.kept hg9 (fun e => by injection e with e; simp only at e; omega)
  have hXw9 := hKX.kp.1
  have hKX := hKX.grown (by omega) hg9
  generalize hX : World.setCell w9 _ _ = w10 at hP hps bK bR hKX ⊢
  have HS0 := Lib.hid (And.intro hP (And.intro hps (And.intro hpX (And.intro bK (And.intro bR hKX)))))
  clear hX hg9 mX zX hP9 hXw9 hP hps hpX bK bR hKX
  go_upto_region 5 with fail
  go_loopw [6,8] (fun lv iv wr => ∃ (kk n : Nat) (k : Cv) (dv qv uv ov : Value) (c : Cl) (s : Ss) (q : Pd) (la : Option Addr) (lc : Nat),lv = .slice la 1 lc ∧ iv = .int .i64 kk ∧ kk + n = 3000 ∧ PlayG st G n c s q r c2 s2 ∧ PR wr X (k.cells c) (svc s dv qv uv ov) c s true ∧ PsV wr (.slice la 1 lc) [q] ∧ Off X (.slice la 1 lc) ∧ Blk wr w.heap.size 46 [.int .i64 t.kd,.int .u16 t.fi,.int .u16 t.la,.int .u16 t.ha,.slice ta tn tq,.int .i64 t.of,.slice fa FN fc,.bool t.bad] ∧ Blk wr (w.heap.size + 1) 43 [.int .i64 0,.int .i64 0,.int .u16 0,.slice none 0 0,.slice none 0 0,.int .i64 0] ∧ KX X w wr) (fun _ iv _ => 3000 - (intOf iv).toNat)
  case atStart => exact ⟨0,3000,k1,dv,qv,uv,ov,c1,s,q,la,lc,rfl,by simp,rfl,HPL.out.1,HS0.out.1,HS0.out.2.1,HS0.out.2.2.1,HS0.out.2.2.2.1,HS0.out.2.2.2.2.1,HS0.out.2.2.2.2.2⟩
  case round =>
   clear HS0
   obtain ⟨kk,n,k,dv,qv,uv,ov,c,s,q,la,lc,rfl,rfl,hkn,hpl,hP,hps,hpX,bK,bR,hKX⟩ := hrel
   obtain ⟨n,rfl⟩ : ∃ n',n = n' + 1 := by cases hpl <;> exact ⟨_,rfl⟩
   have hg : G c s q := by cases hpl <;> assumption
   have hpl2 : ((handleP c (st s q).2.1 (st s q).2.2 0).us = [r] ∧ c2 = (handleP c (st s q).2.1 (st s q).2.2 0).c ∧ s2 = (st s q).1) ∨ ((handleP c (st s q).2.1 (st s q).2.2 0).us = [] ∧ ∃ q2,(handleP c (st s q).2.1 (st s q).2.2 0).ps = [q2] ∧ PlayG st G n (handleP c (st s q).2.1 (st s q).2.2 0).c (st s q).1 q2 r c2 s2) := by
    cases hpl with
    |done hg hu => exact .inl ⟨hu,rfl,rfl⟩
    |more hg hu hp h => exact .inr ⟨hu,_,hp,h⟩
   have HC := Lib.hid (H.hc c s q hg)
   have HG := Lib.hid hg
   have HPL2 := Lib.hid hpl2
   obtain ⟨lb,lo,lc',av,iv,e,rgQ,hav,hiv⟩ := psv_one hps
   cases e
   have HAV := Lib.hid (And.intro hav (And.intro hiv hpX))
   have g1 : decide (kk < 3000) = true := by simp; omega
   have g1i : decide ((kk : Int) < 3000) = true := by simp; omega
   have w1' : IntKind.i64.wrap ((kk : Int) + 1) = (kk : Int) + 1 := IntWalk.i64_in _ (by omega)
   have mX := hP.cell
   have HKN := Lib.hid hkn
   clear hpl hg hpl2 hps hav hiv hpX hkn
   go_upto_region 7 with fail
   clear mX g1 g1i
   go_cut [9,10] (fun p9 m10 wx => ∃ (T ab : Nat) (dv2 qv2 uv2 ov2 : Value),p9 = .pointer (some ⟨T,0,none⟩) ∧ m10 = .slice (some ⟨ab,0,none⟩) 1 1 ∧ Blk wx T 57 (svc (st s q).1 dv2 qv2 uv2 ov2) ∧ SvV wx (.agg (svc (st s q).1 dv2 qv2 uv2 ov2).toArray) (st s q).1 ∧ AV wx ab (st s q).2.1 (st s q).2.2 ∧ wr.heap.size ≤ T ∧ Below wr.heap.size wr wx)
   case first =>
    have hdr := (Below.refl wr.heap.size wr).drew
    have hP := hP.below hdr
    have rgQ := range_keep rgQ hdr
    have hav := HAV.out.1.below hdr
    have hVd := hdr
    have hBd := Below.refl wr.drew.heap.size wr.drew
    clear bK bR hKX hdr
    refine wp_region_held_drew (S := (fun W' : World => W'.rangeAt X 26 (svc s dv qv uv ov) ∧ W'.rangeAt lb lo (pdc q av iv))) (by kernel_rfl) (⟨(hP.below hBd).rs,range_keep rgQ hBd⟩) (fun hHeld => ?_)
    generalize World.drew _ = wd at hHeld hP rgQ hav hVd hBd ⊢
    repeat' first
     |refine tkU 0 ?_
     |refine tkU 1 ?_
     |refine tkU 2 ?_
     |refine tkN 3 57 X 26 (svc s dv qv uv ov) (fun _ h => h.1) Tryz.underlying57 ?_
     |refine tkU 4 ?_
     |refine tkU 5 ?_
     |refine tkN 6 49 lb lo (pdc q av iv) (fun _ h => h.2) Tryz.underlying49 ?_
     |refine tkU 8 ?_
     |refine tkU 9 ?_
     |refine tkU 10 ?_
     |refine tkU 11 ?_
     |refine tkU 14 ?_
     |refine tkU 15 ?_
     |(refine opn 7 fun K hK => ?_
       go_simp
       go_at_call 27
       refine (H.hs c s q _ av iv _ HG.out (hP.below hBd).sv (hav.below hBd) HAV.out.2.1.empty).mono ?_
       rintro e w3 ⟨sv',mv,lv',rfl,hsv,hA,hC⟩
       obtain ⟨dv2,qv2,uv2,ov2,rfl,-⟩ := id hsv
       obtain ⟨ab,rfl,-,hA⟩ := hA.av
       have one2 := svv_one hsv
       try have bT := bT.below hC
       have hBd := hBd.trans (hC.mono hBd.size)
       clear hC
       refine hK.out _ _ (⟨(hP.below hBd).rs,range_keep rgQ hBd⟩) (fun h => ?_)
       replace hHeld := h
       clear hK K h
       try simp only [Act.put,List.setIfInBounds_toArray,List.set_cons_zero,List.set_cons_succ])
     |(refine opn 12 fun K hK => ?_
       go_simp
       have hlV := hVd.size
       have hlB := hBd.size
       generalize hX : World.alloc _ (.cells _ 57) = w4
       obtain ⟨hnb,hB4,hz4⟩ := alloc_named hX
       have bT : Blk w4 _ 57 [.slice none 0 0,.int .i64 0,.int .i64 0,.int .i64 0,.slice none 0 0,.int .i64 0,.bool false,.slice none 0 0,.slice none 0 0,.bool false,.int .i64 0] := hnb
       try have hsv := hsv.below hB4
       try have hA := hA.below hB4
       have hTge : wr.heap.size ≤ _ := Nat.le_trans hlV hlB
       have hBd := hBd.trans (hB4.mono hBd.size)
       clear hX hnb hB4 hz4
       refine hK.out _ _ (⟨(hP.below hBd).rs,range_keep rgQ hBd⟩) (fun h => ?_)
       replace hHeld := h
       clear hK K h
       try simp only [Act.put,List.setIfInBounds_toArray,List.set_cons_zero,List.set_cons_succ])
     |(refine opn 13 fun K hK => ?_
       refine step_store_mid (by rfl) 57 _ _ (by rfl) _ 0 (svc (st s q).1 dv2 qv2 uv2 ov2).toArray (by rfl) (by rfl) (bT.there 0 11 (by simp)) (by kernel_rfl) one2 ?_
       generalize hX : World.setCells _ _ 0 _ = w9
       obtain ⟨hg9,bT9⟩ := put_namedB bT hX rfl
       have hn9 : Nox [.slice none 0 0,.int .i64 0,.int .i64 0,.int .i64 0,.slice none 0 0,.int .i64 0,.bool false,.slice none 0 0,.slice none 0 0,.bool false,.int .i64 0] := nox_code (by simp only [List.map_cons,List.map_nil,code]; decide) (by simp only [List.map_cons,List.map_nil,code]; decide) (by simp only [List.map_cons,List.map_nil,code]; decide) (by simp only [List.map_cons,List.map_nil,code]; decide) (by simp only [List.map_cons,List.map_nil,code]; decide)
       have hsv := hsv.kept hn9 bT hg9
       have hA := hA.kept (by decide) hn9 bT hg9
       have hBd := hBd.grown hg9 hBd.size (fun k hk => by cases hk; exact hlB)
       clear hX hg9 bT hn9
       refine hK.out _ _ (⟨(hP.below hBd).rs,range_keep rgQ hBd⟩) (fun h => ?_)
       replace hHeld := h
       clear hK K h
       try simp only [Act.put,List.setIfInBounds_toArray,List.set_cons_zero,List.set_cons_succ])
     |refine rd2 7 12 ?_ ?_
     |refine rd1 12 ?_
     |refine rd1 13 ?_
     |refine rd1 7 ?_
     |(refine wpAnyH_done (by kernel_rfl) ?_ _
       go_wp2_with fail
       go_meet
       exact ⟨_,_,dv2,qv2,uv2,ov2,rfl,rfl,bT9,hsv,hA,hTge,hVd.trans (hBd.mono hVd.size)⟩)
   case rest =>
    obtain ⟨T,ab,dv2,qv2,uv2,ov2,rfl,rfl,bT,hsv,hA,hTw,hBw⟩ := hcut
    have hXr := hP.blk.lt
    have hKr := bR.lt
    have hXw := HXL.out
    have hP := hP.below hBw
    have bK := bK.below hBw
    have bR := bR.below hBw
    have hKX := hKX.below (by omega) hBw
    have rgT := bT.range 0 (svc (st s q).1 dv2 qv2 uv2 ov2) (fun j v hv => by rw [Nat.zero_add]; exact hv)
    have hth := hP.there.2
    have one2 := svv_one hsv
    have hBs := hBw.size
    go_upto_region 9 with (first | (refine wpList_load_mid rfl 57 _ rfl T 0 rfl (svc (st s q).1 dv2 qv2 uv2 ov2) _ rgT Tryz.underlying57 rfl (by kernel_rfl) ?_) | (refine wpList_store_mid rfl 57 _ _ rfl X 26 (svc (st s q).1 dv2 qv2 uv2 ov2).toArray rfl rfl hth (by kernel_rfl) one2 ?_; simp only [Act.put]; generalize hW : World.setCells _ X 26 _ = w9; have HW := Lib.hid hW; clear hW))
    have hg9 := setCells_grown X (svc (st s q).1 dv2 qv2 uv2 ov2) 26 wc
    have hP9 := hP.set_s (ss2 := (svc (st s q).1 dv2 qv2 uv2 ov2)) rfl hsv
    rw [show wc.setCells X 26 (svc (st s q).1 dv2 qv2 uv2 ov2) = w9 from HW.out] at hg9 hP9
    have hA := hA.kept (by decide) hP.nox hP.blk hg9
    have bK := bK.kept hg9 (fun e => by injection e with e; omega)
    have bR := bR.kept hg9 (fun e => by injection e with e; omega)
    have hKX := hKX.grown (by omega) hg9
    have hXw9 := hP9.blk.lt
    have hRw9 := bR.lt
    clear HW hg9 rgT hth one2 hsv bT hTw hBw hBs hP hXr hKr rgQ
    go_upto_region 10 with fail
    go_cut [12,13,14] (fun p12 o13 r14 wx => ∃ (T2 : Nat) (k2 : Cv) (oa : Option Addr) (oc : Nat) (ra : Option Addr) (rc : Nat),p12 = .pointer (some ⟨T2,0,none⟩) ∧ o13 = .slice oa (handleP c (st s q).2.1 (st s q).2.2 0).ps.length oc ∧ r14 = .slice ra (handleP c (st s q).2.1 (st s q).2.2 0).us.length rc ∧ Blk wx T2 52 (k2.cells (handleP c (st s q).2.1 (st s q).2.2 0).c) ∧ ClV wx (.agg (k2.cells (handleP c (st s q).2.1 (st s q).2.2 0).c).toArray) (handleP c (st s q).2.1 (st s q).2.2 0).c ∧ (∀ rb,rb < w9.heap.size → WOff rb (.agg (k2.cells (handleP c (st s q).2.1 (st s q).2.2 0).c).toArray) (handleP c (st s q).2.1 (st s q).2.2 0).c) ∧ PsV wx (.slice oa (handleP c (st s q).2.1 (st s q).2.2 0).ps.length oc) (handleP c (st s q).2.1 (st s q).2.2 0).ps ∧ (∀ rb,rb < w9.heap.size → Off rb (.slice oa (handleP c (st s q).2.1 (st s q).2.2 0).ps.length oc)) ∧ RsV wx (.slice ra (handleP c (st s q).2.1 (st s q).2.2 0).us.length rc) (handleP c (st s q).2.1 (st s q).2.2 0).us ∧ (∀ rb,rb < w9.heap.size → Off rb (.slice ra (handleP c (st s q).2.1 (st s q).2.2 0).us.length rc)) ∧ w9.heap.size ≤ T2 ∧ Below w9.heap.size w9 wx)
    case first =>
     obtain ⟨abv,aiv,bA,habv,qsI,hqI,hsrI,hbvI⟩ := hA.row
     have hdr := (Below.refl w9.heap.size w9).drew
     have hP := hP9.below hdr
     have bA := bA.below hdr
     have habv := habv.below hdr
     have hsrI := SR.below hsrI hdr
     have hbvI : ∀ q ∈ qsI,BV w9.drew q.2 q.1.bs := fun q hq => (hbvI q hq).below hdr
     have hVd := hdr
     have hBd := Below.refl w9.drew.heap.size w9.drew
     have HQI := Lib.hid hqI
     clear bK bR hKX hdr hA hP9 hqI hXw9 hRw9
     refine wp_region_held_drew (S := (fun W' : World => W'.rangeAt X 0 (k.cells c) ∧ W'.rangeAt ab 0 (pdc (st s q).2.1 abv aiv))) (by kernel_rfl) (⟨(hP.below hBd).rc,(bA.below hBd).range 0 _ (fun j v hv => by rw [Nat.zero_add]; exact hv)⟩) (fun hHeld => ?_)
     generalize World.drew _ = wd at hHeld hP bA habv hsrI hbvI hVd hBd ⊢
     repeat' first
      |refine tkU 0 ?_
      |refine tkU 1 ?_
      |refine tkU 2 ?_
      |refine tkN 3 52 X 0 (k.cells c) (fun _ h => h.1) Tryz.underlying52 ?_
      |refine tkU 4 ?_
      |refine tkU 5 ?_
      |refine tkN 6 49 ab 0 (pdc (st s q).2.1 abv aiv) (fun _ h => h.2) Tryz.underlying49 ?_
      |refine tkU 8 ?_
      |refine tkU 9 ?_
      |refine tkU 10 ?_
      |refine tkU 11 ?_
      |refine tkU 14 ?_
      |refine tkU 15 ?_
      |(refine opn 7 fun K hK => ?_
        go_simp
        have hlV := hVd.size
        have hlB := hBd.size
        have hnd := fun W (hW : Below wd.heap.size wd W) => hnd_any c (.agg (k.cells c).toArray) (st s q).2.1 abv aiv qsI 0 W (hP.below hW).cv HC.out.1 (habv.below hW) (itb_ans (SR.below hsrI hW) (fun q hq => (hbvI q hq).below hW) (by rw [HQI.out]; exact HC.out.2.2.2.2)) HC.out.2.2.2.1 (by have h := HC.out.2.2.2.2.n; rw [← HQI.out,List.length_map] at h; exact h) HC.out.2.1 HC.out.2.2.1
        simp only [HQI.out] at hnd
        go_at_call 21
        refine (hnd _ hBd).mono ?_
        rintro e w3 ⟨v',o,ro,rfl,hco,hpo,hro,hC⟩
        obtain ⟨k2,rfl,one2⟩ := hco.1.kv
        obtain ⟨hps,hpoff,oa,oc,rfl,-⟩ := hpo
        obtain ⟨hrs,hroff⟩ := hro
        obtain ⟨ra,rc,rfl⟩ := hrs.form1
        have hc2 := hco.1
        have hcX : ∀ rb,rb < w9.heap.size → WOff rb (.agg (k2.cells (handleP c (st s q).2.1 (st s q).2.2 0).c).toArray) (handleP c (st s q).2.1 (st s q).2.2 0).c := fun rb h => hco.2 rb (by omega)
        have hpX : ∀ rb,rb < w9.heap.size → Off rb (.slice oa (handleP c (st s q).2.1 (st s q).2.2 0).ps.length oc) := fun rb h => hpoff rb (by omega)
        have hrX : ∀ rb,rb < w9.heap.size → Off rb (.slice ra (handleP c (st s q).2.1 (st s q).2.2 0).us.length rc) := fun rb h => hroff rb (by omega)
        try have hoT := hco.2 _ bT.lt
        try have hpT : (handleP c (st s q).2.1 (st s q).2.2 0).ps.length = 0 ∨ _ := .inr (hpoff _ bT.lt)
        try have hrT : (handleP c (st s q).2.1 (st s q).2.2 0).us.length = 0 ∨ _ := .inr (hroff _ bT.lt)
        try have bT := bT.below hC
        have hBd := hBd.trans (hC.mono hBd.size)
        clear hC hpoff hroff hco hnd
        refine hK.out _ _ (⟨(hP.below hBd).rc,(bA.below hBd).range 0 _ (fun j v hv => by rw [Nat.zero_add]; exact hv)⟩) (fun h => ?_)
        replace hHeld := h
        clear hK K h
        try simp only [Act.put,List.setIfInBounds_toArray,List.set_cons_zero,List.set_cons_succ])
      |(refine opn 12 fun K hK => ?_
        go_simp
        have hlV := hVd.size
        have hlB := hBd.size
        generalize hX : World.alloc _ (.cells _ 52) = w4
        obtain ⟨hnb,hB4,hz4⟩ := alloc_named hX
        have bT : Blk w4 _ 52 czl := hnb
        try have hoT := clv_fresh hc2 (Nat.le_refl _)
        try have hpT := psv_fresh hps (Nat.le_refl _)
        try have hrT := rsv_fresh hrs (Nat.le_refl _)
        try have hc2 := hc2.below hB4
        try have hps := hps.below hB4
        try have hrs := hrs.below hB4
        have hTge : w9.heap.size ≤ _ := Nat.le_trans hlV hlB
        have hBd := hBd.trans (hB4.mono hBd.size)
        have hlT := hlB
        clear hX hnb hB4 hz4
        refine hK.out _ _ (⟨(hP.below hBd).rc,(bA.below hBd).range 0 _ (fun j v hv => by rw [Nat.zero_add]; exact hv)⟩) (fun h => ?_)
        replace hHeld := h
        clear hK K h
        try simp only [Act.put,List.setIfInBounds_toArray,List.set_cons_zero,List.set_cons_succ])
      |(refine opn 13 fun K hK => ?_
        refine step_store_mid (by rfl) 52 _ _ (by rfl) _ 0 (k2.cells (handleP c (st s q).2.1 (st s q).2.2 0).c).toArray (by rfl) (by rfl) (bT.there 0 26 (by simp [czl])) (by kernel_rfl) one2 ?_
        generalize hX : World.setCells _ _ 0 _ = w5
        obtain ⟨hg9,bT9⟩ := put_namedB bT hX rfl
        have hc2 := hc2.kept czl_nob bT hg9 hoT
        have hps := hps.kept czl_nob bT hg9 hpT
        have hrs := hrs.kept czl_nob bT hg9 hrT
        have hBd := hBd.grown hg9 hBd.size (fun k hk => by cases hk; exact hlT)
        clear hX hg9 bT
        refine hK.out _ _ (⟨(hP.below hBd).rc,(bA.below hBd).range 0 _ (fun j v hv => by rw [Nat.zero_add]; exact hv)⟩) (fun h => ?_)
        replace hHeld := h
        clear hK K h
        try simp only [Act.put,List.setIfInBounds_toArray,List.set_cons_zero,List.set_cons_succ])
      |refine rd2 7 12 ?_ ?_
      |refine rd1 12 ?_
      |refine rd1 13 ?_
      |refine rd1 7 ?_
      |(refine wpAnyH_done (by kernel_rfl) ?_ _
        go_wp2_with fail
        go_meet
        exact ⟨_,k2,oa,oc,ra,rc,rfl,rfl,rfl,bT9,hc2,hcX,hps,hpX,hrs,hrX,hTge,hVd.trans (hBd.mono hVd.size)⟩)
    case rest =>
     obtain ⟨T2,k2,oa,oc,ra,rc,rfl,rfl,rfl,bT2,hc2,hcX,hps,hpX,hrs,hrX,hTw2,hBw2⟩ := hcut
     have hP := hP9.below hBw2
     have bK := bK.below hBw2
     have bR := bR.below hBw2
     have hKX := hKX.below (by omega) hBw2
     have rgT := bT2.range 0 (k2.cells (handleP c (st s q).2.1 (st s q).2.2 0).c) (fun j v hv => by rw [Nat.zero_add]; exact hv)
     have hth := hP.there.1
     have one2 := clv_one hc2
     have hBs := hBw2.size
     go_upto_region 12 with (first | (refine wpList_load_mid rfl 52 _ rfl T2 0 rfl (k2.cells (handleP c (st s q).2.1 (st s q).2.2 0).c) _ rgT Tryz.underlying52 rfl (by kernel_rfl) ?_) | (refine wpList_store_mid rfl 52 _ _ rfl X 0 (k2.cells (handleP c (st s q).2.1 (st s q).2.2 0).c).toArray rfl rfl hth (by kernel_rfl) one2 ?_; simp only [Act.put]; generalize hW : World.setCells _ X 0 _ = w8; have HW := Lib.hid hW; clear hW))
     have hg9 := setCells_grown X (k2.cells (handleP c (st s q).2.1 (st s q).2.2 0).c) 0 wc
     have hP8 := hP.set_c (cs2 := k2.cells (handleP c (st s q).2.1 (st s q).2.2 0).c) rfl hc2 (hcX X hXw9)
     rw [show wc.setCells X 0 (k2.cells (handleP c (st s q).2.1 (st s q).2.2 0).c) = w8 from HW.out] at hg9 hP8
     have hps := hps.kept hP.nox.nob hP.blk hg9 (.inr (hpX X hXw9))
     have hrs := hrs.kept hP.nox.nob hP.blk hg9 (.inr (hrX X hXw9))
     have bT2 := bT2.kept hg9 (fun e => by injection e with e; omega)
     have bK := bK.kept hg9 (fun e => by injection e with e; omega)
     have bR := bR.kept hg9 (fun e => by injection e with e; omega)
     have hKX := hKX.grown (by omega) hg9
     have HOF := Lib.hid (And.intro hcX (And.intro hpX (And.intro hrX (And.intro hXw9 (And.intro hRw9 hTw2)))))
     clear HW hg9 rgT hth one2 hBw2 hBs hP hP9 hA hcX hpX hrX
     rcases HPL2.out with ⟨hu,e1,e2⟩ | ⟨hu,q2,hq2,hpl⟩
     ·have hl1 : (handleP c (st s q).2.1 (st s q).2.2 0).us.length = 1 := by rw [hu]; rfl
      obtain ⟨hcX,-,hrX,hXw9,hRw9,hTw2⟩ := HOF.out
      have hrs2 : RsV w8 (.slice ra 1 rc) [r] := by
       have h := hrs
       rw [hl1,hu] at h
       exact h
      simp only [hl1] at hrX
      rw [hl1]
      obtain ⟨rb,ro,rc',av',fv',e,rgR,havR,hfvR⟩ := rsv_one hrs2
      cases e
      have hrbX : rb ≠ X := hrX X hXw9 rb (by simp [Value.ownBlock])
      have hrbR : rb ≠ w.heap.size + 1 := hrX _ hRw9 rb (by simp [Value.ownBlock])
      subst e1
      subst e2
      have rt : w8.cell? ⟨rb,ro + 1,none⟩ = some (.int .i64 t.kd) := by
       have h := rgR 1 (.int .i64 r.tk) rfl
       rw [HPL.out.2.1] at h
       exact h
      have kt := bK.cell (j := 0) (v := .int .i64 t.kd) rfl
      have bz : w8.cell? ⟨T2,22,none⟩ = some (.bool false) := bT2.cell (by rw [← HPL.out.2.2]; rfl)
      have hcR := hcX _ hRw9
      have hdr := (Below.refl w8.heap.size w8).drew
      have hP := hP8.below hdr
      have bR := bR.below hdr
      have rgR := range_keep rgR hdr
      have havR := havR.below hdr
      have hfvR := hfvR.below hdr
      have hXs := hP8.blk.lt
      have hKX := hKX.below (by omega) hdr
      have rt := kc rt hdr
      have kt := kc kt hdr
      have bz := kc bz hdr
      have mX := hP.cell
      have zX := hP.blk.frozen 37
      have HNE := Lib.hid (And.intro hrbX (And.intro hrbR (And.intro hTw2 (And.intro hXw9 hXs))))
      have HCR := Lib.hid hcR
      clear hrs hrs2 hps hcX hrX hl1 hu HPL2 HC bT2 hP8 hdr hcR hrbX hrbR hTw2 hXw9 hRw9
      go_upto_region 13 with fail
      refine wp_region_held_drew (S := (fun W' : World => W'.cell? ⟨rb,ro + 1,none⟩ = some (.int .i64 t.kd) ∧ W'.cell? ⟨w.heap.size,0,none⟩ = some (.int .i64 t.kd) ∧ W'.cell? ⟨T2,22,none⟩ = some (.bool false))) (by kernel_rfl) (⟨rt,kt,bz⟩) (fun hHeld => ?_)
      generalize World.drew _ = wd at hHeld hP bR rgR havR hfvR hKX rt kt bz mX zX ⊢
      refine tkU 0 ?_
      refine tkU 1 ?_
      refine tkU 2 ?_
      refine tkU 3 ?_
      refine tkU 4 ?_
      refine tkU 5 ?_
      refine tkU 6 ?_
      refine tkU 7 ?_
      refine tkU 8 ?_
      refine tkU 9 ?_
      refine tkU 10 ?_
      refine tkU 11 ?_
      refine tkU 12 ?_
      refine tkU 13 ?_
      refine tkU 14 ?_
      refine tkU 15 ?_
      refine tkU 16 ?_
      refine tkU 17 ?_
      refine tkU 18 ?_
      refine tkU 19 ?_
      refine rd1 20 fun K hK => ?_
      go_simp
      have hg9 := set1 wd ⟨X,37,none⟩ (.bool true)
      have hP7 := hP.set_ok true
      have hXd := hP.blk.lt
      have bR := bR.kept hg9 (fun e => by injection e with e; simp only at e; have := HXL.out; omega)
      have havR := havR.notc hP.nox.nob hP.blk hg9
      have hfvR := hfvR.notc hP.nox.nob hP.blk hg9
      have hKX := hKX.grown (by omega) hg9
      have kg : ∀ (b o : Nat) (v : Value),b ≠ X → wd.cell? ⟨b,o,none⟩ = some v → (wd.setCell ⟨X,37,none⟩ (.bool true)).cell? ⟨b,o,none⟩ = some v := fun b o v hne hc => (World.cell?_of_block (a := ⟨b,o,none⟩) (hg9.block b (World.block_lt_of_cell? wd ⟨b,o,none⟩ hc) (fun e => hne (by injection e)))).trans hc
      have rt := kg _ _ _ HNE.out.1 rt
      have kt := kg _ _ _ (by have := HXL.out; omega) kt
      have bz := kg _ _ _ (by have := HNE.out.2.2.1; have := HNE.out.2.2.2.1; omega) bz
      have rgR : (wd.setCell ⟨X,37,none⟩ (.bool true)).rangeAt rb ro (rsc r av' fv') := fun j v hv => kg _ _ _ HNE.out.1 (rgR j v hv)
      generalize hX : World.setCell wd _ _ = w7 at hP7 bR havR hfvR hKX rt kt bz rgR ⊢
      clear hX hg9 kg mX zX hP
      clear hHeld
      refine hK.out _ _ (⟨rt,kt,bz⟩) (fun hHeld => ?_)
      clear hK K
      try simp only [Act.put,List.setIfInBounds_toArray,List.set_cons_zero,List.set_cons_succ]
      refine wpAnyH_done (by kernel_rfl) ?_ _
      clear hHeld rt kt bz
      obtain ⟨a5,c5,e5⟩ := havR.form
      obtain ⟨a6,c6,e6⟩ := hfvR.form
      have one5 : (rsc r av' fv').toArray.all (·.oneCell') = true := by simp [rsc,e5,e6,Value.oneCell']
      have hth := bR.there 0 6 (by simp)
      clear e5 e6
      go_wp2_with (first | (refine wpList_load_mid rfl 43 _ rfl rb ro rfl (rsc r av' fv') _ rgR Tryz.underlying43 rfl (by kernel_rfl) ?_) | (refine wpList_store_mid rfl 43 _ _ rfl (w.heap.size + 1) 0 (rsc r av' fv').toArray rfl rfl hth (by kernel_rfl) one5 ?_; simp only [Act.put]; generalize hW : World.setCells _ (w.heap.size + 1) 0 _ = w6; have HW := Lib.hid hW; clear hW))
      obtain ⟨hgR,bR9⟩ := put_namedB bR HW.out rfl
      have hnR : Nox [.int .i64 0,.int .i64 0,.int .u16 0,.slice none 0 0,.slice none 0 0,.int .i64 0] := nox_code (by simp only [List.map_cons,List.map_nil,code]; decide) (by simp only [List.map_cons,List.map_nil,code]; decide) (by simp only [List.map_cons,List.map_nil,code]; decide) (by simp only [List.map_cons,List.map_nil,code]; decide) (by simp only [List.map_cons,List.map_nil,code]; decide)
      have hP6 := hP7.other hnR bR hgR (by have := HXL.out; omega) HCR.out
      have havR := havR.notc hnR.nob bR hgR
      have hfvR := hfvR.notc hnR.nob bR hgR
      have hKX := hKX.new hgR (by omega) (by have := HXL.out; omega) (by have := hP7.blk.lt; omega)
      have hl := run_loadVar_row (P := Tryz.prog) _ (w.heap.size + 1) 43 43 _ (0,0) _ bR9 Tryz.underlying43 rfl (by kernel_rfl)
      refine bodyPost_ret (v := .agg (rsc r av' fv').toArray) (by rw [results_cell1 rfl]; simp [asAddr,hl] <;> rfl) rfl ?_
      first
       |exact ⟨av',fv',_,_,rfl,havR,hfvR,hP6,hKX⟩
       |exact ⟨av',fv',rfl,havR,hfvR,⟨_,_,hP6⟩,hKX⟩
     ·have hl0 : (handleP c (st s q).2.1 (st s q).2.2 0).us.length = 0 := by rw [hu]; rfl
      have hl1 : (handleP c (st s q).2.1 (st s q).2.2 0).ps.length = 1 := by rw [hq2]; rfl
      rw [hl0,hl1]
      rw [hq2] at hps
      have hpX := HOF.out.2.1 X HOF.out.2.2.2.1
      rw [hl1] at hpX
      have HPS := Lib.hid (And.intro hpl (And.intro hps hpX))
      clear hrs hps hpX hpl hu hq2 hl0 hl1 HPL2 HC bT2 hTw2
      go_wp2
      go_roundw
      case rel => exact ⟨kk + 1,n,k2,dv2,qv2,uv2,ov2,_,_,q2,oa,oc,rfl,by go_num,by have := HKN.out; omega,HPS.out.1,hP8,HPS.out.2.1,HPS.out.2.2,bK,bR,hKX⟩
      case measure => have := HKN.out; simp [intOf]; omega
end Go.Proofs.YtldcihjddebciaaGreat
