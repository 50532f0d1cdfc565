/- server: write, by its reference. -/
import Derived.Test.YtldcihjddebciaaGreatVSdJ
import Derived.Laws.ResultCell
set_option linter.unusedSimpArgs false
set_option linter.unusedVariables false
set_option maxRecDepth 100000
set_option maxHeartbeats 4000000
namespace Go.Proofs.YtldcihjddebciaaGreat
open Go.RowKit
theorem write_code {s : Ss} {p : Pd} {K dn : Nat} {C : Int} (hn : s.db.length = dn) (hK : findN s.db p.ha = K) (hC : (if K < dn then accI (atI s.db K).pe 2 else 1) = C) :
 (C ≠ 0 ∧ writeS s p = (s,errP p p.ha C) ∧ prepS s p = (s,errP p p.ha C)) ∨ (C = 0 ∧ K < dn ∧ writeS s p = ({ s with db := putA s.db K p.vs },{ pd0 with kd := 19 }) ∧ prepS s p = if 16 ≤ s.qu.length then (s,errP p p.ha 9) else ({ s with qu := s.qu ++ [⟨p.ha,p.of,p.vs⟩] },{ pd0 with kd := 23,ha := p.ha,of := p.of,vs := p.vs })) := by
 unfold writeS prepS
 rw [hK,hn]
 by_cases hi : K < dn
 ·rw [if_pos hi] at hC
  rw [if_pos hi,if_pos hi]
  unfold accI at hC
  rw [if_neg (by decide)] at hC
  unfold wrB
  cases hw : ((atI s.db K).pe / 2 % 2 == 1) with
  |true =>
   rw [hw] at hC
   exact .inr ⟨hC.symm,hi,rfl,rfl⟩
  |false =>
   rw [hw] at hC
   have hC : 3 = C := hC
   subst hC
   exact .inl ⟨by decide,rfl,rfl⟩
 ·rw [if_neg hi] at hC
  subst hC
  rw [if_neg hi,if_neg hi]
  exact .inl ⟨by decide,rfl,rfl⟩
theorem vwrite_any (s : Ss) (da : Option Addr) (dn dc : Nat) (qa : Option Addr) (qn qc : Nat) (ua : Option Addr) (un uc : Nat) (oa : Option Addr) (on oc : Nat) (p : Pd) (pa : Option Addr) (pn pc : Nat) (ia : Option Addr) (ino ic : Nat) (w : World) (hdq : DQ w (.slice da dn dc) (.slice qa qn qc) s.db s.qu) (hn : s.db.length = dn) (hqn : s.qu.length = qn) (hdk : DbOk s.db) (hv : BV w (.slice pa pn pc) p.vs) (hpn : p.vs.length = pn) (hm : pn ≤ 1000000) (hpl : findN s.db p.ha < s.db.length → plainA (atI s.db (findN s.db p.ha))) :
 Calls Tryz.prog 43 #[.agg #[.slice da dn dc,.int .i64 s.mt,.int .i64 s.mx,.int .i64 2,.slice qa qn qc,.int .i64 2,.bool false,.slice ua un uc,.slice oa on oc,.bool false,.int .i64 0],.agg #[.int .i64 p.kd,.int .i64 p.ask,.int .u16 p.ha,.int .u16 p.la,.int .u64 p.hi,.int .u64 p.lo,.int .i64 p.of,.int .i64 p.mt,.int .i64 p.co,.bool p.cm,.slice pa pn pc,.slice ia ino ic]] w fun e w' => ∃ sv v o,e = .returned (.tuple #[sv,v,o]) ∧ SvV w' sv (writeS s p).1 ∧ AnsV w.heap.size w' v (writeS s p).2 [] ∧ Below w.heap.size w w' := by
 have HWR := Lib.hid (fun W (hW : Below w.heap.size w W) => vwritable_any s da dn dc qa qn qc ua un uc oa on oc p pa pn pc ia ino ic W (hdq.db.dbs.below hW) hn hdk)
 obtain ⟨K,hK⟩ : ∃ K,findN s.db p.ha = K := ⟨_,rfl⟩
 obtain ⟨C,hC⟩ : ∃ C,(if K < dn then accI (atI s.db K).pe 2 else 1) = C := ⟨_,rfl⟩
 obtain ⟨FI,hFI⟩ : ∃ x,fI s.db p.ha = x := ⟨_,rfl⟩
 simp only [hK,hC,hFI] at HWR
 rcases write_code hn hK hC with ⟨hc0,hws,-⟩ | ⟨hc0,hi,hws,-⟩
 ·rw [hws]
  have g1 : (C == 0) = false := by simpa using hc0
  have g2 : (C != 0) = true := by simpa using hc0
  have bS := ((Blk.new w 57 [.slice da dn dc,.int .i64 s.mt,.int .i64 s.mx,.int .i64 2,.slice qa qn qc,.int .i64 2,.bool false,.slice ua un uc,.slice oa on oc,.bool false,.int .i64 0]).alloc (.cells #[.int .i64 p.kd,.int .i64 p.ask,.int .u16 p.ha,.int .u16 p.la,.int .u64 p.hi,.int .u64 p.lo,.int .i64 p.of,.int .i64 p.mt,.int .i64 p.co,.bool p.cm,.slice pa pn pc,.slice ia ino ic] 49)).alloc (.cells #[.slice none 0 0,.int .i64 0,.int .i64 0,.int .i64 0,.slice none 0 0,.int .i64 0,.bool false,.slice none 0 0,.slice none 0 0,.bool false,.int .i64 0] 57)
  have bP := (Blk.new (w.alloc (.cells #[.slice da dn dc,.int .i64 s.mt,.int .i64 s.mx,.int .i64 2,.slice qa qn qc,.int .i64 2,.bool false,.slice ua un uc,.slice oa on oc,.bool false,.int .i64 0] 57)) 49 [.int .i64 p.kd,.int .i64 p.ask,.int .u16 p.ha,.int .u16 p.la,.int .u64 p.hi,.int .u64 p.lo,.int .i64 p.of,.int .i64 p.mt,.int .i64 p.co,.bool p.cm,.slice pa pn pc,.slice ia ino ic]).alloc (.cells #[.slice none 0 0,.int .i64 0,.int .i64 0,.int .i64 0,.slice none 0 0,.int .i64 0,.bool false,.slice none 0 0,.slice none 0 0,.bool false,.int .i64 0] 57)
  have bR := Blk.new ((w.alloc (.cells #[.slice da dn dc,.int .i64 s.mt,.int .i64 s.mx,.int .i64 2,.slice qa qn qc,.int .i64 2,.bool false,.slice ua un uc,.slice oa on oc,.bool false,.int .i64 0] 57)).alloc (.cells #[.int .i64 p.kd,.int .i64 p.ask,.int .u16 p.ha,.int .u16 p.la,.int .u64 p.hi,.int .u64 p.lo,.int .i64 p.of,.int .i64 p.mt,.int .i64 p.co,.bool p.cm,.slice pa pn pc,.slice ia ino ic] 49)) 57 [.slice none 0 0,.int .i64 0,.int .i64 0,.int .i64 0,.slice none 0 0,.int .i64 0,.bool false,.slice none 0 0,.slice none 0 0,.bool false,.int .i64 0]
  have hB := (((Below.refl w.heap.size w).alloc (Nat.le_refl _) (.cells #[.slice da dn dc,.int .i64 s.mt,.int .i64 s.mx,.int .i64 2,.slice qa qn qc,.int .i64 2,.bool false,.slice ua un uc,.slice oa on oc,.bool false,.int .i64 0] 57)).alloc (by simp) (.cells #[.int .i64 p.kd,.int .i64 p.ask,.int .u16 p.ha,.int .u16 p.la,.int .u64 p.hi,.int .u64 p.lo,.int .i64 p.of,.int .i64 p.mt,.int .i64 p.co,.bool p.cm,.slice pa pn pc,.slice ia ino ic] 49)).alloc (by simp; omega) (.cells #[.slice none 0 0,.int .i64 0,.int .i64 0,.int .i64 0,.slice none 0 0,.int .i64 0,.bool false,.slice none 0 0,.slice none 0 0,.bool false,.int .i64 0] 57)
  have hz1 : (w.alloc (.cells #[.slice da dn dc,.int .i64 s.mt,.int .i64 s.mx,.int .i64 2,.slice qa qn qc,.int .i64 2,.bool false,.slice ua un uc,.slice oa on oc,.bool false,.int .i64 0] 57)).heap.size = w.heap.size + 1 := by simp
  have hz2 : ((w.alloc (.cells #[.slice da dn dc,.int .i64 s.mt,.int .i64 s.mx,.int .i64 2,.slice qa qn qc,.int .i64 2,.bool false,.slice ua un uc,.slice oa on oc,.bool false,.int .i64 0] 57)).alloc (.cells #[.int .i64 p.kd,.int .i64 p.ask,.int .u16 p.ha,.int .u16 p.la,.int .u64 p.hi,.int .u64 p.lo,.int .i64 p.of,.int .i64 p.mt,.int .i64 p.co,.bool p.cm,.slice pa pn pc,.slice ia ino ic] 49)).heap.size = w.heap.size + 2 := by simp
  rw [hz1] at bP
  rw [hz2] at bR
  clear hz1 hz2
  clear hn hqn hdk hv hpn hm hpl hK hC hFI hc0 hws
  go_enter Tryz.func43,Tryz.ntmps43
  go_upto_region 1 with fail
  generalize hX : World.alloc (World.alloc (World.alloc w _) _) _ = V at bS bP bR hB ⊢
  clear hX
  have hdq := hdq.below hB
  have rgS := bS.range 0 [.slice da dn dc,.int .i64 s.mt,.int .i64 s.mx,.int .i64 2,.slice qa qn qc,.int .i64 2,.bool false,.slice ua un uc,.slice oa on oc,.bool false,.int .i64 0] (fun j v hv => by rw [Nat.zero_add]; exact hv)
  have rgP := bP.range 0 [.int .i64 p.kd,.int .i64 p.ask,.int .u16 p.ha,.int .u16 p.la,.int .u64 p.hi,.int .u64 p.lo,.int .i64 p.of,.int .i64 p.mt,.int .i64 p.co,.bool p.cm,.slice pa pn pc,.slice ia ino ic] (fun j v hv => by rw [Nat.zero_add]; exact hv)
  go_upto_region 2 with (first | (refine wpList_load_mid rfl 57 _ rfl w.heap.size 0 rfl [.slice da dn dc,.int .i64 s.mt,.int .i64 s.mx,.int .i64 2,.slice qa qn qc,.int .i64 2,.bool false,.slice ua un uc,.slice oa on oc,.bool false,.int .i64 0] _ rgS Tryz.underlying57 rfl (by kernel_rfl) ?_) | (refine wpList_load_mid rfl 49 _ rfl (w.heap.size + 1) 0 rfl [.int .i64 p.kd,.int .i64 p.ask,.int .u16 p.ha,.int .u16 p.la,.int .u64 p.hi,.int .u64 p.lo,.int .i64 p.of,.int .i64 p.mt,.int .i64 p.co,.bool p.cm,.slice pa pn pc,.slice ia ino ic] _ rgP Tryz.underlying49 rfl (by kernel_rfl) ?_) | (go_at_call 91; refine (HWR.out _ hB).mono ?_; rintro e w2 ⟨rfl,hC2⟩; have bS := bS.below hC2; have bP := bP.below hC2; have bR := bR.below hC2; have hdq := hdq.below hC2; have hB := hB.trans (hC2.mono hB.size); clear hC2 rgS rgP))
  clear HWR
  go_upto_region 5 with fail
  have hdq := hdq.below (Below.refl _ _).drew
  have bS := bS.drew
  have bP := bP.drew
  have bR := bR.drew
  have hB := hB.drew
  refine wp_region_held_drew (S := (fun W' : World => W'.rangeAt w.heap.size 0 [.slice da dn dc,.int .i64 s.mt,.int .i64 s.mx,.int .i64 2,.slice qa qn qc,.int .i64 2,.bool false,.slice ua un uc,.slice oa on oc,.bool false,.int .i64 0] ∧ W'.rangeAt (w.heap.size + 1) 0 [.int .i64 p.kd,.int .i64 p.ask,.int .u16 p.ha,.int .u16 p.la,.int .u64 p.hi,.int .u64 p.lo,.int .i64 p.of,.int .i64 p.mt,.int .i64 p.co,.bool p.cm,.slice pa pn pc,.slice ia ino ic] ∧ W'.cell? ⟨w.heap.size + 1,2,none⟩ = some (.int .u16 p.ha))) (by kernel_rfl) (⟨bS.range 0 _ (fun j v hv => by rw [Nat.zero_add]; exact hv),bP.range 0 _ (fun j v hv => by rw [Nat.zero_add]; exact hv),bP.cell (j := 2) (v := .int .u16 p.ha) rfl⟩) (fun hHeld => ?_)
  generalize World.drew _ = wd at hHeld bS bP bR hdq hB ⊢
  repeat' first
   |refine tkN 0 57 w.heap.size 0 [.slice da dn dc,.int .i64 s.mt,.int .i64 s.mx,.int .i64 2,.slice qa qn qc,.int .i64 2,.bool false,.slice ua un uc,.slice oa on oc,.bool false,.int .i64 0] (fun _ h => h.1) Tryz.underlying57 ?_
   |refine tkN 1 49 (w.heap.size + 1) 0 [.int .i64 p.kd,.int .i64 p.ask,.int .u16 p.ha,.int .u16 p.la,.int .u64 p.hi,.int .u64 p.lo,.int .i64 p.of,.int .i64 p.mt,.int .i64 p.co,.bool p.cm,.slice pa pn pc,.slice ia ino ic] (fun _ h => h.2.1) Tryz.underlying49 ?_
   |refine tkU 2 ?_
   |refine tkU 3 ?_
   |refine tkU 4 ?_
   |refine tkU 7 ?_
   |refine tkU 8 ?_
   |(refine opn 5 fun K hK => ?_
     go_simp
     go_at_call 46
     refine (refuse_any p pa pn pc ia ino ic p.ha C _).mono ?_
     rintro e w3 ⟨v9,rfl,hA9,hC⟩
     have hR3 := bS.lt
     try (have hR3 := bR.lt)
     try (have hR3 := bR9.lt)
     have hdq := hdq.below hC
     have bS := bS.below hC
     have bP := bP.below hC
     try have bR := bR.below hC
     try have bR9 := bR9.below hC
     have hB := hB.trans (hC.mono hB.size)
     clear hC
     refine hK.out _ _ (⟨bS.range 0 _ (fun j v hv => by rw [Nat.zero_add]; exact hv),bP.range 0 _ (fun j v hv => by rw [Nat.zero_add]; exact hv),bP.cell (j := 2) (v := .int .u16 p.ha) rfl⟩) (fun h => ?_)
     replace hHeld := h
     clear hK K h
     try simp only [Act.put,List.setIfInBounds_toArray,List.set_cons_zero,List.set_cons_succ])
   |(refine opn 6 fun K hK => ?_
     refine step_store_mid (by rfl) 57 _ _ (by rfl) (w.heap.size + 2) 0 #[.slice da dn dc,.int .i64 s.mt,.int .i64 s.mx,.int .i64 2,.slice qa qn qc,.int .i64 2,.bool false,.slice ua un uc,.slice oa on oc,.bool false,.int .i64 0] (by rfl) (by rfl) (bR.there 0 11 (by simp)) (by kernel_rfl) (by simp [Value.oneCell']) ?_
     generalize hX : World.setCells _ (w.heap.size + 2) 0 _ = w9
     obtain ⟨hg9,bR9⟩ := put_namedB bR hX rfl
     have hdq := hdq.kept (nox_code (by simp only [List.map_cons,List.map_nil,code]; decide) (by simp only [List.map_cons,List.map_nil,code]; decide) (by simp only [List.map_cons,List.map_nil,code]; decide) (by simp only [List.map_cons,List.map_nil,code]; decide) (by simp only [List.map_cons,List.map_nil,code]; decide)) bR hg9
     try have hA9 := hA9.kept (by omega) (nox_code (by simp only [List.map_cons,List.map_nil,code]; decide) (by simp only [List.map_cons,List.map_nil,code]; decide) (by simp only [List.map_cons,List.map_nil,code]; decide) (by simp only [List.map_cons,List.map_nil,code]; decide) (by simp only [List.map_cons,List.map_nil,code]; decide)) bR hg9
     have bS := bS.kept hg9 (fun e => by injection e with e; omega)
     have bP := bP.kept hg9 (fun e => by injection e with e; omega)
     have hB := hB.grown hg9 hB.size (fun k hk => by cases hk; omega)
     clear hX hg9 bR
     refine hK.out _ _ (⟨bS.range 0 _ (fun j v hv => by rw [Nat.zero_add]; exact hv),bP.range 0 _ (fun j v hv => by rw [Nat.zero_add]; exact hv),bP.cell (j := 2) (v := .int .u16 p.ha) rfl⟩) (fun h => ?_)
     replace hHeld := h
     clear hK K h
     try simp only [Act.put,List.setIfInBounds_toArray,List.set_cons_zero,List.set_cons_succ])
   |refine rd1 5 ?_
   |refine rd1 6 ?_
   |(refine wpAnyH_done (by kernel_rfl) ?_ _
     go_wp2_with fail
     have hl := run_loadVar_row (P := Tryz.prog) _ (w.heap.size + 2) 57 57 _ (0,0) _ bR9 Tryz.underlying57 rfl (by kernel_rfl)
     refine bodyPost_ret (v := .tuple #[.agg #[.slice da dn dc,.int .i64 s.mt,.int .i64 s.mx,.int .i64 2,.slice qa qn qc,.int .i64 2,.bool false,.slice ua un uc,.slice oa on oc,.bool false,.int .i64 0],v9,.slice none 0 0]) (by rw [results_cell_tmp2 rfl]; simp [asAddr,hl] <;> rfl) rfl ⟨_,_,⟨_,rfl⟩,hdq.svv,hA9.mono (by omega),hB⟩)
 ·rw [hws]
  subst hc0
  have hfi : FI = (K : Int) := by rw [← hFI]; exact fI_pos hK (by rw [hn]; exact hi)
  subst hfi
  obtain ⟨b,off,rfl,hb,hat⟩ := hdq.db.dbs.at hn (by omega)
  obtain ⟨ra,rc,d0,d1,d2,d3,d4,hcap,hby⟩ := hat K hi
  rw [hK,hn] at hpl
  have h2 := plain_g (hpl hi)
  obtain ⟨⟨ha,hi',lo,pe,bs⟩,he⟩ : ∃ r,atI s.db K = r := ⟨_,rfl⟩
  rw [he] at d0 d1 d2 d3 d4 h2
  simp only at d0 d1 d2 d3 d4 h2
  obtain ⟨L,hL⟩ : ∃ L,bs.length = L := ⟨_,rfl⟩
  rw [hL] at d4
  have H2 := Lib.hid (fun W => isCf_any ha hi' lo pe (.slice ra L rc) W)
  simp only [h2] at H2
  have rgA : w.rangeAt b (off + K * 5) [.int .u16 ha,.int .u64 hi',.int .u64 lo,.int .i64 pe,.slice ra L rc] := fun j v hv => by
   match j,hv with
   |0,hv => cases hv; exact d0
   |1,hv => cases hv; exact d1
   |2,hv => cases hv; exact d2
   |3,hv => cases hv; exact d3
   |4,hv => cases hv; exact d4
  have hi0 : (0 : Int) ≤ (K : Int) := by omega
  have hi1 : (K : Int) < (dn : Int) := by omega
  have RGA := Lib.hid rgA
  clear hpl hat d0 d1 d2 d3 d4 hcap hby he hL h2 rgA
  have bS := ((Blk.new w 57 [.slice (some ⟨b,off,none⟩) dn dc,.int .i64 s.mt,.int .i64 s.mx,.int .i64 2,.slice qa qn qc,.int .i64 2,.bool false,.slice ua un uc,.slice oa on oc,.bool false,.int .i64 0]).alloc (.cells #[.int .i64 p.kd,.int .i64 p.ask,.int .u16 p.ha,.int .u16 p.la,.int .u64 p.hi,.int .u64 p.lo,.int .i64 p.of,.int .i64 p.mt,.int .i64 p.co,.bool p.cm,.slice pa pn pc,.slice ia ino ic] 49)).alloc (.cells #[.slice none 0 0,.int .i64 0,.int .i64 0,.int .i64 0,.slice none 0 0,.int .i64 0,.bool false,.slice none 0 0,.slice none 0 0,.bool false,.int .i64 0] 57)
  have bP := (Blk.new (w.alloc (.cells #[.slice (some ⟨b,off,none⟩) dn dc,.int .i64 s.mt,.int .i64 s.mx,.int .i64 2,.slice qa qn qc,.int .i64 2,.bool false,.slice ua un uc,.slice oa on oc,.bool false,.int .i64 0] 57)) 49 [.int .i64 p.kd,.int .i64 p.ask,.int .u16 p.ha,.int .u16 p.la,.int .u64 p.hi,.int .u64 p.lo,.int .i64 p.of,.int .i64 p.mt,.int .i64 p.co,.bool p.cm,.slice pa pn pc,.slice ia ino ic]).alloc (.cells #[.slice none 0 0,.int .i64 0,.int .i64 0,.int .i64 0,.slice none 0 0,.int .i64 0,.bool false,.slice none 0 0,.slice none 0 0,.bool false,.int .i64 0] 57)
  have bR := Blk.new ((w.alloc (.cells #[.slice (some ⟨b,off,none⟩) dn dc,.int .i64 s.mt,.int .i64 s.mx,.int .i64 2,.slice qa qn qc,.int .i64 2,.bool false,.slice ua un uc,.slice oa on oc,.bool false,.int .i64 0] 57)).alloc (.cells #[.int .i64 p.kd,.int .i64 p.ask,.int .u16 p.ha,.int .u16 p.la,.int .u64 p.hi,.int .u64 p.lo,.int .i64 p.of,.int .i64 p.mt,.int .i64 p.co,.bool p.cm,.slice pa pn pc,.slice ia ino ic] 49)) 57 [.slice none 0 0,.int .i64 0,.int .i64 0,.int .i64 0,.slice none 0 0,.int .i64 0,.bool false,.slice none 0 0,.slice none 0 0,.bool false,.int .i64 0]
  have hB := (((Below.refl w.heap.size w).alloc (Nat.le_refl _) (.cells #[.slice (some ⟨b,off,none⟩) dn dc,.int .i64 s.mt,.int .i64 s.mx,.int .i64 2,.slice qa qn qc,.int .i64 2,.bool false,.slice ua un uc,.slice oa on oc,.bool false,.int .i64 0] 57)).alloc (by simp) (.cells #[.int .i64 p.kd,.int .i64 p.ask,.int .u16 p.ha,.int .u16 p.la,.int .u64 p.hi,.int .u64 p.lo,.int .i64 p.of,.int .i64 p.mt,.int .i64 p.co,.bool p.cm,.slice pa pn pc,.slice ia ino ic] 49)).alloc (by simp; omega) (.cells #[.slice none 0 0,.int .i64 0,.int .i64 0,.int .i64 0,.slice none 0 0,.int .i64 0,.bool false,.slice none 0 0,.slice none 0 0,.bool false,.int .i64 0] 57)
  have hz1 : (w.alloc (.cells #[.slice (some ⟨b,off,none⟩) dn dc,.int .i64 s.mt,.int .i64 s.mx,.int .i64 2,.slice qa qn qc,.int .i64 2,.bool false,.slice ua un uc,.slice oa on oc,.bool false,.int .i64 0] 57)).heap.size = w.heap.size + 1 := by simp
  have hz2 : ((w.alloc (.cells #[.slice (some ⟨b,off,none⟩) dn dc,.int .i64 s.mt,.int .i64 s.mx,.int .i64 2,.slice qa qn qc,.int .i64 2,.bool false,.slice ua un uc,.slice oa on oc,.bool false,.int .i64 0] 57)).alloc (.cells #[.int .i64 p.kd,.int .i64 p.ask,.int .u16 p.ha,.int .u16 p.la,.int .u64 p.hi,.int .u64 p.lo,.int .i64 p.of,.int .i64 p.mt,.int .i64 p.co,.bool p.cm,.slice pa pn pc,.slice ia ino ic] 49)).heap.size = w.heap.size + 2 := by simp
  rw [hz1] at bP
  rw [hz2] at bR
  clear hz1 hz2
  have HV := Lib.hid (And.intro hv (And.intro hpn (And.intro hm hn)))
  have hdn := hdk.n
  clear hn hqn hdk hv hpn hm hK hC hFI hws
  go_enter Tryz.func43,Tryz.ntmps43
  go_upto_region 1 with fail
  generalize hX : World.alloc (World.alloc (World.alloc w _) _) _ = V at bS bP bR hB ⊢
  clear hX
  have hdq := hdq.below hB
  have rgS := bS.range 0 [.slice (some ⟨b,off,none⟩) dn dc,.int .i64 s.mt,.int .i64 s.mx,.int .i64 2,.slice qa qn qc,.int .i64 2,.bool false,.slice ua un uc,.slice oa on oc,.bool false,.int .i64 0] (fun j v hv => by rw [Nat.zero_add]; exact hv)
  have rgP := bP.range 0 [.int .i64 p.kd,.int .i64 p.ask,.int .u16 p.ha,.int .u16 p.la,.int .u64 p.hi,.int .u64 p.lo,.int .i64 p.of,.int .i64 p.mt,.int .i64 p.co,.bool p.cm,.slice pa pn pc,.slice ia ino ic] (fun j v hv => by rw [Nat.zero_add]; exact hv)
  go_upto_region 2 with (first | (refine wpList_load_mid rfl 57 _ rfl w.heap.size 0 rfl [.slice (some ⟨b,off,none⟩) dn dc,.int .i64 s.mt,.int .i64 s.mx,.int .i64 2,.slice qa qn qc,.int .i64 2,.bool false,.slice ua un uc,.slice oa on oc,.bool false,.int .i64 0] _ rgS Tryz.underlying57 rfl (by kernel_rfl) ?_) | (refine wpList_load_mid rfl 49 _ rfl (w.heap.size + 1) 0 rfl [.int .i64 p.kd,.int .i64 p.ask,.int .u16 p.ha,.int .u16 p.la,.int .u64 p.hi,.int .u64 p.lo,.int .i64 p.of,.int .i64 p.mt,.int .i64 p.co,.bool p.cm,.slice pa pn pc,.slice ia ino ic] _ rgP Tryz.underlying49 rfl (by kernel_rfl) ?_) | (go_at_call 91; refine (HWR.out _ hB).mono ?_; rintro e w2 ⟨rfl,hC2⟩; have bS := bS.below hC2; have bP := bP.below hC2; have bR := bR.below hC2; have hdq := hdq.below hC2; have hB := hB.trans (hC2.mono hB.size); clear hC2 rgS rgP))
  clear HWR
  have m0 := bS.cell (j := 0) (v := .slice (some ⟨b,off,none⟩) dn dc) rfl
  have rgA := range_keep RGA.out hB
  go_upto_region 4 with (first | (refine wpList_load_midG (by rfl) 29 _ rfl b (off + K * 5) rfl [.int .u16 ha,.int .u64 hi',.int .u64 lo,.int .i64 pe,.slice ra L rc] _ rgA Tryz.underlying29 rfl (by kernel_rfl) ?_) | (go_at_call 90; refine (H2.out _).mono ?_; rintro e w3 ⟨rfl,hC3⟩; have bS := bS.below hC3; have bP := bP.below hC3; have bR := bR.below hC3; have hdq := hdq.below hC3; have hB := hB.trans (hC3.mono hB.size); clear hC3 m0 rgA))
  have m0 := bS.cell (j := 0) (v := .slice (some ⟨b,off,none⟩) dn dc) rfl
  have rgA := range_keep RGA.out hB
  go_upto_region 9 with (first | (refine wpList_load_midG (by rfl) 29 _ rfl b (off + K * 5) rfl [.int .u16 ha,.int .u64 hi',.int .u64 lo,.int .i64 pe,.slice ra L rc] _ rgA Tryz.underlying29 rfl (by kernel_rfl) ?_) | (go_at_call 90; refine (H2.out _).mono ?_; rintro e w4 ⟨rfl,hC3⟩; have bS := bS.below hC3; have bP := bP.below hC3; have bR := bR.below hC3; have hdq := hdq.below hC3; have hB := hB.trans (hC3.mono hB.size); clear hC3 m0 rgA))
  have rgS := bS.range 0 [.slice (some ⟨b,off,none⟩) dn dc,.int .i64 s.mt,.int .i64 s.mx,.int .i64 2,.slice qa qn qc,.int .i64 2,.bool false,.slice ua un uc,.slice oa on oc,.bool false,.int .i64 0] (fun j v hv => by rw [Nat.zero_add]; exact hv)
  have mv := bP.cell (j := 10) (v := .slice pa pn pc) rfl
  have hth := bS.there 0 11 (by simp)
  obtain ⟨hv,hpn,hm,hn⟩ := HV.out
  have HPU := Lib.hid (vput_any s (some ⟨b,off,none⟩) dn dc qa qn qc ua un uc oa on oc K pa pn pc p.vs [] _ (fun _ hm => by cases hm) hdq.db.dba hn (by omega) hi (hv.below hB) hpn hm)
  clear hv hpn hm hn HV
  go_upto_region 10 with (first | (refine wpList_load_mid rfl 57 _ rfl w.heap.size 0 rfl [.slice (some ⟨b,off,none⟩) dn dc,.int .i64 s.mt,.int .i64 s.mx,.int .i64 2,.slice qa qn qc,.int .i64 2,.bool false,.slice ua un uc,.slice oa on oc,.bool false,.int .i64 0] _ rgS Tryz.underlying57 rfl (by kernel_rfl) ?_) | (go_at_call 94; refine HPU.out.mono ?_; rintro e w5 ⟨a,c,rfl,hdb5,hC3⟩; have bS := bS.below hC3; have bP := bP.below hC3; have bR := bR.below hC3; have hdq := hdq.below hC3; have hB := hB.trans (hC3.mono hB.size); clear hC3 rgS mv hth; have hth := bS.there 0 11 (by simp); have one : (#[.slice a dn c,.int .i64 s.mt,.int .i64 s.mx,.int .i64 2,.slice qa qn qc,.int .i64 2,.bool false,.slice ua un uc,.slice oa on oc,.bool false,.int .i64 0] : Array Value).all (·.oneCell') = true := by simp [Value.oneCell']) | (refine wpList_store_mid rfl 57 _ _ rfl w.heap.size 0 #[.slice a dn c,.int .i64 s.mt,.int .i64 s.mx,.int .i64 2,.slice qa qn qc,.int .i64 2,.bool false,.slice ua un uc,.slice oa on oc,.bool false,.int .i64 0] rfl rfl hth (by kernel_rfl) one ?_; simp only [Act.put]; generalize hW : World.setCells _ w.heap.size 0 _ = w9; have HW := Lib.hid hW; clear hW))
  have hne5 : Nox [.slice (some ⟨b,off,none⟩) dn dc,.int .i64 s.mt,.int .i64 s.mx,.int .i64 2,.slice qa qn qc,.int .i64 2,.bool false,.slice ua un uc,.slice oa on oc,.bool false,.int .i64 0] := nox_code (by simp only [List.map_cons,List.map_nil,code]; decide) (by simp only [List.map_cons,List.map_nil,code]; decide) (by simp only [List.map_cons,List.map_nil,code]; decide) (by simp only [List.map_cons,List.map_nil,code]; decide) (by simp only [List.map_cons,List.map_nil,code]; decide)
  obtain ⟨hg9,bS9⟩ := put_namedB bS HW.out rfl
  have hdq : DQ w9 (.slice a dn c) (.slice qa qn qc) (putA s.db K p.vs) s.qu := ⟨hdb5.dbr.kept hne5 bS hg9,hdq.qu.kept hne5 bS hg9⟩
  have bP := bP.kept hg9 (fun e => by injection e with e; omega)
  have bR := bR.kept hg9 (fun e => by injection e with e; omega)
  have hB := hB.grown hg9 hB.size (fun k hk => by cases hk; omega)
  have bS := bS9
  clear HW hg9 hne5 hth one hdb5 bS9 HPU
  have hdq := hdq.below (Below.refl _ _).drew
  have bS := bS.drew
  have bP := bP.drew
  have bR := bR.drew
  have hB := hB.drew
  refine wp_region_held_drew (S := (fun W' : World => W'.rangeAt w.heap.size 0 [.slice a dn c,.int .i64 s.mt,.int .i64 s.mx,.int .i64 2,.slice qa qn qc,.int .i64 2,.bool false,.slice ua un uc,.slice oa on oc,.bool false,.int .i64 0] ∧ W'.cell? ⟨w.heap.size + 1,2,none⟩ = some (.int .u16 p.ha))) (by kernel_rfl) (⟨bS.range 0 _ (fun j v hv => by rw [Nat.zero_add]; exact hv),bP.cell (j := 2) (v := .int .u16 p.ha) rfl⟩) (fun hHeld => ?_)
  generalize World.drew _ = wd at hHeld bS bP bR hdq hB ⊢
  repeat' first
   |refine tkN 0 57 w.heap.size 0 [.slice a dn c,.int .i64 s.mt,.int .i64 s.mx,.int .i64 2,.slice qa qn qc,.int .i64 2,.bool false,.slice ua un uc,.slice oa on oc,.bool false,.int .i64 0] (fun _ h => h.1) Tryz.underlying57 ?_
   |refine tkU 1 ?_
   |refine tkU 3 ?_
   |refine tkU 4 ?_
   |refine tkU 7 ?_
   |refine tkU 8 ?_
   |(refine opn 2 fun K hK => ?_
     go_simp
     generalize hX : World.alloc _ (.cells _ 49) = w4
     obtain ⟨hnb,hB4,hz4⟩ := alloc_named hX
     have hR3 := bS.lt
     try (have hR3 := bR.lt)
     try (have hR3 := bR9.lt)
     have hA9 : AnsV (w.heap.size + 3) w4 (.slice (some ⟨_,0,none⟩) 1 1) { pd0 with kd := 19 } [] := ⟨_,.slice none 0 0,.slice none 0 0,rfl,(by omega),hnb,BV.nil _,[],rfl,SR.nil _ 5,fun q hq => by cases hq⟩
     have hdq := hdq.below hB4
     have bS := bS.below hB4
     have bP := bP.below hB4
     try have bR := bR.below hB4
     try have bR9 := bR9.below hB4
     have hB := hB.trans (hB4.mono hB.size)
     clear hX hnb hB4 hz4
     refine hK.out _ _ (⟨bS.range 0 _ (fun j v hv => by rw [Nat.zero_add]; exact hv),bP.cell (j := 2) (v := .int .u16 p.ha) rfl⟩) (fun h => ?_)
     replace hHeld := h
     clear hK K h
     try simp only [Act.put,List.setIfInBounds_toArray,List.set_cons_zero,List.set_cons_succ])
   |(refine opn 5 fun K hK => ?_
     go_simp
     generalize hX : World.alloc _ (.cells _ 23) = w4
     obtain ⟨hnb,hB4,hz4⟩ := alloc_named hX
     try have hA9 := hA9.below hB4
     have hdq := hdq.below hB4
     have bS := bS.below hB4
     have bP := bP.below hB4
     try have bR := bR.below hB4
     try have bR9 := bR9.below hB4
     have hB := hB.trans (hB4.mono hB.size)
     clear hX hnb hB4 hz4
     refine hK.out _ _ (⟨bS.range 0 _ (fun j v hv => by rw [Nat.zero_add]; exact hv),bP.cell (j := 2) (v := .int .u16 p.ha) rfl⟩) (fun h => ?_)
     replace hHeld := h
     clear hK K h
     try simp only [Act.put,List.setIfInBounds_toArray,List.set_cons_zero,List.set_cons_succ])
   |(refine opn 6 fun K hK => ?_
     refine step_store_mid (by rfl) 57 _ _ (by rfl) (w.heap.size + 2) 0 #[.slice a dn c,.int .i64 s.mt,.int .i64 s.mx,.int .i64 2,.slice qa qn qc,.int .i64 2,.bool false,.slice ua un uc,.slice oa on oc,.bool false,.int .i64 0] (by rfl) (by rfl) (bR.there 0 11 (by simp)) (by kernel_rfl) (by simp [Value.oneCell']) ?_
     generalize hX : World.setCells _ (w.heap.size + 2) 0 _ = w9
     obtain ⟨hg9,bR9⟩ := put_namedB bR hX rfl
     have hdq := hdq.kept (nox_code (by simp only [List.map_cons,List.map_nil,code]; decide) (by simp only [List.map_cons,List.map_nil,code]; decide) (by simp only [List.map_cons,List.map_nil,code]; decide) (by simp only [List.map_cons,List.map_nil,code]; decide) (by simp only [List.map_cons,List.map_nil,code]; decide)) bR hg9
     try have hA9 := hA9.kept (by omega) (nox_code (by simp only [List.map_cons,List.map_nil,code]; decide) (by simp only [List.map_cons,List.map_nil,code]; decide) (by simp only [List.map_cons,List.map_nil,code]; decide) (by simp only [List.map_cons,List.map_nil,code]; decide) (by simp only [List.map_cons,List.map_nil,code]; decide)) bR hg9
     have bS := bS.kept hg9 (fun e => by injection e with e; omega)
     have bP := bP.kept hg9 (fun e => by injection e with e; omega)
     have hB := hB.grown hg9 hB.size (fun k hk => by cases hk; omega)
     clear hX hg9 bR
     refine hK.out _ _ (⟨bS.range 0 _ (fun j v hv => by rw [Nat.zero_add]; exact hv),bP.cell (j := 2) (v := .int .u16 p.ha) rfl⟩) (fun h => ?_)
     replace hHeld := h
     clear hK K h
     try simp only [Act.put,List.setIfInBounds_toArray,List.set_cons_zero,List.set_cons_succ])
   |refine rd3 2 5 6 ?_ ?_ ?_
   |refine rd2 5 6 ?_ ?_
   |refine rd1 6 ?_
   |refine rd1 5 ?_
   |refine rd2 2 6 ?_ ?_
   |refine rd1 2 ?_
   |refine rd2 2 5 ?_ ?_
   |(refine wpAnyH_done (by kernel_rfl) ?_ _
     go_wp2_with fail
     have hl := run_loadVar_row (P := Tryz.prog) _ (w.heap.size + 2) 57 57 _ (0,0) _ bR9 Tryz.underlying57 rfl (by kernel_rfl)
     refine bodyPost_ret (v := .tuple #[.agg #[.slice a dn c,.int .i64 s.mt,.int .i64 s.mx,.int .i64 2,.slice qa qn qc,.int .i64 2,.bool false,.slice ua un uc,.slice oa on oc,.bool false,.int .i64 0],.slice (some ⟨_,0,none⟩) 1 1,.slice (some ⟨_,0,none⟩) 1 1]) (by rw [results_cell_tmp2 rfl]; simp [asAddr,hl] <;> rfl) rfl ⟨_,_,⟨_,rfl⟩,DQ.svv (s := { s with db := putA s.db K p.vs }) hdq,hA9.mono (by omega),hB⟩)
end Go.Proofs.YtldcihjddebciaaGreat
