/- server: Handle, by its reference, for the requests that read and write. -/
import Derived.Test.YtldcihjddebciaaGreatVSdM
import Derived.Laws.ResultCell
set_option linter.unusedSimpArgs false
set_option linter.unusedVariables false
set_option maxRecDepth 100000
set_option maxHeartbeats 8000000
namespace Go.Proofs.YtldcihjddebciaaGreat
open Go.RowKit
theorem SvV.form {w : World} {v : Value} {s : Ss} (h : SvV w v s) : ∃ (da : Option Addr) (dn dc : Nat) (qa : Option Addr) (qn qc : Nat) (ua : Option Addr) (un uc : Nat) (oa : Option Addr) (on oc : Nat),v = .agg #[.slice da dn dc,.int .i64 s.mt,.int .i64 s.mx,.int .i64 2,.slice qa qn qc,.int .i64 2,.bool false,.slice ua un uc,.slice oa on oc,.bool false,.int .i64 0] ∧ DQ w (.slice da dn dc) (.slice qa qn qc) s.db s.qu ∧ s.db.length = dn ∧ s.qu.length = qn := by
 obtain ⟨dv,qv,uv,ov,rfl,h1,h2,⟨ua,un,uc,rfl⟩,oa,on,oc,rfl⟩ := h
 obtain ⟨da,dc,rfl⟩ := h1.form
 obtain ⟨qa,qc,rfl⟩ := h2.form
 exact ⟨da,_,dc,qa,_,qc,ua,un,uc,oa,on,oc,rfl,⟨h1,h2⟩,rfl,rfl⟩
theorem vhandle_any (s : Ss) (da : Option Addr) (dn dc : Nat) (qa : Option Addr) (qn qc : Nat) (ua : Option Addr) (un uc : Nat) (oa : Option Addr) (on oc : Nat) (p : Pd) (pa : Option Addr) (pn pc : Nat) (ia : Option Addr) (ino ic : Nat) (w : World) (hdq : DQ w (.slice da dn dc) (.slice qa qn qc) s.db s.qu) (hn : s.db.length = dn) (hqn : s.qu.length = qn) (hdk : DbOk s.db) (hgk : p.kd = 2 ∨ p.kd = 10 ∨ p.kd = 12 ∨ p.kd = 18 ∨ p.kd = 22 ∨ p.kd = 24)
 (hof : 0 ≤ p.of ∧ p.of ≤ 65535) (hv : BV w (.slice pa pn pc) p.vs) (hpn : p.vs.length = pn) (hm : pn ≤ 512) (hq16 : qn ≤ 16) (hqo : ∀ x ∈ s.qu,0 ≤ x.of ∧ x.of ≤ 65535 ∧ x.vs.length ≤ 512) (hpl : p.kd = 10 ∨ p.kd = 12 ∨ p.kd = 18 ∨ p.kd = 22 → findN s.db p.ha < s.db.length → plainA (atI s.db (findN s.db p.ha))) :
 Calls Tryz.prog 27 #[.agg #[.slice da dn dc,.int .i64 s.mt,.int .i64 s.mx,.int .i64 2,.slice qa qn qc,.int .i64 2,.bool false,.slice ua un uc,.slice oa on oc,.bool false,.int .i64 0],.agg #[.int .i64 p.kd,.int .i64 p.ask,.int .u16 p.ha,.int .u16 p.la,.int .u64 p.hi,.int .u64 p.lo,.int .i64 p.of,.int .i64 p.mt,.int .i64 p.co,.bool p.cm,.slice pa pn pc,.slice ia ino ic],.int .i64 0] w fun e w' => ∃ sv v o,e = .returned (.tuple #[sv,v,o]) ∧ SvV w' sv (stepS s p).1 ∧ AnsV w.heap.size w' v (stepS s p).2 [] ∧ Below w.heap.size w w' := by
 obtain ⟨RS,hRS⟩ : ∃ x,stepS s p = x := ⟨_,rfl⟩
 rw [hRS]
 have hrk : Rk p.kd := by unfold Rk; omega
 have hir := fun W => isReq_any p.kd hrk W
 have hrs : RS = stepS s p := hRS.symm
 obtain ⟨KD,hKD⟩ : ∃ x,p.kd = x := ⟨_,rfl⟩
 simp only [hKD] at hir
 rw [hKD] at hgk hpl
 have HIR := Lib.hid hir
 have HRS := Lib.hid (And.intro hrs hKD)
 have k1 : (KD == 30) = false := by rcases hgk with rfl | rfl | rfl | rfl | rfl | rfl <;> rfl
 have k2 : (KD == 82) = false := by rcases hgk with rfl | rfl | rfl | rfl | rfl | rfl <;> rfl
 have bS := ((Blk.new w 57 [.slice da dn dc,.int .i64 s.mt,.int .i64 s.mx,.int .i64 2,.slice qa qn qc,.int .i64 2,.bool false,.slice ua un uc,.slice oa on oc,.bool false,.int .i64 0]).alloc (.cells #[.int .i64 p.kd,.int .i64 p.ask,.int .u16 p.ha,.int .u16 p.la,.int .u64 p.hi,.int .u64 p.lo,.int .i64 p.of,.int .i64 p.mt,.int .i64 p.co,.bool p.cm,.slice pa pn pc,.slice ia ino ic] 49)).alloc (.cells #[.slice none 0 0,.int .i64 0,.int .i64 0,.int .i64 0,.slice none 0 0,.int .i64 0,.bool false,.slice none 0 0,.slice none 0 0,.bool false,.int .i64 0] 57)
 have bP := (Blk.new (w.alloc (.cells #[.slice da dn dc,.int .i64 s.mt,.int .i64 s.mx,.int .i64 2,.slice qa qn qc,.int .i64 2,.bool false,.slice ua un uc,.slice oa on oc,.bool false,.int .i64 0] 57)) 49 [.int .i64 p.kd,.int .i64 p.ask,.int .u16 p.ha,.int .u16 p.la,.int .u64 p.hi,.int .u64 p.lo,.int .i64 p.of,.int .i64 p.mt,.int .i64 p.co,.bool p.cm,.slice pa pn pc,.slice ia ino ic]).alloc (.cells #[.slice none 0 0,.int .i64 0,.int .i64 0,.int .i64 0,.slice none 0 0,.int .i64 0,.bool false,.slice none 0 0,.slice none 0 0,.bool false,.int .i64 0] 57)
 have bR := Blk.new ((w.alloc (.cells #[.slice da dn dc,.int .i64 s.mt,.int .i64 s.mx,.int .i64 2,.slice qa qn qc,.int .i64 2,.bool false,.slice ua un uc,.slice oa on oc,.bool false,.int .i64 0] 57)).alloc (.cells #[.int .i64 p.kd,.int .i64 p.ask,.int .u16 p.ha,.int .u16 p.la,.int .u64 p.hi,.int .u64 p.lo,.int .i64 p.of,.int .i64 p.mt,.int .i64 p.co,.bool p.cm,.slice pa pn pc,.slice ia ino ic] 49)) 57 [.slice none 0 0,.int .i64 0,.int .i64 0,.int .i64 0,.slice none 0 0,.int .i64 0,.bool false,.slice none 0 0,.slice none 0 0,.bool false,.int .i64 0]
 have hB := (((Below.refl w.heap.size w).alloc (Nat.le_refl _) (.cells #[.slice da dn dc,.int .i64 s.mt,.int .i64 s.mx,.int .i64 2,.slice qa qn qc,.int .i64 2,.bool false,.slice ua un uc,.slice oa on oc,.bool false,.int .i64 0] 57)).alloc (by simp) (.cells #[.int .i64 p.kd,.int .i64 p.ask,.int .u16 p.ha,.int .u16 p.la,.int .u64 p.hi,.int .u64 p.lo,.int .i64 p.of,.int .i64 p.mt,.int .i64 p.co,.bool p.cm,.slice pa pn pc,.slice ia ino ic] 49)).alloc (by simp; omega) (.cells #[.slice none 0 0,.int .i64 0,.int .i64 0,.int .i64 0,.slice none 0 0,.int .i64 0,.bool false,.slice none 0 0,.slice none 0 0,.bool false,.int .i64 0] 57)
 have hz1 : (w.alloc (.cells #[.slice da dn dc,.int .i64 s.mt,.int .i64 s.mx,.int .i64 2,.slice qa qn qc,.int .i64 2,.bool false,.slice ua un uc,.slice oa on oc,.bool false,.int .i64 0] 57)).heap.size = w.heap.size + 1 := by simp
 have hz2 : ((w.alloc (.cells #[.slice da dn dc,.int .i64 s.mt,.int .i64 s.mx,.int .i64 2,.slice qa qn qc,.int .i64 2,.bool false,.slice ua un uc,.slice oa on oc,.bool false,.int .i64 0] 57)).alloc (.cells #[.int .i64 p.kd,.int .i64 p.ask,.int .u16 p.ha,.int .u16 p.la,.int .u64 p.hi,.int .u64 p.lo,.int .i64 p.of,.int .i64 p.mt,.int .i64 p.co,.bool p.cm,.slice pa pn pc,.slice ia ino ic] 49)).heap.size = w.heap.size + 2 := by simp
 rw [hz1] at bP
 rw [hz2] at bR
 clear hz1 hz2
 have HY := Lib.hid (And.intro hn (And.intro hqn (And.intro hdk (And.intro hof (And.intro hpn (And.intro hm (And.intro hq16 (And.intro hqo hpl))))))))
 have HV := Lib.hid hv
 clear hn hqn hdk hof hv hpn hm hq16 hqo hpl hrs hRS hrk hir hKD
 go_enter Tryz.func27,Tryz.ntmps27
 go_upto_region 1 with fail
 generalize hX : World.alloc (World.alloc (World.alloc w _) _) _ = V at bS bP bR hB ⊢
 clear hX
 have hdq := hdq.below hB
 have n0 := bP.cell (j := 0) (v := .int .i64 KD) (by rw [← HRS.out.2]; rfl)
 have m6 := bS.cell (j := 6) (v := .bool false) rfl
 go_upto_region 16 with (go_at_call 44; refine (HIR.out _).mono ?_; rintro e w2 ⟨rfl,rfl⟩)
 clear m6 k1 k2 HIR
 obtain ⟨hn,hqn,hdk,hof,hpn,hm,hq16,hqo,hpl⟩ := HY.out
 have hv := HV.out.below hB
 have hrs := HRS.out.1
 have hkd := HRS.out.2
 unfold stepS at hrs
 rw [hkd] at hrs
 rcases hgk with rfl | hgk | hgk | rfl | rfl | rfl
 ·have hrs : RS = ({ s with mt := min p.mt s.mx },{ pd0 with kd := 3,mt := s.mx }) := by rw [hrs]; rfl
  obtain ⟨M,hM⟩ : ∃ x,min p.mt s.mx = x := ⟨_,rfl⟩
  rw [hM] at hrs
  subst hrs
  have y2 : (if s.mx < p.mt then s.mx else p.mt) = M := by rw [← hM]; split <;> omega
  have y3 : (if p.mt < s.mx then p.mt else s.mx) = M := by rw [← hM]; split <;> omega
  have m1 := bS.cell (j := 1) (v := .int .i64 s.mt) rfl
  have z1 := bS.frozen 1
  have m2 := bS.cell (j := 2) (v := .int .i64 s.mx) rfl
  have n7 := bP.cell (j := 7) (v := .int .i64 p.mt) rfl
  clear hn hqn hdk hof hpn hm hq16 hqo hpl hv hkd HRS HY HV hrs
  go_upto_region 19 with fail
  have hg := set1 V ⟨w.heap.size,1,none⟩ (.int .i64 M)
  have hn9 : Nox [.slice da dn dc,.int .i64 s.mt,.int .i64 s.mx,.int .i64 2,.slice qa qn qc,.int .i64 2,.bool false,.slice ua un uc,.slice oa on oc,.bool false,.int .i64 0] := nox_code (by simp only [List.map_cons,List.map_nil,code]; decide) (by simp only [List.map_cons,List.map_nil,code]; decide) (by simp only [List.map_cons,List.map_nil,code]; decide) (by simp only [List.map_cons,List.map_nil,code]; decide) (by simp only [List.map_cons,List.map_nil,code]; decide)
  have hdq := hdq.kept hn9 bS hg
  have bS := bS.setAt (j := 1) (.int .i64 M)
  have bP := bP.kept hg (fun e => by injection e with e; simp only at e; omega)
  have bR := bR.kept hg (fun e => by injection e with e; simp only at e; omega)
  have hB := hB.grown hg hB.size (fun k hk => by cases hk; exact Nat.le_refl _)
  generalize hX : World.setCell V _ _ = V2 at bS bP bR hB hdq ⊢
  have bS : Blk V2 w.heap.size 57 [.slice da dn dc,.int .i64 M,.int .i64 s.mx,.int .i64 2,.slice qa qn qc,.int .i64 2,.bool false,.slice ua un uc,.slice oa on oc,.bool false,.int .i64 0] := bS
  clear hX hg m1 z1 m2 n7 y2 y3 hM n0 hn9
  have hdq := hdq.below (Below.refl _ _).drew
  have bS := bS.drew
  have bP := bP.drew
  have bR := bR.drew
  have hB := hB.drew
  refine wp_region_held_drew (S := (fun W' : World => W'.rangeAt w.heap.size 0 [.slice da dn dc,.int .i64 M,.int .i64 s.mx,.int .i64 2,.slice qa qn qc,.int .i64 2,.bool false,.slice ua un uc,.slice oa on oc,.bool false,.int .i64 0] ∧ W'.cell? ⟨w.heap.size,2,none⟩ = some (.int .i64 s.mx))) (by kernel_rfl) (⟨bS.range 0 _ (fun j v hv => by rw [Nat.zero_add]; exact hv),bS.cell (j := 2) (v := .int .i64 s.mx) rfl⟩) (fun hHeld => ?_)
  generalize World.drew _ = wd at hHeld bS bP bR hdq hB ⊢
  repeat' first
   |refine tkN 0 57 w.heap.size 0 [.slice da dn dc,.int .i64 M,.int .i64 s.mx,.int .i64 2,.slice qa qn qc,.int .i64 2,.bool false,.slice ua un uc,.slice oa on oc,.bool false,.int .i64 0] (fun _ h => h.1) Tryz.underlying57 ?_
   |refine tkU 1 ?_
   |refine tkU 2 ?_
   |refine tkU 3 ?_
   |refine tkU 6 ?_
   |refine tkU 7 ?_
   |(refine opn 4 fun K hK => ?_
     go_simp
     generalize hX : World.alloc _ (.cells _ 49) = w4
     obtain ⟨hnb,hB4,hz4⟩ := alloc_named hX
     have hR3 := bS.lt
     try (have hR3 := bR.lt)
     try (have hR3 := bR9.lt)
     have hA9 : AnsV (w.heap.size + 3) w4 (.slice (some ⟨_,0,none⟩) 1 1) { pd0 with kd := 3,mt := s.mx } [] := ⟨_,.slice none 0 0,.slice none 0 0,rfl,(by omega),hnb,BV.nil _,[],rfl,SR.nil _ 5,fun q hq => by cases hq⟩
     have hdq := hdq.below hB4
     have bS := bS.below hB4
     have bP := bP.below hB4
     try have bR := bR.below hB4
     try have bR9 := bR9.below hB4
     have hB := hB.trans (hB4.mono hB.size)
     clear hX hnb hB4 hz4
     refine hK.out _ _ (⟨bS.range 0 _ (fun j v hv => by rw [Nat.zero_add]; exact hv),bS.cell (j := 2) (v := .int .i64 s.mx) rfl⟩) (fun h => ?_)
     replace hHeld := h
     clear hK K h
     try simp only [Act.put,List.setIfInBounds_toArray,List.set_cons_zero,List.set_cons_succ])
   |(refine opn 5 fun K hK => ?_
     refine step_store_mid (by rfl) 57 _ _ (by rfl) (w.heap.size + 2) 0 #[.slice da dn dc,.int .i64 M,.int .i64 s.mx,.int .i64 2,.slice qa qn qc,.int .i64 2,.bool false,.slice ua un uc,.slice oa on oc,.bool false,.int .i64 0] (by rfl) (by rfl) (bR.there 0 11 (by simp)) (by kernel_rfl) (by simp [Value.oneCell']) ?_
     generalize hX : World.setCells _ (w.heap.size + 2) 0 _ = w9
     obtain ⟨hg9,bR9⟩ := put_namedB bR hX rfl
     have hn9 : Nox [.slice none 0 0,.int .i64 0,.int .i64 0,.int .i64 0,.slice none 0 0,.int .i64 0,.bool false,.slice none 0 0,.slice none 0 0,.bool false,.int .i64 0] := nox_code (by simp only [List.map_cons,List.map_nil,code]; decide) (by simp only [List.map_cons,List.map_nil,code]; decide) (by simp only [List.map_cons,List.map_nil,code]; decide) (by simp only [List.map_cons,List.map_nil,code]; decide) (by simp only [List.map_cons,List.map_nil,code]; decide)
     have hdq := hdq.kept hn9 bR hg9
     try have hA9 := hA9.kept (by omega) hn9 bR hg9
     have bS := bS.kept hg9 (fun e => by injection e with e; omega)
     have bP := bP.kept hg9 (fun e => by injection e with e; omega)
     have hB := hB.grown hg9 hB.size (fun k hk => by cases hk; omega)
     clear hX hg9 bR hn9
     refine hK.out _ _ (⟨bS.range 0 _ (fun j v hv => by rw [Nat.zero_add]; exact hv),bS.cell (j := 2) (v := .int .i64 s.mx) rfl⟩) (fun h => ?_)
     replace hHeld := h
     clear hK K h
     try simp only [Act.put,List.setIfInBounds_toArray,List.set_cons_zero,List.set_cons_succ])
   |refine rd2 4 5 ?_ ?_
   |refine rd1 5 ?_
   |refine rd1 4 ?_
   |(refine wpAnyH_done (by kernel_rfl) ?_ _
     go_wp2_with fail
     have hl := run_loadVar_row (P := Tryz.prog) _ (w.heap.size + 2) 57 57 _ (0,0) _ bR9 Tryz.underlying57 rfl (by kernel_rfl)
     refine bodyPost_ret (v := .tuple #[.agg #[.slice da dn dc,.int .i64 M,.int .i64 s.mx,.int .i64 2,.slice qa qn qc,.int .i64 2,.bool false,.slice ua un uc,.slice oa on oc,.bool false,.int .i64 0],.slice (some ⟨_,0,none⟩) 1 1,.slice none 0 0]) (by rw [results_cell_tmp2 rfl]; simp [asAddr,hl] <;> rfl) rfl ⟨_,_,⟨_,rfl⟩,DQ.svv (s := { s with mt := M }) hdq,hA9.mono (by omega),hB⟩)
 ·subst hgk
  have HC := Lib.hid (fun W (hW : DbR W (.slice da dn dc) s.db) => vread_any s da dn dc qa qn qc ua un uc oa on oc p pa pn pc ia ino ic W hW.dbs hn hdk (.inl hkd) hof (hpl (.inl rfl)))
  have hrs : RS = (s,readS s p) := by rw [hrs]; rfl
  subst hrs
  clear hn hqn hdk hof hpn hm hq16 hqo hpl hv hkd HRS HY HV
  go_upto_region 28 with fail
  clear n0
  have hdq := hdq.below (Below.refl _ _).drew
  have bS := bS.drew
  have bP := bP.drew
  have bR := bR.drew
  have hB := hB.drew
  refine wp_region_held_drew (S := (fun W' : World => W'.rangeAt w.heap.size 0 [.slice da dn dc,.int .i64 s.mt,.int .i64 s.mx,.int .i64 2,.slice qa qn qc,.int .i64 2,.bool false,.slice ua un uc,.slice oa on oc,.bool false,.int .i64 0] ∧ W'.rangeAt (w.heap.size + 1) 0 [.int .i64 p.kd,.int .i64 p.ask,.int .u16 p.ha,.int .u16 p.la,.int .u64 p.hi,.int .u64 p.lo,.int .i64 p.of,.int .i64 p.mt,.int .i64 p.co,.bool p.cm,.slice pa pn pc,.slice ia ino ic])) (by kernel_rfl) (⟨bS.range 0 _ (fun j v hv => by rw [Nat.zero_add]; exact hv),bP.range 0 _ (fun j v hv => by rw [Nat.zero_add]; exact hv)⟩) (fun hHeld => ?_)
  generalize World.drew _ = wd at hHeld bS bP bR hdq hB ⊢
  repeat' first
   |refine tkN 0 57 w.heap.size 0 [.slice da dn dc,.int .i64 s.mt,.int .i64 s.mx,.int .i64 2,.slice qa qn qc,.int .i64 2,.bool false,.slice ua un uc,.slice oa on oc,.bool false,.int .i64 0] (fun _ h => h.1) Tryz.underlying57 ?_
   |refine tkN 1 57 w.heap.size 0 [.slice da dn dc,.int .i64 s.mt,.int .i64 s.mx,.int .i64 2,.slice qa qn qc,.int .i64 2,.bool false,.slice ua un uc,.slice oa on oc,.bool false,.int .i64 0] (fun _ h => h.1) Tryz.underlying57 ?_
   |refine tkN 2 49 (w.heap.size + 1) 0 [.int .i64 p.kd,.int .i64 p.ask,.int .u16 p.ha,.int .u16 p.la,.int .u64 p.hi,.int .u64 p.lo,.int .i64 p.of,.int .i64 p.mt,.int .i64 p.co,.bool p.cm,.slice pa pn pc,.slice ia ino ic] (fun _ h => h.2) Tryz.underlying49 ?_
   |refine tkU 5 ?_
   |refine tkU 6 ?_
   |(refine opn 3 fun K hK => ?_
     go_simp
     have hR3 := bS.lt
     try (have hR3 := bR.lt)
     try (have hR3 := bR9.lt)
     go_at_call 50
     refine (HC.out _ hdq.db).mono ?_
     rintro e w3 ⟨v9,rfl,hA9,hC⟩
     have hdq := hdq.below hC
     have bS := bS.below hC
     have bP := bP.below hC
     try have bR := bR.below hC
     try have bR9 := bR9.below hC
     have hB := hB.trans (hC.mono hB.size)
     clear hC
     refine hK.out _ _ (⟨bS.range 0 _ (fun j v hv => by rw [Nat.zero_add]; exact hv),bP.range 0 _ (fun j v hv => by rw [Nat.zero_add]; exact hv)⟩) (fun h => ?_)
     replace hHeld := h
     clear hK K h
     try simp only [Act.put,List.setIfInBounds_toArray,List.set_cons_zero,List.set_cons_succ])
   |(refine opn 4 fun K hK => ?_
     refine step_store_mid (by rfl) 57 _ _ (by rfl) (w.heap.size + 2) 0 #[.slice da dn dc,.int .i64 s.mt,.int .i64 s.mx,.int .i64 2,.slice qa qn qc,.int .i64 2,.bool false,.slice ua un uc,.slice oa on oc,.bool false,.int .i64 0] (by rfl) (by rfl) (bR.there 0 11 (by simp)) (by kernel_rfl) (by simp [Value.oneCell']) ?_
     generalize hX : World.setCells _ (w.heap.size + 2) 0 _ = w9
     obtain ⟨hg9,bR9⟩ := put_namedB bR hX rfl
     have hn9 : Nox [.slice none 0 0,.int .i64 0,.int .i64 0,.int .i64 0,.slice none 0 0,.int .i64 0,.bool false,.slice none 0 0,.slice none 0 0,.bool false,.int .i64 0] := nox_code (by simp only [List.map_cons,List.map_nil,code]; decide) (by simp only [List.map_cons,List.map_nil,code]; decide) (by simp only [List.map_cons,List.map_nil,code]; decide) (by simp only [List.map_cons,List.map_nil,code]; decide) (by simp only [List.map_cons,List.map_nil,code]; decide)
     have hdq := hdq.kept hn9 bR hg9
     try have hA9 := hA9.kept (by omega) hn9 bR hg9
     have bS := bS.kept hg9 (fun e => by injection e with e; omega)
     have bP := bP.kept hg9 (fun e => by injection e with e; omega)
     have hB := hB.grown hg9 hB.size (fun k hk => by cases hk; omega)
     clear hX hg9 bR hn9
     refine hK.out _ _ (⟨bS.range 0 _ (fun j v hv => by rw [Nat.zero_add]; exact hv),bP.range 0 _ (fun j v hv => by rw [Nat.zero_add]; exact hv)⟩) (fun h => ?_)
     replace hHeld := h
     clear hK K h
     try simp only [Act.put,List.setIfInBounds_toArray,List.set_cons_zero,List.set_cons_succ])
   |refine rd1 3 ?_
   |refine rd1 4 ?_
   |(refine wpAnyH_done (by kernel_rfl) ?_ _
     go_wp2_with fail
     have hl := run_loadVar_row (P := Tryz.prog) _ (w.heap.size + 2) 57 57 _ (0,0) _ bR9 Tryz.underlying57 rfl (by kernel_rfl)
     refine bodyPost_ret (v := .tuple #[.agg #[.slice da dn dc,.int .i64 s.mt,.int .i64 s.mx,.int .i64 2,.slice qa qn qc,.int .i64 2,.bool false,.slice ua un uc,.slice oa on oc,.bool false,.int .i64 0],v9,.slice none 0 0]) (by rw [results_cell_tmp2 rfl]; simp [asAddr,hl] <;> rfl) rfl ⟨_,_,⟨_,rfl⟩,DQ.svv (s := s) hdq,hA9.mono (by omega),hB⟩)
 ·subst hgk
  have HC := Lib.hid (fun W (hW : DbR W (.slice da dn dc) s.db) => vread_any s da dn dc qa qn qc ua un uc oa on oc p pa pn pc ia ino ic W hW.dbs hn hdk (.inr hkd) hof (hpl (.inr (.inl rfl))))
  have hrs : RS = (s,readS s p) := by rw [hrs]; rfl
  subst hrs
  clear hn hqn hdk hof hpn hm hq16 hqo hpl hv hkd HRS HY HV
  go_upto_region 28 with fail
  clear n0
  have hdq := hdq.below (Below.refl _ _).drew
  have bS := bS.drew
  have bP := bP.drew
  have bR := bR.drew
  have hB := hB.drew
  refine wp_region_held_drew (S := (fun W' : World => W'.rangeAt w.heap.size 0 [.slice da dn dc,.int .i64 s.mt,.int .i64 s.mx,.int .i64 2,.slice qa qn qc,.int .i64 2,.bool false,.slice ua un uc,.slice oa on oc,.bool false,.int .i64 0] ∧ W'.rangeAt (w.heap.size + 1) 0 [.int .i64 p.kd,.int .i64 p.ask,.int .u16 p.ha,.int .u16 p.la,.int .u64 p.hi,.int .u64 p.lo,.int .i64 p.of,.int .i64 p.mt,.int .i64 p.co,.bool p.cm,.slice pa pn pc,.slice ia ino ic])) (by kernel_rfl) (⟨bS.range 0 _ (fun j v hv => by rw [Nat.zero_add]; exact hv),bP.range 0 _ (fun j v hv => by rw [Nat.zero_add]; exact hv)⟩) (fun hHeld => ?_)
  generalize World.drew _ = wd at hHeld bS bP bR hdq hB ⊢
  repeat' first
   |refine tkN 0 57 w.heap.size 0 [.slice da dn dc,.int .i64 s.mt,.int .i64 s.mx,.int .i64 2,.slice qa qn qc,.int .i64 2,.bool false,.slice ua un uc,.slice oa on oc,.bool false,.int .i64 0] (fun _ h => h.1) Tryz.underlying57 ?_
   |refine tkN 1 57 w.heap.size 0 [.slice da dn dc,.int .i64 s.mt,.int .i64 s.mx,.int .i64 2,.slice qa qn qc,.int .i64 2,.bool false,.slice ua un uc,.slice oa on oc,.bool false,.int .i64 0] (fun _ h => h.1) Tryz.underlying57 ?_
   |refine tkN 2 49 (w.heap.size + 1) 0 [.int .i64 p.kd,.int .i64 p.ask,.int .u16 p.ha,.int .u16 p.la,.int .u64 p.hi,.int .u64 p.lo,.int .i64 p.of,.int .i64 p.mt,.int .i64 p.co,.bool p.cm,.slice pa pn pc,.slice ia ino ic] (fun _ h => h.2) Tryz.underlying49 ?_
   |refine tkU 5 ?_
   |refine tkU 6 ?_
   |(refine opn 3 fun K hK => ?_
     go_simp
     have hR3 := bS.lt
     try (have hR3 := bR.lt)
     try (have hR3 := bR9.lt)
     go_at_call 50
     refine (HC.out _ hdq.db).mono ?_
     rintro e w3 ⟨v9,rfl,hA9,hC⟩
     have hdq := hdq.below hC
     have bS := bS.below hC
     have bP := bP.below hC
     try have bR := bR.below hC
     try have bR9 := bR9.below hC
     have hB := hB.trans (hC.mono hB.size)
     clear hC
     refine hK.out _ _ (⟨bS.range 0 _ (fun j v hv => by rw [Nat.zero_add]; exact hv),bP.range 0 _ (fun j v hv => by rw [Nat.zero_add]; exact hv)⟩) (fun h => ?_)
     replace hHeld := h
     clear hK K h
     try simp only [Act.put,List.setIfInBounds_toArray,List.set_cons_zero,List.set_cons_succ])
   |(refine opn 4 fun K hK => ?_
     refine step_store_mid (by rfl) 57 _ _ (by rfl) (w.heap.size + 2) 0 #[.slice da dn dc,.int .i64 s.mt,.int .i64 s.mx,.int .i64 2,.slice qa qn qc,.int .i64 2,.bool false,.slice ua un uc,.slice oa on oc,.bool false,.int .i64 0] (by rfl) (by rfl) (bR.there 0 11 (by simp)) (by kernel_rfl) (by simp [Value.oneCell']) ?_
     generalize hX : World.setCells _ (w.heap.size + 2) 0 _ = w9
     obtain ⟨hg9,bR9⟩ := put_namedB bR hX rfl
     have hn9 : Nox [.slice none 0 0,.int .i64 0,.int .i64 0,.int .i64 0,.slice none 0 0,.int .i64 0,.bool false,.slice none 0 0,.slice none 0 0,.bool false,.int .i64 0] := nox_code (by simp only [List.map_cons,List.map_nil,code]; decide) (by simp only [List.map_cons,List.map_nil,code]; decide) (by simp only [List.map_cons,List.map_nil,code]; decide) (by simp only [List.map_cons,List.map_nil,code]; decide) (by simp only [List.map_cons,List.map_nil,code]; decide)
     have hdq := hdq.kept hn9 bR hg9
     try have hA9 := hA9.kept (by omega) hn9 bR hg9
     have bS := bS.kept hg9 (fun e => by injection e with e; omega)
     have bP := bP.kept hg9 (fun e => by injection e with e; omega)
     have hB := hB.grown hg9 hB.size (fun k hk => by cases hk; omega)
     clear hX hg9 bR hn9
     refine hK.out _ _ (⟨bS.range 0 _ (fun j v hv => by rw [Nat.zero_add]; exact hv),bP.range 0 _ (fun j v hv => by rw [Nat.zero_add]; exact hv)⟩) (fun h => ?_)
     replace hHeld := h
     clear hK K h
     try simp only [Act.put,List.setIfInBounds_toArray,List.set_cons_zero,List.set_cons_succ])
   |refine rd1 3 ?_
   |refine rd1 4 ?_
   |(refine wpAnyH_done (by kernel_rfl) ?_ _
     go_wp2_with fail
     have hl := run_loadVar_row (P := Tryz.prog) _ (w.heap.size + 2) 57 57 _ (0,0) _ bR9 Tryz.underlying57 rfl (by kernel_rfl)
     refine bodyPost_ret (v := .tuple #[.agg #[.slice da dn dc,.int .i64 s.mt,.int .i64 s.mx,.int .i64 2,.slice qa qn qc,.int .i64 2,.bool false,.slice ua un uc,.slice oa on oc,.bool false,.int .i64 0],v9,.slice none 0 0]) (by rw [results_cell_tmp2 rfl]; simp [asAddr,hl] <;> rfl) rfl ⟨_,_,⟨_,rfl⟩,DQ.svv (s := s) hdq,hA9.mono (by omega),hB⟩)
 ·have hrs : RS = writeS s p := by rw [hrs]; rfl
  have HC := Lib.hid (vwrite_any s da dn dc qa qn qc ua un uc oa on oc p pa pn pc ia ino ic V hdq hn hqn hdk hv hpn (by omega) (hpl (by simp)))
  rw [← hrs] at HC
  obtain ⟨s2,p2⟩ := RS
  have rgS := bS.range 0 [.slice da dn dc,.int .i64 s.mt,.int .i64 s.mx,.int .i64 2,.slice qa qn qc,.int .i64 2,.bool false,.slice ua un uc,.slice oa on oc,.bool false,.int .i64 0] (fun j v hv => by rw [Nat.zero_add]; exact hv)
  have rgP := bP.range 0 [.int .i64 p.kd,.int .i64 p.ask,.int .u16 p.ha,.int .u16 p.la,.int .u64 p.hi,.int .u64 p.lo,.int .i64 p.of,.int .i64 p.mt,.int .i64 p.co,.bool p.cm,.slice pa pn pc,.slice ia ino ic] (fun j v hv => by rw [Nat.zero_add]; exact hv)
  clear hn hqn hdk hof hpn hm hq16 hqo hpl hv hkd HRS HY HV hdq hrs
  go_wp2_with (first | (refine wpList_load_mid rfl 57 _ rfl w.heap.size 0 rfl [.slice da dn dc,.int .i64 s.mt,.int .i64 s.mx,.int .i64 2,.slice qa qn qc,.int .i64 2,.bool false,.slice ua un uc,.slice oa on oc,.bool false,.int .i64 0] _ rgS Tryz.underlying57 rfl (by kernel_rfl) ?_) | (refine wpList_load_mid rfl 49 _ rfl (w.heap.size + 1) 0 rfl [.int .i64 p.kd,.int .i64 p.ask,.int .u16 p.ha,.int .u16 p.la,.int .u64 p.hi,.int .u64 p.lo,.int .i64 p.of,.int .i64 p.mt,.int .i64 p.co,.bool p.cm,.slice pa pn pc,.slice ia ino ic] _ rgP Tryz.underlying49 rfl (by kernel_rfl) ?_) | (go_at_call 43; refine HC.out.mono ?_; rintro e w2 ⟨sv,v9,o9,rfl,hsv,hA9,hC2⟩; obtain ⟨da2,dn2,dc2,qa2,qn2,qc2,ua2,un2,uc2,oa2,on2,oc2,rfl,hdq,-,-⟩ := hsv.form; have hl9 := bR.lt; have bR := bR.below hC2; have hB := hB.trans (hC2.mono hB.size); clear hC2 rgS rgP hsv HC; have hth := bR.there 0 11 (by simp); have one : (#[.slice da2 dn2 dc2,.int .i64 s2.mt,.int .i64 s2.mx,.int .i64 2,.slice qa2 qn2 qc2,.int .i64 2,.bool false,.slice ua2 un2 uc2,.slice oa2 on2 oc2,.bool false,.int .i64 0] : Array Value).all (·.oneCell') = true := by simp [Value.oneCell']) | (refine wpList_store_mid rfl 57 _ _ rfl (w.heap.size + 2) 0 #[.slice da2 dn2 dc2,.int .i64 s2.mt,.int .i64 s2.mx,.int .i64 2,.slice qa2 qn2 qc2,.int .i64 2,.bool false,.slice ua2 un2 uc2,.slice oa2 on2 oc2,.bool false,.int .i64 0] rfl rfl hth (by kernel_rfl) one ?_; simp only [Act.put]; generalize hW : World.setCells _ (w.heap.size + 2) 0 _ = w9; have HW := Lib.hid hW; clear hW))
  obtain ⟨hg9,bR9⟩ := put_namedB bR HW.out rfl
  have hn9 : Nox [.slice none 0 0,.int .i64 0,.int .i64 0,.int .i64 0,.slice none 0 0,.int .i64 0,.bool false,.slice none 0 0,.slice none 0 0,.bool false,.int .i64 0] := nox_code (by simp only [List.map_cons,List.map_nil,code]; decide) (by simp only [List.map_cons,List.map_nil,code]; decide) (by simp only [List.map_cons,List.map_nil,code]; decide) (by simp only [List.map_cons,List.map_nil,code]; decide) (by simp only [List.map_cons,List.map_nil,code]; decide)
  have hdq := hdq.kept hn9 bR hg9
  have hA9 := hA9.kept (by omega) hn9 bR hg9
  have hB := hB.grown hg9 hB.size (fun k hk => by cases hk; omega)
  have hl := run_loadVar_row (P := Tryz.prog) _ (w.heap.size + 2) 57 57 _ (0,0) _ bR9 Tryz.underlying57 rfl (by kernel_rfl)
  refine bodyPost_ret (v := .tuple #[.agg #[.slice da2 dn2 dc2,.int .i64 s2.mt,.int .i64 s2.mx,.int .i64 2,.slice qa2 qn2 qc2,.int .i64 2,.bool false,.slice ua2 un2 uc2,.slice oa2 on2 oc2,.bool false,.int .i64 0],v9,o9]) (by rw [results_cell_tmp2 rfl]; simp [asAddr,hl] <;> rfl) rfl ⟨_,_,⟨_,rfl⟩,DQ.svv (s := s2) hdq,hA9.mono (by omega),hB⟩
 ·have hrs : RS = prepS s p := by rw [hrs]; rfl
  have HC := Lib.hid (vprepare_any s da dn dc qa qn qc ua un uc oa on oc p pa pn pc ia ino ic V hdq hn hqn hdk hv hpn (by omega) (hpl (by simp)))
  rw [← hrs] at HC
  obtain ⟨s2,p2⟩ := RS
  have rgS := bS.range 0 [.slice da dn dc,.int .i64 s.mt,.int .i64 s.mx,.int .i64 2,.slice qa qn qc,.int .i64 2,.bool false,.slice ua un uc,.slice oa on oc,.bool false,.int .i64 0] (fun j v hv => by rw [Nat.zero_add]; exact hv)
  have rgP := bP.range 0 [.int .i64 p.kd,.int .i64 p.ask,.int .u16 p.ha,.int .u16 p.la,.int .u64 p.hi,.int .u64 p.lo,.int .i64 p.of,.int .i64 p.mt,.int .i64 p.co,.bool p.cm,.slice pa pn pc,.slice ia ino ic] (fun j v hv => by rw [Nat.zero_add]; exact hv)
  clear hn hqn hdk hof hpn hm hq16 hqo hpl hv hkd HRS HY HV hdq hrs
  go_upto_region 33 with (first | (refine wpList_load_mid rfl 57 _ rfl w.heap.size 0 rfl [.slice da dn dc,.int .i64 s.mt,.int .i64 s.mx,.int .i64 2,.slice qa qn qc,.int .i64 2,.bool false,.slice ua un uc,.slice oa on oc,.bool false,.int .i64 0] _ rgS Tryz.underlying57 rfl (by kernel_rfl) ?_) | (refine wpList_load_mid rfl 49 _ rfl (w.heap.size + 1) 0 rfl [.int .i64 p.kd,.int .i64 p.ask,.int .u16 p.ha,.int .u16 p.la,.int .u64 p.hi,.int .u64 p.lo,.int .i64 p.of,.int .i64 p.mt,.int .i64 p.co,.bool p.cm,.slice pa pn pc,.slice ia ino ic] _ rgP Tryz.underlying49 rfl (by kernel_rfl) ?_) | (go_at_call 51; refine HC.out.mono ?_; rintro e w2 ⟨sv,v9,rfl,hsv,hA9,hC2⟩; obtain ⟨da2,dn2,dc2,qa2,qn2,qc2,ua2,un2,uc2,oa2,on2,oc2,rfl,hdq,-,-⟩ := hsv.form; have hl9 := bR.lt; have bR := bR.below hC2; have hB := hB.trans (hC2.mono hB.size); clear hC2 rgS rgP hsv HC; have bX := Blk.new w2 57 [.slice none 0 0,.int .i64 0,.int .i64 0,.int .i64 0,.slice none 0 0,.int .i64 0,.bool false,.slice none 0 0,.slice none 0 0,.bool false,.int .i64 0]; have hth := bX.there 0 11 (by simp); have one : (#[.slice da2 dn2 dc2,.int .i64 s2.mt,.int .i64 s2.mx,.int .i64 2,.slice qa2 qn2 qc2,.int .i64 2,.bool false,.slice ua2 un2 uc2,.slice oa2 on2 oc2,.bool false,.int .i64 0] : Array Value).all (·.oneCell') = true := by simp [Value.oneCell']) | (refine wpList_store_mid rfl 57 _ _ rfl w2.heap.size 0 #[.slice da2 dn2 dc2,.int .i64 s2.mt,.int .i64 s2.mx,.int .i64 2,.slice qa2 qn2 qc2,.int .i64 2,.bool false,.slice ua2 un2 uc2,.slice oa2 on2 oc2,.bool false,.int .i64 0] rfl rfl hth (by kernel_rfl) one ?_; simp only [Act.put]; generalize hW : World.setCells _ w2.heap.size 0 _ = w7; have HW := Lib.hid hW; clear hW))
  obtain ⟨hg7,bX7⟩ := put_namedB bX HW.out rfl
  have hA7 : Below w2.heap.size w2 w7 := ((Below.refl w2.heap.size w2).alloc (Nat.le_refl _) _).grown hg7 (by simp) (fun k hk => by cases hk; exact Nat.le_refl _)
  have bR := bR.below hA7
  have hdq := hdq.below hA7
  have hA9 := hA9.below hA7
  have hB := hB.trans (hA7.mono hB.size)
  clear HW hg7 hA7 bX hth
  obtain ⟨T7,hT7⟩ : ∃ x,w2.heap.size = x := ⟨_,rfl⟩
  rw [hT7] at bX7 ⊢
  have rgT := bX7.range 0 [.slice da2 dn2 dc2,.int .i64 s2.mt,.int .i64 s2.mx,.int .i64 2,.slice qa2 qn2 qc2,.int .i64 2,.bool false,.slice ua2 un2 uc2,.slice oa2 on2 oc2,.bool false,.int .i64 0] (fun j v hv => by rw [Nat.zero_add]; exact hv)
  have hth := bR.there 0 11 (by simp)
  go_wp2_with (first | (refine wpList_load_mid rfl 57 _ rfl T7 0 rfl [.slice da2 dn2 dc2,.int .i64 s2.mt,.int .i64 s2.mx,.int .i64 2,.slice qa2 qn2 qc2,.int .i64 2,.bool false,.slice ua2 un2 uc2,.slice oa2 on2 oc2,.bool false,.int .i64 0] _ rgT Tryz.underlying57 rfl (by kernel_rfl) ?_) | (refine wpList_store_mid rfl 57 _ _ rfl (w.heap.size + 2) 0 #[.slice da2 dn2 dc2,.int .i64 s2.mt,.int .i64 s2.mx,.int .i64 2,.slice qa2 qn2 qc2,.int .i64 2,.bool false,.slice ua2 un2 uc2,.slice oa2 on2 oc2,.bool false,.int .i64 0] rfl rfl hth (by kernel_rfl) one ?_; simp only [Act.put]; generalize hW : World.setCells _ (w.heap.size + 2) 0 _ = w9; have HW := Lib.hid hW; clear hW))
  obtain ⟨hg9,bR9⟩ := put_namedB bR HW.out rfl
  have hn9 : Nox [.slice none 0 0,.int .i64 0,.int .i64 0,.int .i64 0,.slice none 0 0,.int .i64 0,.bool false,.slice none 0 0,.slice none 0 0,.bool false,.int .i64 0] := nox_code (by simp only [List.map_cons,List.map_nil,code]; decide) (by simp only [List.map_cons,List.map_nil,code]; decide) (by simp only [List.map_cons,List.map_nil,code]; decide) (by simp only [List.map_cons,List.map_nil,code]; decide) (by simp only [List.map_cons,List.map_nil,code]; decide)
  have hdq := hdq.kept hn9 bR hg9
  have hA9 := hA9.kept (by omega) hn9 bR hg9
  have hB := hB.grown hg9 hB.size (fun k hk => by cases hk; omega)
  have hl := run_loadVar_row (P := Tryz.prog) _ (w.heap.size + 2) 57 57 _ (0,0) _ bR9 Tryz.underlying57 rfl (by kernel_rfl)
  refine bodyPost_ret (v := .tuple #[.agg #[.slice da2 dn2 dc2,.int .i64 s2.mt,.int .i64 s2.mx,.int .i64 2,.slice qa2 qn2 qc2,.int .i64 2,.bool false,.slice ua2 un2 uc2,.slice oa2 on2 oc2,.bool false,.int .i64 0],v9,.slice none 0 0]) (by rw [results_cell_tmp2 rfl]; simp [asAddr,hl] <;> rfl) rfl ⟨_,_,⟨_,rfl⟩,DQ.svv (s := s2) hdq,hA9.mono (by omega),hB⟩
 ·have hrs : RS = execS s p := by rw [hrs]; rfl
  have HC := Lib.hid (vexec_any s da dn dc qa qn qc ua un uc oa on oc p pa pn pc ia ino ic V hdq hn hqn hdk hq16 hqo)
  rw [← hrs] at HC
  obtain ⟨s2,p2⟩ := RS
  have rgS := bS.range 0 [.slice da dn dc,.int .i64 s.mt,.int .i64 s.mx,.int .i64 2,.slice qa qn qc,.int .i64 2,.bool false,.slice ua un uc,.slice oa on oc,.bool false,.int .i64 0] (fun j v hv => by rw [Nat.zero_add]; exact hv)
  have rgP := bP.range 0 [.int .i64 p.kd,.int .i64 p.ask,.int .u16 p.ha,.int .u16 p.la,.int .u64 p.hi,.int .u64 p.lo,.int .i64 p.of,.int .i64 p.mt,.int .i64 p.co,.bool p.cm,.slice pa pn pc,.slice ia ino ic] (fun j v hv => by rw [Nat.zero_add]; exact hv)
  clear hn hqn hdk hof hpn hm hq16 hqo hpl hv hkd HRS HY HV hdq hrs
  go_wp2_with (first | (refine wpList_load_mid rfl 57 _ rfl w.heap.size 0 rfl [.slice da dn dc,.int .i64 s.mt,.int .i64 s.mx,.int .i64 2,.slice qa qn qc,.int .i64 2,.bool false,.slice ua un uc,.slice oa on oc,.bool false,.int .i64 0] _ rgS Tryz.underlying57 rfl (by kernel_rfl) ?_) | (refine wpList_load_mid rfl 49 _ rfl (w.heap.size + 1) 0 rfl [.int .i64 p.kd,.int .i64 p.ask,.int .u16 p.ha,.int .u16 p.la,.int .u64 p.hi,.int .u64 p.lo,.int .i64 p.of,.int .i64 p.mt,.int .i64 p.co,.bool p.cm,.slice pa pn pc,.slice ia ino ic] _ rgP Tryz.underlying49 rfl (by kernel_rfl) ?_) | (go_at_call 52; refine HC.out.mono ?_; rintro e w2 ⟨sv,v9,o9,rfl,hsv,hA9,hC2⟩; obtain ⟨da2,dn2,dc2,qa2,qn2,qc2,ua2,un2,uc2,oa2,on2,oc2,rfl,hdq,-,-⟩ := hsv.form; have hl9 := bR.lt; have bR := bR.below hC2; have hB := hB.trans (hC2.mono hB.size); clear hC2 rgS rgP hsv HC; have hth := bR.there 0 11 (by simp); have one : (#[.slice da2 dn2 dc2,.int .i64 s2.mt,.int .i64 s2.mx,.int .i64 2,.slice qa2 qn2 qc2,.int .i64 2,.bool false,.slice ua2 un2 uc2,.slice oa2 on2 oc2,.bool false,.int .i64 0] : Array Value).all (·.oneCell') = true := by simp [Value.oneCell']) | (refine wpList_store_mid rfl 57 _ _ rfl (w.heap.size + 2) 0 #[.slice da2 dn2 dc2,.int .i64 s2.mt,.int .i64 s2.mx,.int .i64 2,.slice qa2 qn2 qc2,.int .i64 2,.bool false,.slice ua2 un2 uc2,.slice oa2 on2 oc2,.bool false,.int .i64 0] rfl rfl hth (by kernel_rfl) one ?_; simp only [Act.put]; generalize hW : World.setCells _ (w.heap.size + 2) 0 _ = w9; have HW := Lib.hid hW; clear hW))
  obtain ⟨hg9,bR9⟩ := put_namedB bR HW.out rfl
  have hn9 : Nox [.slice none 0 0,.int .i64 0,.int .i64 0,.int .i64 0,.slice none 0 0,.int .i64 0,.bool false,.slice none 0 0,.slice none 0 0,.bool false,.int .i64 0] := nox_code (by simp only [List.map_cons,List.map_nil,code]; decide) (by simp only [List.map_cons,List.map_nil,code]; decide) (by simp only [List.map_cons,List.map_nil,code]; decide) (by simp only [List.map_cons,List.map_nil,code]; decide) (by simp only [List.map_cons,List.map_nil,code]; decide)
  have hdq := hdq.kept hn9 bR hg9
  have hA9 := hA9.kept (by omega) hn9 bR hg9
  have hB := hB.grown hg9 hB.size (fun k hk => by cases hk; omega)
  have hl := run_loadVar_row (P := Tryz.prog) _ (w.heap.size + 2) 57 57 _ (0,0) _ bR9 Tryz.underlying57 rfl (by kernel_rfl)
  refine bodyPost_ret (v := .tuple #[.agg #[.slice da2 dn2 dc2,.int .i64 s2.mt,.int .i64 s2.mx,.int .i64 2,.slice qa2 qn2 qc2,.int .i64 2,.bool false,.slice ua2 un2 uc2,.slice oa2 on2 oc2,.bool false,.int .i64 0],v9,o9]) (by rw [results_cell_tmp2 rfl]; simp [asAddr,hl] <;> rfl) rfl ⟨_,_,⟨_,rfl⟩,DQ.svv (s := s2) hdq,hA9.mono (by omega),hB⟩
end Go.Proofs.YtldcihjddebciaaGreat
