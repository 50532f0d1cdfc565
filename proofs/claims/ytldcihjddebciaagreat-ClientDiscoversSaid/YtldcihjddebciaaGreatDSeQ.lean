/- server: Handle, by its reference, for the requests that discover. And what follows it. -/
import Derived.Test.YtldcihjddebciaaGreatDSeM
import Derived.Laws.ResultCell
import Derived.Test.YtldcihjddebciaaGreatDSdA
import Derived.Test.YtldcihjddebciaaGreatDSdP
set_option linter.unusedSimpArgs false
set_option linter.unusedVariables false
set_option maxRecDepth 100000
set_option maxHeartbeats 8000000
namespace Go.Proofs.YtldcihjddebciaaGreat
open Go.RowKit
theorem SvV.form {w : World} {v : Value} {s : Ss} (h : SvV w v s) : ∃ (da : Option Addr) (dn dc : Nat) (qa : Option Addr) (qn qc : Nat) (ua : Option Addr) (un uc : Nat) (oa : Option Addr) (on oc : Nat),v = .agg #[.slice da dn dc,.int .i64 s.mt,.int .i64 s.mx,.int .i64 2,.slice qa qn qc,.int .i64 2,.bool false,.slice ua un uc,.slice oa on oc,.bool false,.int .i64 0] ∧ DQ w (.slice da dn dc) (.slice qa qn qc) s.db s.qu ∧ s.db.length = dn ∧ s.qu.length = qn := by
 obtain ⟨dv,qv,uv,ov,rfl,h1,h2,⟨ua,un,uc,rfl⟩,oa,on,oc,rfl⟩ := h
 obtain ⟨da,dc,rfl⟩ := h1.form
 obtain ⟨qa,qc,rfl⟩ := h2.form
 exact ⟨da,_,dc,qa,_,qc,ua,un,uc,oa,on,oc,rfl,⟨h1,h2⟩,rfl,rfl⟩
theorem dhandle_any {HF : List At → Nat} (hF : HashOk HF) (s : Ss) (da : Option Addr) (dn dc : Nat) (qa : Option Addr) (qn qc : Nat) (ua : Option Addr) (un uc : Nat) (oa : Option Addr) (on oc : Nat) (p : Pd) (pa : Option Addr) (pn pc : Nat) (ia : Option Addr) (ino ic : Nat) (w : World) (hdq : DQ w (.slice da dn dc) (.slice qa qn qc) s.db s.qu) (hn : s.db.length = dn) (hqn : s.qu.length = qn) (hgd : Gdb s.db) (hwd : DbW s.db) (hmt : 0 ≤ s.mt ∧ s.mt ≤ 100000) (hgk : p.kd = 2 ∨ p.kd = 4 ∨ p.kd = 8 ∨ p.kd = 16)
 (h8 : p.kd = 8 → ∀ i,i < dn → inT p.ha p.la p.hi p.lo (atI s.db i) = true → rdB (atI s.db i) = true ∧ (isU 47459388624896 (atI s.db i).hi (atI s.db i).lo = true ∨ plainA (atI s.db i))) (h16 : p.kd = 16 → (p.hi : Int) = 43980465115136 ∧ (p.lo : Int) = 9223372588214596859) :
 Calls Tryz.prog 27 #[.agg #[.slice da dn dc,.int .i64 s.mt,.int .i64 s.mx,.int .i64 2,.slice qa qn qc,.int .i64 2,.bool false,.slice ua un uc,.slice oa on oc,.bool false,.int .i64 0],.agg #[.int .i64 p.kd,.int .i64 p.ask,.int .u16 p.ha,.int .u16 p.la,.int .u64 p.hi,.int .u64 p.lo,.int .i64 p.of,.int .i64 p.mt,.int .i64 p.co,.bool p.cm,.slice pa pn pc,.slice ia ino ic],.int .i64 0] w fun e w' => ∃ sv v o,e = .returned (.tuple #[sv,v,o]) ∧ SvV w' sv (stD HF s p).1 ∧ AnsV w.heap.size w' v (stD HF s p).2.1 (stD HF s p).2.2 ∧ Below w.heap.size w w' := by
 obtain ⟨RS,hRS⟩ : ∃ x,stD HF s p = x := ⟨_,rfl⟩
 rw [hRS]
 have hrk : Rk p.kd := by unfold Rk; omega
 have hir := fun W => isReq_any p.kd hrk W
 have hrs : RS = stD HF s p := hRS.symm
 obtain ⟨KD,hKD⟩ : ∃ x,p.kd = x := ⟨_,rfl⟩
 simp only [hKD] at hir
 rw [hKD] at hgk h8 h16
 have HIR := Lib.hid hir
 have HRS := Lib.hid (And.intro hrs hKD)
 have k1 : (KD == 30) = false := by rcases hgk with rfl | rfl | rfl | rfl <;> rfl
 have k2 : (KD == 82) = false := by rcases hgk with rfl | rfl | rfl | rfl <;> rfl
 have bS := ((Blk.new w 57 [.slice da dn dc,.int .i64 s.mt,.int .i64 s.mx,.int .i64 2,.slice qa qn qc,.int .i64 2,.bool false,.slice ua un uc,.slice oa on oc,.bool false,.int .i64 0]).alloc (.cells #[.int .i64 p.kd,.int .i64 p.ask,.int .u16 p.ha,.int .u16 p.la,.int .u64 p.hi,.int .u64 p.lo,.int .i64 p.of,.int .i64 p.mt,.int .i64 p.co,.bool p.cm,.slice pa pn pc,.slice ia ino ic] 49)).alloc (.cells #[.slice none 0 0,.int .i64 0,.int .i64 0,.int .i64 0,.slice none 0 0,.int .i64 0,.bool false,.slice none 0 0,.slice none 0 0,.bool false,.int .i64 0] 57)
 have bP := (Blk.new (w.alloc (.cells #[.slice da dn dc,.int .i64 s.mt,.int .i64 s.mx,.int .i64 2,.slice qa qn qc,.int .i64 2,.bool false,.slice ua un uc,.slice oa on oc,.bool false,.int .i64 0] 57)) 49 [.int .i64 p.kd,.int .i64 p.ask,.int .u16 p.ha,.int .u16 p.la,.int .u64 p.hi,.int .u64 p.lo,.int .i64 p.of,.int .i64 p.mt,.int .i64 p.co,.bool p.cm,.slice pa pn pc,.slice ia ino ic]).alloc (.cells #[.slice none 0 0,.int .i64 0,.int .i64 0,.int .i64 0,.slice none 0 0,.int .i64 0,.bool false,.slice none 0 0,.slice none 0 0,.bool false,.int .i64 0] 57)
 have bR := Blk.new ((w.alloc (.cells #[.slice da dn dc,.int .i64 s.mt,.int .i64 s.mx,.int .i64 2,.slice qa qn qc,.int .i64 2,.bool false,.slice ua un uc,.slice oa on oc,.bool false,.int .i64 0] 57)).alloc (.cells #[.int .i64 p.kd,.int .i64 p.ask,.int .u16 p.ha,.int .u16 p.la,.int .u64 p.hi,.int .u64 p.lo,.int .i64 p.of,.int .i64 p.mt,.int .i64 p.co,.bool p.cm,.slice pa pn pc,.slice ia ino ic] 49)) 57 [.slice none 0 0,.int .i64 0,.int .i64 0,.int .i64 0,.slice none 0 0,.int .i64 0,.bool false,.slice none 0 0,.slice none 0 0,.bool false,.int .i64 0]
 have hB := (((Below.refl w.heap.size w).alloc (Nat.le_refl _) (.cells #[.slice da dn dc,.int .i64 s.mt,.int .i64 s.mx,.int .i64 2,.slice qa qn qc,.int .i64 2,.bool false,.slice ua un uc,.slice oa on oc,.bool false,.int .i64 0] 57)).alloc (by simp) (.cells #[.int .i64 p.kd,.int .i64 p.ask,.int .u16 p.ha,.int .u16 p.la,.int .u64 p.hi,.int .u64 p.lo,.int .i64 p.of,.int .i64 p.mt,.int .i64 p.co,.bool p.cm,.slice pa pn pc,.slice ia ino ic] 49)).alloc (by simp; omega) (.cells #[.slice none 0 0,.int .i64 0,.int .i64 0,.int .i64 0,.slice none 0 0,.int .i64 0,.bool false,.slice none 0 0,.slice none 0 0,.bool false,.int .i64 0] 57)
 have hz1 : (w.alloc (.cells #[.slice da dn dc,.int .i64 s.mt,.int .i64 s.mx,.int .i64 2,.slice qa qn qc,.int .i64 2,.bool false,.slice ua un uc,.slice oa on oc,.bool false,.int .i64 0] 57)).heap.size = w.heap.size + 1 := by simp
 have hz2 : ((w.alloc (.cells #[.slice da dn dc,.int .i64 s.mt,.int .i64 s.mx,.int .i64 2,.slice qa qn qc,.int .i64 2,.bool false,.slice ua un uc,.slice oa on oc,.bool false,.int .i64 0] 57)).alloc (.cells #[.int .i64 p.kd,.int .i64 p.ask,.int .u16 p.ha,.int .u16 p.la,.int .u64 p.hi,.int .u64 p.lo,.int .i64 p.of,.int .i64 p.mt,.int .i64 p.co,.bool p.cm,.slice pa pn pc,.slice ia ino ic] 49)).heap.size = w.heap.size + 2 := by simp
 rw [hz1] at bP
 rw [hz2] at bR
 clear hz1 hz2
 have HY := Lib.hid (And.intro hn (And.intro hqn (And.intro hgd (And.intro hwd (And.intro hmt (And.intro h8 h16))))))
 clear hn hqn hgd hwd hmt h8 h16 hrs hRS hrk hir hKD
 go_enter Tryz.func27,Tryz.ntmps27
 go_upto_region 1 with fail
 generalize hX : World.alloc (World.alloc (World.alloc w _) _) _ = V at bS bP bR hB ⊢
 clear hX
 have hdq := hdq.below hB
 have n0 := bP.cell (j := 0) (v := .int .i64 KD) (by rw [← HRS.out.2]; rfl)
 have m6 := bS.cell (j := 6) (v := .bool false) rfl
 go_upto_region 16 with (go_at_call 44; refine (HIR.out _).mono ?_; rintro e w2 ⟨rfl,rfl⟩)
 clear m6 k1 k2 HIR
 obtain ⟨hn,hqn,hgd,hwd,hmt,h8,h16⟩ := HY.out
 have hrs := HRS.out.1
 have hkd := HRS.out.2
 unfold stD at hrs
 rw [hkd] at hrs
 rcases hgk with rfl | hgk | hgk | hgk
 ·have hrs : RS = ({ s with mt := min p.mt s.mx },{ pd0 with kd := 3,mt := s.mx },[]) := by rw [hrs]; rfl
  obtain ⟨M,hM⟩ : ∃ x,min p.mt s.mx = x := ⟨_,rfl⟩
  rw [hM] at hrs
  subst hrs
  have y2 : (if s.mx < p.mt then s.mx else p.mt) = M := by rw [← hM]; split <;> omega
  have y3 : (if p.mt < s.mx then p.mt else s.mx) = M := by rw [← hM]; split <;> omega
  have m1 := bS.cell (j := 1) (v := .int .i64 s.mt) rfl
  have z1 := bS.frozen 1
  have m2 := bS.cell (j := 2) (v := .int .i64 s.mx) rfl
  have n7 := bP.cell (j := 7) (v := .int .i64 p.mt) rfl
  clear hn hqn hgd hwd hmt h8 h16 hkd HRS HY hrs
  go_upto_region 19 with fail
  have hg := set1 V ⟨w.heap.size,1,none⟩ (.int .i64 M)
  have hn9 : Nox [.slice da dn dc,.int .i64 s.mt,.int .i64 s.mx,.int .i64 2,.slice qa qn qc,.int .i64 2,.bool false,.slice ua un uc,.slice oa on oc,.bool false,.int .i64 0] := nox_code (by simp only [List.map_cons,List.map_nil,code]; decide) (by simp only [List.map_cons,List.map_nil,code]; decide) (by simp only [List.map_cons,List.map_nil,code]; decide) (by simp only [List.map_cons,List.map_nil,code]; decide) (by simp only [List.map_cons,List.map_nil,code]; decide)
  have hdq := hdq.kept hn9 bS hg
  have bS := bS.setAt (j := 1) (.int .i64 M)
  have bP := bP.kept hg (fun e => by injection e with e; simp only at e; omega)
  have bR := bR.kept hg (fun e => by injection e with e; simp only at e; omega)
  have hB := hB.grown hg hB.size (fun k hk => by cases hk; exact Nat.le_refl _)
  generalize hX : World.setCell V _ _ = V2 at bS bP bR hB hdq ⊢
  have bS : Blk V2 w.heap.size 57 [.slice da dn dc,.int .i64 M,.int .i64 s.mx,.int .i64 2,.slice qa qn qc,.int .i64 2,.bool false,.slice ua un uc,.slice oa on oc,.bool false,.int .i64 0] := bS
  clear hX hg m1 z1 m2 n7 y2 y3 hM n0 hn9
  have hdq := hdq.below (Below.refl _ _).drew
  have bS := bS.drew
  have bP := bP.drew
  have bR := bR.drew
  have hB := hB.drew
  refine wp_region_held_drew (S := (fun W' : World => W'.rangeAt w.heap.size 0 [.slice da dn dc,.int .i64 M,.int .i64 s.mx,.int .i64 2,.slice qa qn qc,.int .i64 2,.bool false,.slice ua un uc,.slice oa on oc,.bool false,.int .i64 0] ∧ W'.cell? ⟨w.heap.size,2,none⟩ = some (.int .i64 s.mx))) (by kernel_rfl) (⟨bS.range 0 _ (fun j v hv => by rw [Nat.zero_add]; exact hv),bS.cell (j := 2) (v := .int .i64 s.mx) rfl⟩) (fun hHeld => ?_)
  generalize World.drew _ = wd at hHeld bS bP bR hdq hB ⊢
  repeat' first
   |refine tkN 0 57 w.heap.size 0 [.slice da dn dc,.int .i64 M,.int .i64 s.mx,.int .i64 2,.slice qa qn qc,.int .i64 2,.bool false,.slice ua un uc,.slice oa on oc,.bool false,.int .i64 0] (fun _ h => h.1) Tryz.underlying57 ?_
   |refine tkU 1 ?_
   |refine tkU 2 ?_
   |refine tkU 3 ?_
   |refine tkU 6 ?_
   |refine tkU 7 ?_
   |(refine opn 4 fun K hK => ?_
     go_simp
     generalize hX : World.alloc _ (.cells _ 49) = w4
     obtain ⟨hnb,hB4,hz4⟩ := alloc_named hX
     have hR3 := bS.lt
     try (have hR3 := bR.lt)
     try (have hR3 := bR9.lt)
     have hA9 : AnsV (w.heap.size + 3) w4 (.slice (some ⟨_,0,none⟩) 1 1) { pd0 with kd := 3,mt := s.mx } [] := ⟨_,.slice none 0 0,.slice none 0 0,rfl,(by omega),hnb,BV.nil _,[],rfl,SR.nil _ 5,fun q hq => by cases hq⟩
     have hdq := hdq.below hB4
     have bS := bS.below hB4
     have bP := bP.below hB4
     try have bR := bR.below hB4
     try have bR9 := bR9.below hB4
     have hB := hB.trans (hB4.mono hB.size)
     clear hX hnb hB4 hz4
     refine hK.out _ _ (⟨bS.range 0 _ (fun j v hv => by rw [Nat.zero_add]; exact hv),bS.cell (j := 2) (v := .int .i64 s.mx) rfl⟩) (fun h => ?_)
     replace hHeld := h
     clear hK K h
     try simp only [Act.put,List.setIfInBounds_toArray,List.set_cons_zero,List.set_cons_succ])
   |(refine opn 5 fun K hK => ?_
     refine step_store_mid (by rfl) 57 _ _ (by rfl) (w.heap.size + 2) 0 #[.slice da dn dc,.int .i64 M,.int .i64 s.mx,.int .i64 2,.slice qa qn qc,.int .i64 2,.bool false,.slice ua un uc,.slice oa on oc,.bool false,.int .i64 0] (by rfl) (by rfl) (bR.there 0 11 (by simp)) (by kernel_rfl) (by simp [Value.oneCell']) ?_
     generalize hX : World.setCells _ (w.heap.size + 2) 0 _ = w9
     obtain ⟨hg9,bR9⟩ := put_namedB bR hX rfl
     have hn9 : Nox [.slice none 0 0,.int .i64 0,.int .i64 0,.int .i64 0,.slice none 0 0,.int .i64 0,.bool false,.slice none 0 0,.slice none 0 0,.bool false,.int .i64 0] := nox_code (by simp only [List.map_cons,List.map_nil,code]; decide) (by simp only [List.map_cons,List.map_nil,code]; decide) (by simp only [List.map_cons,List.map_nil,code]; decide) (by simp only [List.map_cons,List.map_nil,code]; decide) (by simp only [List.map_cons,List.map_nil,code]; decide)
     have hdq := hdq.kept hn9 bR hg9
     try have hA9 := hA9.kept (by omega) hn9 bR hg9
     have bS := bS.kept hg9 (fun e => by injection e with e; omega)
     have bP := bP.kept hg9 (fun e => by injection e with e; omega)
     have hB := hB.grown hg9 hB.size (fun k hk => by cases hk; omega)
     clear hX hg9 bR hn9
     refine hK.out _ _ (⟨bS.range 0 _ (fun j v hv => by rw [Nat.zero_add]; exact hv),bS.cell (j := 2) (v := .int .i64 s.mx) rfl⟩) (fun h => ?_)
     replace hHeld := h
     clear hK K h
     try simp only [Act.put,List.setIfInBounds_toArray,List.set_cons_zero,List.set_cons_succ])
   |refine rd2 4 5 ?_ ?_
   |refine rd1 5 ?_
   |refine rd1 4 ?_
   |(refine wpAnyH_done (by kernel_rfl) ?_ _
     go_wp2_with fail
     have hl := run_loadVar_row (P := Tryz.prog) _ (w.heap.size + 2) 57 57 _ (0,0) _ bR9 Tryz.underlying57 rfl (by kernel_rfl)
     refine bodyPost_ret (v := .tuple #[.agg #[.slice da dn dc,.int .i64 M,.int .i64 s.mx,.int .i64 2,.slice qa qn qc,.int .i64 2,.bool false,.slice ua un uc,.slice oa on oc,.bool false,.int .i64 0],.slice (some ⟨_,0,none⟩) 1 1,.slice none 0 0]) (by rw [results_cell_tmp2 rfl]; simp [asAddr,hl] <;> rfl) rfl ⟨_,_,⟨_,rfl⟩,DQ.svv (s := { s with mt := M }) hdq,hA9.mono (by omega),hB⟩)
 ·subst hgk
  have HC := Lib.hid (fun W (hW : DbR W (.slice da dn dc) s.db) => find45_any s da dn dc qa qn qc ua un uc oa on oc p pa pn pc ia ino ic W hW hn (by have := hgd.big; omega) hwd)
  have hrs : RS = (s,findS s p) := by rw [hrs]; rfl
  subst hrs
  clear hn hqn hgd hwd hmt h8 h16 hkd HRS HY
  go_upto_region 21 with fail
  clear n0
  have hdq := hdq.below (Below.refl _ _).drew
  have bS := bS.drew
  have bP := bP.drew
  have bR := bR.drew
  have hB := hB.drew
  refine wp_region_held_drew (S := (fun W' : World => W'.rangeAt w.heap.size 0 [.slice da dn dc,.int .i64 s.mt,.int .i64 s.mx,.int .i64 2,.slice qa qn qc,.int .i64 2,.bool false,.slice ua un uc,.slice oa on oc,.bool false,.int .i64 0] ∧ W'.rangeAt (w.heap.size + 1) 0 [.int .i64 p.kd,.int .i64 p.ask,.int .u16 p.ha,.int .u16 p.la,.int .u64 p.hi,.int .u64 p.lo,.int .i64 p.of,.int .i64 p.mt,.int .i64 p.co,.bool p.cm,.slice pa pn pc,.slice ia ino ic])) (by kernel_rfl) (⟨bS.range 0 _ (fun j v hv => by rw [Nat.zero_add]; exact hv),bP.range 0 _ (fun j v hv => by rw [Nat.zero_add]; exact hv)⟩) (fun hHeld => ?_)
  generalize World.drew _ = wd at hHeld bS bP bR hdq hB ⊢
  repeat' first
   |refine tkN 0 57 w.heap.size 0 [.slice da dn dc,.int .i64 s.mt,.int .i64 s.mx,.int .i64 2,.slice qa qn qc,.int .i64 2,.bool false,.slice ua un uc,.slice oa on oc,.bool false,.int .i64 0] (fun _ h => h.1) Tryz.underlying57 ?_
   |refine tkN 1 57 w.heap.size 0 [.slice da dn dc,.int .i64 s.mt,.int .i64 s.mx,.int .i64 2,.slice qa qn qc,.int .i64 2,.bool false,.slice ua un uc,.slice oa on oc,.bool false,.int .i64 0] (fun _ h => h.1) Tryz.underlying57 ?_
   |refine tkN 2 49 (w.heap.size + 1) 0 [.int .i64 p.kd,.int .i64 p.ask,.int .u16 p.ha,.int .u16 p.la,.int .u64 p.hi,.int .u64 p.lo,.int .i64 p.of,.int .i64 p.mt,.int .i64 p.co,.bool p.cm,.slice pa pn pc,.slice ia ino ic] (fun _ h => h.2) Tryz.underlying49 ?_
   |refine tkU 5 ?_
   |refine tkU 6 ?_
   |(refine opn 3 fun K hK => ?_
     go_simp
     have hR3 := bS.lt
     try (have hR3 := bR.lt)
     try (have hR3 := bR9.lt)
     go_at_call 47
     refine (HC.out _ hdq.db).mono ?_
     rintro e w3 ⟨v9,rfl,hA9,hC⟩
     have hdq := hdq.below hC
     have bS := bS.below hC
     have bP := bP.below hC
     try have bR := bR.below hC
     try have bR9 := bR9.below hC
     have hB := hB.trans (hC.mono hB.size)
     clear hC
     refine hK.out _ _ (⟨bS.range 0 _ (fun j v hv => by rw [Nat.zero_add]; exact hv),bP.range 0 _ (fun j v hv => by rw [Nat.zero_add]; exact hv)⟩) (fun h => ?_)
     replace hHeld := h
     clear hK K h
     try simp only [Act.put,List.setIfInBounds_toArray,List.set_cons_zero,List.set_cons_succ])
   |(refine opn 4 fun K hK => ?_
     refine step_store_mid (by rfl) 57 _ _ (by rfl) (w.heap.size + 2) 0 #[.slice da dn dc,.int .i64 s.mt,.int .i64 s.mx,.int .i64 2,.slice qa qn qc,.int .i64 2,.bool false,.slice ua un uc,.slice oa on oc,.bool false,.int .i64 0] (by rfl) (by rfl) (bR.there 0 11 (by simp)) (by kernel_rfl) (by simp [Value.oneCell']) ?_
     generalize hX : World.setCells _ (w.heap.size + 2) 0 _ = w9
     obtain ⟨hg9,bR9⟩ := put_namedB bR hX rfl
     have hn9 : Nox [.slice none 0 0,.int .i64 0,.int .i64 0,.int .i64 0,.slice none 0 0,.int .i64 0,.bool false,.slice none 0 0,.slice none 0 0,.bool false,.int .i64 0] := nox_code (by simp only [List.map_cons,List.map_nil,code]; decide) (by simp only [List.map_cons,List.map_nil,code]; decide) (by simp only [List.map_cons,List.map_nil,code]; decide) (by simp only [List.map_cons,List.map_nil,code]; decide) (by simp only [List.map_cons,List.map_nil,code]; decide)
     have hdq := hdq.kept hn9 bR hg9
     try have hA9 := hA9.kept (by omega) hn9 bR hg9
     have bS := bS.kept hg9 (fun e => by injection e with e; omega)
     have bP := bP.kept hg9 (fun e => by injection e with e; omega)
     have hB := hB.grown hg9 hB.size (fun k hk => by cases hk; omega)
     clear hX hg9 bR hn9
     refine hK.out _ _ (⟨bS.range 0 _ (fun j v hv => by rw [Nat.zero_add]; exact hv),bP.range 0 _ (fun j v hv => by rw [Nat.zero_add]; exact hv)⟩) (fun h => ?_)
     replace hHeld := h
     clear hK K h
     try simp only [Act.put,List.setIfInBounds_toArray,List.set_cons_zero,List.set_cons_succ])
   |refine rd1 3 ?_
   |refine rd1 4 ?_
   |(refine wpAnyH_done (by kernel_rfl) ?_ _
     go_wp2_with fail
     have hl := run_loadVar_row (P := Tryz.prog) _ (w.heap.size + 2) 57 57 _ (0,0) _ bR9 Tryz.underlying57 rfl (by kernel_rfl)
     refine bodyPost_ret (v := .tuple #[.agg #[.slice da dn dc,.int .i64 s.mt,.int .i64 s.mx,.int .i64 2,.slice qa qn qc,.int .i64 2,.bool false,.slice ua un uc,.slice oa on oc,.bool false,.int .i64 0],v9,.slice none 0 0]) (by rw [results_cell_tmp2 rfl]; simp [asAddr,hl] <;> rfl) rfl ⟨_,_,⟨_,rfl⟩,DQ.svv (s := s) hdq,hA9.mono (by omega),hB⟩)
 ·subst hgk
  have HC := Lib.hid (fun W (hW : DbR W (.slice da dn dc) s.db) => type45_any hF s da dn dc qa qn qc ua un uc oa on oc p pa pn pc ia ino ic W hW hn hgd hwd hmt (h8 rfl))
  have hrs : RS = (s,typeS HF s p) := by rw [hrs]; rfl
  subst hrs
  clear hn hqn hgd hwd hmt h8 h16 hkd HRS HY
  go_upto_region 23 with fail
  clear n0
  have hdq := hdq.below (Below.refl _ _).drew
  have bS := bS.drew
  have bP := bP.drew
  have bR := bR.drew
  have hB := hB.drew
  refine wp_region_held_drew (S := (fun W' : World => W'.rangeAt w.heap.size 0 [.slice da dn dc,.int .i64 s.mt,.int .i64 s.mx,.int .i64 2,.slice qa qn qc,.int .i64 2,.bool false,.slice ua un uc,.slice oa on oc,.bool false,.int .i64 0] ∧ W'.rangeAt (w.heap.size + 1) 0 [.int .i64 p.kd,.int .i64 p.ask,.int .u16 p.ha,.int .u16 p.la,.int .u64 p.hi,.int .u64 p.lo,.int .i64 p.of,.int .i64 p.mt,.int .i64 p.co,.bool p.cm,.slice pa pn pc,.slice ia ino ic])) (by kernel_rfl) (⟨bS.range 0 _ (fun j v hv => by rw [Nat.zero_add]; exact hv),bP.range 0 _ (fun j v hv => by rw [Nat.zero_add]; exact hv)⟩) (fun hHeld => ?_)
  generalize World.drew _ = wd at hHeld bS bP bR hdq hB ⊢
  repeat' first
   |refine tkN 0 57 w.heap.size 0 [.slice da dn dc,.int .i64 s.mt,.int .i64 s.mx,.int .i64 2,.slice qa qn qc,.int .i64 2,.bool false,.slice ua un uc,.slice oa on oc,.bool false,.int .i64 0] (fun _ h => h.1) Tryz.underlying57 ?_
   |refine tkN 1 57 w.heap.size 0 [.slice da dn dc,.int .i64 s.mt,.int .i64 s.mx,.int .i64 2,.slice qa qn qc,.int .i64 2,.bool false,.slice ua un uc,.slice oa on oc,.bool false,.int .i64 0] (fun _ h => h.1) Tryz.underlying57 ?_
   |refine tkN 2 49 (w.heap.size + 1) 0 [.int .i64 p.kd,.int .i64 p.ask,.int .u16 p.ha,.int .u16 p.la,.int .u64 p.hi,.int .u64 p.lo,.int .i64 p.of,.int .i64 p.mt,.int .i64 p.co,.bool p.cm,.slice pa pn pc,.slice ia ino ic] (fun _ h => h.2) Tryz.underlying49 ?_
   |refine tkU 5 ?_
   |refine tkU 6 ?_
   |(refine opn 3 fun K hK => ?_
     go_simp
     have hR3 := bS.lt
     try (have hR3 := bR.lt)
     try (have hR3 := bR9.lt)
     go_at_call 48
     refine (HC.out _ hdq.db).mono ?_
     rintro e w3 ⟨v9,rfl,hA9,hC⟩
     have hdq := hdq.below hC
     have bS := bS.below hC
     have bP := bP.below hC
     try have bR := bR.below hC
     try have bR9 := bR9.below hC
     have hB := hB.trans (hC.mono hB.size)
     clear hC
     refine hK.out _ _ (⟨bS.range 0 _ (fun j v hv => by rw [Nat.zero_add]; exact hv),bP.range 0 _ (fun j v hv => by rw [Nat.zero_add]; exact hv)⟩) (fun h => ?_)
     replace hHeld := h
     clear hK K h
     try simp only [Act.put,List.setIfInBounds_toArray,List.set_cons_zero,List.set_cons_succ])
   |(refine opn 4 fun K hK => ?_
     refine step_store_mid (by rfl) 57 _ _ (by rfl) (w.heap.size + 2) 0 #[.slice da dn dc,.int .i64 s.mt,.int .i64 s.mx,.int .i64 2,.slice qa qn qc,.int .i64 2,.bool false,.slice ua un uc,.slice oa on oc,.bool false,.int .i64 0] (by rfl) (by rfl) (bR.there 0 11 (by simp)) (by kernel_rfl) (by simp [Value.oneCell']) ?_
     generalize hX : World.setCells _ (w.heap.size + 2) 0 _ = w9
     obtain ⟨hg9,bR9⟩ := put_namedB bR hX rfl
     have hn9 : Nox [.slice none 0 0,.int .i64 0,.int .i64 0,.int .i64 0,.slice none 0 0,.int .i64 0,.bool false,.slice none 0 0,.slice none 0 0,.bool false,.int .i64 0] := nox_code (by simp only [List.map_cons,List.map_nil,code]; decide) (by simp only [List.map_cons,List.map_nil,code]; decide) (by simp only [List.map_cons,List.map_nil,code]; decide) (by simp only [List.map_cons,List.map_nil,code]; decide) (by simp only [List.map_cons,List.map_nil,code]; decide)
     have hdq := hdq.kept hn9 bR hg9
     try have hA9 := hA9.kept (by omega) hn9 bR hg9
     have bS := bS.kept hg9 (fun e => by injection e with e; omega)
     have bP := bP.kept hg9 (fun e => by injection e with e; omega)
     have hB := hB.grown hg9 hB.size (fun k hk => by cases hk; omega)
     clear hX hg9 bR hn9
     refine hK.out _ _ (⟨bS.range 0 _ (fun j v hv => by rw [Nat.zero_add]; exact hv),bP.range 0 _ (fun j v hv => by rw [Nat.zero_add]; exact hv)⟩) (fun h => ?_)
     replace hHeld := h
     clear hK K h
     try simp only [Act.put,List.setIfInBounds_toArray,List.set_cons_zero,List.set_cons_succ])
   |refine rd1 3 ?_
   |refine rd1 4 ?_
   |(refine wpAnyH_done (by kernel_rfl) ?_ _
     go_wp2_with fail
     have hl := run_loadVar_row (P := Tryz.prog) _ (w.heap.size + 2) 57 57 _ (0,0) _ bR9 Tryz.underlying57 rfl (by kernel_rfl)
     refine bodyPost_ret (v := .tuple #[.agg #[.slice da dn dc,.int .i64 s.mt,.int .i64 s.mx,.int .i64 2,.slice qa qn qc,.int .i64 2,.bool false,.slice ua un uc,.slice oa on oc,.bool false,.int .i64 0],v9,.slice none 0 0]) (by rw [results_cell_tmp2 rfl]; simp [asAddr,hl] <;> rfl) rfl ⟨_,_,⟨_,rfl⟩,DQ.svv (s := s) hdq,hA9.mono (by omega),hB⟩)
 ·subst hgk
  have HC := Lib.hid (fun W (hW : DbR W (.slice da dn dc) s.db) => group45_any s da dn dc qa qn qc ua un uc oa on oc p pa pn pc ia ino ic W hW hn hgd hwd (h16 rfl))
  have hrs : RS = (s,groupS s p) := by rw [hrs]; rfl
  subst hrs
  clear hn hqn hgd hwd hmt h8 h16 hkd HRS HY
  go_upto_region 25 with fail
  clear n0
  have hdq := hdq.below (Below.refl _ _).drew
  have bS := bS.drew
  have bP := bP.drew
  have bR := bR.drew
  have hB := hB.drew
  refine wp_region_held_drew (S := (fun W' : World => W'.rangeAt w.heap.size 0 [.slice da dn dc,.int .i64 s.mt,.int .i64 s.mx,.int .i64 2,.slice qa qn qc,.int .i64 2,.bool false,.slice ua un uc,.slice oa on oc,.bool false,.int .i64 0] ∧ W'.rangeAt (w.heap.size + 1) 0 [.int .i64 p.kd,.int .i64 p.ask,.int .u16 p.ha,.int .u16 p.la,.int .u64 p.hi,.int .u64 p.lo,.int .i64 p.of,.int .i64 p.mt,.int .i64 p.co,.bool p.cm,.slice pa pn pc,.slice ia ino ic])) (by kernel_rfl) (⟨bS.range 0 _ (fun j v hv => by rw [Nat.zero_add]; exact hv),bP.range 0 _ (fun j v hv => by rw [Nat.zero_add]; exact hv)⟩) (fun hHeld => ?_)
  generalize World.drew _ = wd at hHeld bS bP bR hdq hB ⊢
  repeat' first
   |refine tkN 0 57 w.heap.size 0 [.slice da dn dc,.int .i64 s.mt,.int .i64 s.mx,.int .i64 2,.slice qa qn qc,.int .i64 2,.bool false,.slice ua un uc,.slice oa on oc,.bool false,.int .i64 0] (fun _ h => h.1) Tryz.underlying57 ?_
   |refine tkN 1 57 w.heap.size 0 [.slice da dn dc,.int .i64 s.mt,.int .i64 s.mx,.int .i64 2,.slice qa qn qc,.int .i64 2,.bool false,.slice ua un uc,.slice oa on oc,.bool false,.int .i64 0] (fun _ h => h.1) Tryz.underlying57 ?_
   |refine tkN 2 49 (w.heap.size + 1) 0 [.int .i64 p.kd,.int .i64 p.ask,.int .u16 p.ha,.int .u16 p.la,.int .u64 p.hi,.int .u64 p.lo,.int .i64 p.of,.int .i64 p.mt,.int .i64 p.co,.bool p.cm,.slice pa pn pc,.slice ia ino ic] (fun _ h => h.2) Tryz.underlying49 ?_
   |refine tkU 5 ?_
   |refine tkU 6 ?_
   |(refine opn 3 fun K hK => ?_
     go_simp
     have hR3 := bS.lt
     try (have hR3 := bR.lt)
     try (have hR3 := bR9.lt)
     go_at_call 49
     refine (HC.out _ hdq.db).mono ?_
     rintro e w3 ⟨v9,rfl,hA9,hC⟩
     have hdq := hdq.below hC
     have bS := bS.below hC
     have bP := bP.below hC
     try have bR := bR.below hC
     try have bR9 := bR9.below hC
     have hB := hB.trans (hC.mono hB.size)
     clear hC
     refine hK.out _ _ (⟨bS.range 0 _ (fun j v hv => by rw [Nat.zero_add]; exact hv),bP.range 0 _ (fun j v hv => by rw [Nat.zero_add]; exact hv)⟩) (fun h => ?_)
     replace hHeld := h
     clear hK K h
     try simp only [Act.put,List.setIfInBounds_toArray,List.set_cons_zero,List.set_cons_succ])
   |(refine opn 4 fun K hK => ?_
     refine step_store_mid (by rfl) 57 _ _ (by rfl) (w.heap.size + 2) 0 #[.slice da dn dc,.int .i64 s.mt,.int .i64 s.mx,.int .i64 2,.slice qa qn qc,.int .i64 2,.bool false,.slice ua un uc,.slice oa on oc,.bool false,.int .i64 0] (by rfl) (by rfl) (bR.there 0 11 (by simp)) (by kernel_rfl) (by simp [Value.oneCell']) ?_
     generalize hX : World.setCells _ (w.heap.size + 2) 0 _ = w9
     obtain ⟨hg9,bR9⟩ := put_namedB bR hX rfl
     have hn9 : Nox [.slice none 0 0,.int .i64 0,.int .i64 0,.int .i64 0,.slice none 0 0,.int .i64 0,.bool false,.slice none 0 0,.slice none 0 0,.bool false,.int .i64 0] := nox_code (by simp only [List.map_cons,List.map_nil,code]; decide) (by simp only [List.map_cons,List.map_nil,code]; decide) (by simp only [List.map_cons,List.map_nil,code]; decide) (by simp only [List.map_cons,List.map_nil,code]; decide) (by simp only [List.map_cons,List.map_nil,code]; decide)
     have hdq := hdq.kept hn9 bR hg9
     try have hA9 := hA9.kept (by omega) hn9 bR hg9
     have bS := bS.kept hg9 (fun e => by injection e with e; omega)
     have bP := bP.kept hg9 (fun e => by injection e with e; omega)
     have hB := hB.grown hg9 hB.size (fun k hk => by cases hk; omega)
     clear hX hg9 bR hn9
     refine hK.out _ _ (⟨bS.range 0 _ (fun j v hv => by rw [Nat.zero_add]; exact hv),bP.range 0 _ (fun j v hv => by rw [Nat.zero_add]; exact hv)⟩) (fun h => ?_)
     replace hHeld := h
     clear hK K h
     try simp only [Act.put,List.setIfInBounds_toArray,List.set_cons_zero,List.set_cons_succ])
   |refine rd1 3 ?_
   |refine rd1 4 ?_
   |(refine wpAnyH_done (by kernel_rfl) ?_ _
     go_wp2_with fail
     have hl := run_loadVar_row (P := Tryz.prog) _ (w.heap.size + 2) 57 57 _ (0,0) _ bR9 Tryz.underlying57 rfl (by kernel_rfl)
     refine bodyPost_ret (v := .tuple #[.agg #[.slice da dn dc,.int .i64 s.mt,.int .i64 s.mx,.int .i64 2,.slice qa qn qc,.int .i64 2,.bool false,.slice ua un uc,.slice oa on oc,.bool false,.int .i64 0],v9,.slice none 0 0]) (by rw [results_cell_tmp2 rfl]; simp [asAddr,hl] <;> rfl) rfl ⟨_,_,⟨_,rfl⟩,DQ.svv (s := s) hdq,hA9.mono (by omega),hB⟩)
/-- an open request of discovering -/
structure GoodD (c : Cl) (s : Ss) (q : Pd) : Prop where
 ok : ClOk c
 busy : c.busy = true
 ad : q = c.ad
 kd : q.kd = 2 ∨ q.kd = 4 ∨ q.kd = 8 ∨ q.kd = 16
 gd : Gdb s.db
 wd : DbW s.db
 mt : 0 ≤ s.mt ∧ s.mt ≤ 100000
 la : q.kd = 4 ∨ (q.kd = 8 ∧ ¬ c.tk.kd = 9) → c.ad.la = c.tk.la
 h8 : q.kd = 8 → ∀ i,i < s.db.length → inT q.ha q.la q.hi q.lo (atI s.db i) = true → rdB (atI s.db i) = true ∧ (isU 47459388624896 (atI s.db i).hi (atI s.db i).lo = true ∨ plainA (atI s.db i))
 h16 : q.kd = 16 → (q.hi : Int) = 43980465115136 ∧ (q.lo : Int) = 9223372588214596859
theorem lim_map {db : List At} (f : At → Im) {l : List At} (hn : l.length ≤ 1000) (hm : ∀ x ∈ l,x ∈ db) (h : ∀ x ∈ db,(f x).bs.length ≤ 1000000 ∧ (f x).ha < 65536 ∧ (f x).la < 65536 ∧ (f x).hi < 18446744073709551616 ∧ (f x).lo < 18446744073709551616) : Lim (l.map f) :=
 ⟨by rw [List.length_map]; omega,fun i hi => by
  obtain ⟨x,hx,rfl⟩ := List.mem_map.1 hi
  exact h x (hm x hx)⟩
theorem mem_wd {db : List At} (h : DbW db) {x : At} (hx : x ∈ db) : (0 ≤ x.ha ∧ x.ha < 65536) ∧ (0 ≤ x.hi ∧ x.hi < 18446744073709551616) ∧ 0 ≤ x.lo ∧ x.lo < 18446744073709551616 := by
 obtain ⟨j,hj,e⟩ := List.getElem_of_mem hx
 have := h j hj
 rwa [← atI_get hj,e] at this
theorem mem_len {db : List At} (h : Gdb db) {x : At} (hx : x ∈ db) : x.bs.length ≤ 512 := by
 obtain ⟨j,hj,e⟩ := List.getElem_of_mem hx
 have := h.len j hj
 rwa [← atI_get hj,e] at this
theorem grLast_lt {db : List At} (h : DbW db) {x : At} (hx : x ∈ db) : (grLast db x.ha).toNat < 65536 := by
 unfold grLast
 have := lastOf_rg (fun y => 0 ≤ y ∧ y < 65536) (db.drop (findN db x.ha + 1)) x.ha (mem_wd h hx).1 (fun y hy => (mem_wd h (List.mem_of_mem_drop hy)).1)
 omega
theorem stD_lim (HF : List At → Nat) {s : Ss} (hg : Gdb s.db) (hw : DbW s.db) (q : Pd) : (stD HF s q).2.1.vs.length ≤ 1000000 ∧ Lim (stD HF s q).2.2 := by
 have hb := hg.big
 have hk : ∀ (l : List At) k,(l.take k).length ≤ l.length := fun l k => by rw [List.length_take]; omega
 unfold stD
 split
 ·exact ⟨Nat.zero_le _,Lim.nil⟩
 ·split
  ·unfold findS
   split
   ·exact ⟨Nat.zero_le _,Lim.nil⟩
   ·refine ⟨Nat.zero_le _,lim_map itF (db := s.db) ?_ (fun x hx => (List.mem_filter.1 (List.mem_of_mem_take hx)).1) (fun x hx => ?_)⟩
    ·exact Nat.le_trans (hk _ _) (Nat.le_trans (List.length_filter_le _ _) hb)
    ·have := mem_wd hw hx
     simp only [itF,List.length_nil]
     omega
  ·split
   ·unfold typeS
    split
    ·exact ⟨Nat.zero_le _,Lim.nil⟩
    ·refine ⟨Nat.zero_le _,lim_map (itT HF s) (db := s.db) ?_ (fun x hx => (List.mem_filter.1 (List.mem_of_mem_take hx)).1) (fun x hx => ?_)⟩
     ·exact Nat.le_trans (hk _ _) (Nat.le_trans (List.length_filter_le _ _) hb)
     ·have h1 := mem_wd hw hx
      have h2 := shV_len HF s.db x (mem_len hg hx)
      have h3 : (cutV HF s x).length ≤ 512 := by unfold cutV; rw [List.length_take]; omega
      simp only [itT]
      omega
   ·unfold groupS
    split
    ·exact ⟨Nat.zero_le _,Lim.nil⟩
    ·refine ⟨Nat.zero_le _,lim_map (itG s.db) (db := s.db) ?_ (fun x hx => (List.mem_filter.1 (List.mem_of_mem_take hx)).1) (fun x hx => ?_)⟩
     ·exact Nat.le_trans (hk _ _) (Nat.le_trans (List.length_filter_le _ _) hb)
     ·have h1 := mem_wd hw hx
      have h2 := grLast_lt hw hx
      have h3 := mem_len hg hx
      simp only [itG]
      omega
theorem hok_d {HF : List At → Nat} (hF : HashOk HF) : HOk (stD HF) GoodD where
 hs := fun c s q sv bv iv w hg hsv hbv hiv => by
  obtain ⟨da,dn,dc,qa,qn,qc,ua,un,uc,oa,on,oc,rfl,hdq,hn,hqn⟩ := hsv.form
  obtain ⟨pa,pc,rfl⟩ := hbv.form
  obtain ⟨ia,ic,rfl⟩ := hiv.form
  have h := dhandle_any hF s da dn dc qa qn qc ua un uc oa on oc q pa q.vs.length pc ia 0 ic w hdq hn hqn hg.gd hg.wd hg.mt hg.kd (fun hk => by rw [← hn]; exact hg.h8 hk) hg.h16
  exact h.mono (fun e w' hh => hh)
 hc := fun c s q hg => by
  have hk := hg.kd
  have ha := hg.ad
  have hla := hg.la
  rw [ha] at hk hla
  obtain ⟨h5,h6⟩ := stD_lim HF hg.gd hg.wd q
  refine ⟨hg.ok,by omega,fun _ h1 h2 => hla ?_,h5,h6⟩
  have hr : Rk c.ad.kd := by unfold Rk; omega
  have h3 : (stD HF s q).2.1.kd = c.ad.kd + 1 := by rw [h1]; exact hr.ans.1
  omega
theorem ok_actD (mt mx now : Int) {t : Tk} {p : Pd} (h1 : t.vs = []) (h2 : t.fo.length ≤ 50000) (h3 : p.vs = []) (h4 : t.of = 0) (h5 : t.la < 65536) : ClOk (act mt mx now t p) :=
 ⟨(fun _ ht => by cases ht),Nat.zero_le _,(by show t.vs.length ≤ _; rw [h1]; exact Nat.zero_le _),h2,(by show p.vs.length ≤ _; rw [h3]; exact Nat.zero_le _),⟨0,h4,Nat.zero_le _⟩,h5⟩
theorem Sp.found_idle (mt mx : Int) (t : Tk) (p : Pd) (ps : List Pd) : (⟨act mt mx 0 t p,0,ps,[]⟩ : Sp).found = ⟨idle mt mx 0,0,ps,[⟨2,t.kd,t.ha,[],t.fo,0⟩]⟩ := by
 simp [Sp.found,Sp.endd,Sp.report,Sp.close,act,idle]
/-- a task that finds: from any handle on, all that is left is found -/
theorem play_disc {HF : List At → Nat} (s : Ss) (mx : Int) (t : Tk) (rq : Nat → Pd) (C : Nat → List At) (tof : At → Fd) (im : At → Im) (htk : t.kd = 2 ∨ t.kd = 3 ∨ t.kd = 4) (hth : t.ha = 0)
 (hkd : ∀ a,(rq a).kd = 4 ∨ (rq a).kd = 8 ∨ (rq a).kd = 16) (hrq : ∀ a b,{ rq a with ha := b } = rq b)
 (hG : ∀ a (fo : List Fd),fo.length ≤ 2000 → GoodD (act s.mt mx 0 { t with fo := fo } (rq a)) s (rq a))
 (hE : ∀ a,C a = [] → stD HF s (rq a) = (s,errP (rq a) a 10,[]))
 (hN : ∀ a,C a ≠ [] → ∃ k l st,0 < k ∧ k ≤ (C a).length ∧ stD HF s (rq a) = (s,{ pd0 with kd := (rq a).kd + 1 },((C a).take k).map im) ∧ (∀ fo,(⟨act s.mt mx 0 { t with fo := fo } (rq a),0,[],[]⟩ : Sp).answered { pd0 with kd := (rq a).kd + 1 } (((C a).take k).map im) = (⟨act s.mt mx 0 { t with fo := fo } (rq a),0,[],[]⟩ : Sp).listed (some (((C a).take k).map tof)) l st) ∧ ((l = st ∧ k = (C a).length) ∨ (l ≠ st ∧ C (l + 1) = (C a).drop k))) :
 ∀ (n a : Nat) (fo : List Fd),(C a).length ≤ n → fo.length + (C a).length ≤ 2000 → PlayG (stD HF) GoodD (n + 1) (act s.mt mx 0 { t with fo := fo } (rq a)) s (rq a) ⟨2,t.kd,0,[],fo ++ (C a).map tof,0⟩ (idle s.mt mx 0) s := by
 intro n
 induction n with
 |zero =>
  intro a fo h1 h2
  exact step htk hth hkd hrq hG hE hN 0 a fo h2 (fun k _ hk => by omega)
 |succ n ih =>
  intro a fo h1 h2
  refine step htk hth hkd hrq hG hE hN (n + 1) a fo h2 (fun k l hk hkl he => ?_)
  have h3 : (C (l + 1)).length ≤ n := by rw [he,List.length_drop]; omega
  have h4 := ih (l + 1) (fo ++ ((C a).take k).map tof) h3 (by rw [he,List.length_append,List.length_map,List.length_take,List.length_drop]; omega)
  rw [he,List.append_assoc,← List.map_append,List.take_append_drop] at h4
  exact h4
 where
 step {HF : List At → Nat} {s : Ss} {mx : Int} {t : Tk} {rq : Nat → Pd} {C : Nat → List At} {tof : At → Fd} {im : At → Im} (htk : t.kd = 2 ∨ t.kd = 3 ∨ t.kd = 4) (hth : t.ha = 0)
  (hkd : ∀ a,(rq a).kd = 4 ∨ (rq a).kd = 8 ∨ (rq a).kd = 16) (hrq : ∀ a b,{ rq a with ha := b } = rq b)
  (hG : ∀ a (fo : List Fd),fo.length ≤ 2000 → GoodD (act s.mt mx 0 { t with fo := fo } (rq a)) s (rq a))
  (hE : ∀ a,C a = [] → stD HF s (rq a) = (s,errP (rq a) a 10,[]))
  (hN : ∀ a,C a ≠ [] → ∃ k l st,0 < k ∧ k ≤ (C a).length ∧ stD HF s (rq a) = (s,{ pd0 with kd := (rq a).kd + 1 },((C a).take k).map im) ∧ (∀ fo,(⟨act s.mt mx 0 { t with fo := fo } (rq a),0,[],[]⟩ : Sp).answered { pd0 with kd := (rq a).kd + 1 } (((C a).take k).map im) = (⟨act s.mt mx 0 { t with fo := fo } (rq a),0,[],[]⟩ : Sp).listed (some (((C a).take k).map tof)) l st) ∧ ((l = st ∧ k = (C a).length) ∨ (l ≠ st ∧ C (l + 1) = (C a).drop k)))
  (n a : Nat) (fo : List Fd) (h2 : fo.length + (C a).length ≤ 2000)
  (hm : ∀ k l,0 < k → k ≤ (C a).length → C (l + 1) = (C a).drop k → PlayG (stD HF) GoodD n (act s.mt mx 0 { t with fo := fo ++ ((C a).take k).map tof } (rq (l + 1))) s (rq (l + 1)) ⟨2,t.kd,0,[],fo ++ (C a).map tof,0⟩ (idle s.mt mx 0) s) :
  PlayG (stD HF) GoodD (n + 1) (act s.mt mx 0 { t with fo := fo } (rq a)) s (rq a) ⟨2,t.kd,0,[],fo ++ (C a).map tof,0⟩ (idle s.mt mx 0) s := by
  have hg := hG a fo (by omega)
  by_cases hc : C a = []
  ·have hs := hE a hc
   have hh : handleP (act s.mt mx 0 { t with fo := fo } (rq a)) (errP (rq a) a 10) [] 0 = ⟨idle s.mt mx 0,0,[],[⟨2,t.kd,0,[],fo,0⟩]⟩ := by
    unfold handleP
    rw [if_neg (by simp [act]),if_neg (by show ¬ (1 : Int) = 27; decide),if_neg (by show ¬ (1 : Int) = 29; decide),if_pos ⟨rfl,rfl,rfl⟩]
    have hr : (⟨act s.mt mx 0 { t with fo := fo } (rq a),0,[],[]⟩ : Sp).refused 10 = (⟨act s.mt mx 0 { t with fo := fo } (rq a),0,[],[]⟩ : Sp).found := by
     unfold Sp.refused
     rw [if_pos ⟨by simpa [act] using htk,rfl⟩]
    show (⟨act s.mt mx 0 { t with fo := fo } (rq a),0,[],[]⟩ : Sp).refused 10 = _
    rw [hr,Sp.found_idle]
    simp [hth]
   rw [hc,List.map_nil,List.append_nil]
   have hd := PlayG.done (st := stD HF) (G := GoodD) (n := n) (r := ⟨2,t.kd,0,[],fo,0⟩) hg (by rw [hs]; simp only; rw [hh])
   rw [hs] at hd
   simp only at hd
   rw [hh] at hd
   exact hd
  ·obtain ⟨k,l,st,hk0,hkl,hs,ha,hl⟩ := hN a hc
   have hh : handleP (act s.mt mx 0 { t with fo := fo } (rq a)) { pd0 with kd := (rq a).kd + 1 } (((C a).take k).map im) 0 = (⟨act s.mt mx 0 { t with fo := fo } (rq a),0,[],[]⟩ : Sp).listed (some (((C a).take k).map tof)) l st := by
    rw [← ha fo]
    have hkk := hkd a
    unfold handleP
    have hr : Rk (rq a).kd := by unfold Rk; omega
    rw [if_neg (by simp [act]),if_neg (by show ¬ (rq a).kd + 1 = 27; omega),if_neg (by show ¬ (rq a).kd + 1 = 29; omega),if_neg (fun h => by have h1 : (rq a).kd + 1 = 1 := h.2.1; omega),if_pos ⟨rfl,hr.ans.1.symm⟩]
   rcases hl with ⟨h3,h4⟩ | ⟨h3,h4⟩
   ·rw [Sp.listed_found _ _ _ _ _ rfl h3] at hh
    have hf : ((⟨act s.mt mx 0 { t with fo := fo } (rq a),0,[],[]⟩ : Sp).addFo (((C a).take k).map tof)).found = ⟨idle s.mt mx 0,0,[],[⟨2,t.kd,0,[],fo ++ (C a).map tof,0⟩]⟩ := by
     rw [h4,List.take_of_length_le (Nat.le_refl _)]
     show (⟨act s.mt mx 0 { t with fo := fo ++ (C a).map tof } (rq a),0,[],[]⟩ : Sp).found = _
     rw [Sp.found_idle]
     simp [hth]
    rw [hf] at hh
    have hd := PlayG.done (st := stD HF) (G := GoodD) (n := n) (r := ⟨2,t.kd,0,[],fo ++ (C a).map tof,0⟩) hg (by rw [hs]; simp only; rw [hh])
    rw [hs] at hd
    simp only at hd
    rw [hh] at hd
    exact hd
   ·have hx : (⟨act s.mt mx 0 { t with fo := fo } (rq a),0,[],[]⟩ : Sp).listed (some (((C a).take k).map tof)) l st = ⟨act s.mt mx 0 { t with fo := fo ++ ((C a).take k).map tof } (rq (l + 1)),0,[rq (l + 1)],[]⟩ := by
     unfold Sp.listed
     simp only
     rw [if_neg h3]
     show (⟨act s.mt mx 0 { t with fo := fo ++ ((C a).take k).map tof } (rq a),0,[],[]⟩ : Sp).send { rq a with ha := l + 1 } = _
     rw [hrq]
     rfl
    rw [hx] at hh
    refine PlayG.more hg (by rw [hs]; simp only; rw [hh]) (by rw [hs]; simp only; rw [hh]) ?_
    rw [hs]
    simp only
    rw [hh]
    exact hm k l hk0 hkl h4
end Go.Proofs.YtldcihjddebciaaGreat
