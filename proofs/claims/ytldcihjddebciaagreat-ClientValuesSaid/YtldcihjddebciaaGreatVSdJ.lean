/- server: put, by its reference. -/
import Derived.Test.YtldcihjddebciaaGreatVSdI
import Derived.Laws.ResultCell
set_option linter.unusedSimpArgs false
set_option linter.unusedVariables false
set_option maxRecDepth 100000
set_option maxHeartbeats 4000000
namespace Go.Proofs.YtldcihjddebciaaGreat
open Go.RowKit
theorem results_cell1 {fn : Func} {p : Tmp} {ty : TypeId} (h : fn.results = #[.cell p ty]) (tmps : Array Value) (P : Program) (w : World) :
 (results fn tmps).run P w = ((asAddr (tmps.getD p undef)).run P w).andThen fun a w₁ => (loadVar ty a).run P w₁ := by
 simp only [results,h]
 simp [Sem.run_bind,Result.andThen]
theorem flat_set5 (q : At × Value) (y : Value) (bs : List Nat) : ∀ (l : List (At × Value)) (k : Nat) (hk : k < l.length),(l.flatMap aenc).set (k * 5 + 4) y = (l.set k ({ l[k].1 with bs := bs },y)).flatMap aenc
 |[],k,h => by simp at h
 |x :: l,0,_ => by simp [List.flatMap_cons,aenc]
 |x :: l,k + 1,h => by
  have ih := flat_set5 q y bs l k (by simpa using h)
  simp only [List.flatMap_cons,List.set_cons_succ,List.getElem_cons_succ]
  rw [List.set_append_right _ _ (by rw [aenc_len]; omega),aenc_len,show (k + 1) * 5 + 4 - 5 = k * 5 + 4 by omega,ih]
theorem put_map {l : List (At × Value)} {k : Nat} (hk : k < l.length) (bs : List Nat) (y : Value) : (l.set k ({ l[k].1 with bs := bs },y)).map (·.1) = putA (l.map (·.1)) k bs := by
 unfold putA atI
 rw [List.map_set]
 congr 1
 rw [List.getD_eq_getElem?_getD,List.getElem?_map,List.getElem?_eq_getElem hk]
 rfl
theorem aenc_one {qs : List (At × Value)} {w : World} (h : ∀ q ∈ qs,BV w q.2 q.1.bs) : ∀ u ∈ qs.flatMap aenc,u.oneCell' = true := fun u hu => by
 obtain ⟨q,hq,hu⟩ := List.mem_flatMap.1 hu
 obtain ⟨a,c,e⟩ := (h q hq).form
 simp only [aenc,e,List.mem_cons,List.not_mem_nil,or_false] at hu
 rcases hu with rfl | rfl | rfl | rfl | rfl <;> rfl
theorem vput_any (s : Ss) (da : Option Addr) (dn dc : Nat) (qa : Option Addr) (qn qc : Nat) (ua : Option Addr) (un uc : Nat) (oa : Option Addr) (on oc : Nat) (i : Nat) (pa : Option Addr) (pn pc : Nat) (vs : List Nat) (R : List (Option Nat)) (w : World) (hR : ∀ k,some k ∈ R → k < w.heap.size) (hd : DbA w R (.slice da dn dc) s.db) (hn : s.db.length = dn) (hn2 : dn ≤ 1000) (hi : i < dn) (hv : BV w (.slice pa pn pc) vs) (hpn : vs.length = pn) (hm : pn ≤ 1000000) :
 Calls Tryz.prog 94 #[.agg #[.slice da dn dc,.int .i64 s.mt,.int .i64 s.mx,.int .i64 2,.slice qa qn qc,.int .i64 2,.bool false,.slice ua un uc,.slice oa on oc,.bool false,.int .i64 0],.int .i64 i,.slice pa pn pc] w fun e w' => ∃ a c,e = .returned (.agg #[.slice a dn c,.int .i64 s.mt,.int .i64 s.mx,.int .i64 2,.slice qa qn qc,.int .i64 2,.bool false,.slice ua un uc,.slice oa on oc,.bool false,.int .i64 0]) ∧ DbA w' R (.slice a dn c) (putA s.db i vs) ∧ Below w.heap.size w w' := by
 obtain ⟨i0,hi0,hi1,hi2,hi3⟩ := info_parts Tryz.info_at
 obtain ⟨j0,hj0,hj1,hj2,hj3⟩ := info_parts Tryz.info_u8
 obtain ⟨qs,hqs,hsr,-,hbv⟩ := hd
 have HR := Lib.hid hR
 have hql : qs.length = dn := by rw [← hn,← hqs,List.length_map]
 rw [hql] at hsr
 have hlt := hv.lt
 have hpsr := hv.sr
 rw [hpn] at hpsr
 obtain ⟨db,hdb⟩ : ∃ x,s.db = x := ⟨_,rfl⟩
 rw [hdb] at hqs ⊢
 have bS := (Blk.new w 57 [.slice da dn dc,.int .i64 s.mt,.int .i64 s.mx,.int .i64 2,.slice qa qn qc,.int .i64 2,.bool false,.slice ua un uc,.slice oa on oc,.bool false,.int .i64 0]).alloc (.cells #[.slice none 0 0,.int .i64 0,.int .i64 0,.int .i64 0,.slice none 0 0,.int .i64 0,.bool false,.slice none 0 0,.slice none 0 0,.bool false,.int .i64 0] 57)
 have bR := Blk.new (w.alloc (.cells #[.slice da dn dc,.int .i64 s.mt,.int .i64 s.mx,.int .i64 2,.slice qa qn qc,.int .i64 2,.bool false,.slice ua un uc,.slice oa on oc,.bool false,.int .i64 0] 57)) 57 [.slice none 0 0,.int .i64 0,.int .i64 0,.int .i64 0,.slice none 0 0,.int .i64 0,.bool false,.slice none 0 0,.slice none 0 0,.bool false,.int .i64 0]
 have hB := ((Below.refl w.heap.size w).alloc (Nat.le_refl _) (.cells #[.slice da dn dc,.int .i64 s.mt,.int .i64 s.mx,.int .i64 2,.slice qa qn qc,.int .i64 2,.bool false,.slice ua un uc,.slice oa on oc,.bool false,.int .i64 0] 57)).alloc (by simp) (.cells #[.slice none 0 0,.int .i64 0,.int .i64 0,.int .i64 0,.slice none 0 0,.int .i64 0,.bool false,.slice none 0 0,.slice none 0 0,.bool false,.int .i64 0] 57)
 have hz : (w.alloc (.cells #[.slice da dn dc,.int .i64 s.mt,.int .i64 s.mx,.int .i64 2,.slice qa qn qc,.int .i64 2,.bool false,.slice ua un uc,.slice oa on oc,.bool false,.int .i64 0] 57)).heap.size = w.heap.size + 1 := by simp
 rw [hz] at bR
 have HQ := Lib.hid (And.intro hqs (And.intro hbv (And.intro hql (And.intro hlt hpn))))
 have HPS := Lib.hid hpsr
 have HSR := Lib.hid hsr
 clear hz hqs hbv hql hlt hpn hn hv hpsr hdb hsr hR
 go_enter Tryz.func94,Tryz.ntmps94
 go_upto_region 1 with fail
 generalize hX : World.alloc (World.alloc w _) _ = V at bS bR hB ⊢
 have m0 := bS.cell (j := 0) (v := .slice da dn dc) rfl
 have hA := (Below.refl V.heap.size V).alloc (Nat.le_refl _) (.cells #[] 29)
 have m0a := kc m0 hA
 have hoz := own_zero V 29 5 V.heap.size (Nat.le_refl _)
 have hsra : SR (V.alloc (.cells #[] 29)) (.slice da dn dc) dn 5 (qs.flatMap aenc) := (HSR.out.below hB).below hA
 have hby : dn * 56 ≤ 140737488355328 := by omega
 have hlo := bR.lt
 clear hX
 go_upto_region 2 with (refine wpList_app_own0 rfl _ _ 22 rfl V.heap.size 29 i0 _ 5 56 Tryz.underlying22 hi0 hi1 hi2 hi3 rfl (by decide) (.slice (some ⟨V.heap.size,0,none⟩) 0 0) rfl hoz (.slice da dn dc) dn (qs.flatMap aenc) rfl hsra hby (by simp) ?_; intro l0 w1 hown1 hg1)
 have hB1 : Below V.heap.size V w1 := hA.grown hg1 (by simp) (fun k hk => by simp [Value.ownBlock] at hk; omega)
 obtain ⟨g,cap,rfl,hge,hgl⟩ : ∃ g cap,l0 = .slice (some ⟨g,0,none⟩) dn cap ∧ V.heap.size ≤ g ∧ g < w1.heap.size := by
  rcases hown1.2 with ⟨_,h0⟩ | ⟨g,cap,cur,rfl,hb,hh,_⟩
  ·omega
  ·exact ⟨g,cap,rfl,hb,(Array.getElem?_eq_some_iff.1 hh).1⟩
 have bS1 := bS.below hB1
 have bR1 := bR.below hB1
 have hBt := hB.trans (hB1.mono hB.size)
 clear m0 m0a hA hoz hsra hby hg1 hB1 bS bR
 have hA := (Below.refl w1.heap.size w1).alloc (Nat.le_refl _) (.cells #[] 5)
 have hsr1 : SR (w1.alloc (.cells #[] 5)) (.slice pa pn pc) pn 1 (bcells vs) := (HPS.out.below hBt).below hA
 have hpb : pn * 1 ≤ 140737488355328 := by omega
 have hii : i < qs.length := by rw [HQ.out.2.2.1]; exact hi
 have hi0' : (0 : Int) ≤ (i : Int) := by omega
 have hi1' : (i : Int) < (dn : Int) := by omega
 have old4 : (qs.flatMap aenc)[i * 5 + 4]? = some qs[i].2 := flat_get aenc 5 aenc_len qs i 4 hii (by omega)
 have hcl : ∀ W,Below w1.heap.size w1 W → W.cell? ⟨g,i * 5 + 4,none⟩ = some qs[i].2 ∧ W.frozen? ⟨g,i * 5 + 4,none⟩ = false := fun W hW => by
  have ho := own_below hown1 hW
  exact ⟨by rw [ho.cellAt _ (by omega)]; exact old4,ho.frozenAt _⟩
 obtain ⟨x4,hx4⟩ : ∃ x,qs[i].2 = x := ⟨_,rfl⟩
 rw [hx4] at hcl
 obtain ⟨xa,xn,xc,rfl⟩ : ∃ a n c,x4 = .slice a n c := by
  obtain ⟨a,c,e⟩ := (HQ.out.2.1 qs[i] (List.getElem_mem hii)).1.form
  exact ⟨a,_,c,by rw [← hx4,e]⟩
 have HCL := Lib.hid hcl
 clear hcl old4 hx4
 go_upto_region 3 with (refine wpList_app0 rfl _ _ 27 rfl 5 j0 _ 1 1 Tryz.underlying27 hj0 hj1 hj2 hj3 rfl (by decide) w1.heap.size rfl (.slice pa pn pc) pn (bcells vs) rfl hsr1 hpb ?_; intro b5 c5 w5 hsr5 hc5 hB5 ho5; have hB15 := hA.trans (hB5.mono hA.size); obtain ⟨y4,z4⟩ := HCL.out _ hB15)
 have hBt := hBt.trans (hB15.mono hBt.size)
 have hown5 := own_below hown1 hB15
 have bS5 := bS1.below hB15
 have bR5 := bR1.below hB15
 have hbv5 : BV w5 (.slice b5 pn c5) vs := bv_new hsr5 HQ.out.2.2.2.2 hc5 hm HQ.out.2.2.2.1
 have hbne : (Value.slice b5 pn c5).ownBlock ≠ some g := by
  intro e
  rcases ho5 with e1 | e1
  ·rw [e1] at e; injection e with e; omega
  ·rw [e1] at e; injection e with e; have := hA.size; omega
 have hfr : Apart R (.slice b5 pn c5) := by
  intro k hk hm
  have := HR.out k hm
  rcases ho5 with e1 | e1
  ·rw [e1] at hk; injection hk with hk; omega
  ·rw [e1] at hk; injection hk with hk; have := hA.size; omega
 have HFR := Lib.hid hfr
 clear hfr
 have hbne2 : (Value.slice b5 pn c5).ownBlock ≠ some w.heap.size := by
  intro e
  rcases ho5 with e1 | e1
  ·rw [e1] at e; injection e with e; omega
  ·rw [e1] at e; injection e with e; have := hA.size; omega
 clear y4 z4 HCL hsr5 hc5 hB5 ho5 hsr1 hpb hA hown1 bS1 bR1 hB15
 generalize hX : World.setCell w5 _ _ = w6
 have hX : w5.setCell ⟨g,i * 5 + 4,none⟩ (.slice b5 pn c5) = w6 := hX
 have hg6 : w5.grownBy w6 (some g) := hX ▸ set1 w5 ⟨g,i * 5 + 4,none⟩ (.slice b5 pn c5)
 have hown6 : w6.ownsRow V.heap.size 29 5 (.slice (some ⟨g,0,none⟩) dn cap) dn ((qs.set i ({ qs[i].1 with bs := vs },.slice b5 pn c5)).flatMap aenc) := by
  rw [← flat_set5 qs[i] (.slice b5 pn c5) vs qs i hii,← hX]
  exact (hown5.stored (i * 5 + 4) (.slice b5 pn c5)).1
 have hbv6 := hbv5.grown hg6 hbne
 have bS6 := bS5.kept hg6 (fun e => by injection e with e; omega)
 have bR6 := bR5.kept hg6 (fun e => by injection e with e; omega)
 have hBt := hBt.grown hg6 hBt.size (fun k hk => by cases hk; omega)
 clear hX hg6 hown5 hbv5 bS5 bR5
 have m0 := bS6.cell (j := 0) (v := .slice da dn dc) rfl
 have z0 := bS6.frozen 0
 go_upto_region 4 with fail
 generalize hX : World.setCell w6 _ _ = w7
 have hX : w6.setCell ⟨w.heap.size,0,none⟩ (.slice (some ⟨g,0,none⟩) dn cap) = w7 := hX
 have hg7 : w6.grownBy w7 (some w.heap.size) := hX ▸ set1 w6 ⟨w.heap.size,0,none⟩ (.slice (some ⟨g,0,none⟩) dn cap)
 have bS7 : Blk w7 w.heap.size 57 [.slice (some ⟨g,0,none⟩) dn cap,.int .i64 s.mt,.int .i64 s.mx,.int .i64 2,.slice qa qn qc,.int .i64 2,.bool false,.slice ua un uc,.slice oa on oc,.bool false,.int .i64 0] := hX ▸ bS6.setAt (j := 0) (.slice (some ⟨g,0,none⟩) dn cap)
 have hown7 := hown6.kept hg7 (.inr (fun e => by simp only [Value.ownBlock,Option.map_some,Option.some.injEq] at e; omega))
 have hbv7 := hbv6.grown hg7 hbne2
 have bR7 := bR6.kept hg7 (fun e => by injection e with e; omega)
 have hBt := hBt.grown hg7 hBt.size (fun k hk => by cases hk; omega)
 clear hX hg7 hown6 hbv6 bS6 bR6 m0 z0 hbne hbne2
 have rgS := bS7.range 0 [.slice (some ⟨g,0,none⟩) dn cap,.int .i64 s.mt,.int .i64 s.mx,.int .i64 2,.slice qa qn qc,.int .i64 2,.bool false,.slice ua un uc,.slice oa on oc,.bool false,.int .i64 0] (fun j v hv => by rw [Nat.zero_add]; exact hv)
 have hth := bR7.there 0 11 (by simp)
 have one : (#[.slice (some ⟨g,0,none⟩) dn cap,.int .i64 s.mt,.int .i64 s.mx,.int .i64 2,.slice qa qn qc,.int .i64 2,.bool false,.slice ua un uc,.slice oa on oc,.bool false,.int .i64 0] : Array Value).all (·.oneCell') = true := by simp [Value.oneCell']
 go_wp2_with (first | (refine wpList_load_mid rfl 57 _ rfl w.heap.size 0 rfl [.slice (some ⟨g,0,none⟩) dn cap,.int .i64 s.mt,.int .i64 s.mx,.int .i64 2,.slice qa qn qc,.int .i64 2,.bool false,.slice ua un uc,.slice oa on oc,.bool false,.int .i64 0] _ rgS Tryz.underlying57 rfl (by kernel_rfl) ?_) | (refine wpList_store_mid rfl 57 _ _ rfl (w.heap.size + 1) 0 #[.slice (some ⟨g,0,none⟩) dn cap,.int .i64 s.mt,.int .i64 s.mx,.int .i64 2,.slice qa qn qc,.int .i64 2,.bool false,.slice ua un uc,.slice oa on oc,.bool false,.int .i64 0] rfl rfl hth (by kernel_rfl) one ?_; simp only [Act.put]; generalize hW : World.setCells _ (w.heap.size + 1) 0 _ = w9; have HW := Lib.hid hW; clear hW))
 obtain ⟨hg9,bR9⟩ := put_namedB bR7 HW.out rfl
 have hdb : DbA w7 R (.slice (some ⟨g,0,none⟩) dn cap) (putA db i vs) := by
  obtain ⟨q1,q2,q3,_⟩ := HQ.out
  have hall : ∀ q ∈ qs.set i ({ qs[i].1 with bs := vs },.slice b5 pn c5),BD w7 R q.2 q.1.bs := fun q hq => by
   rcases List.mem_or_eq_of_mem_set hq with h | h
   ·exact (q2 q h).below hBt
   ·rw [h]; exact ⟨hbv7,.inr HFR.out⟩
  refine ⟨qs.set i ({ qs[i].1 with bs := vs },.slice b5 pn c5),by rw [put_map hii,q1],?_,.inr (fun k hk hm => ?_),hall⟩
  rotate_left
  ·have := HR.out k hm
   simp only [Value.ownBlock,Option.map_some,Option.some.injEq] at hk
   omega
  rw [List.length_set,q3]
  exact SR.of_own hown7 (aenc_one (fun q hq => (hall q hq).1)) (by unfold maxLen; omega)
 have hdb9 := hdb.kept (nox_code (by simp only [List.map_cons,List.map_nil,code]; decide) (by simp only [List.map_cons,List.map_nil,code]; decide) (by simp only [List.map_cons,List.map_nil,code]; decide) (by simp only [List.map_cons,List.map_nil,code]; decide) (by simp only [List.map_cons,List.map_nil,code]; decide)) bR7 hg9
 have hBt := hBt.grown hg9 hBt.size (fun k hk => by cases hk; omega)
 have hl := run_loadVar_row (P := Tryz.prog) _ (w.heap.size + 1) 57 57 _ (0,0) _ bR9 Tryz.underlying57 rfl (by kernel_rfl)
 refine bodyPost_ret (v := .agg #[.slice (some ⟨g,0,none⟩) dn cap,.int .i64 s.mt,.int .i64 s.mx,.int .i64 2,.slice qa qn qc,.int .i64 2,.bool false,.slice ua un uc,.slice oa on oc,.bool false,.int .i64 0]) (by rw [results_cell1 rfl]; simp [asAddr,hl] <;> rfl) rfl ⟨_,_,rfl,hdb9,hBt⟩
end Go.Proofs.YtldcihjddebciaaGreat
