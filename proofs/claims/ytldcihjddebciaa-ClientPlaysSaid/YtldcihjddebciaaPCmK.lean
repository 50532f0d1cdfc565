/- client's reference: answered. -/
import Derived.Test.YtldcihjddebciaaPCmJ
set_option linter.unusedSimpArgs false
set_option linter.unusedVariables false
set_option maxRecDepth 100000
set_option maxHeartbeats 16000000
namespace Go.Proofs.Ytldcihjddebciaa
open Go.RowKit
theorem run_app_own {P : Program} (w : World) (base : Nat) (t ty e : TypeId) (i : TypeInfo) (z : Value) (size bytes : Nat) (ht : P.underlying t = some (.slice e)) (hi : P.info? e = some i) (hz : i.zero = some z)
 (hsize : i.size = size) (hby : i.bytes = bytes) (hzs : z.cells.size = size) (hsz : 0 < size) (v : Value) (n : Nat) (xs : List Value) (hown : w.ownsRow base e size v n xs)
 (sv : Value) (m : Nat) (cs : List Value) (hsr : SR w sv m size cs) (h63 : n + m ≤ maxLen) (hbytes : (n + m) * bytes ≤ 140737488355328) (hbase : base ≤ w.heap.size) :
 ∃ v' w',(Builtin.append_ #[t,t] ty #[v,sv]).run P w = .ok v' w' ∧ w'.ownsRow base e size v' (n + m) (xs ++ cs) ∧ w.grownBy w' v.ownBlock := by
 obtain ⟨hm,hl,h1,ao,cap,rfl,hnil,hc⟩ := hsr
 cases ao with
 |none =>
  obtain ⟨rfl,rfl⟩ := hnil rfl
  have hcs : cs = [] := List.eq_nil_of_length_eq_zero (by simpa using hl)
  subst hcs
  exact ⟨v,w,run_append_owned_none (P := P) (w := w) base t ty e i size ht hi v n xs hown,by simpa using hown,World.grownBy.refl w _⟩
 |some ad =>
  obtain ⟨v',w',hr,h2,h3,_⟩ := run_append_own_at (P := P) w base t ty e i z size bytes ht hi hz hsize hby hzs hsz v n xs hown ad m cap cs hl (fun j u hj => by
   have hj' := (List.getElem?_eq_some_iff.1 hj).1
   obtain ⟨b,off,e0,_,hcs⟩ := hc (by
    rcases Nat.eq_zero_or_pos m with h0 | h0
    ·subst h0; omega
    ·exact h0)
   cases e0
   rw [addr_add]
   exact hcs j u hj) h1 h63 hbytes hbase
  exact ⟨v',w',hr,h2,h3⟩
theorem step_app_own {P : Program} {w : World} {ops : Array Oper} {o : Oper} {a : Act} {K : Act → World → Prop} {Q : Exit → Act → World → Prop} {E : Prop} (hgd : o.guard = none) (s x : Operand) (t : TypeId)
 (ho : o.op = .call { callee := .builtin .append,args := #[s,x],argTypes := #[t,t] })
 (base : Nat) (e : TypeId) (i : TypeInfo) (z : Value) (size bytes : Nat) (ht : P.underlying t = some (.slice e)) (hi : P.info? e = some i) (hz : i.zero = some z)
 (hsize : i.size = size) (hby : i.bytes = bytes) (hzs : z.cells.size = size) (hsz : 0 < size) (v : Value) (n : Nat) (xs : List Value) (hs : a.eval s = v) (hown : w.ownsRow base e size v n xs)
 (sv : Value) (m : Nat) (cs : List Value) (hx : a.eval x = sv) (hsr : SR w sv m size cs) (h63 : n + m ≤ maxLen) (hbytes : (n + m) * bytes ≤ 140737488355328) (hbase : base ≤ w.heap.size)
 (h : ∀ v' w',w'.ownsRow base e size v' (n + m) (xs ++ cs) → w.grownBy w' v.ownBlock → K (a.put o.dst v') w') : if Region.wanted o (yielded ops a.tmps) = true then Oper.wp P o a w K Q else E := by
 have hw : Region.wanted o (yielded ops a.tmps) = true := by simp [Region.wanted,hgd]
 rw [if_pos hw]
 obtain ⟨v',w',hr,h1,h2⟩ := run_app_own (P := P) w base t o.type e i z size bytes ht hi hz hsize hby hzs hsz v n xs hown sv m cs hsr h63 hbytes hbase
 unfold Oper.wp execOp
 simp only [ho,resolve,invoke,builtin,Sem.run_bind,Sem.run_pure,Result.andThen_ok,List.map_toArray,List.map_cons,List.map_nil,hs,hx,hr]
 exact h v' w' h1 h2
theorem ItB.upB {w : World} {B B' : Nat} {v : Value} {qs : List (Im × Value)} (h : ItB w B v qs) (hb : B ≤ B') : ItB w B' v qs := ⟨h.sr,h.low.imp id (fun ⟨b,h1,h2⟩ => ⟨b,h1,by omega⟩),fun q hq => ⟨(h.bv q hq).1,(h.bv q hq).2.1.imp id (fun ⟨b,h1,h2⟩ => ⟨b,h1,by omega⟩),(h.bv q hq).2.2⟩,h.rg⟩
theorem bcells_app (a b : List Nat) : bcells (a ++ b) = bcells a ++ bcells b := by simp [bcells]
theorem own_low {w w' : World} {base e k n : Nat} {v : Value} {cs : List Value} (h : w.ownsRow base e k v n cs) (hg : w.grownBy w' v.ownBlock) (hb : base ≤ w.heap.size) : Below base w w' := (Below.refl base w).grown hg hb (fun i hi => (World.ownsRow.lt h i hi).1)
theorem ransw_mtu (c : Cl) (k : Cv) (R0 : List (Option Nat)) (p : Pd) (pb iv : Value) (qs : List (Im × Value)) (now : Int) (w : World) (hC : Cr w R0 c k) (hR0 : ∀ i,some i ∈ R0 → i < w.heap.size) (hw : ∀ t ∈ c.wt,TkOk t ∧ 1 ≤ t.kd ∧ t.kd ≤ 9) (hwl : c.wt.length ≤ 1000) (hk : p.kd = 3) :
 Calls Try.prog 38 #[.agg (k.cells c).toArray,.agg (pdc p pb iv).toArray,.int .i64 now] w fun e w' => Out3 w' R0 e ((sp0 { c with mt := min p.mt c.mx } now).endd ⟨1,0,0,[],[],0⟩) ∧ Below w.heap.size w w' := by
 obtain ⟨R,hRs,hm0,hm1,hm2,hRl,hRR,B0,bP0,bR0,hB0,hV3⟩ := pro3 hC hR0 (pdc p pb iv) 32 [.int .i64 0,.int .i64 0,.int .i64 0,.int .u16 0,.int .u16 0,.int .u16 0,.slice none 0 0,.int .i64 0,.slice none 0 0,.bool false,.int .i64 0,.int .i64 0,.int .u16 0,.int .u16 0,.int .u64 0,.int .u64 0,.int .i64 0,.int .i64 0,.int .i64 0,.bool false,.slice none 0 0,.slice none 0 0,.bool false,.int .i64 0,.bool false,.slice none 0 0] 35
 have HV3 := Lib.hid hV3
 have HW1 := Lib.hid hw
 have HWL := Lib.hid hwl
 have q0 := bP0.cell (j := 0) (v := .int .i64 3) (by rw [← hk]; rfl)
 clear hk
 clear hC hR0 hRR hV3 hw hwl
 go_enter Try.func38,Try.ntmps38
 go_upto_region 1 with fail
 generalize hX : World.alloc (World.alloc (World.alloc w _) _) _ = V at B0 bP0 bR0 hB0 HV3 q0 ⊢
 clear hX
 have q7 := bP0.cell (j := 7) (v := .int .i64 p.mt) rfl
 have m1 := B0.blk.cell (j := 1) (v := .int .i64 c.mx) rfl
 have m0 := B0.blk.cell (j := 0) (v := .int .i64 c.mt) rfl
 have z0 := B0.blk.frozen 0
 obtain ⟨MN,hMN⟩ : ∃ m : Int,min p.mt c.mx = m := ⟨_,rfl⟩
 have i1 : (if c.mx < p.mt then c.mx else p.mt) = MN := by rw [← hMN]; split <;> omega
 have i2 : (if p.mt ≤ c.mx then p.mt else c.mx) = MN := by rw [← hMN]; split <;> omega
 have i3 : (if p.mt < c.mx then p.mt else c.mx) = MN := by rw [← hMN]; split <;> omega
 have HMN := Lib.hid hMN
 clear hMN
 go_upto_region 4 with fail
 have B1 := B0.put_mt MN
 have hg1 := set1 V ⟨w.heap.size,0,none⟩ (.int .i64 MN)
 have bR1 := bR0.kept hg1 (fun e => by injection e with e; simp only at e; omega)
 have hB1 := hB0.grown hg1 hB0.size (fun k hk => by cases hk; exact Nat.le_refl _)
 generalize hW : World.setCell V _ _ = V1 at B1 bR1 hB1 ⊢
 clear hW q0 q7 m1 m0 z0 i1 i2 i3 hg1 B0 bP0 bR0 hB0
 obtain ⟨c1,hc1⟩ : ∃ c1 : Cl,{ c with mt := MN } = c1 := ⟨_,rfl⟩
 rw [hc1] at B1
 have HC1 := Lib.hid (show { c with mt := min p.mt c.mx } = c1 by rw [HMN.out]; exact hc1)
 have HWT := Lib.hid (show c1.wt = c.wt by rw [← hc1])
 clear hc1
 have hrg := B1.range
 go_wp2_with (refine wpList_load_mid rfl 35 _ rfl w.heap.size 0 rfl (k.cells c1) _ hrg Try.underlying35 rfl (by kernel_rfl) ?_)
 refine (rfinish_any c1 k R ⟨1,0,0,[],[],0⟩ (.slice none 0 0) (.slice none 0 0) now V1 B1.cr (BD.nil V1 R) (FD.nil V1 R) (fun i hi => by have := hRl i hi; have := bR1.lt; omega) (by rw [HWT.out]; exact HW1.out) (by rw [HWT.out]; exact HWL.out)).mono ?_
 rintro e w1 ⟨⟨k1,o,r1,rfl,hC1,hps,hrs1⟩,hB4⟩
 obtain ⟨x1,hx1⟩ : ∃ x1 : Sp,(sp0 c1 now).endd ⟨1,0,0,[],[],0⟩ = x1 := ⟨_,rfl⟩
 rw [hx1] at hC1 hps hrs1 ⊢
 have HX := Lib.hid hx1
 have bRx := bR1.below hB4
 have hl1 := hB1.trans (hB4.mono hB1.size)
 have hth := bRx.there 0 26 (by simp)
 have hone := hC1.one
 clear hx1 hB4
 go_wp2_with (refine wpList_store_mid rfl 35 _ _ rfl (w.heap.size + 2) 0 (k1.cells x1.c).toArray rfl rfl hth (by kernel_rfl) hone ?_; simp only [Act.put]; generalize hW : World.setCells w1 (w.heap.size + 2) 0 _ = w2; have HW := Lib.hid hW; clear hW)
 obtain ⟨hF,bR4⟩ := fin26 hC1 hps hrs1 bRx rfl hm2 hRs hl1 (by omega)
 rw [show w1.setCells (w.heap.size + 2) 0 (k1.cells x1.c) = w2 from HW.out] at hF bR4
 have hl := run_loadVar_row (P := Try.prog) _ (w.heap.size + 2) 35 35 _ (0,0) _ bR4 Try.underlying35 rfl (by kernel_rfl)
 exact bodyPost_ret (v := .tuple #[.agg (k1.cells x1.c).toArray,o,r1]) (by rw [results_cell_tmp2 rfl]; simp [asAddr,hl]) rfl ⟨by rw [HC1.out,HX.out]; exact ⟨k1,_,_,rfl,hF.1,hF.2.1,hF.2.2.1⟩,hF.2.2.2⟩
theorem ransw_17 (c : Cl) (k : Cv) (R0 : List (Option Nat)) (p : Pd) (pb iv : Value) (qs : List (Im × Value)) (now : Int) (w : World) (hC : Cr w R0 c k) (hR0 : ∀ i,some i ∈ R0 → i < w.heap.size) (hw : ∀ t ∈ c.wt,TkOk t ∧ 1 ≤ t.kd ∧ t.kd ≤ 9) (hwl : c.wt.length ≤ 1000) (hI : ItB w w.heap.size iv qs) (hne : 0 < qs.length) (hfo : c.tk.fo.length + qs.length ≤ 100000) (hla : c.tk.la < 65536) (hk : p.kd = 17) :
 Calls Try.prog 38 #[.agg (k.cells c).toArray,.agg (pdc p pb iv).toArray,.int .i64 now] w fun e w' => Out3 w' R0 e (rlisted c p.kd (qs.map (·.1)) now) ∧ Below w.heap.size w w' := by
 obtain ⟨R,hRs,hm0,hm1,hm2,hRl,hRR,B0,bP0,bR0,hB0,hV3⟩ := pro3 hC hR0 (pdc p pb iv) 32 [.int .i64 0,.int .i64 0,.int .i64 0,.int .u16 0,.int .u16 0,.int .u16 0,.slice none 0 0,.int .i64 0,.slice none 0 0,.bool false,.int .i64 0,.int .i64 0,.int .u16 0,.int .u16 0,.int .u64 0,.int .u64 0,.int .i64 0,.int .i64 0,.int .i64 0,.bool false,.slice none 0 0,.slice none 0 0,.bool false,.int .i64 0,.bool false,.slice none 0 0] 35
 have HV3 := Lib.hid hV3
 have HW1 := Lib.hid hw
 have HWL := Lib.hid hwl
 have q0 := bP0.cell (j := 0) (v := .int .i64 17) (by rw [← hk]; rfl)
 clear hk
 clear hC hR0 hRR hV3 hw hwl
 go_enter Try.func38,Try.ntmps38
 go_upto_region 1 with fail
 generalize hX : World.alloc (World.alloc (World.alloc w _) _) _ = V at B0 bP0 bR0 hB0 HV3 q0 ⊢
 clear hX
 have hrg := B0.range
 have hrp := bP0.range 0 (pdc p pb iv) (fun j v hv => by rw [Nat.zero_add]; exact hv)
 go_wp2_with (first | (refine wpList_load_mid rfl 35 _ rfl w.heap.size 0 rfl (k.cells c) _ hrg Try.underlying35 rfl (by kernel_rfl) ?_) | (refine wpList_load_mid rfl 32 _ rfl (w.heap.size + 1) 0 rfl (pdc p pb iv) _ hrp Try.underlying32 rfl (by kernel_rfl) ?_))
 refine (rlisted_any c k R p pb iv qs now V B0.cr (fun i hi => by have := hRl i hi; have := bR0.lt; omega) HW1.out HWL.out ((hI.below hB0).upB hB0.size) hne hfo hla).mono ?_
 rintro e w1 ⟨⟨k1,o,r1,rfl,hC1,hps,hrs1⟩,hB4⟩
 obtain ⟨x1,hx1⟩ : ∃ x1 : Sp,rlisted c p.kd (qs.map (·.1)) now = x1 := ⟨_,rfl⟩
 rw [hx1] at hC1 hps hrs1 ⊢
 have HX := Lib.hid hx1
 have bRx := bR0.below hB4
 have hl1 := hB0.trans (hB4.mono hB0.size)
 have hth := bRx.there 0 26 (by simp)
 have hone := hC1.one
 clear hx1 hB4
 go_wp2_with (refine wpList_store_mid rfl 35 _ _ rfl (w.heap.size + 2) 0 (k1.cells x1.c).toArray rfl rfl hth (by kernel_rfl) hone ?_; simp only [Act.put]; generalize hW : World.setCells w1 (w.heap.size + 2) 0 _ = w2; have HW := Lib.hid hW; clear hW)
 obtain ⟨hF,bR4⟩ := fin26 hC1 hps hrs1 bRx rfl hm2 hRs hl1 (by omega)
 rw [show w1.setCells (w.heap.size + 2) 0 (k1.cells x1.c) = w2 from HW.out] at hF bR4
 have hl := run_loadVar_row (P := Try.prog) _ (w.heap.size + 2) 35 35 _ (0,0) _ bR4 Try.underlying35 rfl (by kernel_rfl)
 exact bodyPost_ret (v := .tuple #[.agg (k1.cells x1.c).toArray,o,r1]) (by rw [results_cell_tmp2 rfl]; simp [asAddr,hl]) rfl ⟨by rw [HX.out]; exact ⟨k1,_,_,rfl,hF.1,hF.2.1,hF.2.2.1⟩,hF.2.2.2⟩
theorem ransw_5 (c : Cl) (k : Cv) (R0 : List (Option Nat)) (p : Pd) (pb iv : Value) (qs : List (Im × Value)) (now : Int) (w : World) (hC : Cr w R0 c k) (hR0 : ∀ i,some i ∈ R0 → i < w.heap.size) (hw : ∀ t ∈ c.wt,TkOk t ∧ 1 ≤ t.kd ∧ t.kd ≤ 9) (hwl : c.wt.length ≤ 1000) (hI : ItB w w.heap.size iv qs) (hne : 0 < qs.length) (hfo : c.tk.fo.length + qs.length ≤ 100000) (hla : c.tk.la < 65536) (hk : p.kd = 5) :
 Calls Try.prog 38 #[.agg (k.cells c).toArray,.agg (pdc p pb iv).toArray,.int .i64 now] w fun e w' => Out3 w' R0 e (rlisted c p.kd (qs.map (·.1)) now) ∧ Below w.heap.size w w' := by
 obtain ⟨R,hRs,hm0,hm1,hm2,hRl,hRR,B0,bP0,bR0,hB0,hV3⟩ := pro3 hC hR0 (pdc p pb iv) 32 [.int .i64 0,.int .i64 0,.int .i64 0,.int .u16 0,.int .u16 0,.int .u16 0,.slice none 0 0,.int .i64 0,.slice none 0 0,.bool false,.int .i64 0,.int .i64 0,.int .u16 0,.int .u16 0,.int .u64 0,.int .u64 0,.int .i64 0,.int .i64 0,.int .i64 0,.bool false,.slice none 0 0,.slice none 0 0,.bool false,.int .i64 0,.bool false,.slice none 0 0] 35
 have HV3 := Lib.hid hV3
 have HW1 := Lib.hid hw
 have HWL := Lib.hid hwl
 have q0 := bP0.cell (j := 0) (v := .int .i64 5) (by rw [← hk]; rfl)
 clear hk
 clear hC hR0 hRR hV3 hw hwl
 go_enter Try.func38,Try.ntmps38
 go_upto_region 1 with fail
 generalize hX : World.alloc (World.alloc (World.alloc w _) _) _ = V at B0 bP0 bR0 hB0 HV3 q0 ⊢
 clear hX
 have hrg := B0.range
 have hrp := bP0.range 0 (pdc p pb iv) (fun j v hv => by rw [Nat.zero_add]; exact hv)
 go_wp2_with (first | (refine wpList_load_mid rfl 35 _ rfl w.heap.size 0 rfl (k.cells c) _ hrg Try.underlying35 rfl (by kernel_rfl) ?_) | (refine wpList_load_mid rfl 32 _ rfl (w.heap.size + 1) 0 rfl (pdc p pb iv) _ hrp Try.underlying32 rfl (by kernel_rfl) ?_))
 refine (rlisted_any c k R p pb iv qs now V B0.cr (fun i hi => by have := hRl i hi; have := bR0.lt; omega) HW1.out HWL.out ((hI.below hB0).upB hB0.size) hne hfo hla).mono ?_
 rintro e w1 ⟨⟨k1,o,r1,rfl,hC1,hps,hrs1⟩,hB4⟩
 obtain ⟨x1,hx1⟩ : ∃ x1 : Sp,rlisted c p.kd (qs.map (·.1)) now = x1 := ⟨_,rfl⟩
 rw [hx1] at hC1 hps hrs1 ⊢
 have HX := Lib.hid hx1
 have bRx := bR0.below hB4
 have hl1 := hB0.trans (hB4.mono hB0.size)
 have hth := bRx.there 0 26 (by simp)
 have hone := hC1.one
 clear hx1 hB4
 go_wp2_with (refine wpList_store_mid rfl 35 _ _ rfl (w.heap.size + 2) 0 (k1.cells x1.c).toArray rfl rfl hth (by kernel_rfl) hone ?_; simp only [Act.put]; generalize hW : World.setCells w1 (w.heap.size + 2) 0 _ = w2; have HW := Lib.hid hW; clear hW)
 obtain ⟨hF,bR4⟩ := fin26 hC1 hps hrs1 bRx rfl hm2 hRs hl1 (by omega)
 rw [show w1.setCells (w.heap.size + 2) 0 (k1.cells x1.c) = w2 from HW.out] at hF bR4
 have hl := run_loadVar_row (P := Try.prog) _ (w.heap.size + 2) 35 35 _ (0,0) _ bR4 Try.underlying35 rfl (by kernel_rfl)
 exact bodyPost_ret (v := .tuple #[.agg (k1.cells x1.c).toArray,o,r1]) (by rw [results_cell_tmp2 rfl]; simp [asAddr,hl]) rfl ⟨by rw [HX.out]; exact ⟨k1,_,_,rfl,hF.1,hF.2.1,hF.2.2.1⟩,hF.2.2.2⟩
theorem ransw_9 (c : Cl) (k : Cv) (R0 : List (Option Nat)) (p : Pd) (pb iv : Value) (qs : List (Im × Value)) (now : Int) (w : World) (hC : Cr w R0 c k) (hR0 : ∀ i,some i ∈ R0 → i < w.heap.size) (hw : ∀ t ∈ c.wt,TkOk t ∧ 1 ≤ t.kd ∧ t.kd ≤ 9) (hwl : c.wt.length ≤ 1000) (hI : ItB w w.heap.size iv qs) (hne : 0 < qs.length) (hfo : c.tk.fo.length + qs.length ≤ 100000) (hla : c.tk.la < 65536) (hk : p.kd = 9) (hn : ¬ c.tk.kd = 9) :
 Calls Try.prog 38 #[.agg (k.cells c).toArray,.agg (pdc p pb iv).toArray,.int .i64 now] w fun e w' => Out3 w' R0 e (rlisted c p.kd (qs.map (·.1)) now) ∧ Below w.heap.size w w' := by
 obtain ⟨R,hRs,hm0,hm1,hm2,hRl,hRR,B0,bP0,bR0,hB0,hV3⟩ := pro3 hC hR0 (pdc p pb iv) 32 [.int .i64 0,.int .i64 0,.int .i64 0,.int .u16 0,.int .u16 0,.int .u16 0,.slice none 0 0,.int .i64 0,.slice none 0 0,.bool false,.int .i64 0,.int .i64 0,.int .u16 0,.int .u16 0,.int .u64 0,.int .u64 0,.int .i64 0,.int .i64 0,.int .i64 0,.bool false,.slice none 0 0,.slice none 0 0,.bool false,.int .i64 0,.bool false,.slice none 0 0] 35
 have HV3 := Lib.hid hV3
 have HW1 := Lib.hid hw
 have HWL := Lib.hid hwl
 have q0 := bP0.cell (j := 0) (v := .int .i64 9) (by rw [← hk]; rfl)
 clear hk
 clear hC hR0 hRR hV3 hw hwl
 go_enter Try.func38,Try.ntmps38
 go_upto_region 1 with fail
 generalize hX : World.alloc (World.alloc (World.alloc w _) _) _ = V at B0 bP0 bR0 hB0 HV3 q0 ⊢
 clear hX
 have m2 := B0.blk.cell (j := 2) (v := .int .i64 c.tk.kd) rfl
 have t9 : (c.tk.kd != 9) = true := by simp [hn]
 have hrg := B0.range
 have hrp := bP0.range 0 (pdc p pb iv) (fun j v hv => by rw [Nat.zero_add]; exact hv)
 go_wp2_with (first | (refine wpList_load_mid rfl 35 _ rfl w.heap.size 0 rfl (k.cells c) _ hrg Try.underlying35 rfl (by kernel_rfl) ?_) | (refine wpList_load_mid rfl 32 _ rfl (w.heap.size + 1) 0 rfl (pdc p pb iv) _ hrp Try.underlying32 rfl (by kernel_rfl) ?_))
 refine (rlisted_any c k R p pb iv qs now V B0.cr (fun i hi => by have := hRl i hi; have := bR0.lt; omega) HW1.out HWL.out ((hI.below hB0).upB hB0.size) hne hfo hla).mono ?_
 rintro e w1 ⟨⟨k1,o,r1,rfl,hC1,hps,hrs1⟩,hB4⟩
 obtain ⟨x1,hx1⟩ : ∃ x1 : Sp,rlisted c p.kd (qs.map (·.1)) now = x1 := ⟨_,rfl⟩
 rw [hx1] at hC1 hps hrs1 ⊢
 have HX := Lib.hid hx1
 have bRx := bR0.below hB4
 have hl1 := hB0.trans (hB4.mono hB0.size)
 have hth := bRx.there 0 26 (by simp)
 have hone := hC1.one
 clear hx1 hB4
 go_wp2_with (refine wpList_store_mid rfl 35 _ _ rfl (w.heap.size + 2) 0 (k1.cells x1.c).toArray rfl rfl hth (by kernel_rfl) hone ?_; simp only [Act.put]; generalize hW : World.setCells w1 (w.heap.size + 2) 0 _ = w2; have HW := Lib.hid hW; clear hW)
 obtain ⟨hF,bR4⟩ := fin26 hC1 hps hrs1 bRx rfl hm2 hRs hl1 (by omega)
 rw [show w1.setCells (w.heap.size + 2) 0 (k1.cells x1.c) = w2 from HW.out] at hF bR4
 have hl := run_loadVar_row (P := Try.prog) _ (w.heap.size + 2) 35 35 _ (0,0) _ bR4 Try.underlying35 rfl (by kernel_rfl)
 exact bodyPost_ret (v := .tuple #[.agg (k1.cells x1.c).toArray,o,r1]) (by rw [results_cell_tmp2 rfl]; simp [asAddr,hl]) rfl ⟨by rw [HX.out]; exact ⟨k1,_,_,rfl,hF.1,hF.2.1,hF.2.2.1⟩,hF.2.2.2⟩
theorem ransw_25_true (c : Cl) (k : Cv) (R0 : List (Option Nat)) (p : Pd) (pb iv : Value) (qs : List (Im × Value)) (now : Int) (w : World) (hC : Cr w R0 c k) (hR0 : ∀ i,some i ∈ R0 → i < w.heap.size) (hw : ∀ t ∈ c.wt,TkOk t ∧ 1 ≤ t.kd ∧ t.kd ≤ 9) (hwl : c.wt.length ≤ 1000) (hk : p.kd = 25) (hb : c.tk.bad = true) :
 Calls Try.prog 38 #[.agg (k.cells c).toArray,.agg (pdc p pb iv).toArray,.int .i64 now] w fun e w' => Out3 w' R0 e ((sp0 c now).close) ∧ Below w.heap.size w w' := by
 obtain ⟨R,hRs,hm0,hm1,hm2,hRl,hRR,B0,bP0,bR0,hB0,hV3⟩ := pro3 hC hR0 (pdc p pb iv) 32 [.int .i64 0,.int .i64 0,.int .i64 0,.int .u16 0,.int .u16 0,.int .u16 0,.slice none 0 0,.int .i64 0,.slice none 0 0,.bool false,.int .i64 0,.int .i64 0,.int .u16 0,.int .u16 0,.int .u64 0,.int .u64 0,.int .i64 0,.int .i64 0,.int .i64 0,.bool false,.slice none 0 0,.slice none 0 0,.bool false,.int .i64 0,.bool false,.slice none 0 0] 35
 have HV3 := Lib.hid hV3
 have HW1 := Lib.hid hw
 have HWL := Lib.hid hwl
 have q0 := bP0.cell (j := 0) (v := .int .i64 25) (by rw [← hk]; rfl)
 clear hk
 clear hC hR0 hRR hV3 hw hwl
 go_enter Try.func38,Try.ntmps38
 go_upto_region 1 with fail
 generalize hX : World.alloc (World.alloc (World.alloc w _) _) _ = V at B0 bP0 bR0 hB0 HV3 q0 ⊢
 clear hX
 have m9 := B0.blk.cell (j := 9) (v := .bool true) (by rw [← hb]; rfl)
 have hrg := B0.range
 clear hb
 go_wp2_with (refine wpList_load_mid rfl 35 _ rfl w.heap.size 0 rfl (k.cells c) _ hrg Try.underlying35 rfl (by kernel_rfl) ?_)
 refine (rend_any c k R [] (.slice none 0 0) now V B0.cr (rsr_nil V R) (fun i hi => by have := hRl i hi; have := bR0.lt; omega) HW1.out HWL.out).mono ?_
 rintro e w1 ⟨⟨k1,o,r1,rfl,hC1,hps,hrs1⟩,hB4⟩
 obtain ⟨x1,hx1⟩ : ∃ x1 : Sp,(⟨c,now,[],[]⟩ : Sp).close = x1 := ⟨_,rfl⟩
 rw [hx1] at hC1 hps hrs1 ⊢
 have HX := Lib.hid hx1
 have bRx := bR0.below hB4
 have hl1 := hB0.trans (hB4.mono hB0.size)
 have hth := bRx.there 0 26 (by simp)
 have hone := hC1.one
 clear hx1 hB4
 go_wp2_with (refine wpList_store_mid rfl 35 _ _ rfl (w.heap.size + 2) 0 (k1.cells x1.c).toArray rfl rfl hth (by kernel_rfl) hone ?_; simp only [Act.put]; generalize hW : World.setCells w1 (w.heap.size + 2) 0 _ = w2; have HW := Lib.hid hW; clear hW)
 obtain ⟨hF,bR4⟩ := fin26 hC1 hps hrs1 bRx rfl hm2 hRs hl1 (by omega)
 rw [show w1.setCells (w.heap.size + 2) 0 (k1.cells x1.c) = w2 from HW.out] at hF bR4
 have hl := run_loadVar_row (P := Try.prog) _ (w.heap.size + 2) 35 35 _ (0,0) _ bR4 Try.underlying35 rfl (by kernel_rfl)
 exact bodyPost_ret (v := .tuple #[.agg (k1.cells x1.c).toArray,o,r1]) (by rw [results_cell_tmp2 rfl]; simp [asAddr,hl]) rfl ⟨by rw [show (sp0 c now).close = _ from HX.out]; exact ⟨k1,_,_,rfl,hF.1,hF.2.1,hF.2.2.1⟩,hF.2.2.2⟩
theorem ransw_25_false (c : Cl) (k : Cv) (R0 : List (Option Nat)) (p : Pd) (pb iv : Value) (qs : List (Im × Value)) (now : Int) (w : World) (hC : Cr w R0 c k) (hR0 : ∀ i,some i ∈ R0 → i < w.heap.size) (hw : ∀ t ∈ c.wt,TkOk t ∧ 1 ≤ t.kd ∧ t.kd ≤ 9) (hwl : c.wt.length ≤ 1000) (hk : p.kd = 25) (hb : c.tk.bad = false) :
 Calls Try.prog 38 #[.agg (k.cells c).toArray,.agg (pdc p pb iv).toArray,.int .i64 now] w fun e w' => Out3 w' R0 e ((sp0 c now).endd ⟨4,0,0,[],[],0⟩) ∧ Below w.heap.size w w' := by
 obtain ⟨R,hRs,hm0,hm1,hm2,hRl,hRR,B0,bP0,bR0,hB0,hV3⟩ := pro3 hC hR0 (pdc p pb iv) 32 [.int .i64 0,.int .i64 0,.int .i64 0,.int .u16 0,.int .u16 0,.int .u16 0,.slice none 0 0,.int .i64 0,.slice none 0 0,.bool false,.int .i64 0,.int .i64 0,.int .u16 0,.int .u16 0,.int .u64 0,.int .u64 0,.int .i64 0,.int .i64 0,.int .i64 0,.bool false,.slice none 0 0,.slice none 0 0,.bool false,.int .i64 0,.bool false,.slice none 0 0] 35
 have HV3 := Lib.hid hV3
 have HW1 := Lib.hid hw
 have HWL := Lib.hid hwl
 have q0 := bP0.cell (j := 0) (v := .int .i64 25) (by rw [← hk]; rfl)
 clear hk
 clear hC hR0 hRR hV3 hw hwl
 go_enter Try.func38,Try.ntmps38
 go_upto_region 1 with fail
 generalize hX : World.alloc (World.alloc (World.alloc w _) _) _ = V at B0 bP0 bR0 hB0 HV3 q0 ⊢
 clear hX
 have m9 := B0.blk.cell (j := 9) (v := .bool false) (by rw [← hb]; rfl)
 have hrg := B0.range
 clear hb
 go_wp2_with (refine wpList_load_mid rfl 35 _ rfl w.heap.size 0 rfl (k.cells c) _ hrg Try.underlying35 rfl (by kernel_rfl) ?_)
 refine (rfinish_any c k R ⟨4,0,0,[],[],0⟩ (.slice none 0 0) (.slice none 0 0) now V B0.cr (BD.nil V R) (FD.nil V R) (fun i hi => by have := hRl i hi; have := bR0.lt; omega) HW1.out HWL.out).mono ?_
 rintro e w1 ⟨⟨k1,o,r1,rfl,hC1,hps,hrs1⟩,hB4⟩
 obtain ⟨x1,hx1⟩ : ∃ x1 : Sp,(sp0 c now).endd ⟨4,0,0,[],[],0⟩ = x1 := ⟨_,rfl⟩
 rw [hx1] at hC1 hps hrs1 ⊢
 have HX := Lib.hid hx1
 have bRx := bR0.below hB4
 have hl1 := hB0.trans (hB4.mono hB0.size)
 have hth := bRx.there 0 26 (by simp)
 have hone := hC1.one
 clear hx1 hB4
 go_wp2_with (refine wpList_store_mid rfl 35 _ _ rfl (w.heap.size + 2) 0 (k1.cells x1.c).toArray rfl rfl hth (by kernel_rfl) hone ?_; simp only [Act.put]; generalize hW : World.setCells w1 (w.heap.size + 2) 0 _ = w2; have HW := Lib.hid hW; clear hW)
 obtain ⟨hF,bR4⟩ := fin26 hC1 hps hrs1 bRx rfl hm2 hRs hl1 (by omega)
 rw [show w1.setCells (w.heap.size + 2) 0 (k1.cells x1.c) = w2 from HW.out] at hF bR4
 have hl := run_loadVar_row (P := Try.prog) _ (w.heap.size + 2) 35 35 _ (0,0) _ bR4 Try.underlying35 rfl (by kernel_rfl)
 exact bodyPost_ret (v := .tuple #[.agg (k1.cells x1.c).toArray,o,r1]) (by rw [results_cell_tmp2 rfl]; simp [asAddr,hl]) rfl ⟨by rw [show (sp0 c now).endd ⟨4,0,0,[],[],0⟩ = _ from HX.out]; exact ⟨k1,_,_,rfl,hF.1,hF.2.1,hF.2.2.1⟩,hF.2.2.2⟩
theorem ransw_19_true (c : Cl) (k : Cv) (R0 : List (Option Nat)) (p : Pd) (pb iv : Value) (qs : List (Im × Value)) (now : Int) (w : World) (hC : Cr w R0 c k) (hR0 : ∀ i,some i ∈ R0 → i < w.heap.size) (hw : ∀ t ∈ c.wt,TkOk t ∧ 1 ≤ t.kd ∧ t.kd ≤ 9) (hwl : c.wt.length ≤ 1000) (hk : p.kd = 19) (hb : c.tk.bad = true) :
 Calls Try.prog 38 #[.agg (k.cells c).toArray,.agg (pdc p pb iv).toArray,.int .i64 now] w fun e w' => Out3 w' R0 e ((sp0 c now).close) ∧ Below w.heap.size w w' := by
 obtain ⟨R,hRs,hm0,hm1,hm2,hRl,hRR,B0,bP0,bR0,hB0,hV3⟩ := pro3 hC hR0 (pdc p pb iv) 32 [.int .i64 0,.int .i64 0,.int .i64 0,.int .u16 0,.int .u16 0,.int .u16 0,.slice none 0 0,.int .i64 0,.slice none 0 0,.bool false,.int .i64 0,.int .i64 0,.int .u16 0,.int .u16 0,.int .u64 0,.int .u64 0,.int .i64 0,.int .i64 0,.int .i64 0,.bool false,.slice none 0 0,.slice none 0 0,.bool false,.int .i64 0,.bool false,.slice none 0 0] 35
 have HV3 := Lib.hid hV3
 have HW1 := Lib.hid hw
 have HWL := Lib.hid hwl
 have q0 := bP0.cell (j := 0) (v := .int .i64 19) (by rw [← hk]; rfl)
 clear hk
 clear hC hR0 hRR hV3 hw hwl
 go_enter Try.func38,Try.ntmps38
 go_upto_region 1 with fail
 generalize hX : World.alloc (World.alloc (World.alloc w _) _) _ = V at B0 bP0 bR0 hB0 HV3 q0 ⊢
 clear hX
 have m9 := B0.blk.cell (j := 9) (v := .bool true) (by rw [← hb]; rfl)
 have hrg := B0.range
 clear hb
 go_wp2_with (refine wpList_load_mid rfl 35 _ rfl w.heap.size 0 rfl (k.cells c) _ hrg Try.underlying35 rfl (by kernel_rfl) ?_)
 refine (rend_any c k R [] (.slice none 0 0) now V B0.cr (rsr_nil V R) (fun i hi => by have := hRl i hi; have := bR0.lt; omega) HW1.out HWL.out).mono ?_
 rintro e w1 ⟨⟨k1,o,r1,rfl,hC1,hps,hrs1⟩,hB4⟩
 obtain ⟨x1,hx1⟩ : ∃ x1 : Sp,(⟨c,now,[],[]⟩ : Sp).close = x1 := ⟨_,rfl⟩
 rw [hx1] at hC1 hps hrs1 ⊢
 have HX := Lib.hid hx1
 have bRx := bR0.below hB4
 have hl1 := hB0.trans (hB4.mono hB0.size)
 have hth := bRx.there 0 26 (by simp)
 have hone := hC1.one
 clear hx1 hB4
 go_wp2_with (refine wpList_store_mid rfl 35 _ _ rfl (w.heap.size + 2) 0 (k1.cells x1.c).toArray rfl rfl hth (by kernel_rfl) hone ?_; simp only [Act.put]; generalize hW : World.setCells w1 (w.heap.size + 2) 0 _ = w2; have HW := Lib.hid hW; clear hW)
 obtain ⟨hF,bR4⟩ := fin26 hC1 hps hrs1 bRx rfl hm2 hRs hl1 (by omega)
 rw [show w1.setCells (w.heap.size + 2) 0 (k1.cells x1.c) = w2 from HW.out] at hF bR4
 have hl := run_loadVar_row (P := Try.prog) _ (w.heap.size + 2) 35 35 _ (0,0) _ bR4 Try.underlying35 rfl (by kernel_rfl)
 exact bodyPost_ret (v := .tuple #[.agg (k1.cells x1.c).toArray,o,r1]) (by rw [results_cell_tmp2 rfl]; simp [asAddr,hl]) rfl ⟨by rw [show (sp0 c now).close = _ from HX.out]; exact ⟨k1,_,_,rfl,hF.1,hF.2.1,hF.2.2.1⟩,hF.2.2.2⟩
theorem ransw_19_false (c : Cl) (k : Cv) (R0 : List (Option Nat)) (p : Pd) (pb iv : Value) (qs : List (Im × Value)) (now : Int) (w : World) (hC : Cr w R0 c k) (hR0 : ∀ i,some i ∈ R0 → i < w.heap.size) (hw : ∀ t ∈ c.wt,TkOk t ∧ 1 ≤ t.kd ∧ t.kd ≤ 9) (hwl : c.wt.length ≤ 1000) (hk : p.kd = 19) (hb : c.tk.bad = false) :
 Calls Try.prog 38 #[.agg (k.cells c).toArray,.agg (pdc p pb iv).toArray,.int .i64 now] w fun e w' => Out3 w' R0 e ((sp0 c now).endd ⟨4,0,0,[],[],0⟩) ∧ Below w.heap.size w w' := by
 obtain ⟨R,hRs,hm0,hm1,hm2,hRl,hRR,B0,bP0,bR0,hB0,hV3⟩ := pro3 hC hR0 (pdc p pb iv) 32 [.int .i64 0,.int .i64 0,.int .i64 0,.int .u16 0,.int .u16 0,.int .u16 0,.slice none 0 0,.int .i64 0,.slice none 0 0,.bool false,.int .i64 0,.int .i64 0,.int .u16 0,.int .u16 0,.int .u64 0,.int .u64 0,.int .i64 0,.int .i64 0,.int .i64 0,.bool false,.slice none 0 0,.slice none 0 0,.bool false,.int .i64 0,.bool false,.slice none 0 0] 35
 have HV3 := Lib.hid hV3
 have HW1 := Lib.hid hw
 have HWL := Lib.hid hwl
 have q0 := bP0.cell (j := 0) (v := .int .i64 19) (by rw [← hk]; rfl)
 clear hk
 clear hC hR0 hRR hV3 hw hwl
 go_enter Try.func38,Try.ntmps38
 go_upto_region 1 with fail
 generalize hX : World.alloc (World.alloc (World.alloc w _) _) _ = V at B0 bP0 bR0 hB0 HV3 q0 ⊢
 clear hX
 have m9 := B0.blk.cell (j := 9) (v := .bool false) (by rw [← hb]; rfl)
 have hrg := B0.range
 clear hb
 go_wp2_with (refine wpList_load_mid rfl 35 _ rfl w.heap.size 0 rfl (k.cells c) _ hrg Try.underlying35 rfl (by kernel_rfl) ?_)
 refine (rfinish_any c k R ⟨4,0,0,[],[],0⟩ (.slice none 0 0) (.slice none 0 0) now V B0.cr (BD.nil V R) (FD.nil V R) (fun i hi => by have := hRl i hi; have := bR0.lt; omega) HW1.out HWL.out).mono ?_
 rintro e w1 ⟨⟨k1,o,r1,rfl,hC1,hps,hrs1⟩,hB4⟩
 obtain ⟨x1,hx1⟩ : ∃ x1 : Sp,(sp0 c now).endd ⟨4,0,0,[],[],0⟩ = x1 := ⟨_,rfl⟩
 rw [hx1] at hC1 hps hrs1 ⊢
 have HX := Lib.hid hx1
 have bRx := bR0.below hB4
 have hl1 := hB0.trans (hB4.mono hB0.size)
 have hth := bRx.there 0 26 (by simp)
 have hone := hC1.one
 clear hx1 hB4
 go_wp2_with (refine wpList_store_mid rfl 35 _ _ rfl (w.heap.size + 2) 0 (k1.cells x1.c).toArray rfl rfl hth (by kernel_rfl) hone ?_; simp only [Act.put]; generalize hW : World.setCells w1 (w.heap.size + 2) 0 _ = w2; have HW := Lib.hid hW; clear hW)
 obtain ⟨hF,bR4⟩ := fin26 hC1 hps hrs1 bRx rfl hm2 hRs hl1 (by omega)
 rw [show w1.setCells (w.heap.size + 2) 0 (k1.cells x1.c) = w2 from HW.out] at hF bR4
 have hl := run_loadVar_row (P := Try.prog) _ (w.heap.size + 2) 35 35 _ (0,0) _ bR4 Try.underlying35 rfl (by kernel_rfl)
 exact bodyPost_ret (v := .tuple #[.agg (k1.cells x1.c).toArray,o,r1]) (by rw [results_cell_tmp2 rfl]; simp [asAddr,hl]) rfl ⟨by rw [show (sp0 c now).endd ⟨4,0,0,[],[],0⟩ = _ from HX.out]; exact ⟨k1,_,_,rfl,hF.1,hF.2.1,hF.2.2.1⟩,hF.2.2.2⟩
theorem ransw_hash_no (c : Cl) (k : Cv) (R0 : List (Option Nat)) (p : Pd) (pb iv : Value) (qs : List (Im × Value)) (now : Int) (w : World) (hC : Cr w R0 c k) (hR0 : ∀ i,some i ∈ R0 → i < w.heap.size) (hw : ∀ t ∈ c.wt,TkOk t ∧ 1 ≤ t.kd ∧ t.kd ≤ 9) (hwl : c.wt.length ≤ 1000) (hI : ItB w w.heap.size iv qs) (hk : p.kd = 9) (hn : c.tk.kd = 9) (q : Im × Value) (qt : List (Im × Value)) (hqs : qs = q :: qt) (h8 : ¬ q.1.bs.length = 8) :
 Calls Try.prog 38 #[.agg (k.cells c).toArray,.agg (pdc p pb iv).toArray,.int .i64 now] w fun e w' => Out3 w' R0 e ((sp0 c now).fail 4) ∧ Below w.heap.size w w' := by
 obtain ⟨i0,hi0,hi1,hi2,hi3⟩ := info_parts Try.info_u8
 have hq : qs[0]? = some q := by rw [hqs]; rfl
 obtain ⟨N,hN⟩ : ∃ L,qs.length = L := ⟨_,rfl⟩
 have hN1 : 0 < N := by rw [← hN,hqs]; simp
 obtain ⟨b,off,ic,rfl,hcl⟩ : ∃ b off ic,iv = .slice (some ⟨b,off,none⟩) N ic ∧ ∀ j u,(ienc q)[j]? = some u → w.cell? ⟨b,off + (0 * 5 + j),none⟩ = some u := by
  obtain ⟨b,off,cap,e,_,hc⟩ := hI.cells hq
  exact ⟨b,off,cap,by rw [e,hN],hc⟩
 have hbv := (hI.bv q (List.mem_of_getElem? hq)).1
 obtain ⟨qa,qc,eq⟩ := hbv.form
 obtain ⟨L,hL⟩ : ∃ L,q.1.bs.length = L := ⟨_,rfl⟩
 rw [hL] at eq h8
 rw [eq] at hbv
 have x0 := hcl 0 (.int .u16 q.1.ha) rfl
 have x4 := hcl 4 (.slice qa L qc) (by rw [← eq]; rfl)
 simp only [Nat.zero_mul,Nat.zero_add,Nat.add_zero] at x0 x4
 have t1 : ((L : Int) != 8) = true := by simp; omega
 have t2 : (L != 8) = true := by simp; omega
 have t3 : decide (L = 8) = false := by simpa using h8
 have n1 : (0 : Int) < (N : Int) := by omega
 obtain ⟨R,hRs,hm0,hm1,hm2,hRl,hRR,B0,bP0,bR0,hB0,hV3⟩ := pro3 hC hR0 (pdc p pb (.slice (some ⟨b,off,none⟩) N ic)) 32 [.int .i64 0,.int .i64 0,.int .i64 0,.int .u16 0,.int .u16 0,.int .u16 0,.slice none 0 0,.int .i64 0,.slice none 0 0,.bool false,.int .i64 0,.int .i64 0,.int .u16 0,.int .u16 0,.int .u64 0,.int .u64 0,.int .i64 0,.int .i64 0,.int .i64 0,.bool false,.slice none 0 0,.slice none 0 0,.bool false,.int .i64 0,.bool false,.slice none 0 0] 35
 have HV3 := Lib.hid hV3
 have HW1 := Lib.hid hw
 have HWL := Lib.hid hwl
 have q0 := bP0.cell (j := 0) (v := .int .i64 9) (by rw [← hk]; rfl)
 have q11 := bP0.cell (j := 11) (v := .slice (some ⟨b,off,none⟩) N ic) rfl
 have x0' := x0
 have x0 := kc x0 hB0
 have x4 := kc x4 hB0
 have HBV := Lib.hid (hbv.below hB0)
 have m2 := B0.blk.cell (j := 2) (v := .int .i64 9) (by rw [← hn]; rfl)
 have HL := Lib.hid hL
 have HL8 := Lib.hid h8
 have HBW := Lib.hid (World.block_lt_of_cell? w _ x0')
 clear x0' hk hcl hbv eq hq hqs hN hI h8 hn hL
 clear hC hR0 hRR hV3 hw hwl
 go_enter Try.func38,Try.ntmps38
 go_upto_region 1 with fail
 generalize hX : World.alloc (World.alloc (World.alloc w _) _) _ = V at B0 bP0 bR0 hB0 HV3 q0 q11 x0 x4 HBV m2 ⊢
 clear hX
 have hrg := B0.range
 go_wp2_with (refine wpList_load_mid rfl 35 _ rfl w.heap.size 0 rfl (k.cells c) _ hrg Try.underlying35 rfl (by kernel_rfl) ?_)
 refine (rfail_any c k R 4 now V B0.cr (fun i hi => by have := hRl i hi; have := bR0.lt; omega) HW1.out HWL.out).mono ?_
 rintro e w1 ⟨⟨k1,o,r1,rfl,hC1,hps,hrs1⟩,hB4⟩
 obtain ⟨x1,hx1⟩ : ∃ x1 : Sp,(sp0 c now).fail 4 = x1 := ⟨_,rfl⟩
 rw [hx1] at hC1 hps hrs1 ⊢
 have HX := Lib.hid hx1
 have bRx := bR0.below hB4
 have hl1 := hB0.trans (hB4.mono hB0.size)
 have hth := bRx.there 0 26 (by simp)
 have hone := hC1.one
 clear hx1 hB4
 go_wp2_with (refine wpList_store_mid rfl 35 _ _ rfl (w.heap.size + 2) 0 (k1.cells x1.c).toArray rfl rfl hth (by kernel_rfl) hone ?_; simp only [Act.put]; generalize hW : World.setCells w1 (w.heap.size + 2) 0 _ = w2; have HW := Lib.hid hW; clear hW)
 obtain ⟨hF,bR4⟩ := fin26 hC1 hps hrs1 bRx rfl hm2 hRs hl1 (by omega)
 rw [show w1.setCells (w.heap.size + 2) 0 (k1.cells x1.c) = w2 from HW.out] at hF bR4
 have hl := run_loadVar_row (P := Try.prog) _ (w.heap.size + 2) 35 35 _ (0,0) _ bR4 Try.underlying35 rfl (by kernel_rfl)
 exact bodyPost_ret (v := .tuple #[.agg (k1.cells x1.c).toArray,o,r1]) (by rw [results_cell_tmp2 rfl]; simp [asAddr,hl]) rfl ⟨by rw [HX.out]; exact ⟨k1,_,_,rfl,hF.1,hF.2.1,hF.2.2.1⟩,hF.2.2.2⟩
theorem ransw_hash_ok (c : Cl) (k : Cv) (R0 : List (Option Nat)) (p : Pd) (pb iv : Value) (qs : List (Im × Value)) (now : Int) (w : World) (hC : Cr w R0 c k) (hR0 : ∀ i,some i ∈ R0 → i < w.heap.size) (hw : ∀ t ∈ c.wt,TkOk t ∧ 1 ≤ t.kd ∧ t.kd ≤ 9) (hwl : c.wt.length ≤ 1000) (hI : ItB w w.heap.size iv qs) (hk : p.kd = 9) (hn : c.tk.kd = 9) (q : Im × Value) (qt : List (Im × Value)) (hqs : qs = q :: qt) (h8 : q.1.bs.length = 8) :
 Calls Try.prog 38 #[.agg (k.cells c).toArray,.agg (pdc p pb iv).toArray,.int .i64 now] w fun e w' => Out3 w' R0 e ((sp0 c now).endd ⟨3,0,q.1.ha,q.1.bs,[],0⟩) ∧ Below w.heap.size w w' := by
 obtain ⟨i0,hi0,hi1,hi2,hi3⟩ := info_parts Try.info_u8
 have hq : qs[0]? = some q := by rw [hqs]; rfl
 obtain ⟨N,hN⟩ : ∃ L,qs.length = L := ⟨_,rfl⟩
 have hN1 : 0 < N := by rw [← hN,hqs]; simp
 obtain ⟨b,off,ic,rfl,hcl⟩ : ∃ b off ic,iv = .slice (some ⟨b,off,none⟩) N ic ∧ ∀ j u,(ienc q)[j]? = some u → w.cell? ⟨b,off + (0 * 5 + j),none⟩ = some u := by
  obtain ⟨b,off,cap,e,_,hc⟩ := hI.cells hq
  exact ⟨b,off,cap,by rw [e,hN],hc⟩
 have hbv := (hI.bv q (List.mem_of_getElem? hq)).1
 obtain ⟨qa,qc,eq⟩ := hbv.form
 obtain ⟨L,hL⟩ : ∃ L,q.1.bs.length = L := ⟨_,rfl⟩
 rw [hL] at eq h8
 rw [eq] at hbv
 have x0 := hcl 0 (.int .u16 q.1.ha) rfl
 have x4 := hcl 4 (.slice qa L qc) (by rw [← eq]; rfl)
 simp only [Nat.zero_mul,Nat.zero_add,Nat.add_zero] at x0 x4
 have t1 : ((L : Int) != 8) = false := by simp; omega
 have t2 : (L != 8) = false := by simp; omega
 have t3 : decide (L = 8) = true := by simpa using h8
 have n1 : (0 : Int) < (N : Int) := by omega
 obtain ⟨R,hRs,hm0,hm1,hm2,hRl,hRR,B0,bP0,bR0,hB0,hV3⟩ := pro3 hC hR0 (pdc p pb (.slice (some ⟨b,off,none⟩) N ic)) 32 [.int .i64 0,.int .i64 0,.int .i64 0,.int .u16 0,.int .u16 0,.int .u16 0,.slice none 0 0,.int .i64 0,.slice none 0 0,.bool false,.int .i64 0,.int .i64 0,.int .u16 0,.int .u16 0,.int .u64 0,.int .u64 0,.int .i64 0,.int .i64 0,.int .i64 0,.bool false,.slice none 0 0,.slice none 0 0,.bool false,.int .i64 0,.bool false,.slice none 0 0] 35
 have HV3 := Lib.hid hV3
 have HW1 := Lib.hid hw
 have HWL := Lib.hid hwl
 have q0 := bP0.cell (j := 0) (v := .int .i64 9) (by rw [← hk]; rfl)
 have q11 := bP0.cell (j := 11) (v := .slice (some ⟨b,off,none⟩) N ic) rfl
 have x0' := x0
 have x0 := kc x0 hB0
 have x4 := kc x4 hB0
 have HBV := Lib.hid (hbv.below hB0)
 have m2 := B0.blk.cell (j := 2) (v := .int .i64 9) (by rw [← hn]; rfl)
 have HL := Lib.hid hL
 have HL8 := Lib.hid h8
 have HBW := Lib.hid (World.block_lt_of_cell? w _ x0')
 clear x0' hk hcl hbv eq hq hqs hN hI h8 hn hL
 clear hC hR0 hRR hV3 hw hwl
 go_enter Try.func38,Try.ntmps38
 go_upto_region 1 with fail
 generalize hX : World.alloc (World.alloc (World.alloc w _) _) _ = V at B0 bP0 bR0 hB0 HV3 q0 q11 x0 x4 HBV m2 ⊢
 clear hX
 go_upto_region 13 with fail
 have B1 := B0.drew
 have bR1 := bR0.drew
 have hB1 := hB0.drew
 have q11 := kc q11 (Below.refl _ V).drew
 have x0 := kc x0 (Below.refl _ V).drew
 have x4 := kc x4 (Below.refl _ V).drew
 have hv1 := HBV.out.below (Below.refl _ V).drew
 clear t1 t2 t3 B0 bR0 hB0 q0 m2 bP0
 refine wp_region_held_drew (S := (fun W' : World => W'.rangeAt w.heap.size 0 (k.cells c) ∧ Cells W' [(w.heap.size + 1,11,.slice (some ⟨b,off,none⟩) N ic),(b,off,.int .u16 q.1.ha),(b,off + 4,.slice qa L qc)])) (by kernel_rfl) (⟨B1.range,q11,x0,x4,trivial⟩) (fun hHeld => ?_)
 generalize World.drew _ = wd at hHeld B1 bR1 hB1 q11 x0 x4 hv1 ⊢
 refine tkN 0 35 w.heap.size 0 (k.cells c) (fun _ h => h.1) Try.underlying35 ?_
 refine tkU 1 ?_
 refine tkU 2 ?_
 refine tkU 3 ?_
 refine tkU 4 ?_
 refine tkU 5 ?_
 refine tkU 6 ?_
 refine tkU 8 ?_
 refine tkU 9 ?_
 refine tkU 10 ?_
 refine tkU 11 ?_
 refine tkU 12 ?_
 refine rd1 7 fun K hK => ?_
 go_simp
 generalize hX : World.alloc _ (.cells _ 5) = w3
 obtain ⟨_,hB3a,hz3⟩ := alloc_named hX
 have hgn : w.heap.size + 3 ≤ wd.heap.size := bR1.lt
 have hgn3 : w.heap.size + 3 ≤ w3.heap.size := by omega
 have B3 := B1.below hB3a
 have bR3 := bR1.below hB3a
 have hB3 := hB1.trans (hB3a.mono hB1.size)
 have q11 := kc q11 hB3a
 have x0 := kc x0 hB3a
 have x4 := kc x4 hB3a
 have hv3 := hv1.below hB3a
 have hsr := hv3.sr
 rw [HL.out] at hsr
 have hL8 : L ≤ 1000000 := by have := HL8.out; omega
 clear hX hB3a B1 bR1 hB1 hv1 hz3
 clear hHeld
 refine hK.out _ _ (⟨B3.range,q11,x0,x4,trivial⟩) (fun hHeld => ?_)
 clear hK K
 try simp only [Act.put,List.setIfInBounds_toArray,List.set_cons_zero,List.set_cons_succ]
 refine rd1 13 fun K hK => ?_
 refine step_app0 (by rfl) _ _ 23 (by rfl) 5 i0 _ 1 1 Try.underlying23 hi0 hi1 hi2 hi3 rfl (by decide) _ (by rfl) (.slice qa L qc) L (bcells q.1.bs) (by rfl) hsr (by omega) ?_
 intro b4 c4 w4 hsr4 hc4 hB4 ho4
 have hpv : BD w4 R (.slice b4 L c4) q.1.bs := bd_new hsr4 HL.out hc4 hL8 (BV.at hv3).2.2 ho4 (fun hm => by have := hRl _ hm; omega) (fun hm => by have := hRl _ hm; omega)
 have B4 := B3.below hB4
 have bR4 := bR3.below hB4
 have hB4' := hB3.trans (hB4.mono hB3.size)
 have q11 := kc q11 hB4
 have x0 := kc x0 hB4
 have x4 := kc x4 hB4
 clear hsr4 hc4 hB4 ho4 hsr hv3 B3 bR3 hB3
 clear hHeld
 refine hK.out _ _ (⟨B4.range,q11,x0,x4,trivial⟩) (fun hHeld => ?_)
 clear hK K
 try simp only [Act.put,List.setIfInBounds_toArray,List.set_cons_zero,List.set_cons_succ]
 refine tkU 14 ?_
 refine rd1 15 fun K hK => ?_
 go_simp
 go_at_call 81
 refine (rfinish_any c k R ⟨3,0,q.1.ha,q.1.bs,[],0⟩ (.slice b4 L c4) (.slice none 0 0) now _ B4.cr hpv (FD.nil _ R) (fun i hi => by have := hRl i hi; have := bR4.lt; omega) HW1.out HWL.out).mono ?_
 rintro e w5 ⟨⟨k1,o,r1,rfl,hC1,hps,hrs1⟩,hB5⟩
 obtain ⟨x1,hx1⟩ : ∃ x1 : Sp,(sp0 c now).endd ⟨3,0,q.1.ha,q.1.bs,[],0⟩ = x1 := ⟨_,rfl⟩
 rw [hx1] at hC1 hps hrs1 ⊢
 have HX := Lib.hid hx1
 have B5 := B4.below hB5
 have bRx := bR4.below hB5
 have hl1 := hB4'.trans (hB5.mono hB4'.size)
 have q11 := kc q11 hB5
 have x0 := kc x0 hB5
 have x4 := kc x4 hB5
 have hone := hC1.one
 clear hx1 hB5 B4 bR4 hB4' hpv
 clear hHeld
 refine hK.out _ _ (⟨B5.range,q11,x0,x4,trivial⟩) (fun hHeld => ?_)
 clear hK K
 try simp only [Act.put,List.setIfInBounds_toArray,List.set_cons_zero,List.set_cons_succ]
 refine tkU 16 ?_
 refine tkU 17 ?_
 refine tkU 18 ?_
 refine rd1 19 fun K hK => ?_
 refine step_store_mid (by rfl) 35 _ _ (by rfl) (w.heap.size + 2) 0 (k1.cells x1.c).toArray (by rfl) (by rfl) (bRx.there 0 26 (by simp)) (by kernel_rfl) hone ?_
 obtain ⟨hF,bR6⟩ := fin26 hC1 hps hrs1 bRx rfl hm2 hRs hl1 (by omega)
 have hg9 := setCells_grown (w.heap.size + 2) (k1.cells x1.c) 0 w5
 have B6 := B5.other hg9 (by omega) hm2
 have hbw : b < w.heap.size := HBW.out
 have hBw : Below (w.heap.size + 1 + 1) w5 (w5.setCells (w.heap.size + 2) 0 (k1.cells x1.c)) := (Below.refl _ _).grown hg9 (by have := bRx.lt; omega) (fun k hk => by cases hk; omega)
 have q11 := (hBw.cell (p := ⟨w.heap.size + 1,11,none⟩) (by simp)).trans q11
 have x0 := (hBw.cell (p := ⟨b,off,none⟩) (by simp only; omega)).trans x0
 have x4 := (hBw.cell (p := ⟨b,off + 4,none⟩) (by simp only; omega)).trans x4
 generalize hX : World.setCells _ (w.heap.size + 2) 0 _ = w9
 have e1 : w5.setCells (w.heap.size + 2) 0 (k1.cells x1.c) = w9 := hX
 rw [e1] at hF bR6 B6 q11 x0 x4
 clear hX e1 hg9 hBw
 clear hHeld
 refine hK.out _ _ (⟨B6.range,q11,x0,x4,trivial⟩) (fun hHeld => ?_)
 clear hK K
 try simp only [Act.put,List.setIfInBounds_toArray,List.set_cons_zero,List.set_cons_succ]
 refine tkU 20 ?_
 refine tkU 21 ?_
 refine wpAnyH_done (by kernel_rfl) ?_ _
 go_wp2_with fail
 have hl := run_loadVar_row (P := Try.prog) _ (w.heap.size + 2) 35 35 _ (0,0) _ bR6 Try.underlying35 rfl (by kernel_rfl)
 exact bodyPost_ret (v := .tuple #[.agg (k1.cells x1.c).toArray,o,r1]) (by rw [results_cell_tmp2 rfl]; simp [asAddr,hl]) rfl ⟨by rw [HX.out]; exact ⟨k1,_,_,rfl,hF.1,hF.2.1,hF.2.2.1⟩,hF.2.2.2⟩
theorem ransw_rd (c : Cl) (k : Cv) (R0 : List (Option Nat)) (p : Pd) (pb iv : Value) (qs : List (Im × Value)) (now : Int) (w : World) (hC : Cr w R0 c k) (hR0 : ∀ i,some i ∈ R0 → i < w.heap.size) (hw : ∀ t ∈ c.wt,TkOk t ∧ 1 ≤ t.kd ∧ t.kd ≤ 9) (hwl : c.wt.length ≤ 1000) (hb : BV w pb p.vs) (hbs : p.vs.length ≤ 1000000) (hvs : c.tk.vs.length ≤ 1000000) (hk : p.kd = 11 ∨ p.kd = 13) :
 Calls Try.prog 38 #[.agg (k.cells c).toArray,.agg (pdc p pb iv).toArray,.int .i64 now] w fun e w' => Out3 w' R0 e ((sp0 c now).read p.vs) ∧ Below w.heap.size w w' := by
 obtain ⟨i0,hi0,hi1,hi2,hi3⟩ := info_parts Try.info_u8
 obtain ⟨pa,pc,rfl⟩ := hb.form
 obtain ⟨PK,hK⟩ : ∃ L,p.vs.length = L := ⟨_,rfl⟩
 obtain ⟨L,hL⟩ : ∃ L,c.tk.vs.length = L := ⟨_,rfl⟩
 rw [hK] at hb hbs ⊢
 rw [hL] at hvs
 obtain ⟨R,hRs,hm0,hm1,hm2,hRl,hRR,B0,bP0,bR0,hB0,hV3⟩ := pro3 hC hR0 (pdc p (.slice pa PK pc) iv) 32 [.int .i64 0,.int .i64 0,.int .i64 0,.int .u16 0,.int .u16 0,.int .u16 0,.slice none 0 0,.int .i64 0,.slice none 0 0,.bool false,.int .i64 0,.int .i64 0,.int .u16 0,.int .u16 0,.int .u64 0,.int .u64 0,.int .i64 0,.int .i64 0,.int .i64 0,.bool false,.slice none 0 0,.slice none 0 0,.bool false,.int .i64 0,.bool false,.slice none 0 0] 35
 have HV3 := Lib.hid hV3
 have HW1 := Lib.hid hw
 have HWL := Lib.hid hwl
 have q0 := bP0.cell (j := 0) (v := .int .i64 p.kd) rfl
 have q10 := bP0.cell (j := 10) (v := .slice pa PK pc) rfl
 have HBV := Lib.hid (hb.below hB0)
 have HK := Lib.hid hK
 have HL := Lib.hid hL
 clear hb hK
 rcases hk with hk | hk
 all_goals
  rw [hk] at q0
  clear hk
  clear hC hR0 hRR hV3 hw hwl
  go_enter Try.func38,Try.ntmps38
  go_upto_region 1 with fail
  generalize hX : World.alloc (World.alloc (World.alloc w _) _) _ = V at B0 bP0 bR0 hB0 HV3 q0 HBV q10 ⊢
  clear hX
  obtain ⟨va,vc,ev⟩ := B0.cr.bv.1.form
  have hbv := B0.cr.bv.1
  rw [hL] at ev
  rw [ev] at hbv
  have m6 := B0.blk.cell (j := 6) (v := .slice va L vc) (by rw [← ev]; rfl)
  clear hL
  go_upto_region 16 with fail
  have HEV := Lib.hid ev
  clear ev q0
  have B1 := B0.drew
  have bP1 := bP0.drew
  have bR1 := bR0.drew
  have hB1 := hB0.drew
  have q10 := kc q10 (Below.refl _ V).drew
  have m6 := kc m6 (Below.refl _ V).drew
  have hv1 := hbv.below (Below.refl _ V).drew
  have hp1 := HBV.out.below (Below.refl _ V).drew
  clear B0 bP0 bR0 hB0 hbv HBV
  refine wp_region_held_drew (S := (fun W' : World => Cells W' [(w.heap.size,6,.slice va L vc),(w.heap.size + 1,10,.slice pa PK pc)])) (by kernel_rfl) (⟨m6,q10,trivial⟩) (fun hHeld => ?_)
  generalize World.drew _ = wd at hHeld B1 bP1 bR1 hB1 q10 m6 hv1 hp1 ⊢
  refine tkU 1 ?_
  refine tkU 2 ?_
  refine tkU 3 ?_
  refine tkU 5 ?_
  refine tkU 6 ?_
  refine rd1 0 fun K hK => ?_
  go_simp
  generalize hX : World.alloc _ (.cells _ 5) = w3
  have hoz : w3.ownsRow wd.heap.size 5 1 (.slice (some ⟨wd.heap.size,0,none⟩) 0 0) 0 [] := hX ▸ own_zero wd _ 1 wd.heap.size (Nat.le_refl _)
  obtain ⟨_,hB3a,hz3⟩ := alloc_named hX
  have hgn : w.heap.size + 3 ≤ wd.heap.size := bR1.lt
  have hbase3 : wd.heap.size ≤ w3.heap.size := by omega
  have m6 := kc m6 hB3a
  have q10 := kc q10 hB3a
  have hv3 := (hv1.below hB3a).sr
  rw [HL.out] at hv3
  have hp3 := hp1.below hB3a
  clear hX hz3
  clear hHeld
  refine hK.out _ _ (⟨m6,q10,trivial⟩) (fun hHeld => ?_)
  clear hK K
  try simp only [Act.put,List.setIfInBounds_toArray,List.set_cons_zero,List.set_cons_succ]
  refine rd1 4 fun K hK => ?_
  refine step_app_own (by rfl) _ _ 23 (by rfl) wd.heap.size 5 i0 _ 1 1 Try.underlying23 hi0 hi1 hi2 hi3 rfl (by decide) (.slice (some ⟨wd.heap.size,0,none⟩) 0 0) 0 [] (by rfl) hoz (.slice va L vc) L (bcells c.tk.vs) (by rfl) hv3 (by unfold maxLen; omega) (by omega) hbase3 ?_
  intro v4 w4 hown4 hg4
  have hB4a : Below wd.heap.size w3 w4 := own_low hoz hg4 hbase3
  have hB4 := hB3a.trans hB4a
  have m6 := (hB4a.cell (p := ⟨w.heap.size,6,none⟩) (by simp only; omega)).trans m6
  have q10 := (hB4a.cell (p := ⟨w.heap.size + 1,10,none⟩) (by simp only; omega)).trans q10
  have hp4 := hp1.below hB4
  have hps4 := hp4.sr
  rw [HK.out] at hps4
  have hbase4 : wd.heap.size ≤ w4.heap.size := hB4.size
  simp only [Nat.zero_add,List.nil_append] at hown4
  clear hoz hv3 hp3 hg4 hB3a hB4a
  clear hHeld
  refine hK.out _ _ (⟨m6,q10,trivial⟩) (fun hHeld => ?_)
  clear hK K
  try simp only [Act.put,List.setIfInBounds_toArray,List.set_cons_zero,List.set_cons_succ]
  refine rd1 7 fun K hK => ?_
  refine step_app_own (by rfl) _ _ 23 (by rfl) wd.heap.size 5 i0 _ 1 1 Try.underlying23 hi0 hi1 hi2 hi3 rfl (by decide) v4 L (bcells c.tk.vs) (by rfl) hown4 (.slice pa PK pc) PK (bcells p.vs) (by rfl) hps4 (by unfold maxLen; omega) (by omega) hbase4 ?_
  intro v5 w5 hown5 hg5
  have hB5a : Below wd.heap.size w4 w5 := own_low hown4 hg5 hbase4
  have hB5 := hB4.trans hB5a
  have m6 := (hB5a.cell (p := ⟨w.heap.size,6,none⟩) (by simp only; omega)).trans m6
  have q10 := (hB5a.cell (p := ⟨w.heap.size + 1,10,none⟩) (by simp only; omega)).trans q10
  have hlt8 : ∀ x ∈ c.tk.vs ++ p.vs,x < 256 := fun x hx => (List.mem_append.1 hx).elim ((BV.at hv1).2.2 x) ((BV.at hp1).2.2 x)
  obtain ⟨N,hN⟩ : ∃ N,(c.tk.vs ++ p.vs).length = N := ⟨_,rfl⟩
  have hNL : N = L + PK := by rw [← hN,List.length_append,HL.out,HK.out]
  have hbv5 : BV w5 v5 (c.tk.vs ++ p.vs) := bv_of_own (base := wd.heap.size) (by rw [hN,hNL,bcells_app]; exact hown5) hlt8 (by omega)
  have hov5 := fun kk hk' => (World.ownsRow.lt hown5 kk hk').1
  obtain ⟨a5,c5,rfl⟩ := own_form hown5
  rw [← hNL] at hbv5 hov5 ⊢
  obtain ⟨M,hM⟩ : ∃ M,min N 512 = M := ⟨_,rfl⟩
  have hNc : N ≤ c5 := by
   obtain ⟨_,_,e,hc,_⟩ := hbv5
   cases e
   rw [hN] at hc
   exact hc
  have hvt := bv_take hbv5 hN (show M ≤ N by omega)
  have htk : (c.tk.vs ++ p.vs).take M = (c.tk.vs ++ p.vs).take 512 := by
   by_cases h : 512 ≤ N
   ·rw [show M = 512 by omega]
   ·rw [List.take_of_length_le (by omega),List.take_of_length_le (by omega)]
  have hml : ((c.tk.vs ++ p.vs).take 512).length = M := by rw [List.length_take,hN]; omega
  rw [htk] at hvt
  have hbd : BD w5 R (.slice a5 M c5) ((c.tk.vs ++ p.vs).take 512) := ⟨hvt,.inr fun kk hk' hm => by
   have h1 := hov5 kk (by cases a5 <;> exact hk')
   have h2 := hRl kk hm
   omega⟩
  have B5 := B1.below hB5
  have bP5 := bP1.below hB5
  have bR5 := bR1.below hB5
  have hB5' := hB1.trans (hB5.mono hB1.size)
  have HML := Lib.hid hml
  have HNL := Lib.hid hNL
  clear hown4 hown5 hg5 hB5a hB4 hlt8 hN hNL hbv5 hov5 hvt htk hml hp1 hp4 hps4 hv1 B1 bP1 bR1 hB1 hbase3 hbase4 hgn
  clear hHeld
  refine hK.out _ _ (⟨m6,q10,trivial⟩) (fun hHeld => ?_)
  clear hK K
  try simp only [Act.put,List.setIfInBounds_toArray,List.set_cons_zero,List.set_cons_succ]
  refine tkU 8 ?_
  refine wpAnyH_done (by kernel_rfl) ?_ _
  clear hHeld
  have m1 : (if 512 < N then (512 : Int) else (N : Int)) = (M : Int) := by split <;> omega
  have m2 : (if (512 : Int) < (N : Int) then (512 : Int) else (N : Int)) = (M : Int) := by split <;> omega
  have m3 : (if N ≤ 512 then (N : Int) else 512) = (M : Int) := by split <;> omega
  have n3 : (0 : Int) ≤ (M : Int) := by omega
  have n4 : (M : Int) ≤ (c5 : Int) := by omega
  have n5 : (M : Int) ≤ (N : Int) := by omega
  have HM := Lib.hid hM
  clear hM
  have z6 := B5.blk.frozen 6
  go_upto_region 18 with fail
  have B6 := B5.put_bv hbd
  have hg6 := set1 w5 ⟨w.heap.size,6,none⟩ (.slice a5 M c5)
  have bP6 := bP5.kept hg6 (fun e => by injection e with e; simp only at e; omega)
  have bR6 := bR5.kept hg6 (fun e => by injection e with e; simp only at e; omega)
  have hB6 := hB5'.grown hg6 hB5'.size (fun k hk => by cases hk; exact Nat.le_refl _)
  have hbd6 := hbd.turned hg6 (fun k hk => .inl (by rw [← hk]; exact hm0))
  generalize hW : World.setCell w5 _ _ = w6 at B6 bP6 bR6 hB6 hbd6 ⊢
  clear hW z6 hg6 m1 m2 m3 n3 n4 n5 B5 bP5 bR5 hB5' hB5 hbd m6 q10
  obtain ⟨c2,hc2⟩ : ∃ c2 : Cl,({ c with tk := { c.tk with vs := (c.tk.vs ++ p.vs).take 512 } } : Cl) = c2 := ⟨_,rfl⟩
  obtain ⟨k2,hk2⟩ : ∃ k2 : Cv,{ k with bv := .slice a5 M c5 } = k2 := ⟨_,rfl⟩
  rw [hc2,hk2] at B6
  have HC2 := Lib.hid hc2
  have HWT := Lib.hid (show c2.wt = c.wt by rw [← hc2])
  have m6 := B6.blk.cell (j := 6) (v := .slice a5 M c5) (by rw [← hk2]; rfl)
  have m2 := B6.blk.cell (j := 2) (v := .int .i64 c.tk.kd) (by rw [← hc2]; rfl)
  have m5 := B6.blk.cell (j := 5) (v := .int .u16 c.tk.ha) (by rw [← hc2]; rfl)
  have m0 := B6.blk.cell (j := 0) (v := .int .i64 c.mt) (by rw [← hc2]; rfl)
  have q10 := bP6.cell (j := 10) (v := .slice pa PK pc) rfl
  obtain ⟨RR,hRR⟩ : ∃ r : Nat,roomI 11 c.mt = (r : Int) := ⟨(roomI 11 c.mt).toNat,by unfold roomI mtuI; omega⟩
  have hroom := fun W => rroom_any 11 c.mt W
  simp only [hRR] at hroom
  have HRM := Lib.hid hroom
  have HRR := Lib.hid hRR
  have hM5 : M ≤ 512 := by have := HM.out; omega
  clear hc2 hk2 hroom hRR
  go_upto_region 19 with fail
  go_cut [121] (fun v wx => ∃ d : Bool,v = .bool d ∧ d = decide (c.tk.kd = 6 ∧ PK = RR ∧ M < 512) ∧ Below w6.heap.size w6 wx)
  case first =>
   have T := (show Cells w6.drew [(w.heap.size,2,.int .i64 c.tk.kd),(w.heap.size + 1,10,.slice pa PK pc),(w.heap.size,0,.int .i64 c.mt)] from ⟨kc m2 (Below.refl _ w6).drew,kc q10 (Below.refl _ w6).drew,kc m0 (Below.refl _ w6).drew,trivial⟩)
   have hD := (Below.refl w6.heap.size w6).drew
   clear m6 m2 m5 m0 q10
   by_cases e6 : c.tk.kd = 6
   ·have t6 : (c.tk.kd == 6) = true := by simp [e6]
    have E6 := Lib.hid e6
    clear e6
    by_cases eM : M < 512
    ·have tM : decide (M < 512) = true := by simpa using eM
     have tM2 : decide ((M : Int) < 512) = true := by simp; omega
     have EM := Lib.hid eM
     clear eM
     by_cases eK : PK = RR
     ·have tK : ((PK : Int) == (RR : Int)) = true := by simp [eK]
      have tK2 : (PK == RR) = true := by simp [eK]
      have tK3 : decide (PK = RR) = true := by simp [eK]
      have EK := Lib.hid eK
      clear eK
      refine wp_region_held_drew (S := (fun W' : World => Cells W' [(w.heap.size,2,.int .i64 c.tk.kd),(w.heap.size + 1,10,.slice pa PK pc),(w.heap.size,0,.int .i64 c.mt)])) (by kernel_rfl) (T) (fun hHeld => ?_)
      generalize World.drew _ = wd at hHeld T hD ⊢
      refine tkU 0 ?_
      refine tkU 1 ?_
      refine tkU 2 ?_
      refine tkU 3 ?_
      refine tkU 4 ?_
      refine tkU 5 ?_
      refine tkU 6 ?_
      refine tkU 7 ?_
      refine tkU 8 ?_
      refine tkU 9 ?_
      refine rd1 10 fun K hK => ?_
      go_simp
      go_at_call 79
      refine (HRM.out _).mono ?_
      rintro e w7 ⟨rfl,rfl⟩
      clear hHeld
      refine hK.out _ _ (T) (fun hHeld => ?_)
      clear hK K
      try simp only [Act.put,List.setIfInBounds_toArray,List.set_cons_zero,List.set_cons_succ]
      refine tkU 11 ?_
      refine tkU 12 ?_
      refine tkU 13 ?_
      refine tkU 14 ?_
      refine tkU 15 ?_
      refine tkU 16 ?_
      refine wpAnyH_done (by kernel_rfl) ?_ _
      go_wp2_with fail
      go_meet
      exact ⟨_,rfl,by simp [E6.out,EK.out,EM.out],hD⟩
     ·have tK : ((PK : Int) == (RR : Int)) = false := by simp; omega
      have tK2 : (PK == RR) = false := by simp [eK]
      have tK3 : decide (PK = RR) = false := by simp [eK]
      have EK := Lib.hid eK
      clear eK
      refine wp_region_held_drew (S := (fun W' : World => Cells W' [(w.heap.size,2,.int .i64 c.tk.kd),(w.heap.size + 1,10,.slice pa PK pc),(w.heap.size,0,.int .i64 c.mt)])) (by kernel_rfl) (T) (fun hHeld => ?_)
      generalize World.drew _ = wd at hHeld T hD ⊢
      refine tkU 0 ?_
      refine tkU 1 ?_
      refine tkU 2 ?_
      refine tkU 3 ?_
      refine tkU 4 ?_
      refine tkU 5 ?_
      refine tkU 6 ?_
      refine tkU 7 ?_
      refine tkU 8 ?_
      refine tkU 9 ?_
      refine rd1 10 fun K hK => ?_
      go_simp
      go_at_call 79
      refine (HRM.out _).mono ?_
      rintro e w7 ⟨rfl,rfl⟩
      clear hHeld
      refine hK.out _ _ (T) (fun hHeld => ?_)
      clear hK K
      try simp only [Act.put,List.setIfInBounds_toArray,List.set_cons_zero,List.set_cons_succ]
      refine tkU 11 ?_
      refine tkU 12 ?_
      refine tkU 13 ?_
      refine tkV 14 ?_
      refine tkV 15 ?_
      refine tkU 16 ?_
      refine wpAnyH_done (by kernel_rfl) ?_ _
      go_wp2_with fail
      go_meet
      exact ⟨_,rfl,by simp [E6.out,EK.out],hD⟩
    ·have tM : decide (M < 512) = false := by simpa using eM
     have tM2 : decide ((M : Int) < 512) = false := by simp; omega
     have EM := Lib.hid eM
     clear eM
     by_cases eK : PK = RR
     ·have tK : ((PK : Int) == (RR : Int)) = true := by simp [eK]
      have tK2 : (PK == RR) = true := by simp [eK]
      have tK3 : decide (PK = RR) = true := by simp [eK]
      have EK := Lib.hid eK
      clear eK
      refine wp_region_held_drew (S := (fun W' : World => Cells W' [(w.heap.size,2,.int .i64 c.tk.kd),(w.heap.size + 1,10,.slice pa PK pc),(w.heap.size,0,.int .i64 c.mt)])) (by kernel_rfl) (T) (fun hHeld => ?_)
      generalize World.drew _ = wd at hHeld T hD ⊢
      refine tkU 0 ?_
      refine tkU 1 ?_
      refine tkU 2 ?_
      refine tkU 3 ?_
      refine tkU 4 ?_
      refine tkU 5 ?_
      refine tkU 6 ?_
      refine tkU 7 ?_
      refine tkU 8 ?_
      refine tkU 9 ?_
      refine rd1 10 fun K hK => ?_
      go_simp
      go_at_call 79
      refine (HRM.out _).mono ?_
      rintro e w7 ⟨rfl,rfl⟩
      clear hHeld
      refine hK.out _ _ (T) (fun hHeld => ?_)
      clear hK K
      try simp only [Act.put,List.setIfInBounds_toArray,List.set_cons_zero,List.set_cons_succ]
      refine tkU 11 ?_
      refine tkU 12 ?_
      refine tkU 13 ?_
      refine tkU 14 ?_
      refine tkU 15 ?_
      refine tkU 16 ?_
      refine wpAnyH_done (by kernel_rfl) ?_ _
      go_wp2_with fail
      go_meet
      exact ⟨_,rfl,by simp [EM.out],hD⟩
     ·have tK : ((PK : Int) == (RR : Int)) = false := by simp; omega
      have tK2 : (PK == RR) = false := by simp [eK]
      have tK3 : decide (PK = RR) = false := by simp [eK]
      have EK := Lib.hid eK
      clear eK
      refine wp_region_held_drew (S := (fun W' : World => Cells W' [(w.heap.size,2,.int .i64 c.tk.kd),(w.heap.size + 1,10,.slice pa PK pc),(w.heap.size,0,.int .i64 c.mt)])) (by kernel_rfl) (T) (fun hHeld => ?_)
      generalize World.drew _ = wd at hHeld T hD ⊢
      refine tkU 0 ?_
      refine tkU 1 ?_
      refine tkU 2 ?_
      refine tkU 3 ?_
      refine tkU 4 ?_
      refine tkU 5 ?_
      refine tkU 6 ?_
      refine tkU 7 ?_
      refine tkU 8 ?_
      refine tkU 9 ?_
      refine rd1 10 fun K hK => ?_
      go_simp
      go_at_call 79
      refine (HRM.out _).mono ?_
      rintro e w7 ⟨rfl,rfl⟩
      clear hHeld
      refine hK.out _ _ (T) (fun hHeld => ?_)
      clear hK K
      try simp only [Act.put,List.setIfInBounds_toArray,List.set_cons_zero,List.set_cons_succ]
      refine tkU 11 ?_
      refine tkU 12 ?_
      refine tkU 13 ?_
      refine tkV 14 ?_
      refine tkV 15 ?_
      refine tkU 16 ?_
      refine wpAnyH_done (by kernel_rfl) ?_ _
      go_wp2_with fail
      go_meet
      exact ⟨_,rfl,by simp [EM.out],hD⟩
   ·have t6 : (c.tk.kd == 6) = false := by simp [e6]
    have E6 := Lib.hid e6
    clear e6
    refine wp_region_held_drew (S := (fun W' : World => Cells W' [(w.heap.size,2,.int .i64 c.tk.kd),(w.heap.size + 1,10,.slice pa PK pc),(w.heap.size,0,.int .i64 c.mt)])) (by kernel_rfl) (T) (fun hHeld => ?_)
    generalize World.drew _ = wd at hHeld T hD ⊢
    refine tkU 0 ?_
    refine tkU 1 ?_
    refine tkU 2 ?_
    refine tkU 3 ?_
    refine tkU 4 ?_
    refine tkV 5 ?_
    refine tkV 6 ?_
    refine tkV 7 ?_
    refine tkV 8 ?_
    refine tkV 9 ?_
    refine tkV 10 ?_
    refine tkV 11 ?_
    refine tkU 12 ?_
    refine tkU 13 ?_
    refine tkV 14 ?_
    refine tkV 15 ?_
    refine tkU 16 ?_
    refine wpAnyH_done (by kernel_rfl) ?_ _
    go_wp2_with fail
    go_meet
    exact ⟨_,rfl,by simp [E6.out],hD⟩
  case rest =>
   obtain ⟨dd,rfl,hdd,hBx⟩ := hcut
   have B7 := B6.below hBx
   have bR7 := bR6.below hBx
   have hB7 := hB6.trans (hBx.mono hB6.size)
   have hbd7 := hbd6.below hBx
   have m6 := kc m6 hBx
   have m5 := kc m5 hBx
   have hrg := B7.range
   have HDD := Lib.hid hdd
   clear hdd m2 m0 q10 B6 bR6 hB6 hbd6 bP6 hBx
   cases dd with
   |true =>
    have HRD := Lib.hid (show (sp0 c now).read p.vs = (sp0 c2 now).send { pd0 with kd := 12,ha := c.tk.ha,of := (M : Int) } by
     have h := (of_decide_eq_true HDD.out.symm)
     unfold Sp.read
     simp only [sp0,HML.out,HK.out,HRR.out]
     rw [if_pos ⟨h.1,by rw [h.2.1],h.2.2⟩,HC2.out])
    go_wp2_with (refine wpList_load_mid rfl 35 _ rfl w.heap.size 0 rfl (k2.cells c2) _ hrg Try.underlying35 rfl (by kernel_rfl) ?_)
    refine (rmore_any c2 k2 R { pd0 with kd := 12,ha := c.tk.ha,of := (M : Int) } (.slice none 0 0) (.slice none 0 0) now _ B7.cr (BD.nil _ R) (SR.nil _ 5) (fun i hi => by have := hRl i hi; have := bR7.lt; omega)).mono ?_
    rintro e w1 ⟨⟨k1,o,r1,rfl,hC1,hps,hrs1⟩,hB4⟩
    obtain ⟨x1,hx1⟩ : ∃ x1 : Sp,(sp0 c2 now).send { pd0 with kd := 12,ha := c.tk.ha,of := (M : Int) } = x1 := ⟨_,rfl⟩
    rw [hx1] at hC1 hps hrs1 ⊢
    have HX := Lib.hid hx1
    have bRx := bR7.below hB4
    have hl1 := hB7.trans (hB4.mono hB7.size)
    have hth := bRx.there 0 26 (by simp)
    have hone := hC1.one
    clear hx1 hB4
    go_wp2_with (refine wpList_store_mid rfl 35 _ _ rfl (w.heap.size + 2) 0 (k1.cells x1.c).toArray rfl rfl hth (by kernel_rfl) hone ?_; simp only [Act.put]; generalize hW : World.setCells w1 (w.heap.size + 2) 0 _ = w2; have HW := Lib.hid hW; clear hW)
    obtain ⟨hF,bR4⟩ := fin26 hC1 hps hrs1 bRx rfl hm2 hRs hl1 (by omega)
    rw [show w1.setCells (w.heap.size + 2) 0 (k1.cells x1.c) = w2 from HW.out] at hF bR4
    have hl := run_loadVar_row (P := Try.prog) _ (w.heap.size + 2) 35 35 _ (0,0) _ bR4 Try.underlying35 rfl (by kernel_rfl)
    exact bodyPost_ret (v := .tuple #[.agg (k1.cells x1.c).toArray,o,r1]) (by rw [results_cell_tmp2 rfl]; simp [asAddr,hl]) rfl ⟨by rw [HRD.out,HX.out]; exact ⟨k1,_,_,rfl,hF.1,hF.2.1,hF.2.2.1⟩,hF.2.2.2⟩
   |false =>
    have HRD := Lib.hid (show (sp0 c now).read p.vs = (sp0 c2 now).endd ⟨3,0,0,((c.tk.vs ++ p.vs).take 512),[],0⟩ by
     have h := (of_decide_eq_false HDD.out.symm)
     unfold Sp.read
     simp only [sp0,HML.out,HK.out,HRR.out]
     rw [if_neg (fun hh => h ⟨hh.1,by have := hh.2.1; omega,hh.2.2⟩),HC2.out]
     unfold Sp.value
     rw [← HC2.out])
    go_wp2_with (refine wpList_load_mid rfl 35 _ rfl w.heap.size 0 rfl (k2.cells c2) _ hrg Try.underlying35 rfl (by kernel_rfl) ?_)
    refine (rfinish_any c2 k2 R ⟨3,0,0,((c.tk.vs ++ p.vs).take 512),[],0⟩ (.slice a5 M c5) (.slice none 0 0) now _ B7.cr hbd7 (FD.nil _ R) (fun i hi => by have := hRl i hi; have := bR7.lt; omega) (by rw [HWT.out]; exact HW1.out) (by rw [HWT.out]; exact HWL.out)).mono ?_
    rintro e w1 ⟨⟨k1,o,r1,rfl,hC1,hps,hrs1⟩,hB4⟩
    obtain ⟨x1,hx1⟩ : ∃ x1 : Sp,(sp0 c2 now).endd ⟨3,0,0,((c.tk.vs ++ p.vs).take 512),[],0⟩ = x1 := ⟨_,rfl⟩
    rw [hx1] at hC1 hps hrs1 ⊢
    have HX := Lib.hid hx1
    have bRx := bR7.below hB4
    have hl1 := hB7.trans (hB4.mono hB7.size)
    have hth := bRx.there 0 26 (by simp)
    have hone := hC1.one
    clear hx1 hB4
    go_wp2_with (refine wpList_store_mid rfl 35 _ _ rfl (w.heap.size + 2) 0 (k1.cells x1.c).toArray rfl rfl hth (by kernel_rfl) hone ?_; simp only [Act.put]; generalize hW : World.setCells w1 (w.heap.size + 2) 0 _ = w2; have HW := Lib.hid hW; clear hW)
    obtain ⟨hF,bR4⟩ := fin26 hC1 hps hrs1 bRx rfl hm2 hRs hl1 (by omega)
    rw [show w1.setCells (w.heap.size + 2) 0 (k1.cells x1.c) = w2 from HW.out] at hF bR4
    have hl := run_loadVar_row (P := Try.prog) _ (w.heap.size + 2) 35 35 _ (0,0) _ bR4 Try.underlying35 rfl (by kernel_rfl)
    exact bodyPost_ret (v := .tuple #[.agg (k1.cells x1.c).toArray,o,r1]) (by rw [results_cell_tmp2 rfl]; simp [asAddr,hl]) rfl ⟨by rw [HRD.out,HX.out]; exact ⟨k1,_,_,rfl,hF.1,hF.2.1,hF.2.2.1⟩,hF.2.2.2⟩
theorem ransw_23_no (c : Cl) (k : Cv) (R0 : List (Option Nat)) (p : Pd) (pb iv : Value) (qs : List (Im × Value)) (now : Int) (w : World) (hC : Cr w R0 c k) (hR0 : ∀ i,some i ∈ R0 → i < w.heap.size) (hw : ∀ t ∈ c.wt,TkOk t ∧ 1 ≤ t.kd ∧ t.kd ≤ 9) (hwl : c.wt.length ≤ 1000) (hb : BV w pb p.vs) (hbs : p.vs.length ≤ 1000000) (hvs : c.tk.vs.length ≤ 1000000) (had : c.ad.vs.length ≤ 1000000) (hk : p.kd = 23) (hd : ¬ (p.ha = c.ad.ha ∧ p.of = c.ad.of ∧ p.vs = c.ad.vs)) :
 Calls Try.prog 38 #[.agg (k.cells c).toArray,.agg (pdc p pb iv).toArray,.int .i64 now] w fun e w' => Out3 w' R0 e ((sp0 c now).prepared p) ∧ Below w.heap.size w w' := by
 obtain ⟨pa,pc,rfl⟩ := hb.form
 obtain ⟨PK,hK⟩ : ∃ L,p.vs.length = L := ⟨_,rfl⟩
 rw [hK] at hb hbs ⊢
 obtain ⟨R,hRs,hm0,hm1,hm2,hRl,hRR,B0,bP0,bR0,hB0,hV3⟩ := pro3 hC hR0 (pdc p (.slice pa PK pc) iv) 32 [.int .i64 0,.int .i64 0,.int .i64 0,.int .u16 0,.int .u16 0,.int .u16 0,.slice none 0 0,.int .i64 0,.slice none 0 0,.bool false,.int .i64 0,.int .i64 0,.int .u16 0,.int .u16 0,.int .u64 0,.int .u64 0,.int .i64 0,.int .i64 0,.int .i64 0,.bool false,.slice none 0 0,.slice none 0 0,.bool false,.int .i64 0,.bool false,.slice none 0 0] 35
 have HV3 := Lib.hid hV3
 have HW1 := Lib.hid hw
 have HWL := Lib.hid hwl
 have q0 := bP0.cell (j := 0) (v := .int .i64 23) (by rw [← hk]; rfl)
 have q10 := bP0.cell (j := 10) (v := .slice pa PK pc) rfl
 have q2 := bP0.cell (j := 2) (v := .int .u16 p.ha) rfl
 have q6 := bP0.cell (j := 6) (v := .int .i64 p.of) rfl
 have HBV := Lib.hid (hb.below hB0)
 have HK := Lib.hid hK
 clear hk hb hK
 clear hC hR0 hRR hV3 hw hwl
 go_enter Try.func38,Try.ntmps38
 go_upto_region 1 with fail
 generalize hX : World.alloc (World.alloc (World.alloc w _) _) _ = V at B0 bP0 bR0 hB0 HV3 q0 HBV q2 q6 q10 ⊢
 clear hX
 obtain ⟨aa,ac,ea⟩ := B0.cr.ab.1.form
 have hav := B0.cr.ab.1
 obtain ⟨AL,hAL⟩ : ∃ L,c.ad.vs.length = L := ⟨_,rfl⟩
 rw [hAL] at ea had
 rw [ea] at hav
 have m20 := B0.blk.cell (j := 20) (v := .slice aa AL ac) (by rw [← ea]; rfl)
 have m12 := B0.blk.cell (j := 12) (v := .int .u16 c.ad.ha) rfl
 have m16 := B0.blk.cell (j := 16) (v := .int .i64 c.ad.of) rfl
 have hsm := same_any (.slice pa PK pc) (.slice aa AL ac) p.vs c.ad.vs V (BV.at HBV.out) (BV.at hav)
 have HSM := Lib.hid hsm
 have HAL := Lib.hid hAL
 have HAV := Lib.hid (And.intro ea hav)
 have HD := Lib.hid hd
 clear hsm hAL ea hav hd
 go_upto_region 23 with fail
 go_cut [167] (fun v wx => v = .bool true ∧ V = wx)
 case first =>
  by_cases e1 : p.ha = c.ad.ha
  ·have s1 : ((p.ha : Int) != (c.ad.ha : Int)) = false := by simp [e1]
   have s1' : (p.ha != c.ad.ha) = false := by simp [e1]
   have s1'' : decide (p.ha = c.ad.ha) = true := by simp [e1]
   have E1 := Lib.hid e1
   clear e1
   by_cases e2 : p.of = c.ad.of
   ·have s2 : (p.of != c.ad.of) = false := by simp [e2]
    have E2 := Lib.hid e2
    clear e2
    have s3 : decide (p.vs = c.ad.vs) = false := by
     have h := HD.out
     have h1 := E1.out
     have h2 := E2.out
     simp only [decide_eq_false_iff_not]
     exact fun h3 => h ⟨h1,h2,h3⟩
    go_wp2_with (go_at_call 24; refine HSM.out.mono ?_; rintro e w2 ⟨rfl,rfl⟩)
    go_meet
    exact ⟨rfl,rfl⟩
   ·have s2 : (p.of != c.ad.of) = true := by simp [e2]
    clear e2
    go_wp2_with fail
    go_meet
    exact ⟨rfl,rfl⟩
  ·have s1 : ((p.ha : Int) != (c.ad.ha : Int)) = true := by simp; omega
   have s1' : (p.ha != c.ad.ha) = true := by simp [e1]
   have s1'' : decide (p.ha = c.ad.ha) = false := by simp [e1]
   clear e1
   go_wp2_with fail
   go_meet
   exact ⟨rfl,rfl⟩
 obtain ⟨rfl,rfl⟩ := hcut
 have HPR := Lib.hid (show (sp0 c now).prepared p = (sp0 c now).cancel 4 by
  unfold Sp.prepared
  exact if_neg HD.out)
 clear q0 q2 q6 q10 m20 m12 m16
 have hrg := B0.range
 go_wp2_with (refine wpList_load_mid rfl 35 _ rfl w.heap.size 0 rfl (k.cells c) _ hrg Try.underlying35 rfl (by kernel_rfl) ?_)
 refine (rcancel_any c k R 4 now V B0.cr (fun i hi => by have := hRl i hi; have := bR0.lt; omega)).mono ?_
 rintro e w1 ⟨⟨k1,o,r1,rfl,hC1,hps,hrs1⟩,hB4⟩
 obtain ⟨x1,hx1⟩ : ∃ x1 : Sp,(sp0 c now).cancel 4 = x1 := ⟨_,rfl⟩
 rw [hx1] at hC1 hps hrs1 ⊢
 have HX := Lib.hid hx1
 have bRx := bR0.below hB4
 have hl1 := hB0.trans (hB4.mono hB0.size)
 have hth := bRx.there 0 26 (by simp)
 have hone := hC1.one
 clear hx1 hB4
 go_wp2_with (refine wpList_store_mid rfl 35 _ _ rfl (w.heap.size + 2) 0 (k1.cells x1.c).toArray rfl rfl hth (by kernel_rfl) hone ?_; simp only [Act.put]; generalize hW : World.setCells w1 (w.heap.size + 2) 0 _ = w2; have HW := Lib.hid hW; clear hW)
 obtain ⟨hF,bR4⟩ := fin26 hC1 hps hrs1 bRx rfl hm2 hRs hl1 (by omega)
 rw [show w1.setCells (w.heap.size + 2) 0 (k1.cells x1.c) = w2 from HW.out] at hF bR4
 have hl := run_loadVar_row (P := Try.prog) _ (w.heap.size + 2) 35 35 _ (0,0) _ bR4 Try.underlying35 rfl (by kernel_rfl)
 exact bodyPost_ret (v := .tuple #[.agg (k1.cells x1.c).toArray,o,r1]) (by rw [results_cell_tmp2 rfl]; simp [asAddr,hl]) rfl ⟨by rw [HPR.out,HX.out]; exact ⟨k1,_,_,rfl,hF.1,hF.2.1,hF.2.2.1⟩,hF.2.2.2⟩
theorem ransw_23_more (c : Cl) (k : Cv) (R0 : List (Option Nat)) (p : Pd) (pb iv : Value) (qs : List (Im × Value)) (now : Int) (w : World) (hC : Cr w R0 c k) (hR0 : ∀ i,some i ∈ R0 → i < w.heap.size) (hw : ∀ t ∈ c.wt,TkOk t ∧ 1 ≤ t.kd ∧ t.kd ≤ 9) (hwl : c.wt.length ≤ 1000) (hb : BV w pb p.vs) (hbs : p.vs.length ≤ 1000000) (hvs : c.tk.vs.length ≤ 1000000) (had : c.ad.vs.length ≤ 1000000) (hk : p.kd = 23) (hd : p.ha = c.ad.ha ∧ p.of = c.ad.of ∧ p.vs = c.ad.vs) (O : Nat) (hO : c.tk.of = (O : Int)) (hOm : O ≤ 1000000) (hlt : O + p.vs.length < c.tk.vs.length) :
 Calls Try.prog 38 #[.agg (k.cells c).toArray,.agg (pdc p pb iv).toArray,.int .i64 now] w fun e w' => Out3 w' R0 e ((sp0 c now).prepared p) ∧ Below w.heap.size w w' := by
 obtain ⟨pa,pc,rfl⟩ := hb.form
 obtain ⟨PK,hK⟩ : ∃ L,p.vs.length = L := ⟨_,rfl⟩
 rw [hK] at hb hbs hlt ⊢
 obtain ⟨R,hRs,hm0,hm1,hm2,hRl,hRR,B0,bP0,bR0,hB0,hV3⟩ := pro3 hC hR0 (pdc p (.slice pa PK pc) iv) 32 [.int .i64 0,.int .i64 0,.int .i64 0,.int .u16 0,.int .u16 0,.int .u16 0,.slice none 0 0,.int .i64 0,.slice none 0 0,.bool false,.int .i64 0,.int .i64 0,.int .u16 0,.int .u16 0,.int .u64 0,.int .u64 0,.int .i64 0,.int .i64 0,.int .i64 0,.bool false,.slice none 0 0,.slice none 0 0,.bool false,.int .i64 0,.bool false,.slice none 0 0] 35
 have HV3 := Lib.hid hV3
 have HW1 := Lib.hid hw
 have HWL := Lib.hid hwl
 have q0 := bP0.cell (j := 0) (v := .int .i64 23) (by rw [← hk]; rfl)
 have q10 := bP0.cell (j := 10) (v := .slice pa PK pc) rfl
 have q2 := bP0.cell (j := 2) (v := .int .u16 p.ha) rfl
 have q6 := bP0.cell (j := 6) (v := .int .i64 p.of) rfl
 have HBV := Lib.hid (hb.below hB0)
 have HK := Lib.hid hK
 clear hk hb hK
 clear hC hR0 hRR hV3 hw hwl
 go_enter Try.func38,Try.ntmps38
 go_upto_region 1 with fail
 generalize hX : World.alloc (World.alloc (World.alloc w _) _) _ = V at B0 bP0 bR0 hB0 HV3 q0 HBV q2 q6 q10 ⊢
 clear hX
 obtain ⟨aa,ac,ea⟩ := B0.cr.ab.1.form
 have hav := B0.cr.ab.1
 obtain ⟨AL,hAL⟩ : ∃ L,c.ad.vs.length = L := ⟨_,rfl⟩
 rw [hAL] at ea had
 rw [ea] at hav
 have m20 := B0.blk.cell (j := 20) (v := .slice aa AL ac) (by rw [← ea]; rfl)
 have m12 := B0.blk.cell (j := 12) (v := .int .u16 c.ad.ha) rfl
 have m16 := B0.blk.cell (j := 16) (v := .int .i64 c.ad.of) rfl
 have hsm := same_any (.slice pa PK pc) (.slice aa AL ac) p.vs c.ad.vs V (BV.at HBV.out) (BV.at hav)
 have HSM := Lib.hid hsm
 have HAL := Lib.hid hAL
 have HAV := Lib.hid (And.intro ea hav)
 have HD := Lib.hid hd
 clear hsm hAL ea hav hd
 have e1 := HD.out.1
 have e2 := HD.out.2.1
 have s1 : ((p.ha : Int) != (c.ad.ha : Int)) = false := by simp [e1]
 have s1' : (p.ha != c.ad.ha) = false := by simp [e1]
 have s1'' : decide (p.ha = c.ad.ha) = true := by simp [e1]
 have s2 : (p.of != c.ad.of) = false := by simp [e2]
 have s3 : decide (p.vs = c.ad.vs) = true := by simp [HD.out.2.2]
 clear e1 e2
 go_upto_region 23 with fail
 go_cut [167] (fun v wx => v = .bool false ∧ V = wx)
 case first =>
  go_wp2_with (go_at_call 24; refine HSM.out.mono ?_; rintro e w2 ⟨rfl,rfl⟩)
  go_meet
  exact ⟨rfl,rfl⟩
 obtain ⟨rfl,rfl⟩ := hcut
 have hAK : AL = PK := by rw [← HAL.out,← HK.out,HD.out.2.2]
 obtain ⟨O2,hO2⟩ : ∃ x,O + PK = x := ⟨_,rfl⟩
 have w1' : IntKind.i64.wrap ((O : Int) + (AL : Int)) = (O2 : Int) := by rw [IntWalk.i64_in _ (by omega)]; omega
 have m7 := B0.blk.cell (j := 7) (v := .int .i64 (O : Nat)) (by rw [← hO]; rfl)
 have z7 := B0.blk.frozen 7
 have HO := Lib.hid hO
 have HO2 := Lib.hid hO2
 have HAK := Lib.hid hAK
 clear s1 s1' s1'' s2 s3 q0 q2 q6 q10 m12 m16 hO hO2 hAK
 go_upto_region 26 with fail
 have B1 := B0.put_of (O2 : Int)
 have hg1 := set1 V ⟨w.heap.size,7,none⟩ (.int .i64 (O2 : Int))
 have bR1 := bR0.kept hg1 (fun e => by injection e with e; simp only at e; omega)
 have hB1 := hB0.grown hg1 hB0.size (fun k hk => by cases hk; exact Nat.le_refl _)
 generalize hW : World.setCell V _ _ = V1 at B1 bR1 hB1 ⊢
 clear hW m7 z7 hg1 w1' m20 B0 bP0 bR0 hB0
 obtain ⟨c2,hc2⟩ : ∃ c2 : Cl,{ c with tk := { c.tk with of := (O2 : Int) } } = c2 := ⟨_,rfl⟩
 rw [hc2] at B1
 have HC2 := Lib.hid hc2
 obtain ⟨VL,hVL⟩ : ∃ L,c.tk.vs.length = L := ⟨_,rfl⟩
 rw [hVL] at hlt hvs
 have hc2v : c2.tk.vs = c.tk.vs := by rw [← hc2]
 obtain ⟨va,vc,ev⟩ := B1.cr.bv.1.form
 rw [hc2v,hVL] at ev
 have m6 := B1.blk.cell (j := 6) (v := .slice va VL vc) (by rw [← ev]; rfl)
 have m7 := B1.blk.cell (j := 7) (v := .int .i64 (O2 : Int)) (by rw [← hc2]; rfl)
 have hO2 := HO2.out
 have g1 : decide (O2 < VL) = true := by simp; omega
 have g2 : decide ((O2 : Int) < (VL : Int)) = true := by simp; omega
 have HPR := Lib.hid (show (sp0 c now).prepared p = (sp0 c2 now).send (pieceP c2.mt c2.tk) by
  unfold Sp.prepared
  rw [if_pos (show p.ha = (sp0 c now).c.ad.ha ∧ p.of = (sp0 c now).c.ad.of ∧ p.vs = (sp0 c now).c.ad.vs from HD.out)]
  have hx : (sp0 c now).c.tk.of + (p.vs.length : Int) = (O2 : Int) := by
   show c.tk.of + (p.vs.length : Int) = _
   rw [HO.out,HK.out]; omega
  rw [hx]
  rw [if_pos (show (O2 : Int) < ((sp0 c now).c.tk.vs.length : Int) by
   show (O2 : Int) < (c.tk.vs.length : Int)
   rw [hVL]; omega),← HC2.out]
  rfl)
 have hO2b : O2 ≤ VL ∨ True := .inr trivial
 have HOF := Lib.hid (show c2.tk.of = (O2 : Int) by rw [← hc2])
 have HVL := Lib.hid (And.intro hlt (show c2.tk.vs.length = VL by rw [hc2v,hVL]))
 clear hc2 hVL hc2v ev hlt hO2
 go_upto_region 27 with fail
 clear m6 m7 g1 g2
 have B2 := B1.drew
 have bR2 := bR1.drew
 have hB2 := hB1.drew
 refine wp_region_held_drew (S := (fun W' : World => W'.rangeAt w.heap.size 0 (k.cells c2))) (by kernel_rfl) (B2.range) (fun hHeld => ?_)
 generalize World.drew _ = wd at hHeld B2 bR2 hB2 ⊢
 refine tkN 0 35 w.heap.size 0 (k.cells c2) (fun _ h => h) Try.underlying35 ?_
 refine tkU 1 ?_
 refine tkN 2 35 w.heap.size 0 (k.cells c2) (fun _ h => h) Try.underlying35 ?_
 refine rd1 3 fun K hK => ?_
 go_simp
 go_at_call 80
 refine (rpiece_any c2 k R O2 _ B2.cr (fun i hi => by have := hRl i hi; have := bR2.lt; omega) HOF.out (by rw [HVL.out.2]; have := HVL.out.1; have := HO2.out; omega) (by rw [HVL.out.2]; exact hvs)).mono ?_
 rintro e w3 ⟨pv,rfl,hpv,hB3⟩
 have B4 := B2.below hB3
 have bR4 := bR2.below hB3
 have hB4 := hB2.trans (hB3.mono hB2.size)
 clear B2 bR2 hB2 hB3
 clear hHeld
 refine hK.out _ _ (B4.range) (fun hHeld => ?_)
 clear hK K
 try simp only [Act.put,List.setIfInBounds_toArray,List.set_cons_zero,List.set_cons_succ]
 refine rd1 4 fun K hK => ?_
 go_simp
 go_at_call 86
 refine (rmore_any c2 k R (pieceP c2.mt c2.tk) pv (.slice none 0 0) now _ B4.cr hpv (SR.nil _ 5) (fun i hi => by have := hRl i hi; have := bR4.lt; omega)).mono ?_
 rintro e w5 ⟨⟨k1,o,r1,rfl,hC1,hps,hrs1⟩,hB5⟩
 obtain ⟨x1,hx1⟩ : ∃ x1 : Sp,(sp0 c2 now).send (pieceP c2.mt c2.tk) = x1 := ⟨_,rfl⟩
 rw [hx1] at hC1 hps hrs1 ⊢
 have HX := Lib.hid hx1
 have B5 := B4.below hB5
 have bRx := bR4.below hB5
 have hl1 := hB4.trans (hB5.mono hB4.size)
 have hone := hC1.one
 clear hx1 hB5 B4 bR4 hB4 hpv
 clear hHeld
 refine hK.out _ _ (B5.range) (fun hHeld => ?_)
 clear hK K
 try simp only [Act.put,List.setIfInBounds_toArray,List.set_cons_zero,List.set_cons_succ]
 refine tkU 5 ?_
 refine tkU 6 ?_
 refine tkU 7 ?_
 refine rd1 8 fun K hK => ?_
 refine step_store_mid (by rfl) 35 _ _ (by rfl) (w.heap.size + 2) 0 (k1.cells x1.c).toArray (by rfl) (by rfl) (bRx.there 0 26 (by simp)) (by kernel_rfl) hone ?_
 obtain ⟨hF,bR6⟩ := fin26 hC1 hps hrs1 bRx rfl hm2 hRs hl1 (by omega)
 have hg9 := setCells_grown (w.heap.size + 2) (k1.cells x1.c) 0 w5
 have B6 := B5.other hg9 (by omega) hm2
 generalize hX : World.setCells _ (w.heap.size + 2) 0 _ = w9
 have e1 : w5.setCells (w.heap.size + 2) 0 (k1.cells x1.c) = w9 := hX
 rw [e1] at hF bR6 B6
 clear hX e1 hg9
 clear hHeld
 refine hK.out _ _ (B6.range) (fun hHeld => ?_)
 clear hK K
 try simp only [Act.put,List.setIfInBounds_toArray,List.set_cons_zero,List.set_cons_succ]
 refine tkU 9 ?_
 refine tkU 10 ?_
 refine wpAnyH_done (by kernel_rfl) ?_ _
 go_wp2_with fail
 have hl := run_loadVar_row (P := Try.prog) _ (w.heap.size + 2) 35 35 _ (0,0) _ bR6 Try.underlying35 rfl (by kernel_rfl)
 exact bodyPost_ret (v := .tuple #[.agg (k1.cells x1.c).toArray,o,r1]) (by rw [results_cell_tmp2 rfl]; simp [asAddr,hl]) rfl ⟨by rw [HPR.out,HX.out]; exact ⟨k1,_,_,rfl,hF.1,hF.2.1,hF.2.2.1⟩,hF.2.2.2⟩
theorem ransw_23_done (c : Cl) (k : Cv) (R0 : List (Option Nat)) (p : Pd) (pb iv : Value) (qs : List (Im × Value)) (now : Int) (w : World) (hC : Cr w R0 c k) (hR0 : ∀ i,some i ∈ R0 → i < w.heap.size) (hw : ∀ t ∈ c.wt,TkOk t ∧ 1 ≤ t.kd ∧ t.kd ≤ 9) (hwl : c.wt.length ≤ 1000) (hb : BV w pb p.vs) (hbs : p.vs.length ≤ 1000000) (hvs : c.tk.vs.length ≤ 1000000) (had : c.ad.vs.length ≤ 1000000) (hk : p.kd = 23) (hd : p.ha = c.ad.ha ∧ p.of = c.ad.of ∧ p.vs = c.ad.vs) (O : Nat) (hO : c.tk.of = (O : Int)) (hOm : O ≤ 1000000) (hlt : ¬ O + p.vs.length < c.tk.vs.length) :
 Calls Try.prog 38 #[.agg (k.cells c).toArray,.agg (pdc p pb iv).toArray,.int .i64 now] w fun e w' => Out3 w' R0 e ((sp0 c now).prepared p) ∧ Below w.heap.size w w' := by
 obtain ⟨pa,pc,rfl⟩ := hb.form
 obtain ⟨PK,hK⟩ : ∃ L,p.vs.length = L := ⟨_,rfl⟩
 rw [hK] at hb hbs hlt ⊢
 obtain ⟨R,hRs,hm0,hm1,hm2,hRl,hRR,B0,bP0,bR0,hB0,hV3⟩ := pro3 hC hR0 (pdc p (.slice pa PK pc) iv) 32 [.int .i64 0,.int .i64 0,.int .i64 0,.int .u16 0,.int .u16 0,.int .u16 0,.slice none 0 0,.int .i64 0,.slice none 0 0,.bool false,.int .i64 0,.int .i64 0,.int .u16 0,.int .u16 0,.int .u64 0,.int .u64 0,.int .i64 0,.int .i64 0,.int .i64 0,.bool false,.slice none 0 0,.slice none 0 0,.bool false,.int .i64 0,.bool false,.slice none 0 0] 35
 have HV3 := Lib.hid hV3
 have HW1 := Lib.hid hw
 have HWL := Lib.hid hwl
 have q0 := bP0.cell (j := 0) (v := .int .i64 23) (by rw [← hk]; rfl)
 have q10 := bP0.cell (j := 10) (v := .slice pa PK pc) rfl
 have q2 := bP0.cell (j := 2) (v := .int .u16 p.ha) rfl
 have q6 := bP0.cell (j := 6) (v := .int .i64 p.of) rfl
 have HBV := Lib.hid (hb.below hB0)
 have HK := Lib.hid hK
 clear hk hb hK
 clear hC hR0 hRR hV3 hw hwl
 go_enter Try.func38,Try.ntmps38
 go_upto_region 1 with fail
 generalize hX : World.alloc (World.alloc (World.alloc w _) _) _ = V at B0 bP0 bR0 hB0 HV3 q0 HBV q2 q6 q10 ⊢
 clear hX
 obtain ⟨aa,ac,ea⟩ := B0.cr.ab.1.form
 have hav := B0.cr.ab.1
 obtain ⟨AL,hAL⟩ : ∃ L,c.ad.vs.length = L := ⟨_,rfl⟩
 rw [hAL] at ea had
 rw [ea] at hav
 have m20 := B0.blk.cell (j := 20) (v := .slice aa AL ac) (by rw [← ea]; rfl)
 have m12 := B0.blk.cell (j := 12) (v := .int .u16 c.ad.ha) rfl
 have m16 := B0.blk.cell (j := 16) (v := .int .i64 c.ad.of) rfl
 have hsm := same_any (.slice pa PK pc) (.slice aa AL ac) p.vs c.ad.vs V (BV.at HBV.out) (BV.at hav)
 have HSM := Lib.hid hsm
 have HAL := Lib.hid hAL
 have HAV := Lib.hid (And.intro ea hav)
 have HD := Lib.hid hd
 clear hsm hAL ea hav hd
 have e1 := HD.out.1
 have e2 := HD.out.2.1
 have s1 : ((p.ha : Int) != (c.ad.ha : Int)) = false := by simp [e1]
 have s1' : (p.ha != c.ad.ha) = false := by simp [e1]
 have s1'' : decide (p.ha = c.ad.ha) = true := by simp [e1]
 have s2 : (p.of != c.ad.of) = false := by simp [e2]
 have s3 : decide (p.vs = c.ad.vs) = true := by simp [HD.out.2.2]
 clear e1 e2
 go_upto_region 23 with fail
 go_cut [167] (fun v wx => v = .bool false ∧ V = wx)
 case first =>
  go_wp2_with (go_at_call 24; refine HSM.out.mono ?_; rintro e w2 ⟨rfl,rfl⟩)
  go_meet
  exact ⟨rfl,rfl⟩
 obtain ⟨rfl,rfl⟩ := hcut
 have hAK : AL = PK := by rw [← HAL.out,← HK.out,HD.out.2.2]
 obtain ⟨O2,hO2⟩ : ∃ x,O + PK = x := ⟨_,rfl⟩
 have w1' : IntKind.i64.wrap ((O : Int) + (AL : Int)) = (O2 : Int) := by rw [IntWalk.i64_in _ (by omega)]; omega
 have m7 := B0.blk.cell (j := 7) (v := .int .i64 (O : Nat)) (by rw [← hO]; rfl)
 have z7 := B0.blk.frozen 7
 have HO := Lib.hid hO
 have HO2 := Lib.hid hO2
 have HAK := Lib.hid hAK
 clear s1 s1' s1'' s2 s3 q0 q2 q6 q10 m12 m16 hO hO2 hAK
 go_upto_region 26 with fail
 have B1 := B0.put_of (O2 : Int)
 have hg1 := set1 V ⟨w.heap.size,7,none⟩ (.int .i64 (O2 : Int))
 have bR1 := bR0.kept hg1 (fun e => by injection e with e; simp only at e; omega)
 have hB1 := hB0.grown hg1 hB0.size (fun k hk => by cases hk; exact Nat.le_refl _)
 generalize hW : World.setCell V _ _ = V1 at B1 bR1 hB1 ⊢
 clear hW m7 z7 hg1 w1' m20 B0 bP0 bR0 hB0
 obtain ⟨c2,hc2⟩ : ∃ c2 : Cl,{ c with tk := { c.tk with of := (O2 : Int) } } = c2 := ⟨_,rfl⟩
 rw [hc2] at B1
 have HC2 := Lib.hid hc2
 obtain ⟨VL,hVL⟩ : ∃ L,c.tk.vs.length = L := ⟨_,rfl⟩
 rw [hVL] at hlt hvs
 have hc2v : c2.tk.vs = c.tk.vs := by rw [← hc2]
 obtain ⟨va,vc,ev⟩ := B1.cr.bv.1.form
 rw [hc2v,hVL] at ev
 have m6 := B1.blk.cell (j := 6) (v := .slice va VL vc) (by rw [← ev]; rfl)
 have m7 := B1.blk.cell (j := 7) (v := .int .i64 (O2 : Int)) (by rw [← hc2]; rfl)
 have hO2 := HO2.out
 have g1 : decide (O2 < VL) = false := by simp; omega
 have g2 : decide ((O2 : Int) < (VL : Int)) = false := by simp; omega
 have HPR := Lib.hid (show (sp0 c now).prepared p = (sp0 c2 now).send { pd0 with kd := 24,cm := true } by
  unfold Sp.prepared
  rw [if_pos (show p.ha = (sp0 c now).c.ad.ha ∧ p.of = (sp0 c now).c.ad.of ∧ p.vs = (sp0 c now).c.ad.vs from HD.out)]
  have hx : (sp0 c now).c.tk.of + (p.vs.length : Int) = (O2 : Int) := by
   show c.tk.of + (p.vs.length : Int) = _
   rw [HO.out,HK.out]; omega
  rw [hx]
  rw [if_neg (show ¬ (O2 : Int) < ((sp0 c now).c.tk.vs.length : Int) by
   show ¬ (O2 : Int) < (c.tk.vs.length : Int)
   rw [hVL]; omega),← HC2.out]
  rfl)
 have hO2b : O2 ≤ VL ∨ True := .inr trivial
 have HOF := Lib.hid (show c2.tk.of = (O2 : Int) by rw [← hc2])
 have HVL := Lib.hid (And.intro hlt (show c2.tk.vs.length = VL by rw [hc2v,hVL]))
 clear hc2 hVL hc2v ev hlt hO2
 have hrg := B1.range
 go_wp2_with (refine wpList_load_mid rfl 35 _ rfl w.heap.size 0 rfl (k.cells c2) _ hrg Try.underlying35 rfl (by kernel_rfl) ?_)
 refine (rmore_any c2 k R { pd0 with kd := 24,cm := true } (.slice none 0 0) (.slice none 0 0) now V1 B1.cr (BD.nil V1 R) (SR.nil V1 5) (fun i hi => by have := hRl i hi; have := bR1.lt; omega)).mono ?_
 rintro e w1 ⟨⟨k1,o,r1,rfl,hC1,hps,hrs1⟩,hB4⟩
 obtain ⟨x1,hx1⟩ : ∃ x1 : Sp,(sp0 c2 now).send { pd0 with kd := 24,cm := true } = x1 := ⟨_,rfl⟩
 rw [hx1] at hC1 hps hrs1 ⊢
 have HX := Lib.hid hx1
 have bRx := bR1.below hB4
 have hl1 := hB1.trans (hB4.mono hB1.size)
 have hth := bRx.there 0 26 (by simp)
 have hone := hC1.one
 clear hx1 hB4
 go_wp2_with (refine wpList_store_mid rfl 35 _ _ rfl (w.heap.size + 2) 0 (k1.cells x1.c).toArray rfl rfl hth (by kernel_rfl) hone ?_; simp only [Act.put]; generalize hW : World.setCells w1 (w.heap.size + 2) 0 _ = w2; have HW := Lib.hid hW; clear hW)
 obtain ⟨hF,bR4⟩ := fin26 hC1 hps hrs1 bRx rfl hm2 hRs hl1 (by omega)
 rw [show w1.setCells (w.heap.size + 2) 0 (k1.cells x1.c) = w2 from HW.out] at hF bR4
 have hl := run_loadVar_row (P := Try.prog) _ (w.heap.size + 2) 35 35 _ (0,0) _ bR4 Try.underlying35 rfl (by kernel_rfl)
 exact bodyPost_ret (v := .tuple #[.agg (k1.cells x1.c).toArray,o,r1]) (by rw [results_cell_tmp2 rfl]; simp [asAddr,hl]) rfl ⟨by rw [HPR.out,HX.out]; exact ⟨k1,_,_,rfl,hF.1,hF.2.1,hF.2.2.1⟩,hF.2.2.2⟩
/-- what the reference answers to an answer -/
def rans (c : Cl) (p : Pd) (l : List Im) (now : Int) : Sp :=
 if p.kd = 3 then (sp0 { c with mt := min p.mt c.mx } now).endd ⟨1,0,0,[],[],0⟩
 else if p.kd = 17 ∨ p.kd = 5 ∨ (p.kd = 9 ∧ ¬ c.tk.kd = 9) then rlisted c p.kd l now
 else if p.kd = 9 then (sp0 c now).hash l
 else if p.kd = 11 ∨ p.kd = 13 then (sp0 c now).read p.vs
 else if p.kd = 23 then (sp0 c now).prepared p
 else if c.tk.bad = true then (sp0 c now).close else (sp0 c now).endd ⟨4,0,0,[],[],0⟩
theorem ransw_any (c : Cl) (k : Cv) (R0 : List (Option Nat)) (p : Pd) (pb iv : Value) (qs : List (Im × Value)) (now : Int) (w : World) (hC : Cr w R0 c k) (hR0 : ∀ i,some i ∈ R0 → i < w.heap.size) (hw : ∀ t ∈ c.wt,TkOk t ∧ 1 ≤ t.kd ∧ t.kd ≤ 9) (hwl : c.wt.length ≤ 1000) (hI : ItB w w.heap.size iv qs) (hne : p.kd = 17 ∨ p.kd = 5 ∨ p.kd = 9 → 0 < qs.length) (hfo : c.tk.fo.length + qs.length ≤ 100000) (hla : c.tk.la < 65536) (hb : BV w pb p.vs) (hbs : p.vs.length ≤ 1000000) (hvs : c.tk.vs.length ≤ 1000000) (had : c.ad.vs.length ≤ 1000000) (hO : ∃ O : Nat,c.tk.of = (O : Int) ∧ O ≤ 1000000)
 (hk : p.kd = 3 ∨ p.kd = 17 ∨ p.kd = 5 ∨ p.kd = 9 ∨ p.kd = 11 ∨ p.kd = 13 ∨ p.kd = 23 ∨ p.kd = 25 ∨ p.kd = 19) :
 Calls Try.prog 38 #[.agg (k.cells c).toArray,.agg (pdc p pb iv).toArray,.int .i64 now] w fun e w' => Out3 w' R0 e (rans c p (qs.map (·.1)) now) ∧ Below w.heap.size w w' := by
 unfold rans
 by_cases h3 : p.kd = 3
 ·rw [if_pos h3]
  exact ransw_mtu c k R0 p pb iv qs now w hC hR0 hw hwl h3
 rw [if_neg h3]
 by_cases h17 : p.kd = 17
 ·rw [if_pos (.inl h17)]
  exact ransw_17 c k R0 p pb iv qs now w hC hR0 hw hwl hI (hne (.inl h17)) hfo hla h17
 by_cases h5 : p.kd = 5
 ·rw [if_pos (.inr (.inl h5))]
  exact ransw_5 c k R0 p pb iv qs now w hC hR0 hw hwl hI (hne (.inr (.inl h5))) hfo hla h5
 by_cases h9 : p.kd = 9
 ·by_cases hn : c.tk.kd = 9
  ·rw [if_neg (by omega),if_pos h9]
   cases hqs : qs with
   |nil => have := hne (.inr (.inr h9)); rw [hqs] at this; simp at this
   |cons q qt =>
    rw [← hqs]
    have e : qs.map (·.1) = q.1 :: qt.map (·.1) := by rw [hqs]; rfl
    rw [e]
    rw [show (sp0 c now).hash (q.1 :: qt.map (·.1)) = (if q.1.bs.length = 8 then (sp0 c now).endd ⟨3,0,q.1.ha,q.1.bs,[],0⟩ else (sp0 c now).fail 4) from rfl]
    by_cases h8 : q.1.bs.length = 8
    ·rw [if_pos h8]
     exact ransw_hash_ok c k R0 p pb iv qs now w hC hR0 hw hwl hI h9 hn q qt hqs h8
    ·rw [if_neg h8]
     exact ransw_hash_no c k R0 p pb iv qs now w hC hR0 hw hwl hI h9 hn q qt hqs h8
  ·rw [if_pos (.inr (.inr ⟨h9,hn⟩))]
   exact ransw_9 c k R0 p pb iv qs now w hC hR0 hw hwl hI (hne (.inr (.inr h9))) hfo hla h9 hn
 rw [if_neg (by omega),if_neg h9]
 by_cases h11 : p.kd = 11 ∨ p.kd = 13
 ·rw [if_pos h11]
  exact ransw_rd c k R0 p pb iv qs now w hC hR0 hw hwl hb hbs hvs h11
 rw [if_neg h11]
 by_cases h23 : p.kd = 23
 ·rw [if_pos h23]
  by_cases hd : p.ha = c.ad.ha ∧ p.of = c.ad.of ∧ p.vs = c.ad.vs
  ·obtain ⟨O,hO1,hO2⟩ := hO
   by_cases hlt : O + p.vs.length < c.tk.vs.length
   ·exact ransw_23_more c k R0 p pb iv qs now w hC hR0 hw hwl hb hbs hvs had h23 hd O hO1 hO2 hlt
   ·exact ransw_23_done c k R0 p pb iv qs now w hC hR0 hw hwl hb hbs hvs had h23 hd O hO1 hO2 hlt
  ·exact ransw_23_no c k R0 p pb iv qs now w hC hR0 hw hwl hb hbs hvs had h23 hd
 rw [if_neg h23]
 by_cases hbad : c.tk.bad = true
 ·rw [if_pos hbad]
  by_cases h25 : p.kd = 25
  ·exact ransw_25_true c k R0 p pb iv qs now w hC hR0 hw hwl h25 hbad
  ·exact ransw_19_true c k R0 p pb iv qs now w hC hR0 hw hwl (by omega) hbad
 ·rw [if_neg hbad]
  by_cases h25 : p.kd = 25
  ·exact ransw_25_false c k R0 p pb iv qs now w hC hR0 hw hwl h25 (by simpa using hbad)
  ·exact ransw_19_false c k R0 p pb iv qs now w hC hR0 hw hwl (by omega) (by simpa using hbad)
end Go.Proofs.Ytldcihjddebciaa
