/- client: pieces of a value, writing. And what follows it. -/
import Derived.Test.YtldcihjddebciaaGreatDClR
set_option linter.unusedSimpArgs false
set_option linter.unusedVariables false
set_option maxRecDepth 100000
set_option maxHeartbeats 4000000
namespace Go.Proofs.YtldcihjddebciaaGreat
open Go.RowKit
theorem addr_off (b o k : Nat) : ((⟨b,o,none⟩ : Addr).add k) = ⟨b,o + k,none⟩ := by unfold Addr.add; split <;> simp_all
/-- what 's[k:]' hands back -/
theorem bytes_from (w : World) (a : Option Addr) (n c k : Nat) (bs : List Nat) (h : BytesAt w (.slice a n c) bs) (hn : bs.length = n) (hc : n ≤ c) (hk : k ≤ n) :
 ∃ a' c',BytesAt w (.slice a' (n - k) c') (bs.drop k) ∧ n - k ≤ c' ∧ ∀ W,(Instr.slice 27 (.slice a n c) (some (.int .i64 k)) none none).run Tryz.prog W = .ok (.slice a' (n - k) c') W := by
 obtain ⟨⟨h1,h2,h3,ao,cap,e,hnil,hcell⟩,hr,hlt⟩ := h
 rw [hn] at h1 h2 hnil hcell e hr
 cases e
 have hl : (bs.drop k).length = n - k := by simp [hn]
 have hbc : bcells (bs.drop k) = (bcells bs).drop k := by simp [bcells,List.map_drop]
 refine ⟨if c = k then a else a.map (·.add k),c - k,⟨⟨by rw [hl]; omega,by rw [hl,bcells_len,hl]; omega,bcells_one _,_,_,by rw [hl],?_,?_⟩,by rw [hl]; omega,fun x hx => hlt x (List.mem_of_mem_drop hx)⟩,by omega,fun W => ?_⟩
 ·intro e
  have ha : a = none := by
   by_cases hck : c = k
   ·rw [if_pos hck] at e; exact e
   ·rw [if_neg hck] at e; simpa using e
  obtain ⟨h01,h02⟩ := hnil ha
  rw [hl]
  omega
 ·intro h0
  rw [hl] at h0
  obtain ⟨b,off,rfl,hb,hcs⟩ := hcell (by omega)
  rw [if_neg (by omega)]
  refine ⟨b,off + k,by simp [addr_off],hb,fun j u hj => ?_⟩
  rw [hbc,List.getElem?_drop] at hj
  rw [Nat.add_assoc]
  exact hcs (k + j) u hj
 ·have hu : Tryz.prog.underlying 27 = some (.slice (Tryz.prog.elem 27)) := by kernel_rfl
  rw [run_slice_l (ht := hu) (kl := .i64) (l := (k : Int)) (h0 := by omega) (h1 := by omega)]
  have hs : (sizeOf (Tryz.prog.elem 27)).run Tryz.prog W = .ok 1 W := by kernel_rfl
  rw [hs]
  simp [Result.andThen,sliced]
theorem bv_from {w : World} {a : Option Addr} {n c k : Nat} {bs : List Nat} (h : BV w (.slice a n c) bs) (hn : bs.length = n) (hk : k ≤ n) :
 ∃ a' c',BV w (.slice a' (n - k) c') (bs.drop k) ∧ ∀ W,(Instr.slice 27 (.slice a n c) (some (.int .i64 k)) none none).run Tryz.prog W = .ok (.slice a' (n - k) c') W := by
 obtain ⟨a0,c0,e,hc,hby⟩ := h
 rw [hn] at e hc hby
 cases e
 obtain ⟨a',c',h1,h2,h3⟩ := bytes_from w a n c k bs hby hn hc hk
 refine ⟨a',c',⟨a',c',by rw [List.length_drop,hn],by rw [List.length_drop,hn]; exact h2,by rw [List.length_drop,hn]; exact h1⟩,h3⟩
theorem bv_take {w : World} {a : Option Addr} {n c j : Nat} {bs : List Nat} (h : BV w (.slice a n c) bs) (hn : bs.length = n) (hj : j ≤ n) : BV w (.slice a j c) (bs.take j) := by
 obtain ⟨a0,c0,e,hc,hby⟩ := h
 rw [hn] at e hc hby
 cases e
 obtain ⟨⟨h1,h2,h3,ao,cap,e,hnil,hcell⟩,hr,hlt⟩ := hby
 rw [hn] at h1 e hr hnil hcell
 cases e
 have hl : (bs.take j).length = j := by simp [hn]; omega
 have hbc : bcells (bs.take j) = (bcells bs).take j := by simp [bcells,List.map_take]
 refine ⟨a,c,by rw [hl],by rw [hl]; omega,⟨by rw [hl]; omega,by simp [bcells],bcells_one _,a,c,rfl,fun h0 => ?_,fun h0 => ?_⟩,by rw [hl]; omega,fun x hx => hlt x (List.mem_of_mem_take hx)⟩
 ·obtain ⟨q1,q2⟩ := hnil h0
  exact ⟨by rw [hl]; omega,q2⟩
 ·rw [hl] at h0
  obtain ⟨b,off,rfl,hb,hcs⟩ := hcell (by omega)
  refine ⟨b,off,rfl,hb,fun q u hq => ?_⟩
  rw [hbc,List.getElem?_take] at hq
  split at hq
  ·exact hcs q u hq
  ·cases hq
theorem piece_any (X : Nat) (mt : Int) (kd : Int) (fi la ha : Int) (bv : Value) (o : Nat) (fv : Value) (bad : Bool) (vs : List Nat) (w : World) (hc : w.cell? ⟨X,0,none⟩ = some (.int .i64 mt)) (h : BV w bv vs) (hm : vs.length ≤ 1000000) (ho : o ≤ vs.length) :
 Calls Tryz.prog 74 #[.pointer (some ⟨X,0,none⟩),.agg #[.int .i64 kd,.int .u16 fi,.int .u16 la,.int .u16 ha,bv,.int .i64 (o : Nat),fv,.bool bad]] w fun e w' => ∃ vv,e = .returned (.agg #[.int .i64 22,.int .i64 0,.int .u16 ha,.int .u16 0,.int .u64 0,.int .u64 0,.int .i64 (o : Nat),.int .i64 0,.int .i64 0,.bool false,vv,.slice none 0 0]) ∧ BV w' vv ((vs.drop o).take (roomI 22 mt).toNat) ∧ Own w.heap.size vv ∧ Below w.heap.size w w' := by
 have hBV := h
 obtain ⟨a,c,rfl,hcap,_⟩ := h
 obtain ⟨L,hL⟩ : ∃ L,vs.length = L := ⟨_,rfl⟩
 rw [hL] at hBV hm ho hcap ⊢
 obtain ⟨a1,c1,hBV1,hrun1⟩ := bv_from hBV hL ho
 obtain ⟨M,hM⟩ : ∃ M,L - o = M := ⟨_,rfl⟩
 rw [hM] at hBV1 hrun1
 have hl1 : (vs.drop o).length = M := by rw [List.length_drop,hL,hM]
 have hro : 0 ≤ roomI 22 mt := by unfold roomI mtuI; omega
 obtain ⟨R,hR⟩ : ∃ R : Nat,roomI 22 mt = (R : Int) := ⟨(roomI 22 mt).toNat,by omega⟩
 have hroom := fun W => room_any 22 mt W
 simp only [hR] at hroom
 rw [hR,Int.toNat_natCast]
 obtain ⟨LL,hLL⟩ : ∃ LL,min M R = LL := ⟨_,rfl⟩
 have hBV2 := bv_take hBV1 hl1 (show LL ≤ M by omega)
 have htk : (vs.drop o).take R = (vs.drop o).take LL := by
  rw [← hLL]
  by_cases h : R ≤ M
  ·rw [Nat.min_eq_right h]
  ·rw [Nat.min_eq_left (by omega),List.take_of_length_le (by omega),List.take_of_length_le (by omega)]
 rw [htk]
 have hll : ((vs.drop o).take LL).length = LL := by rw [List.length_take,hl1]; omega
 have HLL := Lib.hid hll
 have HBV := Lib.hid (show ∀ W : World,Below w.heap.size w W → BV W (.slice a1 LL c1) ((vs.drop o).take LL) from fun W hW => hBV2.below hW)
 have HRM := Lib.hid hroom
 have hmc : M ≤ c1 := by
  obtain ⟨_,_,e,hc,_⟩ := hBV1
  cases e
  rw [hl1] at hc
  exact hc
 have HC := Lib.hid hc
 have hLLb : LL ≤ 1000000 := by omega
 have T0 := cells_new w [.int .i64 kd,.int .u16 fi,.int .u16 la,.int .u16 ha,.slice a L c,.int .i64 (o : Nat),fv,.bool bad] 46
 have ha0 : Below w.heap.size w (w.alloc (.cells #[.int .i64 kd,.int .u16 fi,.int .u16 la,.int .u16 ha,.slice a L c,.int .i64 (o : Nat),fv,.bool bad] 46)) := (Below.refl _ _).alloc (Nat.le_refl _) _
 have hz0 : (w.alloc (.cells #[.int .i64 kd,.int .u16 fi,.int .u16 la,.int .u16 ha,.slice a L c,.int .i64 (o : Nat),fv,.bool bad] 46)).heap.size = w.heap.size + 1 := by simp
 have b0 := Blk.new (w.alloc (.cells #[.int .i64 kd,.int .u16 fi,.int .u16 la,.int .u16 ha,.slice a L c,.int .i64 (o : Nat),fv,.bool bad] 46)) 49 [.int .i64 0,.int .i64 0,.int .u16 0,.int .u16 0,.int .u64 0,.int .u64 0,.int .i64 0,.int .i64 0,.int .i64 0,.bool false,.slice none 0 0,.slice none 0 0]
 rw [hz0] at b0
 have T1 := T0.keep ((Below.refl _ _).alloc (Nat.le_refl _) (.cells #[.int .i64 0,.int .i64 0,.int .u16 0,.int .u16 0,.int .u64 0,.int .u64 0,.int .i64 0,.int .i64 0,.int .i64 0,.bool false,.slice none 0 0,.slice none 0 0] 49))
 have hB1 : Below w.heap.size w ((w.alloc (.cells #[.int .i64 kd,.int .u16 fi,.int .u16 la,.int .u16 ha,.slice a L c,.int .i64 (o : Nat),fv,.bool bad] 46)).alloc (.cells #[.int .i64 0,.int .i64 0,.int .u16 0,.int .u16 0,.int .u64 0,.int .u64 0,.int .i64 0,.int .i64 0,.int .i64 0,.bool false,.slice none 0 0,.slice none 0 0] 49)) := ha0.alloc ha0.size _
 clear hBV hBV1 hBV2 hL hl1 hro hR hroom htk hll hc
 have n1 : ((o : Nat) : Int) ≤ (L : Int) := by omega
 have n2 : (0 : Int) ≤ ((o : Nat) : Int) := by omega
 have m3 : (if R < M then (R : Int) else (M : Int)) = (LL : Int) := by split <;> omega
 have m4 : (if 0 < o then ((o : Nat) : Int) else 0) = (o : Int) := by split <;> omega
 have m5 : (if (R : Int) < (M : Int) then (R : Int) else (M : Int)) = (LL : Int) := by split <;> omega
 have m6 : (if M ≤ R then (M : Int) else (R : Int)) = (LL : Int) := by split <;> omega
 have n3 : (0 : Int) ≤ (LL : Int) := by omega
 have n4 : (LL : Int) ≤ (c1 : Int) := by omega
 have n5 : (LL : Int) ≤ (M : Int) := by omega
 have HM := Lib.hid hM
 have HLM := Lib.hid hLL
 clear hM hLL
 go_enter Tryz.func74,Tryz.ntmps74
 go_upto_region 1 with fail
 generalize hV : World.alloc (World.alloc w _) _ = V at T1 hB1 b0 ⊢
 clear hV T0 ha0 hz0
 have x0 := kc HC.out hB1
 have hOpen := T1
 simp only [Cells,blk,List.cons_append,List.nil_append,and_true,Nat.reduceAdd,Nat.add_zero,Nat.zero_add] at hOpen
 obtain ⟨t0,t1,t2,t3,t4,t5,t6,t7⟩ := hOpen
 go_wp2_with fail
 refine (HRM.out _).mono ?_
 rintro e w' ⟨rfl,rfl⟩
 go_upto_region 3 with fail
 clear t0 t1 t2 t3 t4 t5 t6 t7 x0 m3 m4 m5 m6 hrun1
 have hBd := hB1.drew
 have bD := show Blk V.drew _ _ _ from b0
 have T1d := T1.drew
 refine wp_region_held_drew (S := (fun W' : World => Cells W' (blk w.heap.size 0 0 [.int .i64 kd,.int .u16 fi,.int .u16 la,.int .u16 ha,.slice a L c,.int .i64 (o : Nat),fv,.bool bad]))) (by kernel_rfl) (T1d) (fun hHeld => ?_)
 generalize World.drew _ = wd at hHeld hBd bD T1d ⊢
 refine tkU 0 ?_
 refine tkU 1 ?_
 refine tkU 2 ?_
 refine tkU 3 ?_
 refine tkU 4 ?_
 refine rd1 5 fun K hK => ?_
 go_simp
 generalize hX : World.alloc _ (.cells _ 27) = w6
 obtain ⟨h6,hB6,h6z⟩ := alloc_named hX
 clear hX h6z
 have hB2 := hBd.trans (hB6.mono hBd.size)
 have bR6 := bD.below hB6
 have T2 := T1d.keep hB6
 have HJ := Lib.hid (join_one _ _ _ _ _ h6 (HBV.out _ hB2) (by rw [HLL.out]; omega))
 clear h6
 clear hHeld
 refine hK.out _ _ (T2) (fun hHeld => ?_)
 clear hK K
 try simp only [Act.put,List.setIfInBounds_toArray,List.set_cons_zero,List.set_cons_succ]
 refine rd1 6 fun K hK => ?_
 go_simp
 go_at_call 34
 refine HJ.out.mono ?_
 rintro e w7 ⟨vv,rfl,hbv,hov,hC⟩
 have bR := bR6.below hC
 have hBR := hB2.trans (hC.mono hB2.size)
 have T3 := T2.keep hC
 have HV := Lib.hid hbv
 have HO := Lib.hid (hov.mono hB2.size)
 have hlt := bR6.lt
 obtain ⟨va,vc,rfl,_,_⟩ := hbv
 rw [HLL.out] at HV HO ⊢
 have hne : (Value.slice va LL vc).ownBlock ≠ some (w.heap.size + 1) := fun e => by have := hov _ (by rw [HLL.out]; exact e); omega
 clear hov hC HJ
 have hOpen := bR.cells
 simp only [Cells,blk,List.cons_append,List.nil_append,and_true,Nat.reduceAdd,Nat.add_zero,Nat.zero_add] at hOpen
 obtain ⟨q0,q1,q2,q3,q4,q5,q6,q7,q8,q9,q10,q11⟩ := hOpen
 have z0 := bR.frozen 0
 have z1 := bR.frozen 1
 have z2 := bR.frozen 2
 have z3 := bR.frozen 3
 have z4 := bR.frozen 4
 have z5 := bR.frozen 5
 have z6 := bR.frozen 6
 have z7 := bR.frozen 7
 have z8 := bR.frozen 8
 have z9 := bR.frozen 9
 have z10 := bR.frozen 10
 have z11 := bR.frozen 11
 clear hHeld
 refine hK.out _ _ (T3) (fun hHeld => ?_)
 clear hK K
 try simp only [Act.put,List.setIfInBounds_toArray,List.set_cons_zero,List.set_cons_succ]
 refine tkU 7 ?_
 refine rd1 8 fun K hK => ?_
 go_simp
 generalize hY : World.setCell _ _ _ = Y
 obtain ⟨bY,hgY⟩ := set12 bR hY
 have hBY := hBR.grown hgY hBR.size (fun q hq => by cases hq; omega)
 have TY := T3.grown hgY (fun x hx => by rw [blk_fst hx]; omega)
 have HV2 := Lib.hid (HV.out.grown hgY hne)
 clear hY q0 q1 q2 q3 q4 q5 q6 q7 q8 q9 q10 q11 z0 z1 z2 z3 z4 z5 z6 z7 z8 z9 z10 z11
 clear hHeld
 refine hK.out _ _ (TY) (fun hHeld => ?_)
 clear hK K
 try simp only [Act.put,List.setIfInBounds_toArray,List.set_cons_zero,List.set_cons_succ]
 refine wpAnyH_done (by kernel_rfl) ?_ _
 have hOpen := bY.cells
 simp only [Cells,blk,List.cons_append,List.nil_append,and_true,Nat.reduceAdd,Nat.add_zero,Nat.zero_add] at hOpen
 obtain ⟨q0,q1,q2,q3,q4,q5,q6,q7,q8,q9,q10,q11⟩ := hOpen
 clear TY hHeld
 go_wp2
 refine bodyPost_ret (v := .agg #[.int .i64 22,.int .i64 0,.int .u16 ha,.int .u16 0,.int .u64 0,.int .u64 0,.int .i64 (o : Nat),.int .i64 0,.int .i64 0,.bool false,.slice va LL vc,.slice none 0 0]) (by simp [results,Tryz.results74,go_sem,q0,q1,q2,q3,q4,q5,q6,q7,q8,q9,q10,q11]) rfl ?_
 exact ⟨_,rfl,HV2.out,HO.out,hBY⟩
theorem writing_short (X : Nat) (mt : Int) (kd : Int) (fi la ha : Int) (bv : Value) (fv : Value) (bad : Bool) (vs : List Nat) (w : World) (hc : w.cell? ⟨X,0,none⟩ = some (.int .i64 mt)) (h : BV w bv vs) (hm : vs.length ≤ 1000000) (hr : (vs.length : Int) ≤ roomI 18 mt) :
 Calls Tryz.prog 73 #[.pointer (some ⟨X,0,none⟩),.agg #[.int .i64 kd,.int .u16 fi,.int .u16 la,.int .u16 ha,bv,.int .i64 0,fv,.bool bad]] w fun e w' => ∃ vv,e = .returned (.agg #[.int .i64 18,.int .i64 0,.int .u16 ha,.int .u16 0,.int .u64 0,.int .u64 0,.int .i64 0,.int .i64 0,.int .i64 0,.bool false,vv,.slice none 0 0]) ∧ BV w' vv vs ∧ Own w.heap.size vv ∧ Below w.heap.size w w' := by
 have hBV := h
 obtain ⟨a,c,rfl,hcap,_⟩ := h
 obtain ⟨L,hL⟩ : ∃ L,vs.length = L := ⟨_,rfl⟩
 rw [hL] at hBV hm hcap hr ⊢
 have hroom := fun W => room_any 18 mt W
 obtain ⟨R,hR⟩ : ∃ R,roomI 18 mt = R := ⟨_,rfl⟩
 rw [hR] at hr
 simp only [hR] at hroom
 have gR : decide (R < (L : Int)) = false := by simp; omega
 have HRM := Lib.hid hroom
 have HC := Lib.hid hc
 have HBV0 := Lib.hid hBV
 have HLV := Lib.hid hL
 have hlX : X < w.heap.size := World.block_lt_of_cell? w _ hc
 have T0 := cells_new w [.int .i64 kd,.int .u16 fi,.int .u16 la,.int .u16 ha,.slice a L c,.int .i64 0,fv,.bool bad] 46
 have ha0 : Below w.heap.size w (w.alloc (.cells #[.int .i64 kd,.int .u16 fi,.int .u16 la,.int .u16 ha,.slice a L c,.int .i64 0,fv,.bool bad] 46)) := (Below.refl _ _).alloc (Nat.le_refl _) _
 have hz0 : (w.alloc (.cells #[.int .i64 kd,.int .u16 fi,.int .u16 la,.int .u16 ha,.slice a L c,.int .i64 0,fv,.bool bad] 46)).heap.size = w.heap.size + 1 := by simp
 have b0 := Blk.new (w.alloc (.cells #[.int .i64 kd,.int .u16 fi,.int .u16 la,.int .u16 ha,.slice a L c,.int .i64 0,fv,.bool bad] 46)) 49 [.int .i64 0,.int .i64 0,.int .u16 0,.int .u16 0,.int .u64 0,.int .u64 0,.int .i64 0,.int .i64 0,.int .i64 0,.bool false,.slice none 0 0,.slice none 0 0]
 rw [hz0] at b0
 have T1 := T0.keep ((Below.refl _ _).alloc (Nat.le_refl _) (.cells #[.int .i64 0,.int .i64 0,.int .u16 0,.int .u16 0,.int .u64 0,.int .u64 0,.int .i64 0,.int .i64 0,.int .i64 0,.bool false,.slice none 0 0,.slice none 0 0] 49))
 have hB1 : Below w.heap.size w ((w.alloc (.cells #[.int .i64 kd,.int .u16 fi,.int .u16 la,.int .u16 ha,.slice a L c,.int .i64 0,fv,.bool bad] 46)).alloc (.cells #[.int .i64 0,.int .i64 0,.int .u16 0,.int .u16 0,.int .u64 0,.int .u64 0,.int .i64 0,.int .i64 0,.int .i64 0,.bool false,.slice none 0 0,.slice none 0 0] 49)) := ha0.alloc ha0.size _
 clear hBV hR hroom hc hL
 go_enter Tryz.func73,Tryz.ntmps73
 go_upto_region 1 with fail
 generalize hV : World.alloc (World.alloc w _) _ = V at T1 hB1 b0 ⊢
 clear hV T0 ha0 hz0
 have TA : Cells V (blk w.heap.size 0 0 [.int .i64 kd,.int .u16 fi,.int .u16 la,.int .u16 ha,.slice a L c,.int .i64 0,fv,.bool bad] ++ [(X,0,.int .i64 mt)]) := T1.app ⟨kc HC.out hB1,trivial⟩
 have hBd := hB1.drew
 have bD := show Blk V.drew _ _ _ from b0
 have T1d := T1.drew
 have TAd := TA.drew
 refine wp_region_held_drew (S := (fun W' : World => Cells W' (blk w.heap.size 0 0 [.int .i64 kd,.int .u16 fi,.int .u16 la,.int .u16 ha,.slice a L c,.int .i64 0,fv,.bool bad] ++ [(X,0,.int .i64 mt)]))) (by kernel_rfl) (TAd) (fun hHeld => ?_)
 generalize World.drew _ = wd at hHeld hBd bD T1d TAd ⊢
 refine tkU 0 ?_
 refine tkU 1 ?_
 refine tkU 2 ?_
 refine tkU 3 ?_
 refine tkU 4 ?_
 refine tkU 5 ?_
 refine tkU 6 ?_
 refine tkU 7 ?_
 refine rd1 8 fun K hK => ?_
 go_simp
 go_at_call 104
 refine (HRM.out _).mono ?_
 rintro e w' ⟨rfl,rfl⟩
 clear hHeld
 refine hK.out _ _ (TAd) (fun hHeld => ?_)
 clear hK K
 try simp only [Act.put,List.setIfInBounds_toArray,List.set_cons_zero,List.set_cons_succ]
 refine tkU 9 ?_
 refine wpAnyH_done (by kernel_rfl) ?_ _
 clear hHeld
 go_upto_region 3 with fail
 have HBV := Lib.hid (show ∀ W : World,Below w.heap.size w W → BV W (.slice a L c) vs from fun W hW => HBV0.out.below hW)
 obtain ⟨LL,hLL⟩ : ∃ LL,L = LL := ⟨_,rfl⟩
 subst hLL
 have HLL := HLV
 clear T1 hB1 b0 TA TAd
 have T1 := T1d
 have hB1 := hBd
 have b0 := bD
 clear T1d hBd bD
 have hBd := hB1.drew
 have bD := show Blk wd.drew _ _ _ from b0
 have T1d := T1.drew
 refine wp_region_held_drew (S := (fun W' : World => Cells W' (blk w.heap.size 0 0 [.int .i64 kd,.int .u16 fi,.int .u16 la,.int .u16 ha,.slice a L c,.int .i64 0,fv,.bool bad]))) (by kernel_rfl) (T1d) (fun hHeld => ?_)
 generalize World.drew _ = wd at hHeld hBd bD T1d ⊢
 refine tkU 0 ?_
 refine tkU 1 ?_
 refine tkU 2 ?_
 refine tkU 3 ?_
 refine rd1 4 fun K hK => ?_
 go_simp
 generalize hX : World.alloc _ (.cells _ 27) = w6
 obtain ⟨h6,hB6,h6z⟩ := alloc_named hX
 clear hX h6z
 have hB2 := hBd.trans (hB6.mono hBd.size)
 have bR6 := bD.below hB6
 have T2 := T1d.keep hB6
 have HJ := Lib.hid (join_one _ _ _ _ _ h6 (HBV.out _ hB2) (by rw [HLL.out]; omega))
 clear h6
 clear hHeld
 refine hK.out _ _ (T2) (fun hHeld => ?_)
 clear hK K
 try simp only [Act.put,List.setIfInBounds_toArray,List.set_cons_zero,List.set_cons_succ]
 refine rd1 5 fun K hK => ?_
 go_simp
 go_at_call 34
 refine HJ.out.mono ?_
 rintro e w7 ⟨vv,rfl,hbv,hov,hC⟩
 have bR := bR6.below hC
 have hBR := hB2.trans (hC.mono hB2.size)
 have T3 := T2.keep hC
 have HV := Lib.hid hbv
 have HO := Lib.hid (hov.mono hB2.size)
 have hlt := bR6.lt
 obtain ⟨va,vc,rfl,_,_⟩ := hbv
 rw [HLL.out] at HV HO ⊢
 have hne : (Value.slice va L vc).ownBlock ≠ some (w.heap.size + 1) := fun e => by have := hov _ (by rw [HLL.out]; exact e); omega
 clear hov hC HJ
 have hOpen := bR.cells
 simp only [Cells,blk,List.cons_append,List.nil_append,and_true,Nat.reduceAdd,Nat.add_zero,Nat.zero_add] at hOpen
 obtain ⟨q0,q1,q2,q3,q4,q5,q6,q7,q8,q9,q10,q11⟩ := hOpen
 have z0 := bR.frozen 0
 have z1 := bR.frozen 1
 have z2 := bR.frozen 2
 have z3 := bR.frozen 3
 have z4 := bR.frozen 4
 have z5 := bR.frozen 5
 have z6 := bR.frozen 6
 have z7 := bR.frozen 7
 have z8 := bR.frozen 8
 have z9 := bR.frozen 9
 have z10 := bR.frozen 10
 have z11 := bR.frozen 11
 clear hHeld
 refine hK.out _ _ (T3) (fun hHeld => ?_)
 clear hK K
 try simp only [Act.put,List.setIfInBounds_toArray,List.set_cons_zero,List.set_cons_succ]
 refine tkU 6 ?_
 refine rd1 7 fun K hK => ?_
 go_simp
 generalize hY : World.setCell _ _ _ = Y
 obtain ⟨bY,hgY⟩ := set12 bR hY
 have hBY := hBR.grown hgY hBR.size (fun q hq => by cases hq; omega)
 have TY := T3.grown hgY (fun x hx => by rw [blk_fst hx]; omega)
 have HV2 := Lib.hid (HV.out.grown hgY hne)
 clear hY q0 q1 q2 q3 q4 q5 q6 q7 q8 q9 q10 q11 z0 z1 z2 z3 z4 z5 z6 z7 z8 z9 z10 z11
 clear hHeld
 refine hK.out _ _ (TY) (fun hHeld => ?_)
 clear hK K
 try simp only [Act.put,List.setIfInBounds_toArray,List.set_cons_zero,List.set_cons_succ]
 refine wpAnyH_done (by kernel_rfl) ?_ _
 have hOpen := bY.cells
 simp only [Cells,blk,List.cons_append,List.nil_append,and_true,Nat.reduceAdd,Nat.add_zero,Nat.zero_add] at hOpen
 obtain ⟨q0,q1,q2,q3,q4,q5,q6,q7,q8,q9,q10,q11⟩ := hOpen
 clear TY hHeld
 go_wp2
 refine bodyPost_ret (v := .agg #[.int .i64 18,.int .i64 0,.int .u16 ha,.int .u16 0,.int .u64 0,.int .u64 0,.int .i64 0,.int .i64 0,.int .i64 0,.bool false,.slice va L vc,.slice none 0 0]) (by simp [results,Tryz.results73,go_sem,q0,q1,q2,q3,q4,q5,q6,q7,q8,q9,q10,q11]) rfl ?_
 exact ⟨_,rfl,HV2.out,HO.out,hBY⟩
theorem piece0_any (X : Nat) (mt : Int) (kd : Int) (fi la ha : Int) (bv : Value) (fv : Value) (bad : Bool) (vs : List Nat) (w : World) (hc : w.cell? ⟨X,0,none⟩ = some (.int .i64 mt)) (h : BV w bv vs) (hm : vs.length ≤ 1000000) :
 Calls Tryz.prog 74 #[.pointer (some ⟨X,0,none⟩),.agg #[.int .i64 kd,.int .u16 fi,.int .u16 la,.int .u16 ha,bv,.int .i64 0,fv,.bool bad]] w fun e w' => ∃ vv,e = .returned (.agg #[.int .i64 22,.int .i64 0,.int .u16 ha,.int .u16 0,.int .u64 0,.int .u64 0,.int .i64 0,.int .i64 0,.int .i64 0,.bool false,vv,.slice none 0 0]) ∧ BV w' vv (vs.take (roomI 22 mt).toNat) ∧ Own w.heap.size vv ∧ Below w.heap.size w w' :=
 piece_any X mt kd fi la ha bv 0 fv bad vs w hc h hm (Nat.zero_le _)
theorem writing_long (X : Nat) (mt : Int) (kd : Int) (fi la ha : Int) (bv : Value) (fv : Value) (bad : Bool) (vs : List Nat) (w : World) (hc : w.cell? ⟨X,0,none⟩ = some (.int .i64 mt)) (h : BV w bv vs) (hm : vs.length ≤ 1000000) (hr : roomI 18 mt < (vs.length : Int)) :
 Calls Tryz.prog 73 #[.pointer (some ⟨X,0,none⟩),.agg #[.int .i64 kd,.int .u16 fi,.int .u16 la,.int .u16 ha,bv,.int .i64 0,fv,.bool bad]] w fun e w' => ∃ vv,e = .returned (.agg #[.int .i64 22,.int .i64 0,.int .u16 ha,.int .u16 0,.int .u64 0,.int .u64 0,.int .i64 0,.int .i64 0,.int .i64 0,.bool false,vv,.slice none 0 0]) ∧ BV w' vv (vs.take (roomI 22 mt).toNat) ∧ Own w.heap.size vv ∧ Below w.heap.size w w' := by
 have hBV := h
 obtain ⟨a,c,rfl,hcap,_⟩ := h
 obtain ⟨L,hL⟩ : ∃ L,vs.length = L := ⟨_,rfl⟩
 rw [hL] at hBV hm hcap hr ⊢
 have hroom := fun W => room_any 18 mt W
 obtain ⟨R,hR⟩ : ∃ R,roomI 18 mt = R := ⟨_,rfl⟩
 rw [hR] at hr
 simp only [hR] at hroom
 have gR : decide (R < (L : Int)) = true := by simp; omega
 have HRM := Lib.hid hroom
 have HC := Lib.hid hc
 have HBV0 := Lib.hid hBV
 have HLV := Lib.hid hL
 have hlX : X < w.heap.size := World.block_lt_of_cell? w _ hc
 have T0 := cells_new w [.int .i64 kd,.int .u16 fi,.int .u16 la,.int .u16 ha,.slice a L c,.int .i64 0,fv,.bool bad] 46
 have ha0 : Below w.heap.size w (w.alloc (.cells #[.int .i64 kd,.int .u16 fi,.int .u16 la,.int .u16 ha,.slice a L c,.int .i64 0,fv,.bool bad] 46)) := (Below.refl _ _).alloc (Nat.le_refl _) _
 have hz0 : (w.alloc (.cells #[.int .i64 kd,.int .u16 fi,.int .u16 la,.int .u16 ha,.slice a L c,.int .i64 0,fv,.bool bad] 46)).heap.size = w.heap.size + 1 := by simp
 have b0 := Blk.new (w.alloc (.cells #[.int .i64 kd,.int .u16 fi,.int .u16 la,.int .u16 ha,.slice a L c,.int .i64 0,fv,.bool bad] 46)) 49 [.int .i64 0,.int .i64 0,.int .u16 0,.int .u16 0,.int .u64 0,.int .u64 0,.int .i64 0,.int .i64 0,.int .i64 0,.bool false,.slice none 0 0,.slice none 0 0]
 rw [hz0] at b0
 have T1 := T0.keep ((Below.refl _ _).alloc (Nat.le_refl _) (.cells #[.int .i64 0,.int .i64 0,.int .u16 0,.int .u16 0,.int .u64 0,.int .u64 0,.int .i64 0,.int .i64 0,.int .i64 0,.bool false,.slice none 0 0,.slice none 0 0] 49))
 have hB1 : Below w.heap.size w ((w.alloc (.cells #[.int .i64 kd,.int .u16 fi,.int .u16 la,.int .u16 ha,.slice a L c,.int .i64 0,fv,.bool bad] 46)).alloc (.cells #[.int .i64 0,.int .i64 0,.int .u16 0,.int .u16 0,.int .u64 0,.int .u64 0,.int .i64 0,.int .i64 0,.int .i64 0,.bool false,.slice none 0 0,.slice none 0 0] 49)) := ha0.alloc ha0.size _
 clear hBV hR hroom hc hL
 go_enter Tryz.func73,Tryz.ntmps73
 go_upto_region 1 with fail
 generalize hV : World.alloc (World.alloc w _) _ = V at T1 hB1 b0 ⊢
 clear hV T0 ha0 hz0
 have TA : Cells V (blk w.heap.size 0 0 [.int .i64 kd,.int .u16 fi,.int .u16 la,.int .u16 ha,.slice a L c,.int .i64 0,fv,.bool bad] ++ [(X,0,.int .i64 mt)]) := T1.app ⟨kc HC.out hB1,trivial⟩
 have hBd := hB1.drew
 have bD := show Blk V.drew _ _ _ from b0
 have T1d := T1.drew
 have TAd := TA.drew
 refine wp_region_held_drew (S := (fun W' : World => Cells W' (blk w.heap.size 0 0 [.int .i64 kd,.int .u16 fi,.int .u16 la,.int .u16 ha,.slice a L c,.int .i64 0,fv,.bool bad] ++ [(X,0,.int .i64 mt)]))) (by kernel_rfl) (TAd) (fun hHeld => ?_)
 generalize World.drew _ = wd at hHeld hBd bD T1d TAd ⊢
 refine tkU 0 ?_
 refine tkU 1 ?_
 refine tkU 2 ?_
 refine tkU 3 ?_
 refine tkU 4 ?_
 refine tkU 5 ?_
 refine tkU 6 ?_
 refine tkU 7 ?_
 refine rd1 8 fun K hK => ?_
 go_simp
 go_at_call 104
 refine (HRM.out _).mono ?_
 rintro e w' ⟨rfl,rfl⟩
 clear hHeld
 refine hK.out _ _ (TAd) (fun hHeld => ?_)
 clear hK K
 try simp only [Act.put,List.setIfInBounds_toArray,List.set_cons_zero,List.set_cons_succ]
 refine tkU 9 ?_
 refine wpAnyH_done (by kernel_rfl) ?_ _
 clear hHeld
 have HPC := Lib.hid (piece0_any X mt kd fi la ha (.slice a L c) fv bad vs wd (kc HC.out hBd) (HBV0.out.below hBd) (by rw [HLV.out]; exact hm))
 have hOpen := T1d
 simp only [Cells,blk,List.cons_append,List.nil_append,and_true,Nat.reduceAdd,Nat.add_zero,Nat.zero_add] at hOpen
 obtain ⟨t0,t1,t2,t3,t4,t5,t6,t7⟩ := hOpen
 go_wp2_with fail
 refine HPC.out.mono ?_
 rintro e w7 ⟨vv,rfl,hbv,hov,hC⟩
 have bR := bD.below hC
 have hlt := bD.lt
 have hBR := hBd.trans (hC.mono hBd.size)
 have HV := Lib.hid hbv
 have HO := Lib.hid (hov.mono hBd.size)
 have hne : vv.ownBlock ≠ some (w.heap.size + 1) := fun e => by have := hov _ e; omega
 obtain ⟨LL,hLL⟩ : ∃ LL,(vs.take (roomI 22 mt).toNat).length = LL := ⟨_,rfl⟩
 obtain ⟨va,vc,rfl,_,_⟩ := hbv
 rw [hLL] at HV HO hne ⊢
 clear hov hC HPC t0 t1 t2 t3 t4 t5 t6 t7 T1d TAd bD hBd hLL T1 hB1 b0 TA
 have hOpen := bR.cells
 simp only [Cells,blk,List.cons_append,List.nil_append,and_true,Nat.reduceAdd,Nat.add_zero,Nat.zero_add] at hOpen
 obtain ⟨q0,q1,q2,q3,q4,q5,q6,q7,q8,q9,q10,q11⟩ := hOpen
 have z0 := bR.frozen 0
 have z1 := bR.frozen 1
 have z2 := bR.frozen 2
 have z3 := bR.frozen 3
 have z4 := bR.frozen 4
 have z5 := bR.frozen 5
 have z6 := bR.frozen 6
 have z7 := bR.frozen 7
 have z8 := bR.frozen 8
 have z9 := bR.frozen 9
 have z10 := bR.frozen 10
 have z11 := bR.frozen 11
 go_wp2
 generalize hY : World.setCell _ _ _ = Y
 obtain ⟨bY,hgY⟩ := set12 bR hY
 have hBY := hBR.grown hgY hBR.size (fun q hq => by cases hq; omega)
 have HV2 := Lib.hid (HV.out.grown hgY hne)
 clear hY q0 q1 q2 q3 q4 q5 q6 q7 q8 q9 q10 q11 z0 z1 z2 z3 z4 z5 z6 z7 z8 z9 z10 z11
 have hOpen := bY.cells
 simp only [Cells,blk,List.cons_append,List.nil_append,and_true,Nat.reduceAdd,Nat.add_zero,Nat.zero_add] at hOpen
 obtain ⟨q0,q1,q2,q3,q4,q5,q6,q7,q8,q9,q10,q11⟩ := hOpen
 refine bodyPost_ret (v := .agg #[.int .i64 22,.int .i64 0,.int .u16 ha,.int .u16 0,.int .u64 0,.int .u64 0,.int .i64 0,.int .i64 0,.int .i64 0,.bool false,.slice va LL vc,.slice none 0 0]) (by simp [results,Tryz.results73,go_sem,q0,q1,q2,q3,q4,q5,q6,q7,q8,q9,q10,q11]) rfl ?_
 exact ⟨_,rfl,HV2.out,HO.out,hBY⟩
end Go.Proofs.YtldcihjddebciaaGreat
namespace Go.Proofs.YtldcihjddebciaaGreat
open Go.RowKit Go.Maps
theorem Tryz.law_int : Keyed Tryz.prog 3 := int_keyed Tryz.underlying3
def fnV (f : Nat) : Value := .func (.func f) #[] #[]
def whV (b : Nat) : Value := .func (.func 103) #[] #[.pointer (some ⟨b,0,none⟩),.pointer (some ⟨b + 1,0,none⟩)]
def stZ : Value := .agg #[.nilFunc,.nilFunc,.nilFunc]
theorem zero_step (w : World) : (zeroValue 98).run Tryz.prog w = .ok stZ w := by kernel_rfl
/-- a map that reads as a list of numbers and values -/
def SD (D : DataW Value) (l : List (Int × Value)) : Prop := Maps.IsMap D ∧ ∀ id : Int,Maps.has D (.int .i64 id) = (l.lookup id).isSome ∧ D.atKey (.int .i64 id) (.held stZ) = .held ((l.lookup id).getD stZ)
theorem SD.made : SD (.map []) [] := ⟨isMap_empty,fun _ => ⟨rfl,rfl⟩⟩
theorem SD.put {D : DataW Value} {l : List (Int × Value)} (h : SD D l) (k : Int) (v : Value) : SD (D.put (.int .i64 k) (.held v)) ((k,v) :: l) := by
 refine ⟨h.1.put _ _,fun id => ?_⟩
 by_cases h1 : id = k
 ·subst h1
  rw [List.lookup_cons_self]
  exact ⟨has_put_same h.1 (by trivial) _,atKey_put_same h.1 (by trivial) _ _⟩
 ·have e : List.lookup id ((k,v) :: l) = List.lookup id l := by
   rw [List.lookup_cons]
   have : (id == k) = false := by simpa using h1
   rw [this]
  rw [e]
  have hne : Lit.int .i64 id ≠ .int .i64 k := fun e => h1 (by injection e with _ e)
  rw [has_put_other hne,atKey_put_other hne]
  exact h.2 id
/-- how a step reads -/
def stR (v : Value) : Option (DataW Value × List MemPlace) := some (.held v,[])
/-- a map of the call's own that reads as a list of numbers and steps -/
def StM (w : World) (B : Nat) (l : List (Int × Value)) : Prop := ∃ D,w.ownsMap Tryz.prog 3 stR B l.length D ∧ SD D l
theorem StM.below {w w' : World} {B : Nat} {l : List (Int × Value)} (h : StM w B l) (hb : Below w.heap.size w w') : StM w' B l := by
 obtain ⟨D,h1,h2⟩ := h
 exact ⟨D,ownsMap_below h1 hb,h2⟩
theorem StM.ins {w : World} {B : Nat} {l : List (Int × Value)} (h : StM w B l) (k : Int) (v : Value) (hk : (Lit.int .i64 k).wf = true) (hl : l.length ≤ 100) :
 ∃ w',(Instr.mapUpdate 100 (.map (some B)) (.int .i64 k) v).run Tryz.prog w = .ok () w' ∧ StM w' B ((k,v) :: l) ∧ w.grownBy w' (some B) := by
 obtain ⟨D,h1,h2⟩ := h
 obtain ⟨w',e1,e2,e3⟩ := h1.update Tryz.law_int Tryz.underlying100 (by unfold maxLen; omega) (keyOf_int_mk Tryz.underlying3 hk) (show stR v = some (.held v,[]) from rfl)
 exact ⟨w',e1,⟨_,e2,h2.put k v⟩,e3⟩
theorem StM.look {w : World} {B : Nat} {l : List (Int × Value)} (h : StM w B l) (k : Int) (hk : (Lit.int .i64 k).wf = true) :
 (Instr.lookup 100 (.map (some B)) (.int .i64 k) true).run Tryz.prog w = .ok (.tuple #[(l.lookup k).getD stZ,.bool (l.lookup k).isSome]) w := by
 obtain ⟨D,h1,h2⟩ := h
 obtain ⟨v,ps,e1,e2⟩ := h1.look_ok Tryz.law_int Tryz.underlying100 (zero_step w) (show stR stZ = some (.held stZ,[]) from rfl) (keyOf_int_mk Tryz.underlying3 hk)
 rw [(h2.2 k).2] at e2
 unfold stR at e2
 injection e2 with e2
 injection e2 with e2 _
 injection e2 with e2
 rw [e1,(h2.2 k).1,e2]
theorem whole_any (K : Int) (n : Nat) (w : World) : Calls Tryz.prog 65 #[.int .i64 K,.int .u16 n] w fun e w' => e = .returned (.func (.func 103) #[] #[.pointer (some ⟨w.heap.size,0,none⟩),.pointer (some ⟨w.heap.size + 1,0,none⟩)]) ∧ w'.cell? ⟨w.heap.size,0,none⟩ = some (.int .i64 K) ∧ w'.cell? ⟨w.heap.size + 1,0,none⟩ = some (.int .u16 n) ∧ Below w.heap.size w w' := by
 have hmf : ∀ (fn : Fn) (first cap : Array Value) (w : World),(Instr.makeFunc fn first cap).run Tryz.prog w = .ok (.func fn first cap) w := fun _ _ _ _ => rfl
 go_enter Tryz.func65,Tryz.ntmps65
 go_wp2
 go_ret
 have T0 := cells_new w [.int .i64 K] 3
 have T1 := cells_new (w.alloc (.cells #[.int .i64 K] 3)) [.int .u16 n] 23
 have e1 : (w.alloc (.cells #[.int .i64 K] 3)).heap.size = w.heap.size + 1 := by simp
 rw [e1] at T1
 exact ⟨rfl,(T0.keep ((Below.refl _ _).alloc (Nat.le_refl _) _)).1,T1.1,((Below.refl _ _).alloc (Nat.le_refl _) _).alloc (by simp) _⟩
/-- the table, where the two numbers of each search lie -/
def stT (b2 b9 : Nat) : List (Int × Value) := [(9,.agg #[fnV 63,fnV 64,whV b9]),(8,.agg #[fnV 71,fnV 72,fnV 74]),(7,.agg #[fnV 71,fnV 72,fnV 73]),(6,.agg #[fnV 68,fnV 69,fnV 70]),(5,.agg #[fnV 68,fnV 69,fnV 70]),(4,.agg #[fnV 66,fnV 67,fnV 61]),(3,.agg #[fnV 66,fnV 67,fnV 59]),(2,.agg #[fnV 63,fnV 64,whV b2]),(1,.agg #[fnV 63,fnV 64,fnV 62])]
/-- the table is there -/
structure StAt (w : World) (B b2 b9 : Nat) : Prop where
 map : StM w B (stT b2 b9)
 k2 : w.cell? ⟨b2,0,none⟩ = some (.int .i64 16)
 n2 : w.cell? ⟨b2 + 1,0,none⟩ = some (.int .u16 10240)
 k9 : w.cell? ⟨b9,0,none⟩ = some (.int .i64 8)
 n9 : w.cell? ⟨b9 + 1,0,none⟩ = some (.int .u16 11050)
theorem StAt.below {w w' : World} {B b2 b9 : Nat} (h : StAt w B b2 b9) (hb : Below w.heap.size w w') : StAt w' B b2 b9 := ⟨h.map.below hb,kc h.k2 hb,kc h.n2 hb,kc h.k9 hb,kc h.n9 hb⟩
theorem steps_any (w : World) : Calls Tryz.prog 32 #[] w fun e w' => ∃ B b2 b9,e = .returned (.map (some B)) ∧ StAt w' B b2 b9 ∧ w.heap.size ≤ B ∧ Below w.heap.size w w' ∧ w.heap.size ≤ b2 ∧ w.heap.size ≤ b9 := by
 have hmm := @run_makeMap Tryz.prog
 have hs0 : StM (w.alloc (.map #[] 0)) w.heap.size [] := ⟨_,World.ownsMap_made w _ _ _,SD.made⟩
 have hB0 : Below w.heap.size w (w.alloc (.map #[] 0)) := (Below.refl _ _).alloc (Nat.le_refl _) _
 obtain ⟨x1,hr1,hs1,hg1⟩ := StM.ins hs0 1 (.agg #[fnV 63,fnV 64,fnV 62]) (by decide) (by simp)
 unfold fnV at hr1
 go_enter Tryz.func32,Tryz.ntmps32
 go_wp2_with fail
 refine (whole_any 16 10240 x1).mono ?_
 rintro e w2 ⟨rfl,c2,d2,hC⟩
 have hB2 := (hB0.grown hg1 hB0.size (fun q hq => by cases hq; exact Nat.le_refl _)).trans (hC.mono (hB0.grown hg1 hB0.size (fun q hq => by cases hq; exact Nat.le_refl _)).size)
 have hs1' := hs1.below hC
 have hlt : x1.heap.size + 1 < w2.heap.size := World.block_lt_of_cell? w2 _ d2
 have hbx : w.heap.size < x1.heap.size := by
  obtain ⟨_,h,_⟩ := hs1
  exact h.lt
 obtain ⟨b2,hb2⟩ : ∃ b,x1.heap.size = b := ⟨_,rfl⟩
 rw [hb2] at c2 d2 hlt hbx ⊢
 have HB2 := Lib.hid hB2
 clear hr1 hg1 hs1 hs0 hB0 hB2 hC hmm hb2
 obtain ⟨x2,hr2,hs2,hg2⟩ := StM.ins hs1' 2 (.agg #[fnV 63,fnV 64,whV b2]) (by decide) (by simp)
 unfold fnV whV at hr2
 obtain ⟨x3,hr3,hs3,hg3⟩ := StM.ins hs2 3 (.agg #[fnV 66,fnV 67,fnV 59]) (by decide) (by simp)
 unfold fnV at hr3
 obtain ⟨x4,hr4,hs4,hg4⟩ := StM.ins hs3 4 (.agg #[fnV 66,fnV 67,fnV 61]) (by decide) (by simp)
 unfold fnV at hr4
 obtain ⟨x5,hr5,hs5,hg5⟩ := StM.ins hs4 5 (.agg #[fnV 68,fnV 69,fnV 70]) (by decide) (by simp)
 unfold fnV at hr5
 obtain ⟨x6,hr6,hs6,hg6⟩ := StM.ins hs5 6 (.agg #[fnV 68,fnV 69,fnV 70]) (by decide) (by simp)
 unfold fnV at hr6
 obtain ⟨x7,hr7,hs7,hg7⟩ := StM.ins hs6 7 (.agg #[fnV 71,fnV 72,fnV 73]) (by decide) (by simp)
 unfold fnV at hr7
 obtain ⟨x8,hr8,hs8,hg8⟩ := StM.ins hs7 8 (.agg #[fnV 71,fnV 72,fnV 74]) (by decide) (by simp)
 unfold fnV at hr8
 have hG : w2.grownBy x8 (some w.heap.size) := hg2.trans (hg3.trans (hg4.trans (hg5.trans (hg6.trans (hg7.trans hg8)))))
 have hB8 := HB2.out.grown hG HB2.out.size (fun q hq => by cases hq; exact Nat.le_refl _)
 have c8 : x8.cell? ⟨b2,0,none⟩ = some (.int .i64 16) := (World.cell?_of_block (a := ⟨b2,0,none⟩) (hG.block b2 (by omega) (fun e => by injection e with e; omega))).trans c2
 have d8 : x8.cell? ⟨b2 + 1,0,none⟩ = some (.int .u16 10240) := (World.cell?_of_block (a := ⟨b2 + 1,0,none⟩) (hG.block (b2 + 1) (by omega) (fun e => by injection e with e; omega))).trans d2
 have HB8 := Lib.hid hB8
 have HS8 := Lib.hid hs8
 have HC8 := Lib.hid c8
 have HD8 := Lib.hid d8
 have hb8 : b2 + 1 < x8.heap.size := World.block_lt_of_cell? x8 _ d8
 clear hg2 hg3 hg4 hg5 hg6 hg7 hg8 hG hB8 c8 d8 c2 d2 hs2 hs3 hs4 hs5 hs6 hs7 hs8 hs1'
 go_wp2_with fail
 refine (whole_any 8 11050 x8).mono ?_
 rintro e w9 ⟨rfl,c9,d9,hC⟩
 have hs8' := HS8.out.below hC
 obtain ⟨b9,hb9⟩ : ∃ b,x8.heap.size = b := ⟨_,rfl⟩
 have hlt9 : b9 + 1 < w9.heap.size := by rw [← hb9]; exact World.block_lt_of_cell? w9 _ d9
 have HB9 := Lib.hid (HB8.out.trans (hC.mono HB8.out.size))
 have e8 := kc HC8.out hC
 have f8 := kc HD8.out hC
 rw [hb9] at c9 d9 hb8 ⊢
 clear hr2 hr3 hr4 hr5 hr6 hr7 hr8 hC hb9
 obtain ⟨x9,hr9,hs9,hg9⟩ := StM.ins hs8' 9 (.agg #[fnV 63,fnV 64,whV b9]) (by decide) (by simp)
 unfold fnV whV at hr9
 have keep9 : ∀ (b : Nat) (v : Value),b < w9.heap.size → w.heap.size < b → w9.cell? ⟨b,0,none⟩ = some v → x9.cell? ⟨b,0,none⟩ = some v := fun b v h1 h2 h3 => (World.cell?_of_block (a := ⟨b,0,none⟩) (hg9.block b h1 (fun e => by injection e with e; omega))).trans h3
 have hfin : StAt x9 w.heap.size b2 b9 := ⟨hs9,keep9 b2 _ (by omega) (by omega) e8,keep9 (b2 + 1) _ (by omega) (by omega) f8,keep9 b9 _ (by omega) (by omega) c9,keep9 (b9 + 1) _ (by omega) (by omega) d9⟩
 have HF := Lib.hid hfin
 have HBB := Lib.hid (And.intro (show w.heap.size ≤ b2 by omega) (show w.heap.size ≤ b9 by omega))
 have HB := Lib.hid (HB9.out.grown hg9 HB9.out.size (fun q hq => by cases hq; exact Nat.le_refl _))
 clear hs8' hs9 hg9 keep9 hfin c9 d9 e8 f8
 go_wp2
 go_ret
 exact ⟨_,_,_,rfl,HF.out,Nat.le_refl _,HB.out,HBB.out.1,HBB.out.2⟩
theorem run_eql_nil {P : Program} (w : World) (t e : TypeId) (a : Option Addr) (n c : Nat) (ht : P.underlying t = some (.slice e)) : (binOp .eql t (.slice a n c) (.slice none 0 0)).run P w = .ok (.bool a.isNone) w := by
 have h : ∀ d : Nat,(Op.equalIn (d + 1) t (.slice a n c) (.slice none 0 0)).run P w = .ok a.isNone w := fun d => by
  cases a <;> simp [Op.equalIn,run_underlying ht]
 simp only [binOp]
 simp [Op.equal,Op.maxDepth,h 9999]
theorem Tryz.info_Found : (Tryz.prog.info? 39).map (fun i => (i.zero,i.size,i.bytes)) = some (some (.agg #[.int .u16 0,.int .u16 0,.int .u16 0,.int .i64 0,.int .u64 0,.int .u64 0]),6,32) := by kernel_rfl
theorem Tryz.info_Task : (Tryz.prog.info? 46).map (fun i => (i.zero,i.size,i.bytes)) = some (some (.agg #[.int .i64 0,.int .u16 0,.int .u16 0,.int .u16 0,.slice none 0 0,.int .i64 0,.slice none 0 0,.bool false]),8,80) := by kernel_rfl
theorem Tryz.info_AttItem : (Tryz.prog.info? 142).map (fun i => (i.zero,i.size,i.bytes)) = some (some (.agg #[.int .u16 0,.int .u16 0,.int .u64 0,.int .u64 0,.slice none 0 0]),5,48) := by kernel_rfl
theorem Tryz.info_AttPDU : (Tryz.prog.info? 49).map (fun i => (i.zero,i.size,i.bytes)) = some (some (.agg #[.int .i64 0,.int .i64 0,.int .u16 0,.int .u16 0,.int .u64 0,.int .u64 0,.int .i64 0,.int .i64 0,.int .i64 0,.bool false,.slice none 0 0,.slice none 0 0]),12,120) := by kernel_rfl
theorem Tryz.info_Result : (Tryz.prog.info? 43).map (fun i => (i.zero,i.size,i.bytes)) = some (some (.agg #[.int .i64 0,.int .i64 0,.int .u16 0,.slice none 0 0,.slice none 0 0,.int .i64 0]),6,80) := by kernel_rfl
theorem clone_Found (v : Value) (n : Nat) (cs : List Value) (w : World) (h : SR w v n 6 cs) (hb : n ≤ 1000000) :
 Calls Tryz.prog 101 #[v] w fun e w' => ∃ v',e = .returned v' ∧ w'.ownsRow w.heap.size 39 6 v' n cs ∧ Below w.heap.size w w' ∧ (v = .slice none 0 0 → v' = .slice none 0 0) := by
 obtain ⟨i6,hi,hz0,hz1,hz2⟩ := info_parts Tryz.info_Found
 obtain ⟨hm,hl,h1,ao,cap,rfl,hnil,hcell⟩ := h
 cases ao with
 |none =>
  obtain ⟨rfl,rfl⟩ := hnil rfl
  have e : cs = [] := List.eq_nil_of_length_eq_zero (by omega)
  subst e
  have hq : ∀ w : World,(binOp .eql 36 (.slice none 0 0) (.slice none 0 0)).run Tryz.prog w = .ok (.bool true) w := fun w => run_eql_nil w _ _ none 0 0 Tryz.underlying36
  clear hnil hcell
  go_enter Tryz.func101,Tryz.ntmps101
  go_wp2
  go_ret
  exact ⟨_,rfl,⟨rfl,.inl ⟨rfl,rfl⟩⟩,Below.refl _ _,fun _ => rfl⟩
 |some ad =>
  have hb0 : Below w.heap.size w (w.alloc (.cells #[] 39)) := (Below.refl _ _).alloc (Nat.le_refl _) _
  have hq : ∀ w : World,(binOp .eql 36 (.slice (some ad) n cap) (.slice none 0 0)).run Tryz.prog w = .ok (.bool false) w := fun w => run_eql_nil w _ _ (some ad) _ _ Tryz.underlying36
  have own0 := World.ownsRow_made (base := w.heap.size) (e := 39) (size := 6) w #[] 0 (Nat.le_refl _) (by unfold maxLen; omega) rfl
  have hnew : ∀ j u,cs[j]? = some u → (w.alloc (.cells #[] 39)).cell? (ad.add j) = some u := fun j u hj => by
   have hlt := (List.getElem?_eq_some_iff.1 hj).1
   rw [hl] at hlt
   obtain ⟨b,off,e,hb1,hc⟩ := hcell (by omega)
   simp only [Option.some.injEq] at e
   subst e
   rw [addr_add]
   exact kc (hc j u hj) hb0
  have HNEW := Lib.hid hnew
  have HLC := Lib.hid hl
  clear hnil hcell hnew hl
  go_enter Tryz.func101,Tryz.ntmps101
  go_wp2_with (at_builtin; refine wpList_append_own_at _ rfl _ _ 36 rfl w.heap.size 39 i6 _ 6 32 Tryz.underlying36 hi hz0 hz1 hz2 rfl (by decide) _ _ _ rfl own0 ad n cap cs rfl HLC.out HNEW.out h1 (by unfold maxLen; omega) (by omega) (by simp) ?_)
  intro v' w' hown hg hnn hob
  have hfin := hb0.grown hg (by simp) (fun q hq => (own0.lt q hq).1)
  have HO := Lib.hid hown
  clear hown hg hnn hob own0
  go_wp2
  go_ret
  exact ⟨_,rfl,HO.out,hfin,fun e => by cases e⟩
theorem clone_Task (v : Value) (n : Nat) (cs : List Value) (w : World) (h : SR w v n 8 cs) (hb : n ≤ 1000000) :
 Calls Tryz.prog 58 #[v] w fun e w' => ∃ v',e = .returned v' ∧ w'.ownsRow w.heap.size 46 8 v' n cs ∧ Below w.heap.size w w' ∧ (v = .slice none 0 0 → v' = .slice none 0 0) := by
 obtain ⟨i6,hi,hz0,hz1,hz2⟩ := info_parts Tryz.info_Task
 obtain ⟨hm,hl,h1,ao,cap,rfl,hnil,hcell⟩ := h
 cases ao with
 |none =>
  obtain ⟨rfl,rfl⟩ := hnil rfl
  have e : cs = [] := List.eq_nil_of_length_eq_zero (by omega)
  subst e
  have hq : ∀ w : World,(binOp .eql 50 (.slice none 0 0) (.slice none 0 0)).run Tryz.prog w = .ok (.bool true) w := fun w => run_eql_nil w _ _ none 0 0 Tryz.underlying50
  clear hnil hcell
  go_enter Tryz.func58,Tryz.ntmps58
  go_wp2
  go_ret
  exact ⟨_,rfl,⟨rfl,.inl ⟨rfl,rfl⟩⟩,Below.refl _ _,fun _ => rfl⟩
 |some ad =>
  have hb0 : Below w.heap.size w (w.alloc (.cells #[] 46)) := (Below.refl _ _).alloc (Nat.le_refl _) _
  have hq : ∀ w : World,(binOp .eql 50 (.slice (some ad) n cap) (.slice none 0 0)).run Tryz.prog w = .ok (.bool false) w := fun w => run_eql_nil w _ _ (some ad) _ _ Tryz.underlying50
  have own0 := World.ownsRow_made (base := w.heap.size) (e := 46) (size := 8) w #[] 0 (Nat.le_refl _) (by unfold maxLen; omega) rfl
  have hnew : ∀ j u,cs[j]? = some u → (w.alloc (.cells #[] 46)).cell? (ad.add j) = some u := fun j u hj => by
   have hlt := (List.getElem?_eq_some_iff.1 hj).1
   rw [hl] at hlt
   obtain ⟨b,off,e,hb1,hc⟩ := hcell (by omega)
   simp only [Option.some.injEq] at e
   subst e
   rw [addr_add]
   exact kc (hc j u hj) hb0
  have HNEW := Lib.hid hnew
  have HLC := Lib.hid hl
  clear hnil hcell hnew hl
  go_enter Tryz.func58,Tryz.ntmps58
  go_wp2_with (at_builtin; refine wpList_append_own_at _ rfl _ _ 50 rfl w.heap.size 46 i6 _ 8 80 Tryz.underlying50 hi hz0 hz1 hz2 rfl (by decide) _ _ _ rfl own0 ad n cap cs rfl HLC.out HNEW.out h1 (by unfold maxLen; omega) (by omega) (by simp) ?_)
  intro v' w' hown hg hnn hob
  have hfin := hb0.grown hg (by simp) (fun q hq => (own0.lt q hq).1)
  have HO := Lib.hid hown
  clear hown hg hnn hob own0
  go_wp2
  go_ret
  exact ⟨_,rfl,HO.out,hfin,fun e => by cases e⟩
theorem clone_AttItem (v : Value) (n : Nat) (cs : List Value) (w : World) (h : SR w v n 5 cs) (hb : n ≤ 1000000) :
 Calls Tryz.prog 102 #[v] w fun e w' => ∃ v',e = .returned v' ∧ w'.ownsRow w.heap.size 142 5 v' n cs ∧ Below w.heap.size w w' ∧ (v = .slice none 0 0 → v' = .slice none 0 0) := by
 obtain ⟨i6,hi,hz0,hz1,hz2⟩ := info_parts Tryz.info_AttItem
 obtain ⟨hm,hl,h1,ao,cap,rfl,hnil,hcell⟩ := h
 cases ao with
 |none =>
  obtain ⟨rfl,rfl⟩ := hnil rfl
  have e : cs = [] := List.eq_nil_of_length_eq_zero (by omega)
  subst e
  have hq : ∀ w : World,(binOp .eql 47 (.slice none 0 0) (.slice none 0 0)).run Tryz.prog w = .ok (.bool true) w := fun w => run_eql_nil w _ _ none 0 0 Tryz.underlying47
  clear hnil hcell
  go_enter Tryz.func102,Tryz.ntmps102
  go_wp2
  go_ret
  exact ⟨_,rfl,⟨rfl,.inl ⟨rfl,rfl⟩⟩,Below.refl _ _,fun _ => rfl⟩
 |some ad =>
  have hb0 : Below w.heap.size w (w.alloc (.cells #[] 142)) := (Below.refl _ _).alloc (Nat.le_refl _) _
  have hq : ∀ w : World,(binOp .eql 47 (.slice (some ad) n cap) (.slice none 0 0)).run Tryz.prog w = .ok (.bool false) w := fun w => run_eql_nil w _ _ (some ad) _ _ Tryz.underlying47
  have own0 := World.ownsRow_made (base := w.heap.size) (e := 142) (size := 5) w #[] 0 (Nat.le_refl _) (by unfold maxLen; omega) rfl
  have hnew : ∀ j u,cs[j]? = some u → (w.alloc (.cells #[] 142)).cell? (ad.add j) = some u := fun j u hj => by
   have hlt := (List.getElem?_eq_some_iff.1 hj).1
   rw [hl] at hlt
   obtain ⟨b,off,e,hb1,hc⟩ := hcell (by omega)
   simp only [Option.some.injEq] at e
   subst e
   rw [addr_add]
   exact kc (hc j u hj) hb0
  have HNEW := Lib.hid hnew
  have HLC := Lib.hid hl
  clear hnil hcell hnew hl
  go_enter Tryz.func102,Tryz.ntmps102
  go_wp2_with (at_builtin; refine wpList_append_own_at _ rfl _ _ 47 rfl w.heap.size 142 i6 _ 5 48 Tryz.underlying47 hi hz0 hz1 hz2 rfl (by decide) _ _ _ rfl own0 ad n cap cs rfl HLC.out HNEW.out h1 (by unfold maxLen; omega) (by omega) (by simp) ?_)
  intro v' w' hown hg hnn hob
  have hfin := hb0.grown hg (by simp) (fun q hq => (own0.lt q hq).1)
  have HO := Lib.hid hown
  clear hown hg hnn hob own0
  go_wp2
  go_ret
  exact ⟨_,rfl,HO.out,hfin,fun e => by cases e⟩
end Go.Proofs.YtldcihjddebciaaGreat
