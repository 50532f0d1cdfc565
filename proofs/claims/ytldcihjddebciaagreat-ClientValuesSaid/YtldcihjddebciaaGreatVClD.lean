/- client: pieces of a value, writing. -/
import Derived.Test.YtldcihjddebciaaGreatVClC
import Derived.Test.YtldcihjddebciaaGreatVClR
set_option linter.unusedSimpArgs false
set_option linter.unusedVariables false
set_option maxRecDepth 100000
set_option maxHeartbeats 4000000
namespace Go.Proofs.YtldcihjddebciaaGreat
open Go.RowKit
theorem addr_off (b o k : Nat) : ((⟨b,o,none⟩ : Addr).add k) = ⟨b,o + k,none⟩ := by unfold Addr.add; split <;> simp_all
/-- what 's[k:]' hands back -/
theorem bytes_from (w : World) (a : Option Addr) (n c k : Nat) (bs : List Nat) (h : BytesAt w (.slice a n c) bs) (hn : bs.length = n) (hc : n ≤ c) (hk : k ≤ n) :
 ∃ a' c',BytesAt w (.slice a' (n - k) c') (bs.drop k) ∧ n - k ≤ c' ∧ ∀ W,(Instr.slice 27 (.slice a n c) (some (.int .i64 k)) none none).run Tryz.prog W = .ok (.slice a' (n - k) c') W := by
 obtain ⟨⟨h1,h2,h3,ao,cap,e,hnil,hcell⟩,hr,hlt⟩ := h
 rw [hn] at h1 h2 hnil hcell e hr
 cases e
 have hl : (bs.drop k).length = n - k := by simp [hn]
 have hbc : bcells (bs.drop k) = (bcells bs).drop k := by simp [bcells,List.map_drop]
 refine ⟨if c = k then a else a.map (·.add k),c - k,⟨⟨by rw [hl]; omega,by rw [hl,bcells_len,hl]; omega,bcells_one _,_,_,by rw [hl],?_,?_⟩,by rw [hl]; omega,fun x hx => hlt x (List.mem_of_mem_drop hx)⟩,by omega,fun W => ?_⟩
 ·intro e
  have ha : a = none := by
   by_cases hck : c = k
   ·rw [if_pos hck] at e; exact e
   ·rw [if_neg hck] at e; simpa using e
  obtain ⟨h01,h02⟩ := hnil ha
  rw [hl]
  omega
 ·intro h0
  rw [hl] at h0
  obtain ⟨b,off,rfl,hb,hcs⟩ := hcell (by omega)
  rw [if_neg (by omega)]
  refine ⟨b,off + k,by simp [addr_off],hb,fun j u hj => ?_⟩
  rw [hbc,List.getElem?_drop] at hj
  rw [Nat.add_assoc]
  exact hcs (k + j) u hj
 ·have hu : Tryz.prog.underlying 27 = some (.slice (Tryz.prog.elem 27)) := by kernel_rfl
  rw [run_slice_l (ht := hu) (kl := .i64) (l := (k : Int)) (h0 := by omega) (h1 := by omega)]
  have hs : (sizeOf (Tryz.prog.elem 27)).run Tryz.prog W = .ok 1 W := by kernel_rfl
  rw [hs]
  simp [Result.andThen,sliced]
theorem bv_from {w : World} {a : Option Addr} {n c k : Nat} {bs : List Nat} (h : BV w (.slice a n c) bs) (hn : bs.length = n) (hk : k ≤ n) :
 ∃ a' c',BV w (.slice a' (n - k) c') (bs.drop k) ∧ ∀ W,(Instr.slice 27 (.slice a n c) (some (.int .i64 k)) none none).run Tryz.prog W = .ok (.slice a' (n - k) c') W := by
 obtain ⟨a0,c0,e,hc,hby⟩ := h
 rw [hn] at e hc hby
 cases e
 obtain ⟨a',c',h1,h2,h3⟩ := bytes_from w a n c k bs hby hn hc hk
 refine ⟨a',c',⟨a',c',by rw [List.length_drop,hn],by rw [List.length_drop,hn]; exact h2,by rw [List.length_drop,hn]; exact h1⟩,h3⟩
theorem bv_take {w : World} {a : Option Addr} {n c j : Nat} {bs : List Nat} (h : BV w (.slice a n c) bs) (hn : bs.length = n) (hj : j ≤ n) : BV w (.slice a j c) (bs.take j) := by
 obtain ⟨a0,c0,e,hc,hby⟩ := h
 rw [hn] at e hc hby
 cases e
 obtain ⟨⟨h1,h2,h3,ao,cap,e,hnil,hcell⟩,hr,hlt⟩ := hby
 rw [hn] at h1 e hr hnil hcell
 cases e
 have hl : (bs.take j).length = j := by simp [hn]; omega
 have hbc : bcells (bs.take j) = (bcells bs).take j := by simp [bcells,List.map_take]
 refine ⟨a,c,by rw [hl],by rw [hl]; omega,⟨by rw [hl]; omega,by simp [bcells],bcells_one _,a,c,rfl,fun h0 => ?_,fun h0 => ?_⟩,by rw [hl]; omega,fun x hx => hlt x (List.mem_of_mem_take hx)⟩
 ·obtain ⟨q1,q2⟩ := hnil h0
  exact ⟨by rw [hl]; omega,q2⟩
 ·rw [hl] at h0
  obtain ⟨b,off,rfl,hb,hcs⟩ := hcell (by omega)
  refine ⟨b,off,rfl,hb,fun q u hq => ?_⟩
  rw [hbc,List.getElem?_take] at hq
  split at hq
  ·exact hcs q u hq
  ·cases hq
theorem piece_any (X : Nat) (mt : Int) (kd : Int) (fi la ha : Int) (bv : Value) (o : Nat) (fv : Value) (bad : Bool) (vs : List Nat) (w : World) (hc : w.cell? ⟨X,0,none⟩ = some (.int .i64 mt)) (h : BV w bv vs) (hm : vs.length ≤ 1000000) (ho : o ≤ vs.length) :
 Calls Tryz.prog 74 #[.pointer (some ⟨X,0,none⟩),.agg #[.int .i64 kd,.int .u16 fi,.int .u16 la,.int .u16 ha,bv,.int .i64 (o : Nat),fv,.bool bad]] w fun e w' => ∃ vv,e = .returned (.agg #[.int .i64 22,.int .i64 0,.int .u16 ha,.int .u16 0,.int .u64 0,.int .u64 0,.int .i64 (o : Nat),.int .i64 0,.int .i64 0,.bool false,vv,.slice none 0 0]) ∧ BV w' vv ((vs.drop o).take (roomI 22 mt).toNat) ∧ Own w.heap.size vv ∧ Below w.heap.size w w' := by
 have hBV := h
 obtain ⟨a,c,rfl,hcap,_⟩ := h
 obtain ⟨L,hL⟩ : ∃ L,vs.length = L := ⟨_,rfl⟩
 rw [hL] at hBV hm ho hcap ⊢
 obtain ⟨a1,c1,hBV1,hrun1⟩ := bv_from hBV hL ho
 obtain ⟨M,hM⟩ : ∃ M,L - o = M := ⟨_,rfl⟩
 rw [hM] at hBV1 hrun1
 have hl1 : (vs.drop o).length = M := by rw [List.length_drop,hL,hM]
 have hro : 0 ≤ roomI 22 mt := by unfold roomI mtuI; omega
 obtain ⟨R,hR⟩ : ∃ R : Nat,roomI 22 mt = (R : Int) := ⟨(roomI 22 mt).toNat,by omega⟩
 have hroom := fun W => room_any 22 mt W
 simp only [hR] at hroom
 rw [hR,Int.toNat_natCast]
 obtain ⟨LL,hLL⟩ : ∃ LL,min M R = LL := ⟨_,rfl⟩
 have hBV2 := bv_take hBV1 hl1 (show LL ≤ M by omega)
 have htk : (vs.drop o).take R = (vs.drop o).take LL := by
  rw [← hLL]
  by_cases h : R ≤ M
  ·rw [Nat.min_eq_right h]
  ·rw [Nat.min_eq_left (by omega),List.take_of_length_le (by omega),List.take_of_length_le (by omega)]
 rw [htk]
 have hll : ((vs.drop o).take LL).length = LL := by rw [List.length_take,hl1]; omega
 have HLL := Lib.hid hll
 have HBV := Lib.hid (show ∀ W : World,Below w.heap.size w W → BV W (.slice a1 LL c1) ((vs.drop o).take LL) from fun W hW => hBV2.below hW)
 have HRM := Lib.hid hroom
 have hmc : M ≤ c1 := by
  obtain ⟨_,_,e,hc,_⟩ := hBV1
  cases e
  rw [hl1] at hc
  exact hc
 have HC := Lib.hid hc
 have hLLb : LL ≤ 1000000 := by omega
 have T0 := cells_new w [.int .i64 kd,.int .u16 fi,.int .u16 la,.int .u16 ha,.slice a L c,.int .i64 (o : Nat),fv,.bool bad] 46
 have ha0 : Below w.heap.size w (w.alloc (.cells #[.int .i64 kd,.int .u16 fi,.int .u16 la,.int .u16 ha,.slice a L c,.int .i64 (o : Nat),fv,.bool bad] 46)) := (Below.refl _ _).alloc (Nat.le_refl _) _
 have hz0 : (w.alloc (.cells #[.int .i64 kd,.int .u16 fi,.int .u16 la,.int .u16 ha,.slice a L c,.int .i64 (o : Nat),fv,.bool bad] 46)).heap.size = w.heap.size + 1 := by simp
 have b0 := Blk.new (w.alloc (.cells #[.int .i64 kd,.int .u16 fi,.int .u16 la,.int .u16 ha,.slice a L c,.int .i64 (o : Nat),fv,.bool bad] 46)) 49 [.int .i64 0,.int .i64 0,.int .u16 0,.int .u16 0,.int .u64 0,.int .u64 0,.int .i64 0,.int .i64 0,.int .i64 0,.bool false,.slice none 0 0,.slice none 0 0]
 rw [hz0] at b0
 have T1 := T0.keep ((Below.refl _ _).alloc (Nat.le_refl _) (.cells #[.int .i64 0,.int .i64 0,.int .u16 0,.int .u16 0,.int .u64 0,.int .u64 0,.int .i64 0,.int .i64 0,.int .i64 0,.bool false,.slice none 0 0,.slice none 0 0] 49))
 have hB1 : Below w.heap.size w ((w.alloc (.cells #[.int .i64 kd,.int .u16 fi,.int .u16 la,.int .u16 ha,.slice a L c,.int .i64 (o : Nat),fv,.bool bad] 46)).alloc (.cells #[.int .i64 0,.int .i64 0,.int .u16 0,.int .u16 0,.int .u64 0,.int .u64 0,.int .i64 0,.int .i64 0,.int .i64 0,.bool false,.slice none 0 0,.slice none 0 0] 49)) := ha0.alloc ha0.size _
 clear hBV hBV1 hBV2 hL hl1 hro hR hroom htk hll hc
 have n1 : ((o : Nat) : Int) ≤ (L : Int) := by omega
 have n2 : (0 : Int) ≤ ((o : Nat) : Int) := by omega
 have m3 : (if R < M then (R : Int) else (M : Int)) = (LL : Int) := by split <;> omega
 have m4 : (if 0 < o then ((o : Nat) : Int) else 0) = (o : Int) := by split <;> omega
 have m5 : (if (R : Int) < (M : Int) then (R : Int) else (M : Int)) = (LL : Int) := by split <;> omega
 have m6 : (if M ≤ R then (M : Int) else (R : Int)) = (LL : Int) := by split <;> omega
 have n3 : (0 : Int) ≤ (LL : Int) := by omega
 have n4 : (LL : Int) ≤ (c1 : Int) := by omega
 have n5 : (LL : Int) ≤ (M : Int) := by omega
 have HM := Lib.hid hM
 have HLM := Lib.hid hLL
 clear hM hLL
 go_enter Tryz.func74,Tryz.ntmps74
 go_upto_region 1 with fail
 generalize hV : World.alloc (World.alloc w _) _ = V at T1 hB1 b0 ⊢
 clear hV T0 ha0 hz0
 have x0 := kc HC.out hB1
 have hOpen := T1
 simp only [Cells,blk,List.cons_append,List.nil_append,and_true,Nat.reduceAdd,Nat.add_zero,Nat.zero_add] at hOpen
 obtain ⟨t0,t1,t2,t3,t4,t5,t6,t7⟩ := hOpen
 go_wp2_with fail
 refine (HRM.out _).mono ?_
 rintro e w' ⟨rfl,rfl⟩
 go_upto_region 3 with fail
 clear t0 t1 t2 t3 t4 t5 t6 t7 x0 m3 m4 m5 m6 hrun1
 have hBd := hB1.drew
 have bD := show Blk V.drew _ _ _ from b0
 have T1d := T1.drew
 refine wp_region_held_drew (S := (fun W' : World => Cells W' (blk w.heap.size 0 0 [.int .i64 kd,.int .u16 fi,.int .u16 la,.int .u16 ha,.slice a L c,.int .i64 (o : Nat),fv,.bool bad]))) (by kernel_rfl) (T1d) (fun hHeld => ?_)
 generalize World.drew _ = wd at hHeld hBd bD T1d ⊢
 refine tkU 0 ?_
 refine tkU 1 ?_
 refine tkU 2 ?_
 refine tkU 3 ?_
 refine tkU 4 ?_
 refine rd1 5 fun K hK => ?_
 go_simp
 generalize hX : World.alloc _ (.cells _ 27) = w6
 obtain ⟨h6,hB6,h6z⟩ := alloc_named hX
 clear hX h6z
 have hB2 := hBd.trans (hB6.mono hBd.size)
 have bR6 := bD.below hB6
 have T2 := T1d.keep hB6
 have HJ := Lib.hid (join_one _ _ _ _ _ h6 (HBV.out _ hB2) (by rw [HLL.out]; omega))
 clear h6
 clear hHeld
 refine hK.out _ _ (T2) (fun hHeld => ?_)
 clear hK K
 try simp only [Act.put,List.setIfInBounds_toArray,List.set_cons_zero,List.set_cons_succ]
 refine rd1 6 fun K hK => ?_
 go_simp
 go_at_call 34
 refine HJ.out.mono ?_
 rintro e w7 ⟨vv,rfl,hbv,hov,hC⟩
 have bR := bR6.below hC
 have hBR := hB2.trans (hC.mono hB2.size)
 have T3 := T2.keep hC
 have HV := Lib.hid hbv
 have HO := Lib.hid (hov.mono hB2.size)
 have hlt := bR6.lt
 obtain ⟨va,vc,rfl,_,_⟩ := hbv
 rw [HLL.out] at HV HO ⊢
 have hne : (Value.slice va LL vc).ownBlock ≠ some (w.heap.size + 1) := fun e => by have := hov _ (by rw [HLL.out]; exact e); omega
 clear hov hC HJ
 have hOpen := bR.cells
 simp only [Cells,blk,List.cons_append,List.nil_append,and_true,Nat.reduceAdd,Nat.add_zero,Nat.zero_add] at hOpen
 obtain ⟨q0,q1,q2,q3,q4,q5,q6,q7,q8,q9,q10,q11⟩ := hOpen
 have z0 := bR.frozen 0
 have z1 := bR.frozen 1
 have z2 := bR.frozen 2
 have z3 := bR.frozen 3
 have z4 := bR.frozen 4
 have z5 := bR.frozen 5
 have z6 := bR.frozen 6
 have z7 := bR.frozen 7
 have z8 := bR.frozen 8
 have z9 := bR.frozen 9
 have z10 := bR.frozen 10
 have z11 := bR.frozen 11
 clear hHeld
 refine hK.out _ _ (T3) (fun hHeld => ?_)
 clear hK K
 try simp only [Act.put,List.setIfInBounds_toArray,List.set_cons_zero,List.set_cons_succ]
 refine tkU 7 ?_
 refine rd1 8 fun K hK => ?_
 go_simp
 generalize hY : World.setCell _ _ _ = Y
 obtain ⟨bY,hgY⟩ := set12 bR hY
 have hBY := hBR.grown hgY hBR.size (fun q hq => by cases hq; omega)
 have TY := T3.grown hgY (fun x hx => by rw [blk_fst hx]; omega)
 have HV2 := Lib.hid (HV.out.grown hgY hne)
 clear hY q0 q1 q2 q3 q4 q5 q6 q7 q8 q9 q10 q11 z0 z1 z2 z3 z4 z5 z6 z7 z8 z9 z10 z11
 clear hHeld
 refine hK.out _ _ (TY) (fun hHeld => ?_)
 clear hK K
 try simp only [Act.put,List.setIfInBounds_toArray,List.set_cons_zero,List.set_cons_succ]
 refine wpAnyH_done (by kernel_rfl) ?_ _
 have hOpen := bY.cells
 simp only [Cells,blk,List.cons_append,List.nil_append,and_true,Nat.reduceAdd,Nat.add_zero,Nat.zero_add] at hOpen
 obtain ⟨q0,q1,q2,q3,q4,q5,q6,q7,q8,q9,q10,q11⟩ := hOpen
 clear TY hHeld
 go_wp2
 refine bodyPost_ret (v := .agg #[.int .i64 22,.int .i64 0,.int .u16 ha,.int .u16 0,.int .u64 0,.int .u64 0,.int .i64 (o : Nat),.int .i64 0,.int .i64 0,.bool false,.slice va LL vc,.slice none 0 0]) (by simp [results,Tryz.results74,go_sem,q0,q1,q2,q3,q4,q5,q6,q7,q8,q9,q10,q11]) rfl ?_
 exact ⟨_,rfl,HV2.out,HO.out,hBY⟩
theorem writing_short (X : Nat) (mt : Int) (kd : Int) (fi la ha : Int) (bv : Value) (fv : Value) (bad : Bool) (vs : List Nat) (w : World) (hc : w.cell? ⟨X,0,none⟩ = some (.int .i64 mt)) (h : BV w bv vs) (hm : vs.length ≤ 1000000) (hr : (vs.length : Int) ≤ roomI 18 mt) :
 Calls Tryz.prog 73 #[.pointer (some ⟨X,0,none⟩),.agg #[.int .i64 kd,.int .u16 fi,.int .u16 la,.int .u16 ha,bv,.int .i64 0,fv,.bool bad]] w fun e w' => ∃ vv,e = .returned (.agg #[.int .i64 18,.int .i64 0,.int .u16 ha,.int .u16 0,.int .u64 0,.int .u64 0,.int .i64 0,.int .i64 0,.int .i64 0,.bool false,vv,.slice none 0 0]) ∧ BV w' vv vs ∧ Own w.heap.size vv ∧ Below w.heap.size w w' := by
 have hBV := h
 obtain ⟨a,c,rfl,hcap,_⟩ := h
 obtain ⟨L,hL⟩ : ∃ L,vs.length = L := ⟨_,rfl⟩
 rw [hL] at hBV hm hcap hr ⊢
 have hroom := fun W => room_any 18 mt W
 obtain ⟨R,hR⟩ : ∃ R,roomI 18 mt = R := ⟨_,rfl⟩
 rw [hR] at hr
 simp only [hR] at hroom
 have gR : decide (R < (L : Int)) = false := by simp; omega
 have HRM := Lib.hid hroom
 have HC := Lib.hid hc
 have HBV0 := Lib.hid hBV
 have HLV := Lib.hid hL
 have hlX : X < w.heap.size := World.block_lt_of_cell? w _ hc
 have T0 := cells_new w [.int .i64 kd,.int .u16 fi,.int .u16 la,.int .u16 ha,.slice a L c,.int .i64 0,fv,.bool bad] 46
 have ha0 : Below w.heap.size w (w.alloc (.cells #[.int .i64 kd,.int .u16 fi,.int .u16 la,.int .u16 ha,.slice a L c,.int .i64 0,fv,.bool bad] 46)) := (Below.refl _ _).alloc (Nat.le_refl _) _
 have hz0 : (w.alloc (.cells #[.int .i64 kd,.int .u16 fi,.int .u16 la,.int .u16 ha,.slice a L c,.int .i64 0,fv,.bool bad] 46)).heap.size = w.heap.size + 1 := by simp
 have b0 := Blk.new (w.alloc (.cells #[.int .i64 kd,.int .u16 fi,.int .u16 la,.int .u16 ha,.slice a L c,.int .i64 0,fv,.bool bad] 46)) 49 [.int .i64 0,.int .i64 0,.int .u16 0,.int .u16 0,.int .u64 0,.int .u64 0,.int .i64 0,.int .i64 0,.int .i64 0,.bool false,.slice none 0 0,.slice none 0 0]
 rw [hz0] at b0
 have T1 := T0.keep ((Below.refl _ _).alloc (Nat.le_refl _) (.cells #[.int .i64 0,.int .i64 0,.int .u16 0,.int .u16 0,.int .u64 0,.int .u64 0,.int .i64 0,.int .i64 0,.int .i64 0,.bool false,.slice none 0 0,.slice none 0 0] 49))
 have hB1 : Below w.heap.size w ((w.alloc (.cells #[.int .i64 kd,.int .u16 fi,.int .u16 la,.int .u16 ha,.slice a L c,.int .i64 0,fv,.bool bad] 46)).alloc (.cells #[.int .i64 0,.int .i64 0,.int .u16 0,.int .u16 0,.int .u64 0,.int .u64 0,.int .i64 0,.int .i64 0,.int .i64 0,.bool false,.slice none 0 0,.slice none 0 0] 49)) := ha0.alloc ha0.size _
 clear hBV hR hroom hc hL
 go_enter Tryz.func73,Tryz.ntmps73
 go_upto_region 1 with fail
 generalize hV : World.alloc (World.alloc w _) _ = V at T1 hB1 b0 ⊢
 clear hV T0 ha0 hz0
 have TA : Cells V (blk w.heap.size 0 0 [.int .i64 kd,.int .u16 fi,.int .u16 la,.int .u16 ha,.slice a L c,.int .i64 0,fv,.bool bad] ++ [(X,0,.int .i64 mt)]) := T1.app ⟨kc HC.out hB1,trivial⟩
 have hBd := hB1.drew
 have bD := show Blk V.drew _ _ _ from b0
 have T1d := T1.drew
 have TAd := TA.drew
 refine wp_region_held_drew (S := (fun W' : World => Cells W' (blk w.heap.size 0 0 [.int .i64 kd,.int .u16 fi,.int .u16 la,.int .u16 ha,.slice a L c,.int .i64 0,fv,.bool bad] ++ [(X,0,.int .i64 mt)]))) (by kernel_rfl) (TAd) (fun hHeld => ?_)
 generalize World.drew _ = wd at hHeld hBd bD T1d TAd ⊢
 refine tkU 0 ?_
 refine tkU 1 ?_
 refine tkU 2 ?_
 refine tkU 3 ?_
 refine tkU 4 ?_
 refine tkU 5 ?_
 refine tkU 6 ?_
 refine tkU 7 ?_
 refine rd1 8 fun K hK => ?_
 go_simp
 go_at_call 104
 refine (HRM.out _).mono ?_
 rintro e w' ⟨rfl,rfl⟩
 clear hHeld
 refine hK.out _ _ (TAd) (fun hHeld => ?_)
 clear hK K
 try simp only [Act.put,List.setIfInBounds_toArray,List.set_cons_zero,List.set_cons_succ]
 refine tkU 9 ?_
 refine wpAnyH_done (by kernel_rfl) ?_ _
 clear hHeld
 go_upto_region 3 with fail
 have HBV := Lib.hid (show ∀ W : World,Below w.heap.size w W → BV W (.slice a L c) vs from fun W hW => HBV0.out.below hW)
 obtain ⟨LL,hLL⟩ : ∃ LL,L = LL := ⟨_,rfl⟩
 subst hLL
 have HLL := HLV
 clear T1 hB1 b0 TA TAd
 have T1 := T1d
 have hB1 := hBd
 have b0 := bD
 clear T1d hBd bD
 have hBd := hB1.drew
 have bD := show Blk wd.drew _ _ _ from b0
 have T1d := T1.drew
 refine wp_region_held_drew (S := (fun W' : World => Cells W' (blk w.heap.size 0 0 [.int .i64 kd,.int .u16 fi,.int .u16 la,.int .u16 ha,.slice a L c,.int .i64 0,fv,.bool bad]))) (by kernel_rfl) (T1d) (fun hHeld => ?_)
 generalize World.drew _ = wd at hHeld hBd bD T1d ⊢
 refine tkU 0 ?_
 refine tkU 1 ?_
 refine tkU 2 ?_
 refine tkU 3 ?_
 refine rd1 4 fun K hK => ?_
 go_simp
 generalize hX : World.alloc _ (.cells _ 27) = w6
 obtain ⟨h6,hB6,h6z⟩ := alloc_named hX
 clear hX h6z
 have hB2 := hBd.trans (hB6.mono hBd.size)
 have bR6 := bD.below hB6
 have T2 := T1d.keep hB6
 have HJ := Lib.hid (join_one _ _ _ _ _ h6 (HBV.out _ hB2) (by rw [HLL.out]; omega))
 clear h6
 clear hHeld
 refine hK.out _ _ (T2) (fun hHeld => ?_)
 clear hK K
 try simp only [Act.put,List.setIfInBounds_toArray,List.set_cons_zero,List.set_cons_succ]
 refine rd1 5 fun K hK => ?_
 go_simp
 go_at_call 34
 refine HJ.out.mono ?_
 rintro e w7 ⟨vv,rfl,hbv,hov,hC⟩
 have bR := bR6.below hC
 have hBR := hB2.trans (hC.mono hB2.size)
 have T3 := T2.keep hC
 have HV := Lib.hid hbv
 have HO := Lib.hid (hov.mono hB2.size)
 have hlt := bR6.lt
 obtain ⟨va,vc,rfl,_,_⟩ := hbv
 rw [HLL.out] at HV HO ⊢
 have hne : (Value.slice va L vc).ownBlock ≠ some (w.heap.size + 1) := fun e => by have := hov _ (by rw [HLL.out]; exact e); omega
 clear hov hC HJ
 have hOpen := bR.cells
 simp only [Cells,blk,List.cons_append,List.nil_append,and_true,Nat.reduceAdd,Nat.add_zero,Nat.zero_add] at hOpen
 obtain ⟨q0,q1,q2,q3,q4,q5,q6,q7,q8,q9,q10,q11⟩ := hOpen
 have z0 := bR.frozen 0
 have z1 := bR.frozen 1
 have z2 := bR.frozen 2
 have z3 := bR.frozen 3
 have z4 := bR.frozen 4
 have z5 := bR.frozen 5
 have z6 := bR.frozen 6
 have z7 := bR.frozen 7
 have z8 := bR.frozen 8
 have z9 := bR.frozen 9
 have z10 := bR.frozen 10
 have z11 := bR.frozen 11
 clear hHeld
 refine hK.out _ _ (T3) (fun hHeld => ?_)
 clear hK K
 try simp only [Act.put,List.setIfInBounds_toArray,List.set_cons_zero,List.set_cons_succ]
 refine tkU 6 ?_
 refine rd1 7 fun K hK => ?_
 go_simp
 generalize hY : World.setCell _ _ _ = Y
 obtain ⟨bY,hgY⟩ := set12 bR hY
 have hBY := hBR.grown hgY hBR.size (fun q hq => by cases hq; omega)
 have TY := T3.grown hgY (fun x hx => by rw [blk_fst hx]; omega)
 have HV2 := Lib.hid (HV.out.grown hgY hne)
 clear hY q0 q1 q2 q3 q4 q5 q6 q7 q8 q9 q10 q11 z0 z1 z2 z3 z4 z5 z6 z7 z8 z9 z10 z11
 clear hHeld
 refine hK.out _ _ (TY) (fun hHeld => ?_)
 clear hK K
 try simp only [Act.put,List.setIfInBounds_toArray,List.set_cons_zero,List.set_cons_succ]
 refine wpAnyH_done (by kernel_rfl) ?_ _
 have hOpen := bY.cells
 simp only [Cells,blk,List.cons_append,List.nil_append,and_true,Nat.reduceAdd,Nat.add_zero,Nat.zero_add] at hOpen
 obtain ⟨q0,q1,q2,q3,q4,q5,q6,q7,q8,q9,q10,q11⟩ := hOpen
 clear TY hHeld
 go_wp2
 refine bodyPost_ret (v := .agg #[.int .i64 18,.int .i64 0,.int .u16 ha,.int .u16 0,.int .u64 0,.int .u64 0,.int .i64 0,.int .i64 0,.int .i64 0,.bool false,.slice va L vc,.slice none 0 0]) (by simp [results,Tryz.results73,go_sem,q0,q1,q2,q3,q4,q5,q6,q7,q8,q9,q10,q11]) rfl ?_
 exact ⟨_,rfl,HV2.out,HO.out,hBY⟩
theorem piece0_any (X : Nat) (mt : Int) (kd : Int) (fi la ha : Int) (bv : Value) (fv : Value) (bad : Bool) (vs : List Nat) (w : World) (hc : w.cell? ⟨X,0,none⟩ = some (.int .i64 mt)) (h : BV w bv vs) (hm : vs.length ≤ 1000000) :
 Calls Tryz.prog 74 #[.pointer (some ⟨X,0,none⟩),.agg #[.int .i64 kd,.int .u16 fi,.int .u16 la,.int .u16 ha,bv,.int .i64 0,fv,.bool bad]] w fun e w' => ∃ vv,e = .returned (.agg #[.int .i64 22,.int .i64 0,.int .u16 ha,.int .u16 0,.int .u64 0,.int .u64 0,.int .i64 0,.int .i64 0,.int .i64 0,.bool false,vv,.slice none 0 0]) ∧ BV w' vv (vs.take (roomI 22 mt).toNat) ∧ Own w.heap.size vv ∧ Below w.heap.size w w' :=
 piece_any X mt kd fi la ha bv 0 fv bad vs w hc h hm (Nat.zero_le _)
theorem writing_long (X : Nat) (mt : Int) (kd : Int) (fi la ha : Int) (bv : Value) (fv : Value) (bad : Bool) (vs : List Nat) (w : World) (hc : w.cell? ⟨X,0,none⟩ = some (.int .i64 mt)) (h : BV w bv vs) (hm : vs.length ≤ 1000000) (hr : roomI 18 mt < (vs.length : Int)) :
 Calls Tryz.prog 73 #[.pointer (some ⟨X,0,none⟩),.agg #[.int .i64 kd,.int .u16 fi,.int .u16 la,.int .u16 ha,bv,.int .i64 0,fv,.bool bad]] w fun e w' => ∃ vv,e = .returned (.agg #[.int .i64 22,.int .i64 0,.int .u16 ha,.int .u16 0,.int .u64 0,.int .u64 0,.int .i64 0,.int .i64 0,.int .i64 0,.bool false,vv,.slice none 0 0]) ∧ BV w' vv (vs.take (roomI 22 mt).toNat) ∧ Own w.heap.size vv ∧ Below w.heap.size w w' := by
 have hBV := h
 obtain ⟨a,c,rfl,hcap,_⟩ := h
 obtain ⟨L,hL⟩ : ∃ L,vs.length = L := ⟨_,rfl⟩
 rw [hL] at hBV hm hcap hr ⊢
 have hroom := fun W => room_any 18 mt W
 obtain ⟨R,hR⟩ : ∃ R,roomI 18 mt = R := ⟨_,rfl⟩
 rw [hR] at hr
 simp only [hR] at hroom
 have gR : decide (R < (L : Int)) = true := by simp; omega
 have HRM := Lib.hid hroom
 have HC := Lib.hid hc
 have HBV0 := Lib.hid hBV
 have HLV := Lib.hid hL
 have hlX : X < w.heap.size := World.block_lt_of_cell? w _ hc
 have T0 := cells_new w [.int .i64 kd,.int .u16 fi,.int .u16 la,.int .u16 ha,.slice a L c,.int .i64 0,fv,.bool bad] 46
 have ha0 : Below w.heap.size w (w.alloc (.cells #[.int .i64 kd,.int .u16 fi,.int .u16 la,.int .u16 ha,.slice a L c,.int .i64 0,fv,.bool bad] 46)) := (Below.refl _ _).alloc (Nat.le_refl _) _
 have hz0 : (w.alloc (.cells #[.int .i64 kd,.int .u16 fi,.int .u16 la,.int .u16 ha,.slice a L c,.int .i64 0,fv,.bool bad] 46)).heap.size = w.heap.size + 1 := by simp
 have b0 := Blk.new (w.alloc (.cells #[.int .i64 kd,.int .u16 fi,.int .u16 la,.int .u16 ha,.slice a L c,.int .i64 0,fv,.bool bad] 46)) 49 [.int .i64 0,.int .i64 0,.int .u16 0,.int .u16 0,.int .u64 0,.int .u64 0,.int .i64 0,.int .i64 0,.int .i64 0,.bool false,.slice none 0 0,.slice none 0 0]
 rw [hz0] at b0
 have T1 := T0.keep ((Below.refl _ _).alloc (Nat.le_refl _) (.cells #[.int .i64 0,.int .i64 0,.int .u16 0,.int .u16 0,.int .u64 0,.int .u64 0,.int .i64 0,.int .i64 0,.int .i64 0,.bool false,.slice none 0 0,.slice none 0 0] 49))
 have hB1 : Below w.heap.size w ((w.alloc (.cells #[.int .i64 kd,.int .u16 fi,.int .u16 la,.int .u16 ha,.slice a L c,.int .i64 0,fv,.bool bad] 46)).alloc (.cells #[.int .i64 0,.int .i64 0,.int .u16 0,.int .u16 0,.int .u64 0,.int .u64 0,.int .i64 0,.int .i64 0,.int .i64 0,.bool false,.slice none 0 0,.slice none 0 0] 49)) := ha0.alloc ha0.size _
 clear hBV hR hroom hc hL
 go_enter Tryz.func73,Tryz.ntmps73
 go_upto_region 1 with fail
 generalize hV : World.alloc (World.alloc w _) _ = V at T1 hB1 b0 ⊢
 clear hV T0 ha0 hz0
 have TA : Cells V (blk w.heap.size 0 0 [.int .i64 kd,.int .u16 fi,.int .u16 la,.int .u16 ha,.slice a L c,.int .i64 0,fv,.bool bad] ++ [(X,0,.int .i64 mt)]) := T1.app ⟨kc HC.out hB1,trivial⟩
 have hBd := hB1.drew
 have bD := show Blk V.drew _ _ _ from b0
 have T1d := T1.drew
 have TAd := TA.drew
 refine wp_region_held_drew (S := (fun W' : World => Cells W' (blk w.heap.size 0 0 [.int .i64 kd,.int .u16 fi,.int .u16 la,.int .u16 ha,.slice a L c,.int .i64 0,fv,.bool bad] ++ [(X,0,.int .i64 mt)]))) (by kernel_rfl) (TAd) (fun hHeld => ?_)
 generalize World.drew _ = wd at hHeld hBd bD T1d TAd ⊢
 refine tkU 0 ?_
 refine tkU 1 ?_
 refine tkU 2 ?_
 refine tkU 3 ?_
 refine tkU 4 ?_
 refine tkU 5 ?_
 refine tkU 6 ?_
 refine tkU 7 ?_
 refine rd1 8 fun K hK => ?_
 go_simp
 go_at_call 104
 refine (HRM.out _).mono ?_
 rintro e w' ⟨rfl,rfl⟩
 clear hHeld
 refine hK.out _ _ (TAd) (fun hHeld => ?_)
 clear hK K
 try simp only [Act.put,List.setIfInBounds_toArray,List.set_cons_zero,List.set_cons_succ]
 refine tkU 9 ?_
 refine wpAnyH_done (by kernel_rfl) ?_ _
 clear hHeld
 have HPC := Lib.hid (piece0_any X mt kd fi la ha (.slice a L c) fv bad vs wd (kc HC.out hBd) (HBV0.out.below hBd) (by rw [HLV.out]; exact hm))
 have hOpen := T1d
 simp only [Cells,blk,List.cons_append,List.nil_append,and_true,Nat.reduceAdd,Nat.add_zero,Nat.zero_add] at hOpen
 obtain ⟨t0,t1,t2,t3,t4,t5,t6,t7⟩ := hOpen
 go_wp2_with fail
 refine HPC.out.mono ?_
 rintro e w7 ⟨vv,rfl,hbv,hov,hC⟩
 have bR := bD.below hC
 have hlt := bD.lt
 have hBR := hBd.trans (hC.mono hBd.size)
 have HV := Lib.hid hbv
 have HO := Lib.hid (hov.mono hBd.size)
 have hne : vv.ownBlock ≠ some (w.heap.size + 1) := fun e => by have := hov _ e; omega
 obtain ⟨LL,hLL⟩ : ∃ LL,(vs.take (roomI 22 mt).toNat).length = LL := ⟨_,rfl⟩
 obtain ⟨va,vc,rfl,_,_⟩ := hbv
 rw [hLL] at HV HO hne ⊢
 clear hov hC HPC t0 t1 t2 t3 t4 t5 t6 t7 T1d TAd bD hBd hLL T1 hB1 b0 TA
 have hOpen := bR.cells
 simp only [Cells,blk,List.cons_append,List.nil_append,and_true,Nat.reduceAdd,Nat.add_zero,Nat.zero_add] at hOpen
 obtain ⟨q0,q1,q2,q3,q4,q5,q6,q7,q8,q9,q10,q11⟩ := hOpen
 have z0 := bR.frozen 0
 have z1 := bR.frozen 1
 have z2 := bR.frozen 2
 have z3 := bR.frozen 3
 have z4 := bR.frozen 4
 have z5 := bR.frozen 5
 have z6 := bR.frozen 6
 have z7 := bR.frozen 7
 have z8 := bR.frozen 8
 have z9 := bR.frozen 9
 have z10 := bR.frozen 10
 have z11 := bR.frozen 11
 go_wp2
 generalize hY : World.setCell _ _ _ = Y
 obtain ⟨bY,hgY⟩ := set12 bR hY
 have hBY := hBR.grown hgY hBR.size (fun q hq => by cases hq; omega)
 have HV2 := Lib.hid (HV.out.grown hgY hne)
 clear hY q0 q1 q2 q3 q4 q5 q6 q7 q8 q9 q10 q11 z0 z1 z2 z3 z4 z5 z6 z7 z8 z9 z10 z11
 have hOpen := bY.cells
 simp only [Cells,blk,List.cons_append,List.nil_append,and_true,Nat.reduceAdd,Nat.add_zero,Nat.zero_add] at hOpen
 obtain ⟨q0,q1,q2,q3,q4,q5,q6,q7,q8,q9,q10,q11⟩ := hOpen
 refine bodyPost_ret (v := .agg #[.int .i64 22,.int .i64 0,.int .u16 ha,.int .u16 0,.int .u64 0,.int .u64 0,.int .i64 0,.int .i64 0,.int .i64 0,.bool false,.slice va LL vc,.slice none 0 0]) (by simp [results,Tryz.results73,go_sem,q0,q1,q2,q3,q4,q5,q6,q7,q8,q9,q10,q11]) rfl ?_
 exact ⟨_,rfl,HV2.out,HO.out,hBY⟩
end Go.Proofs.YtldcihjddebciaaGreat
