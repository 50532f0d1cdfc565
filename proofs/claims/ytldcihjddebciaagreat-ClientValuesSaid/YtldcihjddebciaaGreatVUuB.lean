/- uuid: bytes. -/
import Derived.Test.YtldcihjddebciaaGreatVUuA
set_option linter.unusedSimpArgs false
set_option linter.unusedVariables false
set_option maxRecDepth 100000
set_option maxHeartbeats 4000000
namespace Go.Proofs.YtldcihjddebciaaGreat
open Go.RowKit
theorem bytes_any (hi lo : Nat) (w : World) :
 Calls Tryz.prog 118 #[.agg #[.int .u64 hi,.int .u64 lo]] w fun e w' => e = .returned (.agg #[.int .u8 (byt lo 0 : Nat),.int .u8 (byt lo 1 : Nat),.int .u8 (byt lo 2 : Nat),.int .u8 (byt lo 3 : Nat),.int .u8 (byt lo 4 : Nat),.int .u8 (byt lo 5 : Nat),.int .u8 (byt lo 6 : Nat),.int .u8 (byt lo 7 : Nat),.int .u8 (byt hi 0 : Nat),.int .u8 (byt hi 1 : Nat),.int .u8 (byt hi 2 : Nat),.int .u8 (byt hi 3 : Nat),.int .u8 (byt hi 4 : Nat),.int .u8 (byt hi 5 : Nat),.int .u8 (byt hi 6 : Nat),.int .u8 (byt hi 7 : Nat)]) ∧ Below w.heap.size w w' := by
 go_enter Tryz.func118,Tryz.ntmps118
 go_wp2
 obtain ⟨Z,hZ⟩ : ∃ Z : List Value,Z = [.int .u8 0,.int .u8 0,.int .u8 0,.int .u8 0,.int .u8 0,.int .u8 0,.int .u8 0,.int .u8 0,.int .u8 0,.int .u8 0,.int .u8 0,.int .u8 0,.int .u8 0,.int .u8 0,.int .u8 0,.int .u8 0] := ⟨_,rfl⟩
 go_loopw [4,5] (fun _ i wr => ∃ k : Nat,i = .int .i64 k ∧ k ≤ 8 ∧ Blk wr w.heap.size 26 [.int .u64 hi,.int .u64 lo] ∧ Blk wr (w.heap.size + 1) 159 Z ∧ Blk wr (w.heap.size + 1 + 1) 159 (bcells (arrK hi lo k)) ∧ Below w.heap.size w wr) (fun _ i _ => 8 - (intOf i).toNat)
 case atStart =>
  subst hZ
  have b0 := Blk.new w 26 [.int .u64 hi,.int .u64 lo]
  have b1 := Blk.new (w.alloc (.cells #[.int .u64 hi,.int .u64 lo] 26)) 159 [.int .u8 0,.int .u8 0,.int .u8 0,.int .u8 0,.int .u8 0,.int .u8 0,.int .u8 0,.int .u8 0,.int .u8 0,.int .u8 0,.int .u8 0,.int .u8 0,.int .u8 0,.int .u8 0,.int .u8 0,.int .u8 0]
  have b2 := Blk.new ((w.alloc (.cells #[.int .u64 hi,.int .u64 lo] 26)).alloc (.cells #[.int .u8 0,.int .u8 0,.int .u8 0,.int .u8 0,.int .u8 0,.int .u8 0,.int .u8 0,.int .u8 0,.int .u8 0,.int .u8 0,.int .u8 0,.int .u8 0,.int .u8 0,.int .u8 0,.int .u8 0,.int .u8 0] 159)) 159 [.int .u8 0,.int .u8 0,.int .u8 0,.int .u8 0,.int .u8 0,.int .u8 0,.int .u8 0,.int .u8 0,.int .u8 0,.int .u8 0,.int .u8 0,.int .u8 0,.int .u8 0,.int .u8 0,.int .u8 0,.int .u8 0]
  simp only [World.size_alloc] at b1 b2
  refine ⟨0,by simp,by omega,(b0.alloc _).alloc _,b1.alloc _,?_,(((Below.refl _ _).alloc (Nat.le_refl _) _).alloc (by simp) _).alloc (by simp; omega) _⟩
  rw [arrK_zero]
  exact b2
 case round =>
  obtain ⟨k,rfl,hk,bu,br,ba,hB⟩ := hrel
  by_cases hlt : k < 8
  ·have g1 : decide (k < 8) = true := by simpa using hlt
   obtain ⟨c0,c1,_⟩ := bu.cells
   simp only [Nat.zero_add,Nat.add_zero] at c0 c1
   have i0 : (0 : Int) ≤ 8 * (k : Int) := by omega
   have i1 : (k : Int) < 16 := by omega
   have i2 : (8 : Int) + k < 16 := by omega
   have i3 : (0 : Int) ≤ 8 + k := by omega
   have w1 : IntKind.i64.wrap ((k : Int) + 1) = (k : Int) + 1 := IntWalk.i64_in _ (by omega)
   have w2 : IntKind.i64.wrap (8 * (k : Int)) = 8 * (k : Int) := IntWalk.i64_in _ (by omega)
   have w3 : IntKind.i64.wrap (8 + (k : Int)) = 8 + (k : Int) := IntWalk.i64_in _ (by omega)
   have e2 : ((8 : Int) + (k : Int)).toNat = 8 + k := by omega
   have p1 : IntKind.u8.wrap ((lo : Int) / 2 ^ (8 * (k : Int)).toNat) = ((byt lo k : Nat) : Int) := byt_wrap lo k
   have p2 : IntKind.u8.wrap ((hi : Int) / 2 ^ (8 * (k : Int)).toNat) = ((byt hi k : Nat) : Int) := byt_wrap hi k
   obtain ⟨v,hv⟩ : ∃ v,(bcells (arrK hi lo k))[k]? = some v := ⟨_,List.getElem?_eq_getElem (by simp [bcells,arrK]; omega)⟩
   have cz := ba.cell hv
   have fz := ba.frozen k
   go_upto_region 5 with fail
   have TU := bu.cells
   refine wp_region_held_drew (S := (fun W' : World => Cells W' (blk w.heap.size 0 0 [.int .u64 hi,.int .u64 lo]))) (by kernel_rfl) (TU.drew) (fun hHeld => ?_)
   refine wpAnyH_take (i := 0) (oi := _) (v := ?_) (by rw [List.getElem?_toArray]; rfl) (by kernel_rfl) (by kernel_rfl) (by kernel_rfl) (by exact fun _ _ _ h => h) (Or.inl ⟨by rfl,?_⟩) (by assumption) ?_
   rotate_left
   ·intro w hSw
    try simp only [Cells,blk,List.cons_append,List.nil_append,and_true,Nat.reduceAdd,Nat.add_zero,Nat.zero_add] at hSw
    go_simp
    try with_reducible rfl
   simp only [Act.put,List.setIfInBounds_toArray,List.set_cons_zero,List.set_cons_succ]
   refine wpAnyH_take (i := 1) (oi := _) (v := ?_) (by rw [List.getElem?_toArray]; rfl) (by kernel_rfl) (by kernel_rfl) (by kernel_rfl) (by exact fun _ _ _ h => h) (Or.inl ⟨by rfl,?_⟩) (by assumption) ?_
   rotate_left
   ·intro w hSw
    try simp only [Cells,blk,List.cons_append,List.nil_append,and_true,Nat.reduceAdd,Nat.add_zero,Nat.zero_add] at hSw
    go_simp
    try with_reducible rfl
   simp only [Act.put,List.setIfInBounds_toArray,List.set_cons_zero,List.set_cons_succ]
   refine wpAnyH_take (i := 2) (oi := _) (v := ?_) (by rw [List.getElem?_toArray]; rfl) (by kernel_rfl) (by kernel_rfl) (by kernel_rfl) (by exact fun _ _ _ h => h) (Or.inl ⟨by rfl,?_⟩) (by assumption) ?_
   rotate_left
   ·intro w hSw
    try simp only [Cells,blk,List.cons_append,List.nil_append,and_true,Nat.reduceAdd,Nat.add_zero,Nat.zero_add] at hSw
    go_simp
    try with_reducible rfl
   simp only [Act.put,List.setIfInBounds_toArray,List.set_cons_zero,List.set_cons_succ]
   refine wpAnyH_take (i := 3) (oi := _) (v := ?_) (by rw [List.getElem?_toArray]; rfl) (by kernel_rfl) (by kernel_rfl) (by kernel_rfl) (by exact fun _ _ _ h => h) (Or.inl ⟨by rfl,?_⟩) (by assumption) ?_
   rotate_left
   ·intro w hSw
    try simp only [Cells,blk,List.cons_append,List.nil_append,and_true,Nat.reduceAdd,Nat.add_zero,Nat.zero_add] at hSw
    go_simp
    try with_reducible rfl
   simp only [Act.put,List.setIfInBounds_toArray,List.set_cons_zero,List.set_cons_succ]
   refine wpAnyH_take (i := 4) (oi := _) (v := ?_) (by rw [List.getElem?_toArray]; rfl) (by kernel_rfl) (by kernel_rfl) (by kernel_rfl) (by exact fun _ _ _ h => h) (Or.inl ⟨by rfl,?_⟩) (by assumption) ?_
   rotate_left
   ·intro w hSw
    try simp only [Cells,blk,List.cons_append,List.nil_append,and_true,Nat.reduceAdd,Nat.add_zero,Nat.zero_add] at hSw
    go_simp
    try with_reducible rfl
   simp only [Act.put,List.setIfInBounds_toArray,List.set_cons_zero,List.set_cons_succ]
   refine wpAnyH_take (i := 5) (oi := _) (v := ?_) (by rw [List.getElem?_toArray]; rfl) (by kernel_rfl) (by kernel_rfl) (by kernel_rfl) (by exact fun _ _ _ h => h) (Or.inl ⟨by rfl,?_⟩) (by assumption) ?_
   rotate_left
   ·intro w hSw
    try simp only [Cells,blk,List.cons_append,List.nil_append,and_true,Nat.reduceAdd,Nat.add_zero,Nat.zero_add] at hSw
    go_simp
    try with_reducible rfl
   simp only [Act.put,List.setIfInBounds_toArray,List.set_cons_zero,List.set_cons_succ]
   refine wpAnyH_take (i := 6) (oi := _) (v := ?_) (by rw [List.getElem?_toArray]; rfl) (by kernel_rfl) (by kernel_rfl) (by kernel_rfl) (by exact fun _ _ _ h => h) (Or.inl ⟨by rfl,?_⟩) (by assumption) ?_
   rotate_left
   ·intro w hSw
    try simp only [Cells,blk,List.cons_append,List.nil_append,and_true,Nat.reduceAdd,Nat.add_zero,Nat.zero_add] at hSw
    go_simp
    try with_reducible rfl
   simp only [Act.put,List.setIfInBounds_toArray,List.set_cons_zero,List.set_cons_succ]
   refine wpAnyH_take (i := 7) (oi := _) (v := ?_) (by rw [List.getElem?_toArray]; rfl) (by kernel_rfl) (by kernel_rfl) (by kernel_rfl) (by exact fun _ _ _ h => h) (Or.inl ⟨by rfl,?_⟩) (by assumption) ?_
   rotate_left
   ·intro w hSw
    try simp only [Cells,blk,List.cons_append,List.nil_append,and_true,Nat.reduceAdd,Nat.add_zero,Nat.zero_add] at hSw
    go_simp
    try with_reducible rfl
   simp only [Act.put,List.setIfInBounds_toArray,List.set_cons_zero,List.set_cons_succ]
   refine wpAnyH_take (i := 8) (oi := _) (v := ?_) (by rw [List.getElem?_toArray]; rfl) (by kernel_rfl) (by kernel_rfl) (by kernel_rfl) (by exact fun _ _ _ h => h) (Or.inl ⟨by rfl,?_⟩) (by assumption) ?_
   rotate_left
   ·intro w hSw
    try simp only [Cells,blk,List.cons_append,List.nil_append,and_true,Nat.reduceAdd,Nat.add_zero,Nat.zero_add] at hSw
    go_simp
    try with_reducible rfl
   simp only [Act.put,List.setIfInBounds_toArray,List.set_cons_zero,List.set_cons_succ]
   refine wpAnyH_take (i := 9) (oi := _) (v := ?_) (by rw [List.getElem?_toArray]; rfl) (by kernel_rfl) (by kernel_rfl) (by kernel_rfl) (by exact fun _ _ _ h => h) (Or.inl ⟨by rfl,?_⟩) (by assumption) ?_
   rotate_left
   ·intro w hSw
    try simp only [Cells,blk,List.cons_append,List.nil_append,and_true,Nat.reduceAdd,Nat.add_zero,Nat.zero_add] at hSw
    go_simp
    try with_reducible rfl
   simp only [Act.put,List.setIfInBounds_toArray,List.set_cons_zero,List.set_cons_succ]
   refine wpAnyH_take (i := 10) (oi := _) (v := ?_) (by rw [List.getElem?_toArray]; rfl) (by kernel_rfl) (by kernel_rfl) (by kernel_rfl) (by exact fun _ _ _ h => h) (Or.inl ⟨by rfl,?_⟩) (by assumption) ?_
   rotate_left
   ·intro w hSw
    try simp only [Cells,blk,List.cons_append,List.nil_append,and_true,Nat.reduceAdd,Nat.add_zero,Nat.zero_add] at hSw
    go_simp
    try with_reducible rfl
   simp only [Act.put,List.setIfInBounds_toArray,List.set_cons_zero,List.set_cons_succ]
   refine wpAnyH_take (i := 11) (oi := _) (v := ?_) (by rw [List.getElem?_toArray]; rfl) (by kernel_rfl) (by kernel_rfl) (by kernel_rfl) (by exact fun _ _ _ h => h) (Or.inl ⟨by rfl,?_⟩) (by assumption) ?_
   rotate_left
   ·intro w hSw
    try simp only [Cells,blk,List.cons_append,List.nil_append,and_true,Nat.reduceAdd,Nat.add_zero,Nat.zero_add] at hSw
    go_simp
    try with_reducible rfl
   simp only [Act.put,List.setIfInBounds_toArray,List.set_cons_zero,List.set_cons_succ]
   refine wpAnyH_take (i := 12) (oi := _) (v := ?_) (by rw [List.getElem?_toArray]; rfl) (by kernel_rfl) (by kernel_rfl) (by kernel_rfl) (by exact fun _ _ _ h => h) (Or.inl ⟨by rfl,?_⟩) (by assumption) ?_
   rotate_left
   ·intro w hSw
    try simp only [Cells,blk,List.cons_append,List.nil_append,and_true,Nat.reduceAdd,Nat.add_zero,Nat.zero_add] at hSw
    go_simp
    try with_reducible rfl
   simp only [Act.put,List.setIfInBounds_toArray,List.set_cons_zero,List.set_cons_succ]
   refine wpAnyH_take (i := 13) (oi := _) (v := ?_) (by rw [List.getElem?_toArray]; rfl) (by kernel_rfl) (by kernel_rfl) (by kernel_rfl) (by exact fun _ _ _ h => h) (Or.inl ⟨by rfl,?_⟩) (by assumption) ?_
   rotate_left
   ·intro w hSw
    try simp only [Cells,blk,List.cons_append,List.nil_append,and_true,Nat.reduceAdd,Nat.add_zero,Nat.zero_add] at hSw
    go_simp
    try with_reducible rfl
   simp only [Act.put,List.setIfInBounds_toArray,List.set_cons_zero,List.set_cons_succ]
   refine wpAnyH_take (i := 14) (oi := _) (v := ?_) (by rw [List.getElem?_toArray]; rfl) (by kernel_rfl) (by kernel_rfl) (by kernel_rfl) (by exact fun _ _ _ h => h) (Or.inl ⟨by rfl,?_⟩) (by assumption) ?_
   rotate_left
   ·intro w hSw
    try simp only [Cells,blk,List.cons_append,List.nil_append,and_true,Nat.reduceAdd,Nat.add_zero,Nat.zero_add] at hSw
    go_simp
    try with_reducible rfl
   simp only [Act.put,List.setIfInBounds_toArray,List.set_cons_zero,List.set_cons_succ]
   refine wpAnyH_take (i := 15) (oi := _) (v := ?_) (by rw [List.getElem?_toArray]; rfl) (by kernel_rfl) (by kernel_rfl) (by kernel_rfl) (by exact fun _ _ _ h => h) (Or.inl ⟨by rfl,?_⟩) (by assumption) ?_
   rotate_left
   ·intro w hSw
    try simp only [Cells,blk,List.cons_append,List.nil_append,and_true,Nat.reduceAdd,Nat.add_zero,Nat.zero_add] at hSw
    go_simp
    try with_reducible rfl
   simp only [Act.put,List.setIfInBounds_toArray,List.set_cons_zero,List.set_cons_succ]
   refine wpAnyH_ready (rs := [16]) (by kernel_rfl) (by simp) (AllReadyH.cons (o := _) (by rw [List.getElem?_toArray]; rfl) (fun K hK => ?_) AllReadyH.nil)
   go_simp
   generalize hX1 : World.drew _ = X1
   have ba1 : Blk X1 (w.heap.size + 1 + 1) 159 ((bcells (arrK hi lo k)).set k (.int .u8 (byt lo k : Nat))) := by rw [← hX1]; exact ba.setAt _
   have bu1 : Blk X1 w.heap.size 26 [.int .u64 hi,.int .u64 lo] := by rw [← hX1]; exact bu.other (by omega) _
   have br1 : Blk X1 (w.heap.size + 1) 159 Z := by rw [← hX1]; exact br.other (by omega) _
   have hB1 : Below w.heap.size w X1 := by rw [← hX1]; exact (hB.setCell (p := ⟨w.heap.size + 1 + 1,k,none⟩) (by simp; omega) _).drew
   obtain ⟨v1,hv1⟩ : ∃ v,((bcells (arrK hi lo k)).set k (.int .u8 (byt lo k : Nat)))[8 + k]? = some v := ⟨_,List.getElem?_eq_getElem (by simp [bcells,arrK]; omega)⟩
   have cz1 := ba1.cell hv1
   have fz1 := ba1.frozen (8 + k)
   have TU1 := bu1.cells
   clear hX1 cz fz hv hv1 c0 c1 TU bu br ba hB
   clear hHeld
   refine hK.out _ _ (TU1) (fun hHeld => ?_)
   clear hK K
   try simp only [Act.put,List.setIfInBounds_toArray,List.set_cons_zero,List.set_cons_succ]
   refine wpAnyH_take (i := 17) (oi := _) (v := ?_) (by rw [List.getElem?_toArray]; rfl) (by kernel_rfl) (by kernel_rfl) (by kernel_rfl) (by exact fun _ _ _ h => h) (Or.inl ⟨by rfl,?_⟩) (by assumption) ?_
   rotate_left
   ·intro w hSw
    try simp only [Cells,blk,List.cons_append,List.nil_append,and_true,Nat.reduceAdd,Nat.add_zero,Nat.zero_add] at hSw
    go_simp
    try with_reducible rfl
   simp only [Act.put,List.setIfInBounds_toArray,List.set_cons_zero,List.set_cons_succ]
   refine wpAnyH_ready (rs := [18]) (by kernel_rfl) (by simp) (AllReadyH.cons (o := _) (by rw [List.getElem?_toArray]; rfl) (fun K hK => ?_) AllReadyH.nil)
   go_simp
   generalize hX2 : World.setCell _ _ _ = X2
   have ba2 : Blk X2 (w.heap.size + 1 + 1) 159 (bcells (arrK hi lo (k + 1))) := by
    have := ba1.setAt (j := 8 + k) (.int .u8 (byt hi k : Nat))
    rw [hX2] at this
    have e : ((bcells (arrK hi lo k)).set k (.int .u8 (byt lo k : Nat))).set (8 + k) (.int .u8 (byt hi k : Nat)) = bcells (arrK hi lo (k + 1)) := by
     rw [← arrK_succ hi lo k hlt]
     simp [bcells,List.map_set]
    rwa [e] at this
   have bu2 : Blk X2 w.heap.size 26 [.int .u64 hi,.int .u64 lo] := by rw [← hX2]; exact bu1.other (by omega) _
   have br2 : Blk X2 (w.heap.size + 1) 159 Z := by rw [← hX2]; exact br1.other (by omega) _
   have hB2 : Below w.heap.size w X2 := by rw [← hX2]; exact hB1.setCell (p := ⟨w.heap.size + 1 + 1,8 + k,none⟩) (by simp; omega) _
   have TU2 := bu2.cells
   have HR : Hid (∃ k2 : Nat,Value.int .i64 ((k : Int) + 1) = .int .i64 k2 ∧ k2 ≤ 8 ∧ Blk X2 w.heap.size 26 [.int .u64 hi,.int .u64 lo] ∧ Blk X2 (w.heap.size + 1) 159 Z ∧ Blk X2 (w.heap.size + 1 + 1) 159 (bcells (arrK hi lo k2)) ∧ Below w.heap.size w X2) := Lib.hid ⟨k + 1,by simp,by omega,bu2,br2,ba2,hB2⟩
   clear hX2 cz1 fz1 TU1 bu1 br1 ba1 hB1 bu2 br2 ba2 hB2
   clear hHeld
   refine hK.out _ _ (TU2) (fun hHeld => ?_)
   clear hK K
   try simp only [Act.put,List.setIfInBounds_toArray,List.set_cons_zero,List.set_cons_succ]
   refine wpAnyH_done (by kernel_rfl) ?_ _
   go_wp2
   refine ⟨HR.out,?_⟩
   simp [intOf]
   omega
  ·obtain rfl : k = 8 := by omega
   have g1 : decide (8 < 8) = false := by decide
   rw [arrK_end] at ba
   have e16 : bcells (b16 hi lo) = [.int .u8 (byt lo 0 : Nat),.int .u8 (byt lo 1 : Nat),.int .u8 (byt lo 2 : Nat),.int .u8 (byt lo 3 : Nat),.int .u8 (byt lo 4 : Nat),.int .u8 (byt lo 5 : Nat),.int .u8 (byt lo 6 : Nat),.int .u8 (byt lo 7 : Nat),.int .u8 (byt hi 0 : Nat),.int .u8 (byt hi 1 : Nat),.int .u8 (byt hi 2 : Nat),.int .u8 (byt hi 3 : Nat),.int .u8 (byt hi 4 : Nat),.int .u8 (byt hi 5 : Nat),.int .u8 (byt hi 6 : Nat),.int .u8 (byt hi 7 : Nat)] := by simp [b16,bcells,List.range_succ]
   rw [e16] at ba
   have TB := ba.cells
   subst hZ
   have TR := br.cells
   have hOpen := TB
   simp only [Cells,blk,List.cons_append,List.nil_append,and_true,Nat.reduceAdd,Nat.add_zero,Nat.zero_add] at hOpen
   obtain ⟨c0,c1,c2,c3,c4,c5,c6,c7,c8,c9,c10,c11,c12,c13,c14,c15⟩ := hOpen
   have hOpen := TR
   simp only [Cells,blk,List.cons_append,List.nil_append,and_true,Nat.reduceAdd,Nat.add_zero,Nat.zero_add] at hOpen
   obtain ⟨r0,r1,r2,r3,r4,r5,r6,r7,r8,r9,r10,r11,r12,r13,r14,r15⟩ := hOpen
   have f0 := br.frozen 0
   have f1 := br.frozen 1
   have f2 := br.frozen 2
   have f3 := br.frozen 3
   have f4 := br.frozen 4
   have f5 := br.frozen 5
   have f6 := br.frozen 6
   have f7 := br.frozen 7
   have f8 := br.frozen 8
   have f9 := br.frozen 9
   have f10 := br.frozen 10
   have f11 := br.frozen 11
   have f12 := br.frozen 12
   have f13 := br.frozen 13
   have f14 := br.frozen 14
   have f15 := br.frozen 15
   have HBR := Lib.hid br
   clear TB TR ba bu br e16
   go_wp2
   generalize hX : World.setCell _ _ _ = X
   have bX : Blk X (w.heap.size + 1) 159 [.int .u8 (byt lo 0 : Nat),.int .u8 (byt lo 1 : Nat),.int .u8 (byt lo 2 : Nat),.int .u8 (byt lo 3 : Nat),.int .u8 (byt lo 4 : Nat),.int .u8 (byt lo 5 : Nat),.int .u8 (byt lo 6 : Nat),.int .u8 (byt lo 7 : Nat),.int .u8 (byt hi 0 : Nat),.int .u8 (byt hi 1 : Nat),.int .u8 (byt hi 2 : Nat),.int .u8 (byt hi 3 : Nat),.int .u8 (byt hi 4 : Nat),.int .u8 (byt hi 5 : Nat),.int .u8 (byt hi 6 : Nat),.int .u8 (byt hi 7 : Nat)] := by
    rw [← hX]
    have br := HBR.out
    exact ((((((((((((((((br.setAt (j := 0) _).setAt (j := 1) _).setAt (j := 2) _).setAt (j := 3) _).setAt (j := 4) _).setAt (j := 5) _).setAt (j := 6) _).setAt (j := 7) _).setAt (j := 8) _).setAt (j := 9) _).setAt (j := 10) _).setAt (j := 11) _).setAt (j := 12) _).setAt (j := 13) _).setAt (j := 14) _).setAt (j := 15) _)
   have hBX : Below w.heap.size w X := by
    rw [← hX]
    exact ((((((((((((((((hB.setCell (p := ⟨w.heap.size + 1,0,none⟩) (by simp) _).setCell (p := ⟨w.heap.size + 1,1,none⟩) (by simp) _).setCell (p := ⟨w.heap.size + 1,2,none⟩) (by simp) _).setCell (p := ⟨w.heap.size + 1,3,none⟩) (by simp) _).setCell (p := ⟨w.heap.size + 1,4,none⟩) (by simp) _).setCell (p := ⟨w.heap.size + 1,5,none⟩) (by simp) _).setCell (p := ⟨w.heap.size + 1,6,none⟩) (by simp) _).setCell (p := ⟨w.heap.size + 1,7,none⟩) (by simp) _).setCell (p := ⟨w.heap.size + 1,8,none⟩) (by simp) _).setCell (p := ⟨w.heap.size + 1,9,none⟩) (by simp) _).setCell (p := ⟨w.heap.size + 1,10,none⟩) (by simp) _).setCell (p := ⟨w.heap.size + 1,11,none⟩) (by simp) _).setCell (p := ⟨w.heap.size + 1,12,none⟩) (by simp) _).setCell (p := ⟨w.heap.size + 1,13,none⟩) (by simp) _).setCell (p := ⟨w.heap.size + 1,14,none⟩) (by simp) _).setCell (p := ⟨w.heap.size + 1,15,none⟩) (by simp) _)
   clear hX c0 c1 c2 c3 c4 c5 c6 c7 c8 c9 c10 c11 c12 c13 c14 c15 r0 r1 r2 r3 r4 r5 r6 r7 r8 r9 r10 r11 r12 r13 r14 r15 f0 f1 f2 f3 f4 f5 f6 f7 f8 f9 f10 f11 f12 f13 f14 f15
   have TX := bX.cells
   have hOpen := TX
   simp only [Cells,blk,List.cons_append,List.nil_append,and_true,Nat.reduceAdd,Nat.add_zero,Nat.zero_add] at hOpen
   obtain ⟨x0,x1,x2,x3,x4,x5,x6,x7,x8,x9,x10,x11,x12,x13,x14,x15⟩ := hOpen
   refine bodyPost_ret (v := .agg #[.int .u8 (byt lo 0 : Nat),.int .u8 (byt lo 1 : Nat),.int .u8 (byt lo 2 : Nat),.int .u8 (byt lo 3 : Nat),.int .u8 (byt lo 4 : Nat),.int .u8 (byt lo 5 : Nat),.int .u8 (byt lo 6 : Nat),.int .u8 (byt lo 7 : Nat),.int .u8 (byt hi 0 : Nat),.int .u8 (byt hi 1 : Nat),.int .u8 (byt hi 2 : Nat),.int .u8 (byt hi 3 : Nat),.int .u8 (byt hi 4 : Nat),.int .u8 (byt hi 5 : Nat),.int .u8 (byt hi 6 : Nat),.int .u8 (byt hi 7 : Nat)]) (by simp [results,Tryz.results118,go_sem,x0,x1,x2,x3,x4,x5,x6,x7,x8,x9,x10,x11,x12,x13,x14,x15]) rfl ?_
   exact ⟨rfl,hBX⟩
end Go.Proofs.YtldcihjddebciaaGreat
