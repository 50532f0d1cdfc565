/- uuid: the reference's Number. And what follows it. -/
import Derived.Test.YtldcihjddebciaaGreatDUuC
import Derived.Maps.AppendAt
set_option linter.unusedSimpArgs false
set_option linter.unusedVariables false
set_option maxRecDepth 100000
set_option maxHeartbeats 4000000
namespace Go.Proofs.YtldcihjddebciaaGreat
open Go.RowKit
theorem rnumber_any (hi lo : Nat) (hh : hi < 18446744073709551616) (hl : lo < 18446744073709551616) (w : World) :
 Calls Tryz.prog 42 #[.agg #[.int .u64 hi,.int .u64 lo]] w fun e w' => e = .returned (.tuple #[.int .u16 (numI hi lo),.bool (isShort hi lo)]) ∧ Below w.heap.size w w' := by
 have hb0 : Below w.heap.size w (w.alloc (.cells #[.int .u64 hi,.int .u64 lo] 26)) := (Below.refl _ _).alloc (Nat.le_refl _) _
 have T := cells_new w [.int .u64 hi,.int .u64 lo] 26
 obtain ⟨N,hN⟩ : ∃ N,hi / 4294967296 = N := ⟨_,rfl⟩
 have hNI : (hi : Int) / 4294967296 = (N : Int) := by rw [← hN]; simp
 by_cases hbig : 65535 < N
 ·have g1 : decide (65535 < N) = true := by simpa using hbig
  have g1' : decide ((65535 : Int) < (N : Int)) = true := by simp; omega
  have hs : isShort hi lo = false := by
   unfold isShort
   have : (hi / 281474976710656 == 0) = false := by rw [beq_eq_false_iff_ne]; omega
   rw [this]
   simp
  have hn : numI hi lo = 0 := by unfold numI; rw [hs]; rfl
  rw [hs,hn]
  clear hs hn hN
  go_enter Tryz.func42,Tryz.ntmps42
  go_upto_region 2 with fail
  generalize hX : w.alloc (.cells _ 26) = X at T hb0 ⊢
  clear hX
  refine wp_region_held_drew (S := (fun W' : World => Cells W' (blk w.heap.size 0 0 [.int .u64 hi,.int .u64 lo]))) (by kernel_rfl) (T.drew) (fun hHeld => ?_)
  refine wpAnyH_take (i := 0) (oi := _) (v := ?_) (by rw [List.getElem?_toArray]; rfl) (by kernel_rfl) (by kernel_rfl) (by kernel_rfl) (by exact fun _ _ _ h => h) (Or.inl ⟨by rfl,?_⟩) (by assumption) ?_
  rotate_left
  ·intro w hSw
   try simp only [Cells,blk,List.cons_append,List.nil_append,and_true,Nat.reduceAdd,Nat.add_zero,Nat.zero_add] at hSw
   go_simp
   try with_reducible rfl
  simp only [Act.put,List.setIfInBounds_toArray,List.set_cons_zero,List.set_cons_succ]
  refine wpAnyH_take (i := 1) (oi := _) (v := ?_) (by rw [List.getElem?_toArray]; rfl) (by kernel_rfl) (by kernel_rfl) (by kernel_rfl) (by exact fun _ _ _ h => h) (Or.inl ⟨by rfl,?_⟩) (by assumption) ?_
  rotate_left
  ·intro w hSw
   try simp only [Cells,blk,List.cons_append,List.nil_append,and_true,Nat.reduceAdd,Nat.add_zero,Nat.zero_add] at hSw
   go_simp
   try with_reducible rfl
  simp only [Act.put,List.setIfInBounds_toArray,List.set_cons_zero,List.set_cons_succ]
  refine wpAnyH_take (i := 2) (oi := _) (v := ?_) (by rw [List.getElem?_toArray]; rfl) (by kernel_rfl) (by kernel_rfl) (by kernel_rfl) (by exact fun _ _ _ h => h) (Or.inl ⟨by rfl,?_⟩) (by assumption) ?_
  rotate_left
  ·intro w hSw
   try simp only [Cells,blk,List.cons_append,List.nil_append,and_true,Nat.reduceAdd,Nat.add_zero,Nat.zero_add] at hSw
   go_simp
   try with_reducible rfl
  simp only [Act.put,List.setIfInBounds_toArray,List.set_cons_zero,List.set_cons_succ]
  refine wpAnyH_take (i := 3) (oi := _) (v := undef) (by rw [List.getElem?_toArray]; rfl) (by kernel_rfl) (by kernel_rfl) (by kernel_rfl) (by exact fun _ _ _ h => h) (Or.inr ⟨by rfl,rfl⟩) (by assumption) ?_
  simp only [Act.put,List.setIfInBounds_toArray,List.set_cons_zero,List.set_cons_succ]
  refine wpAnyH_take (i := 4) (oi := _) (v := undef) (by rw [List.getElem?_toArray]; rfl) (by kernel_rfl) (by kernel_rfl) (by kernel_rfl) (by exact fun _ _ _ h => h) (Or.inr ⟨by rfl,rfl⟩) (by assumption) ?_
  simp only [Act.put,List.setIfInBounds_toArray,List.set_cons_zero,List.set_cons_succ]
  refine wpAnyH_take (i := 5) (oi := _) (v := undef) (by rw [List.getElem?_toArray]; rfl) (by kernel_rfl) (by kernel_rfl) (by kernel_rfl) (by exact fun _ _ _ h => h) (Or.inr ⟨by rfl,rfl⟩) (by assumption) ?_
  simp only [Act.put,List.setIfInBounds_toArray,List.set_cons_zero,List.set_cons_succ]
  refine wpAnyH_take (i := 6) (oi := _) (v := undef) (by rw [List.getElem?_toArray]; rfl) (by kernel_rfl) (by kernel_rfl) (by kernel_rfl) (by exact fun _ _ _ h => h) (Or.inr ⟨by rfl,rfl⟩) (by assumption) ?_
  simp only [Act.put,List.setIfInBounds_toArray,List.set_cons_zero,List.set_cons_succ]
  refine wpAnyH_take (i := 7) (oi := _) (v := undef) (by rw [List.getElem?_toArray]; rfl) (by kernel_rfl) (by kernel_rfl) (by kernel_rfl) (by exact fun _ _ _ h => h) (Or.inr ⟨by rfl,rfl⟩) (by assumption) ?_
  simp only [Act.put,List.setIfInBounds_toArray,List.set_cons_zero,List.set_cons_succ]
  refine wpAnyH_take (i := 8) (oi := _) (v := ?_) (by rw [List.getElem?_toArray]; rfl) (by kernel_rfl) (by kernel_rfl) (by kernel_rfl) (by exact fun _ _ _ h => h) (Or.inl ⟨by rfl,?_⟩) (by assumption) ?_
  rotate_left
  ·intro w hSw
   try simp only [Cells,blk,List.cons_append,List.nil_append,and_true,Nat.reduceAdd,Nat.add_zero,Nat.zero_add] at hSw
   go_simp
   try with_reducible rfl
  simp only [Act.put,List.setIfInBounds_toArray,List.set_cons_zero,List.set_cons_succ]
  refine wpAnyH_done (by kernel_rfl) ?_ _
  go_wp2
  refine bodyPost_ret (v := .tuple #[.int .u16 0,.bool false]) (by simp [results,Tryz.results42,go_sem] <;> rfl) rfl ?_
  exact ⟨rfl,hb0.drew⟩
 ·have g1 : decide (65535 < N) = false := by simpa using hbig
  have g1' : decide ((65535 : Int) < (N : Int)) = false := by simp; omega
  have i1 : (N : Int) < 65536 := by omega
  have i0 : (0 : Int) ≤ (N : Int) := by omega
  have w16 : IntKind.u16.wrap (N : Int) = (N : Int) := IntWalk.u16_in _ (by omega)
  obtain ⟨c1,hc1⟩ : ∃ c,((N : Int) * 4294967296 + 4096 == (hi : Int)) = c := ⟨_,rfl⟩
  obtain ⟨c2,hc2⟩ : ∃ c,((9223372588214596859 : Int) == (lo : Int)) = c := ⟨_,rfl⟩
  have hs : isShort hi lo = (c1 && c2) := by
   rw [← hc1,← hc2,Bool.eq_iff_iff]
   unfold isShort
   simp only [Bool.and_eq_true,beq_iff_eq]
   omega
  have hn : numI hi lo = if c1 && c2 then (N : Int) else 0 := by
   unfold numI numV
   rw [hs,hN,Nat.mod_eq_of_lt (by omega)]
  rw [hs,hn]
  have hsh := fun W => rshort_any N (by omega) W
  obtain ⟨M,hM⟩ : ∃ M : Int,(N : Int) * 4294967296 + 4096 = M := ⟨_,rfl⟩
  obtain ⟨K0,hK0⟩ : ∃ M : Int,(9223372588214596859 : Int) = M := ⟨_,rfl⟩
  rw [hM] at hc1
  rw [hK0] at hc2
  simp only [hM,hK0] at hsh
  have HSH := Lib.hid hsh
  clear hs hn hN hsh hM hK0 hh hl
  go_enter Tryz.func42,Tryz.ntmps42
  go_upto_region 2 with fail
  generalize hX : w.alloc (.cells _ 26) = X at T hb0 ⊢
  clear hX
  cases c1
  ·skip
   refine wp_region_held_drew (S := (fun W' : World => Cells W' (blk w.heap.size 0 0 [.int .u64 hi,.int .u64 lo]))) (by kernel_rfl) (T.drew) (fun hHeld => ?_)
   refine wpAnyH_take (i := 0) (oi := _) (v := ?_) (by rw [List.getElem?_toArray]; rfl) (by kernel_rfl) (by kernel_rfl) (by kernel_rfl) (by exact fun _ _ _ h => h) (Or.inl ⟨by rfl,?_⟩) (by assumption) ?_
   rotate_left
   ·intro w hSw
    try simp only [Cells,blk,List.cons_append,List.nil_append,and_true,Nat.reduceAdd,Nat.add_zero,Nat.zero_add] at hSw
    go_simp
    try with_reducible rfl
   simp only [Act.put,List.setIfInBounds_toArray,List.set_cons_zero,List.set_cons_succ]
   refine wpAnyH_take (i := 1) (oi := _) (v := ?_) (by rw [List.getElem?_toArray]; rfl) (by kernel_rfl) (by kernel_rfl) (by kernel_rfl) (by exact fun _ _ _ h => h) (Or.inl ⟨by rfl,?_⟩) (by assumption) ?_
   rotate_left
   ·intro w hSw
    try simp only [Cells,blk,List.cons_append,List.nil_append,and_true,Nat.reduceAdd,Nat.add_zero,Nat.zero_add] at hSw
    go_simp
    try with_reducible rfl
   simp only [Act.put,List.setIfInBounds_toArray,List.set_cons_zero,List.set_cons_succ]
   refine wpAnyH_take (i := 2) (oi := _) (v := ?_) (by rw [List.getElem?_toArray]; rfl) (by kernel_rfl) (by kernel_rfl) (by kernel_rfl) (by exact fun _ _ _ h => h) (Or.inl ⟨by rfl,?_⟩) (by assumption) ?_
   rotate_left
   ·intro w hSw
    try simp only [Cells,blk,List.cons_append,List.nil_append,and_true,Nat.reduceAdd,Nat.add_zero,Nat.zero_add] at hSw
    go_simp
    try with_reducible rfl
   simp only [Act.put,List.setIfInBounds_toArray,List.set_cons_zero,List.set_cons_succ]
   refine wpAnyH_take (i := 3) (oi := _) (v := ?_) (by rw [List.getElem?_toArray]; rfl) (by kernel_rfl) (by kernel_rfl) (by kernel_rfl) (by exact fun _ _ _ h => h) (Or.inl ⟨by rfl,?_⟩) (by assumption) ?_
   rotate_left
   ·intro w hSw
    try simp only [Cells,blk,List.cons_append,List.nil_append,and_true,Nat.reduceAdd,Nat.add_zero,Nat.zero_add] at hSw
    go_simp
    try with_reducible rfl
   simp only [Act.put,List.setIfInBounds_toArray,List.set_cons_zero,List.set_cons_succ]
   refine wpAnyH_take (i := 4) (oi := _) (v := ?_) (by rw [List.getElem?_toArray]; rfl) (by kernel_rfl) (by kernel_rfl) (by kernel_rfl) (by exact fun _ _ _ h => h) (Or.inl ⟨by rfl,?_⟩) (by assumption) ?_
   rotate_left
   ·intro w hSw
    try simp only [Cells,blk,List.cons_append,List.nil_append,and_true,Nat.reduceAdd,Nat.add_zero,Nat.zero_add] at hSw
    go_simp
    try with_reducible rfl
   simp only [Act.put,List.setIfInBounds_toArray,List.set_cons_zero,List.set_cons_succ]
   refine wpAnyH_take (i := 6) (oi := _) (v := ?_) (by rw [List.getElem?_toArray]; rfl) (by kernel_rfl) (by kernel_rfl) (by kernel_rfl) (by exact fun _ _ _ h => h) (Or.inl ⟨by rfl,?_⟩) (by assumption) ?_
   rotate_left
   ·intro w hSw
    try simp only [Cells,blk,List.cons_append,List.nil_append,and_true,Nat.reduceAdd,Nat.add_zero,Nat.zero_add] at hSw
    go_simp
    try with_reducible rfl
   simp only [Act.put,List.setIfInBounds_toArray,List.set_cons_zero,List.set_cons_succ]
   refine wpAnyH_ready (rs := [5]) (by kernel_rfl) (by simp) (AllReadyH.cons (o := _) (by rw [List.getElem?_toArray]; rfl) (fun K hK => ?_) AllReadyH.nil)
   go_simp
   go_at_call 6
   refine (HSH.out _).mono ?_
   rintro e w2 ⟨rfl,hB2⟩
   have T2 := T.keep (((Below.refl _ X).drew).trans hB2)
   have hB3 := hb0.drew.trans (hB2.mono hb0.drew.size)
   clear hHeld
   refine hK.out _ _ (T2) (fun hHeld => ?_)
   clear hK K
   try simp only [Act.put,List.setIfInBounds_toArray,List.set_cons_zero,List.set_cons_succ]
   refine wpAnyH_take (i := 7) (oi := _) (v := ?_) (by rw [List.getElem?_toArray]; rfl) (by kernel_rfl) (by kernel_rfl) (by kernel_rfl) (by exact fun _ _ _ h => h) (Or.inl ⟨by rfl,?_⟩) (by assumption) ?_
   rotate_left
   ·intro w hSw
    try simp only [Cells,blk,List.cons_append,List.nil_append,and_true,Nat.reduceAdd,Nat.add_zero,Nat.zero_add] at hSw
    go_simp
    try with_reducible rfl
   simp only [Act.put,List.setIfInBounds_toArray,List.set_cons_zero,List.set_cons_succ]
   refine wpAnyH_take (i := 8) (oi := _) (v := ?_) (by rw [List.getElem?_toArray]; rfl) (by kernel_rfl) (by kernel_rfl) (by kernel_rfl) (by exact fun _ _ _ h => h) (Or.inl ⟨by rfl,?_⟩) (by assumption) ?_
   rotate_left
   ·intro w hSw
    try simp only [Cells,blk,List.cons_append,List.nil_append,and_true,Nat.reduceAdd,Nat.add_zero,Nat.zero_add] at hSw
    go_simp
    try with_reducible rfl
   simp only [Act.put,List.setIfInBounds_toArray,List.set_cons_zero,List.set_cons_succ]
   refine wpAnyH_done (by kernel_rfl) ?_ _
   clear hNI i1 i0 hbig g1 g1' T2 hHeld HSH
   go_wp2
   refine bodyPost_ret (v := .tuple #[.int .u16 0,.bool false]) (by simp [results,Tryz.results42,go_sem] <;> rfl) rfl ?_
   exact ⟨rfl,hB3⟩
  ·cases c2
   ·skip
    refine wp_region_held_drew (S := (fun W' : World => Cells W' (blk w.heap.size 0 0 [.int .u64 hi,.int .u64 lo]))) (by kernel_rfl) (T.drew) (fun hHeld => ?_)
    refine wpAnyH_take (i := 0) (oi := _) (v := ?_) (by rw [List.getElem?_toArray]; rfl) (by kernel_rfl) (by kernel_rfl) (by kernel_rfl) (by exact fun _ _ _ h => h) (Or.inl ⟨by rfl,?_⟩) (by assumption) ?_
    rotate_left
    ·intro w hSw
     try simp only [Cells,blk,List.cons_append,List.nil_append,and_true,Nat.reduceAdd,Nat.add_zero,Nat.zero_add] at hSw
     go_simp
     try with_reducible rfl
    simp only [Act.put,List.setIfInBounds_toArray,List.set_cons_zero,List.set_cons_succ]
    refine wpAnyH_take (i := 1) (oi := _) (v := ?_) (by rw [List.getElem?_toArray]; rfl) (by kernel_rfl) (by kernel_rfl) (by kernel_rfl) (by exact fun _ _ _ h => h) (Or.inl ⟨by rfl,?_⟩) (by assumption) ?_
    rotate_left
    ·intro w hSw
     try simp only [Cells,blk,List.cons_append,List.nil_append,and_true,Nat.reduceAdd,Nat.add_zero,Nat.zero_add] at hSw
     go_simp
     try with_reducible rfl
    simp only [Act.put,List.setIfInBounds_toArray,List.set_cons_zero,List.set_cons_succ]
    refine wpAnyH_take (i := 2) (oi := _) (v := ?_) (by rw [List.getElem?_toArray]; rfl) (by kernel_rfl) (by kernel_rfl) (by kernel_rfl) (by exact fun _ _ _ h => h) (Or.inl ⟨by rfl,?_⟩) (by assumption) ?_
    rotate_left
    ·intro w hSw
     try simp only [Cells,blk,List.cons_append,List.nil_append,and_true,Nat.reduceAdd,Nat.add_zero,Nat.zero_add] at hSw
     go_simp
     try with_reducible rfl
    simp only [Act.put,List.setIfInBounds_toArray,List.set_cons_zero,List.set_cons_succ]
    refine wpAnyH_take (i := 3) (oi := _) (v := ?_) (by rw [List.getElem?_toArray]; rfl) (by kernel_rfl) (by kernel_rfl) (by kernel_rfl) (by exact fun _ _ _ h => h) (Or.inl ⟨by rfl,?_⟩) (by assumption) ?_
    rotate_left
    ·intro w hSw
     try simp only [Cells,blk,List.cons_append,List.nil_append,and_true,Nat.reduceAdd,Nat.add_zero,Nat.zero_add] at hSw
     go_simp
     try with_reducible rfl
    simp only [Act.put,List.setIfInBounds_toArray,List.set_cons_zero,List.set_cons_succ]
    refine wpAnyH_take (i := 4) (oi := _) (v := ?_) (by rw [List.getElem?_toArray]; rfl) (by kernel_rfl) (by kernel_rfl) (by kernel_rfl) (by exact fun _ _ _ h => h) (Or.inl ⟨by rfl,?_⟩) (by assumption) ?_
    rotate_left
    ·intro w hSw
     try simp only [Cells,blk,List.cons_append,List.nil_append,and_true,Nat.reduceAdd,Nat.add_zero,Nat.zero_add] at hSw
     go_simp
     try with_reducible rfl
    simp only [Act.put,List.setIfInBounds_toArray,List.set_cons_zero,List.set_cons_succ]
    refine wpAnyH_take (i := 6) (oi := _) (v := ?_) (by rw [List.getElem?_toArray]; rfl) (by kernel_rfl) (by kernel_rfl) (by kernel_rfl) (by exact fun _ _ _ h => h) (Or.inl ⟨by rfl,?_⟩) (by assumption) ?_
    rotate_left
    ·intro w hSw
     try simp only [Cells,blk,List.cons_append,List.nil_append,and_true,Nat.reduceAdd,Nat.add_zero,Nat.zero_add] at hSw
     go_simp
     try with_reducible rfl
    simp only [Act.put,List.setIfInBounds_toArray,List.set_cons_zero,List.set_cons_succ]
    refine wpAnyH_ready (rs := [5]) (by kernel_rfl) (by simp) (AllReadyH.cons (o := _) (by rw [List.getElem?_toArray]; rfl) (fun K hK => ?_) AllReadyH.nil)
    go_simp
    go_at_call 6
    refine (HSH.out _).mono ?_
    rintro e w2 ⟨rfl,hB2⟩
    have T2 := T.keep (((Below.refl _ X).drew).trans hB2)
    have hB3 := hb0.drew.trans (hB2.mono hb0.drew.size)
    clear hHeld
    refine hK.out _ _ (T2) (fun hHeld => ?_)
    clear hK K
    try simp only [Act.put,List.setIfInBounds_toArray,List.set_cons_zero,List.set_cons_succ]
    refine wpAnyH_take (i := 7) (oi := _) (v := ?_) (by rw [List.getElem?_toArray]; rfl) (by kernel_rfl) (by kernel_rfl) (by kernel_rfl) (by exact fun _ _ _ h => h) (Or.inl ⟨by rfl,?_⟩) (by assumption) ?_
    rotate_left
    ·intro w hSw
     try simp only [Cells,blk,List.cons_append,List.nil_append,and_true,Nat.reduceAdd,Nat.add_zero,Nat.zero_add] at hSw
     go_simp
     try with_reducible rfl
    simp only [Act.put,List.setIfInBounds_toArray,List.set_cons_zero,List.set_cons_succ]
    refine wpAnyH_take (i := 8) (oi := _) (v := ?_) (by rw [List.getElem?_toArray]; rfl) (by kernel_rfl) (by kernel_rfl) (by kernel_rfl) (by exact fun _ _ _ h => h) (Or.inl ⟨by rfl,?_⟩) (by assumption) ?_
    rotate_left
    ·intro w hSw
     try simp only [Cells,blk,List.cons_append,List.nil_append,and_true,Nat.reduceAdd,Nat.add_zero,Nat.zero_add] at hSw
     go_simp
     try with_reducible rfl
    simp only [Act.put,List.setIfInBounds_toArray,List.set_cons_zero,List.set_cons_succ]
    refine wpAnyH_done (by kernel_rfl) ?_ _
    clear hNI i1 i0 hbig g1 g1' T2 hHeld HSH
    go_wp2
    refine bodyPost_ret (v := .tuple #[.int .u16 0,.bool false]) (by simp [results,Tryz.results42,go_sem] <;> rfl) rfl ?_
    exact ⟨rfl,hB3⟩
   ·skip
    refine wp_region_held_drew (S := (fun W' : World => Cells W' (blk w.heap.size 0 0 [.int .u64 hi,.int .u64 lo]))) (by kernel_rfl) (T.drew) (fun hHeld => ?_)
    refine wpAnyH_take (i := 0) (oi := _) (v := ?_) (by rw [List.getElem?_toArray]; rfl) (by kernel_rfl) (by kernel_rfl) (by kernel_rfl) (by exact fun _ _ _ h => h) (Or.inl ⟨by rfl,?_⟩) (by assumption) ?_
    rotate_left
    ·intro w hSw
     try simp only [Cells,blk,List.cons_append,List.nil_append,and_true,Nat.reduceAdd,Nat.add_zero,Nat.zero_add] at hSw
     go_simp
     try with_reducible rfl
    simp only [Act.put,List.setIfInBounds_toArray,List.set_cons_zero,List.set_cons_succ]
    refine wpAnyH_take (i := 1) (oi := _) (v := ?_) (by rw [List.getElem?_toArray]; rfl) (by kernel_rfl) (by kernel_rfl) (by kernel_rfl) (by exact fun _ _ _ h => h) (Or.inl ⟨by rfl,?_⟩) (by assumption) ?_
    rotate_left
    ·intro w hSw
     try simp only [Cells,blk,List.cons_append,List.nil_append,and_true,Nat.reduceAdd,Nat.add_zero,Nat.zero_add] at hSw
     go_simp
     try with_reducible rfl
    simp only [Act.put,List.setIfInBounds_toArray,List.set_cons_zero,List.set_cons_succ]
    refine wpAnyH_take (i := 2) (oi := _) (v := ?_) (by rw [List.getElem?_toArray]; rfl) (by kernel_rfl) (by kernel_rfl) (by kernel_rfl) (by exact fun _ _ _ h => h) (Or.inl ⟨by rfl,?_⟩) (by assumption) ?_
    rotate_left
    ·intro w hSw
     try simp only [Cells,blk,List.cons_append,List.nil_append,and_true,Nat.reduceAdd,Nat.add_zero,Nat.zero_add] at hSw
     go_simp
     try with_reducible rfl
    simp only [Act.put,List.setIfInBounds_toArray,List.set_cons_zero,List.set_cons_succ]
    refine wpAnyH_take (i := 3) (oi := _) (v := ?_) (by rw [List.getElem?_toArray]; rfl) (by kernel_rfl) (by kernel_rfl) (by kernel_rfl) (by exact fun _ _ _ h => h) (Or.inl ⟨by rfl,?_⟩) (by assumption) ?_
    rotate_left
    ·intro w hSw
     try simp only [Cells,blk,List.cons_append,List.nil_append,and_true,Nat.reduceAdd,Nat.add_zero,Nat.zero_add] at hSw
     go_simp
     try with_reducible rfl
    simp only [Act.put,List.setIfInBounds_toArray,List.set_cons_zero,List.set_cons_succ]
    refine wpAnyH_take (i := 4) (oi := _) (v := ?_) (by rw [List.getElem?_toArray]; rfl) (by kernel_rfl) (by kernel_rfl) (by kernel_rfl) (by exact fun _ _ _ h => h) (Or.inl ⟨by rfl,?_⟩) (by assumption) ?_
    rotate_left
    ·intro w hSw
     try simp only [Cells,blk,List.cons_append,List.nil_append,and_true,Nat.reduceAdd,Nat.add_zero,Nat.zero_add] at hSw
     go_simp
     try with_reducible rfl
    simp only [Act.put,List.setIfInBounds_toArray,List.set_cons_zero,List.set_cons_succ]
    refine wpAnyH_take (i := 6) (oi := _) (v := ?_) (by rw [List.getElem?_toArray]; rfl) (by kernel_rfl) (by kernel_rfl) (by kernel_rfl) (by exact fun _ _ _ h => h) (Or.inl ⟨by rfl,?_⟩) (by assumption) ?_
    rotate_left
    ·intro w hSw
     try simp only [Cells,blk,List.cons_append,List.nil_append,and_true,Nat.reduceAdd,Nat.add_zero,Nat.zero_add] at hSw
     go_simp
     try with_reducible rfl
    simp only [Act.put,List.setIfInBounds_toArray,List.set_cons_zero,List.set_cons_succ]
    refine wpAnyH_ready (rs := [5]) (by kernel_rfl) (by simp) (AllReadyH.cons (o := _) (by rw [List.getElem?_toArray]; rfl) (fun K hK => ?_) AllReadyH.nil)
    go_simp
    go_at_call 6
    refine (HSH.out _).mono ?_
    rintro e w2 ⟨rfl,hB2⟩
    have T2 := T.keep (((Below.refl _ X).drew).trans hB2)
    have hB3 := hb0.drew.trans (hB2.mono hb0.drew.size)
    clear hHeld
    refine hK.out _ _ (T2) (fun hHeld => ?_)
    clear hK K
    try simp only [Act.put,List.setIfInBounds_toArray,List.set_cons_zero,List.set_cons_succ]
    refine wpAnyH_take (i := 7) (oi := _) (v := ?_) (by rw [List.getElem?_toArray]; rfl) (by kernel_rfl) (by kernel_rfl) (by kernel_rfl) (by exact fun _ _ _ h => h) (Or.inl ⟨by rfl,?_⟩) (by assumption) ?_
    rotate_left
    ·intro w hSw
     try simp only [Cells,blk,List.cons_append,List.nil_append,and_true,Nat.reduceAdd,Nat.add_zero,Nat.zero_add] at hSw
     go_simp
     try with_reducible rfl
    simp only [Act.put,List.setIfInBounds_toArray,List.set_cons_zero,List.set_cons_succ]
    refine wpAnyH_take (i := 8) (oi := _) (v := ?_) (by rw [List.getElem?_toArray]; rfl) (by kernel_rfl) (by kernel_rfl) (by kernel_rfl) (by exact fun _ _ _ h => h) (Or.inl ⟨by rfl,?_⟩) (by assumption) ?_
    rotate_left
    ·intro w hSw
     try simp only [Cells,blk,List.cons_append,List.nil_append,and_true,Nat.reduceAdd,Nat.add_zero,Nat.zero_add] at hSw
     go_simp
     try with_reducible rfl
    simp only [Act.put,List.setIfInBounds_toArray,List.set_cons_zero,List.set_cons_succ]
    refine wpAnyH_done (by kernel_rfl) ?_ _
    clear hNI i1 i0 hbig g1 g1' T2 hHeld HSH
    go_wp2
    refine bodyPost_ret (v := .tuple #[.int .u16 N,.bool true]) (by simp [results,Tryz.results42,go_sem] <;> rfl) rfl ?_
    exact ⟨rfl,hB3⟩
theorem Tryz.info_u8 : (Tryz.prog.info? 5).map (fun i => (i.zero,i.size,i.bytes)) = some (some (.int .u8 0),1,1) := by kernel_rfl
theorem same_any (v1 v2 : Value) (xs ys : List Nat) (w : World) (ha : BytesAt w v1 xs) (hb : BytesAt w v2 ys) :
 Calls Tryz.prog 14 #[v1,v2] w fun e w' => e = .returned (.bool (decide (xs = ys))) ∧ w = w' := by
 have ca := run_convert_b (P := Tryz.prog) ha 27 5 9 Tryz.underlying27 Tryz.underlying5 Tryz.underlying9
 have cb := run_convert_b (P := Tryz.prog) hb 27 5 9 Tryz.underlying27 Tryz.underlying5 Tryz.underlying9
 have hq := strB_beqL xs ys ha.2.2 hb.2.2
 have hq2 := strB_beq xs ys ha.2.2 hb.2.2
 obtain ⟨a1,n1,rfl⟩ := ha.1.val
 obtain ⟨a2,n2,rfl⟩ := hb.1.val
 obtain ⟨d,hd⟩ : ∃ d,decide (xs = ys) = d := ⟨_,rfl⟩
 rw [hd] at hq hq2 ⊢
 clear ha hb hd
 go_enter Tryz.func14,Tryz.ntmps14
 go_wp2
 go_ret
 exact ⟨rfl,rfl⟩
/-- the lowest bytes of a number -/
def putB (n size : Nat) : List Nat := (List.range size).map (byt n)
theorem putB_succ (n k : Nat) : putB n (k + 1) = putB n k ++ [byt n k] := by simp [putB,List.range_succ]
theorem putB_len (n k : Nat) : (putB n k).length = k := by simp [putB]
theorem putB_lt (n k : Nat) : ∀ x ∈ putB n k,x < 256 := fun x hx => by
 obtain ⟨j,_,rfl⟩ := List.mem_map.1 hx
 exact byt_lt n j
theorem bcells_len (bs : List Nat) : (bcells bs).length = bs.length := by simp [bcells]
theorem put_any (n size : Nat) (hn : n < 18446744073709551616) (hs : size ≤ 1000) (w : World) :
 Calls Tryz.prog 15 #[.int .u64 n,.int .i64 size] w fun e w' => ∃ v,e = .returned v ∧ w'.ownsRow w.heap.size 5 1 v size (bcells (putB n size)) ∧ Below w.heap.size w w' := by
 obtain ⟨i0,hi,hz0,hz1,hz2⟩ := info_parts Tryz.info_u8
 go_enter Tryz.func15,Tryz.ntmps15
 go_wp2
 go_loopw [0,5,6] (fun x v i wr => ∃ k : Nat,i = .int .i64 k ∧ k ≤ size ∧ x = .int .u64 ((n / 256 ^ k : Nat) : Int) ∧ wr.ownsRow w.heap.size 5 1 v k (bcells (putB n k)) ∧ Below w.heap.size w wr) (fun _ _ i _ => size - (intOf i).toNat)
 case atStart => exact ⟨0,by simp,Nat.zero_le _,by simp,World.ownsRow_nil _ _ _ _,Below.refl _ _⟩
 case round =>
  obtain ⟨k,rfl,hk,rfl,hown,hB⟩ := hrel
  by_cases hlt : k < size
  ·have g1 : decide (k < size) = true := by simpa using hlt
   obtain ⟨N,hN⟩ : ∃ N,n / 256 ^ k = N := ⟨_,rfl⟩
   have hNle : N < 18446744073709551616 := by rw [← hN]; exact Nat.lt_of_le_of_lt (Nat.div_le_self _ _) hn
   have hN1 : n / 256 ^ (k + 1) = N / 256 := by rw [← hN,Nat.pow_succ,Nat.div_div_eq_div_mul]
   have hby : byt n k = N % 256 := by unfold byt; rw [hN]
   have HN := Lib.hid hN
   have HN1 := Lib.hid hN1
   have HBY := Lib.hid hby
   have b1 : (N : Int) < 18446744073709551616 := by omega
   have b0 : (0 : Int) ≤ (N : Int) := by omega
   have e1 : IntKind.u8.wrap ((N : Int) % 256) = ((N % 256 : Nat) : Int) := by rw [IntWalk.u8_in _ (by omega)]; simp
   rw [hN]
   have w1 : IntKind.i64.wrap ((k : Int) + 1) = (k : Int) + 1 := IntWalk.i64_in _ (by omega)
   clear hN hN1 hby
   go_wp2_with (at_builtin; refine wpList_append_own _ rfl _ _ 27 rfl w.heap.size 5 i0 (.int .u8 0) 1 1 Tryz.underlying27 hi hz0 hz1 hz2 rfl (by decide) _ _ _ rfl (hown.alloc _) ⟨wr.heap.size,0,none⟩ 1 1 [.int .u8 ((N % 256 : Nat) : Int)] rfl rfl (cell_one_new _ _ _) (by simp [Value.oneCell']) (by unfold maxLen; omega) (by omega) (by have := hB.size; simp; omega) ?_)
   intro v' w2 hown' hgrow _
   obtain ⟨g',c',rfl⟩ := ownsRow_succ hown'
   have hB1 : Below w.heap.size w w2 := (hB.alloc hB.size _).grown hgrow (by have := hB.size; simp; omega) (fun j hj => (hown.lt j hj).1)
   have hown2 : w2.ownsRow w.heap.size 5 1 (.slice (some ⟨g',0,none⟩) (k + 1) c') (k + 1) (bcells (putB n (k + 1))) := by
    rw [putB_succ,HBY.out]
    simpa [bcells] using hown'
   have HR : Hid (∃ k2 : Nat,Value.int .i64 ((k : Int) + 1) = .int .i64 k2 ∧ k2 ≤ size ∧ Value.int .u64 ((N : Int) / 256) = .int .u64 ((n / 256 ^ k2 : Nat) : Int) ∧ w2.ownsRow w.heap.size 5 1 (.slice (some ⟨g',0,none⟩) (k + 1) c') k2 (bcells (putB n k2)) ∧ Below w.heap.size w w2) :=
    Lib.hid ⟨k + 1,by simp,hlt,by rw [HN1.out]; simp,hown2,hB1⟩
   clear hown hgrow hB hown' hown2 hB1
   go_wp2
   refine ⟨HR.out,?_⟩
   simp [intOf]
   omega
  ·have g1 : decide (k < size) = false := by simpa using hlt
   obtain rfl : k = size := by omega
   go_wp2
   go_ret
   exact ⟨_,rfl,hown,hB⟩
/-- the number of bytes, the least significant first -/
def vnum : List Nat → Nat
 |[] => 0
 |b :: l => vnum l * 256 + b
theorem vnum_lt : ∀ (l : List Nat),(∀ x ∈ l,x < 256) → vnum l < 256 ^ l.length
 |[],_ => by simp [vnum]
 |b :: l,h => by
  have := vnum_lt l fun x hx => h x (List.mem_cons_of_mem _ hx)
  have hb := h b (by simp)
  simp only [vnum,List.length_cons,Nat.pow_succ]
  omega
theorem slice_step (bs : List Nat) (at' k size : Nat) (hk : k < size) (h : at' + size ≤ bs.length) : (bs.drop (at' + k)).take (size - k) = (bs.getD (at' + k) 0) :: (bs.drop (at' + (k + 1))).take (size - (k + 1)) := by
 have hl : at' + k < bs.length := by omega
 rw [List.drop_eq_getElem_cons hl,show size - k = (size - (k + 1)) + 1 by omega,List.take_succ_cons,List.getD_eq_getElem?_getD,List.getElem?_eq_getElem hl]
 rfl
theorem num_any (v : Value) (bs : List Nat) (at' size : Nat) (w : World) (h : BytesAt w v bs) (hl : at' + size ≤ bs.length) (hs : size ≤ 8) (hm : bs.length ≤ 1099511627776) :
 Calls Tryz.prog 41 #[v,.int .i64 at',.int .i64 size] w fun e w' => e = .returned (.int .u64 (vnum ((bs.drop at').take size) : Nat)) ∧ w = w' := by
 obtain ⟨⟨_,_,_,ao,cap,rfl,_,hc⟩,_,hlt⟩ := h
 have HC := Lib.hid hc
 have HLT := Lib.hid hlt
 obtain ⟨n,hn⟩ : ∃ n,bs.length = n := ⟨_,rfl⟩
 have HN := Lib.hid hn
 rw [hn] at hl hm ⊢
 clear hc hlt hn
 have z0 : IntKind.i64.wrap ((size : Int) - 1) = (size : Int) - 1 := IntWalk.i64_in _ (by omega)
 go_enter Tryz.func41,Tryz.ntmps41
 go_wp2
 clear z0
 go_loop [7,8] (fun x i => ∃ k : Nat,i = .int .i64 ((k : Int) - 1) ∧ k ≤ size ∧ x = .int .u64 (vnum ((bs.drop (at' + k)).take (size - k)) : Nat)) (fun _ i => (intOf i + 1).toNat)
 case atStart => exact ⟨size,rfl,Nat.le_refl _,by simp [vnum]⟩
 case round =>
  obtain ⟨k,rfl,hk,rfl⟩ := hrel
  by_cases hk0 : k = 0
  ·subst hk0
   have g1 : decide ((0 : Int) ≤ ((0 : Nat) : Int) - 1) = false := by decide
   have g2 : decide ((1 : Int) ≤ ((0 : Nat) : Int)) = false := by decide
   go_wp2
   go_ret
   exact ⟨by simp,rfl⟩
  ·obtain ⟨j,rfl⟩ : ∃ j,k = j + 1 := ⟨k - 1,by omega⟩
   have hj : j < size := by omega
   have hst := slice_step bs at' j size hj (by rw [HN.out]; exact hl)
   obtain ⟨b,off,rfl,hb,hcell⟩ := HC.out (by rw [HN.out]; omega)
   have hjl : at' + j < bs.length := by rw [HN.out]; omega
   have hx : bs.getD (at' + j) 0 = bs[at' + j] := by rw [List.getD_eq_getElem?_getD,List.getElem?_eq_getElem hjl]; rfl
   have hx2 := HLT.out _ (List.getElem_mem hjl)
   have hcl := hcell (at' + j) (.int .u8 (bs[at' + j] : Nat)) (by simp [bcells,List.getElem?_eq_getElem hjl])
   rw [hx] at hst
   obtain ⟨x,hxx⟩ : ∃ x,bs[at' + j] = x := ⟨_,rfl⟩
   rw [hxx] at hst hx2 hcl
   obtain ⟨V,hV⟩ : ∃ V,(bs.drop (at' + (j + 1))).take (size - (j + 1)) = V := ⟨_,rfl⟩
   have hVl : V.length ≤ 7 := by rw [← hV]; simp; omega
   have hVb := vnum_lt V fun y hy => HLT.out y (by rw [← hV] at hy; exact List.mem_of_mem_drop (List.mem_of_mem_take hy))
   have hVm : vnum V < 72057594037927936 := Nat.lt_of_lt_of_le hVb (Nat.le_trans (Nat.pow_le_pow_right (by decide) hVl) (by decide))
   rw [hV] at hst ⊢
   have hnew : vnum ((bs.drop (at' + j)).take (size - j)) = vnum V * 256 + x := by rw [hst]; rfl
   obtain ⟨u,hu⟩ : ∃ u,vnum V = u := ⟨_,rfl⟩
   rw [hu] at hnew hVm ⊢
   have HNEW := Lib.hid hnew
   have e0 : ((j + 1 : Nat) : Int) - 1 = (j : Int) := by omega
   rw [e0]
   have g1 : decide ((0 : Int) ≤ (j : Int)) = true := by simp
   have w1 : IntKind.i64.wrap ((j : Int) - 1) = (j : Int) - 1 := IntWalk.i64_in _ (by omega)
   have w2 : IntKind.i64.wrap ((at' : Int) + (j : Int)) = (at' : Int) + (j : Int) := IntWalk.i64_in _ (by omega)
   have w3 : IntKind.u64.wrap ((u : Int) * 256) = (u : Int) * 256 := IntWalk.u64_in _ (by omega)
   have w4 : IntKind.u64.wrap ((u : Int) * 256 + (x : Int)) = (u : Int) * 256 + (x : Int) := IntWalk.u64_in _ (by omega)
   have i0 : (0 : Int) ≤ (at' : Int) + (j : Int) := by omega
   have i1 : (at' : Int) + (j : Int) < (n : Int) := by omega
   have e1 : ((at' : Int) + (j : Int)).toNat = at' + j := by omega
   have x1 : (x : Int) < 256 := by omega
   have x0 : (0 : Int) ≤ (x : Int) := by omega
   clear hst hx hV hVl hVb hu hxx hnew hcell e0 hVm
   go_wp2
   refine ⟨⟨j,rfl,by omega,by rw [HNEW.out]; simp⟩,?_⟩
   simp [intOf]
theorem vnum_snoc (l : List Nat) (x : Nat) : vnum (l ++ [x]) = vnum l + x * 256 ^ l.length := by
 induction l with
 |nil => simp [vnum]
 |cons b l ih =>
  simp only [List.cons_append,vnum,ih,List.length_cons,Nat.pow_succ]
  rw [Nat.add_mul,Nat.mul_assoc,Nat.mul_comm (256 ^ l.length) 256]
  omega
theorem vnum_or (l : List Nat) (x : Nat) (hl : ∀ y ∈ l,y < 256) : vnum l ||| x * 256 ^ l.length = vnum l + x * 256 ^ l.length := by
 have e : (256 : Nat) ^ l.length = 2 ^ (8 * l.length) := by rw [Nat.pow_mul]
 have h := vnum_lt l hl
 rw [e] at h ⊢
 rw [Nat.or_comm,← Nat.shiftLeft_eq,← Nat.shiftLeft_add_eq_or_of_lt h]
 omega
/-- the UUID of bytes, or an error -/
def decR (bs : List Nat) : Nat × Nat × Int :=
 if bs.length = 2 then (vnum bs * 4294967296 + 4096,9223372588214596859,0) else if bs.length < 16 then (0,0,3) else if 16 < bs.length then (0,0,2) else
  if isShort (vnum (bs.drop 8)) (vnum (bs.take 8)) then (0,0,2) else (vnum (bs.drop 8),vnum (bs.take 8),0)
theorem run_build0 (w : World) : (Instr.build 26 #[]).run Tryz.prog w = .ok (.agg #[.int .u64 0,.int .u64 0]) w := by kernel_rfl
theorem rdecode_any (v : Value) (bs : List Nat) (w : World) (h : BytesAt w v bs) (hm : bs.length ≤ 1099511627776) :
 Calls Tryz.prog 24 #[v] w fun e w' => e = .returned (.tuple #[.agg #[.int .u64 (decR bs).1,.int .u64 (decR bs).2.1],.int .i64 (decR bs).2.2]) ∧ Below w.heap.size w w' := by
 have HBY := Lib.hid h
 obtain ⟨⟨_,_,_,ao,cap,rfl,_,_⟩,_,hlt⟩ := h
 have HLT := Lib.hid hlt
 obtain ⟨n,hn⟩ : ∃ n,bs.length = n := ⟨_,rfl⟩
 have HN := Lib.hid hn
 unfold decR
 rw [hn] at hm ⊢
 have hz := fun W => run_build0 W
 have hB0 := (Below.refl w.heap.size w).alloc (Nat.le_refl _) (.cells #[.int .u64 0,.int .u64 0] 26)
 have HBY1 : Hid (BytesAt w (.slice ao n cap) bs) := by rw [← HN.out]; exact HBY
 clear hlt hn HBY
 by_cases h2 : n = 2
 ·subst h2
  simp only [if_true]
  have hv : vnum bs < 65536 := by have := vnum_lt bs HLT.out; rw [HN.out] at this; exact this
  have hnum := num_any _ bs 0 2 w HBY1.out (by rw [HN.out]; omega) (by omega) (by rw [HN.out]; omega)
  rw [show (bs.drop 0).take 2 = bs by rw [List.drop_zero,List.take_of_length_le (by rw [HN.out]; omega)]] at hnum
  have hnum' := num_any _ bs 0 2 _ (HBY1.out.below hB0) (by rw [HN.out]; omega) (by omega) (by rw [HN.out]; omega)
  rw [show (bs.drop 0).take 2 = bs by rw [List.drop_zero,List.take_of_length_le (by rw [HN.out]; omega)]] at hnum'
  obtain ⟨V,hV⟩ : ∃ V,vnum bs = V := ⟨_,rfl⟩
  rw [hV] at hv hnum' ⊢
  have HNUM := Lib.hid hnum'
  have w16 : IntKind.u16.wrap (V : Int) = (V : Int) := IntWalk.u16_in _ (by omega)
  have bR := Blk.new w 26 [.int .u64 0,.int .u64 0]
  have HR := Lib.hid bR
  have hsh := fun W => rshort_any V hv W
  obtain ⟨M,hM⟩ : ∃ M : Int,(V : Int) * 4294967296 + 4096 = M := ⟨_,rfl⟩
  obtain ⟨L,hL⟩ : ∃ M : Int,(9223372588214596859 : Int) = M := ⟨_,rfl⟩
  rw [show (((V * 4294967296 + 4096 : Nat)) : Int) = M by rw [← hM]; simp,show ((9223372588214596859 : Nat) : Int) = L by rw [← hL]; rfl]
  simp only [hM,hL] at hsh
  have HSH := Lib.hid hsh
  clear hnum hnum' hV bR hsh hM hL
  go_enter Tryz.func24,Tryz.ntmps24
  go_wp2_with fail
  go_at_call 41
  refine HNUM.out.mono ?_
  rintro e w1 ⟨rfl,rfl⟩
  go_wp2_with fail
  go_at_call 6
  refine (HSH.out _).mono ?_
  rintro e w2 ⟨rfl,hB2⟩
  have b2 := HR.out.below hB2
  have T2 := b2.cells
  have hOpen := T2
  simp only [Cells,blk,List.cons_append,List.nil_append,and_true,Nat.reduceAdd,Nat.add_zero,Nat.zero_add] at hOpen
  obtain ⟨c0,c1⟩ := hOpen
  have f0 := b2.frozen 0
  have f1 := b2.frozen 1
  have hB3 := hB0.trans (hB2.mono hB0.size)
  have HB2 := Lib.hid b2
  clear T2 b2 hB2
  go_wp2
  have b3 := (HB2.out.setAt (j := 0) (.int .u64 M)).setAt (j := 1) (.int .u64 L)
  obtain ⟨x0,x1,_⟩ := b3.cells
  simp only [Nat.zero_add,Nat.add_zero,List.set_cons_zero,List.set_cons_succ] at x0 x1
  refine bodyPost_ret (v := .tuple #[.agg #[.int .u64 M,.int .u64 L],.int .i64 0]) (by simp [results,Tryz.results24,go_sem,x0,x1]) rfl ?_
  exact ⟨rfl,(hB3.setCell (p := ⟨w.heap.size,0,none⟩) (by simp) _).setCell (p := ⟨w.heap.size,1,none⟩) (by simp) _⟩
 rw [if_neg h2]
 have g2 : ((n : Int) == 2) = false := by simp; omega
 by_cases h3 : n < 16
 ·rw [if_pos h3]
  have g3 : decide (n < 16) = true := by simpa using h3
  have g3' : decide ((n : Int) < 16) = true := by simp; omega
  go_enter Tryz.func24,Tryz.ntmps24
  go_wp2
  refine bodyPost_ret (v := .tuple #[.agg #[.int .u64 0,.int .u64 0],.int .i64 3]) (by simp [results,Tryz.results24,go_sem] <;> rfl) rfl ?_
  exact ⟨rfl,hB0⟩
 rw [if_neg h3]
 have g3 : decide (n < 16) = false := by simpa using h3
 have g3' : decide ((n : Int) < 16) = false := by simp; omega
 by_cases h4 : 16 < n
 ·rw [if_pos h4]
  have g4 : decide (16 < n) = true := by simpa using h4
  have g4' : decide ((16 : Int) < (n : Int)) = true := by simp; omega
  go_enter Tryz.func24,Tryz.ntmps24
  go_wp2
  refine bodyPost_ret (v := .tuple #[.agg #[.int .u64 0,.int .u64 0],.int .i64 2]) (by simp [results,Tryz.results24,go_sem] <;> rfl) rfl ?_
  exact ⟨rfl,hB0⟩
 rw [if_neg h4]
 obtain rfl : n = 16 := by omega
 have g4 : decide (16 < 16) = false := by decide
 have hn1 := num_any _ bs 0 8 _ (HBY1.out.below hB0) (by rw [HN.out]; omega) (by omega) (by rw [HN.out]; omega)
 have hn2 := num_any _ bs 8 8 _ (HBY1.out.below hB0) (by rw [HN.out]; omega) (by omega) (by rw [HN.out]; omega)
 rw [List.drop_zero] at hn1
 rw [show (bs.drop 8).take 8 = bs.drop 8 by rw [List.take_of_length_le (by rw [List.length_drop,HN.out]; omega)]] at hn2
 have v1 : vnum (bs.take 8) < 18446744073709551616 := by
  have := vnum_lt (bs.take 8) fun x hx => HLT.out x (List.mem_of_mem_take hx)
  rw [List.length_take,HN.out] at this
  exact this
 have v2 : vnum (bs.drop 8) < 18446744073709551616 := by
  have := vnum_lt (bs.drop 8) fun x hx => HLT.out x (List.mem_of_mem_drop hx)
  rw [List.length_drop,HN.out] at this
  exact this
 obtain ⟨lo,hlo⟩ : ∃ V,vnum (bs.take 8) = V := ⟨_,rfl⟩
 obtain ⟨hi,hhi⟩ : ∃ V,vnum (bs.drop 8) = V := ⟨_,rfl⟩
 rw [hlo] at hn1 v1 ⊢
 rw [hhi] at hn2 v2 ⊢
 have hnum := fun W => rnumber_any hi lo v2 v1 W
 obtain ⟨b,hb⟩ : ∃ b,isShort hi lo = b := ⟨_,rfl⟩
 obtain ⟨q,hq⟩ : ∃ q,numI hi lo = q := ⟨_,rfl⟩
 rw [hb,hq] at hnum
 rw [hb]
 have bR := Blk.new w 26 [.int .u64 0,.int .u64 0]
 have HR := Lib.hid bR
 have HN1 := Lib.hid hn1
 have HN2 := Lib.hid hn2
 have HNUM := Lib.hid hnum
 clear hn1 hn2 hnum hlo hhi hb hq bR v1 v2
 go_enter Tryz.func24,Tryz.ntmps24
 go_wp2_with fail
 go_at_call 41
 refine HN1.out.mono ?_
 rintro e w1 ⟨rfl,rfl⟩
 go_wp2_with fail
 go_at_call 41
 refine HN2.out.mono ?_
 rintro e w1 ⟨rfl,rfl⟩
 go_wp2_with fail
 go_at_call 42
 refine (HNUM.out _).mono ?_
 rintro e w3 ⟨rfl,hB3⟩
 have hB1 := hB0.alloc hB0.size (.cells #[.int .u64 hi,.int .u64 lo] 26)
 have bU := Blk.new (w.alloc (.cells #[.int .u64 0,.int .u64 0] 26)) 26 [.int .u64 hi,.int .u64 lo]
 simp only [World.size_alloc] at bU
 have bU3 := bU.below hB3
 have bR3 := (HR.out.alloc (.cells #[.int .u64 hi,.int .u64 lo] 26)).below hB3
 have T3 := bU3.cells
 have TR := bR3.cells
 have hOpen := T3
 simp only [Cells,blk,List.cons_append,List.nil_append,and_true,Nat.reduceAdd,Nat.add_zero,Nat.zero_add] at hOpen
 obtain ⟨c0,c1⟩ := hOpen
 have hOpen := TR
 simp only [Cells,blk,List.cons_append,List.nil_append,and_true,Nat.reduceAdd,Nat.add_zero,Nat.zero_add] at hOpen
 obtain ⟨r0,r1⟩ := hOpen
 have f0 := bR3.frozen 0
 have f1 := bR3.frozen 1
 have hB4 := hB1.trans (hB3.mono hB1.size)
 have HB3 := Lib.hid bR3
 clear T3 TR bU bU3 bR3 hB3 hB1
 cases b
 ·go_wp2
  have b3 := (HB3.out.setAt (j := 0) (.int .u64 (hi : Int))).setAt (j := 1) (.int .u64 (lo : Int))
  obtain ⟨x0,x1,_⟩ := b3.cells
  simp only [Nat.zero_add,Nat.add_zero,List.set_cons_zero,List.set_cons_succ] at x0 x1
  refine bodyPost_ret (v := .tuple #[.agg #[.int .u64 hi,.int .u64 lo],.int .i64 0]) (by simp [results,Tryz.results24,go_sem,x0,x1]) rfl ?_
  exact ⟨rfl,(hB4.setCell (p := ⟨w.heap.size,0,none⟩) (by simp) _).setCell (p := ⟨w.heap.size,1,none⟩) (by simp) _⟩
 ·go_wp2
  have b3 := (HB3.out.setAt (j := 0) (.int .u64 0)).setAt (j := 1) (.int .u64 0)
  obtain ⟨x0,x1,_⟩ := b3.cells
  simp only [Nat.zero_add,Nat.add_zero,List.set_cons_zero,List.set_cons_succ] at x0 x1
  refine bodyPost_ret (v := .tuple #[.agg #[.int .u64 0,.int .u64 0],.int .i64 2]) (by simp [results,Tryz.results24,go_sem,x0,x1]) rfl ?_
  exact ⟨rfl,(hB4.setCell (p := ⟨w.heap.size,0,none⟩) (by simp) _).setCell (p := ⟨w.heap.size,1,none⟩) (by simp) _⟩
end Go.Proofs.YtldcihjddebciaaGreat
