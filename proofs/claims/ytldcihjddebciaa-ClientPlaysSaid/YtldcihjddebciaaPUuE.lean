/- uuid: the reference's Number. And what follows it. -/
import Derived.Test.YtldcihjddebciaaPUuC
import Derived.Test.YtldcihjddebciaaPUuA
import Derived.Maps.AppendAt
set_option linter.unusedSimpArgs false
set_option linter.unusedVariables false
set_option maxRecDepth 100000
set_option maxHeartbeats 4000000
namespace Go.Proofs.Ytldcihjddebciaa
open Go.RowKit
theorem rnumber_any (hi lo : Nat) (hh : hi < 18446744073709551616) (hl : lo < 18446744073709551616) (w : World) :
 Calls Try.prog 97 #[.agg #[.int .u64 hi,.int .u64 lo]] w fun e w' => e = .returned (.tuple #[.int .u16 (numI hi lo),.bool (isShort hi lo)]) ∧ Below w.heap.size w w' := by
 have hb0 : Below w.heap.size w (w.alloc (.cells #[.int .u64 hi,.int .u64 lo] 29)) := (Below.refl _ _).alloc (Nat.le_refl _) _
 have T := cells_new w [.int .u64 hi,.int .u64 lo] 29
 obtain ⟨N,hN⟩ : ∃ N,hi / 4294967296 = N := ⟨_,rfl⟩
 have hNI : (hi : Int) / 4294967296 = (N : Int) := by rw [← hN]; simp
 by_cases hbig : 65535 < N
 ·have g1 : decide (65535 < N) = true := by simpa using hbig
  have g1' : decide ((65535 : Int) < (N : Int)) = true := by simp; omega
  have hs : isShort hi lo = false := by
   unfold isShort
   have : (hi / 281474976710656 == 0) = false := by rw [beq_eq_false_iff_ne]; omega
   rw [this]
   simp
  have hn : numI hi lo = 0 := by unfold numI; rw [hs]; rfl
  rw [hs,hn]
  clear hs hn hN
  go_enter Try.func97,Try.ntmps97
  go_upto_region 2 with fail
  generalize hX : w.alloc (.cells _ 29) = X at T hb0 ⊢
  clear hX
  refine wp_region_held_drew (S := (fun W' : World => Cells W' (blk w.heap.size 0 0 [.int .u64 hi,.int .u64 lo]))) (by kernel_rfl) (T.drew) (fun hHeld => ?_)
  refine wpAnyH_take (i := 0) (oi := _) (v := ?_) (by rw [List.getElem?_toArray]; rfl) (by kernel_rfl) (by kernel_rfl) (by kernel_rfl) (by exact fun _ _ _ h => h) (Or.inl ⟨by rfl,?_⟩) (by assumption) ?_
  rotate_left
  ·intro w hSw
   try simp only [Cells,blk,List.cons_append,List.nil_append,and_true,Nat.reduceAdd,Nat.add_zero,Nat.zero_add] at hSw
   go_simp
   try with_reducible rfl
  simp only [Act.put,List.setIfInBounds_toArray,List.set_cons_zero,List.set_cons_succ]
  refine wpAnyH_take (i := 1) (oi := _) (v := ?_) (by rw [List.getElem?_toArray]; rfl) (by kernel_rfl) (by kernel_rfl) (by kernel_rfl) (by exact fun _ _ _ h => h) (Or.inl ⟨by rfl,?_⟩) (by assumption) ?_
  rotate_left
  ·intro w hSw
   try simp only [Cells,blk,List.cons_append,List.nil_append,and_true,Nat.reduceAdd,Nat.add_zero,Nat.zero_add] at hSw
   go_simp
   try with_reducible rfl
  simp only [Act.put,List.setIfInBounds_toArray,List.set_cons_zero,List.set_cons_succ]
  refine wpAnyH_take (i := 2) (oi := _) (v := ?_) (by rw [List.getElem?_toArray]; rfl) (by kernel_rfl) (by kernel_rfl) (by kernel_rfl) (by exact fun _ _ _ h => h) (Or.inl ⟨by rfl,?_⟩) (by assumption) ?_
  rotate_left
  ·intro w hSw
   try simp only [Cells,blk,List.cons_append,List.nil_append,and_true,Nat.reduceAdd,Nat.add_zero,Nat.zero_add] at hSw
   go_simp
   try with_reducible rfl
  simp only [Act.put,List.setIfInBounds_toArray,List.set_cons_zero,List.set_cons_succ]
  refine wpAnyH_take (i := 3) (oi := _) (v := undef) (by rw [List.getElem?_toArray]; rfl) (by kernel_rfl) (by kernel_rfl) (by kernel_rfl) (by exact fun _ _ _ h => h) (Or.inr ⟨by rfl,rfl⟩) (by assumption) ?_
  simp only [Act.put,List.setIfInBounds_toArray,List.set_cons_zero,List.set_cons_succ]
  refine wpAnyH_take (i := 4) (oi := _) (v := undef) (by rw [List.getElem?_toArray]; rfl) (by kernel_rfl) (by kernel_rfl) (by kernel_rfl) (by exact fun _ _ _ h => h) (Or.inr ⟨by rfl,rfl⟩) (by assumption) ?_
  simp only [Act.put,List.setIfInBounds_toArray,List.set_cons_zero,List.set_cons_succ]
  refine wpAnyH_take (i := 5) (oi := _) (v := undef) (by rw [List.getElem?_toArray]; rfl) (by kernel_rfl) (by kernel_rfl) (by kernel_rfl) (by exact fun _ _ _ h => h) (Or.inr ⟨by rfl,rfl⟩) (by assumption) ?_
  simp only [Act.put,List.setIfInBounds_toArray,List.set_cons_zero,List.set_cons_succ]
  refine wpAnyH_take (i := 6) (oi := _) (v := undef) (by rw [List.getElem?_toArray]; rfl) (by kernel_rfl) (by kernel_rfl) (by kernel_rfl) (by exact fun _ _ _ h => h) (Or.inr ⟨by rfl,rfl⟩) (by assumption) ?_
  simp only [Act.put,List.setIfInBounds_toArray,List.set_cons_zero,List.set_cons_succ]
  refine wpAnyH_take (i := 7) (oi := _) (v := undef) (by rw [List.getElem?_toArray]; rfl) (by kernel_rfl) (by kernel_rfl) (by kernel_rfl) (by exact fun _ _ _ h => h) (Or.inr ⟨by rfl,rfl⟩) (by assumption) ?_
  simp only [Act.put,List.setIfInBounds_toArray,List.set_cons_zero,List.set_cons_succ]
  refine wpAnyH_take (i := 8) (oi := _) (v := ?_) (by rw [List.getElem?_toArray]; rfl) (by kernel_rfl) (by kernel_rfl) (by kernel_rfl) (by exact fun _ _ _ h => h) (Or.inl ⟨by rfl,?_⟩) (by assumption) ?_
  rotate_left
  ·intro w hSw
   try simp only [Cells,blk,List.cons_append,List.nil_append,and_true,Nat.reduceAdd,Nat.add_zero,Nat.zero_add] at hSw
   go_simp
   try with_reducible rfl
  simp only [Act.put,List.setIfInBounds_toArray,List.set_cons_zero,List.set_cons_succ]
  refine wpAnyH_done (by kernel_rfl) ?_ _
  go_wp2
  refine bodyPost_ret (v := .tuple #[.int .u16 0,.bool false]) (by simp [results,Try.results97,go_sem] <;> rfl) rfl ?_
  exact ⟨rfl,hb0.drew⟩
 ·have g1 : decide (65535 < N) = false := by simpa using hbig
  have g1' : decide ((65535 : Int) < (N : Int)) = false := by simp; omega
  have i1 : (N : Int) < 65536 := by omega
  have i0 : (0 : Int) ≤ (N : Int) := by omega
  have w16 : IntKind.u16.wrap (N : Int) = (N : Int) := IntWalk.u16_in _ (by omega)
  obtain ⟨c1,hc1⟩ : ∃ c,((N : Int) * 4294967296 + 4096 == (hi : Int)) = c := ⟨_,rfl⟩
  obtain ⟨c2,hc2⟩ : ∃ c,((9223372588214596859 : Int) == (lo : Int)) = c := ⟨_,rfl⟩
  have hs : isShort hi lo = (c1 && c2) := by
   rw [← hc1,← hc2,Bool.eq_iff_iff]
   unfold isShort
   simp only [Bool.and_eq_true,beq_iff_eq]
   omega
  have hn : numI hi lo = if c1 && c2 then (N : Int) else 0 := by
   unfold numI numV
   rw [hs,hN,Nat.mod_eq_of_lt (by omega)]
  rw [hs,hn]
  have hsh := fun W => rshort_any N (by omega) W
  obtain ⟨M,hM⟩ : ∃ M : Int,(N : Int) * 4294967296 + 4096 = M := ⟨_,rfl⟩
  obtain ⟨K0,hK0⟩ : ∃ M : Int,(9223372588214596859 : Int) = M := ⟨_,rfl⟩
  rw [hM] at hc1
  rw [hK0] at hc2
  simp only [hM,hK0] at hsh
  have HSH := Lib.hid hsh
  clear hs hn hN hsh hM hK0 hh hl
  go_enter Try.func97,Try.ntmps97
  go_upto_region 2 with fail
  generalize hX : w.alloc (.cells _ 29) = X at T hb0 ⊢
  clear hX
  cases c1
  ·skip
   refine wp_region_held_drew (S := (fun W' : World => Cells W' (blk w.heap.size 0 0 [.int .u64 hi,.int .u64 lo]))) (by kernel_rfl) (T.drew) (fun hHeld => ?_)
   refine wpAnyH_take (i := 0) (oi := _) (v := ?_) (by rw [List.getElem?_toArray]; rfl) (by kernel_rfl) (by kernel_rfl) (by kernel_rfl) (by exact fun _ _ _ h => h) (Or.inl ⟨by rfl,?_⟩) (by assumption) ?_
   rotate_left
   ·intro w hSw
    try simp only [Cells,blk,List.cons_append,List.nil_append,and_true,Nat.reduceAdd,Nat.add_zero,Nat.zero_add] at hSw
    go_simp
    try with_reducible rfl
   simp only [Act.put,List.setIfInBounds_toArray,List.set_cons_zero,List.set_cons_succ]
   refine wpAnyH_take (i := 1) (oi := _) (v := ?_) (by rw [List.getElem?_toArray]; rfl) (by kernel_rfl) (by kernel_rfl) (by kernel_rfl) (by exact fun _ _ _ h => h) (Or.inl ⟨by rfl,?_⟩) (by assumption) ?_
   rotate_left
   ·intro w hSw
    try simp only [Cells,blk,List.cons_append,List.nil_append,and_true,Nat.reduceAdd,Nat.add_zero,Nat.zero_add] at hSw
    go_simp
    try with_reducible rfl
   simp only [Act.put,List.setIfInBounds_toArray,List.set_cons_zero,List.set_cons_succ]
   refine wpAnyH_take (i := 2) (oi := _) (v := ?_) (by rw [List.getElem?_toArray]; rfl) (by kernel_rfl) (by kernel_rfl) (by kernel_rfl) (by exact fun _ _ _ h => h) (Or.inl ⟨by rfl,?_⟩) (by assumption) ?_
   rotate_left
   ·intro w hSw
    try simp only [Cells,blk,List.cons_append,List.nil_append,and_true,Nat.reduceAdd,Nat.add_zero,Nat.zero_add] at hSw
    go_simp
    try with_reducible rfl
   simp only [Act.put,List.setIfInBounds_toArray,List.set_cons_zero,List.set_cons_succ]
   refine wpAnyH_take (i := 3) (oi := _) (v := ?_) (by rw [List.getElem?_toArray]; rfl) (by kernel_rfl) (by kernel_rfl) (by kernel_rfl) (by exact fun _ _ _ h => h) (Or.inl ⟨by rfl,?_⟩) (by assumption) ?_
   rotate_left
   ·intro w hSw
    try simp only [Cells,blk,List.cons_append,List.nil_append,and_true,Nat.reduceAdd,Nat.add_zero,Nat.zero_add] at hSw
    go_simp
    try with_reducible rfl
   simp only [Act.put,List.setIfInBounds_toArray,List.set_cons_zero,List.set_cons_succ]
   refine wpAnyH_take (i := 4) (oi := _) (v := ?_) (by rw [List.getElem?_toArray]; rfl) (by kernel_rfl) (by kernel_rfl) (by kernel_rfl) (by exact fun _ _ _ h => h) (Or.inl ⟨by rfl,?_⟩) (by assumption) ?_
   rotate_left
   ·intro w hSw
    try simp only [Cells,blk,List.cons_append,List.nil_append,and_true,Nat.reduceAdd,Nat.add_zero,Nat.zero_add] at hSw
    go_simp
    try with_reducible rfl
   simp only [Act.put,List.setIfInBounds_toArray,List.set_cons_zero,List.set_cons_succ]
   refine wpAnyH_take (i := 6) (oi := _) (v := ?_) (by rw [List.getElem?_toArray]; rfl) (by kernel_rfl) (by kernel_rfl) (by kernel_rfl) (by exact fun _ _ _ h => h) (Or.inl ⟨by rfl,?_⟩) (by assumption) ?_
   rotate_left
   ·intro w hSw
    try simp only [Cells,blk,List.cons_append,List.nil_append,and_true,Nat.reduceAdd,Nat.add_zero,Nat.zero_add] at hSw
    go_simp
    try with_reducible rfl
   simp only [Act.put,List.setIfInBounds_toArray,List.set_cons_zero,List.set_cons_succ]
   refine wpAnyH_ready (rs := [5]) (by kernel_rfl) (by simp) (AllReadyH.cons (o := _) (by rw [List.getElem?_toArray]; rfl) (fun K hK => ?_) AllReadyH.nil)
   go_simp
   go_at_call 78
   refine (HSH.out _).mono ?_
   rintro e w2 ⟨rfl,hB2⟩
   have T2 := T.keep (((Below.refl _ X).drew).trans hB2)
   have hB3 := hb0.drew.trans (hB2.mono hb0.drew.size)
   clear hHeld
   refine hK.out _ _ (T2) (fun hHeld => ?_)
   clear hK K
   try simp only [Act.put,List.setIfInBounds_toArray,List.set_cons_zero,List.set_cons_succ]
   refine wpAnyH_take (i := 7) (oi := _) (v := ?_) (by rw [List.getElem?_toArray]; rfl) (by kernel_rfl) (by kernel_rfl) (by kernel_rfl) (by exact fun _ _ _ h => h) (Or.inl ⟨by rfl,?_⟩) (by assumption) ?_
   rotate_left
   ·intro w hSw
    try simp only [Cells,blk,List.cons_append,List.nil_append,and_true,Nat.reduceAdd,Nat.add_zero,Nat.zero_add] at hSw
    go_simp
    try with_reducible rfl
   simp only [Act.put,List.setIfInBounds_toArray,List.set_cons_zero,List.set_cons_succ]
   refine wpAnyH_take (i := 8) (oi := _) (v := ?_) (by rw [List.getElem?_toArray]; rfl) (by kernel_rfl) (by kernel_rfl) (by kernel_rfl) (by exact fun _ _ _ h => h) (Or.inl ⟨by rfl,?_⟩) (by assumption) ?_
   rotate_left
   ·intro w hSw
    try simp only [Cells,blk,List.cons_append,List.nil_append,and_true,Nat.reduceAdd,Nat.add_zero,Nat.zero_add] at hSw
    go_simp
    try with_reducible rfl
   simp only [Act.put,List.setIfInBounds_toArray,List.set_cons_zero,List.set_cons_succ]
   refine wpAnyH_done (by kernel_rfl) ?_ _
   clear hNI i1 i0 hbig g1 g1' T2 hHeld HSH
   go_wp2
   refine bodyPost_ret (v := .tuple #[.int .u16 0,.bool false]) (by simp [results,Try.results97,go_sem] <;> rfl) rfl ?_
   exact ⟨rfl,hB3⟩
  ·cases c2
   ·skip
    refine wp_region_held_drew (S := (fun W' : World => Cells W' (blk w.heap.size 0 0 [.int .u64 hi,.int .u64 lo]))) (by kernel_rfl) (T.drew) (fun hHeld => ?_)
    refine wpAnyH_take (i := 0) (oi := _) (v := ?_) (by rw [List.getElem?_toArray]; rfl) (by kernel_rfl) (by kernel_rfl) (by kernel_rfl) (by exact fun _ _ _ h => h) (Or.inl ⟨by rfl,?_⟩) (by assumption) ?_
    rotate_left
    ·intro w hSw
     try simp only [Cells,blk,List.cons_append,List.nil_append,and_true,Nat.reduceAdd,Nat.add_zero,Nat.zero_add] at hSw
     go_simp
     try with_reducible rfl
    simp only [Act.put,List.setIfInBounds_toArray,List.set_cons_zero,List.set_cons_succ]
    refine wpAnyH_take (i := 1) (oi := _) (v := ?_) (by rw [List.getElem?_toArray]; rfl) (by kernel_rfl) (by kernel_rfl) (by kernel_rfl) (by exact fun _ _ _ h => h) (Or.inl ⟨by rfl,?_⟩) (by assumption) ?_
    rotate_left
    ·intro w hSw
     try simp only [Cells,blk,List.cons_append,List.nil_append,and_true,Nat.reduceAdd,Nat.add_zero,Nat.zero_add] at hSw
     go_simp
     try with_reducible rfl
    simp only [Act.put,List.setIfInBounds_toArray,List.set_cons_zero,List.set_cons_succ]
    refine wpAnyH_take (i := 2) (oi := _) (v := ?_) (by rw [List.getElem?_toArray]; rfl) (by kernel_rfl) (by kernel_rfl) (by kernel_rfl) (by exact fun _ _ _ h => h) (Or.inl ⟨by rfl,?_⟩) (by assumption) ?_
    rotate_left
    ·intro w hSw
     try simp only [Cells,blk,List.cons_append,List.nil_append,and_true,Nat.reduceAdd,Nat.add_zero,Nat.zero_add] at hSw
     go_simp
     try with_reducible rfl
    simp only [Act.put,List.setIfInBounds_toArray,List.set_cons_zero,List.set_cons_succ]
    refine wpAnyH_take (i := 3) (oi := _) (v := ?_) (by rw [List.getElem?_toArray]; rfl) (by kernel_rfl) (by kernel_rfl) (by kernel_rfl) (by exact fun _ _ _ h => h) (Or.inl ⟨by rfl,?_⟩) (by assumption) ?_
    rotate_left
    ·intro w hSw
     try simp only [Cells,blk,List.cons_append,List.nil_append,and_true,Nat.reduceAdd,Nat.add_zero,Nat.zero_add] at hSw
     go_simp
     try with_reducible rfl
    simp only [Act.put,List.setIfInBounds_toArray,List.set_cons_zero,List.set_cons_succ]
    refine wpAnyH_take (i := 4) (oi := _) (v := ?_) (by rw [List.getElem?_toArray]; rfl) (by kernel_rfl) (by kernel_rfl) (by kernel_rfl) (by exact fun _ _ _ h => h) (Or.inl ⟨by rfl,?_⟩) (by assumption) ?_
    rotate_left
    ·intro w hSw
     try simp only [Cells,blk,List.cons_append,List.nil_append,and_true,Nat.reduceAdd,Nat.add_zero,Nat.zero_add] at hSw
     go_simp
     try with_reducible rfl
    simp only [Act.put,List.setIfInBounds_toArray,List.set_cons_zero,List.set_cons_succ]
    refine wpAnyH_take (i := 6) (oi := _) (v := ?_) (by rw [List.getElem?_toArray]; rfl) (by kernel_rfl) (by kernel_rfl) (by kernel_rfl) (by exact fun _ _ _ h => h) (Or.inl ⟨by rfl,?_⟩) (by assumption) ?_
    rotate_left
    ·intro w hSw
     try simp only [Cells,blk,List.cons_append,List.nil_append,and_true,Nat.reduceAdd,Nat.add_zero,Nat.zero_add] at hSw
     go_simp
     try with_reducible rfl
    simp only [Act.put,List.setIfInBounds_toArray,List.set_cons_zero,List.set_cons_succ]
    refine wpAnyH_ready (rs := [5]) (by kernel_rfl) (by simp) (AllReadyH.cons (o := _) (by rw [List.getElem?_toArray]; rfl) (fun K hK => ?_) AllReadyH.nil)
    go_simp
    go_at_call 78
    refine (HSH.out _).mono ?_
    rintro e w2 ⟨rfl,hB2⟩
    have T2 := T.keep (((Below.refl _ X).drew).trans hB2)
    have hB3 := hb0.drew.trans (hB2.mono hb0.drew.size)
    clear hHeld
    refine hK.out _ _ (T2) (fun hHeld => ?_)
    clear hK K
    try simp only [Act.put,List.setIfInBounds_toArray,List.set_cons_zero,List.set_cons_succ]
    refine wpAnyH_take (i := 7) (oi := _) (v := ?_) (by rw [List.getElem?_toArray]; rfl) (by kernel_rfl) (by kernel_rfl) (by kernel_rfl) (by exact fun _ _ _ h => h) (Or.inl ⟨by rfl,?_⟩) (by assumption) ?_
    rotate_left
    ·intro w hSw
     try simp only [Cells,blk,List.cons_append,List.nil_append,and_true,Nat.reduceAdd,Nat.add_zero,Nat.zero_add] at hSw
     go_simp
     try with_reducible rfl
    simp only [Act.put,List.setIfInBounds_toArray,List.set_cons_zero,List.set_cons_succ]
    refine wpAnyH_take (i := 8) (oi := _) (v := ?_) (by rw [List.getElem?_toArray]; rfl) (by kernel_rfl) (by kernel_rfl) (by kernel_rfl) (by exact fun _ _ _ h => h) (Or.inl ⟨by rfl,?_⟩) (by assumption) ?_
    rotate_left
    ·intro w hSw
     try simp only [Cells,blk,List.cons_append,List.nil_append,and_true,Nat.reduceAdd,Nat.add_zero,Nat.zero_add] at hSw
     go_simp
     try with_reducible rfl
    simp only [Act.put,List.setIfInBounds_toArray,List.set_cons_zero,List.set_cons_succ]
    refine wpAnyH_done (by kernel_rfl) ?_ _
    clear hNI i1 i0 hbig g1 g1' T2 hHeld HSH
    go_wp2
    refine bodyPost_ret (v := .tuple #[.int .u16 0,.bool false]) (by simp [results,Try.results97,go_sem] <;> rfl) rfl ?_
    exact ⟨rfl,hB3⟩
   ·skip
    refine wp_region_held_drew (S := (fun W' : World => Cells W' (blk w.heap.size 0 0 [.int .u64 hi,.int .u64 lo]))) (by kernel_rfl) (T.drew) (fun hHeld => ?_)
    refine wpAnyH_take (i := 0) (oi := _) (v := ?_) (by rw [List.getElem?_toArray]; rfl) (by kernel_rfl) (by kernel_rfl) (by kernel_rfl) (by exact fun _ _ _ h => h) (Or.inl ⟨by rfl,?_⟩) (by assumption) ?_
    rotate_left
    ·intro w hSw
     try simp only [Cells,blk,List.cons_append,List.nil_append,and_true,Nat.reduceAdd,Nat.add_zero,Nat.zero_add] at hSw
     go_simp
     try with_reducible rfl
    simp only [Act.put,List.setIfInBounds_toArray,List.set_cons_zero,List.set_cons_succ]
    refine wpAnyH_take (i := 1) (oi := _) (v := ?_) (by rw [List.getElem?_toArray]; rfl) (by kernel_rfl) (by kernel_rfl) (by kernel_rfl) (by exact fun _ _ _ h => h) (Or.inl ⟨by rfl,?_⟩) (by assumption) ?_
    rotate_left
    ·intro w hSw
     try simp only [Cells,blk,List.cons_append,List.nil_append,and_true,Nat.reduceAdd,Nat.add_zero,Nat.zero_add] at hSw
     go_simp
     try with_reducible rfl
    simp only [Act.put,List.setIfInBounds_toArray,List.set_cons_zero,List.set_cons_succ]
    refine wpAnyH_take (i := 2) (oi := _) (v := ?_) (by rw [List.getElem?_toArray]; rfl) (by kernel_rfl) (by kernel_rfl) (by kernel_rfl) (by exact fun _ _ _ h => h) (Or.inl ⟨by rfl,?_⟩) (by assumption) ?_
    rotate_left
    ·intro w hSw
     try simp only [Cells,blk,List.cons_append,List.nil_append,and_true,Nat.reduceAdd,Nat.add_zero,Nat.zero_add] at hSw
     go_simp
     try with_reducible rfl
    simp only [Act.put,List.setIfInBounds_toArray,List.set_cons_zero,List.set_cons_succ]
    refine wpAnyH_take (i := 3) (oi := _) (v := ?_) (by rw [List.getElem?_toArray]; rfl) (by kernel_rfl) (by kernel_rfl) (by kernel_rfl) (by exact fun _ _ _ h => h) (Or.inl ⟨by rfl,?_⟩) (by assumption) ?_
    rotate_left
    ·intro w hSw
     try simp only [Cells,blk,List.cons_append,List.nil_append,and_true,Nat.reduceAdd,Nat.add_zero,Nat.zero_add] at hSw
     go_simp
     try with_reducible rfl
    simp only [Act.put,List.setIfInBounds_toArray,List.set_cons_zero,List.set_cons_succ]
    refine wpAnyH_take (i := 4) (oi := _) (v := ?_) (by rw [List.getElem?_toArray]; rfl) (by kernel_rfl) (by kernel_rfl) (by kernel_rfl) (by exact fun _ _ _ h => h) (Or.inl ⟨by rfl,?_⟩) (by assumption) ?_
    rotate_left
    ·intro w hSw
     try simp only [Cells,blk,List.cons_append,List.nil_append,and_true,Nat.reduceAdd,Nat.add_zero,Nat.zero_add] at hSw
     go_simp
     try with_reducible rfl
    simp only [Act.put,List.setIfInBounds_toArray,List.set_cons_zero,List.set_cons_succ]
    refine wpAnyH_take (i := 6) (oi := _) (v := ?_) (by rw [List.getElem?_toArray]; rfl) (by kernel_rfl) (by kernel_rfl) (by kernel_rfl) (by exact fun _ _ _ h => h) (Or.inl ⟨by rfl,?_⟩) (by assumption) ?_
    rotate_left
    ·intro w hSw
     try simp only [Cells,blk,List.cons_append,List.nil_append,and_true,Nat.reduceAdd,Nat.add_zero,Nat.zero_add] at hSw
     go_simp
     try with_reducible rfl
    simp only [Act.put,List.setIfInBounds_toArray,List.set_cons_zero,List.set_cons_succ]
    refine wpAnyH_ready (rs := [5]) (by kernel_rfl) (by simp) (AllReadyH.cons (o := _) (by rw [List.getElem?_toArray]; rfl) (fun K hK => ?_) AllReadyH.nil)
    go_simp
    go_at_call 78
    refine (HSH.out _).mono ?_
    rintro e w2 ⟨rfl,hB2⟩
    have T2 := T.keep (((Below.refl _ X).drew).trans hB2)
    have hB3 := hb0.drew.trans (hB2.mono hb0.drew.size)
    clear hHeld
    refine hK.out _ _ (T2) (fun hHeld => ?_)
    clear hK K
    try simp only [Act.put,List.setIfInBounds_toArray,List.set_cons_zero,List.set_cons_succ]
    refine wpAnyH_take (i := 7) (oi := _) (v := ?_) (by rw [List.getElem?_toArray]; rfl) (by kernel_rfl) (by kernel_rfl) (by kernel_rfl) (by exact fun _ _ _ h => h) (Or.inl ⟨by rfl,?_⟩) (by assumption) ?_
    rotate_left
    ·intro w hSw
     try simp only [Cells,blk,List.cons_append,List.nil_append,and_true,Nat.reduceAdd,Nat.add_zero,Nat.zero_add] at hSw
     go_simp
     try with_reducible rfl
    simp only [Act.put,List.setIfInBounds_toArray,List.set_cons_zero,List.set_cons_succ]
    refine wpAnyH_take (i := 8) (oi := _) (v := ?_) (by rw [List.getElem?_toArray]; rfl) (by kernel_rfl) (by kernel_rfl) (by kernel_rfl) (by exact fun _ _ _ h => h) (Or.inl ⟨by rfl,?_⟩) (by assumption) ?_
    rotate_left
    ·intro w hSw
     try simp only [Cells,blk,List.cons_append,List.nil_append,and_true,Nat.reduceAdd,Nat.add_zero,Nat.zero_add] at hSw
     go_simp
     try with_reducible rfl
    simp only [Act.put,List.setIfInBounds_toArray,List.set_cons_zero,List.set_cons_succ]
    refine wpAnyH_done (by kernel_rfl) ?_ _
    clear hNI i1 i0 hbig g1 g1' T2 hHeld HSH
    go_wp2
    refine bodyPost_ret (v := .tuple #[.int .u16 N,.bool true]) (by simp [results,Try.results97,go_sem] <;> rfl) rfl ?_
    exact ⟨rfl,hB3⟩
theorem Try.info_u8 : (Try.prog.info? 5).map (fun i => (i.zero,i.size,i.bytes)) = some (some (.int .u8 0),1,1) := by kernel_rfl
theorem same_any (v1 v2 : Value) (xs ys : List Nat) (w : World) (ha : BytesAt w v1 xs) (hb : BytesAt w v2 ys) :
 Calls Try.prog 24 #[v1,v2] w fun e w' => e = .returned (.bool (decide (xs = ys))) ∧ w = w' := by
 have ca := run_convert_b (P := Try.prog) ha 23 5 9 Try.underlying23 Try.underlying5 Try.underlying9
 have cb := run_convert_b (P := Try.prog) hb 23 5 9 Try.underlying23 Try.underlying5 Try.underlying9
 have hq := strB_beqL xs ys ha.2.2 hb.2.2
 have hq2 := strB_beq xs ys ha.2.2 hb.2.2
 obtain ⟨a1,n1,rfl⟩ := ha.1.val
 obtain ⟨a2,n2,rfl⟩ := hb.1.val
 obtain ⟨d,hd⟩ : ∃ d,decide (xs = ys) = d := ⟨_,rfl⟩
 rw [hd] at hq hq2 ⊢
 clear ha hb hd
 go_enter Try.func24,Try.ntmps24
 go_wp2
 go_ret
 exact ⟨rfl,rfl⟩
/-- the lowest bytes of a number -/
def putB (n size : Nat) : List Nat := (List.range size).map (byt n)
theorem putB_succ (n k : Nat) : putB n (k + 1) = putB n k ++ [byt n k] := by simp [putB,List.range_succ]
theorem putB_len (n k : Nat) : (putB n k).length = k := by simp [putB]
theorem putB_lt (n k : Nat) : ∀ x ∈ putB n k,x < 256 := fun x hx => by
 obtain ⟨j,_,rfl⟩ := List.mem_map.1 hx
 exact byt_lt n j
theorem bcells_len (bs : List Nat) : (bcells bs).length = bs.length := by simp [bcells]
theorem put_any (n size : Nat) (hn : n < 18446744073709551616) (hs : size ≤ 1000) (w : World) :
 Calls Try.prog 91 #[.int .u64 n,.int .i64 size] w fun e w' => ∃ v,e = .returned v ∧ w'.ownsRow w.heap.size 5 1 v size (bcells (putB n size)) ∧ Below w.heap.size w w' := by
 obtain ⟨i0,hi,hz0,hz1,hz2⟩ := info_parts Try.info_u8
 go_enter Try.func91,Try.ntmps91
 go_wp2
 go_loopw [0,5,6] (fun x v i wr => ∃ k : Nat,i = .int .i64 k ∧ k ≤ size ∧ x = .int .u64 ((n / 256 ^ k : Nat) : Int) ∧ wr.ownsRow w.heap.size 5 1 v k (bcells (putB n k)) ∧ Below w.heap.size w wr) (fun _ _ i _ => size - (intOf i).toNat)
 case atStart => exact ⟨0,by simp,Nat.zero_le _,by simp,World.ownsRow_nil _ _ _ _,Below.refl _ _⟩
 case round =>
  obtain ⟨k,rfl,hk,rfl,hown,hB⟩ := hrel
  by_cases hlt : k < size
  ·have g1 : decide (k < size) = true := by simpa using hlt
   obtain ⟨N,hN⟩ : ∃ N,n / 256 ^ k = N := ⟨_,rfl⟩
   have hNle : N < 18446744073709551616 := by rw [← hN]; exact Nat.lt_of_le_of_lt (Nat.div_le_self _ _) hn
   have hN1 : n / 256 ^ (k + 1) = N / 256 := by rw [← hN,Nat.pow_succ,Nat.div_div_eq_div_mul]
   have hby : byt n k = N % 256 := by unfold byt; rw [hN]
   have HN := Lib.hid hN
   have HN1 := Lib.hid hN1
   have HBY := Lib.hid hby
   have b1 : (N : Int) < 18446744073709551616 := by omega
   have b0 : (0 : Int) ≤ (N : Int) := by omega
   have e1 : IntKind.u8.wrap ((N : Int) % 256) = ((N % 256 : Nat) : Int) := by rw [IntWalk.u8_in _ (by omega)]; simp
   rw [hN]
   have w1 : IntKind.i64.wrap ((k : Int) + 1) = (k : Int) + 1 := IntWalk.i64_in _ (by omega)
   clear hN hN1 hby
   go_wp2_with (at_builtin; refine wpList_append_own _ rfl _ _ 23 rfl w.heap.size 5 i0 (.int .u8 0) 1 1 Try.underlying23 hi hz0 hz1 hz2 rfl (by decide) _ _ _ rfl (hown.alloc _) ⟨wr.heap.size,0,none⟩ 1 1 [.int .u8 ((N % 256 : Nat) : Int)] rfl rfl (cell_one_new _ _ _) (by simp [Value.oneCell']) (by unfold maxLen; omega) (by omega) (by have := hB.size; simp; omega) ?_)
   intro v' w2 hown' hgrow _
   obtain ⟨g',c',rfl⟩ := ownsRow_succ hown'
   have hB1 : Below w.heap.size w w2 := (hB.alloc hB.size _).grown hgrow (by have := hB.size; simp; omega) (fun j hj => (hown.lt j hj).1)
   have hown2 : w2.ownsRow w.heap.size 5 1 (.slice (some ⟨g',0,none⟩) (k + 1) c') (k + 1) (bcells (putB n (k + 1))) := by
    rw [putB_succ,HBY.out]
    simpa [bcells] using hown'
   have HR : Hid (∃ k2 : Nat,Value.int .i64 ((k : Int) + 1) = .int .i64 k2 ∧ k2 ≤ size ∧ Value.int .u64 ((N : Int) / 256) = .int .u64 ((n / 256 ^ k2 : Nat) : Int) ∧ w2.ownsRow w.heap.size 5 1 (.slice (some ⟨g',0,none⟩) (k + 1) c') k2 (bcells (putB n k2)) ∧ Below w.heap.size w w2) :=
    Lib.hid ⟨k + 1,by simp,hlt,by rw [HN1.out]; simp,hown2,hB1⟩
   clear hown hgrow hB hown' hown2 hB1
   go_wp2
   refine ⟨HR.out,?_⟩
   simp [intOf]
   omega
  ·have g1 : decide (k < size) = false := by simpa using hlt
   obtain rfl : k = size := by omega
   go_wp2
   go_ret
   exact ⟨_,rfl,hown,hB⟩
end Go.Proofs.Ytldcihjddebciaa
