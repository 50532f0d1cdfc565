/- uuid: Number. -/
import Derived.Test.YtldcihjddebciaaGreatVUuB
set_option linter.unusedSimpArgs false
set_option linter.unusedVariables false
set_option maxRecDepth 100000
set_option maxHeartbeats 4000000
namespace Go.Proofs.YtldcihjddebciaaGreat
open Go.RowKit
/-- whether a UUID is that of a 16-bit number -/
def isShort (hi lo : Nat) : Bool := lo == 9223372588214596859 && (hi % 4294967296 == 4096 && hi / 281474976710656 == 0)
def numV (hi : Nat) : Nat := hi / 4294967296 % 65536
def numI (hi lo : Nat) : Int := if isShort hi lo then numV hi else 0
theorem short_iff (hi lo : Nat) (hh : hi < 18446744073709551616) (hl : lo < 18446744073709551616) : isShort hi lo = true ↔ (byt lo 0 = 251 ∧ byt lo 1 = 52 ∧ byt lo 2 = 155 ∧ byt lo 3 = 95 ∧ byt lo 4 = 128 ∧ byt lo 5 = 0 ∧ byt lo 6 = 0 ∧ byt lo 7 = 128) ∧ (byt hi 0 = 0 ∧ byt hi 1 = 16 ∧ byt hi 2 = 0 ∧ byt hi 3 = 0 ∧ byt hi 6 = 0 ∧ byt hi 7 = 0) := by
 unfold isShort byt
 simp only [Bool.and_eq_true,beq_iff_eq]
 simp only [Nat.reducePow,Nat.div_one]
 omega
theorem run_eq16 (w : World) (x0 x1 x2 x3 x4 x5 x6 x7 y0 y1 y2 y3 y6 y7 : Int) :
 (Op.equalIn 10000 159 (.agg #[.int .u8 x0,.int .u8 x1,.int .u8 x2,.int .u8 x3,.int .u8 x4,.int .u8 x5,.int .u8 x6,.int .u8 x7,.int .u8 y0,.int .u8 y1,.int .u8 y2,.int .u8 y3,.int .u8 0,.int .u8 0,.int .u8 y6,.int .u8 y7])
  (.agg #[.int .u8 251,.int .u8 52,.int .u8 155,.int .u8 95,.int .u8 128,.int .u8 0,.int .u8 0,.int .u8 128,.int .u8 0,.int .u8 16,.int .u8 0,.int .u8 0,.int .u8 0,.int .u8 0,.int .u8 0,.int .u8 0])).run Tryz.prog w = .ok (x0 == 251 && x1 == 52 && x2 == 155 && x3 == 95 && x4 == 128 && x5 == 0 && x6 == 0 && x7 == 128 && (y0 == 0 && y1 == 16 && y2 == 0 && y3 == 0 && y6 == 0 && y7 == 0)) w := by
 have u3 := Tryz.underlying5
 have a3 := Tryz.isAgg5
 have z3 := Tryz.sizeOf5
 rw [show (10000 : Nat) = 9999 + 1 from rfl,Op.equalIn]
 simp only [Sem.run_bind,run_underlying Tryz.underlying159,Result.andThen_ok]
 simp only [Std.Legacy.Range.forIn_eq_forIn_range',Std.Legacy.Range.size,Nat.sub_zero,Nat.add_sub_cancel,Nat.div_one,List.range'_succ,List.range'_zero,List.forIn_cons,List.forIn_nil]
 go_simp
 by_cases hx0 : x0 = 251
 case neg =>
  rw [if_neg hx0]
  simp [hx0]
 rw [if_pos hx0]
 by_cases hx1 : x1 = 52
 case neg =>
  rw [if_neg hx1]
  simp [hx1]
 rw [if_pos hx1]
 by_cases hx2 : x2 = 155
 case neg =>
  rw [if_neg hx2]
  simp [hx2]
 rw [if_pos hx2]
 by_cases hx3 : x3 = 95
 case neg =>
  rw [if_neg hx3]
  simp [hx3]
 rw [if_pos hx3]
 by_cases hx4 : x4 = 128
 case neg =>
  rw [if_neg hx4]
  simp [hx4]
 rw [if_pos hx4]
 by_cases hx5 : x5 = 0
 case neg =>
  rw [if_neg hx5]
  simp [hx5]
 rw [if_pos hx5]
 by_cases hx6 : x6 = 0
 case neg =>
  rw [if_neg hx6]
  simp [hx6]
 rw [if_pos hx6]
 by_cases hx7 : x7 = 128
 case neg =>
  rw [if_neg hx7]
  simp [hx7]
 rw [if_pos hx7]
 by_cases hy0 : y0 = 0
 case neg =>
  rw [if_neg hy0]
  simp [hy0]
 rw [if_pos hy0]
 by_cases hy1 : y1 = 16
 case neg =>
  rw [if_neg hy1]
  simp [hy1]
 rw [if_pos hy1]
 by_cases hy2 : y2 = 0
 case neg =>
  rw [if_neg hy2]
  simp [hy2]
 rw [if_pos hy2]
 by_cases hy3 : y3 = 0
 case neg =>
  rw [if_neg hy3]
  simp [hy3]
 rw [if_pos hy3]
 by_cases hy6 : y6 = 0
 case neg =>
  rw [if_neg hy6]
  simp [hy6]
 rw [if_pos hy6]
 by_cases hy7 : y7 = 0
 case neg =>
  rw [if_neg hy7]
  simp [hy7]
 rw [if_pos hy7]
 simp [hx0,hx1,hx2,hx3,hx4,hx5,hx6,hx7,hy0,hy1,hy2,hy3,hy6,hy7]
theorem bytes_base (w : World) : Calls Tryz.prog 118 #[.agg #[.int .u64 4096,.int .u64 9223372588214596859]] w fun e w' => e = .returned (.agg #[.int .u8 251,.int .u8 52,.int .u8 155,.int .u8 95,.int .u8 128,.int .u8 0,.int .u8 0,.int .u8 128,.int .u8 0,.int .u8 16,.int .u8 0,.int .u8 0,.int .u8 0,.int .u8 0,.int .u8 0,.int .u8 0]) ∧ Below w.heap.size w w' := bytes_any 4096 9223372588214596859 w
theorem or_num (hi : Nat) : bits .or .u16 ((byt hi 4 : Nat) : Int) (((byt hi 5 : Nat) : Int) * 256) = ((numV hi : Nat) : Int) := by
 have h4 := byt_lt hi 4
 have h5 := byt_lt hi 5
 have e : (((byt hi 5 : Nat) : Int) * 256) = ((byt hi 5 * 256 : Nat) : Int) := by simp
 rw [e,u16_or_nat _ _ (by omega) (by omega)]
 have : byt hi 4 ||| byt hi 5 * 256 = byt hi 5 * 256 + byt hi 4 := by
  rw [Nat.or_comm,show byt hi 5 * 256 = byt hi 5 <<< 8 by rw [Nat.shiftLeft_eq]]
  exact (Nat.shiftLeft_add_eq_or_of_lt (by simpa using h4) _).symm
 rw [this]
 unfold byt numV
 simp only [Nat.reducePow]
 congr 1
 omega
theorem number_any (hi lo : Nat) (hh : hi < 18446744073709551616) (hl : lo < 18446744073709551616) (w : World) :
 Calls Tryz.prog 115 #[.agg #[.int .u64 hi,.int .u64 lo]] w fun e w' => e = .returned (.tuple #[.int .u16 (numI hi lo),.bool (isShort hi lo)]) ∧ Below w.heap.size w w' := by
 have hb0 : Below w.heap.size w (w.alloc (.cells #[.int .u64 hi,.int .u64 lo] 26)) := (Below.refl _ _).alloc (Nat.le_refl _) _
 have ho := or_num hi
 have hsi := short_iff hi lo hh hl
 have heq := fun W => run_eq16 W (byt lo 0 : Nat) (byt lo 1 : Nat) (byt lo 2 : Nat) (byt lo 3 : Nat) (byt lo 4 : Nat) (byt lo 5 : Nat) (byt lo 6 : Nat) (byt lo 7 : Nat) (byt hi 0 : Nat) (byt hi 1 : Nat) (byt hi 2 : Nat) (byt hi 3 : Nat) (byt hi 6 : Nat) (byt hi 7 : Nat)
 have hr : ((((byt lo 0 : Nat) : Int) == 251 && ((byt lo 1 : Nat) : Int) == 52 && ((byt lo 2 : Nat) : Int) == 155 && ((byt lo 3 : Nat) : Int) == 95 && ((byt lo 4 : Nat) : Int) == 128 && ((byt lo 5 : Nat) : Int) == 0 && ((byt lo 6 : Nat) : Int) == 0 && ((byt lo 7 : Nat) : Int) == 128 && (((byt hi 0 : Nat) : Int) == 0 && ((byt hi 1 : Nat) : Int) == 16 && ((byt hi 2 : Nat) : Int) == 0 && ((byt hi 3 : Nat) : Int) == 0 && ((byt hi 6 : Nat) : Int) == 0 && ((byt hi 7 : Nat) : Int) == 0))) = isShort hi lo := by
  rw [Bool.eq_iff_iff,hsi]
  simp only [Bool.and_eq_true,beq_iff_eq]
  omega
 simp only [hr] at heq
 obtain ⟨b,hb⟩ : ∃ b,isShort hi lo = b := ⟨_,rfl⟩
 have hn : numI hi lo = if b then (numV hi : Int) else 0 := by unfold numI; rw [hb]
 rw [hn,hb]
 rw [hb] at heq
 have HO := Lib.hid ho
 have HEQ := Lib.hid heq
 clear ho hsi heq hr hb hn hh hl
 go_enter Tryz.func115,Tryz.ntmps115
 go_wp2_with fail
 go_at_call 118
 refine (bytes_any hi lo _).mono ?_
 rintro e w1 ⟨rfl,hB1⟩
 have hB2 := hb0.trans (hB1.mono hb0.size)
 have hB3 := hB2.alloc hB2.size (.cells #[.int .u8 (byt lo 0 : Nat),.int .u8 (byt lo 1 : Nat),.int .u8 (byt lo 2 : Nat),.int .u8 (byt lo 3 : Nat),.int .u8 (byt lo 4 : Nat),.int .u8 (byt lo 5 : Nat),.int .u8 (byt lo 6 : Nat),.int .u8 (byt lo 7 : Nat),.int .u8 (byt hi 0 : Nat),.int .u8 (byt hi 1 : Nat),.int .u8 (byt hi 2 : Nat),.int .u8 (byt hi 3 : Nat),.int .u8 (byt hi 4 : Nat),.int .u8 (byt hi 5 : Nat),.int .u8 (byt hi 6 : Nat),.int .u8 (byt hi 7 : Nat)] 159)
 have bA := Blk.new w1 159 [.int .u8 (byt lo 0 : Nat),.int .u8 (byt lo 1 : Nat),.int .u8 (byt lo 2 : Nat),.int .u8 (byt lo 3 : Nat),.int .u8 (byt lo 4 : Nat),.int .u8 (byt lo 5 : Nat),.int .u8 (byt lo 6 : Nat),.int .u8 (byt lo 7 : Nat),.int .u8 (byt hi 0 : Nat),.int .u8 (byt hi 1 : Nat),.int .u8 (byt hi 2 : Nat),.int .u8 (byt hi 3 : Nat),.int .u8 (byt hi 4 : Nat),.int .u8 (byt hi 5 : Nat),.int .u8 (byt hi 6 : Nat),.int .u8 (byt hi 7 : Nat)]
 clear hb0 hB1
 have ho := HO.out
 have q4 : ((byt hi 4 : Nat) : Int) < 256 := by have := byt_lt hi 4; omega
 have q5 : ((byt hi 5 : Nat) : Int) < 256 := by have := byt_lt hi 5; omega
 have z4 : (0 : Int) ≤ ((byt hi 4 : Nat) : Int) := by omega
 have z5 : (0 : Int) ≤ ((byt hi 5 : Nat) : Int) := by omega
 go_upto_region 4 with fail
 clear ho q4 q5 z4 z5
 have bA0 := Blk.new w1 159 [.int .u8 (byt lo 0 : Nat),.int .u8 (byt lo 1 : Nat),.int .u8 (byt lo 2 : Nat),.int .u8 (byt lo 3 : Nat),.int .u8 (byt lo 4 : Nat),.int .u8 (byt lo 5 : Nat),.int .u8 (byt lo 6 : Nat),.int .u8 (byt lo 7 : Nat),.int .u8 (byt hi 0 : Nat),.int .u8 (byt hi 1 : Nat),.int .u8 (byt hi 2 : Nat),.int .u8 (byt hi 3 : Nat),.int .u8 0,.int .u8 0,.int .u8 (byt hi 6 : Nat),.int .u8 (byt hi 7 : Nat)]
 have hB30 := hB2.alloc hB2.size (.cells #[.int .u8 (byt lo 0 : Nat),.int .u8 (byt lo 1 : Nat),.int .u8 (byt lo 2 : Nat),.int .u8 (byt lo 3 : Nat),.int .u8 (byt lo 4 : Nat),.int .u8 (byt lo 5 : Nat),.int .u8 (byt lo 6 : Nat),.int .u8 (byt lo 7 : Nat),.int .u8 (byt hi 0 : Nat),.int .u8 (byt hi 1 : Nat),.int .u8 (byt hi 2 : Nat),.int .u8 (byt hi 3 : Nat),.int .u8 0,.int .u8 0,.int .u8 (byt hi 6 : Nat),.int .u8 (byt hi 7 : Nat)] 159)
 clear bA hB3
 generalize hX : w1.alloc (.cells _ 159) = X at bA0 hB30 ⊢
 clear hX hB2
 have TA := bA0.cells
 refine wp_region_held_drew (S := (fun W' : World => Cells W' (blk w1.heap.size 0 0 [.int .u8 (byt lo 0 : Nat),.int .u8 (byt lo 1 : Nat),.int .u8 (byt lo 2 : Nat),.int .u8 (byt lo 3 : Nat),.int .u8 (byt lo 4 : Nat),.int .u8 (byt lo 5 : Nat),.int .u8 (byt lo 6 : Nat),.int .u8 (byt lo 7 : Nat),.int .u8 (byt hi 0 : Nat),.int .u8 (byt hi 1 : Nat),.int .u8 (byt hi 2 : Nat),.int .u8 (byt hi 3 : Nat),.int .u8 0,.int .u8 0,.int .u8 (byt hi 6 : Nat),.int .u8 (byt hi 7 : Nat)]))) (by kernel_rfl) (TA.drew) (fun hHeld => ?_)
 refine wpAnyH_take (i := 0) (oi := _) (v := ?_) (by rw [List.getElem?_toArray]; rfl) (by kernel_rfl) (by kernel_rfl) (by kernel_rfl) (by exact fun _ _ _ h => h) (Or.inl ⟨by rfl,?_⟩) (by assumption) ?_
 rotate_left
 ·intro w hSw
  try simp only [Cells,blk,List.cons_append,List.nil_append,and_true,Nat.reduceAdd,Nat.add_zero,Nat.zero_add] at hSw
  go_simp
  try with_reducible rfl
 simp only [Act.put,List.setIfInBounds_toArray,List.set_cons_zero,List.set_cons_succ]
 refine wpAnyH_take (i := 1) (oi := _) (v := ?_) (by rw [List.getElem?_toArray]; rfl) (by kernel_rfl) (by kernel_rfl) (by kernel_rfl) (by exact fun _ _ _ h => h) (Or.inl ⟨by rfl,?_⟩) (by assumption) ?_
 rotate_left
 ·intro w hSw
  try simp only [Cells,blk,List.cons_append,List.nil_append,and_true,Nat.reduceAdd,Nat.add_zero,Nat.zero_add] at hSw
  go_simp
  try with_reducible rfl
 simp only [Act.put,List.setIfInBounds_toArray,List.set_cons_zero,List.set_cons_succ]
 refine wpAnyH_ready (rs := [2]) (by kernel_rfl) (by simp) (AllReadyH.cons (o := _) (by rw [List.getElem?_toArray]; rfl) (fun K hK => ?_) AllReadyH.nil)
 go_simp
 go_at_call 118
 refine (bytes_base _).mono ?_
 rintro e w2 ⟨rfl,hB4⟩
 have T2 := TA.keep (((Below.refl _ X).drew).trans hB4)
 have hB5 := hB30.drew.trans (hB4.mono hB30.drew.size)
 have heq := HEQ.out
 clear hHeld
 refine hK.out _ _ (T2) (fun hHeld => ?_)
 clear hK K
 try simp only [Act.put,List.setIfInBounds_toArray,List.set_cons_zero,List.set_cons_succ]
 refine wpAnyH_take (i := 3) (oi := _) (v := ?_) (by rw [List.getElem?_toArray]; rfl) (by kernel_rfl) (by kernel_rfl) (by kernel_rfl) (by exact fun _ _ _ h => h) (Or.inl ⟨by rfl,?_⟩) (by assumption) ?_
 rotate_left
 ·intro w hSw
  try simp only [Cells,blk,List.cons_append,List.nil_append,and_true,Nat.reduceAdd,Nat.add_zero,Nat.zero_add] at hSw
  go_simp
  try with_reducible rfl
 simp only [Act.put,List.setIfInBounds_toArray,List.set_cons_zero,List.set_cons_succ]
 refine wpAnyH_done (by kernel_rfl) ?_ _
 clear heq T2 TA bA0
 cases b
 ·go_wp2
  refine bodyPost_ret (v := .tuple #[.int .u16 0,.bool false]) (by simp [results,Tryz.results115,go_sem] <;> rfl) rfl ?_
  exact ⟨rfl,hB5⟩
 ·go_wp2
  refine bodyPost_ret (v := .tuple #[.int .u16 (numV hi : Nat),.bool true]) (by simp [results,Tryz.results115,go_sem] <;> rfl) rfl ?_
  exact ⟨rfl,hB5⟩
end Go.Proofs.YtldcihjddebciaaGreat
