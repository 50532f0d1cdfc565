/- uuid: the code's Decode. And what follows it. -/
import Derived.Test.YtldcihjddebciaaGreatDUuJ
import Derived.RegionTactic
import Derived.BigRegion
import Derived.Test.YtldcihjddebciaaGreatDUuC
import Derived.Test.YtldcihjddebciaaGreatDCells
import Derived.Maps.AppendAt
import Derived.Maps.OwnSet
import Derived.WalkSpells
import Derived.WalkSmall
import Derived.BigQuiet
import Derived.Deep.QuietTactic
import Derived.Deep.RegionHeld3
import Derived.Deep.DeepCutAuto
import Derived.Deep.CutRange
set_option linter.unusedSimpArgs false
set_option linter.unusedVariables false
set_option maxRecDepth 100000
set_option maxHeartbeats 4000000
namespace Go.Proofs.YtldcihjddebciaaGreat
open Go.RowKit
theorem or16 (a b : Nat) (ha : a < 256) (hb : b < 256) : bits .or .u16 (a : Int) ((b : Int) * 256) = ((b * 256 + a : Nat) : Int) := by
 have e : ((b : Int) * 256) = ((b * 256 : Nat) : Int) := by simp
 rw [e,u16_or_nat _ _ (by omega) (by omega)]
 have : a ||| b * 256 = b * 256 + a := by
  rw [Nat.or_comm,show b * 256 = b <<< 8 by rw [Nat.shiftLeft_eq]]
  exact (Nat.shiftLeft_add_eq_or_of_lt (by simpa using ha) _).symm
 rw [this]
theorem shl_wrap (x k : Nat) (hx : x < 256) (hk : k < 8) : IntKind.u64.wrap ((x : Int) * 2 ^ (8 * (k : Int)).toNat) = ((x * 256 ^ k : Nat) : Int) := by
 have e : (8 * (k : Int)).toNat = 8 * k := by omega
 rw [e]
 have e2 : (256 : Nat) ^ k = 2 ^ (8 * k) := by rw [Nat.pow_mul]
 rw [e2]
 have e3 : ((x : Int) * 2 ^ (8 * k)) = ((x * 2 ^ (8 * k) : Nat) : Int) := by simp
 rw [e3]
 have : x * 2 ^ (8 * k) < 18446744073709551616 := by
  have h1 : 2 ^ (8 * k) ≤ 2 ^ 56 := Nat.pow_le_pow_right (by decide) (by omega)
  calc x * 2 ^ (8 * k) ≤ 255 * 2 ^ 56 := Nat.mul_le_mul (by omega) h1
   _ < _ := by decide
 exact IntWalk.u64_in _ (by omega)
theorem or_step (l : List Nat) (x : Nat) (hl : ∀ y ∈ l,y < 256) (hk : l.length < 8) (hx : x < 256) : bits .or .u64 ((vnum l : Nat) : Int) ((x * 256 ^ l.length : Nat) : Int) = ((vnum (l ++ [x]) : Nat) : Int) := by
 have h1 := vnum_lt l hl
 have h3 := vnum_lt (l ++ [x]) (fun y hy => by
  rcases List.mem_append.1 hy with h | h
  ·exact hl y h
  ·simp at h; omega)
 have hp : (256 : Nat) ^ (l ++ [x]).length ≤ 256 ^ 8 := Nat.pow_le_pow_right (by decide) (by simp; omega)
 have hp2 : (256 : Nat) ^ l.length ≤ 256 ^ 8 := Nat.pow_le_pow_right (by decide) (by omega)
 have e8 : (256 : Nat) ^ 8 = 18446744073709551616 := by decide
 rw [vnum_snoc] at h3 ⊢
 rw [u64_or_nat _ _ (by omega) (by omega),vnum_or l x hl]
theorem take_succ_getD (bs : List Nat) (k : Nat) (h : k < bs.length) : bs.take (k + 1) = bs.take k ++ [bs.getD k 0] := by
 rw [List.take_succ_eq_append_getElem h,List.getD_eq_getElem?_getD,List.getElem?_eq_getElem h]
 rfl
theorem decode_two (x0 x1 : Nat) (v : Value) (w : World) (h : BytesAt w v [x0,x1]) :
 Calls Tryz.prog 106 #[v] w fun e w' => e = .returned (.tuple #[.agg #[.int .u64 (decR [x0,x1]).1,.int .u64 (decR [x0,x1]).2.1],.int .i64 (decR [x0,x1]).2.2]) ∧ Below w.heap.size w w' := by
 obtain ⟨⟨_,_,_,ao,cap,rfl,_,hc⟩,_,hlt⟩ := h
 obtain ⟨b,off,rfl,hb,hcell⟩ := hc (by simp)
 have y0 : x0 < 256 := hlt x0 (by simp)
 have y1 : x1 < 256 := hlt x1 (by simp)
 have ho := or16 x0 x1 y0 y1
 have hd : decR [x0,x1] = ((x1 * 256 + x0) * 4294967296 + 4096,9223372588214596859,0) := by
  unfold decR
  rw [if_pos (by simp)]
  simp [vnum]
 rw [hd]
 obtain ⟨V,hV⟩ : ∃ V,x1 * 256 + x0 = V := ⟨_,rfl⟩
 have hVb : V < 65536 := by omega
 rw [hV] at ho ⊢
 have k0 := hcell 0 (.int .u8 (x0 : Int)) rfl
 have k1 := hcell 1 (.int .u8 (x1 : Int)) rfl
 have hB0 := (Below.refl w.heap.size w).alloc (Nat.le_refl _) (.cells #[.int .u64 0,.int .u64 0] 26)
 have bR := Blk.new w 26 [.int .u64 0,.int .u64 0]
 have TB : Cells (w.alloc (.cells #[.int .u64 0,.int .u64 0] 26)) (blk w.heap.size 0 0 [.int .u64 0,.int .u64 0] ++ blk b off 0 [.int .u8 x0,.int .u8 x1]) := bR.cells.app ⟨kc (j := off + 0) k0 hB0,kc k1 hB0,trivial⟩
 have TW : Cells w (blk b off 0 [.int .u8 x0,.int .u8 x1]) := ⟨k0,k1,trivial⟩
 have HTW := Lib.hid TW
 clear TW
 have hsh := fun W => short_any V hVb W
 obtain ⟨M,hM⟩ : ∃ M : Int,(V : Int) * 4294967296 + 4096 = M := ⟨_,rfl⟩
 obtain ⟨L,hL⟩ : ∃ M : Int,(9223372588214596859 : Int) = M := ⟨_,rfl⟩
 rw [show (((V * 4294967296 + 4096 : Nat)) : Int) = M by rw [← hM]; simp,show ((9223372588214596859 : Nat) : Int) = L by rw [← hL]; rfl]
 simp only [hM,hL] at hsh
 have HSH := Lib.hid hsh
 have HO := Lib.hid ho
 have z0 : (0 : Int) ≤ (x0 : Int) := by omega
 have z1 : (0 : Int) ≤ (x1 : Int) := by omega
 have q0 : (x0 : Int) < 256 := by omega
 have q1 : (x1 : Int) < 256 := by omega
 have u0 : IntKind.u16.wrap (x0 : Int) = (x0 : Int) := IntWalk.u16_in _ (by omega)
 have u1 : IntKind.u16.wrap (x1 : Int) = (x1 : Int) := IntWalk.u16_in _ (by omega)
 have u2 : IntKind.u16.wrap ((x1 : Int) * 256) = (x1 : Int) * 256 := IntWalk.u16_in _ (by omega)
 clear hsh hM hL hd hV ho hcell hc hlt k0 k1
 go_enter Tryz.func106,Tryz.ntmps106
 go_upto_region 2 with fail
 generalize hX : World.alloc _ _ = X at TB bR hB0 ⊢
 clear hX
 have ho := HO.out
 refine wp_region_held_drew (S := (fun W' : World => Cells W' (blk b off 0 [.int .u8 x0,.int .u8 x1]))) (by kernel_rfl) (HTW.out.keep hB0.drew) (fun hHeld => ?_)
 refine wpAnyH_take (i := 0) (oi := _) (v := ?_) (by rw [List.getElem?_toArray]; rfl) (by kernel_rfl) (by kernel_rfl) (by kernel_rfl) (by exact fun _ _ _ h => h) (Or.inl ⟨by rfl,?_⟩) (by assumption) ?_
 rotate_left
 ·intro w hSw
  try simp only [Cells,blk,List.cons_append,List.nil_append,and_true,Nat.reduceAdd,Nat.add_zero,Nat.zero_add] at hSw
  go_simp
  try with_reducible rfl
 simp only [Act.put,List.setIfInBounds_toArray,List.set_cons_zero,List.set_cons_succ]
 refine wpAnyH_take (i := 1) (oi := _) (v := ?_) (by rw [List.getElem?_toArray]; rfl) (by kernel_rfl) (by kernel_rfl) (by kernel_rfl) (by exact fun _ _ _ h => h) (Or.inl ⟨by rfl,?_⟩) (by assumption) ?_
 rotate_left
 ·intro w hSw
  try simp only [Cells,blk,List.cons_append,List.nil_append,and_true,Nat.reduceAdd,Nat.add_zero,Nat.zero_add] at hSw
  go_simp
  try with_reducible rfl
 simp only [Act.put,List.setIfInBounds_toArray,List.set_cons_zero,List.set_cons_succ]
 refine wpAnyH_take (i := 2) (oi := _) (v := ?_) (by rw [List.getElem?_toArray]; rfl) (by kernel_rfl) (by kernel_rfl) (by kernel_rfl) (by exact fun _ _ _ h => h) (Or.inl ⟨by rfl,?_⟩) (by assumption) ?_
 rotate_left
 ·intro w hSw
  try simp only [Cells,blk,List.cons_append,List.nil_append,and_true,Nat.reduceAdd,Nat.add_zero,Nat.zero_add] at hSw
  go_simp
  try with_reducible rfl
 simp only [Act.put,List.setIfInBounds_toArray,List.set_cons_zero,List.set_cons_succ]
 refine wpAnyH_take (i := 3) (oi := _) (v := ?_) (by rw [List.getElem?_toArray]; rfl) (by kernel_rfl) (by kernel_rfl) (by kernel_rfl) (by exact fun _ _ _ h => h) (Or.inl ⟨by rfl,?_⟩) (by assumption) ?_
 rotate_left
 ·intro w hSw
  try simp only [Cells,blk,List.cons_append,List.nil_append,and_true,Nat.reduceAdd,Nat.add_zero,Nat.zero_add] at hSw
  go_simp
  try with_reducible rfl
 simp only [Act.put,List.setIfInBounds_toArray,List.set_cons_zero,List.set_cons_succ]
 refine wpAnyH_take (i := 4) (oi := _) (v := ?_) (by rw [List.getElem?_toArray]; rfl) (by kernel_rfl) (by kernel_rfl) (by kernel_rfl) (by exact fun _ _ _ h => h) (Or.inl ⟨by rfl,?_⟩) (by assumption) ?_
 rotate_left
 ·intro w hSw
  try simp only [Cells,blk,List.cons_append,List.nil_append,and_true,Nat.reduceAdd,Nat.add_zero,Nat.zero_add] at hSw
  go_simp
  try with_reducible rfl
 simp only [Act.put,List.setIfInBounds_toArray,List.set_cons_zero,List.set_cons_succ]
 refine wpAnyH_take (i := 5) (oi := _) (v := ?_) (by rw [List.getElem?_toArray]; rfl) (by kernel_rfl) (by kernel_rfl) (by kernel_rfl) (by exact fun _ _ _ h => h) (Or.inl ⟨by rfl,?_⟩) (by assumption) ?_
 rotate_left
 ·intro w hSw
  try simp only [Cells,blk,List.cons_append,List.nil_append,and_true,Nat.reduceAdd,Nat.add_zero,Nat.zero_add] at hSw
  go_simp
  try with_reducible rfl
 simp only [Act.put,List.setIfInBounds_toArray,List.set_cons_zero,List.set_cons_succ]
 refine wpAnyH_take (i := 6) (oi := _) (v := ?_) (by rw [List.getElem?_toArray]; rfl) (by kernel_rfl) (by kernel_rfl) (by kernel_rfl) (by exact fun _ _ _ h => h) (Or.inl ⟨by rfl,?_⟩) (by assumption) ?_
 rotate_left
 ·intro w hSw
  try simp only [Cells,blk,List.cons_append,List.nil_append,and_true,Nat.reduceAdd,Nat.add_zero,Nat.zero_add] at hSw
  go_simp
  try with_reducible rfl
 simp only [Act.put,List.setIfInBounds_toArray,List.set_cons_zero,List.set_cons_succ]
 refine wpAnyH_take (i := 7) (oi := _) (v := ?_) (by rw [List.getElem?_toArray]; rfl) (by kernel_rfl) (by kernel_rfl) (by kernel_rfl) (by exact fun _ _ _ h => h) (Or.inl ⟨by rfl,?_⟩) (by assumption) ?_
 rotate_left
 ·intro w hSw
  try simp only [Cells,blk,List.cons_append,List.nil_append,and_true,Nat.reduceAdd,Nat.add_zero,Nat.zero_add] at hSw
  go_simp
  try with_reducible rfl
 simp only [Act.put,List.setIfInBounds_toArray,List.set_cons_zero,List.set_cons_succ]
 refine wpAnyH_take (i := 8) (oi := _) (v := ?_) (by rw [List.getElem?_toArray]; rfl) (by kernel_rfl) (by kernel_rfl) (by kernel_rfl) (by exact fun _ _ _ h => h) (Or.inl ⟨by rfl,?_⟩) (by assumption) ?_
 rotate_left
 ·intro w hSw
  try simp only [Cells,blk,List.cons_append,List.nil_append,and_true,Nat.reduceAdd,Nat.add_zero,Nat.zero_add] at hSw
  go_simp
  try with_reducible rfl
 simp only [Act.put,List.setIfInBounds_toArray,List.set_cons_zero,List.set_cons_succ]
 refine wpAnyH_take (i := 9) (oi := _) (v := ?_) (by rw [List.getElem?_toArray]; rfl) (by kernel_rfl) (by kernel_rfl) (by kernel_rfl) (by exact fun _ _ _ h => h) (Or.inl ⟨by rfl,?_⟩) (by assumption) ?_
 rotate_left
 ·intro w hSw
  try simp only [Cells,blk,List.cons_append,List.nil_append,and_true,Nat.reduceAdd,Nat.add_zero,Nat.zero_add] at hSw
  go_simp
  try with_reducible rfl
 simp only [Act.put,List.setIfInBounds_toArray,List.set_cons_zero,List.set_cons_succ]
 refine wpAnyH_ready (rs := [10]) (by kernel_rfl) (by simp) (AllReadyH.cons (o := _) (by rw [List.getElem?_toArray]; rfl) (fun K hK => ?_) AllReadyH.nil)
 go_simp
 go_at_call 60
 refine (HSH.out _).mono ?_
 rintro e w2 ⟨rfl,hB2⟩
 have hBX : Below X.heap.size X w2 := ((Below.refl _ X).drew).trans hB2
 have T2 := TB.keep hBX
 have b2 := bR.below hBX
 have hB3 := hB0.trans (hBX.mono hB0.size)
 have hOpen := T2
 simp only [Cells,blk,List.cons_append,List.nil_append,and_true,Nat.reduceAdd,Nat.add_zero,Nat.zero_add] at hOpen
 obtain ⟨c0,c1,c2,c3⟩ := hOpen
 have f0 := b2.frozen 0
 have f1 := b2.frozen 1
 have B2 := Lib.hid b2
 have HT2 := Lib.hid T2
 clear hB2 hBX b2 TB bR hB0
 clear hHeld
 refine hK.out _ _ (HTW.out.keep hB3) (fun hHeld => ?_)
 clear hK K
 try simp only [Act.put,List.setIfInBounds_toArray,List.set_cons_zero,List.set_cons_succ]
 refine wpAnyH_ready (rs := [11]) (by kernel_rfl) (by simp) (AllReadyH.cons (o := _) (by rw [List.getElem?_toArray]; rfl) (fun K hK => ?_) AllReadyH.nil)
 go_simp
 generalize hX3 : World.setCell _ _ _ = X3
 have b3 : Blk X3 w.heap.size 26 [.int .u64 M,.int .u64 L] := by
  rw [← hX3]
  exact (B2.out.setAt (j := 0) (.int .u64 M)).setAt (j := 1) (.int .u64 L)
 have hB4 : Below w.heap.size w X3 := by
  rw [← hX3]
  exact (hB3.setCell (p := ⟨w.heap.size,0,none⟩) (by simp) _).setCell (p := ⟨w.heap.size,1,none⟩) (by simp) _
 have B3 := Lib.hid b3
 clear hX3 b3 c0 c1 c2 c3 f0 f1 ho
 clear hHeld
 refine hK.out _ _ (HTW.out.keep hB4) (fun hHeld => ?_)
 clear hK K
 try simp only [Act.put,List.setIfInBounds_toArray,List.set_cons_zero,List.set_cons_succ]
 refine wpAnyH_take (i := 12) (oi := _) (v := ?_) (by rw [List.getElem?_toArray]; rfl) (by kernel_rfl) (by kernel_rfl) (by kernel_rfl) (by exact fun _ _ _ h => h) (Or.inl ⟨by rfl,?_⟩) (by assumption) ?_
 rotate_left
 ·intro w hSw
  try simp only [Cells,blk,List.cons_append,List.nil_append,and_true,Nat.reduceAdd,Nat.add_zero,Nat.zero_add] at hSw
  go_simp
  try with_reducible rfl
 simp only [Act.put,List.setIfInBounds_toArray,List.set_cons_zero,List.set_cons_succ]
 refine wpAnyH_done (by kernel_rfl) ?_ _
 go_wp2
 obtain ⟨r0,r1,_⟩ := B3.out.cells
 simp only [Nat.zero_add,Nat.add_zero] at r0 r1
 refine bodyPost_ret (v := .tuple #[.agg #[.int .u64 M,.int .u64 L],.int .i64 0]) (by simp [results,Tryz.results106,go_sem,r0,r1]) rfl ?_
 exact ⟨rfl,hB4⟩
theorem decode_16 (v : Value) (bs : List Nat) (w : World) (h : BytesAt w v bs) (hn : bs.length = 16) :
 Calls Tryz.prog 106 #[v] w fun e w' => e = .returned (.tuple #[.agg #[.int .u64 (decR bs).1,.int .u64 (decR bs).2.1],.int .i64 (decR bs).2.2]) ∧ Below w.heap.size w w' := by
 obtain ⟨⟨_,_,_,ao,cap,rfl,_,hc⟩,_,hlt⟩ := h
 obtain ⟨b,off,rfl,hb,hcell⟩ := hc (by omega)
 have HC := Lib.hid hcell
 have HLT := Lib.hid hlt
 have HN := Lib.hid hn
 have hd : decR bs = if isShort (vnum (bs.drop 8)) (vnum (bs.take 8)) then (0,0,2) else (vnum (bs.drop 8),vnum (bs.take 8),0) := by
  unfold decR
  rw [hn,if_neg (by decide),if_neg (by decide),if_neg (by decide)]
 obtain ⟨⟨D1,D2,D3⟩,hD⟩ : ∃ D,decR bs = D := ⟨_,rfl⟩
 rw [hD] at hd ⊢
 rw [hn]
 have HD := Lib.hid hd
 clear hc hcell hlt hn hd hD
 have hB0 := ((Below.refl w.heap.size w).alloc (Nat.le_refl _) (.cells #[.int .u64 0,.int .u64 0] 26)).alloc (by simp) (.cells #[.int .u64 0,.int .u64 0] 26)
 have bR := (Blk.new w 26 [.int .u64 0,.int .u64 0]).alloc (.cells #[.int .u64 0,.int .u64 0] 26)
 have bU := Blk.new (w.alloc (.cells #[.int .u64 0,.int .u64 0] 26)) 26 [.int .u64 0,.int .u64 0]
 simp only [World.size_alloc] at bU
 have HB0 := Lib.hid hB0
 have HR := Lib.hid bR
 have HU := Lib.hid bU
 clear hB0 bR bU
 go_enter Tryz.func106,Tryz.ntmps106
 go_wp2
 go_loopw [5,33] (fun _ i wr => ∃ k : Nat,i = .int .i64 k ∧ k ≤ 8 ∧ Blk wr w.heap.size 26 [.int .u64 0,.int .u64 0] ∧ Blk wr (w.heap.size + 1) 26 [.int .u64 (vnum ((bs.drop 8).take k) : Nat),.int .u64 (vnum (bs.take k) : Nat)] ∧ Below w.heap.size w wr) (fun _ i _ => 8 - (intOf i).toNat)
 case atStart => exact ⟨0,by simp,by omega,HR.out,HU.out,HB0.out⟩
 case round =>
  obtain ⟨k,rfl,hk,br,bu,hB⟩ := hrel
  by_cases hlt : k < 8
  ·have g1 : decide (k < 8) = true := by simpa using hlt
   have g1' : decide ((k : Int) < 8) = true := by simp; omega
   have hk1 : k < bs.length := by rw [HN.out]; omega
   have hk2 : 8 + k < bs.length := by rw [HN.out]; omega
   have t1 := take_succ_getD bs k hk1
   have t2 := take_succ_getD (bs.drop 8) k (by rw [List.length_drop,HN.out]; omega)
   rw [show (bs.drop 8).getD k 0 = bs.getD (8 + k) 0 by simp [List.getD_eq_getElem?_getD]] at t2
   have x1 := HC.out k (.int .u8 (bs[k] : Nat)) (by simp [bcells,List.getElem?_eq_getElem hk1])
   have x2 := HC.out (8 + k) (.int .u8 (bs[8 + k] : Nat)) (by simp [bcells,List.getElem?_eq_getElem hk2])
   have l1 := HLT.out _ (List.getElem_mem hk1)
   have l2 := HLT.out _ (List.getElem_mem hk2)
   rw [show bs.getD k 0 = bs[k] by rw [List.getD_eq_getElem?_getD,List.getElem?_eq_getElem hk1]; rfl] at t1
   rw [show bs.getD (8 + k) 0 = bs[8 + k] by rw [List.getD_eq_getElem?_getD,List.getElem?_eq_getElem hk2]; rfl] at t2
   obtain ⟨x,hx⟩ : ∃ x,bs[k] = x := ⟨_,rfl⟩
   obtain ⟨y,hy⟩ : ∃ x,bs[8 + k] = x := ⟨_,rfl⟩
   rw [hx] at t1 x1 l1
   rw [hy] at t2 x2 l2
   have o1 := or_step (bs.take k) x (fun z hz => HLT.out z (List.mem_of_mem_take hz)) (by simp; omega) l1
   have o2 := or_step ((bs.drop 8).take k) y (fun z hz => HLT.out z (List.mem_of_mem_drop (List.mem_of_mem_take hz))) (by simp; omega) l2
   rw [show (bs.take k).length = k by simp; omega] at o1
   rw [show ((bs.drop 8).take k).length = k by simp; omega] at o2
   rw [← t1] at o1
   rw [← t2] at o2
   have p1 := shl_wrap x k l1 hlt
   have p2 := shl_wrap y k l2 hlt
   obtain ⟨LO,hLO⟩ : ∃ z,vnum (bs.take k) = z := ⟨_,rfl⟩
   obtain ⟨HI,hHI⟩ : ∃ z,vnum ((bs.drop 8).take k) = z := ⟨_,rfl⟩
   obtain ⟨LO2,hLO2⟩ : ∃ z,vnum (bs.take (k + 1)) = z := ⟨_,rfl⟩
   obtain ⟨HI2,hHI2⟩ : ∃ z,vnum ((bs.drop 8).take (k + 1)) = z := ⟨_,rfl⟩
   rw [hLO,hLO2] at o1
   rw [hHI,hHI2] at o2
   rw [hLO,hHI] at bu
   rw [← p1,show (8 * (k : Int)).toNat = 8 * k by omega] at o1
   rw [← p2,show (8 * (k : Int)).toNat = 8 * k by omega] at o2
   have HLO2 := Lib.hid hLO2
   have HHI2 := Lib.hid hHI2
   have d1 := kc x1 hB
   have d2 := kc x2 hB
   have O1 := Lib.hid o1
   have O2 := Lib.hid o2
   clear t1 t2 p1 p2 hLO hHI hLO2 hHI2 hx hy x1 x2 hk1 hk2 o1 o2
   have i1 : (k : Int) < 16 := by omega
   have i2 : (8 : Int) + k < 16 := by omega
   have i3 : (0 : Int) ≤ 8 + k := by omega
   have i4 : (0 : Int) ≤ 8 * (k : Int) := by omega
   have e2 : ((8 : Int) + (k : Int)).toNat = 8 + k := by omega
   have w1 : IntKind.i64.wrap ((k : Int) + 1) = (k : Int) + 1 := IntWalk.i64_in _ (by omega)
   have w2 : IntKind.i64.wrap (8 * (k : Int)) = 8 * (k : Int) := IntWalk.i64_in _ (by omega)
   have w3 : IntKind.i64.wrap (8 + (k : Int)) = 8 + (k : Int) := IntWalk.i64_in _ (by omega)
   have b1 : (x : Int) < 256 := by omega
   have b2 : (y : Int) < 256 := by omega
   obtain ⟨u0,u1,_⟩ := bu.cells
   simp only [Nat.zero_add,Nat.add_zero] at u0 u1
   have f0 := bu.frozen 0
   have f1 := bu.frozen 1
   go_upto_region 11 with fail
   go_region
   rw [O1.out]
   generalize hX1 : World.drew _ = X1
   have bu1 : Blk X1 (w.heap.size + 1) 26 [.int .u64 HI,.int .u64 LO2] := by rw [← hX1]; exact bu.setAt (j := 1) _
   have br1 : Blk X1 w.heap.size 26 [.int .u64 0,.int .u64 0] := by rw [← hX1]; exact br.other (by omega) _
   have hB1 : Below w.heap.size w X1 := by rw [← hX1]; exact (hB.setCell (p := ⟨w.heap.size + 1,1,none⟩) (by simp) _).drew
   have D2 := Lib.hid ((hB1.cell (p := ⟨b,off + (8 + k),none⟩) hb).trans ((hB.cell (p := ⟨b,off + (8 + k),none⟩) hb).symm.trans d2))
   clear hX1 u0 u1 f0 f1 d1 d2 bu br hB
   have d2 := D2.out
   obtain ⟨u0,u1,_⟩ := bu1.cells
   simp only [Nat.zero_add,Nat.add_zero] at u0 u1
   have f0 := bu1.frozen 0
   have f1 := bu1.frozen 1
   go_upto_region 12 with fail
   go_region
   rw [O2.out]
   generalize hX2 : World.drew _ = X2
   have bu2 : Blk X2 (w.heap.size + 1) 26 [.int .u64 HI2,.int .u64 LO2] := by rw [← hX2]; exact bu1.setAt (j := 0) _
   have br2 : Blk X2 w.heap.size 26 [.int .u64 0,.int .u64 0] := by rw [← hX2]; exact br1.other (by omega) _
   have hB2 : Below w.heap.size w X2 := by rw [← hX2]; exact (hB1.setCell (p := ⟨w.heap.size + 1,0,none⟩) (by simp) _).drew
   have HREL : Hid (∃ k2 : Nat,Value.int .i64 ((k : Int) + 1) = .int .i64 k2 ∧ k2 ≤ 8 ∧ Blk X2 w.heap.size 26 [.int .u64 0,.int .u64 0] ∧ Blk X2 (w.heap.size + 1) 26 [.int .u64 (vnum ((bs.drop 8).take k2) : Nat),.int .u64 (vnum (bs.take k2) : Nat)] ∧ Below w.heap.size w X2) :=
    Lib.hid ⟨k + 1,by simp,by omega,br2,by rw [HLO2.out,HHI2.out]; exact bu2,hB2⟩
   clear hX2 u0 u1 f0 f1 d2 bu1 br1 hB1 bu2 br2 hB2 D2
   go_wp2
   refine ⟨HREL.out,?_⟩
   simp [intOf]
   omega
  ·obtain rfl : k = 8 := by omega
   have g1 : decide (8 < 8) = false := by decide
   have g1' : decide (((8 : Nat) : Int) < 8) = false := by decide
   have z := fun W => run_build0 W
   rw [show (bs.drop 8).take 8 = bs.drop 8 by rw [List.take_of_length_le (by rw [List.length_drop,HN.out]; omega)]] at bu
   have v1 : vnum (bs.take 8) < 18446744073709551616 := by
    have := vnum_lt (bs.take 8) fun x hx => HLT.out x (List.mem_of_mem_take hx)
    rw [List.length_take,HN.out] at this
    exact this
   have v2 : vnum (bs.drop 8) < 18446744073709551616 := by
    have := vnum_lt (bs.drop 8) fun x hx => HLT.out x (List.mem_of_mem_drop hx)
    rw [List.length_drop,HN.out] at this
    exact this
   have hnum := fun W => number_any (vnum (bs.drop 8)) (vnum (bs.take 8)) v2 v1 W
   obtain ⟨lo,hlo⟩ : ∃ V,vnum (bs.take 8) = V := ⟨_,rfl⟩
   obtain ⟨hi,hhi⟩ : ∃ V,vnum (bs.drop 8) = V := ⟨_,rfl⟩
   rw [hlo,hhi] at bu hnum
   obtain ⟨bb,hbb⟩ : ∃ b,isShort hi lo = b := ⟨_,rfl⟩
   obtain ⟨q,hq⟩ : ∃ q,numI hi lo = q := ⟨_,rfl⟩
   simp only [hbb,hq] at hnum
   have HNUM := Lib.hid hnum
   have HLO := Lib.hid hlo
   have HHI := Lib.hid hhi
   have HBB := Lib.hid hbb
   obtain ⟨u0,u1,_⟩ := bu.cells
   simp only [Nat.zero_add,Nat.add_zero] at u0 u1
   clear hnum hlo hhi hbb hq v1 v2
   go_wp2_with fail
   go_at_call 115
   refine (HNUM.out _).mono ?_
   rintro e w3 ⟨rfl,hB3⟩
   have bu3 := bu.below hB3
   have br3 := br.below hB3
   have hB4 := hB.trans (hB3.mono hB.size)
   have T3 := bu3.cells
   have TR := br3.cells
   clear u0 u1
   have hOpen := T3
   simp only [Cells,blk,List.cons_append,List.nil_append,and_true,Nat.reduceAdd,Nat.add_zero,Nat.zero_add] at hOpen
   obtain ⟨c0,c1⟩ := hOpen
   have hOpen := TR
   simp only [Cells,blk,List.cons_append,List.nil_append,and_true,Nat.reduceAdd,Nat.add_zero,Nat.zero_add] at hOpen
   obtain ⟨r0,r1⟩ := hOpen
   have f0 := br3.frozen 0
   have f1 := br3.frozen 1
   have HB3 := Lib.hid br3
   clear T3 TR bu bu3 br br3 hB3 hB
   cases bb
   ·go_wp2
    have b3 := (HB3.out.setAt (j := 0) (.int .u64 (hi : Int))).setAt (j := 1) (.int .u64 (lo : Int))
    obtain ⟨x0,x1,_⟩ := b3.cells
    simp only [Nat.zero_add,Nat.add_zero,List.set_cons_zero,List.set_cons_succ] at x0 x1
    refine bodyPost_ret (v := .tuple #[.agg #[.int .u64 hi,.int .u64 lo],.int .i64 0]) (by simp [results,Tryz.results106,go_sem,x0,x1]) rfl ?_
    have hd := HD.out
    rw [HLO.out,HHI.out,HBB.out] at hd
    simp only [Bool.false_eq_true,if_false,if_true,Prod.mk.injEq] at hd
    obtain ⟨rfl,rfl,rfl⟩ := hd
    refine ⟨rfl,(hB4.setCell (p := ⟨w.heap.size,0,none⟩) (by simp) _).setCell (p := ⟨w.heap.size,1,none⟩) (by simp) _⟩
   ·go_wp2
    have b3 := (HB3.out.setAt (j := 0) (.int .u64 0)).setAt (j := 1) (.int .u64 0)
    obtain ⟨x0,x1,_⟩ := b3.cells
    simp only [Nat.zero_add,Nat.add_zero,List.set_cons_zero,List.set_cons_succ] at x0 x1
    refine bodyPost_ret (v := .tuple #[.agg #[.int .u64 0,.int .u64 0],.int .i64 2]) (by simp [results,Tryz.results106,go_sem,x0,x1]) rfl ?_
    have hd := HD.out
    rw [HLO.out,HHI.out,HBB.out] at hd
    simp only [Bool.false_eq_true,if_false,if_true,Prod.mk.injEq] at hd
    obtain ⟨rfl,rfl,rfl⟩ := hd
    refine ⟨rfl,(hB4.setCell (p := ⟨w.heap.size,0,none⟩) (by simp) _).setCell (p := ⟨w.heap.size,1,none⟩) (by simp) _⟩
theorem decode_any (v : Value) (bs : List Nat) (w : World) (h : BytesAt w v bs) (hm : bs.length ≤ 1099511627776) :
 Calls Tryz.prog 106 #[v] w fun e w' => e = .returned (.tuple #[.agg #[.int .u64 (decR bs).1,.int .u64 (decR bs).2.1],.int .i64 (decR bs).2.2]) ∧ Below w.heap.size w w' := by
 have HBY := Lib.hid h
 obtain ⟨⟨_,_,_,ao,cap,rfl,_,_⟩,_,hlt⟩ := h
 have HLT := Lib.hid hlt
 obtain ⟨n,hn⟩ : ∃ n,bs.length = n := ⟨_,rfl⟩
 have HN := Lib.hid hn
 unfold decR
 rw [hn] at hm ⊢
 have hz := fun W => run_build0 W
 have hB0 := (Below.refl w.heap.size w).alloc (Nat.le_refl _) (.cells #[.int .u64 0,.int .u64 0] 26)
 have HBY1 : Hid (BytesAt w (.slice ao n cap) bs) := by rw [← HN.out]; exact HBY
 clear hlt hn HBY
 by_cases h2 : n = 2
 ·subst h2
  rw [if_pos rfl]
  obtain ⟨x0,x1,rfl⟩ := list2 bs HN.out
  have := decode_two x0 x1 _ w HBY1.out
  unfold decR at this
  rw [if_pos (show [x0,x1].length = 2 from rfl)] at this
  exact this
 rw [if_neg h2]
 have g2 : ((n : Int) == 2) = false := by simp; omega
 by_cases h3 : n < 16
 ·rw [if_pos h3]
  have g3 : decide (n < 16) = true := by simpa using h3
  have g3' : decide ((n : Int) < 16) = true := by simp; omega
  go_enter Tryz.func106,Tryz.ntmps106
  go_wp2
  refine bodyPost_ret (v := .tuple #[.agg #[.int .u64 0,.int .u64 0],.int .i64 3]) (by simp [results,Tryz.results106,go_sem] <;> rfl) rfl ?_
  exact ⟨rfl,hB0⟩
 rw [if_neg h3]
 have g3 : decide (n < 16) = false := by simpa using h3
 have g3' : decide ((n : Int) < 16) = false := by simp; omega
 by_cases h4 : 16 < n
 ·rw [if_pos h4]
  have g4 : decide (16 < n) = true := by simpa using h4
  have g4' : decide ((16 : Int) < (n : Int)) = true := by simp; omega
  go_enter Tryz.func106,Tryz.ntmps106
  go_wp2
  refine bodyPost_ret (v := .tuple #[.agg #[.int .u64 0,.int .u64 0],.int .i64 2]) (by simp [results,Tryz.results106,go_sem] <;> rfl) rfl ?_
  exact ⟨rfl,hB0⟩
 rw [if_neg h4]
 obtain rfl : n = 16 := by omega
 have := decode_16 _ bs w HBY1.out HN.out
 unfold decR at this
 rw [HN.out,if_neg (by decide),if_neg (by decide),if_neg (by decide)] at this
 exact this
def jn (ps : List (Value × List Nat)) (k : Nat) : List Nat := (ps.take k).flatMap (·.2)
theorem jn_succ (ps : List (Value × List Nat)) (k : Nat) (h : k < ps.length) : jn ps (k + 1) = jn ps k ++ (ps[k]).2 := by
 unfold jn
 rw [List.take_succ_eq_append_getElem h,List.flatMap_append]
 simp
theorem jn_all (ps : List (Value × List Nat)) : jn ps ps.length = ps.flatMap (·.2) := by unfold jn; rw [List.take_of_length_le (Nat.le_refl _)]
theorem jn_le (ps : List (Value × List Nat)) (k : Nat) : (jn ps k).length ≤ (ps.flatMap (·.2)).length := by
 have : ps.flatMap (·.2) = jn ps k ++ (ps.drop k).flatMap (·.2) := by unfold jn; rw [← List.flatMap_append,List.take_append_drop]
 rw [this,List.length_append]
 omega
theorem join_any (v : Value) (ps : List (Value × List Nat)) (w : World) (h : SR w v ps.length 1 (ps.map (·.1))) (hp : ∀ p ∈ ps,BytesAt w p.1 p.2) (hn : (ps.flatMap (·.2)).length ≤ 1099511627776) (hc : ps.length ≤ 1099511627776) :
 Calls Tryz.prog 34 #[v] w fun e w' => ∃ v',e = .returned v' ∧ w'.ownsRow w.heap.size 5 1 v' (ps.flatMap (·.2)).length (bcells (ps.flatMap (·.2))) ∧ Below w.heap.size w w' := by
 obtain ⟨i0,hi,hz0,hz1,hz2⟩ := info_parts Tryz.info_u8
 obtain ⟨_,_,_,ao,cap,rfl,_,hcell⟩ := h
 obtain ⟨n,hnn⟩ : ∃ n,ps.length = n := ⟨_,rfl⟩
 have HN := Lib.hid hnn
 have HC := Lib.hid hcell
 have HP := Lib.hid hp
 have HL := Lib.hid hn
 rw [hnn] at hc ⊢
 clear hcell hp hnn hn
 go_enter Tryz.func34,Tryz.ntmps34
 go_wp2
 go_loopw [3,5,8] (fun v _ i wr => ∃ k : Nat,i = .int .i64 k ∧ k ≤ n ∧ wr.ownsRow w.heap.size 5 1 v (jn ps k).length (bcells (jn ps k)) ∧ Below w.heap.size w wr) (fun _ _ i _ => n - (intOf i).toNat)
 case atStart => exact ⟨0,by simp,Nat.zero_le _,World.ownsRow_nil _ _ _ _,Below.refl _ _⟩
 case round =>
  obtain ⟨k,rfl,hk,hown,hB⟩ := hrel
  by_cases hlt : k < n
  ·have g1 : decide (k < n) = true := by simpa using hlt
   have hkl : k < ps.length := by rw [HN.out]; exact hlt
   obtain ⟨b,off,rfl,hb,hcell⟩ := HC.out (by omega)
   have hst := jn_succ ps k hkl
   have hle := jn_le ps (k + 1)
   have hll := HL.out
   obtain ⟨⟨pv,pl⟩,hx⟩ : ∃ p,ps[k] = p := ⟨_,rfl⟩
   have hpb := HP.out _ (List.getElem_mem hkl)
   have hcl := hcell k pv (by simp [List.getElem?_eq_getElem hkl,hx])
   rw [hx] at hst hpb
   simp only at hst hpb
   obtain ⟨⟨_,hpl,hp1,pa,pc,rfl,hpn,hpc⟩,_,_⟩ := hpb.below hB
   have hcl2 := kc hcl hB
   obtain ⟨J,hJ⟩ : ∃ J,jn ps k = J := ⟨_,rfl⟩
   obtain ⟨m,hm⟩ : ∃ m,J.length = m := ⟨_,rfl⟩
   rw [hJ] at hst hown
   rw [hst,List.length_append,hm] at hle
   rw [hm] at hown
   have HST := Lib.hid hst
   have HM := Lib.hid hm
   obtain ⟨pn,hpn'⟩ : ∃ q,pl.length = q := ⟨_,rfl⟩
   have HPN := Lib.hid hpn'
   rw [hpn'] at hpl hpn hpc hle hcl2
   have hle2 : m + pn ≤ 1099511627776 := by omega
   have i1 : (k : Int) < (n : Int) := by omega
   have w1 : IntKind.i64.wrap ((k : Int) + 1) = (k : Int) + 1 := IntWalk.i64_in _ (by omega)
   have HR : Hid (∀ (v2 : Value) (w2 : World),w2.ownsRow w.heap.size 5 1 v2 (m + pn) (bcells J ++ bcells pl) → Below w.heap.size w w2 → ∃ k2 : Nat,Value.int .i64 ((k : Int) + 1) = .int .i64 k2 ∧ k2 ≤ n ∧ w2.ownsRow w.heap.size 5 1 v2 (jn ps k2).length (bcells (jn ps k2)) ∧ Below w.heap.size w w2) :=
    Lib.hid fun v2 w2 h2 hb2 => ⟨k + 1,by simp,hlt,by rw [HST.out,List.length_append,HM.out,HPN.out]; simpa [bcells] using h2,hb2⟩
   clear hcell hst hll hpb hx hcl hJ hm hpn'
   cases pa with
   |none =>
    obtain ⟨rfl,rfl⟩ := hpn rfl
    have hpl0 : pl = [] := List.eq_nil_of_length_eq_zero HPN.out
    clear hpn hpc hpl
    go_wp2_with (at_builtin; refine wpList_append_own_none rfl _ _ 27 rfl w.heap.size 5 i0 1 Tryz.underlying27 hi _ _ _ rfl hown rfl ?_)
    refine ⟨HR.out _ _ (by rw [hpl0]; simpa [bcells] using hown) hB,?_⟩
    simp [intOf]
    omega
   |some ad =>
    have hnew : ∀ j u,(bcells pl)[j]? = some u → wr.cell? (ad.add j) = some u := fun j u hj => by
     have hlt := (List.getElem?_eq_some_iff.1 hj).1
     rw [hpl] at hlt
     obtain ⟨b',off',e,hb1,hc1⟩ := hpc (by omega)
     simp only [Option.some.injEq] at e
     subst e
     rw [addr_add]
     exact hc1 j u hj
    have HNEW := Lib.hid hnew
    have HP1 := Lib.hid hp1
    have HPL := Lib.hid hpl
    clear hnew hpc hp1 hpn hpl
    go_wp2_with (at_builtin; refine wpList_append_own_at _ rfl _ _ 27 rfl w.heap.size 5 i0 _ 1 1 Tryz.underlying27 hi hz0 hz1 hz2 rfl (by decide) _ _ _ rfl hown ad pn pc (bcells pl) rfl HPL.out HNEW.out HP1.out (by unfold maxLen; omega) (by omega) hB.size ?_)
    intro v' w2 hown' hg _ _
    have hB2 := hB.grown hg hB.size (fun q hq => (hown.lt q hq).1)
    have HR2 := Lib.hid (HR.out _ _ hown' hB2)
    clear hown hown' hg hB hB2
    go_wp2
    refine ⟨HR2.out,?_⟩
    simp [intOf]
    omega
  ·have g1 : decide (k < n) = false := by simpa using hlt
   obtain rfl : k = n := by omega
   go_wp2
   go_ret
   refine ⟨_,rfl,?_,hB⟩
   rw [← jn_all,HN.out]
   exact hown
theorem SR.grown {w w' : World} {v : Value} {n size : Nat} {cs : List Value} {row : Option Nat} (h : SR w v n size cs) (hg : w.grownBy w' row) (hne : n = 0 ∨ ∃ b,v.ownBlock = some b ∧ row ≠ some b) : SR w' v n size cs := by
 obtain ⟨h1,h2,h3,ao,cap,rfl,hn,h4⟩ := h
 refine ⟨h1,h2,h3,ao,cap,rfl,hn,fun h0 => ?_⟩
 obtain ⟨b,off,rfl,hlt,hc⟩ := h4 h0
 rcases hne with h | ⟨b',hb',hne⟩
 ·omega
 ·simp [Value.ownBlock] at hb'
  subst hb'
  exact ⟨b,off,rfl,Nat.lt_of_lt_of_le hlt hg.size,fun j u hj => (World.cell?_of_block (a := ⟨b,off + j,none⟩) (hg.block b hlt (fun e => hne e.symm))).trans (hc j u hj)⟩
theorem BytesAt.nil_or {w : World} {v : Value} {bs : List Nat} (h : BytesAt w v bs) : bs = [] ∨ ∃ b,v.ownBlock = some b ∧ b < w.heap.size := by
 obtain ⟨⟨h1,h2,h3,ao,cap,rfl,hn,h4⟩,_⟩ := h
 by_cases h0 : bs = []
 ·exact .inl h0
 ·obtain ⟨b',off,rfl,hlt,hc⟩ := h4 (List.length_pos_iff.2 h0)
  exact .inr ⟨b',by simp [Value.ownBlock],hlt⟩
theorem alloc_named {W X : World} {o : Obj} (h : W.alloc o = X) : X.heap[W.heap.size]? = some o ∧ Below W.heap.size W X ∧ X.heap.size = W.heap.size + 1 := by
 subst h
 exact ⟨heap_alloc_new W o,(Below.refl _ _).alloc (Nat.le_refl _) _,by simp⟩
theorem set1 (W : World) (p : Addr) (u : Value) : W.grownBy (W.setCell p u) (some p.block) :=
 ⟨rfl,rfl,rfl,by simp [World.setCell],fun k _ hne => heap_setCell_other _ _ _ _ (fun e => hne (by rw [e]))⟩
theorem Cells.grown {W X : World} {i : Nat} (hg : W.grownBy X (some i)) : ∀ {l : List (Nat × Nat × Value)},Cells W l → (∀ x ∈ l,x.1 ≠ i) → Cells X l
 |[],_,_ => trivial
 |(b,o,v) :: l,h,hne => ⟨(World.cell?_of_block (a := ⟨b,o,none⟩) (hg.block b (World.block_lt_of_cell? W _ h.1) (fun e => hne (b,o,v) (by simp) (by simpa using e)))).trans h.1,Cells.grown hg h.2 (fun x hx => hne x (by simp [hx]))⟩
theorem BytesAt.grown {w w' : World} {v : Value} {bs : List Nat} {i : Nat} (h : BytesAt w v bs) (hg : w.grownBy w' (some i)) (hne : v.ownBlock ≠ some i) : BytesAt w' v bs := by
 refine ⟨h.1.grown hg ?_,h.2⟩
 rcases h.nil_or with e | ⟨b,e1,_⟩
 ·exact .inl (by rw [e]; rfl)
 ·exact .inr ⟨b,e1,fun e => hne (by rw [e1]; exact e.symm)⟩
/-- one element -/
theorem sr_one {w : World} {i : Nat} {t : TypeId} {x : Value} (h : w.heap[i]? = some (.cells #[x] t (0,0))) (hx : x.oneCell' = true) : SR w (.slice (some ⟨i,0,none⟩) 1 1) 1 1 [x] :=
 ⟨by unfold maxLen; simp,rfl,by simpa using hx,some ⟨i,0,none⟩,1,rfl,fun h => (by cases h),fun _ => ⟨i,0,rfl,(Array.getElem?_eq_some_iff.1 h).1,fun j u hj => by
  match j,hj with
  |0,hj =>
   simp at hj
   subst hj
   exact cell_of_row _ _ 0 _ _ _ h⟩⟩
theorem ownsMap_below {H : Type} {P : Program} {k : TypeId} {R : Value → Option (DataW H × List MemPlace)} {w w' : World} {b n : Nat} {D : DataW H} (h : w.ownsMap P k R b n D) (hB : Below w.heap.size w w') : w'.ownsMap P k R b n D := by
 have hlt := h.lt
 obtain ⟨es,clock,hb,F,hs,hD⟩ := h
 exact ⟨es,clock,(hB.block b hlt).trans hb,F,hs,hD⟩
theorem Cells.grownO {W X : World} {r : Option Nat} (hg : W.grownBy X r) : ∀ {l : List (Nat × Nat × Value)},Cells W l → (∀ x ∈ l,r ≠ some x.1) → Cells X l
 |[],_,_ => trivial
 |(b,o,v) :: l,h,hne => ⟨(World.cell?_of_block (a := ⟨b,o,none⟩) (hg.block b (World.block_lt_of_cell? W _ h.1) (fun e => hne (b,o,v) (by simp) e.symm))).trans h.1,Cells.grownO hg h.2 (fun x hx => hne x (by simp [hx]))⟩
theorem step_append_own {P : Program} {w : World} {ops : Array Oper} {o : Oper} {a : Act} {K : Act → World → Prop} {Q : Exit → Act → World → Prop} {E : Prop} (hgd : o.guard = none) (s x : Operand) (t : TypeId)
 (ho : o.op = .call { callee := .builtin .append,args := #[s,x],argTypes := #[t,t] })
 (base : Nat) (e : TypeId) (i : TypeInfo) (z : Value) (size bytes : Nat) (ht : P.underlying t = some (.slice e)) (hi : P.info? e = some i) (hz : i.zero = some z)
 (hsize : i.size = size) (hby : i.bytes = bytes) (hzs : z.cells.size = size) (hsz : 0 < size)
 (v : Value) (n : Nat) (xs : List Value) (hs : a.eval s = v) (hown : w.ownsRow base e size v n xs)
 (ad : Addr) (m c : Nat) (news : List Value) (hx : a.eval x = .slice (some ad) m c) (hl : news.length = m * size) (hnews : ∀ j u,news[j]? = some u → w.cell? (ad.add j) = some u) (h1 : ∀ u ∈ news,u.oneCell' = true)
 (h63 : n + m ≤ maxLen) (hbytes : (n + m) * bytes ≤ 140737488355328) (hbase : base ≤ w.heap.size)
 (h : ∀ v' w',w'.ownsRow base e size v' (n + m) (xs ++ news) → w.grownBy w' v.ownBlock → (v'.ownBlock = v.ownBlock ∨ v'.ownBlock = some w.heap.size) → K (a.put o.dst v') w') :
 if Region.wanted o (yielded ops a.tmps) = true then Oper.wp P o a w K Q else E := by
 have hw : Region.wanted o (yielded ops a.tmps) = true := by simp [Region.wanted,hgd]
 rw [if_pos hw]
 obtain ⟨v',w',hr,h2,h3,_,h5⟩ := run_append_own_at (P := P) w base t o.type e i z size bytes ht hi hz hsize hby hzs hsz v n xs hown ad m c news hl hnews h1 h63 hbytes hbase
 unfold Oper.wp execOp
 simp only [ho,resolve,invoke,builtin,Sem.run_bind,Sem.run_pure,Result.andThen_ok,List.map_toArray,List.map_cons,List.map_nil,hs,hx,hr]
 exact h v' w' h2 h3 h5
theorem Cells.setCell {W : World} {p : Addr} (u : Value) : ∀ {l : List (Nat × Nat × Value)},Cells W l → (∀ x ∈ l,x.1 ≠ p.block) → Cells (W.setCell p u) l
 |[],_,_ => trivial
 |(b,o,v) :: l,h,hne => ⟨(World.cell?_of_block (a := ⟨b,o,none⟩) (heap_setCell_other W p b u (fun e => hne (b,o,v) (by simp) e))).trans h.1,Cells.setCell u h.2 (fun x hx => hne x (by simp [hx]))⟩
/-- what was found -/
structure Fd where
 ha : Int
 la : Int
 va : Int
 pr : Int
 hi : Int
 lo : Int
instance : Inhabited Fd := ⟨⟨0,0,0,0,0,0⟩⟩
def fenc (x : Fd) : List Value := [.int .u16 x.ha,.int .u16 x.la,.int .u16 x.va,.int .i64 x.pr,.int .u64 x.hi,.int .u64 x.lo]
def fcells (l : List Fd) : List Value := l.flatMap fenc
theorem fcells_len (l : List Fd) : (fcells l).length = l.length * 6 := by
 induction l with
 |nil => rfl
 |cons x l ih =>
  unfold fcells at ih ⊢
  rw [List.flatMap_cons,List.length_append,ih]
  simp [fenc]
  omega
theorem fcells_one (l : List Fd) : ∀ u ∈ fcells l,u.oneCell' = true := fun u hu => by
 obtain ⟨x,_,hx⟩ := List.mem_flatMap.1 hu
 simp [fenc] at hx
 rcases hx with rfl | rfl | rfl | rfl | rfl | rfl <;> rfl
/-- a list of what was found that is read -/
def FdV (w : World) (v : Value) (l : List Fd) : Prop := SR w v l.length 6 (fcells l)
theorem FdV.below {w w' : World} {v : Value} {l : List Fd} (h : FdV w v l) (hb : Below w.heap.size w w') : FdV w' v l := SR.below h hb
theorem FdV.nil (w : World) : FdV w (.slice none 0 0) [] := ⟨Nat.zero_le _,by simp [fcells],by simp [fcells],none,0,rfl,fun _ => ⟨rfl,rfl⟩,fun h => absurd h (by simp)⟩
/-- bytes that are read, in a slice with room for them -/
def BV (w : World) (v : Value) (bs : List Nat) : Prop := ∃ a c,v = .slice a bs.length c ∧ bs.length ≤ c ∧ BytesAt w (.slice a bs.length c) bs
theorem BV.below {w w' : World} {v : Value} {bs : List Nat} (h : BV w v bs) (hb : Below w.heap.size w w') : BV w' v bs := by
 obtain ⟨a,c,e,hc,hby⟩ := h
 exact ⟨a,c,e,hc,hby.below hb⟩
theorem BV.grown {w w' : World} {v : Value} {bs : List Nat} {i : Nat} (h : BV w v bs) (hg : w.grownBy w' (some i)) (hne : v.ownBlock ≠ some i) : BV w' v bs := by
 obtain ⟨a,c,rfl,hc,hby⟩ := h
 exact ⟨a,c,rfl,hc,hby.grown hg hne⟩
theorem BV.nil (w : World) : BV w (.slice none 0 0) [] := ⟨none,0,rfl,Nat.le_refl _,⟨Nat.zero_le _,rfl,by simp [bcells],none,0,rfl,fun _ => ⟨rfl,rfl⟩,fun h => absurd h (by simp)⟩,Nat.zero_le _,by simp⟩
theorem bv_of_own {w : World} {base : Nat} {v : Value} {bs : List Nat} (h : w.ownsRow base 5 1 v bs.length (bcells bs)) (hb : ∀ x ∈ bs,x < 256) (hm : bs.length ≤ 140737488351232) : BV w v bs := by
 have hs : SR w v bs.length 1 (bcells bs) := SR.of_own h (bcells_one bs) (by unfold maxLen; omega)
 rcases h.2 with ⟨rfl,e⟩ | ⟨g,cap,cur,rfl,_,_,hc,_⟩
 ·have : bs = [] := List.eq_nil_of_length_eq_zero e
  subst this
  exact BV.nil w
 ·exact ⟨_,_,rfl,hc,hs,by unfold reachBytes; omega,hb⟩
/-- Join of one slice: bytes of the call's own -/
theorem join_one (i : Nat) (x : Value) (bs : List Nat) (w : World) (t : TypeId) (hx : w.heap[i]? = some (.cells #[x] t (0,0))) (h : BV w x bs) (hm : bs.length ≤ 1000000) :
 Calls Tryz.prog 34 #[.slice (some ⟨i,0,none⟩) 1 1] w fun e w' => ∃ v,e = .returned v ∧ BV w' v bs ∧ Own w.heap.size v ∧ Below w.heap.size w w' := by
 obtain ⟨a,c,rfl,hc,hby⟩ := h
 refine (join_any _ [(.slice a bs.length c,bs)] w (sr_one hx rfl) (by simpa using hby) (by simpa using (by omega : bs.length ≤ 1099511627776)) (by simp)).mono ?_
 rintro e w' ⟨v',rfl,hown,hB⟩
 simp only [List.flatMap_cons,List.flatMap_nil,List.append_nil] at hown
 exact ⟨_,rfl,bv_of_own hown hby.2.2 (by omega),fun k hk => (hown.lt k hk).1,hB⟩
end Go.Proofs.YtldcihjddebciaaGreat
