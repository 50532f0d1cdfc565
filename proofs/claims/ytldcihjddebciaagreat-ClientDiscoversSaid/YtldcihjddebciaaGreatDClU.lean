/- client: desc, char. -/
import Derived.Test.YtldcihjddebciaaGreatDClT
import Derived.Laws.ResultCell
set_option linter.unusedSimpArgs false
set_option linter.unusedVariables false
set_option maxRecDepth 100000
set_option maxHeartbeats 4000000
namespace Go.Proofs.YtldcihjddebciaaGreat
open Go.RowKit
def descF (i : Im) : Fd := ⟨i.ha,0,0,0,i.hi,i.lo⟩
def charF (i : Im) : Option Fd := match i.bs with
 |x0 :: x1 :: x2 :: r => if ¬ x2 * 256 + x1 = 0 ∧ (decR r).2.2 = 0 then some ⟨i.ha,0,(x2 * 256 + x1 : Nat),x0,(decR r).1,(decR r).2.1⟩ else none
 |_ => none
theorem desc_any (i : Im) (bv : Value) (w : World) (hb : BV w bv i.bs) : Calls Tryz.prog 86 #[.agg #[.int .u16 i.ha,.int .u16 i.la,.int .u64 i.hi,.int .u64 i.lo,bv]] w fun e w' => e = .returned (.tuple #[.agg (fenc (descF i)).toArray,.bool true]) ∧ Below w.heap.size w w' := by
 obtain ⟨a,c,rfl⟩ := hb.form
 obtain ⟨L,hL⟩ : ∃ L,i.bs.length = L := ⟨_,rfl⟩
 rw [hL]
 clear hb hL
 have bF := Blk.new (w.alloc (.cells #[.int .u16 i.ha,.int .u16 i.la,.int .u64 i.hi,.int .u64 i.lo,.slice a L c] 142)) 39 [.int .u16 i.ha,.int .u16 0,.int .u16 0,.int .i64 0,.int .u64 i.hi,.int .u64 i.lo]
 have hz0 : (w.alloc (.cells #[.int .u16 i.ha,.int .u16 i.la,.int .u64 i.hi,.int .u64 i.lo,.slice a L c] 142)).heap.size = w.heap.size + 1 := by simp
 rw [hz0] at bF
 go_enter Tryz.func86,Tryz.ntmps86
 go_wp2
 have hl := run_loadVar_row (P := Tryz.prog) _ (w.heap.size + 1) 39 39 _ (0,0) _ bF Tryz.underlying39 rfl (by kernel_rfl)
 exact bodyPost_ret (v := .tuple #[.agg #[.int .u16 i.ha,.int .u16 0,.int .u16 0,.int .i64 0,.int .u64 i.hi,.int .u64 i.lo],.bool true]) (by rw [results_cell_tmp rfl]; simp [asAddr,hl]) rfl ⟨rfl,((Below.refl _ _).alloc (Nat.le_refl _) _).alloc (by simp) _⟩
theorem char_any (i : Im) (bv : Value) (w : World) (hb : BV w bv i.bs) (hm : i.bs.length ≤ 1000000) : Calls Tryz.prog 85 #[.agg #[.int .u16 i.ha,.int .u16 i.la,.int .u64 i.hi,.int .u64 i.lo,bv]] w fun e w' => ∃ f ok,e = .returned (.tuple #[.agg (fenc f).toArray,.bool ok]) ∧ (if ok then charF i = some f else charF i = none) ∧ Below w.heap.size w w' := by
 obtain ⟨L,hL⟩ : ∃ L,i.bs.length = L := ⟨_,rfl⟩
 by_cases h3 : L < 3
 ·have g3 : decide (L < 3) = true := by simpa using h3
  have g4 : decide ((L : Int) < 3) = true := by simp; omega
  have hc : charF i = none := by
   unfold charF
   match hbs : i.bs with
   |[] => rfl
   |[_] => rfl
   |[_,_] => rfl
   |x0 :: x1 :: x2 :: r => rw [hbs] at hL; simp at hL; omega
  obtain ⟨a,c,rfl⟩ := hb.form
  rw [hL]
  have HC := Lib.hid hc
  clear hb hL hc hm
  have bF := Blk.new (w.alloc (.cells #[.int .u16 i.ha,.int .u16 i.la,.int .u64 i.hi,.int .u64 i.lo,.slice a L c] 142)) 39 [.int .u16 0,.int .u16 0,.int .u16 0,.int .i64 0,.int .u64 0,.int .u64 0]
  have hz0 : (w.alloc (.cells #[.int .u16 i.ha,.int .u16 i.la,.int .u64 i.hi,.int .u64 i.lo,.slice a L c] 142)).heap.size = w.heap.size + 1 := by simp
  rw [hz0] at bF
  go_enter Tryz.func85,Tryz.ntmps85
  go_wp2
  have hl := run_loadVar_row (P := Tryz.prog) _ (w.heap.size + 1) 39 39 _ (0,0) _ bF Tryz.underlying39 rfl (by kernel_rfl)
  exact bodyPost_ret (v := .tuple #[.agg #[.int .u16 0,.int .u16 0,.int .u16 0,.int .i64 0,.int .u64 0,.int .u64 0],.bool false]) (by rw [results_cell_tmp rfl]; simp [asAddr,hl]) rfl ⟨⟨0,0,0,0,0,0⟩,false,rfl,HC.out,((Below.refl _ _).alloc (Nat.le_refl _) _).alloc (by simp) _⟩
 ·obtain ⟨x0,x1,x2,r,hbs⟩ : ∃ x0 x1 x2 r,i.bs = x0 :: x1 :: x2 :: r := by
   match hbs : i.bs with
   |[] => rw [hbs] at hL; simp at hL; omega
   |[_] => rw [hbs] at hL; simp at hL; omega
   |[_,_] => rw [hbs] at hL; simp at hL; omega
   |x0 :: x1 :: x2 :: r => exact ⟨x0,x1,x2,r,rfl⟩
  have hch : charF i = if ¬ x2 * 256 + x1 = 0 ∧ (decR r).2.2 = 0 then some ⟨i.ha,0,(x2 * 256 + x1 : Nat),x0,(decR r).1,(decR r).2.1⟩ else none := by
   unfold charF
   rw [hbs]
  obtain ⟨a,c,rfl⟩ := hb.form
  rw [hL] at hb ⊢
  obtain ⟨a3,c3,hb3,hrun⟩ := bv_from hb hL (show 3 ≤ L by omega)
  rw [hbs] at hb3
  simp only [List.drop_succ_cons,List.drop_zero] at hb3
  obtain ⟨R,hR⟩ : ∃ R,L - 3 = R := ⟨_,rfl⟩
  simp only [hR] at hb3 hrun
  have hrun' : ∀ W,(Instr.slice 27 (.slice a L c) (some (.int .i64 3)) none none).run Tryz.prog W = .ok (.slice a3 R c3) W := hrun
  have hat := hb.at
  obtain ⟨⟨_,_,_,ao,cap,e,_,hcell⟩,_,hlt⟩ := hat
  obtain ⟨rfl,hLe,rfl⟩ : a = ao ∧ L = i.bs.length ∧ c = cap := by
   injection e with e1 e2 e3
   exact ⟨e1,e2,e3⟩
  obtain ⟨b,off,rfl,hbl,hcs⟩ := hcell (by rw [hbs]; simp)
  rw [hbs] at hcs hlt
  have k0 := hcs 0 (.int .u8 (x0 : Int)) rfl
  have k1 := hcs 1 (.int .u8 (x1 : Int)) rfl
  have k2 := hcs 2 (.int .u8 (x2 : Int)) rfl
  simp only [Nat.add_zero] at k0
  have y0 : x0 < 256 := hlt x0 (by simp)
  have y1 : x1 < 256 := hlt x1 (by simp)
  have y2 : x2 < 256 := hlt x2 (by simp)
  have ho := or16 x1 x2 y1 y2
  obtain ⟨V,hV⟩ : ∃ V,x2 * 256 + x1 = V := ⟨_,rfl⟩
  rw [hV] at ho hch
  have z0 : (0 : Int) ≤ (x0 : Int) := by omega
  have z1 : (0 : Int) ≤ (x1 : Int) := by omega
  have z2 : (0 : Int) ≤ (x2 : Int) := by omega
  have q0 : (x0 : Int) < 256 := by omega
  have q1 : (x1 : Int) < 256 := by omega
  have q2 : (x2 : Int) < 256 := by omega
  have u0 : IntKind.i64.wrap (x0 : Int) = (x0 : Int) := IntWalk.i64_in _ (by omega)
  have u1 : IntKind.u16.wrap (x1 : Int) = (x1 : Int) := IntWalk.u16_in _ (by omega)
  have u2 : IntKind.u16.wrap (x2 : Int) = (x2 : Int) := IntWalk.u16_in _ (by omega)
  have u3 : IntKind.u16.wrap ((x2 : Int) * 256) = (x2 : Int) * 256 := IntWalk.u16_in _ (by omega)
  have i0 : (0 : Int) < (L : Int) := by omega
  have i1 : (1 : Int) < (L : Int) := by omega
  have i2 : (2 : Int) < (L : Int) := by omega
  have i3 : (3 : Int) ≤ (L : Int) := by omega
  have hrl : r.length ≤ 1099511627776 := by rw [hbs] at hm; simp at hm; omega
  have g3 : decide (L < 3) = false := by simpa using h3
  have g4 : decide ((L : Int) < 3) = false := by simp; omega
  have HDEC := Lib.hid (fun W (hW : Below w.heap.size w W) => decode_any _ r W (hb3.below hW).at hrl)
  obtain ⟨D1,hD1⟩ : ∃ x,(decR r).1 = x := ⟨_,rfl⟩
  obtain ⟨D2,hD2⟩ : ∃ x,(decR r).2.1 = x := ⟨_,rfl⟩
  obtain ⟨D3,hD3⟩ : ∃ x,(decR r).2.2 = x := ⟨_,rfl⟩
  simp only [hD1,hD2,hD3] at HDEC hch
  have HCH := Lib.hid hch
  have HO := Lib.hid ho
  have hW0 : Below w.heap.size w ((w.alloc (.cells #[.int .u16 i.ha,.int .u16 i.la,.int .u64 i.hi,.int .u64 i.lo,.slice (some ⟨b,off,none⟩) L c] 142)).alloc (.cells #[.int .u16 0,.int .u16 0,.int .u16 0,.int .i64 0,.int .u64 0,.int .u64 0] 39)) := ((Below.refl _ _).alloc (Nat.le_refl _) _).alloc (by simp) _
  have bI := (Blk.new w 142 [.int .u16 i.ha,.int .u16 i.la,.int .u64 i.hi,.int .u64 i.lo,.slice (some ⟨b,off,none⟩) L c]).alloc (.cells #[.int .u16 0,.int .u16 0,.int .u16 0,.int .i64 0,.int .u64 0,.int .u64 0] 39)
  have bF := Blk.new (w.alloc (.cells #[.int .u16 i.ha,.int .u16 i.la,.int .u64 i.hi,.int .u64 i.lo,.slice (some ⟨b,off,none⟩) L c] 142)) 39 [.int .u16 0,.int .u16 0,.int .u16 0,.int .i64 0,.int .u64 0,.int .u64 0]
  have hz0 : (w.alloc (.cells #[.int .u16 i.ha,.int .u16 i.la,.int .u64 i.hi,.int .u64 i.lo,.slice (some ⟨b,off,none⟩) L c] 142)).heap.size = w.heap.size + 1 := by simp
  rw [hz0] at bF
  have HBL := Lib.hid (And.intro hbl (And.intro (Nat.le_refl w.heap.size) (show True from trivial)))
  have HK0 := Lib.hid k0
  have HK1 := Lib.hid k1
  have HK2 := Lib.hid k2
  clear hb hL hm hch ho hcs hcell hlt hbs hV hb3 hD1 hD2 hD3 k0 k1 k2 hrl hz0 hLe hR e hrun
  go_enter Tryz.func85,Tryz.ntmps85
  go_upto_region 3 with fail
  generalize hX : World.alloc (World.alloc w _) _ = V0 at hW0 bI bF ⊢
  clear hX
  have TA : Cells V0 [(w.heap.size,4,.slice (some ⟨b,off,none⟩) L c),(b,off + 1,.int .u8 (x1 : Int)),(b,off + 2,.int .u8 (x2 : Int))] := ⟨bI.cell (j := 4) rfl,kc HK1.out hW0,kc HK2.out hW0,trivial⟩
  have TB := TA.drew
  have ho := HO.out
  have hWd := hW0.drew
  have bId := bI.drew
  have bFd := bF.drew
  clear TA bI bF hW0
  refine wp_region_held_drew (S := (fun W' : World => Cells W' [(w.heap.size,4,.slice (some ⟨b,off,none⟩) L c),(b,off + 1,.int .u8 (x1 : Int)),(b,off + 2,.int .u8 (x2 : Int))])) (by kernel_rfl) (TB) (fun hHeld => ?_)
  generalize World.drew _ = wd at hHeld TB hWd bId bFd ⊢
  refine tkU 0 ?_
  refine tkU 1 ?_
  refine tkU 2 ?_
  refine tkU 3 ?_
  refine tkU 4 ?_
  refine tkU 5 ?_
  refine tkU 6 ?_
  refine tkU 7 ?_
  refine tkU 8 ?_
  refine tkU 9 ?_
  refine tkU 10 ?_
  refine tkU 11 ?_
  refine tkU 12 ?_
  refine wpAnyH_done (by kernel_rfl) ?_ _
  clear ho z1 z2 q1 q2 u1 u2 u3 hHeld
  have m4 := bId.cell (j := 4) (v := .slice (some ⟨b,off,none⟩) L c) rfl
  go_wp2_with fail
  refine (HDEC.out _ hWd).mono ?_
  rintro e w1 ⟨rfl,hB1⟩
  have bI1 := bId.below hB1
  have bF1 := bFd.below hB1
  have hW1 := hWd.trans (hB1.mono hWd.size)
  clear m4 hrun' TB hB1 hWd bId bFd
  go_upto_region 5 with fail
  generalize hX : World.alloc w1 _ = w2
  obtain ⟨hnb,hB2,hz2⟩ := alloc_named hX
  have bU : Blk w2 w1.heap.size 26 [.int .u64 D1,.int .u64 D2] := hnb
  have bI2 := bI1.below hB2
  have bF2 := bF1.below hB2
  have hW2 := hW1.trans (hB2.mono hW1.size)
  have hne1 : w1.heap.size ≠ w.heap.size + 1 := by have := bF1.lt; omega
  have m0 := bI2.cell (j := 0) (v := .int .u16 i.ha) rfl
  have m4 := bI2.cell (j := 4) (v := .slice (some ⟨b,off,none⟩) L c) rfl
  have d0 := bU.cell (j := 0) (v := .int .u64 D1) rfl
  have d1 := bU.cell (j := 1) (v := .int .u64 D2) rfl
  have k0 := kc HK0.out hW2
  clear hX hnb hz2 hB2 bI1 bF1 hW1 bU
  have hne2 : w1.heap.size ≠ w.heap.size + 1 := hne1
  have HBF := Lib.hid bF2
  have HBW := Lib.hid hW2
  clear bI2 bF2 hW2
  by_cases eV : V = 0
  ·have tV : ((V : Int) != 0) = false := by simp [eV]
   have EV := Lib.hid eV
   clear eV
   have TE : Cells w2.drew [(w.heap.size,0,.int .u16 i.ha),(w.heap.size,4,.slice (some ⟨b,off,none⟩) L c),(b,off,.int .u8 (x0 : Int)),(w1.heap.size,0,.int .u64 D1),(w1.heap.size,1,.int .u64 D2)] := ⟨m0,m4,k0,d0,d1,trivial⟩
   have bF3 := HBF.out.drew
   have hW3 := HBW.out.drew
   clear m0 m4 d0 d1 k0
   have iL : 0 < L := by omega
   refine wp_region_held_drew (S := (fun W' : World => Cells W' [(w.heap.size,0,.int .u16 i.ha),(w.heap.size,4,.slice (some ⟨b,off,none⟩) L c),(b,off,.int .u8 (x0 : Int)),(w1.heap.size,0,.int .u64 D1),(w1.heap.size,1,.int .u64 D2)])) (by kernel_rfl) (TE) (fun hHeld => ?_)
   generalize World.drew _ = wd at hHeld TE bF3 hW3 ⊢
   refine tkU 0 ?_
   refine tkU 1 ?_
   refine tkU 2 ?_
   refine tkU 3 ?_
   refine tkU 4 ?_
   refine tkU 5 ?_
   refine tkU 6 ?_
   refine tkU 7 ?_
   refine tkU 8 ?_
   refine tkU 9 ?_
   refine tkU 10 ?_
   refine tkU 11 ?_
   refine tkU 12 ?_
   refine tkV 13 ?_
   refine tkV 14 ?_
   refine tkU 15 ?_
   refine rd1 16 fun K hK => ?_
   refine step_store_mid (by rfl) 39 _ _ (by rfl) (w.heap.size + 1) 0 #[.int .u16 i.ha,.int .u16 0,.int .u16 V,.int .i64 x0,.int .u64 D1,.int .u64 D2] (by rfl) (by rfl) (bF3.there 0 6 (by simp)) (by kernel_rfl) (by simp [Value.oneCell']) ?_
   generalize hX : World.setCells wd (w.heap.size + 1) 0 _ = w4
   have bF4 : Blk w4 (w.heap.size + 1) 39 [.int .u16 i.ha,.int .u16 0,.int .u16 V,.int .i64 x0,.int .u64 D1,.int .u64 D2] := by
    have h := bF3.setCells (vs := [.int .u16 i.ha,.int .u16 0,.int .u16 V,.int .i64 x0,.int .u64 D1,.int .u64 D2]) (o := 0)
    simp only [over,List.set_cons_zero,List.set_cons_succ,Nat.reduceAdd,Nat.zero_add] at h
    rw [← hX]
    exact h
   have hg4 : wd.grownBy w4 (some (w.heap.size + 1)) := hX ▸ setCells_grown (w.heap.size + 1) [.int .u16 i.ha,.int .u16 0,.int .u16 V,.int .i64 x0,.int .u64 D1,.int .u64 D2] 0 wd
   have hW4 := hW3.grown hg4 hW3.size (fun k hk => by cases hk; omega)
   have TE4 : Cells w4 [(w.heap.size,0,.int .u16 i.ha),(w.heap.size,4,.slice (some ⟨b,off,none⟩) L c),(b,off,.int .u8 (x0 : Int)),(w1.heap.size,0,.int .u64 D1),(w1.heap.size,1,.int .u64 D2)] := TE.grown hg4 (by simp; have := HBL.out; omega)
   clear hX
   clear hHeld
   refine hK.out _ _ (TE4) (fun hHeld => ?_)
   clear hK K
   try simp only [Act.put,List.setIfInBounds_toArray,List.set_cons_zero,List.set_cons_succ]
   refine tkU 17 ?_
   refine wpAnyH_done (by kernel_rfl) ?_ _
   go_wp2_with fail
   have hl := run_loadVar_row (P := Tryz.prog) _ (w.heap.size + 1) 39 39 _ (0,0) _ bF4 Tryz.underlying39 rfl (by kernel_rfl)
   exact bodyPost_ret (v := .tuple #[.agg #[.int .u16 i.ha,.int .u16 0,.int .u16 V,.int .i64 x0,.int .u64 D1,.int .u64 D2],.bool false]) (by rw [results_cell_tmp rfl]; simp [asAddr,hl]) rfl ⟨⟨i.ha,0,V,x0,D1,D2⟩,false,rfl,by show charF i = none; rw [HCH.out,if_neg (fun hc => hc.1 EV.out)],hW4⟩
  ·have tV : ((V : Int) != 0) = true := by simp; omega
   have EV := Lib.hid eV
   clear eV
   by_cases eD : D3 = 0
   ·have tD : (D3 == 0) = true := by simp [eD]
    have ED := Lib.hid eD
    clear eD
    have TE : Cells w2.drew [(w.heap.size,0,.int .u16 i.ha),(w.heap.size,4,.slice (some ⟨b,off,none⟩) L c),(b,off,.int .u8 (x0 : Int)),(w1.heap.size,0,.int .u64 D1),(w1.heap.size,1,.int .u64 D2)] := ⟨m0,m4,k0,d0,d1,trivial⟩
    have bF3 := HBF.out.drew
    have hW3 := HBW.out.drew
    clear m0 m4 d0 d1 k0
    have iL : 0 < L := by omega
    refine wp_region_held_drew (S := (fun W' : World => Cells W' [(w.heap.size,0,.int .u16 i.ha),(w.heap.size,4,.slice (some ⟨b,off,none⟩) L c),(b,off,.int .u8 (x0 : Int)),(w1.heap.size,0,.int .u64 D1),(w1.heap.size,1,.int .u64 D2)])) (by kernel_rfl) (TE) (fun hHeld => ?_)
    generalize World.drew _ = wd at hHeld TE bF3 hW3 ⊢
    refine tkU 0 ?_
    refine tkU 1 ?_
    refine tkU 2 ?_
    refine tkU 3 ?_
    refine tkU 4 ?_
    refine tkU 5 ?_
    refine tkU 6 ?_
    refine tkU 7 ?_
    refine tkU 8 ?_
    refine tkU 9 ?_
    refine tkU 10 ?_
    refine tkU 11 ?_
    refine tkU 12 ?_
    refine tkU 13 ?_
    refine tkU 14 ?_
    refine tkU 15 ?_
    refine rd1 16 fun K hK => ?_
    refine step_store_mid (by rfl) 39 _ _ (by rfl) (w.heap.size + 1) 0 #[.int .u16 i.ha,.int .u16 0,.int .u16 V,.int .i64 x0,.int .u64 D1,.int .u64 D2] (by rfl) (by rfl) (bF3.there 0 6 (by simp)) (by kernel_rfl) (by simp [Value.oneCell']) ?_
    generalize hX : World.setCells wd (w.heap.size + 1) 0 _ = w4
    have bF4 : Blk w4 (w.heap.size + 1) 39 [.int .u16 i.ha,.int .u16 0,.int .u16 V,.int .i64 x0,.int .u64 D1,.int .u64 D2] := by
     have h := bF3.setCells (vs := [.int .u16 i.ha,.int .u16 0,.int .u16 V,.int .i64 x0,.int .u64 D1,.int .u64 D2]) (o := 0)
     simp only [over,List.set_cons_zero,List.set_cons_succ,Nat.reduceAdd,Nat.zero_add] at h
     rw [← hX]
     exact h
    have hg4 : wd.grownBy w4 (some (w.heap.size + 1)) := hX ▸ setCells_grown (w.heap.size + 1) [.int .u16 i.ha,.int .u16 0,.int .u16 V,.int .i64 x0,.int .u64 D1,.int .u64 D2] 0 wd
    have hW4 := hW3.grown hg4 hW3.size (fun k hk => by cases hk; omega)
    have TE4 : Cells w4 [(w.heap.size,0,.int .u16 i.ha),(w.heap.size,4,.slice (some ⟨b,off,none⟩) L c),(b,off,.int .u8 (x0 : Int)),(w1.heap.size,0,.int .u64 D1),(w1.heap.size,1,.int .u64 D2)] := TE.grown hg4 (by simp; have := HBL.out; omega)
    clear hX
    clear hHeld
    refine hK.out _ _ (TE4) (fun hHeld => ?_)
    clear hK K
    try simp only [Act.put,List.setIfInBounds_toArray,List.set_cons_zero,List.set_cons_succ]
    refine tkU 17 ?_
    refine wpAnyH_done (by kernel_rfl) ?_ _
    go_wp2_with fail
    have hl := run_loadVar_row (P := Tryz.prog) _ (w.heap.size + 1) 39 39 _ (0,0) _ bF4 Tryz.underlying39 rfl (by kernel_rfl)
    exact bodyPost_ret (v := .tuple #[.agg #[.int .u16 i.ha,.int .u16 0,.int .u16 V,.int .i64 x0,.int .u64 D1,.int .u64 D2],.bool true]) (by rw [results_cell_tmp rfl]; simp [asAddr,hl]) rfl ⟨⟨i.ha,0,V,x0,D1,D2⟩,true,rfl,by show charF i = some _; rw [HCH.out,if_pos ⟨EV.out,ED.out⟩],hW4⟩
   ·have tD : (D3 == 0) = false := by simp [eD]
    have ED := Lib.hid eD
    clear eD
    have TE : Cells w2.drew [(w.heap.size,0,.int .u16 i.ha),(w.heap.size,4,.slice (some ⟨b,off,none⟩) L c),(b,off,.int .u8 (x0 : Int)),(w1.heap.size,0,.int .u64 D1),(w1.heap.size,1,.int .u64 D2)] := ⟨m0,m4,k0,d0,d1,trivial⟩
    have bF3 := HBF.out.drew
    have hW3 := HBW.out.drew
    clear m0 m4 d0 d1 k0
    have iL : 0 < L := by omega
    refine wp_region_held_drew (S := (fun W' : World => Cells W' [(w.heap.size,0,.int .u16 i.ha),(w.heap.size,4,.slice (some ⟨b,off,none⟩) L c),(b,off,.int .u8 (x0 : Int)),(w1.heap.size,0,.int .u64 D1),(w1.heap.size,1,.int .u64 D2)])) (by kernel_rfl) (TE) (fun hHeld => ?_)
    generalize World.drew _ = wd at hHeld TE bF3 hW3 ⊢
    refine tkU 0 ?_
    refine tkU 1 ?_
    refine tkU 2 ?_
    refine tkU 3 ?_
    refine tkU 4 ?_
    refine tkU 5 ?_
    refine tkU 6 ?_
    refine tkU 7 ?_
    refine tkU 8 ?_
    refine tkU 9 ?_
    refine tkU 10 ?_
    refine tkU 11 ?_
    refine tkU 12 ?_
    refine tkU 13 ?_
    refine tkU 14 ?_
    refine tkU 15 ?_
    refine rd1 16 fun K hK => ?_
    refine step_store_mid (by rfl) 39 _ _ (by rfl) (w.heap.size + 1) 0 #[.int .u16 i.ha,.int .u16 0,.int .u16 V,.int .i64 x0,.int .u64 D1,.int .u64 D2] (by rfl) (by rfl) (bF3.there 0 6 (by simp)) (by kernel_rfl) (by simp [Value.oneCell']) ?_
    generalize hX : World.setCells wd (w.heap.size + 1) 0 _ = w4
    have bF4 : Blk w4 (w.heap.size + 1) 39 [.int .u16 i.ha,.int .u16 0,.int .u16 V,.int .i64 x0,.int .u64 D1,.int .u64 D2] := by
     have h := bF3.setCells (vs := [.int .u16 i.ha,.int .u16 0,.int .u16 V,.int .i64 x0,.int .u64 D1,.int .u64 D2]) (o := 0)
     simp only [over,List.set_cons_zero,List.set_cons_succ,Nat.reduceAdd,Nat.zero_add] at h
     rw [← hX]
     exact h
    have hg4 : wd.grownBy w4 (some (w.heap.size + 1)) := hX ▸ setCells_grown (w.heap.size + 1) [.int .u16 i.ha,.int .u16 0,.int .u16 V,.int .i64 x0,.int .u64 D1,.int .u64 D2] 0 wd
    have hW4 := hW3.grown hg4 hW3.size (fun k hk => by cases hk; omega)
    have TE4 : Cells w4 [(w.heap.size,0,.int .u16 i.ha),(w.heap.size,4,.slice (some ⟨b,off,none⟩) L c),(b,off,.int .u8 (x0 : Int)),(w1.heap.size,0,.int .u64 D1),(w1.heap.size,1,.int .u64 D2)] := TE.grown hg4 (by simp; have := HBL.out; omega)
    clear hX
    clear hHeld
    refine hK.out _ _ (TE4) (fun hHeld => ?_)
    clear hK K
    try simp only [Act.put,List.setIfInBounds_toArray,List.set_cons_zero,List.set_cons_succ]
    refine tkU 17 ?_
    refine wpAnyH_done (by kernel_rfl) ?_ _
    go_wp2_with fail
    have hl := run_loadVar_row (P := Tryz.prog) _ (w.heap.size + 1) 39 39 _ (0,0) _ bF4 Tryz.underlying39 rfl (by kernel_rfl)
    exact bodyPost_ret (v := .tuple #[.agg #[.int .u16 i.ha,.int .u16 0,.int .u16 V,.int .i64 x0,.int .u64 D1,.int .u64 D2],.bool false]) (by rw [results_cell_tmp rfl]; simp [asAddr,hl]) rfl ⟨⟨i.ha,0,V,x0,D1,D2⟩,false,rfl,by show charF i = none; rw [HCH.out,if_neg (fun hc => ED.out hc.2)],hW4⟩
end Go.Proofs.YtldcihjddebciaaGreat
