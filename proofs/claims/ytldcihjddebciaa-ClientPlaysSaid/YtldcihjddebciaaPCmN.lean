/- client's reference: check. -/
import Derived.Test.YtldcihjddebciaaPCmE
import Derived.Test.YtldcihjddebciaaPClZ
set_option linter.unusedSimpArgs false
set_option linter.unusedVariables false
set_option maxRecDepth 100000
set_option maxHeartbeats 4000000
namespace Go.Proofs.Ytldcihjddebciaa
open Go.RowKit
theorem pro2b (w : World) (xs ys : List Value) (ta tb : TypeId) :
 Blk ((w.alloc (.cells xs.toArray ta)).alloc (.cells ys.toArray tb)) w.heap.size ta xs ∧ Blk ((w.alloc (.cells xs.toArray ta)).alloc (.cells ys.toArray tb)) (w.heap.size + 1) tb ys ∧ Below w.heap.size w ((w.alloc (.cells xs.toArray ta)).alloc (.cells ys.toArray tb)) ∧ ((w.alloc (.cells xs.toArray ta)).alloc (.cells ys.toArray tb)).heap.size = w.heap.size + 2 := by
 have h1 : (w.alloc (.cells xs.toArray ta)).heap.size = w.heap.size + 1 := by simp
 have b1 := Blk.new (w.alloc (.cells xs.toArray ta)) tb ys
 rw [h1] at b1
 exact ⟨(Blk.new w ta xs).alloc _,b1,((Below.refl _ _).alloc (Nat.le_refl _) _).alloc (by simp) _,by simp⟩
/-- what the reference's check hands back -/
def rchk (t : Tk) : Tk × Int := if 1 ≤ t.kd ∧ t.kd ≤ 9 then (if chkP t = 0 then ownP t else tk0,chkP t) else (tk0,12)
theorem rchk_b1 (t : Tk) (tb tf : Value) (R0 : List (Option Nat)) (w : World) (hb : BV w tb t.vs) (hR0 : ∀ i,some i ∈ R0 → i < w.heap.size) (hk : t.kd = 1) :
 Calls Try.prog 35 #[.agg (tkc t tb tf).toArray] w fun e w' => ∃ bv,e = .returned (.tuple #[.agg (tkc { tk0 with kd := 1 } bv (.slice none 0 0)).toArray,.int .i64 0]) ∧ BD w' R0 bv ({ tk0 with kd := 1 } : Tk).vs ∧ Below w.heap.size w w' := by
 obtain ⟨bT0,bR0,hB0,hV2⟩ := pro2b w (tkc t tb tf) [.int .i64 0,.int .u16 0,.int .u16 0,.int .u16 0,.slice none 0 0,.int .i64 0,.slice none 0 0,.bool false] 26 26
 have q0 := bT0.cell (j := 0) (v := .int .i64 1) (by rw [← hk]; rfl)
 have q1 := bT0.cell (j := 1) (v := .int .u16 t.fi) rfl
 have q2 := bT0.cell (j := 2) (v := .int .u16 t.la) rfl
 have q3 := bT0.cell (j := 3) (v := .int .u16 t.ha) rfl
 clear hV2
 go_enter Try.func35,Try.ntmps35
 go_upto_region 1 with fail
 generalize hX : World.alloc (World.alloc w _) _ = V at bT0 bR0 hB0 q0 q1 q2 q3 ⊢
 clear hX
 have hth := bR0.there 0 8 (by simp)
 go_wp2_with (refine wpList_store_mid rfl 26 _ _ rfl (w.heap.size + 1) 0 #[.int .i64 1,.int .u16 0,.int .u16 0,.int .u16 0,.slice none 0 0,.int .i64 0,.slice none 0 0,.bool false] rfl rfl hth (by kernel_rfl) (by simp [Value.oneCell']) ?_; simp only [Act.put]; generalize hW : World.setCells V (w.heap.size + 1) 0 _ = V9; have HW := Lib.hid hW; clear hW)
 have bR4 := bR0.putAll (vs := [.int .i64 1,.int .u16 0,.int .u16 0,.int .u16 0,.slice none 0 0,.int .i64 0,.slice none 0 0,.bool false]) rfl
 have hg4 := setCells_grown (w.heap.size + 1) [.int .i64 1,.int .u16 0,.int .u16 0,.int .u16 0,.slice none 0 0,.int .i64 0,.slice none 0 0,.bool false] 0 V
 rw [show World.setCells V (w.heap.size + 1) 0 [.int .i64 1,.int .u16 0,.int .u16 0,.int .u16 0,.slice none 0 0,.int .i64 0,.slice none 0 0,.bool false] = V9 from HW.out] at bR4 hg4
 have hB4 := hB0.grown hg4 (by have := bR0.lt; omega) (fun k hk => by cases hk; omega)
 have hl := run_loadVar_row (P := Try.prog) _ (w.heap.size + 1) 26 26 _ (0,0) _ bR4 Try.underlying26 rfl (by kernel_rfl)
 refine bodyPost_ret (v := .tuple #[.agg #[.int .i64 1,.int .u16 0,.int .u16 0,.int .u16 0,.slice none 0 0,.int .i64 0,.slice none 0 0,.bool false],.int .i64 0]) (by rw [results_cell_tmp rfl]; simp [asAddr,hl]) rfl ?_
 exact ⟨.slice none 0 0,rfl,BD.nil _ R0,hB4⟩
theorem rchk_b2 (t : Tk) (tb tf : Value) (R0 : List (Option Nat)) (w : World) (hb : BV w tb t.vs) (hR0 : ∀ i,some i ∈ R0 → i < w.heap.size) (hk : t.kd = 2) :
 Calls Try.prog 35 #[.agg (tkc t tb tf).toArray] w fun e w' => ∃ bv,e = .returned (.tuple #[.agg (tkc { tk0 with kd := 2 } bv (.slice none 0 0)).toArray,.int .i64 0]) ∧ BD w' R0 bv ({ tk0 with kd := 2 } : Tk).vs ∧ Below w.heap.size w w' := by
 obtain ⟨bT0,bR0,hB0,hV2⟩ := pro2b w (tkc t tb tf) [.int .i64 0,.int .u16 0,.int .u16 0,.int .u16 0,.slice none 0 0,.int .i64 0,.slice none 0 0,.bool false] 26 26
 have q0 := bT0.cell (j := 0) (v := .int .i64 2) (by rw [← hk]; rfl)
 have q1 := bT0.cell (j := 1) (v := .int .u16 t.fi) rfl
 have q2 := bT0.cell (j := 2) (v := .int .u16 t.la) rfl
 have q3 := bT0.cell (j := 3) (v := .int .u16 t.ha) rfl
 clear hV2
 go_enter Try.func35,Try.ntmps35
 go_upto_region 1 with fail
 generalize hX : World.alloc (World.alloc w _) _ = V at bT0 bR0 hB0 q0 q1 q2 q3 ⊢
 clear hX
 have hth := bR0.there 0 8 (by simp)
 go_wp2_with (refine wpList_store_mid rfl 26 _ _ rfl (w.heap.size + 1) 0 #[.int .i64 2,.int .u16 0,.int .u16 0,.int .u16 0,.slice none 0 0,.int .i64 0,.slice none 0 0,.bool false] rfl rfl hth (by kernel_rfl) (by simp [Value.oneCell']) ?_; simp only [Act.put]; generalize hW : World.setCells V (w.heap.size + 1) 0 _ = V9; have HW := Lib.hid hW; clear hW)
 have bR4 := bR0.putAll (vs := [.int .i64 2,.int .u16 0,.int .u16 0,.int .u16 0,.slice none 0 0,.int .i64 0,.slice none 0 0,.bool false]) rfl
 have hg4 := setCells_grown (w.heap.size + 1) [.int .i64 2,.int .u16 0,.int .u16 0,.int .u16 0,.slice none 0 0,.int .i64 0,.slice none 0 0,.bool false] 0 V
 rw [show World.setCells V (w.heap.size + 1) 0 [.int .i64 2,.int .u16 0,.int .u16 0,.int .u16 0,.slice none 0 0,.int .i64 0,.slice none 0 0,.bool false] = V9 from HW.out] at bR4 hg4
 have hB4 := hB0.grown hg4 (by have := bR0.lt; omega) (fun k hk => by cases hk; omega)
 have hl := run_loadVar_row (P := Try.prog) _ (w.heap.size + 1) 26 26 _ (0,0) _ bR4 Try.underlying26 rfl (by kernel_rfl)
 refine bodyPost_ret (v := .tuple #[.agg #[.int .i64 2,.int .u16 0,.int .u16 0,.int .u16 0,.slice none 0 0,.int .i64 0,.slice none 0 0,.bool false],.int .i64 0]) (by rw [results_cell_tmp rfl]; simp [asAddr,hl]) rfl ?_
 exact ⟨.slice none 0 0,rfl,BD.nil _ R0,hB4⟩
theorem rchk_b9 (t : Tk) (tb tf : Value) (R0 : List (Option Nat)) (w : World) (hb : BV w tb t.vs) (hR0 : ∀ i,some i ∈ R0 → i < w.heap.size) (hk : t.kd = 9) :
 Calls Try.prog 35 #[.agg (tkc t tb tf).toArray] w fun e w' => ∃ bv,e = .returned (.tuple #[.agg (tkc { tk0 with kd := 9 } bv (.slice none 0 0)).toArray,.int .i64 0]) ∧ BD w' R0 bv ({ tk0 with kd := 9 } : Tk).vs ∧ Below w.heap.size w w' := by
 obtain ⟨bT0,bR0,hB0,hV2⟩ := pro2b w (tkc t tb tf) [.int .i64 0,.int .u16 0,.int .u16 0,.int .u16 0,.slice none 0 0,.int .i64 0,.slice none 0 0,.bool false] 26 26
 have q0 := bT0.cell (j := 0) (v := .int .i64 9) (by rw [← hk]; rfl)
 have q1 := bT0.cell (j := 1) (v := .int .u16 t.fi) rfl
 have q2 := bT0.cell (j := 2) (v := .int .u16 t.la) rfl
 have q3 := bT0.cell (j := 3) (v := .int .u16 t.ha) rfl
 clear hV2
 go_enter Try.func35,Try.ntmps35
 go_upto_region 1 with fail
 generalize hX : World.alloc (World.alloc w _) _ = V at bT0 bR0 hB0 q0 q1 q2 q3 ⊢
 clear hX
 have hth := bR0.there 0 8 (by simp)
 go_wp2_with (refine wpList_store_mid rfl 26 _ _ rfl (w.heap.size + 1) 0 #[.int .i64 9,.int .u16 0,.int .u16 0,.int .u16 0,.slice none 0 0,.int .i64 0,.slice none 0 0,.bool false] rfl rfl hth (by kernel_rfl) (by simp [Value.oneCell']) ?_; simp only [Act.put]; generalize hW : World.setCells V (w.heap.size + 1) 0 _ = V9; have HW := Lib.hid hW; clear hW)
 have bR4 := bR0.putAll (vs := [.int .i64 9,.int .u16 0,.int .u16 0,.int .u16 0,.slice none 0 0,.int .i64 0,.slice none 0 0,.bool false]) rfl
 have hg4 := setCells_grown (w.heap.size + 1) [.int .i64 9,.int .u16 0,.int .u16 0,.int .u16 0,.slice none 0 0,.int .i64 0,.slice none 0 0,.bool false] 0 V
 rw [show World.setCells V (w.heap.size + 1) 0 [.int .i64 9,.int .u16 0,.int .u16 0,.int .u16 0,.slice none 0 0,.int .i64 0,.slice none 0 0,.bool false] = V9 from HW.out] at bR4 hg4
 have hB4 := hB0.grown hg4 (by have := bR0.lt; omega) (fun k hk => by cases hk; omega)
 have hl := run_loadVar_row (P := Try.prog) _ (w.heap.size + 1) 26 26 _ (0,0) _ bR4 Try.underlying26 rfl (by kernel_rfl)
 refine bodyPost_ret (v := .tuple #[.agg #[.int .i64 9,.int .u16 0,.int .u16 0,.int .u16 0,.slice none 0 0,.int .i64 0,.slice none 0 0,.bool false],.int .i64 0]) (by rw [results_cell_tmp rfl]; simp [asAddr,hl]) rfl ?_
 exact ⟨.slice none 0 0,rfl,BD.nil _ R0,hB4⟩
theorem rchk_r3z (t : Tk) (tb tf : Value) (R0 : List (Option Nat)) (w : World) (hb : BV w tb t.vs) (hR0 : ∀ i,some i ∈ R0 → i < w.heap.size) (hk : t.kd = 3) (h0 : t.fi = 0) :
 Calls Try.prog 35 #[.agg (tkc t tb tf).toArray] w fun e w' => ∃ bv,e = .returned (.tuple #[.agg (tkc tk0 bv (.slice none 0 0)).toArray,.int .i64 5]) ∧ BD w' R0 bv (tk0 : Tk).vs ∧ Below w.heap.size w w' := by
 have f1 : ((t.fi : Int) == 0) = true := by simp [h0]
 have f2 : decide (t.fi = 0) = true := by simp [h0]
 have f3 : (t.fi == 0) = true := by simp [h0]
 clear h0
 obtain ⟨bT0,bR0,hB0,hV2⟩ := pro2b w (tkc t tb tf) [.int .i64 0,.int .u16 0,.int .u16 0,.int .u16 0,.slice none 0 0,.int .i64 0,.slice none 0 0,.bool false] 26 26
 have q0 := bT0.cell (j := 0) (v := .int .i64 3) (by rw [← hk]; rfl)
 have q1 := bT0.cell (j := 1) (v := .int .u16 t.fi) rfl
 have q2 := bT0.cell (j := 2) (v := .int .u16 t.la) rfl
 have q3 := bT0.cell (j := 3) (v := .int .u16 t.ha) rfl
 clear hV2
 go_enter Try.func35,Try.ntmps35
 go_upto_region 1 with fail
 generalize hX : World.alloc (World.alloc w _) _ = V at bT0 bR0 hB0 q0 q1 q2 q3 ⊢
 clear hX
 have hth := bR0.there 0 8 (by simp)
 go_wp2_with (refine wpList_store_mid rfl 26 _ _ rfl (w.heap.size + 1) 0 #[.int .i64 0,.int .u16 0,.int .u16 0,.int .u16 0,.slice none 0 0,.int .i64 0,.slice none 0 0,.bool false] rfl rfl hth (by kernel_rfl) (by simp [Value.oneCell']) ?_; simp only [Act.put]; generalize hW : World.setCells V (w.heap.size + 1) 0 _ = V9; have HW := Lib.hid hW; clear hW)
 have bR4 := bR0.putAll (vs := [.int .i64 0,.int .u16 0,.int .u16 0,.int .u16 0,.slice none 0 0,.int .i64 0,.slice none 0 0,.bool false]) rfl
 have hg4 := setCells_grown (w.heap.size + 1) [.int .i64 0,.int .u16 0,.int .u16 0,.int .u16 0,.slice none 0 0,.int .i64 0,.slice none 0 0,.bool false] 0 V
 rw [show World.setCells V (w.heap.size + 1) 0 [.int .i64 0,.int .u16 0,.int .u16 0,.int .u16 0,.slice none 0 0,.int .i64 0,.slice none 0 0,.bool false] = V9 from HW.out] at bR4 hg4
 have hB4 := hB0.grown hg4 (by have := bR0.lt; omega) (fun k hk => by cases hk; omega)
 have hl := run_loadVar_row (P := Try.prog) _ (w.heap.size + 1) 26 26 _ (0,0) _ bR4 Try.underlying26 rfl (by kernel_rfl)
 refine bodyPost_ret (v := .tuple #[.agg #[.int .i64 0,.int .u16 0,.int .u16 0,.int .u16 0,.slice none 0 0,.int .i64 0,.slice none 0 0,.bool false],.int .i64 5]) (by rw [results_cell_tmp rfl]; simp [asAddr,hl]) rfl ?_
 exact ⟨.slice none 0 0,rfl,BD.nil _ R0,hB4⟩
theorem rchk_r3o (t : Tk) (tb tf : Value) (R0 : List (Option Nat)) (w : World) (hb : BV w tb t.vs) (hR0 : ∀ i,some i ∈ R0 → i < w.heap.size) (hk : t.kd = 3) (h0 : ¬ t.fi = 0) (h1 : t.la < t.fi) :
 Calls Try.prog 35 #[.agg (tkc t tb tf).toArray] w fun e w' => ∃ bv,e = .returned (.tuple #[.agg (tkc tk0 bv (.slice none 0 0)).toArray,.int .i64 13]) ∧ BD w' R0 bv (tk0 : Tk).vs ∧ Below w.heap.size w w' := by
 have f1 : ((t.fi : Int) == 0) = false := by simp; omega
 have f2 : decide (t.fi = 0) = false := by simp [h0]
 have f3 : (t.fi == 0) = false := by simp [h0]
 clear h0
 have g1 : decide (t.la < t.fi) = true := by simpa using h1
 have g2 : decide ((t.la : Int) < (t.fi : Int)) = true := by simpa using h1
 clear h1
 obtain ⟨bT0,bR0,hB0,hV2⟩ := pro2b w (tkc t tb tf) [.int .i64 0,.int .u16 0,.int .u16 0,.int .u16 0,.slice none 0 0,.int .i64 0,.slice none 0 0,.bool false] 26 26
 have q0 := bT0.cell (j := 0) (v := .int .i64 3) (by rw [← hk]; rfl)
 have q1 := bT0.cell (j := 1) (v := .int .u16 t.fi) rfl
 have q2 := bT0.cell (j := 2) (v := .int .u16 t.la) rfl
 have q3 := bT0.cell (j := 3) (v := .int .u16 t.ha) rfl
 clear hV2
 go_enter Try.func35,Try.ntmps35
 go_upto_region 1 with fail
 generalize hX : World.alloc (World.alloc w _) _ = V at bT0 bR0 hB0 q0 q1 q2 q3 ⊢
 clear hX
 have hth := bR0.there 0 8 (by simp)
 go_wp2_with (refine wpList_store_mid rfl 26 _ _ rfl (w.heap.size + 1) 0 #[.int .i64 0,.int .u16 0,.int .u16 0,.int .u16 0,.slice none 0 0,.int .i64 0,.slice none 0 0,.bool false] rfl rfl hth (by kernel_rfl) (by simp [Value.oneCell']) ?_; simp only [Act.put]; generalize hW : World.setCells V (w.heap.size + 1) 0 _ = V9; have HW := Lib.hid hW; clear hW)
 have bR4 := bR0.putAll (vs := [.int .i64 0,.int .u16 0,.int .u16 0,.int .u16 0,.slice none 0 0,.int .i64 0,.slice none 0 0,.bool false]) rfl
 have hg4 := setCells_grown (w.heap.size + 1) [.int .i64 0,.int .u16 0,.int .u16 0,.int .u16 0,.slice none 0 0,.int .i64 0,.slice none 0 0,.bool false] 0 V
 rw [show World.setCells V (w.heap.size + 1) 0 [.int .i64 0,.int .u16 0,.int .u16 0,.int .u16 0,.slice none 0 0,.int .i64 0,.slice none 0 0,.bool false] = V9 from HW.out] at bR4 hg4
 have hB4 := hB0.grown hg4 (by have := bR0.lt; omega) (fun k hk => by cases hk; omega)
 have hl := run_loadVar_row (P := Try.prog) _ (w.heap.size + 1) 26 26 _ (0,0) _ bR4 Try.underlying26 rfl (by kernel_rfl)
 refine bodyPost_ret (v := .tuple #[.agg #[.int .i64 0,.int .u16 0,.int .u16 0,.int .u16 0,.slice none 0 0,.int .i64 0,.slice none 0 0,.bool false],.int .i64 13]) (by rw [results_cell_tmp rfl]; simp [asAddr,hl]) rfl ?_
 exact ⟨.slice none 0 0,rfl,BD.nil _ R0,hB4⟩
theorem rchk_r3 (t : Tk) (tb tf : Value) (R0 : List (Option Nat)) (w : World) (hb : BV w tb t.vs) (hR0 : ∀ i,some i ∈ R0 → i < w.heap.size) (hk : t.kd = 3) (h0 : ¬ t.fi = 0) (h1 : ¬ t.la < t.fi) :
 Calls Try.prog 35 #[.agg (tkc t tb tf).toArray] w fun e w' => ∃ bv,e = .returned (.tuple #[.agg (tkc { tk0 with kd := 3,fi := t.fi,la := t.la } bv (.slice none 0 0)).toArray,.int .i64 0]) ∧ BD w' R0 bv ({ tk0 with kd := 3,fi := t.fi,la := t.la } : Tk).vs ∧ Below w.heap.size w w' := by
 have f1 : ((t.fi : Int) == 0) = false := by simp; omega
 have f2 : decide (t.fi = 0) = false := by simp [h0]
 have f3 : (t.fi == 0) = false := by simp [h0]
 clear h0
 have g1 : decide (t.la < t.fi) = false := by simpa using h1
 have g2 : decide ((t.la : Int) < (t.fi : Int)) = false := by simpa using h1
 clear h1
 obtain ⟨bT0,bR0,hB0,hV2⟩ := pro2b w (tkc t tb tf) [.int .i64 0,.int .u16 0,.int .u16 0,.int .u16 0,.slice none 0 0,.int .i64 0,.slice none 0 0,.bool false] 26 26
 have q0 := bT0.cell (j := 0) (v := .int .i64 3) (by rw [← hk]; rfl)
 have q1 := bT0.cell (j := 1) (v := .int .u16 t.fi) rfl
 have q2 := bT0.cell (j := 2) (v := .int .u16 t.la) rfl
 have q3 := bT0.cell (j := 3) (v := .int .u16 t.ha) rfl
 clear hV2
 go_enter Try.func35,Try.ntmps35
 go_upto_region 1 with fail
 generalize hX : World.alloc (World.alloc w _) _ = V at bT0 bR0 hB0 q0 q1 q2 q3 ⊢
 clear hX
 have hth := bR0.there 0 8 (by simp)
 go_wp2_with (refine wpList_store_mid rfl 26 _ _ rfl (w.heap.size + 1) 0 #[.int .i64 3,.int .u16 t.fi,.int .u16 t.la,.int .u16 0,.slice none 0 0,.int .i64 0,.slice none 0 0,.bool false] rfl rfl hth (by kernel_rfl) (by simp [Value.oneCell']) ?_; simp only [Act.put]; generalize hW : World.setCells V (w.heap.size + 1) 0 _ = V9; have HW := Lib.hid hW; clear hW)
 have bR4 := bR0.putAll (vs := [.int .i64 3,.int .u16 t.fi,.int .u16 t.la,.int .u16 0,.slice none 0 0,.int .i64 0,.slice none 0 0,.bool false]) rfl
 have hg4 := setCells_grown (w.heap.size + 1) [.int .i64 3,.int .u16 t.fi,.int .u16 t.la,.int .u16 0,.slice none 0 0,.int .i64 0,.slice none 0 0,.bool false] 0 V
 rw [show World.setCells V (w.heap.size + 1) 0 [.int .i64 3,.int .u16 t.fi,.int .u16 t.la,.int .u16 0,.slice none 0 0,.int .i64 0,.slice none 0 0,.bool false] = V9 from HW.out] at bR4 hg4
 have hB4 := hB0.grown hg4 (by have := bR0.lt; omega) (fun k hk => by cases hk; omega)
 have hl := run_loadVar_row (P := Try.prog) _ (w.heap.size + 1) 26 26 _ (0,0) _ bR4 Try.underlying26 rfl (by kernel_rfl)
 refine bodyPost_ret (v := .tuple #[.agg #[.int .i64 3,.int .u16 t.fi,.int .u16 t.la,.int .u16 0,.slice none 0 0,.int .i64 0,.slice none 0 0,.bool false],.int .i64 0]) (by rw [results_cell_tmp rfl]; simp [asAddr,hl]) rfl ?_
 exact ⟨.slice none 0 0,rfl,BD.nil _ R0,hB4⟩
theorem rchk_r4z (t : Tk) (tb tf : Value) (R0 : List (Option Nat)) (w : World) (hb : BV w tb t.vs) (hR0 : ∀ i,some i ∈ R0 → i < w.heap.size) (hk : t.kd = 4) (h0 : t.fi = 0) :
 Calls Try.prog 35 #[.agg (tkc t tb tf).toArray] w fun e w' => ∃ bv,e = .returned (.tuple #[.agg (tkc tk0 bv (.slice none 0 0)).toArray,.int .i64 5]) ∧ BD w' R0 bv (tk0 : Tk).vs ∧ Below w.heap.size w w' := by
 have f1 : ((t.fi : Int) == 0) = true := by simp [h0]
 have f2 : decide (t.fi = 0) = true := by simp [h0]
 have f3 : (t.fi == 0) = true := by simp [h0]
 clear h0
 obtain ⟨bT0,bR0,hB0,hV2⟩ := pro2b w (tkc t tb tf) [.int .i64 0,.int .u16 0,.int .u16 0,.int .u16 0,.slice none 0 0,.int .i64 0,.slice none 0 0,.bool false] 26 26
 have q0 := bT0.cell (j := 0) (v := .int .i64 4) (by rw [← hk]; rfl)
 have q1 := bT0.cell (j := 1) (v := .int .u16 t.fi) rfl
 have q2 := bT0.cell (j := 2) (v := .int .u16 t.la) rfl
 have q3 := bT0.cell (j := 3) (v := .int .u16 t.ha) rfl
 clear hV2
 go_enter Try.func35,Try.ntmps35
 go_upto_region 1 with fail
 generalize hX : World.alloc (World.alloc w _) _ = V at bT0 bR0 hB0 q0 q1 q2 q3 ⊢
 clear hX
 have hth := bR0.there 0 8 (by simp)
 go_wp2_with (refine wpList_store_mid rfl 26 _ _ rfl (w.heap.size + 1) 0 #[.int .i64 0,.int .u16 0,.int .u16 0,.int .u16 0,.slice none 0 0,.int .i64 0,.slice none 0 0,.bool false] rfl rfl hth (by kernel_rfl) (by simp [Value.oneCell']) ?_; simp only [Act.put]; generalize hW : World.setCells V (w.heap.size + 1) 0 _ = V9; have HW := Lib.hid hW; clear hW)
 have bR4 := bR0.putAll (vs := [.int .i64 0,.int .u16 0,.int .u16 0,.int .u16 0,.slice none 0 0,.int .i64 0,.slice none 0 0,.bool false]) rfl
 have hg4 := setCells_grown (w.heap.size + 1) [.int .i64 0,.int .u16 0,.int .u16 0,.int .u16 0,.slice none 0 0,.int .i64 0,.slice none 0 0,.bool false] 0 V
 rw [show World.setCells V (w.heap.size + 1) 0 [.int .i64 0,.int .u16 0,.int .u16 0,.int .u16 0,.slice none 0 0,.int .i64 0,.slice none 0 0,.bool false] = V9 from HW.out] at bR4 hg4
 have hB4 := hB0.grown hg4 (by have := bR0.lt; omega) (fun k hk => by cases hk; omega)
 have hl := run_loadVar_row (P := Try.prog) _ (w.heap.size + 1) 26 26 _ (0,0) _ bR4 Try.underlying26 rfl (by kernel_rfl)
 refine bodyPost_ret (v := .tuple #[.agg #[.int .i64 0,.int .u16 0,.int .u16 0,.int .u16 0,.slice none 0 0,.int .i64 0,.slice none 0 0,.bool false],.int .i64 5]) (by rw [results_cell_tmp rfl]; simp [asAddr,hl]) rfl ?_
 exact ⟨.slice none 0 0,rfl,BD.nil _ R0,hB4⟩
theorem rchk_r4o (t : Tk) (tb tf : Value) (R0 : List (Option Nat)) (w : World) (hb : BV w tb t.vs) (hR0 : ∀ i,some i ∈ R0 → i < w.heap.size) (hk : t.kd = 4) (h0 : ¬ t.fi = 0) (h1 : t.la < t.fi) :
 Calls Try.prog 35 #[.agg (tkc t tb tf).toArray] w fun e w' => ∃ bv,e = .returned (.tuple #[.agg (tkc tk0 bv (.slice none 0 0)).toArray,.int .i64 13]) ∧ BD w' R0 bv (tk0 : Tk).vs ∧ Below w.heap.size w w' := by
 have f1 : ((t.fi : Int) == 0) = false := by simp; omega
 have f2 : decide (t.fi = 0) = false := by simp [h0]
 have f3 : (t.fi == 0) = false := by simp [h0]
 clear h0
 have g1 : decide (t.la < t.fi) = true := by simpa using h1
 have g2 : decide ((t.la : Int) < (t.fi : Int)) = true := by simpa using h1
 clear h1
 obtain ⟨bT0,bR0,hB0,hV2⟩ := pro2b w (tkc t tb tf) [.int .i64 0,.int .u16 0,.int .u16 0,.int .u16 0,.slice none 0 0,.int .i64 0,.slice none 0 0,.bool false] 26 26
 have q0 := bT0.cell (j := 0) (v := .int .i64 4) (by rw [← hk]; rfl)
 have q1 := bT0.cell (j := 1) (v := .int .u16 t.fi) rfl
 have q2 := bT0.cell (j := 2) (v := .int .u16 t.la) rfl
 have q3 := bT0.cell (j := 3) (v := .int .u16 t.ha) rfl
 clear hV2
 go_enter Try.func35,Try.ntmps35
 go_upto_region 1 with fail
 generalize hX : World.alloc (World.alloc w _) _ = V at bT0 bR0 hB0 q0 q1 q2 q3 ⊢
 clear hX
 have hth := bR0.there 0 8 (by simp)
 go_wp2_with (refine wpList_store_mid rfl 26 _ _ rfl (w.heap.size + 1) 0 #[.int .i64 0,.int .u16 0,.int .u16 0,.int .u16 0,.slice none 0 0,.int .i64 0,.slice none 0 0,.bool false] rfl rfl hth (by kernel_rfl) (by simp [Value.oneCell']) ?_; simp only [Act.put]; generalize hW : World.setCells V (w.heap.size + 1) 0 _ = V9; have HW := Lib.hid hW; clear hW)
 have bR4 := bR0.putAll (vs := [.int .i64 0,.int .u16 0,.int .u16 0,.int .u16 0,.slice none 0 0,.int .i64 0,.slice none 0 0,.bool false]) rfl
 have hg4 := setCells_grown (w.heap.size + 1) [.int .i64 0,.int .u16 0,.int .u16 0,.int .u16 0,.slice none 0 0,.int .i64 0,.slice none 0 0,.bool false] 0 V
 rw [show World.setCells V (w.heap.size + 1) 0 [.int .i64 0,.int .u16 0,.int .u16 0,.int .u16 0,.slice none 0 0,.int .i64 0,.slice none 0 0,.bool false] = V9 from HW.out] at bR4 hg4
 have hB4 := hB0.grown hg4 (by have := bR0.lt; omega) (fun k hk => by cases hk; omega)
 have hl := run_loadVar_row (P := Try.prog) _ (w.heap.size + 1) 26 26 _ (0,0) _ bR4 Try.underlying26 rfl (by kernel_rfl)
 refine bodyPost_ret (v := .tuple #[.agg #[.int .i64 0,.int .u16 0,.int .u16 0,.int .u16 0,.slice none 0 0,.int .i64 0,.slice none 0 0,.bool false],.int .i64 13]) (by rw [results_cell_tmp rfl]; simp [asAddr,hl]) rfl ?_
 exact ⟨.slice none 0 0,rfl,BD.nil _ R0,hB4⟩
theorem rchk_r4 (t : Tk) (tb tf : Value) (R0 : List (Option Nat)) (w : World) (hb : BV w tb t.vs) (hR0 : ∀ i,some i ∈ R0 → i < w.heap.size) (hk : t.kd = 4) (h0 : ¬ t.fi = 0) (h1 : ¬ t.la < t.fi) :
 Calls Try.prog 35 #[.agg (tkc t tb tf).toArray] w fun e w' => ∃ bv,e = .returned (.tuple #[.agg (tkc { tk0 with kd := 4,fi := t.fi,la := t.la } bv (.slice none 0 0)).toArray,.int .i64 0]) ∧ BD w' R0 bv ({ tk0 with kd := 4,fi := t.fi,la := t.la } : Tk).vs ∧ Below w.heap.size w w' := by
 have f1 : ((t.fi : Int) == 0) = false := by simp; omega
 have f2 : decide (t.fi = 0) = false := by simp [h0]
 have f3 : (t.fi == 0) = false := by simp [h0]
 clear h0
 have g1 : decide (t.la < t.fi) = false := by simpa using h1
 have g2 : decide ((t.la : Int) < (t.fi : Int)) = false := by simpa using h1
 clear h1
 obtain ⟨bT0,bR0,hB0,hV2⟩ := pro2b w (tkc t tb tf) [.int .i64 0,.int .u16 0,.int .u16 0,.int .u16 0,.slice none 0 0,.int .i64 0,.slice none 0 0,.bool false] 26 26
 have q0 := bT0.cell (j := 0) (v := .int .i64 4) (by rw [← hk]; rfl)
 have q1 := bT0.cell (j := 1) (v := .int .u16 t.fi) rfl
 have q2 := bT0.cell (j := 2) (v := .int .u16 t.la) rfl
 have q3 := bT0.cell (j := 3) (v := .int .u16 t.ha) rfl
 clear hV2
 go_enter Try.func35,Try.ntmps35
 go_upto_region 1 with fail
 generalize hX : World.alloc (World.alloc w _) _ = V at bT0 bR0 hB0 q0 q1 q2 q3 ⊢
 clear hX
 have hth := bR0.there 0 8 (by simp)
 go_wp2_with (refine wpList_store_mid rfl 26 _ _ rfl (w.heap.size + 1) 0 #[.int .i64 4,.int .u16 t.fi,.int .u16 t.la,.int .u16 0,.slice none 0 0,.int .i64 0,.slice none 0 0,.bool false] rfl rfl hth (by kernel_rfl) (by simp [Value.oneCell']) ?_; simp only [Act.put]; generalize hW : World.setCells V (w.heap.size + 1) 0 _ = V9; have HW := Lib.hid hW; clear hW)
 have bR4 := bR0.putAll (vs := [.int .i64 4,.int .u16 t.fi,.int .u16 t.la,.int .u16 0,.slice none 0 0,.int .i64 0,.slice none 0 0,.bool false]) rfl
 have hg4 := setCells_grown (w.heap.size + 1) [.int .i64 4,.int .u16 t.fi,.int .u16 t.la,.int .u16 0,.slice none 0 0,.int .i64 0,.slice none 0 0,.bool false] 0 V
 rw [show World.setCells V (w.heap.size + 1) 0 [.int .i64 4,.int .u16 t.fi,.int .u16 t.la,.int .u16 0,.slice none 0 0,.int .i64 0,.slice none 0 0,.bool false] = V9 from HW.out] at bR4 hg4
 have hB4 := hB0.grown hg4 (by have := bR0.lt; omega) (fun k hk => by cases hk; omega)
 have hl := run_loadVar_row (P := Try.prog) _ (w.heap.size + 1) 26 26 _ (0,0) _ bR4 Try.underlying26 rfl (by kernel_rfl)
 refine bodyPost_ret (v := .tuple #[.agg #[.int .i64 4,.int .u16 t.fi,.int .u16 t.la,.int .u16 0,.slice none 0 0,.int .i64 0,.slice none 0 0,.bool false],.int .i64 0]) (by rw [results_cell_tmp rfl]; simp [asAddr,hl]) rfl ?_
 exact ⟨.slice none 0 0,rfl,BD.nil _ R0,hB4⟩
theorem rchk_h5z (t : Tk) (tb tf : Value) (R0 : List (Option Nat)) (w : World) (hb : BV w tb t.vs) (hR0 : ∀ i,some i ∈ R0 → i < w.heap.size) (hk : t.kd = 5) (h0 : t.ha = 0) :
 Calls Try.prog 35 #[.agg (tkc t tb tf).toArray] w fun e w' => ∃ bv,e = .returned (.tuple #[.agg (tkc tk0 bv (.slice none 0 0)).toArray,.int .i64 5]) ∧ BD w' R0 bv (tk0 : Tk).vs ∧ Below w.heap.size w w' := by
 have f1 : ((t.ha : Int) == 0) = true := by simp [h0]
 have f2 : decide (t.ha = 0) = true := by simp [h0]
 have f3 : (t.ha == 0) = true := by simp [h0]
 clear h0
 obtain ⟨bT0,bR0,hB0,hV2⟩ := pro2b w (tkc t tb tf) [.int .i64 0,.int .u16 0,.int .u16 0,.int .u16 0,.slice none 0 0,.int .i64 0,.slice none 0 0,.bool false] 26 26
 have q0 := bT0.cell (j := 0) (v := .int .i64 5) (by rw [← hk]; rfl)
 have q1 := bT0.cell (j := 1) (v := .int .u16 t.fi) rfl
 have q2 := bT0.cell (j := 2) (v := .int .u16 t.la) rfl
 have q3 := bT0.cell (j := 3) (v := .int .u16 t.ha) rfl
 clear hV2
 go_enter Try.func35,Try.ntmps35
 go_upto_region 1 with fail
 generalize hX : World.alloc (World.alloc w _) _ = V at bT0 bR0 hB0 q0 q1 q2 q3 ⊢
 clear hX
 have hth := bR0.there 0 8 (by simp)
 go_wp2_with (refine wpList_store_mid rfl 26 _ _ rfl (w.heap.size + 1) 0 #[.int .i64 0,.int .u16 0,.int .u16 0,.int .u16 0,.slice none 0 0,.int .i64 0,.slice none 0 0,.bool false] rfl rfl hth (by kernel_rfl) (by simp [Value.oneCell']) ?_; simp only [Act.put]; generalize hW : World.setCells V (w.heap.size + 1) 0 _ = V9; have HW := Lib.hid hW; clear hW)
 have bR4 := bR0.putAll (vs := [.int .i64 0,.int .u16 0,.int .u16 0,.int .u16 0,.slice none 0 0,.int .i64 0,.slice none 0 0,.bool false]) rfl
 have hg4 := setCells_grown (w.heap.size + 1) [.int .i64 0,.int .u16 0,.int .u16 0,.int .u16 0,.slice none 0 0,.int .i64 0,.slice none 0 0,.bool false] 0 V
 rw [show World.setCells V (w.heap.size + 1) 0 [.int .i64 0,.int .u16 0,.int .u16 0,.int .u16 0,.slice none 0 0,.int .i64 0,.slice none 0 0,.bool false] = V9 from HW.out] at bR4 hg4
 have hB4 := hB0.grown hg4 (by have := bR0.lt; omega) (fun k hk => by cases hk; omega)
 have hl := run_loadVar_row (P := Try.prog) _ (w.heap.size + 1) 26 26 _ (0,0) _ bR4 Try.underlying26 rfl (by kernel_rfl)
 refine bodyPost_ret (v := .tuple #[.agg #[.int .i64 0,.int .u16 0,.int .u16 0,.int .u16 0,.slice none 0 0,.int .i64 0,.slice none 0 0,.bool false],.int .i64 5]) (by rw [results_cell_tmp rfl]; simp [asAddr,hl]) rfl ?_
 exact ⟨.slice none 0 0,rfl,BD.nil _ R0,hB4⟩
theorem rchk_h5 (t : Tk) (tb tf : Value) (R0 : List (Option Nat)) (w : World) (hb : BV w tb t.vs) (hR0 : ∀ i,some i ∈ R0 → i < w.heap.size) (hk : t.kd = 5) (h0 : ¬ t.ha = 0) :
 Calls Try.prog 35 #[.agg (tkc t tb tf).toArray] w fun e w' => ∃ bv,e = .returned (.tuple #[.agg (tkc { tk0 with kd := 5,ha := t.ha } bv (.slice none 0 0)).toArray,.int .i64 0]) ∧ BD w' R0 bv ({ tk0 with kd := 5,ha := t.ha } : Tk).vs ∧ Below w.heap.size w w' := by
 have f1 : ((t.ha : Int) == 0) = false := by simp; omega
 have f2 : decide (t.ha = 0) = false := by simp [h0]
 have f3 : (t.ha == 0) = false := by simp [h0]
 clear h0
 obtain ⟨bT0,bR0,hB0,hV2⟩ := pro2b w (tkc t tb tf) [.int .i64 0,.int .u16 0,.int .u16 0,.int .u16 0,.slice none 0 0,.int .i64 0,.slice none 0 0,.bool false] 26 26
 have q0 := bT0.cell (j := 0) (v := .int .i64 5) (by rw [← hk]; rfl)
 have q1 := bT0.cell (j := 1) (v := .int .u16 t.fi) rfl
 have q2 := bT0.cell (j := 2) (v := .int .u16 t.la) rfl
 have q3 := bT0.cell (j := 3) (v := .int .u16 t.ha) rfl
 clear hV2
 go_enter Try.func35,Try.ntmps35
 go_upto_region 1 with fail
 generalize hX : World.alloc (World.alloc w _) _ = V at bT0 bR0 hB0 q0 q1 q2 q3 ⊢
 clear hX
 have hth := bR0.there 0 8 (by simp)
 go_wp2_with (refine wpList_store_mid rfl 26 _ _ rfl (w.heap.size + 1) 0 #[.int .i64 5,.int .u16 0,.int .u16 0,.int .u16 t.ha,.slice none 0 0,.int .i64 0,.slice none 0 0,.bool false] rfl rfl hth (by kernel_rfl) (by simp [Value.oneCell']) ?_; simp only [Act.put]; generalize hW : World.setCells V (w.heap.size + 1) 0 _ = V9; have HW := Lib.hid hW; clear hW)
 have bR4 := bR0.putAll (vs := [.int .i64 5,.int .u16 0,.int .u16 0,.int .u16 t.ha,.slice none 0 0,.int .i64 0,.slice none 0 0,.bool false]) rfl
 have hg4 := setCells_grown (w.heap.size + 1) [.int .i64 5,.int .u16 0,.int .u16 0,.int .u16 t.ha,.slice none 0 0,.int .i64 0,.slice none 0 0,.bool false] 0 V
 rw [show World.setCells V (w.heap.size + 1) 0 [.int .i64 5,.int .u16 0,.int .u16 0,.int .u16 t.ha,.slice none 0 0,.int .i64 0,.slice none 0 0,.bool false] = V9 from HW.out] at bR4 hg4
 have hB4 := hB0.grown hg4 (by have := bR0.lt; omega) (fun k hk => by cases hk; omega)
 have hl := run_loadVar_row (P := Try.prog) _ (w.heap.size + 1) 26 26 _ (0,0) _ bR4 Try.underlying26 rfl (by kernel_rfl)
 refine bodyPost_ret (v := .tuple #[.agg #[.int .i64 5,.int .u16 0,.int .u16 0,.int .u16 t.ha,.slice none 0 0,.int .i64 0,.slice none 0 0,.bool false],.int .i64 0]) (by rw [results_cell_tmp rfl]; simp [asAddr,hl]) rfl ?_
 exact ⟨.slice none 0 0,rfl,BD.nil _ R0,hB4⟩
theorem rchk_h6z (t : Tk) (tb tf : Value) (R0 : List (Option Nat)) (w : World) (hb : BV w tb t.vs) (hR0 : ∀ i,some i ∈ R0 → i < w.heap.size) (hk : t.kd = 6) (h0 : t.ha = 0) :
 Calls Try.prog 35 #[.agg (tkc t tb tf).toArray] w fun e w' => ∃ bv,e = .returned (.tuple #[.agg (tkc tk0 bv (.slice none 0 0)).toArray,.int .i64 5]) ∧ BD w' R0 bv (tk0 : Tk).vs ∧ Below w.heap.size w w' := by
 have f1 : ((t.ha : Int) == 0) = true := by simp [h0]
 have f2 : decide (t.ha = 0) = true := by simp [h0]
 have f3 : (t.ha == 0) = true := by simp [h0]
 clear h0
 obtain ⟨bT0,bR0,hB0,hV2⟩ := pro2b w (tkc t tb tf) [.int .i64 0,.int .u16 0,.int .u16 0,.int .u16 0,.slice none 0 0,.int .i64 0,.slice none 0 0,.bool false] 26 26
 have q0 := bT0.cell (j := 0) (v := .int .i64 6) (by rw [← hk]; rfl)
 have q1 := bT0.cell (j := 1) (v := .int .u16 t.fi) rfl
 have q2 := bT0.cell (j := 2) (v := .int .u16 t.la) rfl
 have q3 := bT0.cell (j := 3) (v := .int .u16 t.ha) rfl
 clear hV2
 go_enter Try.func35,Try.ntmps35
 go_upto_region 1 with fail
 generalize hX : World.alloc (World.alloc w _) _ = V at bT0 bR0 hB0 q0 q1 q2 q3 ⊢
 clear hX
 have hth := bR0.there 0 8 (by simp)
 go_wp2_with (refine wpList_store_mid rfl 26 _ _ rfl (w.heap.size + 1) 0 #[.int .i64 0,.int .u16 0,.int .u16 0,.int .u16 0,.slice none 0 0,.int .i64 0,.slice none 0 0,.bool false] rfl rfl hth (by kernel_rfl) (by simp [Value.oneCell']) ?_; simp only [Act.put]; generalize hW : World.setCells V (w.heap.size + 1) 0 _ = V9; have HW := Lib.hid hW; clear hW)
 have bR4 := bR0.putAll (vs := [.int .i64 0,.int .u16 0,.int .u16 0,.int .u16 0,.slice none 0 0,.int .i64 0,.slice none 0 0,.bool false]) rfl
 have hg4 := setCells_grown (w.heap.size + 1) [.int .i64 0,.int .u16 0,.int .u16 0,.int .u16 0,.slice none 0 0,.int .i64 0,.slice none 0 0,.bool false] 0 V
 rw [show World.setCells V (w.heap.size + 1) 0 [.int .i64 0,.int .u16 0,.int .u16 0,.int .u16 0,.slice none 0 0,.int .i64 0,.slice none 0 0,.bool false] = V9 from HW.out] at bR4 hg4
 have hB4 := hB0.grown hg4 (by have := bR0.lt; omega) (fun k hk => by cases hk; omega)
 have hl := run_loadVar_row (P := Try.prog) _ (w.heap.size + 1) 26 26 _ (0,0) _ bR4 Try.underlying26 rfl (by kernel_rfl)
 refine bodyPost_ret (v := .tuple #[.agg #[.int .i64 0,.int .u16 0,.int .u16 0,.int .u16 0,.slice none 0 0,.int .i64 0,.slice none 0 0,.bool false],.int .i64 5]) (by rw [results_cell_tmp rfl]; simp [asAddr,hl]) rfl ?_
 exact ⟨.slice none 0 0,rfl,BD.nil _ R0,hB4⟩
theorem rchk_h6 (t : Tk) (tb tf : Value) (R0 : List (Option Nat)) (w : World) (hb : BV w tb t.vs) (hR0 : ∀ i,some i ∈ R0 → i < w.heap.size) (hk : t.kd = 6) (h0 : ¬ t.ha = 0) :
 Calls Try.prog 35 #[.agg (tkc t tb tf).toArray] w fun e w' => ∃ bv,e = .returned (.tuple #[.agg (tkc { tk0 with kd := 6,ha := t.ha } bv (.slice none 0 0)).toArray,.int .i64 0]) ∧ BD w' R0 bv ({ tk0 with kd := 6,ha := t.ha } : Tk).vs ∧ Below w.heap.size w w' := by
 have f1 : ((t.ha : Int) == 0) = false := by simp; omega
 have f2 : decide (t.ha = 0) = false := by simp [h0]
 have f3 : (t.ha == 0) = false := by simp [h0]
 clear h0
 obtain ⟨bT0,bR0,hB0,hV2⟩ := pro2b w (tkc t tb tf) [.int .i64 0,.int .u16 0,.int .u16 0,.int .u16 0,.slice none 0 0,.int .i64 0,.slice none 0 0,.bool false] 26 26
 have q0 := bT0.cell (j := 0) (v := .int .i64 6) (by rw [← hk]; rfl)
 have q1 := bT0.cell (j := 1) (v := .int .u16 t.fi) rfl
 have q2 := bT0.cell (j := 2) (v := .int .u16 t.la) rfl
 have q3 := bT0.cell (j := 3) (v := .int .u16 t.ha) rfl
 clear hV2
 go_enter Try.func35,Try.ntmps35
 go_upto_region 1 with fail
 generalize hX : World.alloc (World.alloc w _) _ = V at bT0 bR0 hB0 q0 q1 q2 q3 ⊢
 clear hX
 have hth := bR0.there 0 8 (by simp)
 go_wp2_with (refine wpList_store_mid rfl 26 _ _ rfl (w.heap.size + 1) 0 #[.int .i64 6,.int .u16 0,.int .u16 0,.int .u16 t.ha,.slice none 0 0,.int .i64 0,.slice none 0 0,.bool false] rfl rfl hth (by kernel_rfl) (by simp [Value.oneCell']) ?_; simp only [Act.put]; generalize hW : World.setCells V (w.heap.size + 1) 0 _ = V9; have HW := Lib.hid hW; clear hW)
 have bR4 := bR0.putAll (vs := [.int .i64 6,.int .u16 0,.int .u16 0,.int .u16 t.ha,.slice none 0 0,.int .i64 0,.slice none 0 0,.bool false]) rfl
 have hg4 := setCells_grown (w.heap.size + 1) [.int .i64 6,.int .u16 0,.int .u16 0,.int .u16 t.ha,.slice none 0 0,.int .i64 0,.slice none 0 0,.bool false] 0 V
 rw [show World.setCells V (w.heap.size + 1) 0 [.int .i64 6,.int .u16 0,.int .u16 0,.int .u16 t.ha,.slice none 0 0,.int .i64 0,.slice none 0 0,.bool false] = V9 from HW.out] at bR4 hg4
 have hB4 := hB0.grown hg4 (by have := bR0.lt; omega) (fun k hk => by cases hk; omega)
 have hl := run_loadVar_row (P := Try.prog) _ (w.heap.size + 1) 26 26 _ (0,0) _ bR4 Try.underlying26 rfl (by kernel_rfl)
 refine bodyPost_ret (v := .tuple #[.agg #[.int .i64 6,.int .u16 0,.int .u16 0,.int .u16 t.ha,.slice none 0 0,.int .i64 0,.slice none 0 0,.bool false],.int .i64 0]) (by rw [results_cell_tmp rfl]; simp [asAddr,hl]) rfl ?_
 exact ⟨.slice none 0 0,rfl,BD.nil _ R0,hB4⟩
theorem rchk_v7z (t : Tk) (tb tf : Value) (R0 : List (Option Nat)) (w : World) (hb : BV w tb t.vs) (hR0 : ∀ i,some i ∈ R0 → i < w.heap.size) (hk : t.kd = 7) (h0 : t.ha = 0) :
 Calls Try.prog 35 #[.agg (tkc t tb tf).toArray] w fun e w' => ∃ bv,e = .returned (.tuple #[.agg (tkc tk0 bv (.slice none 0 0)).toArray,.int .i64 5]) ∧ BD w' R0 bv (tk0 : Tk).vs ∧ Below w.heap.size w w' := by
 have f1 : ((t.ha : Int) == 0) = true := by simp [h0]
 have f2 : decide (t.ha = 0) = true := by simp [h0]
 have f3 : (t.ha == 0) = true := by simp [h0]
 clear h0
 obtain ⟨bT0,bR0,hB0,hV2⟩ := pro2b w (tkc t tb tf) [.int .i64 0,.int .u16 0,.int .u16 0,.int .u16 0,.slice none 0 0,.int .i64 0,.slice none 0 0,.bool false] 26 26
 have q0 := bT0.cell (j := 0) (v := .int .i64 7) (by rw [← hk]; rfl)
 have q1 := bT0.cell (j := 1) (v := .int .u16 t.fi) rfl
 have q2 := bT0.cell (j := 2) (v := .int .u16 t.la) rfl
 have q3 := bT0.cell (j := 3) (v := .int .u16 t.ha) rfl
 clear hV2
 go_enter Try.func35,Try.ntmps35
 go_upto_region 1 with fail
 generalize hX : World.alloc (World.alloc w _) _ = V at bT0 bR0 hB0 q0 q1 q2 q3 ⊢
 clear hX
 have hth := bR0.there 0 8 (by simp)
 go_wp2_with (refine wpList_store_mid rfl 26 _ _ rfl (w.heap.size + 1) 0 #[.int .i64 0,.int .u16 0,.int .u16 0,.int .u16 0,.slice none 0 0,.int .i64 0,.slice none 0 0,.bool false] rfl rfl hth (by kernel_rfl) (by simp [Value.oneCell']) ?_; simp only [Act.put]; generalize hW : World.setCells V (w.heap.size + 1) 0 _ = V9; have HW := Lib.hid hW; clear hW)
 have bR4 := bR0.putAll (vs := [.int .i64 0,.int .u16 0,.int .u16 0,.int .u16 0,.slice none 0 0,.int .i64 0,.slice none 0 0,.bool false]) rfl
 have hg4 := setCells_grown (w.heap.size + 1) [.int .i64 0,.int .u16 0,.int .u16 0,.int .u16 0,.slice none 0 0,.int .i64 0,.slice none 0 0,.bool false] 0 V
 rw [show World.setCells V (w.heap.size + 1) 0 [.int .i64 0,.int .u16 0,.int .u16 0,.int .u16 0,.slice none 0 0,.int .i64 0,.slice none 0 0,.bool false] = V9 from HW.out] at bR4 hg4
 have hB4 := hB0.grown hg4 (by have := bR0.lt; omega) (fun k hk => by cases hk; omega)
 have hl := run_loadVar_row (P := Try.prog) _ (w.heap.size + 1) 26 26 _ (0,0) _ bR4 Try.underlying26 rfl (by kernel_rfl)
 refine bodyPost_ret (v := .tuple #[.agg #[.int .i64 0,.int .u16 0,.int .u16 0,.int .u16 0,.slice none 0 0,.int .i64 0,.slice none 0 0,.bool false],.int .i64 5]) (by rw [results_cell_tmp rfl]; simp [asAddr,hl]) rfl ?_
 exact ⟨.slice none 0 0,rfl,BD.nil _ R0,hB4⟩
theorem rchk_v7l (t : Tk) (tb tf : Value) (R0 : List (Option Nat)) (w : World) (hb : BV w tb t.vs) (hR0 : ∀ i,some i ∈ R0 → i < w.heap.size) (hk : t.kd = 7) (h0 : ¬ t.ha = 0) (h1 : 512 < t.vs.length) :
 Calls Try.prog 35 #[.agg (tkc t tb tf).toArray] w fun e w' => ∃ bv,e = .returned (.tuple #[.agg (tkc tk0 bv (.slice none 0 0)).toArray,.int .i64 4]) ∧ BD w' R0 bv (tk0 : Tk).vs ∧ Below w.heap.size w w' := by
 have f1 : ((t.ha : Int) == 0) = false := by simp; omega
 have f2 : decide (t.ha = 0) = false := by simp [h0]
 have f3 : (t.ha == 0) = false := by simp [h0]
 clear h0
 obtain ⟨a,cc,rfl⟩ := hb.form
 obtain ⟨L,hL⟩ : ∃ L,t.vs.length = L := ⟨_,rfl⟩
 rw [hL] at hb h1 ⊢
 have g1 : decide (512 < L) = true := by simpa using h1
 have g2 : decide ((512 : Int) < (L : Int)) = true := by simp; omega
 clear h1
 obtain ⟨bT0,bR0,hB0,hV2⟩ := pro2b w  (tkc t (.slice a L cc) tf) [.int .i64 0,.int .u16 0,.int .u16 0,.int .u16 0,.slice none 0 0,.int .i64 0,.slice none 0 0,.bool false] 26 26
 have q0 := bT0.cell (j := 0) (v := .int .i64 7) (by rw [← hk]; rfl)
 have q1 := bT0.cell (j := 1) (v := .int .u16 t.fi) rfl
 have q2 := bT0.cell (j := 2) (v := .int .u16 t.la) rfl
 have q3 := bT0.cell (j := 3) (v := .int .u16 t.ha) rfl
 have q4 := bT0.cell (j := 4) (v := .slice a L cc) rfl
 clear hV2
 go_enter Try.func35,Try.ntmps35
 go_upto_region 1 with fail
 generalize hX : World.alloc (World.alloc w _) _ = V at bT0 bR0 hB0 q0 q1 q2 q3 q4 ⊢
 clear hX
 have hth := bR0.there 0 8 (by simp)
 go_wp2_with (refine wpList_store_mid rfl 26 _ _ rfl (w.heap.size + 1) 0 #[.int .i64 0,.int .u16 0,.int .u16 0,.int .u16 0,.slice none 0 0,.int .i64 0,.slice none 0 0,.bool false] rfl rfl hth (by kernel_rfl) (by simp [Value.oneCell']) ?_; simp only [Act.put]; generalize hW : World.setCells V (w.heap.size + 1) 0 _ = V9; have HW := Lib.hid hW; clear hW)
 have bR4 := bR0.putAll (vs := [.int .i64 0,.int .u16 0,.int .u16 0,.int .u16 0,.slice none 0 0,.int .i64 0,.slice none 0 0,.bool false]) rfl
 have hg4 := setCells_grown (w.heap.size + 1) [.int .i64 0,.int .u16 0,.int .u16 0,.int .u16 0,.slice none 0 0,.int .i64 0,.slice none 0 0,.bool false] 0 V
 rw [show World.setCells V (w.heap.size + 1) 0 [.int .i64 0,.int .u16 0,.int .u16 0,.int .u16 0,.slice none 0 0,.int .i64 0,.slice none 0 0,.bool false] = V9 from HW.out] at bR4 hg4
 have hB4 := hB0.grown hg4 (by have := bR0.lt; omega) (fun k hk => by cases hk; omega)
 have hl := run_loadVar_row (P := Try.prog) _ (w.heap.size + 1) 26 26 _ (0,0) _ bR4 Try.underlying26 rfl (by kernel_rfl)
 refine bodyPost_ret (v := .tuple #[.agg #[.int .i64 0,.int .u16 0,.int .u16 0,.int .u16 0,.slice none 0 0,.int .i64 0,.slice none 0 0,.bool false],.int .i64 4]) (by rw [results_cell_tmp rfl]; simp [asAddr,hl]) rfl ?_
 exact ⟨.slice none 0 0,rfl,BD.nil _ R0,hB4⟩
theorem rchk_v7 (t : Tk) (tb tf : Value) (R0 : List (Option Nat)) (w : World) (hb : BV w tb t.vs) (hR0 : ∀ i,some i ∈ R0 → i < w.heap.size) (hk : t.kd = 7) (h0 : ¬ t.ha = 0) (h1 : ¬ 512 < t.vs.length) :
 Calls Try.prog 35 #[.agg (tkc t tb tf).toArray] w fun e w' => ∃ bv,e = .returned (.tuple #[.agg (tkc { tk0 with kd := 7,ha := t.ha,vs := t.vs } bv (.slice none 0 0)).toArray,.int .i64 0]) ∧ BD w' R0 bv ({ tk0 with kd := 7,ha := t.ha,vs := t.vs } : Tk).vs ∧ Below w.heap.size w w' := by
 obtain ⟨i0,hi0,hi1,hi2,hi3⟩ := info_parts Try.info_u8
 have f1 : ((t.ha : Int) == 0) = false := by simp; omega
 have f2 : decide (t.ha = 0) = false := by simp [h0]
 have f3 : (t.ha == 0) = false := by simp [h0]
 clear h0
 obtain ⟨a,cc,rfl⟩ := hb.form
 obtain ⟨L,hL⟩ : ∃ L,t.vs.length = L := ⟨_,rfl⟩
 rw [hL] at hb h1 ⊢
 have g1 : decide (512 < L) = false := by simpa using h1
 have g2 : decide ((512 : Int) < (L : Int)) = false := by simp; omega
 obtain ⟨bT0,bR0,hB0,hV2⟩ := pro2b w (tkc t (.slice a L cc) tf) [.int .i64 0,.int .u16 0,.int .u16 0,.int .u16 0,.slice none 0 0,.int .i64 0,.slice none 0 0,.bool false] 26 26
 have q0 := bT0.cell (j := 0) (v := .int .i64 7) (by rw [← hk]; rfl)
 have q3 := bT0.cell (j := 3) (v := .int .u16 t.ha) rfl
 have q4 := bT0.cell (j := 4) (v := .slice a L cc) rfl
 have HB := Lib.hid (hb.below hB0)
 have HL := Lib.hid hL
 have HR0 := Lib.hid hR0
 clear hV2 hb hL hk hR0
 go_enter Try.func35,Try.ntmps35
 go_upto_region 1 with fail
 generalize hX : World.alloc (World.alloc w _) _ = V at bT0 bR0 hB0 q0 q3 q4 HB ⊢
 clear hX
 go_upto_region 24 with fail
 have bR1 := bR0.drew
 have hB1 := hB0.drew
 have T0 := (show Cells V.drew [(w.heap.size,0,.int .i64 7),(w.heap.size,3,.int .u16 t.ha),(w.heap.size,4,.slice a L cc)] from ⟨kc q0 (Below.refl _ V).drew,kc q3 (Below.refl _ V).drew,kc q4 (Below.refl _ V).drew,trivial⟩)
 have hv1 := HB.out.below (Below.refl _ V).drew
 clear bT0 bR0 hB0 q0 q3 q4 HB f1 f2 f3 g1 g2
 refine wp_region_held_drew (S := (fun W' : World => Cells W' [(w.heap.size,0,.int .i64 7),(w.heap.size,3,.int .u16 t.ha),(w.heap.size,4,.slice a L cc)])) (by kernel_rfl) (T0) (fun hHeld => ?_)
 generalize World.drew _ = wd at hHeld bR1 hB1 T0 hv1 ⊢
 refine tkU 0 ?_
 refine tkU 1 ?_
 refine tkU 2 ?_
 refine tkU 3 ?_
 refine tkU 5 ?_
 refine tkU 6 ?_
 refine rd1 4 fun K hK => ?_
 go_simp
 generalize hX : World.alloc _ (.cells _ 5) = w3
 obtain ⟨_,hBx,hz3⟩ := alloc_named hX
 have hgn : w.heap.size + 2 ≤ wd.heap.size := bR1.lt
 have bR3 := bR1.below hBx
 have hB3 := hB1.trans (hBx.mono hB1.size)
 have T3 := T0.keep hBx
 have hv3 := hv1.below hBx
 have hsr := hv3.sr
 rw [HL.out] at hsr
 have hgn3 : w.heap.size + 2 ≤ w3.heap.size := by omega
 clear hX hBx hz3 bR1 hB1 T0 hv1
 clear hHeld
 refine hK.out _ _ (T3) (fun hHeld => ?_)
 clear hK K
 try simp only [Act.put,List.setIfInBounds_toArray,List.set_cons_zero,List.set_cons_succ]
 refine rd1 7 fun K hK => ?_
 refine step_app0 (by rfl) _ _ 23 (by rfl) 5 i0 _ 1 1 Try.underlying23 hi0 hi1 hi2 hi3 rfl (by decide) _ (by rfl) (.slice a L cc) L (bcells t.vs) (by rfl) hsr (by omega) ?_
 intro b4 c4 w4 hsr4 hc4 hBx ho4
 have hpv : BD w4 (some (w.heap.size + 1) :: R0) (.slice b4 L c4) t.vs := bd_new hsr4 HL.out hc4 (by omega) (BV.at hv3).2.2 ho4 (fun hm => by
  rcases List.mem_cons.1 hm with h | h
  ·injection h with h; omega
  ·have := HR0.out _ h; omega) (fun hm => by
  rcases List.mem_cons.1 hm with h | h
  ·injection h with h; omega
  ·have := HR0.out _ h; omega)
 have bR4 := bR3.below hBx
 have hB4 := hB3.trans (hBx.mono hB3.size)
 have T4 := T3.keep hBx
 clear hsr4 hc4 hBx ho4 hsr hv3 bR3 hB3 T3
 clear hHeld
 refine hK.out _ _ (T4) (fun hHeld => ?_)
 clear hK K
 try simp only [Act.put,List.setIfInBounds_toArray,List.set_cons_zero,List.set_cons_succ]
 refine tkU 8 ?_
 refine rd1 9 fun K hK => ?_
 refine step_store_mid (by rfl) 26 _ _ (by rfl) (w.heap.size + 1) 0 #[.int .i64 7,.int .u16 0,.int .u16 0,.int .u16 t.ha,.slice b4 L c4,.int .i64 0,.slice none 0 0,.bool false] (by rfl) (by rfl) (bR4.there 0 8 (by simp)) (by kernel_rfl) (by simp [Value.oneCell']) ?_
 have hg5 := setCells_grown (w.heap.size + 1) [.int .i64 7,.int .u16 0,.int .u16 0,.int .u16 t.ha,.slice b4 L c4,.int .i64 0,.slice none 0 0,.bool false] 0 w4
 have bR5 := bR4.putAll (vs := [.int .i64 7,.int .u16 0,.int .u16 0,.int .u16 t.ha,.slice b4 L c4,.int .i64 0,.slice none 0 0,.bool false]) rfl
 have hB5 := hB4.grown hg5 hB4.size (fun k hk => by cases hk; omega)
 have hpv5 := hpv.turned hg5 (fun k hk => .inl (by cases hk; simp))
 have T5 : Cells (w4.setCells (w.heap.size + 1) 0 [.int .i64 7,.int .u16 0,.int .u16 0,.int .u16 t.ha,.slice b4 L c4,.int .i64 0,.slice none 0 0,.bool false]) [(w.heap.size,0,.int .i64 7),(w.heap.size,3,.int .u16 t.ha),(w.heap.size,4,.slice a L cc)] := T4.grown hg5 (fun x hx => by simp at hx; rcases hx with rfl | rfl | rfl <;> simp)
 generalize hX : World.setCells _ (w.heap.size + 1) 0 _ = w5
 rw [show World.setCells w4 (w.heap.size + 1) 0 [.int .i64 7,.int .u16 0,.int .u16 0,.int .u16 t.ha,.slice b4 L c4,.int .i64 0,.slice none 0 0,.bool false] = w5 from hX] at bR5 hB5 hpv5 T5
 clear hX hg5 bR4 hB4 hpv T4
 clear hHeld
 refine hK.out _ _ (T5) (fun hHeld => ?_)
 clear hK K
 try simp only [Act.put,List.setIfInBounds_toArray,List.set_cons_zero,List.set_cons_succ]
 refine tkU 10 ?_
 refine wpAnyH_done (by kernel_rfl) ?_ _
 go_wp2_with fail
 have hl := run_loadVar_row (P := Try.prog) _ (w.heap.size + 1) 26 26 _ (0,0) _ bR5 Try.underlying26 rfl (by kernel_rfl)
 exact bodyPost_ret (v := .tuple #[.agg #[.int .i64 7,.int .u16 0,.int .u16 0,.int .u16 t.ha,.slice b4 L c4,.int .i64 0,.slice none 0 0,.bool false],.int .i64 0]) (by rw [results_cell_tmp rfl]; simp [asAddr,hl]) rfl ⟨.slice b4 L c4,rfl,hpv5.less (fun r hr => by simp [hr]),hB5⟩
theorem rchk_v8z (t : Tk) (tb tf : Value) (R0 : List (Option Nat)) (w : World) (hb : BV w tb t.vs) (hR0 : ∀ i,some i ∈ R0 → i < w.heap.size) (hk : t.kd = 8) (h0 : t.ha = 0) :
 Calls Try.prog 35 #[.agg (tkc t tb tf).toArray] w fun e w' => ∃ bv,e = .returned (.tuple #[.agg (tkc tk0 bv (.slice none 0 0)).toArray,.int .i64 5]) ∧ BD w' R0 bv (tk0 : Tk).vs ∧ Below w.heap.size w w' := by
 have f1 : ((t.ha : Int) == 0) = true := by simp [h0]
 have f2 : decide (t.ha = 0) = true := by simp [h0]
 have f3 : (t.ha == 0) = true := by simp [h0]
 clear h0
 obtain ⟨bT0,bR0,hB0,hV2⟩ := pro2b w (tkc t tb tf) [.int .i64 0,.int .u16 0,.int .u16 0,.int .u16 0,.slice none 0 0,.int .i64 0,.slice none 0 0,.bool false] 26 26
 have q0 := bT0.cell (j := 0) (v := .int .i64 8) (by rw [← hk]; rfl)
 have q1 := bT0.cell (j := 1) (v := .int .u16 t.fi) rfl
 have q2 := bT0.cell (j := 2) (v := .int .u16 t.la) rfl
 have q3 := bT0.cell (j := 3) (v := .int .u16 t.ha) rfl
 clear hV2
 go_enter Try.func35,Try.ntmps35
 go_upto_region 1 with fail
 generalize hX : World.alloc (World.alloc w _) _ = V at bT0 bR0 hB0 q0 q1 q2 q3 ⊢
 clear hX
 have hth := bR0.there 0 8 (by simp)
 go_wp2_with (refine wpList_store_mid rfl 26 _ _ rfl (w.heap.size + 1) 0 #[.int .i64 0,.int .u16 0,.int .u16 0,.int .u16 0,.slice none 0 0,.int .i64 0,.slice none 0 0,.bool false] rfl rfl hth (by kernel_rfl) (by simp [Value.oneCell']) ?_; simp only [Act.put]; generalize hW : World.setCells V (w.heap.size + 1) 0 _ = V9; have HW := Lib.hid hW; clear hW)
 have bR4 := bR0.putAll (vs := [.int .i64 0,.int .u16 0,.int .u16 0,.int .u16 0,.slice none 0 0,.int .i64 0,.slice none 0 0,.bool false]) rfl
 have hg4 := setCells_grown (w.heap.size + 1) [.int .i64 0,.int .u16 0,.int .u16 0,.int .u16 0,.slice none 0 0,.int .i64 0,.slice none 0 0,.bool false] 0 V
 rw [show World.setCells V (w.heap.size + 1) 0 [.int .i64 0,.int .u16 0,.int .u16 0,.int .u16 0,.slice none 0 0,.int .i64 0,.slice none 0 0,.bool false] = V9 from HW.out] at bR4 hg4
 have hB4 := hB0.grown hg4 (by have := bR0.lt; omega) (fun k hk => by cases hk; omega)
 have hl := run_loadVar_row (P := Try.prog) _ (w.heap.size + 1) 26 26 _ (0,0) _ bR4 Try.underlying26 rfl (by kernel_rfl)
 refine bodyPost_ret (v := .tuple #[.agg #[.int .i64 0,.int .u16 0,.int .u16 0,.int .u16 0,.slice none 0 0,.int .i64 0,.slice none 0 0,.bool false],.int .i64 5]) (by rw [results_cell_tmp rfl]; simp [asAddr,hl]) rfl ?_
 exact ⟨.slice none 0 0,rfl,BD.nil _ R0,hB4⟩
theorem rchk_v8l (t : Tk) (tb tf : Value) (R0 : List (Option Nat)) (w : World) (hb : BV w tb t.vs) (hR0 : ∀ i,some i ∈ R0 → i < w.heap.size) (hk : t.kd = 8) (h0 : ¬ t.ha = 0) (h1 : 512 < t.vs.length) :
 Calls Try.prog 35 #[.agg (tkc t tb tf).toArray] w fun e w' => ∃ bv,e = .returned (.tuple #[.agg (tkc tk0 bv (.slice none 0 0)).toArray,.int .i64 4]) ∧ BD w' R0 bv (tk0 : Tk).vs ∧ Below w.heap.size w w' := by
 have f1 : ((t.ha : Int) == 0) = false := by simp; omega
 have f2 : decide (t.ha = 0) = false := by simp [h0]
 have f3 : (t.ha == 0) = false := by simp [h0]
 clear h0
 obtain ⟨a,cc,rfl⟩ := hb.form
 obtain ⟨L,hL⟩ : ∃ L,t.vs.length = L := ⟨_,rfl⟩
 rw [hL] at hb h1 ⊢
 have g1 : decide (512 < L) = true := by simpa using h1
 have g2 : decide ((512 : Int) < (L : Int)) = true := by simp; omega
 clear h1
 obtain ⟨bT0,bR0,hB0,hV2⟩ := pro2b w  (tkc t (.slice a L cc) tf) [.int .i64 0,.int .u16 0,.int .u16 0,.int .u16 0,.slice none 0 0,.int .i64 0,.slice none 0 0,.bool false] 26 26
 have q0 := bT0.cell (j := 0) (v := .int .i64 8) (by rw [← hk]; rfl)
 have q1 := bT0.cell (j := 1) (v := .int .u16 t.fi) rfl
 have q2 := bT0.cell (j := 2) (v := .int .u16 t.la) rfl
 have q3 := bT0.cell (j := 3) (v := .int .u16 t.ha) rfl
 have q4 := bT0.cell (j := 4) (v := .slice a L cc) rfl
 clear hV2
 go_enter Try.func35,Try.ntmps35
 go_upto_region 1 with fail
 generalize hX : World.alloc (World.alloc w _) _ = V at bT0 bR0 hB0 q0 q1 q2 q3 q4 ⊢
 clear hX
 have hth := bR0.there 0 8 (by simp)
 go_wp2_with (refine wpList_store_mid rfl 26 _ _ rfl (w.heap.size + 1) 0 #[.int .i64 0,.int .u16 0,.int .u16 0,.int .u16 0,.slice none 0 0,.int .i64 0,.slice none 0 0,.bool false] rfl rfl hth (by kernel_rfl) (by simp [Value.oneCell']) ?_; simp only [Act.put]; generalize hW : World.setCells V (w.heap.size + 1) 0 _ = V9; have HW := Lib.hid hW; clear hW)
 have bR4 := bR0.putAll (vs := [.int .i64 0,.int .u16 0,.int .u16 0,.int .u16 0,.slice none 0 0,.int .i64 0,.slice none 0 0,.bool false]) rfl
 have hg4 := setCells_grown (w.heap.size + 1) [.int .i64 0,.int .u16 0,.int .u16 0,.int .u16 0,.slice none 0 0,.int .i64 0,.slice none 0 0,.bool false] 0 V
 rw [show World.setCells V (w.heap.size + 1) 0 [.int .i64 0,.int .u16 0,.int .u16 0,.int .u16 0,.slice none 0 0,.int .i64 0,.slice none 0 0,.bool false] = V9 from HW.out] at bR4 hg4
 have hB4 := hB0.grown hg4 (by have := bR0.lt; omega) (fun k hk => by cases hk; omega)
 have hl := run_loadVar_row (P := Try.prog) _ (w.heap.size + 1) 26 26 _ (0,0) _ bR4 Try.underlying26 rfl (by kernel_rfl)
 refine bodyPost_ret (v := .tuple #[.agg #[.int .i64 0,.int .u16 0,.int .u16 0,.int .u16 0,.slice none 0 0,.int .i64 0,.slice none 0 0,.bool false],.int .i64 4]) (by rw [results_cell_tmp rfl]; simp [asAddr,hl]) rfl ?_
 exact ⟨.slice none 0 0,rfl,BD.nil _ R0,hB4⟩
theorem rchk_v8 (t : Tk) (tb tf : Value) (R0 : List (Option Nat)) (w : World) (hb : BV w tb t.vs) (hR0 : ∀ i,some i ∈ R0 → i < w.heap.size) (hk : t.kd = 8) (h0 : ¬ t.ha = 0) (h1 : ¬ 512 < t.vs.length) :
 Calls Try.prog 35 #[.agg (tkc t tb tf).toArray] w fun e w' => ∃ bv,e = .returned (.tuple #[.agg (tkc { tk0 with kd := 8,ha := t.ha,vs := t.vs } bv (.slice none 0 0)).toArray,.int .i64 0]) ∧ BD w' R0 bv ({ tk0 with kd := 8,ha := t.ha,vs := t.vs } : Tk).vs ∧ Below w.heap.size w w' := by
 obtain ⟨i0,hi0,hi1,hi2,hi3⟩ := info_parts Try.info_u8
 have f1 : ((t.ha : Int) == 0) = false := by simp; omega
 have f2 : decide (t.ha = 0) = false := by simp [h0]
 have f3 : (t.ha == 0) = false := by simp [h0]
 clear h0
 obtain ⟨a,cc,rfl⟩ := hb.form
 obtain ⟨L,hL⟩ : ∃ L,t.vs.length = L := ⟨_,rfl⟩
 rw [hL] at hb h1 ⊢
 have g1 : decide (512 < L) = false := by simpa using h1
 have g2 : decide ((512 : Int) < (L : Int)) = false := by simp; omega
 obtain ⟨bT0,bR0,hB0,hV2⟩ := pro2b w (tkc t (.slice a L cc) tf) [.int .i64 0,.int .u16 0,.int .u16 0,.int .u16 0,.slice none 0 0,.int .i64 0,.slice none 0 0,.bool false] 26 26
 have q0 := bT0.cell (j := 0) (v := .int .i64 8) (by rw [← hk]; rfl)
 have q3 := bT0.cell (j := 3) (v := .int .u16 t.ha) rfl
 have q4 := bT0.cell (j := 4) (v := .slice a L cc) rfl
 have HB := Lib.hid (hb.below hB0)
 have HL := Lib.hid hL
 have HR0 := Lib.hid hR0
 clear hV2 hb hL hk hR0
 go_enter Try.func35,Try.ntmps35
 go_upto_region 1 with fail
 generalize hX : World.alloc (World.alloc w _) _ = V at bT0 bR0 hB0 q0 q3 q4 HB ⊢
 clear hX
 go_upto_region 24 with fail
 have bR1 := bR0.drew
 have hB1 := hB0.drew
 have T0 := (show Cells V.drew [(w.heap.size,0,.int .i64 8),(w.heap.size,3,.int .u16 t.ha),(w.heap.size,4,.slice a L cc)] from ⟨kc q0 (Below.refl _ V).drew,kc q3 (Below.refl _ V).drew,kc q4 (Below.refl _ V).drew,trivial⟩)
 have hv1 := HB.out.below (Below.refl _ V).drew
 clear bT0 bR0 hB0 q0 q3 q4 HB f1 f2 f3 g1 g2
 refine wp_region_held_drew (S := (fun W' : World => Cells W' [(w.heap.size,0,.int .i64 8),(w.heap.size,3,.int .u16 t.ha),(w.heap.size,4,.slice a L cc)])) (by kernel_rfl) (T0) (fun hHeld => ?_)
 generalize World.drew _ = wd at hHeld bR1 hB1 T0 hv1 ⊢
 refine tkU 0 ?_
 refine tkU 1 ?_
 refine tkU 2 ?_
 refine tkU 3 ?_
 refine tkU 5 ?_
 refine tkU 6 ?_
 refine rd1 4 fun K hK => ?_
 go_simp
 generalize hX : World.alloc _ (.cells _ 5) = w3
 obtain ⟨_,hBx,hz3⟩ := alloc_named hX
 have hgn : w.heap.size + 2 ≤ wd.heap.size := bR1.lt
 have bR3 := bR1.below hBx
 have hB3 := hB1.trans (hBx.mono hB1.size)
 have T3 := T0.keep hBx
 have hv3 := hv1.below hBx
 have hsr := hv3.sr
 rw [HL.out] at hsr
 have hgn3 : w.heap.size + 2 ≤ w3.heap.size := by omega
 clear hX hBx hz3 bR1 hB1 T0 hv1
 clear hHeld
 refine hK.out _ _ (T3) (fun hHeld => ?_)
 clear hK K
 try simp only [Act.put,List.setIfInBounds_toArray,List.set_cons_zero,List.set_cons_succ]
 refine rd1 7 fun K hK => ?_
 refine step_app0 (by rfl) _ _ 23 (by rfl) 5 i0 _ 1 1 Try.underlying23 hi0 hi1 hi2 hi3 rfl (by decide) _ (by rfl) (.slice a L cc) L (bcells t.vs) (by rfl) hsr (by omega) ?_
 intro b4 c4 w4 hsr4 hc4 hBx ho4
 have hpv : BD w4 (some (w.heap.size + 1) :: R0) (.slice b4 L c4) t.vs := bd_new hsr4 HL.out hc4 (by omega) (BV.at hv3).2.2 ho4 (fun hm => by
  rcases List.mem_cons.1 hm with h | h
  ·injection h with h; omega
  ·have := HR0.out _ h; omega) (fun hm => by
  rcases List.mem_cons.1 hm with h | h
  ·injection h with h; omega
  ·have := HR0.out _ h; omega)
 have bR4 := bR3.below hBx
 have hB4 := hB3.trans (hBx.mono hB3.size)
 have T4 := T3.keep hBx
 clear hsr4 hc4 hBx ho4 hsr hv3 bR3 hB3 T3
 clear hHeld
 refine hK.out _ _ (T4) (fun hHeld => ?_)
 clear hK K
 try simp only [Act.put,List.setIfInBounds_toArray,List.set_cons_zero,List.set_cons_succ]
 refine tkU 8 ?_
 refine rd1 9 fun K hK => ?_
 refine step_store_mid (by rfl) 26 _ _ (by rfl) (w.heap.size + 1) 0 #[.int .i64 8,.int .u16 0,.int .u16 0,.int .u16 t.ha,.slice b4 L c4,.int .i64 0,.slice none 0 0,.bool false] (by rfl) (by rfl) (bR4.there 0 8 (by simp)) (by kernel_rfl) (by simp [Value.oneCell']) ?_
 have hg5 := setCells_grown (w.heap.size + 1) [.int .i64 8,.int .u16 0,.int .u16 0,.int .u16 t.ha,.slice b4 L c4,.int .i64 0,.slice none 0 0,.bool false] 0 w4
 have bR5 := bR4.putAll (vs := [.int .i64 8,.int .u16 0,.int .u16 0,.int .u16 t.ha,.slice b4 L c4,.int .i64 0,.slice none 0 0,.bool false]) rfl
 have hB5 := hB4.grown hg5 hB4.size (fun k hk => by cases hk; omega)
 have hpv5 := hpv.turned hg5 (fun k hk => .inl (by cases hk; simp))
 have T5 : Cells (w4.setCells (w.heap.size + 1) 0 [.int .i64 8,.int .u16 0,.int .u16 0,.int .u16 t.ha,.slice b4 L c4,.int .i64 0,.slice none 0 0,.bool false]) [(w.heap.size,0,.int .i64 8),(w.heap.size,3,.int .u16 t.ha),(w.heap.size,4,.slice a L cc)] := T4.grown hg5 (fun x hx => by simp at hx; rcases hx with rfl | rfl | rfl <;> simp)
 generalize hX : World.setCells _ (w.heap.size + 1) 0 _ = w5
 rw [show World.setCells w4 (w.heap.size + 1) 0 [.int .i64 8,.int .u16 0,.int .u16 0,.int .u16 t.ha,.slice b4 L c4,.int .i64 0,.slice none 0 0,.bool false] = w5 from hX] at bR5 hB5 hpv5 T5
 clear hX hg5 bR4 hB4 hpv T4
 clear hHeld
 refine hK.out _ _ (T5) (fun hHeld => ?_)
 clear hK K
 try simp only [Act.put,List.setIfInBounds_toArray,List.set_cons_zero,List.set_cons_succ]
 refine tkU 10 ?_
 refine wpAnyH_done (by kernel_rfl) ?_ _
 go_wp2_with fail
 have hl := run_loadVar_row (P := Try.prog) _ (w.heap.size + 1) 26 26 _ (0,0) _ bR5 Try.underlying26 rfl (by kernel_rfl)
 exact bodyPost_ret (v := .tuple #[.agg #[.int .i64 8,.int .u16 0,.int .u16 0,.int .u16 t.ha,.slice b4 L c4,.int .i64 0,.slice none 0 0,.bool false],.int .i64 0]) (by rw [results_cell_tmp rfl]; simp [asAddr,hl]) rfl ⟨.slice b4 L c4,rfl,hpv5.less (fun r hr => by simp [hr]),hB5⟩
theorem rchk_none (t : Tk) (tb tf : Value) (R0 : List (Option Nat)) (w : World) (hb : BV w tb t.vs) (hR0 : ∀ i,some i ∈ R0 → i < w.heap.size) (hk : ¬ (1 ≤ t.kd ∧ t.kd ≤ 9)) :
 Calls Try.prog 35 #[.agg (tkc t tb tf).toArray] w fun e w' => ∃ bv,e = .returned (.tuple #[.agg (tkc tk0 bv (.slice none 0 0)).toArray,.int .i64 12]) ∧ BD w' R0 bv (tk0 : Tk).vs ∧ Below w.heap.size w w' := by
 have n1 : (t.kd == 1) = false := by simp; omega
 have n2 : (t.kd == 2) = false := by simp; omega
 have n3 : (t.kd == 3) = false := by simp; omega
 have n4 : (t.kd == 4) = false := by simp; omega
 have n5 : (t.kd == 5) = false := by simp; omega
 have n6 : (t.kd == 6) = false := by simp; omega
 have n7 : (t.kd == 7) = false := by simp; omega
 have n8 : (t.kd == 8) = false := by simp; omega
 have n9 : (t.kd == 9) = false := by simp; omega
 clear hk
 obtain ⟨bT0,bR0,hB0,hV2⟩ := pro2b w (tkc t tb tf) [.int .i64 0,.int .u16 0,.int .u16 0,.int .u16 0,.slice none 0 0,.int .i64 0,.slice none 0 0,.bool false] 26 26
 have q0 := bT0.cell (j := 0) (v := .int .i64 t.kd) rfl
 have q1 := bT0.cell (j := 1) (v := .int .u16 t.fi) rfl
 have q2 := bT0.cell (j := 2) (v := .int .u16 t.la) rfl
 have q3 := bT0.cell (j := 3) (v := .int .u16 t.ha) rfl
 clear hV2
 go_enter Try.func35,Try.ntmps35
 go_upto_region 1 with fail
 generalize hX : World.alloc (World.alloc w _) _ = V at bT0 bR0 hB0 q0 q1 q2 q3 ⊢
 clear hX
 have hth := bR0.there 0 8 (by simp)
 go_wp2_with (refine wpList_store_mid rfl 26 _ _ rfl (w.heap.size + 1) 0 #[.int .i64 0,.int .u16 0,.int .u16 0,.int .u16 0,.slice none 0 0,.int .i64 0,.slice none 0 0,.bool false] rfl rfl hth (by kernel_rfl) (by simp [Value.oneCell']) ?_; simp only [Act.put]; generalize hW : World.setCells V (w.heap.size + 1) 0 _ = V9; have HW := Lib.hid hW; clear hW)
 have bR4 := bR0.putAll (vs := [.int .i64 0,.int .u16 0,.int .u16 0,.int .u16 0,.slice none 0 0,.int .i64 0,.slice none 0 0,.bool false]) rfl
 have hg4 := setCells_grown (w.heap.size + 1) [.int .i64 0,.int .u16 0,.int .u16 0,.int .u16 0,.slice none 0 0,.int .i64 0,.slice none 0 0,.bool false] 0 V
 rw [show World.setCells V (w.heap.size + 1) 0 [.int .i64 0,.int .u16 0,.int .u16 0,.int .u16 0,.slice none 0 0,.int .i64 0,.slice none 0 0,.bool false] = V9 from HW.out] at bR4 hg4
 have hB4 := hB0.grown hg4 (by have := bR0.lt; omega) (fun k hk => by cases hk; omega)
 have hl := run_loadVar_row (P := Try.prog) _ (w.heap.size + 1) 26 26 _ (0,0) _ bR4 Try.underlying26 rfl (by kernel_rfl)
 refine bodyPost_ret (v := .tuple #[.agg #[.int .i64 0,.int .u16 0,.int .u16 0,.int .u16 0,.slice none 0 0,.int .i64 0,.slice none 0 0,.bool false],.int .i64 12]) (by rw [results_cell_tmp rfl]; simp [asAddr,hl]) rfl ?_
 exact ⟨.slice none 0 0,rfl,BD.nil _ R0,hB4⟩
theorem rcheck_any (t : Tk) (tb tf : Value) (R0 : List (Option Nat)) (w : World) (hb : BV w tb t.vs) (hR0 : ∀ i,some i ∈ R0 → i < w.heap.size) : Calls Try.prog 35 #[.agg (tkc t tb tf).toArray] w fun e w' => ∃ bv,e = .returned (.tuple #[.agg (tkc (rchk t).1 bv (.slice none 0 0)).toArray,.int .i64 (rchk t).2]) ∧ BD w' R0 bv (rchk t).1.vs ∧ Below w.heap.size w w' := by
 unfold rchk
 by_cases hk : 1 ≤ t.kd ∧ t.kd ≤ 9
 ·rw [if_pos hk]
  have h9 : t.kd = 1 ∨ t.kd = 2 ∨ t.kd = 3 ∨ t.kd = 4 ∨ t.kd = 5 ∨ t.kd = 6 ∨ t.kd = 7 ∨ t.kd = 8 ∨ t.kd = 9 := by omega
  unfold chkP ownP
  rcases h9 with h | h | h | h | h | h | h | h | h
  ·simpa [h] using rchk_b1 t tb tf R0 w hb hR0 h
  ·simpa [h] using rchk_b2 t tb tf R0 w hb hR0 h
  ·by_cases h0 : t.fi = 0
   ·simpa [h,h0] using rchk_r3z t tb tf R0 w hb hR0 h h0
   ·by_cases h1 : t.la < t.fi
    ·simpa [h,h0,h1] using rchk_r3o t tb tf R0 w hb hR0 h h0 h1
    ·simpa [h,h0,h1] using rchk_r3 t tb tf R0 w hb hR0 h h0 h1
  ·by_cases h0 : t.fi = 0
   ·simpa [h,h0] using rchk_r4z t tb tf R0 w hb hR0 h h0
   ·by_cases h1 : t.la < t.fi
    ·simpa [h,h0,h1] using rchk_r4o t tb tf R0 w hb hR0 h h0 h1
    ·simpa [h,h0,h1] using rchk_r4 t tb tf R0 w hb hR0 h h0 h1
  ·by_cases h0 : t.ha = 0
   ·simpa [h,h0] using rchk_h5z t tb tf R0 w hb hR0 h h0
   ·simpa [h,h0] using rchk_h5 t tb tf R0 w hb hR0 h h0
  ·by_cases h0 : t.ha = 0
   ·simpa [h,h0] using rchk_h6z t tb tf R0 w hb hR0 h h0
   ·simpa [h,h0] using rchk_h6 t tb tf R0 w hb hR0 h h0
  ·by_cases h0 : t.ha = 0
   ·simpa [h,h0] using rchk_v7z t tb tf R0 w hb hR0 h h0
   ·by_cases h1 : 512 < t.vs.length
    ·simpa [h,h0,h1] using rchk_v7l t tb tf R0 w hb hR0 h h0 h1
    ·simpa [h,h0,h1] using rchk_v7 t tb tf R0 w hb hR0 h h0 h1
  ·by_cases h0 : t.ha = 0
   ·simpa [h,h0] using rchk_v8z t tb tf R0 w hb hR0 h h0
   ·by_cases h1 : 512 < t.vs.length
    ·simpa [h,h0,h1] using rchk_v8l t tb tf R0 w hb hR0 h h0 h1
    ·simpa [h,h0,h1] using rchk_v8 t tb tf R0 w hb hR0 h h0 h1
  ·simpa [h] using rchk_b9 t tb tf R0 w hb hR0 h
 ·rw [if_neg hk]
  exact rchk_none t tb tf R0 w hb hR0 hk
end Go.Proofs.Ytldcihjddebciaa
