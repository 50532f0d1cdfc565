/- client: comparisons of equal ones. -/
import Derived.Test.YtldcihjddebciaaClX
import Derived.Test.YtldcihjddebciaaUuE
namespace Go.Proofs.Ytldcihjddebciaa
open Go.RowKit

theorem pro2c (w : World) (xs ys : List Value) (ta tb : TypeId) :
    Blk ((w.alloc (.cells xs.toArray ta)).alloc (.cells ys.toArray tb)) w.heap.size ta xs ∧ Blk ((w.alloc (.cells xs.toArray ta)).alloc (.cells ys.toArray tb)) (w.heap.size + 1) tb ys ∧ Below w.heap.size w ((w.alloc (.cells xs.toArray ta)).alloc (.cells ys.toArray tb)) := by
  have h1 : (w.alloc (.cells xs.toArray ta)).heap.size = w.heap.size + 1 := by simp
  have b1 := Blk.new (w.alloc (.cells xs.toArray ta)) tb ys
  rw [h1] at b1
  exact ⟨(Blk.new w ta xs).alloc _, b1, ((Below.refl _ _).alloc (Nat.le_refl _) _).alloc (by simp) _⟩
set_option linter.unusedSimpArgs false in
set_option linter.unusedVariables false in
set_option maxRecDepth 100000 in
set_option maxHeartbeats 2000000 in
theorem sameFound_any (l : List Fd) (v1 v2 : Value) (w : World) (h1 : SR w v1 l.length 6 (fcells l)) (h2 : SR w v2 l.length 6 (fcells l)) (hn : l.length ≤ 1000000) :
    Calls Try.prog 39 #[v1, v2] w fun e w' => e = .returned (.bool true) ∧ Below w.heap.size w w' := by
  obtain ⟨_, _, _, ao1, c1, rfl, _, H1⟩ := h1
  obtain ⟨_, _, _, ao2, c2, rfl, _, H2⟩ := h2
  obtain ⟨n, hnn⟩ : ∃ n, l.length = n := ⟨_, rfl⟩
  have HN := Lib.hid hnn
  have HH1 := Lib.hid H1
  have HH2 := Lib.hid H2
  rw [hnn] at hn ⊢
  clear hnn H1 H2
  go_enter Try.func39, Try.ntmps39
  go_wp2
  go_loopw [5] (fun vi wr => ∃ k : Nat, vi = .int .i64 k ∧ k ≤ n ∧ Below w.heap.size w wr) (fun vi _ => n - (intOf vi).toNat)
  case atStart => exact ⟨0, by go_num, Nat.zero_le _, Below.refl _ _⟩
  case round =>
    obtain ⟨k, rfl, hk, hB⟩ := hrel
    by_cases hlt : k < n
    · have hkl : k < l.length := by rw [HN.out]; exact hlt
      obtain ⟨b1, o1, rfl, l1, x1⟩ := HH1.out (by omega)
      obtain ⟨b2, o2, rfl, l2, x2⟩ := HH2.out (by omega)
      have key : ∀ (b off : Nat), (∀ j u, (fcells l)[j]? = some u → w.cell? ⟨b, off + j, none⟩ = some u) → ∀ j, j < 6 → wr.cell? ⟨b, off + k * 6 + j, none⟩ = (fenc l[k])[j]? := fun b off hcell j hj => by
        have e : (fcells l)[k * 6 + j]? = (fenc l[k])[j]? := flat_get fenc 6 (fun _ => rfl) l k j hkl hj
        obtain ⟨u, hu⟩ : ∃ u, (fenc l[k])[j]? = some u := ⟨_, List.getElem?_eq_getElem (show j < (fenc l[k]).length from hj)⟩
        rw [hu] at e ⊢
        have := kc (hcell _ _ e) hB
        rwa [← Nat.add_assoc] at this
      have q1 := key b1 o1 x1
      have q2 := key b2 o2 x2
      obtain ⟨⟨a0, a1, a2, a3, a4, a5⟩, hx⟩ : ∃ x, l[k] = x := ⟨_, rfl⟩
      rw [hx] at q1 q2
      have T : Cells wr (blk b1 (o1 + k * 6) 0 [.int .u16 a0, .int .u16 a1, .int .u16 a2, .int .i64 a3, .int .u64 a4, .int .u64 a5] ++ blk b2 (o2 + k * 6) 0 [.int .u16 a0, .int .u16 a1, .int .u16 a2, .int .i64 a3, .int .u64 a4, .int .u64 a5]) :=
        (show Cells wr (blk b1 (o1 + k * 6) 0 [.int .u16 a0, .int .u16 a1, .int .u16 a2, .int .i64 a3, .int .u64 a4, .int .u64 a5]) from ⟨q1 0 (by decide), q1 1 (by decide), q1 2 (by decide), q1 3 (by decide), q1 4 (by decide), q1 5 (by decide), trivial⟩).app
        ⟨q2 0 (by decide), q2 1 (by decide), q2 2 (by decide), q2 3 (by decide), q2 4 (by decide), q2 5 (by decide), trivial⟩
      have i1 : (k : Int) < (n : Int) := by omega
      have g1 : decide (k < n) = true := by simpa using hlt
      have w1 : IntKind.i64.wrap ((k : Int) + 1) = (k : Int) + 1 := IntWalk.i64_in _ (by omega)
      have HBD := Lib.hid hB.drew
      clear x1 x2 key q1 q2 hx
      go_wp2_with fail
      refine wp_region_held_drew (S := (fun W' : World => Cells W' (blk b1 (o1 + k * 6) 0 [.int .u16 a0, .int .u16 a1, .int .u16 a2, .int .i64 a3, .int .u64 a4, .int .u64 a5] ++ blk b2 (o2 + k * 6) 0 [.int .u16 a0, .int .u16 a1, .int .u16 a2, .int .i64 a3, .int .u64 a4, .int .u64 a5]))) (by kernel_rfl) (T.drew) (fun hHeld => ?_)
      refine tkT 0 ?_
      simp only [Act.put, List.setIfInBounds_toArray, List.set_cons_zero, List.set_cons_succ]
      refine tkT 1 ?_
      simp only [Act.put, List.setIfInBounds_toArray, List.set_cons_zero, List.set_cons_succ]
      refine tkT 2 ?_
      simp only [Act.put, List.setIfInBounds_toArray, List.set_cons_zero, List.set_cons_succ]
      refine tkT 3 ?_
      simp only [Act.put, List.setIfInBounds_toArray, List.set_cons_zero, List.set_cons_succ]
      refine tkT 4 ?_
      simp only [Act.put, List.setIfInBounds_toArray, List.set_cons_zero, List.set_cons_succ]
      refine tkT 5 ?_
      simp only [Act.put, List.setIfInBounds_toArray, List.set_cons_zero, List.set_cons_succ]
      refine tkT 6 ?_
      simp only [Act.put, List.setIfInBounds_toArray, List.set_cons_zero, List.set_cons_succ]
      refine tkT 7 ?_
      simp only [Act.put, List.setIfInBounds_toArray, List.set_cons_zero, List.set_cons_succ]
      refine tkT 8 ?_
      simp only [Act.put, List.setIfInBounds_toArray, List.set_cons_zero, List.set_cons_succ]
      refine wpAnyH_done (by kernel_rfl) ?_ _
      go_wp2
      refine ⟨⟨k + 1, by simp, hlt, HBD.out⟩, ?_⟩
      simp [intOf]
      omega
    · have g1 : decide (k < n) = false := by simpa using hlt
      go_wp2
      go_ret
      exact ⟨rfl, hB⟩
set_option linter.unusedSimpArgs false in
set_option linter.unusedVariables false in
set_option maxRecDepth 100000 in
set_option maxHeartbeats 4000000 in
theorem sameItems0 (a1 a2 : Option Addr) (d1 d2 : Nat) (w : World) : Calls Try.prog 41 #[.slice a1 0 d1, .slice a2 0 d2] w fun e w' => e = .returned (.bool true) ∧ w = w' := by
  go_enter Try.func41, Try.ntmps41
  go_wp2
  go_loopw [5] (fun vi wr => vi = .int .i64 0 ∧ w = wr) (fun _ _ => 0)
  case atStart => exact ⟨rfl, rfl⟩
  case round =>
    obtain ⟨rfl, rfl⟩ := hrel
    go_wp2
    go_ret
    exact ⟨rfl, rfl⟩
set_option linter.unusedSimpArgs false in
set_option linter.unusedVariables false in
set_option maxRecDepth 100000 in
set_option maxHeartbeats 4000000 in
theorem samePDU_eq (p : Pd) (bv1 bv2 iv1 iv2 : Value) (w : World) (h1 : BV w bv1 p.vs) (h2 : BV w bv2 p.vs) (i1 : SR w iv1 0 5 []) (i2 : SR w iv2 0 5 []) :
    Calls Try.prog 23 #[.agg (pdc p bv1 iv1).toArray, .agg (pdc p bv2 iv2).toArray] w fun e w' => e = .returned (.bool true) ∧ Below w.heap.size w w' := by
  obtain ⟨a, c1, rfl⟩ := h1.form
  obtain ⟨b, c2, rfl⟩ := h2.form
  obtain ⟨ia, ic, rfl⟩ := i1.form
  obtain ⟨ib, id, rfl⟩ := i2.form
  obtain ⟨n, hn⟩ : ∃ n, p.vs.length = n := ⟨_, rfl⟩
  rw [hn] at h1 h2 ⊢
  have hsm := fun W (hW : Below w.heap.size w W) => same_any _ _ p.vs p.vs W (h1.below hW).at (h2.below hW).at
  have HSM := Lib.hid hsm
  obtain ⟨bA, bB, hB⟩ := pro2c w (pdc p (.slice a n c1) (.slice ia 0 ic)) (pdc p (.slice b n c2) (.slice ib 0 id)) 32 32
  clear h1 h2 i1 i2 hsm hn
  go_enter Try.func23, Try.ntmps23
  go_upto_region 1 with fail
  generalize World.alloc (World.alloc w _) _ = V at bA bB hB ⊢
  have TA : Cells V (blk w.heap.size 0 0 [.int .i64 p.kd, .int .i64 p.ask, .int .u16 p.ha, .int .u16 p.la, .int .u64 p.hi, .int .u64 p.lo, .int .i64 p.of, .int .i64 p.mt, .int .i64 p.co, .bool p.cm, .slice a n c1, .slice ia 0 ic]) := bA.cells
  have TB : Cells V (blk (w.heap.size + 1) 0 0 [.int .i64 p.kd, .int .i64 p.ask, .int .u16 p.ha, .int .u16 p.la, .int .u64 p.hi, .int .u64 p.lo, .int .i64 p.of, .int .i64 p.mt, .int .i64 p.co, .bool p.cm, .slice b n c2, .slice ib 0 id]) := bB.cells
  have T := TA.app TB
  clear TA TB bA bB
  have hOpen := T
  simp only [Cells, blk, List.cons_append, List.nil_append, and_true, Nat.reduceAdd, Nat.add_zero, Nat.zero_add] at hOpen
  obtain ⟨x0, x1, x2, x3, x4, x5, x6, x7, x8, x9, xA, xB, y0, y1, y2, y3, y4, y5, y6, y7, y8, y9, yA, yB⟩ := hOpen
  clear T
  go_wp2_with fail
  refine (HSM.out _ hB).mono ?_
  rintro e w2 ⟨rfl, rfl⟩
  go_wp2_with fail
  refine (sameItems0 ia ib ic id _).mono ?_
  rintro e w3 ⟨rfl, rfl⟩
  go_wp2
  go_ret
  exact ⟨rfl, hB⟩
set_option linter.unusedSimpArgs false in
set_option linter.unusedVariables false in
set_option maxRecDepth 100000 in
set_option maxHeartbeats 4000000 in
theorem sameTask_eq (t : Tk) (bv1 bv2 fv1 fv2 : Value) (w : World) (h1 : BV w bv1 t.vs) (h2 : BV w bv2 t.vs) (i1 : FdV w fv1 t.fo) (i2 : FdV w fv2 t.fo) (hm : t.fo.length ≤ 1000000) :
    Calls Try.prog 22 #[.agg (tkc t bv1 fv1).toArray, .agg (tkc t bv2 fv2).toArray] w fun e w' => e = .returned (.bool true) ∧ Below w.heap.size w w' := by
  have hsf := fun W (hW : Below w.heap.size w W) => sameFound_any t.fo fv1 fv2 W (i1.below hW) (i2.below hW) hm
  obtain ⟨a, c1, rfl⟩ := h1.form
  obtain ⟨b, c2, rfl⟩ := h2.form
  obtain ⟨fa, d1, rfl⟩ := i1.form
  obtain ⟨fb, d2, rfl⟩ := i2.form
  obtain ⟨n, hn⟩ : ∃ n, t.vs.length = n := ⟨_, rfl⟩
  obtain ⟨m, hmm⟩ : ∃ n, t.fo.length = n := ⟨_, rfl⟩
  rw [hn] at h1 h2 ⊢
  rw [hmm] at hsf ⊢
  have hsm := fun W (hW : Below w.heap.size w W) => same_any _ _ t.vs t.vs W (h1.below hW).at (h2.below hW).at
  have HSM := Lib.hid hsm
  have HSF := Lib.hid hsf
  obtain ⟨bA, bB, hB⟩ := pro2c w (tkc t (.slice a n c1) (.slice fa m d1)) (tkc t (.slice b n c2) (.slice fb m d2)) 26 26
  clear h1 h2 i1 i2 hsm hn hsf hmm hm
  go_enter Try.func22, Try.ntmps22
  go_upto_region 1 with fail
  generalize World.alloc (World.alloc w _) _ = V at bA bB hB ⊢
  have TA : Cells V (blk w.heap.size 0 0 [.int .i64 t.kd, .int .u16 t.fi, .int .u16 t.la, .int .u16 t.ha, .slice a n c1, .int .i64 t.of, .slice fa m d1, .bool t.bad]) := bA.cells
  have TB : Cells V (blk (w.heap.size + 1) 0 0 [.int .i64 t.kd, .int .u16 t.fi, .int .u16 t.la, .int .u16 t.ha, .slice b n c2, .int .i64 t.of, .slice fb m d2, .bool t.bad]) := bB.cells
  have T := TA.app TB
  clear TA TB bA bB
  have hOpen := T
  simp only [Cells, blk, List.cons_append, List.nil_append, and_true, Nat.reduceAdd, Nat.add_zero, Nat.zero_add] at hOpen
  obtain ⟨x0, x1, x2, x3, x4, x5, x6, x7, y0, y1, y2, y3, y4, y5, y6, y7⟩ := hOpen
  clear T
  go_wp2_with fail
  refine (HSM.out _ hB).mono ?_
  rintro e w2 ⟨rfl, rfl⟩
  go_wp2_with fail
  refine (HSF.out _ hB).mono ?_
  rintro e w3 ⟨rfl, hB3⟩
  clear x0 x1 x2 x3 x4 x5 x6 x7 y0 y1 y2 y3 y4 y5 y6 y7
  go_wp2
  go_ret
  exact ⟨rfl, hB.trans (hB3.mono hB.size)⟩
end Go.Proofs.Ytldcihjddebciaa
