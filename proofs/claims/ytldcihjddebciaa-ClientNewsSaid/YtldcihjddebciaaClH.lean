/- client: the copy of a PDU. -/
import Derived.Test.YtldcihjddebciaaClG
namespace Go.Proofs.Ytldcihjddebciaa
open Go.RowKit

set_option linter.unusedSimpArgs false in
set_option linter.unusedVariables false in
set_option maxRecDepth 100000 in
set_option maxHeartbeats 4000000 in
theorem pdu_any (kd ask ha la hi lo ofs mt co : Int) (cm : Bool) (bv iv : Value) (vs : List Nat) (n : Nat) (cs : List Value) (w : World) (hb : BV w bv vs) (hf : SR w iv n 5 cs) (hm : vs.length ≤ 1000000) (hn : n ≤ 1000000) :
    Calls Try.prog 43 #[.agg #[.int .i64 kd, .int .i64 ask, .int .u16 ha, .int .u16 la, .int .u64 hi, .int .u64 lo, .int .i64 ofs, .int .i64 mt, .int .i64 co, .bool cm, bv, iv]] w fun e w' => ∃ bv' iv', e = .returned (.agg #[.int .i64 kd, .int .i64 ask, .int .u16 ha, .int .u16 la, .int .u64 hi, .int .u64 lo, .int .i64 ofs, .int .i64 mt, .int .i64 co, .bool cm, bv', iv']) ∧ BV w' bv' vs ∧ Own w.heap.size bv' ∧ w'.ownsRow w.heap.size 101 5 iv' n cs ∧ Below w.heap.size w w' := by
  have HBV := Lib.hid hb
  have HFV := Lib.hid hf
  obtain ⟨a, c, rfl, _, _⟩ := hb
  obtain ⟨ia, ic, rfl⟩ : ∃ ia ic, iv = .slice ia n ic := by
    obtain ⟨_, _, _, ao, cap, e, _⟩ := hf
    exact ⟨_, _, e⟩
  obtain ⟨L, hL⟩ : ∃ L, vs.length = L := ⟨_, rfl⟩
  rw [hL] at HBV ⊢
  have HL := Lib.hid hL
  have HM := Lib.hid hm
  have HNM := Lib.hid hn
  clear hL hf hm hn
  have bT0 := (Blk.new w 32 [.int .i64 kd, .int .i64 ask, .int .u16 ha, .int .u16 la, .int .u64 hi, .int .u64 lo, .int .i64 ofs, .int .i64 mt, .int .i64 co, .bool cm, .slice a L c, .slice ia n ic]).below ((Below.refl _ _).alloc (Nat.le_refl _) (.cells #[.int .i64 0, .int .i64 0, .int .u16 0, .int .u16 0, .int .u64 0, .int .u64 0, .int .i64 0, .int .i64 0, .int .i64 0, .bool false, .slice none 0 0, .slice none 0 0] 32))
  have ha0 : Below w.heap.size w (w.alloc (.cells #[.int .i64 kd, .int .i64 ask, .int .u16 ha, .int .u16 la, .int .u64 hi, .int .u64 lo, .int .i64 ofs, .int .i64 mt, .int .i64 co, .bool cm, .slice a L c, .slice ia n ic] 32)) := (Below.refl _ _).alloc (Nat.le_refl _) _
  have hz0 : (w.alloc (.cells #[.int .i64 kd, .int .i64 ask, .int .u16 ha, .int .u16 la, .int .u64 hi, .int .u64 lo, .int .i64 ofs, .int .i64 mt, .int .i64 co, .bool cm, .slice a L c, .slice ia n ic] 32)).heap.size = w.heap.size + 1 := by simp
  have bR0 := Blk.new (w.alloc (.cells #[.int .i64 kd, .int .i64 ask, .int .u16 ha, .int .u16 la, .int .u64 hi, .int .u64 lo, .int .i64 ofs, .int .i64 mt, .int .i64 co, .bool cm, .slice a L c, .slice ia n ic] 32)) 32 [.int .i64 0, .int .i64 0, .int .u16 0, .int .u16 0, .int .u64 0, .int .u64 0, .int .i64 0, .int .i64 0, .int .i64 0, .bool false, .slice none 0 0, .slice none 0 0]
  rw [hz0] at bR0
  have hB0 := ha0.alloc ha0.size (.cells #[.int .i64 0, .int .i64 0, .int .u16 0, .int .u16 0, .int .u64 0, .int .u64 0, .int .i64 0, .int .i64 0, .int .i64 0, .bool false, .slice none 0 0, .slice none 0 0] 32)
  go_enter Try.func43, Try.ntmps43
  go_upto_region 1 with fail
  generalize hV : World.alloc (World.alloc w _) _ = V at bT0 bR0 hB0 ⊢
  clear hV ha0 hz0
  have bT : Blk V w.heap.size 32 [.int .i64 kd, .int .i64 ask, .int .u16 ha, .int .u16 la, .int .u64 hi, .int .u64 lo, .int .i64 ofs, .int .i64 mt, .int .i64 co, .bool cm, .slice a L c, .slice ia n ic] := bT0
  have bR : Blk V (w.heap.size + 1) 32 _ := bR0
  have hBw := hB0
  clear bT0 bR0 hB0
  have hOpen := bT.cells
  simp only [Cells, blk, List.cons_append, List.nil_append, and_true, Nat.reduceAdd, Nat.add_zero, Nat.zero_add] at hOpen
  obtain ⟨m0, m1, m2, m3, m4, m5, m6, m7, m8, m9, m10, m11⟩ := hOpen
  go_wp2_with fail
  have hsl : (V.alloc (.cells #[.slice a L c] 23)).heap[V.heap.size]? = some (.cells #[.slice a L c] 23) := World.alloc_heap_new V _
  generalize hX : World.alloc V _ = w2 at hsl ⊢
  have hB2 : Below V.heap.size V w2 := hX ▸ (Below.refl _ _).alloc (Nat.le_refl _) _
  clear hX m0 m1 m2 m3 m4 m5 m6 m7 m8 m9 m10 m11
  have bT := bT.below hB2
  have bR := bR.below hB2
  have hBw := hBw.trans (hB2.mono hBw.size)
  refine (join_one _ _ vs _ _ hsl (HBV.out.below hBw) HM.out).mono ?_
  rintro e w3 ⟨vv, rfl, hvv, hov, hB3⟩
  have hovb : vv.ownBlock ≠ some w.heap.size := fun e => by have := hov _ e; have := bR.lt; omega
  have hovr : vv.ownBlock ≠ some (w.heap.size + 1) := fun e => by have := hov _ e; have := bR.lt; omega
  have hov := hov.mono hBw.size
  have hform : ∃ va vc, vv = .slice va L vc := by
    obtain ⟨va, vc, e, _⟩ := hvv
    exact ⟨va, vc, by rw [e, HL.out]⟩
  obtain ⟨va, vc, rfl⟩ := hform
  have bT := bT.below hB3
  have bR := bR.below hB3
  have hBw := hBw.trans (hB3.mono hBw.size)
  clear hsl
  have z10 := bT.frozen 10
  have n10 := bT.cell (j := 10) rfl
  go_upto_region 2 with fail
  clear z10 n10
  generalize hX : World.setCell _ ⟨w.heap.size, 10, none⟩ _ = wx10
  have hg : World.grownBy _ wx10 (some w.heap.size) := hX ▸ set1 _ ⟨w.heap.size, 10, none⟩ _
  have bT := hX ▸ bT.setAt (j := 10) (.slice va L vc)
  simp only [List.set_cons_zero, List.set_cons_succ] at bT
  have bR := bR.kept hg (by simp)
  have hBw : Below w.heap.size w wx10 := hX ▸ hBw.setCell (Nat.le_refl _) _
  try have hvv := hvv.grown hg hovb
  try have hff := own_grown hff hg hofb
  clear hg hX
  have hOpen := bT.cells
  simp only [Cells, blk, List.cons_append, List.nil_append, and_true, Nat.reduceAdd, Nat.add_zero, Nat.zero_add] at hOpen
  obtain ⟨m0, m1, m2, m3, m4, m5, m6, m7, m8, m9, m10, m11⟩ := hOpen
  go_wp2_with fail
  clear m0 m1 m2 m3 m4 m5 m6 m7 m8 m9 m10 m11
  refine (clone_AttItem _ n cs _ (HFV.out.below hBw) HNM.out).mono ?_
  rintro e w6 ⟨ff, rfl, hff, hB6, _⟩
  obtain ⟨fa', fc', rfl⟩ := own_form hff
  have hofb : (Value.slice fa' n fc').ownBlock ≠ some w.heap.size := fun e => by have := (hff.lt _ e).1; have := bR.lt; omega
  have hofr : (Value.slice fa' n fc').ownBlock ≠ some (w.heap.size + 1) := fun e => by have := (hff.lt _ e).1; have := bR.lt; omega
  have hff := own_base hff hBw.size
  have hvv := hvv.below hB6
  have bT := bT.below hB6
  have bR := bR.below hB6
  have hBw := hBw.trans (hB6.mono hBw.size)
  have z11 := bT.frozen 11
  have n11 := bT.cell (j := 11) rfl
  go_upto_region 3 with fail
  clear z11 n11
  generalize hX : World.setCell _ ⟨w.heap.size, 11, none⟩ _ = wx11
  have hg : World.grownBy _ wx11 (some w.heap.size) := hX ▸ set1 _ ⟨w.heap.size, 11, none⟩ _
  have bT := hX ▸ bT.setAt (j := 11) (.slice fa' n fc')
  simp only [List.set_cons_zero, List.set_cons_succ] at bT
  have bR := bR.kept hg (by simp)
  have hBw : Below w.heap.size w wx11 := hX ▸ hBw.setCell (Nat.le_refl _) _
  try have hvv := hvv.grown hg hovb
  try have hff := own_grown hff hg hofb
  clear hg hX
  have hOpen := bT.cells
  simp only [Cells, blk, List.cons_append, List.nil_append, and_true, Nat.reduceAdd, Nat.add_zero, Nat.zero_add] at hOpen
  obtain ⟨m0, m1, m2, m3, m4, m5, m6, m7, m8, m9, m10, m11⟩ := hOpen
  have hOpen := bR.cells
  simp only [Cells, blk, List.cons_append, List.nil_append, and_true, Nat.reduceAdd, Nat.add_zero, Nat.zero_add] at hOpen
  obtain ⟨q0, q1, q2, q3, q4, q5, q6, q7, q8, q9, q10, q11⟩ := hOpen
  have y0 := bR.frozen 0
  have y1 := bR.frozen 1
  have y2 := bR.frozen 2
  have y3 := bR.frozen 3
  have y4 := bR.frozen 4
  have y5 := bR.frozen 5
  have y6 := bR.frozen 6
  have y7 := bR.frozen 7
  have y8 := bR.frozen 8
  have y9 := bR.frozen 9
  have y10 := bR.frozen 10
  have y11 := bR.frozen 11
  go_wp2_with fail
  generalize hY : World.setCell _ _ _ = Y
  obtain ⟨bY, hgY⟩ := set12 bR hY
  have hBY := hBw.grown hgY hBw.size (fun q hq => by cases hq; omega)
  have hvY := hvv.grown hgY hovr
  have hfY := own_grown hff hgY hofr
  clear hY q0 m0 y0 q1 m1 y1 q2 m2 y2 q3 m3 y3 q4 m4 y4 q5 m5 y5 q6 m6 y6 q7 m7 y7 q8 m8 y8 q9 m9 y9 q10 m10 y10 q11 m11 y11
  have hOpen := bY.cells
  simp only [Cells, blk, List.cons_append, List.nil_append, and_true, Nat.reduceAdd, Nat.add_zero, Nat.zero_add] at hOpen
  obtain ⟨q0, q1, q2, q3, q4, q5, q6, q7, q8, q9, q10, q11⟩ := hOpen
  refine bodyPost_ret (v := .agg #[.int .i64 kd, .int .i64 ask, .int .u16 ha, .int .u16 la, .int .u64 hi, .int .u64 lo, .int .i64 ofs, .int .i64 mt, .int .i64 co, .bool cm, .slice va L vc, .slice fa' n fc']) (by simp [results, Try.results43, go_sem, q0, q1, q2, q3, q4, q5, q6, q7, q8, q9, q10, q11]) rfl ?_
  exact ⟨_, _, rfl, hvY, hov, hfY, hBY⟩
end Go.Proofs.Ytldcihjddebciaa
