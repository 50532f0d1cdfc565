/- client: its data; copies of a task and of a PDU. -/
import Derived.Test.YtldcihjddebciaaClF
namespace Go.Proofs.Ytldcihjddebciaa
open Go.RowKit

/-- a task -/
structure Tk where
  kd : Int
  fi : Nat
  la : Nat
  ha : Nat
  vs : List Nat
  of : Int
  fo : List Fd
  bad : Bool
instance : Inhabited Tk := ⟨⟨0, 0, 0, 0, [], 0, [], false⟩⟩
def tkc (t : Tk) (bv fv : Value) : List Value := [.int .i64 t.kd, .int .u16 t.fi, .int .u16 t.la, .int .u16 t.ha, bv, .int .i64 t.of, fv, .bool t.bad]
theorem own_grown {w w' : World} {base e k n i : Nat} {v : Value} {cs : List Value} (h : w.ownsRow base e k v n cs) (hg : w.grownBy w' (some i)) (hi : v.ownBlock ≠ some i) : w'.ownsRow base e k v n cs := by
  refine ⟨h.1, ?_⟩
  rcases h.2 with h0 | ⟨g, cap, cur, rfl, hb, hh, r⟩
  · exact .inl h0
  · exact .inr ⟨g, cap, cur, rfl, hb, by rw [hg.block g (Array.getElem?_eq_some_iff.1 hh).1 (fun e => hi (by simp [Value.ownBlock]; injection e))]; exact hh, r⟩
theorem own_form {w : World} {base e k n : Nat} {v : Value} {cs : List Value} (h : w.ownsRow base e k v n cs) : ∃ a c, v = .slice a n c := by
  rcases h.2 with ⟨rfl, e⟩ | ⟨g, cap, cur, rfl, _⟩
  · exact ⟨none, 0, by rw [e]⟩
  · exact ⟨_, _, rfl⟩
theorem FdV.form {w : World} {v : Value} {l : List Fd} (h : FdV w v l) : ∃ a c, v = .slice a l.length c := by
  obtain ⟨_, _, _, ao, cap, rfl, _⟩ := h
  exact ⟨_, _, rfl⟩
/-- a value lies in none of the blocks -/
def Apart (R : List (Option Nat)) (v : Value) : Prop := ∀ k, v.ownBlock = some k → some k ∉ R
theorem SR.lies {w : World} {v : Value} {n size : Nat} {cs : List Value} (h : SR w v n size cs) : n = 0 ∨ ∃ b, v.ownBlock = some b ∧ b < w.heap.size := by
  obtain ⟨h1, h2, h3, ao, cap, rfl, hn, h4⟩ := h
  by_cases h0 : n = 0
  · exact .inl h0
  · obtain ⟨b, off, rfl, hlt, _⟩ := h4 (by omega)
    exact .inr ⟨b, by simp [Value.ownBlock], hlt⟩
theorem BV.sr {w : World} {v : Value} {bs : List Nat} (h : BV w v bs) : SR w v bs.length 1 (bcells bs) := by
  obtain ⟨a, c, rfl, _, h, _⟩ := h
  exact h
theorem apart_row {w w' : World} {v u : Value} {bs : List Nat} {base e k n : Nat} {cs : List Value} (h : BV w v bs) (ho : w'.ownsRow base e k u n cs) (hb : w.heap.size ≤ base) : bs.length = 0 ∨ Apart [u.ownBlock] v := by
  rcases h.sr.lies with h0 | ⟨b, hv, hlt⟩
  · exact .inl h0
  · refine .inr fun i hi hm => ?_
    rw [hv] at hi
    injection hi with hi
    subst hi
    have := (ho.lt b (List.mem_singleton.1 hm).symm).1
    omega
/-- what was found, in memory of one's own -/
def FdO (B : Nat) (w : World) (v : Value) (l : List Fd) : Prop := w.ownsRow B 114 6 v l.length (fcells l)
theorem FdO.fdv {B : Nat} {w : World} {v : Value} {l : List Fd} (h : FdO B w v l) (hm : l.length ≤ 100000000) : FdV w v l := SR.of_own h (fcells_one l) (by unfold maxLen; omega)
theorem FdO.below {B : Nat} {w w' : World} {v : Value} {l : List Fd} (h : FdO B w v l) (hb : Below w.heap.size w w') : FdO B w' v l := own_below h hb
set_option linter.unusedSimpArgs false in
set_option linter.unusedVariables false in
set_option maxRecDepth 100000 in
set_option maxHeartbeats 4000000 in
theorem task_any (kd fi la ha : Int) (bv : Value) (ofs : Int) (fv : Value) (bad : Bool) (vs : List Nat) (fo : List Fd) (w : World) (hb : BV w bv vs) (hf : FdV w fv fo) (hm : vs.length ≤ 1000000) (hn : fo.length ≤ 1000000) :
    Calls Try.prog 42 #[.agg #[.int .i64 kd, .int .u16 fi, .int .u16 la, .int .u16 ha, bv, .int .i64 ofs, fv, .bool bad]] w fun e w' => ∃ bv' fv', e = .returned (.agg #[.int .i64 kd, .int .u16 fi, .int .u16 la, .int .u16 ha, bv', .int .i64 ofs, fv', .bool bad]) ∧ BV w' bv' vs ∧ Own w.heap.size bv' ∧ FdO w.heap.size w' fv' fo ∧ Below w.heap.size w w' ∧ (fv = .slice none 0 0 → fv' = .slice none 0 0) ∧ (vs.length = 0 ∨ Apart [fv'.ownBlock] bv') := by
  have HBV := Lib.hid hb
  have HFV := Lib.hid hf
  obtain ⟨a, c, rfl, _, _⟩ := hb
  obtain ⟨fa, fc, rfl⟩ := hf.form
  obtain ⟨L, hL⟩ : ∃ L, vs.length = L := ⟨_, rfl⟩
  obtain ⟨N, hN⟩ : ∃ L, fo.length = L := ⟨_, rfl⟩
  rw [hL] at HBV ⊢
  rw [hN] at HFV ⊢
  have HL := Lib.hid hL
  have HN := Lib.hid hN
  have HM := Lib.hid hm
  have HNM := Lib.hid hn
  clear hL hN hf hm hn
  have bT0 := (Blk.new w 26 [.int .i64 kd, .int .u16 fi, .int .u16 la, .int .u16 ha, .slice a L c, .int .i64 ofs, .slice fa N fc, .bool bad]).below ((Below.refl _ _).alloc (Nat.le_refl _) (.cells #[.int .i64 0, .int .u16 0, .int .u16 0, .int .u16 0, .slice none 0 0, .int .i64 0, .slice none 0 0, .bool false] 26))
  have ha0 : Below w.heap.size w (w.alloc (.cells #[.int .i64 kd, .int .u16 fi, .int .u16 la, .int .u16 ha, .slice a L c, .int .i64 ofs, .slice fa N fc, .bool bad] 26)) := (Below.refl _ _).alloc (Nat.le_refl _) _
  have hz0 : (w.alloc (.cells #[.int .i64 kd, .int .u16 fi, .int .u16 la, .int .u16 ha, .slice a L c, .int .i64 ofs, .slice fa N fc, .bool bad] 26)).heap.size = w.heap.size + 1 := by simp
  have bR0 := Blk.new (w.alloc (.cells #[.int .i64 kd, .int .u16 fi, .int .u16 la, .int .u16 ha, .slice a L c, .int .i64 ofs, .slice fa N fc, .bool bad] 26)) 26 [.int .i64 0, .int .u16 0, .int .u16 0, .int .u16 0, .slice none 0 0, .int .i64 0, .slice none 0 0, .bool false]
  rw [hz0] at bR0
  have hB0 := ha0.alloc ha0.size (.cells #[.int .i64 0, .int .u16 0, .int .u16 0, .int .u16 0, .slice none 0 0, .int .i64 0, .slice none 0 0, .bool false] 26)
  go_enter Try.func42, Try.ntmps42
  go_upto_region 1 with fail
  generalize hV : World.alloc (World.alloc w _) _ = V at bT0 bR0 hB0 ⊢
  clear hV ha0 hz0
  have bT : Blk V.drew w.heap.size 26 [.int .i64 kd, .int .u16 fi, .int .u16 la, .int .u16 ha, .slice a L c, .int .i64 ofs, .slice fa N fc, .bool bad] := bT0.drew
  have bR : Blk V.drew (w.heap.size + 1) 26 _ := bR0.drew
  have hBw := hB0.drew
  clear bT0 bR0 hB0
  obtain ⟨m0, m1, m2, m3, m4, m5, m6, m7, _⟩ := bT.cells
  simp only [Nat.zero_add, Nat.add_zero] at m0 m1 m2 m3 m4 m5 m6 m7
  have z4 := bT.frozen 4
  have z6 := bT.frozen 6
  refine wp_region_held_drew (S := (fun W' : World => w.heap.size ≤ W'.heap.size)) (by kernel_rfl) (hBw.size) (fun hHeld => ?_)
  generalize World.drew _ = wd at hHeld bT bR hBw m0 m1 m2 m3 m4 m5 m6 m7 ⊢
  refine tkT 0 ?_
  simp only [Act.put, List.setIfInBounds_toArray, List.set_cons_zero, List.set_cons_succ]
  refine tkT 4 ?_
  simp only [Act.put, List.setIfInBounds_toArray, List.set_cons_zero, List.set_cons_succ]
  refine wpAnyH_ready (rs := [1, 5]) (by kernel_rfl) (by simp) (AllReadyH.cons (o := _) (by rw [List.getElem?_toArray]; rfl) (fun K hK => ?_) (AllReadyH.cons (o := _) (by rw [List.getElem?_toArray]; rfl) (fun K hK => ?_) AllReadyH.nil))
  · go_simp
    refine hK.out _ _ (hHeld) (fun hHeld2 => ?_)
    replace hHeld := hHeld2
    clear hK K hHeld2
    try simp only [Act.put, List.setIfInBounds_toArray, List.set_cons_zero, List.set_cons_succ]
    refine wpAnyH_ready (rs := [2, 5]) (by kernel_rfl) (by simp) (AllReadyH.cons (o := _) (by rw [List.getElem?_toArray]; rfl) (fun K hK => ?_) (AllReadyH.cons (o := _) (by rw [List.getElem?_toArray]; rfl) (fun K hK => ?_) AllReadyH.nil))
    · go_simp
      generalize hX : World.alloc _ (.cells _ 23) = w2
      obtain ⟨hsl, hB2, hz2⟩ := alloc_named hX
      clear hX hz2
      have bT := bT.below hB2
      have bR := bR.below hB2
      have hBw := hBw.trans (hB2.mono hBw.size)
      
      try have hvv := hvv.below hB2
      try have hff := own_below hff hB2
      obtain ⟨m0, m1, m2, m3, m4, m5, m6, m7, _⟩ := bT.cells
      simp only [Nat.zero_add, Nat.add_zero] at m0 m1 m2 m3 m4 m5 m6 m7
      have z4 := bT.frozen 4
      have z6 := bT.frozen 6
      refine hK.out _ _ (hBw.size) (fun hHeld2 => ?_)
      replace hHeld := hHeld2
      clear hK K hHeld2
      try simp only [Act.put, List.setIfInBounds_toArray, List.set_cons_zero, List.set_cons_succ]
      refine wpAnyH_ready (rs := [3, 5]) (by kernel_rfl) (by simp) (AllReadyH.cons (o := _) (by rw [List.getElem?_toArray]; rfl) (fun K hK => ?_) (AllReadyH.cons (o := _) (by rw [List.getElem?_toArray]; rfl) (fun K hK => ?_) AllReadyH.nil))
      · go_simp
        go_at_call 31
        refine (join_one _ _ vs _ _ hsl (HBV.out.below hBw) HM.out).mono ?_
        rintro e w3 ⟨vv, rfl, hvv, hov, hB3⟩
        have hovb : vv.ownBlock ≠ some w.heap.size := fun e => by have := hov _ e; have := bR.lt; omega
        have hovr : vv.ownBlock ≠ some (w.heap.size + 1) := fun e => by have := hov _ e; have := bR.lt; omega
        have hov := hov.mono hBw.size
        have hform : ∃ va vc, vv = .slice va L vc := by
          obtain ⟨va, vc, e, _⟩ := hvv
          exact ⟨va, vc, by rw [e, HL.out]⟩
        obtain ⟨va, vc, rfl⟩ := hform
        have bT := bT.below hB3
        have bR := bR.below hB3
        have hBw := hBw.trans (hB3.mono hBw.size)
        clear hsl
        
        try have hff := own_below hff hB3
        obtain ⟨m0, m1, m2, m3, m4, m5, m6, m7, _⟩ := bT.cells
        simp only [Nat.zero_add, Nat.add_zero] at m0 m1 m2 m3 m4 m5 m6 m7
        have z4 := bT.frozen 4
        have z6 := bT.frozen 6
        refine hK.out _ _ (hBw.size) (fun hHeld2 => ?_)
        replace hHeld := hHeld2
        clear hK K hHeld2
        try simp only [Act.put, List.setIfInBounds_toArray, List.set_cons_zero, List.set_cons_succ]
        refine wpAnyH_ready (rs := [5]) (by kernel_rfl) (by simp) (AllReadyH.cons (o := _) (by rw [List.getElem?_toArray]; rfl) (fun K hK => ?_) AllReadyH.nil)
        go_simp
        refine hK.out _ _ (hHeld) (fun hHeld2 => ?_)
        replace hHeld := hHeld2
        clear hK K hHeld2
        try simp only [Act.put, List.setIfInBounds_toArray, List.set_cons_zero, List.set_cons_succ]
        refine tkT 7 ?_
        simp only [Act.put, List.setIfInBounds_toArray, List.set_cons_zero, List.set_cons_succ]
        refine wpAnyH_ready (rs := [6]) (by kernel_rfl) (by simp) (AllReadyH.cons (o := _) (by rw [List.getElem?_toArray]; rfl) (fun K hK => ?_) AllReadyH.nil)
        go_simp
        go_at_call 87
        refine (clone_Found _ N (fcells fo) _ (by have h := HFV.out.below hBw; unfold FdV at h; exact HN.out ▸ h) (by rw [← HN.out]; exact HNM.out)).mono ?_
        rintro e w6 ⟨ff, rfl, hff, hB6, hnil⟩
        obtain ⟨fa', fc', rfl⟩ := own_form hff
        have hofb : (Value.slice fa' N fc').ownBlock ≠ some w.heap.size := fun e => by have := (hff.lt _ e).1; have := bR.lt; omega
        have hofr : (Value.slice fa' N fc').ownBlock ≠ some (w.heap.size + 1) := fun e => by have := (hff.lt _ e).1; have := bR.lt; omega
        have hap := apart_row hvv hff (Nat.le_refl _)
        have hff := own_base hff hBw.size
        have bT := bT.below hB6
        have bR := bR.below hB6
        have hBw := hBw.trans (hB6.mono hBw.size)
        try have hsl := (hB6.block _ (Array.getElem?_eq_some_iff.1 hsl).1).trans hsl
        try have hvv := hvv.below hB6
        obtain ⟨m0, m1, m2, m3, m4, m5, m6, m7, _⟩ := bT.cells
        simp only [Nat.zero_add, Nat.add_zero] at m0 m1 m2 m3 m4 m5 m6 m7
        have z4 := bT.frozen 4
        have z6 := bT.frozen 6
        refine hK.out _ _ (hBw.size) (fun hHeld2 => ?_)
        replace hHeld := hHeld2
        clear hK K hHeld2
        try simp only [Act.put, List.setIfInBounds_toArray, List.set_cons_zero, List.set_cons_succ]
        refine wpAnyH_ready (rs := [8]) (by kernel_rfl) (by simp) (AllReadyH.cons (o := _) (by rw [List.getElem?_toArray]; rfl) (fun K hK => ?_) AllReadyH.nil)
        go_simp
        generalize hX : World.setCell _ ⟨w.heap.size, 4, none⟩ _ = wx
        have hg : World.grownBy _ wx (some w.heap.size) := hX ▸ set1 _ ⟨w.heap.size, 4, none⟩ _
        have bT := hX ▸ bT.setAt (j := 4) (.slice va L vc)
        simp only [List.set_cons_zero, List.set_cons_succ] at bT
        have bR := bR.kept hg (by simp)
        have hBw : Below w.heap.size w wx := hX ▸ hBw.setCell (Nat.le_refl _) _
        try have hvv := hvv.grown hg hovb
        try have hff := own_grown hff hg hofb
        clear hg hX
        obtain ⟨m0, m1, m2, m3, m4, m5, m6, m7, _⟩ := bT.cells
        simp only [Nat.zero_add, Nat.add_zero] at m0 m1 m2 m3 m4 m5 m6 m7
        have z4 := bT.frozen 4
        have z6 := bT.frozen 6
        refine hK.out _ _ (hBw.size) (fun hHeld2 => ?_)
        replace hHeld := hHeld2
        clear hK K hHeld2
        try simp only [Act.put, List.setIfInBounds_toArray, List.set_cons_zero, List.set_cons_succ]
        refine tkT 9 ?_
        simp only [Act.put, List.setIfInBounds_toArray, List.set_cons_zero, List.set_cons_succ]
        refine wpAnyH_ready (rs := [10]) (by kernel_rfl) (by simp) (AllReadyH.cons (o := _) (by rw [List.getElem?_toArray]; rfl) (fun K hK => ?_) AllReadyH.nil)
        go_simp
        generalize hX : World.setCell _ ⟨w.heap.size, 6, none⟩ _ = wx
        have hg : World.grownBy _ wx (some w.heap.size) := hX ▸ set1 _ ⟨w.heap.size, 6, none⟩ _
        have bT := hX ▸ bT.setAt (j := 6) (.slice fa' N fc')
        simp only [List.set_cons_zero, List.set_cons_succ] at bT
        have bR := bR.kept hg (by simp)
        have hBw : Below w.heap.size w wx := hX ▸ hBw.setCell (Nat.le_refl _) _
        try have hvv := hvv.grown hg hovb
        try have hff := own_grown hff hg hofb
        clear hg hX
        obtain ⟨m0, m1, m2, m3, m4, m5, m6, m7, _⟩ := bT.cells
        simp only [Nat.zero_add, Nat.add_zero] at m0 m1 m2 m3 m4 m5 m6 m7
        have z4 := bT.frozen 4
        have z6 := bT.frozen 6
        refine hK.out _ _ (hBw.size) (fun hHeld2 => ?_)
        replace hHeld := hHeld2
        clear hK K hHeld2
        try simp only [Act.put, List.setIfInBounds_toArray, List.set_cons_zero, List.set_cons_succ]
        refine wpAnyH_done (by kernel_rfl) ?_ _
        clear hHeld m0 m1 m2 m3 m4 m5 m6 m7 z4 z6
        obtain ⟨m0, m1, m2, m3, m4, m5, m6, m7, _⟩ := bT.cells
        simp only [Nat.zero_add, Nat.add_zero] at m0 m1 m2 m3 m4 m5 m6 m7
        have z4 := bT.frozen 4
        have z6 := bT.frozen 6
        have hOpen := bR.cells
        simp only [Cells, blk, List.cons_append, List.nil_append, and_true, Nat.reduceAdd, Nat.add_zero, Nat.zero_add] at hOpen
        obtain ⟨q0, q1, q2, q3, q4, q5, q6, q7⟩ := hOpen
        have y0 := bR.frozen 0
        have y1 := bR.frozen 1
        have y2 := bR.frozen 2
        have y3 := bR.frozen 3
        have y4 := bR.frozen 4
        have y5 := bR.frozen 5
        have y6 := bR.frozen 6
        have y7 := bR.frozen 7
        go_wp2_with fail
        generalize hY : World.setCell _ _ _ = Y
        obtain ⟨bY, hgY⟩ := set8 bR hY
        have hBY := hBw.grown hgY hBw.size (fun q hq => by cases hq; omega)
        have hvY := hvv.grown hgY hovr
        have hfY := own_grown hff hgY hofr
        clear hY q0 q1 q2 q3 q4 q5 q6 q7 m0 m1 m2 m3 m4 m5 m6 m7 y0 y1 y2 y3 y4 y5 y6 y7 z4 z6
        have hOpen := bY.cells
        simp only [Cells, blk, List.cons_append, List.nil_append, and_true, Nat.reduceAdd, Nat.add_zero, Nat.zero_add] at hOpen
        obtain ⟨q0, q1, q2, q3, q4, q5, q6, q7⟩ := hOpen
        refine bodyPost_ret (v := .agg #[.int .i64 kd, .int .u16 fi, .int .u16 la, .int .u16 ha, .slice va L vc, .int .i64 ofs, .slice fa' N fc', .bool bad]) (by simp [results, Try.results42, go_sem, q0, q1, q2, q3, q4, q5, q6, q7]) rfl ?_
        exact ⟨_, _, rfl, hvY, hov, by unfold FdO; rw [HN.out]; exact hfY, hBY, hnil, HL.out ▸ hap⟩
      · go_simp
        refine hK.out _ _ (hHeld) (fun hHeld2 => ?_)
        replace hHeld := hHeld2
        clear hK K hHeld2
        try simp only [Act.put, List.setIfInBounds_toArray, List.set_cons_zero, List.set_cons_succ]
        refine wpAnyH_ready (rs := [3]) (by kernel_rfl) (by simp) (AllReadyH.cons (o := _) (by rw [List.getElem?_toArray]; rfl) (fun K hK => ?_) AllReadyH.nil)
        go_simp
        go_at_call 31
        refine (join_one _ _ vs _ _ hsl (HBV.out.below hBw) HM.out).mono ?_
        rintro e w3 ⟨vv, rfl, hvv, hov, hB3⟩
        have hovb : vv.ownBlock ≠ some w.heap.size := fun e => by have := hov _ e; have := bR.lt; omega
        have hovr : vv.ownBlock ≠ some (w.heap.size + 1) := fun e => by have := hov _ e; have := bR.lt; omega
        have hov := hov.mono hBw.size
        have hform : ∃ va vc, vv = .slice va L vc := by
          obtain ⟨va, vc, e, _⟩ := hvv
          exact ⟨va, vc, by rw [e, HL.out]⟩
        obtain ⟨va, vc, rfl⟩ := hform
        have bT := bT.below hB3
        have bR := bR.below hB3
        have hBw := hBw.trans (hB3.mono hBw.size)
        clear hsl
        
        try have hff := own_below hff hB3
        obtain ⟨m0, m1, m2, m3, m4, m5, m6, m7, _⟩ := bT.cells
        simp only [Nat.zero_add, Nat.add_zero] at m0 m1 m2 m3 m4 m5 m6 m7
        have z4 := bT.frozen 4
        have z6 := bT.frozen 6
        refine hK.out _ _ (hBw.size) (fun hHeld2 => ?_)
        replace hHeld := hHeld2
        clear hK K hHeld2
        try simp only [Act.put, List.setIfInBounds_toArray, List.set_cons_zero, List.set_cons_succ]
        refine tkT 7 ?_
        simp only [Act.put, List.setIfInBounds_toArray, List.set_cons_zero, List.set_cons_succ]
        refine wpAnyH_ready (rs := [6]) (by kernel_rfl) (by simp) (AllReadyH.cons (o := _) (by rw [List.getElem?_toArray]; rfl) (fun K hK => ?_) AllReadyH.nil)
        go_simp
        go_at_call 87
        refine (clone_Found _ N (fcells fo) _ (by have h := HFV.out.below hBw; unfold FdV at h; exact HN.out ▸ h) (by rw [← HN.out]; exact HNM.out)).mono ?_
        rintro e w6 ⟨ff, rfl, hff, hB6, hnil⟩
        obtain ⟨fa', fc', rfl⟩ := own_form hff
        have hofb : (Value.slice fa' N fc').ownBlock ≠ some w.heap.size := fun e => by have := (hff.lt _ e).1; have := bR.lt; omega
        have hofr : (Value.slice fa' N fc').ownBlock ≠ some (w.heap.size + 1) := fun e => by have := (hff.lt _ e).1; have := bR.lt; omega
        have hap := apart_row hvv hff (Nat.le_refl _)
        have hff := own_base hff hBw.size
        have bT := bT.below hB6
        have bR := bR.below hB6
        have hBw := hBw.trans (hB6.mono hBw.size)
        try have hsl := (hB6.block _ (Array.getElem?_eq_some_iff.1 hsl).1).trans hsl
        try have hvv := hvv.below hB6
        obtain ⟨m0, m1, m2, m3, m4, m5, m6, m7, _⟩ := bT.cells
        simp only [Nat.zero_add, Nat.add_zero] at m0 m1 m2 m3 m4 m5 m6 m7
        have z4 := bT.frozen 4
        have z6 := bT.frozen 6
        refine hK.out _ _ (hBw.size) (fun hHeld2 => ?_)
        replace hHeld := hHeld2
        clear hK K hHeld2
        try simp only [Act.put, List.setIfInBounds_toArray, List.set_cons_zero, List.set_cons_succ]
        refine wpAnyH_ready (rs := [8]) (by kernel_rfl) (by simp) (AllReadyH.cons (o := _) (by rw [List.getElem?_toArray]; rfl) (fun K hK => ?_) AllReadyH.nil)
        go_simp
        generalize hX : World.setCell _ ⟨w.heap.size, 4, none⟩ _ = wx
        have hg : World.grownBy _ wx (some w.heap.size) := hX ▸ set1 _ ⟨w.heap.size, 4, none⟩ _
        have bT := hX ▸ bT.setAt (j := 4) (.slice va L vc)
        simp only [List.set_cons_zero, List.set_cons_succ] at bT
        have bR := bR.kept hg (by simp)
        have hBw : Below w.heap.size w wx := hX ▸ hBw.setCell (Nat.le_refl _) _
        try have hvv := hvv.grown hg hovb
        try have hff := own_grown hff hg hofb
        clear hg hX
        obtain ⟨m0, m1, m2, m3, m4, m5, m6, m7, _⟩ := bT.cells
        simp only [Nat.zero_add, Nat.add_zero] at m0 m1 m2 m3 m4 m5 m6 m7
        have z4 := bT.frozen 4
        have z6 := bT.frozen 6
        refine hK.out _ _ (hBw.size) (fun hHeld2 => ?_)
        replace hHeld := hHeld2
        clear hK K hHeld2
        try simp only [Act.put, List.setIfInBounds_toArray, List.set_cons_zero, List.set_cons_succ]
        refine tkT 9 ?_
        simp only [Act.put, List.setIfInBounds_toArray, List.set_cons_zero, List.set_cons_succ]
        refine wpAnyH_ready (rs := [10]) (by kernel_rfl) (by simp) (AllReadyH.cons (o := _) (by rw [List.getElem?_toArray]; rfl) (fun K hK => ?_) AllReadyH.nil)
        go_simp
        generalize hX : World.setCell _ ⟨w.heap.size, 6, none⟩ _ = wx
        have hg : World.grownBy _ wx (some w.heap.size) := hX ▸ set1 _ ⟨w.heap.size, 6, none⟩ _
        have bT := hX ▸ bT.setAt (j := 6) (.slice fa' N fc')
        simp only [List.set_cons_zero, List.set_cons_succ] at bT
        have bR := bR.kept hg (by simp)
        have hBw : Below w.heap.size w wx := hX ▸ hBw.setCell (Nat.le_refl _) _
        try have hvv := hvv.grown hg hovb
        try have hff := own_grown hff hg hofb
        clear hg hX
        obtain ⟨m0, m1, m2, m3, m4, m5, m6, m7, _⟩ := bT.cells
        simp only [Nat.zero_add, Nat.add_zero] at m0 m1 m2 m3 m4 m5 m6 m7
        have z4 := bT.frozen 4
        have z6 := bT.frozen 6
        refine hK.out _ _ (hBw.size) (fun hHeld2 => ?_)
        replace hHeld := hHeld2
        clear hK K hHeld2
        try simp only [Act.put, List.setIfInBounds_toArray, List.set_cons_zero, List.set_cons_succ]
        refine wpAnyH_done (by kernel_rfl) ?_ _
        clear hHeld m0 m1 m2 m3 m4 m5 m6 m7 z4 z6
        obtain ⟨m0, m1, m2, m3, m4, m5, m6, m7, _⟩ := bT.cells
        simp only [Nat.zero_add, Nat.add_zero] at m0 m1 m2 m3 m4 m5 m6 m7
        have z4 := bT.frozen 4
        have z6 := bT.frozen 6
        have hOpen := bR.cells
        simp only [Cells, blk, List.cons_append, List.nil_append, and_true, Nat.reduceAdd, Nat.add_zero, Nat.zero_add] at hOpen
        obtain ⟨q0, q1, q2, q3, q4, q5, q6, q7⟩ := hOpen
        have y0 := bR.frozen 0
        have y1 := bR.frozen 1
        have y2 := bR.frozen 2
        have y3 := bR.frozen 3
        have y4 := bR.frozen 4
        have y5 := bR.frozen 5
        have y6 := bR.frozen 6
        have y7 := bR.frozen 7
        go_wp2_with fail
        generalize hY : World.setCell _ _ _ = Y
        obtain ⟨bY, hgY⟩ := set8 bR hY
        have hBY := hBw.grown hgY hBw.size (fun q hq => by cases hq; omega)
        have hvY := hvv.grown hgY hovr
        have hfY := own_grown hff hgY hofr
        clear hY q0 q1 q2 q3 q4 q5 q6 q7 m0 m1 m2 m3 m4 m5 m6 m7 y0 y1 y2 y3 y4 y5 y6 y7 z4 z6
        have hOpen := bY.cells
        simp only [Cells, blk, List.cons_append, List.nil_append, and_true, Nat.reduceAdd, Nat.add_zero, Nat.zero_add] at hOpen
        obtain ⟨q0, q1, q2, q3, q4, q5, q6, q7⟩ := hOpen
        refine bodyPost_ret (v := .agg #[.int .i64 kd, .int .u16 fi, .int .u16 la, .int .u16 ha, .slice va L vc, .int .i64 ofs, .slice fa' N fc', .bool bad]) (by simp [results, Try.results42, go_sem, q0, q1, q2, q3, q4, q5, q6, q7]) rfl ?_
        exact ⟨_, _, rfl, hvY, hov, by unfold FdO; rw [HN.out]; exact hfY, hBY, hnil, HL.out ▸ hap⟩
    · go_simp
      refine hK.out _ _ (hHeld) (fun hHeld2 => ?_)
      replace hHeld := hHeld2
      clear hK K hHeld2
      try simp only [Act.put, List.setIfInBounds_toArray, List.set_cons_zero, List.set_cons_succ]
      refine wpAnyH_ready (rs := [2]) (by kernel_rfl) (by simp) (AllReadyH.cons (o := _) (by rw [List.getElem?_toArray]; rfl) (fun K hK => ?_) AllReadyH.nil)
      go_simp
      generalize hX : World.alloc _ (.cells _ 23) = w2
      obtain ⟨hsl, hB2, hz2⟩ := alloc_named hX
      clear hX hz2
      have bT := bT.below hB2
      have bR := bR.below hB2
      have hBw := hBw.trans (hB2.mono hBw.size)
      
      try have hvv := hvv.below hB2
      try have hff := own_below hff hB2
      obtain ⟨m0, m1, m2, m3, m4, m5, m6, m7, _⟩ := bT.cells
      simp only [Nat.zero_add, Nat.add_zero] at m0 m1 m2 m3 m4 m5 m6 m7
      have z4 := bT.frozen 4
      have z6 := bT.frozen 6
      refine hK.out _ _ (hBw.size) (fun hHeld2 => ?_)
      replace hHeld := hHeld2
      clear hK K hHeld2
      try simp only [Act.put, List.setIfInBounds_toArray, List.set_cons_zero, List.set_cons_succ]
      refine wpAnyH_ready (rs := [3]) (by kernel_rfl) (by simp) (AllReadyH.cons (o := _) (by rw [List.getElem?_toArray]; rfl) (fun K hK => ?_) AllReadyH.nil)
      go_simp
      go_at_call 31
      refine (join_one _ _ vs _ _ hsl (HBV.out.below hBw) HM.out).mono ?_
      rintro e w3 ⟨vv, rfl, hvv, hov, hB3⟩
      have hovb : vv.ownBlock ≠ some w.heap.size := fun e => by have := hov _ e; have := bR.lt; omega
      have hovr : vv.ownBlock ≠ some (w.heap.size + 1) := fun e => by have := hov _ e; have := bR.lt; omega
      have hov := hov.mono hBw.size
      have hform : ∃ va vc, vv = .slice va L vc := by
        obtain ⟨va, vc, e, _⟩ := hvv
        exact ⟨va, vc, by rw [e, HL.out]⟩
      obtain ⟨va, vc, rfl⟩ := hform
      have bT := bT.below hB3
      have bR := bR.below hB3
      have hBw := hBw.trans (hB3.mono hBw.size)
      clear hsl
      
      try have hff := own_below hff hB3
      obtain ⟨m0, m1, m2, m3, m4, m5, m6, m7, _⟩ := bT.cells
      simp only [Nat.zero_add, Nat.add_zero] at m0 m1 m2 m3 m4 m5 m6 m7
      have z4 := bT.frozen 4
      have z6 := bT.frozen 6
      refine hK.out _ _ (hBw.size) (fun hHeld2 => ?_)
      replace hHeld := hHeld2
      clear hK K hHeld2
      try simp only [Act.put, List.setIfInBounds_toArray, List.set_cons_zero, List.set_cons_succ]
      refine tkT 7 ?_
      simp only [Act.put, List.setIfInBounds_toArray, List.set_cons_zero, List.set_cons_succ]
      refine wpAnyH_ready (rs := [6]) (by kernel_rfl) (by simp) (AllReadyH.cons (o := _) (by rw [List.getElem?_toArray]; rfl) (fun K hK => ?_) AllReadyH.nil)
      go_simp
      go_at_call 87
      refine (clone_Found _ N (fcells fo) _ (by have h := HFV.out.below hBw; unfold FdV at h; exact HN.out ▸ h) (by rw [← HN.out]; exact HNM.out)).mono ?_
      rintro e w6 ⟨ff, rfl, hff, hB6, hnil⟩
      obtain ⟨fa', fc', rfl⟩ := own_form hff
      have hofb : (Value.slice fa' N fc').ownBlock ≠ some w.heap.size := fun e => by have := (hff.lt _ e).1; have := bR.lt; omega
      have hofr : (Value.slice fa' N fc').ownBlock ≠ some (w.heap.size + 1) := fun e => by have := (hff.lt _ e).1; have := bR.lt; omega
      have hap := apart_row hvv hff (Nat.le_refl _)
      have hff := own_base hff hBw.size
      have bT := bT.below hB6
      have bR := bR.below hB6
      have hBw := hBw.trans (hB6.mono hBw.size)
      try have hsl := (hB6.block _ (Array.getElem?_eq_some_iff.1 hsl).1).trans hsl
      try have hvv := hvv.below hB6
      obtain ⟨m0, m1, m2, m3, m4, m5, m6, m7, _⟩ := bT.cells
      simp only [Nat.zero_add, Nat.add_zero] at m0 m1 m2 m3 m4 m5 m6 m7
      have z4 := bT.frozen 4
      have z6 := bT.frozen 6
      refine hK.out _ _ (hBw.size) (fun hHeld2 => ?_)
      replace hHeld := hHeld2
      clear hK K hHeld2
      try simp only [Act.put, List.setIfInBounds_toArray, List.set_cons_zero, List.set_cons_succ]
      refine wpAnyH_ready (rs := [8]) (by kernel_rfl) (by simp) (AllReadyH.cons (o := _) (by rw [List.getElem?_toArray]; rfl) (fun K hK => ?_) AllReadyH.nil)
      go_simp
      generalize hX : World.setCell _ ⟨w.heap.size, 4, none⟩ _ = wx
      have hg : World.grownBy _ wx (some w.heap.size) := hX ▸ set1 _ ⟨w.heap.size, 4, none⟩ _
      have bT := hX ▸ bT.setAt (j := 4) (.slice va L vc)
      simp only [List.set_cons_zero, List.set_cons_succ] at bT
      have bR := bR.kept hg (by simp)
      have hBw : Below w.heap.size w wx := hX ▸ hBw.setCell (Nat.le_refl _) _
      try have hvv := hvv.grown hg hovb
      try have hff := own_grown hff hg hofb
      clear hg hX
      obtain ⟨m0, m1, m2, m3, m4, m5, m6, m7, _⟩ := bT.cells
      simp only [Nat.zero_add, Nat.add_zero] at m0 m1 m2 m3 m4 m5 m6 m7
      have z4 := bT.frozen 4
      have z6 := bT.frozen 6
      refine hK.out _ _ (hBw.size) (fun hHeld2 => ?_)
      replace hHeld := hHeld2
      clear hK K hHeld2
      try simp only [Act.put, List.setIfInBounds_toArray, List.set_cons_zero, List.set_cons_succ]
      refine tkT 9 ?_
      simp only [Act.put, List.setIfInBounds_toArray, List.set_cons_zero, List.set_cons_succ]
      refine wpAnyH_ready (rs := [10]) (by kernel_rfl) (by simp) (AllReadyH.cons (o := _) (by rw [List.getElem?_toArray]; rfl) (fun K hK => ?_) AllReadyH.nil)
      go_simp
      generalize hX : World.setCell _ ⟨w.heap.size, 6, none⟩ _ = wx
      have hg : World.grownBy _ wx (some w.heap.size) := hX ▸ set1 _ ⟨w.heap.size, 6, none⟩ _
      have bT := hX ▸ bT.setAt (j := 6) (.slice fa' N fc')
      simp only [List.set_cons_zero, List.set_cons_succ] at bT
      have bR := bR.kept hg (by simp)
      have hBw : Below w.heap.size w wx := hX ▸ hBw.setCell (Nat.le_refl _) _
      try have hvv := hvv.grown hg hovb
      try have hff := own_grown hff hg hofb
      clear hg hX
      obtain ⟨m0, m1, m2, m3, m4, m5, m6, m7, _⟩ := bT.cells
      simp only [Nat.zero_add, Nat.add_zero] at m0 m1 m2 m3 m4 m5 m6 m7
      have z4 := bT.frozen 4
      have z6 := bT.frozen 6
      refine hK.out _ _ (hBw.size) (fun hHeld2 => ?_)
      replace hHeld := hHeld2
      clear hK K hHeld2
      try simp only [Act.put, List.setIfInBounds_toArray, List.set_cons_zero, List.set_cons_succ]
      refine wpAnyH_done (by kernel_rfl) ?_ _
      clear hHeld m0 m1 m2 m3 m4 m5 m6 m7 z4 z6
      obtain ⟨m0, m1, m2, m3, m4, m5, m6, m7, _⟩ := bT.cells
      simp only [Nat.zero_add, Nat.add_zero] at m0 m1 m2 m3 m4 m5 m6 m7
      have z4 := bT.frozen 4
      have z6 := bT.frozen 6
      have hOpen := bR.cells
      simp only [Cells, blk, List.cons_append, List.nil_append, and_true, Nat.reduceAdd, Nat.add_zero, Nat.zero_add] at hOpen
      obtain ⟨q0, q1, q2, q3, q4, q5, q6, q7⟩ := hOpen
      have y0 := bR.frozen 0
      have y1 := bR.frozen 1
      have y2 := bR.frozen 2
      have y3 := bR.frozen 3
      have y4 := bR.frozen 4
      have y5 := bR.frozen 5
      have y6 := bR.frozen 6
      have y7 := bR.frozen 7
      go_wp2_with fail
      generalize hY : World.setCell _ _ _ = Y
      obtain ⟨bY, hgY⟩ := set8 bR hY
      have hBY := hBw.grown hgY hBw.size (fun q hq => by cases hq; omega)
      have hvY := hvv.grown hgY hovr
      have hfY := own_grown hff hgY hofr
      clear hY q0 q1 q2 q3 q4 q5 q6 q7 m0 m1 m2 m3 m4 m5 m6 m7 y0 y1 y2 y3 y4 y5 y6 y7 z4 z6
      have hOpen := bY.cells
      simp only [Cells, blk, List.cons_append, List.nil_append, and_true, Nat.reduceAdd, Nat.add_zero, Nat.zero_add] at hOpen
      obtain ⟨q0, q1, q2, q3, q4, q5, q6, q7⟩ := hOpen
      refine bodyPost_ret (v := .agg #[.int .i64 kd, .int .u16 fi, .int .u16 la, .int .u16 ha, .slice va L vc, .int .i64 ofs, .slice fa' N fc', .bool bad]) (by simp [results, Try.results42, go_sem, q0, q1, q2, q3, q4, q5, q6, q7]) rfl ?_
      exact ⟨_, _, rfl, hvY, hov, by unfold FdO; rw [HN.out]; exact hfY, hBY, hnil, HL.out ▸ hap⟩
  · go_simp
    refine hK.out _ _ (hHeld) (fun hHeld2 => ?_)
    replace hHeld := hHeld2
    clear hK K hHeld2
    try simp only [Act.put, List.setIfInBounds_toArray, List.set_cons_zero, List.set_cons_succ]
    refine wpAnyH_ready (rs := [1]) (by kernel_rfl) (by simp) (AllReadyH.cons (o := _) (by rw [List.getElem?_toArray]; rfl) (fun K hK => ?_) AllReadyH.nil)
    go_simp
    refine hK.out _ _ (hHeld) (fun hHeld2 => ?_)
    replace hHeld := hHeld2
    clear hK K hHeld2
    try simp only [Act.put, List.setIfInBounds_toArray, List.set_cons_zero, List.set_cons_succ]
    refine wpAnyH_ready (rs := [2]) (by kernel_rfl) (by simp) (AllReadyH.cons (o := _) (by rw [List.getElem?_toArray]; rfl) (fun K hK => ?_) AllReadyH.nil)
    go_simp
    generalize hX : World.alloc _ (.cells _ 23) = w2
    obtain ⟨hsl, hB2, hz2⟩ := alloc_named hX
    clear hX hz2
    have bT := bT.below hB2
    have bR := bR.below hB2
    have hBw := hBw.trans (hB2.mono hBw.size)
    
    try have hvv := hvv.below hB2
    try have hff := own_below hff hB2
    obtain ⟨m0, m1, m2, m3, m4, m5, m6, m7, _⟩ := bT.cells
    simp only [Nat.zero_add, Nat.add_zero] at m0 m1 m2 m3 m4 m5 m6 m7
    have z4 := bT.frozen 4
    have z6 := bT.frozen 6
    refine hK.out _ _ (hBw.size) (fun hHeld2 => ?_)
    replace hHeld := hHeld2
    clear hK K hHeld2
    try simp only [Act.put, List.setIfInBounds_toArray, List.set_cons_zero, List.set_cons_succ]
    refine wpAnyH_ready (rs := [3]) (by kernel_rfl) (by simp) (AllReadyH.cons (o := _) (by rw [List.getElem?_toArray]; rfl) (fun K hK => ?_) AllReadyH.nil)
    go_simp
    go_at_call 31
    refine (join_one _ _ vs _ _ hsl (HBV.out.below hBw) HM.out).mono ?_
    rintro e w3 ⟨vv, rfl, hvv, hov, hB3⟩
    have hovb : vv.ownBlock ≠ some w.heap.size := fun e => by have := hov _ e; have := bR.lt; omega
    have hovr : vv.ownBlock ≠ some (w.heap.size + 1) := fun e => by have := hov _ e; have := bR.lt; omega
    have hov := hov.mono hBw.size
    have hform : ∃ va vc, vv = .slice va L vc := by
      obtain ⟨va, vc, e, _⟩ := hvv
      exact ⟨va, vc, by rw [e, HL.out]⟩
    obtain ⟨va, vc, rfl⟩ := hform
    have bT := bT.below hB3
    have bR := bR.below hB3
    have hBw := hBw.trans (hB3.mono hBw.size)
    clear hsl
    
    try have hff := own_below hff hB3
    obtain ⟨m0, m1, m2, m3, m4, m5, m6, m7, _⟩ := bT.cells
    simp only [Nat.zero_add, Nat.add_zero] at m0 m1 m2 m3 m4 m5 m6 m7
    have z4 := bT.frozen 4
    have z6 := bT.frozen 6
    refine hK.out _ _ (hBw.size) (fun hHeld2 => ?_)
    replace hHeld := hHeld2
    clear hK K hHeld2
    try simp only [Act.put, List.setIfInBounds_toArray, List.set_cons_zero, List.set_cons_succ]
    refine tkT 7 ?_
    simp only [Act.put, List.setIfInBounds_toArray, List.set_cons_zero, List.set_cons_succ]
    refine wpAnyH_ready (rs := [6]) (by kernel_rfl) (by simp) (AllReadyH.cons (o := _) (by rw [List.getElem?_toArray]; rfl) (fun K hK => ?_) AllReadyH.nil)
    go_simp
    go_at_call 87
    refine (clone_Found _ N (fcells fo) _ (by have h := HFV.out.below hBw; unfold FdV at h; exact HN.out ▸ h) (by rw [← HN.out]; exact HNM.out)).mono ?_
    rintro e w6 ⟨ff, rfl, hff, hB6, hnil⟩
    obtain ⟨fa', fc', rfl⟩ := own_form hff
    have hofb : (Value.slice fa' N fc').ownBlock ≠ some w.heap.size := fun e => by have := (hff.lt _ e).1; have := bR.lt; omega
    have hofr : (Value.slice fa' N fc').ownBlock ≠ some (w.heap.size + 1) := fun e => by have := (hff.lt _ e).1; have := bR.lt; omega
    have hap := apart_row hvv hff (Nat.le_refl _)
    have hff := own_base hff hBw.size
    have bT := bT.below hB6
    have bR := bR.below hB6
    have hBw := hBw.trans (hB6.mono hBw.size)
    try have hsl := (hB6.block _ (Array.getElem?_eq_some_iff.1 hsl).1).trans hsl
    try have hvv := hvv.below hB6
    obtain ⟨m0, m1, m2, m3, m4, m5, m6, m7, _⟩ := bT.cells
    simp only [Nat.zero_add, Nat.add_zero] at m0 m1 m2 m3 m4 m5 m6 m7
    have z4 := bT.frozen 4
    have z6 := bT.frozen 6
    refine hK.out _ _ (hBw.size) (fun hHeld2 => ?_)
    replace hHeld := hHeld2
    clear hK K hHeld2
    try simp only [Act.put, List.setIfInBounds_toArray, List.set_cons_zero, List.set_cons_succ]
    refine wpAnyH_ready (rs := [8]) (by kernel_rfl) (by simp) (AllReadyH.cons (o := _) (by rw [List.getElem?_toArray]; rfl) (fun K hK => ?_) AllReadyH.nil)
    go_simp
    generalize hX : World.setCell _ ⟨w.heap.size, 4, none⟩ _ = wx
    have hg : World.grownBy _ wx (some w.heap.size) := hX ▸ set1 _ ⟨w.heap.size, 4, none⟩ _
    have bT := hX ▸ bT.setAt (j := 4) (.slice va L vc)
    simp only [List.set_cons_zero, List.set_cons_succ] at bT
    have bR := bR.kept hg (by simp)
    have hBw : Below w.heap.size w wx := hX ▸ hBw.setCell (Nat.le_refl _) _
    try have hvv := hvv.grown hg hovb
    try have hff := own_grown hff hg hofb
    clear hg hX
    obtain ⟨m0, m1, m2, m3, m4, m5, m6, m7, _⟩ := bT.cells
    simp only [Nat.zero_add, Nat.add_zero] at m0 m1 m2 m3 m4 m5 m6 m7
    have z4 := bT.frozen 4
    have z6 := bT.frozen 6
    refine hK.out _ _ (hBw.size) (fun hHeld2 => ?_)
    replace hHeld := hHeld2
    clear hK K hHeld2
    try simp only [Act.put, List.setIfInBounds_toArray, List.set_cons_zero, List.set_cons_succ]
    refine tkT 9 ?_
    simp only [Act.put, List.setIfInBounds_toArray, List.set_cons_zero, List.set_cons_succ]
    refine wpAnyH_ready (rs := [10]) (by kernel_rfl) (by simp) (AllReadyH.cons (o := _) (by rw [List.getElem?_toArray]; rfl) (fun K hK => ?_) AllReadyH.nil)
    go_simp
    generalize hX : World.setCell _ ⟨w.heap.size, 6, none⟩ _ = wx
    have hg : World.grownBy _ wx (some w.heap.size) := hX ▸ set1 _ ⟨w.heap.size, 6, none⟩ _
    have bT := hX ▸ bT.setAt (j := 6) (.slice fa' N fc')
    simp only [List.set_cons_zero, List.set_cons_succ] at bT
    have bR := bR.kept hg (by simp)
    have hBw : Below w.heap.size w wx := hX ▸ hBw.setCell (Nat.le_refl _) _
    try have hvv := hvv.grown hg hovb
    try have hff := own_grown hff hg hofb
    clear hg hX
    obtain ⟨m0, m1, m2, m3, m4, m5, m6, m7, _⟩ := bT.cells
    simp only [Nat.zero_add, Nat.add_zero] at m0 m1 m2 m3 m4 m5 m6 m7
    have z4 := bT.frozen 4
    have z6 := bT.frozen 6
    refine hK.out _ _ (hBw.size) (fun hHeld2 => ?_)
    replace hHeld := hHeld2
    clear hK K hHeld2
    try simp only [Act.put, List.setIfInBounds_toArray, List.set_cons_zero, List.set_cons_succ]
    refine wpAnyH_done (by kernel_rfl) ?_ _
    clear hHeld m0 m1 m2 m3 m4 m5 m6 m7 z4 z6
    obtain ⟨m0, m1, m2, m3, m4, m5, m6, m7, _⟩ := bT.cells
    simp only [Nat.zero_add, Nat.add_zero] at m0 m1 m2 m3 m4 m5 m6 m7
    have z4 := bT.frozen 4
    have z6 := bT.frozen 6
    have hOpen := bR.cells
    simp only [Cells, blk, List.cons_append, List.nil_append, and_true, Nat.reduceAdd, Nat.add_zero, Nat.zero_add] at hOpen
    obtain ⟨q0, q1, q2, q3, q4, q5, q6, q7⟩ := hOpen
    have y0 := bR.frozen 0
    have y1 := bR.frozen 1
    have y2 := bR.frozen 2
    have y3 := bR.frozen 3
    have y4 := bR.frozen 4
    have y5 := bR.frozen 5
    have y6 := bR.frozen 6
    have y7 := bR.frozen 7
    go_wp2_with fail
    generalize hY : World.setCell _ _ _ = Y
    obtain ⟨bY, hgY⟩ := set8 bR hY
    have hBY := hBw.grown hgY hBw.size (fun q hq => by cases hq; omega)
    have hvY := hvv.grown hgY hovr
    have hfY := own_grown hff hgY hofr
    clear hY q0 q1 q2 q3 q4 q5 q6 q7 m0 m1 m2 m3 m4 m5 m6 m7 y0 y1 y2 y3 y4 y5 y6 y7 z4 z6
    have hOpen := bY.cells
    simp only [Cells, blk, List.cons_append, List.nil_append, and_true, Nat.reduceAdd, Nat.add_zero, Nat.zero_add] at hOpen
    obtain ⟨q0, q1, q2, q3, q4, q5, q6, q7⟩ := hOpen
    refine bodyPost_ret (v := .agg #[.int .i64 kd, .int .u16 fi, .int .u16 la, .int .u16 ha, .slice va L vc, .int .i64 ofs, .slice fa' N fc', .bool bad]) (by simp [results, Try.results42, go_sem, q0, q1, q2, q3, q4, q5, q6, q7]) rfl ?_
    exact ⟨_, _, rfl, hvY, hov, by unfold FdO; rw [HN.out]; exact hfY, hBY, hnil, HL.out ▸ hap⟩
end Go.Proofs.Ytldcihjddebciaa
