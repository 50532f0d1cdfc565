/- client: its data; copies of a task and of a PDU. And what follows it. -/
import Derived.Test.YtldcihjddebciaaGreatDClF
set_option linter.unusedSimpArgs false
set_option linter.unusedVariables false
set_option maxRecDepth 100000
set_option maxHeartbeats 4000000
namespace Go.Proofs.YtldcihjddebciaaGreat
open Go.RowKit
/-- a task -/
structure Tk where
 kd : Int
 fi : Nat
 la : Nat
 ha : Nat
 vs : List Nat
 of : Int
 fo : List Fd
 bad : Bool
instance : Inhabited Tk := ⟨⟨0,0,0,0,[],0,[],false⟩⟩
def tkc (t : Tk) (bv fv : Value) : List Value := [.int .i64 t.kd,.int .u16 t.fi,.int .u16 t.la,.int .u16 t.ha,bv,.int .i64 t.of,fv,.bool t.bad]
theorem own_grown {w w' : World} {base e k n i : Nat} {v : Value} {cs : List Value} (h : w.ownsRow base e k v n cs) (hg : w.grownBy w' (some i)) (hi : v.ownBlock ≠ some i) : w'.ownsRow base e k v n cs := by
 refine ⟨h.1,?_⟩
 rcases h.2 with h0 | ⟨g,cap,cur,rfl,hb,hh,r⟩
 ·exact .inl h0
 ·exact .inr ⟨g,cap,cur,rfl,hb,by rw [hg.block g (Array.getElem?_eq_some_iff.1 hh).1 (fun e => hi (by simp [Value.ownBlock]; injection e))]; exact hh,r⟩
theorem own_form {w : World} {base e k n : Nat} {v : Value} {cs : List Value} (h : w.ownsRow base e k v n cs) : ∃ a c,v = .slice a n c := by
 rcases h.2 with ⟨rfl,e⟩ | ⟨g,cap,cur,rfl,_⟩
 ·exact ⟨none,0,by rw [e]⟩
 ·exact ⟨_,_,rfl⟩
theorem FdV.form {w : World} {v : Value} {l : List Fd} (h : FdV w v l) : ∃ a c,v = .slice a l.length c := by
 obtain ⟨_,_,_,ao,cap,rfl,_⟩ := h
 exact ⟨_,_,rfl⟩
/-- a value lies in none of the blocks -/
def Apart (R : List (Option Nat)) (v : Value) : Prop := ∀ k,v.ownBlock = some k → some k ∉ R
theorem SR.lies {w : World} {v : Value} {n size : Nat} {cs : List Value} (h : SR w v n size cs) : n = 0 ∨ ∃ b,v.ownBlock = some b ∧ b < w.heap.size := by
 obtain ⟨h1,h2,h3,ao,cap,rfl,hn,h4⟩ := h
 by_cases h0 : n = 0
 ·exact .inl h0
 ·obtain ⟨b,off,rfl,hlt,_⟩ := h4 (by omega)
  exact .inr ⟨b,by simp [Value.ownBlock],hlt⟩
theorem BV.sr {w : World} {v : Value} {bs : List Nat} (h : BV w v bs) : SR w v bs.length 1 (bcells bs) := by
 obtain ⟨a,c,rfl,_,h,_⟩ := h
 exact h
theorem apart_row {w w' : World} {v u : Value} {bs : List Nat} {base e k n : Nat} {cs : List Value} (h : BV w v bs) (ho : w'.ownsRow base e k u n cs) (hb : w.heap.size ≤ base) : bs.length = 0 ∨ Apart [u.ownBlock] v := by
 rcases h.sr.lies with h0 | ⟨b,hv,hlt⟩
 ·exact .inl h0
 ·refine .inr fun i hi hm => ?_
  rw [hv] at hi
  injection hi with hi
  subst hi
  have := (ho.lt b (List.mem_singleton.1 hm).symm).1
  omega
/-- what was found, in memory of one's own -/
def FdO (B : Nat) (w : World) (v : Value) (l : List Fd) : Prop := w.ownsRow B 39 6 v l.length (fcells l)
theorem FdO.fdv {B : Nat} {w : World} {v : Value} {l : List Fd} (h : FdO B w v l) (hm : l.length ≤ 100000000) : FdV w v l := SR.of_own h (fcells_one l) (by unfold maxLen; omega)
theorem FdO.below {B : Nat} {w w' : World} {v : Value} {l : List Fd} (h : FdO B w v l) (hb : Below w.heap.size w w') : FdO B w' v l := own_below h hb
theorem task_any (kd fi la ha : Int) (bv : Value) (ofs : Int) (fv : Value) (bad : Bool) (vs : List Nat) (fo : List Fd) (w : World) (hb : BV w bv vs) (hf : FdV w fv fo) (hm : vs.length ≤ 1000000) (hn : fo.length ≤ 1000000) :
 Calls Tryz.prog 56 #[.agg #[.int .i64 kd,.int .u16 fi,.int .u16 la,.int .u16 ha,bv,.int .i64 ofs,fv,.bool bad]] w fun e w' => ∃ bv' fv',e = .returned (.agg #[.int .i64 kd,.int .u16 fi,.int .u16 la,.int .u16 ha,bv',.int .i64 ofs,fv',.bool bad]) ∧ BV w' bv' vs ∧ Own w.heap.size bv' ∧ FdO w.heap.size w' fv' fo ∧ Below w.heap.size w w' ∧ (fv = .slice none 0 0 → fv' = .slice none 0 0) ∧ (vs.length = 0 ∨ Apart [fv'.ownBlock] bv') := by
 have HBV := Lib.hid hb
 have HFV := Lib.hid hf
 obtain ⟨a,c,rfl,_,_⟩ := hb
 obtain ⟨fa,fc,rfl⟩ := hf.form
 obtain ⟨L,hL⟩ : ∃ L,vs.length = L := ⟨_,rfl⟩
 obtain ⟨N,hN⟩ : ∃ L,fo.length = L := ⟨_,rfl⟩
 rw [hL] at HBV ⊢
 rw [hN] at HFV ⊢
 have HL := Lib.hid hL
 have HN := Lib.hid hN
 have HM := Lib.hid hm
 have HNM := Lib.hid hn
 clear hL hN hf hm hn
 have bT0 := (Blk.new w 46 [.int .i64 kd,.int .u16 fi,.int .u16 la,.int .u16 ha,.slice a L c,.int .i64 ofs,.slice fa N fc,.bool bad]).below ((Below.refl _ _).alloc (Nat.le_refl _) (.cells #[.int .i64 0,.int .u16 0,.int .u16 0,.int .u16 0,.slice none 0 0,.int .i64 0,.slice none 0 0,.bool false] 46))
 have ha0 : Below w.heap.size w (w.alloc (.cells #[.int .i64 kd,.int .u16 fi,.int .u16 la,.int .u16 ha,.slice a L c,.int .i64 ofs,.slice fa N fc,.bool bad] 46)) := (Below.refl _ _).alloc (Nat.le_refl _) _
 have hz0 : (w.alloc (.cells #[.int .i64 kd,.int .u16 fi,.int .u16 la,.int .u16 ha,.slice a L c,.int .i64 ofs,.slice fa N fc,.bool bad] 46)).heap.size = w.heap.size + 1 := by simp
 have bR0 := Blk.new (w.alloc (.cells #[.int .i64 kd,.int .u16 fi,.int .u16 la,.int .u16 ha,.slice a L c,.int .i64 ofs,.slice fa N fc,.bool bad] 46)) 46 [.int .i64 0,.int .u16 0,.int .u16 0,.int .u16 0,.slice none 0 0,.int .i64 0,.slice none 0 0,.bool false]
 rw [hz0] at bR0
 have hB0 := ha0.alloc ha0.size (.cells #[.int .i64 0,.int .u16 0,.int .u16 0,.int .u16 0,.slice none 0 0,.int .i64 0,.slice none 0 0,.bool false] 46)
 go_enter Tryz.func56,Tryz.ntmps56
 go_upto_region 1 with fail
 generalize hV : World.alloc (World.alloc w _) _ = V at bT0 bR0 hB0 ⊢
 clear hV ha0 hz0
 have bT : Blk V.drew w.heap.size 46 [.int .i64 kd,.int .u16 fi,.int .u16 la,.int .u16 ha,.slice a L c,.int .i64 ofs,.slice fa N fc,.bool bad] := bT0.drew
 have bR : Blk V.drew (w.heap.size + 1) 46 _ := bR0.drew
 have hBw := hB0.drew
 clear bT0 bR0 hB0
 obtain ⟨m0,m1,m2,m3,m4,m5,m6,m7,_⟩ := bT.cells
 simp only [Nat.zero_add,Nat.add_zero] at m0 m1 m2 m3 m4 m5 m6 m7
 have z4 := bT.frozen 4
 have z6 := bT.frozen 6
 refine wp_region_held_drew (S := (fun W' : World => w.heap.size ≤ W'.heap.size)) (by kernel_rfl) (hBw.size) (fun hHeld => ?_)
 generalize World.drew _ = wd at hHeld bT bR hBw m0 m1 m2 m3 m4 m5 m6 m7 ⊢
 repeat' first
  |refine tkU 0 ?_
  |refine tkU 4 ?_
  |refine tkU 7 ?_
  |refine tkU 9 ?_
  |(refine opn 1 fun K hK => ?_
    go_simp
    refine hK.out _ _ (hHeld) (fun h => ?_)
    replace hHeld := h
    clear hK K h
    try simp only [Act.put,List.setIfInBounds_toArray,List.set_cons_zero,List.set_cons_succ])
  |(refine opn 2 fun K hK => ?_
    go_simp
    generalize hX : World.alloc _ (.cells _ 27) = w2
    obtain ⟨hsl,hB2,hz2⟩ := alloc_named hX
    clear hX hz2
    have bT := bT.below hB2
    have bR := bR.below hB2
    have hBw := hBw.trans (hB2.mono hBw.size)
    try have hvv := hvv.below hB2
    try have hff := own_below hff hB2
    obtain ⟨m0,m1,m2,m3,m4,m5,m6,m7,_⟩ := bT.cells
    simp only [Nat.zero_add,Nat.add_zero] at m0 m1 m2 m3 m4 m5 m6 m7
    have z4 := bT.frozen 4
    have z6 := bT.frozen 6
    refine hK.out _ _ (hBw.size) (fun h => ?_)
    replace hHeld := h
    clear hK K h
    try simp only [Act.put,List.setIfInBounds_toArray,List.set_cons_zero,List.set_cons_succ])
  |(refine opn 3 fun K hK => ?_
    go_simp
    go_at_call 34
    refine (join_one _ _ vs _ _ hsl (HBV.out.below hBw) HM.out).mono ?_
    rintro e w3 ⟨vv,rfl,hvv,hov,hB3⟩
    have hovb : vv.ownBlock ≠ some w.heap.size := fun e => by have := hov _ e; have := bR.lt; omega
    have hovr : vv.ownBlock ≠ some (w.heap.size + 1) := fun e => by have := hov _ e; have := bR.lt; omega
    have hov := hov.mono hBw.size
    have hform : ∃ va vc,vv = .slice va L vc := by
     obtain ⟨va,vc,e,_⟩ := hvv
     exact ⟨va,vc,by rw [e,HL.out]⟩
    obtain ⟨va,vc,rfl⟩ := hform
    have bT := bT.below hB3
    have bR := bR.below hB3
    have hBw := hBw.trans (hB3.mono hBw.size)
    clear hsl
    try have hff := own_below hff hB3
    obtain ⟨m0,m1,m2,m3,m4,m5,m6,m7,_⟩ := bT.cells
    simp only [Nat.zero_add,Nat.add_zero] at m0 m1 m2 m3 m4 m5 m6 m7
    have z4 := bT.frozen 4
    have z6 := bT.frozen 6
    refine hK.out _ _ (hBw.size) (fun h => ?_)
    replace hHeld := h
    clear hK K h
    try simp only [Act.put,List.setIfInBounds_toArray,List.set_cons_zero,List.set_cons_succ])
  |(refine opn 5 fun K hK => ?_
    go_simp
    refine hK.out _ _ (hHeld) (fun h => ?_)
    replace hHeld := h
    clear hK K h
    try simp only [Act.put,List.setIfInBounds_toArray,List.set_cons_zero,List.set_cons_succ])
  |(refine opn 6 fun K hK => ?_
    go_simp
    go_at_call 101
    refine (clone_Found _ N (fcells fo) _ (by have h := HFV.out.below hBw; unfold FdV at h; exact HN.out ▸ h) (by rw [← HN.out]; exact HNM.out)).mono ?_
    rintro e w6 ⟨ff,rfl,hff,hB6,hnil⟩
    obtain ⟨fa',fc',rfl⟩ := own_form hff
    have hofb : (Value.slice fa' N fc').ownBlock ≠ some w.heap.size := fun e => by have := (hff.lt _ e).1; have := bR.lt; omega
    have hofr : (Value.slice fa' N fc').ownBlock ≠ some (w.heap.size + 1) := fun e => by have := (hff.lt _ e).1; have := bR.lt; omega
    have hap := apart_row hvv hff (Nat.le_refl _)
    have hff := own_base hff hBw.size
    have bT := bT.below hB6
    have bR := bR.below hB6
    have hBw := hBw.trans (hB6.mono hBw.size)
    try have hsl := (hB6.block _ (Array.getElem?_eq_some_iff.1 hsl).1).trans hsl
    try have hvv := hvv.below hB6
    obtain ⟨m0,m1,m2,m3,m4,m5,m6,m7,_⟩ := bT.cells
    simp only [Nat.zero_add,Nat.add_zero] at m0 m1 m2 m3 m4 m5 m6 m7
    have z4 := bT.frozen 4
    have z6 := bT.frozen 6
    refine hK.out _ _ (hBw.size) (fun h => ?_)
    replace hHeld := h
    clear hK K h
    try simp only [Act.put,List.setIfInBounds_toArray,List.set_cons_zero,List.set_cons_succ])
  |(refine opn 8 fun K hK => ?_
    go_simp
    generalize hX : World.setCell _ ⟨w.heap.size,4,none⟩ _ = wx
    have hg : World.grownBy _ wx (some w.heap.size) := hX ▸ set1 _ ⟨w.heap.size,4,none⟩ _
    have bT := hX ▸ bT.setAt (j := 4) (.slice va L vc)
    simp only [List.set_cons_zero,List.set_cons_succ] at bT
    have bR := bR.kept hg (by simp)
    have hBw : Below w.heap.size w wx := hX ▸ hBw.setCell (Nat.le_refl _) _
    try have hvv := hvv.grown hg hovb
    try have hff := own_grown hff hg hofb
    clear hg hX
    obtain ⟨m0,m1,m2,m3,m4,m5,m6,m7,_⟩ := bT.cells
    simp only [Nat.zero_add,Nat.add_zero] at m0 m1 m2 m3 m4 m5 m6 m7
    have z4 := bT.frozen 4
    have z6 := bT.frozen 6
    refine hK.out _ _ (hBw.size) (fun h => ?_)
    replace hHeld := h
    clear hK K h
    try simp only [Act.put,List.setIfInBounds_toArray,List.set_cons_zero,List.set_cons_succ])
  |(refine opn 10 fun K hK => ?_
    go_simp
    generalize hX : World.setCell _ ⟨w.heap.size,6,none⟩ _ = wx
    have hg : World.grownBy _ wx (some w.heap.size) := hX ▸ set1 _ ⟨w.heap.size,6,none⟩ _
    have bT := hX ▸ bT.setAt (j := 6) (.slice fa' N fc')
    simp only [List.set_cons_zero,List.set_cons_succ] at bT
    have bR := bR.kept hg (by simp)
    have hBw : Below w.heap.size w wx := hX ▸ hBw.setCell (Nat.le_refl _) _
    try have hvv := hvv.grown hg hovb
    try have hff := own_grown hff hg hofb
    clear hg hX
    obtain ⟨m0,m1,m2,m3,m4,m5,m6,m7,_⟩ := bT.cells
    simp only [Nat.zero_add,Nat.add_zero] at m0 m1 m2 m3 m4 m5 m6 m7
    have z4 := bT.frozen 4
    have z6 := bT.frozen 6
    refine hK.out _ _ (hBw.size) (fun h => ?_)
    replace hHeld := h
    clear hK K h
    try simp only [Act.put,List.setIfInBounds_toArray,List.set_cons_zero,List.set_cons_succ])
  |refine rd2 1 5 ?_ ?_
  |refine rd2 2 5 ?_ ?_
  |refine rd2 3 5 ?_ ?_
  |refine rd1 5 ?_
  |refine rd1 6 ?_
  |refine rd1 8 ?_
  |refine rd1 10 ?_
  |refine rd1 3 ?_
  |refine rd1 2 ?_
  |refine rd1 1 ?_
  |(refine wpAnyH_done (by kernel_rfl) ?_ _
    clear hHeld m0 m1 m2 m3 m4 m5 m6 m7 z4 z6
    obtain ⟨m0,m1,m2,m3,m4,m5,m6,m7,_⟩ := bT.cells
    simp only [Nat.zero_add,Nat.add_zero] at m0 m1 m2 m3 m4 m5 m6 m7
    have z4 := bT.frozen 4
    have z6 := bT.frozen 6
    have hOpen := bR.cells
    simp only [Cells,blk,List.cons_append,List.nil_append,and_true,Nat.reduceAdd,Nat.add_zero,Nat.zero_add] at hOpen
    obtain ⟨q0,q1,q2,q3,q4,q5,q6,q7⟩ := hOpen
    have y0 := bR.frozen 0
    have y1 := bR.frozen 1
    have y2 := bR.frozen 2
    have y3 := bR.frozen 3
    have y4 := bR.frozen 4
    have y5 := bR.frozen 5
    have y6 := bR.frozen 6
    have y7 := bR.frozen 7
    go_wp2_with fail
    generalize hY : World.setCell _ _ _ = Y
    obtain ⟨bY,hgY⟩ := set8 bR hY
    have hBY := hBw.grown hgY hBw.size (fun q hq => by cases hq; omega)
    have hvY := hvv.grown hgY hovr
    have hfY := own_grown hff hgY hofr
    clear hY q0 q1 q2 q3 q4 q5 q6 q7 m0 m1 m2 m3 m4 m5 m6 m7 y0 y1 y2 y3 y4 y5 y6 y7 z4 z6
    have hOpen := bY.cells
    simp only [Cells,blk,List.cons_append,List.nil_append,and_true,Nat.reduceAdd,Nat.add_zero,Nat.zero_add] at hOpen
    obtain ⟨q0,q1,q2,q3,q4,q5,q6,q7⟩ := hOpen
    refine bodyPost_ret (v := .agg #[.int .i64 kd,.int .u16 fi,.int .u16 la,.int .u16 ha,.slice va L vc,.int .i64 ofs,.slice fa' N fc',.bool bad]) (by simp [results,Tryz.results56,go_sem,q0,q1,q2,q3,q4,q5,q6,q7]) rfl ?_
    exact ⟨_,_,rfl,hvY,hov,by unfold FdO; rw [HN.out]; exact hfY,hBY,hnil,HL.out ▸ hap⟩)
theorem pdu_any (kd ask ha la hi lo ofs mt co : Int) (cm : Bool) (bv iv : Value) (vs : List Nat) (n : Nat) (cs : List Value) (w : World) (hb : BV w bv vs) (hf : SR w iv n 5 cs) (hm : vs.length ≤ 1000000) (hn : n ≤ 1000000) :
 Calls Tryz.prog 57 #[.agg #[.int .i64 kd,.int .i64 ask,.int .u16 ha,.int .u16 la,.int .u64 hi,.int .u64 lo,.int .i64 ofs,.int .i64 mt,.int .i64 co,.bool cm,bv,iv]] w fun e w' => ∃ bv' iv',e = .returned (.agg #[.int .i64 kd,.int .i64 ask,.int .u16 ha,.int .u16 la,.int .u64 hi,.int .u64 lo,.int .i64 ofs,.int .i64 mt,.int .i64 co,.bool cm,bv',iv']) ∧ BV w' bv' vs ∧ Own w.heap.size bv' ∧ w'.ownsRow w.heap.size 142 5 iv' n cs ∧ Below w.heap.size w w' := by
 have HBV := Lib.hid hb
 have HFV := Lib.hid hf
 obtain ⟨a,c,rfl,_,_⟩ := hb
 obtain ⟨ia,ic,rfl⟩ : ∃ ia ic,iv = .slice ia n ic := by
  obtain ⟨_,_,_,ao,cap,e,_⟩ := hf
  exact ⟨_,_,e⟩
 obtain ⟨L,hL⟩ : ∃ L,vs.length = L := ⟨_,rfl⟩
 rw [hL] at HBV ⊢
 have HL := Lib.hid hL
 have HM := Lib.hid hm
 have HNM := Lib.hid hn
 clear hL hf hm hn
 have bT0 := (Blk.new w 49 [.int .i64 kd,.int .i64 ask,.int .u16 ha,.int .u16 la,.int .u64 hi,.int .u64 lo,.int .i64 ofs,.int .i64 mt,.int .i64 co,.bool cm,.slice a L c,.slice ia n ic]).below ((Below.refl _ _).alloc (Nat.le_refl _) (.cells #[.int .i64 0,.int .i64 0,.int .u16 0,.int .u16 0,.int .u64 0,.int .u64 0,.int .i64 0,.int .i64 0,.int .i64 0,.bool false,.slice none 0 0,.slice none 0 0] 49))
 have ha0 : Below w.heap.size w (w.alloc (.cells #[.int .i64 kd,.int .i64 ask,.int .u16 ha,.int .u16 la,.int .u64 hi,.int .u64 lo,.int .i64 ofs,.int .i64 mt,.int .i64 co,.bool cm,.slice a L c,.slice ia n ic] 49)) := (Below.refl _ _).alloc (Nat.le_refl _) _
 have hz0 : (w.alloc (.cells #[.int .i64 kd,.int .i64 ask,.int .u16 ha,.int .u16 la,.int .u64 hi,.int .u64 lo,.int .i64 ofs,.int .i64 mt,.int .i64 co,.bool cm,.slice a L c,.slice ia n ic] 49)).heap.size = w.heap.size + 1 := by simp
 have bR0 := Blk.new (w.alloc (.cells #[.int .i64 kd,.int .i64 ask,.int .u16 ha,.int .u16 la,.int .u64 hi,.int .u64 lo,.int .i64 ofs,.int .i64 mt,.int .i64 co,.bool cm,.slice a L c,.slice ia n ic] 49)) 49 [.int .i64 0,.int .i64 0,.int .u16 0,.int .u16 0,.int .u64 0,.int .u64 0,.int .i64 0,.int .i64 0,.int .i64 0,.bool false,.slice none 0 0,.slice none 0 0]
 rw [hz0] at bR0
 have hB0 := ha0.alloc ha0.size (.cells #[.int .i64 0,.int .i64 0,.int .u16 0,.int .u16 0,.int .u64 0,.int .u64 0,.int .i64 0,.int .i64 0,.int .i64 0,.bool false,.slice none 0 0,.slice none 0 0] 49)
 go_enter Tryz.func57,Tryz.ntmps57
 go_upto_region 1 with fail
 generalize hV : World.alloc (World.alloc w _) _ = V at bT0 bR0 hB0 ⊢
 clear hV ha0 hz0
 have bT : Blk V w.heap.size 49 [.int .i64 kd,.int .i64 ask,.int .u16 ha,.int .u16 la,.int .u64 hi,.int .u64 lo,.int .i64 ofs,.int .i64 mt,.int .i64 co,.bool cm,.slice a L c,.slice ia n ic] := bT0
 have bR : Blk V (w.heap.size + 1) 49 _ := bR0
 have hBw := hB0
 clear bT0 bR0 hB0
 have hOpen := bT.cells
 simp only [Cells,blk,List.cons_append,List.nil_append,and_true,Nat.reduceAdd,Nat.add_zero,Nat.zero_add] at hOpen
 obtain ⟨m0,m1,m2,m3,m4,m5,m6,m7,m8,m9,m10,m11⟩ := hOpen
 go_wp2_with fail
 have hsl : (V.alloc (.cells #[.slice a L c] 27)).heap[V.heap.size]? = some (.cells #[.slice a L c] 27) := World.alloc_heap_new V _
 generalize hX : World.alloc V _ = w2 at hsl ⊢
 have hB2 : Below V.heap.size V w2 := hX ▸ (Below.refl _ _).alloc (Nat.le_refl _) _
 clear hX m0 m1 m2 m3 m4 m5 m6 m7 m8 m9 m10 m11
 have bT := bT.below hB2
 have bR := bR.below hB2
 have hBw := hBw.trans (hB2.mono hBw.size)
 refine (join_one _ _ vs _ _ hsl (HBV.out.below hBw) HM.out).mono ?_
 rintro e w3 ⟨vv,rfl,hvv,hov,hB3⟩
 have hovb : vv.ownBlock ≠ some w.heap.size := fun e => by have := hov _ e; have := bR.lt; omega
 have hovr : vv.ownBlock ≠ some (w.heap.size + 1) := fun e => by have := hov _ e; have := bR.lt; omega
 have hov := hov.mono hBw.size
 have hform : ∃ va vc,vv = .slice va L vc := by
  obtain ⟨va,vc,e,_⟩ := hvv
  exact ⟨va,vc,by rw [e,HL.out]⟩
 obtain ⟨va,vc,rfl⟩ := hform
 have bT := bT.below hB3
 have bR := bR.below hB3
 have hBw := hBw.trans (hB3.mono hBw.size)
 clear hsl
 have z10 := bT.frozen 10
 have n10 := bT.cell (j := 10) rfl
 go_upto_region 2 with fail
 clear z10 n10
 generalize hX : World.setCell _ ⟨w.heap.size,10,none⟩ _ = wx10
 have hg : World.grownBy _ wx10 (some w.heap.size) := hX ▸ set1 _ ⟨w.heap.size,10,none⟩ _
 have bT := hX ▸ bT.setAt (j := 10) (.slice va L vc)
 simp only [List.set_cons_zero,List.set_cons_succ] at bT
 have bR := bR.kept hg (by simp)
 have hBw : Below w.heap.size w wx10 := hX ▸ hBw.setCell (Nat.le_refl _) _
 try have hvv := hvv.grown hg hovb
 try have hff := own_grown hff hg hofb
 clear hg hX
 have hOpen := bT.cells
 simp only [Cells,blk,List.cons_append,List.nil_append,and_true,Nat.reduceAdd,Nat.add_zero,Nat.zero_add] at hOpen
 obtain ⟨m0,m1,m2,m3,m4,m5,m6,m7,m8,m9,m10,m11⟩ := hOpen
 go_wp2_with fail
 clear m0 m1 m2 m3 m4 m5 m6 m7 m8 m9 m10 m11
 refine (clone_AttItem _ n cs _ (HFV.out.below hBw) HNM.out).mono ?_
 rintro e w6 ⟨ff,rfl,hff,hB6,_⟩
 obtain ⟨fa',fc',rfl⟩ := own_form hff
 have hofb : (Value.slice fa' n fc').ownBlock ≠ some w.heap.size := fun e => by have := (hff.lt _ e).1; have := bR.lt; omega
 have hofr : (Value.slice fa' n fc').ownBlock ≠ some (w.heap.size + 1) := fun e => by have := (hff.lt _ e).1; have := bR.lt; omega
 have hff := own_base hff hBw.size
 have hvv := hvv.below hB6
 have bT := bT.below hB6
 have bR := bR.below hB6
 have hBw := hBw.trans (hB6.mono hBw.size)
 have z11 := bT.frozen 11
 have n11 := bT.cell (j := 11) rfl
 go_upto_region 3 with fail
 clear z11 n11
 generalize hX : World.setCell _ ⟨w.heap.size,11,none⟩ _ = wx11
 have hg : World.grownBy _ wx11 (some w.heap.size) := hX ▸ set1 _ ⟨w.heap.size,11,none⟩ _
 have bT := hX ▸ bT.setAt (j := 11) (.slice fa' n fc')
 simp only [List.set_cons_zero,List.set_cons_succ] at bT
 have bR := bR.kept hg (by simp)
 have hBw : Below w.heap.size w wx11 := hX ▸ hBw.setCell (Nat.le_refl _) _
 try have hvv := hvv.grown hg hovb
 try have hff := own_grown hff hg hofb
 clear hg hX
 have hOpen := bT.cells
 simp only [Cells,blk,List.cons_append,List.nil_append,and_true,Nat.reduceAdd,Nat.add_zero,Nat.zero_add] at hOpen
 obtain ⟨m0,m1,m2,m3,m4,m5,m6,m7,m8,m9,m10,m11⟩ := hOpen
 have hOpen := bR.cells
 simp only [Cells,blk,List.cons_append,List.nil_append,and_true,Nat.reduceAdd,Nat.add_zero,Nat.zero_add] at hOpen
 obtain ⟨q0,q1,q2,q3,q4,q5,q6,q7,q8,q9,q10,q11⟩ := hOpen
 have y0 := bR.frozen 0
 have y1 := bR.frozen 1
 have y2 := bR.frozen 2
 have y3 := bR.frozen 3
 have y4 := bR.frozen 4
 have y5 := bR.frozen 5
 have y6 := bR.frozen 6
 have y7 := bR.frozen 7
 have y8 := bR.frozen 8
 have y9 := bR.frozen 9
 have y10 := bR.frozen 10
 have y11 := bR.frozen 11
 go_wp2_with fail
 generalize hY : World.setCell _ _ _ = Y
 obtain ⟨bY,hgY⟩ := set12 bR hY
 have hBY := hBw.grown hgY hBw.size (fun q hq => by cases hq; omega)
 have hvY := hvv.grown hgY hovr
 have hfY := own_grown hff hgY hofr
 clear hY q0 m0 y0 q1 m1 y1 q2 m2 y2 q3 m3 y3 q4 m4 y4 q5 m5 y5 q6 m6 y6 q7 m7 y7 q8 m8 y8 q9 m9 y9 q10 m10 y10 q11 m11 y11
 have hOpen := bY.cells
 simp only [Cells,blk,List.cons_append,List.nil_append,and_true,Nat.reduceAdd,Nat.add_zero,Nat.zero_add] at hOpen
 obtain ⟨q0,q1,q2,q3,q4,q5,q6,q7,q8,q9,q10,q11⟩ := hOpen
 refine bodyPost_ret (v := .agg #[.int .i64 kd,.int .i64 ask,.int .u16 ha,.int .u16 la,.int .u64 hi,.int .u64 lo,.int .i64 ofs,.int .i64 mt,.int .i64 co,.bool cm,.slice va L vc,.slice fa' n fc']) (by simp [results,Tryz.results57,go_sem,q0,q1,q2,q3,q4,q5,q6,q7,q8,q9,q10,q11]) rfl ?_
 exact ⟨_,_,rfl,hvY,hov,hfY,hBY⟩
structure Pd where
 kd : Int
 ask : Int
 ha : Nat
 la : Nat
 hi : Nat
 lo : Nat
 of : Int
 mt : Int
 co : Int
 cm : Bool
 vs : List Nat
instance : Inhabited Pd := ⟨⟨0,0,0,0,0,0,0,0,0,false,[]⟩⟩
def pdc (p : Pd) (bv iv : Value) : List Value := [.int .i64 p.kd,.int .i64 p.ask,.int .u16 p.ha,.int .u16 p.la,.int .u64 p.hi,.int .u64 p.lo,.int .i64 p.of,.int .i64 p.mt,.int .i64 p.co,.bool p.cm,bv,iv]
/-- a client -/
structure Cl where
 mt : Int
 mx : Int
 tk : Tk
 ad : Pd
 busy : Bool
 since : Int
 dead : Bool
 wt : List Tk
def clc (c : Cl) (bv fv ab ai wv : Value) : List Value := [.int .i64 c.mt,.int .i64 c.mx,.int .i64 c.tk.kd,.int .u16 c.tk.fi,.int .u16 c.tk.la,.int .u16 c.tk.ha,bv,.int .i64 c.tk.of,fv,.bool c.tk.bad,.int .i64 c.ad.kd,.int .i64 c.ad.ask,.int .u16 c.ad.ha,.int .u16 c.ad.la,.int .u64 c.ad.hi,.int .u64 c.ad.lo,.int .i64 c.ad.of,.int .i64 c.ad.mt,.int .i64 c.ad.co,.bool c.ad.cm,ab,ai,.bool c.busy,.int .i64 c.since,.bool c.dead,wv]
/-- a result -/
structure Rs where
 kd : Int
 tk : Int
 ha : Nat
 vs : List Nat
 fo : List Fd
 co : Int
instance : Inhabited Rs := ⟨⟨0,0,0,[],[],0⟩⟩
def rsc (r : Rs) (bv fv : Value) : List Value := [.int .i64 r.kd,.int .i64 r.tk,.int .u16 r.ha,bv,fv,.int .i64 r.co]
theorem SR.empty {w w' : World} {v : Value} {size : Nat} {cs : List Value} (h : SR w v 0 size cs) : SR w' v 0 size cs := by
 obtain ⟨h1,h2,h3,ao,cap,rfl,hn,_⟩ := h
 exact ⟨h1,h2,h3,ao,cap,rfl,hn,fun h => absurd h (by omega)⟩
/-- which block may turn -/
def Turns (w : World) (R : List (Option Nat)) (r : Option Nat) : Prop := ∀ k,r = some k → some k ∈ R ∨ w.heap.size ≤ k
theorem SR.turned {w w' : World} {v : Value} {n size : Nat} {cs : List Value} {R : List (Option Nat)} {r : Option Nat} (h : SR w v n size cs) (ha : n = 0 ∨ Apart R v) (hg : w.grownBy w' r) (hr : Turns w R r) : SR w' v n size cs := by
 by_cases h0 : n = 0
 ·subst h0
  exact h.empty
 ·refine h.grown hg (.inr ?_)
  obtain ⟨b,hb,hlt⟩ := h.lies.resolve_left h0
  refine ⟨b,hb,fun e => ?_⟩
  rcases hr b e with h1 | h1
  ·exact ha.resolve_left h0 b hb h1
  ·omega
/-- the rows are among the old ones, or new -/
def Follows (w : World) (R R' : List (Option Nat)) : Prop := ∀ k,some k ∈ R' → some k ∈ R ∨ w.heap.size ≤ k
theorem apart_follows {w : World} {v : Value} {n size : Nat} {cs : List Value} {R R' : List (Option Nat)} (h : SR w v n size cs) (ha : n = 0 ∨ Apart R v) (hR : Follows w R R') : n = 0 ∨ Apart R' v := by
 rcases ha with h0 | ha
 ·exact .inl h0
 ·rcases h.lies with h0 | ⟨b,hb,hlt⟩
  ·exact .inl h0
  ·refine .inr fun k hk hm => ?_
   rw [hb] at hk
   injection hk with hk
   subst hk
   rcases hR b hm with h1 | h1
   ·exact ha b hb h1
   ·omega
theorem apart_new {v : Value} {R : List (Option Nat)} {n : Nat} (h : Own n v) (hR : ∀ k,some k ∈ R → k < n) : Apart R v := fun k hk hm => by
 have := h k hk
 have := hR k hm
 omega
/-- bytes, apart from the rows -/
def BD (w : World) (R : List (Option Nat)) (v : Value) (bs : List Nat) : Prop := BV w v bs ∧ (bs.length = 0 ∨ Apart R v)
theorem BV.with {w w' : World} {v : Value} {bs : List Nat} (h : BV w v bs) (hs : SR w' v bs.length 1 (bcells bs)) : BV w' v bs := by
 obtain ⟨a,c,rfl,hc,_,h2⟩ := h
 exact ⟨a,c,rfl,hc,hs,h2⟩
theorem BD.turned {w w' : World} {v : Value} {bs : List Nat} {R : List (Option Nat)} {r : Option Nat} (h : BD w R v bs) (hg : w.grownBy w' r) (hr : Turns w R r) : BD w' R v bs := ⟨h.1.with (h.1.sr.turned h.2 hg hr),h.2⟩
theorem BD.follows {w : World} {v : Value} {bs : List Nat} {R R' : List (Option Nat)} (h : BD w R v bs) (hR : Follows w R R') : BD w R' v bs := ⟨h.1,apart_follows h.1.sr h.2 hR⟩
theorem BD.new {w : World} {v : Value} {bs : List Nat} {R : List (Option Nat)} {n : Nat} (h : BV w v bs) (ho : Own n v) (hR : ∀ k,some k ∈ R → k < n) : BD w R v bs := ⟨h,.inr (apart_new ho hR)⟩
theorem BD.below {w w' : World} {v : Value} {bs : List Nat} {R : List (Option Nat)} (h : BD w R v bs) (hb : Below w.heap.size w w') : BD w' R v bs := ⟨h.1.below hb,h.2⟩
theorem BD.nil (w : World) (R : List (Option Nat)) : BD w R (.slice none 0 0) [] := ⟨BV.nil w,.inl rfl⟩
/-- what was found, apart from the rows -/
def FD (w : World) (R : List (Option Nat)) (v : Value) (l : List Fd) : Prop := FdV w v l ∧ (l.length = 0 ∨ Apart R v)
theorem FD.turned {w w' : World} {v : Value} {l : List Fd} {R : List (Option Nat)} {r : Option Nat} (h : FD w R v l) (hg : w.grownBy w' r) (hr : Turns w R r) : FD w' R v l := ⟨SR.turned h.1 h.2 hg hr,h.2⟩
theorem FD.follows {w : World} {v : Value} {l : List Fd} {R R' : List (Option Nat)} (h : FD w R v l) (hR : Follows w R R') : FD w R' v l := ⟨h.1,apart_follows h.1 h.2 hR⟩
theorem FD.new {w : World} {v : Value} {l : List Fd} {R : List (Option Nat)} {n : Nat} (h : FdV w v l) (ho : Own n v) (hR : ∀ k,some k ∈ R → k < n) : FD w R v l := ⟨h,.inr (apart_new ho hR)⟩
theorem FD.below {w w' : World} {v : Value} {l : List Fd} {R : List (Option Nat)} (h : FD w R v l) (hb : Below w.heap.size w w') : FD w' R v l := ⟨h.1.below hb,h.2⟩
theorem FD.nil (w : World) (R : List (Option Nat)) : FD w R (.slice none 0 0) [] := ⟨FdV.nil w,.inl rfl⟩
/-- a waiting task -/
def wenc (q : Tk × Value) : List Value := tkc q.1 q.2 (.slice none 0 0)
def penc (q : Pd × Value × Value) : List Value := pdc q.1 q.2.1 q.2.2
def renc (q : Rs × Value × Value) : List Value := rsc q.1 q.2.1 q.2.2
/-- a client's value, read -/
def ClV (w : World) (v : Value) (c : Cl) : Prop := ∃ bv fv ab ai wv,v = .agg (clc c bv fv ab ai wv).toArray ∧ BV w bv c.tk.vs ∧ FdV w fv c.tk.fo ∧ BV w ab c.ad.vs ∧ SR w ai 0 5 [] ∧
 ∃ qs : List (Tk × Value),qs.map (·.1) = c.wt ∧ SR w wv qs.length 8 (qs.flatMap wenc) ∧ ∀ q ∈ qs,BV w q.2 q.1.vs ∧ q.1.fo = []
/-- a side, with its values -/
structure Sv where
 c : Cl
 now : Int
 bv : Value
 fv : Value
 ab : Value
 ai : Value
 wv : Value
 ov : Value
 rv : Value
 qs : List (Tk × Value)
 ps : List (Pd × Value × Value)
 us : List (Rs × Value × Value)
def Sv.cells (s : Sv) : List Value := [.int .i64 s.c.mt,.int .i64 s.c.mx,.int .i64 s.c.tk.kd,.int .u16 s.c.tk.fi,.int .u16 s.c.tk.la,.int .u16 s.c.tk.ha,s.bv,.int .i64 s.c.tk.of,s.fv,.bool s.c.tk.bad,.int .i64 s.c.ad.kd,.int .i64 s.c.ad.ask,.int .u16 s.c.ad.ha,.int .u16 s.c.ad.la,.int .u64 s.c.ad.hi,.int .u64 s.c.ad.lo,.int .i64 s.c.ad.of,.int .i64 s.c.ad.mt,.int .i64 s.c.ad.co,.bool s.c.ad.cm,s.ab,s.ai,.bool s.c.busy,.int .i64 s.c.since,.bool s.c.dead,s.wv,.int .i64 s.now,s.ov,s.rv]
def Sv.rows (s : Sv) (X : Nat) : List (Option Nat) := [some X,s.fv.ownBlock,s.wv.ownBlock,s.ov.ownBlock,s.rv.ownBlock]
structure Sd (w : World) (B X : Nat) (s : Sv) : Prop where
 blk : Blk w X 103 s.cells
 own : B ≤ X
 bv : BD w (s.rows X) s.bv s.c.tk.vs
 fv : FdO B w s.fv s.c.tk.fo
 ab : BD w (s.rows X) s.ab s.c.ad.vs
 ai : SR w s.ai 0 5 []
 wv : w.ownsRow B 46 8 s.wv s.qs.length (s.qs.flatMap wenc)
 wt : s.qs.map (·.1) = s.c.wt
 wi : ∀ q ∈ s.qs,BD w (s.rows X) q.2 q.1.vs ∧ q.1.fo = []
 ov : w.ownsRow B 49 12 s.ov s.ps.length (s.ps.flatMap penc)
 oi : ∀ q ∈ s.ps,BD w (s.rows X) q.2.1 q.1.vs ∧ SR w q.2.2 0 5 []
 rv : w.ownsRow B 43 6 s.rv s.us.length (s.us.flatMap renc)
 ri : ∀ q ∈ s.us,BD w (s.rows X) q.2.1 q.1.vs ∧ FD w (s.rows X) q.2.2 q.1.fo
theorem own_none {w w' : World} {base e k n : Nat} {v : Value} {cs : List Value} {r : Option Nat} (h : w.ownsRow base e k v n cs) (hg : w.grownBy w' r) (hne : ∀ i,v.ownBlock = some i → r ≠ some i) : w'.ownsRow base e k v n cs := by
 refine ⟨h.1,?_⟩
 rcases h.2 with h0 | ⟨g,cap,cur,rfl,hb,hh,q⟩
 ·exact .inl h0
 ·exact .inr ⟨g,cap,cur,rfl,hb,by rw [hg.block g (Array.getElem?_eq_some_iff.1 hh).1 (fun e => hne g (by simp [Value.ownBlock]) e.symm)]; exact hh,q⟩
/-- two rows of two types lie apart -/
theorem rows_ne {w : World} {base e k n base' e' k' n' : Nat} {v v' : Value} {cs cs' : List Value} (h : w.ownsRow base e k v n cs) (h' : w.ownsRow base' e' k' v' n' cs') (he : e ≠ e') : ∀ i,v.ownBlock = some i → v'.ownBlock ≠ some i := by
 intro i hi hi'
 rcases h.2 with ⟨rfl,_⟩ | ⟨g,cap,cur,rfl,hb,hh,q⟩
 ·cases hi
 ·rcases h'.2 with ⟨rfl,_⟩ | ⟨g',cap',cur',rfl,hb',hh',q'⟩
  ·cases hi'
  ·simp only [Value.ownBlock,Option.some.injEq] at hi hi'
   subst hi
   subst hi'
   rw [hh] at hh'
   injection hh' with hh'
   injection hh' with _ hh'
   exact he hh'
theorem blk_ne {w : World} {X t base e k n : Nat} {v : Value} {cs l : List Value} (hb : Blk w X t l) (h : w.ownsRow base e k v n cs) (he : e ≠ t) : v.ownBlock ≠ some X := by
 intro hi
 rcases h.2 with ⟨rfl,_⟩ | ⟨g,cap,cur,rfl,hbb,hh,q⟩
 ·cases hi
 ·simp only [Value.ownBlock,Option.some.injEq] at hi
  subst hi
  have hb' : w.heap[g]? = some (.cells l.toArray t (0,0)) := hb
  rw [hh] at hb'
  injection hb' with hb'
  injection hb' with _ hb'
  exact he hb'
theorem own_lt {w : World} {base e k n : Nat} {v : Value} {cs : List Value} (h : w.ownsRow base e k v n cs) : ∀ i,v.ownBlock = some i → i < w.heap.size := fun i hi => (h.lt i hi).2
theorem Sd.below {w w' : World} {B X : Nat} {s : Sv} (h : Sd w B X s) (hb : Below w.heap.size w w') : Sd w' B X s :=
 ⟨h.blk.below hb,h.own,h.bv.below hb,h.fv.below hb,h.ab.below hb,h.ai.empty,own_below h.wv hb,h.wt,fun q hq => ⟨(h.wi q hq).1.below hb,(h.wi q hq).2⟩,own_below h.ov hb,fun q hq => ⟨(h.oi q hq).1.below hb,(h.oi q hq).2.empty⟩,own_below h.rv hb,fun q hq => ⟨(h.ri q hq).1.below hb,(h.ri q hq).2.below hb⟩⟩
theorem Sd.drew {w : World} {B X : Nat} {s : Sv} (h : Sd w B X s) : Sd w.drew B X s := h.below (Below.refl _ _).drew
theorem Sd.lts {w : World} {B X : Nat} {s : Sv} (h : Sd w B X s) : ∀ k,some k ∈ s.rows X → k < w.heap.size := by
 intro k hk
 simp only [Sv.rows,List.mem_cons,List.not_mem_nil,or_false,Option.some.injEq] at hk
 rcases hk with e | e | e | e | e
 ·subst e
  exact h.blk.lt
 ·exact own_lt h.fv k e.symm
 ·exact own_lt h.wv k e.symm
 ·exact own_lt h.ov k e.symm
 ·exact own_lt h.rv k e.symm
end Go.Proofs.YtldcihjddebciaaGreat
