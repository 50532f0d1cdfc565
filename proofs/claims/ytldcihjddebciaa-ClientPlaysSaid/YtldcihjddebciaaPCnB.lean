/- client: comparisons of equal lists and clients. -/
import Derived.Test.YtldcihjddebciaaPCnA
import Derived.Test.YtldcihjddebciaaPCmC
set_option linter.unusedSimpArgs false
set_option linter.unusedVariables false
set_option maxRecDepth 100000
set_option maxHeartbeats 8000000
namespace Go.Proofs.Ytldcihjddebciaa
open Go.RowKit
theorem sr_rows {α : Type} {w : World} {v : Value} {size : Nat} (enc : α → List Value) (he : ∀ q,(enc q).length = size) {qs : List α} (h : SR w v qs.length size (qs.flatMap enc)) (h0 : 0 < qs.length) :
 ∃ b off cap,v = .slice (some ⟨b,off,none⟩) qs.length cap ∧ ∀ k q,qs[k]? = some q → w.rangeAt b (off + k * size) (enc q) := by
 obtain ⟨_,_,_,ao,cap,rfl,_,h4⟩ := h
 obtain ⟨b,off,rfl,_,hc⟩ := h4 h0
 refine ⟨b,off,cap,rfl,fun k q hq j u hj => ?_⟩
 have hk := (List.getElem?_eq_some_iff.1 hq).1
 have hj5 : j < size := by rw [← he q]; exact (List.getElem?_eq_some_iff.1 hj).1
 rw [Nat.add_assoc]
 refine hc _ u ?_
 have h1 := flat_get enc size he qs k j hk hj5
 rw [(List.getElem?_eq_some_iff.1 hq).2] at h1
 exact h1.trans hj
/-- a load of a whole struct that is guarded -/
theorem wpList_load_midG {P : Program} {ops : Array Oper} {rest : List Oper} {op : Oper} {a : Act} {w : World} {Q : Exit → Act → World → Prop} (hw : Region.wanted op (yielded ops a.tmps) = true) (ty : TypeId) (x : Operand) (ho : op.op = .load ty x)
 (b o : Nat) (hx : a.eval x = .pointer (some ⟨b,o,none⟩)) (cs : List Value) (d : TypeDesc) (hc : w.rangeAt b o cs) (hu : P.underlying ty = some d) (hd : d.isRow = true) (hi : (P.info? ty).map (·.size) = some cs.length)
 (h : wpList P ops Q rest (a.put op.dst (.agg cs.toArray)) w) : wpList P ops Q (op :: rest) a w := by
 simp only [wpList,hw,if_true]
 exact .inl (wp_load_mid ty x ho b o hx cs d hc hu hd hi h)
theorem range_keep {w w' : World} {b o : Nat} {cs : List Value} (h : w.rangeAt b o cs) (hb : Below w.heap.size w w') : w'.rangeAt b o cs := fun j v hv => kc (h j v hv) hb
theorem tk_at (c : Cl) (bv fv ab ai wv : Value) (j : Nat) (v : Value) (hv : (tkc c.tk bv fv)[j]? = some v) : (clc c bv fv ab ai wv)[2 + j]? = some v := by
 have hj : j < 8 := (List.getElem?_eq_some_iff.1 hv).1
 match j,hj,hv with
 |0,_,hv => exact hv
 |1,_,hv => exact hv
 |2,_,hv => exact hv
 |3,_,hv => exact hv
 |4,_,hv => exact hv
 |5,_,hv => exact hv
 |6,_,hv => exact hv
 |7,_,hv => exact hv
theorem ad_at (c : Cl) (bv fv ab ai wv : Value) (j : Nat) (v : Value) (hv : (pdc c.ad ab ai)[j]? = some v) : (clc c bv fv ab ai wv)[10 + j]? = some v := by
 have hj : j < 12 := (List.getElem?_eq_some_iff.1 hv).1
 match j,hj,hv with
 |0,_,hv => exact hv
 |1,_,hv => exact hv
 |2,_,hv => exact hv
 |3,_,hv => exact hv
 |4,_,hv => exact hv
 |5,_,hv => exact hv
 |6,_,hv => exact hv
 |7,_,hv => exact hv
 |8,_,hv => exact hv
 |9,_,hv => exact hv
 |10,_,hv => exact hv
 |11,_,hv => exact hv
theorem map_at {α β : Type} {qs : List (α × β)} {ps : List α} (h : qs.map (·.1) = ps) {k : Nat} (hk : k < ps.length) : ∃ y,qs[k]? = some (ps[k],y) := by
 have hl : k < qs.length := by rw [← h] at hk; simpa using hk
 refine ⟨qs[k].2,?_⟩
 rw [List.getElem?_eq_getElem hl]
 subst h
 simp
theorem samePDUs_eq (ps : List Pd) (v1 v2 : Value) (w : World) (h1 : PsV w v1 ps) (h2 : PsV w v2 ps) (hm : ps.length ≤ 1000000) :
 Calls Try.prog 17 #[v1,v2] w fun e w' => e = .returned (.bool true) ∧ Below w.heap.size w w' := by
 obtain ⟨qs1,e1,s1,r1⟩ := h1
 obtain ⟨qs2,e2,s2,r2⟩ := h2
 obtain ⟨N,hN⟩ : ∃ N,ps.length = N := ⟨_,rfl⟩
 have l1 : qs1.length = N := by rw [← hN,← e1]; simp
 have l2 : qs2.length = N := by rw [← hN,← e2]; simp
 obtain ⟨a1,c1,f1⟩ := s1.form
 obtain ⟨a2,c2,f2⟩ := s2.form
 rw [l1] at f1
 rw [l2] at f2
 subst f1
 subst f2
 have HH := Lib.hid (And.intro e1 (And.intro s1 (And.intro r1 (And.intro e2 (And.intro s2 (And.intro r2 (And.intro hN (And.intro l1 l2))))))))
 rw [hN] at hm
 clear e1 s1 r1 e2 s2 r2 hN l1 l2
 go_enter Try.func17,Try.ntmps17
 go_wp2
 go_loopw [5] (fun vi wr => ∃ kk : Nat,vi = .int .i64 kk ∧ kk ≤ N ∧ Below w.heap.size w wr) (fun vi _ => N - (intOf vi).toNat)
 case atStart => exact ⟨0,by simp,Nat.zero_le _,Below.refl _ _⟩
 case round =>
  obtain ⟨kk,rfl,hk,hB⟩ := hrel
  by_cases hlt : kk < N
  ·have g1 : decide (kk < N) = true := by simpa using hlt
   have hn0 : (0 : Int) ≤ (kk : Int) := by omega
   have hn1 : (kk : Int) < (N : Int) := by omega
   have w1' : IntKind.i64.wrap ((kk : Int) + 1) = (kk : Int) + 1 := IntWalk.i64_in _ (by omega)
   obtain ⟨e1,s1,r1,e2,s2,r2,hN,l1,l2⟩ := HH.out
   obtain ⟨⟨x1,y1⟩,g1'⟩ := map_at e1 (k := kk) (by rw [hN]; exact hlt)
   obtain ⟨⟨x2,y2⟩,g2'⟩ := map_at e2 (k := kk) (by rw [hN]; exact hlt)
   obtain ⟨p,hp⟩ : ∃ p,ps[kk]'(by rw [hN]; exact hlt) = p := ⟨_,rfl⟩
   rw [hp] at g1' g2'
   obtain ⟨b1,o1,d1,q1,rows1⟩ := sr_rows penc (fun _ => rfl) s1 (by omega)
   obtain ⟨b2,o2,d2,q2,rows2⟩ := sr_rows penc (fun _ => rfl) s2 (by omega)
   have hr1 : wr.rangeAt b1 (o1 + kk * 12) (pdc p x1 y1) := range_keep (rows1 kk _ g1') hB
   have hr2 : wr.rangeAt b2 (o2 + kk * 12) (pdc p x2 y2) := range_keep (rows2 kk _ g2') hB
   have m1 := r1 _ (List.mem_of_getElem? g1')
   have m2 := r2 _ (List.mem_of_getElem? g2')
   simp only at m1 m2
   rw [l1] at q1
   rw [l2] at q2
   cases q1
   cases q2
   have hcl := fun W (hW : Below wr.heap.size wr W) => samePDU_eq p x1 x2 y1 y2 W ((m1.1.below hB).below hW) ((m2.1.below hB).below hW) ((m1.2.below hB).below hW) ((m2.2.below hB).below hW)
   have HCL := Lib.hid hcl
   have hBd := hB.drew
   clear e1 s1 r1 e2 s2 r2 hN l1 l2 g1' g2' hp rows1 rows2 m1 m2 hcl HH
   go_upto_region 6 with fail
   refine wp_region_held_drew (S := (fun W' : World => W'.rangeAt b1 (o1 + kk * 12) (pdc p x1 y1) ∧ W'.rangeAt b2 (o2 + kk * 12) (pdc p x2 y2))) (by kernel_rfl) (⟨range_keep hr1 (Below.refl _ wr).drew,range_keep hr2 (Below.refl _ wr).drew⟩) (fun hHeld => ?_)
   refine tkU 0 ?_
   refine tkU 1 ?_
   refine tkU 2 ?_
   refine tkN 3 32 b1 (o1 + kk * 12) (pdc p x1 y1) (fun _ h => h.1) Try.underlying32 ?_
   refine tkU 4 ?_
   refine tkU 5 ?_
   refine tkU 6 ?_
   refine tkN 7 32 b2 (o2 + kk * 12) (pdc p x2 y2) (fun _ h => h.2) Try.underlying32 ?_
   refine rd1 8 fun K hK => ?_
   go_simp
   go_at_call 23
   refine (HCL.out _ (Below.refl _ wr).drew).mono ?_
   rintro e w2 ⟨rfl,hB2⟩
   clear hHeld
   refine hK.out _ _ (⟨range_keep (range_keep hr1 (Below.refl _ wr).drew) hB2,range_keep (range_keep hr2 (Below.refl _ wr).drew) hB2⟩) (fun hHeld => ?_)
   clear hK K
   try simp only [Act.put,List.setIfInBounds_toArray,List.set_cons_zero,List.set_cons_succ]
   refine tkU 9 ?_
   refine wpAnyH_done (by kernel_rfl) ?_ _
   clear hHeld
   have HB3 := Lib.hid (hBd.trans (hB2.mono hBd.size))
   clear hB2 hBd hr1 hr2 hB
   go_wp2
   refine ⟨⟨kk + 1,by simp,hlt,HB3.out⟩,?_⟩
   simp [intOf]
   omega
  ·have g1 : decide (kk < N) = false := by simpa using hlt
   obtain rfl : N = kk := by omega
   go_wp2
   go_ret
   exact ⟨rfl,hB⟩
theorem sameClient_eq (c : Cl) (v1 v2 : Value) (w : World) (h1 : ClV w v1 c) (h2 : ClV w v2 c) (hc : ClOk c) :
 Calls Try.prog 8 #[v1,v2] w fun e w' => e = .returned (.bool true) ∧ Below w.heap.size w w' := by
 obtain ⟨bv1,fv1,ab1,ai1,wv1,rfl,B1,F1,A1,I1,qs1,e1,s1,r1⟩ := h1
 obtain ⟨bv2,fv2,ab2,ai2,wv2,rfl,B2,F2,A2,I2,qs2,e2,s2,r2⟩ := h2
 obtain ⟨N,hN⟩ : ∃ N,c.wt.length = N := ⟨_,rfl⟩
 have l1 : qs1.length = N := by rw [← hN,← e1]; simp
 have l2 : qs2.length = N := by rw [← hN,← e2]; simp
 obtain ⟨a1,c1,f1⟩ := s1.form
 obtain ⟨a2,c2,f2⟩ := s2.form
 rw [l1] at f1
 rw [l2] at f2
 subst f1
 subst f2
 have hNm : N ≤ 1000 := by have := hc.wl; omega
 have hfo := hc.fo
 have one1 : (tkc c.tk bv1 fv1).toArray.size = 8 := rfl
 obtain ⟨bA,bB,hB0⟩ := pro2c w (clc c bv1 fv1 ab1 ai1 (.slice a1 N c1)) (clc c bv2 fv2 ab2 ai2 (.slice a2 N c2)) 35 35
 have HH := Lib.hid (And.intro e1 (And.intro s1 (And.intro r1 (And.intro e2 (And.intro s2 (And.intro r2 (And.intro hN (And.intro l1 l2))))))))
 have HV := Lib.hid (And.intro B1 (And.intro B2 (And.intro F1 (And.intro F2 (And.intro A1 (And.intro A2 (And.intro I1 I2)))))))
 have HFO := Lib.hid hfo
 clear B1 F1 A1 I1 B2 F2 A2 I2 e1 s1 r1 e2 s2 r2 hN l1 l2 hc one1 hfo
 go_enter Try.func8,Try.ntmps8
 go_upto_region 1 with fail
 generalize World.alloc (World.alloc w _) _ = V at bA bB hB0 ⊢
 have x0 := bA.cell (j := 0) (v := .int .i64 c.mt) rfl
 have x1 := bA.cell (j := 1) (v := .int .i64 c.mx) rfl
 have x22 := bA.cell (j := 22) (v := .bool c.busy) rfl
 have x23 := bA.cell (j := 23) (v := .int .i64 c.since) rfl
 have x24 := bA.cell (j := 24) (v := .bool c.dead) rfl
 have x25 := bA.cell (j := 25) (v := .slice a1 N c1) rfl
 have y0 := bB.cell (j := 0) (v := .int .i64 c.mt) rfl
 have y1 := bB.cell (j := 1) (v := .int .i64 c.mx) rfl
 have y22 := bB.cell (j := 22) (v := .bool c.busy) rfl
 have y23 := bB.cell (j := 23) (v := .int .i64 c.since) rfl
 have y24 := bB.cell (j := 24) (v := .bool c.dead) rfl
 have y25 := bB.cell (j := 25) (v := .slice a2 N c2) rfl
 go_upto_region 3 with fail
 clear x0 x1 x22 x23 x24 y0 y1 y22 y23 y24
 go_wp2_with fail
 go_loopw [5] (fun vi wr => ∃ kk : Nat,vi = .int .i64 kk ∧ kk ≤ N ∧ Below V.heap.size V wr) (fun vi _ => N - (intOf vi).toNat)
 case atStart => exact ⟨0,by simp,Nat.zero_le _,Below.refl _ _⟩
 case round =>
  obtain ⟨kk,rfl,hk,hB⟩ := hrel
  have x25 := kc x25 hB
  have y25 := kc y25 hB
  by_cases hlt : kk < N
  ·have g1 : decide (kk < N) = true := by simpa using hlt
   have hn0 : (0 : Int) ≤ (kk : Int) := by omega
   have hn1 : (kk : Int) < (N : Int) := by omega
   have w1' : IntKind.i64.wrap ((kk : Int) + 1) = (kk : Int) + 1 := IntWalk.i64_in _ (by omega)
   obtain ⟨e1,s1,r1,e2,s2,r2,hN,l1,l2⟩ := HH.out
   obtain ⟨x1,g1'⟩ := map_at e1 (k := kk) (by rw [hN]; exact hlt)
   obtain ⟨x2,g2'⟩ := map_at e2 (k := kk) (by rw [hN]; exact hlt)
   obtain ⟨tq,hp⟩ : ∃ p,c.wt[kk]'(by rw [hN]; exact hlt) = p := ⟨_,rfl⟩
   rw [hp] at g1' g2'
   obtain ⟨b1,o1,d1,q1,rows1⟩ := sr_rows wenc (fun _ => rfl) s1 (by omega)
   obtain ⟨b2,o2,d2,q2,rows2⟩ := sr_rows wenc (fun _ => rfl) s2 (by omega)
   have hBV := hB0.trans (hB.mono hB0.size)
   have hr1 : wr.rangeAt b1 (o1 + kk * 8) (tkc tq x1 (.slice none 0 0)) := range_keep (rows1 kk _ g1') hBV
   have hr2 : wr.rangeAt b2 (o2 + kk * 8) (tkc tq x2 (.slice none 0 0)) := range_keep (rows2 kk _ g2') hBV
   have m1 := r1 _ (List.mem_of_getElem? g1')
   have m2 := r2 _ (List.mem_of_getElem? g2')
   simp only at m1 m2
   rw [l1] at q1
   rw [l2] at q2
   cases q1
   cases q2
   have hcl := fun W (hW : Below wr.heap.size wr W) => sameTask_eq tq x1 x2 (.slice none 0 0) (.slice none 0 0) W ((m1.1.below hBV).below hW) ((m2.1.below hBV).below hW) (by rw [m1.2]; exact FdV.nil W) (by rw [m1.2]; exact FdV.nil W) (by rw [m1.2]; simp)
   have HCL := Lib.hid hcl
   have hBd := hB.drew
   clear e1 s1 r1 e2 s2 r2 hN l1 l2 g1' g2' hp rows1 rows2 m1 m2 hcl HH hBV
   go_upto_region 6 with fail
   have hr1 := range_keep hr1 (Below.refl _ wr).drew
   have hr2 := range_keep hr2 (Below.refl _ wr).drew
   have x25 := kc x25 (Below.refl _ wr).drew
   have y25 := kc y25 (Below.refl _ wr).drew
   refine wp_region_held_drew (S := (fun W' : World => W'.rangeAt b1 (o1 + kk * 8) (tkc tq x1 (.slice none 0 0)) ∧ W'.rangeAt b2 (o2 + kk * 8) (tkc tq x2 (.slice none 0 0)) ∧ Cells W' [(w.heap.size,25,.slice (some ⟨b1,o1,none⟩) N c1),(w.heap.size + 1,25,.slice (some ⟨b2,o2,none⟩) N c2)])) (by kernel_rfl) (⟨hr1,hr2,x25,y25,trivial⟩) (fun hHeld => ?_)
   refine tkU 0 ?_
   refine tkU 1 ?_
   refine tkU 2 ?_
   refine tkU 3 ?_
   refine tkN 4 26 b1 (o1 + kk * 8) (tkc tq x1 (.slice none 0 0)) (fun _ h => h.1) Try.underlying26 ?_
   refine tkU 5 ?_
   refine tkU 6 ?_
   refine tkU 7 ?_
   refine tkU 8 ?_
   refine tkN 9 26 b2 (o2 + kk * 8) (tkc tq x2 (.slice none 0 0)) (fun _ h => h.2.1) Try.underlying26 ?_
   refine rd1 10 fun K hK => ?_
   go_simp
   go_at_call 22
   refine (HCL.out _ (Below.refl _ wr).drew).mono ?_
   rintro e w2 ⟨rfl,hB2⟩
   clear hHeld
   refine hK.out _ _ (⟨range_keep hr1 hB2,range_keep hr2 hB2,kc x25 hB2,kc y25 hB2,trivial⟩) (fun hHeld => ?_)
   clear hK K
   try simp only [Act.put,List.setIfInBounds_toArray,List.set_cons_zero,List.set_cons_succ]
   refine tkU 11 ?_
   refine wpAnyH_done (by kernel_rfl) ?_ _
   clear hHeld
   have HB3 := Lib.hid (hBd.trans (hB2.mono hBd.size))
   clear hB2 hBd hr1 hr2 hB x25 y25
   go_wp2
   refine ⟨⟨kk + 1,by simp,hlt,HB3.out⟩,?_⟩
   simp [intOf]
   omega
  ·have g1 : decide (kk < N) = false := by simpa using hlt
   obtain rfl : N = kk := by omega
   have hBV := hB0.trans (hB.mono hB0.size)
   have bA := bA.below hB
   have bB := bB.below hB
   have rA := bA.range 2 (tkc c.tk bv1 fv1) (fun j v hv => tk_at c bv1 fv1 ab1 ai1 _ j v hv)
   have rB := bB.range 2 (tkc c.tk bv2 fv2) (fun j v hv => tk_at c bv2 fv2 ab2 ai2 _ j v hv)
   obtain ⟨B1,B2,F1,F2,A1,A2,I1,I2⟩ := HV.out
   have hcl := sameTask_eq c.tk bv1 bv2 fv1 fv2 wr (B1.below hBV) (B2.below hBV) (F1.below hBV) (F2.below hBV) (by have := HFO.out; omega)
   have HCL := Lib.hid hcl
   clear B1 B2 F1 F2 A1 A2 I1 I2 hcl
   go_wp2_with (first | (refine wpList_load_mid rfl 26 _ rfl w.heap.size 2 rfl (tkc c.tk bv1 fv1) _ rA Try.underlying26 rfl (by kernel_rfl) ?_) | (refine wpList_load_mid rfl 26 _ rfl (w.heap.size + 1) 2 rfl (tkc c.tk bv2 fv2) _ rB Try.underlying26 rfl (by kernel_rfl) ?_))
   refine HCL.out.mono ?_
   rintro e w2 ⟨rfl,hB2⟩
   have bA := bA.below hB2
   have bB := bB.below hB2
   have hB3 := hBV.trans (hB2.mono hBV.size)
   have rA := bA.range 10 (pdc c.ad ab1 ai1) (fun j v hv => ad_at c bv1 fv1 ab1 ai1 _ j v hv)
   have rB := bB.range 10 (pdc c.ad ab2 ai2) (fun j v hv => ad_at c bv2 fv2 ab2 ai2 _ j v hv)
   obtain ⟨B1,B2,F1,F2,A1,A2,I1,I2⟩ := HV.out
   have hcl := samePDU_eq c.ad ab1 ab2 ai1 ai2 w2 (A1.below hB3) (A2.below hB3) (I1.below hB3) (I2.below hB3)
   have HCL := Lib.hid hcl
   have HB3 := Lib.hid hB3
   clear B1 B2 F1 F2 A1 A2 I1 I2 hcl x25 y25 hB3 hB2 hBV hB
   go_wp2_with (first | (refine wpList_load_midG (by rfl) 32 _ rfl w.heap.size 10 rfl (pdc c.ad ab1 ai1) _ rA Try.underlying32 rfl (by kernel_rfl) ?_) | (refine wpList_load_midG (by rfl) 32 _ rfl (w.heap.size + 1) 10 rfl (pdc c.ad ab2 ai2) _ rB Try.underlying32 rfl (by kernel_rfl) ?_))
   refine HCL.out.mono ?_
   rintro e w3 ⟨rfl,hB4⟩
   have hB5 := HB3.out.trans (hB4.mono HB3.out.size)
   clear hB4 bA bB rA rB
   go_wp2
   go_ret
   exact ⟨rfl,hB5⟩
theorem put_namedB {w w5 : World} {b : Nat} {t : TypeId} {zs vs : List Value} (h : Blk w b t zs) (hX : w.setCells b 0 vs = w5) (hl : zs.length = vs.length) : w.grownBy w5 (some b) ∧ Blk w5 b t vs := by
 subst hX
 exact ⟨setCells_grown b vs 0 w,h.putAll hl⟩
theorem sameResults_eq (us : List Rs) (v1 v2 : Value) (w : World) (h1 : RsV w v1 us) (h2 : RsV w v2 us) (hm : us.length ≤ 1000000) (hfo : ∀ r ∈ us,r.fo.length ≤ 1000000) :
 Calls Try.prog 19 #[v1,v2] w fun e w' => e = .returned (.bool true) ∧ Below w.heap.size w w' := by
 obtain ⟨qs1,e1,s1,r1⟩ := h1
 obtain ⟨qs2,e2,s2,r2⟩ := h2
 obtain ⟨N,hN⟩ : ∃ N,us.length = N := ⟨_,rfl⟩
 have l1 : qs1.length = N := by rw [← hN,← e1]; simp
 have l2 : qs2.length = N := by rw [← hN,← e2]; simp
 obtain ⟨a1,c1,f1⟩ := s1.form
 obtain ⟨a2,c2,f2⟩ := s2.form
 rw [l1] at f1
 rw [l2] at f2
 subst f1
 subst f2
 have HH := Lib.hid (And.intro e1 (And.intro s1 (And.intro r1 (And.intro e2 (And.intro s2 (And.intro r2 (And.intro hN (And.intro l1 (And.intro l2 hfo)))))))))
 rw [hN] at hm
 clear e1 s1 r1 e2 s2 r2 hN l1 l2 hfo
 go_enter Try.func19,Try.ntmps19
 go_wp2
 go_loopw [5] (fun vi wr => ∃ kk : Nat,vi = .int .i64 kk ∧ kk ≤ N ∧ Below w.heap.size w wr) (fun vi _ => N - (intOf vi).toNat)
 case atStart => exact ⟨0,by simp,Nat.zero_le _,Below.refl _ _⟩
 case round =>
  obtain ⟨kk,rfl,hk,hB⟩ := hrel
  by_cases hlt : kk < N
  ·have g1 : decide (kk < N) = true := by simpa using hlt
   have hn0 : (0 : Int) ≤ (kk : Int) := by omega
   have hn1 : (kk : Int) < (N : Int) := by omega
   have w1' : IntKind.i64.wrap ((kk : Int) + 1) = (kk : Int) + 1 := IntWalk.i64_in _ (by omega)
   obtain ⟨e1,s1,r1,e2,s2,r2,hN,l1,l2,hfo⟩ := HH.out
   obtain ⟨⟨x1,y1⟩,g1'⟩ := map_at e1 (k := kk) (by rw [hN]; exact hlt)
   obtain ⟨⟨x2,y2⟩,g2'⟩ := map_at e2 (k := kk) (by rw [hN]; exact hlt)
   have hrm : us[kk]'(by rw [hN]; exact hlt) ∈ us := List.getElem_mem _
   obtain ⟨r,hp⟩ : ∃ p,us[kk]'(by rw [hN]; exact hlt) = p := ⟨_,rfl⟩
   rw [hp] at g1' g2' hrm
   have hfr := hfo r hrm
   obtain ⟨b1,o1,c1',q1,rows1⟩ := sr_rows renc (fun _ => rfl) s1 (by omega)
   obtain ⟨b2,o2,c2',q2,rows2⟩ := sr_rows renc (fun _ => rfl) s2 (by omega)
   have hr1 := range_keep (rows1 kk _ g1') hB
   have hr2 := range_keep (rows2 kk _ g2') hB
   have m1 := r1 _ (List.mem_of_getElem? g1')
   have m2 := r2 _ (List.mem_of_getElem? g2')
   simp only at m1 m2
   rw [l1] at q1
   rw [l2] at q2
   cases q1
   cases q2
   have hsf := fun W (hW : Below w.heap.size w W) => sameFound_any r.fo y1 y2 W (m1.2.below hW) (m2.2.below hW) hfr
   have hsm := fun W (hW : Below w.heap.size w W) => same_any x1 x2 r.vs r.vs W (m1.1.below hW).at (m2.1.below hW).at
   obtain ⟨a1,e1',rfl⟩ := m1.1.form
   obtain ⟨a2,e2',rfl⟩ := m2.1.form
   obtain ⟨f1,d1,rfl⟩ := m1.2.form
   obtain ⟨f2,d2,rfl⟩ := m2.2.form
   obtain ⟨n,hn⟩ : ∃ n,r.vs.length = n := ⟨_,rfl⟩
   obtain ⟨m,hmm⟩ : ∃ n,r.fo.length = n := ⟨_,rfl⟩
   rw [hn] at hr1 hr2 hsm
   rw [hmm] at hr1 hr2 hsf
   have hr1 : wr.rangeAt b1 (o1 + kk * 6) [.int .i64 r.kd,.int .i64 r.tk,.int .u16 r.ha,.slice a1 n e1',.slice f1 m d1,.int .i64 r.co] := hr1
   have hr2 : wr.rangeAt b2 (o2 + kk * 6) [.int .i64 r.kd,.int .i64 r.tk,.int .u16 r.ha,.slice a2 n e2',.slice f2 m d2,.int .i64 r.co] := hr2
   have HSM := Lib.hid hsm
   have HSF := Lib.hid hsf
   clear e1 s1 r1 e2 s2 r2 hN l1 l2 hfo g1' g2' hp rows1 rows2 m1 m2 hsf hsm hn hmm hfr hrm HH
   go_upto_region 6 with fail
   go_cut [6,7] (fun xv yv wx => ∃ X Y,xv = .pointer (some ⟨X,0,none⟩) ∧ yv = .pointer (some ⟨Y,0,none⟩) ∧ Blk wx X 64 [.int .i64 r.kd,.int .i64 r.tk,.int .u16 r.ha,.slice a1 n e1',.slice f1 m d1,.int .i64 r.co] ∧ Blk wx Y 64 [.int .i64 r.kd,.int .i64 r.tk,.int .u16 r.ha,.slice a2 n e2',.slice f2 m d2,.int .i64 r.co] ∧ Below w.heap.size w wx)
   case first =>
    have hr1 := range_keep hr1 (Below.refl _ wr).drew
    have hr2 := range_keep hr2 (Below.refl _ wr).drew
    have hB1 := hB.drew
    have hBd := Below.refl wr.drew.heap.size wr.drew
    clear hB
    refine wp_region_held_drew (S := (fun W' : World => W'.rangeAt b1 (o1 + kk * 6) [.int .i64 r.kd,.int .i64 r.tk,.int .u16 r.ha,.slice a1 n e1',.slice f1 m d1,.int .i64 r.co] ∧ W'.rangeAt b2 (o2 + kk * 6) [.int .i64 r.kd,.int .i64 r.tk,.int .u16 r.ha,.slice a2 n e2',.slice f2 m d2,.int .i64 r.co])) (by kernel_rfl) (⟨range_keep hr1 hBd,range_keep hr2 hBd⟩) (fun hHeld => ?_)
    generalize World.drew _ = wd at hHeld hr1 hr2 hB1 hBd ⊢
    repeat' first
     |refine tkU 0 ?_
     |refine tkU 1 ?_
     |refine tkU 2 ?_
     |refine tkN 3 64 b1 (o1 + kk * 6) [.int .i64 r.kd,.int .i64 r.tk,.int .u16 r.ha,.slice a1 n e1',.slice f1 m d1,.int .i64 r.co] (fun _ h => h.1) Try.underlying64 ?_
     |refine tkU 4 ?_
     |refine tkU 5 ?_
     |refine tkU 6 ?_
     |refine tkN 7 64 b2 (o2 + kk * 6) [.int .i64 r.kd,.int .i64 r.tk,.int .u16 r.ha,.slice a2 n e2',.slice f2 m d2,.int .i64 r.co] (fun _ h => h.2) Try.underlying64 ?_
     |(refine opn 8 fun K hK => ?_
       go_simp
       try have hne := (Nat.ne_of_lt bY.lt).symm
       have hXg := hBd.size
       generalize hX : World.alloc _ (.cells _ 64) = w5
       obtain ⟨hnb,hBx,-⟩ := alloc_named hX
       have bX : Blk w5 _ 64 [.int .i64 0,.int .i64 0,.int .u16 0,.slice none 0 0,.slice none 0 0,.int .i64 0] := hnb
       try have bY := bY.below hBx
       have hBd := hBd.trans (hBx.mono hBd.size)
       clear hX hBx hnb
       refine hK.out _ _ (⟨range_keep hr1 hBd,range_keep hr2 hBd⟩) (fun h => ?_)
       replace hHeld := h
       clear hK K h
       try simp only [Act.put,List.setIfInBounds_toArray,List.set_cons_zero,List.set_cons_succ])
     |(refine opn 9 fun K hK => ?_
       go_simp
       try have hne := Nat.ne_of_lt bX.lt
       have hYg := hBd.size
       generalize hX : World.alloc _ (.cells _ 64) = w6
       obtain ⟨hnb,hBx,-⟩ := alloc_named hX
       have bY : Blk w6 _ 64 [.int .i64 0,.int .i64 0,.int .u16 0,.slice none 0 0,.slice none 0 0,.int .i64 0] := hnb
       try have bX := bX.below hBx
       have hBd := hBd.trans (hBx.mono hBd.size)
       clear hX hBx hnb
       refine hK.out _ _ (⟨range_keep hr1 hBd,range_keep hr2 hBd⟩) (fun h => ?_)
       replace hHeld := h
       clear hK K h
       try simp only [Act.put,List.setIfInBounds_toArray,List.set_cons_zero,List.set_cons_succ])
     |(refine opn 10 fun K hK => ?_
       refine step_store_mid (by rfl) 64 _ _ (by rfl) _ 0 #[.int .i64 r.kd,.int .i64 r.tk,.int .u16 r.ha,.slice a1 n e1',.slice f1 m d1,.int .i64 r.co] (by rfl) (by rfl) (bX.there 0 6 (by simp)) (by kernel_rfl) (by simp [Value.oneCell']) ?_
       generalize hX : World.setCells _ _ 0 _ = w7
       obtain ⟨hg7,bN⟩ := put_namedB (vs := [.int .i64 r.kd,.int .i64 r.tk,.int .u16 r.ha,.slice a1 n e1',.slice f1 m d1,.int .i64 r.co]) bX hX rfl
       have bY := bY.kept hg7 (fun e => by injection e with e; exact hne e.symm)
       have hBd := hBd.grown hg7 hBd.size (fun k hk => by cases hk; exact hXg)
       have bX := bN
       clear hX hg7 bN
       refine hK.out _ _ (⟨range_keep hr1 hBd,range_keep hr2 hBd⟩) (fun h => ?_)
       replace hHeld := h
       clear hK K h
       try simp only [Act.put,List.setIfInBounds_toArray,List.set_cons_zero,List.set_cons_succ])
     |(refine opn 11 fun K hK => ?_
       refine step_store_mid (by rfl) 64 _ _ (by rfl) _ 0 #[.int .i64 r.kd,.int .i64 r.tk,.int .u16 r.ha,.slice a2 n e2',.slice f2 m d2,.int .i64 r.co] (by rfl) (by rfl) (bY.there 0 6 (by simp)) (by kernel_rfl) (by simp [Value.oneCell']) ?_
       generalize hX : World.setCells _ _ 0 _ = w8
       obtain ⟨hg8,bN⟩ := put_namedB (vs := [.int .i64 r.kd,.int .i64 r.tk,.int .u16 r.ha,.slice a2 n e2',.slice f2 m d2,.int .i64 r.co]) bY hX rfl
       have bX := bX.kept hg8 (fun e => by injection e with e; exact hne e)
       have hBd := hBd.grown hg8 hBd.size (fun k hk => by cases hk; exact hYg)
       have bY := bN
       clear hX hg8 bN
       refine hK.out _ _ (⟨range_keep hr1 hBd,range_keep hr2 hBd⟩) (fun h => ?_)
       replace hHeld := h
       clear hK K h
       try simp only [Act.put,List.setIfInBounds_toArray,List.set_cons_zero,List.set_cons_succ])
     |refine rd2 8 9 ?_ ?_
     |refine rd1 9 ?_
     |refine rd1 10 ?_
     |refine rd1 11 ?_
     |refine rd1 8 ?_
     |(refine wpAnyH_done (by kernel_rfl) ?_ _
       go_wp2_with fail
       go_meet
       exact ⟨_,_,rfl,rfl,bX,bY,hB1.trans (hBd.mono hB1.size)⟩)
   obtain ⟨X,Y,rfl,rfl,bX,bY,hBc⟩ := hcut
   have T := bX.cells.app bY.cells
   clear hr1 hr2 hB bX bY
   have hOpen := T
   simp only [Cells,blk,List.cons_append,List.nil_append,and_true,Nat.reduceAdd,Nat.add_zero,Nat.zero_add] at hOpen
   obtain ⟨x0,x1,x2,x3,x4,x5,y0,y1,y2,y3,y4,y5⟩ := hOpen
   clear T
   go_wp2_with fail
   refine (HSM.out _ hBc).mono ?_
   rintro e w2 ⟨rfl,rfl⟩
   go_wp2_with fail
   refine (HSF.out _ hBc).mono ?_
   rintro e w3 ⟨rfl,hB3⟩
   have HB3 := Lib.hid (hBc.trans (hB3.mono hBc.size))
   clear hB3 hBc x0 x1 x2 x3 x4 x5 y0 y1 y2 y3 y4 y5
   go_wp2
   refine ⟨⟨kk + 1,by simp,hlt,HB3.out⟩,?_⟩
   simp [intOf]
   omega
  ·have g1 : decide (kk < N) = false := by simpa using hlt
   obtain rfl : N = kk := by omega
   go_wp2
   go_ret
   exact ⟨rfl,hB⟩
end Go.Proofs.Ytldcihjddebciaa
