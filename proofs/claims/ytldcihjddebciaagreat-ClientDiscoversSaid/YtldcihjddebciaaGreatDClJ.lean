/- client: a client in memory of its own. -/
import Derived.Test.YtldcihjddebciaaGreatDClI
set_option linter.unusedSimpArgs false
set_option linter.unusedVariables false
set_option maxRecDepth 100000
set_option maxHeartbeats 20000000
namespace Go.Proofs.YtldcihjddebciaaGreat
open Go.RowKit
theorem row_put8 {w X : World} {base e g n cap k : Nat} {xs : List Value} {y0 y1 y2 y3 y4 y5 y6 y7 : Value} (h : w.ownsRow base e 8 (.slice (some ⟨g,0,none⟩) n cap) n xs) (hX : (((((((w.setCell ⟨g,k * 8,none⟩ y0).setCell ⟨g,k * 8 + 1,none⟩ y1).setCell ⟨g,k * 8 + 2,none⟩ y2).setCell ⟨g,k * 8 + 3,none⟩ y3).setCell ⟨g,k * 8 + 4,none⟩ y4).setCell ⟨g,k * 8 + 5,none⟩ y5).setCell ⟨g,k * 8 + 6,none⟩ y6).setCell ⟨g,k * 8 + 7,none⟩ y7 = X) : X.ownsRow base e 8 (.slice (some ⟨g,0,none⟩) n cap) n ((((((((xs.set (k * 8) y0).set (k * 8 + 1) y1).set (k * 8 + 2) y2).set (k * 8 + 3) y3).set (k * 8 + 4) y4).set (k * 8 + 5) y5).set (k * 8 + 6) y6).set (k * 8 + 7) y7) ∧ w.grownBy X (some g) := by
 subst hX
 refine ⟨((((((((h.stored _ _).1.stored _ _).1.stored _ _).1.stored _ _).1.stored _ _).1.stored _ _).1.stored _ _).1.stored _ _).1,?_⟩
 exact ((((((((set1 w ⟨g,k * 8,none⟩ y0).trans (set1 _ ⟨g,k * 8 + 1,none⟩ y1)).trans (set1 _ ⟨g,k * 8 + 2,none⟩ y2)).trans (set1 _ ⟨g,k * 8 + 3,none⟩ y3)).trans (set1 _ ⟨g,k * 8 + 4,none⟩ y4)).trans (set1 _ ⟨g,k * 8 + 5,none⟩ y5)).trans (set1 _ ⟨g,k * 8 + 6,none⟩ y6)).trans (set1 _ ⟨g,k * 8 + 7,none⟩ y7))
theorem set_flat {α : Type} (enc : α → List Value) (hsz : ∀ x,(enc x).length = 8) (x : α) (r : List Value) (k j : Nat) (y : Value) : (enc x ++ r).set ((k + 1) * 8 + j) y = enc x ++ r.set (k * 8 + j) y := by
 rw [List.set_append_right _ _ (by rw [hsz]; omega),hsz,show (k + 1) * 8 + j - 8 = k * 8 + j by omega]
theorem set_flat0 {α : Type} (enc : α → List Value) (hsz : ∀ x,(enc x).length = 8) (x : α) (r : List Value) (k : Nat) (y : Value) : (enc x ++ r).set ((k + 1) * 8) y = enc x ++ r.set (k * 8) y := set_flat enc hsz x r k 0 y
theorem flat_set8 {α : Type} (enc : α → List Value) (hsz : ∀ x,(enc x).length = 8) (q : α) (y0 y1 y2 y3 y4 y5 y6 y7 : Value) (hq : enc q = [y0,y1,y2,y3,y4,y5,y6,y7]) : ∀ (l : List α) (k : Nat),k < l.length → ((((((((l.flatMap enc).set (k * 8) y0).set (k * 8 + 1) y1).set (k * 8 + 2) y2).set (k * 8 + 3) y3).set (k * 8 + 4) y4).set (k * 8 + 5) y5).set (k * 8 + 6) y6).set (k * 8 + 7) y7 = (l.set k q).flatMap enc
 |[],k,h => by simp at h
 |x :: l,0,_ => by
  obtain ⟨a0,a1,a2,a3,a4,a5,a6,a7,ha⟩ : ∃ a0 a1 a2 a3 a4 a5 a6 a7,enc x = [a0,a1,a2,a3,a4,a5,a6,a7] := by
   have h := hsz x
   match enc x,h with
   |[a0,a1,a2,a3,a4,a5,a6,a7],_ => exact ⟨a0,a1,a2,a3,a4,a5,a6,a7,rfl⟩
  simp [List.flatMap_cons,ha,hq]
 |x :: l,k + 1,h => by
  have ih := flat_set8 enc hsz q y0 y1 y2 y3 y4 y5 y6 y7 hq l k (by simpa using h)
  simp only [List.flatMap_cons,List.set_cons_succ,set_flat enc hsz,set_flat0 enc hsz]
  rw [ih]
/-- all but one block stay -/
def Kp (r : Option Nat) (U W : World) : Prop := U.heap.size ≤ W.heap.size ∧ ∀ k,k < U.heap.size → some k ≠ r → W.heap[k]? = U.heap[k]?
theorem Kp.refl (r : Option Nat) (U : World) : Kp r U U := ⟨Nat.le_refl _,fun _ _ _ => rfl⟩
theorem Kp.below {r : Option Nat} {U W W' : World} (h : Kp r U W) (hb : Below W.heap.size W W') : Kp r U W' := ⟨Nat.le_trans h.1 hb.size,fun k hk hne => (hb.block k (Nat.lt_of_lt_of_le hk h.1)).trans (h.2 k hk hne)⟩
theorem Kp.grown {r : Option Nat} {U W W' : World} (h : Kp r U W) (hg : W.grownBy W' r) : Kp r U W' := ⟨Nat.le_trans h.1 hg.size,fun k hk hne => (hg.block k (Nat.lt_of_lt_of_le hk h.1) hne).trans (h.2 k hk hne)⟩
theorem Kp.cell {r : Option Nat} {U W : World} (h : Kp r U W) {a : Addr} {v : Value} (hc : U.cell? a = some v) (hne : some a.block ≠ r) : W.cell? a = some v := (World.cell?_of_block (h.2 a.block (World.block_lt_of_cell? U a hc) hne)).trans hc
theorem SR.kp {r : Option Nat} {U W : World} {v : Value} {n size : Nat} {cs : List Value} (h : SR U v n size cs) (ha : n = 0 ∨ Apart [r] v) (hk : Kp r U W) : SR W v n size cs := by
 obtain ⟨h1,h2,h3,ao,cap,rfl,hn,h4⟩ := h
 refine ⟨h1,h2,h3,ao,cap,rfl,hn,fun h0 => ?_⟩
 obtain ⟨b,off,rfl,hlt,hc⟩ := h4 h0
 refine ⟨b,off,rfl,Nat.lt_of_lt_of_le hlt hk.1,fun j u hj => hk.cell (hc j u hj) ?_⟩
 rcases ha with h | ha
 ·omega
 ·exact fun e => ha b (by simp [Value.ownBlock]) (by simpa using e)
theorem BV.kp {r : Option Nat} {U W : World} {v : Value} {bs : List Nat} (h : BV U v bs) (ha : bs.length = 0 ∨ Apart [r] v) (hk : Kp r U W) : BV W v bs := h.with (h.sr.kp ha hk)
theorem own_kp {r : Option Nat} {U W : World} {base e k n : Nat} {v : Value} {cs : List Value} (h : U.ownsRow base e k v n cs) (hk : Kp r U W) (hne : ∀ i,v.ownBlock = some i → r ≠ some i) : W.ownsRow base e k v n cs := by
 refine ⟨h.1,?_⟩
 rcases h.2 with h0 | ⟨g,cap,cur,rfl,hb,hh,q⟩
 ·exact .inl h0
 ·exact .inr ⟨g,cap,cur,rfl,hb,by rw [hk.2 g (Array.getElem?_eq_some_iff.1 hh).1 (fun e => hne g (by simp [Value.ownBlock]) e.symm)]; exact hh,q⟩
theorem apart_both {r r' : Option Nat} {v : Value} {n : Nat} (h : n = 0 ∨ Apart [r] v) (h' : n = 0 ∨ Apart [r'] v) : n = 0 ∨ Apart [r,r'] v := by
 rcases h with h | h
 ·exact .inl h
 ·rcases h' with h' | h'
  ·exact .inl h'
  ·refine .inr fun k hk hm => ?_
   simp only [List.mem_cons,List.not_mem_nil,or_false] at hm
   rcases hm with e | e
   ·exact h k hk (by simpa using e)
   ·exact h' k hk (by simpa using e)
theorem wenc_len (q : Tk × Value) : (wenc q).length = 8 := rfl
theorem setTk {W X : World} {i : Nat} {t : TypeId} {x0 x1 x2 x3 x4 x5 x6 x7 x8 x9 x10 x11 x12 x13 x14 x15 x16 x17 x18 x19 x20 x21 x22 x23 x24 x25 y0 y1 y2 y3 y4 y5 y6 y7 : Value} (h : Blk W i t [x0,x1,x2,x3,x4,x5,x6,x7,x8,x9,x10,x11,x12,x13,x14,x15,x16,x17,x18,x19,x20,x21,x22,x23,x24,x25]) (hX : (((((((W.setCell ⟨i,2,none⟩ y0).setCell ⟨i,3,none⟩ y1).setCell ⟨i,4,none⟩ y2).setCell ⟨i,5,none⟩ y3).setCell ⟨i,6,none⟩ y4).setCell ⟨i,7,none⟩ y5).setCell ⟨i,8,none⟩ y6).setCell ⟨i,9,none⟩ y7 = X) : Blk X i t [x0,x1,y0,y1,y2,y3,y4,y5,y6,y7,x10,x11,x12,x13,x14,x15,x16,x17,x18,x19,x20,x21,x22,x23,x24,x25] ∧ W.grownBy X (some i) := by
 subst hX
 refine ⟨?_,?_⟩
 ·have h0 := h.setAt (j := 2) y0
  simp only [List.set_cons_zero,List.set_cons_succ] at h0
  have h1 := h0.setAt (j := 3) y1
  simp only [List.set_cons_zero,List.set_cons_succ] at h1
  have h2 := h1.setAt (j := 4) y2
  simp only [List.set_cons_zero,List.set_cons_succ] at h2
  have h3 := h2.setAt (j := 5) y3
  simp only [List.set_cons_zero,List.set_cons_succ] at h3
  have h4 := h3.setAt (j := 6) y4
  simp only [List.set_cons_zero,List.set_cons_succ] at h4
  have h5 := h4.setAt (j := 7) y5
  simp only [List.set_cons_zero,List.set_cons_succ] at h5
  have h6 := h5.setAt (j := 8) y6
  simp only [List.set_cons_zero,List.set_cons_succ] at h6
  have h7 := h6.setAt (j := 9) y7
  simp only [List.set_cons_zero,List.set_cons_succ] at h7
  exact h7
 ·exact ((((((((set1 W ⟨i,2,none⟩ y0).trans (set1 _ ⟨i,3,none⟩ y1)).trans (set1 _ ⟨i,4,none⟩ y2)).trans (set1 _ ⟨i,5,none⟩ y3)).trans (set1 _ ⟨i,6,none⟩ y4)).trans (set1 _ ⟨i,7,none⟩ y5)).trans (set1 _ ⟨i,8,none⟩ y6)).trans (set1 _ ⟨i,9,none⟩ y7))
theorem setAd {W X : World} {i : Nat} {t : TypeId} {x0 x1 x2 x3 x4 x5 x6 x7 x8 x9 x10 x11 x12 x13 x14 x15 x16 x17 x18 x19 x20 x21 x22 x23 x24 x25 y0 y1 y2 y3 y4 y5 y6 y7 y8 y9 y10 y11 : Value} (h : Blk W i t [x0,x1,x2,x3,x4,x5,x6,x7,x8,x9,x10,x11,x12,x13,x14,x15,x16,x17,x18,x19,x20,x21,x22,x23,x24,x25]) (hX : (((((((((((W.setCell ⟨i,10,none⟩ y0).setCell ⟨i,11,none⟩ y1).setCell ⟨i,12,none⟩ y2).setCell ⟨i,13,none⟩ y3).setCell ⟨i,14,none⟩ y4).setCell ⟨i,15,none⟩ y5).setCell ⟨i,16,none⟩ y6).setCell ⟨i,17,none⟩ y7).setCell ⟨i,18,none⟩ y8).setCell ⟨i,19,none⟩ y9).setCell ⟨i,20,none⟩ y10).setCell ⟨i,21,none⟩ y11 = X) : Blk X i t [x0,x1,x2,x3,x4,x5,x6,x7,x8,x9,y0,y1,y2,y3,y4,y5,y6,y7,y8,y9,y10,y11,x22,x23,x24,x25] ∧ W.grownBy X (some i) := by
 subst hX
 refine ⟨?_,?_⟩
 ·have h0 := h.setAt (j := 10) y0
  simp only [List.set_cons_zero,List.set_cons_succ] at h0
  have h1 := h0.setAt (j := 11) y1
  simp only [List.set_cons_zero,List.set_cons_succ] at h1
  have h2 := h1.setAt (j := 12) y2
  simp only [List.set_cons_zero,List.set_cons_succ] at h2
  have h3 := h2.setAt (j := 13) y3
  simp only [List.set_cons_zero,List.set_cons_succ] at h3
  have h4 := h3.setAt (j := 14) y4
  simp only [List.set_cons_zero,List.set_cons_succ] at h4
  have h5 := h4.setAt (j := 15) y5
  simp only [List.set_cons_zero,List.set_cons_succ] at h5
  have h6 := h5.setAt (j := 16) y6
  simp only [List.set_cons_zero,List.set_cons_succ] at h6
  have h7 := h6.setAt (j := 17) y7
  simp only [List.set_cons_zero,List.set_cons_succ] at h7
  have h8 := h7.setAt (j := 18) y8
  simp only [List.set_cons_zero,List.set_cons_succ] at h8
  have h9 := h8.setAt (j := 19) y9
  simp only [List.set_cons_zero,List.set_cons_succ] at h9
  have h10 := h9.setAt (j := 20) y10
  simp only [List.set_cons_zero,List.set_cons_succ] at h10
  have h11 := h10.setAt (j := 21) y11
  simp only [List.set_cons_zero,List.set_cons_succ] at h11
  exact h11
 ·exact ((((((((((((set1 W ⟨i,10,none⟩ y0).trans (set1 _ ⟨i,11,none⟩ y1)).trans (set1 _ ⟨i,12,none⟩ y2)).trans (set1 _ ⟨i,13,none⟩ y3)).trans (set1 _ ⟨i,14,none⟩ y4)).trans (set1 _ ⟨i,15,none⟩ y5)).trans (set1 _ ⟨i,16,none⟩ y6)).trans (set1 _ ⟨i,17,none⟩ y7)).trans (set1 _ ⟨i,18,none⟩ y8)).trans (set1 _ ⟨i,19,none⟩ y9)).trans (set1 _ ⟨i,20,none⟩ y10)).trans (set1 _ ⟨i,21,none⟩ y11))
theorem setWt {W X : World} {i : Nat} {t : TypeId} {x0 x1 x2 x3 x4 x5 x6 x7 x8 x9 x10 x11 x12 x13 x14 x15 x16 x17 x18 x19 x20 x21 x22 x23 x24 x25 y0 : Value} (h : Blk W i t [x0,x1,x2,x3,x4,x5,x6,x7,x8,x9,x10,x11,x12,x13,x14,x15,x16,x17,x18,x19,x20,x21,x22,x23,x24,x25]) (hX : W.setCell ⟨i,25,none⟩ y0 = X) : Blk X i t [x0,x1,x2,x3,x4,x5,x6,x7,x8,x9,x10,x11,x12,x13,x14,x15,x16,x17,x18,x19,x20,x21,x22,x23,x24,y0] ∧ W.grownBy X (some i) := by
 subst hX
 refine ⟨?_,?_⟩
 ·have h0 := h.setAt (j := 25) y0
  simp only [List.set_cons_zero,List.set_cons_succ] at h0
  exact h0
 ·exact (set1 W ⟨i,25,none⟩ y0)
theorem of_sd {w U wr : World} {c : Cl} {now : Int} {bv' fv' ab' ai' wv' : Value} {rs : List (Tk × Value)} {cs : List Value} {n : Nat} (hvv : BV U bv' c.tk.vs) (hff : FdO (w.heap.size + 1) U fv' c.tk.fo) (haa : BV U ab' c.ad.vs) (hai : SR U ai' 0 5 [])
 (hap1 : c.tk.vs.length = 0 ∨ Apart [fv'.ownBlock] bv') (hap2 : c.tk.vs.length = 0 ∨ Apart [wv'.ownBlock] bv') (hap3 : c.ad.vs.length = 0 ∨ Apart [fv'.ownBlock] ab') (hap4 : c.ad.vs.length = 0 ∨ Apart [wv'.ownBlock] ab')
 (hw : U.ownsRow (w.heap.size + 1) 46 8 wv' n cs) (hG : Kp wv'.ownBlock U wr) (hBr : w.heap.size ≤ wr.heap.size) (hown : wr.ownsRow (w.heap.size + 1) 46 8 wv' n (rs.flatMap wenc)) (hrl : rs.length = n) (h1 : rs.map (·.1) = c.wt)
 (h3 : ∀ j q,j < n → rs[j]? = some q → BV wr q.2 q.1.vs ∧ Own U.heap.size q.2) (h4 : ∀ t ∈ c.wt,t.fo = []) :
 Sd (wr.alloc (.cells #[.int .i64 c.mt,.int .i64 c.mx,.int .i64 c.tk.kd,.int .u16 c.tk.fi,.int .u16 c.tk.la,.int .u16 c.tk.ha,bv',.int .i64 c.tk.of,fv',.bool c.tk.bad,.int .i64 c.ad.kd,.int .i64 c.ad.ask,.int .u16 c.ad.ha,.int .u16 c.ad.la,.int .u64 c.ad.hi,.int .u64 c.ad.lo,.int .i64 c.ad.of,.int .i64 c.ad.mt,.int .i64 c.ad.co,.bool c.ad.cm,ab',ai',.bool c.busy,.int .i64 c.since,.bool c.dead,wv',.int .i64 now,.slice none 0 0,.slice none 0 0] 103)) w.heap.size wr.heap.size ⟨c,now,bv',fv',ab',ai',wv',.slice none 0 0,.slice none 0 0,rs,[],[]⟩ := by
 have hfw := own_kp hff hG (fun i hi e => rows_ne hff hw (by decide) i hi e)
 have hvw := hvv.kp hap2 hG
 have haw := haa.kp hap4 hG
 have bX := Blk.new wr 103 [.int .i64 c.mt,.int .i64 c.mx,.int .i64 c.tk.kd,.int .u16 c.tk.fi,.int .u16 c.tk.la,.int .u16 c.tk.ha,bv',.int .i64 c.tk.of,fv',.bool c.tk.bad,.int .i64 c.ad.kd,.int .i64 c.ad.ask,.int .u16 c.ad.ha,.int .u16 c.ad.la,.int .u64 c.ad.hi,.int .u64 c.ad.lo,.int .i64 c.ad.of,.int .i64 c.ad.mt,.int .i64 c.ad.co,.bool c.ad.cm,ab',ai',.bool c.busy,.int .i64 c.since,.bool c.dead,wv',.int .i64 now,.slice none 0 0,.slice none 0 0]
 have hBX : Below wr.heap.size wr (wr.alloc (.cells #[.int .i64 c.mt,.int .i64 c.mx,.int .i64 c.tk.kd,.int .u16 c.tk.fi,.int .u16 c.tk.la,.int .u16 c.tk.ha,bv',.int .i64 c.tk.of,fv',.bool c.tk.bad,.int .i64 c.ad.kd,.int .i64 c.ad.ask,.int .u16 c.ad.ha,.int .u16 c.ad.la,.int .u64 c.ad.hi,.int .u64 c.ad.lo,.int .i64 c.ad.of,.int .i64 c.ad.mt,.int .i64 c.ad.co,.bool c.ad.cm,ab',ai',.bool c.busy,.int .i64 c.since,.bool c.dead,wv',.int .i64 now,.slice none 0 0,.slice none 0 0] 103)) := (Below.refl _ _).alloc (Nat.le_refl _) _
 have hfo : Follows wr [fv'.ownBlock,wv'.ownBlock] [some wr.heap.size,fv'.ownBlock,wv'.ownBlock,none,none] := fun i hi => by
  simp only [List.mem_cons,List.not_mem_nil,or_false,Option.some.injEq,reduceCtorEq] at hi
  rcases hi with e | e | e
  ·exact .inr (by omega)
  ·exact .inl (by simp [e])
  ·exact .inl (by simp [e])
 have D1 : BD wr [fv'.ownBlock,wv'.ownBlock] bv' c.tk.vs := ⟨hvw,apart_both hap1 hap2⟩
 have D2 : BD wr [fv'.ownBlock,wv'.ownBlock] ab' c.ad.vs := ⟨haw,apart_both hap3 hap4⟩
 have hlts : ∀ i,some i ∈ [fv'.ownBlock,wv'.ownBlock] → i < U.heap.size := fun i hi => by
  simp only [List.mem_cons,List.not_mem_nil,or_false] at hi
  rcases hi with e | e
  ·exact own_lt hff i e.symm
  ·exact own_lt hw i e.symm
 have hwi : ∀ q ∈ rs,BD (wr.alloc (.cells #[.int .i64 c.mt,.int .i64 c.mx,.int .i64 c.tk.kd,.int .u16 c.tk.fi,.int .u16 c.tk.la,.int .u16 c.tk.ha,bv',.int .i64 c.tk.of,fv',.bool c.tk.bad,.int .i64 c.ad.kd,.int .i64 c.ad.ask,.int .u16 c.ad.ha,.int .u16 c.ad.la,.int .u64 c.ad.hi,.int .u64 c.ad.lo,.int .i64 c.ad.of,.int .i64 c.ad.mt,.int .i64 c.ad.co,.bool c.ad.cm,ab',ai',.bool c.busy,.int .i64 c.since,.bool c.dead,wv',.int .i64 now,.slice none 0 0,.slice none 0 0] 103)) [some wr.heap.size,fv'.ownBlock,wv'.ownBlock,none,none] q.2 q.1.vs ∧ q.1.fo = [] := fun q hq => by
  obtain ⟨j,hj,rfl⟩ := List.getElem_of_mem hq
  obtain ⟨h5,h6⟩ := h3 j rs[j] (by omega) (List.getElem?_eq_getElem hj)
  exact ⟨((BD.new h5 h6 hlts).follows hfo).below hBX,h4 _ (by rw [← h1]; exact List.mem_map_of_mem (List.getElem_mem hj))⟩
 have hrow := own_below (own_base (base' := w.heap.size) hown (by omega)) hBX
 rw [← hrl] at hrow
 exact ⟨bX,hBr,(D1.follows hfo).below hBX,own_below (own_base hfw (by omega)) hBX,(D2.follows hfo).below hBX,hai.empty,hrow,h1,hwi,World.ownsRow_nil _ _ _ _,(fun q hq => by cases hq),World.ownsRow_nil _ _ _ _,(fun q hq => by cases hq)⟩
theorem of_any (c : Cl) (bv fv ab ai wv : Value) (now : Int) (qs : List (Tk × Value)) (w : World) (hb : BV w bv c.tk.vs) (hf : FdV w fv c.tk.fo) (ha : BV w ab c.ad.vs) (hi : SR w ai 0 5 []) (hw : SR w wv qs.length 8 (qs.flatMap wenc)) (hwt : qs.map (·.1) = c.wt) (hq : ∀ q ∈ qs,BV w q.2 q.1.vs ∧ q.1.fo = [] ∧ q.1.vs.length ≤ 1000000)
 (l1 : c.tk.vs.length ≤ 1000000) (l2 : c.tk.fo.length ≤ 1000000) (l3 : c.ad.vs.length ≤ 1000000) (l4 : qs.length ≤ 1000000) :
 Calls Tryz.prog 31 #[.agg #[.int .i64 c.mt,.int .i64 c.mx,.int .i64 c.tk.kd,.int .u16 c.tk.fi,.int .u16 c.tk.la,.int .u16 c.tk.ha,bv,.int .i64 c.tk.of,fv,.bool c.tk.bad,.int .i64 c.ad.kd,.int .i64 c.ad.ask,.int .u16 c.ad.ha,.int .u16 c.ad.la,.int .u64 c.ad.hi,.int .u64 c.ad.lo,.int .i64 c.ad.of,.int .i64 c.ad.mt,.int .i64 c.ad.co,.bool c.ad.cm,ab,ai,.bool c.busy,.int .i64 c.since,.bool c.dead,wv],.int .i64 now] w fun e w' => ∃ X s,e = .returned (.pointer (some ⟨X,0,none⟩)) ∧ Sd w' w.heap.size X s ∧ s.c = c ∧ s.now = now ∧ s.ps = [] ∧ s.us = [] ∧ Below w.heap.size w w' := by
 have HBV := Lib.hid hb
 have HFV := Lib.hid hf
 have HAV := Lib.hid ha
 have HIV := Lib.hid hi
 obtain ⟨cs,hcs⟩ : ∃ cs,qs.flatMap wenc = cs := ⟨_,rfl⟩
 obtain ⟨n,hn⟩ : ∃ n,qs.length = n := ⟨_,rfl⟩
 rw [hcs,hn] at hw
 rw [hn] at l4
 have HWV := Lib.hid hw
 have HCS := Lib.hid hcs
 have HN := Lib.hid hn
 have HQ := Lib.hid hq
 have HWT := Lib.hid hwt
 have bT0 := Blk.new w 52 [.int .i64 c.mt,.int .i64 c.mx,.int .i64 c.tk.kd,.int .u16 c.tk.fi,.int .u16 c.tk.la,.int .u16 c.tk.ha,bv,.int .i64 c.tk.of,fv,.bool c.tk.bad,.int .i64 c.ad.kd,.int .i64 c.ad.ask,.int .u16 c.ad.ha,.int .u16 c.ad.la,.int .u64 c.ad.hi,.int .u64 c.ad.lo,.int .i64 c.ad.of,.int .i64 c.ad.mt,.int .i64 c.ad.co,.bool c.ad.cm,ab,ai,.bool c.busy,.int .i64 c.since,.bool c.dead,wv]
 have hB0 : Below w.heap.size w (w.alloc (.cells #[.int .i64 c.mt,.int .i64 c.mx,.int .i64 c.tk.kd,.int .u16 c.tk.fi,.int .u16 c.tk.la,.int .u16 c.tk.ha,bv,.int .i64 c.tk.of,fv,.bool c.tk.bad,.int .i64 c.ad.kd,.int .i64 c.ad.ask,.int .u16 c.ad.ha,.int .u16 c.ad.la,.int .u64 c.ad.hi,.int .u64 c.ad.lo,.int .i64 c.ad.of,.int .i64 c.ad.mt,.int .i64 c.ad.co,.bool c.ad.cm,ab,ai,.bool c.busy,.int .i64 c.since,.bool c.dead,wv] 52)) := (Below.refl _ _).alloc (Nat.le_refl _) _
 have hlt0 := bT0.lt
 clear hb hf ha hi hw hcs hn hq hwt
 go_enter Tryz.func31,Tryz.ntmps31
 go_upto_region 1 with fail
 generalize hV : World.alloc w _ = V at bT0 hB0 hlt0 ⊢
 clear hV
 go_cut [] (fun wx => ∃ bv' fv' ab' ai' wv',Blk wx w.heap.size 52 [.int .i64 c.mt,.int .i64 c.mx,.int .i64 c.tk.kd,.int .u16 c.tk.fi,.int .u16 c.tk.la,.int .u16 c.tk.ha,bv',.int .i64 c.tk.of,fv',.bool c.tk.bad,.int .i64 c.ad.kd,.int .i64 c.ad.ask,.int .u16 c.ad.ha,.int .u16 c.ad.la,.int .u64 c.ad.hi,.int .u64 c.ad.lo,.int .i64 c.ad.of,.int .i64 c.ad.mt,.int .i64 c.ad.co,.bool c.ad.cm,ab',ai',.bool c.busy,.int .i64 c.since,.bool c.dead,wv'] ∧ BV wx bv' c.tk.vs ∧ Own (w.heap.size + 1) bv' ∧ FdO (w.heap.size + 1) wx fv' c.tk.fo ∧ BV wx ab' c.ad.vs ∧ Own (w.heap.size + 1) ab' ∧ SR wx ai' 0 5 [] ∧ (c.tk.vs.length = 0 ∨ Apart [fv'.ownBlock] bv') ∧ (c.tk.vs.length = 0 ∨ Apart [wv'.ownBlock] bv') ∧ (c.ad.vs.length = 0 ∨ Apart [fv'.ownBlock] ab') ∧ (c.ad.vs.length = 0 ∨ Apart [wv'.ownBlock] ab') ∧ wx.ownsRow (w.heap.size + 1) 46 8 wv' n cs ∧ Below w.heap.size w wx)
 case first =>
  have bT : Blk V.drew w.heap.size 52 [.int .i64 c.mt,.int .i64 c.mx,.int .i64 c.tk.kd,.int .u16 c.tk.fi,.int .u16 c.tk.la,.int .u16 c.tk.ha,bv,.int .i64 c.tk.of,fv,.bool c.tk.bad,.int .i64 c.ad.kd,.int .i64 c.ad.ask,.int .u16 c.ad.ha,.int .u16 c.ad.la,.int .u64 c.ad.hi,.int .u64 c.ad.lo,.int .i64 c.ad.of,.int .i64 c.ad.mt,.int .i64 c.ad.co,.bool c.ad.cm,ab,ai,.bool c.busy,.int .i64 c.since,.bool c.dead,wv] := bT0.drew
  have hBw := hB0.drew
  have hVs : w.heap.size + 1 ≤ V.heap.size := hlt0
  clear bT0 hB0 hlt0
  try clear m2
  try clear m3
  try clear m4
  try clear m5
  try clear m6
  try clear m7
  try clear m8
  try clear m9
  try clear m10
  try clear m11
  try clear m12
  try clear m13
  try clear m14
  try clear m15
  try clear m16
  try clear m17
  try clear m18
  try clear m19
  try clear m20
  try clear m21
  try clear m25
  try clear z2
  try clear z3
  try clear z4
  try clear z5
  try clear z6
  try clear z7
  try clear z8
  try clear z9
  try clear z10
  try clear z11
  try clear z12
  try clear z13
  try clear z14
  try clear z15
  try clear z16
  try clear z17
  try clear z18
  try clear z19
  try clear z20
  try clear z21
  try clear z25
  have m2 := bT.cell (j := 2) rfl
  have m3 := bT.cell (j := 3) rfl
  have m4 := bT.cell (j := 4) rfl
  have m5 := bT.cell (j := 5) rfl
  have m6 := bT.cell (j := 6) rfl
  have m7 := bT.cell (j := 7) rfl
  have m8 := bT.cell (j := 8) rfl
  have m9 := bT.cell (j := 9) rfl
  have m10 := bT.cell (j := 10) rfl
  have m11 := bT.cell (j := 11) rfl
  have m12 := bT.cell (j := 12) rfl
  have m13 := bT.cell (j := 13) rfl
  have m14 := bT.cell (j := 14) rfl
  have m15 := bT.cell (j := 15) rfl
  have m16 := bT.cell (j := 16) rfl
  have m17 := bT.cell (j := 17) rfl
  have m18 := bT.cell (j := 18) rfl
  have m19 := bT.cell (j := 19) rfl
  have m20 := bT.cell (j := 20) rfl
  have m21 := bT.cell (j := 21) rfl
  have m25 := bT.cell (j := 25) rfl
  refine wp_region_held_drew (S := (fun W' : World => w.heap.size + 1 ≤ W'.heap.size)) (by kernel_rfl) (hVs) (fun hHeld => ?_)
  generalize World.drew _ = wd at hHeld bT hBw m2 m3 m4 m5 m6 m7 m8 m9 m10 m11 m12 m13 m14 m15 m16 m17 m18 m19 m20 m21 m25 ⊢
  repeat' first
   |refine tkU 0 ?_
   |refine tkU 3 ?_
   |refine tkU 6 ?_
   |refine tkU 9 ?_
   |refine tkU 11 ?_
   |refine tkU 13 ?_
   |(refine opn 1 fun K hK => ?_
     go_simp
     try clear m2
     try clear m3
     try clear m4
     try clear m5
     try clear m6
     try clear m7
     try clear m8
     try clear m9
     refine hK.out _ _ (hHeld) (fun h => ?_)
     replace hHeld := h
     clear hK K h
     try simp only [Act.put,List.setIfInBounds_toArray,List.set_cons_zero,List.set_cons_succ])
   |(refine opn 2 fun K hK => ?_
     go_simp
     go_at_call 56
     refine (task_any c.tk.kd c.tk.fi c.tk.la c.tk.ha bv c.tk.of fv c.tk.bad c.tk.vs c.tk.fo _ (HBV.out.below hBw) (HFV.out.below hBw) l1 l2).mono ?_
     rintro e w3 ⟨bv',fv',rfl,hvv,hov,hff,hB3,hnl,hap1⟩
     have hov := hov.mono hHeld
     have hff : w3.ownsRow (w.heap.size + 1) 39 6 fv' c.tk.fo.length (fcells c.tk.fo) := own_base hff hHeld
     clear hnl
     obtain ⟨fa',fc',rfl⟩ := own_form hff
     have hvf : ∃ va vc,bv' = .slice va c.tk.vs.length vc := ⟨_,_,hvv.choose_spec.choose_spec.1⟩
     obtain ⟨va',vc',rfl⟩ := hvf
     have bT := bT.below hB3
     have hBw := hBw.trans (hB3.mono hBw.size)
     try have haa := haa.below hB3
     try have hww := own_below hww hB3
     try have hii := own_below hii hB3
     try clear m2
     try clear m3
     try clear m4
     try clear m5
     try clear m6
     try clear m7
     try clear m8
     try clear m9
     try clear m10
     try clear m11
     try clear m12
     try clear m13
     try clear m14
     try clear m15
     try clear m16
     try clear m17
     try clear m18
     try clear m19
     try clear m20
     try clear m21
     try clear m25
     try clear z2
     try clear z3
     try clear z4
     try clear z5
     try clear z6
     try clear z7
     try clear z8
     try clear z9
     try clear z10
     try clear z11
     try clear z12
     try clear z13
     try clear z14
     try clear z15
     try clear z16
     try clear z17
     try clear z18
     try clear z19
     try clear z20
     try clear z21
     try clear z25
     have m10 := bT.cell (j := 10) rfl
     have m11 := bT.cell (j := 11) rfl
     have m12 := bT.cell (j := 12) rfl
     have m13 := bT.cell (j := 13) rfl
     have m14 := bT.cell (j := 14) rfl
     have m15 := bT.cell (j := 15) rfl
     have m16 := bT.cell (j := 16) rfl
     have m17 := bT.cell (j := 17) rfl
     have m18 := bT.cell (j := 18) rfl
     have m19 := bT.cell (j := 19) rfl
     have m20 := bT.cell (j := 20) rfl
     have m21 := bT.cell (j := 21) rfl
     have m25 := bT.cell (j := 25) rfl
     refine hK.out _ _ (Nat.le_trans hHeld hB3.size) (fun h => ?_)
     replace hHeld := h
     clear hK K h
     try simp only [Act.put,List.setIfInBounds_toArray,List.set_cons_zero,List.set_cons_succ])
   |(refine opn 4 fun K hK => ?_
     go_simp
     try clear m10
     try clear m11
     try clear m12
     try clear m13
     try clear m14
     try clear m15
     try clear m16
     try clear m17
     try clear m18
     try clear m19
     try clear m20
     try clear m21
     refine hK.out _ _ (hHeld) (fun h => ?_)
     replace hHeld := h
     clear hK K h
     try simp only [Act.put,List.setIfInBounds_toArray,List.set_cons_zero,List.set_cons_succ])
   |(refine opn 5 fun K hK => ?_
     go_simp
     go_at_call 57
     refine (pdu_any c.ad.kd c.ad.ask c.ad.ha c.ad.la c.ad.hi c.ad.lo c.ad.of c.ad.mt c.ad.co c.ad.cm ab ai c.ad.vs 0 [] _ (HAV.out.below hBw) (HIV.out.below hBw) l3 (by omega)).mono ?_
     rintro e w4 ⟨ab',ai',rfl,haa,hoa,hii,hB4⟩
     have hap3 : c.ad.vs.length = 0 ∨ Apart [Value.ownBlock (.slice fa' c.tk.fo.length fc')] ab' := .inr (apart_new hoa (fun k hk => own_lt hff k (List.mem_singleton.1 hk).symm))
     have hoa := hoa.mono hHeld
     have hii := own_base hii hHeld
     obtain ⟨ia',ic',rfl⟩ := own_form hii
     have hvf : ∃ va vc,ab' = .slice va c.ad.vs.length vc := ⟨_,_,haa.choose_spec.choose_spec.1⟩
     obtain ⟨aa',ac',rfl⟩ := hvf
     have bT := bT.below hB4
     have hBw := hBw.trans (hB4.mono hBw.size)
     try have hvv := hvv.below hB4
     try have hff := own_below hff hB4
     try have hww := own_below hww hB4
     try clear m2
     try clear m3
     try clear m4
     try clear m5
     try clear m6
     try clear m7
     try clear m8
     try clear m9
     try clear m10
     try clear m11
     try clear m12
     try clear m13
     try clear m14
     try clear m15
     try clear m16
     try clear m17
     try clear m18
     try clear m19
     try clear m20
     try clear m21
     try clear m25
     try clear z2
     try clear z3
     try clear z4
     try clear z5
     try clear z6
     try clear z7
     try clear z8
     try clear z9
     try clear z10
     try clear z11
     try clear z12
     try clear z13
     try clear z14
     try clear z15
     try clear z16
     try clear z17
     try clear z18
     try clear z19
     try clear z20
     try clear z21
     try clear z25
     have m25 := bT.cell (j := 25) rfl
     refine hK.out _ _ (Nat.le_trans hHeld hB4.size) (fun h => ?_)
     replace hHeld := h
     clear hK K h
     try simp only [Act.put,List.setIfInBounds_toArray,List.set_cons_zero,List.set_cons_succ])
   |(refine opn 7 fun K hK => ?_
     go_simp
     try clear m25
     refine hK.out _ _ (hHeld) (fun h => ?_)
     replace hHeld := h
     clear hK K h
     try simp only [Act.put,List.setIfInBounds_toArray,List.set_cons_zero,List.set_cons_succ])
   |(refine opn 8 fun K hK => ?_
     go_simp
     go_at_call 58
     refine (clone_Task wv n cs _ (HWV.out.below hBw) l4).mono ?_
     rintro e w5 ⟨wv',rfl,hww,hB5,hwn⟩
     have hap2 := apart_row hvv hww (Nat.le_refl _)
     have hap4 := apart_row haa hww (Nat.le_refl _)
     have hww := own_base hww hHeld
     clear hwn
     obtain ⟨wa',wc',rfl⟩ := own_form hww
     have bT := bT.below hB5
     have hBw := hBw.trans (hB5.mono hBw.size)
     try have hvv := hvv.below hB5
     try have haa := haa.below hB5
     try have hff := own_below hff hB5
     try have hii := own_below hii hB5
     try clear m2
     try clear m3
     try clear m4
     try clear m5
     try clear m6
     try clear m7
     try clear m8
     try clear m9
     try clear m10
     try clear m11
     try clear m12
     try clear m13
     try clear m14
     try clear m15
     try clear m16
     try clear m17
     try clear m18
     try clear m19
     try clear m20
     try clear m21
     try clear m25
     try clear z2
     try clear z3
     try clear z4
     try clear z5
     try clear z6
     try clear z7
     try clear z8
     try clear z9
     try clear z10
     try clear z11
     try clear z12
     try clear z13
     try clear z14
     try clear z15
     try clear z16
     try clear z17
     try clear z18
     try clear z19
     try clear z20
     try clear z21
     try clear z25
     have m2 := bT.cell (j := 2) rfl
     have m3 := bT.cell (j := 3) rfl
     have m4 := bT.cell (j := 4) rfl
     have m5 := bT.cell (j := 5) rfl
     have m6 := bT.cell (j := 6) rfl
     have m7 := bT.cell (j := 7) rfl
     have m8 := bT.cell (j := 8) rfl
     have m9 := bT.cell (j := 9) rfl
     have z2 := bT.frozen 2
     have z3 := bT.frozen 3
     have z4 := bT.frozen 4
     have z5 := bT.frozen 5
     have z6 := bT.frozen 6
     have z7 := bT.frozen 7
     have z8 := bT.frozen 8
     have z9 := bT.frozen 9
     refine hK.out _ _ (Nat.le_trans hHeld hB5.size) (fun h => ?_)
     replace hHeld := h
     clear hK K h
     try simp only [Act.put,List.setIfInBounds_toArray,List.set_cons_zero,List.set_cons_succ])
   |(refine opn 10 fun K hK => ?_
     go_simp
     generalize hX : World.setCell _ ⟨w.heap.size,_,none⟩ _ = wx
     obtain ⟨bT,hg⟩ := setTk bT hX
     have hBw : Below w.heap.size w wx := hBw.grown hg hBw.size (fun q hq => by cases hq; omega)
     have hvv := hvv.grown hg (fun e => by have := hov _ e; omega)
     have haa := haa.grown hg (fun e => by have := hoa _ e; omega)
     have hff := own_grown hff hg (fun e => by have := (hff.lt _ e).1; omega)
     have hww := own_grown hww hg (fun e => by have := (hww.lt _ e).1; omega)
     have hii := own_grown hii hg (fun e => by have := (hii.lt _ e).1; omega)
     clear hg hX
     try clear m2
     try clear m3
     try clear m4
     try clear m5
     try clear m6
     try clear m7
     try clear m8
     try clear m9
     try clear m10
     try clear m11
     try clear m12
     try clear m13
     try clear m14
     try clear m15
     try clear m16
     try clear m17
     try clear m18
     try clear m19
     try clear m20
     try clear m21
     try clear m25
     try clear z2
     try clear z3
     try clear z4
     try clear z5
     try clear z6
     try clear z7
     try clear z8
     try clear z9
     try clear z10
     try clear z11
     try clear z12
     try clear z13
     try clear z14
     try clear z15
     try clear z16
     try clear z17
     try clear z18
     try clear z19
     try clear z20
     try clear z21
     try clear z25
     have m10 := bT.cell (j := 10) rfl
     have m11 := bT.cell (j := 11) rfl
     have m12 := bT.cell (j := 12) rfl
     have m13 := bT.cell (j := 13) rfl
     have m14 := bT.cell (j := 14) rfl
     have m15 := bT.cell (j := 15) rfl
     have m16 := bT.cell (j := 16) rfl
     have m17 := bT.cell (j := 17) rfl
     have m18 := bT.cell (j := 18) rfl
     have m19 := bT.cell (j := 19) rfl
     have m20 := bT.cell (j := 20) rfl
     have m21 := bT.cell (j := 21) rfl
     have z10 := bT.frozen 10
     have z11 := bT.frozen 11
     have z12 := bT.frozen 12
     have z13 := bT.frozen 13
     have z14 := bT.frozen 14
     have z15 := bT.frozen 15
     have z16 := bT.frozen 16
     have z17 := bT.frozen 17
     have z18 := bT.frozen 18
     have z19 := bT.frozen 19
     have z20 := bT.frozen 20
     have z21 := bT.frozen 21
     refine hK.out _ _ (Nat.le_trans (Nat.succ_le_of_lt bT.lt) (Nat.le_refl _)) (fun h => ?_)
     replace hHeld := h
     clear hK K h
     try simp only [Act.put,List.setIfInBounds_toArray,List.set_cons_zero,List.set_cons_succ])
   |(refine opn 12 fun K hK => ?_
     go_simp
     generalize hX : World.setCell _ ⟨w.heap.size,_,none⟩ _ = wx
     obtain ⟨bT,hg⟩ := setAd bT hX
     have hBw : Below w.heap.size w wx := hBw.grown hg hBw.size (fun q hq => by cases hq; omega)
     have hvv := hvv.grown hg (fun e => by have := hov _ e; omega)
     have haa := haa.grown hg (fun e => by have := hoa _ e; omega)
     have hff := own_grown hff hg (fun e => by have := (hff.lt _ e).1; omega)
     have hww := own_grown hww hg (fun e => by have := (hww.lt _ e).1; omega)
     have hii := own_grown hii hg (fun e => by have := (hii.lt _ e).1; omega)
     clear hg hX
     try clear m2
     try clear m3
     try clear m4
     try clear m5
     try clear m6
     try clear m7
     try clear m8
     try clear m9
     try clear m10
     try clear m11
     try clear m12
     try clear m13
     try clear m14
     try clear m15
     try clear m16
     try clear m17
     try clear m18
     try clear m19
     try clear m20
     try clear m21
     try clear m25
     try clear z2
     try clear z3
     try clear z4
     try clear z5
     try clear z6
     try clear z7
     try clear z8
     try clear z9
     try clear z10
     try clear z11
     try clear z12
     try clear z13
     try clear z14
     try clear z15
     try clear z16
     try clear z17
     try clear z18
     try clear z19
     try clear z20
     try clear z21
     try clear z25
     have m25 := bT.cell (j := 25) rfl
     have z25 := bT.frozen 25
     refine hK.out _ _ (Nat.le_trans (Nat.succ_le_of_lt bT.lt) (Nat.le_refl _)) (fun h => ?_)
     replace hHeld := h
     clear hK K h
     try simp only [Act.put,List.setIfInBounds_toArray,List.set_cons_zero,List.set_cons_succ])
   |(refine opn 14 fun K hK => ?_
     go_simp
     generalize hX : World.setCell _ ⟨w.heap.size,_,none⟩ _ = wx
     obtain ⟨bT,hg⟩ := setWt bT hX
     have hBw : Below w.heap.size w wx := hBw.grown hg hBw.size (fun q hq => by cases hq; omega)
     have hvv := hvv.grown hg (fun e => by have := hov _ e; omega)
     have haa := haa.grown hg (fun e => by have := hoa _ e; omega)
     have hff := own_grown hff hg (fun e => by have := (hff.lt _ e).1; omega)
     have hww := own_grown hww hg (fun e => by have := (hww.lt _ e).1; omega)
     have hii := own_grown hii hg (fun e => by have := (hii.lt _ e).1; omega)
     clear hg hX
     try clear m2
     try clear m3
     try clear m4
     try clear m5
     try clear m6
     try clear m7
     try clear m8
     try clear m9
     try clear m10
     try clear m11
     try clear m12
     try clear m13
     try clear m14
     try clear m15
     try clear m16
     try clear m17
     try clear m18
     try clear m19
     try clear m20
     try clear m21
     try clear m25
     try clear z2
     try clear z3
     try clear z4
     try clear z5
     try clear z6
     try clear z7
     try clear z8
     try clear z9
     try clear z10
     try clear z11
     try clear z12
     try clear z13
     try clear z14
     try clear z15
     try clear z16
     try clear z17
     try clear z18
     try clear z19
     try clear z20
     try clear z21
     try clear z25
     refine hK.out _ _ (Nat.le_trans (Nat.succ_le_of_lt bT.lt) (Nat.le_refl _)) (fun h => ?_)
     replace hHeld := h
     clear hK K h
     try simp only [Act.put,List.setIfInBounds_toArray,List.set_cons_zero,List.set_cons_succ])
   |refine rd3 1 4 7 ?_ ?_ ?_
   |refine rd3 2 4 7 ?_ ?_ ?_
   |refine rd2 4 7 ?_ ?_
   |refine rd2 5 7 ?_ ?_
   |refine rd1 7 ?_
   |refine rd1 8 ?_
   |refine rd1 10 ?_
   |refine rd1 12 ?_
   |refine rd1 14 ?_
   |refine rd1 5 ?_
   |refine rd1 4 ?_
   |refine rd2 2 7 ?_ ?_
   |refine rd1 2 ?_
   |refine rd2 2 4 ?_ ?_
   |refine rd2 1 7 ?_ ?_
   |refine rd1 1 ?_
   |refine rd2 1 4 ?_ ?_
   |(refine wpAnyH_done (by kernel_rfl) ?_ _
     go_wp2_with fail
     go_meet
     exact ⟨_,_,_,_,_,bT,hvv,hov,hff,haa,hoa,SR.of_own hii (by simp) (by omega),hap1,hap2,hap3,hap4,hww,hBw⟩)
 case rest =>
  obtain ⟨bv',fv',ab',ai',wv',bT,hvv,hov,hff,haa,hoa,hai,hap1,hap2,hap3,hap4,hww,hBw⟩ := hcut
  rename World => U
  have HB := Lib.hid (And.intro hvv (And.intro hov (And.intro hff (And.intro haa (And.intro hoa hai)))))
  have HA := Lib.hid (And.intro hap1 (And.intro hap2 (And.intro hap3 hap4)))
  have HW := Lib.hid hww
  have HBW := Lib.hid hBw
  have HT := Lib.hid bT
  obtain ⟨wa,wc,rfl⟩ := own_form hww
  have m25 := bT.cell (j := 25) rfl
  have hltU := bT.lt
  clear hvv hov hff haa hoa hai hap1 hap2 hap3 hap4 hww hBw bT bT0 hB0 hlt0
  go_wp2_with fail
  go_loopw [5,6,22] (fun _ _ i wr => ∃ (k : Nat) (rs : List (Tk × Value)),i = .int .i64 k ∧ k ≤ n ∧ rs.length = n ∧ Hid (rs.map (·.1) = qs.map (·.1) ∧ (∀ j,k ≤ j → rs[j]? = qs[j]?) ∧ (∀ j q,j < k → rs[j]? = some q → BV wr q.2 q.1.vs ∧ Own U.heap.size q.2)) ∧ wr.ownsRow (w.heap.size + 1) 46 8 (.slice wa n wc) n (rs.flatMap wenc) ∧ Kp (Value.ownBlock (.slice wa n wc)) U wr ∧ Below w.heap.size w wr) (fun _ _ i _ => n - (intOf i).toNat)
  case atStart => exact ⟨0,qs,by simp,Nat.zero_le _,HN.out,Lib.hid ⟨rfl,fun _ _ => rfl,fun _ _ h => absurd h (by omega)⟩,by rw [HCS.out]; exact HW.out,Kp.refl _ _,HBW.out⟩
  case round =>
   obtain ⟨k,rs,rfl,hk,hrl,HR,hown,hG,hBr⟩ := hrel
   by_cases hlt : k < n
   ·have g1 : decide (k < n) = true := by simpa using hlt
    have i1 : (k : Int) < (n : Int) := by omega
    have w1 : IntKind.i64.wrap ((k : Int) + 1) = (k : Int) + 1 := IntWalk.i64_in _ (by omega)
    obtain ⟨g,rfl⟩ : ∃ g,wa = some ⟨g,0,none⟩ := by
     rcases hown.2 with ⟨_,h0⟩ | ⟨g,cap,cur,e,_⟩
     ·omega
     ·injection e with e
      exact ⟨g,e⟩
    have hgl := hown.lt g rfl
    have hkr : k < rs.length := by omega
    obtain ⟨⟨tq,vq⟩,hq⟩ : ∃ q,rs[k] = q := ⟨_,rfl⟩
    have hqm : (tq,vq) ∈ qs := by
     have h1 := HR.out.2.1 k (Nat.le_refl _)
     rw [List.getElem?_eq_getElem hkr,hq] at h1
     exact List.mem_of_getElem? h1.symm
    obtain ⟨hqb,hqf,hql⟩ := HQ.out _ hqm
    simp only at hqb hqf hql
    obtain ⟨va,vc,rfl⟩ : ∃ va vc,vq = .slice va tq.vs.length vc := ⟨_,_,hqb.choose_spec.choose_spec.1⟩
    have hel : ∀ j,j < 8 → wr.cell? ⟨g,k * 8 + j,none⟩ = (wenc (tq,.slice va tq.vs.length vc))[j]? := fun j hj => by
     rw [hown.cellAt (k * 8 + j) (by omega),flat_get wenc 8 wenc_len rs k j hkr hj,hq]
    have f0 : wr.cell? ⟨g,k * 8,none⟩ = some (.int .i64 tq.kd) := hel 0 (by omega)
    have f1 : wr.cell? ⟨g,k * 8 + 1,none⟩ = some (.int .u16 tq.fi) := hel 1 (by omega)
    have f2 : wr.cell? ⟨g,k * 8 + 2,none⟩ = some (.int .u16 tq.la) := hel 2 (by omega)
    have f3 : wr.cell? ⟨g,k * 8 + 3,none⟩ = some (.int .u16 tq.ha) := hel 3 (by omega)
    have f4 : wr.cell? ⟨g,k * 8 + 4,none⟩ = some (.slice va tq.vs.length vc) := hel 4 (by omega)
    have f5 : wr.cell? ⟨g,k * 8 + 5,none⟩ = some (.int .i64 tq.of) := hel 5 (by omega)
    have f6 : wr.cell? ⟨g,k * 8 + 6,none⟩ = some (.slice none 0 0) := hel 6 (by omega)
    have f7 : wr.cell? ⟨g,k * 8 + 7,none⟩ = some (.bool tq.bad) := hel 7 (by omega)
    have m25r := hG.cell m25 (by show some w.heap.size ≠ some g; intro e; injection e with e; omega)
    have bN := Blk.new wr 46 [.int .i64 tq.kd,.int .u16 tq.fi,.int .u16 tq.la,.int .u16 tq.ha,.slice va tq.vs.length vc,.int .i64 tq.of,.slice none 0 0,.bool tq.bad]
    have hBN : Below wr.heap.size wr (wr.alloc (.cells #[.int .i64 tq.kd,.int .u16 tq.fi,.int .u16 tq.la,.int .u16 tq.ha,.slice va tq.vs.length vc,.int .i64 tq.of,.slice none 0 0,.bool tq.bad] 46)) := (Below.refl _ _).alloc (Nat.le_refl _) _
    have HOWN := Lib.hid hown
    have HQ1 := Lib.hid hq
    have HG := Lib.hid hG
    have HBR := Lib.hid hBr
    have HGL := Lib.hid hgl
    have HEL := Lib.hid hel
    clear hown hq hG hBr hel hqm
    go_upto_region 5 with fail
    generalize hX : World.alloc wr _ = wt at bN hBN ⊢
    clear hX
    try clear p0
    try clear p1
    try clear p2
    try clear p3
    try clear p4
    try clear p5
    try clear p6
    try clear p7
    try clear y0
    try clear y1
    try clear y2
    try clear y3
    try clear y4
    try clear y5
    try clear y6
    try clear y7
    try clear f0
    try clear f1
    try clear f2
    try clear f3
    try clear f4
    try clear f5
    try clear f6
    try clear f7
    have m25t := (kc m25r hBN)
    have TA : Cells wt (blk wr.heap.size 0 0 [.int .i64 tq.kd,.int .u16 tq.fi,.int .u16 tq.la,.int .u16 tq.ha,.slice va tq.vs.length vc,.int .i64 tq.of,.slice none 0 0,.bool tq.bad] ++ [(w.heap.size,25,.slice (some ⟨g,0,none⟩) n wc)]) := bN.cells.app ⟨m25t,trivial⟩
    have TAd := TA.drew
    have hBd := hBN.drew
    clear TA hBN bN m25t m25r
    refine wp_region_held_drew (S := (fun W' : World => Cells W' (blk wr.heap.size 0 0 [.int .i64 tq.kd,.int .u16 tq.fi,.int .u16 tq.la,.int .u16 tq.ha,.slice va tq.vs.length vc,.int .i64 tq.of,.slice none 0 0,.bool tq.bad] ++ [(w.heap.size,25,.slice (some ⟨g,0,none⟩) n wc)]))) (by kernel_rfl) (TAd) (fun hHeld => ?_)
    generalize World.drew _ = wd at hHeld TAd hBd ⊢
    refine tkU 0 ?_
    refine tkU 1 ?_
    refine tkU 2 ?_
    refine tkU 3 ?_
    refine rd1 4 fun K hK => ?_
    go_simp
    go_at_call 56
    refine (task_any tq.kd tq.fi tq.la tq.ha _ tq.of _ tq.bad tq.vs [] _ ((hqb.below HBR.out).below hBd) (FdV.nil _) hql (by simp)).mono ?_
    rintro e w2 ⟨v2,f2,rfl,hv2,ho2,hf2,hB2,hn2,_⟩
    obtain rfl := hn2 rfl
    obtain ⟨v2a,v2c,rfl⟩ : ∃ va vc,v2 = .slice va tq.vs.length vc := ⟨_,_,hv2.choose_spec.choose_spec.1⟩
    have how2 := own_below (own_below HOWN.out hBd) hB2
    have hel2 : ∀ j,j < 8 → w2.cell? ⟨g,k * 8 + j,none⟩ = (wenc (tq,.slice va tq.vs.length vc))[j]? := fun j hj => by
     rw [how2.cellAt (k * 8 + j) (by omega),flat_get wenc 8 wenc_len rs k j hkr hj,HQ1.out]
    have f0 : w2.cell? ⟨g,k * 8,none⟩ = some (.int .i64 tq.kd) := hel2 0 (by omega)
    have f1 : w2.cell? ⟨g,k * 8 + 1,none⟩ = some (.int .u16 tq.fi) := hel2 1 (by omega)
    have f2 : w2.cell? ⟨g,k * 8 + 2,none⟩ = some (.int .u16 tq.la) := hel2 2 (by omega)
    have f3 : w2.cell? ⟨g,k * 8 + 3,none⟩ = some (.int .u16 tq.ha) := hel2 3 (by omega)
    have f4 : w2.cell? ⟨g,k * 8 + 4,none⟩ = some (.slice va tq.vs.length vc) := hel2 4 (by omega)
    have f5 : w2.cell? ⟨g,k * 8 + 5,none⟩ = some (.int .i64 tq.of) := hel2 5 (by omega)
    have f6 : w2.cell? ⟨g,k * 8 + 6,none⟩ = some (.slice none 0 0) := hel2 6 (by omega)
    have f7 : w2.cell? ⟨g,k * 8 + 7,none⟩ = some (.bool tq.bad) := hel2 7 (by omega)
    have z0 := how2.frozenAt (k * 8)
    have z1 := how2.frozenAt (k * 8 + 1)
    have z2 := how2.frozenAt (k * 8 + 2)
    have z3 := how2.frozenAt (k * 8 + 3)
    have z4 := how2.frozenAt (k * 8 + 4)
    have z5 := how2.frozenAt (k * 8 + 5)
    have z6 := how2.frozenAt (k * 8 + 6)
    have z7 := how2.frozenAt (k * 8 + 7)
    have TA2 := TAd.keep hB2
    have HOW2 := Lib.hid how2
    clear hel2 how2 hn2 hf2
    clear hHeld
    refine hK.out _ _ (TA2) (fun hHeld => ?_)
    clear hK K
    try simp only [Act.put,List.setIfInBounds_toArray,List.set_cons_zero,List.set_cons_succ]
    refine tkU 5 ?_
    refine rd1 6 fun K hK => ?_
    go_simp
    generalize hX : World.setCell _ ⟨g,k * 8 + 7,none⟩ _ = wx
    obtain ⟨how3,hg3⟩ := row_put8 HOW2.out hX
    have TA3 : Cells wx _ := TA2.grown hg3 (fun x hx => by
     have := HGL.out
     rcases List.mem_append.1 hx with h | h
     ·rw [blk_fst h]; omega
     ·rw [List.mem_singleton.1 h]; show w.heap.size ≠ g; omega)
    clear f0 z0
    clear f1 z1
    clear f2 z2
    clear f3 z3
    clear f4 z4
    clear f5 z5
    clear f6 z6
    clear f7 z7
    clear hX
    clear hHeld
    refine hK.out _ _ (TA3) (fun hHeld => ?_)
    clear hK K
    try simp only [Act.put,List.setIfInBounds_toArray,List.set_cons_zero,List.set_cons_succ]
    refine wpAnyH_done (by kernel_rfl) ?_ _
    have hgl := HGL.out
    have hGk := HG.out
    have hbd := hBd.size
    have hrow : wx.ownsRow (w.heap.size + 1) 46 8 (.slice (some ⟨g,0,none⟩) n wc) n ((rs.set k (tq,.slice v2a tq.vs.length v2c)).flatMap wenc) := by
     rw [← flat_set8 wenc wenc_len (tq,.slice v2a tq.vs.length v2c) _ _ _ _ _ _ _ _ rfl rs k hkr]
     exact how3
    have hBW2 : Below wr.heap.size wr w2 := hBd.trans (hB2.mono hBd.size)
    have hkp : Kp (some g) U wx := (Kp.below hGk hBW2).grown hg3
    have hbx : Below w.heap.size w wx := (HBR.out.trans (hBW2.mono HBR.out.size)).grown hg3 (Nat.le_trans HBR.out.size hBW2.size) (fun q hq => by cases hq; omega)
    have hnewb := hv2.grown hg3 (fun e => by have := ho2 _ e; omega)
    have hnewo := ho2.mono (Nat.le_trans hGk.1 hbd)
    have hm1 : (rs.set k (tq,Value.slice v2a tq.vs.length v2c)).map (·.1) = qs.map (·.1) := by
     rw [← HR.out.1]
     apply List.ext_getElem?
     intro i
     by_cases hi : k = i
     ·subst hi
      simp [hkr,HQ1.out]
     ·simp [List.getElem?_set_ne hi]
    have hm2 : ∀ j,k + 1 ≤ j → (rs.set k (tq,Value.slice v2a tq.vs.length v2c))[j]? = qs[j]? := fun j hj => by
     rw [List.getElem?_set_ne (by omega)]
     exact HR.out.2.1 j (by omega)
    have hgU : g < U.heap.size := (HW.out.lt g rfl).2
    have hm3 : ∀ j q,j < k + 1 → (rs.set k (tq,Value.slice v2a tq.vs.length v2c))[j]? = some q → BV wx q.2 q.1.vs ∧ Own U.heap.size q.2 := fun j q hj hjq => by
     by_cases hi : k = j
     ·subst hi
      simp only [List.getElem?_set_self hkr,Option.some.injEq] at hjq
      subst hjq
      exact ⟨hnewb,hnewo⟩
     ·rw [List.getElem?_set_ne hi] at hjq
      obtain ⟨h1,h2⟩ := HR.out.2.2 j q (by omega) hjq
      exact ⟨(h1.below hBW2).grown hg3 (fun e => by have := h2 _ e; omega),h2⟩
    have HREL := Lib.hid (And.intro hm1 (And.intro hm2 hm3))
    have HROW := Lib.hid hrow
    have HKP := Lib.hid hkp
    have HBX := Lib.hid hbx
    clear hm1 hm2 hm3 hrow hkp hbx how3 hg3 hnewb hnewo hgl hGk hgU hbd hBW2 TA3 TA2 TAd hBd hB2 hv2 ho2 hqb hHeld
    go_wp2_with fail
    refine ⟨⟨k + 1,_,by simp,hlt,by simpa using hrl,HREL,HROW.out,HKP.out,HBX.out⟩,?_⟩
    simp [intOf]
    omega
   ·have g1 : decide (k < n) = false := by simpa using hlt
    obtain rfl : k = n := by omega
    obtain ⟨hvv,hov,hff,haa,hoa,hai⟩ := HB.out
    obtain ⟨hap1,hap2,hap3,hap4⟩ := HA.out
    have hneX : ∀ i,Value.ownBlock (.slice wa k wc) = some i → i ≠ w.heap.size := fun i hi => by have := (HW.out.lt i hi).1; omega
    have bT : Blk wr w.heap.size 52 [.int .i64 c.mt,.int .i64 c.mx,.int .i64 c.tk.kd,.int .u16 c.tk.fi,.int .u16 c.tk.la,.int .u16 c.tk.ha,bv',.int .i64 c.tk.of,fv',.bool c.tk.bad,.int .i64 c.ad.kd,.int .i64 c.ad.ask,.int .u16 c.ad.ha,.int .u16 c.ad.la,.int .u64 c.ad.hi,.int .u64 c.ad.lo,.int .i64 c.ad.of,.int .i64 c.ad.mt,.int .i64 c.ad.co,.bool c.ad.cm,ab',ai',.bool c.busy,.int .i64 c.since,.bool c.dead,.slice wa k wc] := (hG.2 w.heap.size hltU (fun e => hneX _ e.symm rfl)).trans HT.out
    have hfin := of_sd (now := now) hvv hff haa hai hap1 hap2 hap3 hap4 HW.out hG hBr.size hown hrl (HR.out.1.trans HWT.out) HR.out.2.2 (fun t ht => by
     rw [← HWT.out] at ht
     obtain ⟨q',hq',e⟩ := List.mem_map.1 ht
     rw [← e]
     exact (HQ.out q' hq').2.1)
    have hbf := hBr.trans (((Below.refl wr.heap.size wr).alloc (Nat.le_refl _) (.cells #[.int .i64 c.mt,.int .i64 c.mx,.int .i64 c.tk.kd,.int .u16 c.tk.fi,.int .u16 c.tk.la,.int .u16 c.tk.ha,bv',.int .i64 c.tk.of,fv',.bool c.tk.bad,.int .i64 c.ad.kd,.int .i64 c.ad.ask,.int .u16 c.ad.ha,.int .u16 c.ad.la,.int .u64 c.ad.hi,.int .u64 c.ad.lo,.int .i64 c.ad.of,.int .i64 c.ad.mt,.int .i64 c.ad.co,.bool c.ad.cm,ab',ai',.bool c.busy,.int .i64 c.since,.bool c.dead,.slice wa k wc,.int .i64 now,.slice none 0 0,.slice none 0 0] 103)).mono hBr.size)
    have HF := Lib.hid hfin
    have HBF := Lib.hid hbf
    clear hvv hov hff haa hoa hai hap1 hap2 hap3 hap4 hneX hfin hbf hG hBr hown
    have hbt : wr.heap[w.heap.size]? = some (.cells #[.int .i64 c.mt,.int .i64 c.mx,.int .i64 c.tk.kd,.int .u16 c.tk.fi,.int .u16 c.tk.la,.int .u16 c.tk.ha,bv',.int .i64 c.tk.of,fv',.bool c.tk.bad,.int .i64 c.ad.kd,.int .i64 c.ad.ask,.int .u16 c.ad.ha,.int .u16 c.ad.la,.int .u64 c.ad.hi,.int .u64 c.ad.lo,.int .i64 c.ad.of,.int .i64 c.ad.mt,.int .i64 c.ad.co,.bool c.ad.cm,ab',ai',.bool c.busy,.int .i64 c.since,.bool c.dead,.slice wa k wc] 52 (0,0)) := bT
    clear bT
    go_wp2_with (refine wpList_load_row rfl 52 _ rfl w.heap.size rfl 52 _ (0,0) _ hbt Tryz.underlying52 rfl (by kernel_rfl) ?_)
    go_ret
    exact ⟨_,rfl,_,HF.out,rfl,rfl,rfl,rfl,HBF.out⟩
end Go.Proofs.YtldcihjddebciaaGreat
