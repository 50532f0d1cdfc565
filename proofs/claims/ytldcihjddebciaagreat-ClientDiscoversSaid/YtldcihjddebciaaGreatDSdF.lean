/- client with a server: plain: a play over any server; the server keeps attributes of the permitted size. And what follows it. -/
import Derived.Test.YtldcihjddebciaaGreatDSdA
import Derived.Test.YtldcihjddebciaaGreatDSdM
import Derived.Test.YtldcihjddebciaaGreatDSdG
import Derived.Test.YtldcihjddebciaaGreatDUuJ
import Derived.Deep.OwnRows
set_option linter.unusedSimpArgs false
set_option linter.unusedVariables false
set_option maxRecDepth 100000
set_option maxHeartbeats 12000000
namespace Go.Proofs.YtldcihjddebciaaGreat
open Go.RowKit
/-- a play of at most n exchanges over a server that answers by st, from an open request to a result -/
inductive PlayG (st : Ss → Pd → Ss × Pd × List Im) (G : Cl → Ss → Pd → Prop) : Nat → Cl → Ss → Pd → Rs → Cl → Ss → Prop
 |done {n : Nat} {c : Cl} {s : Ss} {q : Pd} {r : Rs} (hg : G c s q) (hu : (handleP c (st s q).2.1 (st s q).2.2 0).us = [r]) : PlayG st G (n + 1) c s q r (handleP c (st s q).2.1 (st s q).2.2 0).c (st s q).1
 |more {n : Nat} {c c2 : Cl} {s s2 : Ss} {q q2 : Pd} {r : Rs} (hg : G c s q) (hu : (handleP c (st s q).2.1 (st s q).2.2 0).us = []) (hp : (handleP c (st s q).2.1 (st s q).2.2 0).ps = [q2]) (h : PlayG st G n (handleP c (st s q).2.1 (st s q).2.2 0).c (st s q).1 q2 r c2 s2) : PlayG st G (n + 1) c s q r c2 s2
theorem PlayG.mono {st : Ss → Pd → Ss × Pd × List Im} {G : Cl → Ss → Pd → Prop} {n m : Nat} {c c2 : Cl} {s s2 : Ss} {q : Pd} {r : Rs} (h : PlayG st G n c s q r c2 s2) (hm : n ≤ m) : PlayG st G m c s q r c2 s2 := by
 induction h generalizing m with
 |done hg hu =>
  obtain ⟨k,rfl⟩ : ∃ k,m = k + 1 := ⟨m - 1,by omega⟩
  exact .done hg hu
 |more hg hu hp _ ih =>
  obtain ⟨k,rfl⟩ : ∃ k,m = k + 1 := ⟨m - 1,by omega⟩
  exact .more hg hu hp (ih (by omega))
/-- a new client -/
def cN (mx : Int) : Cl := ⟨23,mx,tk0,pd0,false,0,false,[]⟩
theorem clv_new (w : World) (mx : Int) : ClV w (.agg #[.int .i64 23,.int .i64 mx,.int .i64 0,.int .u16 0,.int .u16 0,.int .u16 0,.slice none 0 0,.int .i64 0,.slice none 0 0,.bool false,.int .i64 0,.int .i64 0,.int .u16 0,.int .u16 0,.int .u64 0,.int .u64 0,.int .i64 0,.int .i64 0,.int .i64 0,.bool false,.slice none 0 0,.slice none 0 0,.bool false,.int .i64 0,.bool false,.slice none 0 0]) (cN mx) :=
 ⟨.slice none 0 0,.slice none 0 0,.slice none 0 0,.slice none 0 0,.slice none 0 0,rfl,BV.nil w,FdV.nil w,BV.nil w,SR.nil w 5,[],rfl,SR.nil w 8,fun q hq => by cases hq⟩
theorem ClV.kv {w : World} {v : Value} {c : Cl} (h : ClV w v c) : ∃ k : Cv,v = .agg (k.cells c).toArray ∧ (k.cells c).toArray.all (·.oneCell') = true := by
 obtain ⟨bv,fv,ab,ai,wv,rfl,h1,h2,h3,h4,qs,h5,h6,_⟩ := h
 obtain ⟨a1,c1,e1⟩ := h1.form
 obtain ⟨a2,c2,e2⟩ := h2.form
 obtain ⟨a3,c3,e3⟩ := h3.form
 obtain ⟨a4,c4,e4⟩ := h4.form
 obtain ⟨a5,c5,e5⟩ := h6.form
 exact ⟨⟨bv,fv,ab,ai,wv,[]⟩,rfl,by simp [Cv.cells,clc,e1,e2,e3,e4,e5,Value.oneCell']⟩
theorem ok_N (mx : Int) : ClOk (cN mx) := ⟨by simp [cN],by simp [cN],by simp [cN,tk0],by simp [cN,tk0],by simp [cN,pd0],⟨0,rfl,by omega⟩,by simp [cN,tk0]⟩
def exT5 : Tk := { tk0 with kd := 5,ha := 3 }
def exP1 : Pd := { pd0 with kd := 10,ha := 3 }
def exC1 : Cl := { cN 100 with tk := exT5,ad := exP1,since := 5,busy := true }
theorem exS1 : startP (cN 100) exT5 5 = (⟨exC1,5,[exP1],[]⟩,0) := by rfl
def exA1 : Pd := { pd0 with kd := 11,vs := [50] }
theorem exH1 : (handleP exC1 exA1 [] 6).us = [⟨3,5,3,[50],[],0⟩] := by rfl
def exT7 : Tk := { tk0 with kd := 7,ha := 3,vs := List.replicate 30 0 }
def exP7 : Pd := { pd0 with kd := 22,ha := 3,vs := List.replicate 18 0 }
def exC7 : Cl := { cN 100 with tk := exT7,ad := exP7,since := 5,busy := true }
theorem exS7 : startP (cN 100) exT7 5 = (⟨exC7,5,[exP7],[]⟩,0) := by rfl
theorem exS0 : startP (cN 100) tk0 5 = (⟨cN 100,5,[],[]⟩,12) := by rfl
def exA7 : Pd := { pd0 with kd := 23,ha := 3,vs := List.replicate 18 0 }
def exP8 : Pd := { pd0 with kd := 22,ha := 3,of := 18,vs := List.replicate 12 0 }
theorem exH7 : (handleP exC7 exA7 [] 6).ps = [exP8] ∧ (handleP exC7 exA7 [] 6).c.busy = true := ⟨by rfl,by rfl⟩
theorem ok_1 : ClOk exC1 := ⟨by simp [exC1,cN],by simp [exC1,cN],by simp [exC1,exT5,tk0],by simp [exC1,exT5,tk0],by simp [exC1,exP1,pd0],⟨0,rfl,by omega⟩,by simp [exC1,exT5,tk0]⟩
theorem ok_7 : ClOk exC7 := ⟨by simp [exC7,cN],by simp [exC7,cN],by simp [exC7,exT7],by simp [exC7,exT7,tk0],by simp [exC7,exP7],⟨0,rfl,by omega⟩,by simp [exC7,exT7,tk0]⟩
theorem itb_nil (w : World) (B : Nat) : ItB w B (.slice none 0 0) [] := ⟨SR.nil w 5,.inl rfl,by simp,by simp⟩
theorem bv_blk {w : World} {b : Nat} {bs : List Nat} {t : TypeId} (h : Blk w b t (bcells bs)) (hl : bs.length ≤ 1000000) (h8 : ∀ x ∈ bs,x < 256) : BV w (.slice (some ⟨b,0,none⟩) bs.length bs.length) bs :=
 ⟨_,_,rfl,Nat.le_refl _,⟨⟨by unfold maxLen; omega,by simp [bcells],bcells_one bs,some ⟨b,0,none⟩,bs.length,rfl,(fun e => (by cases e)),(fun _ => ⟨b,0,rfl,h.lt,(fun j u hj => (by rw [Nat.zero_add]; exact h.cell hj))⟩)⟩,by unfold reachBytes; omega,h8⟩⟩
theorem PsV.below {w w' : World} {v : Value} {ps : List Pd} (h : PsV w v ps) (hb : Below w.heap.size w w') : PsV w' v ps := by
 obtain ⟨qs,h1,h2,h3⟩ := h
 exact ⟨qs,h1,h2.below hb,fun q hq => ⟨(h3 q hq).1.below hb,(h3 q hq).2.below hb⟩⟩
theorem RsV.below {w w' : World} {v : Value} {us : List Rs} (h : RsV w v us) (hb : Below w.heap.size w w') : RsV w' v us := by
 obtain ⟨qs,h1,h2,h3⟩ := h
 exact ⟨qs,h1,h2.below hb,fun q hq => ⟨(h3 q hq).1.below hb,(h3 q hq).2.below hb⟩⟩
theorem ClV.notz {w w' : World} {v : Value} {c : Cl} {rb : Nat} (h : ClV w v c) (hwt : c.wt = []) (hz : Blk w rb 52 czl) (hg : w.grownBy w' (some rb)) : ClV w' v c := by
 obtain ⟨bv,fv,ab,ai,wv,e,h1,h2,h3,h4,qs,h5,h6,h7⟩ := h
 have h0 : qs = [] := by rw [hwt] at h5; exact List.map_eq_nil_iff.1 h5
 subst h0
 exact ⟨bv,fv,ab,ai,wv,e,h1.notz hz hg,h2.notz hz hg,h3.notz hz hg,h4.empty,[],h5,h6.empty,fun q hq => by cases hq⟩
theorem range_ne {w : World} {b o X : Nat} {p : Pd} {av iv : Value} {t : TypeId} {zs : List Value} (h : w.rangeAt b o (pdc p av iv)) (hz : Blk w X t zs) (hn : ∀ j : Nat,zs[j]? ≠ some (Value.int .i64 p.kd)) : b ≠ X := by
 intro e
 subst e
 have h0 := h 0 _ rfl
 have h1 := hn (o + 0)
 rw [hz.at?] at h0
 exact h1 h0
theorem range_put {w w' : World} {b o X : Nat} {cs : List Value} (h : w.rangeAt b o cs) (hn : b ≠ X) (hg : w.grownBy w' (some X)) : w'.rangeAt b o cs := fun j v hv => (Cells.grown hg (l := [(b,o + j,v)]) ⟨h j v hv,trivial⟩ (by simpa using hn)).1
theorem czl_no22 (j : Nat) : czl[j]? ≠ some (.int .i64 22) := by
 intro h
 have := List.mem_of_getElem? h
 revert this
 simp [czl]
theorem no8 (k : Cv) (o : Nat) (h1 : (k.cells exC7)[o]? = some (Value.int .i64 22)) (h2 : (k.cells exC7)[o + 6]? = some (Value.int .i64 18)) : False := by
 match o with
 |0 => first | (simp [Cv.cells,clc,tkc,pdc,exC7,exT7,exP7,cN,tk0,pd0] at h1; done) | (simp [Cv.cells,clc,tkc,pdc,exC7,exT7,exP7,cN,tk0,pd0] at h2; done)
 |1 => first | (simp [Cv.cells,clc,tkc,pdc,exC7,exT7,exP7,cN,tk0,pd0] at h1; done) | (simp [Cv.cells,clc,tkc,pdc,exC7,exT7,exP7,cN,tk0,pd0] at h2; done)
 |2 => first | (simp [Cv.cells,clc,tkc,pdc,exC7,exT7,exP7,cN,tk0,pd0] at h1; done) | (simp [Cv.cells,clc,tkc,pdc,exC7,exT7,exP7,cN,tk0,pd0] at h2; done)
 |3 => first | (simp [Cv.cells,clc,tkc,pdc,exC7,exT7,exP7,cN,tk0,pd0] at h1; done) | (simp [Cv.cells,clc,tkc,pdc,exC7,exT7,exP7,cN,tk0,pd0] at h2; done)
 |4 => first | (simp [Cv.cells,clc,tkc,pdc,exC7,exT7,exP7,cN,tk0,pd0] at h1; done) | (simp [Cv.cells,clc,tkc,pdc,exC7,exT7,exP7,cN,tk0,pd0] at h2; done)
 |5 => first | (simp [Cv.cells,clc,tkc,pdc,exC7,exT7,exP7,cN,tk0,pd0] at h1; done) | (simp [Cv.cells,clc,tkc,pdc,exC7,exT7,exP7,cN,tk0,pd0] at h2; done)
 |6 => first | (simp [Cv.cells,clc,tkc,pdc,exC7,exT7,exP7,cN,tk0,pd0] at h1; done) | (simp [Cv.cells,clc,tkc,pdc,exC7,exT7,exP7,cN,tk0,pd0] at h2; done)
 |7 => first | (simp [Cv.cells,clc,tkc,pdc,exC7,exT7,exP7,cN,tk0,pd0] at h1; done) | (simp [Cv.cells,clc,tkc,pdc,exC7,exT7,exP7,cN,tk0,pd0] at h2; done)
 |8 => first | (simp [Cv.cells,clc,tkc,pdc,exC7,exT7,exP7,cN,tk0,pd0] at h1; done) | (simp [Cv.cells,clc,tkc,pdc,exC7,exT7,exP7,cN,tk0,pd0] at h2; done)
 |9 => first | (simp [Cv.cells,clc,tkc,pdc,exC7,exT7,exP7,cN,tk0,pd0] at h1; done) | (simp [Cv.cells,clc,tkc,pdc,exC7,exT7,exP7,cN,tk0,pd0] at h2; done)
 |10 => first | (simp [Cv.cells,clc,tkc,pdc,exC7,exT7,exP7,cN,tk0,pd0] at h1; done) | (simp [Cv.cells,clc,tkc,pdc,exC7,exT7,exP7,cN,tk0,pd0] at h2; done)
 |11 => first | (simp [Cv.cells,clc,tkc,pdc,exC7,exT7,exP7,cN,tk0,pd0] at h1; done) | (simp [Cv.cells,clc,tkc,pdc,exC7,exT7,exP7,cN,tk0,pd0] at h2; done)
 |12 => first | (simp [Cv.cells,clc,tkc,pdc,exC7,exT7,exP7,cN,tk0,pd0] at h1; done) | (simp [Cv.cells,clc,tkc,pdc,exC7,exT7,exP7,cN,tk0,pd0] at h2; done)
 |13 => first | (simp [Cv.cells,clc,tkc,pdc,exC7,exT7,exP7,cN,tk0,pd0] at h1; done) | (simp [Cv.cells,clc,tkc,pdc,exC7,exT7,exP7,cN,tk0,pd0] at h2; done)
 |14 => first | (simp [Cv.cells,clc,tkc,pdc,exC7,exT7,exP7,cN,tk0,pd0] at h1; done) | (simp [Cv.cells,clc,tkc,pdc,exC7,exT7,exP7,cN,tk0,pd0] at h2; done)
 |15 => first | (simp [Cv.cells,clc,tkc,pdc,exC7,exT7,exP7,cN,tk0,pd0] at h1; done) | (simp [Cv.cells,clc,tkc,pdc,exC7,exT7,exP7,cN,tk0,pd0] at h2; done)
 |16 => first | (simp [Cv.cells,clc,tkc,pdc,exC7,exT7,exP7,cN,tk0,pd0] at h1; done) | (simp [Cv.cells,clc,tkc,pdc,exC7,exT7,exP7,cN,tk0,pd0] at h2; done)
 |17 => first | (simp [Cv.cells,clc,tkc,pdc,exC7,exT7,exP7,cN,tk0,pd0] at h1; done) | (simp [Cv.cells,clc,tkc,pdc,exC7,exT7,exP7,cN,tk0,pd0] at h2; done)
 |18 => first | (simp [Cv.cells,clc,tkc,pdc,exC7,exT7,exP7,cN,tk0,pd0] at h1; done) | (simp [Cv.cells,clc,tkc,pdc,exC7,exT7,exP7,cN,tk0,pd0] at h2; done)
 |19 => first | (simp [Cv.cells,clc,tkc,pdc,exC7,exT7,exP7,cN,tk0,pd0] at h1; done) | (simp [Cv.cells,clc,tkc,pdc,exC7,exT7,exP7,cN,tk0,pd0] at h2; done)
 |20 => first | (simp [Cv.cells,clc,tkc,pdc,exC7,exT7,exP7,cN,tk0,pd0] at h1; done) | (simp [Cv.cells,clc,tkc,pdc,exC7,exT7,exP7,cN,tk0,pd0] at h2; done)
 |21 => first | (simp [Cv.cells,clc,tkc,pdc,exC7,exT7,exP7,cN,tk0,pd0] at h1; done) | (simp [Cv.cells,clc,tkc,pdc,exC7,exT7,exP7,cN,tk0,pd0] at h2; done)
 |22 => first | (simp [Cv.cells,clc,tkc,pdc,exC7,exT7,exP7,cN,tk0,pd0] at h1; done) | (simp [Cv.cells,clc,tkc,pdc,exC7,exT7,exP7,cN,tk0,pd0] at h2; done)
 |23 => first | (simp [Cv.cells,clc,tkc,pdc,exC7,exT7,exP7,cN,tk0,pd0] at h1; done) | (simp [Cv.cells,clc,tkc,pdc,exC7,exT7,exP7,cN,tk0,pd0] at h2; done)
 |24 => first | (simp [Cv.cells,clc,tkc,pdc,exC7,exT7,exP7,cN,tk0,pd0] at h1; done) | (simp [Cv.cells,clc,tkc,pdc,exC7,exT7,exP7,cN,tk0,pd0] at h2; done)
 |25 => first | (simp [Cv.cells,clc,tkc,pdc,exC7,exT7,exP7,cN,tk0,pd0] at h1; done) | (simp [Cv.cells,clc,tkc,pdc,exC7,exT7,exP7,cN,tk0,pd0] at h2; done)
 |n + 26 => simp [Cv.cells,clc,tkc,pdc] at h1
theorem mkB (n : Nat) (hn : n ≤ 1000) (W : World) : (Instr.makeSlice 27 (.int .i64 (n : Int)) (.int .i64 (n : Int))).run Tryz.prog W = .ok (.slice (some ⟨W.heap.size,0,none⟩) n n) (W.alloc (.cells (bcells (List.replicate n 0)).toArray 5)) := by
 rw [run_make_row' (P := Tryz.prog) 27 5 (.int .u8 0) 1 Tryz.underlying27 (by kernel_rfl) rfl .i64 .i64 n (by omega) (by omega) W]
 have e : madeCells #[.int .u8 0] n = (bcells (List.replicate n 0)).toArray := by
  apply Array.ext'
  rw [toList_madeCells_one]
  simp [bcells]
 rw [e]
theorem mk30 (W : World) : (Instr.makeSlice 27 (.int .i64 30) (.int .i64 30)).run Tryz.prog W = .ok (.slice (some ⟨W.heap.size,0,none⟩) 30 30) (W.alloc (.cells (bcells (List.replicate 30 0)).toArray 5)) := mkB 30 (by decide) W
theorem mk18 (W : World) : (Instr.makeSlice 27 (.int .i64 18) (.int .i64 18)).run Tryz.prog W = .ok (.slice (some ⟨W.heap.size,0,none⟩) 18 18) (W.alloc (.cells (bcells (List.replicate 18 0)).toArray 5)) := mkB 18 (by decide) W
theorem range_lt {w : World} {b o : Nat} {cs : List Value} {v : Value} (h : w.rangeAt b o cs) (h0 : cs[0]? = some v) : b < w.heap.size := by
 have h1 := h 0 v h0
 by_cases hb : b < w.heap.size
 ·exact hb
 ·simp [World.cell?,Array.getElem?_eq_none (Nat.le_of_not_lt hb)] at h1
theorem ps_one {w : World} {v : Value} {p : Pd} (h : PsV w v [p]) : ∃ b o c av iv,v = .slice (some ⟨b,o,none⟩) 1 c ∧ w.rangeAt b o (pdc p av iv) ∧ BV w av p.vs := by
 obtain ⟨qs,h1,h2,h3⟩ := h
 have l1 : qs.length = 1 := by have := congrArg List.length h1; simpa using this
 obtain ⟨⟨p',av,iv⟩,hq⟩ := List.length_eq_one_iff.1 l1
 subst hq
 simp only [List.map_cons,List.map_nil,List.cons.injEq,and_true] at h1
 subst h1
 obtain ⟨b,o,d,q1,rows⟩ := sr_rows penc (fun _ => rfl) h2 (by simp)
 have := rows 0 (p',av,iv) rfl
 rw [Nat.zero_mul,Nat.add_zero] at this
 exact ⟨b,o,d,av,iv,q1,this,(h3 (p',av,iv) (by simp)).1⟩
theorem rs_one {w : World} {v : Value} {p : Rs} (h : RsV w v [p]) : ∃ b o c av iv,v = .slice (some ⟨b,o,none⟩) 1 c ∧ w.rangeAt b o [.int .i64 p.kd,.int .i64 p.tk,.int .u16 p.ha,av,iv,.int .i64 p.co] ∧ BV w av p.vs := by
 obtain ⟨qs,h1,h2,h3⟩ := h
 have l1 : qs.length = 1 := by have := congrArg List.length h1; simpa using this
 obtain ⟨⟨p',av,iv⟩,hq⟩ := List.length_eq_one_iff.1 l1
 subst hq
 simp only [List.map_cons,List.map_nil,List.cons.injEq,and_true] at h1
 subst h1
 obtain ⟨b,o,d,q1,rows⟩ := sr_rows renc (fun _ => rfl) h2 (by simp)
 have := rows 0 (p',av,iv) rfl
 rw [Nat.zero_mul,Nat.add_zero] at this
 exact ⟨b,o,d,av,iv,q1,this,(h3 (p',av,iv) (by simp)).1⟩
theorem example_any (w : World) : Calls Tryz.prog 7 #[] w fun e w' => e = .returned (.bool true) ∧ Below w.heap.size w w' := by
 go_enter Tryz.func7,Tryz.ntmps7
 go_wp2_with fail
 refine (new_ok 100 w (by decide) (by decide)).mono ?_
 rintro e w1 ⟨rfl,hB1⟩
 have hc0 := clv_new w1 100
 obtain ⟨k0,e0,one0⟩ := hc0.kv
 rw [e0] at hc0 ⊢
 have bX1 := Blk.new w1 52 [.int .i64 0,.int .i64 0,.int .i64 0,.int .u16 0,.int .u16 0,.int .u16 0,.slice none 0 0,.int .i64 0,.slice none 0 0,.bool false,.int .i64 0,.int .i64 0,.int .u16 0,.int .u16 0,.int .u64 0,.int .u64 0,.int .i64 0,.int .i64 0,.int .i64 0,.bool false,.slice none 0 0,.slice none 0 0,.bool false,.int .i64 0,.bool false,.slice none 0 0]
 have hth := bX1.there 0 26 (by simp)
 clear e0
 go_upto_region 2 with (refine wpList_store_mid rfl 52 _ _ rfl w1.heap.size 0 (k0.cells (cN 100)).toArray rfl rfl hth (by kernel_rfl) one0 ?_; simp only [Act.put]; generalize hW : World.setCells _ w1.heap.size 0 _ = w2; have HW := Lib.hid hW; clear hW)
 have bX1 := bX1.putAll (vs := k0.cells (cN 100)) rfl
 have hg2 := setCells_grown w1.heap.size (k0.cells (cN 100)) 0 (w1.alloc (.cells #[.int .i64 0,.int .i64 0,.int .i64 0,.int .u16 0,.int .u16 0,.int .u16 0,.slice none 0 0,.int .i64 0,.slice none 0 0,.bool false,.int .i64 0,.int .i64 0,.int .u16 0,.int .u16 0,.int .u64 0,.int .u64 0,.int .i64 0,.int .i64 0,.int .i64 0,.bool false,.slice none 0 0,.slice none 0 0,.bool false,.int .i64 0,.bool false,.slice none 0 0] 52))
 rw [show World.setCells _ w1.heap.size 0 (k0.cells (cN 100)) = w2 from HW.out] at bX1 hg2
 have hA2 : Below w1.heap.size w1 w2 := ((Below.refl w1.heap.size w1).alloc (Nat.le_refl _) _).grown hg2 (by simp) (fun k hk => by cases hk; exact Nat.le_refl _)
 have hc0 := hc0.below hA2
 have hB2 := hB1.trans (hA2.mono hB1.size)
 obtain ⟨X1,hX1⟩ : ∃ x,w1.heap.size = x := ⟨_,rfl⟩
 rw [hX1] at bX1 ⊢
 clear hth HW hg2 hA2 hX1 hB1
 have hrg := bX1.range 0 (k0.cells (cN 100)) (fun j v hv => by rw [Nat.zero_add]; exact hv)
 go_wp2_with (refine wpList_load_mid rfl 52 _ rfl X1 0 rfl (k0.cells (cN 100)) _ hrg Tryz.underlying52 rfl (by kernel_rfl) ?_)
 refine (start_any (cN 100) (.agg (k0.cells (cN 100)).toArray) exT5 (.slice none 0 0) (.slice none 0 0) 5 w2 hc0 (ok_N 100) (BV.nil w2) ⟨none,0,0,rfl⟩ (by decide) (by decide)).mono ?_
 rintro e w3 ⟨v1,l1,rfl,⟨hc1,-⟩,⟨hl1,-⟩,hB3⟩
 rw [exS1] at hc1 hl1 ⊢
 obtain ⟨k1,e1,one1⟩ := hc1.kv
 rw [e1] at hc1 ⊢
 have hc0 := hc0.below hB3
 have bX1 := bX1.below hB3
 have hB3' := hB2.trans (hB3.mono hB2.size)
 have bX3 := Blk.new w3 52 [.int .i64 0,.int .i64 0,.int .i64 0,.int .u16 0,.int .u16 0,.int .u16 0,.slice none 0 0,.int .i64 0,.slice none 0 0,.bool false,.int .i64 0,.int .i64 0,.int .u16 0,.int .u16 0,.int .u64 0,.int .u64 0,.int .i64 0,.int .i64 0,.int .i64 0,.bool false,.slice none 0 0,.slice none 0 0,.bool false,.int .i64 0,.bool false,.slice none 0 0]
 have hth := bX3.there 0 26 (by simp)
 clear e1 hrg hB3 hB2
 go_upto_region 3 with (refine wpList_store_mid rfl 52 _ _ rfl w3.heap.size 0 (k1.cells exC1).toArray rfl rfl hth (by kernel_rfl) one1 ?_; simp only [Act.put]; generalize hW : World.setCells _ w3.heap.size 0 _ = w4; have HW := Lib.hid hW; clear hW)
 have bX3 := bX3.putAll (vs := k1.cells exC1) rfl
 have hg2 := setCells_grown w3.heap.size (k1.cells exC1) 0 (w3.alloc (.cells #[.int .i64 0,.int .i64 0,.int .i64 0,.int .u16 0,.int .u16 0,.int .u16 0,.slice none 0 0,.int .i64 0,.slice none 0 0,.bool false,.int .i64 0,.int .i64 0,.int .u16 0,.int .u16 0,.int .u64 0,.int .u64 0,.int .i64 0,.int .i64 0,.int .i64 0,.bool false,.slice none 0 0,.slice none 0 0,.bool false,.int .i64 0,.bool false,.slice none 0 0] 52))
 rw [show World.setCells _ w3.heap.size 0 (k1.cells exC1) = w4 from HW.out] at bX3 hg2
 have hA2 : Below w3.heap.size w3 w4 := ((Below.refl w3.heap.size w3).alloc (Nat.le_refl _) _).grown hg2 (by simp) (fun k hk => by cases hk; exact Nat.le_refl _)
 have hc0 := hc0.below hA2
 have hc1 := hc1.below hA2
 have bX1 := bX1.below hA2
 have hl1 := hl1.below hA2
 have hB4 := hB3'.trans (hA2.mono hB3'.size)
 obtain ⟨X3,hX3⟩ : ∃ x,w3.heap.size = x := ⟨_,rfl⟩
 rw [hX3] at bX3 ⊢
 clear hth HW hg2 hA2 hX3 hB3'
 have hrg := bX3.range 0 (k1.cells exC1) (fun j v hv => by rw [Nat.zero_add]; exact hv)
 go_wp2_with (refine wpList_load_mid rfl 52 _ rfl X3 0 rfl (k1.cells exC1) _ hrg Tryz.underlying52 rfl (by kernel_rfl) ?_)
 have hA := (Below.refl w4.heap.size w4).alloc (Nat.le_refl _) (.cells #[.int .u8 50] 5)
 have bB : Blk (w4.alloc (.cells #[.int .u8 50] 5)) w4.heap.size 5 (bcells [50]) := Blk.new w4 5 [.int .u8 50]
 have hb50 := bv_blk bB (by decide) (by decide)
 refine (hnd_any exC1 (.agg (k1.cells exC1).toArray) exA1 (.slice (some ⟨w4.heap.size,0,none⟩) 1 1) (.slice none 0 0) [] 6 _ (hc1.below hA) ok_1 hb50 (itb_nil _ _) (by decide) (by decide) (by decide) (fun _ _ h => by simp [exA1] at h)).mono ?_
 rintro e w5 ⟨v2,o2,g2,rfl,⟨hc2,-⟩,-,⟨hg2,-⟩,hB5⟩
 have hg2 : RsV w5 g2 [⟨3,5,3,[50],[],0⟩] := by rw [← exH1]; exact hg2
 obtain ⟨c2,hc2e⟩ : ∃ x,(handleP exC1 exA1 (List.map (fun x : Im × Value => x.1) []) 6).c = x := ⟨_,rfl⟩
 rw [hc2e] at hc2
 clear hc2e
 obtain ⟨k2,e2,one2⟩ := hc2.kv
 rw [e2] at hc2 ⊢
 have hB5 := hA.trans (hB5.mono hA.size)
 have hc0 := hc0.below hB5
 have bX1 := bX1.below hB5
 have hl1 := hl1.below hB5
 have hB5' := hB4.trans (hB5.mono hB4.size)
 have bX6 := Blk.new w5 52 [.int .i64 0,.int .i64 0,.int .i64 0,.int .u16 0,.int .u16 0,.int .u16 0,.slice none 0 0,.int .i64 0,.slice none 0 0,.bool false,.int .i64 0,.int .i64 0,.int .u16 0,.int .u16 0,.int .u64 0,.int .u64 0,.int .i64 0,.int .i64 0,.int .i64 0,.bool false,.slice none 0 0,.slice none 0 0,.bool false,.int .i64 0,.bool false,.slice none 0 0]
 have hth := bX6.there 0 26 (by simp)
 clear e2 hrg hB5 hB4 hA bB hb50
 go_upto_region 4 with (refine wpList_store_mid rfl 52 _ _ rfl w5.heap.size 0 (k2.cells c2).toArray rfl rfl hth (by kernel_rfl) one2 ?_; simp only [Act.put]; generalize hW : World.setCells _ w5.heap.size 0 _ = w6; have HW := Lib.hid hW; clear hW)
 have hg9 := setCells_grown w5.heap.size (k2.cells c2) 0 (w5.alloc (.cells #[.int .i64 0,.int .i64 0,.int .i64 0,.int .u16 0,.int .u16 0,.int .u16 0,.slice none 0 0,.int .i64 0,.slice none 0 0,.bool false,.int .i64 0,.int .i64 0,.int .u16 0,.int .u16 0,.int .u64 0,.int .u64 0,.int .i64 0,.int .i64 0,.int .i64 0,.bool false,.slice none 0 0,.slice none 0 0,.bool false,.int .i64 0,.bool false,.slice none 0 0] 52))
 rw [show World.setCells _ w5.heap.size 0 (k2.cells c2) = w6 from HW.out] at hg9
 have hA2 : Below w5.heap.size w5 w6 := ((Below.refl w5.heap.size w5).alloc (Nat.le_refl _) _).grown hg9 (by simp) (fun k hk => by cases hk; exact Nat.le_refl _)
 have hc0 := hc0.below hA2
 have bX1 := bX1.below hA2
 have hl1 := hl1.below hA2
 have hg2 := hg2.below hA2
 have hB6 := hB5'.trans (hA2.mono hB5'.size)
 clear hth HW hg9 hA2 hB5' bX6 hc2 one2 hc1 bX3
 obtain ⟨b1,o1,d1,av1,iv1,rfl,hr1,-⟩ := ps_one (show PsV w6 l1 [exP1] from hl1)
 obtain ⟨bg,og,dg,avg,ivg,rfl,hrg2,hvg⟩ := rs_one hg2
 obtain ⟨ag,cg,rfl⟩ := hvg.form
 have z1 := range_lt hr1 rfl
 have z2 := range_lt hrg2 rfl
 have z3 : ∃ b,(Value.slice ag 1 cg).ownBlock = some b ∧ b < w6.heap.size := by
  rcases hvg.sr.lies with h | h
  ·simp at h
  ·exact h
 have HL := Lib.hid (And.intro hc0 (And.intro hr1 (And.intro hrg2 (And.intro hvg hB6))))
 have HZ := Lib.hid (And.intro z1 (And.intro z2 (And.intro z3 hB6.size)))
 clear hc0 hl1 hg2 hB6 one1 one0 hr1 hrg2 hvg z1 z2 z3
 go_cut [9,10,11] (fun xv yv zv wx => ∃ (X9 : Nat) (k : Cv) (b o c a2 c2 : Nat) (a1 : Option Addr) (iv : Value),xv = .pointer (some ⟨X9,0,none⟩) ∧ yv = .slice (some ⟨b,o,none⟩) 1 c ∧ zv = .int .i64 0 ∧ Blk wx X9 52 (k.cells exC7) ∧ ClV wx (.agg (k.cells exC7).toArray) exC7 ∧ wx.rangeAt b o (pdc exP7 (.slice a1 18 c2) iv) ∧ b ≠ X9 ∧ w6.heap.size ≤ X9 ∧ Below w6.heap.size w6 wx)
 case first =>
  have bX1 := bX1.below (Below.refl _ w6).drew
  have hc0 := HL.out.1.below (Below.refl _ w6).drew
  have hBd := Below.refl w6.drew.heap.size w6.drew
  have hB0 := (Below.refl w6.heap.size w6).drew
  clear HL
  have hr0 := bX1.range 0 (k0.cells (cN 100)) (fun j v hv => by rw [Nat.zero_add]; exact hv)
  refine wp_region_held_drew (S := (fun W' : World => W'.rangeAt X1 0 (k0.cells (cN 100)))) (by kernel_rfl) (range_keep hr0 hBd) (fun hHeld => ?_)
  generalize World.drew _ = wd at hHeld bX1 hc0 hr0 hB0 hBd ⊢
  repeat' first
   |refine tkN 0 52 X1 0 (k0.cells (cN 100)) (fun _ h => h) Tryz.underlying52 ?_
   |refine tkU 2 ?_
   |refine tkU 4 ?_
   |refine tkU 5 ?_
   |refine tkU 6 ?_
   |refine tkU 7 ?_
   |refine tkU 10 ?_
   |refine tkU 11 ?_
   |(refine opn 1 fun K hK => ?_
     go_simp
     rw [mk30]
     go_simp
     generalize hX : World.alloc _ (.cells _ 5) = w7
     obtain ⟨hnb,hBx,-⟩ := alloc_named hX
     have bM : Blk w7 _ 5 (bcells (List.replicate 30 0)) := hnb
     try have b9 := b9.below hBx
     have hBd := hBd.trans (hBx.mono hBd.size)
     clear hX hBx hnb
     refine hK.out _ _ (range_keep hr0 hBd) (fun h => ?_)
     replace hHeld := h
     clear hK K h
     try simp only [Act.put,List.setIfInBounds_toArray,List.set_cons_zero,List.set_cons_succ])
   |(refine opn 3 fun K hK => ?_
     go_simp
     go_at_call 20
     refine (start_any (cN 100) (.agg (k0.cells (cN 100)).toArray) exT7 _ (.slice none 0 0) 5 _ (hc0.below hBd) (ok_N 100) (bv_blk bM (by decide) (by decide)) ⟨none,0,0,rfl⟩ (by decide) (by decide)).mono ?_
     rintro e w8 ⟨v7,l7,rfl,⟨hc7,-⟩,⟨hl7,-⟩,hB8⟩
     rw [exS7] at hc7 hl7 ⊢
     obtain ⟨k7,rfl,one7⟩ := hc7.kv
     obtain ⟨b7,o7,c7,av7,iv7,rfl,hr7,hv7⟩ := ps_one (show PsV w8 l7 [exP7] from hl7)
     obtain ⟨a1,c17,rfl⟩ := hv7.form
     try have hn7 : _ ≠ _ := range_ne hr7 (b9.below hB8) czl_no22
     try have b9 := b9.below hB8
     have hBd := hBd.trans (hB8.mono hBd.size)
     clear hB8 hl7 hv7
     refine hK.out _ _ (range_keep hr0 hBd) (fun h => ?_)
     replace hHeld := h
     clear hK K h
     try simp only [Act.put,List.setIfInBounds_toArray,List.set_cons_zero,List.set_cons_succ])
   |(refine opn 8 fun K hK => ?_
     go_simp
     have h9 := hBd.size
     generalize hX : World.alloc _ (.cells _ 52) = w9
     obtain ⟨hnb,hBx,-⟩ := alloc_named hX
     have b9 : Blk w9 _ 52 czl := hnb
     try have bM := bM.below hBx
     try have hn7 : _ ≠ _ := range_ne (range_keep hr7 hBx) b9 czl_no22
     try have hc7 := hc7.below hBx
     try have hr7 := range_keep hr7 hBx
     have hBd := hBd.trans (hBx.mono hBd.size)
     clear hX hBx hnb
     refine hK.out _ _ (range_keep hr0 hBd) (fun h => ?_)
     replace hHeld := h
     clear hK K h
     try simp only [Act.put,List.setIfInBounds_toArray,List.set_cons_zero,List.set_cons_succ])
   |(refine opn 9 fun K hK => ?_
     refine step_store_mid (by rfl) 52 _ _ (by rfl) _ 0 (k7.cells exC7).toArray (by rfl) (by rfl) (b9.there 0 26 (by simp [czl])) (by kernel_rfl) one7 ?_
     generalize hX : World.setCells _ _ 0 _ = w10
     obtain ⟨hg10,bN⟩ := put_namedB (vs := k7.cells exC7) b9 hX rfl
     have hc7 := hc7.notz rfl b9 hg10
     have hr7 := range_put hr7 hn7 hg10
     have hBd := hBd.grown hg10 hBd.size (fun k hk => by cases hk; exact h9)
     clear hX hg10 b9
     refine hK.out _ _ (range_keep hr0 hBd) (fun h => ?_)
     replace hHeld := h
     clear hK K h
     try simp only [Act.put,List.setIfInBounds_toArray,List.set_cons_zero,List.set_cons_succ])
   |refine rd2 1 8 ?_ ?_
   |refine rd2 3 8 ?_ ?_
   |refine rd1 8 ?_
   |refine rd1 9 ?_
   |refine rd1 3 ?_
   |refine rd1 1 ?_
   |(refine wpAnyH_done (by kernel_rfl) ?_ _
     go_wp2_with fail
     go_meet
     exact ⟨_,k7,_,_,_,0,_,a1,_,rfl,rfl,rfl,bN,hc7,hr7,hn7,Nat.le_trans hB0.size h9,hB0.trans (hBd.mono hB0.size)⟩)
 case rest =>
  obtain ⟨X9,k9,b7,o7,c7,a17,c17,a1,iv7,rfl,rfl,rfl,bX9,hc9,hr7,hn7,hX9,hBc⟩ := hcut
  obtain ⟨hc0,hr1,hrg2,hvg,hB6⟩ := HL.out
  have hc0 := hc0.below hBc
  have hr1 := range_keep hr1 hBc
  have hrg2 := range_keep hrg2 hBc
  have hvg := hvg.below hBc
  have bX1 := bX1.below hBc
  obtain ⟨z1,z2,⟨zb,z3,z4⟩,z5⟩ := HZ.out
  have HX : RowKit.Hid (b1 ≠ X9 ∧ bg ≠ X9 ∧ (Value.slice ag 1 cg).ownBlock ≠ some X9 ∧ w.heap.size ≤ X9) := Lib.hid ⟨by omega,by omega,fun e => by rw [z3] at e; injection e with e; omega,by omega⟩
  clear HZ z1 z2 z3 z4 z5
  have hB7 := hB6.trans (hBc.mono hB6.size)
  have hrg := bX1.range 0 (k0.cells (cN 100)) (fun j v hv => by rw [Nat.zero_add]; exact hv)
  have HR := Lib.hid (And.intro hr1 (And.intro hrg2 (And.intro hvg (And.intro hr7 (And.intro hn7 (And.intro hX9 (And.intro bX9 (And.intro hc9 hB7))))))))
  clear hr1 hrg2 hvg hr7 hn7 hX9 bX9 hc9 hB7 hB6 HL bX1 hBc
  go_wp2_with (refine wpList_load_mid rfl 52 _ rfl X1 0 rfl (k0.cells (cN 100)) _ hrg Tryz.underlying52 rfl (by kernel_rfl) ?_)
  refine (start_any (cN 100) (.agg (k0.cells (cN 100)).toArray) tk0 (.slice none 0 0) (.slice none 0 0) 5 wc hc0 (ok_N 100) (BV.nil wc) ⟨none,0,0,rfl⟩ (by decide) (by decide)).mono ?_
  rintro e w8 ⟨v8,l8,rfl,⟨hc8,-⟩,-,hB8⟩
  rw [exS0] at hc8 ⊢
  obtain ⟨k8,rfl,one8⟩ := hc8.kv
  have bX8 := Blk.new w8 52 [.int .i64 0,.int .i64 0,.int .i64 0,.int .u16 0,.int .u16 0,.int .u16 0,.slice none 0 0,.int .i64 0,.slice none 0 0,.bool false,.int .i64 0,.int .i64 0,.int .u16 0,.int .u16 0,.int .u64 0,.int .u64 0,.int .i64 0,.int .i64 0,.int .i64 0,.bool false,.slice none 0 0,.slice none 0 0,.bool false,.int .i64 0,.bool false,.slice none 0 0]
  have hth := bX8.there 0 26 (by simp)
  have HB8 := Lib.hid hB8
  clear hrg hc0 hB8 hc8
  go_upto_region 8 with (refine wpList_store_mid rfl 52 _ _ rfl w8.heap.size 0 (k8.cells (cN 100)).toArray rfl rfl hth (by kernel_rfl) one8 ?_; simp only [Act.put]; generalize hW : World.setCells _ w8.heap.size 0 _ = w9; have HW := Lib.hid hW; clear hW)
  have hg9 := setCells_grown w8.heap.size (k8.cells (cN 100)) 0 (w8.alloc (.cells #[.int .i64 0,.int .i64 0,.int .i64 0,.int .u16 0,.int .u16 0,.int .u16 0,.slice none 0 0,.int .i64 0,.slice none 0 0,.bool false,.int .i64 0,.int .i64 0,.int .u16 0,.int .u16 0,.int .u64 0,.int .u64 0,.int .i64 0,.int .i64 0,.int .i64 0,.bool false,.slice none 0 0,.slice none 0 0,.bool false,.int .i64 0,.bool false,.slice none 0 0] 52))
  rw [show World.setCells _ w8.heap.size 0 (k8.cells (cN 100)) = w9 from HW.out] at hg9
  have hA2 : Below w8.heap.size w8 w9 := ((Below.refl w8.heap.size w8).alloc (Nat.le_refl _) _).grown hg9 (by simp) (fun k hk => by cases hk; exact Nat.le_refl _)
  have hB9 := HB8.out.trans (hA2.mono HB8.out.size)
  obtain ⟨hr1,hrg2,hvg,hr7,hn7,hX9,bX9,hc9,hB7⟩ := HR.out
  have hr1 := range_keep hr1 hB9
  have hrg2 := range_keep hrg2 hB9
  have hvg := hvg.below hB9
  have hr7 := range_keep hr7 hB9
  have bX9 := bX9.below hB9
  have hc9 := hc9.below hB9
  have hB9w := hB7.trans (hB9.mono hB7.size)
  clear hth HW hg9 hA2 bX8 HB8 HR hB7 hB9 one8
  go_cut [15,16] (fun xv yv wx => ∃ (k : Cv) (c : Cl) (b o d a2 : Nat) (a3 : Option Addr) (iv : Value),xv = .slice (some ⟨b,o,none⟩) 1 d ∧ Blk wx X9 52 (k.cells c) ∧ c.busy = true ∧ wx.rangeAt b o (pdc exP8 (.slice a3 12 a2) iv) ∧ wx.rangeAt b1 o1 (pdc exP1 av1 iv1) ∧ wx.rangeAt bg og [.int .i64 3,.int .i64 5,.int .u16 3,.slice ag 1 cg,ivg,.int .i64 0] ∧ BV wx (.slice ag 1 cg) [50] ∧ wx.rangeAt b7 o7 (pdc exP7 (.slice a1 18 c17) iv7) ∧ Below w.heap.size w wx)
  case first =>
   have hr1 := range_keep hr1 (Below.refl _ w9).drew
   have hrg2 := range_keep hrg2 (Below.refl _ w9).drew
   have hvg := hvg.below (Below.refl _ w9).drew
   have hr7 := range_keep hr7 (Below.refl _ w9).drew
   have bX9 := bX9.below (Below.refl _ w9).drew
   have hc9 := hc9.below (Below.refl _ w9).drew
   have hB9w := hB9w.drew
   have hBd := Below.refl w9.drew.heap.size w9.drew
   refine wp_region_held_drew (S := (fun W' : World => True)) (by kernel_rfl) (trivial) (fun hHeld => ?_)
   generalize World.drew _ = wd at hHeld hr1 hrg2 hvg hr7 bX9 hc9 hB9w hBd ⊢
   repeat' first
    |refine tkU 2 ?_
    |refine tkU 4 ?_
    |refine tkU 5 ?_
    |refine tkU 6 ?_
    |refine tkU 7 ?_
    |refine tkU 9 ?_
    |refine tkU 10 ?_
    |(refine opn 0 fun K hK => ?_
      refine step_load_mid (by rfl) 52 _ (by rfl) X9 0 (by rfl) (k9.cells exC7) _ ((bX9.below hBd).range 0 (k9.cells exC7) (fun j v hv => by rw [Nat.zero_add]; exact hv)) Tryz.underlying52 rfl (by kernel_rfl) ?_
      refine hK.out _ _ (trivial) (fun h => ?_)
      replace hHeld := h
      clear hK K h
      try simp only [Act.put,List.setIfInBounds_toArray,List.set_cons_zero,List.set_cons_succ])
    |(refine opn 1 fun K hK => ?_
      go_simp
      rw [mk18]
      go_simp
      generalize hX : World.alloc _ (.cells _ 5) = w10
      obtain ⟨hnb,hBx,-⟩ := alloc_named hX
      have bM : Blk w10 _ 5 (bcells (List.replicate 18 0)) := hnb
      have hBd := hBd.trans (hBx.mono hBd.size)
      clear hX hBx hnb
      refine hK.out _ _ (trivial) (fun h => ?_)
      replace hHeld := h
      clear hK K h
      try simp only [Act.put,List.setIfInBounds_toArray,List.set_cons_zero,List.set_cons_succ])
    |(refine opn 3 fun K hK => ?_
      go_simp
      go_at_call 21
      refine (hnd_any exC7 (.agg (k9.cells exC7).toArray) exA7 _ (.slice none 0 0) [] 6 _ (hc9.below hBd) ok_7 (bv_blk bM (by decide) (by decide)) (itb_nil _ _) (by decide) (by decide) (by decide) (fun _ _ h => by simp [exA7] at h)).mono ?_
      rintro e w11 ⟨v10,p10,g10,rfl,⟨hc10,-⟩,⟨hp10,-⟩,-,hB11⟩
      have hp10 : PsV w11 p10 [exP8] := by rw [← exH7.1]; exact hp10
      have hbz : (handleP exC7 exA7 (List.map (fun x : Im × Value => x.1) []) 6).c.busy = true := exH7.2
      obtain ⟨c10,hc10e⟩ : ∃ x,(handleP exC7 exA7 (List.map (fun x : Im × Value => x.1) []) 6).c = x := ⟨_,rfl⟩
      rw [hc10e] at hbz hc10
      clear hc10e
      obtain ⟨k10,rfl,one10⟩ := hc10.kv
      obtain ⟨b10,o10,d10,av10,iv10,rfl,hr10,hv10⟩ := ps_one hp10
      obtain ⟨a10,c11,rfl⟩ := hv10.form
      have hBd := hBd.trans (hB11.mono hBd.size)
      have hn10 : b10 ≠ X9 := fun e => by
       subst e
       have q1 := hr10 0 _ rfl
       have q2 := hr10 6 _ rfl
       rw [(bX9.below hBd).at?] at q1 q2
       exact no8 _ _ q1 q2
      clear hB11 hp10 hv10 hc10
      refine hK.out _ _ (trivial) (fun h => ?_)
      replace hHeld := h
      clear hK K h
      try simp only [Act.put,List.setIfInBounds_toArray,List.set_cons_zero,List.set_cons_succ])
    |(refine opn 8 fun K hK => ?_
      refine step_store_mid (by rfl) 52 _ _ (by rfl) X9 0 (k10.cells c10).toArray (by rfl) (by rfl) ((bX9.below hBd).there 0 26 (by simp [Cv.cells,clc,tkc,pdc])) (by kernel_rfl) one10 ?_
      generalize hX : World.setCells _ _ 0 _ = w12
      obtain ⟨hg12,bN⟩ := put_namedB (vs := k10.cells c10) (bX9.below hBd) hX (by simp [Cv.cells,clc,tkc,pdc])
      have hr10 := range_put hr10 hn10 hg12
      have hr7 := range_put (range_keep hr7 hBd) hn7 hg12
      have hrX := HX.out
      have hr1 := range_put (range_keep hr1 hBd) hrX.1 hg12
      have hrg2 := range_put (range_keep hrg2 hBd) hrX.2.1 hg12
      have hvg := (hvg.below hBd).grown hg12 hrX.2.2.1
      have hB9w := (hB9w.trans (hBd.mono hB9w.size)).grown hg12 (hB9w.trans (hBd.mono hB9w.size)).size (fun k hk => by cases hk; exact hrX.2.2.2)
      clear hX hg12 hrX
      refine hK.out _ _ (trivial) (fun h => ?_)
      replace hHeld := h
      clear hK K h
      try simp only [Act.put,List.setIfInBounds_toArray,List.set_cons_zero,List.set_cons_succ])
    |refine rd2 0 1 ?_ ?_
    |refine rd1 1 ?_
    |refine rd1 3 ?_
    |refine rd1 8 ?_
    |refine rd1 0 ?_
    |(refine wpAnyH_done (by kernel_rfl) ?_ _
      go_wp2_with fail
      go_meet
      exact ⟨k10,c10,_,_,_,_,_,_,rfl,bN,hbz,hr10,hr1,hrg2,hvg,hr7,hB9w⟩)
  case rest =>
   obtain ⟨k10,cc,b10,o10,d10,a12,a10,iv10,rfl,bX9,hbz,hr10,hr1,hrg2,hvg,hr7,hB10⟩ := hcut
   have m10 := hr1 0 _ rfl
   have m12 := hr1 2 _ rfl
   have n0 := hrg2 0 _ rfl
   have n2 := hrg2 2 _ rfl
   have n3 := hrg2 3 _ rfl
   have p0 := hr7 0 _ rfl
   have p9 := hr7 10 _ rfl
   have q0 := hr10 0 _ rfl
   have q5 := hr10 6 _ rfl
   have q9 := hr10 10 _ rfl
   have m22 : wc.cell? ⟨X9,22,none⟩ = some (.bool true) := by rw [bX9.at?,show (k10.cells cc)[22]? = some (.bool cc.busy) from rfl,hbz]
   simp only [exP1,exP7,exP8,pd0,Nat.add_zero] at m10 m12 n0 n2 n3 p0 p9 q0 q5 q9
   have HV := Lib.hid hvg
   have HB := Lib.hid hB10
   clear hr1 hrg2 hr7 hr10 hbz bX9 hvg hB10
   have hA := (Below.refl wc.heap.size wc).alloc (Nat.le_refl _) (.cells #[.int .u8 50] 5)
   have bB : Blk (wc.alloc (.cells #[.int .u8 50] 5)) wc.heap.size 5 (bcells [50]) := Blk.new wc 5 [.int .u8 50]
   have hsm := same_any (.slice ag 1 cg) (.slice (some ⟨wc.heap.size,0,none⟩) 1 1) [50] [50] _ (HV.out.below hA).at (bv_blk bB (by decide) (by decide)).at
   have HSM := Lib.hid hsm
   have HA := Lib.hid hA
   clear hsm hA bB
   go_wp2_with fail
   refine HSM.out.mono ?_
   rintro e w2 ⟨rfl,rfl⟩
   have p0 := kc p0 HA.out
   have p9 := kc p9 HA.out
   have q0 := kc q0 HA.out
   have q5 := kc q5 HA.out
   have q9 := kc q9 HA.out
   have m22 := kc m22 HA.out
   clear m10 m12 n0 n2 n3
   go_wp2
   go_ret
   exact ⟨rfl,HB.out.trans (HA.out.mono HB.out.size)⟩
end Go.Proofs.YtldcihjddebciaaGreat
