/- client: the plain law: the code's functions are the reference's. And what follows it. -/
import Derived.Test.YtldcihjddebciaaPCmO
import Derived.Test.YtldcihjddebciaaPCnQ
import Derived.Test.YtldcihjddebciaaPClX
import Derived.Test.YtldcihjddebciaaPUuE
set_option linter.unusedSimpArgs false
set_option linter.unusedVariables false
set_option maxRecDepth 100000
set_option maxHeartbeats 4000000
set_option linter.unusedSimpArgs false
namespace Go.Proofs.Ytldcihjddebciaa
open Go.RowKit
theorem gets_congr {g h : Im → Option Fd} : ∀ {l : List Im},(∀ i ∈ l,g i = h i) → gets g l = gets h l
 |[],_ => rfl
 |i :: l,e => by
  simp only [gets]
  rw [e i (by simp),gets_congr (fun j hj => e j (by simp [hj]))]
theorem lastI_dflt (d d' : Nat) (h : Im → Nat) {l : List Im} (hl : l ≠ []) : lastI d h l = lastI d' h l := by
 unfold lastI
 cases hq : l.getLast? with
 |none => exact absurd (List.getLast?_eq_none_iff.1 hq) hl
 |some i => rfl
theorem vnum2 (x y : Nat) : vnum [x,y] = y * 256 + x := by simp [vnum]
theorem chF_eq (i : Im) : charF i = if (chP i.bs).2.2.2.2 && ((chP i.bs).2.1 != 0) then some ⟨i.ha,0,(chP i.bs).2.1,(chP i.bs).1,(chP i.bs).2.2.1,(chP i.bs).2.2.2.1⟩ else none := by
 unfold charF chP
 match h : i.bs with
 |[] => simp
 |[_] => simp
 |[_,_] => simp
 |x0 :: x1 :: x2 :: r =>
  simp only [List.length_cons,show ¬ (r.length + 1 + 1 + 1 < 3) by omega,if_false,List.drop_succ_cons,List.drop_zero,List.take_succ_cons,List.take_zero,vnum2,List.getD_cons_zero]
  by_cases h1 : x2 * 256 + x1 = 0
  ·have : x1 = 0 ∧ x2 = 0 := by omega
   simp [this.1,this.2]
  ·by_cases h2 : (decR r).2.2 = 0
   ·have h3 : ((x2 * 256 + x1 : Nat) : Int) ≠ 0 := by omega
    simp [h2]
    rw [if_pos (by omega),if_neg (by omega)]
   ·simp [h2]
theorem listed_eq (c : Cl) (now : Int) (l : List Im) (kd : Int) (g : Im → Option Fd) (last last' stop stop' : Nat) (hg : gets g l = gets (rone c kd) l) (h1 : stop' = rstop c kd) (h2 : last' = rlastP kd l) (hl : last = last' ∧ stop = stop') (hle : ∀ fs,gets g l = some fs → last ≤ stop) :
 (sp0 c now).listed (gets g l) last stop = rlisted c kd l now := by
 obtain ⟨rfl,rfl⟩ := hl
 unfold rlisted
 rw [← hg]
 cases hq : gets g l with
 |none => rfl
 |some fs =>
  have hle := hle fs hq
  rw [h1,h2] at hle
  simp only [Sp.listed,h1,h2]
  by_cases he : rlastP kd l = rstop c kd
  ·rw [if_pos he,if_pos (by omega)]
   rfl
  ·rw [if_neg he,if_neg (by omega)]
   rfl
theorem one_17 {n : Nat} {c : Cl} (h : Inv n c) (hb : c.busy = true) (hk : c.ad.kd = 16) {i : Im} (hi : ImOk i) : svcF c.ad.ha i = rone c 17 i := by
 have hla := (h.rq hb).k16 hk
 have h1 := hi.ha
 unfold svcF rone elR
 by_cases h0 : i.ha < c.ad.ha
 ·rw [if_neg (fun hh => absurd hh.1 (by omega)),if_pos h0]
  rfl
 ·rw [if_neg h0,if_neg (show ¬ c.ad.la < i.ha by omega),if_neg (show ¬ (17 : Int) = 5 by decide),if_pos rfl]
  by_cases hd : (decR i.bs).2.2 = 0
  ·rw [if_pos ⟨by omega,hd⟩]
   simp [hd]
  ·rw [if_neg (fun hh => hd hh.2)]
   simp [hd]
theorem one_5 (c : Cl) (i : Im) : elF (fun i => some (descF i)) c.ad.ha c.ad.la i = rone c 5 i := by
 unfold elF rone elR
 by_cases h0 : i.ha < c.ad.ha
 ·rw [if_neg (fun hh => absurd hh.1 (by omega)),if_pos h0]
  rfl
 ·by_cases h1 : c.ad.la < i.ha
  ·rw [if_neg (fun hh => absurd hh.2 (by omega)),if_neg h0,if_pos h1]
   rfl
  ·rw [if_pos ⟨by omega,by omega⟩,if_neg h0,if_neg h1,if_pos rfl]
   rfl
theorem one_9 (c : Cl) (i : Im) : elF charF c.ad.ha c.ad.la i = rone c 9 i := by
 unfold elF rone elR
 by_cases h0 : i.ha < c.ad.ha
 ·rw [if_neg (fun hh => absurd hh.1 (by omega)),if_pos h0]
  rfl
 ·by_cases h1 : c.ad.la < i.ha
  ·rw [if_neg (fun hh => absurd hh.2 (by omega)),if_neg h0,if_pos h1]
   rfl
  ·rw [if_pos ⟨by omega,by omega⟩,if_neg h0,if_neg h1,if_neg (show ¬ (9 : Int) = 5 by decide),if_neg (show ¬ (9 : Int) = 17 by decide),chF_eq]
theorem ans_eq {n : Nat} {c : Cl} (h : Inv n c) (hb : c.busy = true) (now : Int) {p : Pd} {l : List Im} (hp : AnsOk p l) (hk : p.kd = ansI c.ad.kd) : (sp0 c now).answered p l = rans c p l now := by
 have hrq := h.rq hb
 rcases ans_kd h hb hk with ⟨e,k⟩ | ⟨e,k⟩ | ⟨e,k⟩ | ⟨e,k⟩ | ⟨e,k⟩ | ⟨e,k⟩ | ⟨e,k⟩ | ⟨e,k⟩ | ⟨e,k⟩
 ·simp [Sp.answered,rans,k,sp0]
 ·have hla := hrq.la (.inl e)
  have hne := hp.ne (.inr (.inl k))
  simp only [Sp.answered,rans,k,show ¬ ((5 : Int) = 3) by decide,show ¬ ((5 : Int) = 17) by decide,show ¬ ((5 : Int) = 9) by decide,if_false,if_true,or_true,true_or,false_or,true_and]
  unfold Sp.elements
  exact listed_eq c now l 5 _ _ _ _ _ (gets_congr fun i _ => one_5 c i) (by simp [rstop,sp0]) rfl ⟨(lastI_dflt _ 0 Im.ha hne).trans (by simp [rlastP]),rfl⟩ (fun fs hf => by
   have := last_le _ _ _ c.tk.la hf (by show c.tk.la ≤ c.ad.la; omega)
   show lastI c.tk.la Im.ha l ≤ c.tk.la
   have h2 : (sp0 c now).c.ad.la = c.ad.la := rfl
   omega)
 ·by_cases hn : c.tk.kd = 9
  ·simp [Sp.answered,rans,k,sp0,hn]
  ·have hla := hrq.la (.inr ⟨e,hn⟩)
   have hne := hp.ne (.inr (.inr k))
   have hn' : ¬ (sp0 c now).c.tk.kd = 9 := hn
   simp only [Sp.answered,rans,k,hn,hn',show ¬ ((9 : Int) = 3) by decide,show ¬ ((9 : Int) = 17) by decide,show ¬ ((9 : Int) = 5) by decide,if_false,if_true,or_true,true_or,false_or,true_and,not_false_eq_true]
   unfold Sp.elements
   exact listed_eq c now l 9 _ _ _ _ _ (gets_congr fun i _ => one_9 c i) (by simp [rstop,sp0]) rfl ⟨(lastI_dflt _ 0 Im.ha hne).trans (by simp [rlastP]),rfl⟩ (fun fs hf => by
    have := last_le _ _ _ c.tk.la hf (by show c.tk.la ≤ c.ad.la; omega)
    show lastI c.tk.la Im.ha l ≤ c.tk.la
    have h2 : (sp0 c now).c.ad.la = c.ad.la := rfl
    omega)
 ·simp [Sp.answered,rans,k,sp0]
 ·simp [Sp.answered,rans,k,sp0]
 ·have hne := hp.ne (.inl k)
  simp only [Sp.answered,rans,k,show ¬ ((17 : Int) = 3) by decide,if_false,if_true,true_or]
  unfold Sp.services
  exact listed_eq c now l 17 _ _ _ _ _ (gets_congr fun i hi => one_17 h hb e (hp.im i hi)) (by simp [rstop]) rfl ⟨(lastI_dflt _ 0 Im.la hne).trans (by simp [rlastP]),rfl⟩ (fun fs hf => lastI_lt 65535 Im.la 65535 (Nat.le_refl _) (fun i hi => by have := (hp.im i hi).la; omega))
 ·have hbad := hrq.bad e
  simp [Sp.answered,rans,k,sp0,hbad]
 ·simp [Sp.answered,rans,k,sp0]
 ·by_cases hb2 : c.tk.bad = true
  ·simp [Sp.answered,rans,k,sp0,hb2]
  ·simp [Sp.answered,rans,k,sp0,hb2]
theorem handle_eq {n : Nat} {c : Cl} (h : Inv n c) (now : Int) {p : Pd} {l : List Im} (hp : AnsOk p l) : rhandle c p l now = handleP c p l now := by
 unfold rhandle handleP
 by_cases hd : c.dead = true
 ·rw [if_pos hd,if_pos hd]
  rfl
 rw [if_neg hd,if_neg hd]
 by_cases h27 : p.kd = 27
 ·rw [if_pos h27,if_pos h27]
 rw [if_neg h27,if_neg h27]
 by_cases h29 : p.kd = 29
 ·rw [if_pos h29,if_pos h29]
 rw [if_neg h29,if_neg h29]
 by_cases h1 : c.busy = true ∧ p.kd = 1 ∧ p.ask = c.ad.kd
 ·rw [if_pos h1,if_pos h1]
  rfl
 rw [if_neg h1,if_neg h1]
 by_cases h2 : c.busy = true ∧ p.kd = ansI c.ad.kd
 ·rw [if_pos h2,if_pos h2]
  exact (ans_eq h h2.1 now hp h2.2).symm
 ·rw [if_neg h2,if_neg h2]
  rfl
theorem pro2c (w : World) (xs ys : List Value) (ta tb : TypeId) :
 Blk ((w.alloc (.cells xs.toArray ta)).alloc (.cells ys.toArray tb)) w.heap.size ta xs ∧ Blk ((w.alloc (.cells xs.toArray ta)).alloc (.cells ys.toArray tb)) (w.heap.size + 1) tb ys ∧ Below w.heap.size w ((w.alloc (.cells xs.toArray ta)).alloc (.cells ys.toArray tb)) := by
 have h1 : (w.alloc (.cells xs.toArray ta)).heap.size = w.heap.size + 1 := by simp
 have b1 := Blk.new (w.alloc (.cells xs.toArray ta)) tb ys
 rw [h1] at b1
 exact ⟨(Blk.new w ta xs).alloc _,b1,((Below.refl _ _).alloc (Nat.le_refl _) _).alloc (by simp) _⟩
theorem sameFound_any (l : List Fd) (v1 v2 : Value) (w : World) (h1 : SR w v1 l.length 6 (fcells l)) (h2 : SR w v2 l.length 6 (fcells l)) (hn : l.length ≤ 1000000) :
 Calls Try.prog 39 #[v1,v2] w fun e w' => e = .returned (.bool true) ∧ Below w.heap.size w w' := by
 obtain ⟨_,_,_,ao1,c1,rfl,_,H1⟩ := h1
 obtain ⟨_,_,_,ao2,c2,rfl,_,H2⟩ := h2
 obtain ⟨n,hnn⟩ : ∃ n,l.length = n := ⟨_,rfl⟩
 have HN := Lib.hid hnn
 have HH1 := Lib.hid H1
 have HH2 := Lib.hid H2
 rw [hnn] at hn ⊢
 clear hnn H1 H2
 go_enter Try.func39,Try.ntmps39
 go_wp2
 go_loopw [5] (fun vi wr => ∃ k : Nat,vi = .int .i64 k ∧ k ≤ n ∧ Below w.heap.size w wr) (fun vi _ => n - (intOf vi).toNat)
 case atStart => exact ⟨0,by go_num,Nat.zero_le _,Below.refl _ _⟩
 case round =>
  obtain ⟨k,rfl,hk,hB⟩ := hrel
  by_cases hlt : k < n
  ·have hkl : k < l.length := by rw [HN.out]; exact hlt
   obtain ⟨b1,o1,rfl,l1,x1⟩ := HH1.out (by omega)
   obtain ⟨b2,o2,rfl,l2,x2⟩ := HH2.out (by omega)
   have key : ∀ (b off : Nat),(∀ j u,(fcells l)[j]? = some u → w.cell? ⟨b,off + j,none⟩ = some u) → ∀ j,j < 6 → wr.cell? ⟨b,off + k * 6 + j,none⟩ = (fenc l[k])[j]? := fun b off hcell j hj => by
    have e : (fcells l)[k * 6 + j]? = (fenc l[k])[j]? := flat_get fenc 6 (fun _ => rfl) l k j hkl hj
    obtain ⟨u,hu⟩ : ∃ u,(fenc l[k])[j]? = some u := ⟨_,List.getElem?_eq_getElem (show j < (fenc l[k]).length from hj)⟩
    rw [hu] at e ⊢
    have := kc (hcell _ _ e) hB
    rwa [← Nat.add_assoc] at this
   have q1 := key b1 o1 x1
   have q2 := key b2 o2 x2
   obtain ⟨⟨a0,a1,a2,a3,a4,a5⟩,hx⟩ : ∃ x,l[k] = x := ⟨_,rfl⟩
   rw [hx] at q1 q2
   have T : Cells wr (blk b1 (o1 + k * 6) 0 [.int .u16 a0,.int .u16 a1,.int .u16 a2,.int .i64 a3,.int .u64 a4,.int .u64 a5] ++ blk b2 (o2 + k * 6) 0 [.int .u16 a0,.int .u16 a1,.int .u16 a2,.int .i64 a3,.int .u64 a4,.int .u64 a5]) :=
    (show Cells wr (blk b1 (o1 + k * 6) 0 [.int .u16 a0,.int .u16 a1,.int .u16 a2,.int .i64 a3,.int .u64 a4,.int .u64 a5]) from ⟨q1 0 (by decide),q1 1 (by decide),q1 2 (by decide),q1 3 (by decide),q1 4 (by decide),q1 5 (by decide),trivial⟩).app
    ⟨q2 0 (by decide),q2 1 (by decide),q2 2 (by decide),q2 3 (by decide),q2 4 (by decide),q2 5 (by decide),trivial⟩
   have i1 : (k : Int) < (n : Int) := by omega
   have g1 : decide (k < n) = true := by simpa using hlt
   have w1 : IntKind.i64.wrap ((k : Int) + 1) = (k : Int) + 1 := IntWalk.i64_in _ (by omega)
   have HBD := Lib.hid hB.drew
   clear x1 x2 key q1 q2 hx
   go_wp2_with fail
   refine wp_region_held_drew (S := (fun W' : World => Cells W' (blk b1 (o1 + k * 6) 0 [.int .u16 a0,.int .u16 a1,.int .u16 a2,.int .i64 a3,.int .u64 a4,.int .u64 a5] ++ blk b2 (o2 + k * 6) 0 [.int .u16 a0,.int .u16 a1,.int .u16 a2,.int .i64 a3,.int .u64 a4,.int .u64 a5]))) (by kernel_rfl) (T.drew) (fun hHeld => ?_)
   refine tkU 0 ?_
   refine tkU 1 ?_
   refine tkU 2 ?_
   refine tkU 3 ?_
   refine tkU 4 ?_
   refine tkU 5 ?_
   refine tkU 6 ?_
   refine tkU 7 ?_
   refine tkU 8 ?_
   refine wpAnyH_done (by kernel_rfl) ?_ _
   go_wp2
   refine ⟨⟨k + 1,by simp,hlt,HBD.out⟩,?_⟩
   simp [intOf]
   omega
  ·have g1 : decide (k < n) = false := by simpa using hlt
   go_wp2
   go_ret
   exact ⟨rfl,hB⟩
theorem sameItems0 (a1 a2 : Option Addr) (d1 d2 : Nat) (w : World) : Calls Try.prog 41 #[.slice a1 0 d1,.slice a2 0 d2] w fun e w' => e = .returned (.bool true) ∧ w = w' := by
 go_enter Try.func41,Try.ntmps41
 go_wp2
 go_loopw [5] (fun vi wr => vi = .int .i64 0 ∧ w = wr) (fun _ _ => 0)
 case atStart => exact ⟨rfl,rfl⟩
 case round =>
  obtain ⟨rfl,rfl⟩ := hrel
  go_wp2
  go_ret
  exact ⟨rfl,rfl⟩
theorem samePDU_eq (p : Pd) (bv1 bv2 iv1 iv2 : Value) (w : World) (h1 : BV w bv1 p.vs) (h2 : BV w bv2 p.vs) (i1 : SR w iv1 0 5 []) (i2 : SR w iv2 0 5 []) :
 Calls Try.prog 23 #[.agg (pdc p bv1 iv1).toArray,.agg (pdc p bv2 iv2).toArray] w fun e w' => e = .returned (.bool true) ∧ Below w.heap.size w w' := by
 obtain ⟨a,c1,rfl⟩ := h1.form
 obtain ⟨b,c2,rfl⟩ := h2.form
 obtain ⟨ia,ic,rfl⟩ := i1.form
 obtain ⟨ib,id,rfl⟩ := i2.form
 obtain ⟨n,hn⟩ : ∃ n,p.vs.length = n := ⟨_,rfl⟩
 rw [hn] at h1 h2 ⊢
 have hsm := fun W (hW : Below w.heap.size w W) => same_any _ _ p.vs p.vs W (h1.below hW).at (h2.below hW).at
 have HSM := Lib.hid hsm
 obtain ⟨bA,bB,hB⟩ := pro2c w (pdc p (.slice a n c1) (.slice ia 0 ic)) (pdc p (.slice b n c2) (.slice ib 0 id)) 32 32
 clear h1 h2 i1 i2 hsm hn
 go_enter Try.func23,Try.ntmps23
 go_upto_region 1 with fail
 generalize World.alloc (World.alloc w _) _ = V at bA bB hB ⊢
 have TA : Cells V (blk w.heap.size 0 0 [.int .i64 p.kd,.int .i64 p.ask,.int .u16 p.ha,.int .u16 p.la,.int .u64 p.hi,.int .u64 p.lo,.int .i64 p.of,.int .i64 p.mt,.int .i64 p.co,.bool p.cm,.slice a n c1,.slice ia 0 ic]) := bA.cells
 have TB : Cells V (blk (w.heap.size + 1) 0 0 [.int .i64 p.kd,.int .i64 p.ask,.int .u16 p.ha,.int .u16 p.la,.int .u64 p.hi,.int .u64 p.lo,.int .i64 p.of,.int .i64 p.mt,.int .i64 p.co,.bool p.cm,.slice b n c2,.slice ib 0 id]) := bB.cells
 have T := TA.app TB
 clear TA TB bA bB
 have hOpen := T
 simp only [Cells,blk,List.cons_append,List.nil_append,and_true,Nat.reduceAdd,Nat.add_zero,Nat.zero_add] at hOpen
 obtain ⟨x0,x1,x2,x3,x4,x5,x6,x7,x8,x9,xA,xB,y0,y1,y2,y3,y4,y5,y6,y7,y8,y9,yA,yB⟩ := hOpen
 clear T
 go_wp2_with fail
 refine (HSM.out _ hB).mono ?_
 rintro e w2 ⟨rfl,rfl⟩
 go_wp2_with fail
 refine (sameItems0 ia ib ic id _).mono ?_
 rintro e w3 ⟨rfl,rfl⟩
 go_wp2
 go_ret
 exact ⟨rfl,hB⟩
theorem sameTask_eq (t : Tk) (bv1 bv2 fv1 fv2 : Value) (w : World) (h1 : BV w bv1 t.vs) (h2 : BV w bv2 t.vs) (i1 : FdV w fv1 t.fo) (i2 : FdV w fv2 t.fo) (hm : t.fo.length ≤ 1000000) :
 Calls Try.prog 22 #[.agg (tkc t bv1 fv1).toArray,.agg (tkc t bv2 fv2).toArray] w fun e w' => e = .returned (.bool true) ∧ Below w.heap.size w w' := by
 have hsf := fun W (hW : Below w.heap.size w W) => sameFound_any t.fo fv1 fv2 W (i1.below hW) (i2.below hW) hm
 obtain ⟨a,c1,rfl⟩ := h1.form
 obtain ⟨b,c2,rfl⟩ := h2.form
 obtain ⟨fa,d1,rfl⟩ := i1.form
 obtain ⟨fb,d2,rfl⟩ := i2.form
 obtain ⟨n,hn⟩ : ∃ n,t.vs.length = n := ⟨_,rfl⟩
 obtain ⟨m,hmm⟩ : ∃ n,t.fo.length = n := ⟨_,rfl⟩
 rw [hn] at h1 h2 ⊢
 rw [hmm] at hsf ⊢
 have hsm := fun W (hW : Below w.heap.size w W) => same_any _ _ t.vs t.vs W (h1.below hW).at (h2.below hW).at
 have HSM := Lib.hid hsm
 have HSF := Lib.hid hsf
 obtain ⟨bA,bB,hB⟩ := pro2c w (tkc t (.slice a n c1) (.slice fa m d1)) (tkc t (.slice b n c2) (.slice fb m d2)) 26 26
 clear h1 h2 i1 i2 hsm hn hsf hmm hm
 go_enter Try.func22,Try.ntmps22
 go_upto_region 1 with fail
 generalize World.alloc (World.alloc w _) _ = V at bA bB hB ⊢
 have TA : Cells V (blk w.heap.size 0 0 [.int .i64 t.kd,.int .u16 t.fi,.int .u16 t.la,.int .u16 t.ha,.slice a n c1,.int .i64 t.of,.slice fa m d1,.bool t.bad]) := bA.cells
 have TB : Cells V (blk (w.heap.size + 1) 0 0 [.int .i64 t.kd,.int .u16 t.fi,.int .u16 t.la,.int .u16 t.ha,.slice b n c2,.int .i64 t.of,.slice fb m d2,.bool t.bad]) := bB.cells
 have T := TA.app TB
 clear TA TB bA bB
 have hOpen := T
 simp only [Cells,blk,List.cons_append,List.nil_append,and_true,Nat.reduceAdd,Nat.add_zero,Nat.zero_add] at hOpen
 obtain ⟨x0,x1,x2,x3,x4,x5,x6,x7,y0,y1,y2,y3,y4,y5,y6,y7⟩ := hOpen
 clear T
 go_wp2_with fail
 refine (HSM.out _ hB).mono ?_
 rintro e w2 ⟨rfl,rfl⟩
 go_wp2_with fail
 refine (HSF.out _ hB).mono ?_
 rintro e w3 ⟨rfl,hB3⟩
 clear x0 x1 x2 x3 x4 x5 x6 x7 y0 y1 y2 y3 y4 y5 y6 y7
 go_wp2
 go_ret
 exact ⟨rfl,hB.trans (hB3.mono hB.size)⟩
end Go.Proofs.Ytldcihjddebciaa
