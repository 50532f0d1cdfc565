/- client: the reference's Check of a PDU (cut from the attpdu seat's walks). And what follows it. -/
import Derived.Test.YtldcihjddebciaaPCkU
import Derived.Test.YtldcihjddebciaaPClA
set_option linter.unusedSimpArgs false
set_option linter.unusedVariables false
set_option maxRecDepth 100000
set_option maxHeartbeats 4000000
namespace Go.Proofs.Ytldcihjddebciaa
open Go.RowKit
theorem rcheckItem_any (ki : Int) (its : List It) (b off m d : Nat) (w : World) (hits : Items w (.slice (some ⟨b,off,none⟩) m d) m its) (hm : m ≤ 1000) (hbn : ∀ t ∈ its,t.n ≤ BIGN) (k : Nat) (hk : k < m) (t t0 tp : It) (ht : its[k]? = some t) (h0 : its[0]? = some t0) (hp : 0 < k → its[k - 1]? = some tp) :
 Calls Try.prog 62 #[.int .i64 ki,.slice (some ⟨b,off,none⟩) m d,.int .i64 k] w fun e w' => e = .returned (.int .i64 (chkIt ki (lastOf k tp) (sizeI ki t0.hi t0.lo t0.n) t)) ∧ Below w.heap.size w w' := by
 by_cases h5 : ki = 5
 ·subst h5
  exact rcheckItem_5 its b off m d w hits hm hbn k hk t t0 tp ht h0 hp
 by_cases h17 : ki = 17
 ·subst h17
  exact rcheckItem_17 its b off m d w hits hm hbn k hk t t0 tp ht h0 hp
 exact rcheckItem_other its b off m d w hits hm hbn k hk t t0 tp ht h0 hp ki h5 h17
/-- the element before -/
def prevOf (its : List It) (k : Nat) : It := its.getD (k - 1) ⟨0,0,0,0,none,0,0,[]⟩
theorem prevOf_get (its : List It) (k : Nat) (hk : k < its.length) : 0 < k → its[k - 1]? = some (prevOf its k) := fun h => by
 have : k - 1 < its.length := by omega
 unfold prevOf
 rw [List.getD_eq_getElem?_getD,List.getElem?_eq_getElem this]
 rfl
theorem last_succ (its : List It) (k : Nat) (t : It) (ht : its[k]? = some t) : lastOf (k + 1) (prevOf its (k + 1)) = max t.ha t.la := by
 unfold lastOf prevOf
 rw [if_neg (by omega),Nat.add_sub_cancel,List.getD_eq_getElem?_getD,ht]
 rfl
theorem rcheckList_any (ki ak : Int) (ha la hi lo : Nat) (of mt co : Int) (cm : Bool) (a1 a2 : Option Addr) (n c m d : Nat) (its : List It) (w : World) (hits : Items w (.slice a2 m d) m its) (hm : m ≤ 1000) (hbn : ∀ t ∈ its,t.n ≤ BIGN) :
 Calls Try.prog 30 #[.agg #[.int .i64 ki,.int .i64 ak,.int .u16 ha,.int .u16 la,.int .u64 hi,.int .u64 lo,.int .i64 of,.int .i64 mt,.int .i64 co,.bool cm,.slice a1 n c,.slice a2 m d]] w fun e w' => e = .returned (.int .i64 (chkL ki its)) ∧ Below w.heap.size w w' := by
 have hB : Below w.heap.size w (w.alloc (.cells #[.int .i64 ki,.int .i64 ak,.int .u16 ha,.int .u16 la,.int .u64 hi,.int .u64 lo,.int .i64 of,.int .i64 mt,.int .i64 co,.bool cm,.slice a1 n c,.slice a2 m d] 32)) := (Below.refl _ _).alloc (Nat.le_refl _) _
 have T0 := cells_new w [.int .i64 ki,.int .i64 ak,.int .u16 ha,.int .u16 la,.int .u64 hi,.int .u64 lo,.int .i64 of,.int .i64 mt,.int .i64 co,.bool cm,.slice a1 n c,.slice a2 m d] 32
 cases its with
 |nil =>
  obtain rfl : 0 = m := hits.1
  go_enter Try.func30,Try.ntmps30
  go_wp2
  go_ret
  exact ⟨rfl,hB⟩
 |cons t0 rest =>
  have hits' := hits
  obtain ⟨hlen,hsr,hok⟩ := hits
  obtain ⟨_,_,_,ao,cap,e0,_,hcell⟩ := hsr
  cases e0
  have hm0 : 0 < m := by rw [← hlen]; simp
  obtain ⟨b,off,rfl,hb,hc⟩ := hcell hm0
  obtain ⟨its,hi'⟩ : ∃ its,t0 :: rest = its := ⟨_,rfl⟩
  have hchk : chkL ki (t0 :: rest) = if chkIts ki 0 (sizeI ki t0.hi t0.lo t0.n) its = 0 then (if sizeI ki t0.hi t0.lo t0.n ≤ 255 ∧ m ≤ 515 / sizeI ki t0.hi t0.lo t0.n then 0 else 4) else chkIts ki 0 (sizeI ki t0.hi t0.lo t0.n) its := by
   rw [← hi',← hlen,chkL]
  rw [hchk]
  have hg0 : its[0]? = some t0 := by rw [← hi']; rfl
  clear hchk
  rw [hi'] at hlen hok hc hbn hits'
  have c0 : Cells w (blk b off 0 (itc t0)) := by
   have h0l : 0 < its.length := by rw [hlen]; exact hm0
   have h00 : its[0] = t0 := by
    rw [List.getElem?_eq_getElem h0l] at hg0
    exact Option.some.inj hg0
   have hh := fun i (hi5 : i < 5) => itc_get its 0 i h0l hi5
   rw [h00] at hh
   simp only [Nat.zero_mul,Nat.zero_add] at hh
   refine ⟨?_,?_,?_,?_,?_,trivial⟩
   all_goals
    refine hc _ _ ?_
    rw [hh _ (by decide)]
    rfl
  have hci := fun W (hW : Below w.heap.size w W) k hk t ht => rcheckItem_any ki its b off m d W (hits'.below hW) hm hbn k hk t t0 (prevOf its k) ht hg0 (prevOf_get its k (by rw [hlen]; exact hk))
  have hi0 := fun W (hW : Below w.heap.size w W) => ritem_any ki t0 W ((hok t0 (List.mem_of_getElem? hg0)).below hW) (hbn t0 (List.mem_of_getElem? hg0))
  have hl0 := itB_len ki t0 (hok t0 (List.mem_of_getElem? hg0)).2.2.2.2.1
  have hb0 := hbn t0 (List.mem_of_getElem? hg0)
  have hL2 := sizeI_lo ki t0.hi t0.lo t0.n
  have hLb := sizeI_hi ki t0.hi t0.lo t0.n
  obtain ⟨xa,xl,xh,xo,aa,an,ac,abs⟩ := t0
  simp only [itc] at c0 hci hi0 hl0 hL2 hLb hb0 ⊢
  obtain ⟨L,hL⟩ : ∃ L,sizeI ki xh xo an = L := ⟨_,rfl⟩
  simp only [hL] at hci hl0 hL2 hLb ⊢
  obtain ⟨R,hR⟩ : ∃ R,chkIts ki 0 L its = R := ⟨_,rfl⟩
  rw [hR]
  obtain ⟨RES,hRES⟩ : ∃ X,X = (if R = 0 then (if L ≤ 255 ∧ m ≤ 515 / L then (0 : Int) else 4) else R) := ⟨_,rfl⟩
  rw [← hRES]
  have HRES := Lib.hid hRES
  have HCI := Lib.hid hci
  have HI0 := Lib.hid hi0
  have HL0 := Lib.hid hl0
  have HLEN := Lib.hid hlen
  have HR := Lib.hid hR
  have hbw : b < w.heap.size := hb
  have tm0 : ((m : Int) == 0) = false := by simp; omega
  clear hi' hg0 hlen hok hc hbn hL hR hcell hb hRES hci hi0 hl0 hits' hb0 hLb
  go_enter Try.func30,Try.ntmps30
  go_upto_region 1 with fail
  generalize hV : World.alloc _ _ = V at T0 hB ⊢
  have hVs : w.heap.size < V.heap.size := by rw [← hV]; simp
  clear hV
  have HTV := Lib.hid (T0.app (c0.keep hB))
  have HB := Lib.hid hB
  have hOpen := T0
  simp only [Cells,blk,List.cons_append,List.nil_append,and_true,Nat.reduceAdd,Nat.add_zero,Nat.zero_add] at hOpen
  obtain ⟨y0,y1,y2,y3,y4,y5,y6,y7,y8,y9,yA,yB⟩ := hOpen
  clear T0 c0 hB
  go_wp2
  clear y0 y1 y2 y3 y4 y5 y6 y7 y8 y9 yA yB
  go_loopw [3,4] (fun i _ wr => ∃ k : Nat,i = .int .i64 k ∧ k ≤ m ∧ Hid (R = chkIts ki (lastOf k (prevOf its k)) L (its.drop k)) ∧ Below V.heap.size V wr) (fun i _ _ => m - (intOf i).toNat)
  case atStart => exact ⟨0,by simp,Nat.zero_le _,Lib.hid HR.out.symm,Below.refl _ _⟩
  case round =>
   obtain ⟨k,rfl,hk,hst,hBr⟩ := hrel
   have w1 : IntKind.i64.wrap ((k : Int) + 1) = (k : Int) + 1 := IntWalk.i64_in _ (by omega)
   have hBw := HB.out.trans (hBr.mono HB.out.size)
   have HTR := Lib.hid (HTV.out.keep hBr)
   have TR := HTR.out
   have hOpen := TR
   simp only [Cells,blk,List.cons_append,List.nil_append,and_true,Nat.reduceAdd,Nat.add_zero,Nat.zero_add] at hOpen
   obtain ⟨y0,y1,y2,y3,y4,y5,y6,y7,y8,y9,yA,yB,x0,x1,x2,x3,x4⟩ := hOpen
   clear TR
   by_cases hlt : k < m
   ·have g1 : decide (k < m) = true := by simpa using hlt
    have hkl : k < its.length := by rw [HLEN.out]; exact hlt
    have hstp := chkIts_step ki (lastOf k (prevOf its k)) L its k hkl
    have hcall := HCI.out wr hBw k hlt its[k] (List.getElem?_eq_getElem hkl)
    have hls := last_succ its k its[k] (List.getElem?_eq_getElem hkl)
    obtain ⟨E,hE⟩ : ∃ E,chkIt ki (lastOf k (prevOf its k)) L its[k] = E := ⟨_,rfl⟩
    rw [hE] at hstp hcall
    have HST := Lib.hid (hst.out.trans hstp)
    have HLS := Lib.hid hls
    have HCALL := Lib.hid hcall
    have HBr := Lib.hid hBr
    clear hst hstp hcall hE hls hBr hBw
    go_wp2_with fail
    refine HCALL.out.mono ?_
    rintro e w2 ⟨rfl,hB2⟩
    have hBr2 := HBr.out.trans (hB2.mono HBr.out.size)
    clear hB2 y0 y1 y2 y3 y4 y5 y6 y7 y8 y9 yA yB x0 x1 x2 x3 x4
    by_cases hE0 : E = 0
    ·subst hE0
     have hR' : R = chkIts ki (lastOf (k + 1) (prevOf its (k + 1))) L (its.drop (k + 1)) := by rw [HLS.out]; have := HST.out; rwa [if_pos rfl] at this
     have HR2 := Lib.hid hR'
     clear hR' HST
     go_wp2
     refine ⟨⟨k + 1,by simp,hlt,HR2,hBr2⟩,?_⟩
     simp [intOf]
     omega
    ·have hR' : R = E := by have := HST.out; rwa [if_neg hE0] at this
     have hfin : RES = E := by rw [HRES.out,hR',if_neg hE0]
     have t1 : (E != 0) = true := by simpa using hE0
     have HFIN := Lib.hid hfin
     clear hR' HST hfin hE0
     go_wp2
     go_ret
     exact ⟨ret_eq HFIN.out.symm,HB.out.trans (hBr2.mono HB.out.size)⟩
   ·have g1 : decide (k < m) = false := by simpa using hlt
    obtain rfl : m = k := by omega
    have hR0 : R = 0 := by rw [hst.out,List.drop_of_length_le (by rw [HLEN.out]; exact Nat.le_refl _)]; rfl
    have hfin : RES = if L ≤ 255 ∧ m * L ≤ 515 then (0 : Int) else 4 := by
     rw [HRES.out,hR0,if_pos rfl]
     simp only [Nat.le_div_iff_mul_le (show 0 < L by omega)]
    have hcall := fun W (hW : Below V.heap.size V W) => HI0.out W (HB.out.trans (hW.mono HB.out.size))
    have HCALL := Lib.hid hcall
    have HFIN := Lib.hid hfin
    have HBr := Lib.hid hBr
    clear hR0 hst hfin hcall hBr hBw
    go_upto_region 9 with fail
    refine wp_region_held_drew (S := (fun W' : World => Cells W' (blk w.heap.size 0 0 [.int .i64 ki,.int .i64 ak,.int .u16 ha,.int .u16 la,.int .u64 hi,.int .u64 lo,.int .i64 of,.int .i64 mt,.int .i64 co,.bool cm,.slice a1 n c,.slice (some ⟨b,off,none⟩) m d] ++ blk b off 0 [.int .u16 xa,.int .u16 xl,.int .u64 xh,.int .u64 xo,.slice aa an ac]))) (by kernel_rfl) (HTR.out.drew) (fun hHeld => ?_)
    refine tkU 0 ?_
    refine tkU 1 ?_
    refine tkU 2 ?_
    refine tkU 3 ?_
    refine tkU 4 ?_
    refine tkU 5 ?_
    refine rd1 6 fun K hK => ?_
    go_simp
    refine (HCALL.out _ HBr.out.drew).mono ?_
    rintro e w2 ⟨v,rfl,hv,hB2⟩
    have hBr2 := HBr.out.drew.trans (hB2.mono HBr.out.drew.size)
    obtain ⟨⟨_,_,_,ao1,cap1,rfl,_,_⟩,_⟩ := hv
    rw [HL0.out]
    have HT2 := Lib.hid (HTR.out.drew.keep hB2)
    clear hB2
    clear hHeld
    refine hK.out _ _ (HT2.out) (fun hHeld => ?_)
    clear hK K
    try simp only [Act.put,List.setIfInBounds_toArray,List.set_cons_zero,List.set_cons_succ]
    refine tkU 7 ?_
    refine tkU 8 ?_
    refine wpAnyH_done (by kernel_rfl) ?_ _
    clear y0 y1 y2 y3 y4 y5 y6 y7 y8 y9 yA yB x0 x1 x2 x3 x4 hHeld
    have TR := HT2.out
    have hOpen := TR
    simp only [Cells,blk,List.cons_append,List.nil_append,and_true,Nat.reduceAdd,Nat.add_zero,Nat.zero_add] at hOpen
    obtain ⟨y0,y1,y2,y3,y4,y5,y6,y7,y8,y9,yA,yB,x0,x1,x2,x3,x4⟩ := hOpen
    clear TR
    have hBF := Lib.hid (HB.out.trans (hBr2.mono HB.out.size))
    obtain ⟨Q,hQ⟩ : ∃ Q,m * L = Q := ⟨_,rfl⟩
    have hQ' : (L : Int) * (m : Int) = (Q : Int) := by rw [← hQ,Int.mul_comm]; simp
    have HQB := Lib.hid (show ¬ 255 < L → Q ≤ 1000 * 255 from fun h => by rw [← hQ]; exact Nat.mul_le_mul hm (by omega))
    rw [hQ] at HFIN
    clear hQ hBr2
    by_cases h255 : 255 < L
    ·have t1 : decide (255 < L) = true := by simpa using h255
     have t1' : decide ((255 : Int) < (L : Int)) = true := by simp; omega
     have hf : RES = 4 := by rw [HFIN.out,if_neg (by omega)]
     have HF := Lib.hid hf
     clear hf h255
     go_wp2
     go_ret
     exact ⟨ret_eq HF.out.symm,hBF.out⟩
    ·have t1 : decide (255 < L) = false := by simpa using h255
     have hQb := HQB.out h255
     have t1' : decide ((255 : Int) < (L : Int)) = false := by simp; omega
     by_cases h515 : 515 < Q
     ·have t2 : decide ((517 : Int) < 2 + (Q : Int)) = true := by simp; omega
      have hf : RES = 4 := by rw [HFIN.out,if_neg (by omega)]
      have HF := Lib.hid hf
      clear hf h255 h515
      go_wp2
      go_ret
      exact ⟨ret_eq HF.out.symm,hBF.out⟩
     ·have t2 : decide ((517 : Int) < 2 + (Q : Int)) = false := by simp; omega
      have hf : RES = 0 := by rw [HFIN.out,if_pos (by omega)]
      have HF := Lib.hid hf
      clear hf h255 h515
      go_wp2
      go_ret
      exact ⟨ret_eq HF.out.symm,hBF.out⟩
theorem fine_any (kd : Int) (fi la ha : Int) (bv : Value) (ofs : Int) (fv : Value) (bad : Bool) (w : World) : Calls Try.prog 49 #[.agg #[.int .i64 kd,.int .u16 fi,.int .u16 la,.int .u16 ha,bv,.int .i64 ofs,fv,.bool bad]] w fun e w' => e = .returned (.int .i64 0) ∧ Below w.heap.size w w' := by
 go_enter Try.func49,Try.ntmps49
 go_wp2
 go_ret
 exact ⟨rfl,(Below.refl _ _).alloc (Nat.le_refl _) _⟩
theorem handled_any (kd : Int) (fi la ha : Int) (bv : Value) (ofs : Int) (fv : Value) (bad : Bool) (w : World) : Calls Try.prog 54 #[.agg #[.int .i64 kd,.int .u16 fi,.int .u16 la,.int .u16 ha,bv,.int .i64 ofs,fv,.bool bad]] w fun e w' => e = .returned (.int .i64 (if ha = 0 then 5 else 0)) ∧ Below w.heap.size w w' := by
 by_cases h : ha = 0
 ·have g : (ha == 0) = true := by simpa using h
  rw [if_pos h]
  clear h
  go_enter Try.func54,Try.ntmps54
  go_wp2
  go_ret
  exact ⟨rfl,(Below.refl _ _).alloc (Nat.le_refl _) _⟩
 ·have g : (ha == 0) = false := by simpa using h
  rw [if_neg h]
  clear h
  go_enter Try.func54,Try.ntmps54
  go_wp2
  go_ret
  exact ⟨rfl,(Below.refl _ _).alloc (Nat.le_refl _) _⟩
theorem ranged_any (kd : Int) (fi la ha : Int) (bv : Value) (ofs : Int) (fv : Value) (bad : Bool) (w : World) : Calls Try.prog 52 #[.agg #[.int .i64 kd,.int .u16 fi,.int .u16 la,.int .u16 ha,bv,.int .i64 ofs,fv,.bool bad]] w fun e w' => e = .returned (.int .i64 (if fi = 0 then 5 else if la < fi then 13 else 0)) ∧ Below w.heap.size w w' := by
 by_cases h : fi = 0
 ·have g : (fi == 0) = true := by simpa using h
  rw [if_pos h]
  clear h
  go_enter Try.func52,Try.ntmps52
  go_wp2
  go_ret
  exact ⟨rfl,(Below.refl _ _).alloc (Nat.le_refl _) _⟩
 ·have g : (fi == 0) = false := by simpa using h
  rw [if_neg h]
  clear h
  by_cases h : la < fi
  ·have g2 : decide (la < fi) = true := by simpa using h
   rw [if_pos h]
   clear h
   go_enter Try.func52,Try.ntmps52
   go_wp2
   go_ret
   exact ⟨rfl,(Below.refl _ _).alloc (Nat.le_refl _) _⟩
  ·have g2 : decide (la < fi) = false := by simpa using h
   rw [if_neg h]
   clear h
   go_enter Try.func52,Try.ntmps52
   go_wp2
   go_ret
   exact ⟨rfl,(Below.refl _ _).alloc (Nat.le_refl _) _⟩
theorem short_task (kd : Int) (fi la ha : Int) (a : Option Addr) (L c : Nat) (ofs : Int) (fv : Value) (bad : Bool) (w : World) : Calls Try.prog 57 #[.agg #[.int .i64 kd,.int .u16 fi,.int .u16 la,.int .u16 ha,.slice a L c,.int .i64 ofs,fv,.bool bad]] w fun e w' => e = .returned (.int .i64 (if ha = 0 then 5 else if 512 < L then 4 else 0)) ∧ Below w.heap.size w w' := by
 have hb0 : Below w.heap.size w (w.alloc (.cells #[.int .i64 kd,.int .u16 fi,.int .u16 la,.int .u16 ha,.slice a L c,.int .i64 ofs,fv,.bool bad] 26)) := (Below.refl _ _).alloc (Nat.le_refl _) _
 have T := cells_new w [.int .i64 kd,.int .u16 fi,.int .u16 la,.int .u16 ha,.slice a L c,.int .i64 ofs,fv,.bool bad] 26
 have h1 := fun W => handled_any kd fi la ha (.slice a L c) ofs fv bad W
 by_cases h : ha = 0
 ·rw [if_pos h]
  simp only [if_pos h] at h1
  have H1 := Lib.hid h1
  clear h h1 T
  go_enter Try.func57,Try.ntmps57
  go_wp2_with fail
  refine (H1.out _).mono ?_
  rintro e w2 ⟨rfl,hC⟩
  have HB := Lib.hid (hb0.trans (hC.mono hb0.size))
  clear hC
  go_wp2
  go_ret
  exact ⟨rfl,HB.out⟩
 ·rw [if_neg h]
  simp only [if_neg h] at h1
  have H1 := Lib.hid h1
  have HT := Lib.hid T
  clear h h1 T
  by_cases hL : 512 < L
  ·have g : decide (512 < L) = true := by simpa using hL
   have gi : decide ((512 : Int) < (L : Int)) = true := by simp; omega
   rw [if_pos hL]
   clear hL
   go_enter Try.func57,Try.ntmps57
   go_wp2_with fail
   refine (H1.out _).mono ?_
   rintro e w2 ⟨rfl,hC⟩
   have HB := Lib.hid (hb0.trans (hC.mono hb0.size))
   have T2 := HT.out.keep hC
   have hOpen := T2
   simp only [Cells,blk,List.cons_append,List.nil_append,and_true,Nat.reduceAdd,Nat.add_zero,Nat.zero_add] at hOpen
   obtain ⟨m0,m1,m2,m3,m4,m5,m6,m7⟩ := hOpen
   clear T2 hC
   go_wp2
   go_ret
   exact ⟨rfl,HB.out⟩
  ·have g : decide (512 < L) = false := by simpa using hL
   have gi : decide ((512 : Int) < (L : Int)) = false := by simp; omega
   rw [if_neg hL]
   clear hL
   go_enter Try.func57,Try.ntmps57
   go_wp2_with fail
   refine (H1.out _).mono ?_
   rintro e w2 ⟨rfl,hC⟩
   have HB := Lib.hid (hb0.trans (hC.mono hb0.size))
   have T2 := HT.out.keep hC
   have hOpen := T2
   simp only [Cells,blk,List.cons_append,List.nil_append,and_true,Nat.reduceAdd,Nat.add_zero,Nat.zero_add] at hOpen
   obtain ⟨m0,m1,m2,m3,m4,m5,m6,m7⟩ := hOpen
   clear T2 hC
   go_wp2
   go_ret
   exact ⟨rfl,HB.out⟩
theorem bare_any (kd : Int) (fi la ha : Int) (bv : Value) (ofs : Int) (fv : Value) (bad : Bool) (w : World) : Calls Try.prog 50 #[.agg #[.int .i64 kd,.int .u16 fi,.int .u16 la,.int .u16 ha,bv,.int .i64 ofs,fv,.bool bad]] w fun e w' => e = .returned (.agg #[.int .i64 kd,.int .u16 0,.int .u16 0,.int .u16 0,.slice none 0 0,.int .i64 0,.slice none 0 0,.bool false]) ∧ Below w.heap.size w w' := by
 go_enter Try.func50,Try.ntmps50
 go_wp2
 refine bodyPost_ret (v := .agg #[.int .i64 kd,.int .u16 0,.int .u16 0,.int .u16 0,.slice none 0 0,.int .i64 0,.slice none 0 0,.bool false]) (by simp [results,Try.results50,go_sem] <;> rfl) rfl ⟨rfl,?_⟩
 exact ((Below.refl _ _).alloc (Nat.le_refl _) _).alloc (by simp) _
theorem bounds_any (kd : Int) (fi la ha : Int) (bv : Value) (ofs : Int) (fv : Value) (bad : Bool) (w : World) : Calls Try.prog 53 #[.agg #[.int .i64 kd,.int .u16 fi,.int .u16 la,.int .u16 ha,bv,.int .i64 ofs,fv,.bool bad]] w fun e w' => e = .returned (.agg #[.int .i64 kd,.int .u16 fi,.int .u16 la,.int .u16 0,.slice none 0 0,.int .i64 0,.slice none 0 0,.bool false]) ∧ Below w.heap.size w w' := by
 go_enter Try.func53,Try.ntmps53
 go_wp2
 refine bodyPost_ret (v := .agg #[.int .i64 kd,.int .u16 fi,.int .u16 la,.int .u16 0,.slice none 0 0,.int .i64 0,.slice none 0 0,.bool false]) (by simp [results,Try.results53,go_sem] <;> rfl) rfl ⟨rfl,?_⟩
 exact ((Below.refl _ _).alloc (Nat.le_refl _) _).alloc (by simp) _
theorem handle_any (kd : Int) (fi la ha : Int) (bv : Value) (ofs : Int) (fv : Value) (bad : Bool) (w : World) : Calls Try.prog 55 #[.agg #[.int .i64 kd,.int .u16 fi,.int .u16 la,.int .u16 ha,bv,.int .i64 ofs,fv,.bool bad]] w fun e w' => e = .returned (.agg #[.int .i64 kd,.int .u16 0,.int .u16 0,.int .u16 ha,.slice none 0 0,.int .i64 0,.slice none 0 0,.bool false]) ∧ Below w.heap.size w w' := by
 go_enter Try.func55,Try.ntmps55
 go_wp2
 refine bodyPost_ret (v := .agg #[.int .i64 kd,.int .u16 0,.int .u16 0,.int .u16 ha,.slice none 0 0,.int .i64 0,.slice none 0 0,.bool false]) (by simp [results,Try.results55,go_sem] <;> rfl) rfl ⟨rfl,?_⟩
 exact ((Below.refl _ _).alloc (Nat.le_refl _) _).alloc (by simp) _
theorem reading_any (xv : Value) (kd : Int) (fi la ha : Int) (bv : Value) (ofs : Int) (fv : Value) (bad : Bool) (w : World) : Calls Try.prog 56 #[xv,.agg #[.int .i64 kd,.int .u16 fi,.int .u16 la,.int .u16 ha,bv,.int .i64 ofs,fv,.bool bad]] w fun e w' => e = .returned (.agg #[.int .i64 10,.int .i64 0,.int .u16 ha,.int .u16 0,.int .u64 0,.int .u64 0,.int .i64 0,.int .i64 0,.int .i64 0,.bool false,.slice none 0 0,.slice none 0 0]) ∧ Below w.heap.size w w' := by
 go_enter Try.func56,Try.ntmps56
 go_wp2
 refine bodyPost_ret (v := .agg #[.int .i64 10,.int .i64 0,.int .u16 ha,.int .u16 0,.int .u64 0,.int .u64 0,.int .i64 0,.int .i64 0,.int .i64 0,.bool false,.slice none 0 0,.slice none 0 0]) (by simp [results,Try.results56,go_sem] <;> rfl) rfl ⟨rfl,?_⟩
 exact ((Below.refl _ _).alloc (Nat.le_refl _) _).alloc (by simp) _
theorem descs_any (xv : Value) (kd : Int) (fi la ha : Int) (bv : Value) (ofs : Int) (fv : Value) (bad : Bool) (w : World) : Calls Try.prog 47 #[xv,.agg #[.int .i64 kd,.int .u16 fi,.int .u16 la,.int .u16 ha,bv,.int .i64 ofs,fv,.bool bad]] w fun e w' => e = .returned (.agg #[.int .i64 4,.int .i64 0,.int .u16 fi,.int .u16 la,.int .u64 0,.int .u64 0,.int .i64 0,.int .i64 0,.int .i64 0,.bool false,.slice none 0 0,.slice none 0 0]) ∧ Below w.heap.size w w' := by
 go_enter Try.func47,Try.ntmps47
 go_wp2
 refine bodyPost_ret (v := .agg #[.int .i64 4,.int .i64 0,.int .u16 fi,.int .u16 la,.int .u64 0,.int .u64 0,.int .i64 0,.int .i64 0,.int .i64 0,.bool false,.slice none 0 0,.slice none 0 0]) (by simp [results,Try.results47,go_sem] <;> rfl) rfl ⟨rfl,?_⟩
 exact ((Below.refl _ _).alloc (Nat.le_refl _) _).alloc (by simp) _
end Go.Proofs.Ytldcihjddebciaa
