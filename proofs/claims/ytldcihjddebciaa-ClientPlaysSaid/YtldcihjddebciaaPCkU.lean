/- client: the reference's Check of a PDU (cut from the attpdu seat's walks). -/
import Derived.Test.YtldcihjddebciaaPCkA
set_option linter.unusedSimpArgs false
set_option linter.unusedVariables false
set_option maxRecDepth 100000
set_option maxHeartbeats 4000000
namespace Go.Proofs.Ytldcihjddebciaa
open Go.RowKit
theorem Cells.fst {W : World} : ∀ {l l' : List (Nat × Nat × Value)},Cells W (l ++ l') → Cells W l
 |[],_,_ => trivial
 |(_,_,_) :: _,_,h => ⟨h.1,Cells.fst h.2⟩
/-- what the walk of checkItem asks of the two other elements -/
def lastOf (k : Nat) (tp : It) : Nat := if k = 0 then 0 else max tp.ha tp.la
theorem chk1 {k : Int} {last L : Nat} {t : It} (h : unuI k t.la t.hi t.lo t.n = false) : chkIt k last L t = 1 := by unfold chkIt; rw [if_pos h]
theorem chk5 {k : Int} {last L : Nat} {t : It} (h : unuI k t.la t.hi t.lo t.n = true) (h0 : t.ha = 0) : chkIt k last L t = 5 := by unfold chkIt; rw [if_neg (by rw [h]; decide),if_pos h0]
theorem chk13 {k : Int} {last L : Nat} {t : It} (h : unuI k t.la t.hi t.lo t.n = true) (h0 : ¬ t.ha = 0) (h1 : t.ha ≤ last ∨ (k = 17 ∧ t.la < t.ha)) : chkIt k last L t = 13 := by unfold chkIt; rw [if_neg (by rw [h]; decide),if_neg h0,if_pos h1]
theorem chk11 {k : Int} {last L : Nat} {t : It} (h : unuI k t.la t.hi t.lo t.n = true) (h0 : ¬ t.ha = 0) (h1 : ¬ (t.ha ≤ last ∨ (k = 17 ∧ t.la < t.ha))) (h2 : sizeI k t.hi t.lo t.n ≠ L) : chkIt k last L t = 11 := by unfold chkIt; rw [if_neg (by rw [h]; decide),if_neg h0,if_neg h1,if_pos h2]
theorem chk0 {k : Int} {last L : Nat} {t : It} (h : unuI k t.la t.hi t.lo t.n = true) (h0 : ¬ t.ha = 0) (h1 : ¬ (t.ha ≤ last ∨ (k = 17 ∧ t.la < t.ha))) (h2 : sizeI k t.hi t.lo t.n = L) : chkIt k last L t = 0 := by unfold chkIt; rw [if_neg (by rw [h]; decide),if_neg h0,if_neg h1,if_neg (by rw [h2]; exact fun h => h rfl)]
theorem rcheckItem_5 (its : List It) (b off m d : Nat) (w : World) (hits : Items w (.slice (some ⟨b,off,none⟩) m d) m its) (hm : m ≤ 1000) (hbn : ∀ t ∈ its,t.n ≤ BIGN) (k : Nat) (hk : k < m) (t t0 tp : It) (ht : its[k]? = some t) (h0 : its[0]? = some t0) (hp : 0 < k → its[k - 1]? = some tp) :
 Calls Try.prog 62 #[.int .i64 5,.slice (some ⟨b,off,none⟩) m d,.int .i64 k] w fun e w' => e = .returned (.int .i64 (chkIt 5 (lastOf k tp) (sizeI 5 t0.hi t0.lo t0.n) t)) ∧ Below w.heap.size w w' := by
 obtain ⟨hlen,hsr,hok⟩ := hits
 obtain ⟨_,_,_,ao,cap,e0,_,hcell⟩ := hsr
 cases e0
 obtain ⟨_,_,eb,hb,hc⟩ := hcell (by omega)
 cases eb
 have hcells : ∀ j (u : It),its[j]? = some u → Cells w (blk b (off + j * 5) 0 (itc u)) := fun j u hu => by
  obtain ⟨hj,hju⟩ := List.getElem?_eq_some_iff.1 hu
  have hh := fun i (hi5 : i < 5) => itc_get its j i hj hi5
  rw [hju] at hh
  refine ⟨?_,?_,?_,?_,?_,trivial⟩
  all_goals
   rw [Nat.add_assoc]
   refine hc _ _ ?_
   rw [hh _ (by decide)]
   rfl
 have ck := hcells k t ht
 have cz := hcells 0 t0 h0
 have okk := hok t (List.mem_of_getElem? ht)
 have okz := hok t0 (List.mem_of_getElem? h0)
 have bnk := hbn t (List.mem_of_getElem? ht)
 have bnz := hbn t0 (List.mem_of_getElem? h0)
 have HCE := Lib.hid hcells
 have HP := Lib.hid hp
 have HOK := Lib.hid hok
 clear hlen hok hc hcell hcells ht h0 hp hbn
 have hik := fun W (h : Below w.heap.size w W) => ritem_any 5 t W (okk.below h) bnk
 have hiz := fun W (h : Below w.heap.size w W) => ritem_any 5 t0 W (okz.below h) bnz
 have hlk := itB_len 5 t okk.2.2.2.2.1
 have hlz := itB_len 5 t0 okz.2.2.2.2.1
 have hsk := sizeI_hi 5 t.hi t.lo t.n
 have hsz' := sizeI_hi 5 t0.hi t0.lo t0.n
 have t17 : ((5 : Int) == 17) = false := by decide
 obtain ⟨xa,xl,xh,xo,aa,an,ac,abs⟩ := t
 obtain ⟨za,zl,zh,zo,zz,zn,zc,zbs⟩ := t0
 simp only [itc,Nat.zero_mul,Nat.add_zero] at ck cz hik hiz hlk hlz hsk hsz' bnk bnz ⊢
 have hm0 : 0 < m := by omega
 have w1' : IntKind.i64.wrap ((k : Int) + 1) = (k : Int) + 1 := IntWalk.i64_in _ (by omega)
 by_cases hu : unuI 5 xl xh xo an = true
 ·have hu2 := hu
  rw [show unuI 5 xl xh xo an = ((xl == 0) && (an == 0)) from rfl] at hu
  obtain ⟨rfl,rfl⟩ : xl = 0 ∧ an = 0 := by simpa using hu
  clear hu
  have hu := hu2
  replace ck : Cells w (blk b (off + k * 5) 0 [.int .u16 xa,.int .u16 0,.int .u64 xh,.int .u64 xo,.slice aa 0 ac]) := ck
  have hB := (Below.refl w.heap.size w).alloc (Nat.le_refl _) (.cells #[.int .u16 xa,.int .u16 0,.int .u64 xh,.int .u64 xo,.slice aa 0 ac] 101)
  have T0 := cells_new w [.int .u16 xa,.int .u16 0,.int .u64 xh,.int .u64 xo,.slice aa 0 ac] 101
  have TZ := T0.app (cz.keep hB)
  have hHB := HCE.out
  have HTZ := Lib.hid TZ
  have HCK := Lib.hid ck
  have HCZ := Lib.hid cz
  have HB := Lib.hid hB
  have hOpen := ck
  simp only [Cells,blk,List.cons_append,List.nil_append,and_true,Nat.reduceAdd,Nat.add_zero,Nat.zero_add] at hOpen
  obtain ⟨x0,x1,x2,x3,x4⟩ := hOpen
  clear ck cz T0 TZ hB hHB
  by_cases ha0 : xa = 0
  ·have t1 : ((xa : Int) == 0) = true := by simpa using ha0
   rw [chk5 (t := ⟨xa,0,xh,xo,aa,0,ac,abs⟩) hu ha0]
   clear ha0 hu hu2
   go_enter Try.func62,Try.ntmps62
   go_upto_region 2 with fail
   generalize hV : World.alloc _ _ = V at HTZ HB ⊢
   clear hV
   have TZ := HTZ.out
   have hOpen := TZ
   simp only [Cells,blk,List.cons_append,List.nil_append,and_true,Nat.reduceAdd,Nat.add_zero,Nat.zero_add] at hOpen
   obtain ⟨y0,y1,y2,y3,y4,z0,z1,z2,z3,z4⟩ := hOpen
   clear TZ
   go_wp2
   go_ret
   exact ⟨rfl,HB.out⟩
  ·have t1 : ((xa : Int) == 0) = false := by simpa using ha0
   by_cases hk0 : k = 0
   ·have g1 : decide ((0 : Int) < (k : Int)) = false := by simp; omega
    have g1' : decide (0 < k) = false := by simp; omega
    have hlast : lastOf k tp = 0 := if_pos hk0
    have hno0 : ¬ xa ≤ 0 := by omega
    rw [hlast]
    clear hlast hk0
    have hno : ¬ (xa ≤ 0 ∨ ((5 : Int) = 17 ∧ 0 < xa)) := by rintro (h | ⟨h,_⟩) <;> omega
    obtain ⟨S,hS⟩ : ∃ S,sizeI 5 xh xo 0 = S := ⟨_,rfl⟩
    obtain ⟨L,hL⟩ : ∃ S,sizeI 5 zh zo zn = S := ⟨_,rfl⟩
    rw [hS] at hlk hsk
    rw [hL] at hlz hsz'
    have HIK := Lib.hid hik
    have HIZ := Lib.hid hiz
    have HLK := Lib.hid hlk
    have HLZ := Lib.hid hlz
    have HS := Lib.hid hS
    have HL := Lib.hid hL
    clear hik hiz hlk hlz hS hL
    have HU := Lib.hid (And.intro hu (And.intro ha0 hno))
    clear hu hu2 ha0 hno
    go_enter Try.func62,Try.ntmps62
    go_upto_region 2 with fail
    generalize hV : World.alloc _ _ = V at HTZ HB ⊢
    have hVs : w.heap.size < V.heap.size := by rw [← hV]; simp
    clear hV
    have TZ := HTZ.out
    have hOpen := TZ
    simp only [Cells,blk,List.cons_append,List.nil_append,and_true,Nat.reduceAdd,Nat.add_zero,Nat.zero_add] at hOpen
    obtain ⟨y0,y1,y2,y3,y4,z0,z1,z2,z3,z4⟩ := hOpen
    clear TZ
    have HBV := Lib.hid HB.out
    go_upto_region 7 with fail
    refine wp_region_held_drew (S := (fun W' : World => Cells W' (blk w.heap.size 0 0 [.int .u16 xa,.int .u16 0,.int .u64 xh,.int .u64 xo,.slice aa 0 ac]))) (by kernel_rfl) (HTZ.out.fst.drew) (fun hHeld => ?_)
    refine tkU 0 ?_
    refine tkU 1 ?_
    refine tkU 2 ?_
    refine tkV 3 ?_
    refine tkV 4 ?_
    refine tkV 5 ?_
    refine tkV 6 ?_
    refine tkV 7 ?_
    refine tkV 8 ?_
    refine tkV 9 ?_
    refine tkV 10 ?_
    refine tkV 11 ?_
    refine tkV 12 ?_
    refine tkV 13 ?_
    refine tkV 14 ?_
    refine tkV 15 ?_
    refine tkV 16 ?_
    refine tkV 17 ?_
    refine tkV 18 ?_
    refine tkU 19 ?_
    refine tkU 20 ?_
    refine tkU 21 ?_
    refine tkU 22 ?_
    refine tkV 23 ?_
    refine tkV 24 ?_
    refine tkV 25 ?_
    refine tkV 26 ?_
    refine tkV 27 ?_
    refine tkU 28 ?_
    refine tkU 29 ?_
    refine wpAnyH_done (by kernel_rfl) ?_ _
    go_upto_region 9 with fail
    refine wp_region_held_drew (S := (fun W' : World => Below V.heap.size V W' ∧ V.heap.size ≤ W'.heap.size ∧ Cells W' (blk w.heap.size 0 0 [.int .u16 xa,.int .u16 0,.int .u64 xh,.int .u64 xo,.slice aa 0 ac] ++ blk b off 0 [.int .u16 za,.int .u16 zl,.int .u64 zh,.int .u64 zo,.slice zz zn zc]))) (by kernel_rfl) (⟨((Below.refl _ _).drew).drew,Nat.le_refl _,HTZ.out.drew.drew⟩) (fun hHeld => ?_)
    generalize World.drew _ = wd at hHeld ⊢
    have hz := hHeld.2.1
    repeat' first
     |refine tkU 0 ?_
     |refine tkU 1 ?_
     |refine tkU 4 ?_
     |refine tkU 5 ?_
     |refine tkU 6 ?_
     |refine tkU 7 ?_
     |refine tkU 3 ?_
     |refine tkU 9 ?_
     |refine tkU 10 ?_
     |(refine opn 2 fun K hK => ?_
       go_simp
       refine (HIK.out _ (HBV.out.trans (hHeld.1.mono HBV.out.size))).mono ?_
       rintro e wb ⟨va,rfl,hva,hBb⟩
       obtain ⟨⟨_,_,_,ao1,cap1,rfl,_,_⟩,_⟩ := hva
       rw [HLK.out]
       refine hK.out _ _ (⟨hHeld.1.trans (hBb.mono hHeld.2.1),Nat.le_trans hHeld.2.1 hBb.size,hHeld.2.2.keep hBb⟩) (fun h => ?_)
       replace hHeld := h
       clear hK K h
       try simp only [Act.put,List.setIfInBounds_toArray,List.set_cons_zero,List.set_cons_succ])
     |(refine opn 8 fun K hK => ?_
       go_simp
       refine (HIZ.out _ (HBV.out.trans (hHeld.1.mono HBV.out.size))).mono ?_
       rintro e wb ⟨vb,rfl,hvb,hBb⟩
       obtain ⟨⟨_,_,_,ao2,cap2,rfl,_,_⟩,_⟩ := hvb
       rw [HLZ.out]
       refine hK.out _ _ (⟨hHeld.1.trans (hBb.mono hHeld.2.1),Nat.le_trans hHeld.2.1 hBb.size,hHeld.2.2.keep hBb⟩) (fun h => ?_)
       replace hHeld := h
       clear hK K h
       try simp only [Act.put,List.setIfInBounds_toArray,List.set_cons_zero,List.set_cons_succ])
     |refine rd1 2 ?_
     |refine rd1 8 ?_
     |(refine wpAnyH_done (by kernel_rfl) ?_ _
       have hBF := Lib.hid (HBV.out.trans (hHeld.1.mono HBV.out.size))
       by_cases hSL : S = L
       ·have t9 : (S != L) = false := by simpa using hSL
        have t9' : ((S : Int) != (L : Int)) = false := by simp; omega
        have hfin : chkIt 5 0 L ⟨xa,0,xh,xo,aa,0,ac,abs⟩ = 0 := chk0 HU.out.1 HU.out.2.1 HU.out.2.2 (by show sizeI 5 xh xo 0 = L; rw [HS.out,hSL])
        have HFIN := Lib.hid hfin
        clear hSL hfin
        go_wp2
        go_ret
        exact ⟨ret_eq (by rw [HL.out]; exact HFIN.out.symm),hBF.out⟩
       ·have t9 : (S != L) = true := by simpa using hSL
        have t9' : ((S : Int) != (L : Int)) = true := by simp; omega
        have hfin : chkIt 5 0 L ⟨xa,0,xh,xo,aa,0,ac,abs⟩ = 11 := chk11 HU.out.1 HU.out.2.1 HU.out.2.2 (by show sizeI 5 xh xo 0 ≠ L; rw [HS.out]; exact hSL)
        have HFIN := Lib.hid hfin
        clear hSL hfin
        go_wp2
        go_ret
        exact ⟨ret_eq (by rw [HL.out]; exact HFIN.out.symm),hBF.out⟩)
   ·obtain ⟨j,hj⟩ : ∃ j,k = j + 1 := ⟨k - 1,by omega⟩
    have hpj := HP.out (by omega)
    rw [show k - 1 = j by omega] at hpj
    have cp := HCE.out j tp hpj
    have okp := HOK.out tp (List.mem_of_getElem? hpj)
    have hlast : lastOf k tp = max tp.ha tp.la := if_neg hk0
    rw [hlast]
    clear hlast hpj
    obtain ⟨pa,pl,ph,po,pp,pn,pc,pbs⟩ := tp
    simp only [itc] at cp okp ⊢
    obtain ⟨hpa,hpl,_,_,_,_⟩ := okp
    have g1 : decide ((0 : Int) < (k : Int)) = true := by simp; omega
    have g1' : decide (0 < k) = true := by simp; omega
    have e1 : IntKind.i64.wrap (j : Int) = (j : Int) := IntWalk.i64_in _ (by omega)
    have e1' : (k : Int) - 1 = (j : Int) := by omega
    have hjm : j < m := by omega
    obtain ⟨M,hM⟩ : ∃ M,max pa pl = M := ⟨_,rfl⟩
    have hM' : max (pa : Int) (pl : Int) = (M : Int) := by omega
    have hM2 : (if pa < pl then (pl : Int) else (pa : Int)) = (M : Int) := by split <;> omega
    rw [hM]
    have HTP := Lib.hid ((cells_new w [.int .u16 xa,.int .u16 0,.int .u64 xh,.int .u64 xo,.slice aa 0 ac] 101).app (cp.keep HB.out))
    clear hM hj cp hpa hpl hk0
    by_cases hle : xa ≤ M
    ·have g3 : decide (xa ≤ M) = true := by simpa using hle
     have g3' : decide ((xa : Int) ≤ (M : Int)) = true := by simp; omega
     rw [show chkIt 5 M (sizeI 5 zh zo zn) ⟨xa,0,xh,xo,aa,0,ac,abs⟩ = 13 from chk13 hu ha0 (Or.inl hle)]
     clear hle hu hu2 ha0
     go_enter Try.func62,Try.ntmps62
     go_upto_region 2 with fail
     generalize hV : World.alloc _ _ = V at HTZ HB HTP ⊢
     have hVs : w.heap.size < V.heap.size := by rw [← hV]; simp
     clear hV
     have TZ := HTZ.out
     have hOpen := TZ
     simp only [Cells,blk,List.cons_append,List.nil_append,and_true,Nat.reduceAdd,Nat.add_zero,Nat.zero_add] at hOpen
     obtain ⟨y0,y1,y2,y3,y4,z0,z1,z2,z3,z4⟩ := hOpen
     clear TZ
     have TP := HTP.out
     have hOpen := TP
     simp only [Cells,blk,List.cons_append,List.nil_append,and_true,Nat.reduceAdd,Nat.add_zero,Nat.zero_add] at hOpen
     obtain ⟨q0,q1,q2,q3,q4,p0,p1,p2,p3,p4⟩ := hOpen
     clear q0 q1 q2 q3 q4 TP
     go_upto_region 7 with fail
     refine wp_region_held_drew (S := (fun W' : World => Cells W' (blk w.heap.size 0 0 [.int .u16 xa,.int .u16 0,.int .u64 xh,.int .u64 xo,.slice aa 0 ac] ++ blk b (off + j * 5) 0 [.int .u16 pa,.int .u16 pl,.int .u64 ph,.int .u64 po,.slice pp pn pc]))) (by kernel_rfl) (HTP.out.drew) (fun hHeld => ?_)
     refine tkU 0 ?_
     refine tkU 1 ?_
     refine tkU 2 ?_
     refine tkU 3 ?_
     refine tkU 4 ?_
     refine tkU 5 ?_
     refine tkU 6 ?_
     refine tkU 7 ?_
     refine tkU 8 ?_
     refine tkU 9 ?_
     refine tkU 10 ?_
     refine tkU 11 ?_
     refine tkU 12 ?_
     refine tkU 13 ?_
     refine tkU 14 ?_
     refine tkU 15 ?_
     refine tkU 16 ?_
     refine tkU 17 ?_
     refine tkU 18 ?_
     refine tkU 19 ?_
     refine tkU 20 ?_
     refine tkV 21 ?_
     refine tkV 22 ?_
     refine tkV 23 ?_
     refine tkV 24 ?_
     refine tkV 25 ?_
     refine tkV 26 ?_
     refine tkV 27 ?_
     refine tkV 28 ?_
     refine tkU 29 ?_
     refine wpAnyH_done (by kernel_rfl) ?_ _
     go_wp2
     go_ret
     exact ⟨rfl,HB.out.drew⟩
    ·have g3 : decide (xa ≤ M) = false := by simpa using hle
     have g3' : decide ((xa : Int) ≤ (M : Int)) = false := by simp; omega
     have hno : ¬ (xa ≤ M ∨ ((5 : Int) = 17 ∧ 0 < xa)) := by rintro (h | ⟨h,_⟩) <;> omega
     obtain ⟨S,hS⟩ : ∃ S,sizeI 5 xh xo 0 = S := ⟨_,rfl⟩
     obtain ⟨L,hL⟩ : ∃ S,sizeI 5 zh zo zn = S := ⟨_,rfl⟩
     rw [hS] at hlk hsk
     rw [hL] at hlz hsz'
     have HIK := Lib.hid hik
     have HIZ := Lib.hid hiz
     have HLK := Lib.hid hlk
     have HLZ := Lib.hid hlz
     have HS := Lib.hid hS
     have HL := Lib.hid hL
     clear hik hiz hlk hlz hS hL
     have HU := Lib.hid (And.intro hu (And.intro ha0 hno))
     clear hu hu2 ha0 hno
     go_enter Try.func62,Try.ntmps62
     go_upto_region 2 with fail
     generalize hV : World.alloc _ _ = V at HTZ HB HTP ⊢
     have hVs : w.heap.size < V.heap.size := by rw [← hV]; simp
     clear hV
     have TZ := HTZ.out
     have hOpen := TZ
     simp only [Cells,blk,List.cons_append,List.nil_append,and_true,Nat.reduceAdd,Nat.add_zero,Nat.zero_add] at hOpen
     obtain ⟨y0,y1,y2,y3,y4,z0,z1,z2,z3,z4⟩ := hOpen
     clear TZ
     have TP := HTP.out
     have hOpen := TP
     simp only [Cells,blk,List.cons_append,List.nil_append,and_true,Nat.reduceAdd,Nat.add_zero,Nat.zero_add] at hOpen
     obtain ⟨q0,q1,q2,q3,q4,p0,p1,p2,p3,p4⟩ := hOpen
     clear q0 q1 q2 q3 q4 TP
     have HBV := Lib.hid HB.out
     go_upto_region 7 with fail
     refine wp_region_held_drew (S := (fun W' : World => Cells W' (blk w.heap.size 0 0 [.int .u16 xa,.int .u16 0,.int .u64 xh,.int .u64 xo,.slice aa 0 ac] ++ blk b (off + j * 5) 0 [.int .u16 pa,.int .u16 pl,.int .u64 ph,.int .u64 po,.slice pp pn pc]))) (by kernel_rfl) (HTP.out.drew) (fun hHeld => ?_)
     refine tkU 0 ?_
     refine tkU 1 ?_
     refine tkU 2 ?_
     refine tkU 3 ?_
     refine tkU 4 ?_
     refine tkU 5 ?_
     refine tkU 6 ?_
     refine tkU 7 ?_
     refine tkU 8 ?_
     refine tkU 9 ?_
     refine tkU 10 ?_
     refine tkU 11 ?_
     refine tkU 12 ?_
     refine tkU 13 ?_
     refine tkU 14 ?_
     refine tkU 15 ?_
     refine tkU 16 ?_
     refine tkU 17 ?_
     refine tkU 18 ?_
     refine tkU 19 ?_
     refine tkU 20 ?_
     refine tkU 21 ?_
     refine tkU 22 ?_
     refine tkV 23 ?_
     refine tkV 24 ?_
     refine tkV 25 ?_
     refine tkV 26 ?_
     refine tkV 27 ?_
     refine tkU 28 ?_
     refine tkU 29 ?_
     refine wpAnyH_done (by kernel_rfl) ?_ _
     go_upto_region 9 with fail
     refine wp_region_held_drew (S := (fun W' : World => Below V.heap.size V W' ∧ V.heap.size ≤ W'.heap.size ∧ Cells W' (blk w.heap.size 0 0 [.int .u16 xa,.int .u16 0,.int .u64 xh,.int .u64 xo,.slice aa 0 ac] ++ blk b off 0 [.int .u16 za,.int .u16 zl,.int .u64 zh,.int .u64 zo,.slice zz zn zc]))) (by kernel_rfl) (⟨((Below.refl _ _).drew).drew,Nat.le_refl _,HTZ.out.drew.drew⟩) (fun hHeld => ?_)
     generalize World.drew _ = wd at hHeld ⊢
     have hz := hHeld.2.1
     repeat' first
      |refine tkU 0 ?_
      |refine tkU 1 ?_
      |refine tkU 4 ?_
      |refine tkU 5 ?_
      |refine tkU 6 ?_
      |refine tkU 7 ?_
      |refine tkU 3 ?_
      |refine tkU 9 ?_
      |refine tkU 10 ?_
      |(refine opn 2 fun K hK => ?_
        go_simp
        refine (HIK.out _ (HBV.out.trans (hHeld.1.mono HBV.out.size))).mono ?_
        rintro e wb ⟨va,rfl,hva,hBb⟩
        obtain ⟨⟨_,_,_,ao1,cap1,rfl,_,_⟩,_⟩ := hva
        rw [HLK.out]
        refine hK.out _ _ (⟨hHeld.1.trans (hBb.mono hHeld.2.1),Nat.le_trans hHeld.2.1 hBb.size,hHeld.2.2.keep hBb⟩) (fun h => ?_)
        replace hHeld := h
        clear hK K h
        try simp only [Act.put,List.setIfInBounds_toArray,List.set_cons_zero,List.set_cons_succ])
      |(refine opn 8 fun K hK => ?_
        go_simp
        refine (HIZ.out _ (HBV.out.trans (hHeld.1.mono HBV.out.size))).mono ?_
        rintro e wb ⟨vb,rfl,hvb,hBb⟩
        obtain ⟨⟨_,_,_,ao2,cap2,rfl,_,_⟩,_⟩ := hvb
        rw [HLZ.out]
        refine hK.out _ _ (⟨hHeld.1.trans (hBb.mono hHeld.2.1),Nat.le_trans hHeld.2.1 hBb.size,hHeld.2.2.keep hBb⟩) (fun h => ?_)
        replace hHeld := h
        clear hK K h
        try simp only [Act.put,List.setIfInBounds_toArray,List.set_cons_zero,List.set_cons_succ])
      |refine rd1 2 ?_
      |refine rd1 8 ?_
      |(refine wpAnyH_done (by kernel_rfl) ?_ _
        have hBF := Lib.hid (HBV.out.trans (hHeld.1.mono HBV.out.size))
        by_cases hSL : S = L
        ·have t9 : (S != L) = false := by simpa using hSL
         have t9' : ((S : Int) != (L : Int)) = false := by simp; omega
         have hfin : chkIt 5 M L ⟨xa,0,xh,xo,aa,0,ac,abs⟩ = 0 := chk0 HU.out.1 HU.out.2.1 HU.out.2.2 (by show sizeI 5 xh xo 0 = L; rw [HS.out,hSL])
         have HFIN := Lib.hid hfin
         clear hSL hfin
         go_wp2
         go_ret
         exact ⟨ret_eq (by rw [HL.out]; exact HFIN.out.symm),hBF.out⟩
        ·have t9 : (S != L) = true := by simpa using hSL
         have t9' : ((S : Int) != (L : Int)) = true := by simp; omega
         have hfin : chkIt 5 M L ⟨xa,0,xh,xo,aa,0,ac,abs⟩ = 11 := chk11 HU.out.1 HU.out.2.1 HU.out.2.2 (by show sizeI 5 xh xo 0 ≠ L; rw [HS.out]; exact hSL)
         have HFIN := Lib.hid hfin
         clear hSL hfin
         go_wp2
         go_ret
         exact ⟨ret_eq (by rw [HL.out]; exact HFIN.out.symm),hBF.out⟩)
 ·have hu' : unuI 5 xl xh xo an = false := by simpa using hu
  rw [chk1 (t := ⟨xa,xl,xh,xo,aa,an,ac,abs⟩) hu']
  rw [show unuI 5 xl xh xo an = ((xl == 0) && (an == 0)) from rfl] at hu'
  have hB := (Below.refl w.heap.size w).alloc (Nat.le_refl _) (.cells #[.int .u16 xa,.int .u16 xl,.int .u64 xh,.int .u64 xo,.slice aa an ac] 101)
  have T0 := cells_new w [.int .u16 xa,.int .u16 xl,.int .u64 xh,.int .u64 xo,.slice aa an ac] 101
  have HTZ := Lib.hid T0
  have HB := Lib.hid hB
  have hz := fun W => run_build0 W
  have HU := Lib.hid hu'
  have hOpen := ck
  simp only [Cells,blk,List.cons_append,List.nil_append,and_true,Nat.reduceAdd,Nat.add_zero,Nat.zero_add] at hOpen
  obtain ⟨x0,x1,x2,x3,x4⟩ := hOpen
  clear ck cz T0 hB hu hu'
  go_enter Try.func62,Try.ntmps62
  go_upto_region 2 with fail
  generalize hV : World.alloc _ _ = V at HTZ HB ⊢
  clear hV
  have TZ := HTZ.out
  have hOpen := TZ
  simp only [Cells,blk,List.cons_append,List.nil_append,and_true,Nat.reduceAdd,Nat.add_zero,Nat.zero_add] at hOpen
  obtain ⟨y0,y1,y2,y3,y4⟩ := hOpen
  clear TZ
  go_wp2_with fail
  all_goals
   first
   |(go_ret; exact ⟨rfl,HB.out⟩)
   |(exfalso; have := HU.out; simp_all; done)
   |(exfalso; have := HU.out; simp_all; omega)
theorem rcheckItem_17 (its : List It) (b off m d : Nat) (w : World) (hits : Items w (.slice (some ⟨b,off,none⟩) m d) m its) (hm : m ≤ 1000) (hbn : ∀ t ∈ its,t.n ≤ BIGN) (k : Nat) (hk : k < m) (t t0 tp : It) (ht : its[k]? = some t) (h0 : its[0]? = some t0) (hp : 0 < k → its[k - 1]? = some tp) :
 Calls Try.prog 62 #[.int .i64 17,.slice (some ⟨b,off,none⟩) m d,.int .i64 k] w fun e w' => e = .returned (.int .i64 (chkIt 17 (lastOf k tp) (sizeI 17 t0.hi t0.lo t0.n) t)) ∧ Below w.heap.size w w' := by
 obtain ⟨hlen,hsr,hok⟩ := hits
 obtain ⟨_,_,_,ao,cap,e0,_,hcell⟩ := hsr
 cases e0
 obtain ⟨_,_,eb,hb,hc⟩ := hcell (by omega)
 cases eb
 have hcells : ∀ j (u : It),its[j]? = some u → Cells w (blk b (off + j * 5) 0 (itc u)) := fun j u hu => by
  obtain ⟨hj,hju⟩ := List.getElem?_eq_some_iff.1 hu
  have hh := fun i (hi5 : i < 5) => itc_get its j i hj hi5
  rw [hju] at hh
  refine ⟨?_,?_,?_,?_,?_,trivial⟩
  all_goals
   rw [Nat.add_assoc]
   refine hc _ _ ?_
   rw [hh _ (by decide)]
   rfl
 have ck := hcells k t ht
 have cz := hcells 0 t0 h0
 have okk := hok t (List.mem_of_getElem? ht)
 have okz := hok t0 (List.mem_of_getElem? h0)
 have bnk := hbn t (List.mem_of_getElem? ht)
 have bnz := hbn t0 (List.mem_of_getElem? h0)
 have HCE := Lib.hid hcells
 have HP := Lib.hid hp
 have HOK := Lib.hid hok
 clear hlen hok hc hcell hcells ht h0 hp hbn
 have hik := fun W (h : Below w.heap.size w W) => ritem_any 17 t W (okk.below h) bnk
 have hiz := fun W (h : Below w.heap.size w W) => ritem_any 17 t0 W (okz.below h) bnz
 have hlk := itB_len 17 t okk.2.2.2.2.1
 have hlz := itB_len 17 t0 okz.2.2.2.2.1
 have hsk := sizeI_hi 17 t.hi t.lo t.n
 have hsz' := sizeI_hi 17 t0.hi t0.lo t0.n
 have t5 : ((17 : Int) == 5) = false := by decide
 obtain ⟨xa,xl,xh,xo,aa,an,ac,abs⟩ := t
 obtain ⟨za,zl,zh,zo,zz,zn,zc,zbs⟩ := t0
 simp only [itc,Nat.zero_mul,Nat.add_zero] at ck cz hik hiz hlk hlz hsk hsz' bnk bnz ⊢
 have hm0 : 0 < m := by omega
 have w1' : IntKind.i64.wrap ((k : Int) + 1) = (k : Int) + 1 := IntWalk.i64_in _ (by omega)
 by_cases hu : unuI 17 xl xh xo an = true
 ·have hu2 := hu
  rw [show unuI 17 xl xh xo an = ((xh == 0) && (xo == 0)) from rfl] at hu
  obtain ⟨rfl,rfl⟩ : xh = 0 ∧ xo = 0 := by simpa using hu
  clear hu
  have hu := hu2
  replace ck : Cells w (blk b (off + k * 5) 0 [.int .u16 xa,.int .u16 xl,.int .u64 0,.int .u64 0,.slice aa an ac]) := ck
  have hB := (Below.refl w.heap.size w).alloc (Nat.le_refl _) (.cells #[.int .u16 xa,.int .u16 xl,.int .u64 0,.int .u64 0,.slice aa an ac] 101)
  have T0 := cells_new w [.int .u16 xa,.int .u16 xl,.int .u64 0,.int .u64 0,.slice aa an ac] 101
  have TZ := T0.app (cz.keep hB)
  have hHB := HCE.out
  have HTZ := Lib.hid TZ
  have HCK := Lib.hid ck
  have HCZ := Lib.hid cz
  have HB := Lib.hid hB
  have hOpen := ck
  simp only [Cells,blk,List.cons_append,List.nil_append,and_true,Nat.reduceAdd,Nat.add_zero,Nat.zero_add] at hOpen
  obtain ⟨x0,x1,x2,x3,x4⟩ := hOpen
  clear ck cz T0 TZ hB hHB
  by_cases ha0 : xa = 0
  ·have t1 : ((xa : Int) == 0) = true := by simpa using ha0
   rw [chk5 (t := ⟨xa,xl,0,0,aa,an,ac,abs⟩) hu ha0]
   clear ha0 hu hu2
   go_enter Try.func62,Try.ntmps62
   go_upto_region 2 with fail
   generalize hV : World.alloc _ _ = V at HTZ HB ⊢
   clear hV
   have TZ := HTZ.out
   have hOpen := TZ
   simp only [Cells,blk,List.cons_append,List.nil_append,and_true,Nat.reduceAdd,Nat.add_zero,Nat.zero_add] at hOpen
   obtain ⟨y0,y1,y2,y3,y4,z0,z1,z2,z3,z4⟩ := hOpen
   clear TZ
   go_wp2
   go_ret
   exact ⟨rfl,HB.out⟩
  ·have t1 : ((xa : Int) == 0) = false := by simpa using ha0
   by_cases hk0 : k = 0
   ·have g1 : decide ((0 : Int) < (k : Int)) = false := by simp; omega
    have g1' : decide (0 < k) = false := by simp; omega
    have hlast : lastOf k tp = 0 := if_pos hk0
    have hno0 : ¬ xa ≤ 0 := by omega
    rw [hlast]
    clear hlast hk0
    by_cases hgl : xl < xa
    ·have g2 : decide (xl < xa) = true := by simpa using hgl
     have g2' : decide ((xl : Int) < (xa : Int)) = true := by simp; omega
     rw [show chkIt 17 0 (sizeI 17 zh zo zn) ⟨xa,xl,0,0,aa,an,ac,abs⟩ = 13 from chk13 hu ha0 (Or.inr ⟨rfl,hgl⟩)]
     clear hgl hu hu2 ha0
     go_enter Try.func62,Try.ntmps62
     go_upto_region 2 with fail
     generalize hV : World.alloc _ _ = V at HTZ HB ⊢
     have hVs : w.heap.size < V.heap.size := by rw [← hV]; simp
     clear hV
     have TZ := HTZ.out
     have hOpen := TZ
     simp only [Cells,blk,List.cons_append,List.nil_append,and_true,Nat.reduceAdd,Nat.add_zero,Nat.zero_add] at hOpen
     obtain ⟨y0,y1,y2,y3,y4,z0,z1,z2,z3,z4⟩ := hOpen
     clear TZ
     go_upto_region 7 with fail
     refine wp_region_held_drew (S := (fun W' : World => Cells W' (blk w.heap.size 0 0 [.int .u16 xa,.int .u16 xl,.int .u64 0,.int .u64 0,.slice aa an ac]))) (by kernel_rfl) (HTZ.out.fst.drew) (fun hHeld => ?_)
     refine tkU 0 ?_
     refine tkU 1 ?_
     refine tkU 2 ?_
     refine tkV 3 ?_
     refine tkV 4 ?_
     refine tkV 5 ?_
     refine tkV 6 ?_
     refine tkV 7 ?_
     refine tkV 8 ?_
     refine tkV 9 ?_
     refine tkV 10 ?_
     refine tkV 11 ?_
     refine tkV 12 ?_
     refine tkV 13 ?_
     refine tkV 14 ?_
     refine tkV 15 ?_
     refine tkV 16 ?_
     refine tkV 17 ?_
     refine tkV 18 ?_
     refine tkU 19 ?_
     refine tkU 20 ?_
     refine tkU 21 ?_
     refine tkU 22 ?_
     refine tkU 23 ?_
     refine tkU 24 ?_
     refine tkU 25 ?_
     refine tkU 26 ?_
     refine tkU 27 ?_
     refine tkU 28 ?_
     refine tkU 29 ?_
     refine wpAnyH_done (by kernel_rfl) ?_ _
     go_wp2
     go_ret
     exact ⟨rfl,HB.out.drew⟩
    ·have g2 : decide (xl < xa) = false := by simpa using hgl
     have g2' : decide ((xl : Int) < (xa : Int)) = false := by simp; omega
     have hno : ¬ (xa ≤ 0 ∨ ((17 : Int) = 17 ∧ xl < xa)) := by omega
     obtain ⟨S,hS⟩ : ∃ S,sizeI 17 0 0 an = S := ⟨_,rfl⟩
     obtain ⟨L,hL⟩ : ∃ S,sizeI 17 zh zo zn = S := ⟨_,rfl⟩
     rw [hS] at hlk hsk
     rw [hL] at hlz hsz'
     have HIK := Lib.hid hik
     have HIZ := Lib.hid hiz
     have HLK := Lib.hid hlk
     have HLZ := Lib.hid hlz
     have HS := Lib.hid hS
     have HL := Lib.hid hL
     clear hik hiz hlk hlz hS hL
     have HU := Lib.hid (And.intro hu (And.intro ha0 hno))
     clear hu hu2 ha0 hno
     go_enter Try.func62,Try.ntmps62
     go_upto_region 2 with fail
     generalize hV : World.alloc _ _ = V at HTZ HB ⊢
     have hVs : w.heap.size < V.heap.size := by rw [← hV]; simp
     clear hV
     have TZ := HTZ.out
     have hOpen := TZ
     simp only [Cells,blk,List.cons_append,List.nil_append,and_true,Nat.reduceAdd,Nat.add_zero,Nat.zero_add] at hOpen
     obtain ⟨y0,y1,y2,y3,y4,z0,z1,z2,z3,z4⟩ := hOpen
     clear TZ
     have HBV := Lib.hid HB.out
     go_upto_region 7 with fail
     refine wp_region_held_drew (S := (fun W' : World => Cells W' (blk w.heap.size 0 0 [.int .u16 xa,.int .u16 xl,.int .u64 0,.int .u64 0,.slice aa an ac]))) (by kernel_rfl) (HTZ.out.fst.drew) (fun hHeld => ?_)
     refine tkU 0 ?_
     refine tkU 1 ?_
     refine tkU 2 ?_
     refine tkV 3 ?_
     refine tkV 4 ?_
     refine tkV 5 ?_
     refine tkV 6 ?_
     refine tkV 7 ?_
     refine tkV 8 ?_
     refine tkV 9 ?_
     refine tkV 10 ?_
     refine tkV 11 ?_
     refine tkV 12 ?_
     refine tkV 13 ?_
     refine tkV 14 ?_
     refine tkV 15 ?_
     refine tkV 16 ?_
     refine tkV 17 ?_
     refine tkV 18 ?_
     refine tkU 19 ?_
     refine tkU 20 ?_
     refine tkU 21 ?_
     refine tkU 22 ?_
     refine tkU 23 ?_
     refine tkU 24 ?_
     refine tkU 25 ?_
     refine tkU 26 ?_
     refine tkU 27 ?_
     refine tkU 28 ?_
     refine tkU 29 ?_
     refine wpAnyH_done (by kernel_rfl) ?_ _
     go_upto_region 9 with fail
     refine wp_region_held_drew (S := (fun W' : World => Below V.heap.size V W' ∧ V.heap.size ≤ W'.heap.size ∧ Cells W' (blk w.heap.size 0 0 [.int .u16 xa,.int .u16 xl,.int .u64 0,.int .u64 0,.slice aa an ac] ++ blk b off 0 [.int .u16 za,.int .u16 zl,.int .u64 zh,.int .u64 zo,.slice zz zn zc]))) (by kernel_rfl) (⟨((Below.refl _ _).drew).drew,Nat.le_refl _,HTZ.out.drew.drew⟩) (fun hHeld => ?_)
     generalize World.drew _ = wd at hHeld ⊢
     have hz := hHeld.2.1
     repeat' first
      |refine tkU 0 ?_
      |refine tkU 1 ?_
      |refine tkU 4 ?_
      |refine tkU 5 ?_
      |refine tkU 6 ?_
      |refine tkU 7 ?_
      |refine tkU 3 ?_
      |refine tkU 9 ?_
      |refine tkU 10 ?_
      |(refine opn 2 fun K hK => ?_
        go_simp
        refine (HIK.out _ (HBV.out.trans (hHeld.1.mono HBV.out.size))).mono ?_
        rintro e wb ⟨va,rfl,hva,hBb⟩
        obtain ⟨⟨_,_,_,ao1,cap1,rfl,_,_⟩,_⟩ := hva
        rw [HLK.out]
        refine hK.out _ _ (⟨hHeld.1.trans (hBb.mono hHeld.2.1),Nat.le_trans hHeld.2.1 hBb.size,hHeld.2.2.keep hBb⟩) (fun h => ?_)
        replace hHeld := h
        clear hK K h
        try simp only [Act.put,List.setIfInBounds_toArray,List.set_cons_zero,List.set_cons_succ])
      |(refine opn 8 fun K hK => ?_
        go_simp
        refine (HIZ.out _ (HBV.out.trans (hHeld.1.mono HBV.out.size))).mono ?_
        rintro e wb ⟨vb,rfl,hvb,hBb⟩
        obtain ⟨⟨_,_,_,ao2,cap2,rfl,_,_⟩,_⟩ := hvb
        rw [HLZ.out]
        refine hK.out _ _ (⟨hHeld.1.trans (hBb.mono hHeld.2.1),Nat.le_trans hHeld.2.1 hBb.size,hHeld.2.2.keep hBb⟩) (fun h => ?_)
        replace hHeld := h
        clear hK K h
        try simp only [Act.put,List.setIfInBounds_toArray,List.set_cons_zero,List.set_cons_succ])
      |refine rd1 2 ?_
      |refine rd1 8 ?_
      |(refine wpAnyH_done (by kernel_rfl) ?_ _
        have hBF := Lib.hid (HBV.out.trans (hHeld.1.mono HBV.out.size))
        by_cases hSL : S = L
        ·have t9 : (S != L) = false := by simpa using hSL
         have t9' : ((S : Int) != (L : Int)) = false := by simp; omega
         have hfin : chkIt 17 0 L ⟨xa,xl,0,0,aa,an,ac,abs⟩ = 0 := chk0 HU.out.1 HU.out.2.1 HU.out.2.2 (by show sizeI 17 0 0 an = L; rw [HS.out,hSL])
         have HFIN := Lib.hid hfin
         clear hSL hfin
         go_wp2
         go_ret
         exact ⟨ret_eq (by rw [HL.out]; exact HFIN.out.symm),hBF.out⟩
        ·have t9 : (S != L) = true := by simpa using hSL
         have t9' : ((S : Int) != (L : Int)) = true := by simp; omega
         have hfin : chkIt 17 0 L ⟨xa,xl,0,0,aa,an,ac,abs⟩ = 11 := chk11 HU.out.1 HU.out.2.1 HU.out.2.2 (by show sizeI 17 0 0 an ≠ L; rw [HS.out]; exact hSL)
         have HFIN := Lib.hid hfin
         clear hSL hfin
         go_wp2
         go_ret
         exact ⟨ret_eq (by rw [HL.out]; exact HFIN.out.symm),hBF.out⟩)
   ·obtain ⟨j,hj⟩ : ∃ j,k = j + 1 := ⟨k - 1,by omega⟩
    have hpj := HP.out (by omega)
    rw [show k - 1 = j by omega] at hpj
    have cp := HCE.out j tp hpj
    have okp := HOK.out tp (List.mem_of_getElem? hpj)
    have hlast : lastOf k tp = max tp.ha tp.la := if_neg hk0
    rw [hlast]
    clear hlast hpj
    obtain ⟨pa,pl,ph,po,pp,pn,pc,pbs⟩ := tp
    simp only [itc] at cp okp ⊢
    obtain ⟨hpa,hpl,_,_,_,_⟩ := okp
    have g1 : decide ((0 : Int) < (k : Int)) = true := by simp; omega
    have g1' : decide (0 < k) = true := by simp; omega
    have e1 : IntKind.i64.wrap (j : Int) = (j : Int) := IntWalk.i64_in _ (by omega)
    have e1' : (k : Int) - 1 = (j : Int) := by omega
    have hjm : j < m := by omega
    obtain ⟨M,hM⟩ : ∃ M,max pa pl = M := ⟨_,rfl⟩
    have hM' : max (pa : Int) (pl : Int) = (M : Int) := by omega
    have hM2 : (if pa < pl then (pl : Int) else (pa : Int)) = (M : Int) := by split <;> omega
    rw [hM]
    have HTP := Lib.hid ((cells_new w [.int .u16 xa,.int .u16 xl,.int .u64 0,.int .u64 0,.slice aa an ac] 101).app (cp.keep HB.out))
    clear hM hj cp hpa hpl hk0
    by_cases hle : xa ≤ M
    ·have g3 : decide (xa ≤ M) = true := by simpa using hle
     have g3' : decide ((xa : Int) ≤ (M : Int)) = true := by simp; omega
     rw [show chkIt 17 M (sizeI 17 zh zo zn) ⟨xa,xl,0,0,aa,an,ac,abs⟩ = 13 from chk13 hu ha0 (Or.inl hle)]
     clear hle hu hu2 ha0
     go_enter Try.func62,Try.ntmps62
     go_upto_region 2 with fail
     generalize hV : World.alloc _ _ = V at HTZ HB HTP ⊢
     have hVs : w.heap.size < V.heap.size := by rw [← hV]; simp
     clear hV
     have TZ := HTZ.out
     have hOpen := TZ
     simp only [Cells,blk,List.cons_append,List.nil_append,and_true,Nat.reduceAdd,Nat.add_zero,Nat.zero_add] at hOpen
     obtain ⟨y0,y1,y2,y3,y4,z0,z1,z2,z3,z4⟩ := hOpen
     clear TZ
     have TP := HTP.out
     have hOpen := TP
     simp only [Cells,blk,List.cons_append,List.nil_append,and_true,Nat.reduceAdd,Nat.add_zero,Nat.zero_add] at hOpen
     obtain ⟨q0,q1,q2,q3,q4,p0,p1,p2,p3,p4⟩ := hOpen
     clear q0 q1 q2 q3 q4 TP
     go_upto_region 7 with fail
     refine wp_region_held_drew (S := (fun W' : World => Cells W' (blk w.heap.size 0 0 [.int .u16 xa,.int .u16 xl,.int .u64 0,.int .u64 0,.slice aa an ac] ++ blk b (off + j * 5) 0 [.int .u16 pa,.int .u16 pl,.int .u64 ph,.int .u64 po,.slice pp pn pc]))) (by kernel_rfl) (HTP.out.drew) (fun hHeld => ?_)
     refine tkU 0 ?_
     refine tkU 1 ?_
     refine tkU 2 ?_
     refine tkU 3 ?_
     refine tkU 4 ?_
     refine tkU 5 ?_
     refine tkU 6 ?_
     refine tkU 7 ?_
     refine tkU 8 ?_
     refine tkU 9 ?_
     refine tkU 10 ?_
     refine tkU 11 ?_
     refine tkU 12 ?_
     refine tkU 13 ?_
     refine tkU 14 ?_
     refine tkU 15 ?_
     refine tkU 16 ?_
     refine tkU 17 ?_
     refine tkU 18 ?_
     refine tkU 19 ?_
     refine tkU 20 ?_
     refine tkV 21 ?_
     refine tkV 22 ?_
     refine tkV 23 ?_
     refine tkV 24 ?_
     refine tkV 25 ?_
     refine tkV 26 ?_
     refine tkV 27 ?_
     refine tkV 28 ?_
     refine tkU 29 ?_
     refine wpAnyH_done (by kernel_rfl) ?_ _
     go_wp2
     go_ret
     exact ⟨rfl,HB.out.drew⟩
    ·have g3 : decide (xa ≤ M) = false := by simpa using hle
     have g3' : decide ((xa : Int) ≤ (M : Int)) = false := by simp; omega
     by_cases hgl : xl < xa
     ·have g2 : decide (xl < xa) = true := by simpa using hgl
      have g2' : decide ((xl : Int) < (xa : Int)) = true := by simp; omega
      rw [show chkIt 17 M (sizeI 17 zh zo zn) ⟨xa,xl,0,0,aa,an,ac,abs⟩ = 13 from chk13 hu ha0 (Or.inr ⟨rfl,hgl⟩)]
      clear hgl hu hu2 ha0
      go_enter Try.func62,Try.ntmps62
      go_upto_region 2 with fail
      generalize hV : World.alloc _ _ = V at HTZ HB HTP ⊢
      have hVs : w.heap.size < V.heap.size := by rw [← hV]; simp
      clear hV
      have TZ := HTZ.out
      have hOpen := TZ
      simp only [Cells,blk,List.cons_append,List.nil_append,and_true,Nat.reduceAdd,Nat.add_zero,Nat.zero_add] at hOpen
      obtain ⟨y0,y1,y2,y3,y4,z0,z1,z2,z3,z4⟩ := hOpen
      clear TZ
      have TP := HTP.out
      have hOpen := TP
      simp only [Cells,blk,List.cons_append,List.nil_append,and_true,Nat.reduceAdd,Nat.add_zero,Nat.zero_add] at hOpen
      obtain ⟨q0,q1,q2,q3,q4,p0,p1,p2,p3,p4⟩ := hOpen
      clear q0 q1 q2 q3 q4 TP
      go_upto_region 7 with fail
      refine wp_region_held_drew (S := (fun W' : World => Cells W' (blk w.heap.size 0 0 [.int .u16 xa,.int .u16 xl,.int .u64 0,.int .u64 0,.slice aa an ac] ++ blk b (off + j * 5) 0 [.int .u16 pa,.int .u16 pl,.int .u64 ph,.int .u64 po,.slice pp pn pc]))) (by kernel_rfl) (HTP.out.drew) (fun hHeld => ?_)
      refine tkU 0 ?_
      refine tkU 1 ?_
      refine tkU 2 ?_
      refine tkU 3 ?_
      refine tkU 4 ?_
      refine tkU 5 ?_
      refine tkU 6 ?_
      refine tkU 7 ?_
      refine tkU 8 ?_
      refine tkU 9 ?_
      refine tkU 10 ?_
      refine tkU 11 ?_
      refine tkU 12 ?_
      refine tkU 13 ?_
      refine tkU 14 ?_
      refine tkU 15 ?_
      refine tkU 16 ?_
      refine tkU 17 ?_
      refine tkU 18 ?_
      refine tkU 19 ?_
      refine tkU 20 ?_
      refine tkU 21 ?_
      refine tkU 22 ?_
      refine tkU 23 ?_
      refine tkU 24 ?_
      refine tkU 25 ?_
      refine tkU 26 ?_
      refine tkU 27 ?_
      refine tkU 28 ?_
      refine tkU 29 ?_
      refine wpAnyH_done (by kernel_rfl) ?_ _
      go_wp2
      go_ret
      exact ⟨rfl,HB.out.drew⟩
     ·have g2 : decide (xl < xa) = false := by simpa using hgl
      have g2' : decide ((xl : Int) < (xa : Int)) = false := by simp; omega
      have hno : ¬ (xa ≤ M ∨ ((17 : Int) = 17 ∧ xl < xa)) := by omega
      obtain ⟨S,hS⟩ : ∃ S,sizeI 17 0 0 an = S := ⟨_,rfl⟩
      obtain ⟨L,hL⟩ : ∃ S,sizeI 17 zh zo zn = S := ⟨_,rfl⟩
      rw [hS] at hlk hsk
      rw [hL] at hlz hsz'
      have HIK := Lib.hid hik
      have HIZ := Lib.hid hiz
      have HLK := Lib.hid hlk
      have HLZ := Lib.hid hlz
      have HS := Lib.hid hS
      have HL := Lib.hid hL
      clear hik hiz hlk hlz hS hL
      have HU := Lib.hid (And.intro hu (And.intro ha0 hno))
      clear hu hu2 ha0 hno
      go_enter Try.func62,Try.ntmps62
      go_upto_region 2 with fail
      generalize hV : World.alloc _ _ = V at HTZ HB HTP ⊢
      have hVs : w.heap.size < V.heap.size := by rw [← hV]; simp
      clear hV
      have TZ := HTZ.out
      have hOpen := TZ
      simp only [Cells,blk,List.cons_append,List.nil_append,and_true,Nat.reduceAdd,Nat.add_zero,Nat.zero_add] at hOpen
      obtain ⟨y0,y1,y2,y3,y4,z0,z1,z2,z3,z4⟩ := hOpen
      clear TZ
      have TP := HTP.out
      have hOpen := TP
      simp only [Cells,blk,List.cons_append,List.nil_append,and_true,Nat.reduceAdd,Nat.add_zero,Nat.zero_add] at hOpen
      obtain ⟨q0,q1,q2,q3,q4,p0,p1,p2,p3,p4⟩ := hOpen
      clear q0 q1 q2 q3 q4 TP
      have HBV := Lib.hid HB.out
      go_upto_region 7 with fail
      refine wp_region_held_drew (S := (fun W' : World => Cells W' (blk w.heap.size 0 0 [.int .u16 xa,.int .u16 xl,.int .u64 0,.int .u64 0,.slice aa an ac] ++ blk b (off + j * 5) 0 [.int .u16 pa,.int .u16 pl,.int .u64 ph,.int .u64 po,.slice pp pn pc]))) (by kernel_rfl) (HTP.out.drew) (fun hHeld => ?_)
      refine tkU 0 ?_
      refine tkU 1 ?_
      refine tkU 2 ?_
      refine tkU 3 ?_
      refine tkU 4 ?_
      refine tkU 5 ?_
      refine tkU 6 ?_
      refine tkU 7 ?_
      refine tkU 8 ?_
      refine tkU 9 ?_
      refine tkU 10 ?_
      refine tkU 11 ?_
      refine tkU 12 ?_
      refine tkU 13 ?_
      refine tkU 14 ?_
      refine tkU 15 ?_
      refine tkU 16 ?_
      refine tkU 17 ?_
      refine tkU 18 ?_
      refine tkU 19 ?_
      refine tkU 20 ?_
      refine tkU 21 ?_
      refine tkU 22 ?_
      refine tkU 23 ?_
      refine tkU 24 ?_
      refine tkU 25 ?_
      refine tkU 26 ?_
      refine tkU 27 ?_
      refine tkU 28 ?_
      refine tkU 29 ?_
      refine wpAnyH_done (by kernel_rfl) ?_ _
      go_upto_region 9 with fail
      refine wp_region_held_drew (S := (fun W' : World => Below V.heap.size V W' ∧ V.heap.size ≤ W'.heap.size ∧ Cells W' (blk w.heap.size 0 0 [.int .u16 xa,.int .u16 xl,.int .u64 0,.int .u64 0,.slice aa an ac] ++ blk b off 0 [.int .u16 za,.int .u16 zl,.int .u64 zh,.int .u64 zo,.slice zz zn zc]))) (by kernel_rfl) (⟨((Below.refl _ _).drew).drew,Nat.le_refl _,HTZ.out.drew.drew⟩) (fun hHeld => ?_)
      generalize World.drew _ = wd at hHeld ⊢
      have hz := hHeld.2.1
      repeat' first
       |refine tkU 0 ?_
       |refine tkU 1 ?_
       |refine tkU 4 ?_
       |refine tkU 5 ?_
       |refine tkU 6 ?_
       |refine tkU 7 ?_
       |refine tkU 3 ?_
       |refine tkU 9 ?_
       |refine tkU 10 ?_
       |(refine opn 2 fun K hK => ?_
         go_simp
         refine (HIK.out _ (HBV.out.trans (hHeld.1.mono HBV.out.size))).mono ?_
         rintro e wb ⟨va,rfl,hva,hBb⟩
         obtain ⟨⟨_,_,_,ao1,cap1,rfl,_,_⟩,_⟩ := hva
         rw [HLK.out]
         refine hK.out _ _ (⟨hHeld.1.trans (hBb.mono hHeld.2.1),Nat.le_trans hHeld.2.1 hBb.size,hHeld.2.2.keep hBb⟩) (fun h => ?_)
         replace hHeld := h
         clear hK K h
         try simp only [Act.put,List.setIfInBounds_toArray,List.set_cons_zero,List.set_cons_succ])
       |(refine opn 8 fun K hK => ?_
         go_simp
         refine (HIZ.out _ (HBV.out.trans (hHeld.1.mono HBV.out.size))).mono ?_
         rintro e wb ⟨vb,rfl,hvb,hBb⟩
         obtain ⟨⟨_,_,_,ao2,cap2,rfl,_,_⟩,_⟩ := hvb
         rw [HLZ.out]
         refine hK.out _ _ (⟨hHeld.1.trans (hBb.mono hHeld.2.1),Nat.le_trans hHeld.2.1 hBb.size,hHeld.2.2.keep hBb⟩) (fun h => ?_)
         replace hHeld := h
         clear hK K h
         try simp only [Act.put,List.setIfInBounds_toArray,List.set_cons_zero,List.set_cons_succ])
       |refine rd1 2 ?_
       |refine rd1 8 ?_
       |(refine wpAnyH_done (by kernel_rfl) ?_ _
         have hBF := Lib.hid (HBV.out.trans (hHeld.1.mono HBV.out.size))
         by_cases hSL : S = L
         ·have t9 : (S != L) = false := by simpa using hSL
          have t9' : ((S : Int) != (L : Int)) = false := by simp; omega
          have hfin : chkIt 17 M L ⟨xa,xl,0,0,aa,an,ac,abs⟩ = 0 := chk0 HU.out.1 HU.out.2.1 HU.out.2.2 (by show sizeI 17 0 0 an = L; rw [HS.out,hSL])
          have HFIN := Lib.hid hfin
          clear hSL hfin
          go_wp2
          go_ret
          exact ⟨ret_eq (by rw [HL.out]; exact HFIN.out.symm),hBF.out⟩
         ·have t9 : (S != L) = true := by simpa using hSL
          have t9' : ((S : Int) != (L : Int)) = true := by simp; omega
          have hfin : chkIt 17 M L ⟨xa,xl,0,0,aa,an,ac,abs⟩ = 11 := chk11 HU.out.1 HU.out.2.1 HU.out.2.2 (by show sizeI 17 0 0 an ≠ L; rw [HS.out]; exact hSL)
          have HFIN := Lib.hid hfin
          clear hSL hfin
          go_wp2
          go_ret
          exact ⟨ret_eq (by rw [HL.out]; exact HFIN.out.symm),hBF.out⟩)
 ·have hu' : unuI 17 xl xh xo an = false := by simpa using hu
  rw [chk1 (t := ⟨xa,xl,xh,xo,aa,an,ac,abs⟩) hu']
  rw [show unuI 17 xl xh xo an = ((xh == 0) && (xo == 0)) from rfl] at hu'
  have hB := (Below.refl w.heap.size w).alloc (Nat.le_refl _) (.cells #[.int .u16 xa,.int .u16 xl,.int .u64 xh,.int .u64 xo,.slice aa an ac] 101)
  have T0 := cells_new w [.int .u16 xa,.int .u16 xl,.int .u64 xh,.int .u64 xo,.slice aa an ac] 101
  have HTZ := Lib.hid T0
  have HB := Lib.hid hB
  have hz := fun W => run_build0 W
  have HU := Lib.hid hu'
  have hOpen := ck
  simp only [Cells,blk,List.cons_append,List.nil_append,and_true,Nat.reduceAdd,Nat.add_zero,Nat.zero_add] at hOpen
  obtain ⟨x0,x1,x2,x3,x4⟩ := hOpen
  clear ck cz T0 hB hu hu'
  go_enter Try.func62,Try.ntmps62
  go_upto_region 2 with fail
  generalize hV : World.alloc _ _ = V at HTZ HB ⊢
  clear hV
  have TZ := HTZ.out
  have hOpen := TZ
  simp only [Cells,blk,List.cons_append,List.nil_append,and_true,Nat.reduceAdd,Nat.add_zero,Nat.zero_add] at hOpen
  obtain ⟨y0,y1,y2,y3,y4⟩ := hOpen
  clear TZ
  go_wp2_with fail
  all_goals
   first
   |(go_ret; exact ⟨rfl,HB.out⟩)
   |(exfalso; have := HU.out; simp_all; done)
   |(exfalso; have := HU.out; simp_all; omega)
theorem rcheckItem_other (its : List It) (b off m d : Nat) (w : World) (hits : Items w (.slice (some ⟨b,off,none⟩) m d) m its) (hm : m ≤ 1000) (hbn : ∀ t ∈ its,t.n ≤ BIGN) (k : Nat) (hk : k < m) (t t0 tp : It) (ht : its[k]? = some t) (h0 : its[0]? = some t0) (hp : 0 < k → its[k - 1]? = some tp) (ki : Int) (h5 : ki ≠ 5) (h17 : ki ≠ 17) :
 Calls Try.prog 62 #[.int .i64 ki,.slice (some ⟨b,off,none⟩) m d,.int .i64 k] w fun e w' => e = .returned (.int .i64 (chkIt ki (lastOf k tp) (sizeI ki t0.hi t0.lo t0.n) t)) ∧ Below w.heap.size w w' := by
 obtain ⟨hlen,hsr,hok⟩ := hits
 obtain ⟨_,_,_,ao,cap,e0,_,hcell⟩ := hsr
 cases e0
 obtain ⟨_,_,eb,hb,hc⟩ := hcell (by omega)
 cases eb
 have hcells : ∀ j (u : It),its[j]? = some u → Cells w (blk b (off + j * 5) 0 (itc u)) := fun j u hu => by
  obtain ⟨hj,hju⟩ := List.getElem?_eq_some_iff.1 hu
  have hh := fun i (hi5 : i < 5) => itc_get its j i hj hi5
  rw [hju] at hh
  refine ⟨?_,?_,?_,?_,?_,trivial⟩
  all_goals
   rw [Nat.add_assoc]
   refine hc _ _ ?_
   rw [hh _ (by decide)]
   rfl
 have ck := hcells k t ht
 have cz := hcells 0 t0 h0
 have okk := hok t (List.mem_of_getElem? ht)
 have okz := hok t0 (List.mem_of_getElem? h0)
 have bnk := hbn t (List.mem_of_getElem? ht)
 have bnz := hbn t0 (List.mem_of_getElem? h0)
 have HCE := Lib.hid hcells
 have HP := Lib.hid hp
 have HOK := Lib.hid hok
 clear hlen hok hc hcell hcells ht h0 hp hbn
 have hik := fun W (h : Below w.heap.size w W) => ritem_any ki t W (okk.below h) bnk
 have hiz := fun W (h : Below w.heap.size w W) => ritem_any ki t0 W (okz.below h) bnz
 have hlk := itB_len ki t okk.2.2.2.2.1
 have hlz := itB_len ki t0 okz.2.2.2.2.1
 have hsk := sizeI_hi ki t.hi t.lo t.n
 have hsz' := sizeI_hi ki t0.hi t0.lo t0.n
 have t5 : (ki == 5) = false := by simpa using h5
 have t17 : (ki == 17) = false := by simpa using h17
 obtain ⟨xa,xl,xh,xo,aa,an,ac,abs⟩ := t
 obtain ⟨za,zl,zh,zo,zz,zn,zc,zbs⟩ := t0
 simp only [itc,Nat.zero_mul,Nat.add_zero] at ck cz hik hiz hlk hlz hsk hsz' bnk bnz ⊢
 have hm0 : 0 < m := by omega
 have w1' : IntKind.i64.wrap ((k : Int) + 1) = (k : Int) + 1 := IntWalk.i64_in _ (by omega)
 by_cases hu : unuI ki xl xh xo an = true
 ·have hu2 := hu
  rw [show unuI ki xl xh xo an = ((xl == 0) && ((xh == 0) && (xo == 0))) from by unfold unuI; rw [if_neg h5,if_neg h17]] at hu
  obtain ⟨rfl,rfl,rfl⟩ : xl = 0 ∧ xh = 0 ∧ xo = 0 := by simpa using hu
  clear hu
  have hu := hu2
  replace ck : Cells w (blk b (off + k * 5) 0 [.int .u16 xa,.int .u16 0,.int .u64 0,.int .u64 0,.slice aa an ac]) := ck
  have hB := (Below.refl w.heap.size w).alloc (Nat.le_refl _) (.cells #[.int .u16 xa,.int .u16 0,.int .u64 0,.int .u64 0,.slice aa an ac] 101)
  have T0 := cells_new w [.int .u16 xa,.int .u16 0,.int .u64 0,.int .u64 0,.slice aa an ac] 101
  have TZ := T0.app (cz.keep hB)
  have hHB := HCE.out
  have HTZ := Lib.hid TZ
  have HCK := Lib.hid ck
  have HCZ := Lib.hid cz
  have HB := Lib.hid hB
  have hOpen := ck
  simp only [Cells,blk,List.cons_append,List.nil_append,and_true,Nat.reduceAdd,Nat.add_zero,Nat.zero_add] at hOpen
  obtain ⟨x0,x1,x2,x3,x4⟩ := hOpen
  clear ck cz T0 TZ hB hHB
  by_cases ha0 : xa = 0
  ·have t1 : ((xa : Int) == 0) = true := by simpa using ha0
   rw [chk5 (t := ⟨xa,0,0,0,aa,an,ac,abs⟩) hu ha0]
   clear ha0 hu hu2
   go_enter Try.func62,Try.ntmps62
   go_upto_region 2 with fail
   generalize hV : World.alloc _ _ = V at HTZ HB ⊢
   clear hV
   have TZ := HTZ.out
   have hOpen := TZ
   simp only [Cells,blk,List.cons_append,List.nil_append,and_true,Nat.reduceAdd,Nat.add_zero,Nat.zero_add] at hOpen
   obtain ⟨y0,y1,y2,y3,y4,z0,z1,z2,z3,z4⟩ := hOpen
   clear TZ
   go_wp2
   go_ret
   exact ⟨rfl,HB.out⟩
  ·have t1 : ((xa : Int) == 0) = false := by simpa using ha0
   by_cases hk0 : k = 0
   ·have g1 : decide ((0 : Int) < (k : Int)) = false := by simp; omega
    have g1' : decide (0 < k) = false := by simp; omega
    have hlast : lastOf k tp = 0 := if_pos hk0
    have hno0 : ¬ xa ≤ 0 := by omega
    rw [hlast]
    clear hlast hk0
    have hno : ¬ (xa ≤ 0 ∨ ((ki : Int) = 17 ∧ 0 < xa)) := by rintro (h | ⟨h,_⟩) <;> omega
    obtain ⟨S,hS⟩ : ∃ S,sizeI ki 0 0 an = S := ⟨_,rfl⟩
    obtain ⟨L,hL⟩ : ∃ S,sizeI ki zh zo zn = S := ⟨_,rfl⟩
    rw [hS] at hlk hsk
    rw [hL] at hlz hsz'
    have HIK := Lib.hid hik
    have HIZ := Lib.hid hiz
    have HLK := Lib.hid hlk
    have HLZ := Lib.hid hlz
    have HS := Lib.hid hS
    have HL := Lib.hid hL
    clear hik hiz hlk hlz hS hL
    have HU := Lib.hid (And.intro hu (And.intro ha0 hno))
    clear hu hu2 ha0 hno
    go_enter Try.func62,Try.ntmps62
    go_upto_region 2 with fail
    generalize hV : World.alloc _ _ = V at HTZ HB ⊢
    have hVs : w.heap.size < V.heap.size := by rw [← hV]; simp
    clear hV
    have TZ := HTZ.out
    have hOpen := TZ
    simp only [Cells,blk,List.cons_append,List.nil_append,and_true,Nat.reduceAdd,Nat.add_zero,Nat.zero_add] at hOpen
    obtain ⟨y0,y1,y2,y3,y4,z0,z1,z2,z3,z4⟩ := hOpen
    clear TZ
    have HBV := Lib.hid HB.out
    go_upto_region 7 with fail
    refine wp_region_held_drew (S := (fun W' : World => Cells W' (blk w.heap.size 0 0 [.int .u16 xa,.int .u16 0,.int .u64 0,.int .u64 0,.slice aa an ac]))) (by kernel_rfl) (HTZ.out.fst.drew) (fun hHeld => ?_)
    refine tkU 0 ?_
    refine tkU 1 ?_
    refine tkU 2 ?_
    refine tkV 3 ?_
    refine tkV 4 ?_
    refine tkV 5 ?_
    refine tkV 6 ?_
    refine tkV 7 ?_
    refine tkV 8 ?_
    refine tkV 9 ?_
    refine tkV 10 ?_
    refine tkV 11 ?_
    refine tkV 12 ?_
    refine tkV 13 ?_
    refine tkV 14 ?_
    refine tkV 15 ?_
    refine tkV 16 ?_
    refine tkV 17 ?_
    refine tkV 18 ?_
    refine tkU 19 ?_
    refine tkU 20 ?_
    refine tkU 21 ?_
    refine tkU 22 ?_
    refine tkV 23 ?_
    refine tkV 24 ?_
    refine tkV 25 ?_
    refine tkV 26 ?_
    refine tkV 27 ?_
    refine tkU 28 ?_
    refine tkU 29 ?_
    refine wpAnyH_done (by kernel_rfl) ?_ _
    go_upto_region 9 with fail
    refine wp_region_held_drew (S := (fun W' : World => Below V.heap.size V W' ∧ V.heap.size ≤ W'.heap.size ∧ Cells W' (blk w.heap.size 0 0 [.int .u16 xa,.int .u16 0,.int .u64 0,.int .u64 0,.slice aa an ac] ++ blk b off 0 [.int .u16 za,.int .u16 zl,.int .u64 zh,.int .u64 zo,.slice zz zn zc]))) (by kernel_rfl) (⟨((Below.refl _ _).drew).drew,Nat.le_refl _,HTZ.out.drew.drew⟩) (fun hHeld => ?_)
    generalize World.drew _ = wd at hHeld ⊢
    have hz := hHeld.2.1
    repeat' first
     |refine tkU 0 ?_
     |refine tkU 1 ?_
     |refine tkU 4 ?_
     |refine tkU 5 ?_
     |refine tkU 6 ?_
     |refine tkU 7 ?_
     |refine tkU 3 ?_
     |refine tkU 9 ?_
     |refine tkU 10 ?_
     |(refine opn 2 fun K hK => ?_
       go_simp
       refine (HIK.out _ (HBV.out.trans (hHeld.1.mono HBV.out.size))).mono ?_
       rintro e wb ⟨va,rfl,hva,hBb⟩
       obtain ⟨⟨_,_,_,ao1,cap1,rfl,_,_⟩,_⟩ := hva
       rw [HLK.out]
       refine hK.out _ _ (⟨hHeld.1.trans (hBb.mono hHeld.2.1),Nat.le_trans hHeld.2.1 hBb.size,hHeld.2.2.keep hBb⟩) (fun h => ?_)
       replace hHeld := h
       clear hK K h
       try simp only [Act.put,List.setIfInBounds_toArray,List.set_cons_zero,List.set_cons_succ])
     |(refine opn 8 fun K hK => ?_
       go_simp
       refine (HIZ.out _ (HBV.out.trans (hHeld.1.mono HBV.out.size))).mono ?_
       rintro e wb ⟨vb,rfl,hvb,hBb⟩
       obtain ⟨⟨_,_,_,ao2,cap2,rfl,_,_⟩,_⟩ := hvb
       rw [HLZ.out]
       refine hK.out _ _ (⟨hHeld.1.trans (hBb.mono hHeld.2.1),Nat.le_trans hHeld.2.1 hBb.size,hHeld.2.2.keep hBb⟩) (fun h => ?_)
       replace hHeld := h
       clear hK K h
       try simp only [Act.put,List.setIfInBounds_toArray,List.set_cons_zero,List.set_cons_succ])
     |refine rd1 2 ?_
     |refine rd1 8 ?_
     |(refine wpAnyH_done (by kernel_rfl) ?_ _
       have hBF := Lib.hid (HBV.out.trans (hHeld.1.mono HBV.out.size))
       by_cases hSL : S = L
       ·have t9 : (S != L) = false := by simpa using hSL
        have t9' : ((S : Int) != (L : Int)) = false := by simp; omega
        have hfin : chkIt ki 0 L ⟨xa,0,0,0,aa,an,ac,abs⟩ = 0 := chk0 HU.out.1 HU.out.2.1 HU.out.2.2 (by show sizeI ki 0 0 an = L; rw [HS.out,hSL])
        have HFIN := Lib.hid hfin
        clear hSL hfin
        go_wp2
        go_ret
        exact ⟨ret_eq (by rw [HL.out]; exact HFIN.out.symm),hBF.out⟩
       ·have t9 : (S != L) = true := by simpa using hSL
        have t9' : ((S : Int) != (L : Int)) = true := by simp; omega
        have hfin : chkIt ki 0 L ⟨xa,0,0,0,aa,an,ac,abs⟩ = 11 := chk11 HU.out.1 HU.out.2.1 HU.out.2.2 (by show sizeI ki 0 0 an ≠ L; rw [HS.out]; exact hSL)
        have HFIN := Lib.hid hfin
        clear hSL hfin
        go_wp2
        go_ret
        exact ⟨ret_eq (by rw [HL.out]; exact HFIN.out.symm),hBF.out⟩)
   ·obtain ⟨j,hj⟩ : ∃ j,k = j + 1 := ⟨k - 1,by omega⟩
    have hpj := HP.out (by omega)
    rw [show k - 1 = j by omega] at hpj
    have cp := HCE.out j tp hpj
    have okp := HOK.out tp (List.mem_of_getElem? hpj)
    have hlast : lastOf k tp = max tp.ha tp.la := if_neg hk0
    rw [hlast]
    clear hlast hpj
    obtain ⟨pa,pl,ph,po,pp,pn,pc,pbs⟩ := tp
    simp only [itc] at cp okp ⊢
    obtain ⟨hpa,hpl,_,_,_,_⟩ := okp
    have g1 : decide ((0 : Int) < (k : Int)) = true := by simp; omega
    have g1' : decide (0 < k) = true := by simp; omega
    have e1 : IntKind.i64.wrap (j : Int) = (j : Int) := IntWalk.i64_in _ (by omega)
    have e1' : (k : Int) - 1 = (j : Int) := by omega
    have hjm : j < m := by omega
    obtain ⟨M,hM⟩ : ∃ M,max pa pl = M := ⟨_,rfl⟩
    have hM' : max (pa : Int) (pl : Int) = (M : Int) := by omega
    have hM2 : (if pa < pl then (pl : Int) else (pa : Int)) = (M : Int) := by split <;> omega
    rw [hM]
    have HTP := Lib.hid ((cells_new w [.int .u16 xa,.int .u16 0,.int .u64 0,.int .u64 0,.slice aa an ac] 101).app (cp.keep HB.out))
    clear hM hj cp hpa hpl hk0
    by_cases hle : xa ≤ M
    ·have g3 : decide (xa ≤ M) = true := by simpa using hle
     have g3' : decide ((xa : Int) ≤ (M : Int)) = true := by simp; omega
     rw [show chkIt ki M (sizeI ki zh zo zn) ⟨xa,0,0,0,aa,an,ac,abs⟩ = 13 from chk13 hu ha0 (Or.inl hle)]
     clear hle hu hu2 ha0
     go_enter Try.func62,Try.ntmps62
     go_upto_region 2 with fail
     generalize hV : World.alloc _ _ = V at HTZ HB HTP ⊢
     have hVs : w.heap.size < V.heap.size := by rw [← hV]; simp
     clear hV
     have TZ := HTZ.out
     have hOpen := TZ
     simp only [Cells,blk,List.cons_append,List.nil_append,and_true,Nat.reduceAdd,Nat.add_zero,Nat.zero_add] at hOpen
     obtain ⟨y0,y1,y2,y3,y4,z0,z1,z2,z3,z4⟩ := hOpen
     clear TZ
     have TP := HTP.out
     have hOpen := TP
     simp only [Cells,blk,List.cons_append,List.nil_append,and_true,Nat.reduceAdd,Nat.add_zero,Nat.zero_add] at hOpen
     obtain ⟨q0,q1,q2,q3,q4,p0,p1,p2,p3,p4⟩ := hOpen
     clear q0 q1 q2 q3 q4 TP
     go_upto_region 7 with fail
     refine wp_region_held_drew (S := (fun W' : World => Cells W' (blk w.heap.size 0 0 [.int .u16 xa,.int .u16 0,.int .u64 0,.int .u64 0,.slice aa an ac] ++ blk b (off + j * 5) 0 [.int .u16 pa,.int .u16 pl,.int .u64 ph,.int .u64 po,.slice pp pn pc]))) (by kernel_rfl) (HTP.out.drew) (fun hHeld => ?_)
     refine tkU 0 ?_
     refine tkU 1 ?_
     refine tkU 2 ?_
     refine tkU 3 ?_
     refine tkU 4 ?_
     refine tkU 5 ?_
     refine tkU 6 ?_
     refine tkU 7 ?_
     refine tkU 8 ?_
     refine tkU 9 ?_
     refine tkU 10 ?_
     refine tkU 11 ?_
     refine tkU 12 ?_
     refine tkU 13 ?_
     refine tkU 14 ?_
     refine tkU 15 ?_
     refine tkU 16 ?_
     refine tkU 17 ?_
     refine tkU 18 ?_
     refine tkU 19 ?_
     refine tkU 20 ?_
     refine tkV 21 ?_
     refine tkV 22 ?_
     refine tkV 23 ?_
     refine tkV 24 ?_
     refine tkV 25 ?_
     refine tkV 26 ?_
     refine tkV 27 ?_
     refine tkV 28 ?_
     refine tkU 29 ?_
     refine wpAnyH_done (by kernel_rfl) ?_ _
     go_wp2
     go_ret
     exact ⟨rfl,HB.out.drew⟩
    ·have g3 : decide (xa ≤ M) = false := by simpa using hle
     have g3' : decide ((xa : Int) ≤ (M : Int)) = false := by simp; omega
     have hno : ¬ (xa ≤ M ∨ ((ki : Int) = 17 ∧ 0 < xa)) := by rintro (h | ⟨h,_⟩) <;> omega
     obtain ⟨S,hS⟩ : ∃ S,sizeI ki 0 0 an = S := ⟨_,rfl⟩
     obtain ⟨L,hL⟩ : ∃ S,sizeI ki zh zo zn = S := ⟨_,rfl⟩
     rw [hS] at hlk hsk
     rw [hL] at hlz hsz'
     have HIK := Lib.hid hik
     have HIZ := Lib.hid hiz
     have HLK := Lib.hid hlk
     have HLZ := Lib.hid hlz
     have HS := Lib.hid hS
     have HL := Lib.hid hL
     clear hik hiz hlk hlz hS hL
     have HU := Lib.hid (And.intro hu (And.intro ha0 hno))
     clear hu hu2 ha0 hno
     go_enter Try.func62,Try.ntmps62
     go_upto_region 2 with fail
     generalize hV : World.alloc _ _ = V at HTZ HB HTP ⊢
     have hVs : w.heap.size < V.heap.size := by rw [← hV]; simp
     clear hV
     have TZ := HTZ.out
     have hOpen := TZ
     simp only [Cells,blk,List.cons_append,List.nil_append,and_true,Nat.reduceAdd,Nat.add_zero,Nat.zero_add] at hOpen
     obtain ⟨y0,y1,y2,y3,y4,z0,z1,z2,z3,z4⟩ := hOpen
     clear TZ
     have TP := HTP.out
     have hOpen := TP
     simp only [Cells,blk,List.cons_append,List.nil_append,and_true,Nat.reduceAdd,Nat.add_zero,Nat.zero_add] at hOpen
     obtain ⟨q0,q1,q2,q3,q4,p0,p1,p2,p3,p4⟩ := hOpen
     clear q0 q1 q2 q3 q4 TP
     have HBV := Lib.hid HB.out
     go_upto_region 7 with fail
     refine wp_region_held_drew (S := (fun W' : World => Cells W' (blk w.heap.size 0 0 [.int .u16 xa,.int .u16 0,.int .u64 0,.int .u64 0,.slice aa an ac] ++ blk b (off + j * 5) 0 [.int .u16 pa,.int .u16 pl,.int .u64 ph,.int .u64 po,.slice pp pn pc]))) (by kernel_rfl) (HTP.out.drew) (fun hHeld => ?_)
     refine tkU 0 ?_
     refine tkU 1 ?_
     refine tkU 2 ?_
     refine tkU 3 ?_
     refine tkU 4 ?_
     refine tkU 5 ?_
     refine tkU 6 ?_
     refine tkU 7 ?_
     refine tkU 8 ?_
     refine tkU 9 ?_
     refine tkU 10 ?_
     refine tkU 11 ?_
     refine tkU 12 ?_
     refine tkU 13 ?_
     refine tkU 14 ?_
     refine tkU 15 ?_
     refine tkU 16 ?_
     refine tkU 17 ?_
     refine tkU 18 ?_
     refine tkU 19 ?_
     refine tkU 20 ?_
     refine tkU 21 ?_
     refine tkU 22 ?_
     refine tkV 23 ?_
     refine tkV 24 ?_
     refine tkV 25 ?_
     refine tkV 26 ?_
     refine tkV 27 ?_
     refine tkU 28 ?_
     refine tkU 29 ?_
     refine wpAnyH_done (by kernel_rfl) ?_ _
     go_upto_region 9 with fail
     refine wp_region_held_drew (S := (fun W' : World => Below V.heap.size V W' ∧ V.heap.size ≤ W'.heap.size ∧ Cells W' (blk w.heap.size 0 0 [.int .u16 xa,.int .u16 0,.int .u64 0,.int .u64 0,.slice aa an ac] ++ blk b off 0 [.int .u16 za,.int .u16 zl,.int .u64 zh,.int .u64 zo,.slice zz zn zc]))) (by kernel_rfl) (⟨((Below.refl _ _).drew).drew,Nat.le_refl _,HTZ.out.drew.drew⟩) (fun hHeld => ?_)
     generalize World.drew _ = wd at hHeld ⊢
     have hz := hHeld.2.1
     repeat' first
      |refine tkU 0 ?_
      |refine tkU 1 ?_
      |refine tkU 4 ?_
      |refine tkU 5 ?_
      |refine tkU 6 ?_
      |refine tkU 7 ?_
      |refine tkU 3 ?_
      |refine tkU 9 ?_
      |refine tkU 10 ?_
      |(refine opn 2 fun K hK => ?_
        go_simp
        refine (HIK.out _ (HBV.out.trans (hHeld.1.mono HBV.out.size))).mono ?_
        rintro e wb ⟨va,rfl,hva,hBb⟩
        obtain ⟨⟨_,_,_,ao1,cap1,rfl,_,_⟩,_⟩ := hva
        rw [HLK.out]
        refine hK.out _ _ (⟨hHeld.1.trans (hBb.mono hHeld.2.1),Nat.le_trans hHeld.2.1 hBb.size,hHeld.2.2.keep hBb⟩) (fun h => ?_)
        replace hHeld := h
        clear hK K h
        try simp only [Act.put,List.setIfInBounds_toArray,List.set_cons_zero,List.set_cons_succ])
      |(refine opn 8 fun K hK => ?_
        go_simp
        refine (HIZ.out _ (HBV.out.trans (hHeld.1.mono HBV.out.size))).mono ?_
        rintro e wb ⟨vb,rfl,hvb,hBb⟩
        obtain ⟨⟨_,_,_,ao2,cap2,rfl,_,_⟩,_⟩ := hvb
        rw [HLZ.out]
        refine hK.out _ _ (⟨hHeld.1.trans (hBb.mono hHeld.2.1),Nat.le_trans hHeld.2.1 hBb.size,hHeld.2.2.keep hBb⟩) (fun h => ?_)
        replace hHeld := h
        clear hK K h
        try simp only [Act.put,List.setIfInBounds_toArray,List.set_cons_zero,List.set_cons_succ])
      |refine rd1 2 ?_
      |refine rd1 8 ?_
      |(refine wpAnyH_done (by kernel_rfl) ?_ _
        have hBF := Lib.hid (HBV.out.trans (hHeld.1.mono HBV.out.size))
        by_cases hSL : S = L
        ·have t9 : (S != L) = false := by simpa using hSL
         have t9' : ((S : Int) != (L : Int)) = false := by simp; omega
         have hfin : chkIt ki M L ⟨xa,0,0,0,aa,an,ac,abs⟩ = 0 := chk0 HU.out.1 HU.out.2.1 HU.out.2.2 (by show sizeI ki 0 0 an = L; rw [HS.out,hSL])
         have HFIN := Lib.hid hfin
         clear hSL hfin
         go_wp2
         go_ret
         exact ⟨ret_eq (by rw [HL.out]; exact HFIN.out.symm),hBF.out⟩
        ·have t9 : (S != L) = true := by simpa using hSL
         have t9' : ((S : Int) != (L : Int)) = true := by simp; omega
         have hfin : chkIt ki M L ⟨xa,0,0,0,aa,an,ac,abs⟩ = 11 := chk11 HU.out.1 HU.out.2.1 HU.out.2.2 (by show sizeI ki 0 0 an ≠ L; rw [HS.out]; exact hSL)
         have HFIN := Lib.hid hfin
         clear hSL hfin
         go_wp2
         go_ret
         exact ⟨ret_eq (by rw [HL.out]; exact HFIN.out.symm),hBF.out⟩)
 ·have hu' : unuI ki xl xh xo an = false := by simpa using hu
  rw [chk1 (t := ⟨xa,xl,xh,xo,aa,an,ac,abs⟩) hu']
  rw [show unuI ki xl xh xo an = ((xl == 0) && ((xh == 0) && (xo == 0))) from by unfold unuI; rw [if_neg h5,if_neg h17]] at hu'
  have hB := (Below.refl w.heap.size w).alloc (Nat.le_refl _) (.cells #[.int .u16 xa,.int .u16 xl,.int .u64 xh,.int .u64 xo,.slice aa an ac] 101)
  have T0 := cells_new w [.int .u16 xa,.int .u16 xl,.int .u64 xh,.int .u64 xo,.slice aa an ac] 101
  have HTZ := Lib.hid T0
  have HB := Lib.hid hB
  have hz := fun W => run_build0 W
  have HU := Lib.hid hu'
  have hOpen := ck
  simp only [Cells,blk,List.cons_append,List.nil_append,and_true,Nat.reduceAdd,Nat.add_zero,Nat.zero_add] at hOpen
  obtain ⟨x0,x1,x2,x3,x4⟩ := hOpen
  clear ck cz T0 hB hu hu'
  go_enter Try.func62,Try.ntmps62
  go_upto_region 2 with fail
  generalize hV : World.alloc _ _ = V at HTZ HB ⊢
  clear hV
  have TZ := HTZ.out
  have hOpen := TZ
  simp only [Cells,blk,List.cons_append,List.nil_append,and_true,Nat.reduceAdd,Nat.add_zero,Nat.zero_add] at hOpen
  obtain ⟨y0,y1,y2,y3,y4⟩ := hOpen
  clear TZ
  go_wp2_with fail
  all_goals
   first
   |(go_ret; exact ⟨rfl,HB.out⟩)
   |(exfalso; have := HU.out; simp_all; done)
   |(exfalso; have := HU.out; simp_all; omega)
end Go.Proofs.Ytldcihjddebciaa
