/- client: services, elements. -/
import Derived.Test.YtldcihjddebciaaGreatDClU
import Derived.Shelf.Abstract
set_option linter.unusedSimpArgs false
set_option linter.unusedVariables false
set_option maxRecDepth 100000
set_option maxHeartbeats 20000000
namespace Go.Proofs.YtldcihjddebciaaGreat
open Go.RowKit
/-- what all elements yield -/
def gets (g : Im → Option Fd) : List Im → Option (List Fd)
 |[] => some []
 |i :: l => (g i).bind fun f => (gets g l).map (f :: ·)
theorem gets_append (g : Im → Option Fd) : ∀ l r : List Im,gets g (l ++ r) = (gets g l).bind fun a => (gets g r).map (a ++ ·)
 |[],r => by simp [gets]
 |i :: l,r => by
  simp only [List.cons_append,gets,gets_append g l r]
  cases g i <;> cases gets g l <;> cases gets g r <;> simp
theorem gets_len (g : Im → Option Fd) : ∀ (l : List Im) (fs : List Fd),gets g l = some fs → fs.length = l.length
 |[],fs,h => by injection h with h; subst h; rfl
 |i :: l,fs,h => by
  simp only [gets] at h
  cases h1 : g i with
  |none => rw [h1] at h; cases h
  |some f =>
   rw [h1] at h
   cases h2 : gets g l with
   |none => rw [h2] at h; cases h
   |some r =>
    rw [h2] at h
    injection h with h
    subst h
    simp [gets_len g l r h2]
theorem gets_fail (g : Im → Option Fd) (l : List Im) (k : Nat) (i : Im) (h : l[k]? = some i) (hg : g i = none) : gets g l = none := by
 have hk : k < l.length := (List.getElem?_eq_some_iff.1 h).1
 have e : l = l.take k ++ (i :: l.drop (k + 1)) := by
  rw [← (List.getElem?_eq_some_iff.1 h).2,← List.drop_eq_getElem_cons hk,List.take_append_drop]
 rw [e,gets_append]
 simp only [gets,hg]
 cases gets g (l.take k) <;> rfl
theorem gets_snoc (g : Im → Option Fd) (l : List Im) (k : Nat) (i : Im) (f : Fd) (fs : List Fd) (h : l[k]? = some i) (hg : g i = some f) (hf : gets g (l.take k) = some fs) : gets g (l.take (k + 1)) = some (fs ++ [f]) := by
 have hk : k < l.length := (List.getElem?_eq_some_iff.1 h).1
 rw [List.take_succ_eq_append_getElem hk,(List.getElem?_eq_some_iff.1 h).2,gets_append,hf]
 simp [gets,hg]
/-- a number of the last element -/
def lastI (d : Nat) (h : Im → Nat) (l : List Im) : Nat := (l.getLast?.map h).getD d
theorem lastI_snoc (d : Nat) (h : Im → Nat) (l : List Im) (k : Nat) (i : Im) (hk : l[k]? = some i) : lastI d h (l.take (k + 1)) = h i := by
 have h1 : k < l.length := (List.getElem?_eq_some_iff.1 hk).1
 unfold lastI
 rw [List.take_succ_eq_append_getElem h1,(List.getElem?_eq_some_iff.1 hk).2]
 simp
def Sp.addFo (x : Sp) (fs : List Fd) : Sp := { x with c := { x.c with tk := { x.c.tk with fo := x.c.tk.fo ++ fs } } }
theorem Sp.addFo_fail (x : Sp) (fs : List Fd) (code : Int) : (x.addFo fs).fail code = x.fail code := by
 simp only [Sp.fail,Sp.endd,Sp.report,Sp.close,Sp.addFo]
/-- a service of an element -/
def svcF (a : Nat) (i : Im) : Option Fd := if a ≤ i.ha ∧ (decR i.bs).2.2 = 0 then some ⟨i.ha,i.la,0,0,(decR i.bs).1,(decR i.bs).2.1⟩ else none
/-- an attribute of an element, in a range -/
def elF (g : Im → Option Fd) (a b : Nat) (i : Im) : Option Fd := if a ≤ i.ha ∧ i.ha ≤ b then g i else none
def Sp.listed (x : Sp) (r : Option (List Fd)) (last stop : Nat) : Sp := match r with
 |none => x.fail 4
 |some fs => if last = stop then (x.addFo fs).found else (x.addFo fs).send { x.c.ad with ha := last + 1 }
theorem Sp.listed_none (x : Sp) (r : Option (List Fd)) (last stop : Nat) (h : r = none) : x.listed r last stop = x.fail 4 := by rw [h]; rfl
theorem Sp.listed_found (x : Sp) (r : Option (List Fd)) (last stop : Nat) (fs : List Fd) (h : r = some fs) (h2 : last = stop) : x.listed r last stop = (x.addFo fs).found := by
 rw [h]
 exact if_pos h2
theorem Sp.listed_more (x : Sp) (r : Option (List Fd)) (last stop : Nat) (fs : List Fd) (h : r = some fs) (h2 : ¬ last = stop) : x.listed r last stop = (x.addFo fs).send { x.c.ad with ha := last + 1 } := by
 rw [h]
 exact if_neg h2
def Sp.services (x : Sp) (l : List Im) : Sp := x.listed (gets (svcF x.c.ad.ha) l) (lastI 65535 Im.la l) 65535
def Sp.elements (g : Im → Option Fd) (x : Sp) (l : List Im) : Sp := x.listed (gets (elF g x.c.ad.ha x.c.ad.la) l) (lastI x.c.tk.la Im.ha l) x.c.tk.la
theorem fcells_snoc (l : List Fd) (f : Fd) : fcells (l ++ [f]) = fcells l ++ fenc f := by simp [fcells]
theorem last_le (g : Im → Option Fd) (a b d : Nat) {l : List Im} {fs : List Fd} (h : gets (elF g a b) l = some fs) (hd : d ≤ b) : lastI d Im.ha l ≤ b := by
 unfold lastI
 cases hq : l.getLast? with
 |none => simpa using hd
 |some i =>
  simp only [Option.map_some,Option.getD_some]
  obtain ⟨k,hk⟩ := List.mem_iff_getElem?.1 (List.mem_of_getLast? hq)
  by_cases hc : a ≤ i.ha ∧ i.ha ≤ b
  ·exact hc.2
  ·have := gets_fail (elF g a b) l k i hk (by unfold elF; exact if_neg hc)
   rw [this] at h
   cases h
theorem services_any (qs : List (Im × Value)) (v : Value) (w : World) (B X : Nat) (s : Sv) (h : Sq w B X s) (hw : ∀ t ∈ s.c.wt,TkOk t) (hps : s.ps.length ≤ 1000) (hus : s.us.length ≤ 1000) (hI : ItB w B v qs) (hfo : s.c.tk.fo.length + qs.length ≤ 100000) (had : s.c.ad.vs.length ≤ 1000000) :
 Calls Tryz.prog 82 #[.pointer (some ⟨X,0,none⟩),v] w fun e w' => e = .returned (.tuple #[]) ∧ ∃ s',Sq w' B X s' ∧ s'.sp = s.sp.services (qs.map (·.1)) ∧ Below B w w' := by
 obtain ⟨i0,hi0,hz0,hz1,hz2⟩ := info_parts Tryz.info_Found
 have hBw := Nat.le_trans h.own (Nat.le_of_lt h.blk.lt)
 obtain ⟨a,c,rfl⟩ := hI.sr.form
 obtain ⟨n,hn⟩ : ∃ n,qs.length = n := ⟨_,rfl⟩
 have hnm : n ≤ 100000 := by omega
 rw [hn] at hI ⊢
 have HI := Lib.hid hI
 have HN := Lib.hid hn
 have HS := Lib.hid h
 have HF := Lib.hid hfo
 clear hI hn hfo
 go_enter Tryz.func82,Tryz.ntmps82
 go_wp2_with fail
 go_loopw [4,6,7,8,11] (fun a4 _ _ _ i wr => ∃ (k lst : Nat) (s1 : Sv) (fs : List Fd),a4 = .int .u16 lst ∧ i = .int .i64 k ∧ k ≤ n ∧ Hid (Sq wr B X s1 ∧ s1.sp = s.sp.addFo fs ∧ gets (svcF s.c.ad.ha) ((qs.map (·.1)).take k) = some fs ∧ lst = lastI 65535 Im.la ((qs.map (·.1)).take k) ∧ Below B w wr)) (fun _ _ _ _ i _ => n - (intOf i).toNat)
 case atStart => exact ⟨0,65535,s,[],rfl,by simp,Nat.zero_le _,Lib.hid ⟨HS.out,by simp [Sp.addFo,Sv.sp],rfl,rfl,Below.refl _ _⟩⟩
 case round =>
  obtain ⟨k,lst,s1,fs,rfl,rfl,hk,HR⟩ := hrel
  have e1 : s1.c.ad = s.c.ad := congrArg (fun x : Sp => x.c.ad) HR.out.2.1
  have e2 : s1.c.wt = s.c.wt := congrArg (fun x : Sp => x.c.wt) HR.out.2.1
  have e3 : s1.c.tk.fo = s.c.tk.fo ++ fs := congrArg (fun x : Sp => x.c.tk.fo) HR.out.2.1
  have e4 : s1.ps.length = s.ps.length := by have h := congrArg (fun x : Sp => x.ps.length) HR.out.2.1; simpa [Sv.sp,Sp.addFo] using h
  have e5 : s1.us.length = s.us.length := by have h := congrArg (fun x : Sp => x.us.length) HR.out.2.1; simpa [Sv.sp,Sp.addFo] using h
  have hw1 : ∀ t ∈ s1.c.wt,TkOk t := by rw [e2]; exact hw
  have hp1 : s1.ps.length ≤ 1000 := by rw [e4]; exact hps
  have hu1 : s1.us.length ≤ 1000 := by rw [e5]; exact hus
  have hfl : fs.length = k := by have h := gets_len _ _ _ HR.out.2.2.1; rw [h,List.length_take,List.length_map,HN.out]; omega
  have hf1 : s1.c.tk.fo.length ≤ 100000 := by rw [e3,List.length_append,hfl]; have := HF.out; have := HN.out; omega
  have HE1 := Lib.hid e1
  have HE3 := Lib.hid e3
  clear e1 e2 e3 e4 e5 hfl
  rename World => wr
  by_cases hlt : k < n
  ·have g1 : decide (k < n) = true := by simpa using hlt
   have i1 : (k : Int) < (n : Int) := by omega
   have w1 : IntKind.i64.wrap ((k : Int) + 1) = (k : Int) + 1 := IntWalk.i64_in _ (by omega)
   have hkq : k < qs.length := by rw [HN.out]; exact hlt
   obtain ⟨⟨i,vi⟩,hq⟩ : ∃ q,qs[k]? = some q := ⟨qs[k],List.getElem?_eq_getElem hkq⟩
   have hqi : (qs.map (·.1))[k]? = some i := by rw [List.getElem?_map,hq]; rfl
   have hqm : (i,vi) ∈ qs := List.mem_of_getElem? hq
   have hIr := HI.out.below HR.out.2.2.2.2
   obtain ⟨b,off,cap,hve,hb,hcs⟩ := hIr.cells hq
   have hve2 : Value.slice a n c = .slice (some ⟨b,off,none⟩) n cap := by rw [hve,HN.out]
   injection hve2 with ha hnn hcc
   subst ha
   subst hcc
   obtain ⟨hbv,hbl,hbm⟩ := hIr.bv (i,vi) hqm
   simp only at hbv hbl hbm
   have hrg := HI.out.rg (i,vi) hqm
   simp only at hrg
   obtain ⟨va,vc,rfl⟩ := hbv.form
   obtain ⟨L,hL⟩ : ∃ L,i.bs.length = L := ⟨_,rfl⟩
   have f0 := hcs 0 (.int .u16 i.ha) rfl
   have f1 := hcs 1 (.int .u16 i.la) rfl
   have f2 := hcs 2 (.int .u64 i.hi) rfl
   have f3 := hcs 3 (.int .u64 i.lo) rfl
   have f4 := hcs 4 _ rfl
   simp only [Nat.add_zero,← Nat.add_assoc] at f0 f1 f2 f3 f4
   rw [hL] at f4 hbv hbm
   have HQ := Lib.hid hqi
   have HLL := Lib.hid hL
   have HRG := Lib.hid hrg
   have H0 := HR.out.1
   have hl0 := HR.out.2.2.2.2
   clear hcs hve hnn hq hqi hqm hIr hL hkq hbl hrg hb
   go_upto_region 4 with fail
   generalize hX : World.alloc wr _ = w1
   obtain ⟨hnb,hB1,hz1'⟩ := alloc_named hX
   have bI1 : Blk w1 wr.heap.size 142 [.int .u16 i.ha,.int .u16 i.la,.int .u64 i.hi,.int .u64 i.lo,.slice va L vc] := hnb
   have H1 := H0.below hB1
   have hl1 := hl0.trans (hB1.mono (Nat.le_trans H0.own (Nat.le_of_lt H0.blk.lt)))
   have hbv1 := hbv.below hB1
   clear hX hnb hz1' hB1 H0 hl0 hbv f0 f1 f2 f3 f4
   have m0 := bI1.cell (j := 0) (v := .int .u16 i.ha) rfl
   have m1 := bI1.cell (j := 1) (v := .int .u16 i.la) rfl
   have m2 := bI1.cell (j := 2) (v := .int .u64 i.hi) rfl
   have m3 := bI1.cell (j := 3) (v := .int .u64 i.lo) rfl
   clear m0 m1 m2 m3
   have m4 := bI1.cell (j := 4) (v := .slice va L vc) rfl
   go_wp2_with fail
   refine (decode_any _ i.bs _ hbv1.at (by have := HLL.out; omega)).mono ?_
   rintro e w2 ⟨rfl,hB2⟩
   obtain ⟨D1,hD1⟩ : ∃ x,(decR i.bs).1 = x := ⟨_,rfl⟩
   obtain ⟨D2,hD2⟩ : ∃ x,(decR i.bs).2.1 = x := ⟨_,rfl⟩
   obtain ⟨D3,hD3⟩ : ∃ x,(decR i.bs).2.2 = x := ⟨_,rfl⟩
   rw [hD1,hD2,hD3]
   have hgi : svcF s.c.ad.ha i = if s.c.ad.ha ≤ i.ha ∧ D3 = 0 then some ⟨i.ha,i.la,0,0,D1,D2⟩ else none := by
    unfold svcF
    rw [hD1,hD2,hD3]
   have HG := Lib.hid hgi
   have hw2 : wr.heap.size < w2.heap.size := by have := bI1.lt; have := hB2.size; omega
   have bI2 := bI1.below hB2
   have H2 := H1.below hB2
   have hl2 := hl1.trans (hB2.mono (Nat.le_trans H1.own (Nat.le_of_lt H1.blk.lt)))
   clear hgi hD1 hD2 hD3 m4 hbv1 hB2 H1 hl1 bI1
   go_upto_region 5 with fail
   generalize hX : World.alloc w2 _ = w3
   obtain ⟨hnb,hB3,hz3⟩ := alloc_named hX
   have bU : Blk w3 w2.heap.size 26 [.int .u64 D1,.int .u64 D2] := hnb
   have bI3 := bI2.below hB3
   have H3 := H2.below hB3
   have hl3 := hl2.trans (hB3.mono (Nat.le_trans H2.own (Nat.le_of_lt H2.blk.lt)))
   clear hX hnb hz3 hB3 bI2 H2 hl2
   have HAD := HE1.out
   have x12 := H3.blk.cell (j := 12) (v := .int .u16 s1.c.ad.ha) rfl
   rw [HAD] at x12
   have TE : Cells w3.drew [(wr.heap.size,0,.int .u16 i.ha),(X,12,.int .u16 s.c.ad.ha)] := ⟨bI3.cell (j := 0) rfl,x12,trivial⟩
   have H4 := H3.drew
   have hl4 := hl3.drew
   have bI4 := bI3.drew
   have bU4 := bU.drew
   clear x12 HAD H3 hl3 bI3 bU
   by_cases e1 : i.ha < s.c.ad.ha
   ·have t1 : decide (i.ha < s.c.ad.ha) = true := by simpa using e1
    have t1' : decide (((i.ha : Nat) : Int) < ((s.c.ad.ha : Nat) : Int)) = true := by simp; omega
    have E1 := Lib.hid e1
    clear e1
    refine wp_region_held_drew (S := (fun W' : World => Cells W' [(wr.heap.size,0,.int .u16 i.ha),(X,12,.int .u16 s.c.ad.ha)])) (by kernel_rfl) (TE) (fun hHeld => ?_)
    generalize World.drew _ = wd at hHeld TE H4 hl4 bI4 bU4 ⊢
    refine tkU 0 ?_
    refine tkU 1 ?_
    refine tkU 2 ?_
    refine tkU 3 ?_
    refine tkU 4 ?_
    refine tkU 5 ?_
    refine tkU 6 ?_
    refine tkU 7 ?_
    refine tkU 8 ?_
    refine tkU 9 ?_
    refine tkV 10 ?_
    refine tkV 11 ?_
    refine tkU 12 ?_
    refine wpAnyH_done (by kernel_rfl) ?_ _
    go_wp2_with fail
    refine (fail_any 4 _ B X s1 H4 hw1 hp1 hu1).mono ?_
    rintro e w8 ⟨rfl,s8,H8,hs8,hl8⟩
    go_wp2_with fail
    refine bodyPost_ret (results_none rfl _ _ _) rfl ⟨rfl,s8,H8,hs8.trans (Eq.symm ?_),hl4.trans hl8⟩
    rw [HR.out.2.1,Sp.addFo_fail]
    exact Sp.listed_none _ _ _ _ (gets_fail _ _ k i HQ.out (by show svcF s.c.ad.ha i = none; rw [HG.out,if_neg (fun hc => Nat.not_le_of_lt E1.out hc.1)]))
   ·have t1 : decide (i.ha < s.c.ad.ha) = false := by simpa using e1
    have t1' : decide (((i.ha : Nat) : Int) < ((s.c.ad.ha : Nat) : Int)) = false := by simp; omega
    have E1 := Lib.hid e1
    clear e1
    by_cases e2 : D3 = 0
    ·have t2 : (D3 != 0) = false := by simp [e2]
     have E2 := Lib.hid e2
     clear e2
     refine wp_region_held_drew (S := (fun W' : World => Cells W' [(wr.heap.size,0,.int .u16 i.ha),(X,12,.int .u16 s.c.ad.ha)])) (by kernel_rfl) (TE) (fun hHeld => ?_)
     generalize World.drew _ = wd at hHeld TE H4 hl4 bI4 bU4 ⊢
     refine tkU 0 ?_
     refine tkU 1 ?_
     refine tkU 2 ?_
     refine tkU 3 ?_
     refine tkU 4 ?_
     refine tkU 5 ?_
     refine tkU 6 ?_
     refine tkU 7 ?_
     refine tkU 8 ?_
     refine tkU 9 ?_
     refine tkU 10 ?_
     refine tkU 11 ?_
     refine tkU 12 ?_
     refine wpAnyH_done (by kernel_rfl) ?_ _
     have m8 := H4.blk.cell (j := 8) (v := s1.fv) rfl
     obtain ⟨oa,oc,hov⟩ := own_form H4.pt.fv
     obtain ⟨FL,hFL⟩ : ∃ x,s1.c.tk.fo.length = x := ⟨_,rfl⟩
     rw [hFL] at hov hf1
     rw [hov] at m8
     have HOV := Lib.hid hov
     have HFL := Lib.hid hFL
     have mF : ∀ W : World,Sq W B X s1 → W.cell? ⟨X,8,none⟩ = some (.slice oa FL oc) := fun W h => by rw [h.blk.cell (j := 8) (v := s1.fv) rfl,HOV.out]
     have MF := Lib.hid mF
     clear hov hFL mF TE
     go_upto_region 7 with fail
     have TB := bI4.cells.app bU4.cells
     have TBd := TB.drew
     have H5 := H4.drew
     have hl5 := hl4.drew
     have bI5 := bI4.drew
     have bU5 := bU4.drew
     have hIlt : wr.heap.size < wd.heap.size := bI4.lt
     have m8 := MF.out _ H5
     clear TB H4 hl4 bI4 bU4
     refine wp_region_held_drew (S := (fun W' : World => Cells W' (blk wr.heap.size 0 0 [.int .u16 i.ha,.int .u16 i.la,.int .u64 i.hi,.int .u64 i.lo,.slice va L vc] ++ blk w2.heap.size 0 0 [.int .u64 D1,.int .u64 D2]))) (by kernel_rfl) (TBd) (fun hHeld => ?_)
     generalize World.drew _ = wd at hHeld TBd H5 hl5 bI5 bU5 m8 ⊢
     repeat' first
      |refine tkU 0 ?_
      |refine tkU 1 ?_
      |refine tkU 2 ?_
      |refine tkU 3 ?_
      |refine tkU 4 ?_
      |refine tkU 5 ?_
      |refine tkU 7 ?_
      |refine tkU 8 ?_
      |refine tkU 9 ?_
      |refine tkU 10 ?_
      |refine tkU 11 ?_
      |refine tkU 12 ?_
      |refine tkU 15 ?_
      |refine tkU 16 ?_
      |refine tkU 17 ?_
      |refine tkU 18 ?_
      |(refine opn 6 fun K hK => ?_
        go_simp
        refine hK.out _ _ (hHeld) (fun h => ?_)
        replace hHeld := h
        clear hK K h
        try simp only [Act.put,List.setIfInBounds_toArray,List.set_cons_zero,List.set_cons_succ])
      |(refine opn 13 fun K hK => ?_
        go_simp
        generalize hX : World.alloc _ (.cells _ 39) = w5
        obtain ⟨hnb,hB5,hz5⟩ := alloc_named hX
        have hnews : ∀ (j : Nat) (u : Value),([.int .u16 i.ha,.int .u16 i.la,.int .u16 0,.int .i64 0,.int .u64 D1,.int .u64 D2] : List Value)[j]? = some u → w5.cell? ((⟨wd.heap.size,0,none⟩ : Addr).add j) = some u := fun j u hj => by
         rw [addr_off,Nat.zero_add]
         exact Blk.cell (W := w5) (B := wd.heap.size) (t := 39) (cs := [.int .u16 i.ha,.int .u16 i.la,.int .u16 0,.int .i64 0,.int .u64 D1,.int .u64 D2]) hnb hj
        have H5 := H5.below hB5
        have hl5 := hl5.trans (hB5.mono (by have := hl5.size; omega))
        have bI5 := bI5.below hB5
        have bU5 := bU5.below hB5
        have TBd := TBd.keep hB5
        have m8 := MF.out _ H5
        clear hX hB5 hnb
        refine hK.out _ _ (TBd) (fun h => ?_)
        replace hHeld := h
        clear hK K h
        try simp only [Act.put,List.setIfInBounds_toArray,List.set_cons_zero,List.set_cons_succ])
      |(refine opn 14 fun K hK => ?_
        refine step_append_own (by rfl) _ _ 36 (by rfl) B 39 i0 _ 6 32 Tryz.underlying36 hi0 hz0 hz1 hz2 rfl (by decide) (.slice oa FL oc) FL (fcells s1.c.tk.fo) (by rfl) (by rw [← HOV.out,← HFL.out]; exact H5.pt.fv) ⟨wd.heap.size,0,none⟩ 1 1 [.int .u16 i.ha,.int .u16 i.la,.int .u16 0,.int .i64 0,.int .u64 D1,.int .u64 D2] (by rfl) (by rfl) hnews (by simp [Value.oneCell']) (by unfold maxLen; omega) (by omega) (by have := hl5.size; omega) ?_
        intro v6 w6 hown6 hg6 hor6
        rw [← HOV.out] at hg6 hor6
        have hfd6 : FdO B w6 v6 (s1.c.tk.fo ++ [⟨i.ha,i.la,0,0,D1,D2⟩]) := by
         unfold FdO
         rw [fcells_snoc,List.length_append,HFL.out]
         exact hown6
        have HAPP := Lib.hid (fun W' (e : World.setCell w6 ⟨X,8,none⟩ v6 = W') => e ▸ (H5.app_fo (x := ⟨i.ha,i.la,0,0,D1,D2⟩) hg6 hfd6 hor6))
        have hneI : some wr.heap.size ≠ s1.fv.ownBlock := fun e => by have := own_lt HR.out.1.pt.fv _ e.symm; omega
        have bI5 := bI5.kept hg6 hneI
        have bU5 := bU5.kept hg6 (fun e => by have := own_lt HR.out.1.pt.fv _ e.symm; omega)
        have m8 : w6.cell? ⟨X,8,none⟩ = some (.slice oa FL oc) := (World.cell?_of_block (a := ⟨X,8,none⟩) (hg6.block X H5.blk.lt (fun e => H5.ne.1 e.symm))).trans (MF.out _ H5)
        have z8 : w6.frozen? ⟨X,8,none⟩ = false := (H5.blk.kept hg6 (fun e => H5.ne.1 e.symm)).frozen 8
        obtain ⟨oa6,oc6,rfl⟩ := own_form hown6
        have TBd : Cells w6 (blk wr.heap.size 0 0 [.int .u16 i.ha,.int .u16 i.la,.int .u64 i.hi,.int .u64 i.lo,.slice va L vc] ++ blk w2.heap.size 0 0 [.int .u64 D1,.int .u64 D2]) := bI5.cells.app bU5.cells
        clear hnews hown6 hg6 hor6 H5 hneI hfd6
        refine hK.out _ _ (TBd) (fun h => ?_)
        replace hHeld := h
        clear hK K h
        try simp only [Act.put,List.setIfInBounds_toArray,List.set_cons_zero,List.set_cons_succ])
      |(refine opn 19 fun K hK => ?_
        go_simp
        generalize hX : World.setCell w6 _ _ = w7
        obtain ⟨H7,hl7⟩ := HAPP.out w7 hX
        have bI7 := hX ▸ bI5.other (o := 8) (by have := HR.out.1.blk.lt; omega) (.slice oa6 (FL + 1) oc6)
        have bU7 := hX ▸ bU5.other (o := 8) (by have := HR.out.1.blk.lt; omega) (.slice oa6 (FL + 1) oc6)
        have TBd : Cells w7 (blk wr.heap.size 0 0 [.int .u16 i.ha,.int .u16 i.la,.int .u64 i.hi,.int .u64 i.lo,.slice va L vc] ++ blk w2.heap.size 0 0 [.int .u64 D1,.int .u64 D2]) := bI7.cells.app bU7.cells
        clear HAPP m8 z8 hX
        refine hK.out _ _ (TBd) (fun h => ?_)
        replace hHeld := h
        clear hK K h
        try simp only [Act.put,List.setIfInBounds_toArray,List.set_cons_zero,List.set_cons_succ])
      |refine rd2 6 13 ?_ ?_
      |refine rd1 13 ?_
      |refine rd1 14 ?_
      |refine rd1 19 ?_
      |refine rd1 6 ?_
      |(refine wpAnyH_done (by kernel_rfl) ?_ _
        have m1 := bI7.cell (j := 1) (v := .int .u16 i.la) rfl
        have HFIN := Lib.hid (And.intro H7 (hl5.trans hl7))
        clear H7 hl7 bI7 bU7 hl5 bI5 bU5 TBd hHeld
        go_wp2_with fail
        refine ⟨⟨k + 1,i.la,_,fs ++ [⟨i.ha,i.la,0,0,D1,D2⟩],rfl,by simp,hlt,Lib.hid ⟨HFIN.out.1,?_,?_,?_,HFIN.out.2⟩⟩,?_⟩
        ·have hx := HR.out.2.1
         simp only [Sv.sp,Sp.addFo] at hx ⊢
         injection hx with q1 q2 q3 q4
         rw [q1,q2,q3,q4]
         simp
        ·exact gets_snoc _ _ k i _ fs HQ.out (by rw [HG.out,if_pos ⟨Nat.le_of_not_lt E1.out,E2.out⟩]) HR.out.2.2.1
        ·exact (lastI_snoc _ _ _ k i HQ.out).symm
        ·simp [intOf]
         omega)
    ·have t2 : (D3 != 0) = true := by simp [e2]
     have E2 := Lib.hid e2
     clear e2
     refine wp_region_held_drew (S := (fun W' : World => Cells W' [(wr.heap.size,0,.int .u16 i.ha),(X,12,.int .u16 s.c.ad.ha)])) (by kernel_rfl) (TE) (fun hHeld => ?_)
     generalize World.drew _ = wd at hHeld TE H4 hl4 bI4 bU4 ⊢
     refine tkU 0 ?_
     refine tkU 1 ?_
     refine tkU 2 ?_
     refine tkU 3 ?_
     refine tkU 4 ?_
     refine tkU 5 ?_
     refine tkU 6 ?_
     refine tkU 7 ?_
     refine tkU 8 ?_
     refine tkU 9 ?_
     refine tkU 10 ?_
     refine tkU 11 ?_
     refine tkU 12 ?_
     refine wpAnyH_done (by kernel_rfl) ?_ _
     go_wp2_with fail
     refine (fail_any 4 _ B X s1 H4 hw1 hp1 hu1).mono ?_
     rintro e w8 ⟨rfl,s8,H8,hs8,hl8⟩
     go_wp2_with fail
     refine bodyPost_ret (results_none rfl _ _ _) rfl ⟨rfl,s8,H8,hs8.trans (Eq.symm ?_),hl4.trans hl8⟩
     rw [HR.out.2.1,Sp.addFo_fail]
     exact Sp.listed_none _ _ _ _ (gets_fail _ _ k i HQ.out (by show svcF s.c.ad.ha i = none; rw [HG.out,if_neg (fun hc => E2.out hc.2)]))
  ·have g1 : decide (k < n) = false := by simpa using hlt
   obtain rfl : k = n := by omega
   obtain ⟨H0,hsp,hgt,hlst,hl0⟩ := HR.out
   rw [List.take_of_length_le (by rw [List.length_map,HN.out]; exact Nat.le_refl _)] at hgt hlst
   have HGT := Lib.hid hgt
   have HLST := Lib.hid hlst
   have HSP := Lib.hid hsp
   have had1 : s1.c.ad.vs.length ≤ 1000000 := by rw [HE1.out]; exact had
   have hll : lst < 65536 := by
    rw [hlst]
    unfold lastI
    cases hq : (qs.map (·.1)).getLast? with
    |none => simp
    |some i =>
     have hm := List.mem_of_getLast? hq
     obtain ⟨q,hq1,hq2⟩ := List.mem_map.1 hm
     have := HI.out.rg q hq1
     subst hq2
     simp only [Option.map_some,Option.getD_some]
     omega
   clear hgt hlst hsp HR
   by_cases e3 : lst = 65535
   ·have t3 : (((lst : Nat) : Int) == 65535) = true := by simp [e3]
    have E3 := Lib.hid e3
    clear e3
    go_wp2_with fail
    refine (found_any _ B X s1 H0 hw1 hp1 hu1 (by omega)).mono ?_
    rintro e w8 ⟨rfl,s8,H8,hs8,hl8⟩
    go_wp2_with fail
    refine bodyPost_ret (results_none rfl _ _ _) rfl ⟨rfl,s8,H8,hs8.trans (Eq.symm ?_),hl0.trans hl8⟩
    rw [HSP.out]
    exact Sp.listed_found _ _ _ _ _ HGT.out (HLST.out.symm.trans E3.out)
   ·have t3 : (((lst : Nat) : Int) == 65535) = false := by simp; omega
    have w3 : IntKind.u16.wrap ((lst : Int) + 1) = ((lst + 1 : Nat) : Int) := by
     rw [IntWalk.u16_in _ (by omega)]
     simp
    obtain ⟨l1,hl1⟩ : ∃ l1,lst + 1 = l1 := ⟨_,rfl⟩
    rw [hl1] at w3
    have HL1 := Lib.hid hl1
    have E3 := Lib.hid e3
    clear e3 hl1
    go_wp2_with fail
    refine (further_any l1 _ B X s1 H0 hp1 had1).mono ?_
    rintro e w8 ⟨rfl,s8,H8,hs8,hl8⟩
    go_wp2_with fail
    refine bodyPost_end (results_none rfl _ _ _) rfl ⟨rfl,s8,H8,hs8.trans (Eq.symm ?_),hl0.trans hl8⟩
    rw [HSP.out,← HL1.out,HE1.out]
    refine (Sp.listed_more _ _ _ _ _ HGT.out (fun hc => E3.out (HLST.out.trans hc))).trans ?_
    rw [HLST.out]
    rfl
theorem elements_any (fn : Nat) (g : Im → Option Fd) (hE : ∀ args W,(callFunc fn args).run Tryz.prog W = .ok (.enter fn args) W) (hg : ∀ (i : Im) (bv : Value) (w : World),BV w bv i.bs → i.bs.length ≤ 1000000 → Calls Tryz.prog fn #[.agg #[.int .u16 i.ha,.int .u16 i.la,.int .u64 i.hi,.int .u64 i.lo,bv]] w fun e w' => ∃ f ok,e = .returned (.tuple #[.agg (fenc f).toArray,.bool ok]) ∧ (if ok then g i = some f else g i = none) ∧ Below w.heap.size w w') (qs : List (Im × Value)) (v : Value) (w : World) (B X : Nat) (s : Sv) (h : Sq w B X s) (hw : ∀ t ∈ s.c.wt,TkOk t) (hps : s.ps.length ≤ 1000) (hus : s.us.length ≤ 1000) (hI : ItB w B v qs) (hfo : s.c.tk.fo.length + qs.length ≤ 100000) (had : s.c.ad.vs.length ≤ 1000000) (hAL : s.c.ad.la = s.c.tk.la) (hTL : s.c.tk.la < 65536) :
 Calls Tryz.prog 84 #[.pointer (some ⟨X,0,none⟩),v,.func (.func fn) #[] #[]] w fun e w' => e = .returned (.tuple #[]) ∧ ∃ s',Sq w' B X s' ∧ s'.sp = s.sp.elements (g) (qs.map (·.1)) ∧ Below B w w' := by
 obtain ⟨i0,hi0,hz0,hz1,hz2⟩ := info_parts Tryz.info_Found
 have hBw := Nat.le_trans h.own (Nat.le_of_lt h.blk.lt)
 obtain ⟨a,c,rfl⟩ := hI.sr.form
 obtain ⟨n,hn⟩ : ∃ n,qs.length = n := ⟨_,rfl⟩
 have hnm : n ≤ 100000 := by omega
 rw [hn] at hI ⊢
 have HI := Lib.hid hI
 have HN := Lib.hid hn
 have HS := Lib.hid h
 have HF := Lib.hid hfo
 have x4 := h.blk.cell (j := 4) (v := .int .u16 s.c.tk.la) rfl
 have HAL := Lib.hid hAL
 have HTL := Lib.hid hTL
 clear hI hn hfo hAL hTL
 go_enter Tryz.func84,Tryz.ntmps84
 go_wp2_with fail
 go_loopw [6,8,9,10,19] (fun a4 _ _ _ i wr => ∃ (k lst : Nat) (s1 : Sv) (fs : List Fd),a4 = .int .u16 lst ∧ i = .int .i64 k ∧ k ≤ n ∧ Hid (Sq wr B X s1 ∧ s1.sp = s.sp.addFo fs ∧ gets (elF (g) s.c.ad.ha s.c.ad.la) ((qs.map (·.1)).take k) = some fs ∧ lst = lastI s.c.tk.la Im.ha ((qs.map (·.1)).take k) ∧ Below B w wr)) (fun _ _ _ _ i _ => n - (intOf i).toNat)
 case atStart => exact ⟨0,s.c.tk.la,s,[],rfl,by simp,Nat.zero_le _,Lib.hid ⟨HS.out,by simp [Sp.addFo,Sv.sp],rfl,rfl,Below.refl _ _⟩⟩
 case round =>
  obtain ⟨k,lst,s1,fs,rfl,rfl,hk,HR⟩ := hrel
  have e1 : s1.c.ad = s.c.ad := congrArg (fun x : Sp => x.c.ad) HR.out.2.1
  have e2 : s1.c.wt = s.c.wt := congrArg (fun x : Sp => x.c.wt) HR.out.2.1
  have e3 : s1.c.tk.fo = s.c.tk.fo ++ fs := congrArg (fun x : Sp => x.c.tk.fo) HR.out.2.1
  have e4 : s1.ps.length = s.ps.length := by have h := congrArg (fun x : Sp => x.ps.length) HR.out.2.1; simpa [Sv.sp,Sp.addFo] using h
  have e5 : s1.us.length = s.us.length := by have h := congrArg (fun x : Sp => x.us.length) HR.out.2.1; simpa [Sv.sp,Sp.addFo] using h
  have hw1 : ∀ t ∈ s1.c.wt,TkOk t := by rw [e2]; exact hw
  have hp1 : s1.ps.length ≤ 1000 := by rw [e4]; exact hps
  have hu1 : s1.us.length ≤ 1000 := by rw [e5]; exact hus
  have hfl : fs.length = k := by have h := gets_len _ _ _ HR.out.2.2.1; rw [h,List.length_take,List.length_map,HN.out]; omega
  have hf1 : s1.c.tk.fo.length ≤ 100000 := by rw [e3,List.length_append,hfl]; have := HF.out; have := HN.out; omega
  have HE1 := Lib.hid e1
  have HE3 := Lib.hid e3
  clear e1 e2 e3 e4 e5 hfl
  rename World => wr
  by_cases hlt : k < n
  ·have g1 : decide (k < n) = true := by simpa using hlt
   have i1 : (k : Int) < (n : Int) := by omega
   have w1 : IntKind.i64.wrap ((k : Int) + 1) = (k : Int) + 1 := IntWalk.i64_in _ (by omega)
   have hkq : k < qs.length := by rw [HN.out]; exact hlt
   obtain ⟨⟨i,vi⟩,hq⟩ : ∃ q,qs[k]? = some q := ⟨qs[k],List.getElem?_eq_getElem hkq⟩
   have hqi : (qs.map (·.1))[k]? = some i := by rw [List.getElem?_map,hq]; rfl
   have hqm : (i,vi) ∈ qs := List.mem_of_getElem? hq
   have hIr := HI.out.below HR.out.2.2.2.2
   obtain ⟨b,off,cap,hve,hb,hcs⟩ := hIr.cells hq
   have hve2 : Value.slice a n c = .slice (some ⟨b,off,none⟩) n cap := by rw [hve,HN.out]
   injection hve2 with ha hnn hcc
   subst ha
   subst hcc
   obtain ⟨hbv,hbl,hbm⟩ := hIr.bv (i,vi) hqm
   simp only at hbv hbl hbm
   have hrg := HI.out.rg (i,vi) hqm
   simp only at hrg
   obtain ⟨va,vc,rfl⟩ := hbv.form
   obtain ⟨L,hL⟩ : ∃ L,i.bs.length = L := ⟨_,rfl⟩
   have f0 := hcs 0 (.int .u16 i.ha) rfl
   have f1 := hcs 1 (.int .u16 i.la) rfl
   have f2 := hcs 2 (.int .u64 i.hi) rfl
   have f3 := hcs 3 (.int .u64 i.lo) rfl
   have f4 := hcs 4 _ rfl
   simp only [Nat.add_zero,← Nat.add_assoc] at f0 f1 f2 f3 f4
   rw [hL] at f4 hbv hbm
   have HQ := Lib.hid hqi
   have HLL := Lib.hid hL
   have HRG := Lib.hid hrg
   have H0 := HR.out.1
   have hl0 := HR.out.2.2.2.2
   clear hcs hve hnn hq hqi hqm hIr hL hkq hbl hrg hb
   go_upto_region 4 with fail
   generalize hX : World.alloc wr _ = w1
   obtain ⟨hnb,hB1,hz1'⟩ := alloc_named hX
   have bI1 : Blk w1 wr.heap.size 142 [.int .u16 i.ha,.int .u16 i.la,.int .u64 i.hi,.int .u64 i.lo,.slice va L vc] := hnb
   have H1 := H0.below hB1
   have hl1 := hl0.trans (hB1.mono (Nat.le_trans H0.own (Nat.le_of_lt H0.blk.lt)))
   have hbv1 := hbv.below hB1
   clear hX hnb hz1' hB1 H0 hl0 hbv f0 f1 f2 f3 f4
   have m0 := bI1.cell (j := 0) (v := .int .u16 i.ha) rfl
   have m1 := bI1.cell (j := 1) (v := .int .u16 i.la) rfl
   have m2 := bI1.cell (j := 2) (v := .int .u64 i.hi) rfl
   have m3 := bI1.cell (j := 3) (v := .int .u64 i.lo) rfl
   have m4 := bI1.cell (j := 4) (v := .slice va L vc) rfl
   go_wp2_with fail
   have hcall := hg i (.slice va i.bs.length vc) _ (by rw [HLL.out]; exact hbv1) (by have := HLL.out; omega)
   rw [HLL.out] at hcall
   refine hcall.mono ?_
   rintro e w2 ⟨f,ok,rfl,hgi,hB2⟩
   obtain ⟨fh,fl,fv',fp,f5,f6⟩ := f
   simp only [fenc]
   have hw2 : wr.heap.size < w2.heap.size := by have := bI1.lt; have := hB2.size; omega
   have bI2 := bI1.below hB2
   have H2 := H1.below hB2
   have hl2 := hl1.trans (hB2.mono (Nat.le_trans H1.own (Nat.le_of_lt H1.blk.lt)))
   clear m0 m1 m2 m3 m4 hbv1 hB2 H1 hl1 bI1 hcall
   go_upto_region 5 with fail
   generalize hX : World.alloc w2 _ = w3
   obtain ⟨hnb,hB3,hz3⟩ := alloc_named hX
   have bU : Blk w3 w2.heap.size 39 [.int .u16 fh,.int .u16 fl,.int .u16 fv',.int .i64 fp,.int .u64 f5,.int .u64 f6] := hnb
   have bI3 := bI2.below hB3
   have H3 := H2.below hB3
   have hl3 := hl2.trans (hB3.mono (Nat.le_trans H2.own (Nat.le_of_lt H2.blk.lt)))
   clear hX hnb hz3 hB3 bI2 H2 hl2
   have HAD := HE1.out
   have x12 := H3.blk.cell (j := 12) (v := .int .u16 s1.c.ad.ha) rfl
   have x13 := H3.blk.cell (j := 13) (v := .int .u16 s1.c.ad.la) rfl
   rw [HAD] at x12 x13
   have TE : Cells w3.drew [(wr.heap.size,0,.int .u16 i.ha),(X,12,.int .u16 s.c.ad.ha),(X,13,.int .u16 s.c.ad.la)] := ⟨bI3.cell (j := 0) rfl,x12,x13,trivial⟩
   have H4 := H3.drew
   have hl4 := hl3.drew
   have bI4 := bI3.drew
   have bU4 := bU.drew
   clear x12 x13 HAD H3 hl3 bI3 bU
   cases ok with
   |false =>
    simp only [Bool.false_eq_true,if_false] at hgi
    have HGI := Lib.hid hgi
    clear hgi
    refine wp_region_held_drew (S := (fun W' : World => Cells W' [(wr.heap.size,0,.int .u16 i.ha),(X,12,.int .u16 s.c.ad.ha),(X,13,.int .u16 s.c.ad.la)])) (by kernel_rfl) (TE) (fun hHeld => ?_)
    generalize World.drew _ = wd at hHeld TE H4 hl4 bI4 bU4 ⊢
    refine tkU 0 ?_
    refine tkU 1 ?_
    refine tkU 2 ?_
    refine tkV 3 ?_
    refine tkV 4 ?_
    refine tkV 5 ?_
    refine tkV 6 ?_
    refine tkV 7 ?_
    refine tkV 8 ?_
    refine tkV 9 ?_
    refine tkV 10 ?_
    refine tkV 11 ?_
    refine tkU 12 ?_
    refine tkU 13 ?_
    refine tkV 14 ?_
    refine tkV 15 ?_
    refine tkV 16 ?_
    refine tkV 17 ?_
    refine tkV 18 ?_
    refine tkV 19 ?_
    refine tkV 20 ?_
    refine tkV 21 ?_
    refine tkV 22 ?_
    refine tkU 23 ?_
    refine wpAnyH_done (by kernel_rfl) ?_ _
    go_wp2_with fail
    refine (fail_any 4 _ B X s1 H4 hw1 hp1 hu1).mono ?_
    rintro e w8 ⟨rfl,s8,H8,hs8,hl8⟩
    go_wp2_with fail
    refine bodyPost_ret (results_none rfl _ _ _) rfl ⟨rfl,s8,H8,hs8.trans (Eq.symm ?_),hl4.trans hl8⟩
    rw [HR.out.2.1,Sp.addFo_fail]
    exact Sp.listed_none _ _ _ _ (gets_fail _ _ k i HQ.out (by show elF g _ _ i = none; unfold elF; split; exact HGI.out; rfl))
   |true =>
    simp only [if_true] at hgi
    have HGI := Lib.hid hgi
    clear hgi
    by_cases e1 : i.ha < s.c.ad.ha
    ·have t1 : decide (i.ha < s.c.ad.ha) = true := by simpa using e1
     have t1' : decide (((i.ha : Nat) : Int) < ((s.c.ad.ha : Nat) : Int)) = true := by simp; omega
     have E1 := Lib.hid e1
     clear e1
     refine wp_region_held_drew (S := (fun W' : World => Cells W' [(wr.heap.size,0,.int .u16 i.ha),(X,12,.int .u16 s.c.ad.ha),(X,13,.int .u16 s.c.ad.la)])) (by kernel_rfl) (TE) (fun hHeld => ?_)
     generalize World.drew _ = wd at hHeld TE H4 hl4 bI4 bU4 ⊢
     refine tkU 0 ?_
     refine tkU 1 ?_
     refine tkU 2 ?_
     refine tkU 3 ?_
     refine tkU 4 ?_
     refine tkU 5 ?_
     refine tkU 6 ?_
     refine tkU 7 ?_
     refine tkU 8 ?_
     refine tkU 9 ?_
     refine tkU 10 ?_
     refine tkU 11 ?_
     refine tkU 12 ?_
     refine tkU 13 ?_
     refine tkV 14 ?_
     refine tkV 15 ?_
     refine tkV 16 ?_
     refine tkV 17 ?_
     refine tkV 18 ?_
     refine tkV 19 ?_
     refine tkV 20 ?_
     refine tkV 21 ?_
     refine tkV 22 ?_
     refine tkU 23 ?_
     refine wpAnyH_done (by kernel_rfl) ?_ _
     go_wp2_with fail
     refine (fail_any 4 _ B X s1 H4 hw1 hp1 hu1).mono ?_
     rintro e w8 ⟨rfl,s8,H8,hs8,hl8⟩
     go_wp2_with fail
     refine bodyPost_ret (results_none rfl _ _ _) rfl ⟨rfl,s8,H8,hs8.trans (Eq.symm ?_),hl4.trans hl8⟩
     rw [HR.out.2.1,Sp.addFo_fail]
     exact Sp.listed_none _ _ _ _ (gets_fail _ _ k i HQ.out (by show elF _ _ _ i = none; unfold elF; rw [if_neg (fun hc => Nat.not_le_of_lt E1.out hc.1)]))
    ·have t1 : decide (i.ha < s.c.ad.ha) = false := by simpa using e1
     have t1' : decide (((i.ha : Nat) : Int) < ((s.c.ad.ha : Nat) : Int)) = false := by simp; omega
     have E1 := Lib.hid e1
     clear e1
     by_cases e2 : s.c.ad.la < i.ha
     ·have t2 : decide (s.c.ad.la < i.ha) = true := by simpa using e2
      have t2' : decide (((s.c.ad.la : Nat) : Int) < ((i.ha : Nat) : Int)) = true := by simp; omega
      have E2 := Lib.hid e2
      clear e2
      refine wp_region_held_drew (S := (fun W' : World => Cells W' [(wr.heap.size,0,.int .u16 i.ha),(X,12,.int .u16 s.c.ad.ha),(X,13,.int .u16 s.c.ad.la)])) (by kernel_rfl) (TE) (fun hHeld => ?_)
      generalize World.drew _ = wd at hHeld TE H4 hl4 bI4 bU4 ⊢
      refine tkU 0 ?_
      refine tkU 1 ?_
      refine tkU 2 ?_
      refine tkU 3 ?_
      refine tkU 4 ?_
      refine tkU 5 ?_
      refine tkU 6 ?_
      refine tkU 7 ?_
      refine tkU 8 ?_
      refine tkU 9 ?_
      refine tkU 10 ?_
      refine tkU 11 ?_
      refine tkU 12 ?_
      refine tkU 13 ?_
      refine tkU 14 ?_
      refine tkU 15 ?_
      refine tkU 16 ?_
      refine tkU 17 ?_
      refine tkU 18 ?_
      refine tkU 19 ?_
      refine tkU 20 ?_
      refine tkU 21 ?_
      refine tkU 22 ?_
      refine tkU 23 ?_
      refine wpAnyH_done (by kernel_rfl) ?_ _
      go_wp2_with fail
      refine (fail_any 4 _ B X s1 H4 hw1 hp1 hu1).mono ?_
      rintro e w8 ⟨rfl,s8,H8,hs8,hl8⟩
      go_wp2_with fail
      refine bodyPost_ret (results_none rfl _ _ _) rfl ⟨rfl,s8,H8,hs8.trans (Eq.symm ?_),hl4.trans hl8⟩
      rw [HR.out.2.1,Sp.addFo_fail]
      exact Sp.listed_none _ _ _ _ (gets_fail _ _ k i HQ.out (by show elF _ _ _ i = none; unfold elF; rw [if_neg (fun hc => Nat.not_le_of_lt E2.out hc.2)]))
     ·have t2 : decide (s.c.ad.la < i.ha) = false := by simpa using e2
      have t2' : decide (((s.c.ad.la : Nat) : Int) < ((i.ha : Nat) : Int)) = false := by simp; omega
      have E2 := Lib.hid e2
      clear e2
      refine wp_region_held_drew (S := (fun W' : World => Cells W' [(wr.heap.size,0,.int .u16 i.ha),(X,12,.int .u16 s.c.ad.ha),(X,13,.int .u16 s.c.ad.la)])) (by kernel_rfl) (TE) (fun hHeld => ?_)
      generalize World.drew _ = wd at hHeld TE H4 hl4 bI4 bU4 ⊢
      refine tkU 0 ?_
      refine tkU 1 ?_
      refine tkU 2 ?_
      refine tkU 3 ?_
      refine tkU 4 ?_
      refine tkU 5 ?_
      refine tkU 6 ?_
      refine tkU 7 ?_
      refine tkU 8 ?_
      refine tkU 9 ?_
      refine tkU 10 ?_
      refine tkU 11 ?_
      refine tkU 12 ?_
      refine tkU 13 ?_
      refine tkU 14 ?_
      refine tkU 15 ?_
      refine tkU 16 ?_
      refine tkU 17 ?_
      refine tkU 18 ?_
      refine tkU 19 ?_
      refine tkU 20 ?_
      refine tkU 21 ?_
      refine tkU 22 ?_
      refine tkU 23 ?_
      refine wpAnyH_done (by kernel_rfl) ?_ _
      have m8 := H4.blk.cell (j := 8) (v := s1.fv) rfl
      obtain ⟨oa,oc,hov⟩ := own_form H4.pt.fv
      obtain ⟨FL,hFL⟩ : ∃ x,s1.c.tk.fo.length = x := ⟨_,rfl⟩
      rw [hFL] at hov hf1
      rw [hov] at m8
      have HOV := Lib.hid hov
      have HFL := Lib.hid hFL
      have mF : ∀ W : World,Sq W B X s1 → W.cell? ⟨X,8,none⟩ = some (.slice oa FL oc) := fun W h => by rw [h.blk.cell (j := 8) (v := s1.fv) rfl,HOV.out]
      have MF := Lib.hid mF
      clear hov hFL mF TE
      go_upto_region 7 with fail
      have TB := bU4.cells
      have TBd := TB.drew
      have H5 := H4.drew
      have hl5 := hl4.drew
      have bI5 := bI4.drew
      have bU5 := bU4.drew
      have hIlt : wr.heap.size < wd.heap.size := bI4.lt
      have m8 := MF.out _ H5
      clear TB H4 hl4 bI4 bU4
      refine wp_region_held_drew (S := (fun W' : World => Cells W' (blk w2.heap.size 0 0 [.int .u16 fh,.int .u16 fl,.int .u16 fv',.int .i64 fp,.int .u64 f5,.int .u64 f6]))) (by kernel_rfl) (TBd) (fun hHeld => ?_)
      generalize World.drew _ = wd at hHeld TBd H5 hl5 bI5 bU5 m8 ⊢
      repeat' first
       |refine tkU 0 ?_
       |refine tkU 1 ?_
       |refine tkU 2 ?_
       |refine tkU 3 ?_
       |refine tkU 4 ?_
       |refine tkU 5 ?_
       |refine tkU 7 ?_
       |refine tkU 10 ?_
       |refine tkU 11 ?_
       |refine tkU 12 ?_
       |refine tkU 13 ?_
       |(refine opn 6 fun K hK => ?_
         go_simp
         refine hK.out _ _ (hHeld) (fun h => ?_)
         replace hHeld := h
         clear hK K h
         try simp only [Act.put,List.setIfInBounds_toArray,List.set_cons_zero,List.set_cons_succ])
       |(refine opn 8 fun K hK => ?_
         go_simp
         generalize hX : World.alloc _ (.cells _ 39) = w5
         obtain ⟨hnb,hB5,hz5⟩ := alloc_named hX
         have hnews : ∀ (j : Nat) (u : Value),([.int .u16 fh,.int .u16 fl,.int .u16 fv',.int .i64 fp,.int .u64 f5,.int .u64 f6] : List Value)[j]? = some u → w5.cell? ((⟨wd.heap.size,0,none⟩ : Addr).add j) = some u := fun j u hj => by
          rw [addr_off,Nat.zero_add]
          exact Blk.cell (W := w5) (B := wd.heap.size) (t := 39) (cs := [.int .u16 fh,.int .u16 fl,.int .u16 fv',.int .i64 fp,.int .u64 f5,.int .u64 f6]) hnb hj
         have H5 := H5.below hB5
         have hl5 := hl5.trans (hB5.mono (by have := hl5.size; omega))
         have bI5 := bI5.below hB5
         have bU5 := bU5.below hB5
         have TBd := TBd.keep hB5
         have m8 := MF.out _ H5
         clear hX hB5 hnb
         refine hK.out _ _ (TBd) (fun h => ?_)
         replace hHeld := h
         clear hK K h
         try simp only [Act.put,List.setIfInBounds_toArray,List.set_cons_zero,List.set_cons_succ])
       |(refine opn 9 fun K hK => ?_
         refine step_append_own (by rfl) _ _ 36 (by rfl) B 39 i0 _ 6 32 Tryz.underlying36 hi0 hz0 hz1 hz2 rfl (by decide) (.slice oa FL oc) FL (fcells s1.c.tk.fo) (by rfl) (by rw [← HOV.out,← HFL.out]; exact H5.pt.fv) ⟨wd.heap.size,0,none⟩ 1 1 [.int .u16 fh,.int .u16 fl,.int .u16 fv',.int .i64 fp,.int .u64 f5,.int .u64 f6] (by rfl) (by rfl) hnews (by simp [Value.oneCell']) (by unfold maxLen; omega) (by omega) (by have := hl5.size; omega) ?_
         intro v6 w6 hown6 hg6 hor6
         rw [← HOV.out] at hg6 hor6
         have hfd6 : FdO B w6 v6 (s1.c.tk.fo ++ [⟨fh,fl,fv',fp,f5,f6⟩]) := by
          unfold FdO
          rw [fcells_snoc,List.length_append,HFL.out]
          exact hown6
         have HAPP := Lib.hid (fun W' (e : World.setCell w6 ⟨X,8,none⟩ v6 = W') => e ▸ (H5.app_fo (x := ⟨fh,fl,fv',fp,f5,f6⟩) hg6 hfd6 hor6))
         have hneI : some wr.heap.size ≠ s1.fv.ownBlock := fun e => by have := own_lt HR.out.1.pt.fv _ e.symm; omega
         have bI5 := bI5.kept hg6 hneI
         have bU5 := bU5.kept hg6 (fun e => by have := own_lt HR.out.1.pt.fv _ e.symm; omega)
         have m8 : w6.cell? ⟨X,8,none⟩ = some (.slice oa FL oc) := (World.cell?_of_block (a := ⟨X,8,none⟩) (hg6.block X H5.blk.lt (fun e => H5.ne.1 e.symm))).trans (MF.out _ H5)
         have z8 : w6.frozen? ⟨X,8,none⟩ = false := (H5.blk.kept hg6 (fun e => H5.ne.1 e.symm)).frozen 8
         obtain ⟨oa6,oc6,rfl⟩ := own_form hown6
         have TBd : Cells w6 (blk w2.heap.size 0 0 [.int .u16 fh,.int .u16 fl,.int .u16 fv',.int .i64 fp,.int .u64 f5,.int .u64 f6]) := bU5.cells
         clear hnews hown6 hg6 hor6 H5 hneI hfd6
         refine hK.out _ _ (TBd) (fun h => ?_)
         replace hHeld := h
         clear hK K h
         try simp only [Act.put,List.setIfInBounds_toArray,List.set_cons_zero,List.set_cons_succ])
       |(refine opn 14 fun K hK => ?_
         go_simp
         generalize hX : World.setCell w6 _ _ = w7
         obtain ⟨H7,hl7⟩ := HAPP.out w7 hX
         have bI7 := hX ▸ bI5.other (o := 8) (by have := HR.out.1.blk.lt; omega) (.slice oa6 (FL + 1) oc6)
         have bU7 := hX ▸ bU5.other (o := 8) (by have := HR.out.1.blk.lt; omega) (.slice oa6 (FL + 1) oc6)
         have TBd : Cells w7 (blk w2.heap.size 0 0 [.int .u16 fh,.int .u16 fl,.int .u16 fv',.int .i64 fp,.int .u64 f5,.int .u64 f6]) := bU7.cells
         clear HAPP m8 z8 hX
         refine hK.out _ _ (TBd) (fun h => ?_)
         replace hHeld := h
         clear hK K h
         try simp only [Act.put,List.setIfInBounds_toArray,List.set_cons_zero,List.set_cons_succ])
       |refine rd2 6 8 ?_ ?_
       |refine rd1 8 ?_
       |refine rd1 9 ?_
       |refine rd1 14 ?_
       |refine rd1 6 ?_
       |(refine wpAnyH_done (by kernel_rfl) ?_ _
         have m0 := bI7.cell (j := 0) (v := .int .u16 i.ha) rfl
         have HFIN := Lib.hid (And.intro H7 (hl5.trans hl7))
         clear H7 hl7 bI7 bU7 hl5 bI5 bU5 TBd hHeld
         go_wp2_with fail
         refine ⟨⟨k + 1,i.ha,_,fs ++ [⟨fh,fl,fv',fp,f5,f6⟩],rfl,by simp,hlt,Lib.hid ⟨HFIN.out.1,?_,?_,?_,HFIN.out.2⟩⟩,?_⟩
         ·have hx := HR.out.2.1
          simp only [Sv.sp,Sp.addFo] at hx ⊢
          injection hx with q1 q2 q3 q4
          rw [q1,q2,q3,q4]
          simp
         ·exact gets_snoc _ _ k i _ fs HQ.out (by show elF g _ _ i = _; unfold elF; rw [if_pos ⟨Nat.le_of_not_lt E1.out,Nat.le_of_not_lt E2.out⟩]; exact HGI.out) HR.out.2.2.1
         ·exact (lastI_snoc _ _ _ k i HQ.out).symm
         ·simp [intOf]
          omega)
  ·have g1 : decide (k < n) = false := by simpa using hlt
   obtain rfl : k = n := by omega
   obtain ⟨H0,hsp,hgt,hlst,hl0⟩ := HR.out
   rw [List.take_of_length_le (by rw [List.length_map,HN.out]; exact Nat.le_refl _)] at hgt hlst
   have HGT := Lib.hid hgt
   have HLST := Lib.hid hlst
   have HSP := Lib.hid hsp
   have had1 : s1.c.ad.vs.length ≤ 1000000 := by rw [HE1.out]; exact had
   have hll : lst < 65536 := by
    rw [hlst]
    unfold lastI
    cases hq : (qs.map (·.1)).getLast? with
    |none => exact HTL.out
    |some i =>
     have hm := List.mem_of_getLast? hq
     obtain ⟨q,hq1,hq2⟩ := List.mem_map.1 hm
     have := HI.out.rg q hq1
     subst hq2
     simp only [Option.map_some,Option.getD_some]
     omega
   have hle : lst ≤ s.c.tk.la := by
    have hr := HGT.out
    rw [hlst]
    exact HAL.out ▸ last_le _ _ _ _ hr (by rw [HAL.out]; exact Nat.le_refl _)
   have HLE := Lib.hid hle
   have x4 := H0.blk.cell (j := 4) (v := .int .u16 s1.c.tk.la) rfl
   have e8 : s1.c.tk.la = s.c.tk.la := congrArg (fun x : Sp => x.c.tk.la) hsp
   rw [e8] at x4
   clear hle e8
   clear hgt hlst hsp HR
   by_cases e3 : lst = s.c.tk.la
   ·have t3 : (((lst : Nat) : Int) == ((s.c.tk.la : Nat) : Int)) = true := by simp [e3]
    have E3 := Lib.hid e3
    clear e3
    go_wp2_with fail
    clear x4
    refine (found_any _ B X s1 H0 hw1 hp1 hu1 (by omega)).mono ?_
    rintro e w8 ⟨rfl,s8,H8,hs8,hl8⟩
    go_wp2_with fail
    refine bodyPost_ret (results_none rfl _ _ _) rfl ⟨rfl,s8,H8,hs8.trans (Eq.symm ?_),hl0.trans hl8⟩
    rw [HSP.out]
    exact Sp.listed_found _ _ _ _ _ HGT.out (HLST.out.symm.trans E3.out)
   ·have t3 : (((lst : Nat) : Int) == ((s.c.tk.la : Nat) : Int)) = false := by simp; omega
    have w3 : IntKind.u16.wrap ((lst : Int) + 1) = ((lst + 1 : Nat) : Int) := by
     have := HLE.out; have := HTL.out
     rw [IntWalk.u16_in _ (by omega)]
     simp
    obtain ⟨l1,hl1⟩ : ∃ l1,lst + 1 = l1 := ⟨_,rfl⟩
    rw [hl1] at w3
    have HL1 := Lib.hid hl1
    have E3 := Lib.hid e3
    clear e3 hl1
    go_wp2_with fail
    clear x4
    refine (further_any l1 _ B X s1 H0 hp1 had1).mono ?_
    rintro e w8 ⟨rfl,s8,H8,hs8,hl8⟩
    go_wp2_with fail
    refine bodyPost_end (results_none rfl _ _ _) rfl ⟨rfl,s8,H8,hs8.trans (Eq.symm ?_),hl0.trans hl8⟩
    rw [HSP.out,← HL1.out,HE1.out]
    refine (Sp.listed_more _ _ _ _ _ HGT.out (fun hc => E3.out (HLST.out.trans hc))).trans ?_
    rw [HLST.out]
    rfl
theorem elements_char_any (qs : List (Im × Value)) (v : Value) (w : World) (B X : Nat) (s : Sv) (h : Sq w B X s) (hw : ∀ t ∈ s.c.wt,TkOk t) (hps : s.ps.length ≤ 1000) (hus : s.us.length ≤ 1000) (hI : ItB w B v qs) (hfo : s.c.tk.fo.length + qs.length ≤ 100000) (had : s.c.ad.vs.length ≤ 1000000) (hAL : s.c.ad.la = s.c.tk.la) (hTL : s.c.tk.la < 65536) :
 Calls Tryz.prog 84 #[.pointer (some ⟨X,0,none⟩),v,.func (.func 85) #[] #[]] w fun e w' => e = .returned (.tuple #[]) ∧ ∃ s',Sq w' B X s' ∧ s'.sp = s.sp.elements charF (qs.map (·.1)) ∧ Below B w w' :=
 elements_any 85 charF (fun args W => enters_of Tryz.func85 (by kernel_rfl) rfl args W) char_any qs v w B X s h hw hps hus hI hfo had hAL hTL
theorem elements_desc_any (qs : List (Im × Value)) (v : Value) (w : World) (B X : Nat) (s : Sv) (h : Sq w B X s) (hw : ∀ t ∈ s.c.wt,TkOk t) (hps : s.ps.length ≤ 1000) (hus : s.us.length ≤ 1000) (hI : ItB w B v qs) (hfo : s.c.tk.fo.length + qs.length ≤ 100000) (had : s.c.ad.vs.length ≤ 1000000) (hAL : s.c.ad.la = s.c.tk.la) (hTL : s.c.tk.la < 65536) :
 Calls Tryz.prog 84 #[.pointer (some ⟨X,0,none⟩),v,.func (.func 86) #[] #[]] w fun e w' => e = .returned (.tuple #[]) ∧ ∃ s',Sq w' B X s' ∧ s'.sp = s.sp.elements (fun i => some (descF i)) (qs.map (·.1)) ∧ Below B w w' :=
 elements_any 86 (fun i => some (descF i)) (fun args W => enters_of Tryz.func86 (by kernel_rfl) rfl args W) (fun i bv w hb _ => (desc_any i bv w hb).mono fun e w' h => ⟨descF i,true,h.1,rfl,h.2⟩) qs v w B X s h hw hps hus hI hfo had hAL hTL
end Go.Proofs.YtldcihjddebciaaGreat
