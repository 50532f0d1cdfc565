/- client: read, prepared, hash. -/
import Derived.Test.YtldcihjddebciaaGreatDClS
import Derived.StillTailTactics
set_option linter.unusedSimpArgs false
set_option linter.unusedVariables false
set_option maxRecDepth 100000
set_option maxHeartbeats 4000000
namespace Go.Proofs.YtldcihjddebciaaGreat
open Go.RowKit
theorem equal_any (v1 v2 : Value) (xs ys : List Nat) (w : World) (ha : BytesAt w v1 xs) (hb : BytesAt w v2 ys) :
 Calls Tryz.prog 108 #[v1,v2] w fun e w' => e = .returned (.bool (decide (xs = ys))) ∧ Below w.heap.size w w' := by
 obtain ⟨⟨hm1,_,_,a1,c1,rfl,_,hc1⟩,hr1,hl1⟩ := ha
 obtain ⟨⟨hm2,_,_,a2,c2,rfl,_,hc2⟩,hr2,hl2⟩ := hb
 obtain ⟨n,hn⟩ : ∃ n,xs.length = n := ⟨_,rfl⟩
 obtain ⟨m,hm⟩ : ∃ m,ys.length = m := ⟨_,rfl⟩
 rw [hn] at hm1 hr1 ⊢
 rw [hm] at hm2 hr2 ⊢
 unfold reachBytes at hr1 hr2
 have HN := Lib.hid hn
 have HM := Lib.hid hm
 have HC1 := Lib.hid hc1
 have HC2 := Lib.hid hc2
 clear hn hm hc1 hc2 hm1 hm2
 by_cases hnm : n = m
 ·subst hnm
  have t0 : ((n : Int) == (n : Int)) = true := by simp
  obtain ⟨D,hD⟩ : ∃ D,decide (xs = ys) = D := ⟨_,rfl⟩
  rw [hD]
  have HD := Lib.hid hD
  clear hD
  go_enter Tryz.func108,Tryz.ntmps108
  go_wp2
  go_loopw [5,13] (fun _ i wr => ∃ k : Nat,i = .int .i64 k ∧ k ≤ n ∧ Hid (xs.take k = ys.take k) ∧ Below w.heap.size w wr) (fun _ i _ => n - (intOf i).toNat)
  case atStart => exact ⟨0,by simp,Nat.zero_le _,Lib.hid (by simp),Below.refl _ _⟩
  case round =>
   obtain ⟨k,rfl,hk,htk,hB⟩ := hrel
   by_cases hlt : k < n
   ·have g1 : decide (k < n) = true := by simpa using hlt
    have hkx : k < xs.length := by rw [HN.out]; exact hlt
    have hky : k < ys.length := by rw [HM.out]; exact hlt
    obtain ⟨b1,o1,rfl,hb1,hcell1⟩ := HC1.out (by rw [HN.out]; omega)
    obtain ⟨b2,o2,rfl,hb2,hcell2⟩ := HC2.out (by rw [HM.out]; omega)
    have p1 := kc (hcell1 k (.int .u8 (xs[k] : Nat)) (by simp [bcells,List.getElem?_eq_getElem hkx])) hB
    have p2 := kc (hcell2 k (.int .u8 (ys[k] : Nat)) (by simp [bcells,List.getElem?_eq_getElem hky])) hB
    have sx := List.take_succ_eq_append_getElem hkx
    have sy := List.take_succ_eq_append_getElem hky
    have hne : xs[k] ≠ ys[k] → xs ≠ ys := fun h e => by subst e; exact h rfl
    obtain ⟨x,hx⟩ : ∃ x,xs[k] = x := ⟨_,rfl⟩
    obtain ⟨y,hy⟩ : ∃ y,ys[k] = y := ⟨_,rfl⟩
    rw [hx] at p1 sx hne
    rw [hy] at p2 sy hne
    have SX := Lib.hid sx
    have SY := Lib.hid sy
    have NE := Lib.hid hne
    clear sx sy hx hy hcell1 hcell2 hne hkx hky
    have w1 : IntKind.i64.wrap ((k : Int) + 1) = (k : Int) + 1 := IntWalk.i64_in _ (by omega)
    have i1 : (k : Int) < (n : Int) := by omega
    by_cases hxy : x = y
    ·subst hxy
     have t1 : ((x : Int) == (x : Int)) = true := by simp
     go_wp2
     go_quiet (fail)
     go_wp2
     refine ⟨⟨k + 1,by simp,hlt,Lib.hid (by rw [SX.out,SY.out,htk.out]),below_drewN hB _⟩,?_⟩
     simp [intOf]
     omega
    ·have t1 : ((x : Int) == (y : Int)) = false := by simp; omega
     obtain rfl : D = false := by rw [← HD.out]; exact decide_eq_false (NE.out hxy)
     go_wp2
     go_quiet (fail)
     go_wp2
     go_ret
     exact ⟨rfl,below_drewN hB _⟩
   ·have g1 : decide (k < n) = false := by simpa using hlt
    obtain rfl : k = n := by omega
    have e := htk.out
    rw [List.take_of_length_le (by rw [HN.out]; exact Nat.le_refl _),List.take_of_length_le (by rw [HM.out]; exact Nat.le_refl _)] at e
    obtain rfl : D = true := by rw [← HD.out]; exact decide_eq_true e
    clear e
    go_wp2
    go_ret
    exact ⟨rfl,hB⟩
 ·have t0 : ((n : Int) == (m : Int)) = false := by simp; omega
  have e : xs ≠ ys := fun e => hnm (by rw [← HN.out,← HM.out,e])
  rw [decide_eq_false e]
  clear e
  go_enter Tryz.func108,Tryz.ntmps108
  go_wp2
  go_ret
  exact ⟨rfl,Below.refl _ _⟩
theorem join_two (i : Nat) (x y : Value) (bs cs : List Nat) (w : World) (t : TypeId) (hx : w.heap[i]? = some (.cells #[x,y] t (0,0))) (h : BV w x bs) (h' : BV w y cs) (hm : bs.length + cs.length ≤ 2000000) :
 Calls Tryz.prog 34 #[.slice (some ⟨i,0,none⟩) 2 2] w fun e w' => ∃ v,e = .returned v ∧ BV w' v (bs ++ cs) ∧ Own w.heap.size v ∧ Below w.heap.size w w' := by
 obtain ⟨a,c,rfl,hc,hby⟩ := h
 obtain ⟨a',c',rfl,hc',hby'⟩ := h'
 have hsr : SR w (.slice (some ⟨i,0,none⟩) 2 2) 2 1 [.slice a bs.length c,.slice a' cs.length c'] :=
  ⟨by unfold maxLen; simp,rfl,by simp [Value.oneCell'],some ⟨i,0,none⟩,2,rfl,fun h => (by cases h),fun _ => ⟨i,0,rfl,(Array.getElem?_eq_some_iff.1 hx).1,fun j u hj => by
   rw [Nat.zero_add]
   match j,hj with
   |0,hj => exact (by simpa using hj : _ = u) ▸ cell_of_row _ _ 0 _ _ _ hx
   |1,hj => exact (by simpa using hj : _ = u) ▸ cell_of_row _ _ 1 _ _ _ hx⟩⟩
 refine (join_any _ [(.slice a bs.length c,bs),(.slice a' cs.length c',cs)] w hsr (by intro p hp; simp at hp; rcases hp with rfl | rfl; exact hby; exact hby') (by simp; omega) (by simp)).mono ?_
 rintro e w' ⟨v',rfl,hown,hB⟩
 simp only [List.flatMap_cons,List.flatMap_nil,List.append_nil] at hown
 exact ⟨_,rfl,bv_of_own hown (fun x hx => (List.mem_append.1 hx).elim (hby.2.2 x) (hby'.2.2 x)) (by simp; omega),fun k hk => (hown.lt k hk).1,hB⟩
theorem BV.at {w : World} {v : Value} {bs : List Nat} (h : BV w v bs) : BytesAt w v bs := by
 obtain ⟨a,c,rfl,_,h⟩ := h
 exact h
theorem Cells.low {w w' : World} {B : Nat} (hb : Below B w w') : ∀ {l : List (Nat × Nat × Value)},Cells w l → (∀ x ∈ l,x.1 < B) → Cells w' l
 |[],_,_ => trivial
 |(b,o,v) :: l,h,hl => ⟨(World.cell?_of_block (a := ⟨b,o,none⟩) (hb.block b (hl (b,o,v) (by simp)))).trans h.1,Cells.low hb h.2 (fun x hx => hl x (by simp [hx]))⟩
def Sp.read (x : Sp) (b : List Nat) : Sp :=
 if x.c.tk.kd = 6 ∧ (b.length : Int) = roomI 11 x.c.mt ∧ ((x.c.tk.vs ++ b).take 512).length < 512 then ({ x with c := { x.c with tk := { x.c.tk with vs := (x.c.tk.vs ++ b).take 512 } } } : Sp).send { pd0 with kd := 12,ha := x.c.tk.ha,of := ((x.c.tk.vs ++ b).take 512).length }
 else ({ x with c := { x.c with tk := { x.c.tk with vs := (x.c.tk.vs ++ b).take 512 } } } : Sp).value
theorem read_any (bs : List Nat) (vb : Value) (w : World) (B X : Nat) (s : Sv) (h : Sq w B X s) (hw : ∀ t ∈ s.c.wt,TkOk t) (hps : s.ps.length ≤ 1000) (hus : s.us.length ≤ 1000) (hb : BV w vb bs) (hbs : bs.length ≤ 1000000) (hvs : s.c.tk.vs.length ≤ 1000000) :
 Calls Tryz.prog 87 #[.pointer (some ⟨X,0,none⟩),vb] w fun e w' => e = .returned (.tuple #[]) ∧ ∃ s',Sq w' B X s' ∧ s'.sp = s.sp.read bs ∧ Below B w w' := by
 have hBw := Nat.le_trans h.own (Nat.le_of_lt h.blk.lt)
 have m6 := h.blk.cell (j := 6) (v := s.bv) rfl
 obtain ⟨a,c,hbv⟩ := h.pt.bv.1.form
 have hpb := h.pt.bv.1
 obtain ⟨L,hL⟩ : ∃ L,s.c.tk.vs.length = L := ⟨_,rfl⟩
 rw [hL] at hbv
 rw [hbv] at m6 hpb
 obtain ⟨a',c',rfl⟩ := hb.form
 obtain ⟨K,hK⟩ : ∃ L,bs.length = L := ⟨_,rfl⟩
 rw [hK] at hb ⊢
 have HL := Lib.hid hL
 have HK := Lib.hid hK
 clear hL hK hbv
 go_enter Tryz.func87,Tryz.ntmps87
 go_wp2_with fail
 generalize hX : World.alloc w _ = V
 obtain ⟨hsl,hBV,hz⟩ := alloc_named hX
 clear hX hz m6
 refine (join_two _ _ _ s.c.tk.vs bs _ _ hsl (hpb.below hBV) (hb.below hBV) (by omega)).mono ?_
 rintro e w1 ⟨vv,rfl,hvv,hov,hB1⟩
 have H1 := (h.below hBV).below hB1
 have hlts := (h.below hBV).lts
 have hl1 := (hBV.mono hBw).trans (hB1.mono (by have := hBV.size; omega))
 obtain ⟨va,vc,rfl⟩ := hvv.form
 obtain ⟨N,hN⟩ : ∃ N,(s.c.tk.vs ++ bs).length = N := ⟨_,rfl⟩
 obtain ⟨M,hM⟩ : ∃ M,min N 512 = M := ⟨_,rfl⟩
 rw [hN] at hvv hov ⊢
 have hvt := bv_take hvv hN (show M ≤ N by omega)
 have htk : (s.c.tk.vs ++ bs).take M = (s.c.tk.vs ++ bs).take 512 := by
  by_cases h : 512 ≤ N
  ·rw [show M = 512 by omega]
  ·rw [List.take_of_length_le (by omega),List.take_of_length_le (by omega)]
 rw [htk] at hvt
 have hown : Own V.heap.size (.slice va M vc) := fun k hk => hov k (by cases va <;> exact hk)
 have hbd : BD w1 (s.rw X) (.slice va M vc) ((s.c.tk.vs ++ bs).take 512) := BD.new hvt hown hlts
 obtain ⟨H2,hl2⟩ := H1.put_bv hbd
 have hNc : N ≤ vc := by
  obtain ⟨_,_,e,hc,_⟩ := hvv
  cases e
  rw [hN] at hc
  exact hc
 have m1 : (if 512 < N then (512 : Int) else (N : Int)) = (M : Int) := by split <;> omega
 have m2 : (if (512 : Int) < (N : Int) then (512 : Int) else (N : Int)) = (M : Int) := by split <;> omega
 have m3 : (if N ≤ 512 then (N : Int) else 512) = (M : Int) := by split <;> omega
 have n3 : (0 : Int) ≤ (M : Int) := by omega
 have n4 : (M : Int) ≤ (vc : Int) := by omega
 have n5 : (M : Int) ≤ (N : Int) := by omega
 have m6 := H1.blk.cell (j := 6) (v := s.bv) rfl
 have z6 := H1.blk.frozen 6
 have HN := Lib.hid hN
 have HM := Lib.hid hM
 have HH := Lib.hid H2
 clear hvv hov hvt hown hbd hsl hN hM htk hlts H2 hb hpb
 go_upto_region 2 with fail
 generalize hW : World.setCell w1 _ _ = w2
 have H2 := HH.out
 rw [hW] at H2 hl2
 clear hW m6 z6 m1 m2 m3 n3 n4 n5 HH H1
 have hml : ((s.c.tk.vs ++ bs).take 512).length = M := by rw [List.length_take,HN.out,← HM.out]; omega
 obtain ⟨s2,hs2⟩ : ∃ s2 : Sv,{ s with c := { s.c with tk := { s.c.tk with vs := (s.c.tk.vs ++ bs).take 512 } },bv := .slice va M vc } = s2 := ⟨_,rfl⟩
 have H2 : Sq w2 B X s2 := by rw [← hs2]; exact H2
 have e1 : s2.c.tk.kd = s.c.tk.kd := by rw [← hs2]
 have e2 : s2.c.mt = s.c.mt := by rw [← hs2]
 have e3 : s2.c.tk.ha = s.c.tk.ha := by rw [← hs2]
 have e4 : s2.bv = .slice va M vc := by rw [← hs2]
 have m2 := H2.blk.cell (j := 2) (v := .int .i64 s2.c.tk.kd) rfl
 have m0 := H2.blk.cell (j := 0) (v := .int .i64 s2.c.mt) rfl
 have m5 := H2.blk.cell (j := 5) (v := .int .u16 s2.c.tk.ha) rfl
 have m6 := H2.blk.cell (j := 6) (v := s2.bv) rfl
 rw [e1] at m2
 rw [e2] at m0
 rw [e3] at m5
 rw [e4] at m6
 have hp2 : s2.ps.length ≤ 1000 := by rw [← hs2]; exact hps
 have hu2 : s2.us.length ≤ 1000 := by rw [← hs2]; exact hus
 have hw2 : ∀ t ∈ s2.c.wt,TkOk t := by rw [← hs2]; exact hw
 have hv2 : s2.c.tk.vs.length ≤ 1000000 := by rw [← hs2]; simp only [hml]; have := HM.out; omega
 have hsp : s2.sp = ({ s.sp with c := { s.sp.c with tk := { s.sp.c.tk with vs := (s.sp.c.tk.vs ++ bs).take 512 } } } : Sp) := by rw [← hs2]; rfl
 have HSP := Lib.hid hsp
 have HML := Lib.hid hml
 have hM5 : M ≤ 512 := by have := HM.out; omega
 clear e1 e2 e3 e4 hs2 hsp hml HL
 obtain ⟨R,hR⟩ : ∃ R,roomI 11 s.c.mt = R := ⟨_,rfl⟩
 have hroom := fun W => room_any 11 s.c.mt W
 simp only [hR] at hroom
 have HR := Lib.hid hR
 have HRM := Lib.hid hroom
 clear hR hroom
 by_cases e6 : s.c.tk.kd = 6
 ·have t6 : (s.c.tk.kd == 6) = true := by simp [e6]
  have E6 := Lib.hid e6
  clear e6
  by_cases eR : (K : Int) = R
  ·have tR : ((K : Int) == R) = true := by simp [eR]
   have ER := Lib.hid eR
   clear eR
   by_cases eM : M < 512
   ·have tM : decide (M < 512) = true := by simpa using eM
    have tM2 : decide ((M : Int) < 512) = true := by simp; omega
    go_wp2_with fail
    refine (HRM.out _).mono ?_
    rintro e w' ⟨rfl,rfl⟩
    go_upto_region 3 with fail
    go_still_tail 15,(by kernel_rfl)
    change wpList _ _ _ _ _ w2.drew
    have H3 := H2.drew
    have hl3 : Below B w2 w2.drew := (Below.refl _ _).drew
    generalize w2.drew = wd at H3 hl3 ⊢
    clear m0 m2 m5 m6
    go_wp2_with fail
    refine (send_any ⟨12,0,s.c.tk.ha,0,0,0,M,0,0,false,[]⟩ (.slice none 0 0) (.slice none 0 0) wd B X s2 H3 (BD.nil _ _) (SR.nil _ _) (by simp) hp2).mono ?_
    rintro e w3 ⟨rfl,s3,H4,hs3,hl4⟩
    go_wp2_with fail
    refine bodyPost_ret (results_none rfl _ _ _) rfl ⟨rfl,s3,H4,hs3.trans (Eq.symm ?_),((hl1.trans hl2).trans hl3).trans hl4⟩
    unfold Sp.read
    rw [if_pos ⟨E6.out,by rw [HK.out]; exact ER.out.trans HR.out.symm,by rw [show ((s.sp.c.tk.vs ++ bs).take 512).length = M from HML.out]; exact eM⟩,HSP.out]
    simp only [show ((s.sp.c.tk.vs ++ bs).take 512).length = M from HML.out]
    rfl
   ·have tM : decide (M < 512) = false := by simpa using eM
    have tM2 : decide ((M : Int) < 512) = false := by simp; omega
    go_wp2_with fail
    refine (HRM.out _).mono ?_
    rintro e w' ⟨rfl,rfl⟩
    go_wp2_with fail
    clear m0 m2 m5 m6
    refine (value_any _ B X s2 H2 hw2 hp2 hu2 hv2).mono ?_
    rintro e w3 ⟨rfl,s3,H3,hs3,hl3⟩
    go_wp2_with fail
    refine bodyPost_end (results_none rfl _ _ _) rfl ⟨rfl,s3,H3,hs3.trans (Eq.symm ?_),(hl1.trans hl2).trans hl3⟩
    unfold Sp.read
    rw [if_neg (fun hc => ?_),HSP.out]
    exact eM (HML.out ▸ hc.2.2)
  ·have tR : ((K : Int) == R) = false := by simp [eR]
   go_wp2_with fail
   refine (HRM.out _).mono ?_
   rintro e w' ⟨rfl,rfl⟩
   go_wp2_with fail
   clear m0 m2 m5 m6
   refine (value_any _ B X s2 H2 hw2 hp2 hu2 hv2).mono ?_
   rintro e w3 ⟨rfl,s3,H3,hs3,hl3⟩
   go_wp2_with fail
   refine bodyPost_end (results_none rfl _ _ _) rfl ⟨rfl,s3,H3,hs3.trans (Eq.symm ?_),(hl1.trans hl2).trans hl3⟩
   unfold Sp.read
   rw [if_neg (fun hc => ?_),HSP.out]
   exact eR (by rw [← HK.out,← HR.out]; exact hc.2.1)
 ·have t6 : (s.c.tk.kd == 6) = false := by simp [e6]
  go_wp2_with fail
  clear m0 m2 m5 m6
  refine (value_any _ B X s2 H2 hw2 hp2 hu2 hv2).mono ?_
  rintro e w3 ⟨rfl,s3,H3,hs3,hl3⟩
  go_wp2_with fail
  refine bodyPost_end (results_none rfl _ _ _) rfl ⟨rfl,s3,H3,hs3.trans (Eq.symm ?_),(hl1.trans hl2).trans hl3⟩
  unfold Sp.read
  rw [if_neg (fun hc => ?_),HSP.out]
  exact e6 hc.1
def Sp.prepared (x : Sp) (p : Pd) : Sp :=
 if p.ha = x.c.ad.ha ∧ p.of = x.c.ad.of ∧ p.vs = x.c.ad.vs then
  (if x.c.tk.of + p.vs.length < x.c.tk.vs.length then ({ x with c := { x.c with tk := { x.c.tk with of := x.c.tk.of + p.vs.length } } } : Sp).send (pieceP x.c.mt { x.c.tk with of := x.c.tk.of + p.vs.length })
  else ({ x with c := { x.c with tk := { x.c.tk with of := x.c.tk.of + p.vs.length } } } : Sp).send { pd0 with kd := 24,cm := true })
 else x.cancel 4
theorem Sp.prepared_more (x : Sp) (p : Pd) (h : p.ha = x.c.ad.ha ∧ p.of = x.c.ad.of ∧ p.vs = x.c.ad.vs) (h2 : x.c.tk.of + p.vs.length < x.c.tk.vs.length) : x.prepared p = ({ x with c := { x.c with tk := { x.c.tk with of := x.c.tk.of + p.vs.length } } } : Sp).send (pieceP x.c.mt { x.c.tk with of := x.c.tk.of + p.vs.length }) := by
 unfold Sp.prepared
 rw [if_pos h,if_pos h2]
theorem Sp.prepared_done (x : Sp) (p : Pd) (h : p.ha = x.c.ad.ha ∧ p.of = x.c.ad.of ∧ p.vs = x.c.ad.vs) (h2 : ¬ x.c.tk.of + p.vs.length < x.c.tk.vs.length) : x.prepared p = ({ x with c := { x.c with tk := { x.c.tk with of := x.c.tk.of + p.vs.length } } } : Sp).send { pd0 with kd := 24,cm := true } := by
 unfold Sp.prepared
 rw [if_pos h,if_neg h2]
theorem prepared_any (p : Pd) (bv iv : Value) (N O : Nat) (w : World) (B X : Nat) (s : Sv) (h : Sq w B X s) (hw : ∀ t ∈ s.c.wt,TkOk t) (hps : s.ps.length ≤ 1000) (hus : s.us.length ≤ 1000) (hb : BV w bv p.vs) (hi : ∃ ia ic,iv = .slice ia N ic) (hbs : p.vs.length ≤ 1000000) (hvs : s.c.tk.vs.length ≤ 1000000) (hO : s.c.tk.of = (O : Int)) (hOm : O ≤ 1000000) :
 Calls Tryz.prog 88 #[.pointer (some ⟨X,0,none⟩),.agg #[.int .i64 p.kd,.int .i64 p.ask,.int .u16 p.ha,.int .u16 p.la,.int .u64 p.hi,.int .u64 p.lo,.int .i64 p.of,.int .i64 p.mt,.int .i64 p.co,.bool p.cm,bv,iv]] w fun e w' => e = .returned (.tuple #[]) ∧ ∃ s',Sq w' B X s' ∧ s'.sp = s.sp.prepared p ∧ Below B w w' := by
 have hBw := Nat.le_trans h.own (Nat.le_of_lt h.blk.lt)
 have hXw := h.blk.lt
 obtain ⟨ia,ic,rfl⟩ := hi
 obtain ⟨a,c,rfl⟩ := hb.form
 obtain ⟨K,hK⟩ : ∃ L,p.vs.length = L := ⟨_,rfl⟩
 rw [hK] at hb ⊢
 obtain ⟨a2,c2,hab⟩ := h.pt.ab.1.form
 have hav := h.pt.ab.1
 obtain ⟨M,hM⟩ : ∃ L,s.c.ad.vs.length = L := ⟨_,rfl⟩
 rw [hM] at hab
 rw [hab] at hav
 have HK := Lib.hid hK
 have HAB := Lib.hid hab
 have bP0 := Blk.new w 49 [.int .i64 p.kd,.int .i64 p.ask,.int .u16 p.ha,.int .u16 p.la,.int .u64 p.hi,.int .u64 p.lo,.int .i64 p.of,.int .i64 p.mt,.int .i64 p.co,.bool p.cm,.slice a K c,.slice ia N ic]
 have hB0 : Below w.heap.size w (w.alloc (.cells #[.int .i64 p.kd,.int .i64 p.ask,.int .u16 p.ha,.int .u16 p.la,.int .u64 p.hi,.int .u64 p.lo,.int .i64 p.of,.int .i64 p.mt,.int .i64 p.co,.bool p.cm,.slice a K c,.slice ia N ic] 49)) := (Below.refl _ _).alloc (Nat.le_refl _) _
 go_enter Tryz.func88,Tryz.ntmps88
 go_upto_region 1 with fail
 generalize hV : World.alloc w _ = V at bP0 hB0 ⊢
 clear hV
 have HV := h.below hB0
 have hb0 := hb.below hB0
 have ha0 := hav.below hB0
 have HPV := Lib.hid (show ∀ W : World,Below V.heap.size V W → BV W (.slice a K c) p.vs from fun W hW => hb0.below hW)
 have HAV := Lib.hid (show ∀ W : World,Below V.heap.size V W → BV W (.slice a2 M c2) s.c.ad.vs from fun W hW => ha0.below hW)
 have x20 := HV.blk.cell (j := 20) (v := s.ab) rfl
 rw [hab] at x20
 have TA : Cells V [(w.heap.size,2,.int .u16 p.ha),(X,12,.int .u16 s.c.ad.ha),(w.heap.size,6,.int .i64 p.of),(X,16,.int .i64 s.c.ad.of),(w.heap.size,10,.slice a K c),(X,20,.slice a2 M c2)] := ⟨bP0.cell (j := 2) rfl,HV.blk.cell (j := 12) rfl,bP0.cell (j := 6) rfl,HV.blk.cell (j := 16) rfl,bP0.cell (j := 10) rfl,x20,trivial⟩
 have HVV := Lib.hid HV
 have HBP := Lib.hid bP0
 have HOO := Lib.hid hO
 have hlow := hB0.mono hBw
 clear h hb hav hb0 ha0 x20 HV bP0 hK hab hM hO hB0
 go_cut [35] (fun v wx => ∃ d : Bool,v = .bool d ∧ d = decide (¬ (p.ha = s.c.ad.ha ∧ p.of = s.c.ad.of ∧ p.vs = s.c.ad.vs)) ∧ Below V.heap.size V wx)
 case first =>
  have TB := TA.drew
  have hBd : Below V.heap.size V V.drew := (Below.refl _ _).drew
  clear TA
  by_cases e1 : p.ha = s.c.ad.ha
  ·have t1 : (((p.ha : Nat) : Int) != ((s.c.ad.ha : Nat) : Int)) = false := by simp [e1]
   have E1 := Lib.hid e1
   clear e1
   by_cases e2 : p.of = s.c.ad.of
   ·have t2 : (p.of != s.c.ad.of) = false := by simp [e2]
    have E2 := Lib.hid e2
    clear e2
    refine wp_region_held_drew (S := (fun W' : World => Cells W' [(w.heap.size,2,.int .u16 p.ha),(X,12,.int .u16 s.c.ad.ha),(w.heap.size,6,.int .i64 p.of),(X,16,.int .i64 s.c.ad.of),(w.heap.size,10,.slice a K c),(X,20,.slice a2 M c2)])) (by kernel_rfl) (TB) (fun hHeld => ?_)
    generalize World.drew _ = wd at hHeld TB hBd ⊢
    refine tkU 0 ?_
    refine tkU 1 ?_
    refine tkU 2 ?_
    refine tkU 3 ?_
    refine tkU 4 ?_
    refine tkU 5 ?_
    refine tkU 6 ?_
    refine tkU 7 ?_
    refine tkU 8 ?_
    refine tkU 9 ?_
    refine tkU 10 ?_
    refine tkU 11 ?_
    refine tkU 12 ?_
    refine tkU 13 ?_
    refine tkU 14 ?_
    refine tkU 15 ?_
    refine tkU 16 ?_
    refine tkU 17 ?_
    refine tkU 18 ?_
    refine tkU 19 ?_
    refine tkU 20 ?_
    refine tkU 21 ?_
    refine tkU 22 ?_
    refine tkU 23 ?_
    refine tkU 24 ?_
    refine tkU 25 ?_
    refine tkU 26 ?_
    refine tkU 27 ?_
    refine tkU 28 ?_
    refine rd1 29 fun K hK => ?_
    go_simp
    go_at_call 108
    refine (equal_any _ _ p.vs s.c.ad.vs _ (HPV.out _ hBd).at (HAV.out _ hBd).at).mono ?_
    rintro e w2 ⟨rfl,hB2⟩
    have hBd2 := hBd.trans (hB2.mono hBd.size)
    have TB2 := TB.keep hB2
    clear hHeld
    refine hK.out _ _ (TB2) (fun hHeld => ?_)
    clear hK K
    try simp only [Act.put,List.setIfInBounds_toArray,List.set_cons_zero,List.set_cons_succ]
    refine tkU 30 ?_
    refine tkU 31 ?_
    refine wpAnyH_done (by kernel_rfl) ?_ _
    go_wp2_with fail
    go_meet
    exact ⟨_,rfl,by simp [E1.out,E2.out],hBd2⟩
   ·have t2 : (p.of != s.c.ad.of) = true := by simp [e2]
    have E2 := Lib.hid e2
    clear e2
    refine wp_region_held_drew (S := (fun W' : World => Cells W' [(w.heap.size,2,.int .u16 p.ha),(X,12,.int .u16 s.c.ad.ha),(w.heap.size,6,.int .i64 p.of),(X,16,.int .i64 s.c.ad.of),(w.heap.size,10,.slice a K c),(X,20,.slice a2 M c2)])) (by kernel_rfl) (TB) (fun hHeld => ?_)
    generalize World.drew _ = wd at hHeld TB hBd ⊢
    refine tkU 0 ?_
    refine tkU 1 ?_
    refine tkU 2 ?_
    refine tkU 3 ?_
    refine tkU 4 ?_
    refine tkU 5 ?_
    refine tkU 6 ?_
    refine tkU 7 ?_
    refine tkU 8 ?_
    refine tkU 9 ?_
    refine tkU 10 ?_
    refine tkU 11 ?_
    refine tkU 12 ?_
    refine tkU 13 ?_
    refine tkU 14 ?_
    refine tkU 15 ?_
    refine tkU 16 ?_
    refine tkU 17 ?_
    refine tkU 18 ?_
    refine tkU 19 ?_
    refine tkU 20 ?_
    refine tkV 21 ?_
    refine tkV 22 ?_
    refine tkV 23 ?_
    refine tkV 24 ?_
    refine tkV 25 ?_
    refine tkV 26 ?_
    refine tkV 27 ?_
    refine tkV 28 ?_
    refine tkV 29 ?_
    refine tkV 30 ?_
    refine tkU 31 ?_
    refine wpAnyH_done (by kernel_rfl) ?_ _
    go_wp2_with fail
    go_meet
    exact ⟨_,rfl,by simp [E2.out],hBd⟩
  ·have t1 : (((p.ha : Nat) : Int) != ((s.c.ad.ha : Nat) : Int)) = true := by simp; omega
   have E1 := Lib.hid e1
   clear e1
   refine wp_region_held_drew (S := (fun W' : World => Cells W' [(w.heap.size,2,.int .u16 p.ha),(X,12,.int .u16 s.c.ad.ha),(w.heap.size,6,.int .i64 p.of),(X,16,.int .i64 s.c.ad.of),(w.heap.size,10,.slice a K c),(X,20,.slice a2 M c2)])) (by kernel_rfl) (TB) (fun hHeld => ?_)
   generalize World.drew _ = wd at hHeld TB hBd ⊢
   refine tkU 0 ?_
   refine tkU 1 ?_
   refine tkU 2 ?_
   refine tkU 3 ?_
   refine tkU 4 ?_
   refine tkU 5 ?_
   refine tkU 6 ?_
   refine tkU 7 ?_
   refine tkU 8 ?_
   refine tkU 9 ?_
   refine tkV 10 ?_
   refine tkV 11 ?_
   refine tkV 12 ?_
   refine tkV 13 ?_
   refine tkV 14 ?_
   refine tkV 15 ?_
   refine tkV 16 ?_
   refine tkV 17 ?_
   refine tkV 18 ?_
   refine tkU 19 ?_
   refine tkU 20 ?_
   refine tkV 21 ?_
   refine tkV 22 ?_
   refine tkV 23 ?_
   refine tkV 24 ?_
   refine tkV 25 ?_
   refine tkV 26 ?_
   refine tkV 27 ?_
   refine tkV 28 ?_
   refine tkV 29 ?_
   refine tkV 30 ?_
   refine tkU 31 ?_
   refine wpAnyH_done (by kernel_rfl) ?_ _
   go_wp2_with fail
   go_meet
   exact ⟨_,rfl,by simp [E1.out],hBd⟩
 case rest =>
  obtain ⟨d,rfl,hd,hB1⟩ := hcut
  have HD := Lib.hid hd
  have H1 := HVV.out.below hB1
  have hl1 := hlow.trans (hB1.mono (Nat.le_trans hBw hlow.size))
  clear hd TA
  cases d with
  |true =>
   go_wp2_with fail
   refine (cancel_any 4 _ B X s H1 hw hps hus).mono ?_
   rintro e w2 ⟨rfl,s2,H2,hs2,hl2⟩
   go_wp2_with fail
   refine bodyPost_ret (results_none rfl _ _ _) rfl ⟨rfl,s2,H2,hs2.trans (Eq.symm ?_),hl1.trans hl2⟩
   unfold Sp.prepared
   exact if_neg (fun hc => by have hx := HD.out; simp at hx; rcases hx with hx | hx | hx; exact hx hc.1; exact hx hc.2.1; exact hx hc.2.2)
  |false =>
   have hq : p.ha = s.c.ad.ha ∧ p.of = s.c.ad.of ∧ p.vs = s.c.ad.vs := by
    have hx := HD.out
    simp only [false_eq_decide_iff,Classical.not_not] at hx
    exact hx
   have HQ := Lib.hid hq
   have bP1 := HBP.out.below hB1
   clear hq
   rename World => W1
   have m7 := H1.blk.cell (j := 7) (v := .int .i64 s.c.tk.of) rfl
   have z7 := H1.blk.frozen 7
   have q10 := bP1.cell (j := 10) (v := .slice a K c) rfl
   rw [HOO.out] at m7
   obtain ⟨Z,hZ⟩ : ∃ Z,O + K = Z := ⟨_,rfl⟩
   have w1 : IntKind.i64.wrap ((O : Int) + (K : Int)) = (Z : Int) := by
    have := HK.out
    rw [IntWalk.i64_in _ (by omega)]
    omega
   go_upto_region 3 with fail
   go_still_tail 14,(by kernel_rfl)
   change wpList _ _ _ _ _ W1.drew
   have H2 := H1.drew
   have hl2 : Below B W1 W1.drew := (Below.refl _ _).drew
   have m7' : W1.drew.cell? ⟨X,7,none⟩ = some (.int .i64 (O : Int)) := m7
   have z7' : W1.drew.frozen? ⟨X,7,none⟩ = false := z7
   generalize W1.drew = W2 at H2 hl2 m7' z7' ⊢
   clear m7 z7 q10
   go_upto_region 4 with fail
   have H3 := H2.put_of (Z : Int)
   generalize hW : World.setCell W2 _ _ = W3 at H3 ⊢
   clear hW m7' z7' w1
   obtain ⟨H3,hl3⟩ := H3
   obtain ⟨s3,hs3⟩ : ∃ s3 : Sv,{ s with c := { s.c with tk := { s.c.tk with of := (Z : Int) } } } = s3 := ⟨_,rfl⟩
   have H3 : Sq W3 B X s3 := by rw [← hs3]; exact H3
   have e1 : s3.c.tk.of = (Z : Int) := by rw [← hs3]
   have e2 : s3.c.tk.vs = s.c.tk.vs := by rw [← hs3]
   have hp3 : s3.ps.length ≤ 1000 := by rw [← hs3]; exact hps
   have hsp : s3.sp = ({ s.sp with c := { s.sp.c with tk := { s.sp.c.tk with of := s.sp.c.tk.of + p.vs.length } } } : Sp) := by
    rw [← hs3]
    simp only [Sv.sp,HOO.out,HK.out,← hZ]
    simp
   have HSP := Lib.hid hsp
   obtain ⟨va,vc,hv⟩ := H3.pt.bv.1.form
   obtain ⟨LL,hLL⟩ : ∃ L,s3.c.tk.vs.length = L := ⟨_,rfl⟩
   rw [hLL] at hv
   have hbv3 := H3.pt.bv.1
   rw [hv] at hbv3
   have HLL := Lib.hid hLL
   obtain ⟨fa,fc,hfv⟩ := own_form H3.pt.fv
   have m2 := H3.blk.cell (j := 2) (v := .int .i64 s3.c.tk.kd) rfl
   have m3 := H3.blk.cell (j := 3) (v := .int .u16 s3.c.tk.fi) rfl
   have m4 := H3.blk.cell (j := 4) (v := .int .u16 s3.c.tk.la) rfl
   have m5 := H3.blk.cell (j := 5) (v := .int .u16 s3.c.tk.ha) rfl
   have m6 := H3.blk.cell (j := 6) (v := s3.bv) rfl
   have m7 := H3.blk.cell (j := 7) (v := .int .i64 s3.c.tk.of) rfl
   have m8 := H3.blk.cell (j := 8) (v := s3.fv) rfl
   have m9 := H3.blk.cell (j := 9) (v := .bool s3.c.tk.bad) rfl
   have m0 := H3.blk.cell (j := 0) (v := .int .i64 s3.c.mt) rfl
   rw [e1] at m7
   rw [hv] at m6
   rw [hfv] at m8
   have hLm : LL ≤ 1000000 := by rw [← hLL,e2]; exact hvs
   have hl13 := (hl1.trans hl2).trans hl3
   have HZ := Lib.hid hZ
   have HV2 := Lib.hid e2
   have HE1 := Lib.hid e1
   clear hs3 e1 e2 hv hfv hLL hsp hZ H1 H2 hl1 hl2 hl3
   have hcond : (if s.sp.c.tk.of + (p.vs.length : Int) < s.sp.c.tk.vs.length then true else false) = decide (Z < LL) := by
    have a1 : s.sp.c.tk.of + (p.vs.length : Int) = (Z : Int) := by rw [HK.out,show s.sp.c.tk.of = (O : Int) from HOO.out,← HZ.out]; simp
    have a2 : s.sp.c.tk.vs.length = LL := by rw [← HLL.out,HV2.out]; rfl
    rw [a1,a2]
    by_cases h : Z < LL
    ·rw [if_pos (by omega),decide_eq_true h]
    ·rw [if_neg (by omega),decide_eq_false h]
   have HC := Lib.hid hcond
   clear hcond
   by_cases hlt : Z < LL
   ·have g1 : decide (Z < LL) = true := by simpa using hlt
    go_quiet (fail)
    have hB4 : Below W3.heap.size W3 (W3.drewN nq) := below_drewN (Below.refl _ _) _
    have H4 := H3.below hB4
    have hbv4 := hbv3.below hB4
    have hl4 := hB4.mono (Nat.le_trans H3.own (Nat.le_of_lt H3.blk.lt))
    have y0 := kc m0 hB4
    have y2 := kc m2 hB4
    have y3 := kc m3 hB4
    have y4 := kc m4 hB4
    have y5 := kc m5 hB4
    have y6 := kc m6 hB4
    have y7 := kc m7 hB4
    have y8 := kc m8 hB4
    have y9 := kc m9 hB4
    generalize World.drewN W3 nq = W4 at hB4 H4 hbv4 hl4 y0 y2 y3 y4 y5 y6 y7 y8 y9 ⊢
    clear hbv3 H3 hB4 m0 m2 m3 m4 m5 m6 m7 m8 m9
    go_wp2_with fail
    refine (piece_any X s3.c.mt s3.c.tk.kd s3.c.tk.fi s3.c.tk.la s3.c.tk.ha (.slice va LL vc) Z (.slice fa s3.c.tk.fo.length fc) s3.c.tk.bad s3.c.tk.vs W4 y0 hbv4 (by rw [HLL.out]; exact hLm) (by rw [HLL.out]; omega)).mono ?_
    rintro e W5 ⟨vv,rfl,hvv,hov,hB5⟩
    have H5 := H4.below hB5
    have hl5 := hB5.mono (Nat.le_trans H4.own (Nat.le_of_lt H4.blk.lt))
    clear y0 y2 y3 y4 y5 y6 y7 y8 y9
    go_wp2_with fail
    refine (send_any ⟨22,0,s3.c.tk.ha,0,0,0,Z,0,0,false,(s3.c.tk.vs.drop Z).take (roomI 22 s3.c.mt).toNat⟩ vv (.slice none 0 0) W5 B X s3 H5 (BD.new hvv hov H4.lts) (SR.nil _ _) (by simp only [List.length_take,List.length_drop]; rw [HLL.out]; omega) hp3).mono ?_
    rintro e W6 ⟨rfl,s6,H6,hs6,hl6⟩
    go_wp2_with fail
    refine bodyPost_ret (results_none rfl _ _ _) rfl ⟨rfl,s6,H6,hs6.trans (Eq.symm ?_),((hl13.trans hl4).trans hl5).trans hl6⟩
    have hc := HC.out
    rw [decide_eq_true hlt] at hc
    have hc' : s.sp.c.tk.of + (p.vs.length : Int) < s.sp.c.tk.vs.length := by
     by_cases h : s.sp.c.tk.of + (p.vs.length : Int) < s.sp.c.tk.vs.length
     ·exact h
     ·rw [if_neg h] at hc; cases hc
    have f1 : s3.c.tk = { s.sp.c.tk with of := s.sp.c.tk.of + p.vs.length } := congrArg (fun x : Sp => x.c.tk) HSP.out
    have f2 : s3.c.mt = s.sp.c.mt := congrArg (fun x : Sp => x.c.mt) HSP.out
    have hp : pieceP s3.c.mt s3.c.tk = ⟨22,0,s3.c.tk.ha,0,0,0,Z,0,0,false,(s3.c.tk.vs.drop Z).take (roomI 22 s3.c.mt).toNat⟩ := by simp only [pieceP,HE1.out,pd0,roomN,Int.toNat_natCast]
    refine (Sp.prepared_more s.sp p HQ.out hc').trans ?_
    rw [HSP.out]
    exact congrArg _ ((congr (congrArg pieceP f2.symm) f1.symm).trans hp)
   ·have g1 : decide (Z < LL) = false := by simpa using hlt
    go_quiet (fail)
    have hB4 : Below W3.heap.size W3 (W3.drewN nq) := below_drewN (Below.refl _ _) _
    have H4 := H3.below hB4
    have hbv4 := hbv3.below hB4
    have hl4 := hB4.mono (Nat.le_trans H3.own (Nat.le_of_lt H3.blk.lt))
    have y0 := kc m0 hB4
    have y2 := kc m2 hB4
    have y3 := kc m3 hB4
    have y4 := kc m4 hB4
    have y5 := kc m5 hB4
    have y6 := kc m6 hB4
    have y7 := kc m7 hB4
    have y8 := kc m8 hB4
    have y9 := kc m9 hB4
    generalize World.drewN W3 nq = W4 at hB4 H4 hbv4 hl4 y0 y2 y3 y4 y5 y6 y7 y8 y9 ⊢
    clear hbv3 H3 hB4 m0 m2 m3 m4 m5 m6 m7 m8 m9
    go_wp2_with fail
    clear y0 y2 y3 y4 y5 y6 y7 y8 y9
    refine (send_any ⟨24,0,0,0,0,0,0,0,0,true,[]⟩ (.slice none 0 0) (.slice none 0 0) W4 B X s3 H4 (BD.nil _ _) (SR.nil _ _) (by simp) hp3).mono ?_
    rintro e W6 ⟨rfl,s6,H6,hs6,hl6⟩
    go_wp2_with fail
    refine bodyPost_end (results_none rfl _ _ _) rfl ⟨rfl,s6,H6,hs6.trans (Eq.symm ?_),(hl13.trans hl4).trans hl6⟩
    have hc := HC.out
    rw [decide_eq_false hlt] at hc
    have hc' : ¬ s.sp.c.tk.of + (p.vs.length : Int) < s.sp.c.tk.vs.length := by
     intro h
     rw [if_pos h] at hc
     cases hc
    refine (Sp.prepared_done s.sp p HQ.out hc').trans ?_
    rw [HSP.out]
    rfl
/-- an element of a list -/
structure Im where
 ha : Nat
 la : Nat
 hi : Nat
 lo : Nat
 bs : List Nat
instance : Inhabited Im := ⟨⟨0,0,0,0,[]⟩⟩
def ienc (q : Im × Value) : List Value := [.int .u16 q.1.ha,.int .u16 q.1.la,.int .u64 q.1.hi,.int .u64 q.1.lo,q.2]
theorem ienc_len (q : Im × Value) : (ienc q).length = 5 := rfl
/-- a list of elements, read, below B -/
structure ItB (w : World) (B : Nat) (v : Value) (qs : List (Im × Value)) : Prop where
 sr : SR w v qs.length 5 (qs.flatMap ienc)
 low : qs.length = 0 ∨ ∃ b,v.ownBlock = some b ∧ b < B
 bv : ∀ q ∈ qs,BV w q.2 q.1.bs ∧ (q.1.bs.length = 0 ∨ ∃ b,q.2.ownBlock = some b ∧ b < B) ∧ q.1.bs.length ≤ 1000000
 rg : ∀ q ∈ qs,q.1.ha < 65536 ∧ q.1.la < 65536 ∧ q.1.hi < 18446744073709551616 ∧ q.1.lo < 18446744073709551616
theorem SR.lowB {w w' : World} {B : Nat} {v : Value} {n size : Nat} {cs : List Value} (h : SR w v n size cs) (hl : n = 0 ∨ ∃ b,v.ownBlock = some b ∧ b < B) (hb : Below B w w') : SR w' v n size cs := by
 rcases hl with h0 | ⟨b,hb1,hlt⟩
 ·subst h0
  exact h.empty
 ·obtain ⟨h1,h2,h3,ao,cap,rfl,hn,h4⟩ := h
  refine ⟨h1,h2,h3,ao,cap,rfl,hn,fun h0 => ?_⟩
  obtain ⟨b',off,rfl,hlt',hc⟩ := h4 h0
  simp [Value.ownBlock] at hb1
  subst hb1
  exact ⟨b',off,rfl,Nat.lt_of_lt_of_le hlt' hb.size,fun j u hj => (World.cell?_of_block (a := ⟨b',off + j,none⟩) (hb.block b' hlt)).trans (hc j u hj)⟩
theorem BV.lowB {w w' : World} {B : Nat} {v : Value} {bs : List Nat} (h : BV w v bs) (hl : bs.length = 0 ∨ ∃ b,v.ownBlock = some b ∧ b < B) (hb : Below B w w') : BV w' v bs := h.with (h.sr.lowB hl hb)
theorem ItB.below {w w' : World} {B : Nat} {v : Value} {qs : List (Im × Value)} (h : ItB w B v qs) (hb : Below B w w') : ItB w' B v qs := ⟨h.sr.lowB h.low hb,h.low,fun q hq => ⟨(h.bv q hq).1.lowB (h.bv q hq).2.1 hb,(h.bv q hq).2⟩,h.rg⟩
/-- the cells of element k -/
theorem ItB.cells {w : World} {B : Nat} {v : Value} {qs : List (Im × Value)} (h : ItB w B v qs) {k : Nat} {q : Im × Value} (hk : qs[k]? = some q) : ∃ b off cap,v = .slice (some ⟨b,off,none⟩) qs.length cap ∧ b < B ∧ ∀ j u,(ienc q)[j]? = some u → w.cell? ⟨b,off + (k * 5 + j),none⟩ = some u := by
 have hlt : k < qs.length := (List.getElem?_eq_some_iff.1 hk).1
 obtain ⟨_,_,_,ao,cap,rfl,_,h4⟩ := h.sr
 obtain ⟨b,off,rfl,_,hc⟩ := h4 (by omega)
 rcases h.low with h0 | ⟨b',hb',hb⟩
 ·omega
 ·simp [Value.ownBlock] at hb'
  subst hb'
  refine ⟨b,off,cap,rfl,hb,fun j u hj => hc _ u ?_⟩
  have hj5 : j < 5 := by
   have h1 := (List.getElem?_eq_some_iff.1 hj).1
   exact h1
  rw [flat_get ienc 5 ienc_len qs k j hlt hj5]
  have e : qs[k] = q := (List.getElem?_eq_some_iff.1 hk).2
  rw [e]
  exact hj
def Sp.hash (x : Sp) (l : List Im) : Sp := match l with
 |[] => x.fail 4
 |i :: _ => if i.bs.length = 8 then x.endd ⟨3,0,i.ha,i.bs,[],0⟩ else x.fail 4
theorem hash_any (qs : List (Im × Value)) (v : Value) (w : World) (B X : Nat) (s : Sv) (h : Sq w B X s) (hw : ∀ t ∈ s.c.wt,TkOk t) (hps : s.ps.length ≤ 1000) (hus : s.us.length ≤ 1000) (hI : ItB w B v qs) :
 Calls Tryz.prog 83 #[.pointer (some ⟨X,0,none⟩),v] w fun e w' => e = .returned (.tuple #[]) ∧ ∃ s',Sq w' B X s' ∧ s'.sp = s.sp.hash (qs.map (·.1)) ∧ Below B w w' := by
 have hBw := Nat.le_trans h.own (Nat.le_of_lt h.blk.lt)
 cases qs with
 |nil =>
  obtain ⟨a,c,rfl⟩ := hI.sr.form
  simp only [List.length_nil]
  go_enter Tryz.func83,Tryz.ntmps83
  go_wp2_with fail
  refine (fail_any 4 w B X s h hw hps hus).mono ?_
  rintro e w2 ⟨rfl,s2,H2,hs2,hl2⟩
  go_wp2_with fail
  refine bodyPost_ret (results_none rfl _ _ _) rfl ⟨rfl,s2,H2,hs2.trans (Eq.symm ?_),hl2⟩
  rfl
 |cons q l =>
  obtain ⟨i,vi⟩ := q
  obtain ⟨b,off,cap,rfl,hb,hcs⟩ := hI.cells (k := 0) (q := (i,vi)) rfl
  obtain ⟨hbv,hbl,hbm⟩ := hI.bv (i,vi) (by simp)
  simp only at hbv hbl hbm
  obtain ⟨va,vc,rfl⟩ := hbv.form
  obtain ⟨L,hL⟩ : ∃ L,i.bs.length = L := ⟨_,rfl⟩
  have f0 := hcs 0 (.int .u16 i.ha) rfl
  have f4 := hcs 4 _ rfl
  simp only [Nat.zero_mul,Nat.zero_add,Nat.add_zero] at f0 f4
  have hbl : i.bs.length = 0 ∨ ∃ b,(Value.slice va L vc).ownBlock = some b ∧ b < B := by rw [hL] at hbl ⊢; exact hbl
  rw [hL] at f4 hbv
  obtain ⟨n,hn⟩ : ∃ n,((i,Value.slice va i.bs.length vc) :: l).length = n := ⟨_,rfl⟩
  rw [hn]
  have hn0 : 0 < n := by rw [← hn]; simp
  have g0 : ((n : Int) == 0) = false := by simp; omega
  have i1 : (0 : Int) < (n : Int) := by omega
  have HL := Lib.hid hL
  have HI := Lib.hid hI
  clear hcs hL hI hn
  by_cases e8 : L = 8
  ·have g8 : ((L : Int) != 8) = false := by simp; omega
   have E8 := Lib.hid e8
   clear e8
   have TA : Cells w [(b,off,.int .u16 i.ha),(b,off + 4,.slice va L vc)] := ⟨f0,f4,trivial⟩
   go_enter Tryz.func83,Tryz.ntmps83
   go_upto_region 2 with fail
   have H1 := h.drew
   have hl1 : Below B w w.drew := (Below.refl _ _).drew
   have TB := TA.drew
   have hbv1 : BV w.drew (.slice va L vc) i.bs := hbv.lowB hbl hl1
   clear f0 f4 TA hbv h
   refine wp_region_held_drew (S := (fun W' : World => Cells W' [(b,off,.int .u16 i.ha),(b,off + 4,.slice va L vc)])) (by kernel_rfl) (TB) (fun hHeld => ?_)
   generalize World.drew _ = wd at hHeld TB H1 hl1 hbv1 ⊢
   refine tkU 0 ?_
   refine tkU 1 ?_
   refine tkU 2 ?_
   refine tkU 3 ?_
   refine tkU 4 ?_
   refine tkU 5 ?_
   refine tkU 6 ?_
   refine tkU 7 ?_
   refine tkU 8 ?_
   refine rd1 9 fun K hK => ?_
   go_simp
   generalize hX : World.alloc _ (.cells _ 27) = w2
   obtain ⟨hsl,hB2,hz2⟩ := alloc_named hX
   have TB2 := TB.keep hB2
   have H2 := H1.below hB2
   have hl2 := hl1.trans (hB2.mono (Nat.le_trans H1.own (Nat.le_of_lt H1.blk.lt)))
   clear hX hz2
   clear hHeld
   refine hK.out _ _ (TB2) (fun hHeld => ?_)
   clear hK K
   try simp only [Act.put,List.setIfInBounds_toArray,List.set_cons_zero,List.set_cons_succ]
   refine rd1 10 fun K hK => ?_
   go_simp
   go_at_call 34
   refine (join_one _ _ i.bs _ _ hsl (hbv1.below hB2) hbm).mono ?_
   rintro e w3 ⟨vv,rfl,hvv,hov,hB3⟩
   have TB3 := TB2.keep hB3
   have H3 := H2.below hB3
   have hl3 := hl2.trans (hB3.mono (Nat.le_trans H2.own (Nat.le_of_lt H2.blk.lt)))
   have hbd : BD w3 (s.rw X) vv i.bs := BD.new hvv hov H2.lts
   obtain ⟨wa,wc,rfl⟩ := hvv.form
   rw [HL.out] at hbd ⊢
   clear hvv hov hsl hB2 hB3 H1 H2
   clear hHeld
   refine hK.out _ _ (TB3) (fun hHeld => ?_)
   clear hK K
   try simp only [Act.put,List.setIfInBounds_toArray,List.set_cons_zero,List.set_cons_succ]
   refine tkU 11 ?_
   refine rd1 12 fun K hK => ?_
   go_simp
   go_at_call 81
   refine (end_any ⟨3,0,i.ha,i.bs,[],0⟩ (.slice wa L wc) (.slice none 0 0) w3 B X s H3 hw hps hus hbd (FD.nil _ _)).mono ?_
   rintro e w4 ⟨rfl,s4,H4,hs4,hl4⟩
   have TB4 : Cells w4 [(b,off,.int .u16 i.ha),(b,off + 4,.slice va L vc)] := Cells.low hl4 TB3 (by simp; omega)
   clear hHeld
   refine hK.out _ _ (TB4) (fun hHeld => ?_)
   clear hK K
   try simp only [Act.put,List.setIfInBounds_toArray,List.set_cons_zero,List.set_cons_succ]
   refine wpAnyH_done (by kernel_rfl) ?_ _
   go_wp2_with fail
   refine bodyPost_end (results_none rfl _ _ _) rfl ⟨rfl,s4,H4,hs4.trans (Eq.symm ?_),hl3.trans hl4⟩
   exact if_pos (HL.out.trans E8.out)
  ·have g8 : ((L : Int) != 8) = true := by simp; omega
   go_enter Tryz.func83,Tryz.ntmps83
   go_wp2_with fail
   refine (fail_any 4 w B X s h hw hps hus).mono ?_
   rintro e w2 ⟨rfl,s2,H2,hs2,hl2⟩
   go_wp2_with fail
   refine bodyPost_ret (results_none rfl _ _ _) rfl ⟨rfl,s2,H2,hs2.trans (Eq.symm ?_),hl2⟩
   exact if_neg (fun hc => e8 (HL.out.symm.trans hc))
end Go.Proofs.YtldcihjddebciaaGreat
