/- client: the law ClientPlays walked. -/
import Derived.Test.YtldcihjddebciaaPCkS
import Derived.Test.YtldcihjddebciaaPSlArg2
set_option linter.unusedSimpArgs false
set_option linter.unusedVariables false
set_option maxRecDepth 100000
set_option maxHeartbeats 12000000
namespace Go.Proofs.Ytldcihjddebciaa
open Go.RowKit
theorem clientPlays_walk (v0 v1 : Value) (w : World) (a0 : Arg Try.prog w 3 v0) (a1 : Arg Try.prog w 42 v1) :
 Calls Try.prog 5 #[v0,v1] w fun e w' => e = .returned (.bool true) ∧ Below w.heap.size w w' := by
 obtain ⟨mx,rfl,-,-⟩ := a0.i64 Try.underlying3
 obtain ⟨ss,hsr,hin⟩ := arg_steps a1
 have hsm := small_any ss v1 w hsr hin
 obtain ⟨N,hN⟩ : ∃ N,ss.length = N := ⟨_,rfl⟩
 obtain ⟨sa,sc,hsf⟩ := hsr.form
 rw [hN] at hsf
 subst hsf
 have HSM := Lib.hid hsm
 have HSS := Lib.hid (And.intro hsr (And.intro hin hN))
 have hNm : N ≤ maxLen := by rw [← hN]; exact hsr.1
 unfold maxLen at hNm
 clear hsm hsr hin hN a0 a1
 go_enter Try.func5,Try.ntmps5
 go_wp2_with fail
 refine HSM.out.mono ?_
 rintro e w1 ⟨⟨B,rfl,hB⟩,hB1⟩
 have HB := Lib.hid hB
 clear hB
 cases B with
 |false =>
  go_wp2_with fail
  refine (example_any w1).mono ?_
  rintro e wz ⟨rfl,hBz⟩
  go_wp2
  go_ret
  exact ⟨rfl,hB1.trans (hBz.mono hB1.size)⟩
 |true =>
  obtain ⟨hNl,hall⟩ := HB.out rfl
  rw [HSS.out.2.2] at hNl
  have HALL := Lib.hid hall
  clear hall HB
  by_cases h1 : mx < 23
  ·have g1 : decide (mx < 23) = true := by simpa using h1
   go_wp2_with fail
   refine (example_any w1).mono ?_
   rintro e wz ⟨rfl,hBz⟩
   go_wp2
   go_ret
   exact ⟨rfl,hB1.trans (hBz.mono hB1.size)⟩
  ·have g1 : decide (mx < 23) = false := by simpa using h1
   by_cases h2 : 517 < mx
   ·have g2 : decide (517 < mx) = true := by simpa using h2
    go_wp2_with fail
    refine (example_any w1).mono ?_
    rintro e wz ⟨rfl,hBz⟩
    go_wp2
    go_ret
    exact ⟨rfl,hB1.trans (hBz.mono hB1.size)⟩
   ·have g2 : decide (517 < mx) = false := by simpa using h2
    have HMX := Lib.hid (show 23 ≤ mx ∧ mx ≤ 517 by omega)
    have one0 := kv0_one mx
    clear h1 h2
    go_wp2_with fail
    refine (plays_new mx HMX.out.1 HMX.out.2 w1).mono ?_
    rintro e w2 ⟨rfl,hB2⟩
    have hB2 := hB1.trans (hB2.mono hB1.size)
    have bX := Blk.new w2 35 czl
    have hth := bX.there 0 26 (by simp [czl])
    have HB2 := Lib.hid hB2
    clear hB2 hB1
    go_upto_region 4 with (refine wpList_store_mid rfl 35 _ _ rfl w2.heap.size 0 (kv0.cells (cN mx)).toArray rfl rfl hth (by kernel_rfl) one0 ?_; simp only [Act.put]; generalize hW : World.setCells _ w2.heap.size 0 _ = w3; have HW := Lib.hid hW; clear hW)
    have bX5 := bX.putAll (vs := kv0.cells (cN mx)) rfl
    have hg3 := setCells_grown w2.heap.size (kv0.cells (cN mx)) 0 (w2.alloc (.cells czl.toArray 35))
    have e : (w2.alloc (.cells czl.toArray 35)).setCells w2.heap.size 0 (kv0.cells (cN mx)) = w3 := HW.out
    rw [e] at bX5 hg3
    have hB3 := HB2.out.trans ((((Below.refl w2.heap.size w2).alloc (Nat.le_refl _) _).grown hg3 (by simp) (fun k hk => by cases hk; exact Nat.le_refl _)).mono HB2.out.size)
    have h5 := HB2.out.size
    obtain ⟨X5,hX5⟩ : ∃ x,w2.heap.size = x := ⟨_,rfl⟩
    rw [hX5] at bX5 h5 ⊢
    have HX5 := Lib.hid (And.intro bX5 (And.intro hB3 h5))
    clear bX hth HW hg3 hX5 HB2 bX5 hB3 h5 e
    go_wp2_with fail
    refine (plays_rnew mx HMX.out.1 HMX.out.2 w3).mono ?_
    rintro e w4 ⟨rfl,hB4⟩
    have bX5 := HX5.out.1.below hB4
    have hB4 := HX5.out.2.1.trans (hB4.mono HX5.out.2.1.size)
    have bX := Blk.new w4 35 czl
    have hth := bX.there 0 26 (by simp [czl])
    have HB4 := Lib.hid (And.intro hB4 bX5)
    clear hB4 bX5
    go_upto_region 5 with (refine wpList_store_mid rfl 35 _ _ rfl w4.heap.size 0 (kv0.cells (cN mx)).toArray rfl rfl hth (by kernel_rfl) one0 ?_; simp only [Act.put]; generalize hW : World.setCells _ w4.heap.size 0 _ = w6; have HW := Lib.hid hW; clear hW)
    have bX7 := bX.putAll (vs := kv0.cells (cN mx)) rfl
    have hg3 := setCells_grown w4.heap.size (kv0.cells (cN mx)) 0 (w4.alloc (.cells czl.toArray 35))
    have e : (w4.alloc (.cells czl.toArray 35)).setCells w4.heap.size 0 (kv0.cells (cN mx)) = w6 := HW.out
    rw [e] at bX7 hg3
    have hA6 : Below w4.heap.size w4 w6 := ((Below.refl w4.heap.size w4).alloc (Nat.le_refl _) _).grown hg3 (by simp) (fun k hk => by cases hk; exact Nat.le_refl _)
    have hB6 := HB4.out.1.trans (hA6.mono HB4.out.1.size)
    have bX5 := HB4.out.2.below hA6
    have hlt5 := HB4.out.2.lt
    have h7 := HB4.out.1.size
    obtain ⟨X7,hX7⟩ : ∃ x,w4.heap.size = x := ⟨_,rfl⟩
    rw [hX7] at bX7 h7 hlt5 ⊢
    have hPS0 : PS w w6 X5 X7 0 (cN mx) kv0 kv0 0 := ⟨bX5,bX7,clv_new w6 mx,one0,woff_cN mx X5 _,woff_cN mx X7 _,cr_new mx w6 _,hB6,HX5.out.2.2,h7,by omega,inv_new mx HMX.out.1 HMX.out.2,Int.le_refl 0,Int.le_refl 0,Int.le_refl 0,Int.le_refl 0⟩
    have HPS0 := Lib.hid hPS0
    have rg5 := (bX5.range 0 (kv0.cells (cN mx)) (fun j v hv => by rw [Nat.zero_add]; exact hv))
    have rg7 := (bX7.range 0 (kv0.cells (cN mx)) (fun j v hv => by rw [Nat.zero_add]; exact hv))
    clear bX hth HW hg3 hX7 hA6 hB6 bX5 bX7 hlt5 h7 HB4 hPS0 HX5 one0 e
    go_wp2_with (first | (refine wpList_load_midG (by rfl) 35 _ rfl X5 0 rfl (kv0.cells (cN mx)) _ rg5 Try.underlying35 rfl (by kernel_rfl) ?_) | (refine wpList_load_midG (by rfl) 35 _ rfl X7 0 rfl (kv0.cells (cN mx)) _ rg7 Try.underlying35 rfl (by kernel_rfl) ?_))
    refine (sameClient_eq (cN mx) _ _ w6 HPS0.out.cv HPS0.out.cv (ok_N mx)).mono ?_
    rintro e w7 ⟨rfl,hB7⟩
    have HPS0 := Lib.hid (HPS0.out.below hB7)
    clear rg5 rg7 hB7
    go_wp2_with fail
    go_loopw [9,10] (fun vn vi wr => ∃ (kk : Nat) (c : Cl) (k k' : Cv) (nw : Int),vn = .int .i64 nw ∧ vi = .int .i64 kk ∧ kk ≤ N ∧ PS w wr X5 X7 kk c k k' nw) (fun _ vi _ => N - (intOf vi).toNat)
    case atStart => exact ⟨0,cN mx,kv0,kv0,0,rfl,by simp,Nat.zero_le _,HPS0.out⟩
    case round =>
     clear HPS0
     obtain ⟨kk,c,k,k',nw,rfl,rfl,hk,hPS⟩ := hrel
     have w1' : IntKind.i64.wrap ((kk : Int) + 1) = (kk : Int) + 1 := IntWalk.i64_in _ (by omega)
     by_cases hlt : kk < N
     ·have g3 : decide (kk < N) = true := by simpa using hlt
      have hk0 : (0 : Int) ≤ (kk : Int) := by omega
      have hk1 : (kk : Int) < (N : Int) := by omega
      obtain ⟨hsr,hin,hN⟩ := HSS.out
      obtain ⟨s,hs⟩ : ∃ s,ss[kk]? = some s := ⟨_,List.getElem?_eq_getElem (by omega)⟩
      have hsm := List.mem_of_getElem? hs
      obtain ⟨sb,so,sd,es,rows⟩ := sr_rows senc (fun _ => rfl) hsr (by omega)
      rw [hN] at es
      cases es
      have hr := range_keep (rows kk s hs) hPS.low
      have HSI := Lib.hid (And.intro (hin s hsm) (HALL.out s hsm))
      have one22 := senc_arr (hin s hsm)
      have HPS := Lib.hid hPS
      have bX := Blk.new wr 47 [.int .u8 0,.int .i64 0,.int .u16 0,.int .u16 0,.int .u16 0,.slice none 0 0,.int .i64 0,.slice none 0 0,.bool false,.int .i64 0,.int .i64 0,.int .u16 0,.int .u16 0,.int .u64 0,.int .u64 0,.int .i64 0,.int .i64 0,.int .i64 0,.bool false,.slice none 0 0,.slice none 0 0,.int .u32 0]
      have hth := bX.there 0 22 (by simp)
      clear hsr hin hN hs hsm rows hPS
      go_upto_region 12 with (first | (refine wpList_load_mid rfl 47 _ rfl sb (so + kk * 22) rfl (senc s) _ hr Try.underlying47 rfl (by kernel_rfl) ?_) | (refine wpList_store_mid rfl 47 _ _ rfl wr.heap.size 0 (senc s).toArray rfl rfl hth (by kernel_rfl) one22 ?_; simp only [Act.put]; generalize hW : World.setCells _ wr.heap.size 0 _ = w5; have HW := Lib.hid hW; clear hW))
      have bX11 := bX.putAll (vs := senc s) rfl
      have hg3 := setCells_grown wr.heap.size (senc s) 0 (wr.alloc (.cells #[.int .u8 0,.int .i64 0,.int .u16 0,.int .u16 0,.int .u16 0,.slice none 0 0,.int .i64 0,.slice none 0 0,.bool false,.int .i64 0,.int .i64 0,.int .u16 0,.int .u16 0,.int .u64 0,.int .u64 0,.int .i64 0,.int .i64 0,.int .i64 0,.bool false,.slice none 0 0,.slice none 0 0,.int .u32 0] 47))
      rw [show World.setCells _ wr.heap.size 0 (senc s) = w5 from HW.out] at bX11 hg3
      have hA11 : Below wr.heap.size wr w5 := ((Below.refl wr.heap.size wr).alloc (Nat.le_refl _) _).grown hg3 (by simp) (fun k hk => by cases hk; exact Nat.le_refl _)
      have hPS := HPS.out.below hA11
      obtain ⟨X11,hX11⟩ : ∃ x,wr.heap.size = x := ⟨_,rfl⟩
      rw [hX11] at bX11 ⊢
      have rgs := (bX11.range 0 (senc s) (fun j v hv => by rw [Nat.zero_add]; exact hv))
      have m0 := bX11.cell (j := 0) (v := .int .u8 s.call) rfl
      have m21 := bX11.cell (j := 21) (v := .int .u32 s.pause) rfl
      have rgT := step_task rgs
      have rgP := step_pdu rgs
      rw [Nat.zero_add] at rgT rgP
      obtain ⟨CA,hCA⟩ : ∃ x,s.call = x := ⟨_,rfl⟩
      obtain ⟨PZ,hPZ⟩ : ∃ x,s.pause = x := ⟨_,rfl⟩
      have hpz := HSI.out.1.pause
      rw [hCA] at m0
      rw [hPZ] at m21 hpz
      have hn0 := hPS.n0
      have hnm := hPS.nm
      have wp1 : IntKind.i64.wrap (PZ : Int) = (PZ : Int) := IntWalk.i64_in _ (by omega)
      have wp2 : IntKind.i64.wrap (nw + (PZ : Int)) = nw + (PZ : Int) := IntWalk.i64_in _ (by omega)
      clear bX hth HW hg3 hX11 hA11 bX11 rgs hr one22 HPS hCA hPZ
      go_upto_region 13 with fail
      obtain ⟨NW,hNW⟩ : ∃ x,nw + (PZ : Int) = x := ⟨_,rfl⟩
      rw [hNW]
      have HNW := Lib.hid (show 0 ≤ NW ∧ NW ≤ ((kk + 1 : Nat) : Int) * 4294967295 by omega)
      clear m21 hpz hn0 hnm wp1 wp2 hNW
      by_cases hc0 : CA = 0
      ·have t0 : ((CA : Int) == 0) = true := by simp [hc0]
       have t0' : (CA == 0) = true := by simp [hc0]
       have rga0 := rgT
       clear hc0 rgP rgT
       have rg5 := (hPS.b5.range 0 (k.cells c) (fun j v hv => by rw [Nat.zero_add]; exact hv))
       go_wp2_with (first | (refine wpList_load_mid rfl 35 _ rfl X5 0 rfl (k.cells c) _ rg5 Try.underlying35 rfl (by kernel_rfl) ?_) | (refine wpList_load_mid rfl 26 _ rfl X11 1 rfl (tkc s.t s.tb s.tf) _ rga0 Try.underlying26 rfl (by kernel_rfl) ?_))
       have hkd : (Lit.int .i64 s.t.kd).wf = true := by have := HSI.out.1.kd; unfold i64r at this; exact WalkArith.wf_i64 (by omega)
       refine (start_any c _ s.t s.tb s.tf NW w5 hPS.cv (hPS.inv.toInv0.ok (by omega)) (HSI.out.1.tb.below hPS.low) HSI.out.1.tf (by have := HSI.out.2.1; omega) hkd).mono ?_
       rintro e wa ⟨v2,l2,rfl,hc2,hl2,hBa⟩
       obtain ⟨k2,rfl,one2⟩ := hc2.1.kv
       obtain ⟨ps,hps⟩ : ∃ x,(startP c s.t NW).1.ps = x := ⟨_,rfl⟩
       obtain ⟨c2,hcc⟩ : ∃ x,(startP c s.t NW).1.c = x := ⟨_,rfl⟩
       obtain ⟨EC,hec⟩ : ∃ x,(startP c s.t NW).2 = x := ⟨_,rfl⟩
       have hLS := left_start hPS.inv s.t NW hkd HSI.out.1.la HSI.out.1.ha
       have hPL : ps.length ≤ 1 := by
        rw [← hps]
        rcases hLS.2.2 with h | h
        ·rw [h.2.2]; simp
        ·rw [h.2.2]; simp
       rw [hcc] at hc2 one2 ⊢
       rw [hps] at hl2
       rw [hec]
       have HNM := Lib.hid (And.intro hps (And.intro hcc hec))
       have HLS := Lib.hid (And.intro (hLS.1.more (Nat.le_succ kk)) (since_start c s.t NW))
       have HC2 := Lib.hid (And.intro hc2.1 (And.intro (hc2.2 X5 hPS.b5.lt) (And.intro (hc2.2 X7 hPS.b7.lt) (And.intro (And.intro hl2.1 (And.intro (hl2.2.1 X5 hPS.b5.lt) (hl2.2.1 X7 hPS.b7.lt))) (And.intro (And.intro (RsV.nil wa) (And.intro (off_nil X5) (off_nil X7))) one2)))))
       have hPSa := hPS.below hBa
       have rga0 := range_keep rga0 hBa
       clear rg5 hPS hBa hc2 hl2 hps hcc hec hLS
       have bX := Blk.new wa 35 czl
       have hth := bX.there 0 26 (by simp [czl])
       go_upto_region 20 with (refine wpList_store_mid rfl 35 _ _ rfl wa.heap.size 0 (k2.cells c2).toArray rfl rfl hth (by kernel_rfl) one2 ?_; simp only [Act.put]; generalize hW : World.setCells _ wa.heap.size 0 _ = wb; have HW := Lib.hid hW; clear hW)
       have bX13 := bX.putAll (vs := k2.cells c2) rfl
       have hg3 := setCells_grown wa.heap.size (k2.cells c2) 0 (wa.alloc (.cells czl.toArray 35))
       have e : (wa.alloc (.cells czl.toArray 35)).setCells wa.heap.size 0 (k2.cells c2) = wb := HW.out
       rw [e] at bX13 hg3
       have hAX13 : Below wa.heap.size wa wb := ((Below.refl wa.heap.size wa).alloc (Nat.le_refl _) _).grown hg3 (by simp) (fun k hk => by cases hk; exact Nat.le_refl _)
       obtain ⟨X13,hX13⟩ : ∃ x,wa.heap.size = x := ⟨_,rfl⟩
       clear e
       rw [hX13] at bX13 ⊢
       have hPSb := hPSa.below hAX13
       have rga0 := range_keep rga0 hAX13
       have HX13 := Lib.hid (And.intro bX13 (And.intro hPSa.b5.lt (And.intro hPSa.b7.lt hX13)))
       have HA13 := Lib.hid hAX13
       have rg7 := (hPSb.b7.range 0 (k'.cells c) (fun j v hv => by rw [Nat.zero_add]; exact hv))
       have hR0 : ∀ i,some i ∈ ([some X5,some X7] : List (Option Nat)) → i < wb.heap.size := fun i hi => by
        simp only [List.mem_cons,List.not_mem_nil,or_false,Option.some.injEq] at hi
        rcases hi with rfl | rfl
        ·exact hPSb.b5.lt
        ·exact hPSb.b7.lt
       clear bX hth HW hg3 hX13 hAX13 bX13 hPSa one2
       go_wp2_with (first | (refine wpList_load_mid rfl 35 _ rfl X7 0 rfl (k'.cells c) _ rg7 Try.underlying35 rfl (by kernel_rfl) ?_) | (refine wpList_load_mid rfl 26 _ rfl X11 1 rfl (tkc s.t s.tb s.tf) _ rga0 Try.underlying26 rfl (by kernel_rfl) ?_))
       refine (rstart_any c k' [some X5,some X7] s.t s.tb s.tf NW wb hPSb.cr hR0 (HSI.out.1.tb.below hPSb.low) (by have := HSI.out.2.1; omega) hkd).mono ?_
       rintro e wc ⟨⟨k3,l3,rfl,hC3,hq3⟩,hBc⟩
       rw [HNM.out.2.1] at hC3 ⊢
       rw [HNM.out.1] at hq3
       rw [HNM.out.2.2]
       have hPSc := hPSb.below hBc
       have HX13 := Lib.hid (And.intro (HX13.out.1.below hBc) HX13.out.2)
       have HA13 := Lib.hid (HA13.out.trans (hBc.mono HA13.out.size))
       have hth1 := hC3.one
       have HC3 := Lib.hid (And.intro hC3 (And.intro (hq3) (RsR.nil0 wc [some X5,some X7])))
       clear rg7 hPSb hBc hR0 hC3 hq3
       have bX := Blk.new wc 35 czl
       have hth := bX.there 0 26 (by simp [czl])
       go_upto_region 21 with (refine wpList_store_mid rfl 35 _ _ rfl wc.heap.size 0 (k3.cells c2).toArray rfl rfl hth (by kernel_rfl) hth1 ?_; simp only [Act.put]; generalize hW : World.setCells _ wc.heap.size 0 _ = wd0; have HW := Lib.hid hW; clear hW)
       have bX16 := bX.putAll (vs := k3.cells c2) rfl
       have hg3 := setCells_grown wc.heap.size (k3.cells c2) 0 (wc.alloc (.cells czl.toArray 35))
       have e : (wc.alloc (.cells czl.toArray 35)).setCells wc.heap.size 0 (k3.cells c2) = wd0 := HW.out
       rw [e] at bX16 hg3
       have hAX16 : Below wc.heap.size wc wd0 := ((Below.refl wc.heap.size wc).alloc (Nat.le_refl _) _).grown hg3 (by simp) (fun k hk => by cases hk; exact Nat.le_refl _)
       obtain ⟨X16,hX16⟩ : ∃ x,wc.heap.size = x := ⟨_,rfl⟩
       clear e
       rw [hX16] at bX16 ⊢
       have hPSd := hPSc.below hAX16
       have hAll := HA13.out.trans (hAX16.mono HA13.out.size)
       have bX13 := HX13.out.1.below hAX16
       have d13 : X13 ≠ X5 ∧ X13 ≠ X7 := by
        have h1 := HX13.out.2.1
        have h2 := HX13.out.2.2.1
        have h3 := HX13.out.2.2.2
        omega
       have d16 : X16 ≠ X5 ∧ X16 ≠ X7 := by
        have h1 := hPSc.b5.lt
        have h2 := hPSc.b7.lt
        omega
       have hT : PT w wd0 X5 X7 X13 X16 (k.cells c) (k'.cells c) c2 k2 k3 l2 l3 (.slice none 0 0) (.slice none 0 0) ps [] := ⟨hPSd.b5,hPSd.cv.nob,hPSd.b7,hPSd.cr.clv.nob,HC2.out.1.below hAll,HC2.out.2.2.2.2.2,HC2.out.2.1,HC2.out.2.2.1,HC3.out.1.below hAX16,hPSd.low,hPSd.h5,hPSd.h7,hPSd.ne,
        HC2.out.2.2.2.1.1.below hAll,HC2.out.2.2.2.1.2.1,HC2.out.2.2.2.1.2.2,HC3.out.2.1.below hAX16,HC2.out.2.2.2.2.1.1.below hAll,HC2.out.2.2.2.2.1.2.1,HC2.out.2.2.2.2.1.2.2,HC3.out.2.2.below hAX16,(bX13.range 0 (k2.cells c2) (fun j v hv => by rw [Nat.zero_add]; exact hv)),d13,(bX16.range 0 (k3.cells c2) (fun j v hv => by rw [Nat.zero_add]; exact hv)),d16⟩
       have hT := hT.below (Below.refl _ wd0).drew
       have HPC := Lib.hid (And.intro hPSd.s0 hPSd.sm)
       have hINV : Inv (kk + 1) c2 := by rw [← HNM.out.2.1]; exact HLS.out.1
       have hSIN : 0 ≤ c2.since ∧ c2.since ≤ ((kk + 1 : Nat) : Int) * 4294967295 := by
        have h1 := HLS.out.2
        have h2 := HPC.out
        have h3 := HNW.out
        rw [HNM.out.2.1] at h1
        rcases h1 with h1 | h1 <;> rw [h1] <;> omega
       have HIN := Lib.hid (And.intro hINV hSIN)
       clear bX hth HW hg3 hX16 hAX16 bX16 hPSc hPSd hth1 HA13 HX13 hAll bX13 d13 d16 HC2 HC3 hINV hSIN HPC rga0 HNM HLS hkd
       go_upto_region 21 with fail
       refine wp_region_held_drew (S := (fun W' : World => W'.rangeAt X13 0 (k2.cells c2) ∧ W'.rangeAt X16 0 (k3.cells c2))) (by kernel_rfl) (⟨hT.g13,hT.g16⟩) (fun hHeld => ?_)
       generalize World.drew _ = wd at hHeld hT ⊢
       refine tkN 0 35 X13 0 (k2.cells c2) (fun _ h => h.1) Try.underlying35 ?_
       refine tkN 1 35 X16 0 (k3.cells c2) (fun _ h => h.2) Try.underlying35 ?_
       refine tkU 2 ?_
       refine tkU 3 ?_
       refine tkU 4 ?_
       refine tkU 5 ?_
       refine tkU 6 ?_
       refine tkU 7 ?_
       refine rd1 8 fun K hK => ?_
       go_simp
       go_at_call 17
       refine (samePDUs_eq ps _ _ _ hT.pv hT.pr.psv (by omega)).mono ?_
       rintro e wx ⟨rfl,hBx⟩
       have hT := hT.below hBx
       clear hBx
       clear hHeld
       refine hK.out _ _ (⟨hT.g13,hT.g16⟩) (fun hHeld => ?_)
       clear hK K
       try simp only [Act.put,List.setIfInBounds_toArray,List.set_cons_zero,List.set_cons_succ]
       refine tkU 9 ?_
       refine rd1 10 fun K hK => ?_
       refine step_store_mid (by rfl) 35 _ _ (by rfl) X5 0 (k2.cells c2).toArray (by rfl) (by rfl) (hT.b5.there 0 26 (Nat.le_of_eq hT.n5.2.symm)) (by kernel_rfl) hT.one ?_
       generalize hX : World.setCells _ _ 0 _ = wy
       obtain ⟨hT,hg⟩ := hT.put5 hX
       clear hX hg
       clear hHeld
       refine hK.out _ _ (⟨hT.g13,hT.g16⟩) (fun hHeld => ?_)
       clear hK K
       try simp only [Act.put,List.setIfInBounds_toArray,List.set_cons_zero,List.set_cons_succ]
       refine rd1 11 fun K hK => ?_
       refine step_store_mid (by rfl) 35 _ _ (by rfl) X7 0 (k3.cells c2).toArray (by rfl) (by rfl) (hT.b7.there 0 26 (Nat.le_of_eq hT.n7.2.symm)) (by kernel_rfl) hT.cr.one ?_
       generalize hX : World.setCells _ _ 0 _ = wt
       obtain ⟨hT,hg⟩ := hT.put7 hX
       clear hX hg
       clear hHeld
       refine hK.out _ _ (⟨hT.g13,hT.g16⟩) (fun hHeld => ?_)
       clear hK K
       try simp only [Act.put,List.setIfInBounds_toArray,List.set_cons_zero,List.set_cons_succ]
       refine tkU 12 ?_
       refine wpAnyH_done (by kernel_rfl) ?_ _
       clear hHeld
       have hPS := hT.ps HIN.out.1 HNW.out.1 HNW.out.2 HIN.out.2.1 HIN.out.2.2
       clear hT
       have HPS := Lib.hid hPS
       have rg5 := (hPS.b5.range 0 (k2.cells c2) (fun j v hv => by rw [Nat.zero_add]; exact hv))
       have rg7 := (hPS.b7.range 0 (k3.cells c2) (fun j v hv => by rw [Nat.zero_add]; exact hv))
       clear hPS
       go_wp2_with (first | (refine wpList_load_midG (by rfl) 35 _ rfl X5 0 rfl (k2.cells c2) _ rg5 Try.underlying35 rfl (by kernel_rfl) ?_) | (refine wpList_load_midG (by rfl) 35 _ rfl X7 0 rfl (k3.cells c2) _ rg7 Try.underlying35 rfl (by kernel_rfl) ?_))
       refine (sameClient_eq c2 _ _ wt HPS.out.cv HPS.out.cr.clv (HPS.out.inv.toInv0.ok (by omega))).mono ?_
       rintro e wz ⟨rfl,hBz⟩
       have HBZ := Lib.hid hBz
       clear hBz rg5 rg7
       go_wp2
       refine ⟨⟨kk + 1,c2,k2,k3,NW,rfl,by simp,hlt,HPS.out.below HBZ.out⟩,?_⟩
       simp [intOf]
       omega
      ·have t0 : ((CA : Int) == 0) = false := by simp; omega
       have t0' : (CA == 0) = false := by simp [hc0]
       by_cases hc1 : CA = 1
       ·have t1 : ((CA : Int) == 1) = true := by simp [hc1]
        have t1' : (CA == 1) = true := by simp [hc1]
        clear hc0 hc1 rgT
        have hPS5 := HSI.out.1
        have hin5 : ∀ q ∈ s.qs,ItIn w5 q := fun q hq => ⟨(hPS5.it q hq).1.below hPS.low,(hPS5.it q hq).2⟩
        have HCK := Lib.hid (rchk_step (hPS5.pb.below hPS.low) (hPS5.iv.below hPS.low) hin5 HSI.out.2.2.2)
        have HPS := Lib.hid hPS
        clear hPS5 hin5 hPS
        go_wp2_with (refine wpList_load_mid rfl 32 _ rfl X11 9 rfl (pdc s.p s.pb s.iv) _ rgP Try.underlying32 rfl (by kernel_rfl) ?_)
        refine HCK.out.mono ?_
        rintro e w6 ⟨rfl,hB6⟩
        obtain ⟨E,hE⟩ : ∃ x,chkA s.p.kd s.p.ask s.p.ha s.p.la s.p.hi s.p.lo s.p.of s.p.mt s.p.co s.p.cm s.p.vs.length s.qs.length (s.qs.map itOf) = x := ⟨_,rfl⟩
        rw [hE]
        have HE := Lib.hid hE
        have hPS := HPS.out.below hB6
        have rga0 := range_keep rgP hB6
        clear hE hB6 HPS rgP
        by_cases he0 : E = 0
        ·have t2 : (E != 0) = false := by simp [he0]
         have HE0 := HE.out.trans he0
         have hin6 : ∀ q ∈ s.qs,ItIn w6 q := fun q hq => ⟨(HSI.out.1.it q hq).1.below hPS.low,(HSI.out.1.it q hq).2⟩
         have HIQ := Lib.hid hin6
         have HCA := Lib.hid (chk_ans hin6 HSI.out.2.2.2 HE0)
         clear he0 HE0 hin6
         have rg5 := (hPS.b5.range 0 (k.cells c) (fun j v hv => by rw [Nat.zero_add]; exact hv))
         go_wp2_with (first | (refine wpList_load_mid rfl 35 _ rfl X5 0 rfl (k.cells c) _ rg5 Try.underlying35 rfl (by kernel_rfl) ?_) | (refine wpList_load_mid rfl 32 _ rfl X11 9 rfl (pdc s.p s.pb s.iv) _ rga0 Try.underlying32 rfl (by kernel_rfl) ?_))
         have hok := hPS.inv.toInv0.ok (show kk ≤ 150 by omega)
         refine (hnd_any c _ s.p s.pb s.iv s.qs NW w6 hPS.cv hok (HSI.out.1.pb.below hPS.low) (itb_of (HSI.out.1.iv.below hPS.low) HIQ.out HCA.out.2) (by have := HSI.out.2.2.1; omega) (by have := HSI.out.2.2.2; omega) hPS.inv.adk (hPS.inv.al _)).mono ?_
         rintro e wa ⟨v2,l2,r2,rfl,hc2,hl2,hr2,hBa⟩
         obtain ⟨k2,rfl,one2⟩ := hc2.1.kv
         obtain ⟨ps,hps⟩ : ∃ x,(handleP c s.p (s.qs.map (·.1)) NW).ps = x := ⟨_,rfl⟩
         obtain ⟨us,hus⟩ : ∃ x,(handleP c s.p (s.qs.map (·.1)) NW).us = x := ⟨_,rfl⟩
         obtain ⟨c2,hcc⟩ : ∃ x,(handleP c s.p (s.qs.map (·.1)) NW).c = x := ⟨_,rfl⟩
         have hLH := left_handle hPS.inv NW HCA.out.1
         have hPL : ps.length ≤ 1 := by
          have h4 := hLH.2.2.2
          rw [← hps]
          split at h4
          ·rcases h4 with h | h
           ·rw [h.2]; simp
           ·rw [h.2]; simp
          ·rcases h4.2 with h | h
           ·rw [h]; simp
           ·rw [h]; simp
         have hUL : us.length ≤ 1 := by rw [← hus]; exact hLH.2.1
         have HFO := Lib.hid (show ∀ r ∈ us,r.fo.length ≤ 1000000 from fun r hr => by
          have := hLH.2.2.1 r (by rw [hus]; exact hr)
          omega)
         rw [hcc] at hc2 one2 ⊢
         rw [hps] at hl2
         rw [hus] at hr2
         have HNM := Lib.hid (And.intro hps (And.intro hcc hus))
         have HLS := Lib.hid (And.intro hLH.1 (And.intro (since_handle c s.p (s.qs.map (·.1)) NW) (And.intro hPS.inv hok)))
         have HC2 := Lib.hid (And.intro hc2.1 (And.intro (hc2.2 X5 hPS.b5.lt) (And.intro (hc2.2 X7 hPS.b7.lt) (And.intro (And.intro hl2.1 (And.intro (hl2.2.1 X5 hPS.b5.lt) (hl2.2.1 X7 hPS.b7.lt))) (And.intro (And.intro hr2.1 (And.intro (hr2.2 X5 hPS.b5.lt) (hr2.2 X7 hPS.b7.lt))) one2)))))
         have hPSa := hPS.below hBa
         have rga0 := range_keep rga0 hBa
         clear rg5 hPS hBa hc2 hl2 hr2 hps hcc hus hLH hok
         have bX := Blk.new wa 35 czl
         have hth := bX.there 0 26 (by simp [czl])
         go_upto_region 25 with (refine wpList_store_mid rfl 35 _ _ rfl wa.heap.size 0 (k2.cells c2).toArray rfl rfl hth (by kernel_rfl) one2 ?_; simp only [Act.put]; generalize hW : World.setCells _ wa.heap.size 0 _ = wb; have HW := Lib.hid hW; clear hW)
         have bX13 := bX.putAll (vs := k2.cells c2) rfl
         have hg3 := setCells_grown wa.heap.size (k2.cells c2) 0 (wa.alloc (.cells czl.toArray 35))
         have e : (wa.alloc (.cells czl.toArray 35)).setCells wa.heap.size 0 (k2.cells c2) = wb := HW.out
         rw [e] at bX13 hg3
         have hAX13 : Below wa.heap.size wa wb := ((Below.refl wa.heap.size wa).alloc (Nat.le_refl _) _).grown hg3 (by simp) (fun k hk => by cases hk; exact Nat.le_refl _)
         obtain ⟨X13,hX13⟩ : ∃ x,wa.heap.size = x := ⟨_,rfl⟩
         clear e
         rw [hX13] at bX13 ⊢
         have hPSb := hPSa.below hAX13
         have rga0 := range_keep rga0 hAX13
         have HX13 := Lib.hid (And.intro bX13 (And.intro hPSa.b5.lt (And.intro hPSa.b7.lt hX13)))
         have HA13 := Lib.hid hAX13
         have rg7 := (hPSb.b7.range 0 (k'.cells c) (fun j v hv => by rw [Nat.zero_add]; exact hv))
         have hR0 : ∀ i,some i ∈ ([some X5,some X7] : List (Option Nat)) → i < wb.heap.size := fun i hi => by
          simp only [List.mem_cons,List.not_mem_nil,or_false,Option.some.injEq] at hi
          rcases hi with rfl | rfl
          ·exact hPSb.b5.lt
          ·exact hPSb.b7.lt
         clear bX hth HW hg3 hX13 hAX13 bX13 hPSa one2
         go_wp2_with (first | (refine wpList_load_mid rfl 35 _ rfl X7 0 rfl (k'.cells c) _ rg7 Try.underlying35 rfl (by kernel_rfl) ?_) | (refine wpList_load_mid rfl 32 _ rfl X11 9 rfl (pdc s.p s.pb s.iv) _ rga0 Try.underlying32 rfl (by kernel_rfl) ?_))
         have hAN := HCA.out.1
         have hInv := HLS.out.2.2.1
         refine (rhandle_any c k' [some X5,some X7] s.p s.pb s.iv s.qs NW wb hPSb.cr hR0 hInv.toInv0.wk (by have := hInv.toInv0.wl; omega) (itb_of (HSI.out.1.iv.below hPSb.low) (fun q hq => ⟨(HSI.out.1.it q hq).1.below hPSb.low,(HSI.out.1.it q hq).2⟩) HCA.out.2) (fun h => by have := hAN.ne h; rw [ne_eq,List.map_eq_nil_iff] at this; exact List.length_pos_iff.2 this) (by have := hInv.toInv0.fo; have := HSI.out.2.2.2; omega) hInv.toInv0.la (HSI.out.1.pb.below hPSb.low) (by have := HSI.out.2.2.1; omega) (by have := hInv.toInv0.vs; omega) (by have := hInv.toInv0.ad; omega) HLS.out.2.2.2.of hInv.adk (fun hb he => by rcases ans_kd hInv hb he with ⟨_,k⟩ | ⟨_,k⟩ | ⟨_,k⟩ | ⟨_,k⟩ | ⟨_,k⟩ | ⟨_,k⟩ | ⟨_,k⟩ | ⟨_,k⟩ | ⟨_,k⟩ <;> omega)).mono ?_
         rintro e wc ⟨⟨k3,l3,r3,rfl,hC3,hq3,hs3⟩,hBc⟩
         rw [handle_eq hInv NW hAN] at hC3 hq3 hs3 ⊢
         rw [HNM.out.2.1] at hC3 ⊢
         rw [HNM.out.1] at hq3
         rw [HNM.out.2.2] at hs3
         have hPSc := hPSb.below hBc
         have HX13 := Lib.hid (And.intro (HX13.out.1.below hBc) HX13.out.2)
         have HA13 := Lib.hid (HA13.out.trans (hBc.mono HA13.out.size))
         have hth1 := hC3.one
         have HC3 := Lib.hid (And.intro hC3 (And.intro (hq3) (hs3)))
         clear rg7 hPSb hBc hR0 hC3 hq3 hs3 hAN hInv
         have bX := Blk.new wc 35 czl
         have hth := bX.there 0 26 (by simp [czl])
         go_upto_region 26 with (refine wpList_store_mid rfl 35 _ _ rfl wc.heap.size 0 (k3.cells c2).toArray rfl rfl hth (by kernel_rfl) hth1 ?_; simp only [Act.put]; generalize hW : World.setCells _ wc.heap.size 0 _ = wd0; have HW := Lib.hid hW; clear hW)
         have bX16 := bX.putAll (vs := k3.cells c2) rfl
         have hg3 := setCells_grown wc.heap.size (k3.cells c2) 0 (wc.alloc (.cells czl.toArray 35))
         have e : (wc.alloc (.cells czl.toArray 35)).setCells wc.heap.size 0 (k3.cells c2) = wd0 := HW.out
         rw [e] at bX16 hg3
         have hAX16 : Below wc.heap.size wc wd0 := ((Below.refl wc.heap.size wc).alloc (Nat.le_refl _) _).grown hg3 (by simp) (fun k hk => by cases hk; exact Nat.le_refl _)
         obtain ⟨X16,hX16⟩ : ∃ x,wc.heap.size = x := ⟨_,rfl⟩
         clear e
         rw [hX16] at bX16 ⊢
         have hPSd := hPSc.below hAX16
         have hAll := HA13.out.trans (hAX16.mono HA13.out.size)
         have bX13 := HX13.out.1.below hAX16
         have d13 : X13 ≠ X5 ∧ X13 ≠ X7 := by
          have h1 := HX13.out.2.1
          have h2 := HX13.out.2.2.1
          have h3 := HX13.out.2.2.2
          omega
         have d16 : X16 ≠ X5 ∧ X16 ≠ X7 := by
          have h1 := hPSc.b5.lt
          have h2 := hPSc.b7.lt
          omega
         have hT : PT w wd0 X5 X7 X13 X16 (k.cells c) (k'.cells c) c2 k2 k3 l2 l3 r2 r3 ps us := ⟨hPSd.b5,hPSd.cv.nob,hPSd.b7,hPSd.cr.clv.nob,HC2.out.1.below hAll,HC2.out.2.2.2.2.2,HC2.out.2.1,HC2.out.2.2.1,HC3.out.1.below hAX16,hPSd.low,hPSd.h5,hPSd.h7,hPSd.ne,
          HC2.out.2.2.2.1.1.below hAll,HC2.out.2.2.2.1.2.1,HC2.out.2.2.2.1.2.2,HC3.out.2.1.below hAX16,HC2.out.2.2.2.2.1.1.below hAll,HC2.out.2.2.2.2.1.2.1,HC2.out.2.2.2.2.1.2.2,HC3.out.2.2.below hAX16,(bX13.range 0 (k2.cells c2) (fun j v hv => by rw [Nat.zero_add]; exact hv)),d13,(bX16.range 0 (k3.cells c2) (fun j v hv => by rw [Nat.zero_add]; exact hv)),d16⟩
         have hT := hT.below (Below.refl _ wd0).drew
         have HPC := Lib.hid (And.intro hPSd.s0 hPSd.sm)
         have hINV : Inv (kk + 1) c2 := by rw [← HNM.out.2.1]; exact HLS.out.1
         have hSIN : 0 ≤ c2.since ∧ c2.since ≤ ((kk + 1 : Nat) : Int) * 4294967295 := by
          have h1 := HLS.out.2.1
          have h2 := HPC.out
          have h3 := HNW.out
          rw [HNM.out.2.1] at h1
          rcases h1 with h1 | h1 <;> rw [h1] <;> omega
         have HIN := Lib.hid (And.intro hINV hSIN)
         clear bX hth HW hg3 hX16 hAX16 bX16 hPSc hPSd hth1 HA13 HX13 hAll bX13 d13 d16 HC2 HC3 hINV hSIN HPC rga0 HNM HLS
         go_upto_region 26 with fail
         refine wp_region_held_drew (S := (fun W' : World => W'.rangeAt X13 0 (k2.cells c2) ∧ W'.rangeAt X16 0 (k3.cells c2))) (by kernel_rfl) (⟨hT.g13,hT.g16⟩) (fun hHeld => ?_)
         generalize World.drew _ = wd at hHeld hT ⊢
         refine tkN 0 35 X13 0 (k2.cells c2) (fun _ h => h.1) Try.underlying35 ?_
         refine tkN 1 35 X16 0 (k3.cells c2) (fun _ h => h.2) Try.underlying35 ?_
         refine tkU 2 ?_
         refine tkU 3 ?_
         refine rd1 4 fun K hK => ?_
         go_simp
         go_at_call 17
         refine (samePDUs_eq ps _ _ _ hT.pv hT.pr.psv (by omega)).mono ?_
         rintro e wx ⟨rfl,hBx⟩
         have hT := hT.below hBx
         clear hBx
         clear hHeld
         refine hK.out _ _ (⟨hT.g13,hT.g16⟩) (fun hHeld => ?_)
         clear hK K
         try simp only [Act.put,List.setIfInBounds_toArray,List.set_cons_zero,List.set_cons_succ]
         refine tkU 5 ?_
         refine tkU 6 ?_
         refine tkU 7 ?_
         refine rd1 8 fun K hK => ?_
         go_simp
         go_at_call 19
         refine (sameResults_eq us _ _ _ hT.rv hT.rr.rsv (by omega) HFO.out).mono ?_
         rintro e wx ⟨rfl,hBx⟩
         have hT := hT.below hBx
         clear hBx
         clear hHeld
         refine hK.out _ _ (⟨hT.g13,hT.g16⟩) (fun hHeld => ?_)
         clear hK K
         try simp only [Act.put,List.setIfInBounds_toArray,List.set_cons_zero,List.set_cons_succ]
         refine tkU 9 ?_
         refine rd1 10 fun K hK => ?_
         refine step_store_mid (by rfl) 35 _ _ (by rfl) X5 0 (k2.cells c2).toArray (by rfl) (by rfl) (hT.b5.there 0 26 (Nat.le_of_eq hT.n5.2.symm)) (by kernel_rfl) hT.one ?_
         generalize hX : World.setCells _ _ 0 _ = wy
         obtain ⟨hT,hg⟩ := hT.put5 hX
         clear hX hg
         clear hHeld
         refine hK.out _ _ (⟨hT.g13,hT.g16⟩) (fun hHeld => ?_)
         clear hK K
         try simp only [Act.put,List.setIfInBounds_toArray,List.set_cons_zero,List.set_cons_succ]
         refine rd1 11 fun K hK => ?_
         refine step_store_mid (by rfl) 35 _ _ (by rfl) X7 0 (k3.cells c2).toArray (by rfl) (by rfl) (hT.b7.there 0 26 (Nat.le_of_eq hT.n7.2.symm)) (by kernel_rfl) hT.cr.one ?_
         generalize hX : World.setCells _ _ 0 _ = wt
         obtain ⟨hT,hg⟩ := hT.put7 hX
         clear hX hg
         clear hHeld
         refine hK.out _ _ (⟨hT.g13,hT.g16⟩) (fun hHeld => ?_)
         clear hK K
         try simp only [Act.put,List.setIfInBounds_toArray,List.set_cons_zero,List.set_cons_succ]
         refine tkU 12 ?_
         refine wpAnyH_done (by kernel_rfl) ?_ _
         clear hHeld
         have hPS := hT.ps HIN.out.1 HNW.out.1 HNW.out.2 HIN.out.2.1 HIN.out.2.2
         clear hT
         have HPS := Lib.hid hPS
         have rg5 := (hPS.b5.range 0 (k2.cells c2) (fun j v hv => by rw [Nat.zero_add]; exact hv))
         have rg7 := (hPS.b7.range 0 (k3.cells c2) (fun j v hv => by rw [Nat.zero_add]; exact hv))
         clear hPS
         go_wp2_with (first | (refine wpList_load_midG (by rfl) 35 _ rfl X5 0 rfl (k2.cells c2) _ rg5 Try.underlying35 rfl (by kernel_rfl) ?_) | (refine wpList_load_midG (by rfl) 35 _ rfl X7 0 rfl (k3.cells c2) _ rg7 Try.underlying35 rfl (by kernel_rfl) ?_))
         refine (sameClient_eq c2 _ _ wt HPS.out.cv HPS.out.cr.clv (HPS.out.inv.toInv0.ok (by omega))).mono ?_
         rintro e wz ⟨rfl,hBz⟩
         have HBZ := Lib.hid hBz
         clear hBz rg5 rg7
         go_wp2
         refine ⟨⟨kk + 1,c2,k2,k3,NW,rfl,by simp,hlt,HPS.out.below HBZ.out⟩,?_⟩
         simp [intOf]
         omega
        ·have t2 : (E != 0) = true := by simp [he0]
         have HPS := Lib.hid (hPS.on HNW.out.1 HNW.out.2)
         clear he0 hPS rga0
         go_wp2
         refine ⟨⟨kk + 1,c,k,k',NW,rfl,by simp,hlt,HPS.out⟩,?_⟩
         simp [intOf]
         omega
       ·have t1 : ((CA : Int) == 1) = false := by simp; omega
        have t1' : (CA == 1) = false := by simp [hc1]
        clear hc0 hc1 rgT rgP
        have rg5 := (hPS.b5.range 0 (k.cells c) (fun j v hv => by rw [Nat.zero_add]; exact hv))
        go_wp2_with (first | (refine wpList_load_mid rfl 35 _ rfl X5 0 rfl (k.cells c) _ rg5 Try.underlying35 rfl (by kernel_rfl) ?_))
        have hwr : IntKind.i64.wrap (NW - c.since) = NW - c.since := IntWalk.i64_in _ (by have h1 := hPS.s0; have h2 := hPS.sm; have h3 := HNW.out; omega)
        refine (expire_any c _ NW w5 hPS.cv (hPS.inv.toInv0.ok (by omega)) hwr).mono ?_
        rintro e wa ⟨v2,r2,rfl,hc2,hr2,hBa⟩
        obtain ⟨k2,rfl,one2⟩ := hc2.1.kv
        obtain ⟨us,hus⟩ : ∃ x,(expireP c NW).us = x := ⟨_,rfl⟩
        obtain ⟨c2,hcc⟩ : ∃ x,(expireP c NW).c = x := ⟨_,rfl⟩
        have hLE := left_expire hPS.inv NW
        have hUL : us.length ≤ 1 := by rw [← hus]; exact hLE.2.1
        have HFO := Lib.hid (show ∀ r ∈ us,r.fo.length ≤ 1000000 from fun r hr => by
         rw [hLE.2.2 r (by rw [hus]; exact hr)]
         simp)
        rw [hcc] at hc2 one2 ⊢
        rw [hus] at hr2
        have HNM := Lib.hid (And.intro hus hcc)
        have HLS := Lib.hid (And.intro (hLE.1.more (Nat.le_succ kk)) (since_expire c NW))
        have HC2 := Lib.hid (And.intro hc2.1 (And.intro (hc2.2 X5 hPS.b5.lt) (And.intro (hc2.2 X7 hPS.b7.lt) (And.intro (And.intro (PsV.nil wa) (And.intro (off_nil X5) (off_nil X7))) (And.intro (And.intro hr2.1 (And.intro (hr2.2 X5 hPS.b5.lt) (hr2.2 X7 hPS.b7.lt))) one2)))))
        have hPSa := hPS.below hBa
        clear rg5 hPS hBa hc2 hr2 hus hcc hLE
        have bX := Blk.new wa 35 czl
        have hth := bX.there 0 26 (by simp [czl])
        go_upto_region 16 with (refine wpList_store_mid rfl 35 _ _ rfl wa.heap.size 0 (k2.cells c2).toArray rfl rfl hth (by kernel_rfl) one2 ?_; simp only [Act.put]; generalize hW : World.setCells _ wa.heap.size 0 _ = wb; have HW := Lib.hid hW; clear hW)
        have bX13 := bX.putAll (vs := k2.cells c2) rfl
        have hg3 := setCells_grown wa.heap.size (k2.cells c2) 0 (wa.alloc (.cells czl.toArray 35))
        have e : (wa.alloc (.cells czl.toArray 35)).setCells wa.heap.size 0 (k2.cells c2) = wb := HW.out
        rw [e] at bX13 hg3
        have hAX13 : Below wa.heap.size wa wb := ((Below.refl wa.heap.size wa).alloc (Nat.le_refl _) _).grown hg3 (by simp) (fun k hk => by cases hk; exact Nat.le_refl _)
        obtain ⟨X13,hX13⟩ : ∃ x,wa.heap.size = x := ⟨_,rfl⟩
        clear e
        rw [hX13] at bX13 ⊢
        have hPSb := hPSa.below hAX13
        have HX13 := Lib.hid (And.intro bX13 (And.intro hPSa.b5.lt (And.intro hPSa.b7.lt hX13)))
        have HA13 := Lib.hid hAX13
        have rg7 := (hPSb.b7.range 0 (k'.cells c) (fun j v hv => by rw [Nat.zero_add]; exact hv))
        have hR0 : ∀ i,some i ∈ ([some X5,some X7] : List (Option Nat)) → i < wb.heap.size := fun i hi => by
         simp only [List.mem_cons,List.not_mem_nil,or_false,Option.some.injEq] at hi
         rcases hi with rfl | rfl
         ·exact hPSb.b5.lt
         ·exact hPSb.b7.lt
        clear bX hth HW hg3 hX13 hAX13 bX13 hPSa one2
        go_wp2_with (first | (refine wpList_load_mid rfl 35 _ rfl X7 0 rfl (k'.cells c) _ rg7 Try.underlying35 rfl (by kernel_rfl) ?_))
        refine (rexpire_any c k' [some X5,some X7] NW wb hPSb.cr hR0 hwr).mono ?_
        rintro e wc ⟨⟨k3,r3,rfl,hC3,hs3⟩,hBc⟩
        rw [HNM.out.2] at hC3 ⊢
        rw [HNM.out.1] at hs3
        have hPSc := hPSb.below hBc
        have HX13 := Lib.hid (And.intro (HX13.out.1.below hBc) HX13.out.2)
        have HA13 := Lib.hid (HA13.out.trans (hBc.mono HA13.out.size))
        have hth1 := hC3.one
        have HC3 := Lib.hid (And.intro hC3 (And.intro (PsR.nil wc [some X5,some X7]) (hs3)))
        clear rg7 hPSb hBc hR0 hC3 hs3 hwr
        have bX := Blk.new wc 35 czl
        have hth := bX.there 0 26 (by simp [czl])
        go_upto_region 17 with (refine wpList_store_mid rfl 35 _ _ rfl wc.heap.size 0 (k3.cells c2).toArray rfl rfl hth (by kernel_rfl) hth1 ?_; simp only [Act.put]; generalize hW : World.setCells _ wc.heap.size 0 _ = wd0; have HW := Lib.hid hW; clear hW)
        have bX16 := bX.putAll (vs := k3.cells c2) rfl
        have hg3 := setCells_grown wc.heap.size (k3.cells c2) 0 (wc.alloc (.cells czl.toArray 35))
        have e : (wc.alloc (.cells czl.toArray 35)).setCells wc.heap.size 0 (k3.cells c2) = wd0 := HW.out
        rw [e] at bX16 hg3
        have hAX16 : Below wc.heap.size wc wd0 := ((Below.refl wc.heap.size wc).alloc (Nat.le_refl _) _).grown hg3 (by simp) (fun k hk => by cases hk; exact Nat.le_refl _)
        obtain ⟨X16,hX16⟩ : ∃ x,wc.heap.size = x := ⟨_,rfl⟩
        clear e
        rw [hX16] at bX16 ⊢
        have hPSd := hPSc.below hAX16
        have hAll := HA13.out.trans (hAX16.mono HA13.out.size)
        have bX13 := HX13.out.1.below hAX16
        have d13 : X13 ≠ X5 ∧ X13 ≠ X7 := by
         have h1 := HX13.out.2.1
         have h2 := HX13.out.2.2.1
         have h3 := HX13.out.2.2.2
         omega
        have d16 : X16 ≠ X5 ∧ X16 ≠ X7 := by
         have h1 := hPSc.b5.lt
         have h2 := hPSc.b7.lt
         omega
        have hT : PT w wd0 X5 X7 X13 X16 (k.cells c) (k'.cells c) c2 k2 k3 (.slice none 0 0) (.slice none 0 0) r2 r3 [] us := ⟨hPSd.b5,hPSd.cv.nob,hPSd.b7,hPSd.cr.clv.nob,HC2.out.1.below hAll,HC2.out.2.2.2.2.2,HC2.out.2.1,HC2.out.2.2.1,HC3.out.1.below hAX16,hPSd.low,hPSd.h5,hPSd.h7,hPSd.ne,
         HC2.out.2.2.2.1.1.below hAll,HC2.out.2.2.2.1.2.1,HC2.out.2.2.2.1.2.2,HC3.out.2.1.below hAX16,HC2.out.2.2.2.2.1.1.below hAll,HC2.out.2.2.2.2.1.2.1,HC2.out.2.2.2.2.1.2.2,HC3.out.2.2.below hAX16,(bX13.range 0 (k2.cells c2) (fun j v hv => by rw [Nat.zero_add]; exact hv)),d13,(bX16.range 0 (k3.cells c2) (fun j v hv => by rw [Nat.zero_add]; exact hv)),d16⟩
        have hT := hT.below (Below.refl _ wd0).drew
        have HPC := Lib.hid (And.intro hPSd.s0 hPSd.sm)
        have hINV : Inv (kk + 1) c2 := by rw [← HNM.out.2]; exact HLS.out.1
        have hSIN : 0 ≤ c2.since ∧ c2.since ≤ ((kk + 1 : Nat) : Int) * 4294967295 := by
         have h1 := (Or.inl HLS.out.2 : (expireP c NW).c.since = c.since ∨ (expireP c NW).c.since = NW)
         have h2 := HPC.out
         have h3 := HNW.out
         rw [HNM.out.2] at h1
         rcases h1 with h1 | h1 <;> rw [h1] <;> omega
        have HIN := Lib.hid (And.intro hINV hSIN)
        clear bX hth HW hg3 hX16 hAX16 bX16 hPSc hPSd hth1 HA13 HX13 hAll bX13 d13 d16 HC2 HC3 hINV hSIN HPC  HNM HLS
        go_upto_region 17 with fail
        refine wp_region_held_drew (S := (fun W' : World => W'.rangeAt X13 0 (k2.cells c2) ∧ W'.rangeAt X16 0 (k3.cells c2))) (by kernel_rfl) (⟨hT.g13,hT.g16⟩) (fun hHeld => ?_)
        generalize World.drew _ = wd at hHeld hT ⊢
        refine tkN 0 35 X13 0 (k2.cells c2) (fun _ h => h.1) Try.underlying35 ?_
        refine tkN 1 35 X16 0 (k3.cells c2) (fun _ h => h.2) Try.underlying35 ?_
        refine tkU 2 ?_
        refine tkU 3 ?_
        refine rd1 4 fun K hK => ?_
        go_simp
        go_at_call 19
        refine (sameResults_eq us _ _ _ hT.rv hT.rr.rsv (by omega) HFO.out).mono ?_
        rintro e wx ⟨rfl,hBx⟩
        have hT := hT.below hBx
        clear hBx
        clear hHeld
        refine hK.out _ _ (⟨hT.g13,hT.g16⟩) (fun hHeld => ?_)
        clear hK K
        try simp only [Act.put,List.setIfInBounds_toArray,List.set_cons_zero,List.set_cons_succ]
        refine rd1 5 fun K hK => ?_
        refine step_store_mid (by rfl) 35 _ _ (by rfl) X5 0 (k2.cells c2).toArray (by rfl) (by rfl) (hT.b5.there 0 26 (Nat.le_of_eq hT.n5.2.symm)) (by kernel_rfl) hT.one ?_
        generalize hX : World.setCells _ _ 0 _ = wy
        obtain ⟨hT,hg⟩ := hT.put5 hX
        clear hX hg
        clear hHeld
        refine hK.out _ _ (⟨hT.g13,hT.g16⟩) (fun hHeld => ?_)
        clear hK K
        try simp only [Act.put,List.setIfInBounds_toArray,List.set_cons_zero,List.set_cons_succ]
        refine rd1 6 fun K hK => ?_
        refine step_store_mid (by rfl) 35 _ _ (by rfl) X7 0 (k3.cells c2).toArray (by rfl) (by rfl) (hT.b7.there 0 26 (Nat.le_of_eq hT.n7.2.symm)) (by kernel_rfl) hT.cr.one ?_
        generalize hX : World.setCells _ _ 0 _ = wt
        obtain ⟨hT,hg⟩ := hT.put7 hX
        clear hX hg
        clear hHeld
        refine hK.out _ _ (⟨hT.g13,hT.g16⟩) (fun hHeld => ?_)
        clear hK K
        try simp only [Act.put,List.setIfInBounds_toArray,List.set_cons_zero,List.set_cons_succ]
        refine tkU 7 ?_
        refine wpAnyH_done (by kernel_rfl) ?_ _
        clear hHeld
        have hPS := hT.ps HIN.out.1 HNW.out.1 HNW.out.2 HIN.out.2.1 HIN.out.2.2
        clear hT
        have HPS := Lib.hid hPS
        have rg5 := (hPS.b5.range 0 (k2.cells c2) (fun j v hv => by rw [Nat.zero_add]; exact hv))
        have rg7 := (hPS.b7.range 0 (k3.cells c2) (fun j v hv => by rw [Nat.zero_add]; exact hv))
        clear hPS
        go_wp2_with (first | (refine wpList_load_midG (by rfl) 35 _ rfl X5 0 rfl (k2.cells c2) _ rg5 Try.underlying35 rfl (by kernel_rfl) ?_) | (refine wpList_load_midG (by rfl) 35 _ rfl X7 0 rfl (k3.cells c2) _ rg7 Try.underlying35 rfl (by kernel_rfl) ?_))
        refine (sameClient_eq c2 _ _ wt HPS.out.cv HPS.out.cr.clv (HPS.out.inv.toInv0.ok (by omega))).mono ?_
        rintro e wz ⟨rfl,hBz⟩
        have HBZ := Lib.hid hBz
        clear hBz rg5 rg7
        go_wp2
        refine ⟨⟨kk + 1,c2,k2,k3,NW,rfl,by simp,hlt,HPS.out.below HBZ.out⟩,?_⟩
        simp [intOf]
        omega
     ·have g3 : decide (kk < N) = false := by simpa using hlt
      have hlow := hPS.low
      clear hPS
      go_wp2_with fail
      refine (example_any wr).mono ?_
      rintro e wz ⟨rfl,hBz⟩
      go_wp2
      go_ret
      exact ⟨rfl,hlow.trans (hBz.mono hlow.size)⟩
end Go.Proofs.Ytldcihjddebciaa
