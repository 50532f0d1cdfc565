/- client with a server: the law ClientValues walked. -/
import Derived.Test.YtldcihjddebciaaGreatVSdR
import Derived.Test.YtldcihjddebciaaGreatVSvE
set_option linter.unusedSimpArgs false
set_option linter.unusedVariables false
set_option maxRecDepth 100000
set_option maxHeartbeats 12000000
namespace Go.Proofs.YtldcihjddebciaaGreat
open Go.RowKit
theorem clientValues_walk (v0 v1 v2 v3 v4 : Value) (w : World) (a0 : Arg Tryz.prog w 22 v0) (a1 : Arg Tryz.prog w 5 v1) (a2 : Arg Tryz.prog w 27 v2) (a3 : Arg Tryz.prog w 3 v3) (a4 : Arg Tryz.prog w 4 v4) :
 Calls Tryz.prog 4 #[v0,v1,v2,v3,v4] w fun e w' => e = .returned (.bool true) ∧ Below w.heap.size w w' := by
 obtain ⟨db,hdb⟩ := arg_dbr a0
 obtain ⟨at',rfl,hat'⟩ := a1.u8 Tryz.underlying5
 obtain ⟨vs,hvs⟩ := arg_bts a2
 obtain ⟨mx,rfl,-,-⟩ := a3.i64 Tryz.underlying3
 obtain ⟨lg,rfl⟩ := a4.bool Tryz.underlying4
 obtain ⟨da,dc,rfl⟩ := hdb.form
 obtain ⟨va,vc,rfl⟩ := hvs.form
 obtain ⟨dn,hn⟩ : ∃ n,db.length = n := ⟨_,rfl⟩
 obtain ⟨vn,hvn⟩ : ∃ n,vs.length = n := ⟨_,rfl⟩
 rw [hn] at hdb ⊢
 rw [hvn] at hvs ⊢
 have HST := Lib.hid (start_pair da dn dc db mx w hdb hn)
 have HDB := Lib.hid (And.intro hdb (And.intro hn (And.intro hvs (And.intro hvn hat'))))
 clear a0 a1 a2 a3 a4 hdb hn hvs hvn hat'
 go_enter Tryz.func4,Tryz.ntmps4
 go_wp2_with fail
 refine HST.out.mono ?_
 rintro e w1 ⟨pv,B,rfl,hBt,hB⟩
 have HBT := Lib.hid hBt
 clear hBt HST
 cases B with
 |false =>
  go_wp2_with fail
  refine (example_any _).mono ?_
  rintro e wz ⟨rfl,hBz⟩
  go_wp2
  go_ret
  exact ⟨rfl,hB.trans (hBz.mono hB.size)⟩
 |true =>
  obtain ⟨X,cs,ss,rfl,hXw,h60,hlo,hhi,hgd,hP⟩ := HBT.out rfl
  obtain ⟨R,hR⟩ : ∃ R : Nat,roomI 22 mx = (R : Int) := ⟨roomN 22 mx,((room_22 mx).2.2).symm⟩
  have hRb : R ≤ 512 := by have h := (room_22 mx).2.1; omega
  have HRO := Lib.hid (fun W => rroom_any 22 mx W)
  simp only [hR] at HRO
  obtain ⟨M16,hM16⟩ : ∃ x,16 * R = x := ⟨_,rfl⟩
  have HWR : Hid (wrap64 (16 * (R : Int)) = (M16 : Int)) := Lib.hid (by unfold wrap64; omega)
  have HPP := Lib.hid hP
  have HGD := Lib.hid (And.intro hlo (And.intro hhi (And.intro hgd (And.intro h60 (And.intro hXw (And.intro hR hM16))))))
  clear HBT hXw h60 hlo hhi hgd hP hR hRb hM16
  by_cases hd0 : dn = 0
  ·have g1 : (dn == 0) = true := by simpa using hd0
   have g1i : ((dn : Int) == 0) = true := by simp [hd0]
   clear hd0
   go_wp2_with fail
   refine (example_any _).mono ?_
   rintro e wz ⟨rfl,hBz⟩
   go_wp2
   go_ret
   exact ⟨rfl,hB.trans (hBz.mono hB.size)⟩
  have g1 : (dn == 0) = false := by simpa using hd0
  have g1i : ((dn : Int) == 0) = false := by simp; omega
  by_cases hv1 : M16 < vn
  ·have g2 : decide (M16 < vn) = true := by simpa using hv1
   have g2i : decide (wrap64 (16 * (R : Int)) < (vn : Int)) = true := by rw [HWR.out]; simp; omega
   clear hv1 hd0
   go_wp2_with fail
   refine (HRO.out _).mono ?_
   rintro e w2 ⟨rfl,rfl⟩
   go_wp2_with fail
   refine (example_any _).mono ?_
   rintro e wz ⟨rfl,hBz⟩
   go_wp2
   go_ret
   exact ⟨rfl,hB.trans (hBz.mono hB.size)⟩
  have g2 : decide (M16 < vn) = false := by simpa using hv1
  have g2i : decide (wrap64 (16 * (R : Int)) < (vn : Int)) = false := by rw [HWR.out]; simp; omega
  by_cases hv2 : 512 < vn
  ·have g3 : decide (512 < vn) = true := by simpa using hv2
   have g3i : decide ((512 : Int) < (vn : Int)) = true := by simp; omega
   clear hv1 hd0 hv2
   go_wp2_with fail
   refine (HRO.out _).mono ?_
   rintro e w2 ⟨rfl,rfl⟩
   go_wp2_with fail
   refine (example_any _).mono ?_
   rintro e wz ⟨rfl,hBz⟩
   go_wp2
   go_ret
   exact ⟨rfl,hB.trans (hBz.mono hB.size)⟩
  have g3 : decide (512 < vn) = false := by simpa using hv2
  have g3i : decide ((512 : Int) < (vn : Int)) = false := by simp; omega
  have HV := Lib.hid (And.intro (show vn ≤ 512 by omega) (And.intro (show vn ≤ M16 by omega) (show 0 < dn by omega)))
  clear hv1 hd0 hv2
  go_upto_region 4 with (go_at_call 17; refine (HRO.out _).mono ?_; rintro e w2 ⟨rfl,rfl⟩)
  clear g1 g1i g2 g2i g3 g3i HRO
  obtain ⟨hdb,hn,hvs,hvn,hat'⟩ := HDB.out
  obtain ⟨hvb,hvm,hd0⟩ := HV.out
  obtain ⟨KA,hKA⟩ : ∃ k,at' % dn = k := ⟨_,rfl⟩
  have hKlt : KA < dn := by rw [← hKA]; exact Nat.mod_lt _ hd0
  have r1 : (at' : Int).tmod (dn : Int) = (KA : Int) := by rw [← hKA]; rfl
  have r2 : (at' : Int) % (dn : Int) = (KA : Int) := by rw [← hKA]; simp
  have r3 : IntKind.i64.wrap (at' : Int) = (at' : Int) := IntWalk.i64_in _ (by omega)
  have r4 : (dn == 0) = false := by simp; omega
  have r5 : ((dn : Int) == 0) = false := by simp; omega
  have r6 : ¬ (dn : Int) = 0 := by omega
  obtain ⟨b,off,rfl,hb,hat⟩ := hdb.dbs.at hn hd0
  obtain ⟨ra,rc,d0,d1,d2,d3,d4,hcap,hby⟩ := hat KA hKlt
  have hprm := HGD.out.2.2.1.prm KA (by omega)
  have hlen := HGD.out.2.2.1.len KA (by omega)
  obtain ⟨⟨ha,hi',lo,pe,bs⟩,he⟩ : ∃ r,atI db KA = r := ⟨_,rfl⟩
  rw [he] at d0 d1 d2 d3 d4 hcap hby hprm hlen
  simp only at d0 d1 d2 d3 d4 hcap hby hprm hlen
  obtain ⟨L,hL⟩ : ∃ L,bs.length = L := ⟨_,rfl⟩
  have hbvA : BV w (.slice ra L rc) bs := ⟨ra,rc,by rw [hL],hcap,hby⟩
  rw [hL] at d4 hlen
  have rgA : w.rangeAt b (off + KA * 5) [.int .u16 ha,.int .u64 hi',.int .u64 lo,.int .i64 pe,.slice ra L rc] := fun j v hv => by
   match j,hv with
   |0,hv => cases hv; exact d0
   |1,hv => cases hv; exact d1
   |2,hv => cases hv; exact d2
   |3,hv => cases hv; exact d3
   |4,hv => cases hv; exact d4
  have rgA := range_keep rgA hB
  have hi0 : (0 : Int) ≤ (KA : Int) := by omega
  have hi1 : (KA : Int) < (dn : Int) := by omega
  have HAT := Lib.hid (And.intro he (And.intro hprm (And.intro hlen (And.intro hL (And.intro hbvA (And.intro hKlt hKA))))))
  have bX := Blk.new w1 29 [.int .u16 0,.int .u64 0,.int .u64 0,.int .i64 0,.slice none 0 0]
  have hth := bX.there 0 5 (by simp)
  have one : (#[.int .u16 ha,.int .u64 hi',.int .u64 lo,.int .i64 pe,.slice ra L rc] : Array Value).all (·.oneCell') = true := by simp [Value.oneCell']
  clear hdb hn hvs hvn hat' hvb hvm hd0 hKA hKlt hb hat d0 d1 d2 d3 d4 hcap hby hprm hlen he hL hbvA
  go_upto_region 5 with (first | (refine wpList_load_mid rfl 29 _ rfl b (off + KA * 5) rfl [.int .u16 ha,.int .u64 hi',.int .u64 lo,.int .i64 pe,.slice ra L rc] _ rgA Tryz.underlying29 rfl (by kernel_rfl) ?_) | (refine wpList_store_mid rfl 29 _ _ rfl w1.heap.size 0 #[.int .u16 ha,.int .u64 hi',.int .u64 lo,.int .i64 pe,.slice ra L rc] rfl rfl hth (by kernel_rfl) one ?_; simp only [Act.put]; generalize hW : World.setCells _ w1.heap.size 0 _ = w3; have HW := Lib.hid hW; clear hW))
  obtain ⟨hg9,bA⟩ := put_namedB bX HW.out rfl
  have hA9 : Below w1.heap.size w1 w3 := ((Below.refl w1.heap.size w1).alloc (Nat.le_refl _) _).grown hg9 (by simp) (fun k hk => by cases hk; exact Nat.le_refl _)
  have hP := HPP.out.below hA9
  have hXA := HPP.out.blk.lt
  have hB := hB.trans (hA9.mono hB.size)
  obtain ⟨A9,hA9'⟩ : ∃ x,w1.heap.size = x := ⟨_,rfl⟩
  rw [hA9'] at bA hXA ⊢
  have HX1 := Lib.hid (And.intro hP (And.intro hXA hB))
  clear HW hg9 hA9 hA9' bX hth one rgA r1 r2 r3 r4 r5 r6 hP hB hXA hi0 hi1 HPP
  obtain ⟨BD,hBD⟩ : ∃ b,(!(pe % 2 == 1) || isU 47459388624896 hi' lo || isU 45088566677504 hi' lo) = b := ⟨_,rfl⟩
  have HBD := Lib.hid hBD
  clear hBD
  go_upto_region 5 with fail
  go_cut [66] (fun v wx => v = .bool BD ∧ Below w3.heap.size w3 wx)
  case first =>
   have hBD := HBD.out
   unfold isU at hBD
   have hq1 := (bits_pe HAT.out.2.1).1
   obtain ⟨XP,hXP⟩ : ∃ x,bits .and .i64 pe 1 = x := ⟨_,rfl⟩
   rw [hXP] at hq1
   have hs1 : ∀ W,Calls Tryz.prog 6 #[.int .u16 11050] W fun e w' => e = .returned (.agg #[.int .u64 47459388624896,.int .u64 9223372588214596859]) ∧ Below W.heap.size W w' := fun W => rshort_any 11050 (by decide) W
   have hs2 : ∀ W,Calls Tryz.prog 6 #[.int .u16 10498] W fun e w' => e = .returned (.agg #[.int .u64 45088566677504,.int .u64 9223372588214596859]) ∧ Below W.heap.size W w' := fun W => rshort_any 10498 (by decide) W
   obtain ⟨M1,hM1⟩ : ∃ M : Int,(47459388624896 : Int) = M := ⟨_,rfl⟩
   obtain ⟨M2,hM2⟩ : ∃ M : Int,(45088566677504 : Int) = M := ⟨_,rfl⟩
   obtain ⟨K0,hK0⟩ : ∃ M : Int,(9223372588214596859 : Int) = M := ⟨_,rfl⟩
   simp only [hM1,hM2,hK0] at hs1 hs2 hBD
   obtain ⟨PP,hPP⟩ : ∃ c,(pe % 2 == 1) = c := ⟨_,rfl⟩
   obtain ⟨c1,hc1⟩ : ∃ c,(hi' == M1) = c := ⟨_,rfl⟩
   obtain ⟨c2,hc2⟩ : ∃ c,(lo == K0) = c := ⟨_,rfl⟩
   obtain ⟨c3,hc3⟩ : ∃ c,(hi' == M2) = c := ⟨_,rfl⟩
   rw [hPP,hc1,hc2,hc3] at hBD
   rw [hPP] at hq1
   have HS1 := Lib.hid hs1
   have HS2 := Lib.hid hs2
   have HBB := Lib.hid hBD
   have hdr := (Below.refl w3.heap.size w3).drew
   have bA := bA.below hdr
   have hVd := hdr
   have hBd := Below.refl w3.drew.heap.size w3.drew
   clear hBD hs1 hs2 hM1 hM2 hK0 hPP hdr
   cases PP with
   |false =>
    replace hq1 : (XP == 0) = true := hq1
    refine wp_region_held_drew (S := (fun W' : World => W'.cell? ⟨A9,1,none⟩ = some (.int .u64 hi') ∧ W'.cell? ⟨A9,2,none⟩ = some (.int .u64 lo) ∧ W'.cell? ⟨A9,3,none⟩ = some (.int .i64 pe))) (by kernel_rfl) (⟨(bA.below hBd).cell (j := 1) (v := .int .u64 hi') rfl,(bA.below hBd).cell (j := 2) (v := .int .u64 lo) rfl,(bA.below hBd).cell (j := 3) (v := .int .i64 pe) rfl⟩) (fun hHeld => ?_)
    generalize World.drew _ = wd at hHeld bA hVd hBd ⊢
    refine tkU 0 ?_
    refine tkU 1 ?_
    refine tkU 2 ?_
    refine tkU 3 ?_
    refine tkU 4 ?_
    refine tkV 5 ?_
    refine tkV 6 ?_
    refine tkV 7 ?_
    refine tkV 8 ?_
    refine tkU 9 ?_
    refine tkU 10 ?_
    refine tkV 11 ?_
    refine tkV 12 ?_
    refine tkV 13 ?_
    refine tkV 14 ?_
    refine tkU 15 ?_
    refine wpAnyH_done (by kernel_rfl) ?_ _
    clear hHeld hq1 hXP hc1 hc2 hc3
    go_wp2_with fail
    go_meet
    exact ⟨by rw [← HBB.out]; rfl,hVd.trans (hBd.mono hVd.size)⟩
   |true =>
    replace hq1 : (XP == 0) = false := hq1
    by_cases hcc : c1 = true ∧ c2 = true
    ·obtain ⟨rfl,rfl⟩ := hcc
     refine wp_region_held_drew (S := (fun W' : World => W'.cell? ⟨A9,1,none⟩ = some (.int .u64 hi') ∧ W'.cell? ⟨A9,2,none⟩ = some (.int .u64 lo) ∧ W'.cell? ⟨A9,3,none⟩ = some (.int .i64 pe))) (by kernel_rfl) (⟨(bA.below hBd).cell (j := 1) (v := .int .u64 hi') rfl,(bA.below hBd).cell (j := 2) (v := .int .u64 lo) rfl,(bA.below hBd).cell (j := 3) (v := .int .i64 pe) rfl⟩) (fun hHeld => ?_)
     generalize World.drew _ = wd at hHeld bA hVd hBd ⊢
     refine tkU 0 ?_
     refine tkU 1 ?_
     refine tkU 2 ?_
     refine tkU 3 ?_
     refine tkU 4 ?_
     refine tkU 5 ?_
     refine tkU 6 ?_
     refine rd1 7 fun K hK => ?_
     go_simp
     go_at_call 6
     refine (HS1.out _).mono ?_
     rintro e w4 ⟨rfl,hC⟩
     have hBd := hBd.trans (hC.mono hBd.size)
     clear hC
     clear hHeld
     refine hK.out _ _ (⟨(bA.below hBd).cell (j := 1) (v := .int .u64 hi') rfl,(bA.below hBd).cell (j := 2) (v := .int .u64 lo) rfl,(bA.below hBd).cell (j := 3) (v := .int .i64 pe) rfl⟩) (fun hHeld => ?_)
     clear hK K
     try simp only [Act.put,List.setIfInBounds_toArray,List.set_cons_zero,List.set_cons_succ]
     refine tkU 8 ?_
     refine tkU 9 ?_
     refine tkU 10 ?_
     refine tkV 11 ?_
     refine tkV 12 ?_
     refine tkV 13 ?_
     refine tkV 14 ?_
     refine tkU 15 ?_
     refine wpAnyH_done (by kernel_rfl) ?_ _
     clear hHeld hq1 hXP hc1 hc2 hc3
     go_wp2_with fail
     go_meet
     exact ⟨by rw [← HBB.out]; rfl,hVd.trans (hBd.mono hVd.size)⟩
    ·cases c1 <;> cases c2 <;> cases c3 <;> first | exact absurd ⟨rfl,rfl⟩ hcc | skip
     all_goals
      clear hcc
      refine wp_region_held_drew (S := (fun W' : World => W'.cell? ⟨A9,1,none⟩ = some (.int .u64 hi') ∧ W'.cell? ⟨A9,2,none⟩ = some (.int .u64 lo) ∧ W'.cell? ⟨A9,3,none⟩ = some (.int .i64 pe))) (by kernel_rfl) (⟨(bA.below hBd).cell (j := 1) (v := .int .u64 hi') rfl,(bA.below hBd).cell (j := 2) (v := .int .u64 lo) rfl,(bA.below hBd).cell (j := 3) (v := .int .i64 pe) rfl⟩) (fun hHeld => ?_)
      generalize World.drew _ = wd at hHeld bA hVd hBd ⊢
      refine tkU 0 ?_
      refine tkU 1 ?_
      refine tkU 2 ?_
      refine tkU 3 ?_
      refine tkU 4 ?_
      refine tkU 5 ?_
      refine tkU 6 ?_
      refine rd1 7 fun K hK => ?_
      go_simp
      go_at_call 6
      refine (HS1.out _).mono ?_
      rintro e w4 ⟨rfl,hC⟩
      have hBd := hBd.trans (hC.mono hBd.size)
      clear hC
      clear hHeld
      refine hK.out _ _ (⟨(bA.below hBd).cell (j := 1) (v := .int .u64 hi') rfl,(bA.below hBd).cell (j := 2) (v := .int .u64 lo) rfl,(bA.below hBd).cell (j := 3) (v := .int .i64 pe) rfl⟩) (fun hHeld => ?_)
      clear hK K
      try simp only [Act.put,List.setIfInBounds_toArray,List.set_cons_zero,List.set_cons_succ]
      refine tkU 8 ?_
      refine tkU 9 ?_
      refine tkU 10 ?_
      refine tkU 11 ?_
      refine tkU 12 ?_
      refine rd1 13 fun K hK => ?_
      go_simp
      go_at_call 6
      refine (HS2.out _).mono ?_
      rintro e w5 ⟨rfl,hC⟩
      have hBd := hBd.trans (hC.mono hBd.size)
      clear hC
      clear hHeld
      refine hK.out _ _ (⟨(bA.below hBd).cell (j := 1) (v := .int .u64 hi') rfl,(bA.below hBd).cell (j := 2) (v := .int .u64 lo) rfl,(bA.below hBd).cell (j := 3) (v := .int .i64 pe) rfl⟩) (fun hHeld => ?_)
      clear hK K
      try simp only [Act.put,List.setIfInBounds_toArray,List.set_cons_zero,List.set_cons_succ]
      refine tkU 14 ?_
      refine tkU 15 ?_
      refine wpAnyH_done (by kernel_rfl) ?_ _
      clear hHeld hq1 hXP hc1 hc2 hc3
      go_wp2_with fail
      go_meet
      exact ⟨by rw [← HBB.out]; rfl,hVd.trans (hBd.mono hVd.size)⟩
  case rest =>
   obtain ⟨rfl,hBw⟩ := hcut
   have hP := HX1.out.1.below hBw
   have bA := bA.below hBw
   have hB := HX1.out.2.2.trans (hBw.mono HX1.out.2.2.size)
   have hXA := HX1.out.2.1
   clear hBw HX1
   cases BD with
   |true =>
    clear hP bA hXA
    go_wp2_with fail
    refine (example_any _).mono ?_
    rintro e wz ⟨rfl,hBz⟩
    go_wp2
    go_ret
    exact ⟨rfl,hB.trans (hBz.mono hB.size)⟩
   |false =>
    have hpl : plainA (atI db KA) ∧ rdB (atI db KA) = true := by
     have h := HBD.out
     rw [HAT.out.1]
     unfold isU at h
     simp only [Bool.or_eq_false_iff,Bool.not_eq_false',Bool.and_eq_false_iff,beq_eq_false_iff_ne] at h
     refine ⟨⟨fun hh => ?_,fun hh => ?_⟩,h.1.1⟩
     ·rcases h.1.2 with h2 | h2
      ·exact h2 hh.1
      ·exact h2 hh.2
     ·rcases h.2 with h2 | h2
      ·exact h2 hh.1
      ·exact h2 hh.2
    have HPL := Lib.hid hpl
    clear hpl HBD
    obtain ⟨H0,hH0⟩ : ∃ H : Nat,ha = (H : Int) := ⟨ha.toNat,by have h := HGD.out.2.2.1.pos KA (by rw [HDB.out.2.1]; exact HAT.out.2.2.2.2.2.1); rw [HAT.out.1] at h; simp only at h; omega⟩
    subst hH0
    have hfn : findN db (H0 : Int) = KA := findN_hit (by rw [HDB.out.2.1]; exact HAT.out.2.2.2.2.2.1) (fun j hj => by
     have h := HGD.out.2.2.1.lt (i := j) KA hj (by rw [HDB.out.2.1]; exact HAT.out.2.2.2.2.2.1)
     rw [HAT.out.1] at h
     simp only at h
     omega) (by rw [HAT.out.1])
    have hH1 : H0 ≠ 0 := fun e => by
     have h := HGD.out.2.2.1.pos KA (by rw [HDB.out.2.1]; exact HAT.out.2.2.2.2.2.1)
     rw [HAT.out.1] at h
     simp only at h
     omega
    have hlenA : (atI db KA).bs.length ≤ 512 := by rw [HAT.out.1]; simp only; rw [HAT.out.2.2.2.1]; exact HAT.out.2.2.1
    have hidn : findN db (H0 : Int) < db.length := by rw [hfn,HDB.out.2.1]; exact HAT.out.2.2.2.2.2.1
    have HFN := Lib.hid (And.intro hfn (And.intro hH1 (And.intro hlenA hidn)))
    obtain ⟨c1,q,p1,p2,p3,hpl1⟩ := run_long db mx H0 hH1 hidn (by rw [hfn]; exact HPL.out.2) (by rw [hfn]; exact HPL.out.1) (by rw [hfn]; exact hlenA)
    rw [hfn] at hpl1
    have hdo := do_any hok_v X cs ss (idle mx mx 0) ⟨db,mx,mx,[]⟩ { tk0 with kd := 6,ha := H0 } none 0 0 none 0 0 q ⟨3,6,H0,(atI db KA).bs,[],0⟩ c1 (idle mx mx 0) ⟨db,mx,mx,[]⟩ wc hP (ok_idle mx mx 0) (BV.nil _) (Nat.zero_le _) (show (Lit.int .i64 6).wf = true by decide) p1 p2 p3 (hpl1.gen HGD.out.2.2.1.ok) rfl rfl
    have HDO : Hid (Calls Tryz.prog 12 #[.pointer (some ⟨X,0,none⟩),.agg #[.int .i64 6,.int .u16 0,.int .u16 0,.int .u16 (H0 : Int),.slice none 0 0,.int .i64 0,.slice none 0 0,.bool false]] wc fun e w' => ∃ a5 c5 a6 c6 cs2 ss2,e = .returned (.agg #[.int .i64 3,.int .i64 6,.int .u16 (H0 : Int),.slice a5 L c5,.slice a6 0 c6,.int .i64 0]) ∧ BV w' (.slice a5 L c5) bs ∧ PR w' X cs2 ss2 (idle mx mx 0) ⟨db,mx,mx,[]⟩ true ∧ KX X wc w') := Lib.hid (hdo.mono (by
     rintro e w' ⟨bv,fv,cs2,ss2,rfl,hbv,hfv,hP,hK⟩
     rw [HAT.out.1] at hbv
     obtain ⟨a5,c5,rfl⟩ := hbv.form
     obtain ⟨a6,c6,rfl⟩ := hfv.form
     simp only at hbv
     rw [HAT.out.2.2.2.1] at hbv
     exact ⟨a5,c5,a6,c6,cs2,ss2,by simp only [rsc,HAT.out.2.2.2.1,List.length_nil],hbv,hP,hK⟩))
    have n0 := bA.cell (j := 0) (v := .int .u16 (H0 : Int)) rfl
    have HB7 := Lib.hid (And.intro hB (And.intro hXA bA))
    clear hfn hH1 hlenA hidn p1 p2 p3 hpl1 hdo hP hB hXA bA
    go_wp2_with fail
    refine HDO.out.mono ?_
    rintro e w6 ⟨a5,c5,a6,c6,cs2,ss2,rfl,hbv6,hP6,hK6⟩
    have bX := Blk.new w6 43 [.int .i64 0,.int .i64 0,.int .u16 0,.slice none 0 0,.slice none 0 0,.int .i64 0]
    have hth := bX.there 0 6 (by simp)
    have one : (#[.int .i64 3,.int .i64 6,.int .u16 (H0 : Int),.slice a5 L c5,.slice a6 0 c6,.int .i64 0] : Array Value).all (·.oneCell') = true := by simp [Value.oneCell']
    clear n0
    go_upto_region 8 with (refine wpList_store_mid rfl 43 _ _ rfl w6.heap.size 0 #[.int .i64 3,.int .i64 6,.int .u16 (H0 : Int),.slice a5 L c5,.slice a6 0 c6,.int .i64 0] rfl rfl hth (by kernel_rfl) one ?_; simp only [Act.put]; generalize hW : World.setCells _ w6.heap.size 0 _ = w8; have HW := Lib.hid hW; clear hW)
    obtain ⟨hg8,bR⟩ := put_namedB bX HW.out rfl
    have hA8 : Below w6.heap.size w6 w8 := ((Below.refl w6.heap.size w6).alloc (Nat.le_refl _) _).grown hg8 (by simp) (fun k hk => by cases hk; exact Nat.le_refl _)
    obtain ⟨hB,hXA,bA⟩ := HB7.out
    have hXlt : X ≤ wc.heap.size := by have := bA.lt; omega
    have hP := hP6.below hA8
    have hX6 := hP6.blk.lt
    have hbv := hbv6.below hA8
    have bA := (bA.kx (by omega) hK6).below hA8
    obtain ⟨R9,hR9⟩ : ∃ x,w6.heap.size = x := ⟨_,rfl⟩
    rw [hR9] at bR hX6 ⊢
    have hB := (hB.trans (hK6.lo.mono HGD.out.2.2.2.2.1)).trans (hA8.mono (by have := hB.size; have := hK6.kp.1; omega))
    have hAR : A9 < R9 := by have h := (HB7.out.2.2).lt; have := hK6.kp.1; omega
    clear hR9 HW hg8 hA8 bX hth one hP6 hK6 hbv6 HDO HB7 hXlt
    have mX := hP.cell
    have r0 := bR.cell (j := 0) (v := .int .i64 3) rfl
    have r2 := bR.cell (j := 2) (v := .int .u16 (H0 : Int)) rfl
    have r3 := bR.cell (j := 3) (v := .slice a5 L c5) rfl
    have n0 := bA.cell (j := 0) (v := .int .u16 (H0 : Int)) rfl
    have n4 := bA.cell (j := 4) (v := .slice ra L rc) rfl
    have hbvA := HAT.out.2.2.2.2.1.below hB
    have HSM := Lib.hid (same_any (.slice a5 L c5) (.slice ra L rc) bs bs w8 hbv.at hbvA.at)
    clear hbv hbvA
    go_upto_region 10 with (go_at_call 14; refine HSM.out.mono ?_; rintro e w7 ⟨rfl,rfl⟩)
    clear mX r0 r2 r3 n4 HSM
    have bX := Blk.new w8 46 [.int .i64 0,.int .u16 0,.int .u16 0,.int .u16 0,.slice none 0 0,.int .i64 0,.slice none 0 0,.bool false]
    have hth := bX.there 0 8 (by simp)
    have one : (#[.int .i64 7,.int .u16 0,.int .u16 0,.int .u16 (H0 : Int),.slice va vn vc,.int .i64 0,.slice none 0 0,.bool false] : Array Value).all (·.oneCell') = true := by simp [Value.oneCell']
    go_upto_region 11 with (refine wpList_store_mid rfl 46 _ _ rfl w8.heap.size 0 #[.int .i64 7,.int .u16 0,.int .u16 0,.int .u16 (H0 : Int),.slice va vn vc,.int .i64 0,.slice none 0 0,.bool false] rfl rfl hth (by kernel_rfl) one ?_; simp only [Act.put]; generalize hW : World.setCells _ w8.heap.size 0 _ = w9; have HW := Lib.hid hW; clear hW)
    obtain ⟨hg9,bT⟩ := put_namedB bX HW.out rfl
    have hA9 : Below w8.heap.size w8 w9 := ((Below.refl w8.heap.size w8).alloc (Nat.le_refl _) _).grown hg9 (by simp) (fun k hk => by cases hk; exact Nat.le_refl _)
    have hRT := bR.lt
    have hP := hP.below hA9
    have bA := bA.below hA9
    have bR := bR.below hA9
    have hB := hB.trans (hA9.mono hB.size)
    obtain ⟨T9,hT9⟩ : ∃ x,w8.heap.size = x := ⟨_,rfl⟩
    rw [hT9] at bT hRT ⊢
    clear hT9 HW hg9 hA9 bX hth one n0
    cases lg with
    |false =>
     go_upto_region 13 with fail
     have hq2 := (bits_pe HAT.out.2.1).2
     obtain ⟨XQ,hXQ⟩ : ∃ x,bits .and .i64 pe 2 = x := ⟨_,rfl⟩
     rw [hXQ] at hq2
     have n3 := bA.cell (j := 3) (v := .int .i64 pe) rfl
     have rgT := bT.range 0 [.int .i64 7,.int .u16 0,.int .u16 0,.int .u16 (H0 : Int),.slice va vn vc,.int .i64 0,.slice none 0 0,.bool false] (fun j v hv => by rw [Nat.zero_add]; exact hv)
     have HWB : Hid (wrB (atI db KA) = (pe / 2 % 2 == 1)) := Lib.hid (by rw [HAT.out.1]; rfl)
     have hvsW := HDB.out.2.2.1.below hB
     have hXR : X ≠ R9 := by omega
     have HB9 := Lib.hid (And.intro hB (And.intro hXA (And.intro hAR hRT)))
     cases hw : (pe / 2 % 2 == 1) with
     |false =>
      rw [hw] at hq2
      replace hq2 : (XQ == 0) = true := hq2
      obtain ⟨c2,q2,p1,p2,p3,hpl2⟩ := run_refused db mx H0 vs 7 (.inl rfl) HFN.out.2.1 HFN.out.2.2.2 (by rw [HFN.out.1,HWB.out]; exact hw) (by rw [HFN.out.1]; exact HPL.out.1) (by rw [HDB.out.2.2.2.1]; exact HV.out.1)
      have hdo := do_any hok_v X cs2 ss2 (idle mx mx 0) ⟨db,mx,mx,[]⟩ { tk0 with kd := 7,ha := H0,vs := vs } va vn vc none 0 0 q2 ⟨5,7,H0,[],[],3⟩ c2 (idle mx mx 0) ⟨db,mx,mx,[]⟩ w9 hP (ok_idle mx mx 0) hvsW (by show vs.length ≤ _; rw [HDB.out.2.2.2.1]; have := HV.out.1; omega) (show (Lit.int .i64 7).wf = true by decide) p1 p2 p3 (hpl2.gen HGD.out.2.2.1.ok) rfl rfl
      have HDO : Hid (Calls Tryz.prog 12 #[.pointer (some ⟨X,0,none⟩),.agg #[.int .i64 7,.int .u16 0,.int .u16 0,.int .u16 (H0 : Int),.slice va vn vc,.int .i64 0,.slice none 0 0,.bool false]] w9 fun e w' => ∃ a7 c7 a8 c8 cs3 ss3,e = .returned (.agg #[.int .i64 5,.int .i64 7,.int .u16 (H0 : Int),.slice a7 0 c7,.slice a8 0 c8,.int .i64 3]) ∧ PR w' X cs3 ss3 (idle mx mx 0) ⟨db,mx,mx,[]⟩ true ∧ KX X w9 w') := Lib.hid (hdo.mono (by
       rintro e w' ⟨bv,fv,cs3,ss3,rfl,hbv,hfv,hP,hK⟩
       obtain ⟨a7,c7,rfl⟩ := hbv.form
       obtain ⟨a8,c8,rfl⟩ := hfv.form
       exact ⟨a7,c7,a8,c8,cs3,ss3,rfl,hP,hK⟩))
      clear hpl2 p1 p2 p3 hdo hvsW hP hw hB hXA hAR hRT
      go_wp2_with (refine wpList_load_mid rfl 46 _ rfl T9 0 rfl [.int .i64 7,.int .u16 0,.int .u16 0,.int .u16 (H0 : Int),.slice va vn vc,.int .i64 0,.slice none 0 0,.bool false] _ rgT Tryz.underlying46 rfl (by kernel_rfl) ?_)
      refine HDO.out.mono ?_
      rintro e w12 ⟨a7,c7,a8,c8,cs3,ss3,rfl,hP12,hK12⟩
      have bR := bR.kx (fun e => hXR e.symm) hK12
      have hth := bR.there 0 6 (by simp)
      have one : (#[.int .i64 5,.int .i64 7,.int .u16 (H0 : Int),.slice a7 0 c7,.slice a8 0 c8,.int .i64 3] : Array Value).all (·.oneCell') = true := by simp [Value.oneCell']
      have hB12 := HB9.out.1.trans (hK12.lo.mono HGD.out.2.2.2.2.1)
      clear hq2 hXQ n3 rgT bA bT HDO
      go_upto_region 15 with (refine wpList_store_mid rfl 43 _ _ rfl R9 0 #[.int .i64 5,.int .i64 7,.int .u16 (H0 : Int),.slice a7 0 c7,.slice a8 0 c8,.int .i64 3] rfl rfl hth (by kernel_rfl) one ?_; simp only [Act.put]; generalize hW : World.setCells _ R9 0 _ = w13; have HW := Lib.hid hW; clear hW)
      obtain ⟨hg13,bR13⟩ := put_namedB bR HW.out rfl
      have hX12 := hP12.blk.lt
      have mX := (hP12.other (nox_code (by simp only [List.map_cons,List.map_nil,code]; decide) (by simp only [List.map_cons,List.map_nil,code]; decide) (by simp only [List.map_cons,List.map_nil,code]; decide) (by simp only [List.map_cons,List.map_nil,code]; decide) (by simp only [List.map_cons,List.map_nil,code]; decide)) bR hg13 hXR (fun cs e u hu => .inl rfl)).cell
      have r0 := bR13.cell (j := 0) (v := .int .i64 5) rfl
      have r5 := bR13.cell (j := 5) (v := .int .i64 3) rfl
      have hB13 := hB12.grown hg13 hB12.size (fun k hk => by cases hk; have h1 := HGD.out.2.2.2.2.1; have h2 := HB9.out.2; omega)
      clear HW hg13 hth one bR hP12 hK12 hB12
      go_wp2_with fail
      refine (example_any _).mono ?_
      rintro e wz ⟨rfl,hBz⟩
      go_wp2
      go_ret
      exact ⟨rfl,hB13.trans (hBz.mono hB13.size)⟩
     |true =>
      rw [hw] at hq2
      replace hq2 : (XQ == 0) = false := hq2
      obtain ⟨c2,q2,p1,p2,p3,hpl2⟩ := run_write db mx H0 vs 7 (.inl rfl) HFN.out.2.1 HFN.out.2.2.2 (by rw [HFN.out.1,HWB.out]; exact hw) (by rw [HFN.out.1]; exact HPL.out.1) (by rw [HDB.out.2.2.2.1]; exact HV.out.1) (by
       rw [HDB.out.2.2.2.1]
       have h := HV.out.2.1
       have h2 := HGD.out.2.2.2.2.2.2
       have h3 : roomN 22 mx = R := by unfold roomN; rw [HGD.out.2.2.2.2.2.1]; rfl
       omega)
      rw [HFN.out.1] at hpl2
      have hdo := do_any hok_v X cs2 ss2 (idle mx mx 0) ⟨db,mx,mx,[]⟩ { tk0 with kd := 7,ha := H0,vs := vs } va vn vc none 0 0 q2 ⟨4,7,H0,[],[],0⟩ c2 (idle mx mx 0) ⟨putA db KA vs,mx,mx,[]⟩ w9 hP (ok_idle mx mx 0) hvsW (by show vs.length ≤ _; rw [HDB.out.2.2.2.1]; have := HV.out.1; omega) (show (Lit.int .i64 7).wf = true by decide) p1 p2 p3 (hpl2.gen HGD.out.2.2.1.ok) rfl rfl
      have HOK2 : Hid (DbOk (putA db KA vs)) := Lib.hid (hpl2.dbok HGD.out.2.2.1.ok)
      have HDO : Hid (Calls Tryz.prog 12 #[.pointer (some ⟨X,0,none⟩),.agg #[.int .i64 7,.int .u16 0,.int .u16 0,.int .u16 (H0 : Int),.slice va vn vc,.int .i64 0,.slice none 0 0,.bool false]] w9 fun e w' => ∃ a7 c7 a8 c8 cs3 ss3,e = .returned (.agg #[.int .i64 4,.int .i64 7,.int .u16 (H0 : Int),.slice a7 0 c7,.slice a8 0 c8,.int .i64 0]) ∧ PR w' X cs3 ss3 (idle mx mx 0) ⟨putA db KA vs,mx,mx,[]⟩ true ∧ KX X w9 w') := Lib.hid (hdo.mono (by
       rintro e w' ⟨bv,fv,cs3,ss3,rfl,hbv,hfv,hP,hK⟩
       obtain ⟨a7,c7,rfl⟩ := hbv.form
       obtain ⟨a8,c8,rfl⟩ := hfv.form
       exact ⟨a7,c7,a8,c8,cs3,ss3,rfl,hP,hK⟩))
      clear hpl2 p1 p2 p3 hdo hvsW hP hw hB hXA hAR hRT
      go_wp2_with (refine wpList_load_mid rfl 46 _ rfl T9 0 rfl [.int .i64 7,.int .u16 0,.int .u16 0,.int .u16 (H0 : Int),.slice va vn vc,.int .i64 0,.slice none 0 0,.bool false] _ rgT Tryz.underlying46 rfl (by kernel_rfl) ?_)
      refine HDO.out.mono ?_
      rintro e w12 ⟨a7,c7,a8,c8,cs3,ss3,rfl,hP12,hK12⟩
      have bR := bR.kx (fun e => hXR e.symm) hK12
      have bA := bA.kx (by have := HB9.out.2.1; omega) hK12
      have hth := bR.there 0 6 (by simp)
      have one : (#[.int .i64 4,.int .i64 7,.int .u16 (H0 : Int),.slice a7 0 c7,.slice a8 0 c8,.int .i64 0] : Array Value).all (·.oneCell') = true := by simp [Value.oneCell']
      have hB12 := HB9.out.1.trans (hK12.lo.mono HGD.out.2.2.2.2.1)
      clear hq2 hXQ n3 rgT bT HDO
      go_upto_region 17 with (refine wpList_store_mid rfl 43 _ _ rfl R9 0 #[.int .i64 4,.int .i64 7,.int .u16 (H0 : Int),.slice a7 0 c7,.slice a8 0 c8,.int .i64 0] rfl rfl hth (by kernel_rfl) one ?_; simp only [Act.put]; generalize hW : World.setCells _ R9 0 _ = w13; have HW := Lib.hid hW; clear hW)
      obtain ⟨hg13,bR13⟩ := put_namedB bR HW.out rfl
      have hP13 := hP12.other (nox_code (by simp only [List.map_cons,List.map_nil,code]; decide) (by simp only [List.map_cons,List.map_nil,code]; decide) (by simp only [List.map_cons,List.map_nil,code]; decide) (by simp only [List.map_cons,List.map_nil,code]; decide) (by simp only [List.map_cons,List.map_nil,code]; decide)) bR hg13 hXR (fun cs e u hu => .inl rfl)
      have bA := bA.kept hg13 (fun e => by injection e with e; have := HB9.out.2.2.1; omega)
      have hB13 := hB12.grown hg13 hB12.size (fun k hk => by cases hk; have h1 := HGD.out.2.2.2.2.1; have h2 := HB9.out.2; omega)
      clear HW hg13 hth one bR hP12 hK12 hB12
      obtain ⟨da3,dn3,dc3,qa3,qn3,qc3,ua3,un3,uc3,oa3,on3,oc3,e3,hdq3,hdn3,hqn3⟩ := hP13.sv.form
      simp only [Value.agg.injEq] at e3
      have e3' : ss3 = [.slice da3 dn3 dc3,.int .i64 mx,.int .i64 mx,.int .i64 2,.slice qa3 qn3 qc3,.int .i64 2,.bool false,.slice ua3 un3 uc3,.slice oa3 on3 oc3,.bool false,.int .i64 0] := by simpa using congrArg Array.toList e3
      subst e3'
      have hdn3 : (putA db KA vs).length = dn3 := hdn3
      rw [putA_len,HDB.out.2.1] at hdn3
      subst hdn3
      have hqn3 : (0 : Nat) = qn3 := hqn3
      subst hqn3
      have hKlt := HAT.out.2.2.2.2.2.1
      obtain ⟨b3,off3,rfl,hb3,hat3⟩ := hdq3.db.dbs.at (by rw [putA_len]; exact HDB.out.2.1) (by omega)
      obtain ⟨ra3,rc3,-,-,-,-,d4,hcap3,hby3⟩ := hat3 KA hKlt
      rw [putA_at (by rw [HDB.out.2.1]; exact hKlt)] at d4 hcap3 hby3
      simp only [HDB.out.2.2.2.1] at d4 hcap3 hby3
      have mD : w13.cell? ⟨X,26,none⟩ = some (.slice (some ⟨b3,off3,none⟩) dn dc3) := hP13.rs 0 _ rfl
      have mQ : w13.cell? ⟨X,30,none⟩ = some (.slice qa3 0 qc3) := hP13.rs 4 _ rfl
      have mX := hP13.cell
      have r0 := bR13.cell (j := 0) (v := .int .i64 4) rfl
      have hvsB : BytesAt w13 (.slice va vn vc) vs := (HDB.out.2.2.1.below hB13).at
      have hdr := (Below.refl w13.heap.size w13).drew
      have HSM := Lib.hid (fun W (hW : Below w13.heap.size w13 W) => same_any (.slice ra3 vn rc3) (.slice va vn vc) vs vs W (hby3.below hW) (hvsB.below hW))
      have r1 : (at' : Int).tmod (dn : Int) = (KA : Int) := by rw [← HAT.out.2.2.2.2.2.2]; rfl
      have r2 : (at' : Int) % (dn : Int) = (KA : Int) := by rw [← HAT.out.2.2.2.2.2.2]; simp
      have r3 : IntKind.i64.wrap (at' : Int) = (at' : Int) := IntWalk.i64_in _ (by have := HDB.out.2.2.2.2; omega)
      have r4 : (dn == 0) = false := by simp; omega
      have r5 : ((dn : Int) == 0) = false := by simp; omega
      have r6 : ¬ (dn : Int) = 0 := by omega
      have hi0 : (0 : Int) ≤ (KA : Int) := by omega
      have hi1 : (KA : Int) < (dn : Int) := by omega
      have r7 : ¬ dn = 0 := by omega
      have HKL := Lib.hid hKlt
      clear hdq3 hb3 hat3 hcap3 hby3 hvsB e3 hKlt
      have hP := hP13.below hdr
      have bA := bA.below hdr
      have bR := bR13.below hdr
      have hB := hB13.trans (hdr.mono hB13.size)
      have mX := kc mX hdr
      have r0 := kc r0 hdr
      have mD := kc mD hdr
      have mQ := kc mQ hdr
      have d4 := kc d4 hdr
      have hVd := hdr
      clear hP13 bR13 hB13 hdr
      go_upto_region 17 with fail
      refine wp_region_held_drew (S := (fun W' : World => W'.cell? ⟨X,37,none⟩ = some (.bool true) ∧ W'.cell? ⟨R9,0,none⟩ = some (.int .i64 4) ∧ W'.cell? ⟨X,26,none⟩ = some (.slice (some ⟨b3,off3,none⟩) dn dc3) ∧ W'.cell? ⟨X,30,none⟩ = some (.slice qa3 0 qc3) ∧ W'.cell? ⟨b3,off3 + KA * 5 + 4,none⟩ = some (.slice ra3 vn rc3))) (by kernel_rfl) (⟨mX,r0,mD,mQ,d4⟩) (fun hHeld => ?_)
      generalize World.drew _ = wd at hHeld hP bA bR hB mX r0 mD mQ d4 hVd ⊢
      refine tkU 0 ?_
      refine tkU 1 ?_
      refine tkU 2 ?_
      refine tkU 3 ?_
      refine tkU 4 ?_
      refine tkU 5 ?_
      refine tkU 6 ?_
      refine tkU 7 ?_
      refine tkU 8 ?_
      refine tkU 9 ?_
      refine tkU 10 ?_
      refine tkU 11 ?_
      refine tkU 12 ?_
      refine tkU 13 ?_
      refine tkU 14 ?_
      refine tkU 15 ?_
      refine tkU 16 ?_
      refine tkU 17 ?_
      refine tkU 18 ?_
      refine tkU 19 ?_
      refine tkU 20 ?_
      refine tkU 21 ?_
      refine tkU 22 ?_
      refine tkU 23 ?_
      refine tkU 24 ?_
      refine rd1 25 fun K hK => ?_
      go_simp
      go_at_call 14
      refine (HSM.out _ hVd).mono ?_
      rintro e w5 ⟨rfl,rfl⟩
      clear hHeld
      refine hK.out _ _ (⟨mX,r0,mD,mQ,d4⟩) (fun hHeld => ?_)
      clear hK K
      try simp only [Act.put,List.setIfInBounds_toArray,List.set_cons_zero,List.set_cons_succ]
      refine tkU 26 ?_
      refine tkU 27 ?_
      refine tkU 28 ?_
      refine tkU 29 ?_
      refine tkU 30 ?_
      refine tkU 31 ?_
      refine tkU 32 ?_
      refine tkU 33 ?_
      refine tkU 34 ?_
      refine tkU 35 ?_
      refine tkU 36 ?_
      refine wpAnyH_done (by kernel_rfl) ?_ _
      clear hHeld mX r0 mD mQ d4 r1 r2 r3 r4 r5 r6 r7 hVd HSM
      have hf := putA_find (db := db) (h := (H0 : Int)) HFN.out.2.2.2 vs
      rw [HFN.out.1] at hf
      have hat2 := putA_at (db := db) (i := KA) (by rw [HDB.out.2.1]; exact HKL.out) vs
      obtain ⟨c3,q3,p1,p2,p3,hpl3⟩ := run_long (putA db KA vs) mx H0 HFN.out.2.1 (by rw [hf,putA_len,HDB.out.2.1]; exact HKL.out) (by rw [hf,hat2]; exact HPL.out.2) (by rw [hf,hat2]; exact HPL.out.1) (by rw [hf,hat2]; show vs.length ≤ 512; rw [HDB.out.2.2.2.1]; exact HV.out.1)
      rw [hf,hat2] at hpl3
      have hdo := do_any hok_v X _ _ (idle mx mx 0) ⟨putA db KA vs,mx,mx,[]⟩ { tk0 with kd := 6,ha := H0 } none 0 0 none 0 0 q3 ⟨3,6,H0,vs,[],0⟩ c3 (idle mx mx 0) ⟨putA db KA vs,mx,mx,[]⟩ wd hP (ok_idle mx mx 0) (BV.nil _) (Nat.zero_le _) (show (Lit.int .i64 6).wf = true by decide) p1 p2 p3 (hpl3.gen HOK2.out) rfl rfl
      have HDO : Hid (Calls Tryz.prog 12 #[.pointer (some ⟨X,0,none⟩),.agg #[.int .i64 6,.int .u16 0,.int .u16 0,.int .u16 (H0 : Int),.slice none 0 0,.int .i64 0,.slice none 0 0,.bool false]] wd fun e w' => ∃ a9 c9 a10 c10 cs4 ss4,e = .returned (.agg #[.int .i64 3,.int .i64 6,.int .u16 (H0 : Int),.slice a9 vn c9,.slice a10 0 c10,.int .i64 0]) ∧ BV w' (.slice a9 vn c9) vs ∧ PR w' X cs4 ss4 (idle mx mx 0) ⟨putA db KA vs,mx,mx,[]⟩ true ∧ KX X wd w') := Lib.hid (hdo.mono (by
       rintro e w' ⟨bv,fv,cs4,ss4,rfl,hbv,hfv,hP,hK⟩
       obtain ⟨a9,c9,rfl⟩ := hbv.form
       obtain ⟨a10,c10,rfl⟩ := hfv.form
       simp only [HDB.out.2.2.2.1] at hbv
       exact ⟨a9,c9,a10,c10,cs4,ss4,by simp only [rsc,HDB.out.2.2.2.1,List.length_nil],hbv,hP,hK⟩))
      have n0 := bA.cell (j := 0) (v := .int .u16 (H0 : Int)) rfl
      clear hf hat2 p1 p2 p3 hpl3 hdo hP
      go_wp2_with fail
      refine HDO.out.mono ?_
      rintro e w14 ⟨a9,c9,a10,c10,cs4,ss4,rfl,hbv,hP14,hK14⟩
      have bR := bR.kx (fun e => hXR e.symm) hK14
      have hth := bR.there 0 6 (by simp)
      have one : (#[.int .i64 3,.int .i64 6,.int .u16 (H0 : Int),.slice a9 vn c9,.slice a10 0 c10,.int .i64 0] : Array Value).all (·.oneCell') = true := by simp [Value.oneCell']
      have hB14 := hB.trans (hK14.lo.mono HGD.out.2.2.2.2.1)
      clear n0 bA HDO hB hK14
      go_upto_region 20 with (refine wpList_store_mid rfl 43 _ _ rfl R9 0 #[.int .i64 3,.int .i64 6,.int .u16 (H0 : Int),.slice a9 vn c9,.slice a10 0 c10,.int .i64 0] rfl rfl hth (by kernel_rfl) one ?_; simp only [Act.put]; generalize hW : World.setCells _ R9 0 _ = w15; have HW := Lib.hid hW; clear hW)
      obtain ⟨hg15,bR15⟩ := put_namedB bR HW.out rfl
      have hn15 : Nox [.int .i64 4,.int .i64 7,.int .u16 (H0 : Int),.slice a7 0 c7,.slice a8 0 c8,.int .i64 0] := nox_code (by simp only [List.map_cons,List.map_nil,code]; decide) (by simp only [List.map_cons,List.map_nil,code]; decide) (by simp only [List.map_cons,List.map_nil,code]; decide) (by simp only [List.map_cons,List.map_nil,code]; decide) (by simp only [List.map_cons,List.map_nil,code]; decide)
      have mX := (hP14.other hn15 bR hg15 hXR (fun cs e u hu => .inl rfl)).cell
      have r3 := bR15.cell (j := 3) (v := .slice a9 vn c9) rfl
      have hbv := hbv.notc hn15.nob bR hg15
      have hB15 := hB14.grown hg15 hB14.size (fun k hk => by cases hk; have h1 := HGD.out.2.2.2.2.1; have h2 := HB9.out.2; omega)
      have HSM := Lib.hid (same_any (.slice a9 vn c9) (.slice va vn vc) vs vs w15 hbv.at (HDB.out.2.2.1.below hB15).at)
      clear HW hg15 hth one bR hP14 hB14 hbv hn15
      go_wp2_with fail
      refine HSM.out.mono ?_
      rintro e w16 ⟨rfl,rfl⟩
      go_wp2_with fail
      refine (example_any _).mono ?_
      rintro e wz ⟨rfl,hBz⟩
      go_wp2
      go_ret
      exact ⟨rfl,hB15.trans (hBz.mono hB15.size)⟩
    |true =>
     have m15 := bT.cell (j := 0) (v := .int .i64 7) rfl
     have z15 := bT.frozen 0
     go_upto_region 13 with fail
     have hg := set1 w9 ⟨T9,0,none⟩ (.int .i64 8)
     have hXT : X ≠ T9 := by omega
     have hP := hP.other (nox_code (by simp only [List.map_cons,List.map_nil,code]; decide) (by simp only [List.map_cons,List.map_nil,code]; decide) (by simp only [List.map_cons,List.map_nil,code]; decide) (by simp only [List.map_cons,List.map_nil,code]; decide) (by simp only [List.map_cons,List.map_nil,code]; decide)) bT hg hXT (fun cs e u hu => .inl rfl)
     have bT := bT.setAt (j := 0) (.int .i64 8)
     have bA := bA.kept hg (fun e => by injection e with e; simp only at e; omega)
     have bR := bR.kept hg (fun e => by injection e with e; simp only at e; omega)
     have hB := hB.grown hg hB.size (fun k hk => by cases hk; have h1 := HGD.out.2.2.2.2.1; simp only; omega)
     generalize hX : World.setCell w9 _ _ = w10 at hP bT bA bR hB ⊢
     have bT : Blk w10 T9 46 [.int .i64 8,.int .u16 0,.int .u16 0,.int .u16 (H0 : Int),.slice va vn vc,.int .i64 0,.slice none 0 0,.bool false] := bT
     clear hX hg m15 z15 hXT
     have hq2 := (bits_pe HAT.out.2.1).2
     obtain ⟨XQ,hXQ⟩ : ∃ x,bits .and .i64 pe 2 = x := ⟨_,rfl⟩
     rw [hXQ] at hq2
     have n3 := bA.cell (j := 3) (v := .int .i64 pe) rfl
     have rgT := bT.range 0 [.int .i64 8,.int .u16 0,.int .u16 0,.int .u16 (H0 : Int),.slice va vn vc,.int .i64 0,.slice none 0 0,.bool false] (fun j v hv => by rw [Nat.zero_add]; exact hv)
     have HWB : Hid (wrB (atI db KA) = (pe / 2 % 2 == 1)) := Lib.hid (by rw [HAT.out.1]; rfl)
     have hvsW := HDB.out.2.2.1.below hB
     have hXR : X ≠ R9 := by omega
     have HB9 := Lib.hid (And.intro hB (And.intro hXA (And.intro hAR hRT)))
     cases hw : (pe / 2 % 2 == 1) with
     |false =>
      rw [hw] at hq2
      replace hq2 : (XQ == 0) = true := hq2
      obtain ⟨c2,q2,p1,p2,p3,hpl2⟩ := run_refused db mx H0 vs 8 (.inr rfl) HFN.out.2.1 HFN.out.2.2.2 (by rw [HFN.out.1,HWB.out]; exact hw) (by rw [HFN.out.1]; exact HPL.out.1) (by rw [HDB.out.2.2.2.1]; exact HV.out.1)
      have hdo := do_any hok_v X cs2 ss2 (idle mx mx 0) ⟨db,mx,mx,[]⟩ { tk0 with kd := 8,ha := H0,vs := vs } va vn vc none 0 0 q2 ⟨5,8,H0,[],[],3⟩ c2 (idle mx mx 0) ⟨db,mx,mx,[]⟩ w10 hP (ok_idle mx mx 0) hvsW (by show vs.length ≤ _; rw [HDB.out.2.2.2.1]; have := HV.out.1; omega) (show (Lit.int .i64 8).wf = true by decide) p1 p2 p3 (hpl2.gen HGD.out.2.2.1.ok) rfl rfl
      have HDO : Hid (Calls Tryz.prog 12 #[.pointer (some ⟨X,0,none⟩),.agg #[.int .i64 8,.int .u16 0,.int .u16 0,.int .u16 (H0 : Int),.slice va vn vc,.int .i64 0,.slice none 0 0,.bool false]] w10 fun e w' => ∃ a7 c7 a8 c8 cs3 ss3,e = .returned (.agg #[.int .i64 5,.int .i64 8,.int .u16 (H0 : Int),.slice a7 0 c7,.slice a8 0 c8,.int .i64 3]) ∧ PR w' X cs3 ss3 (idle mx mx 0) ⟨db,mx,mx,[]⟩ true ∧ KX X w10 w') := Lib.hid (hdo.mono (by
       rintro e w' ⟨bv,fv,cs3,ss3,rfl,hbv,hfv,hP,hK⟩
       obtain ⟨a7,c7,rfl⟩ := hbv.form
       obtain ⟨a8,c8,rfl⟩ := hfv.form
       exact ⟨a7,c7,a8,c8,cs3,ss3,rfl,hP,hK⟩))
      clear hpl2 p1 p2 p3 hdo hvsW hP hw hB hXA hAR hRT
      go_wp2_with (refine wpList_load_mid rfl 46 _ rfl T9 0 rfl [.int .i64 8,.int .u16 0,.int .u16 0,.int .u16 (H0 : Int),.slice va vn vc,.int .i64 0,.slice none 0 0,.bool false] _ rgT Tryz.underlying46 rfl (by kernel_rfl) ?_)
      refine HDO.out.mono ?_
      rintro e w12 ⟨a7,c7,a8,c8,cs3,ss3,rfl,hP12,hK12⟩
      have bR := bR.kx (fun e => hXR e.symm) hK12
      have hth := bR.there 0 6 (by simp)
      have one : (#[.int .i64 5,.int .i64 8,.int .u16 (H0 : Int),.slice a7 0 c7,.slice a8 0 c8,.int .i64 3] : Array Value).all (·.oneCell') = true := by simp [Value.oneCell']
      have hB12 := HB9.out.1.trans (hK12.lo.mono HGD.out.2.2.2.2.1)
      clear hq2 hXQ n3 rgT bA bT HDO
      go_upto_region 15 with (refine wpList_store_mid rfl 43 _ _ rfl R9 0 #[.int .i64 5,.int .i64 8,.int .u16 (H0 : Int),.slice a7 0 c7,.slice a8 0 c8,.int .i64 3] rfl rfl hth (by kernel_rfl) one ?_; simp only [Act.put]; generalize hW : World.setCells _ R9 0 _ = w13; have HW := Lib.hid hW; clear hW)
      obtain ⟨hg13,bR13⟩ := put_namedB bR HW.out rfl
      have hX12 := hP12.blk.lt
      have mX := (hP12.other (nox_code (by simp only [List.map_cons,List.map_nil,code]; decide) (by simp only [List.map_cons,List.map_nil,code]; decide) (by simp only [List.map_cons,List.map_nil,code]; decide) (by simp only [List.map_cons,List.map_nil,code]; decide) (by simp only [List.map_cons,List.map_nil,code]; decide)) bR hg13 hXR (fun cs e u hu => .inl rfl)).cell
      have r0 := bR13.cell (j := 0) (v := .int .i64 5) rfl
      have r5 := bR13.cell (j := 5) (v := .int .i64 3) rfl
      have hB13 := hB12.grown hg13 hB12.size (fun k hk => by cases hk; have h1 := HGD.out.2.2.2.2.1; have h2 := HB9.out.2; omega)
      clear HW hg13 hth one bR hP12 hK12 hB12
      go_wp2_with fail
      refine (example_any _).mono ?_
      rintro e wz ⟨rfl,hBz⟩
      go_wp2
      go_ret
      exact ⟨rfl,hB13.trans (hBz.mono hB13.size)⟩
     |true =>
      rw [hw] at hq2
      replace hq2 : (XQ == 0) = false := hq2
      obtain ⟨c2,q2,p1,p2,p3,hpl2⟩ := run_write db mx H0 vs 8 (.inr rfl) HFN.out.2.1 HFN.out.2.2.2 (by rw [HFN.out.1,HWB.out]; exact hw) (by rw [HFN.out.1]; exact HPL.out.1) (by rw [HDB.out.2.2.2.1]; exact HV.out.1) (by
       rw [HDB.out.2.2.2.1]
       have h := HV.out.2.1
       have h2 := HGD.out.2.2.2.2.2.2
       have h3 : roomN 22 mx = R := by unfold roomN; rw [HGD.out.2.2.2.2.2.1]; rfl
       omega)
      rw [HFN.out.1] at hpl2
      have hdo := do_any hok_v X cs2 ss2 (idle mx mx 0) ⟨db,mx,mx,[]⟩ { tk0 with kd := 8,ha := H0,vs := vs } va vn vc none 0 0 q2 ⟨4,8,H0,[],[],0⟩ c2 (idle mx mx 0) ⟨putA db KA vs,mx,mx,[]⟩ w10 hP (ok_idle mx mx 0) hvsW (by show vs.length ≤ _; rw [HDB.out.2.2.2.1]; have := HV.out.1; omega) (show (Lit.int .i64 8).wf = true by decide) p1 p2 p3 (hpl2.gen HGD.out.2.2.1.ok) rfl rfl
      have HOK2 : Hid (DbOk (putA db KA vs)) := Lib.hid (hpl2.dbok HGD.out.2.2.1.ok)
      have HDO : Hid (Calls Tryz.prog 12 #[.pointer (some ⟨X,0,none⟩),.agg #[.int .i64 8,.int .u16 0,.int .u16 0,.int .u16 (H0 : Int),.slice va vn vc,.int .i64 0,.slice none 0 0,.bool false]] w10 fun e w' => ∃ a7 c7 a8 c8 cs3 ss3,e = .returned (.agg #[.int .i64 4,.int .i64 8,.int .u16 (H0 : Int),.slice a7 0 c7,.slice a8 0 c8,.int .i64 0]) ∧ PR w' X cs3 ss3 (idle mx mx 0) ⟨putA db KA vs,mx,mx,[]⟩ true ∧ KX X w10 w') := Lib.hid (hdo.mono (by
       rintro e w' ⟨bv,fv,cs3,ss3,rfl,hbv,hfv,hP,hK⟩
       obtain ⟨a7,c7,rfl⟩ := hbv.form
       obtain ⟨a8,c8,rfl⟩ := hfv.form
       exact ⟨a7,c7,a8,c8,cs3,ss3,rfl,hP,hK⟩))
      clear hpl2 p1 p2 p3 hdo hvsW hP hw hB hXA hAR hRT
      go_wp2_with (refine wpList_load_mid rfl 46 _ rfl T9 0 rfl [.int .i64 8,.int .u16 0,.int .u16 0,.int .u16 (H0 : Int),.slice va vn vc,.int .i64 0,.slice none 0 0,.bool false] _ rgT Tryz.underlying46 rfl (by kernel_rfl) ?_)
      refine HDO.out.mono ?_
      rintro e w12 ⟨a7,c7,a8,c8,cs3,ss3,rfl,hP12,hK12⟩
      have bR := bR.kx (fun e => hXR e.symm) hK12
      have bA := bA.kx (by have := HB9.out.2.1; omega) hK12
      have hth := bR.there 0 6 (by simp)
      have one : (#[.int .i64 4,.int .i64 8,.int .u16 (H0 : Int),.slice a7 0 c7,.slice a8 0 c8,.int .i64 0] : Array Value).all (·.oneCell') = true := by simp [Value.oneCell']
      have hB12 := HB9.out.1.trans (hK12.lo.mono HGD.out.2.2.2.2.1)
      clear hq2 hXQ n3 rgT bT HDO
      go_upto_region 17 with (refine wpList_store_mid rfl 43 _ _ rfl R9 0 #[.int .i64 4,.int .i64 8,.int .u16 (H0 : Int),.slice a7 0 c7,.slice a8 0 c8,.int .i64 0] rfl rfl hth (by kernel_rfl) one ?_; simp only [Act.put]; generalize hW : World.setCells _ R9 0 _ = w13; have HW := Lib.hid hW; clear hW)
      obtain ⟨hg13,bR13⟩ := put_namedB bR HW.out rfl
      have hP13 := hP12.other (nox_code (by simp only [List.map_cons,List.map_nil,code]; decide) (by simp only [List.map_cons,List.map_nil,code]; decide) (by simp only [List.map_cons,List.map_nil,code]; decide) (by simp only [List.map_cons,List.map_nil,code]; decide) (by simp only [List.map_cons,List.map_nil,code]; decide)) bR hg13 hXR (fun cs e u hu => .inl rfl)
      have bA := bA.kept hg13 (fun e => by injection e with e; have := HB9.out.2.2.1; omega)
      have hB13 := hB12.grown hg13 hB12.size (fun k hk => by cases hk; have h1 := HGD.out.2.2.2.2.1; have h2 := HB9.out.2; omega)
      clear HW hg13 hth one bR hP12 hK12 hB12
      obtain ⟨da3,dn3,dc3,qa3,qn3,qc3,ua3,un3,uc3,oa3,on3,oc3,e3,hdq3,hdn3,hqn3⟩ := hP13.sv.form
      simp only [Value.agg.injEq] at e3
      have e3' : ss3 = [.slice da3 dn3 dc3,.int .i64 mx,.int .i64 mx,.int .i64 2,.slice qa3 qn3 qc3,.int .i64 2,.bool false,.slice ua3 un3 uc3,.slice oa3 on3 oc3,.bool false,.int .i64 0] := by simpa using congrArg Array.toList e3
      subst e3'
      have hdn3 : (putA db KA vs).length = dn3 := hdn3
      rw [putA_len,HDB.out.2.1] at hdn3
      subst hdn3
      have hqn3 : (0 : Nat) = qn3 := hqn3
      subst hqn3
      have hKlt := HAT.out.2.2.2.2.2.1
      obtain ⟨b3,off3,rfl,hb3,hat3⟩ := hdq3.db.dbs.at (by rw [putA_len]; exact HDB.out.2.1) (by omega)
      obtain ⟨ra3,rc3,-,-,-,-,d4,hcap3,hby3⟩ := hat3 KA hKlt
      rw [putA_at (by rw [HDB.out.2.1]; exact hKlt)] at d4 hcap3 hby3
      simp only [HDB.out.2.2.2.1] at d4 hcap3 hby3
      have mD : w13.cell? ⟨X,26,none⟩ = some (.slice (some ⟨b3,off3,none⟩) dn dc3) := hP13.rs 0 _ rfl
      have mQ : w13.cell? ⟨X,30,none⟩ = some (.slice qa3 0 qc3) := hP13.rs 4 _ rfl
      have mX := hP13.cell
      have r0 := bR13.cell (j := 0) (v := .int .i64 4) rfl
      have hvsB : BytesAt w13 (.slice va vn vc) vs := (HDB.out.2.2.1.below hB13).at
      have hdr := (Below.refl w13.heap.size w13).drew
      have HSM := Lib.hid (fun W (hW : Below w13.heap.size w13 W) => same_any (.slice ra3 vn rc3) (.slice va vn vc) vs vs W (hby3.below hW) (hvsB.below hW))
      have r1 : (at' : Int).tmod (dn : Int) = (KA : Int) := by rw [← HAT.out.2.2.2.2.2.2]; rfl
      have r2 : (at' : Int) % (dn : Int) = (KA : Int) := by rw [← HAT.out.2.2.2.2.2.2]; simp
      have r3 : IntKind.i64.wrap (at' : Int) = (at' : Int) := IntWalk.i64_in _ (by have := HDB.out.2.2.2.2; omega)
      have r4 : (dn == 0) = false := by simp; omega
      have r5 : ((dn : Int) == 0) = false := by simp; omega
      have r6 : ¬ (dn : Int) = 0 := by omega
      have hi0 : (0 : Int) ≤ (KA : Int) := by omega
      have hi1 : (KA : Int) < (dn : Int) := by omega
      have r7 : ¬ dn = 0 := by omega
      have HKL := Lib.hid hKlt
      clear hdq3 hb3 hat3 hcap3 hby3 hvsB e3 hKlt
      have hP := hP13.below hdr
      have bA := bA.below hdr
      have bR := bR13.below hdr
      have hB := hB13.trans (hdr.mono hB13.size)
      have mX := kc mX hdr
      have r0 := kc r0 hdr
      have mD := kc mD hdr
      have mQ := kc mQ hdr
      have d4 := kc d4 hdr
      have hVd := hdr
      clear hP13 bR13 hB13 hdr
      go_upto_region 17 with fail
      refine wp_region_held_drew (S := (fun W' : World => W'.cell? ⟨X,37,none⟩ = some (.bool true) ∧ W'.cell? ⟨R9,0,none⟩ = some (.int .i64 4) ∧ W'.cell? ⟨X,26,none⟩ = some (.slice (some ⟨b3,off3,none⟩) dn dc3) ∧ W'.cell? ⟨X,30,none⟩ = some (.slice qa3 0 qc3) ∧ W'.cell? ⟨b3,off3 + KA * 5 + 4,none⟩ = some (.slice ra3 vn rc3))) (by kernel_rfl) (⟨mX,r0,mD,mQ,d4⟩) (fun hHeld => ?_)
      generalize World.drew _ = wd at hHeld hP bA bR hB mX r0 mD mQ d4 hVd ⊢
      refine tkU 0 ?_
      refine tkU 1 ?_
      refine tkU 2 ?_
      refine tkU 3 ?_
      refine tkU 4 ?_
      refine tkU 5 ?_
      refine tkU 6 ?_
      refine tkU 7 ?_
      refine tkU 8 ?_
      refine tkU 9 ?_
      refine tkU 10 ?_
      refine tkU 11 ?_
      refine tkU 12 ?_
      refine tkU 13 ?_
      refine tkU 14 ?_
      refine tkU 15 ?_
      refine tkU 16 ?_
      refine tkU 17 ?_
      refine tkU 18 ?_
      refine tkU 19 ?_
      refine tkU 20 ?_
      refine tkU 21 ?_
      refine tkU 22 ?_
      refine tkU 23 ?_
      refine tkU 24 ?_
      refine rd1 25 fun K hK => ?_
      go_simp
      go_at_call 14
      refine (HSM.out _ hVd).mono ?_
      rintro e w5 ⟨rfl,rfl⟩
      clear hHeld
      refine hK.out _ _ (⟨mX,r0,mD,mQ,d4⟩) (fun hHeld => ?_)
      clear hK K
      try simp only [Act.put,List.setIfInBounds_toArray,List.set_cons_zero,List.set_cons_succ]
      refine tkU 26 ?_
      refine tkU 27 ?_
      refine tkU 28 ?_
      refine tkU 29 ?_
      refine tkU 30 ?_
      refine tkU 31 ?_
      refine tkU 32 ?_
      refine tkU 33 ?_
      refine tkU 34 ?_
      refine tkU 35 ?_
      refine tkU 36 ?_
      refine wpAnyH_done (by kernel_rfl) ?_ _
      clear hHeld mX r0 mD mQ d4 r1 r2 r3 r4 r5 r6 r7 hVd HSM
      have hf := putA_find (db := db) (h := (H0 : Int)) HFN.out.2.2.2 vs
      rw [HFN.out.1] at hf
      have hat2 := putA_at (db := db) (i := KA) (by rw [HDB.out.2.1]; exact HKL.out) vs
      obtain ⟨c3,q3,p1,p2,p3,hpl3⟩ := run_long (putA db KA vs) mx H0 HFN.out.2.1 (by rw [hf,putA_len,HDB.out.2.1]; exact HKL.out) (by rw [hf,hat2]; exact HPL.out.2) (by rw [hf,hat2]; exact HPL.out.1) (by rw [hf,hat2]; show vs.length ≤ 512; rw [HDB.out.2.2.2.1]; exact HV.out.1)
      rw [hf,hat2] at hpl3
      have hdo := do_any hok_v X _ _ (idle mx mx 0) ⟨putA db KA vs,mx,mx,[]⟩ { tk0 with kd := 6,ha := H0 } none 0 0 none 0 0 q3 ⟨3,6,H0,vs,[],0⟩ c3 (idle mx mx 0) ⟨putA db KA vs,mx,mx,[]⟩ wd hP (ok_idle mx mx 0) (BV.nil _) (Nat.zero_le _) (show (Lit.int .i64 6).wf = true by decide) p1 p2 p3 (hpl3.gen HOK2.out) rfl rfl
      have HDO : Hid (Calls Tryz.prog 12 #[.pointer (some ⟨X,0,none⟩),.agg #[.int .i64 6,.int .u16 0,.int .u16 0,.int .u16 (H0 : Int),.slice none 0 0,.int .i64 0,.slice none 0 0,.bool false]] wd fun e w' => ∃ a9 c9 a10 c10 cs4 ss4,e = .returned (.agg #[.int .i64 3,.int .i64 6,.int .u16 (H0 : Int),.slice a9 vn c9,.slice a10 0 c10,.int .i64 0]) ∧ BV w' (.slice a9 vn c9) vs ∧ PR w' X cs4 ss4 (idle mx mx 0) ⟨putA db KA vs,mx,mx,[]⟩ true ∧ KX X wd w') := Lib.hid (hdo.mono (by
       rintro e w' ⟨bv,fv,cs4,ss4,rfl,hbv,hfv,hP,hK⟩
       obtain ⟨a9,c9,rfl⟩ := hbv.form
       obtain ⟨a10,c10,rfl⟩ := hfv.form
       simp only [HDB.out.2.2.2.1] at hbv
       exact ⟨a9,c9,a10,c10,cs4,ss4,by simp only [rsc,HDB.out.2.2.2.1,List.length_nil],hbv,hP,hK⟩))
      have n0 := bA.cell (j := 0) (v := .int .u16 (H0 : Int)) rfl
      clear hf hat2 p1 p2 p3 hpl3 hdo hP
      go_wp2_with fail
      refine HDO.out.mono ?_
      rintro e w14 ⟨a9,c9,a10,c10,cs4,ss4,rfl,hbv,hP14,hK14⟩
      have bR := bR.kx (fun e => hXR e.symm) hK14
      have hth := bR.there 0 6 (by simp)
      have one : (#[.int .i64 3,.int .i64 6,.int .u16 (H0 : Int),.slice a9 vn c9,.slice a10 0 c10,.int .i64 0] : Array Value).all (·.oneCell') = true := by simp [Value.oneCell']
      have hB14 := hB.trans (hK14.lo.mono HGD.out.2.2.2.2.1)
      clear n0 bA HDO hB hK14
      go_upto_region 20 with (refine wpList_store_mid rfl 43 _ _ rfl R9 0 #[.int .i64 3,.int .i64 6,.int .u16 (H0 : Int),.slice a9 vn c9,.slice a10 0 c10,.int .i64 0] rfl rfl hth (by kernel_rfl) one ?_; simp only [Act.put]; generalize hW : World.setCells _ R9 0 _ = w15; have HW := Lib.hid hW; clear hW)
      obtain ⟨hg15,bR15⟩ := put_namedB bR HW.out rfl
      have hn15 : Nox [.int .i64 4,.int .i64 8,.int .u16 (H0 : Int),.slice a7 0 c7,.slice a8 0 c8,.int .i64 0] := nox_code (by simp only [List.map_cons,List.map_nil,code]; decide) (by simp only [List.map_cons,List.map_nil,code]; decide) (by simp only [List.map_cons,List.map_nil,code]; decide) (by simp only [List.map_cons,List.map_nil,code]; decide) (by simp only [List.map_cons,List.map_nil,code]; decide)
      have mX := (hP14.other hn15 bR hg15 hXR (fun cs e u hu => .inl rfl)).cell
      have r3 := bR15.cell (j := 3) (v := .slice a9 vn c9) rfl
      have hbv := hbv.notc hn15.nob bR hg15
      have hB15 := hB14.grown hg15 hB14.size (fun k hk => by cases hk; have h1 := HGD.out.2.2.2.2.1; have h2 := HB9.out.2; omega)
      have HSM := Lib.hid (same_any (.slice a9 vn c9) (.slice va vn vc) vs vs w15 hbv.at (HDB.out.2.2.1.below hB15).at)
      clear HW hg15 hth one bR hP14 hB14 hbv hn15
      go_wp2_with fail
      refine HSM.out.mono ?_
      rintro e w16 ⟨rfl,rfl⟩
      go_wp2_with fail
      refine (example_any _).mono ?_
      rintro e wz ⟨rfl,hBz⟩
      go_wp2
      go_ret
      exact ⟨rfl,hB15.trans (hBz.mono hB15.size)⟩
end Go.Proofs.YtldcihjddebciaaGreat
