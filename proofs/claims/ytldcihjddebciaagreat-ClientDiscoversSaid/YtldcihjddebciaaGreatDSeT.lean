/- client with a server: the law ClientDiscovers walked: up to the first task. -/
import Derived.Test.YtldcihjddebciaaGreatDSvE
import Derived.Test.YtldcihjddebciaaGreatDSeU
import Derived.Test.YtldcihjddebciaaGreatDSeC
set_option linter.unusedSimpArgs false
set_option linter.unusedVariables false
set_option maxRecDepth 100000
set_option maxHeartbeats 8000000
namespace Go.Proofs.YtldcihjddebciaaGreat
open Go.RowKit
/-- an attribute that the law lets pass -/
def okA (x : At) : Bool := !((bits .and .i64 x.pe 1 == 0) && (chU x.hi x.lo || isU 47459388624896 x.hi x.lo))
theorem clientDiscovers_walk (v0 v1 v2 v3 : Value) (w : World) (a0 : Arg Tryz.prog w 22 v0) (a1 : Arg Tryz.prog w 3 v1) (a2 : Arg Tryz.prog w 23 v2) (a3 : Arg Tryz.prog w 23 v3) :
 Calls Tryz.prog 3 #[v0,v1,v2,v3] w fun e w' => e = .returned (.bool true) ∧ Below w.heap.size w w' := by
 obtain ⟨i6,hi6,hz0,hz1,hz2⟩ := info_parts Tryz.info_fd
 obtain ⟨db,hdb,hwd⟩ := arg_dbw a0
 obtain ⟨mx,rfl,-,-⟩ := a1.i64 Tryz.underlying3
 obtain ⟨FI,rfl,hFI⟩ := a2.u16 Tryz.underlying23
 obtain ⟨LA,rfl,hLA⟩ := a3.u16 Tryz.underlying23
 obtain ⟨HF,hHF⟩ := hash_ex
 obtain ⟨da,dc,rfl⟩ := hdb.form
 obtain ⟨dn,hn⟩ : ∃ n,db.length = n := ⟨_,rfl⟩
 rw [hn] at hdb ⊢
 have hmx : dn ≤ maxLen := by rw [← hn]; exact hdb.dbs.1
 unfold maxLen at hmx
 have HST := Lib.hid (fun (W : World) (hW : Below w.heap.size w W) => start_pairD hHF da dn dc db mx W (hdb.below hW) hn hwd)
 have HDB := Lib.hid (And.intro hdb (And.intro hn hwd))
 have HHF := Lib.hid hHF
 have HFL := Lib.hid (And.intro hFI hLA)
 clear a0 a1 a2 a3 hdb hn hwd hHF hFI hLA
 go_enter Tryz.func3,Tryz.ntmps3
 go_upto_region 2 with fail
 go_loopw [9] (fun v W => ∃ k : Nat,v = .int .i64 k ∧ k ≤ dn ∧ k ≤ 60 ∧ Hid (∀ j,j < k → okA (atI db j) = true) ∧ Below w.heap.size w W) (fun v _ => dn - (intOf v).toNat)
 case atStart => exact ⟨0,by simp,Nat.zero_le _,Nat.zero_le _,Lib.hid (fun j h => absurd h (by omega)),Below.refl _ _⟩
 case round =>
  obtain ⟨k,rfl,hk,hk60,hok,hB⟩ := hrel
  have w1 : IntKind.i64.wrap ((k : Int) + 1) = (k : Int) + 1 := IntWalk.i64_in _ (by omega)
  by_cases hlt : k < dn ∧ k < 60
  ·have g1 : decide (k < dn) = true := by simpa using hlt.1
   have g1i : decide ((k : Int) < (dn : Int)) = true := by simp; omega
   have g2 : decide (k < 60) = true := by simpa using hlt.2
   have g2i : decide ((k : Int) < 60) = true := by simp; omega
   have HLT := Lib.hid hlt
   obtain ⟨b,off,e,hb,hat⟩ := HDB.out.1.dbs.at HDB.out.2.1 (by omega)
   subst e
   obtain ⟨ra,rc,d0,d1,d2,d3,d4,hcap,hby⟩ := hat k hlt.1
   have hoka : ∀ x,atI db k = x → okA (atI db k) = okA x := fun x h => by rw [h]
   obtain ⟨⟨ha,hh,lo,pe,bs⟩,he⟩ : ∃ r,atI db k = r := ⟨_,rfl⟩
   have hoka := hoka _ he
   rw [he] at d0 d1 d2 d3 d4
   simp only at d0 d1 d2 d3 d4
   obtain ⟨L,hL⟩ : ∃ L,bs.length = L := ⟨_,rfl⟩
   rw [hL] at d4
   have rgA : w.rangeAt b (off + k * 5) [.int .u16 ha,.int .u64 hh,.int .u64 lo,.int .i64 pe,.slice ra L rc] := fun j v hv => by
    match j,hv with
    |0,hv => cases hv; exact d0
    |1,hv => cases hv; exact d1
    |2,hv => cases hv; exact d2
    |3,hv => cases hv; exact d3
    |4,hv => cases hv; exact d4
   have HDD := Lib.hid (And.intro rgA (And.intro d1 (And.intro d2 d3)))
   have hch := fun W => isCh_any ha hh lo pe (.slice ra L rc) W
   have hs1 : ∀ W,Calls Tryz.prog 6 #[.int .u16 11050] W fun e w' => e = .returned (.agg #[.int .u64 47459388624896,.int .u64 9223372588214596859]) ∧ Below W.heap.size W w' := fun W => rshort_any 11050 (by decide) W
   obtain ⟨XP,hXP⟩ : ∃ x,bits .and .i64 pe 1 = x := ⟨_,rfl⟩
   obtain ⟨NR,hNR⟩ : ∃ x,(XP == 0) = x := ⟨_,rfl⟩
   obtain ⟨CH,hCH⟩ : ∃ x,chU hh lo = x := ⟨_,rfl⟩
   have hok2 : okA (atI db k) = !(NR && (CH || (hh == 47459388624896 && lo == 9223372588214596859))) := by rw [hoka]; unfold okA isU; simp only; rw [hXP,hNR,hCH]
   obtain ⟨M1,hM1⟩ : ∃ M : Int,(47459388624896 : Int) = M := ⟨_,rfl⟩
   obtain ⟨K0,hK0⟩ : ∃ M : Int,(9223372588214596859 : Int) = M := ⟨_,rfl⟩
   simp only [hM1,hK0] at hs1 hok2
   simp only [hCH] at hch
   obtain ⟨q1,hq1⟩ : ∃ c,(hh == M1) = c := ⟨_,rfl⟩
   obtain ⟨q2,hq2⟩ : ∃ c,(lo == K0) = c := ⟨_,rfl⟩
   rw [hq1,hq2] at hok2
   have HOK2 := Lib.hid hok2
   have HCHC := Lib.hid hch
   have HS1 := Lib.hid hs1
   have hi0 : (0 : Int) ≤ (k : Int) := by omega
   have hi1 : (k : Int) < (dn : Int) := by omega
   clear hat hb he hL hcap hby d0 d1 d2 d3 d4 hoka hch hs1 hok2 hM1 hK0 hCH hlt rgA
   go_upto_region 4 with fail
   go_cut [56] (fun v wx => v = .bool (NR && (CH || (q1 && q2))) ∧ Below wr.heap.size wr wx)
   case first =>
    have hVd := (Below.refl wr.heap.size wr).drew
    have hBw := hB.trans (hVd.mono hB.size)
    cases NR with
    |false =>
     refine wp_region_held_drew (S := (fun W' : World => W'.rangeAt b (off + k * 5) [.int .u16 ha,.int .u64 hh,.int .u64 lo,.int .i64 pe,.slice ra L rc] ∧ W'.cell? ⟨b,off + k * 5 + 1,none⟩ = some (.int .u64 hh) ∧ W'.cell? ⟨b,off + k * 5 + 2,none⟩ = some (.int .u64 lo) ∧ W'.cell? ⟨b,off + k * 5 + 3,none⟩ = some (.int .i64 pe))) (by kernel_rfl) (⟨range_keep HDD.out.1 hBw,kc HDD.out.2.1 hBw,kc HDD.out.2.2.1 hBw,kc HDD.out.2.2.2 hBw⟩) (fun hHeld => ?_)
     generalize World.drew _ = wd at hHeld hVd hBw ⊢
     refine tkU 0 ?_
     refine tkU 1 ?_
     refine tkU 2 ?_
     refine tkU 3 ?_
     refine tkU 4 ?_
     refine tkU 5 ?_
     refine tkU 6 ?_
     refine tkU 7 ?_
     refine tkV 8 ?_
     refine tkV 9 ?_
     refine tkV 10 ?_
     refine tkV 11 ?_
     refine tkV 12 ?_
     refine tkV 13 ?_
     refine tkV 14 ?_
     refine tkV 15 ?_
     refine tkV 16 ?_
     refine tkV 17 ?_
     refine tkV 18 ?_
     refine tkV 19 ?_
     refine tkV 20 ?_
     refine tkV 21 ?_
     refine tkU 22 ?_
     refine wpAnyH_done (by kernel_rfl) ?_ _
     clear hHeld
     go_wp2_with fail
     go_meet
     exact ⟨rfl,hVd⟩
    |true =>
     cases CH with
     |true =>
      refine wp_region_held_drew (S := (fun W' : World => W'.rangeAt b (off + k * 5) [.int .u16 ha,.int .u64 hh,.int .u64 lo,.int .i64 pe,.slice ra L rc] ∧ W'.cell? ⟨b,off + k * 5 + 1,none⟩ = some (.int .u64 hh) ∧ W'.cell? ⟨b,off + k * 5 + 2,none⟩ = some (.int .u64 lo) ∧ W'.cell? ⟨b,off + k * 5 + 3,none⟩ = some (.int .i64 pe))) (by kernel_rfl) (⟨range_keep HDD.out.1 hBw,kc HDD.out.2.1 hBw,kc HDD.out.2.2.1 hBw,kc HDD.out.2.2.2 hBw⟩) (fun hHeld => ?_)
      generalize World.drew _ = wd at hHeld hVd hBw ⊢
      refine tkU 0 ?_
      refine tkU 1 ?_
      refine tkU 2 ?_
      refine tkU 3 ?_
      refine tkU 4 ?_
      refine tkU 5 ?_
      refine tkU 6 ?_
      refine tkU 7 ?_
      refine tkU 8 ?_
      refine tkU 9 ?_
      refine tkU 10 ?_
      refine tkN 11 29 b (off + k * 5) [.int .u16 ha,.int .u64 hh,.int .u64 lo,.int .i64 pe,.slice ra L rc] (fun _ h => h.1) Tryz.underlying29 ?_
      refine rd1 12 fun K hK => ?_
      go_simp
      go_at_call 5
      refine (HCHC.out _).mono ?_
      rintro e w5 ⟨rfl,hC⟩
      have hBw := hBw.trans (hC.mono hBw.size)
      have hVd := hVd.trans (hC.mono hVd.size)
      clear hC
      clear hHeld
      refine hK.out _ _ (⟨range_keep HDD.out.1 hBw,kc HDD.out.2.1 hBw,kc HDD.out.2.2.1 hBw,kc HDD.out.2.2.2 hBw⟩) (fun hHeld => ?_)
      clear hK K
      try simp only [Act.put,List.setIfInBounds_toArray,List.set_cons_zero,List.set_cons_succ]
      refine tkU 13 ?_
      refine tkV 14 ?_
      refine tkV 15 ?_
      refine tkV 16 ?_
      refine tkV 17 ?_
      refine tkV 18 ?_
      refine tkV 19 ?_
      refine tkV 20 ?_
      refine tkU 21 ?_
      refine tkU 22 ?_
      refine wpAnyH_done (by kernel_rfl) ?_ _
      clear hHeld
      go_wp2_with fail
      go_meet
      exact ⟨rfl,hVd⟩
     |false =>
      cases q1 <;> cases q2
      all_goals
       refine wp_region_held_drew (S := (fun W' : World => W'.rangeAt b (off + k * 5) [.int .u16 ha,.int .u64 hh,.int .u64 lo,.int .i64 pe,.slice ra L rc] ∧ W'.cell? ⟨b,off + k * 5 + 1,none⟩ = some (.int .u64 hh) ∧ W'.cell? ⟨b,off + k * 5 + 2,none⟩ = some (.int .u64 lo) ∧ W'.cell? ⟨b,off + k * 5 + 3,none⟩ = some (.int .i64 pe))) (by kernel_rfl) (⟨range_keep HDD.out.1 hBw,kc HDD.out.2.1 hBw,kc HDD.out.2.2.1 hBw,kc HDD.out.2.2.2 hBw⟩) (fun hHeld => ?_)
       generalize World.drew _ = wd at hHeld hVd hBw ⊢
       refine tkU 0 ?_
       refine tkU 1 ?_
       refine tkU 2 ?_
       refine tkU 3 ?_
       refine tkU 4 ?_
       refine tkU 5 ?_
       refine tkU 6 ?_
       refine tkU 7 ?_
       refine tkU 8 ?_
       refine tkU 9 ?_
       refine tkU 10 ?_
       refine tkN 11 29 b (off + k * 5) [.int .u16 ha,.int .u64 hh,.int .u64 lo,.int .i64 pe,.slice ra L rc] (fun _ h => h.1) Tryz.underlying29 ?_
       refine rd1 12 fun K hK => ?_
       go_simp
       go_at_call 5
       refine (HCHC.out _).mono ?_
       rintro e w5 ⟨rfl,hC⟩
       have hBw := hBw.trans (hC.mono hBw.size)
       have hVd := hVd.trans (hC.mono hVd.size)
       clear hC
       clear hHeld
       refine hK.out _ _ (⟨range_keep HDD.out.1 hBw,kc HDD.out.2.1 hBw,kc HDD.out.2.2.1 hBw,kc HDD.out.2.2.2 hBw⟩) (fun hHeld => ?_)
       clear hK K
       try simp only [Act.put,List.setIfInBounds_toArray,List.set_cons_zero,List.set_cons_succ]
       refine tkU 13 ?_
       refine tkU 14 ?_
       refine tkU 15 ?_
       refine tkU 16 ?_
       refine tkU 17 ?_
       refine tkU 18 ?_
       refine rd1 19 fun K hK => ?_
       go_simp
       go_at_call 6
       refine (HS1.out _).mono ?_
       rintro e w6 ⟨rfl,hC⟩
       have hBw := hBw.trans (hC.mono hBw.size)
       have hVd := hVd.trans (hC.mono hVd.size)
       clear hC
       clear hHeld
       refine hK.out _ _ (⟨range_keep HDD.out.1 hBw,kc HDD.out.2.1 hBw,kc HDD.out.2.2.1 hBw,kc HDD.out.2.2.2 hBw⟩) (fun hHeld => ?_)
       clear hK K
       try simp only [Act.put,List.setIfInBounds_toArray,List.set_cons_zero,List.set_cons_succ]
       refine tkU 20 ?_
       refine tkU 21 ?_
       refine tkU 22 ?_
       refine wpAnyH_done (by kernel_rfl) ?_ _
       clear hHeld
       go_wp2_with fail
       go_meet
       exact ⟨rfl,hVd⟩
   case rest =>
    obtain ⟨rfl,hBx⟩ := hcut
    rename World => Y
    have hB := hB.trans (hBx.mono hB.size)
    clear hBx hq1 hq2 hXP hNR
    obtain ⟨BD,hBD⟩ : ∃ b,(NR && (CH || (q1 && q2))) = b := ⟨_,rfl⟩
    rw [hBD]
    have HBD := Lib.hid hBD
    clear hBD
    cases BD with
    |true =>
     go_wp2_with fail
     refine (example_any _).mono ?_
     rintro e wz ⟨rfl,hBz⟩
     have hB := hB.trans (hBz.mono hB.size)
     clear hBz
     go_wp2
     go_ret
     exact ⟨rfl,hB⟩
    |false =>
     have HR : Hid (∀ j,j < k + 1 → okA (atI db j) = true) := Lib.hid (fun j hj => by
      by_cases c : j < k
      ·exact hok.out j c
      ·rw [show j = k by omega,HOK2.out,HBD.out]
       rfl)
     have hk1 : k + 1 ≤ dn ∧ k + 1 ≤ 60 := by have := HLT.out; omega
     go_wp2
     go_roundw
     case rel => exact ⟨k + 1,by go_num,hk1.1,hk1.2,HR,hB⟩
     case measure => have := HLT.out; simp [intOf]; omega
  ·have HOKA := Lib.hid (show dn ≤ 60 → ∀ j,j < dn → okA (atI db j) = true from fun h60 j hj => hok.out j (by omega))
   obtain ⟨P1,hP1⟩ : ∃ b,decide (k < dn) = b := ⟨_,rfl⟩
   obtain ⟨P2,hP2⟩ : ∃ b,decide (k < 60) = b := ⟨_,rfl⟩
   have hP1i : decide ((k : Int) < (dn : Int)) = P1 := by rw [← hP1]; simp
   have hP2i : decide ((k : Int) < 60) = P2 := by rw [← hP2]; simp; omega
   have hPP : ¬ (P1 = true ∧ P2 = true) := fun h => hlt ⟨by simpa [h.1] using hP1,by simpa [h.2] using hP2⟩
   have HS := Lib.hid (HST.out wr hB)
   clear hlt hk hk60 hok HST w1
   go_upto_region 2 with fail
   go_cut [31] (fun v wx => v = .bool false ∧ wx = wr)
   case first =>
    cases P1 <;> cases P2
    all_goals first
     |exact absurd ⟨rfl,rfl⟩ hPP
     |(clear hPP
       go_wp2_with fail
       go_meet
       exact ⟨rfl,rfl⟩)
   case rest =>
    obtain ⟨rfl,rfl⟩ := hcut
    clear hP1 hP2 hP1i hP2i hPP
    rename World => Y
    have HWY := Lib.hid hB.size
    go_wp2_with fail
    refine HS.out.mono ?_
    rintro e w1 ⟨pv,B,rfl,hBt,hC⟩
    have HBT := Lib.hid hBt
    have hB := hB.trans (hC.mono hB.size)
    clear hBt HS hC
    obtain ⟨C1,hC1⟩ : ∃ b,(FI == 0) = b := ⟨_,rfl⟩
    have hC1i : ((FI : Int) == 0) = C1 := by
     rw [← hC1]
     by_cases h : FI = 0
     ·subst h; rfl
     ·rw [beq_eq_false_iff_ne.2 h,beq_eq_false_iff_ne]
      omega
    obtain ⟨C2,hC2⟩ : ∃ b,decide (LA < FI) = b := ⟨_,rfl⟩
    have hC2i : decide ((LA : Int) < (FI : Int)) = C2 := by rw [← hC2]; simp
    by_cases hgo : B = true ∧ C1 = false ∧ C2 = false
    ·obtain ⟨rfl,rfl,rfl⟩ := hgo
     obtain ⟨X,cs,ss,rfl,hXw,h60,hlo,hhi,hgd,hP⟩ := HBT.out rfl
     have hF0 : FI ≠ 0 := by simpa using hC1
     have hFL : FI ≤ LA := by simpa using hC2
     go_upto_region 10 with fail
     have hFD := dfound_any da dn dc db w1 (HDB.out.1.dbs.below hB) HDB.out.2.1 (by omega) hgd
     have HFD := Lib.hid hFD
     obtain ⟨FL,hFL'⟩ : ∃ l,fdL db = l := ⟨_,rfl⟩
     simp only [hFL'] at HFD
     have HGD := Lib.hid (And.intro hgd (And.intro hlo (And.intro hhi (And.intro h60 (And.intro hF0 (And.intro hFL hFL'))))))
     have HPP := Lib.hid (And.intro hP (And.intro hXw hP.blk.lt))
     have HXW := Lib.hid (show w.heap.size ≤ X from Nat.le_trans HWY.out hXw)
     clear hFD hgd hlo hhi hF0 hFL hP hXw hFL' hC1 hC1i hC2 hC2i HBT
     go_wp2_with fail
     refine HFD.out.mono ?_
     rintro e w2 ⟨lv,rfl,hsrl,hC⟩
     have hB2 := hB.trans (hC.mono hB.size)
     have HB2 := Lib.hid hB2
     have HP2 := Lib.hid (HPP.out.1.below hC)
     have hX2 : X < w2.heap.size := Nat.lt_of_lt_of_le HPP.out.2.2 hC.size
     obtain ⟨N,hN⟩ : ∃ n,FL.length = n := ⟨_,rfl⟩
     have hN6 : N ≤ 60 := by
      have h1 := fdTo_len db db.length
      have h2 : fdTo db db.length = FL := HGD.out.2.2.2.2.2.2
      have h3 := HGD.out.2.2.2.1
      have h4 := HDB.out.2.1
      rw [h2,hN] at h1
      omega
     obtain ⟨_,_,_,lao,lcap,rfl,_,hlx⟩ := hsrl
     rw [hN] at hlx ⊢
     have HLX := Lib.hid (And.intro hlx (And.intro hN (And.intro hN6 hX2)))
     obtain ⟨B1,hB1⟩ : ∃ n,w2.heap.size = n := ⟨_,rfl⟩
     have HB1 := Lib.hid hB1
     have hdn60 := h60
     clear hC hB hB2 hX2 hN hN6 hlx HFD HPP hB1
     go_wp2_with fail
     go_loopw [12,13,16] (fun sv cv v W => ∃ (k2 : Nat) (sa ca : Option Addr) (sn sc cn cc : Nat),v = .int .i64 k2 ∧ sv = .slice sa sn sc ∧ cv = .slice ca cn cc ∧ k2 ≤ N ∧ Hid ((sn ≤ k2 ∧ W.ownsRow B1 39 6 (.slice sa sn sc) sn (fcells ((FL.take k2).filter (pS db)))) ∧ (cn ≤ k2 ∧ W.ownsRow B1 39 6 (.slice ca cn cc) cn (fcells ((FL.take k2).filter (pC FI LA)))) ∧ (∀ j,(Value.slice sa sn sc).ownBlock = some j → (Value.slice ca cn cc).ownBlock ≠ some j) ∧ Below B1 w2 W)) (fun _ _ v _ => N - (intOf v).toNat)
     case atStart => exact ⟨0,none,none,0,0,0,0,by simp,rfl,rfl,Nat.zero_le _,Lib.hid ⟨⟨Nat.le_refl _,rfl,.inl ⟨rfl,rfl⟩⟩,⟨Nat.le_refl _,rfl,.inl ⟨rfl,rfl⟩⟩,fun j hj => (by cases hj),Below.refl _ _⟩⟩
     case round =>
      obtain ⟨k2,sa,ca,sn,sc,cn,cc,rfl,rfl,rfl,hk2,hinv⟩ := hrel
      have hBW := hinv.out.2.2.2
      by_cases hlt : k2 < N
      ·have g1 : decide (k2 < N) = true := by simpa using hlt
       have g1i : decide ((k2 : Int) < (N : Int)) = true := by simp; omega
       have hlen := HLX.out.2.1
       obtain ⟨lb,lo',rfl,hlb,hlx⟩ := HLX.out.1 (by omega)
       have hkl : k2 < FL.length := by omega
       have hfd := fd_ha HGD.out.1 (f := FL[k2]) (by rw [HGD.out.2.2.2.2.2.2]; exact List.getElem_mem hkl)
       have hts := List.take_succ_eq_append_getElem hkl
       have hcl : ∀ j u,(fenc FL[k2])[j]? = some u → w2.cell? ⟨lb,lo' + k2 * 6 + j,none⟩ = some u := fun j u hj => by
        have hj6 : j < 6 := (List.getElem?_eq_some_iff.1 hj).1
        have e := flat_get fenc 6 (fun _ => rfl) FL k2 j hkl hj6
        rw [hj] at e
        have := hlx _ _ e
        rwa [← Nat.add_assoc] at this
       obtain ⟨⟨fh,fl,fv,fp,fx,fy⟩,hx⟩ : ∃ x,FL[k2] = x := ⟨_,rfl⟩
       rw [hx] at hfd hts hcl
       obtain ⟨FN,hFN,hfn⟩ := hfd
       simp only at hfn
       rw [HDB.out.2.1] at hFN
       have hBw : Below w2.heap.size w2 wr := HB1.out ▸ hBW
       have e0 : wr.cell? ⟨lb,lo' + k2 * 6,none⟩ = some (.int .u16 fh) := kc (hcl 0 _ rfl) hBw
       have e1 := kc (hcl 1 (.int .u16 fl) rfl) hBw
       have e2 := kc (hcl 2 (.int .u16 fv) rfl) hBw
       have e3 := kc (hcl 3 (.int .i64 fp) rfl) hBw
       have e4 := kc (hcl 4 (.int .u64 fx) rfl) hBw
       have e5 := kc (hcl 5 (.int .u64 fy) rfl) hBw
       have HEE := Lib.hid (And.intro (show w2.cell? ⟨lb,lo' + k2 * 6,none⟩ = some (.int .u16 fh) from hcl 0 _ rfl) (And.intro (hcl 1 (.int .u16 fl) rfl) (And.intro (hcl 2 (.int .u16 fv) rfl) (And.intro (hcl 3 (.int .i64 fp) rfl) (And.intro (hcl 4 (.int .u64 fx) rfl) (hcl 5 (.int .u64 fy) rfl))))))
       obtain ⟨b,off,e,hb,hat⟩ := HDB.out.1.dbs.at HDB.out.2.1 (by omega)
       subst e
       obtain ⟨ra,rc,-,t1,t2,-,-,-,-⟩ := hat FN hFN
       have hBww := HB2.out.trans (hBw.mono HB2.out.size)
       have t1 := kc t1 hBww
       have t2 := kc t2 hBww
       obtain ⟨hh,hhh⟩ : ∃ x,(atI db FN).hi = x := ⟨_,rfl⟩
       obtain ⟨ll,hll⟩ : ∃ x,(atI db FN).lo = x := ⟨_,rfl⟩
       rw [hhh] at t1
       rw [hll] at t2
       have hfi : fI db fh = (FN : Int) := fI_pos hfn (by rw [HDB.out.2.1]; exact hFN)
       have hfnd := fun W (hW : Below w.heap.size w W) => find_any (some ⟨b,off,none⟩) dn dc db fh W (HDB.out.1.dbs.below hW) HDB.out.2.1 (by omega)
       simp only [hfi] at hfnd
       have HFND := Lib.hid hfnd
       have hs2 : ∀ W,Calls Tryz.prog 6 #[.int .u16 10240] W fun e w' => e = .returned (.agg #[.int .u64 43980465115136,.int .u64 9223372588214596859]) ∧ Below W.heap.size W w' := fun W => rshort_any 10240 (by decide) W
       obtain ⟨z1,hz1⟩ : ∃ x,(fl == 0) = x := ⟨_,rfl⟩
       have hz1n : (fl != 0) = !z1 := by rw [← hz1]; rfl
       have hps : pS db ⟨fh,fl,fv,fp,fx,fy⟩ = (!z1 && (hh == 43980465115136 && ll == 9223372588214596859)) := by unfold pS isU; simp only [hfn,hhh,hll,hz1]
       obtain ⟨M1,hM1⟩ : ∃ M : Int,(43980465115136 : Int) = M := ⟨_,rfl⟩
       obtain ⟨K0,hK0⟩ : ∃ M : Int,(9223372588214596859 : Int) = M := ⟨_,rfl⟩
       simp only [hM1,hK0] at hs2 hps
       obtain ⟨q1,hq1⟩ : ∃ c,(hh == M1) = c := ⟨_,rfl⟩
       obtain ⟨q2,hq2⟩ : ∃ c,(ll == K0) = c := ⟨_,rfl⟩
       rw [hq1,hq2] at hps
       have HS2 := Lib.hid hs2
       have HTS := Lib.hid (And.intro hts (And.intro hps hlt))
       have hk0 : (0 : Int) ≤ (k2 : Int) := by omega
       have hk1 : (k2 : Int) < (N : Int) := by omega
       have hf0 : (0 : Int) ≤ (FN : Int) := by omega
       have hf1 : (FN : Int) < (dn : Int) := by omega
       have w1' : IntKind.i64.wrap ((k2 : Int) + 1) = (k2 : Int) + 1 := IntWalk.i64_in _ (by have := HLX.out.2.2.1; omega)
       have HBW := Lib.hid (And.intro hBw hBww)
       clear hlen hlb hlx hkl hts hcl hx hfn hhh hll hat hb hfi hfnd hs2 hM1 hK0 hps hlt hFN hBw hBww
       go_upto_region 14 with fail
       go_cut [104] (fun v wx => v = .bool (!z1 && (q1 && q2)) ∧ Below wr.heap.size wr wx)
       case first =>
        have hVd := (Below.refl wr.heap.size wr).drew
        have hBd := Below.refl wr.drew.heap.size wr.drew
        have e0 := kc e0 hVd
        have e1 := kc e1 hVd
        have t1 := kc t1 hVd
        have t2 := kc t2 hVd
        have hBz := HBW.out.2.trans (hVd.mono HBW.out.2.size)
        clear e2 e3 e4 e5 hBW
        cases z1 with
        |true =>
         refine wp_region_held_drew (S := (fun W' : World => W'.cell? ⟨lb,lo' + k2 * 6,none⟩ = some (.int .u16 fh) ∧ W'.cell? ⟨lb,lo' + k2 * 6 + 1,none⟩ = some (.int .u16 fl) ∧ W'.cell? ⟨b,off + FN * 5 + 1,none⟩ = some (.int .u64 hh) ∧ W'.cell? ⟨b,off + FN * 5 + 2,none⟩ = some (.int .u64 ll))) (by kernel_rfl) (⟨kc e0 hBd,kc e1 hBd,kc t1 hBd,kc t2 hBd⟩) (fun hHeld => ?_)
         generalize World.drew _ = wd at hHeld e0 e1 t1 t2 hVd hBd hBz ⊢
         refine tkU 0 ?_
         refine tkU 1 ?_
         refine tkU 2 ?_
         refine tkU 3 ?_
         refine tkU 4 ?_
         refine tkU 5 ?_
         refine tkU 6 ?_
         refine tkV 7 ?_
         refine tkV 8 ?_
         refine tkV 9 ?_
         refine tkV 10 ?_
         refine tkV 11 ?_
         refine tkV 12 ?_
         refine tkV 13 ?_
         refine tkV 14 ?_
         refine tkV 15 ?_
         refine tkV 16 ?_
         refine tkV 17 ?_
         refine tkV 18 ?_
         refine tkV 19 ?_
         refine tkU 20 ?_
         refine wpAnyH_done (by kernel_rfl) ?_ _
         clear hHeld
         go_wp2_with fail
         go_meet
         exact ⟨rfl,hVd.trans (hBd.mono hVd.size)⟩
        |false =>
         cases q1 <;> cases q2
         all_goals
          refine wp_region_held_drew (S := (fun W' : World => W'.cell? ⟨lb,lo' + k2 * 6,none⟩ = some (.int .u16 fh) ∧ W'.cell? ⟨lb,lo' + k2 * 6 + 1,none⟩ = some (.int .u16 fl) ∧ W'.cell? ⟨b,off + FN * 5 + 1,none⟩ = some (.int .u64 hh) ∧ W'.cell? ⟨b,off + FN * 5 + 2,none⟩ = some (.int .u64 ll))) (by kernel_rfl) (⟨kc e0 hBd,kc e1 hBd,kc t1 hBd,kc t2 hBd⟩) (fun hHeld => ?_)
          generalize World.drew _ = wd at hHeld e0 e1 t1 t2 hVd hBd hBz ⊢
          refine tkU 0 ?_
          refine tkU 1 ?_
          refine tkU 2 ?_
          refine tkU 3 ?_
          refine tkU 4 ?_
          refine tkU 5 ?_
          refine tkU 6 ?_
          refine tkU 7 ?_
          refine tkU 8 ?_
          refine tkU 9 ?_
          refine tkU 10 ?_
          refine tkU 11 ?_
          refine tkU 12 ?_
          refine tkU 13 ?_
          refine rd1 14 fun K hK => ?_
          go_simp
          go_at_call 10
          refine (HFND.out _ hBz).mono ?_
          rintro e w5 ⟨rfl,rfl⟩
          clear hHeld
          refine hK.out _ _ (⟨kc e0 hBd,kc e1 hBd,kc t1 hBd,kc t2 hBd⟩) (fun hHeld => ?_)
          clear hK K
          try simp only [Act.put,List.setIfInBounds_toArray,List.set_cons_zero,List.set_cons_succ]
          refine tkU 15 ?_
          refine tkU 16 ?_
          refine tkU 17 ?_
          refine rd1 18 fun K hK => ?_
          go_simp
          go_at_call 6
          refine (HS2.out _).mono ?_
          rintro e w6 ⟨rfl,hC⟩
          have hBd := hBd.trans (hC.mono hBd.size)
          clear hC
          clear hHeld
          refine hK.out _ _ (⟨kc e0 hBd,kc e1 hBd,kc t1 hBd,kc t2 hBd⟩) (fun hHeld => ?_)
          clear hK K
          try simp only [Act.put,List.setIfInBounds_toArray,List.set_cons_zero,List.set_cons_succ]
          refine tkU 19 ?_
          refine tkU 20 ?_
          refine wpAnyH_done (by kernel_rfl) ?_ _
          clear hHeld
          go_wp2_with fail
          go_meet
          exact ⟨rfl,hVd.trans (hBd.mono hVd.size)⟩
       case rest =>
        obtain ⟨rfl,hBx⟩ := hcut
        rename World => Y
        have hS := own_below hinv.out.1.2 hBx
        have hCo := own_below hinv.out.2.1.2 hBx
        have hsn := hinv.out.1.1
        have hcn := hinv.out.2.1.1
        have hdj := hinv.out.2.2.1
        have e0 := kc e0 hBx
        have e1 := kc e1 hBx
        have e2 := kc e2 hBx
        have e3 := kc e3 hBx
        have e4 := kc e4 hBx
        have e5 := kc e5 hBx
        have hBW := hBW.trans (hBx.mono (by have := hBW.size; have := HB1.out; omega))
        obtain ⟨PS,hPS⟩ : ∃ x,(!z1 && (q1 && q2)) = x := ⟨_,rfl⟩
        have hps2 := HTS.out.2.1
        rw [hPS] at hps2 ⊢
        have HPS := Lib.hid hps2
        clear hBx hz1 hz1n hq1 hq2 hPS hps2 t1 t2 hinv
        cases PS
        case' true =>
         have hbx : Below Y.heap.size Y (Y.alloc (.cells #[.int .u16 fh,.int .u16 fl,.int .u16 fv,.int .i64 fp,.int .u64 fx,.int .u64 fy] 39)) := (Below.refl _ _).alloc (Nat.le_refl _) _
         have hIN := own_below hS hbx
         have hOT := own_below hCo hbx
         have hnew : ∀ j u,[.int .u16 fh,.int .u16 fl,.int .u16 fv,.int .i64 fp,.int .u64 fx,.int .u64 fy][j]? = some u → (Y.alloc (.cells #[.int .u16 fh,.int .u16 fl,.int .u16 fv,.int .i64 fp,.int .u64 fx,.int .u64 fy] 39)).cell? ((⟨Y.heap.size,0,none⟩ : Addr).add j) = some u := fun j u hj => by
          rw [addr_add,Nat.zero_add]
          exact cellNew Y #[.int .u16 fh,.int .u16 fl,.int .u16 fv,.int .i64 fp,.int .u64 fx,.int .u64 fy] 39 j u (by simpa using hj)
         have hbase : B1 ≤ (Y.alloc (.cells #[.int .u16 fh,.int .u16 fl,.int .u16 fv,.int .i64 fp,.int .u64 fx,.int .u64 fy] 39)).heap.size := by have := hBW.size; have := HB1.out; simp; omega
         have hBX := hBW.trans (hbx.mono (by have := hBW.size; have := HB1.out; omega))
         have HIN := Lib.hid (And.intro hIN (And.intro hOT (And.intro hbase hBX)))
         have HNEW := Lib.hid hnew
         have hn60 := HLX.out.2.2.1
         clear hIN hOT hnew hbase hBX hbx hS hCo hBW
         go_wp2_with (at_builtin; refine wpList_append_own_at _ rfl _ _ 36 rfl B1 39 i6 _ 6 32 Tryz.underlying36 hi6 hz0 hz1 hz2 rfl (by decide) _ sn _ rfl HIN.out.1 ⟨_,0,none⟩ 1 1 [.int .u16 fh,.int .u16 fl,.int .u16 fv,.int .i64 fp,.int .u64 fx,.int .u64 fy] rfl rfl HNEW.out ?c6 (by unfold maxLen; omega) (by omega) HIN.out.2.2.1 ?_)
         case c6 => intro u hu; simp at hu; rcases hu with rfl | rfl | rfl | rfl | rfl | rfl <;> rfl
         intro v6 Z hown6 hg6 hnn6 hob6
         obtain ⟨sa2,sc2,rfl⟩ := own_form hown6
         have hS : Z.ownsRow B1 39 6 (.slice sa2 (sn + 1) sc2) (sn + 1) (fcells ((FL.take (k2 + 1)).filter (pS db))) := by
          rw [HTS.out.1,List.filter_append,List.filter_cons,HPS.out]
          simp only [if_true,List.filter_nil,fcells,List.flatMap_append,List.flatMap_cons,List.flatMap_nil,List.append_nil]
          exact hown6
         have hCo : Z.ownsRow B1 39 6 (.slice ca cn cc) cn (fcells ((FL.take k2).filter (pC FI LA))) := HIN.out.2.1.kept hg6 (by
          cases hy : (Value.slice ca cn cc).ownBlock with
          |none => exact .inl rfl
          |some j => exact .inr (fun e => hdj j e.symm hy))
         have hdj2 : ∀ j,(Value.slice sa2 (sn + 1) sc2).ownBlock = some j → (Value.slice ca cn cc).ownBlock ≠ some j := fun j hj hy => by
          rcases hob6 with h | h
          ·exact hdj j (h ▸ hj) hy
          ·rw [hj] at h
           injection h with h
           have h3 := (HIN.out.2.1.lt j hy).2
           simp at h h3
           omega
         have hBW := HIN.out.2.2.2.grown hg6 HIN.out.2.2.1 (fun q hq => (HIN.out.1.lt q hq).1)
         have hdj := hdj2
         have hsn : sn + 1 ≤ k2 + 1 := by omega
         clear hown6 hg6 hnn6 hob6 hdj2 HIN HNEW e0 e1 e2 e3 e4 e5
         have hBw := (HB1.out ▸ hBW : Below w2.heap.size w2 Z)
         have e0 := kc HEE.out.1 hBw
         have e1 := kc HEE.out.2.1 hBw
         have e2 := kc HEE.out.2.2.1 hBw
         have e3 := kc HEE.out.2.2.2.1 hBw
         have e4 := kc HEE.out.2.2.2.2.1 hBw
         have e5 := kc HEE.out.2.2.2.2.2 hBw
         clear hBw
         go_upto_region 16 with fail
        case' false =>
         rename World => Z
         obtain ⟨sa2,hsa2⟩ : ∃ x,sa = x := ⟨_,rfl⟩
         obtain ⟨sc2,hsc2⟩ : ∃ x,sc = x := ⟨_,rfl⟩
         rw [hsa2,hsc2] at hS hdj ⊢
         have hS : Z.ownsRow B1 39 6 (.slice sa2 sn sc2) sn (fcells ((FL.take (k2 + 1)).filter (pS db))) := by
          rw [HTS.out.1,List.filter_append,List.filter_cons,HPS.out]
          simpa using hS
         have hsn : sn ≤ k2 + 1 := by omega
         clear hsa2 hsc2 e0 e1 e2 e3 e4 e5
         have hBw := (HB1.out ▸ hBW : Below w2.heap.size w2 Z)
         have e0 := kc HEE.out.1 hBw
         have e1 := kc HEE.out.2.1 hBw
         have e2 := kc HEE.out.2.2.1 hBw
         have e3 := kc HEE.out.2.2.2.1 hBw
         have e4 := kc HEE.out.2.2.2.2.1 hBw
         have e5 := kc HEE.out.2.2.2.2.2 hBw
         clear hBw
         go_upto_region 16 with fail
        all_goals
         obtain ⟨P1,hP1⟩ : ∃ x,(fv == 0) = x := ⟨_,rfl⟩
         have hP1n : (fv != 0) = !P1 := by rw [← hP1]; rfl
         obtain ⟨P2,hP2⟩ : ∃ x,decide ((FI : Int) ≤ fh) = x := ⟨_,rfl⟩
         obtain ⟨P3,hP3⟩ : ∃ x,decide (fh ≤ (LA : Int)) = x := ⟨_,rfl⟩
         have hpc : pC FI LA ⟨fh,fl,fv,fp,fx,fy⟩ = ((!P1 && P2) && P3) := by unfold pC; simp only [hP1,hP2,hP3]
         obtain ⟨PC,hPC⟩ : ∃ x,((!P1 && P2) && P3) = x := ⟨_,rfl⟩
         rw [hPC] at hpc
         have HPC := Lib.hid (And.intro hpc hPC)
         clear hpc hPC
         go_cut [135] (fun v wx => v = .bool PC ∧ wx = Z)
         case first =>
          clear hS hCo hdj hBW
          cases P1 <;> cases P2 <;> cases P3
          all_goals
           go_wp2_with fail
           go_meet
           exact ⟨by rw [← HPC.out.2]; rfl,rfl⟩
         case rest =>
          obtain ⟨rfl,rfl⟩ := hcut
          rename World => Y3
          clear hP1 hP1n hP2 hP3
          cases PC with
          |false =>
           have hCo : Y3.ownsRow B1 39 6 (.slice ca cn cc) cn (fcells ((FL.take (k2 + 1)).filter (pC FI LA))) := by
            rw [HTS.out.1,List.filter_append,List.filter_cons,HPC.out.1]
            simpa using hCo
           have hcn : cn ≤ k2 + 1 := by omega
           clear e0 e1 e2 e3 e4 e5
           have HR := Lib.hid (And.intro (And.intro hsn hS) (And.intro (And.intro hcn hCo) (And.intro hdj hBW)))
           clear hS hCo hdj hBW hsn hcn
           go_wp2
           go_roundw
           case rel => exact ⟨k2 + 1,_,_,_,_,_,_,by go_num,rfl,rfl,by have := HTS.out.2.2; omega,HR⟩
           case measure => have := HTS.out.2.2; simp [intOf]; omega
          |true =>
           have hbx : Below Y3.heap.size Y3 (Y3.alloc (.cells #[.int .u16 fh,.int .u16 fl,.int .u16 fv,.int .i64 fp,.int .u64 fx,.int .u64 fy] 39)) := (Below.refl _ _).alloc (Nat.le_refl _) _
           have hIN := own_below hCo hbx
           have hOT := own_below hS hbx
           have hnew : ∀ j u,[.int .u16 fh,.int .u16 fl,.int .u16 fv,.int .i64 fp,.int .u64 fx,.int .u64 fy][j]? = some u → (Y3.alloc (.cells #[.int .u16 fh,.int .u16 fl,.int .u16 fv,.int .i64 fp,.int .u64 fx,.int .u64 fy] 39)).cell? ((⟨Y3.heap.size,0,none⟩ : Addr).add j) = some u := fun j u hj => by
            rw [addr_add,Nat.zero_add]
            exact cellNew Y3 #[.int .u16 fh,.int .u16 fl,.int .u16 fv,.int .i64 fp,.int .u64 fx,.int .u64 fy] 39 j u (by simpa using hj)
           have hbase : B1 ≤ (Y3.alloc (.cells #[.int .u16 fh,.int .u16 fl,.int .u16 fv,.int .i64 fp,.int .u64 fx,.int .u64 fy] 39)).heap.size := by have := hBW.size; have := HB1.out; simp; omega
           have hBX := hBW.trans (hbx.mono (by have := hBW.size; have := HB1.out; omega))
           have HIN := Lib.hid (And.intro hIN (And.intro hOT (And.intro hbase hBX)))
           have HNEW := Lib.hid hnew
           have hn60 := HLX.out.2.2.1
           have hkn := HTS.out.2.2
           clear hIN hOT hnew hbase hBX hbx hS hCo hBW
           go_wp2_with (at_builtin; refine wpList_append_own_at _ rfl _ _ 36 rfl B1 39 i6 _ 6 32 Tryz.underlying36 hi6 hz0 hz1 hz2 rfl (by decide) _ cn _ rfl HIN.out.1 ⟨_,0,none⟩ 1 1 [.int .u16 fh,.int .u16 fl,.int .u16 fv,.int .i64 fp,.int .u64 fx,.int .u64 fy] rfl rfl HNEW.out ?c6 (by unfold maxLen; omega) (by omega) HIN.out.2.2.1 ?_)
           case c6 => intro u hu; simp at hu; rcases hu with rfl | rfl | rfl | rfl | rfl | rfl <;> rfl
           intro v6 Z6 hown6 hg6 hnn6 hob6
           obtain ⟨ca2,cc2,rfl⟩ := own_form hown6
           have hCo : Z6.ownsRow B1 39 6 (.slice ca2 (cn + 1) cc2) (cn + 1) (fcells ((FL.take (k2 + 1)).filter (pC FI LA))) := by
            rw [HTS.out.1,List.filter_append,List.filter_cons,HPC.out.1]
            simp only [if_true,List.filter_nil,fcells,List.flatMap_append,List.flatMap_cons,List.flatMap_nil,List.append_nil]
            exact hown6
           have hS := HIN.out.2.1.kept hg6 (by
            cases hy : (Value.slice sa2 _ sc2).ownBlock with
            |none => exact .inl rfl
            |some j => exact .inr (fun e => hdj j hy e.symm))
           have hdj2 : ∀ j,(Value.slice sa2 _ sc2).ownBlock = some j → (Value.slice ca2 (cn + 1) cc2).ownBlock ≠ some j := fun j hj hy => by
            rcases hob6 with h | h
            ·exact hdj j hj (h ▸ hy)
            ·rw [hy] at h
             injection h with h
             have h3 := (HIN.out.2.1.lt j hj).2
             simp at h h3
             omega
           have hBW := HIN.out.2.2.2.grown hg6 HIN.out.2.2.1 (fun q hq => (HIN.out.1.lt q hq).1)
           have hdj := hdj2
           have hcn : cn + 1 ≤ k2 + 1 := by omega
           clear hown6 hg6 hnn6 hob6 hdj2 HIN HNEW e0 e1 e2 e3 e4 e5 hkn
           have HR := Lib.hid (And.intro (And.intro hsn hS) (And.intro (And.intro hcn hCo) (And.intro hdj hBW)))
           clear hS hCo hdj hBW hsn hcn
           go_wp2
           go_roundw
           case rel => exact ⟨k2 + 1,_,_,_,_,_,_,by go_num,rfl,rfl,by have := HTS.out.2.2; omega,HR⟩
           case measure => have := HTS.out.2.2; simp [intOf]; omega
      ·obtain rfl : k2 = N := by omega
       have g1 : decide (k2 < k2) = false := by simp
       have g1i : decide ((k2 : Int) < (k2 : Int)) = false := by simp
       have hfull : FL.take k2 = FL := List.take_of_length_le (by rw [HLX.out.2.1]; exact Nat.le_refl _)
       have hS := hinv.out.1.2
       have hCo := hinv.out.2.1.2
       rw [hfull] at hS hCo
       have hfl := HGD.out.2.2.2.2.2.2
       have hsv := fd_services HGD.out.1 HDB.out.2.2
       have hcv := fd_chars HGD.out.1 (FI : Int) (LA : Int)
       rw [hfl] at hsv hcv
       rw [hsv] at hS
       rw [hcv] at hCo
       obtain ⟨l1,hl1⟩ : ∃ l,(candL db 1 65535 43980465115136 9223372588214596859).map (tofS db) = l := ⟨_,rfl⟩
       obtain ⟨l2,hl2⟩ : ∃ l,(candL db (FI : Int) (LA : Int) 43993350017024 9223372588214596859).map tofC = l := ⟨_,rfl⟩
       rw [hl1] at hS
       rw [hl2] at hCo
       have hsn : sn = l1.length := by have h := hS.1; rw [fcells_len] at h; omega
       have hcn : cn = l2.length := by have h := hCo.1; rw [fcells_len] at h; omega
       have hs60 : sn ≤ 60 ∧ cn ≤ 60 := by have := HLX.out.2.2.1; have := hinv.out.1.1; have := hinv.out.2.1.1; omega
       have hrS : SR wr (.slice sa sn sc) sn 6 (fcells l1) := SR.of_own hS (fcells_one _) (by unfold maxLen; omega)
       have hrC : SR wr (.slice ca cn cc) cn 6 (fcells l2) := SR.of_own hCo (fcells_one _) (by unfold maxLen; omega)
       have haS : sn = 0 ∨ Apart [some X] (.slice sa sn sc) := .inr (fun j hj hm => by
        have h1 := (hS.lt j hj).1
        have h2 : j = X := by simpa using hm
        have h3 := HLX.out.2.2.2
        have h4 := HB1.out
        omega)
       have haC : cn = 0 ∨ Apart [some X] (.slice ca cn cc) := .inr (fun j hj hm => by
        have h1 := (hCo.lt j hj).1
        have h2 : j = X := by simpa using hm
        have h3 := HLX.out.2.2.2
        have h4 := HB1.out
        omega)
       have HAP := Lib.hid (And.intro haS (And.intro haC (And.intro hs60 (And.intro (And.intro hl1 hl2) (And.intro hsn hcn)))))
       have hBw : Below w2.heap.size w2 wr := HB1.out ▸ hBW
       have hBww := HB2.out.trans (hBw.mono HB2.out.size)
       have hP3 := HP2.out.below hBw
       have HRG := Lib.hid (range_any da dn dc db (FI : Int) (LA : Int) wr (HDB.out.1.below hBww) HDB.out.2.1 (by omega))
       obtain ⟨LR,hLR⟩ : ∃ l,rangeL db (FI : Int) (LA : Int) = l := ⟨_,rfl⟩
       simp only [hLR] at HRG
       clear hS hCo hsn hcn hfull hfl hsv hcv hinv hk2 hlt hl1 hl2 hBw haS haC
       go_wp2_with fail
       refine HRG.out.mono ?_
       rintro e w3 ⟨rv,rfl,hlr,hC⟩
       have hrS := SR.below hrS hC
       have hrC := SR.below hrC hC
       have hP3 := hP3.below hC
       have hB3 := hBww.trans (hC.mono hBww.size)
       have hX3 : X < w3.heap.size := hP3.blk.lt
       obtain ⟨ra3,rc3,rfl⟩ := hlr.form
       obtain ⟨N3,hN3⟩ : ∃ n,LR.length = n := ⟨_,rfl⟩
       have hN60 : N3 ≤ 60 := by
        have h1 : LR.length ≤ db.length := by rw [← hLR]; exact List.length_filter_le _ _
        have := HDB.out.2.1
        omega
       rw [hN3] at hlr ⊢
       obtain ⟨qs,hqs,hqsr,-⟩ := hlr
       have hql : qs.length = N3 := by rw [← hN3,← hqs,List.length_map]
       rw [hql] at hqsr
       have hel : ∀ k,k < N3 → ∃ rb ro,ra3 = some ⟨rb,ro,none⟩ ∧ w3.cell? ⟨rb,ro + k * 5,none⟩ = some (.int .u16 (atI LR k).ha) ∧ w3.cell? ⟨rb,ro + k * 5 + 1,none⟩ = some (.int .u64 (atI LR k).hi) ∧ w3.cell? ⟨rb,ro + k * 5 + 2,none⟩ = some (.int .u64 (atI LR k).lo) := fun k hk => by
        obtain ⟨b,off,cap,e,hat⟩ := sr_rows aenc aenc_len (qs := qs) (by rw [hql]; exact hqsr) (by omega)
        simp only [Value.slice.injEq] at e
        have hkq : k < qs.length := by omega
        have h1 := hat k qs[k] (List.getElem?_eq_getElem hkq)
        have e1 : qs[k].1 = atI LR k := by rw [← atI_get (by rw [hN3]; exact hk)]; simp [← hqs]
        rw [← e1]
        exact ⟨b,off,e.1,h1 0 _ rfl,h1 1 _ rfl,h1 2 _ rfl⟩
       have HEL := Lib.hid hel
       have HLR := Lib.hid (And.intro hLR (And.intro hN3 hN60))
       have HR3 := Lib.hid (And.intro hrS (And.intro hrC (And.intro hP3 (And.intro hB3 hX3))))
       obtain ⟨B3,hB3e⟩ : ∃ n,w3.heap.size = n := ⟨_,rfl⟩
       have HB3 := Lib.hid hB3e
       clear hqs hqsr hql hel hLR hN3 hN60 hrS hrC hP3 hB3 hX3 hC hB3e HRG hBW hBww hs60
       go_wp2_with fail
       go_loopw [14,18] (fun dv v W => ∃ (k3 : Nat) (ea : Option Addr) (ec : Nat),v = .int .i64 k3 ∧ dv = .slice ea k3 ec ∧ k3 ≤ N3 ∧ Hid (W.ownsRow B3 39 6 (.slice ea k3 ec) k3 (fcells ((LR.take k3).map tofD)) ∧ Below B3 w3 W)) (fun _ v _ => N3 - (intOf v).toNat)
       case atStart => exact ⟨0,none,0,by simp,rfl,Nat.zero_le _,Lib.hid ⟨⟨rfl,.inl ⟨rfl,rfl⟩⟩,Below.refl _ _⟩⟩
       case round =>
        obtain ⟨k3,ea,ec,rfl,rfl,hk3,hinv⟩ := hrel
        by_cases hlt : k3 < N3
        ·have g1 : decide (k3 < N3) = true := by simpa using hlt
         have g1i : decide ((k3 : Int) < (N3 : Int)) = true := by simp; omega
         obtain ⟨rb,ro,rfl,hel⟩ := HEL.out k3 hlt
         have HL3 := Lib.hid (And.intro hel hlt)
         have hi0 : (0 : Int) ≤ (k3 : Int) := by omega
         have hi1 : (k3 : Int) < (N3 : Int) := by omega
         have hn60 := HLR.out.2.2
         have w1' : IntKind.i64.wrap ((k3 : Int) + 1) = (k3 : Int) + 1 := IntWalk.i64_in _ (by omega)
         clear hlt hk3 hel
         go_upto_region 22 with fail
         have hown := own_below hinv.out.1 (Below.refl _ _).drew
         have hBd : Below w3.heap.size w3 _ := HB3.out ▸ hinv.out.2.drew
         clear hinv
         refine wp_region_held_drew (S := (fun W' : World => W'.cell? ⟨rb,ro + k3 * 5,none⟩ = some (.int .u16 (atI LR k3).ha) ∧ W'.cell? ⟨rb,ro + k3 * 5 + 1,none⟩ = some (.int .u64 (atI LR k3).hi) ∧ W'.cell? ⟨rb,ro + k3 * 5 + 2,none⟩ = some (.int .u64 (atI LR k3).lo))) (by kernel_rfl) (⟨kc HL3.out.1.1 hBd,kc HL3.out.1.2.1 hBd,kc HL3.out.1.2.2 hBd⟩) (fun hHeld => ?_)
         generalize World.drew _ = wd at hHeld hown hBd ⊢
         repeat' first
          |refine tkU 0 ?_
          |refine tkU 1 ?_
          |refine tkU 2 ?_
          |refine tkU 3 ?_
          |refine tkU 4 ?_
          |refine tkU 5 ?_
          |refine tkU 6 ?_
          |refine tkU 7 ?_
          |refine tkU 8 ?_
          |refine tkU 9 ?_
          |refine tkU 10 ?_
          |refine tkU 11 ?_
          |refine tkU 14 ?_
          |(refine opn 12 fun K hK => ?_
            go_simp
            generalize hX : World.alloc _ (.cells _ 39) = w8
            obtain ⟨hnb,hBy,-⟩ := alloc_named hX
            have bN : Blk w8 _ 39 [.int .u16 (atI LR k3).ha,.int .u16 0,.int .u16 0,.int .i64 0,.int .u64 (atI LR k3).hi,.int .u64 (atI LR k3).lo] := hnb
            have hown := own_below hown hBy
            have hBd := hBd.trans (hBy.mono hBd.size)
            clear hX hBy hnb
            refine hK.out _ _ (⟨kc HL3.out.1.1 hBd,kc HL3.out.1.2.1 hBd,kc HL3.out.1.2.2 hBd⟩) (fun h => ?_)
            replace hHeld := h
            clear hK K h
            try simp only [Act.put,List.setIfInBounds_toArray,List.set_cons_zero,List.set_cons_succ])
          |(refine opn 13 fun K hK => ?_
            refine step_app_own (by rfl) _ _ 36 (by rfl) B3 39 i6 _ 6 32 Tryz.underlying36 hi6 hz0 hz1 hz2 rfl (by decide) (.slice ea k3 ec) k3 (fcells ((LR.take k3).map tofD)) (by rfl) hown (.slice (some ⟨_,0,none⟩) 1 1) 1 [.int .u16 (atI LR k3).ha,.int .u16 0,.int .u16 0,.int .i64 0,.int .u64 (atI LR k3).hi,.int .u64 (atI LR k3).lo] (by rfl) (sr_oneblk bN rfl (by simp [Value.oneCell'])) (by unfold maxLen; omega) (by omega) (by have h1 := hBd.size; have h2 := HB3.out; omega) ?_
            intro v9 w9 hown9 hg9
            have hBd := hBd.trans (HB3.out ▸ own_low hown hg9 (by have h1 := hBd.size; have h2 := HB3.out; omega))
            obtain ⟨q7,c7,rfl⟩ := own_form hown9
            clear hown hg9 bN
            refine hK.out _ _ (⟨kc HL3.out.1.1 hBd,kc HL3.out.1.2.1 hBd,kc HL3.out.1.2.2 hBd⟩) (fun h => ?_)
            replace hHeld := h
            clear hK K h
            try simp only [Act.put,List.setIfInBounds_toArray,List.set_cons_zero,List.set_cons_succ])
          |refine rd1 12 ?_
          |refine rd1 13 ?_
          |(refine wpAnyH_done (by kernel_rfl) ?_ _
            have hown9 : w9.ownsRow B3 39 6 (.slice q7 (k3 + 1) c7) (k3 + 1) (fcells ((LR.take (k3 + 1)).map tofD)) := by
             rw [List.take_succ_eq_append_getElem (show k3 < LR.length by rw [HLR.out.2.1]; exact HL3.out.2),List.map_append]
             simp only [fcells,List.flatMap_append,List.map_cons,List.map_nil,List.flatMap_cons,List.flatMap_nil,List.append_nil,atI_get (show k3 < LR.length by rw [HLR.out.2.1]; exact HL3.out.2)]
             exact hown9
            have HR := Lib.hid (And.intro hown9 (HB3.out ▸ hBd : Below B3 w3 w9))
            clear hown9 hBd
            go_wp2
            go_roundw
            case rel => exact ⟨k3 + 1,_,_,by go_num,rfl,by have := HL3.out.2; omega,HR⟩
            case measure => have := HL3.out.2; simp [intOf]; omega)
        ·obtain rfl : k3 = N3 := by omega
         have g1 : decide (k3 < k3) = false := by simp
         have g1i : decide ((k3 : Int) < (k3 : Int)) = false := by simp
         have hfull : LR.take k3 = LR := List.take_of_length_le (by rw [HLR.out.2.1]; exact Nat.le_refl _)
         have hD := hinv.out.1
         have hBW3 : Below w3.heap.size w3 wr := HB3.out ▸ hinv.out.2
         rw [hfull] at hD
         obtain ⟨l3,hl3⟩ : ∃ l,LR.map tofD = l := ⟨_,rfl⟩
         rw [hl3] at hD
         have hdn : k3 = l3.length := by rw [← hl3,List.length_map,HLR.out.2.1]
         have hn60 := HLR.out.2.2
         have sD : SrA X wr (.slice ea k3 ec) l3 := ⟨by rw [← hdn]; exact SR.of_own hD (fcells_one _) (by unfold maxLen; omega),.inr (fun j hj hm => by
          have h1 := (hD.lt j hj).1
          have h2 : j = X := by simpa using hm
          have h3 := HR3.out.2.2.2.2
          have h4 := HB3.out
          omega)⟩
         obtain ⟨h5S,h5C,h5n,⟨hl1,hl2⟩,hsn,hcn⟩ := HAP.out
         have sS : SrA X wr (.slice sa sn sc) l1 := SrA.below ⟨by rw [← hsn]; exact HR3.out.1,by rw [← hsn]; exact h5S⟩ hBW3
         have sC : SrA X wr (.slice ca cn cc) l2 := SrA.below ⟨by rw [← hcn]; exact HR3.out.2.1,by rw [← hcn]; exact h5C⟩ hBW3
         have hP := HR3.out.2.2.1.below hBW3
         have hB := HR3.out.2.2.2.1.trans (hBW3.mono HR3.out.2.2.2.1.size)
         have hmx' : 23 ≤ mx ∧ mx ≤ 517 := ⟨HGD.out.2.1,HGD.out.2.2.1⟩
         have hrd := ok_read HGD.out.1 (fun j hj => HOKA.out HGD.out.2.2.2.1 j (by have := HDB.out.2.1; omega))
         have hF0 := HGD.out.2.2.2.2.1
         have hFL := HGD.out.2.2.2.2.2.1
         have T1 : DoT X db mx { tk0 with kd := 2 } ⟨2,2,0,[],l1,0⟩ := doT (hok_d HHF.out) X db mx _ _ rfl (by decide) rfl (by
          have h := run_services HF db mx HGD.out.1 HDB.out.2.2 hmx'
          rw [hl1] at h
          exact h)
         have T2 : DoT X db mx { tk0 with kd := 3,fi := FI,la := LA } ⟨2,3,0,[],l2,0⟩ := doT (hok_d HHF.out) X db mx _ _ rfl (show (Lit.int .i64 3).wf = true by decide) rfl (by
          have h := run_chars HF db mx HGD.out.1 HDB.out.2.2 hmx' (fun x hx hc => hrd x hx (by rw [hc]; rfl)) FI LA hF0 hFL HFL.out.2
          rw [hl2] at h
          exact h)
         have T3 : DoT X db mx { tk0 with kd := 4,fi := FI,la := LA } ⟨2,4,0,[],l3,0⟩ := doT (hok_d HHF.out) X db mx _ _ rfl (show (Lit.int .i64 4).wf = true by decide) rfl (by
          have h := run_descs HF db mx HGD.out.1 HDB.out.2.2 hmx' FI LA hF0 hFL HFL.out.2
          rw [HLR.out.1,hl3] at h
          exact h)
         obtain ⟨c14,q14,r4,h41,h42,h43,h44,h45,h46⟩ := run_hash HF db mx HGD.out.1 HDB.out.2.2 hmx' (fun x hx hc => hrd x hx (by rw [hc,Bool.or_true]))
         have htk : r4.tk = 9 := by
          cases hL : candL db 1 65535 47459388624896 9223372588214596859 with
          |nil => rw [h45 hL]
          |cons x l => rw [h46 x l hL]
         have T4 : DoT X db mx { tk0 with kd := 9 } r4 := doT (hok_d HHF.out) X db mx _ _ rfl (by decide) htk ⟨c14,q14,h41,h42,h43,h44⟩
         have HR4 := Lib.hid (And.intro h45 h46)
         have HT1 : Hid (∀ (W : World) (cs ss : List Value),PR W X cs ss (idle mx mx 0) ⟨db,mx,mx,[]⟩ true → Calls Tryz.prog 12 #[.pointer (some ⟨X,0,none⟩),.agg #[.int .i64 2,.int .u16 0,.int .u16 0,.int .u16 0,.slice none 0 0,.int .i64 0,.slice none 0 0,.bool false]] W fun e w' => ∃ ba1 bc1 fa1 fc1 cs2 ss2,e = .returned (.agg #[.int .i64 2,.int .i64 2,.int .u16 0,.slice ba1 0 bc1,.slice fa1 sn fc1,.int .i64 0]) ∧ BV w' (.slice ba1 0 bc1) [] ∧ SrA X w' (.slice fa1 sn fc1) l1 ∧ PR w' X cs2 ss2 (idle mx mx 0) ⟨db,mx,mx,[]⟩ true ∧ KX X W w') := Lib.hid (by
          rw [hsn]
          exact T1)
         have HT2 : Hid (∀ (W : World) (cs ss : List Value),PR W X cs ss (idle mx mx 0) ⟨db,mx,mx,[]⟩ true → Calls Tryz.prog 12 #[.pointer (some ⟨X,0,none⟩),.agg #[.int .i64 3,.int .u16 (FI : Nat),.int .u16 (LA : Nat),.int .u16 0,.slice none 0 0,.int .i64 0,.slice none 0 0,.bool false]] W fun e w' => ∃ ba2 bc2 fa2 fc2 cs2 ss2,e = .returned (.agg #[.int .i64 2,.int .i64 3,.int .u16 0,.slice ba2 0 bc2,.slice fa2 cn fc2,.int .i64 0]) ∧ BV w' (.slice ba2 0 bc2) [] ∧ SrA X w' (.slice fa2 cn fc2) l2 ∧ PR w' X cs2 ss2 (idle mx mx 0) ⟨db,mx,mx,[]⟩ true ∧ KX X W w') := Lib.hid (by
          rw [hcn]
          exact T2)
         have HT3 : Hid (∀ (W : World) (cs ss : List Value),PR W X cs ss (idle mx mx 0) ⟨db,mx,mx,[]⟩ true → Calls Tryz.prog 12 #[.pointer (some ⟨X,0,none⟩),.agg #[.int .i64 4,.int .u16 (FI : Nat),.int .u16 (LA : Nat),.int .u16 0,.slice none 0 0,.int .i64 0,.slice none 0 0,.bool false]] W fun e w' => ∃ ba3 bc3 fa3 fc3 cs2 ss2,e = .returned (.agg #[.int .i64 2,.int .i64 4,.int .u16 0,.slice ba3 0 bc3,.slice fa3 k3 fc3,.int .i64 0]) ∧ BV w' (.slice ba3 0 bc3) [] ∧ SrA X w' (.slice fa3 k3 fc3) l3 ∧ PR w' X cs2 ss2 (idle mx mx 0) ⟨db,mx,mx,[]⟩ true ∧ KX X W w') := Lib.hid (by
          rw [hdn]
          exact T3)
         have HT4 : Hid (∀ (W : World) (cs ss : List Value),PR W X cs ss (idle mx mx 0) ⟨db,mx,mx,[]⟩ true → Calls Tryz.prog 12 #[.pointer (some ⟨X,0,none⟩),.agg #[.int .i64 9,.int .u16 0,.int .u16 0,.int .u16 0,.slice none 0 0,.int .i64 0,.slice none 0 0,.bool false]] W fun e w' => ∃ ba4 bc4 fa4 fc4 cs2 ss2,e = .returned (.agg #[.int .i64 r4.kd,.int .i64 r4.tk,.int .u16 (r4.ha : Nat),.slice ba4 r4.vs.length bc4,.slice fa4 r4.fo.length fc4,.int .i64 r4.co]) ∧ BV w' (.slice ba4 r4.vs.length bc4) r4.vs ∧ SrA X w' (.slice fa4 r4.fo.length fc4) r4.fo ∧ PR w' X cs2 ss2 (idle mx mx 0) ⟨db,mx,mx,[]⟩ true ∧ KX X W w') := Lib.hid (by
          exact T4)
         have hwX : w.heap.size ≤ X := by have h1 := HXW.out; omega
         have HWX := Lib.hid hwX
         have HDN := Lib.hid hdn
         have hsn60 := h5n
         clear hfull hD hBW3 hl3 hl1 hl2 h5S h5C h5n hinv hk3 hlt T1 T2 T3 T4 h41 h42 h43 h44 h45 h46 htk hrd hF0 hFL hmx' hsn hcn hdn hwX hn60 hsn60
         go_wp2_with fail
         refine (HT1.out _ _ _ hP).mono ?_
         rintro e u1 ⟨ba1,bc1,fa1,fc1,cs1,ss1,rfl,hbv1,f1,hP,hK⟩
         have sS := sS.kx hK
         have sC := sC.kx hK
         have sD := sD.kx hK
         have hB := hB.trans (hK.lo.mono HWX.out)
         have bZ := Blk.new u1 43 [.int .i64 0,.int .i64 0,.int .u16 0,.slice none 0 0,.slice none 0 0,.int .i64 0]
         have hth := bZ.there 0 6 (by simp)
         have one : (#[.int .i64 2,.int .i64 2,.int .u16 0,.slice ba1 0 bc1,.slice fa1 sn fc1,.int .i64 0] : Array Value).all (·.oneCell') = true := by simp [Value.oneCell']
         clear hK HT1
         go_upto_region 24 with (refine wpList_store_mid rfl 43 _ _ rfl u1.heap.size 0 #[.int .i64 2,.int .i64 2,.int .u16 0,.slice ba1 0 bc1,.slice fa1 sn fc1,.int .i64 0] rfl rfl hth (by kernel_rfl) one ?_; simp only [Act.put]; generalize hW : World.setCells _ u1.heap.size 0 _ = z1; have HW := Lib.hid hW; clear hW)
         obtain ⟨hg,bR1⟩ := put_namedB bZ HW.out rfl
         have hA : Below u1.heap.size u1 z1 := ((Below.refl u1.heap.size u1).alloc (Nat.le_refl _) _).grown hg (by simp) (fun k hk => by cases hk; exact Nat.le_refl _)
         have hXu := hP.blk.lt
         have hP := hP.below hA
         have sS := sS.below hA
         have sC := sC.below hA
         have sD := sD.below hA
         have f1 := f1.below hA
         have hB := hB.trans (hA.mono hB.size)
         obtain ⟨R1,hR1⟩ : ∃ x,u1.heap.size = x := ⟨_,rfl⟩
         rw [hR1] at bR1 hXu ⊢
         have HX1 := Lib.hid hXu
         clear HW hg hA bZ hth one hXu hR1 hbv1
         go_wp2_with fail
         refine (HT2.out _ _ _ hP).mono ?_
         rintro e u2 ⟨ba2,bc2,fa2,fc2,cs2,ss2,rfl,hbv2,f2,hP,hK⟩
         have sS := sS.kx hK
         have sC := sC.kx hK
         have sD := sD.kx hK
         have f1 := f1.kx hK
         have bR1 := bR1.kx (fun e => by have := HX1.out; omega) hK
         have hB := hB.trans (hK.lo.mono HWX.out)
         have bZ := Blk.new u2 43 [.int .i64 0,.int .i64 0,.int .u16 0,.slice none 0 0,.slice none 0 0,.int .i64 0]
         have hth := bZ.there 0 6 (by simp)
         have one : (#[.int .i64 2,.int .i64 3,.int .u16 0,.slice ba2 0 bc2,.slice fa2 cn fc2,.int .i64 0] : Array Value).all (·.oneCell') = true := by simp [Value.oneCell']
         clear hK HT2
         go_upto_region 25 with (refine wpList_store_mid rfl 43 _ _ rfl u2.heap.size 0 #[.int .i64 2,.int .i64 3,.int .u16 0,.slice ba2 0 bc2,.slice fa2 cn fc2,.int .i64 0] rfl rfl hth (by kernel_rfl) one ?_; simp only [Act.put]; generalize hW : World.setCells _ u2.heap.size 0 _ = z2; have HW := Lib.hid hW; clear hW)
         obtain ⟨hg,bR2⟩ := put_namedB bZ HW.out rfl
         have hA : Below u2.heap.size u2 z2 := ((Below.refl u2.heap.size u2).alloc (Nat.le_refl _) _).grown hg (by simp) (fun k hk => by cases hk; exact Nat.le_refl _)
         have hXu := hP.blk.lt
         have hP := hP.below hA
         have sS := sS.below hA
         have sC := sC.below hA
         have sD := sD.below hA
         have f1 := f1.below hA
         have f2 := f2.below hA
         have bR1 := bR1.below hA
         have hB := hB.trans (hA.mono hB.size)
         obtain ⟨R2,hR2⟩ : ∃ x,u2.heap.size = x := ⟨_,rfl⟩
         rw [hR2] at bR2 hXu ⊢
         have HX2 := Lib.hid hXu
         clear HW hg hA bZ hth one hXu hR2 hbv2
         go_wp2_with fail
         refine (HT3.out _ _ _ hP).mono ?_
         rintro e u3 ⟨ba3,bc3,fa3,fc3,cs3,ss3,rfl,hbv3,f3,hP,hK⟩
         have sS := sS.kx hK
         have sC := sC.kx hK
         have sD := sD.kx hK
         have f1 := f1.kx hK
         have f2 := f2.kx hK
         have bR1 := bR1.kx (fun e => by have := HX1.out; omega) hK
         have bR2 := bR2.kx (fun e => by have := HX2.out; omega) hK
         have hB := hB.trans (hK.lo.mono HWX.out)
         have bZ := Blk.new u3 43 [.int .i64 0,.int .i64 0,.int .u16 0,.slice none 0 0,.slice none 0 0,.int .i64 0]
         have hth := bZ.there 0 6 (by simp)
         have one : (#[.int .i64 2,.int .i64 4,.int .u16 0,.slice ba3 0 bc3,.slice fa3 k3 fc3,.int .i64 0] : Array Value).all (·.oneCell') = true := by simp [Value.oneCell']
         clear hK HT3
         go_upto_region 26 with (refine wpList_store_mid rfl 43 _ _ rfl u3.heap.size 0 #[.int .i64 2,.int .i64 4,.int .u16 0,.slice ba3 0 bc3,.slice fa3 k3 fc3,.int .i64 0] rfl rfl hth (by kernel_rfl) one ?_; simp only [Act.put]; generalize hW : World.setCells _ u3.heap.size 0 _ = z3; have HW := Lib.hid hW; clear hW)
         obtain ⟨hg,bR3⟩ := put_namedB bZ HW.out rfl
         have hA : Below u3.heap.size u3 z3 := ((Below.refl u3.heap.size u3).alloc (Nat.le_refl _) _).grown hg (by simp) (fun k hk => by cases hk; exact Nat.le_refl _)
         have hXu := hP.blk.lt
         have hP := hP.below hA
         have sS := sS.below hA
         have sC := sC.below hA
         have sD := sD.below hA
         have f1 := f1.below hA
         have f2 := f2.below hA
         have f3 := f3.below hA
         have bR1 := bR1.below hA
         have bR2 := bR2.below hA
         have hB := hB.trans (hA.mono hB.size)
         obtain ⟨R3,hR3⟩ : ∃ x,u3.heap.size = x := ⟨_,rfl⟩
         rw [hR3] at bR3 hXu ⊢
         have HX3 := Lib.hid hXu
         clear HW hg hA bZ hth one hXu hR3 hbv3
         go_wp2_with fail
         refine (HT4.out _ _ _ hP).mono ?_
         rintro e u4 ⟨ba4,bc4,fa4,fc4,cs4,ss4,rfl,hbv4,f4,hP,hK⟩
         have sS := sS.kx hK
         have sC := sC.kx hK
         have sD := sD.kx hK
         have f1 := f1.kx hK
         have f2 := f2.kx hK
         have f3 := f3.kx hK
         have bR1 := bR1.kx (fun e => by have := HX1.out; omega) hK
         have bR2 := bR2.kx (fun e => by have := HX2.out; omega) hK
         have bR3 := bR3.kx (fun e => by have := HX3.out; omega) hK
         have hB := hB.trans (hK.lo.mono HWX.out)
         have bZ := Blk.new u4 43 [.int .i64 0,.int .i64 0,.int .u16 0,.slice none 0 0,.slice none 0 0,.int .i64 0]
         have hth := bZ.there 0 6 (by simp)
         have one : (#[.int .i64 r4.kd,.int .i64 r4.tk,.int .u16 (r4.ha : Nat),.slice ba4 r4.vs.length bc4,.slice fa4 r4.fo.length fc4,.int .i64 r4.co] : Array Value).all (·.oneCell') = true := by simp [Value.oneCell']
         clear hK HT4
         go_upto_region 27 with (refine wpList_store_mid rfl 43 _ _ rfl u4.heap.size 0 #[.int .i64 r4.kd,.int .i64 r4.tk,.int .u16 (r4.ha : Nat),.slice ba4 r4.vs.length bc4,.slice fa4 r4.fo.length fc4,.int .i64 r4.co] rfl rfl hth (by kernel_rfl) one ?_; simp only [Act.put]; generalize hW : World.setCells _ u4.heap.size 0 _ = z4; have HW := Lib.hid hW; clear hW)
         obtain ⟨hg,bR4⟩ := put_namedB bZ HW.out rfl
         have hA : Below u4.heap.size u4 z4 := ((Below.refl u4.heap.size u4).alloc (Nat.le_refl _) _).grown hg (by simp) (fun k hk => by cases hk; exact Nat.le_refl _)
         have hXu := hP.blk.lt
         have hP := hP.below hA
         have sS := sS.below hA
         have sC := sC.below hA
         have sD := sD.below hA
         have f1 := f1.below hA
         have f2 := f2.below hA
         have f3 := f3.below hA
         have f4 := f4.below hA
         have bR1 := bR1.below hA
         have bR2 := bR2.below hA
         have bR3 := bR3.below hA
         have hbv4 := hbv4.below hA
         have hB := hB.trans (hA.mono hB.size)
         obtain ⟨R4,hR4⟩ : ∃ x,u4.heap.size = x := ⟨_,rfl⟩
         rw [hR4] at bR4 hXu ⊢
         have HX4 := Lib.hid hXu
         clear HW hg hA bZ hth one hXu hR4
         have mX := hP.cell
         have a0 := bR1.cell (j := 0) (v := .int .i64 2) rfl
         have b0 := bR2.cell (j := 0) (v := .int .i64 2) rfl
         have c0 := bR3.cell (j := 0) (v := .int .i64 2) rfl
         have a4 := bR1.cell (j := 4) (v := .slice fa1 sn fc1) rfl
         have HSF1 := Lib.hid (sameFound_any l1 (.slice fa1 sn fc1) (.slice sa sn sc) z4 f1.1 sS.1 (by have := HAP.out.2.2.1.1; have := HAP.out.2.2.2.2.1; omega))
         clear f1 sS bR1 f4
         go_wp2_with fail
         refine HSF1.out.mono ?_
         rintro e x1 ⟨rfl,hC⟩
         have b4 := (bR2.below hC).cell (j := 4) (v := .slice fa2 cn fc2) rfl
         have HSF2 := Lib.hid (sameFound_any l2 (.slice fa2 cn fc2) (.slice ca cn cc) x1 (f2.below hC).1 (sC.below hC).1 (by have := HAP.out.2.2.1.2; have := HAP.out.2.2.2.2.2; omega))
         have bR3 := bR3.below hC
         have bR4 := bR4.below hC
         have f3 := f3.below hC
         have sD := sD.below hC
         have hbv4 := hbv4.below hC
         have hB := hB.trans (hC.mono hB.size)
         clear f2 sC bR2 hC HSF1 mX a0 b0 c0 a4 hP
         go_wp2_with fail
         refine HSF2.out.mono ?_
         rintro e x2 ⟨rfl,hC⟩
         have c4 := (bR3.below hC).cell (j := 4) (v := .slice fa3 k3 fc3) rfl
         have HSF3 := Lib.hid (sameFound_any l3 (.slice fa3 k3 fc3) (.slice ea k3 ec) x2 (f3.below hC).1 (sD.below hC).1 (by have := HDN.out; have := HLR.out.2.2; omega))
         have bR4 := bR4.below hC
         have hbv4 := hbv4.below hC
         have hB := hB.trans (hC.mono hB.size)
         clear f3 sD bR3 hC HSF2 b4
         go_wp2_with fail
         refine HSF3.out.mono ?_
         rintro e x3 ⟨rfl,hC⟩
         have bR4 := bR4.below hC
         have hbv4 := hbv4.below hC
         have hB := hB.trans (hC.mono hB.size)
         have HI9 := Lib.hid (And.intro bR4 (And.intro hbv4 hB))
         clear hC HSF3 c4 bR4 hbv4 hB
         go_wp2_with fail
         go_loopw [23] (fun v W => ∃ k4 : Nat,v = .int .i64 k4 ∧ k4 ≤ dn ∧ Hid ((∀ j,j < k4 → isU 47459388624896 (atI db j).hi (atI db j).lo = false) ∧ Blk W R4 43 [.int .i64 r4.kd,.int .i64 r4.tk,.int .u16 (r4.ha : Nat),.slice ba4 r4.vs.length bc4,.slice fa4 r4.fo.length fc4,.int .i64 r4.co] ∧ BV W (.slice ba4 r4.vs.length bc4) r4.vs ∧ Below w.heap.size w W)) (fun v _ => dn - (intOf v).toNat)
         case atStart => exact ⟨0,by simp,Nat.zero_le _,Lib.hid ⟨fun j h => absurd h (by omega),HI9.out.1,HI9.out.2.1,HI9.out.2.2⟩⟩
         case round =>
          clear HI9
          obtain ⟨k4,rfl,hk4,hinv⟩ := hrel
          have hno := hinv.out.1
          have bR4 := hinv.out.2.1
          have hbv4 := hinv.out.2.2.1
          have hB := hinv.out.2.2.2
          have HNO := Lib.hid hno
          clear hinv hno
          by_cases hlt : k4 < dn
          ·have g1 : decide (k4 < dn) = true := by simpa using hlt
           have g1i : decide ((k4 : Int) < (dn : Int)) = true := by simp; omega
           have HLT := Lib.hid hlt
           obtain ⟨b,off,e,hb,hat⟩ := HDB.out.1.dbs.at HDB.out.2.1 (by omega)
           subst e
           obtain ⟨ra,rc,d0,d1,d2,-,-,-,-⟩ := hat k4 hlt
           obtain ⟨⟨ha,hh,lo,pe,bs⟩,he⟩ : ∃ r,atI db k4 = r := ⟨_,rfl⟩
           rw [he] at d0 d1 d2
           simp only at d0 d1 d2
           have HE := Lib.hid he
           have HD0 := Lib.hid d0
           have d1 := kc d1 hB
           have d2 := kc d2 hB
           have hs1 : ∀ W,Calls Tryz.prog 6 #[.int .u16 11050] W fun e w' => e = .returned (.agg #[.int .u64 47459388624896,.int .u64 9223372588214596859]) ∧ Below W.heap.size W w' := fun W => rshort_any 11050 (by decide) W
           have hiu : isU 47459388624896 (atI db k4).hi (atI db k4).lo = (hh == 47459388624896 && lo == 9223372588214596859) := by rw [he]; rfl
           obtain ⟨M1,hM1⟩ : ∃ M : Int,(47459388624896 : Int) = M := ⟨_,rfl⟩
           obtain ⟨K0,hK0⟩ : ∃ M : Int,(9223372588214596859 : Int) = M := ⟨_,rfl⟩
           have HM := Lib.hid (And.intro hM1 hK0)
           simp only [hM1,hK0] at hs1 hiu
           obtain ⟨q1,hq1⟩ : ∃ c,(hh == M1) = c := ⟨_,rfl⟩
           obtain ⟨q2,hq2⟩ : ∃ c,(lo == K0) = c := ⟨_,rfl⟩
           rw [hq1,hq2] at hiu
           have HS1 := Lib.hid hs1
           have HIU := Lib.hid hiu
           have hi0 : (0 : Int) ≤ (k4 : Int) := by omega
           have hi1 : (k4 : Int) < (dn : Int) := by omega
           have w1' : IntKind.i64.wrap ((k4 : Int) + 1) = (k4 : Int) + 1 := IntWalk.i64_in _ (by omega)
           clear hat hb he d0 hs1 hiu hM1 hK0 hlt hk4
           go_upto_region 32 with fail
           go_cut [236] (fun v wx => v = .bool (q1 && q2) ∧ Below wr.heap.size wr wx)
           case first =>
            have hVd := (Below.refl wr.heap.size wr).drew
            have hBd := Below.refl wr.drew.heap.size wr.drew
            have d1 := kc d1 hVd
            have d2 := kc d2 hVd
            clear bR4 hbv4 hB
            cases q1 <;> cases q2
            all_goals
             refine wp_region_held_drew (S := (fun W' : World => W'.cell? ⟨b,off + k4 * 5 + 1,none⟩ = some (.int .u64 hh) ∧ W'.cell? ⟨b,off + k4 * 5 + 2,none⟩ = some (.int .u64 lo))) (by kernel_rfl) (⟨kc d1 hBd,kc d2 hBd⟩) (fun hHeld => ?_)
             generalize World.drew _ = wd at hHeld d1 d2 hVd hBd ⊢
             refine tkU 0 ?_
             refine tkU 1 ?_
             refine tkU 2 ?_
             refine tkU 3 ?_
             refine tkU 4 ?_
             refine rd1 5 fun K hK => ?_
             go_simp
             go_at_call 6
             refine (HS1.out _).mono ?_
             rintro e w6 ⟨rfl,hC⟩
             have hBd := hBd.trans (hC.mono hBd.size)
             clear hC
             clear hHeld
             refine hK.out _ _ (⟨kc d1 hBd,kc d2 hBd⟩) (fun hHeld => ?_)
             clear hK K
             try simp only [Act.put,List.setIfInBounds_toArray,List.set_cons_zero,List.set_cons_succ]
             refine tkU 6 ?_
             refine wpAnyH_done (by kernel_rfl) ?_ _
             clear hHeld
             go_wp2_with fail
             go_meet
             exact ⟨rfl,hVd.trans (hBd.mono hVd.size)⟩
           case rest =>
            obtain ⟨rfl,hBx⟩ := hcut
            rename World => Y9
            have bR4 := bR4.below hBx
            have hbv4 := hbv4.below hBx
            have hB := hB.trans (hBx.mono hB.size)
            clear hBx d1 d2 hq1 hq2
            obtain ⟨QQ,hQQ⟩ : ∃ x,(q1 && q2) = x := ⟨_,rfl⟩
            have hiu := HIU.out
            rw [hQQ] at hiu ⊢
            rw [← HM.out.1] at hiu
            have HQQ := Lib.hid hiu
            clear hiu hQQ
            cases QQ with
            |false =>
             have HR := Lib.hid (And.intro (fun j (hj : j < k4 + 1) => if c : j < k4 then HNO.out j c else (show j = k4 by omega) ▸ HQQ.out) (And.intro bR4 (And.intro hbv4 hB)))
             clear bR4 hbv4 hB
             go_wp2
             go_roundw
             case rel => exact ⟨k4 + 1,by go_num,by have := HLT.out; omega,HR⟩
             case measure => have := HLT.out; simp [intOf]; omega
            |true =>
             have hcand : ∃ l,candL db 1 65535 47459388624896 9223372588214596859 = atI db k4 :: l := by
              have hkl : k4 < db.length := by rw [HDB.out.2.1]; exact HLT.out
              have hw4 := HDB.out.2.2 k4 hkl
              have hp4 := HGD.out.1.pos k4 hkl
              have hz : candK db 1 65535 47459388624896 9223372588214596859 k4 = [] := by
               unfold candK candL
               refine List.filter_eq_nil_iff.2 fun x hx => ?_
               obtain ⟨j,hj,e⟩ := List.getElem_of_mem hx
               rw [List.length_take] at hj
               rw [List.getElem_take,atI_get (by omega)] at e
               have h1 := HNO.out j (by omega)
               rw [e] at h1
               unfold inT
               have h2 : (x.hi == 47459388624896 && x.lo == 9223372588214596859) = false := h1
               rw [h2,Bool.and_false]
               simp
              have hin : inT 1 65535 47459388624896 9223372588214596859 (atI db k4) = true := by
               have h1 := HQQ.out
               unfold inT inB
               rw [show ((atI db k4).hi == 47459388624896 && (atI db k4).lo == 9223372588214596859) = true from h1]
               simp
               omega
              have hpre := candK_pre db 1 65535 47459388624896 9223372588214596859 (k4 + 1)
              rw [candK_succ db _ _ _ _ k4 hkl,hz,if_pos hin] at hpre
              exact ⟨_,by rw [hpre]; rfl⟩
             obtain ⟨lc9,hcand⟩ := hcand
             have hr4 := HR4.out.2 _ _ hcand
             have hw4 := HDB.out.2.2 k4 (by rw [HDB.out.2.1]; exact HLT.out)
             rw [HE.out] at hr4 hw4
             simp only at hr4 hw4
             have hha : ((ha.toNat : Nat) : Int) = ha := by omega
             have r0 : Y9.cell? ⟨R4,0,none⟩ = some (.int .i64 3) := by have h := bR4.cell (j := 0) (v := .int .i64 r4.kd) rfl; rw [hr4] at h; exact h
             have r2 : Y9.cell? ⟨R4,2,none⟩ = some (.int .u16 ha) := by have h := bR4.cell (j := 2) (v := .int .u16 (r4.ha : Nat)) rfl; rw [hr4] at h; simp only at h; rw [hha] at h; exact h
             have hvl : r4.vs = putB (HF db) 8 := by rw [hr4]
             have r3 : Y9.cell? ⟨R4,3,none⟩ = some (.slice ba4 8 bc4) := by have h := bR4.cell (j := 3) (v := .slice ba4 r4.vs.length bc4) rfl; rw [hvl,putB_len] at h; exact h
             rw [hvl,putB_len] at hbv4
             have d0 := kc HD0.out hB
             obtain ⟨HV,hHV⟩ : ∃ x,HF db = x := ⟨_,rfl⟩
             have hhs := fun W (hW : Below w.heap.size w W) => (HHF.out db).2 (some ⟨b,off,none⟩) dn dc W (HDB.out.1.dbs.below hW) HDB.out.2.1 (by have := HGD.out.2.2.2.1; omega) (fun i hi => HGD.out.1.len i (by rw [HDB.out.2.1]; exact hi)) HDB.out.2.2
             have hfl := (HHF.out db).1
             simp only [hHV] at hhs hfl hbv4
             have HHS := Lib.hid hhs
             have HPU := Lib.hid (fun W => put_any HV 8 hfl (by decide) W)
             have HBV := Lib.hid hbv4
             have hdr := (Below.refl Y9.heap.size Y9).drew
             have r0 := kc r0 hdr
             have r2 := kc r2 hdr
             have r3 := kc r3 hdr
             have d0 := kc d0 hdr
             have hVd := hdr
             have hBz := hB.trans (hdr.mono hB.size)
             have hBd := Below.refl Y9.drew.heap.size Y9.drew
             clear hcand hr4 hw4 hha hvl hHV hhs hfl hbv4 hdr bR4 hB
             go_upto_region 33 with fail
             refine wp_region_held_drew (S := (fun W' : World => W'.cell? ⟨R4,0,none⟩ = some (.int .i64 3) ∧ W'.cell? ⟨R4,2,none⟩ = some (.int .u16 ha) ∧ W'.cell? ⟨R4,3,none⟩ = some (.slice ba4 8 bc4) ∧ W'.cell? ⟨b,off + k4 * 5,none⟩ = some (.int .u16 ha))) (by kernel_rfl) (⟨kc r0 hBd,kc r2 hBd,kc r3 hBd,kc d0 hBd⟩) (fun hHeld => ?_)
             generalize World.drew _ = wd at hHeld r0 r2 r3 d0 hVd hBz hBd ⊢
             refine tkU 0 ?_
             refine tkU 1 ?_
             refine tkU 2 ?_
             refine tkU 3 ?_
             refine tkU 4 ?_
             refine tkU 5 ?_
             refine tkU 6 ?_
             refine tkU 7 ?_
             refine tkU 8 ?_
             refine tkU 9 ?_
             refine tkU 10 ?_
             refine tkU 11 ?_
             refine tkU 12 ?_
             refine tkU 13 ?_
             refine tkU 14 ?_
             refine tkU 15 ?_
             refine tkU 16 ?_
             refine rd1 17 fun K hK => ?_
             go_simp
             go_at_call 16
             refine (HHS.out _ hBz).mono ?_
             rintro e w5 ⟨rfl,hC⟩
             have hBz := hBz.trans (hC.mono hBz.size)
             have hBd := hBd.trans (hC.mono hBd.size)
             clear hC
             clear hHeld
             refine hK.out _ _ (⟨kc r0 hBd,kc r2 hBd,kc r3 hBd,kc d0 hBd⟩) (fun hHeld => ?_)
             clear hK K
             try simp only [Act.put,List.setIfInBounds_toArray,List.set_cons_zero,List.set_cons_succ]
             refine rd1 18 fun K hK => ?_
             go_simp
             go_at_call 15
             refine (HPU.out _).mono ?_
             rintro e w6 ⟨pv6,rfl,hown,hC⟩
             obtain ⟨pa6,pc6,rfl⟩ := own_form hown
             have hBz := hBz.trans (hC.mono hBz.size)
             have hBd := hBd.trans (hC.mono hBd.size)
             have hby6 : BytesAt w6 (.slice pa6 8 pc6) (putB HV 8) := ⟨by have h := SR.of_own hown (bcells_one _) (by decide); rw [putB_len]; exact h,by rw [putB_len]; decide,putB_lt _ _⟩
             clear hC hown
             clear hHeld
             refine hK.out _ _ (⟨kc r0 hBd,kc r2 hBd,kc r3 hBd,kc d0 hBd⟩) (fun hHeld => ?_)
             clear hK K
             try simp only [Act.put,List.setIfInBounds_toArray,List.set_cons_zero,List.set_cons_succ]
             refine rd1 19 fun K hK => ?_
             go_simp
             go_at_call 14
             refine (same_any (.slice ba4 8 bc4) (.slice pa6 8 pc6) (putB HV 8) (putB HV 8) _ (((HBV.out.below hVd).below hBd).at) hby6).mono ?_
             rintro e w7 ⟨rfl,rfl⟩
             rw [decide_eq_true rfl]
             clear hHeld
             refine hK.out _ _ (⟨kc r0 hBd,kc r2 hBd,kc r3 hBd,kc d0 hBd⟩) (fun hHeld => ?_)
             clear hK K
             try simp only [Act.put,List.setIfInBounds_toArray,List.set_cons_zero,List.set_cons_succ]
             refine tkU 20 ?_
             refine tkU 21 ?_
             refine rd1 22 fun K hK => ?_
             go_simp
             go_at_call 7
             refine (example_any _).mono ?_
             rintro e w8 ⟨rfl,hC⟩
             have hBz := hBz.trans (hC.mono hBz.size)
             have hBd := hBd.trans (hC.mono hBd.size)
             clear hC
             clear hHeld
             refine hK.out _ _ (⟨kc r0 hBd,kc r2 hBd,kc r3 hBd,kc d0 hBd⟩) (fun hHeld => ?_)
             clear hK K
             try simp only [Act.put,List.setIfInBounds_toArray,List.set_cons_zero,List.set_cons_succ]
             refine tkU 23 ?_
             refine tkU 24 ?_
             refine wpAnyH_done (by kernel_rfl) ?_ _
             clear hHeld
             go_wp2
             go_ret
             exact ⟨rfl,hBz⟩
          ·obtain rfl : k4 = dn := by omega
           have g1 : decide (k4 < k4) = false := by simp
           have g1i : decide ((k4 : Int) < (k4 : Int)) = false := by simp
           have hz : candL db 1 65535 47459388624896 9223372588214596859 = [] := by
            unfold candL
            refine List.filter_eq_nil_iff.2 fun x hx => ?_
            obtain ⟨j,hj,e⟩ := List.getElem_of_mem hx
            rw [atI_get hj] at e
            have h1 := HNO.out j (by rw [← HDB.out.2.1]; exact hj)
            rw [e] at h1
            unfold inT
            have h2 : (x.hi == 47459388624896 && x.lo == 9223372588214596859) = false := h1
            rw [h2,Bool.and_false]
            simp
           have hr4 := HR4.out.1 hz
           have r0 : wr.cell? ⟨R4,0,none⟩ = some (.int .i64 5) := by have h := bR4.cell (j := 0) (v := .int .i64 r4.kd) rfl; rw [hr4] at h; exact h
           have r5 : wr.cell? ⟨R4,5,none⟩ = some (.int .i64 10) := by have h := bR4.cell (j := 5) (v := .int .i64 r4.co) rfl; rw [hr4] at h; exact h
           clear hz hr4 bR4 hbv4 hlt hk4
           go_wp2_with fail
           refine (example_any _).mono ?_
           rintro e wz ⟨rfl,hBz⟩
           have hB := hB.trans (hBz.mono hB.size)
           clear hBz r0 r5
           go_wp2
           go_ret
           exact ⟨rfl,hB⟩
    ·have hF : ∀ (a b c : Bool),¬ (a = true ∧ b = false ∧ c = false) → (!a || (b || c)) = true := by decide
     have hF := hF _ _ _ hgo
     clear hgo
     cases B <;> cases C1 <;> cases C2
     all_goals first
      |exact absurd hF (by decide)
      |(clear hF
        go_wp2_with fail
        refine (example_any _).mono ?_
        rintro e wz ⟨rfl,hBz⟩
        have hB := hB.trans (hBz.mono hB.size)
        clear hBz
        go_wp2
        go_ret
        exact ⟨rfl,hB⟩)
end Go.Proofs.YtldcihjddebciaaGreat
