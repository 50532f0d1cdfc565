/- server: read and writable, by its reference. -/
import Derived.Test.YtldcihjddebciaaGreatVSdH
import Derived.Deep.MidRow
set_option linter.unusedSimpArgs false
set_option linter.unusedVariables false
set_option maxRecDepth 100000
set_option maxHeartbeats 4000000
namespace Go.Proofs.YtldcihjddebciaaGreat
open Go.RowKit
/-- attributes that a server may hold -/
structure DbOk (db : List At) : Prop where
 n : db.length ≤ 1000
 len : ∀ i,i < db.length → (atI db i).bs.length ≤ 512
 prm : ∀ i,i < db.length → 0 ≤ (atI db i).pe ∧ (atI db i).pe ≤ 15
theorem fI_pos {db : List At} {h : Int} {K : Nat} (hK : findN db h = K) (hi : K < db.length) : fI db h = (K : Int) := by
 unfold fI
 rw [hK,if_pos hi]
theorem fI_neg {db : List At} {h : Int} {K : Nat} (hK : findN db h = K) (hi : ¬ K < db.length) : fI db h = -1 := by
 unfold fI
 rw [hK,if_neg hi]
theorem vread_any (s : Ss) (da : Option Addr) (dn dc : Nat) (qa : Option Addr) (qn qc : Nat) (ua : Option Addr) (un uc : Nat) (oa : Option Addr) (on oc : Nat) (p : Pd) (pa : Option Addr) (pn pc : Nat) (ia : Option Addr) (ino ic : Nat) (w : World) (hd : Dbs w (.slice da dn dc) s.db) (hn : s.db.length = dn) (hdk : DbOk s.db) (hk : p.kd = 10 ∨ p.kd = 12) (hof : 0 ≤ p.of ∧ p.of ≤ 65535) (hpl : findN s.db p.ha < s.db.length → plainA (atI s.db (findN s.db p.ha))) :
 Calls Tryz.prog 50 #[.agg #[.slice da dn dc,.int .i64 s.mt,.int .i64 s.mx,.int .i64 2,.slice qa qn qc,.int .i64 2,.bool false,.slice ua un uc,.slice oa on oc,.bool false,.int .i64 0],.agg #[.int .i64 p.kd,.int .i64 p.ask,.int .u16 p.ha,.int .u16 p.la,.int .u64 p.hi,.int .u64 p.lo,.int .i64 p.of,.int .i64 p.mt,.int .i64 p.co,.bool p.cm,.slice pa pn pc,.slice ia ino ic]] w fun e w' => ∃ v,e = .returned v ∧ AnsV w.heap.size w' v (readS s p) [] ∧ Below w.heap.size w w' := by
 obtain ⟨hdn,hdl,hdp⟩ := hdk
 have HD := Lib.hid hd
 have HN := Lib.hid hn
 have HF := Lib.hid (fun W (hW : Below w.heap.size w W) => find_any da dn dc s.db p.ha W (hd.below hW) hn (by omega))
 obtain ⟨K,hK⟩ : ∃ K,findN s.db p.ha = K := ⟨_,rfl⟩
 have HP := Lib.hid hpl
 by_cases hi : K < dn
 rotate_left
 ·have hfi := fI_neg hK (by rw [hn]; exact hi)
  simp only [hfi] at HF
  have hrs : readS s p = errP p p.ha 1 := by
   unfold readS
   rw [hK,hn,if_neg hi]
  rw [hrs]
  have bS := (Blk.new w 57 [.slice da dn dc,.int .i64 s.mt,.int .i64 s.mx,.int .i64 2,.slice qa qn qc,.int .i64 2,.bool false,.slice ua un uc,.slice oa on oc,.bool false,.int .i64 0]).alloc (.cells #[.int .i64 p.kd,.int .i64 p.ask,.int .u16 p.ha,.int .u16 p.la,.int .u64 p.hi,.int .u64 p.lo,.int .i64 p.of,.int .i64 p.mt,.int .i64 p.co,.bool p.cm,.slice pa pn pc,.slice ia ino ic] 49)
  have bP := Blk.new (w.alloc (.cells #[.slice da dn dc,.int .i64 s.mt,.int .i64 s.mx,.int .i64 2,.slice qa qn qc,.int .i64 2,.bool false,.slice ua un uc,.slice oa on oc,.bool false,.int .i64 0] 57)) 49 [.int .i64 p.kd,.int .i64 p.ask,.int .u16 p.ha,.int .u16 p.la,.int .u64 p.hi,.int .u64 p.lo,.int .i64 p.of,.int .i64 p.mt,.int .i64 p.co,.bool p.cm,.slice pa pn pc,.slice ia ino ic]
  have hB := ((Below.refl w.heap.size w).alloc (Nat.le_refl _) (.cells #[.slice da dn dc,.int .i64 s.mt,.int .i64 s.mx,.int .i64 2,.slice qa qn qc,.int .i64 2,.bool false,.slice ua un uc,.slice oa on oc,.bool false,.int .i64 0] 57)).alloc (by simp) (.cells #[.int .i64 p.kd,.int .i64 p.ask,.int .u16 p.ha,.int .u16 p.la,.int .u64 p.hi,.int .u64 p.lo,.int .i64 p.of,.int .i64 p.mt,.int .i64 p.co,.bool p.cm,.slice pa pn pc,.slice ia ino ic] 49)
  have hz : (w.alloc (.cells #[.slice da dn dc,.int .i64 s.mt,.int .i64 s.mx,.int .i64 2,.slice qa qn qc,.int .i64 2,.bool false,.slice ua un uc,.slice oa on oc,.bool false,.int .i64 0] 57)).heap.size = w.heap.size + 1 := by simp
  rw [hz] at bP
  clear hz
  clear hd hn hdl hdp hdn hk hof hpl HD HN HP hK hi hfi hrs
  go_enter Tryz.func50,Tryz.ntmps50
  go_upto_region 1 with fail
  generalize hX : World.alloc (World.alloc w _) _ = V at bS bP hB ⊢
  have m0 := bS.cell (j := 0) (v := .slice da dn dc) rfl
  have n2 := bP.cell (j := 2) (v := .int .u16 p.ha) rfl
  clear hX
  go_wp2_with fail
  refine (HF.out _ hB).mono ?_
  rintro e w2 ⟨rfl,rfl⟩
  clear n2
  have rgP := bP.range 0 [.int .i64 p.kd,.int .i64 p.ask,.int .u16 p.ha,.int .u16 p.la,.int .u64 p.hi,.int .u64 p.lo,.int .i64 p.of,.int .i64 p.mt,.int .i64 p.co,.bool p.cm,.slice pa pn pc,.slice ia ino ic] (fun j v hv => by rw [Nat.zero_add]; exact hv)
  have n2 := bP.cell (j := 2) (v := .int .u16 p.ha) rfl
  go_wp2_with (refine wpList_load_mid rfl 49 _ rfl (w.heap.size + 1) 0 rfl [.int .i64 p.kd,.int .i64 p.ask,.int .u16 p.ha,.int .u16 p.la,.int .u64 p.hi,.int .u64 p.lo,.int .i64 p.of,.int .i64 p.mt,.int .i64 p.co,.bool p.cm,.slice pa pn pc,.slice ia ino ic] _ rgP Tryz.underlying49 rfl (by kernel_rfl) ?_)
  refine (refuse_any p pa pn pc ia ino ic p.ha 1 _).mono ?_
  rintro e w9 ⟨v9,rfl,hA9,hC⟩
  have hB9 := hB.trans (hC.mono hB.size)
  clear hC rgP n2
  go_wp2
  go_ret
  exact ⟨_,rfl,hA9.mono hB.size,hB9⟩
 have hfi := fI_pos hK (by rw [hn]; exact hi)
 simp only [hfi] at HF
 obtain ⟨b,off,rfl,hb,hat⟩ := hd.at hn (by omega)
 obtain ⟨ra,rc,d0,d1,d2,d3,d4,hcap,hby⟩ := hat K hi
 have h512 := hdl K (by omega)
 have hprm := hdp K (by omega)
 rw [hK,hn] at hpl
 have hpA := hpl hi
 have HSH := Lib.hid (fun W (hW : Below w.heap.size w W) => shown_any s (some ⟨b,off,none⟩) dn dc qa qn qc ua un uc oa on oc s.db K W (hd.below hW) hn hi hpA)
 have hsi : ∀ x,atI s.db K = x → readS s p = if rdB x = true then (if (x.bs.length : Int) < p.of then errP p p.ha 7 else { pd0 with kd := p.kd + 1,vs := (x.bs.drop p.of.toNat).take (roomN (p.kd + 1) s.mt) }) else errP p p.ha 2 := by
  intro x hx
  unfold readS
  rw [hK,hn,if_pos hi,hx]
 obtain ⟨⟨ha,hi',lo,pe,bs⟩,he⟩ : ∃ r,atI s.db K = r := ⟨_,rfl⟩
 have hrs := hsi _ he
 rw [he] at d0 d1 d2 d3 d4 hby hcap h512 hprm HSH
 simp only at d0 d1 d2 d3 d4 hby hcap h512 hprm HSH hrs
 obtain ⟨RS,hRS⟩ : ∃ x,readS s p = x := ⟨_,rfl⟩
 rw [hRS] at hrs ⊢
 obtain ⟨L,hL⟩ : ∃ L,bs.length = L := ⟨_,rfl⟩
 rw [hL] at d4 hcap h512 hrs HSH
 have HL := Lib.hid hL
 have rgA : w.rangeAt b (off + K * 5) [.int .u16 ha,.int .u64 hi',.int .u64 lo,.int .i64 pe,.slice ra L rc] := fun j v hv => by
  match j,hv with
  |0,hv => cases hv; exact d0
  |1,hv => cases hv; exact d1
  |2,hv => cases hv; exact d2
  |3,hv => cases hv; exact d3
  |4,hv => cases hv; exact d4
 have hi0 : (0 : Int) ≤ (K : Int) := by omega
 have hi1 : (K : Int) < (dn : Int) := by omega
 have gk : decide ((K : Int) < 0) = false := by simp
 obtain ⟨AC,hAC⟩ : ∃ x,accI pe 1 = x := ⟨_,rfl⟩
 have HAC := Lib.hid (fun W => access_any s (some ⟨b,off,none⟩) dn dc qa qn qc ua un uc oa on oc ha hi' lo pe ra L rc 1 (.inl rfl) hprm W)
 simp only [hAC] at HAC
 have hac : AC = if pe % 2 == 1 then 0 else 2 := by rw [← hAC]; rfl
 have bS := (Blk.new w 57 [.slice (some ⟨b,off,none⟩) dn dc,.int .i64 s.mt,.int .i64 s.mx,.int .i64 2,.slice qa qn qc,.int .i64 2,.bool false,.slice ua un uc,.slice oa on oc,.bool false,.int .i64 0]).alloc (.cells #[.int .i64 p.kd,.int .i64 p.ask,.int .u16 p.ha,.int .u16 p.la,.int .u64 p.hi,.int .u64 p.lo,.int .i64 p.of,.int .i64 p.mt,.int .i64 p.co,.bool p.cm,.slice pa pn pc,.slice ia ino ic] 49)
 have bP := Blk.new (w.alloc (.cells #[.slice (some ⟨b,off,none⟩) dn dc,.int .i64 s.mt,.int .i64 s.mx,.int .i64 2,.slice qa qn qc,.int .i64 2,.bool false,.slice ua un uc,.slice oa on oc,.bool false,.int .i64 0] 57)) 49 [.int .i64 p.kd,.int .i64 p.ask,.int .u16 p.ha,.int .u16 p.la,.int .u64 p.hi,.int .u64 p.lo,.int .i64 p.of,.int .i64 p.mt,.int .i64 p.co,.bool p.cm,.slice pa pn pc,.slice ia ino ic]
 have hB := ((Below.refl w.heap.size w).alloc (Nat.le_refl _) (.cells #[.slice (some ⟨b,off,none⟩) dn dc,.int .i64 s.mt,.int .i64 s.mx,.int .i64 2,.slice qa qn qc,.int .i64 2,.bool false,.slice ua un uc,.slice oa on oc,.bool false,.int .i64 0] 57)).alloc (by simp) (.cells #[.int .i64 p.kd,.int .i64 p.ask,.int .u16 p.ha,.int .u16 p.la,.int .u64 p.hi,.int .u64 p.lo,.int .i64 p.of,.int .i64 p.mt,.int .i64 p.co,.bool p.cm,.slice pa pn pc,.slice ia ino ic] 49)
 have hz : (w.alloc (.cells #[.slice (some ⟨b,off,none⟩) dn dc,.int .i64 s.mt,.int .i64 s.mx,.int .i64 2,.slice qa qn qc,.int .i64 2,.bool false,.slice ua un uc,.slice oa on oc,.bool false,.int .i64 0] 57)).heap.size = w.heap.size + 1 := by simp
 rw [hz] at bP
 clear hz
 have HK := Lib.hid hk
 have HOF := Lib.hid hof
 have H512 := Lib.hid h512
 have HRS := Lib.hid (And.intro hac hrs)
 have HBY := Lib.hid hby
 clear hd hn hdl hdp hdn hk hof hpl hpA HP HD HN hK hi hfi hat d0 d1 d2 d3 d4 hcap h512 hprm hsi he hRS hL hAC hac hrs hby
 go_enter Tryz.func50,Tryz.ntmps50
 go_upto_region 1 with fail
 generalize hX : World.alloc (World.alloc w _) _ = V at bS bP hB ⊢
 have m0 := bS.cell (j := 0) (v := .slice (some ⟨b,off,none⟩) dn dc) rfl
 have n2 := bP.cell (j := 2) (v := .int .u16 p.ha) rfl
 have HS : Hid (∀ W,Below V.heap.size V W → (W.rangeAt w.heap.size 0 [.slice (some ⟨b,off,none⟩) dn dc,.int .i64 s.mt,.int .i64 s.mx,.int .i64 2,.slice qa qn qc,.int .i64 2,.bool false,.slice ua un uc,.slice oa on oc,.bool false,.int .i64 0] ∧ W.rangeAt b (off + K * 5) [.int .u16 ha,.int .u64 hi',.int .u64 lo,.int .i64 pe,.slice ra L rc] ∧ W.cell? ⟨w.heap.size,0,none⟩ = some (.slice (some ⟨b,off,none⟩) dn dc))) := Lib.hid (fun W hW => ⟨(bS.below hW).range 0 _ (fun j v hv => by rw [Nat.zero_add]; exact hv),range_keep (range_keep rgA hB) hW,kc m0 hW⟩)
 clear hX
 go_wp2_with fail
 refine (HF.out _ hB).mono ?_
 rintro e w2 ⟨rfl,rfl⟩
 go_upto_region 4 with fail
 have hBd := (Below.refl V.heap.size V).drew
 clear m0 n2
 refine wp_region_held_drew (S := (fun W' : World => W'.rangeAt w.heap.size 0 [.slice (some ⟨b,off,none⟩) dn dc,.int .i64 s.mt,.int .i64 s.mx,.int .i64 2,.slice qa qn qc,.int .i64 2,.bool false,.slice ua un uc,.slice oa on oc,.bool false,.int .i64 0] ∧ W'.rangeAt b (off + K * 5) [.int .u16 ha,.int .u64 hi',.int .u64 lo,.int .i64 pe,.slice ra L rc] ∧ W'.cell? ⟨w.heap.size,0,none⟩ = some (.slice (some ⟨b,off,none⟩) dn dc))) (by kernel_rfl) (HS.out _ hBd) (fun hHeld => ?_)
 generalize World.drew _ = wd at hHeld hBd ⊢
 refine tkN 0 57 w.heap.size 0 [.slice (some ⟨b,off,none⟩) dn dc,.int .i64 s.mt,.int .i64 s.mx,.int .i64 2,.slice qa qn qc,.int .i64 2,.bool false,.slice ua un uc,.slice oa on oc,.bool false,.int .i64 0] (fun _ h => h.1) Tryz.underlying57 ?_
 refine tkU 1 ?_
 refine tkU 2 ?_
 refine tkU 3 ?_
 refine tkU 4 ?_
 refine tkN 5 29 b (off + K * 5) [.int .u16 ha,.int .u64 hi',.int .u64 lo,.int .i64 pe,.slice ra L rc] (fun _ h => h.2.1) Tryz.underlying29 ?_
 refine rd1 6 fun K hK => ?_
 go_simp
 go_at_call 97
 refine (HAC.out _).mono ?_
 rintro e w3 ⟨rfl,hC⟩
 have hBd := hBd.trans (hC.mono hBd.size)
 clear hC
 clear hHeld
 refine hK.out _ _ (HS.out _ hBd) (fun hHeld => ?_)
 clear hK K
 try simp only [Act.put,List.setIfInBounds_toArray,List.set_cons_zero,List.set_cons_succ]
 refine tkU 7 ?_
 refine wpAnyH_done (by kernel_rfl) ?_ _
 have bS := bS.below hBd
 have bP := bP.below hBd
 have hB := hB.trans (hBd.mono hB.size)
 clear hHeld HS hBd
 obtain ⟨hac,hrs⟩ := HRS.out
 cases hr : (pe % 2 == 1) with
 |false =>
  rw [hr] at hac
  replace hac : AC = 2 := hac
  have hrs2 : RS = errP p p.ha 2 := by rw [hrs]; unfold rdB; simp only [hr]; rfl
  subst hac
  replace HRS := Lib.hid hrs2
  clear hr hrs hrs2 HAC
  have rgP := bP.range 0 [.int .i64 p.kd,.int .i64 p.ask,.int .u16 p.ha,.int .u16 p.la,.int .u64 p.hi,.int .u64 p.lo,.int .i64 p.of,.int .i64 p.mt,.int .i64 p.co,.bool p.cm,.slice pa pn pc,.slice ia ino ic] (fun j v hv => by rw [Nat.zero_add]; exact hv)
  have n2 := bP.cell (j := 2) (v := .int .u16 p.ha) rfl
  go_wp2_with (refine wpList_load_mid rfl 49 _ rfl (w.heap.size + 1) 0 rfl [.int .i64 p.kd,.int .i64 p.ask,.int .u16 p.ha,.int .u16 p.la,.int .u64 p.hi,.int .u64 p.lo,.int .i64 p.of,.int .i64 p.mt,.int .i64 p.co,.bool p.cm,.slice pa pn pc,.slice ia ino ic] _ rgP Tryz.underlying49 rfl (by kernel_rfl) ?_)
  refine (refuse_any p pa pn pc ia ino ic p.ha 2 _).mono ?_
  rintro e w9 ⟨v9,rfl,hA9,hC⟩
  have hB9 := hB.trans (hC.mono hB.size)
  clear hC rgP n2
  go_wp2
  go_ret
  exact ⟨_,rfl,by rw [HRS.out]; exact hA9.mono hB.size,hB9⟩
 |true =>
  rw [hr] at hac
  replace hac : AC = 0 := hac
  have hrs2 : RS = if (L : Int) < p.of then errP p p.ha 7 else { pd0 with kd := p.kd + 1,vs := (bs.drop p.of.toNat).take (roomN (p.kd + 1) s.mt) } := by rw [hrs]; unfold rdB; simp only [hr]; rfl
  subst hac
  clear hr hrs HRS HAC
  have HRS := Lib.hid hrs2
  clear hrs2
  have rgS := bS.range 0 [.slice (some ⟨b,off,none⟩) dn dc,.int .i64 s.mt,.int .i64 s.mx,.int .i64 2,.slice qa qn qc,.int .i64 2,.bool false,.slice ua un uc,.slice oa on oc,.bool false,.int .i64 0] (fun j v hv => by rw [Nat.zero_add]; exact hv)
  go_wp2_with (refine wpList_load_mid rfl 57 _ rfl w.heap.size 0 rfl [.slice (some ⟨b,off,none⟩) dn dc,.int .i64 s.mt,.int .i64 s.mx,.int .i64 2,.slice qa qn qc,.int .i64 2,.bool false,.slice ua un uc,.slice oa on oc,.bool false,.int .i64 0] _ rgS Tryz.underlying57 rfl (by kernel_rfl) ?_)
  refine (HSH.out _ hB).mono ?_
  rintro e w4 ⟨sa,sc,rfl,hsh,hC⟩
  have bS := bS.below hC
  have bP := bP.below hC
  have hB := hB.trans (hC.mono hB.size)
  have HV := Lib.hid hsh
  clear hC rgS HSH hsh
  have n5 := bP.cell (j := 6) (v := .int .i64 p.of) rfl
  by_cases hlt : (L : Int) < p.of
  ·have g1 : decide ((L : Int) < p.of) = true := by simpa using hlt
   have HLT := Lib.hid hlt
   clear hlt
   have rgP := bP.range 0 [.int .i64 p.kd,.int .i64 p.ask,.int .u16 p.ha,.int .u16 p.la,.int .u64 p.hi,.int .u64 p.lo,.int .i64 p.of,.int .i64 p.mt,.int .i64 p.co,.bool p.cm,.slice pa pn pc,.slice ia ino ic] (fun j v hv => by rw [Nat.zero_add]; exact hv)
   have n2 := bP.cell (j := 2) (v := .int .u16 p.ha) rfl
   go_wp2_with (refine wpList_load_mid rfl 49 _ rfl (w.heap.size + 1) 0 rfl [.int .i64 p.kd,.int .i64 p.ask,.int .u16 p.ha,.int .u16 p.la,.int .u64 p.hi,.int .u64 p.lo,.int .i64 p.of,.int .i64 p.mt,.int .i64 p.co,.bool p.cm,.slice pa pn pc,.slice ia ino ic] _ rgP Tryz.underlying49 rfl (by kernel_rfl) ?_)
   refine (refuse_any p pa pn pc ia ino ic p.ha 7 _).mono ?_
   rintro e w9 ⟨v9,rfl,hA9,hC⟩
   have hB9 := hB.trans (hC.mono hB.size)
   clear hC rgP n2
   go_wp2
   go_ret
   exact ⟨_,rfl,by rw [HRS.out,if_pos HLT.out]; exact hA9.mono hB.size,hB9⟩
  ·have g1 : decide ((L : Int) < p.of) = false := by simpa using hlt
   have hrs3 := HRS.out
   rw [if_neg hlt] at hrs3
   obtain ⟨O,hO⟩ : ∃ O : Nat,p.of = (O : Int) := ⟨p.of.toNat,by have := HOF.out; omega⟩
   rw [hO] at n5 g1 hlt
   have hOL : O ≤ L := by omega
   have hL' := HL.out
   have h512 := H512.out
   have hv := HV.out
   obtain ⟨a2,c2,hv2,hrun⟩ := bv_from hv hL' hOL
   obtain ⟨M,hM⟩ : ∃ M,L - O = M := ⟨_,rfl⟩
   rw [hM] at hv2 hrun
   have hdl : (bs.drop O).length = M := by rw [List.length_drop,hL',hM]
   have hra := HK.out
   have hrk : Rk p.kd := by unfold Rk; omega
   obtain ⟨hr1,hr2⟩ := hrk.ans
   have HRA := Lib.hid (fun W => ranswer_any p.kd hr2 W)
   simp only [hr1] at HRA
   obtain ⟨KD,hKD⟩ : ∃ x,p.kd + 1 = x := ⟨_,rfl⟩
   rw [hKD] at HRA
   obtain ⟨RM,hRM⟩ : ∃ x,roomI KD s.mt = x := ⟨_,rfl⟩
   have HRO := Lib.hid (fun W => rroom_any KD s.mt W)
   simp only [hRM] at HRO
   have HCU := Lib.hid (fun W (hW : Below w4.heap.size w4 W) => cut_any a2 M c2 (bs.drop O) RM W (hv2.below hW) hdl (by omega))
   have hgo : { pd0 with kd := p.kd + 1,vs := (bs.drop p.of.toNat).take (roomN (p.kd + 1) s.mt) } = { pd0 with kd := KD,vs := (bs.drop O).take RM.toNat } := by
    rw [hKD,hO,← hRM]
    rfl
   rw [hgo] at hrs3
   replace HRS := Lib.hid hrs3
   clear hrs3
   have n0 := bP.cell (j := 0) (v := .int .i64 p.kd) rfl
   have hO0 : (0 : Int) ≤ (O : Int) := by omega
   have hOL' : (O : Int) ≤ (L : Int) := by omega
   have HO := Lib.hid hO
   clear hlt hO hOL hL' h512 hv hM hdl hra hrk hr1 hr2 hKD hRM hgo HK HOF
   go_wp2_with fail
   refine (HRA.out _).mono ?_
   rintro e w5 ⟨rfl,rfl⟩
   go_upto_region 11 with fail
   have m1 := bS.cell (j := 1) (v := .int .i64 s.mt) rfl
   have n5 := bP.cell (j := 6) (v := .int .i64 (O : Int)) (by rw [← HO.out]; rfl)
   have HS : Hid (∀ W,Below w4.heap.size w4 W → (W.cell? ⟨w.heap.size,1,none⟩ = some (.int .i64 s.mt) ∧ W.cell? ⟨w.heap.size + 1,6,none⟩ = some (.int .i64 (O : Int)))) := Lib.hid (fun W hW => ⟨kc m1 hW,kc n5 hW⟩)
   have hBd := (Below.refl w4.heap.size w4).drew
   clear m1 n5 n0
   refine wp_region_held_drew (S := (fun W' : World => W'.cell? ⟨w.heap.size,1,none⟩ = some (.int .i64 s.mt) ∧ W'.cell? ⟨w.heap.size + 1,6,none⟩ = some (.int .i64 (O : Int)))) (by kernel_rfl) (HS.out _ hBd) (fun hHeld => ?_)
   generalize World.drew _ = wd at hHeld hBd ⊢
   refine tkU 0 ?_
   refine tkU 1 ?_
   refine tkU 2 ?_
   refine tkU 3 ?_
   refine tkU 4 ?_
   refine tkU 5 ?_
   refine tkU 6 ?_
   refine tkU 7 ?_
   refine rd1 8 fun K hK => ?_
   go_simp
   go_at_call 17
   refine (HRO.out _).mono ?_
   rintro e w6 ⟨rfl,rfl⟩
   clear hHeld
   refine hK.out _ _ (HS.out _ hBd) (fun hHeld => ?_)
   clear hK K
   try simp only [Act.put,List.setIfInBounds_toArray,List.set_cons_zero,List.set_cons_succ]
   refine rd1 9 fun K hK => ?_
   go_simp
   go_at_call 98
   refine (HCU.out _ hBd).mono ?_
   rintro e w7 ⟨v7,rfl,hv7,hC⟩
   have hBd := hBd.trans (hC.mono hBd.size)
   clear hC
   obtain ⟨a7,c7,e7⟩ := hv7.form
   obtain ⟨M7,hM7⟩ : ∃ x,((bs.drop O).take RM.toNat).length = x := ⟨_,rfl⟩
   rw [hM7] at e7
   subst e7
   clear hHeld
   refine hK.out _ _ (HS.out _ hBd) (fun hHeld => ?_)
   clear hK K
   try simp only [Act.put,List.setIfInBounds_toArray,List.set_cons_zero,List.set_cons_succ]
   refine tkU 10 ?_
   refine rd1 11 fun K hK => ?_
   go_simp
   generalize hX : World.alloc _ (.cells _ 49) = w8
   obtain ⟨hnb,hB4,hz4⟩ := alloc_named hX
   have hv8 := hv7.below hB4
   have hB8 := hBd.trans (hB4.mono hBd.size)
   have hlo := hB.size
   have hlo2 := hBd.size
   clear hX hz4
   clear hHeld
   refine hK.out _ _ (HS.out _ hB8) (fun hHeld => ?_)
   clear hK K
   try simp only [Act.put,List.setIfInBounds_toArray,List.set_cons_zero,List.set_cons_succ]
   refine tkU 12 ?_
   refine wpAnyH_done (by kernel_rfl) ?_ _
   clear hHeld HS
   go_wp2
   go_ret
   exact ⟨_,rfl,by rw [HRS.out]; exact ⟨_,.slice a7 M7 c7,.slice none 0 0,rfl,by omega,hnb,hv8,[],rfl,SR.nil _ 5,fun q hq => by cases hq⟩,hB.trans (hB8.mono hB.size)⟩
theorem vwritable_any (s : Ss) (da : Option Addr) (dn dc : Nat) (qa : Option Addr) (qn qc : Nat) (ua : Option Addr) (un uc : Nat) (oa : Option Addr) (on oc : Nat) (p : Pd) (pa : Option Addr) (pn pc : Nat) (ia : Option Addr) (ino ic : Nat) (w : World) (hd : Dbs w (.slice da dn dc) s.db) (hn : s.db.length = dn) (hdk : DbOk s.db) :
 Calls Tryz.prog 91 #[.agg #[.slice da dn dc,.int .i64 s.mt,.int .i64 s.mx,.int .i64 2,.slice qa qn qc,.int .i64 2,.bool false,.slice ua un uc,.slice oa on oc,.bool false,.int .i64 0],.agg #[.int .i64 p.kd,.int .i64 p.ask,.int .u16 p.ha,.int .u16 p.la,.int .u64 p.hi,.int .u64 p.lo,.int .i64 p.of,.int .i64 p.mt,.int .i64 p.co,.bool p.cm,.slice pa pn pc,.slice ia ino ic]] w fun e w' => e = .returned (.tuple #[.int .i64 (fI s.db p.ha),.int .i64 (if findN s.db p.ha < dn then accI (atI s.db (findN s.db p.ha)).pe 2 else 1)]) ∧ Below w.heap.size w w' := by
 obtain ⟨hdn,hdl,hdp⟩ := hdk
 have HD := Lib.hid hd
 have HN := Lib.hid hn
 have HF := Lib.hid (fun W (hW : Below w.heap.size w W) => find_any da dn dc s.db p.ha W (hd.below hW) hn (by omega))
 obtain ⟨K,hK⟩ : ∃ K,findN s.db p.ha = K := ⟨_,rfl⟩
 by_cases hi : K < dn
 rotate_left
 ·have hfi := fI_neg hK (by rw [hn]; exact hi)
  simp only [hfi] at HF
  rw [hK,if_neg hi,hfi]
  have bS := (Blk.new w 57 [.slice da dn dc,.int .i64 s.mt,.int .i64 s.mx,.int .i64 2,.slice qa qn qc,.int .i64 2,.bool false,.slice ua un uc,.slice oa on oc,.bool false,.int .i64 0]).alloc (.cells #[.int .i64 p.kd,.int .i64 p.ask,.int .u16 p.ha,.int .u16 p.la,.int .u64 p.hi,.int .u64 p.lo,.int .i64 p.of,.int .i64 p.mt,.int .i64 p.co,.bool p.cm,.slice pa pn pc,.slice ia ino ic] 49)
  have bP := Blk.new (w.alloc (.cells #[.slice da dn dc,.int .i64 s.mt,.int .i64 s.mx,.int .i64 2,.slice qa qn qc,.int .i64 2,.bool false,.slice ua un uc,.slice oa on oc,.bool false,.int .i64 0] 57)) 49 [.int .i64 p.kd,.int .i64 p.ask,.int .u16 p.ha,.int .u16 p.la,.int .u64 p.hi,.int .u64 p.lo,.int .i64 p.of,.int .i64 p.mt,.int .i64 p.co,.bool p.cm,.slice pa pn pc,.slice ia ino ic]
  have hB := ((Below.refl w.heap.size w).alloc (Nat.le_refl _) (.cells #[.slice da dn dc,.int .i64 s.mt,.int .i64 s.mx,.int .i64 2,.slice qa qn qc,.int .i64 2,.bool false,.slice ua un uc,.slice oa on oc,.bool false,.int .i64 0] 57)).alloc (by simp) (.cells #[.int .i64 p.kd,.int .i64 p.ask,.int .u16 p.ha,.int .u16 p.la,.int .u64 p.hi,.int .u64 p.lo,.int .i64 p.of,.int .i64 p.mt,.int .i64 p.co,.bool p.cm,.slice pa pn pc,.slice ia ino ic] 49)
  have hz : (w.alloc (.cells #[.slice da dn dc,.int .i64 s.mt,.int .i64 s.mx,.int .i64 2,.slice qa qn qc,.int .i64 2,.bool false,.slice ua un uc,.slice oa on oc,.bool false,.int .i64 0] 57)).heap.size = w.heap.size + 1 := by simp
  rw [hz] at bP
  clear hz
  clear hd hn hdl hdp hdn HD HN hK hi hfi
  go_enter Tryz.func91,Tryz.ntmps91
  go_upto_region 1 with fail
  generalize hX : World.alloc (World.alloc w _) _ = V at bS bP hB ⊢
  have m0 := bS.cell (j := 0) (v := .slice da dn dc) rfl
  have n2 := bP.cell (j := 2) (v := .int .u16 p.ha) rfl
  clear hX
  go_wp2_with fail
  refine (HF.out _ hB).mono ?_
  rintro e w2 ⟨rfl,rfl⟩
  go_wp2
  exact bodyPost_ret (v := .tuple #[.int .i64 (-1),.int .i64 1]) (by simp [results,Tryz.results91,go_sem] <;> rfl) rfl ⟨rfl,hB⟩
 have hfi := fI_pos hK (by rw [hn]; exact hi)
 simp only [hfi] at HF
 rw [hK,if_pos hi,hfi]
 obtain ⟨b,off,rfl,hb,hat⟩ := hd.at hn (by omega)
 obtain ⟨ra,rc,d0,d1,d2,d3,d4,hcap,hby⟩ := hat K hi
 have hprm := hdp K (by omega)
 obtain ⟨⟨ha,hi',lo,pe,bs⟩,he⟩ : ∃ r,atI s.db K = r := ⟨_,rfl⟩
 rw [he] at d0 d1 d2 d3 d4 hprm ⊢
 simp only at d0 d1 d2 d3 d4 hprm ⊢
 obtain ⟨L,hL⟩ : ∃ L,bs.length = L := ⟨_,rfl⟩
 rw [hL] at d4
 have rgA : w.rangeAt b (off + K * 5) [.int .u16 ha,.int .u64 hi',.int .u64 lo,.int .i64 pe,.slice ra L rc] := fun j v hv => by
  match j,hv with
  |0,hv => cases hv; exact d0
  |1,hv => cases hv; exact d1
  |2,hv => cases hv; exact d2
  |3,hv => cases hv; exact d3
  |4,hv => cases hv; exact d4
 have hi0 : (0 : Int) ≤ (K : Int) := by omega
 have hi1 : (K : Int) < (dn : Int) := by omega
 have gk : decide ((K : Int) < 0) = false := by simp
 obtain ⟨AC,hAC⟩ : ∃ x,accI pe 2 = x := ⟨_,rfl⟩
 have HAC := Lib.hid (fun W => access_any s (some ⟨b,off,none⟩) dn dc qa qn qc ua un uc oa on oc ha hi' lo pe ra L rc 2 (.inr rfl) hprm W)
 simp only [hAC] at HAC
 rw [hAC]
 have bS := (Blk.new w 57 [.slice (some ⟨b,off,none⟩) dn dc,.int .i64 s.mt,.int .i64 s.mx,.int .i64 2,.slice qa qn qc,.int .i64 2,.bool false,.slice ua un uc,.slice oa on oc,.bool false,.int .i64 0]).alloc (.cells #[.int .i64 p.kd,.int .i64 p.ask,.int .u16 p.ha,.int .u16 p.la,.int .u64 p.hi,.int .u64 p.lo,.int .i64 p.of,.int .i64 p.mt,.int .i64 p.co,.bool p.cm,.slice pa pn pc,.slice ia ino ic] 49)
 have bP := Blk.new (w.alloc (.cells #[.slice (some ⟨b,off,none⟩) dn dc,.int .i64 s.mt,.int .i64 s.mx,.int .i64 2,.slice qa qn qc,.int .i64 2,.bool false,.slice ua un uc,.slice oa on oc,.bool false,.int .i64 0] 57)) 49 [.int .i64 p.kd,.int .i64 p.ask,.int .u16 p.ha,.int .u16 p.la,.int .u64 p.hi,.int .u64 p.lo,.int .i64 p.of,.int .i64 p.mt,.int .i64 p.co,.bool p.cm,.slice pa pn pc,.slice ia ino ic]
 have hB := ((Below.refl w.heap.size w).alloc (Nat.le_refl _) (.cells #[.slice (some ⟨b,off,none⟩) dn dc,.int .i64 s.mt,.int .i64 s.mx,.int .i64 2,.slice qa qn qc,.int .i64 2,.bool false,.slice ua un uc,.slice oa on oc,.bool false,.int .i64 0] 57)).alloc (by simp) (.cells #[.int .i64 p.kd,.int .i64 p.ask,.int .u16 p.ha,.int .u16 p.la,.int .u64 p.hi,.int .u64 p.lo,.int .i64 p.of,.int .i64 p.mt,.int .i64 p.co,.bool p.cm,.slice pa pn pc,.slice ia ino ic] 49)
 have hz : (w.alloc (.cells #[.slice (some ⟨b,off,none⟩) dn dc,.int .i64 s.mt,.int .i64 s.mx,.int .i64 2,.slice qa qn qc,.int .i64 2,.bool false,.slice ua un uc,.slice oa on oc,.bool false,.int .i64 0] 57)).heap.size = w.heap.size + 1 := by simp
 rw [hz] at bP
 clear hz
 clear hd hn hdl hdp hdn HD HN hK hi hfi hat d0 d1 d2 d3 d4 hcap hprm he hL hAC hby
 go_enter Tryz.func91,Tryz.ntmps91
 go_upto_region 1 with fail
 generalize hX : World.alloc (World.alloc w _) _ = V at bS bP hB ⊢
 have m0 := bS.cell (j := 0) (v := .slice (some ⟨b,off,none⟩) dn dc) rfl
 have n2 := bP.cell (j := 2) (v := .int .u16 p.ha) rfl
 have HS : Hid (∀ W,Below V.heap.size V W → (W.rangeAt w.heap.size 0 [.slice (some ⟨b,off,none⟩) dn dc,.int .i64 s.mt,.int .i64 s.mx,.int .i64 2,.slice qa qn qc,.int .i64 2,.bool false,.slice ua un uc,.slice oa on oc,.bool false,.int .i64 0] ∧ W.rangeAt b (off + K * 5) [.int .u16 ha,.int .u64 hi',.int .u64 lo,.int .i64 pe,.slice ra L rc] ∧ W.cell? ⟨w.heap.size,0,none⟩ = some (.slice (some ⟨b,off,none⟩) dn dc))) := Lib.hid (fun W hW => ⟨(bS.below hW).range 0 _ (fun j v hv => by rw [Nat.zero_add]; exact hv),range_keep (range_keep rgA hB) hW,kc m0 hW⟩)
 clear hX
 go_wp2_with fail
 refine (HF.out _ hB).mono ?_
 rintro e w2 ⟨rfl,rfl⟩
 go_upto_region 4 with fail
 have hBd := (Below.refl V.heap.size V).drew
 clear m0 n2
 refine wp_region_held_drew (S := (fun W' : World => W'.rangeAt w.heap.size 0 [.slice (some ⟨b,off,none⟩) dn dc,.int .i64 s.mt,.int .i64 s.mx,.int .i64 2,.slice qa qn qc,.int .i64 2,.bool false,.slice ua un uc,.slice oa on oc,.bool false,.int .i64 0] ∧ W'.rangeAt b (off + K * 5) [.int .u16 ha,.int .u64 hi',.int .u64 lo,.int .i64 pe,.slice ra L rc] ∧ W'.cell? ⟨w.heap.size,0,none⟩ = some (.slice (some ⟨b,off,none⟩) dn dc))) (by kernel_rfl) (HS.out _ hBd) (fun hHeld => ?_)
 generalize World.drew _ = wd at hHeld hBd ⊢
 refine tkU 0 ?_
 refine tkN 1 57 w.heap.size 0 [.slice (some ⟨b,off,none⟩) dn dc,.int .i64 s.mt,.int .i64 s.mx,.int .i64 2,.slice qa qn qc,.int .i64 2,.bool false,.slice ua un uc,.slice oa on oc,.bool false,.int .i64 0] (fun _ h => h.1) Tryz.underlying57 ?_
 refine tkU 2 ?_
 refine tkU 3 ?_
 refine tkU 4 ?_
 refine tkU 5 ?_
 refine tkN 6 29 b (off + K * 5) [.int .u16 ha,.int .u64 hi',.int .u64 lo,.int .i64 pe,.slice ra L rc] (fun _ h => h.2.1) Tryz.underlying29 ?_
 refine rd1 7 fun K hK => ?_
 go_simp
 go_at_call 97
 refine (HAC.out _).mono ?_
 rintro e w3 ⟨rfl,hC⟩
 have hBd := hBd.trans (hC.mono hBd.size)
 clear hC
 clear hHeld
 refine hK.out _ _ (HS.out _ hBd) (fun hHeld => ?_)
 clear hK K
 try simp only [Act.put,List.setIfInBounds_toArray,List.set_cons_zero,List.set_cons_succ]
 refine tkU 8 ?_
 refine tkU 9 ?_
 refine wpAnyH_done (by kernel_rfl) ?_ _
 have hB := hB.trans (hBd.mono hB.size)
 clear hHeld HS hBd
 go_wp2
 exact bodyPost_ret (v := .tuple #[.int .i64 (K : Int),.int .i64 AC]) (by simp [results,Tryz.results91,go_sem] <;> rfl) rfl ⟨rfl,hB⟩
end Go.Proofs.YtldcihjddebciaaGreat
