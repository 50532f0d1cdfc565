/- server: AttByType, by its reference. -/
import Derived.Test.YtldcihjddebciaaGreatDSeL
set_option linter.unusedSimpArgs false
set_option linter.unusedVariables false
set_option maxRecDepth 100000
set_option maxHeartbeats 8000000
namespace Go.Proofs.YtldcihjddebciaaGreat
open Go.RowKit
theorem OwB.mono {B B' : Nat} {w : World} {v : Value} {bs : List Nat} (h : OwB B w v bs) (hB : B' ≤ B) : OwB B' w v bs := ⟨⟨h.1.1,h.1.2.imp id (fun ⟨g,cap,cur,q1,q2,q3⟩ => ⟨g,cap,cur,q1,Nat.le_trans hB q2,q3⟩)⟩,h.2⟩
theorem shV_len (HF : List At → Nat) (db : List At) (x : At) (h : x.bs.length ≤ 512) : (shV HF db x).length ≤ 512 := by
 unfold shV
 split
 ·rw [putB_len]; omega
 ·exact h
theorem shown2_any {HF : List At → Nat} (hF : HashOk HF) (s : Ss) (da : Option Addr) (dn dc : Nat) (qa : Option Addr) (qn qc : Nat) (ua : Option Addr) (un uc : Nat) (oa : Option Addr) (on oc : Nat) (db : List At) (i : Nat) (w : World) (h : Dbs w (.slice da dn dc) db) (hn : db.length = dn) (hi : i < dn) (hm : dn ≤ 1000) (hl : ∀ i,i < dn → (atI db i).bs.length ≤ 512) (hw : DbW db) (hp : isU 47459388624896 (atI db i).hi (atI db i).lo = true ∨ plainA (atI db i)) :
 Calls Tryz.prog 99 #[.agg #[.slice da dn dc,.int .i64 s.mt,.int .i64 s.mx,.int .i64 2,.slice qa qn qc,.int .i64 2,.bool false,.slice ua un uc,.slice oa on oc,.bool false,.int .i64 0],.int .i64 i] w fun e w' => ∃ a c,e = .returned (.slice a (shV HF db (atI db i)).length c) ∧ BV w' (.slice a (shV HF db (atI db i)).length c) (shV HF db (atI db i)) ∧ Below w.heap.size w w' := by
 by_cases hu : isU 47459388624896 (atI db i).hi (atI db i).lo = true
 ·have e : shV HF db (atI db i) = putB (HF db) 8 := by unfold shV; rw [if_pos hu]
  rw [e,putB_len]
  exact shownH_any hF s da dn dc qa qn qc ua un uc oa on oc db i w h hn hi hu hm hl hw
 ·have e : shV HF db (atI db i) = (atI db i).bs := by unfold shV; rw [if_neg hu]
  rw [e]
  exact shown_any s da dn dc qa qn qc ua un uc oa on oc db i w h hn hi (hp.resolve_left hu)
theorem type45_any {HF : List At → Nat} (hF : HashOk HF) (s : Ss) (da : Option Addr) (dn dc : Nat) (qa : Option Addr) (qn qc : Nat) (ua : Option Addr) (un uc : Nat) (oa : Option Addr) (on oc : Nat) (p : Pd) (pa : Option Addr) (pn pc : Nat) (ia : Option Addr) (ino ic : Nat) (w : World) (hd : DbR w (.slice da dn dc) s.db) (hn : s.db.length = dn) (hg : Gdb s.db) (hw : DbW s.db) (hmt : 0 ≤ s.mt ∧ s.mt ≤ 100000) (hty : ∀ i,i < dn → inT p.ha p.la p.hi p.lo (atI s.db i) = true → rdB (atI s.db i) = true ∧ (isU 47459388624896 (atI s.db i).hi (atI s.db i).lo = true ∨ plainA (atI s.db i))) :
 Calls Tryz.prog 48 #[.agg #[.slice da dn dc,.int .i64 s.mt,.int .i64 s.mx,.int .i64 2,.slice qa qn qc,.int .i64 2,.bool false,.slice ua un uc,.slice oa on oc,.bool false,.int .i64 0],.agg #[.int .i64 p.kd,.int .i64 p.ask,.int .u16 p.ha,.int .u16 p.la,.int .u64 p.hi,.int .u64 p.lo,.int .i64 p.of,.int .i64 p.mt,.int .i64 p.co,.bool p.cm,.slice pa pn pc,.slice ia ino ic]] w fun e w' => ∃ v,e = .returned v ∧ AnsV w.heap.size w' v (typeS HF s p).1 (typeS HF s p).2 ∧ Below w.heap.size w w' := by
 obtain ⟨i0,hi0,hi1,hi2,hi3⟩ := info_parts Tryz.info_it
 obtain ⟨j0,hj0,hj1,hj2,hj3⟩ := info_parts Tryz.info_u8
 have bS := (Blk.new w 57 [.slice da dn dc,.int .i64 s.mt,.int .i64 s.mx,.int .i64 2,.slice qa qn qc,.int .i64 2,.bool false,.slice ua un uc,.slice oa on oc,.bool false,.int .i64 0]).alloc (.cells #[.int .i64 p.kd,.int .i64 p.ask,.int .u16 p.ha,.int .u16 p.la,.int .u64 p.hi,.int .u64 p.lo,.int .i64 p.of,.int .i64 p.mt,.int .i64 p.co,.bool p.cm,.slice pa pn pc,.slice ia ino ic] 49)
 have bP := Blk.new (w.alloc (.cells #[.slice da dn dc,.int .i64 s.mt,.int .i64 s.mx,.int .i64 2,.slice qa qn qc,.int .i64 2,.bool false,.slice ua un uc,.slice oa on oc,.bool false,.int .i64 0] 57)) 49 [.int .i64 p.kd,.int .i64 p.ask,.int .u16 p.ha,.int .u16 p.la,.int .u64 p.hi,.int .u64 p.lo,.int .i64 p.of,.int .i64 p.mt,.int .i64 p.co,.bool p.cm,.slice pa pn pc,.slice ia ino ic]
 have hB := ((Below.refl w.heap.size w).alloc (Nat.le_refl _) (.cells #[.slice da dn dc,.int .i64 s.mt,.int .i64 s.mx,.int .i64 2,.slice qa qn qc,.int .i64 2,.bool false,.slice ua un uc,.slice oa on oc,.bool false,.int .i64 0] 57)).alloc (by simp) (.cells #[.int .i64 p.kd,.int .i64 p.ask,.int .u16 p.ha,.int .u16 p.la,.int .u64 p.hi,.int .u64 p.lo,.int .i64 p.of,.int .i64 p.mt,.int .i64 p.co,.bool p.cm,.slice pa pn pc,.slice ia ino ic] 49)
 have hz1 : (w.alloc (.cells #[.slice da dn dc,.int .i64 s.mt,.int .i64 s.mx,.int .i64 2,.slice qa qn qc,.int .i64 2,.bool false,.slice ua un uc,.slice oa on oc,.bool false,.int .i64 0] 57)).heap.size = w.heap.size + 1 := by simp
 rw [hz1] at bP
 clear hz1
 have hm : dn ≤ 1000 := by have := hg.big; omega
 have HDB := Lib.hid (And.intro hd (And.intro hn (And.intro hg (And.intro hw hm))))
 have HTY := Lib.hid hty
 have HMT := Lib.hid hmt
 obtain ⟨CL,hCL⟩ : ∃ x,candL s.db p.ha p.la p.hi p.lo = x := ⟨_,rfl⟩
 have hfs : typeS HF s p = if ((CL.take (firstNo (tyC HF s CL) CL.length)).map (itT HF s)) = [] then (errP p p.ha 10,[]) else ({ pd0 with kd := 9 },(CL.take (firstNo (tyC HF s CL) CL.length)).map (itT HF s)) := by unfold typeS typeL; rw [hCL]
 obtain ⟨Fv,hFv⟩ : ∃ x,typeS HF s p = x := ⟨_,rfl⟩
 rw [hFv] at hfs ⊢
 have HFS := Lib.hid (And.intro hfs hCL)
 clear hfs hFv hCL hd hn hg hw hty hmt
 go_enter Tryz.func48,Tryz.ntmps48
 go_upto_region 1 with fail
 generalize hX : World.alloc (World.alloc w _) _ = w2 at bS bP hB ⊢
 clear hX
 have bO := Blk.new w2 49 [.int .i64 0,.int .i64 0,.int .u16 0,.int .u16 0,.int .u64 0,.int .u64 0,.int .i64 0,.int .i64 0,.int .i64 0,.bool false,.slice none 0 0,.slice none 0 0]
 have hBo := (Below.refl w2.heap.size w2).alloc (Nat.le_refl _) (.cells #[.int .i64 0,.int .i64 0,.int .u16 0,.int .u16 0,.int .u64 0,.int .u64 0,.int .i64 0,.int .i64 0,.int .i64 0,.bool false,.slice none 0 0,.slice none 0 0] 49)
 have hth := bO.there 0 12 (by simp)
 have one : (#[.int .i64 9,.int .i64 0,.int .u16 0,.int .u16 0,.int .u64 0,.int .u64 0,.int .i64 0,.int .i64 0,.int .i64 0,.bool false,.slice none 0 0,.slice none 0 0] : Array Value).all (·.oneCell') = true := by simp [Value.oneCell']
 go_upto_region 2 with (refine wpList_store_mid rfl 49 _ _ rfl w2.heap.size 0 #[.int .i64 9,.int .i64 0,.int .u16 0,.int .u16 0,.int .u64 0,.int .u64 0,.int .i64 0,.int .i64 0,.int .i64 0,.bool false,.slice none 0 0,.slice none 0 0] rfl rfl hth (by kernel_rfl) one ?_; simp only [Act.put]; generalize hW : World.setCells _ w2.heap.size 0 _ = w3; have HW := Lib.hid hW; clear hW)
 obtain ⟨hg3,bO⟩ := put_namedB bO HW.out rfl
 have hC := hBo.grown hg3 (by simp) (fun k hk => by cases hk; exact Nat.le_refl _)
 have hsz := hB.size
 have hs3 : w2.heap.size + 1 ≤ w3.heap.size := by have h := hg3.size; simpa using h
 have HB2 := Lib.hid hB
 have HSP := Lib.hid (And.intro bS (And.intro bP (And.intro bS.lt bP.lt)))
 obtain ⟨OB,hOB⟩ : ∃ x,w2.heap.size = x := ⟨_,rfl⟩
 have HOB := Lib.hid hOB
 rw [hOB] at bO hsz hC hs3 ⊢
 have HSZ := Lib.hid (And.intro hsz hs3)
 have HI4 := Lib.hid (And.intro bO hC)
 clear HW hg3 hBo hth one hOB hsz hs3 bO hC bS bP hB
 go_wp2_with fail
 go_loopw [6] (fun v W => ∃ (k : Nat) (ov : Value),v = .int .i64 k ∧ k ≤ dn ∧ Hid (ItO (OB + 1) W ov ((candK s.db p.ha p.la p.hi p.lo k).map (itT HF s)) ∧ (∀ j,j < (candK s.db p.ha p.la p.hi p.lo k).length → tyC HF s CL j = true) ∧ Blk W OB 49 [.int .i64 9,.int .i64 0,.int .u16 0,.int .u16 0,.int .u64 0,.int .u64 0,.int .i64 0,.int .i64 0,.int .i64 0,.bool false,.slice none 0 0,ov] ∧ Below OB w2 W)) (fun v _ => dn - (intOf v).toNat)
 case atStart => exact ⟨0,.slice none 0 0,by simp,Nat.zero_le _,Lib.hid ⟨ItO.nil _ _,fun j hj => absurd hj (by simp [candK,candL]),HI4.out.1,HI4.out.2⟩⟩
 case round =>
  obtain ⟨k,ov,rfl,hk,hinv⟩ := hrel
  obtain ⟨CK,hCK⟩ : ∃ x,candK s.db p.ha p.la p.hi p.lo k = x := ⟨_,rfl⟩
  rw [hCK] at hinv
  obtain ⟨ka,kc4,e⟩ := hinv.out.1.form
  obtain ⟨M,hM⟩ : ∃ x,CK.length = x := ⟨_,rfl⟩
  rw [List.length_map,hM] at e
  subst e
  rw [hM] at hinv
  have HCK := Lib.hid (And.intro hCK hM)
  have hM9 : M ≤ 1000 := by have h := candK_le s.db p.ha p.la p.hi p.lo k; rw [hCK,hM] at h; have := HDB.out.2.2.2.2; omega
  have HM9 := Lib.hid hM9
  have hIt := hinv.out.1
  have HFC := Lib.hid hinv.out.2.1
  have bO := hinv.out.2.2.1
  have hBW := hinv.out.2.2.2
  have bS := HSP.out.1.below (HOB.out ▸ hBW)
  have bP := HSP.out.2.1.below (HOB.out ▸ hBW)
  have m0 := bS.cell (j := 0) (v := .slice da dn dc) rfl
  have hdm := HDB.out.2.2.2.2
  clear hCK hM hM9 hinv
  by_cases hlt : k < dn
  ·have g2 : decide (k < dn) = true := by simpa using hlt
   have g2i : decide ((k : Int) < (dn : Int)) = true := by simp; omega
   have HLT := Lib.hid hlt
   obtain ⟨b,off,e,hb,hat⟩ := HDB.out.1.dbs.at HDB.out.2.1 (by omega)
   obtain ⟨ra,rc,d0,d1,d2,d3,d4,hcap,hby⟩ := hat k hlt
   have hBw := HB2.out.trans ((HOB.out ▸ hBW).mono HB2.out.size)
   have hsuc := candK_succ s.db p.ha p.la p.hi p.lo k (by rw [HDB.out.2.1]; exact hlt)
   have hcat := candK_at s.db p.ha p.la p.hi p.lo k (by rw [HDB.out.2.1]; exact hlt)
   have hl5 := HDB.out.2.2.1.len k (by rw [HDB.out.2.1]; exact hlt)
   rw [HCK.out.1] at hsuc hcat
   rw [HFS.out.2,HCK.out.2] at hcat
   obtain ⟨⟨ha,hh,lo,pe,bs⟩,he⟩ : ∃ r,atI s.db k = r := ⟨_,rfl⟩
   have HE0 := Lib.hid he
   rw [he] at d0 d1 d2 d3 d4 hby hcap hsuc hcat hl5
   simp only at d0 d1 d2 d3 d4 hby hcap hl5
   obtain ⟨L,hL⟩ : ∃ L,bs.length = L := ⟨_,rfl⟩
   rw [hL] at d4 hby hcap hl5
   have d0 := kc d0 hBw
   have d1 := kc d1 hBw
   have d2 := kc d2 hBw
   have d3 := kc d3 hBw
   have d4 := kc d4 hBw
   have HBY := Lib.hid (And.intro hby (And.intro hL hl5))
   obtain ⟨c1,hc1⟩ : ∃ x,decide (ha < (p.ha : Int)) = x := ⟨_,rfl⟩
   obtain ⟨c2,hc2⟩ : ∃ x,decide ((p.la : Int) < ha) = x := ⟨_,rfl⟩
   obtain ⟨c3,hc3⟩ : ∃ x,(hh == (p.hi : Int)) = x := ⟨_,rfl⟩
   obtain ⟨c4,hc4⟩ : ∃ x,(lo == (p.lo : Int)) = x := ⟨_,rfl⟩
   obtain ⟨IN,hIN⟩ : ∃ x,inT p.ha p.la p.hi p.lo ⟨ha,hh,lo,pe,bs⟩ = x := ⟨_,rfl⟩
   have hIN2 : IN = ((!c1 && !c2) && (c3 && c4)) := by
    rw [← hIN]
    unfold inT inB
    rw [← hc3,← hc4,← hc1,← hc2,dle,dle]
   rw [hIN] at hsuc hcat
   have hsvt : IN = true → rdB (atI s.db k) = true ∧ (isU 47459388624896 (atI s.db k).hi (atI s.db k).lo = true ∨ plainA (atI s.db k)) := fun h => HTY.out k HLT.out (by rw [HE0.out,hIN]; exact h)
   have HIN := Lib.hid (And.intro hIN2 (And.intro hsuc (And.intro hcat hsvt)))
   have hi0' : (0 : Int) ≤ (k : Int) := by omega
   have hi1' : (k : Int) < (dn : Int) := by omega
   have w1 : IntKind.i64.wrap ((k : Int) + 1) = (k : Int) + 1 := IntWalk.i64_in _ (by omega)
   subst e
   have hIt0 := hIt
   clear he hat hb hIN hIN2 hsuc hcat hsvt hlt hby hL hcap hl5 hBw hIt0
   go_upto_region 6 with fail
   generalize hX : World.alloc wr _ = X
   obtain ⟨hnb,hBx,-⟩ := alloc_named hX
   have bT : Blk X wr.heap.size 29 [.int .u16 ha,.int .u64 hh,.int .u64 lo,.int .i64 pe,.slice ra L rc] := hnb
   have hOl := bO.lt
   have hka : ∀ j,(Value.slice ka M kc4).ownBlock = some j → j < wr.heap.size := hIt.lt
   have hIt := hIt.below hBx
   have bO := bO.below hBx
   have bS := bS.below hBx
   have bP := bP.below hBx
   have hTO : OB < wr.heap.size := hOl
   have hBW := hBW.trans (hBx.mono (Nat.le_of_lt hOl))
   obtain ⟨TB,hTB⟩ : ∃ x,wr.heap.size = x := ⟨_,rfl⟩
   rw [hTB] at bT hTO hka ⊢
   have HTO := Lib.hid hTO
   have HKA := Lib.hid hka
   clear hX hnb hBx hOl hTB hTO hka m0 d0 d1 d2 d3 d4
   have n2 := bP.cell (j := 2) (v := .int .u16 p.ha) rfl
   have n3 := bP.cell (j := 3) (v := .int .u16 p.la) rfl
   have n4 := bP.cell (j := 4) (v := .int .u64 p.hi) rfl
   have n5 := bP.cell (j := 5) (v := .int .u64 p.lo) rfl
   have t0 := bT.cell (j := 0) (v := .int .u16 ha) rfl
   have t1 := bT.cell (j := 1) (v := .int .u64 hh) rfl
   have t2 := bT.cell (j := 2) (v := .int .u64 lo) rfl
   go_cut [41] (fun v wx => v = .bool (!IN) ∧ wx = X)
   case first =>
    clear bO bS bP bT hIt hBW
    cases c1 <;> cases c2 <;> cases c3 <;> cases c4
    all_goals
     go_wp2_with fail
     go_meet
     exact ⟨by rw [HIN.out.1]; rfl,rfl⟩
   case rest =>
    obtain ⟨rfl,rfl⟩ := hcut
    rename World => X
    clear n2 n3 n4 n5 t0 t1 t2 hc1 hc2 hc3 hc4
    cases IN with
    |false =>
     have hsuc := HIN.out.2.1
     simp only [Bool.false_eq_true,if_false,List.append_nil] at hsuc
     have HR : Hid (ItO (OB + 1) X (.slice ka M kc4) ((candK s.db p.ha p.la p.hi p.lo (k + 1)).map (itT HF s)) ∧ (∀ j,j < (candK s.db p.ha p.la p.hi p.lo (k + 1)).length → tyC HF s CL j = true) ∧ Blk X OB 49 [.int .i64 9,.int .i64 0,.int .u16 0,.int .u16 0,.int .u64 0,.int .u64 0,.int .i64 0,.int .i64 0,.int .i64 0,.bool false,.slice none 0 0,.slice ka M kc4] ∧ Below OB w2 X) := Lib.hid (by rw [hsuc]; exact ⟨hIt,by rw [HCK.out.2]; exact HFC.out,bO,hBW⟩)
     clear hsuc hIt bO bS bP bT hBW
     go_wp2
     go_roundw
     case rel => exact ⟨k + 1,_,by go_num,by have := HLT.out; omega,HR⟩
     case measure => have := HLT.out; simp [intOf]; omega
    |true =>
     obtain ⟨hcm,hcl⟩ := HIN.out.2.2.1 rfl
     obtain ⟨hrd,hsh⟩ := HIN.out.2.2.2 rfl
     have hprm := HDB.out.2.2.1.prm k (by rw [HDB.out.2.1]; exact HLT.out)
     rw [HE0.out] at hrd hprm
     have hac : accI pe 1 = 0 := by unfold accI; rw [if_pos rfl]; unfold rdB at hrd; simp only at hrd; rw [hrd]; rfl
     have hacc := fun W => access_any s (some ⟨b,off,none⟩) dn dc qa qn qc ua un uc oa on oc ha hh lo pe ra L rc 1 (.inl rfl) hprm W
     simp only [hac] at hacc
     have HAC := Lib.hid hacc
     obtain ⟨SHV,hSHV⟩ : ∃ x,shV HF s.db (atI s.db k) = x := ⟨_,rfl⟩
     have hshn := fun W (hW : Below w.heap.size w W) => shown2_any hF s (some ⟨b,off,none⟩) dn dc qa qn qc ua un uc oa on oc s.db k W (HDB.out.1.dbs.below hW) HDB.out.2.1 HLT.out hdm (fun i hi => HDB.out.2.2.1.len i (by rw [HDB.out.2.1]; exact hi)) HDB.out.2.2.2.1 hsh
     simp only [hSHV] at hshn
     have hsl : SHV.length ≤ 512 := by rw [← hSHV]; exact shV_len HF s.db _ (HDB.out.2.2.1.len k (by rw [HDB.out.2.1]; exact HLT.out))
     obtain ⟨SL,hSL⟩ : ∃ x,SHV.length = x := ⟨_,rfl⟩
     rw [hSL] at hshn hsl
     have HSH := Lib.hid hshn
     have HSL := Lib.hid (And.intro hSHV (And.intro hSL hsl))
     have rgS := bS.range 0 [.slice (some ⟨b,off,none⟩) dn dc,.int .i64 s.mt,.int .i64 s.mx,.int .i64 2,.slice qa qn qc,.int .i64 2,.bool false,.slice ua un uc,.slice oa on oc,.bool false,.int .i64 0] (fun j v hv => by rw [Nat.zero_add]; exact hv)
     have t0 := bT.cell (j := 0) (v := .int .u16 ha) rfl
     have t1 := bT.cell (j := 1) (v := .int .u64 hh) rfl
     have t2 := bT.cell (j := 2) (v := .int .u64 lo) rfl
     have t3 := bT.cell (j := 3) (v := .int .i64 pe) rfl
     have t4 := bT.cell (j := 4) (v := .slice ra L rc) rfl
     clear hrd hsh hprm hac hacc hSHV hshn hSL hsl
     go_wp2_with (refine wpList_load_mid rfl 57 _ rfl w.heap.size 0 rfl [.slice (some ⟨b,off,none⟩) dn dc,.int .i64 s.mt,.int .i64 s.mx,.int .i64 2,.slice qa qn qc,.int .i64 2,.bool false,.slice ua un uc,.slice oa on oc,.bool false,.int .i64 0] _ rgS Tryz.underlying57 rfl (by kernel_rfl) ?_)
     refine (HAC.out _).mono ?_
     rintro e w5 ⟨rfl,hC⟩
     have hOl := bO.lt
     have hIt := hIt.below hC
     have bO := bO.below hC
     have bS := bS.below hC
     have bP := bP.below hC
     have bT := bT.below hC
     have hBW := hBW.trans (hC.mono (Nat.le_of_lt hOl))
     have hBw := HB2.out.trans ((HOB.out ▸ hBW).mono HB2.out.size)
     clear hC hOl
     clear rgS t0 t1 t2 t3 t4 HAC
     go_upto_region 10 with fail
     have hIt := hIt.below (Below.refl _ _).drew
     have bO := bO.drew
     have bS := bS.drew
     have bP := bP.drew
     have bT := bT.drew
     have hBW := hBW.drew
     have hBw := hBw.drew
     have y1 : IntKind.i64.wrap (s.mt - 4) = s.mt - 4 := IntWalk.i64_in _ (by have := HMT.out; omega)
     obtain ⟨MN,hMN⟩ : ∃ x,min (s.mt - 4) 253 = x := ⟨_,rfl⟩
     have y2 : (if 253 < s.mt - 4 then 253 else s.mt - 4) = MN := by rw [← hMN]; split <;> omega
     have y3 : (if s.mt - 4 < 253 then s.mt - 4 else 253) = MN := by rw [← hMN]; split <;> omega
     have HMN := Lib.hid hMN
     refine wp_region_held_drew (S := (fun W' : World => W'.rangeAt w.heap.size 0 [.slice (some ⟨b,off,none⟩) dn dc,.int .i64 s.mt,.int .i64 s.mx,.int .i64 2,.slice qa qn qc,.int .i64 2,.bool false,.slice ua un uc,.slice oa on oc,.bool false,.int .i64 0] ∧ W'.cell? ⟨w.heap.size,1,none⟩ = some (.int .i64 s.mt))) (by kernel_rfl) (⟨bS.range 0 _ (fun j v hv => by rw [Nat.zero_add]; exact hv),bS.cell (j := 1) (v := .int .i64 s.mt) rfl⟩) (fun hHeld => ?_)
     generalize World.drew _ = wd at hHeld hIt bO bS bP bT hBW hBw ⊢
     refine tkN 0 57 w.heap.size 0 [.slice (some ⟨b,off,none⟩) dn dc,.int .i64 s.mt,.int .i64 s.mx,.int .i64 2,.slice qa qn qc,.int .i64 2,.bool false,.slice ua un uc,.slice oa on oc,.bool false,.int .i64 0] (fun _ h => h.1) Tryz.underlying57 ?_
     refine tkU 1 ?_
     refine tkU 3 ?_
     refine tkU 4 ?_
     refine tkU 5 ?_
     refine tkU 6 ?_
     refine rd1 2 fun K hK => ?_
     go_simp
     go_at_call 99
     refine (HSH.out _ hBw).mono ?_
     rintro e w6 ⟨sa,sc,rfl,hsv,hC⟩
     have hOl := bO.lt
     have hIt := hIt.below hC
     have bO := bO.below hC
     have bS := bS.below hC
     have bP := bP.below hC
     have bT := bT.below hC
     have hBW := hBW.trans (hC.mono (Nat.le_of_lt hOl))
     have hBw := HB2.out.trans ((HOB.out ▸ hBW).mono HB2.out.size)
     clear hC hOl
     clear hHeld
     refine hK.out _ _ (⟨bS.range 0 _ (fun j v hv => by rw [Nat.zero_add]; exact hv),bS.cell (j := 1) (v := .int .i64 s.mt) rfl⟩) (fun hHeld => ?_)
     clear hK K
     try simp only [Act.put,List.setIfInBounds_toArray,List.set_cons_zero,List.set_cons_succ]
     refine rd1 7 fun K hK => ?_
     go_simp
     go_at_call 98
     refine (cutO_any sa SL sc SHV MN _ hsv HSL.out.2.1 (by have := HSL.out.2.2; omega)).mono ?_
     rintro e w7 ⟨cv,rfl,hcv,hC⟩
     have hcv : OwB (OB + 1) w7 cv (SHV.take MN.toNat) := hcv.mono bO.lt
     have hOl := bO.lt
     have hIt := hIt.below hC
     have bO := bO.below hC
     have bS := bS.below hC
     have bP := bP.below hC
     have bT := bT.below hC
     have hBW := hBW.trans (hC.mono (Nat.le_of_lt hOl))
     have hBw := HB2.out.trans ((HOB.out ▸ hBW).mono HB2.out.size)
     clear hC hOl
     clear hHeld
     refine hK.out _ _ (⟨bS.range 0 _ (fun j v hv => by rw [Nat.zero_add]; exact hv),bS.cell (j := 1) (v := .int .i64 s.mt) rfl⟩) (fun hHeld => ?_)
     clear hK K
     try simp only [Act.put,List.setIfInBounds_toArray,List.set_cons_zero,List.set_cons_succ]
     refine tkU 8 ?_
     refine wpAnyH_done (by kernel_rfl) ?_ _
     obtain ⟨CV,hCV⟩ : ∃ x,SHV.take MN.toNat = x := ⟨_,rfl⟩
     rw [hCV] at hcv
     have hcut : cutV HF s (atI s.db k) = CV := by unfold cutV; rw [HSL.out.1,HMN.out,hCV]
     obtain ⟨L9,hL9⟩ : ∃ x,CV.length = x := ⟨_,rfl⟩
     obtain ⟨ca,cc,rfl⟩ := own_form hcv.1
     rw [hL9] at hcv ⊢
     have hcl9 : L9 ≤ 512 := by rw [← hL9,← hCV,List.length_take]; have := HSL.out.2; omega
     have HCV := Lib.hid (And.intro hcut (And.intro hL9 hcl9))
     have HCVO := Lib.hid hcv
     clear hHeld hsv y1 y2 y3 hMN hCV hcut hL9 hcl9
     obtain ⟨L0,hL0⟩ : ∃ x,(cutV HF s (atI CL 0)).length = x := ⟨_,rfl⟩
     obtain ⟨RM,hRM⟩ : ∃ x,roomI 9 s.mt = x := ⟨_,rfl⟩
     have hro := fun W => rroom_any 9 s.mt W
     simp only [hRM] at hro
     have HRO := Lib.hid hro
     obtain ⟨Q,hQ⟩ : ∃ x,tyC HF s CL M = x := ⟨_,rfl⟩
     have hq : Q = ((L9 == L0) && decide (((M : Int) + 1) * (2 + (L9 : Int)) ≤ RM)) := by
      rw [← hQ]
      unfold tyC
      rw [hcm,← HE0.out,HCV.out.1,HCV.out.2.1,hL0,hRM]
     have HQ := Lib.hid (And.intro hQ (And.intro hq hL0))
     have HCM := Lib.hid (And.intro hcm hcl)
     obtain ⟨N,hN⟩ : ∃ x,(M + 1) * (2 + L9) = x := ⟨_,rfl⟩
     have hNb : N ≤ 1001 * 514 := by rw [← hN]; exact Nat.mul_le_mul (by have := HM9.out; omega) (by have := HCV.out.2.2; omega)
     have hNi : ((M : Int) + 1) * (2 + (L9 : Int)) = (N : Int) := by rw [← hN]; simp
     have HNI := Lib.hid (And.intro hNi hNb)
     clear hcm hcl hL0 hRM hro hQ hq hN hcv
     go_upto_region 11 with fail
     rename World => X9
     go_cut [100] (fun v wx => v = .bool (!Q) ∧ Below X9.heap.size X9 wx)
     case first =>
      have y1 : IntKind.i64.wrap ((M : Int) + 1) = (M : Int) + 1 := IntWalk.i64_in _ (by have := HM9.out; omega)
      have y2 : IntKind.i64.wrap (2 + (L9 : Int)) = 2 + (L9 : Int) := IntWalk.i64_in _ (by have := HCV.out.2.2; omega)
      have y3 : IntKind.i64.wrap (((M : Int) + 1) * (2 + (L9 : Int))) = (N : Int) := by rw [hNi]; exact IntWalk.i64_in _ (by omega)
      obtain ⟨C3,hC3⟩ : ∃ x,decide (RM < (N : Int)) = x := ⟨_,rfl⟩
      have hC4 : decide ((N : Int) ≤ RM) = !C3 := by rw [← hC3]; by_cases h : RM < (N : Int) <;> simp [h] <;> omega
      have hq := HQ.out.2.1
      rw [hNi,hC4] at hq
      have HQ3 := Lib.hid hq
      have hdr := (Below.refl X9.heap.size X9).drew
      have m11 := kc (bO.cell (j := 11) (v := .slice ka M kc4) rfl) hdr
      have m17 := kc (bO.cell (j := 0) (v := .int .i64 9) rfl) hdr
      have m1 := kc (bS.cell (j := 1) (v := .int .i64 s.mt) rfl) hdr
      have hVd := hdr
      clear hNi hNb hC4 hq
      rcases Nat.eq_zero_or_pos M with hM0 | hM0
      ·have hll : L9 = L0 := by
        have h := HQ.out.2.2
        have h2 := HCM.out.1
        rw [hM0] at h2
        rw [h2] at h
        rw [← HE0.out,HCV.out.1,HCV.out.2.1] at h
        exact h
       have hq3 : Q = !C3 := by rw [HQ3.out,hll]; simp
       have HQ4 := Lib.hid hq3
       have g4 : decide (0 < M) = false := by simpa using hM0
       have g4i : decide ((0 : Int) < (M : Int)) = false := by simp; omega
       clear hll hq3 hM0 hdr bO bS bP bT hIt hBW
       refine wp_region_held_drew (S := (fun W' : World => W'.cell? ⟨OB,11,none⟩ = some (.slice ka M kc4) ∧ W'.cell? ⟨OB,0,none⟩ = some (.int .i64 9) ∧ W'.cell? ⟨w.heap.size,1,none⟩ = some (.int .i64 s.mt))) (by kernel_rfl) (⟨m11,m17,m1⟩) (fun hHeld => ?_)
       generalize World.drew _ = wd at hHeld m11 m17 m1 hVd ⊢
       refine tkU 0 ?_
       refine tkU 1 ?_
       refine tkU 2 ?_
       refine tkU 3 ?_
       refine tkU 4 ?_
       refine tkU 5 ?_
       refine tkU 6 ?_
       refine tkU 7 ?_
       refine tkV 8 ?_
       refine tkV 9 ?_
       refine tkV 10 ?_
       refine tkV 11 ?_
       refine tkV 12 ?_
       refine tkV 13 ?_
       refine tkV 14 ?_
       refine tkV 15 ?_
       refine tkV 16 ?_
       refine tkU 17 ?_
       refine tkU 18 ?_
       refine tkU 19 ?_
       refine tkU 20 ?_
       refine tkU 21 ?_
       refine tkU 22 ?_
       refine tkU 23 ?_
       refine tkU 24 ?_
       refine tkU 25 ?_
       refine tkU 26 ?_
       refine tkU 27 ?_
       refine tkU 28 ?_
       refine tkU 29 ?_
       refine tkU 30 ?_
       refine tkU 31 ?_
       refine rd1 32 fun K hK => ?_
       go_simp
       go_at_call 17
       refine (HRO.out _).mono ?_
       rintro e w7 ⟨rfl,rfl⟩
       clear hHeld
       refine hK.out _ _ (⟨m11,m17,m1⟩) (fun hHeld => ?_)
       clear hK K
       try simp only [Act.put,List.setIfInBounds_toArray,List.set_cons_zero,List.set_cons_succ]
       refine tkU 33 ?_
       refine tkU 34 ?_
       refine wpAnyH_done (by kernel_rfl) ?_ _
       clear hHeld
       go_wp2_with fail
       go_meet
       exact ⟨by rw [HQ4.out]; cases C3 <;> rfl,hVd⟩
      ·have g4 : decide (0 < M) = true := by simpa using hM0
       have g4i : decide ((0 : Int) < (M : Int)) = true := by simp; omega
       obtain ⟨g,cap,fa,fc,e,g4c⟩ := hIt.first (by rw [List.length_map,HCK.out.2]; exact hM0) (by rw [List.length_map,HCK.out.2]; exact HM9.out)
       simp only [Value.slice.injEq] at e
       obtain ⟨rfl,-,-⟩ := e
       have hf0 : ((CK.map (itT HF s)).getD 0 default).bs.length = L0 := by
        have h1 : 0 < CK.length := by rw [HCK.out.2]; exact hM0
        have h2 : atI CK 0 = atI CL 0 := by
         have h := candK_get s.db p.ha p.la p.hi p.lo k 0 (by rw [HCK.out.1]; exact h1)
         rw [HCK.out.1,HFS.out.2] at h
         exact h
        rw [List.getD_eq_getElem?_getD,List.getElem?_map,List.getElem?_eq_getElem h1]
        show (cutV HF s CK[0]).length = L0
        rw [atI_get h1,h2]
        exact HQ.out.2.2
       rw [hf0] at g4c
       have g4 := kc g4c hdr
       have hp0 : (0 : Int) < (M : Int) := by omega
       have hq3 := HQ3.out
       have HF0 := Lib.hid hq3
       clear hf0 g4c hq3 hdr bO bS bP bT hIt hBW
       by_cases hll : L9 = L0
       ·have b1 : (L9 != L0) = false := by simpa using hll
        have b2 : ((L9 : Int) != (L0 : Int)) = false := by rw [hll]; simp
        have b3 : (L9 == L0) = true := by simpa using hll
        have b4 : ((L9 : Int) == (L0 : Int)) = true := by rw [hll]; simp
        have b5 : decide (L9 = L0) = true := by simpa using hll
        have b6 : decide ((L9 : Int) = (L0 : Int)) = true := by rw [hll]; simp
        have HQ4 := Lib.hid (show Q = !C3 by rw [HF0.out,b3]; simp)
        clear hll
        refine wp_region_held_drew (S := (fun W' : World => W'.cell? ⟨OB,11,none⟩ = some (.slice (some ⟨g,0,none⟩) M kc4) ∧ W'.cell? ⟨g,4,none⟩ = some (.slice fa L0 fc) ∧ W'.cell? ⟨OB,0,none⟩ = some (.int .i64 9) ∧ W'.cell? ⟨w.heap.size,1,none⟩ = some (.int .i64 s.mt))) (by kernel_rfl) (⟨m11,g4,m17,m1⟩) (fun hHeld => ?_)
        generalize World.drew _ = wd at hHeld m11 g4 m17 m1 hVd ⊢
        refine tkU 0 ?_
        refine tkU 1 ?_
        refine tkU 2 ?_
        refine tkU 3 ?_
        refine tkU 4 ?_
        refine tkU 5 ?_
        refine tkU 6 ?_
        refine tkU 7 ?_
        refine tkU 8 ?_
        refine tkU 9 ?_
        refine tkU 10 ?_
        refine tkU 11 ?_
        refine tkU 12 ?_
        refine tkU 13 ?_
        refine tkU 14 ?_
        refine tkU 15 ?_
        refine tkU 16 ?_
        refine tkU 17 ?_
        refine tkU 18 ?_
        refine tkU 19 ?_
        refine tkU 20 ?_
        refine tkU 21 ?_
        refine tkU 22 ?_
        refine tkU 23 ?_
        refine tkU 24 ?_
        refine tkU 25 ?_
        refine tkU 26 ?_
        refine tkU 27 ?_
        refine tkU 28 ?_
        refine tkU 29 ?_
        refine tkU 30 ?_
        refine tkU 31 ?_
        refine rd1 32 fun K hK => ?_
        go_simp
        go_at_call 17
        refine (HRO.out _).mono ?_
        rintro e w7 ⟨rfl,rfl⟩
        clear hHeld
        refine hK.out _ _ (⟨m11,g4,m17,m1⟩) (fun hHeld => ?_)
        clear hK K
        try simp only [Act.put,List.setIfInBounds_toArray,List.set_cons_zero,List.set_cons_succ]
        refine tkU 33 ?_
        refine tkU 34 ?_
        refine wpAnyH_done (by kernel_rfl) ?_ _
        clear hHeld
        go_wp2_with fail
        go_meet
        exact ⟨by rw [HQ4.out]; cases C3 <;> rfl,hVd⟩
       ·have b1 : (L9 != L0) = true := by simpa using hll
        have b2 : ((L9 : Int) != (L0 : Int)) = true := by simp; omega
        have b3 : (L9 == L0) = false := by simpa using hll
        have b4 : ((L9 : Int) == (L0 : Int)) = false := by simp; omega
        have b5 : decide (L9 = L0) = false := by simpa using hll
        have b6 : decide ((L9 : Int) = (L0 : Int)) = false := by simp; omega
        have HQ4 := Lib.hid (show Q = false by rw [HF0.out,b3]; rfl)
        clear hll
        refine wp_region_held_drew (S := (fun W' : World => W'.cell? ⟨OB,11,none⟩ = some (.slice (some ⟨g,0,none⟩) M kc4) ∧ W'.cell? ⟨g,4,none⟩ = some (.slice fa L0 fc) ∧ W'.cell? ⟨OB,0,none⟩ = some (.int .i64 9) ∧ W'.cell? ⟨w.heap.size,1,none⟩ = some (.int .i64 s.mt))) (by kernel_rfl) (⟨m11,g4,m17,m1⟩) (fun hHeld => ?_)
        generalize World.drew _ = wd at hHeld m11 g4 m17 m1 hVd ⊢
        refine tkU 0 ?_
        refine tkU 1 ?_
        refine tkU 2 ?_
        refine tkU 3 ?_
        refine tkU 4 ?_
        refine tkU 5 ?_
        refine tkU 6 ?_
        refine tkU 7 ?_
        refine tkU 8 ?_
        refine tkU 9 ?_
        refine tkU 10 ?_
        refine tkU 11 ?_
        refine tkU 12 ?_
        refine tkU 13 ?_
        refine tkU 14 ?_
        refine tkU 15 ?_
        refine tkU 16 ?_
        refine tkU 17 ?_
        refine tkU 18 ?_
        refine tkU 19 ?_
        refine tkV 20 ?_
        refine tkV 21 ?_
        refine tkV 22 ?_
        refine tkV 23 ?_
        refine tkV 24 ?_
        refine tkV 25 ?_
        refine tkV 26 ?_
        refine tkV 27 ?_
        refine tkV 28 ?_
        refine tkV 29 ?_
        refine tkV 30 ?_
        refine tkV 31 ?_
        refine tkV 32 ?_
        refine tkV 33 ?_
        refine tkU 34 ?_
        refine wpAnyH_done (by kernel_rfl) ?_ _
        clear hHeld
        go_wp2_with fail
        go_meet
        exact ⟨by rw [HQ4.out]; rfl,hVd⟩
     case rest =>
      obtain ⟨rfl,hBx⟩ := hcut
      rename World => Y
      have hOl := bO.lt
      have hIt := hIt.below hBx
      have bO := bO.below hBx
      have bS := bS.below hBx
      have bP := bP.below hBx
      have bT := bT.below hBx
      have HCVY := HCVO.out.below hBx
      have hBW := hBW.trans (hBx.mono (Nat.le_of_lt hOl))
      clear hBx hOl hNi hNb hBw
      cases Q with
      |false =>
       have HFN : Hid (firstNo (tyC HF s CL) CL.length = M ∧ (CK = CL.take M ∧ CK.length = M)) := Lib.hid (by
        refine ⟨firstNo_eq (Nat.le_of_lt HCM.out.2) HFC.out (fun _ => HQ.out.1),?_,HCK.out.2⟩
        have h := candK_take s.db p.ha p.la p.hi p.lo k
        rw [HCK.out.1,HFS.out.2,HCK.out.2] at h
        exact h)
       clear bT HCVY
       rcases Nat.eq_zero_or_pos M with hM0 | hM0
       ·have g5 : (M == 0) = true := by simpa using hM0
        have g5i : ((M : Int) == 0) = true := by simp [hM0]
        have hfs := HFS.out.1
        rw [if_pos (by rw [HFN.out.1,hM0]; rfl)] at hfs
        have HF2 := Lib.hid hfs
        have m11 := bO.cell (j := 11) (v := .slice ka M kc4) rfl
        have rgP := bP.range 0 [.int .i64 p.kd,.int .i64 p.ask,.int .u16 p.ha,.int .u16 p.la,.int .u64 p.hi,.int .u64 p.lo,.int .i64 p.of,.int .i64 p.mt,.int .i64 p.co,.bool p.cm,.slice pa pn pc,.slice ia ino ic] (fun j v hv => by rw [Nat.zero_add]; exact hv)
        have n2 := bP.cell (j := 2) (v := .int .u16 p.ha) rfl
        have hB := HB2.out.trans ((HOB.out ▸ hBW).mono HB2.out.size)
        clear hM0 hfs hBW hIt bO bS bP
        go_wp2_with (refine wpList_load_mid rfl 49 _ rfl (w.heap.size + 1) 0 rfl [.int .i64 p.kd,.int .i64 p.ask,.int .u16 p.ha,.int .u16 p.la,.int .u64 p.hi,.int .u64 p.lo,.int .i64 p.of,.int .i64 p.mt,.int .i64 p.co,.bool p.cm,.slice pa pn pc,.slice ia ino ic] _ rgP Tryz.underlying49 rfl (by kernel_rfl) ?_)
        refine (refuse_any p pa pn pc ia ino ic p.ha 10 _).mono ?_
        rintro e w9 ⟨v9,rfl,hA9,hC⟩
        have hB9 := hB.trans (hC.mono hB.size)
        have hA9 := hA9.mono hB.size
        have HZ9 := Lib.hid (And.intro hA9 hB9)
        clear hC rgP n2 m11 hA9 hB9 hB
        go_wp2
        go_ret
        exact ⟨_,rfl,by rw [HF2.out]; exact HZ9.out.1,HZ9.out.2⟩
       ·have g5 : (M == 0) = false := by simpa using (show M ≠ 0 by omega)
        have g5i : ((M : Int) == 0) = false := by simp; omega
        have hfs := HFS.out.1
        rw [if_neg (fun e => by have h := congrArg List.length e; rw [HFN.out.1,← HFN.out.2.1,List.length_map,HFN.out.2.2] at h; simp at h; omega),HFN.out.1,← HFN.out.2.1] at hfs
        have HF2 := Lib.hid hfs
        have m11 := bO.cell (j := 11) (v := .slice ka M kc4) rfl
        have rgO := bO.range 0 [.int .i64 9,.int .i64 0,.int .u16 0,.int .u16 0,.int .u64 0,.int .u64 0,.int .i64 0,.int .i64 0,.int .i64 0,.bool false,.slice none 0 0,.slice ka M kc4] (fun j v hv => by rw [Nat.zero_add]; exact hv)
        have hB := HB2.out.trans ((HOB.out ▸ hBW).mono HB2.out.size)
        have HE := Lib.hid (And.intro hIt (And.intro hB bO.lt))
        have hOl := bO.lt
        clear hM0 hfs hBW hB hIt bS bP bO
        go_wp2_with (refine wpList_load_mid rfl 49 _ rfl OB 0 rfl [.int .i64 9,.int .i64 0,.int .u16 0,.int .u16 0,.int .u64 0,.int .u64 0,.int .i64 0,.int .i64 0,.int .i64 0,.bool false,.slice none 0 0,.slice ka M kc4] _ rgO Tryz.underlying49 rfl (by kernel_rfl) ?_)
        generalize hX : World.alloc _ (.cells _ 49) = w8
        obtain ⟨hnb,hBy,-⟩ := alloc_named hX
        have bN : Blk w8 Y.heap.size 49 (pdc { pd0 with kd := 9 } (.slice none 0 0) (.slice ka M kc4)) := hnb
        have hA : AnsV w.heap.size w8 (.slice (some ⟨Y.heap.size,0,none⟩) 1 1) Fv.1 Fv.2 := by
         rw [HF2.out]
         exact ⟨_,_,_,rfl,HE.out.2.1.size,bN,BV.nil _,(HE.out.1.below hBy).ans (by rw [List.length_map,HFN.out.2.2]; exact HM9.out)⟩
        have HZ9 := Lib.hid (And.intro hA (HE.out.2.1.trans (hBy.mono HE.out.2.1.size)))
        clear hX hnb hBy bN rgO hA m11
        go_wp2
        go_ret
        exact ⟨_,rfl,HZ9.out.1,HZ9.out.2⟩
      |true =>
       have t0 := bT.cell (j := 0) (v := .int .u16 ha) rfl
       have m11 := bO.cell (j := 11) (v := .slice ka M kc4) rfl
       have hcvY : OwB (OB + 1) Y (.slice ca L9 cc) CV := HCVY
       have hby : Below Y.heap.size Y (Y.alloc (.cells #[.int .u16 ha,.int .u16 0,.int .u64 0,.int .u64 0,.slice ca L9 cc] 142)) := (Below.refl _ _).alloc (Nat.le_refl _) _
       obtain ⟨qs,hqs,hown,hqv⟩ := hIt.below hby
       rw [List.length_map,HCK.out.2] at hown
       have hcv1 := hcvY.below hby
       have hsr : SR (Y.alloc (.cells #[.int .u16 ha,.int .u16 0,.int .u64 0,.int .u64 0,.slice ca L9 cc] 142)) (.slice (some ⟨Y.heap.size,0,none⟩) 1 1) 1 5 [.int .u16 ha,.int .u16 0,.int .u64 0,.int .u64 0,.slice ca L9 cc] := sr_oneblk (Blk.new Y 142 [.int .u16 ha,.int .u16 0,.int .u64 0,.int .u64 0,.slice ca L9 cc]) rfl (by simp [Value.oneCell'])
       have bO1 := bO.below hby
       have hOl := bO.lt
       have hBW1 := hBW.trans (hby.mono (Nat.le_of_lt hOl))
       have HHH := Lib.hid (And.intro hqs (And.intro hqv (And.intro hcv1 hBW1)))
       have hM9 := HM9.out
       clear hqs hqv hcv1 hBW1 hBW hIt hcvY bS bP bT hby HCVY
       go_upto_region 4 with (refine wpList_app_ownN rfl _ _ 47 rfl (OB + 1) 142 i0 _ 5 48 Tryz.underlying47 hi0 hi1 hi2 hi3 rfl (by decide) (.slice ka M kc4) M (qs.flatMap ienc) rfl hown (.slice (some ⟨Y.heap.size,0,none⟩) 1 1) 1 [.int .u16 ha,.int .u16 0,.int .u64 0,.int .u64 0,.slice ca L9 cc] rfl hsr (by unfold maxLen; omega) (by omega) bO1.lt ?_; intro v9 w9 hown9 hg9; obtain ⟨q7,c7,rfl⟩ := own_form hown9; have bO9 := bO1.kept hg9 (fun e => by have h := (hown.lt OB e.symm).1; omega); have m11' := bO9.cell (j := 11) (v := .slice ka M kc4) rfl; have z11 := bO9.frozen 11)
       have hnn : 0 ≤ ha := by
        have h0 := HDB.out.2.2.2.1 k (by rw [HDB.out.2.1]; exact HLT.out)
        rw [HE0.out] at h0
        exact h0.1.1
       have hie : [.int .u16 ha,.int .u16 0,.int .u64 0,.int .u64 0,.slice ca L9 cc] = ienc (itT HF s (atI s.db k),.slice ca L9 cc) := by
        simp only [ienc,itT]
        rw [HE0.out,Int.toNat_of_nonneg hnn]
        rfl
       rw [hie] at hown9
       have hIt9 : ItO (OB + 1) w9 (.slice q7 (M + 1) c7) (CK.map (itT HF s) ++ [itT HF s (atI s.db k)]) := ItO.add (v := .slice ka M kc4) ⟨qs,HHH.out.1,by rw [List.length_map,HCK.out.2]; exact hown,HHH.out.2.1,by rw [List.length_map,HCK.out.2]; exact hown9⟩ hg9 (by show OwB (OB + 1) _ _ (cutV HF s (atI s.db k)); rw [HCV.out.1]; exact HHH.out.2.2.1)
       have hBW9 := HHH.out.2.2.2.trans ((own_low hown hg9 bO1.lt).mono (by omega))
       have hg := set1 w9 ⟨OB,11,none⟩ (.slice q7 (M + 1) c7)
       have bO10 := bO9.setAt (j := 11) (.slice q7 (M + 1) c7)
       have hBW10 := hBW9.grown hg (Nat.le_of_lt bO9.lt) (fun k hk => by cases hk; exact Nat.le_refl _)
       have hIt10 := hIt9.kept hg (Nat.lt_succ_self _)
       generalize hX : World.setCell _ _ _ = w10 at bO10 hBW10 hIt10 ⊢
       have bO10 : Blk w10 OB 49 [.int .i64 9,.int .i64 0,.int .u16 0,.int .u16 0,.int .u64 0,.int .u64 0,.int .i64 0,.int .i64 0,.int .i64 0,.bool false,.slice none 0 0,.slice q7 (M + 1) c7] := bO10
       have hsuc := HIN.out.2.1
       simp only [if_true] at hsuc
       have HR : Hid (ItO (OB + 1) w10 (.slice q7 (M + 1) c7) ((candK s.db p.ha p.la p.hi p.lo (k + 1)).map (itT HF s)) ∧ (∀ j,j < (candK s.db p.ha p.la p.hi p.lo (k + 1)).length → tyC HF s CL j = true) ∧ Blk w10 OB 49 [.int .i64 9,.int .i64 0,.int .u16 0,.int .u16 0,.int .u64 0,.int .u64 0,.int .i64 0,.int .i64 0,.int .i64 0,.bool false,.slice none 0 0,.slice q7 (M + 1) c7] ∧ Below OB w2 w10) := Lib.hid (by
        rw [hsuc,← HE0.out]
        refine ⟨by rw [List.map_append]; exact hIt10,fun j hj => ?_,bO10,hBW10⟩
        rw [List.length_append,HCK.out.2] at hj
        by_cases hjm : j < M
        ·exact HFC.out j hjm
        ·rw [show j = M by simp at hj; omega]
         exact HQ.out.1)
       clear hsuc hIt9 hIt10 bO9 bO10 hBW9 hBW10 hX hg m11 m11' z11 t0 hown hown9 hg9 hsr bO1 bO hnn hie hM9 hOl
       go_wp2
       go_roundw
       case rel => exact ⟨k + 1,_,by go_num,by have := HLT.out; omega,HR⟩
       case measure => have := HLT.out; simp [intOf]; omega
  ·obtain rfl : k = dn := by omega
   have g2 : decide (k < k) = false := by simp
   have g2i : decide ((k : Int) < (k : Int)) = false := by simp
   have hcl : CK = CL := by
    have h := candK_all s.db p.ha p.la p.hi p.lo
    rw [HDB.out.2.1,HCK.out.1,HFS.out.2] at h
    exact h
   have HFN : Hid (firstNo (tyC HF s CL) CL.length = M ∧ (CK = CL.take M ∧ CK.length = M)) := Lib.hid (by
    have hcm : CL.length = M := by rw [← hcl]; exact HCK.out.2
    refine ⟨firstNo_eq (by omega) HFC.out (fun h => by omega),?_,HCK.out.2⟩
    rw [List.take_of_length_le (by omega)]
    exact hcl)
   rename World => Y
   clear hcl hlt
   rcases Nat.eq_zero_or_pos M with hM0 | hM0
   ·have g5 : (M == 0) = true := by simpa using hM0
    have g5i : ((M : Int) == 0) = true := by simp [hM0]
    have hfs := HFS.out.1
    rw [if_pos (by rw [HFN.out.1,hM0]; rfl)] at hfs
    have HF2 := Lib.hid hfs
    have m11 := bO.cell (j := 11) (v := .slice ka M kc4) rfl
    have rgP := bP.range 0 [.int .i64 p.kd,.int .i64 p.ask,.int .u16 p.ha,.int .u16 p.la,.int .u64 p.hi,.int .u64 p.lo,.int .i64 p.of,.int .i64 p.mt,.int .i64 p.co,.bool p.cm,.slice pa pn pc,.slice ia ino ic] (fun j v hv => by rw [Nat.zero_add]; exact hv)
    have n2 := bP.cell (j := 2) (v := .int .u16 p.ha) rfl
    have hB := HB2.out.trans ((HOB.out ▸ hBW).mono HB2.out.size)
    clear hM0 hfs hBW hIt bO bS bP
    go_wp2_with (refine wpList_load_mid rfl 49 _ rfl (w.heap.size + 1) 0 rfl [.int .i64 p.kd,.int .i64 p.ask,.int .u16 p.ha,.int .u16 p.la,.int .u64 p.hi,.int .u64 p.lo,.int .i64 p.of,.int .i64 p.mt,.int .i64 p.co,.bool p.cm,.slice pa pn pc,.slice ia ino ic] _ rgP Tryz.underlying49 rfl (by kernel_rfl) ?_)
    refine (refuse_any p pa pn pc ia ino ic p.ha 10 _).mono ?_
    rintro e w9 ⟨v9,rfl,hA9,hC⟩
    have hB9 := hB.trans (hC.mono hB.size)
    have hA9 := hA9.mono hB.size
    have HZ9 := Lib.hid (And.intro hA9 hB9)
    clear hC rgP n2 m11 hA9 hB9 hB
    go_wp2
    go_ret
    exact ⟨_,rfl,by rw [HF2.out]; exact HZ9.out.1,HZ9.out.2⟩
   ·have g5 : (M == 0) = false := by simpa using (show M ≠ 0 by omega)
    have g5i : ((M : Int) == 0) = false := by simp; omega
    have hfs := HFS.out.1
    rw [if_neg (fun e => by have h := congrArg List.length e; rw [HFN.out.1,← HFN.out.2.1,List.length_map,HFN.out.2.2] at h; simp at h; omega),HFN.out.1,← HFN.out.2.1] at hfs
    have HF2 := Lib.hid hfs
    have m11 := bO.cell (j := 11) (v := .slice ka M kc4) rfl
    have rgO := bO.range 0 [.int .i64 9,.int .i64 0,.int .u16 0,.int .u16 0,.int .u64 0,.int .u64 0,.int .i64 0,.int .i64 0,.int .i64 0,.bool false,.slice none 0 0,.slice ka M kc4] (fun j v hv => by rw [Nat.zero_add]; exact hv)
    have hB := HB2.out.trans ((HOB.out ▸ hBW).mono HB2.out.size)
    have HE := Lib.hid (And.intro hIt (And.intro hB bO.lt))
    have hOl := bO.lt
    clear hM0 hfs hBW hB hIt bS bP bO
    go_wp2_with (refine wpList_load_mid rfl 49 _ rfl OB 0 rfl [.int .i64 9,.int .i64 0,.int .u16 0,.int .u16 0,.int .u64 0,.int .u64 0,.int .i64 0,.int .i64 0,.int .i64 0,.bool false,.slice none 0 0,.slice ka M kc4] _ rgO Tryz.underlying49 rfl (by kernel_rfl) ?_)
    generalize hX : World.alloc _ (.cells _ 49) = w8
    obtain ⟨hnb,hBy,-⟩ := alloc_named hX
    have bN : Blk w8 Y.heap.size 49 (pdc { pd0 with kd := 9 } (.slice none 0 0) (.slice ka M kc4)) := hnb
    have hA : AnsV w.heap.size w8 (.slice (some ⟨Y.heap.size,0,none⟩) 1 1) Fv.1 Fv.2 := by
     rw [HF2.out]
     exact ⟨_,_,_,rfl,HE.out.2.1.size,bN,BV.nil _,(HE.out.1.below hBy).ans (by rw [List.length_map,HFN.out.2.2]; exact HM9.out)⟩
    have HZ9 := Lib.hid (And.intro hA (HE.out.2.1.trans (hBy.mono HE.out.2.1.size)))
    clear hX hnb hBy bN rgO hA m11
    go_wp2
    go_ret
    exact ⟨_,rfl,HZ9.out.1,HZ9.out.2⟩
end Go.Proofs.YtldcihjddebciaaGreat
