/- server: AttFind, by its reference. -/
import Derived.Test.YtldcihjddebciaaGreatDSeI
set_option linter.unusedSimpArgs false
set_option linter.unusedVariables false
set_option maxRecDepth 100000
set_option maxHeartbeats 8000000
namespace Go.Proofs.YtldcihjddebciaaGreat
open Go.RowKit
theorem Tryz.info_it : (Tryz.prog.info? 142).map (fun i => (i.zero,i.size,i.bytes)) = some (some (.agg #[.int .u16 0,.int .u16 0,.int .u64 0,.int .u64 0,.slice none 0 0]),5,48) := by kernel_rfl
/-- elements of an answer, with their values -/
def encF (l : List At) : List Value := l.flatMap fun x => [.int .u16 x.ha,.int .u16 0,.int .u64 x.hi,.int .u64 x.lo,.slice none 0 0]
theorem encF_take (l : List At) (k : Nat) (h : k < l.length) : encF (l.take (k + 1)) = encF (l.take k) ++ [.int .u16 (atI l k).ha,.int .u16 0,.int .u64 (atI l k).hi,.int .u64 (atI l k).lo,.slice none 0 0] := by
 unfold encF
 rw [List.take_succ_eq_append_getElem h,List.flatMap_append,atI_get h]
 simp
theorem encF_ienc : ∀ (l : List At),(∀ x ∈ l,0 ≤ x.ha ∧ 0 ≤ x.hi ∧ 0 ≤ x.lo) → encF l = (l.map (fun x => ((itF x,.slice none 0 0) : Im × Value))).flatMap ienc
 |[],_ => rfl
 |x :: l,h => by
  have h1 := encF_ienc l (fun y hy => h y (by simp [hy]))
  obtain ⟨h2,h3,h4⟩ := h x (by simp)
  unfold encF at h1 ⊢
  rw [List.flatMap_cons,h1,List.map_cons,List.flatMap_cons]
  simp only [ienc,itF]
  rw [Int.toNat_of_nonneg h2,Int.toNat_of_nonneg h3,Int.toNat_of_nonneg h4]
  rfl
theorem find45_any (s : Ss) (da : Option Addr) (dn dc : Nat) (qa : Option Addr) (qn qc : Nat) (ua : Option Addr) (un uc : Nat) (oa : Option Addr) (on oc : Nat) (p : Pd) (pa : Option Addr) (pn pc : Nat) (ia : Option Addr) (ino ic : Nat) (w : World) (hd : DbR w (.slice da dn dc) s.db) (hn : s.db.length = dn) (hm : dn ≤ 1000) (hw : DbW s.db) :
 Calls Tryz.prog 47 #[.agg #[.slice da dn dc,.int .i64 s.mt,.int .i64 s.mx,.int .i64 2,.slice qa qn qc,.int .i64 2,.bool false,.slice ua un uc,.slice oa on oc,.bool false,.int .i64 0],.agg #[.int .i64 p.kd,.int .i64 p.ask,.int .u16 p.ha,.int .u16 p.la,.int .u64 p.hi,.int .u64 p.lo,.int .i64 p.of,.int .i64 p.mt,.int .i64 p.co,.bool p.cm,.slice pa pn pc,.slice ia ino ic]] w fun e w' => ∃ v,e = .returned v ∧ AnsV w.heap.size w' v (findS s p).1 (findS s p).2 ∧ Below w.heap.size w w' := by
 obtain ⟨i0,hi0,hi1,hi2,hi3⟩ := info_parts Tryz.info_it
 have bS := (Blk.new w 57 [.slice da dn dc,.int .i64 s.mt,.int .i64 s.mx,.int .i64 2,.slice qa qn qc,.int .i64 2,.bool false,.slice ua un uc,.slice oa on oc,.bool false,.int .i64 0]).alloc (.cells #[.int .i64 p.kd,.int .i64 p.ask,.int .u16 p.ha,.int .u16 p.la,.int .u64 p.hi,.int .u64 p.lo,.int .i64 p.of,.int .i64 p.mt,.int .i64 p.co,.bool p.cm,.slice pa pn pc,.slice ia ino ic] 49)
 have bP := Blk.new (w.alloc (.cells #[.slice da dn dc,.int .i64 s.mt,.int .i64 s.mx,.int .i64 2,.slice qa qn qc,.int .i64 2,.bool false,.slice ua un uc,.slice oa on oc,.bool false,.int .i64 0] 57)) 49 [.int .i64 p.kd,.int .i64 p.ask,.int .u16 p.ha,.int .u16 p.la,.int .u64 p.hi,.int .u64 p.lo,.int .i64 p.of,.int .i64 p.mt,.int .i64 p.co,.bool p.cm,.slice pa pn pc,.slice ia ino ic]
 have hB := ((Below.refl w.heap.size w).alloc (Nat.le_refl _) (.cells #[.slice da dn dc,.int .i64 s.mt,.int .i64 s.mx,.int .i64 2,.slice qa qn qc,.int .i64 2,.bool false,.slice ua un uc,.slice oa on oc,.bool false,.int .i64 0] 57)).alloc (by simp) (.cells #[.int .i64 p.kd,.int .i64 p.ask,.int .u16 p.ha,.int .u16 p.la,.int .u64 p.hi,.int .u64 p.lo,.int .i64 p.of,.int .i64 p.mt,.int .i64 p.co,.bool p.cm,.slice pa pn pc,.slice ia ino ic] 49)
 have hz1 : (w.alloc (.cells #[.slice da dn dc,.int .i64 s.mt,.int .i64 s.mx,.int .i64 2,.slice qa qn qc,.int .i64 2,.bool false,.slice ua un uc,.slice oa on oc,.bool false,.int .i64 0] 57)).heap.size = w.heap.size + 1 := by simp
 rw [hz1] at bP
 clear hz1
 have HRG := Lib.hid (fun W (hW : Below w.heap.size w W) => range_any da dn dc s.db p.ha p.la W (hd.below hW) hn hm)
 obtain ⟨LL,hLL⟩ : ∃ x,rangeL s.db p.ha p.la = x := ⟨_,rfl⟩
 have hfs : findS s p = if LL = [] then (errP p p.ha 10,[]) else ({ pd0 with kd := 5 },(LL.take (firstNo (fdC s.mt LL) LL.length)).map itF) := by unfold findS; rw [hLL]
 simp only [hLL] at HRG
 have hwl : ∀ i,i < LL.length → (0 ≤ (atI LL i).ha ∧ (atI LL i).ha < 65536) ∧ (0 ≤ (atI LL i).hi ∧ (atI LL i).hi < 18446744073709551616) ∧ 0 ≤ (atI LL i).lo ∧ (atI LL i).lo < 18446744073709551616 := fun i hi => by
  have hmem : atI LL i ∈ s.db := by
   have h1 : atI LL i ∈ rangeL s.db p.ha p.la := by rw [hLL,← atI_get hi]; exact List.getElem_mem hi
   exact (List.mem_filter.1 h1).1
  obtain ⟨j,hj,e⟩ := List.getElem_of_mem hmem
  have := hw j hj
  rw [← atI_get hj,e] at this
  exact this
 have hlm : LL.length ≤ 1000 := by rw [← hLL]; exact Nat.le_trans (List.length_filter_le _ _) (by omega)
 obtain ⟨Fv,hFv⟩ : ∃ x,findS s p = x := ⟨_,rfl⟩
 rw [hFv] at hfs ⊢
 have HFS := Lib.hid hfs
 have HWL := Lib.hid (And.intro hwl hlm)
 clear hfs hFv hwl hlm hLL hd hn hm hw
 go_enter Tryz.func47,Tryz.ntmps47
 go_upto_region 1 with fail
 generalize hX : World.alloc (World.alloc w _) _ = V at bS bP hB ⊢
 clear hX
 have m0 := bS.cell (j := 0) (v := .slice da dn dc) rfl
 have n2 := bP.cell (j := 2) (v := .int .u16 p.ha) rfl
 have n3 := bP.cell (j := 3) (v := .int .u16 p.la) rfl
 go_wp2_with fail
 refine (HRG.out _ hB).mono ?_
 rintro e w2 ⟨lv,rfl,hlr,hC⟩
 have bS := bS.below hC
 have bP := bP.below hC
 have hB := hB.trans (hC.mono hB.size)
 obtain ⟨la,lc,rfl⟩ := hlr.form
 obtain ⟨n,hn⟩ : ∃ n,LL.length = n := ⟨_,rfl⟩
 rw [hn] at hlr ⊢
 have HN := Lib.hid hn
 have HLR := Lib.hid hlr
 clear m0 n2 n3 hC HRG hlr hn
 by_cases hn0 : n = 0
 ·have g1 : (n == 0) = true := by simpa using hn0
  have g1i : ((n : Int) == 0) = true := by simp [hn0]
  have hLn : LL = [] := List.eq_nil_of_length_eq_zero (by rw [HN.out]; exact hn0)
  have hfs := HFS.out
  rw [if_pos hLn] at hfs
  have HF2 := Lib.hid hfs
  have rgP := bP.range 0 [.int .i64 p.kd,.int .i64 p.ask,.int .u16 p.ha,.int .u16 p.la,.int .u64 p.hi,.int .u64 p.lo,.int .i64 p.of,.int .i64 p.mt,.int .i64 p.co,.bool p.cm,.slice pa pn pc,.slice ia ino ic] (fun j v hv => by rw [Nat.zero_add]; exact hv)
  have n2 := bP.cell (j := 2) (v := .int .u16 p.ha) rfl
  clear hn0 hLn hfs HFS
  go_wp2_with (refine wpList_load_mid rfl 49 _ rfl (w.heap.size + 1) 0 rfl [.int .i64 p.kd,.int .i64 p.ask,.int .u16 p.ha,.int .u16 p.la,.int .u64 p.hi,.int .u64 p.lo,.int .i64 p.of,.int .i64 p.mt,.int .i64 p.co,.bool p.cm,.slice pa pn pc,.slice ia ino ic] _ rgP Tryz.underlying49 rfl (by kernel_rfl) ?_)
  refine (refuse_any p pa pn pc ia ino ic p.ha 10 _).mono ?_
  rintro e w9 ⟨v9,rfl,hA9,hC⟩
  have hB9 := hB.trans (hC.mono hB.size)
  clear hC rgP n2
  go_wp2
  go_ret
  exact ⟨_,rfl,by rw [HF2.out]; exact hA9.mono hB.size,hB9⟩
 ·have g1 : (n == 0) = false := by simpa using hn0
  have g1i : ((n : Int) == 0) = false := by simp; omega
  have HN0 := Lib.hid hn0
  clear hn0
  have bO := Blk.new w2 49 [.int .i64 0,.int .i64 0,.int .u16 0,.int .u16 0,.int .u64 0,.int .u64 0,.int .i64 0,.int .i64 0,.int .i64 0,.bool false,.slice none 0 0,.slice none 0 0]
  have hBo := (Below.refl w2.heap.size w2).alloc (Nat.le_refl _) (.cells #[.int .i64 0,.int .i64 0,.int .u16 0,.int .u16 0,.int .u64 0,.int .u64 0,.int .i64 0,.int .i64 0,.int .i64 0,.bool false,.slice none 0 0,.slice none 0 0] 49)
  have hth := bO.there 0 12 (by simp)
  have one : (#[.int .i64 5,.int .i64 0,.int .u16 0,.int .u16 0,.int .u64 0,.int .u64 0,.int .i64 0,.int .i64 0,.int .i64 0,.bool false,.slice none 0 0,.slice none 0 0] : Array Value).all (·.oneCell') = true := by simp [Value.oneCell']
  go_upto_region 5 with (refine wpList_store_mid rfl 49 _ _ rfl w2.heap.size 0 #[.int .i64 5,.int .i64 0,.int .u16 0,.int .u16 0,.int .u64 0,.int .u64 0,.int .i64 0,.int .i64 0,.int .i64 0,.bool false,.slice none 0 0,.slice none 0 0] rfl rfl hth (by kernel_rfl) one ?_; simp only [Act.put]; generalize hW : World.setCells _ w2.heap.size 0 _ = w3; have HW := Lib.hid hW; clear hW)
  obtain ⟨hg3,bO⟩ := put_namedB bO HW.out rfl
  have hC := hBo.grown hg3 (by simp) (fun k hk => by cases hk; exact Nat.le_refl _)
  have hsz := hB.size
  have hs3 : w2.heap.size + 1 ≤ w3.heap.size := by have h := hg3.size; simpa using h
  have HB2 := Lib.hid hB
  have HSP := Lib.hid (And.intro bS (And.intro bP (And.intro bS.lt bP.lt)))
  obtain ⟨OB,hOB⟩ : ∃ x,w2.heap.size = x := ⟨_,rfl⟩
  have HOB := Lib.hid hOB
  rw [hOB] at bO hsz hC hs3 ⊢
  have HSZ := Lib.hid (And.intro hsz hs3)
  obtain ⟨qs,hqs,hsr,hbv⟩ := HLR.out
  have hql : qs.length = n := by rw [← HN.out,← hqs,List.length_map]
  obtain ⟨b,off,cap,e,hat⟩ := sr_rows aenc aenc_len (qs := qs) (by rw [hql]; rw [hql] at hsr; exact hsr) (by rw [hql]; exact Nat.pos_of_ne_zero HN0.out)
  simp only [Value.slice.injEq] at e
  obtain ⟨rfl,-,-⟩ := e
  have hel : ∀ k,k < n → w2.cell? ⟨b,off + k * 5,none⟩ = some (.int .u16 (atI LL k).ha) ∧ w2.cell? ⟨b,off + k * 5 + 1,none⟩ = some (.int .u64 (atI LL k).hi) ∧ w2.cell? ⟨b,off + k * 5 + 2,none⟩ = some (.int .u64 (atI LL k).lo) := fun k hk => by
   have hkq : k < qs.length := by omega
   have h1 := hat k qs[k] (List.getElem?_eq_getElem hkq)
   have e1 : qs[k].1 = atI LL k := by rw [← atI_get (by rw [HN.out]; exact hk)]; simp [← hqs]
   rw [← e1]
   exact ⟨h1 0 _ rfl,h1 1 _ rfl,h1 2 _ rfl⟩
  have HEL := Lib.hid (fun k (hk : k < n) (W : World) (hW : Below OB w2 W) => And.intro (kc (hel k hk).1 (hOB ▸ hW)) (And.intro (kc (hel k hk).2.1 (hOB ▸ hW)) (kc (hel k hk).2.2 (hOB ▸ hW))))
  clear HW hg3 hBo hth one hOB hsz HLR hs3 hqs hsr hbv hql hat hel bS bP hB
  have hw0 := HWL.out.1 0 (by rw [HN.out]; exact Nat.pos_of_ne_zero HN0.out)
  obtain ⟨d0,d1,d2⟩ := HEL.out 0 (Nat.pos_of_ne_zero HN0.out) _ hC
  obtain ⟨H0,hH0⟩ : ∃ x : Nat,(atI LL 0).hi = (x : Int) := ⟨(atI LL 0).hi.toNat,by omega⟩
  obtain ⟨L0,hL0⟩ : ∃ x : Nat,(atI LL 0).lo = (x : Int) := ⟨(atI LL 0).lo.toNat,by omega⟩
  have hs0 : shB (atI LL 0) = isShort H0 L0 := by unfold shB; rw [hH0,hL0]; rfl
  have HH0 := Lib.hid (And.intro hH0 hL0)
  rw [hH0] at d1 hw0
  rw [hL0] at d2 hw0
  simp only [Nat.zero_mul,Nat.add_zero] at d1 d2
  have HSH0 := Lib.hid (fun W => short45_any H0 L0 (by omega) (by omega) W)
  generalize isShort H0 L0 = S0 at HSH0 hs0
  obtain ⟨Z,hZ⟩ : ∃ z : Int,(if S0 = true then 4 else 18) = z := ⟨_,rfl⟩
  have HZ := Lib.hid (And.intro hs0 hZ)
  have hp0 : (0 : Int) < (n : Int) := by have := HN0.out; omega
  clear d0 hH0 hL0 hs0 hw0 hZ
  have HBO := Lib.hid bO
  go_wp2_with fail
  refine (HSH0.out _).mono ?_
  rintro e w4 ⟨rfl,hC4⟩
  have bO := HBO.out.below hC4
  have hB4 := hC.trans (hC4.mono (by have := HSZ.out.2; omega))
  have HI4 := Lib.hid (And.intro bO hB4)
  clear d1 d2 hC4 hC bO hB4 HBO
  cases S0
  all_goals
   go_wp2_with fail
   have hZ2 := HZ.out.2
   simp at hZ2
   have HZ3 := Lib.hid (show Z = 4 ∨ Z = 18 by omega)
   rw [hZ2]
   rw [← HZ.out.1] at HSH0
   clear hZ2
   obtain ⟨S1,hS1⟩ : ∃ x,shB (atI LL 0) = x := ⟨_,rfl⟩
   rw [hS1] at HSH0
   have HS1 := Lib.hid hS1
   have hzz : (if S1 = true then (4 : Int) else 18) = Z := by rw [← hS1,HZ.out.1]; exact HZ.out.2
   have HZZ := Lib.hid hzz
   clear hS1 hzz HZ
   go_loopw [8] (fun v W => ∃ (k : Nat) (ia' : Option Addr) (ic' : Nat),v = .int .i64 k ∧ k ≤ n ∧ Hid (W.ownsRow (OB + 1) 142 5 (.slice ia' k ic') k (encF (LL.take k)) ∧ (∀ j,j < k → fdC s.mt LL j = true) ∧ Blk W OB 49 [.int .i64 5,.int .i64 0,.int .u16 0,.int .u16 0,.int .u64 0,.int .u64 0,.int .i64 0,.int .i64 0,.int .i64 0,.bool false,.slice none 0 0,.slice ia' k ic'] ∧ Below OB w2 W)) (fun v _ => n - (intOf v).toNat)
   case atStart => exact ⟨0,none,0,by simp,Nat.zero_le _,Lib.hid ⟨⟨rfl,.inl ⟨rfl,rfl⟩⟩,fun j hj => absurd hj (by omega),HI4.out.1,HI4.out.2⟩⟩
   case round =>
    obtain ⟨k,ka,kc4,rfl,hk,hinv⟩ := hrel
    have bO := hinv.out.2.2.1
    have hBW := hinv.out.2.2.2
    have bS := HSP.out.1.below (HOB.out ▸ hBW)
    obtain ⟨Q,hQ⟩ : ∃ x,(decide (k < n) && fdC s.mt LL k) = x := ⟨_,rfl⟩
    have HQ := Lib.hid hQ
    have HK9 := Lib.hid (show k ≤ 1000 by have := HWL.out.2; rw [HN.out] at this; omega)
    clear hQ
    go_upto_region 9 with fail
    go_cut [58] (fun v wx => v = .bool Q ∧ Below wr.heap.size wr wx)
    case first =>
     have hdr := (Below.refl wr.heap.size wr).drew
     by_cases hlt : k < n
     ·have g1 : decide (k < n) = true := by simpa using hlt
      have g1i : decide ((k : Int) < (n : Int)) = true := by simp; omega
      obtain ⟨-,e1,e2⟩ := HEL.out k hlt _ hBW
      obtain ⟨-,f1,f2⟩ := HEL.out 0 (by omega) _ hBW
      have hwk := HWL.out.1 k (by rw [HN.out]; exact hlt)
      obtain ⟨HK,hHK⟩ : ∃ x : Nat,(atI LL k).hi = (x : Int) := ⟨(atI LL k).hi.toNat,by omega⟩
      obtain ⟨LK,hLK⟩ : ∃ x : Nat,(atI LL k).lo = (x : Int) := ⟨(atI LL k).lo.toNat,by omega⟩
      have hsk : shB (atI LL k) = isShort HK LK := by unfold shB; rw [hHK,hLK]; rfl
      rw [hHK] at e1 hwk
      rw [hLK] at e2 hwk
      rw [HH0.out.1] at f1
      rw [HH0.out.2] at f2
      simp only [Nat.zero_mul,Nat.add_zero] at f1 f2
      have HSHK := Lib.hid (fun W => short45_any HK LK (by omega) (by omega) W)
      generalize isShort HK LK = SK at HSHK hsk
      obtain ⟨RM,hRM⟩ : ∃ x,roomI 5 s.mt = x := ⟨_,rfl⟩
      have hro := fun W => rroom_any 5 s.mt W
      simp only [hRM] at hro
      have HRO := Lib.hid hro
      have hfc : fdC s.mt LL k = ((SK == S1) && decide (((k : Int) + 1) * Z ≤ RM)) := by unfold fdC; rw [hsk,HS1.out,HZZ.out,hRM]
      have hq := HQ.out
      rw [hfc,g1,Bool.true_and] at hq
      have w1 : IntKind.i64.wrap ((k : Int) + 1) = (k : Int) + 1 := IntWalk.i64_in _ (by have := HK9.out; omega)
      have w2' : IntKind.i64.wrap (((k : Int) + 1) * Z) = ((k : Int) + 1) * Z := by have := HK9.out; rcases HZ3.out with h | h <;> rw [h] <;> exact IntWalk.i64_in _ (by omega)
      have m5 := bO.cell (j := 0) (v := .int .i64 5) rfl
      have m1 := bS.cell (j := 1) (v := .int .i64 s.mt) rfl
      have hp0 : (0 : Int) < (n : Int) := by omega
      have hp1 : 0 < n := by omega
      have hk0 : (0 : Int) ≤ (k : Int) := by omega
      have hk1 : (k : Int) < (n : Int) := by omega
      have e1 := kc e1 hdr
      have e2 := kc e2 hdr
      have f1 := kc f1 hdr
      have f2 := kc f2 hdr
      have m5 := kc m5 hdr
      have m1 := kc m1 hdr
      have hVd := hdr
      have hBd := Below.refl wr.drew.heap.size wr.drew
      clear hwk hHK hLK hsk hRM hro hfc bO bS hBW hdr hlt hk HQ
      by_cases hss : SK = S1
      ·subst hss
       have hqe : (SK == SK) = true := by simp
       obtain ⟨C3,hC3⟩ : ∃ x,decide (((k : Int) + 1) * Z ≤ RM) = x := ⟨_,rfl⟩
       rw [hqe,hC3,Bool.true_and] at hq
       have HQ3 := Lib.hid hq
       clear hq
       refine wp_region_held_drew (S := (fun W' : World => W'.cell? ⟨b,off + k * 5 + 1,none⟩ = some (.int .u64 (HK : Nat)) ∧ W'.cell? ⟨b,off + k * 5 + 2,none⟩ = some (.int .u64 (LK : Nat)) ∧ W'.cell? ⟨b,off + 1,none⟩ = some (.int .u64 (H0 : Nat)) ∧ W'.cell? ⟨b,off + 2,none⟩ = some (.int .u64 (L0 : Nat)) ∧ W'.cell? ⟨OB,0,none⟩ = some (.int .i64 5) ∧ W'.cell? ⟨w.heap.size,1,none⟩ = some (.int .i64 s.mt))) (by kernel_rfl) (⟨kc e1 hBd,kc e2 hBd,kc f1 hBd,kc f2 hBd,kc m5 hBd,kc m1 hBd⟩) (fun hHeld => ?_)
       generalize World.drew _ = wd at hHeld e1 e2 f1 f2 m5 m1 hVd hBd ⊢
       refine wpAnyH_take (i := 0) (oi := _) (v := ?_) (by rw [List.getElem?_toArray]; rfl) (by kernel_rfl) (by kernel_rfl) (by kernel_rfl) (by exact fun _ _ _ h => h) (Or.inl ⟨by rfl,?_⟩) (by assumption) ?_
       rotate_left
       ·intro w hSw
        try simp only [Cells,blk,List.cons_append,List.nil_append,and_true,Nat.reduceAdd,Nat.add_zero,Nat.zero_add] at hSw
        go_simp
        try with_reducible rfl
       simp only [Act.put,List.setIfInBounds_toArray,List.set_cons_zero,List.set_cons_succ]
       refine wpAnyH_take (i := 1) (oi := _) (v := ?_) (by rw [List.getElem?_toArray]; rfl) (by kernel_rfl) (by kernel_rfl) (by kernel_rfl) (by exact fun _ _ _ h => h) (Or.inl ⟨by rfl,?_⟩) (by assumption) ?_
       rotate_left
       ·intro w hSw
        try simp only [Cells,blk,List.cons_append,List.nil_append,and_true,Nat.reduceAdd,Nat.add_zero,Nat.zero_add] at hSw
        go_simp
        try with_reducible rfl
       simp only [Act.put,List.setIfInBounds_toArray,List.set_cons_zero,List.set_cons_succ]
       refine wpAnyH_take (i := 2) (oi := _) (v := ?_) (by rw [List.getElem?_toArray]; rfl) (by kernel_rfl) (by kernel_rfl) (by kernel_rfl) (by exact fun _ _ _ h => h) (Or.inl ⟨by rfl,?_⟩) (by assumption) ?_
       rotate_left
       ·intro w hSw
        try simp only [Cells,blk,List.cons_append,List.nil_append,and_true,Nat.reduceAdd,Nat.add_zero,Nat.zero_add] at hSw
        go_simp
        try with_reducible rfl
       simp only [Act.put,List.setIfInBounds_toArray,List.set_cons_zero,List.set_cons_succ]
       refine wpAnyH_take (i := 3) (oi := _) (v := ?_) (by rw [List.getElem?_toArray]; rfl) (by kernel_rfl) (by kernel_rfl) (by kernel_rfl) (by exact fun _ _ _ h => h) (Or.inl ⟨by rfl,?_⟩) (by assumption) ?_
       rotate_left
       ·intro w hSw
        try simp only [Cells,blk,List.cons_append,List.nil_append,and_true,Nat.reduceAdd,Nat.add_zero,Nat.zero_add] at hSw
        go_simp
        try with_reducible rfl
       simp only [Act.put,List.setIfInBounds_toArray,List.set_cons_zero,List.set_cons_succ]
       refine wpAnyH_take (i := 4) (oi := _) (v := ?_) (by rw [List.getElem?_toArray]; rfl) (by kernel_rfl) (by kernel_rfl) (by kernel_rfl) (by exact fun _ _ _ h => h) (Or.inl ⟨by rfl,?_⟩) (by assumption) ?_
       rotate_left
       ·intro w hSw
        try simp only [Cells,blk,List.cons_append,List.nil_append,and_true,Nat.reduceAdd,Nat.add_zero,Nat.zero_add] at hSw
        go_simp
        try with_reducible rfl
       simp only [Act.put,List.setIfInBounds_toArray,List.set_cons_zero,List.set_cons_succ]
       refine wpAnyH_take (i := 5) (oi := _) (v := ?_) (by rw [List.getElem?_toArray]; rfl) (by kernel_rfl) (by kernel_rfl) (by kernel_rfl) (by exact fun _ _ _ h => h) (Or.inl ⟨by rfl,?_⟩) (by assumption) ?_
       rotate_left
       ·intro w hSw
        try simp only [Cells,blk,List.cons_append,List.nil_append,and_true,Nat.reduceAdd,Nat.add_zero,Nat.zero_add] at hSw
        go_simp
        try with_reducible rfl
       simp only [Act.put,List.setIfInBounds_toArray,List.set_cons_zero,List.set_cons_succ]
       refine wpAnyH_take (i := 6) (oi := _) (v := ?_) (by rw [List.getElem?_toArray]; rfl) (by kernel_rfl) (by kernel_rfl) (by kernel_rfl) (by exact fun _ _ _ h => h) (Or.inl ⟨by rfl,?_⟩) (by assumption) ?_
       rotate_left
       ·intro w hSw
        try simp only [Cells,blk,List.cons_append,List.nil_append,and_true,Nat.reduceAdd,Nat.add_zero,Nat.zero_add] at hSw
        go_simp
        try with_reducible rfl
       simp only [Act.put,List.setIfInBounds_toArray,List.set_cons_zero,List.set_cons_succ]
       refine wpAnyH_take (i := 7) (oi := _) (v := ?_) (by rw [List.getElem?_toArray]; rfl) (by kernel_rfl) (by kernel_rfl) (by kernel_rfl) (by exact fun _ _ _ h => h) (Or.inl ⟨by rfl,?_⟩) (by assumption) ?_
       rotate_left
       ·intro w hSw
        try simp only [Cells,blk,List.cons_append,List.nil_append,and_true,Nat.reduceAdd,Nat.add_zero,Nat.zero_add] at hSw
        go_simp
        try with_reducible rfl
       simp only [Act.put,List.setIfInBounds_toArray,List.set_cons_zero,List.set_cons_succ]
       refine wpAnyH_take (i := 8) (oi := _) (v := ?_) (by rw [List.getElem?_toArray]; rfl) (by kernel_rfl) (by kernel_rfl) (by kernel_rfl) (by exact fun _ _ _ h => h) (Or.inl ⟨by rfl,?_⟩) (by assumption) ?_
       rotate_left
       ·intro w hSw
        try simp only [Cells,blk,List.cons_append,List.nil_append,and_true,Nat.reduceAdd,Nat.add_zero,Nat.zero_add] at hSw
        go_simp
        try with_reducible rfl
       simp only [Act.put,List.setIfInBounds_toArray,List.set_cons_zero,List.set_cons_succ]
       refine wpAnyH_take (i := 9) (oi := _) (v := ?_) (by rw [List.getElem?_toArray]; rfl) (by kernel_rfl) (by kernel_rfl) (by kernel_rfl) (by exact fun _ _ _ h => h) (Or.inl ⟨by rfl,?_⟩) (by assumption) ?_
       rotate_left
       ·intro w hSw
        try simp only [Cells,blk,List.cons_append,List.nil_append,and_true,Nat.reduceAdd,Nat.add_zero,Nat.zero_add] at hSw
        go_simp
        try with_reducible rfl
       simp only [Act.put,List.setIfInBounds_toArray,List.set_cons_zero,List.set_cons_succ]
       refine wpAnyH_take (i := 11) (oi := _) (v := ?_) (by rw [List.getElem?_toArray]; rfl) (by kernel_rfl) (by kernel_rfl) (by kernel_rfl) (by exact fun _ _ _ h => h) (Or.inl ⟨by rfl,?_⟩) (by assumption) ?_
       rotate_left
       ·intro w hSw
        try simp only [Cells,blk,List.cons_append,List.nil_append,and_true,Nat.reduceAdd,Nat.add_zero,Nat.zero_add] at hSw
        go_simp
        try with_reducible rfl
       simp only [Act.put,List.setIfInBounds_toArray,List.set_cons_zero,List.set_cons_succ]
       refine wpAnyH_take (i := 12) (oi := _) (v := ?_) (by rw [List.getElem?_toArray]; rfl) (by kernel_rfl) (by kernel_rfl) (by kernel_rfl) (by exact fun _ _ _ h => h) (Or.inl ⟨by rfl,?_⟩) (by assumption) ?_
       rotate_left
       ·intro w hSw
        try simp only [Cells,blk,List.cons_append,List.nil_append,and_true,Nat.reduceAdd,Nat.add_zero,Nat.zero_add] at hSw
        go_simp
        try with_reducible rfl
       simp only [Act.put,List.setIfInBounds_toArray,List.set_cons_zero,List.set_cons_succ]
       refine wpAnyH_take (i := 13) (oi := _) (v := ?_) (by rw [List.getElem?_toArray]; rfl) (by kernel_rfl) (by kernel_rfl) (by kernel_rfl) (by exact fun _ _ _ h => h) (Or.inl ⟨by rfl,?_⟩) (by assumption) ?_
       rotate_left
       ·intro w hSw
        try simp only [Cells,blk,List.cons_append,List.nil_append,and_true,Nat.reduceAdd,Nat.add_zero,Nat.zero_add] at hSw
        go_simp
        try with_reducible rfl
       simp only [Act.put,List.setIfInBounds_toArray,List.set_cons_zero,List.set_cons_succ]
       refine wpAnyH_take (i := 14) (oi := _) (v := ?_) (by rw [List.getElem?_toArray]; rfl) (by kernel_rfl) (by kernel_rfl) (by kernel_rfl) (by exact fun _ _ _ h => h) (Or.inl ⟨by rfl,?_⟩) (by assumption) ?_
       rotate_left
       ·intro w hSw
        try simp only [Cells,blk,List.cons_append,List.nil_append,and_true,Nat.reduceAdd,Nat.add_zero,Nat.zero_add] at hSw
        go_simp
        try with_reducible rfl
       simp only [Act.put,List.setIfInBounds_toArray,List.set_cons_zero,List.set_cons_succ]
       refine wpAnyH_ready (rs := [10]) (by kernel_rfl) (by simp) (AllReadyH.cons (o := _) (by rw [List.getElem?_toArray]; rfl) (fun K hK => ?_) AllReadyH.nil)
       go_simp
       go_at_call 96
       refine (HSHK.out _).mono ?_
       rintro e w5 ⟨rfl,hC⟩
       have hBd := hBd.trans (hC.mono hBd.size)
       clear hC
       clear hHeld
       refine hK.out _ _ (⟨kc e1 hBd,kc e2 hBd,kc f1 hBd,kc f2 hBd,kc m5 hBd,kc m1 hBd⟩) (fun hHeld => ?_)
       clear hK K
       try simp only [Act.put,List.setIfInBounds_toArray,List.set_cons_zero,List.set_cons_succ]
       refine wpAnyH_ready (rs := [15]) (by kernel_rfl) (by simp) (AllReadyH.cons (o := _) (by rw [List.getElem?_toArray]; rfl) (fun K hK => ?_) AllReadyH.nil)
       go_simp
       go_at_call 96
       refine (HSH0.out _).mono ?_
       rintro e w6 ⟨rfl,hC⟩
       have hBd := hBd.trans (hC.mono hBd.size)
       clear hC
       clear hHeld
       refine hK.out _ _ (⟨kc e1 hBd,kc e2 hBd,kc f1 hBd,kc f2 hBd,kc m5 hBd,kc m1 hBd⟩) (fun hHeld => ?_)
       clear hK K
       try simp only [Act.put,List.setIfInBounds_toArray,List.set_cons_zero,List.set_cons_succ]
       refine wpAnyH_take (i := 16) (oi := _) (v := ?_) (by rw [List.getElem?_toArray]; rfl) (by kernel_rfl) (by kernel_rfl) (by kernel_rfl) (by exact fun _ _ _ h => h) (Or.inl ⟨by rfl,?_⟩) (by assumption) ?_
       rotate_left
       ·intro w hSw
        try simp only [Cells,blk,List.cons_append,List.nil_append,and_true,Nat.reduceAdd,Nat.add_zero,Nat.zero_add] at hSw
        go_simp
        try with_reducible rfl
       simp only [Act.put,List.setIfInBounds_toArray,List.set_cons_zero,List.set_cons_succ]
       refine wpAnyH_take (i := 17) (oi := _) (v := ?_) (by rw [List.getElem?_toArray]; rfl) (by kernel_rfl) (by kernel_rfl) (by kernel_rfl) (by exact fun _ _ _ h => h) (Or.inl ⟨by rfl,?_⟩) (by assumption) ?_
       rotate_left
       ·intro w hSw
        try simp only [Cells,blk,List.cons_append,List.nil_append,and_true,Nat.reduceAdd,Nat.add_zero,Nat.zero_add] at hSw
        go_simp
        try with_reducible rfl
       simp only [Act.put,List.setIfInBounds_toArray,List.set_cons_zero,List.set_cons_succ]
       refine wpAnyH_take (i := 18) (oi := _) (v := ?_) (by rw [List.getElem?_toArray]; rfl) (by kernel_rfl) (by kernel_rfl) (by kernel_rfl) (by exact fun _ _ _ h => h) (Or.inl ⟨by rfl,?_⟩) (by assumption) ?_
       rotate_left
       ·intro w hSw
        try simp only [Cells,blk,List.cons_append,List.nil_append,and_true,Nat.reduceAdd,Nat.add_zero,Nat.zero_add] at hSw
        go_simp
        try with_reducible rfl
       simp only [Act.put,List.setIfInBounds_toArray,List.set_cons_zero,List.set_cons_succ]
       refine wpAnyH_take (i := 19) (oi := _) (v := ?_) (by rw [List.getElem?_toArray]; rfl) (by kernel_rfl) (by kernel_rfl) (by kernel_rfl) (by exact fun _ _ _ h => h) (Or.inl ⟨by rfl,?_⟩) (by assumption) ?_
       rotate_left
       ·intro w hSw
        try simp only [Cells,blk,List.cons_append,List.nil_append,and_true,Nat.reduceAdd,Nat.add_zero,Nat.zero_add] at hSw
        go_simp
        try with_reducible rfl
       simp only [Act.put,List.setIfInBounds_toArray,List.set_cons_zero,List.set_cons_succ]
       refine wpAnyH_take (i := 20) (oi := _) (v := ?_) (by rw [List.getElem?_toArray]; rfl) (by kernel_rfl) (by kernel_rfl) (by kernel_rfl) (by exact fun _ _ _ h => h) (Or.inl ⟨by rfl,?_⟩) (by assumption) ?_
       rotate_left
       ·intro w hSw
        try simp only [Cells,blk,List.cons_append,List.nil_append,and_true,Nat.reduceAdd,Nat.add_zero,Nat.zero_add] at hSw
        go_simp
        try with_reducible rfl
       simp only [Act.put,List.setIfInBounds_toArray,List.set_cons_zero,List.set_cons_succ]
       refine wpAnyH_take (i := 21) (oi := _) (v := ?_) (by rw [List.getElem?_toArray]; rfl) (by kernel_rfl) (by kernel_rfl) (by kernel_rfl) (by exact fun _ _ _ h => h) (Or.inl ⟨by rfl,?_⟩) (by assumption) ?_
       rotate_left
       ·intro w hSw
        try simp only [Cells,blk,List.cons_append,List.nil_append,and_true,Nat.reduceAdd,Nat.add_zero,Nat.zero_add] at hSw
        go_simp
        try with_reducible rfl
       simp only [Act.put,List.setIfInBounds_toArray,List.set_cons_zero,List.set_cons_succ]
       refine wpAnyH_take (i := 22) (oi := _) (v := ?_) (by rw [List.getElem?_toArray]; rfl) (by kernel_rfl) (by kernel_rfl) (by kernel_rfl) (by exact fun _ _ _ h => h) (Or.inl ⟨by rfl,?_⟩) (by assumption) ?_
       rotate_left
       ·intro w hSw
        try simp only [Cells,blk,List.cons_append,List.nil_append,and_true,Nat.reduceAdd,Nat.add_zero,Nat.zero_add] at hSw
        go_simp
        try with_reducible rfl
       simp only [Act.put,List.setIfInBounds_toArray,List.set_cons_zero,List.set_cons_succ]
       refine wpAnyH_take (i := 23) (oi := _) (v := ?_) (by rw [List.getElem?_toArray]; rfl) (by kernel_rfl) (by kernel_rfl) (by kernel_rfl) (by exact fun _ _ _ h => h) (Or.inl ⟨by rfl,?_⟩) (by assumption) ?_
       rotate_left
       ·intro w hSw
        try simp only [Cells,blk,List.cons_append,List.nil_append,and_true,Nat.reduceAdd,Nat.add_zero,Nat.zero_add] at hSw
        go_simp
        try with_reducible rfl
       simp only [Act.put,List.setIfInBounds_toArray,List.set_cons_zero,List.set_cons_succ]
       refine wpAnyH_take (i := 24) (oi := _) (v := ?_) (by rw [List.getElem?_toArray]; rfl) (by kernel_rfl) (by kernel_rfl) (by kernel_rfl) (by exact fun _ _ _ h => h) (Or.inl ⟨by rfl,?_⟩) (by assumption) ?_
       rotate_left
       ·intro w hSw
        try simp only [Cells,blk,List.cons_append,List.nil_append,and_true,Nat.reduceAdd,Nat.add_zero,Nat.zero_add] at hSw
        go_simp
        try with_reducible rfl
       simp only [Act.put,List.setIfInBounds_toArray,List.set_cons_zero,List.set_cons_succ]
       refine wpAnyH_take (i := 25) (oi := _) (v := ?_) (by rw [List.getElem?_toArray]; rfl) (by kernel_rfl) (by kernel_rfl) (by kernel_rfl) (by exact fun _ _ _ h => h) (Or.inl ⟨by rfl,?_⟩) (by assumption) ?_
       rotate_left
       ·intro w hSw
        try simp only [Cells,blk,List.cons_append,List.nil_append,and_true,Nat.reduceAdd,Nat.add_zero,Nat.zero_add] at hSw
        go_simp
        try with_reducible rfl
       simp only [Act.put,List.setIfInBounds_toArray,List.set_cons_zero,List.set_cons_succ]
       refine wpAnyH_take (i := 26) (oi := _) (v := ?_) (by rw [List.getElem?_toArray]; rfl) (by kernel_rfl) (by kernel_rfl) (by kernel_rfl) (by exact fun _ _ _ h => h) (Or.inl ⟨by rfl,?_⟩) (by assumption) ?_
       rotate_left
       ·intro w hSw
        try simp only [Cells,blk,List.cons_append,List.nil_append,and_true,Nat.reduceAdd,Nat.add_zero,Nat.zero_add] at hSw
        go_simp
        try with_reducible rfl
       simp only [Act.put,List.setIfInBounds_toArray,List.set_cons_zero,List.set_cons_succ]
       refine wpAnyH_ready (rs := [27]) (by kernel_rfl) (by simp) (AllReadyH.cons (o := _) (by rw [List.getElem?_toArray]; rfl) (fun K hK => ?_) AllReadyH.nil)
       go_simp
       go_at_call 17
       refine (HRO.out _).mono ?_
       rintro e w7 ⟨rfl,rfl⟩
       clear hHeld
       refine hK.out _ _ (⟨kc e1 hBd,kc e2 hBd,kc f1 hBd,kc f2 hBd,kc m5 hBd,kc m1 hBd⟩) (fun hHeld => ?_)
       clear hK K
       try simp only [Act.put,List.setIfInBounds_toArray,List.set_cons_zero,List.set_cons_succ]
       refine wpAnyH_take (i := 28) (oi := _) (v := ?_) (by rw [List.getElem?_toArray]; rfl) (by kernel_rfl) (by kernel_rfl) (by kernel_rfl) (by exact fun _ _ _ h => h) (Or.inl ⟨by rfl,?_⟩) (by assumption) ?_
       rotate_left
       ·intro w hSw
        try simp only [Cells,blk,List.cons_append,List.nil_append,and_true,Nat.reduceAdd,Nat.add_zero,Nat.zero_add] at hSw
        go_simp
        try with_reducible rfl
       simp only [Act.put,List.setIfInBounds_toArray,List.set_cons_zero,List.set_cons_succ]
       refine wpAnyH_take (i := 29) (oi := _) (v := ?_) (by rw [List.getElem?_toArray]; rfl) (by kernel_rfl) (by kernel_rfl) (by kernel_rfl) (by exact fun _ _ _ h => h) (Or.inl ⟨by rfl,?_⟩) (by assumption) ?_
       rotate_left
       ·intro w hSw
        try simp only [Cells,blk,List.cons_append,List.nil_append,and_true,Nat.reduceAdd,Nat.add_zero,Nat.zero_add] at hSw
        go_simp
        try with_reducible rfl
       simp only [Act.put,List.setIfInBounds_toArray,List.set_cons_zero,List.set_cons_succ]
       refine wpAnyH_done (by kernel_rfl) ?_ _
       clear hHeld
       go_wp2_with fail
       go_meet
       exact ⟨by rw [HQ3.out],hVd.trans (hBd.mono hVd.size)⟩
      ·have hqe : (SK == S1) = false := by simpa using hss
       rw [hqe,Bool.false_and] at hq
       have HQ3 := Lib.hid hq
       clear hss hq
       refine wp_region_held_drew (S := (fun W' : World => W'.cell? ⟨b,off + k * 5 + 1,none⟩ = some (.int .u64 (HK : Nat)) ∧ W'.cell? ⟨b,off + k * 5 + 2,none⟩ = some (.int .u64 (LK : Nat)) ∧ W'.cell? ⟨b,off + 1,none⟩ = some (.int .u64 (H0 : Nat)) ∧ W'.cell? ⟨b,off + 2,none⟩ = some (.int .u64 (L0 : Nat)) ∧ W'.cell? ⟨OB,0,none⟩ = some (.int .i64 5) ∧ W'.cell? ⟨w.heap.size,1,none⟩ = some (.int .i64 s.mt))) (by kernel_rfl) (⟨kc e1 hBd,kc e2 hBd,kc f1 hBd,kc f2 hBd,kc m5 hBd,kc m1 hBd⟩) (fun hHeld => ?_)
       generalize World.drew _ = wd at hHeld e1 e2 f1 f2 m5 m1 hVd hBd ⊢
       refine wpAnyH_take (i := 0) (oi := _) (v := ?_) (by rw [List.getElem?_toArray]; rfl) (by kernel_rfl) (by kernel_rfl) (by kernel_rfl) (by exact fun _ _ _ h => h) (Or.inl ⟨by rfl,?_⟩) (by assumption) ?_
       rotate_left
       ·intro w hSw
        try simp only [Cells,blk,List.cons_append,List.nil_append,and_true,Nat.reduceAdd,Nat.add_zero,Nat.zero_add] at hSw
        go_simp
        try with_reducible rfl
       simp only [Act.put,List.setIfInBounds_toArray,List.set_cons_zero,List.set_cons_succ]
       refine wpAnyH_take (i := 1) (oi := _) (v := ?_) (by rw [List.getElem?_toArray]; rfl) (by kernel_rfl) (by kernel_rfl) (by kernel_rfl) (by exact fun _ _ _ h => h) (Or.inl ⟨by rfl,?_⟩) (by assumption) ?_
       rotate_left
       ·intro w hSw
        try simp only [Cells,blk,List.cons_append,List.nil_append,and_true,Nat.reduceAdd,Nat.add_zero,Nat.zero_add] at hSw
        go_simp
        try with_reducible rfl
       simp only [Act.put,List.setIfInBounds_toArray,List.set_cons_zero,List.set_cons_succ]
       refine wpAnyH_take (i := 2) (oi := _) (v := ?_) (by rw [List.getElem?_toArray]; rfl) (by kernel_rfl) (by kernel_rfl) (by kernel_rfl) (by exact fun _ _ _ h => h) (Or.inl ⟨by rfl,?_⟩) (by assumption) ?_
       rotate_left
       ·intro w hSw
        try simp only [Cells,blk,List.cons_append,List.nil_append,and_true,Nat.reduceAdd,Nat.add_zero,Nat.zero_add] at hSw
        go_simp
        try with_reducible rfl
       simp only [Act.put,List.setIfInBounds_toArray,List.set_cons_zero,List.set_cons_succ]
       refine wpAnyH_take (i := 3) (oi := _) (v := ?_) (by rw [List.getElem?_toArray]; rfl) (by kernel_rfl) (by kernel_rfl) (by kernel_rfl) (by exact fun _ _ _ h => h) (Or.inl ⟨by rfl,?_⟩) (by assumption) ?_
       rotate_left
       ·intro w hSw
        try simp only [Cells,blk,List.cons_append,List.nil_append,and_true,Nat.reduceAdd,Nat.add_zero,Nat.zero_add] at hSw
        go_simp
        try with_reducible rfl
       simp only [Act.put,List.setIfInBounds_toArray,List.set_cons_zero,List.set_cons_succ]
       refine wpAnyH_take (i := 4) (oi := _) (v := ?_) (by rw [List.getElem?_toArray]; rfl) (by kernel_rfl) (by kernel_rfl) (by kernel_rfl) (by exact fun _ _ _ h => h) (Or.inl ⟨by rfl,?_⟩) (by assumption) ?_
       rotate_left
       ·intro w hSw
        try simp only [Cells,blk,List.cons_append,List.nil_append,and_true,Nat.reduceAdd,Nat.add_zero,Nat.zero_add] at hSw
        go_simp
        try with_reducible rfl
       simp only [Act.put,List.setIfInBounds_toArray,List.set_cons_zero,List.set_cons_succ]
       refine wpAnyH_take (i := 5) (oi := _) (v := ?_) (by rw [List.getElem?_toArray]; rfl) (by kernel_rfl) (by kernel_rfl) (by kernel_rfl) (by exact fun _ _ _ h => h) (Or.inl ⟨by rfl,?_⟩) (by assumption) ?_
       rotate_left
       ·intro w hSw
        try simp only [Cells,blk,List.cons_append,List.nil_append,and_true,Nat.reduceAdd,Nat.add_zero,Nat.zero_add] at hSw
        go_simp
        try with_reducible rfl
       simp only [Act.put,List.setIfInBounds_toArray,List.set_cons_zero,List.set_cons_succ]
       refine wpAnyH_take (i := 6) (oi := _) (v := ?_) (by rw [List.getElem?_toArray]; rfl) (by kernel_rfl) (by kernel_rfl) (by kernel_rfl) (by exact fun _ _ _ h => h) (Or.inl ⟨by rfl,?_⟩) (by assumption) ?_
       rotate_left
       ·intro w hSw
        try simp only [Cells,blk,List.cons_append,List.nil_append,and_true,Nat.reduceAdd,Nat.add_zero,Nat.zero_add] at hSw
        go_simp
        try with_reducible rfl
       simp only [Act.put,List.setIfInBounds_toArray,List.set_cons_zero,List.set_cons_succ]
       refine wpAnyH_take (i := 7) (oi := _) (v := ?_) (by rw [List.getElem?_toArray]; rfl) (by kernel_rfl) (by kernel_rfl) (by kernel_rfl) (by exact fun _ _ _ h => h) (Or.inl ⟨by rfl,?_⟩) (by assumption) ?_
       rotate_left
       ·intro w hSw
        try simp only [Cells,blk,List.cons_append,List.nil_append,and_true,Nat.reduceAdd,Nat.add_zero,Nat.zero_add] at hSw
        go_simp
        try with_reducible rfl
       simp only [Act.put,List.setIfInBounds_toArray,List.set_cons_zero,List.set_cons_succ]
       refine wpAnyH_take (i := 8) (oi := _) (v := ?_) (by rw [List.getElem?_toArray]; rfl) (by kernel_rfl) (by kernel_rfl) (by kernel_rfl) (by exact fun _ _ _ h => h) (Or.inl ⟨by rfl,?_⟩) (by assumption) ?_
       rotate_left
       ·intro w hSw
        try simp only [Cells,blk,List.cons_append,List.nil_append,and_true,Nat.reduceAdd,Nat.add_zero,Nat.zero_add] at hSw
        go_simp
        try with_reducible rfl
       simp only [Act.put,List.setIfInBounds_toArray,List.set_cons_zero,List.set_cons_succ]
       refine wpAnyH_take (i := 9) (oi := _) (v := ?_) (by rw [List.getElem?_toArray]; rfl) (by kernel_rfl) (by kernel_rfl) (by kernel_rfl) (by exact fun _ _ _ h => h) (Or.inl ⟨by rfl,?_⟩) (by assumption) ?_
       rotate_left
       ·intro w hSw
        try simp only [Cells,blk,List.cons_append,List.nil_append,and_true,Nat.reduceAdd,Nat.add_zero,Nat.zero_add] at hSw
        go_simp
        try with_reducible rfl
       simp only [Act.put,List.setIfInBounds_toArray,List.set_cons_zero,List.set_cons_succ]
       refine wpAnyH_take (i := 11) (oi := _) (v := ?_) (by rw [List.getElem?_toArray]; rfl) (by kernel_rfl) (by kernel_rfl) (by kernel_rfl) (by exact fun _ _ _ h => h) (Or.inl ⟨by rfl,?_⟩) (by assumption) ?_
       rotate_left
       ·intro w hSw
        try simp only [Cells,blk,List.cons_append,List.nil_append,and_true,Nat.reduceAdd,Nat.add_zero,Nat.zero_add] at hSw
        go_simp
        try with_reducible rfl
       simp only [Act.put,List.setIfInBounds_toArray,List.set_cons_zero,List.set_cons_succ]
       refine wpAnyH_take (i := 12) (oi := _) (v := ?_) (by rw [List.getElem?_toArray]; rfl) (by kernel_rfl) (by kernel_rfl) (by kernel_rfl) (by exact fun _ _ _ h => h) (Or.inl ⟨by rfl,?_⟩) (by assumption) ?_
       rotate_left
       ·intro w hSw
        try simp only [Cells,blk,List.cons_append,List.nil_append,and_true,Nat.reduceAdd,Nat.add_zero,Nat.zero_add] at hSw
        go_simp
        try with_reducible rfl
       simp only [Act.put,List.setIfInBounds_toArray,List.set_cons_zero,List.set_cons_succ]
       refine wpAnyH_take (i := 13) (oi := _) (v := ?_) (by rw [List.getElem?_toArray]; rfl) (by kernel_rfl) (by kernel_rfl) (by kernel_rfl) (by exact fun _ _ _ h => h) (Or.inl ⟨by rfl,?_⟩) (by assumption) ?_
       rotate_left
       ·intro w hSw
        try simp only [Cells,blk,List.cons_append,List.nil_append,and_true,Nat.reduceAdd,Nat.add_zero,Nat.zero_add] at hSw
        go_simp
        try with_reducible rfl
       simp only [Act.put,List.setIfInBounds_toArray,List.set_cons_zero,List.set_cons_succ]
       refine wpAnyH_take (i := 14) (oi := _) (v := ?_) (by rw [List.getElem?_toArray]; rfl) (by kernel_rfl) (by kernel_rfl) (by kernel_rfl) (by exact fun _ _ _ h => h) (Or.inl ⟨by rfl,?_⟩) (by assumption) ?_
       rotate_left
       ·intro w hSw
        try simp only [Cells,blk,List.cons_append,List.nil_append,and_true,Nat.reduceAdd,Nat.add_zero,Nat.zero_add] at hSw
        go_simp
        try with_reducible rfl
       simp only [Act.put,List.setIfInBounds_toArray,List.set_cons_zero,List.set_cons_succ]
       refine wpAnyH_ready (rs := [10]) (by kernel_rfl) (by simp) (AllReadyH.cons (o := _) (by rw [List.getElem?_toArray]; rfl) (fun K hK => ?_) AllReadyH.nil)
       go_simp
       go_at_call 96
       refine (HSHK.out _).mono ?_
       rintro e w5 ⟨rfl,hC⟩
       have hBd := hBd.trans (hC.mono hBd.size)
       clear hC
       clear hHeld
       refine hK.out _ _ (⟨kc e1 hBd,kc e2 hBd,kc f1 hBd,kc f2 hBd,kc m5 hBd,kc m1 hBd⟩) (fun hHeld => ?_)
       clear hK K
       try simp only [Act.put,List.setIfInBounds_toArray,List.set_cons_zero,List.set_cons_succ]
       refine wpAnyH_ready (rs := [15]) (by kernel_rfl) (by simp) (AllReadyH.cons (o := _) (by rw [List.getElem?_toArray]; rfl) (fun K hK => ?_) AllReadyH.nil)
       go_simp
       go_at_call 96
       refine (HSH0.out _).mono ?_
       rintro e w6 ⟨rfl,hC⟩
       have hBd := hBd.trans (hC.mono hBd.size)
       clear hC
       clear hHeld
       refine hK.out _ _ (⟨kc e1 hBd,kc e2 hBd,kc f1 hBd,kc f2 hBd,kc m5 hBd,kc m1 hBd⟩) (fun hHeld => ?_)
       clear hK K
       try simp only [Act.put,List.setIfInBounds_toArray,List.set_cons_zero,List.set_cons_succ]
       refine wpAnyH_take (i := 16) (oi := _) (v := ?_) (by rw [List.getElem?_toArray]; rfl) (by kernel_rfl) (by kernel_rfl) (by kernel_rfl) (by exact fun _ _ _ h => h) (Or.inl ⟨by rfl,?_⟩) (by assumption) ?_
       rotate_left
       ·intro w hSw
        try simp only [Cells,blk,List.cons_append,List.nil_append,and_true,Nat.reduceAdd,Nat.add_zero,Nat.zero_add] at hSw
        go_simp
        try with_reducible rfl
       simp only [Act.put,List.setIfInBounds_toArray,List.set_cons_zero,List.set_cons_succ]
       refine wpAnyH_take (i := 17) (oi := _) (v := ?_) (by rw [List.getElem?_toArray]; rfl) (by kernel_rfl) (by kernel_rfl) (by kernel_rfl) (by exact fun _ _ _ h => h) (Or.inl ⟨by rfl,?_⟩) (by assumption) ?_
       rotate_left
       ·intro w hSw
        try simp only [Cells,blk,List.cons_append,List.nil_append,and_true,Nat.reduceAdd,Nat.add_zero,Nat.zero_add] at hSw
        go_simp
        try with_reducible rfl
       simp only [Act.put,List.setIfInBounds_toArray,List.set_cons_zero,List.set_cons_succ]
       refine wpAnyH_take (i := 18) (oi := _) (v := ?_) (by rw [List.getElem?_toArray]; rfl) (by kernel_rfl) (by kernel_rfl) (by kernel_rfl) (by exact fun _ _ _ h => h) (Or.inl ⟨by rfl,?_⟩) (by assumption) ?_
       rotate_left
       ·intro w hSw
        try simp only [Cells,blk,List.cons_append,List.nil_append,and_true,Nat.reduceAdd,Nat.add_zero,Nat.zero_add] at hSw
        go_simp
        try with_reducible rfl
       simp only [Act.put,List.setIfInBounds_toArray,List.set_cons_zero,List.set_cons_succ]
       refine wpAnyH_take (i := 19) (oi := _) (v := undef) (by rw [List.getElem?_toArray]; rfl) (by kernel_rfl) (by kernel_rfl) (by kernel_rfl) (by exact fun _ _ _ h => h) (Or.inr ⟨by rfl,rfl⟩) (by assumption) ?_
       simp only [Act.put,List.setIfInBounds_toArray,List.set_cons_zero,List.set_cons_succ]
       refine wpAnyH_take (i := 20) (oi := _) (v := undef) (by rw [List.getElem?_toArray]; rfl) (by kernel_rfl) (by kernel_rfl) (by kernel_rfl) (by exact fun _ _ _ h => h) (Or.inr ⟨by rfl,rfl⟩) (by assumption) ?_
       simp only [Act.put,List.setIfInBounds_toArray,List.set_cons_zero,List.set_cons_succ]
       refine wpAnyH_take (i := 21) (oi := _) (v := undef) (by rw [List.getElem?_toArray]; rfl) (by kernel_rfl) (by kernel_rfl) (by kernel_rfl) (by exact fun _ _ _ h => h) (Or.inr ⟨by rfl,rfl⟩) (by assumption) ?_
       simp only [Act.put,List.setIfInBounds_toArray,List.set_cons_zero,List.set_cons_succ]
       refine wpAnyH_take (i := 22) (oi := _) (v := undef) (by rw [List.getElem?_toArray]; rfl) (by kernel_rfl) (by kernel_rfl) (by kernel_rfl) (by exact fun _ _ _ h => h) (Or.inr ⟨by rfl,rfl⟩) (by assumption) ?_
       simp only [Act.put,List.setIfInBounds_toArray,List.set_cons_zero,List.set_cons_succ]
       refine wpAnyH_take (i := 23) (oi := _) (v := undef) (by rw [List.getElem?_toArray]; rfl) (by kernel_rfl) (by kernel_rfl) (by kernel_rfl) (by exact fun _ _ _ h => h) (Or.inr ⟨by rfl,rfl⟩) (by assumption) ?_
       simp only [Act.put,List.setIfInBounds_toArray,List.set_cons_zero,List.set_cons_succ]
       refine wpAnyH_take (i := 24) (oi := _) (v := undef) (by rw [List.getElem?_toArray]; rfl) (by kernel_rfl) (by kernel_rfl) (by kernel_rfl) (by exact fun _ _ _ h => h) (Or.inr ⟨by rfl,rfl⟩) (by assumption) ?_
       simp only [Act.put,List.setIfInBounds_toArray,List.set_cons_zero,List.set_cons_succ]
       refine wpAnyH_take (i := 25) (oi := _) (v := undef) (by rw [List.getElem?_toArray]; rfl) (by kernel_rfl) (by kernel_rfl) (by kernel_rfl) (by exact fun _ _ _ h => h) (Or.inr ⟨by rfl,rfl⟩) (by assumption) ?_
       simp only [Act.put,List.setIfInBounds_toArray,List.set_cons_zero,List.set_cons_succ]
       refine wpAnyH_take (i := 26) (oi := _) (v := undef) (by rw [List.getElem?_toArray]; rfl) (by kernel_rfl) (by kernel_rfl) (by kernel_rfl) (by exact fun _ _ _ h => h) (Or.inr ⟨by rfl,rfl⟩) (by assumption) ?_
       simp only [Act.put,List.setIfInBounds_toArray,List.set_cons_zero,List.set_cons_succ]
       refine wpAnyH_take (i := 27) (oi := _) (v := undef) (by rw [List.getElem?_toArray]; rfl) (by kernel_rfl) (by kernel_rfl) (by kernel_rfl) (by exact fun _ _ _ h => h) (Or.inr ⟨by rfl,rfl⟩) (by assumption) ?_
       simp only [Act.put,List.setIfInBounds_toArray,List.set_cons_zero,List.set_cons_succ]
       refine wpAnyH_take (i := 28) (oi := _) (v := undef) (by rw [List.getElem?_toArray]; rfl) (by kernel_rfl) (by kernel_rfl) (by kernel_rfl) (by exact fun _ _ _ h => h) (Or.inr ⟨by rfl,rfl⟩) (by assumption) ?_
       simp only [Act.put,List.setIfInBounds_toArray,List.set_cons_zero,List.set_cons_succ]
       refine wpAnyH_take (i := 29) (oi := _) (v := ?_) (by rw [List.getElem?_toArray]; rfl) (by kernel_rfl) (by kernel_rfl) (by kernel_rfl) (by exact fun _ _ _ h => h) (Or.inl ⟨by rfl,?_⟩) (by assumption) ?_
       rotate_left
       ·intro w hSw
        try simp only [Cells,blk,List.cons_append,List.nil_append,and_true,Nat.reduceAdd,Nat.add_zero,Nat.zero_add] at hSw
        go_simp
        try with_reducible rfl
       simp only [Act.put,List.setIfInBounds_toArray,List.set_cons_zero,List.set_cons_succ]
       refine wpAnyH_done (by kernel_rfl) ?_ _
       clear hHeld
       go_wp2_with fail
       go_meet
       exact ⟨by rw [← HQ3.out],hVd.trans (hBd.mono hVd.size)⟩
     ·have g1 : decide (k < n) = false := by simpa using hlt
      have g1i : decide ((k : Int) < (n : Int)) = false := by simp; omega
      have hq := HQ.out
      rw [g1,Bool.false_and] at hq
      have HQ3 := Lib.hid hq
      have hVd := hdr
      clear bO bS hBW hlt hk HQ hq hdr
      refine wp_region_held_drew (S := (fun W' : World => True)) (by kernel_rfl) (trivial) (fun hHeld => ?_)
      generalize World.drew _ = wd at hHeld hVd ⊢
      refine wpAnyH_take (i := 0) (oi := _) (v := ?_) (by rw [List.getElem?_toArray]; rfl) (by kernel_rfl) (by kernel_rfl) (by kernel_rfl) (by exact fun _ _ _ h => h) (Or.inl ⟨by rfl,?_⟩) (by assumption) ?_
      rotate_left
      ·intro w hSw
       try simp only [Cells,blk,List.cons_append,List.nil_append,and_true,Nat.reduceAdd,Nat.add_zero,Nat.zero_add] at hSw
       go_simp
       try with_reducible rfl
      simp only [Act.put,List.setIfInBounds_toArray,List.set_cons_zero,List.set_cons_succ]
      refine wpAnyH_take (i := 1) (oi := _) (v := ?_) (by rw [List.getElem?_toArray]; rfl) (by kernel_rfl) (by kernel_rfl) (by kernel_rfl) (by exact fun _ _ _ h => h) (Or.inl ⟨by rfl,?_⟩) (by assumption) ?_
      rotate_left
      ·intro w hSw
       try simp only [Cells,blk,List.cons_append,List.nil_append,and_true,Nat.reduceAdd,Nat.add_zero,Nat.zero_add] at hSw
       go_simp
       try with_reducible rfl
      simp only [Act.put,List.setIfInBounds_toArray,List.set_cons_zero,List.set_cons_succ]
      refine wpAnyH_take (i := 2) (oi := _) (v := ?_) (by rw [List.getElem?_toArray]; rfl) (by kernel_rfl) (by kernel_rfl) (by kernel_rfl) (by exact fun _ _ _ h => h) (Or.inl ⟨by rfl,?_⟩) (by assumption) ?_
      rotate_left
      ·intro w hSw
       try simp only [Cells,blk,List.cons_append,List.nil_append,and_true,Nat.reduceAdd,Nat.add_zero,Nat.zero_add] at hSw
       go_simp
       try with_reducible rfl
      simp only [Act.put,List.setIfInBounds_toArray,List.set_cons_zero,List.set_cons_succ]
      refine wpAnyH_take (i := 3) (oi := _) (v := ?_) (by rw [List.getElem?_toArray]; rfl) (by kernel_rfl) (by kernel_rfl) (by kernel_rfl) (by exact fun _ _ _ h => h) (Or.inl ⟨by rfl,?_⟩) (by assumption) ?_
      rotate_left
      ·intro w hSw
       try simp only [Cells,blk,List.cons_append,List.nil_append,and_true,Nat.reduceAdd,Nat.add_zero,Nat.zero_add] at hSw
       go_simp
       try with_reducible rfl
      simp only [Act.put,List.setIfInBounds_toArray,List.set_cons_zero,List.set_cons_succ]
      refine wpAnyH_take (i := 4) (oi := _) (v := ?_) (by rw [List.getElem?_toArray]; rfl) (by kernel_rfl) (by kernel_rfl) (by kernel_rfl) (by exact fun _ _ _ h => h) (Or.inl ⟨by rfl,?_⟩) (by assumption) ?_
      rotate_left
      ·intro w hSw
       try simp only [Cells,blk,List.cons_append,List.nil_append,and_true,Nat.reduceAdd,Nat.add_zero,Nat.zero_add] at hSw
       go_simp
       try with_reducible rfl
      simp only [Act.put,List.setIfInBounds_toArray,List.set_cons_zero,List.set_cons_succ]
      refine wpAnyH_take (i := 5) (oi := _) (v := undef) (by rw [List.getElem?_toArray]; rfl) (by kernel_rfl) (by kernel_rfl) (by kernel_rfl) (by exact fun _ _ _ h => h) (Or.inr ⟨by rfl,rfl⟩) (by assumption) ?_
      simp only [Act.put,List.setIfInBounds_toArray,List.set_cons_zero,List.set_cons_succ]
      refine wpAnyH_take (i := 6) (oi := _) (v := undef) (by rw [List.getElem?_toArray]; rfl) (by kernel_rfl) (by kernel_rfl) (by kernel_rfl) (by exact fun _ _ _ h => h) (Or.inr ⟨by rfl,rfl⟩) (by assumption) ?_
      simp only [Act.put,List.setIfInBounds_toArray,List.set_cons_zero,List.set_cons_succ]
      refine wpAnyH_take (i := 7) (oi := _) (v := undef) (by rw [List.getElem?_toArray]; rfl) (by kernel_rfl) (by kernel_rfl) (by kernel_rfl) (by exact fun _ _ _ h => h) (Or.inr ⟨by rfl,rfl⟩) (by assumption) ?_
      simp only [Act.put,List.setIfInBounds_toArray,List.set_cons_zero,List.set_cons_succ]
      refine wpAnyH_take (i := 8) (oi := _) (v := undef) (by rw [List.getElem?_toArray]; rfl) (by kernel_rfl) (by kernel_rfl) (by kernel_rfl) (by exact fun _ _ _ h => h) (Or.inr ⟨by rfl,rfl⟩) (by assumption) ?_
      simp only [Act.put,List.setIfInBounds_toArray,List.set_cons_zero,List.set_cons_succ]
      refine wpAnyH_take (i := 9) (oi := _) (v := undef) (by rw [List.getElem?_toArray]; rfl) (by kernel_rfl) (by kernel_rfl) (by kernel_rfl) (by exact fun _ _ _ h => h) (Or.inr ⟨by rfl,rfl⟩) (by assumption) ?_
      simp only [Act.put,List.setIfInBounds_toArray,List.set_cons_zero,List.set_cons_succ]
      refine wpAnyH_take (i := 10) (oi := _) (v := undef) (by rw [List.getElem?_toArray]; rfl) (by kernel_rfl) (by kernel_rfl) (by kernel_rfl) (by exact fun _ _ _ h => h) (Or.inr ⟨by rfl,rfl⟩) (by assumption) ?_
      simp only [Act.put,List.setIfInBounds_toArray,List.set_cons_zero,List.set_cons_succ]
      refine wpAnyH_take (i := 11) (oi := _) (v := undef) (by rw [List.getElem?_toArray]; rfl) (by kernel_rfl) (by kernel_rfl) (by kernel_rfl) (by exact fun _ _ _ h => h) (Or.inr ⟨by rfl,rfl⟩) (by assumption) ?_
      simp only [Act.put,List.setIfInBounds_toArray,List.set_cons_zero,List.set_cons_succ]
      refine wpAnyH_take (i := 12) (oi := _) (v := undef) (by rw [List.getElem?_toArray]; rfl) (by kernel_rfl) (by kernel_rfl) (by kernel_rfl) (by exact fun _ _ _ h => h) (Or.inr ⟨by rfl,rfl⟩) (by assumption) ?_
      simp only [Act.put,List.setIfInBounds_toArray,List.set_cons_zero,List.set_cons_succ]
      refine wpAnyH_take (i := 13) (oi := _) (v := undef) (by rw [List.getElem?_toArray]; rfl) (by kernel_rfl) (by kernel_rfl) (by kernel_rfl) (by exact fun _ _ _ h => h) (Or.inr ⟨by rfl,rfl⟩) (by assumption) ?_
      simp only [Act.put,List.setIfInBounds_toArray,List.set_cons_zero,List.set_cons_succ]
      refine wpAnyH_take (i := 14) (oi := _) (v := undef) (by rw [List.getElem?_toArray]; rfl) (by kernel_rfl) (by kernel_rfl) (by kernel_rfl) (by exact fun _ _ _ h => h) (Or.inr ⟨by rfl,rfl⟩) (by assumption) ?_
      simp only [Act.put,List.setIfInBounds_toArray,List.set_cons_zero,List.set_cons_succ]
      refine wpAnyH_take (i := 15) (oi := _) (v := undef) (by rw [List.getElem?_toArray]; rfl) (by kernel_rfl) (by kernel_rfl) (by kernel_rfl) (by exact fun _ _ _ h => h) (Or.inr ⟨by rfl,rfl⟩) (by assumption) ?_
      simp only [Act.put,List.setIfInBounds_toArray,List.set_cons_zero,List.set_cons_succ]
      refine wpAnyH_take (i := 16) (oi := _) (v := undef) (by rw [List.getElem?_toArray]; rfl) (by kernel_rfl) (by kernel_rfl) (by kernel_rfl) (by exact fun _ _ _ h => h) (Or.inr ⟨by rfl,rfl⟩) (by assumption) ?_
      simp only [Act.put,List.setIfInBounds_toArray,List.set_cons_zero,List.set_cons_succ]
      refine wpAnyH_take (i := 17) (oi := _) (v := ?_) (by rw [List.getElem?_toArray]; rfl) (by kernel_rfl) (by kernel_rfl) (by kernel_rfl) (by exact fun _ _ _ h => h) (Or.inl ⟨by rfl,?_⟩) (by assumption) ?_
      rotate_left
      ·intro w hSw
       try simp only [Cells,blk,List.cons_append,List.nil_append,and_true,Nat.reduceAdd,Nat.add_zero,Nat.zero_add] at hSw
       go_simp
       try with_reducible rfl
      simp only [Act.put,List.setIfInBounds_toArray,List.set_cons_zero,List.set_cons_succ]
      refine wpAnyH_take (i := 18) (oi := _) (v := ?_) (by rw [List.getElem?_toArray]; rfl) (by kernel_rfl) (by kernel_rfl) (by kernel_rfl) (by exact fun _ _ _ h => h) (Or.inl ⟨by rfl,?_⟩) (by assumption) ?_
      rotate_left
      ·intro w hSw
       try simp only [Cells,blk,List.cons_append,List.nil_append,and_true,Nat.reduceAdd,Nat.add_zero,Nat.zero_add] at hSw
       go_simp
       try with_reducible rfl
      simp only [Act.put,List.setIfInBounds_toArray,List.set_cons_zero,List.set_cons_succ]
      refine wpAnyH_take (i := 19) (oi := _) (v := undef) (by rw [List.getElem?_toArray]; rfl) (by kernel_rfl) (by kernel_rfl) (by kernel_rfl) (by exact fun _ _ _ h => h) (Or.inr ⟨by rfl,rfl⟩) (by assumption) ?_
      simp only [Act.put,List.setIfInBounds_toArray,List.set_cons_zero,List.set_cons_succ]
      refine wpAnyH_take (i := 20) (oi := _) (v := undef) (by rw [List.getElem?_toArray]; rfl) (by kernel_rfl) (by kernel_rfl) (by kernel_rfl) (by exact fun _ _ _ h => h) (Or.inr ⟨by rfl,rfl⟩) (by assumption) ?_
      simp only [Act.put,List.setIfInBounds_toArray,List.set_cons_zero,List.set_cons_succ]
      refine wpAnyH_take (i := 21) (oi := _) (v := undef) (by rw [List.getElem?_toArray]; rfl) (by kernel_rfl) (by kernel_rfl) (by kernel_rfl) (by exact fun _ _ _ h => h) (Or.inr ⟨by rfl,rfl⟩) (by assumption) ?_
      simp only [Act.put,List.setIfInBounds_toArray,List.set_cons_zero,List.set_cons_succ]
      refine wpAnyH_take (i := 22) (oi := _) (v := undef) (by rw [List.getElem?_toArray]; rfl) (by kernel_rfl) (by kernel_rfl) (by kernel_rfl) (by exact fun _ _ _ h => h) (Or.inr ⟨by rfl,rfl⟩) (by assumption) ?_
      simp only [Act.put,List.setIfInBounds_toArray,List.set_cons_zero,List.set_cons_succ]
      refine wpAnyH_take (i := 23) (oi := _) (v := undef) (by rw [List.getElem?_toArray]; rfl) (by kernel_rfl) (by kernel_rfl) (by kernel_rfl) (by exact fun _ _ _ h => h) (Or.inr ⟨by rfl,rfl⟩) (by assumption) ?_
      simp only [Act.put,List.setIfInBounds_toArray,List.set_cons_zero,List.set_cons_succ]
      refine wpAnyH_take (i := 24) (oi := _) (v := undef) (by rw [List.getElem?_toArray]; rfl) (by kernel_rfl) (by kernel_rfl) (by kernel_rfl) (by exact fun _ _ _ h => h) (Or.inr ⟨by rfl,rfl⟩) (by assumption) ?_
      simp only [Act.put,List.setIfInBounds_toArray,List.set_cons_zero,List.set_cons_succ]
      refine wpAnyH_take (i := 25) (oi := _) (v := undef) (by rw [List.getElem?_toArray]; rfl) (by kernel_rfl) (by kernel_rfl) (by kernel_rfl) (by exact fun _ _ _ h => h) (Or.inr ⟨by rfl,rfl⟩) (by assumption) ?_
      simp only [Act.put,List.setIfInBounds_toArray,List.set_cons_zero,List.set_cons_succ]
      refine wpAnyH_take (i := 26) (oi := _) (v := undef) (by rw [List.getElem?_toArray]; rfl) (by kernel_rfl) (by kernel_rfl) (by kernel_rfl) (by exact fun _ _ _ h => h) (Or.inr ⟨by rfl,rfl⟩) (by assumption) ?_
      simp only [Act.put,List.setIfInBounds_toArray,List.set_cons_zero,List.set_cons_succ]
      refine wpAnyH_take (i := 27) (oi := _) (v := undef) (by rw [List.getElem?_toArray]; rfl) (by kernel_rfl) (by kernel_rfl) (by kernel_rfl) (by exact fun _ _ _ h => h) (Or.inr ⟨by rfl,rfl⟩) (by assumption) ?_
      simp only [Act.put,List.setIfInBounds_toArray,List.set_cons_zero,List.set_cons_succ]
      refine wpAnyH_take (i := 28) (oi := _) (v := undef) (by rw [List.getElem?_toArray]; rfl) (by kernel_rfl) (by kernel_rfl) (by kernel_rfl) (by exact fun _ _ _ h => h) (Or.inr ⟨by rfl,rfl⟩) (by assumption) ?_
      simp only [Act.put,List.setIfInBounds_toArray,List.set_cons_zero,List.set_cons_succ]
      refine wpAnyH_take (i := 29) (oi := _) (v := ?_) (by rw [List.getElem?_toArray]; rfl) (by kernel_rfl) (by kernel_rfl) (by kernel_rfl) (by exact fun _ _ _ h => h) (Or.inl ⟨by rfl,?_⟩) (by assumption) ?_
      rotate_left
      ·intro w hSw
       try simp only [Cells,blk,List.cons_append,List.nil_append,and_true,Nat.reduceAdd,Nat.add_zero,Nat.zero_add] at hSw
       go_simp
       try with_reducible rfl
      simp only [Act.put,List.setIfInBounds_toArray,List.set_cons_zero,List.set_cons_succ]
      refine wpAnyH_done (by kernel_rfl) ?_ _
      clear hHeld
      go_wp2_with fail
      go_meet
      exact ⟨by rw [← HQ3.out],hVd⟩
    case rest =>
     obtain ⟨rfl,hBx⟩ := hcut
     rename World => Y
     have hown := own_below hinv.out.1 hBx
     have bO := hinv.out.2.2.1.below hBx
     have hOlt := hinv.out.2.2.1.lt
     have hBW := hinv.out.2.2.2.trans (hBx.mono (Nat.le_of_lt hOlt))
     have HFC := Lib.hid hinv.out.2.1
     clear hBx hOlt hinv
     cases Q with
     |true =>
      have hq := HQ.out
      simp only [Bool.and_eq_true,decide_eq_true_eq] at hq
      have HLT := Lib.hid hq.1
      have HF2 := Lib.hid hq.2
      have w1 : IntKind.i64.wrap ((k : Int) + 1) = (k : Int) + 1 := IntWalk.i64_in _ (by have := HK9.out; omega)
      have hp1 : k < n := hq.1
      have hk0 : (0 : Int) ≤ (k : Int) := by omega
      have hk1 : (k : Int) < (n : Int) := by omega
      clear hq HQ
      go_upto_region 11 with fail
      have hown := own_below hown (Below.refl _ _).drew
      have bO := bO.drew
      have hBW := hBW.drew
      have m11d := bO.cell (j := 11) (v := .slice ka k kc4) rfl
      have z11d := bO.frozen 11
      obtain ⟨e0,e1,e2⟩ := HEL.out k HLT.out _ hBW
      have m11 := m11d
      have z11 := z11d
      clear m11d z11d
      refine wp_region_held_drew (S := (fun W' : World => W'.cell? ⟨b,off + k * 5,none⟩ = some (.int .u16 (atI LL k).ha) ∧ W'.cell? ⟨b,off + k * 5 + 1,none⟩ = some (.int .u64 (atI LL k).hi) ∧ W'.cell? ⟨b,off + k * 5 + 2,none⟩ = some (.int .u64 (atI LL k).lo))) (by kernel_rfl) (⟨(HEL.out k HLT.out _ hBW).1,(HEL.out k HLT.out _ hBW).2.1,(HEL.out k HLT.out _ hBW).2.2⟩) (fun hHeld => ?_)
      generalize World.drew _ = wd at hHeld hown bO hBW m11 z11 e0 e1 e2 ⊢
      refine wpAnyH_take (i := 0) (oi := _) (v := ?_) (by rw [List.getElem?_toArray]; rfl) (by kernel_rfl) (by kernel_rfl) (by kernel_rfl) (by exact fun _ _ _ h => h) (Or.inl ⟨by rfl,?_⟩) (by assumption) ?_
      rotate_left
      ·intro w hSw
       try simp only [Cells,blk,List.cons_append,List.nil_append,and_true,Nat.reduceAdd,Nat.add_zero,Nat.zero_add] at hSw
       go_simp
       try with_reducible rfl
      simp only [Act.put,List.setIfInBounds_toArray,List.set_cons_zero,List.set_cons_succ]
      refine wpAnyH_take (i := 2) (oi := _) (v := ?_) (by rw [List.getElem?_toArray]; rfl) (by kernel_rfl) (by kernel_rfl) (by kernel_rfl) (by exact fun _ _ _ h => h) (Or.inl ⟨by rfl,?_⟩) (by assumption) ?_
      rotate_left
      ·intro w hSw
       try simp only [Cells,blk,List.cons_append,List.nil_append,and_true,Nat.reduceAdd,Nat.add_zero,Nat.zero_add] at hSw
       go_simp
       try with_reducible rfl
      simp only [Act.put,List.setIfInBounds_toArray,List.set_cons_zero,List.set_cons_succ]
      refine wpAnyH_take (i := 3) (oi := _) (v := ?_) (by rw [List.getElem?_toArray]; rfl) (by kernel_rfl) (by kernel_rfl) (by kernel_rfl) (by exact fun _ _ _ h => h) (Or.inl ⟨by rfl,?_⟩) (by assumption) ?_
      rotate_left
      ·intro w hSw
       try simp only [Cells,blk,List.cons_append,List.nil_append,and_true,Nat.reduceAdd,Nat.add_zero,Nat.zero_add] at hSw
       go_simp
       try with_reducible rfl
      simp only [Act.put,List.setIfInBounds_toArray,List.set_cons_zero,List.set_cons_succ]
      refine wpAnyH_take (i := 4) (oi := _) (v := ?_) (by rw [List.getElem?_toArray]; rfl) (by kernel_rfl) (by kernel_rfl) (by kernel_rfl) (by exact fun _ _ _ h => h) (Or.inl ⟨by rfl,?_⟩) (by assumption) ?_
      rotate_left
      ·intro w hSw
       try simp only [Cells,blk,List.cons_append,List.nil_append,and_true,Nat.reduceAdd,Nat.add_zero,Nat.zero_add] at hSw
       go_simp
       try with_reducible rfl
      simp only [Act.put,List.setIfInBounds_toArray,List.set_cons_zero,List.set_cons_succ]
      refine wpAnyH_take (i := 5) (oi := _) (v := ?_) (by rw [List.getElem?_toArray]; rfl) (by kernel_rfl) (by kernel_rfl) (by kernel_rfl) (by exact fun _ _ _ h => h) (Or.inl ⟨by rfl,?_⟩) (by assumption) ?_
      rotate_left
      ·intro w hSw
       try simp only [Cells,blk,List.cons_append,List.nil_append,and_true,Nat.reduceAdd,Nat.add_zero,Nat.zero_add] at hSw
       go_simp
       try with_reducible rfl
      simp only [Act.put,List.setIfInBounds_toArray,List.set_cons_zero,List.set_cons_succ]
      refine wpAnyH_take (i := 6) (oi := _) (v := ?_) (by rw [List.getElem?_toArray]; rfl) (by kernel_rfl) (by kernel_rfl) (by kernel_rfl) (by exact fun _ _ _ h => h) (Or.inl ⟨by rfl,?_⟩) (by assumption) ?_
      rotate_left
      ·intro w hSw
       try simp only [Cells,blk,List.cons_append,List.nil_append,and_true,Nat.reduceAdd,Nat.add_zero,Nat.zero_add] at hSw
       go_simp
       try with_reducible rfl
      simp only [Act.put,List.setIfInBounds_toArray,List.set_cons_zero,List.set_cons_succ]
      refine wpAnyH_take (i := 7) (oi := _) (v := ?_) (by rw [List.getElem?_toArray]; rfl) (by kernel_rfl) (by kernel_rfl) (by kernel_rfl) (by exact fun _ _ _ h => h) (Or.inl ⟨by rfl,?_⟩) (by assumption) ?_
      rotate_left
      ·intro w hSw
       try simp only [Cells,blk,List.cons_append,List.nil_append,and_true,Nat.reduceAdd,Nat.add_zero,Nat.zero_add] at hSw
       go_simp
       try with_reducible rfl
      simp only [Act.put,List.setIfInBounds_toArray,List.set_cons_zero,List.set_cons_succ]
      refine wpAnyH_take (i := 8) (oi := _) (v := ?_) (by rw [List.getElem?_toArray]; rfl) (by kernel_rfl) (by kernel_rfl) (by kernel_rfl) (by exact fun _ _ _ h => h) (Or.inl ⟨by rfl,?_⟩) (by assumption) ?_
      rotate_left
      ·intro w hSw
       try simp only [Cells,blk,List.cons_append,List.nil_append,and_true,Nat.reduceAdd,Nat.add_zero,Nat.zero_add] at hSw
       go_simp
       try with_reducible rfl
      simp only [Act.put,List.setIfInBounds_toArray,List.set_cons_zero,List.set_cons_succ]
      refine wpAnyH_take (i := 9) (oi := _) (v := ?_) (by rw [List.getElem?_toArray]; rfl) (by kernel_rfl) (by kernel_rfl) (by kernel_rfl) (by exact fun _ _ _ h => h) (Or.inl ⟨by rfl,?_⟩) (by assumption) ?_
      rotate_left
      ·intro w hSw
       try simp only [Cells,blk,List.cons_append,List.nil_append,and_true,Nat.reduceAdd,Nat.add_zero,Nat.zero_add] at hSw
       go_simp
       try with_reducible rfl
      simp only [Act.put,List.setIfInBounds_toArray,List.set_cons_zero,List.set_cons_succ]
      refine wpAnyH_take (i := 10) (oi := _) (v := ?_) (by rw [List.getElem?_toArray]; rfl) (by kernel_rfl) (by kernel_rfl) (by kernel_rfl) (by exact fun _ _ _ h => h) (Or.inl ⟨by rfl,?_⟩) (by assumption) ?_
      rotate_left
      ·intro w hSw
       try simp only [Cells,blk,List.cons_append,List.nil_append,and_true,Nat.reduceAdd,Nat.add_zero,Nat.zero_add] at hSw
       go_simp
       try with_reducible rfl
      simp only [Act.put,List.setIfInBounds_toArray,List.set_cons_zero,List.set_cons_succ]
      refine wpAnyH_take (i := 11) (oi := _) (v := ?_) (by rw [List.getElem?_toArray]; rfl) (by kernel_rfl) (by kernel_rfl) (by kernel_rfl) (by exact fun _ _ _ h => h) (Or.inl ⟨by rfl,?_⟩) (by assumption) ?_
      rotate_left
      ·intro w hSw
       try simp only [Cells,blk,List.cons_append,List.nil_append,and_true,Nat.reduceAdd,Nat.add_zero,Nat.zero_add] at hSw
       go_simp
       try with_reducible rfl
      simp only [Act.put,List.setIfInBounds_toArray,List.set_cons_zero,List.set_cons_succ]
      refine wpAnyH_take (i := 12) (oi := _) (v := ?_) (by rw [List.getElem?_toArray]; rfl) (by kernel_rfl) (by kernel_rfl) (by kernel_rfl) (by exact fun _ _ _ h => h) (Or.inl ⟨by rfl,?_⟩) (by assumption) ?_
      rotate_left
      ·intro w hSw
       try simp only [Cells,blk,List.cons_append,List.nil_append,and_true,Nat.reduceAdd,Nat.add_zero,Nat.zero_add] at hSw
       go_simp
       try with_reducible rfl
      simp only [Act.put,List.setIfInBounds_toArray,List.set_cons_zero,List.set_cons_succ]
      refine wpAnyH_ready (rs := [1,13]) (by kernel_rfl) (by simp) (AllReadyH.cons (o := _) (by rw [List.getElem?_toArray]; rfl) (fun K hK => ?_) (AllReadyH.cons (o := _) (by rw [List.getElem?_toArray]; rfl) (fun K hK => ?_) AllReadyH.nil))
      ·go_simp
       refine hK.out _ _ (⟨(HEL.out k HLT.out _ hBW).1,(HEL.out k HLT.out _ hBW).2.1,(HEL.out k HLT.out _ hBW).2.2⟩) (fun hHeld2 => ?_)
       replace hHeld := hHeld2
       clear hK K hHeld2
       try simp only [Act.put,List.setIfInBounds_toArray,List.set_cons_zero,List.set_cons_succ]
       refine wpAnyH_ready (rs := [13]) (by kernel_rfl) (by simp) (AllReadyH.cons (o := _) (by rw [List.getElem?_toArray]; rfl) (fun K hK => ?_) AllReadyH.nil)
       go_simp
       generalize hX : World.alloc _ (.cells _ 142) = w8
       obtain ⟨hnb,hBy,-⟩ := alloc_named hX
       have bN : Blk w8 _ 142 [.int .u16 (atI LL k).ha,.int .u16 0,.int .u64 (atI LL k).hi,.int .u64 (atI LL k).lo,.slice none 0 0] := hnb
       have hown := own_below hown hBy
       have hOl := bO.lt
       have bO := bO.below hBy
       have hBW := hBW.trans (hBy.mono (Nat.le_of_lt hOl))
       clear hX hBy hnb hOl m11 z11
       have m11 := bO.cell (j := 11) (v := .slice ka k kc4) rfl
       have z11 := bO.frozen 11
       refine hK.out _ _ (⟨(HEL.out k HLT.out _ hBW).1,(HEL.out k HLT.out _ hBW).2.1,(HEL.out k HLT.out _ hBW).2.2⟩) (fun hHeld2 => ?_)
       replace hHeld := hHeld2
       clear hK K hHeld2
       try simp only [Act.put,List.setIfInBounds_toArray,List.set_cons_zero,List.set_cons_succ]
       refine wpAnyH_ready (rs := [14]) (by kernel_rfl) (by simp) (AllReadyH.cons (o := _) (by rw [List.getElem?_toArray]; rfl) (fun K hK => ?_) AllReadyH.nil)
       refine step_app_own (by rfl) _ _ 47 (by rfl) (OB + 1) 142 i0 _ 5 48 Tryz.underlying47 hi0 hi1 hi2 hi3 rfl (by decide) (.slice ka k kc4) k (encF (LL.take k)) (by rfl) hown (.slice (some ⟨_,0,none⟩) 1 1) 1 [.int .u16 (atI LL k).ha,.int .u16 0,.int .u64 (atI LL k).hi,.int .u64 (atI LL k).lo,.slice none 0 0] (by rfl) (sr_oneblk bN rfl (by simp [Value.oneCell'])) (by have := HK9.out; unfold maxLen; omega) (by have := HK9.out; omega) bO.lt ?_
       intro v9 w9 hown9 hg9
       have hOl := bO.lt
       have bO := bO.kept hg9 (fun e => by have h := (hown.lt OB e.symm).1; omega)
       have hBW := hBW.trans ((own_low hown hg9 hOl).mono (by omega))
       obtain ⟨q7,c7,rfl⟩ := own_form hown9
       have hown9 : w9.ownsRow (OB + 1) 142 5 (.slice q7 (k + 1) c7) (k + 1) (encF (LL.take (k + 1))) := by rw [encF_take LL k (by rw [HN.out]; exact HLT.out)]; exact hown9
       clear hown hg9 bN m11 z11
       have m11 := bO.cell (j := 11) (v := .slice ka k kc4) rfl
       have z11 := bO.frozen 11
       refine hK.out _ _ (⟨(HEL.out k HLT.out _ hBW).1,(HEL.out k HLT.out _ hBW).2.1,(HEL.out k HLT.out _ hBW).2.2⟩) (fun hHeld2 => ?_)
       replace hHeld := hHeld2
       clear hK K hHeld2
       try simp only [Act.put,List.setIfInBounds_toArray,List.set_cons_zero,List.set_cons_succ]
       refine wpAnyH_take (i := 15) (oi := _) (v := ?_) (by rw [List.getElem?_toArray]; rfl) (by kernel_rfl) (by kernel_rfl) (by kernel_rfl) (by exact fun _ _ _ h => h) (Or.inl ⟨by rfl,?_⟩) (by assumption) ?_
       rotate_left
       ·intro w hSw
        try simp only [Cells,blk,List.cons_append,List.nil_append,and_true,Nat.reduceAdd,Nat.add_zero,Nat.zero_add] at hSw
        go_simp
        try with_reducible rfl
       simp only [Act.put,List.setIfInBounds_toArray,List.set_cons_zero,List.set_cons_succ]
       refine wpAnyH_ready (rs := [16]) (by kernel_rfl) (by simp) (AllReadyH.cons (o := _) (by rw [List.getElem?_toArray]; rfl) (fun K hK => ?_) AllReadyH.nil)
       go_simp
       have hg := set1 w9 ⟨OB,11,none⟩ (.slice q7 (k + 1) c7)
       have bO9 := bO.setAt (j := 11) (.slice q7 (k + 1) c7)
       have hBW := hBW.grown hg (Nat.le_of_lt bO.lt) (fun k hk => by cases hk; exact Nat.le_refl _)
       have hown9 := hown9.kept hg (by
        cases hx : (Value.slice q7 (k + 1) c7).ownBlock with
        |none => exact .inl rfl
        |some i => exact .inr (fun e => by injection e with e; have h := (hown9.lt i hx).1; simp only at e; omega))
       generalize hX : World.setCell _ _ _ = w10 at bO9 hBW hown9 ⊢
       have bO9 : Blk w10 OB 49 [.int .i64 5,.int .i64 0,.int .u16 0,.int .u16 0,.int .u64 0,.int .u64 0,.int .i64 0,.int .i64 0,.int .i64 0,.bool false,.slice none 0 0,.slice q7 (k + 1) c7] := bO9
       clear hX hg
       refine hK.out _ _ (⟨(HEL.out k HLT.out _ hBW).1,(HEL.out k HLT.out _ hBW).2.1,(HEL.out k HLT.out _ hBW).2.2⟩) (fun hHeld2 => ?_)
       replace hHeld := hHeld2
       clear hK K hHeld2
       try simp only [Act.put,List.setIfInBounds_toArray,List.set_cons_zero,List.set_cons_succ]
       refine wpAnyH_done (by kernel_rfl) ?_ _
       have HR := Lib.hid (And.intro hown9 (And.intro (fun j (hj : j < k + 1) => if h : j < k then HFC.out j h else (show j = k by omega) ▸ HF2.out) (And.intro bO9 hBW)))
       clear hown9 bO9 hBW e0 e1 e2 hp1 hk0 hk1
       go_wp2
       go_roundw
       case rel => exact ⟨k + 1,_,_,by go_num,by have := HLT.out; omega,HR⟩
       case measure => have := HLT.out; simp [intOf]; omega
      ·go_simp
       generalize hX : World.alloc _ (.cells _ 142) = w8
       obtain ⟨hnb,hBy,-⟩ := alloc_named hX
       have bN : Blk w8 _ 142 [.int .u16 (atI LL k).ha,.int .u16 0,.int .u64 (atI LL k).hi,.int .u64 (atI LL k).lo,.slice none 0 0] := hnb
       have hown := own_below hown hBy
       have hOl := bO.lt
       have bO := bO.below hBy
       have hBW := hBW.trans (hBy.mono (Nat.le_of_lt hOl))
       clear hX hBy hnb hOl m11 z11
       have m11 := bO.cell (j := 11) (v := .slice ka k kc4) rfl
       have z11 := bO.frozen 11
       refine hK.out _ _ (⟨(HEL.out k HLT.out _ hBW).1,(HEL.out k HLT.out _ hBW).2.1,(HEL.out k HLT.out _ hBW).2.2⟩) (fun hHeld2 => ?_)
       replace hHeld := hHeld2
       clear hK K hHeld2
       try simp only [Act.put,List.setIfInBounds_toArray,List.set_cons_zero,List.set_cons_succ]
       refine wpAnyH_ready (rs := [1]) (by kernel_rfl) (by simp) (AllReadyH.cons (o := _) (by rw [List.getElem?_toArray]; rfl) (fun K hK => ?_) AllReadyH.nil)
       go_simp
       refine hK.out _ _ (⟨(HEL.out k HLT.out _ hBW).1,(HEL.out k HLT.out _ hBW).2.1,(HEL.out k HLT.out _ hBW).2.2⟩) (fun hHeld2 => ?_)
       replace hHeld := hHeld2
       clear hK K hHeld2
       try simp only [Act.put,List.setIfInBounds_toArray,List.set_cons_zero,List.set_cons_succ]
       refine wpAnyH_ready (rs := [14]) (by kernel_rfl) (by simp) (AllReadyH.cons (o := _) (by rw [List.getElem?_toArray]; rfl) (fun K hK => ?_) AllReadyH.nil)
       refine step_app_own (by rfl) _ _ 47 (by rfl) (OB + 1) 142 i0 _ 5 48 Tryz.underlying47 hi0 hi1 hi2 hi3 rfl (by decide) (.slice ka k kc4) k (encF (LL.take k)) (by rfl) hown (.slice (some ⟨_,0,none⟩) 1 1) 1 [.int .u16 (atI LL k).ha,.int .u16 0,.int .u64 (atI LL k).hi,.int .u64 (atI LL k).lo,.slice none 0 0] (by rfl) (sr_oneblk bN rfl (by simp [Value.oneCell'])) (by have := HK9.out; unfold maxLen; omega) (by have := HK9.out; omega) bO.lt ?_
       intro v9 w9 hown9 hg9
       have hOl := bO.lt
       have bO := bO.kept hg9 (fun e => by have h := (hown.lt OB e.symm).1; omega)
       have hBW := hBW.trans ((own_low hown hg9 hOl).mono (by omega))
       obtain ⟨q7,c7,rfl⟩ := own_form hown9
       have hown9 : w9.ownsRow (OB + 1) 142 5 (.slice q7 (k + 1) c7) (k + 1) (encF (LL.take (k + 1))) := by rw [encF_take LL k (by rw [HN.out]; exact HLT.out)]; exact hown9
       clear hown hg9 bN m11 z11
       have m11 := bO.cell (j := 11) (v := .slice ka k kc4) rfl
       have z11 := bO.frozen 11
       refine hK.out _ _ (⟨(HEL.out k HLT.out _ hBW).1,(HEL.out k HLT.out _ hBW).2.1,(HEL.out k HLT.out _ hBW).2.2⟩) (fun hHeld2 => ?_)
       replace hHeld := hHeld2
       clear hK K hHeld2
       try simp only [Act.put,List.setIfInBounds_toArray,List.set_cons_zero,List.set_cons_succ]
       refine wpAnyH_take (i := 15) (oi := _) (v := ?_) (by rw [List.getElem?_toArray]; rfl) (by kernel_rfl) (by kernel_rfl) (by kernel_rfl) (by exact fun _ _ _ h => h) (Or.inl ⟨by rfl,?_⟩) (by assumption) ?_
       rotate_left
       ·intro w hSw
        try simp only [Cells,blk,List.cons_append,List.nil_append,and_true,Nat.reduceAdd,Nat.add_zero,Nat.zero_add] at hSw
        go_simp
        try with_reducible rfl
       simp only [Act.put,List.setIfInBounds_toArray,List.set_cons_zero,List.set_cons_succ]
       refine wpAnyH_ready (rs := [16]) (by kernel_rfl) (by simp) (AllReadyH.cons (o := _) (by rw [List.getElem?_toArray]; rfl) (fun K hK => ?_) AllReadyH.nil)
       go_simp
       have hg := set1 w9 ⟨OB,11,none⟩ (.slice q7 (k + 1) c7)
       have bO9 := bO.setAt (j := 11) (.slice q7 (k + 1) c7)
       have hBW := hBW.grown hg (Nat.le_of_lt bO.lt) (fun k hk => by cases hk; exact Nat.le_refl _)
       have hown9 := hown9.kept hg (by
        cases hx : (Value.slice q7 (k + 1) c7).ownBlock with
        |none => exact .inl rfl
        |some i => exact .inr (fun e => by injection e with e; have h := (hown9.lt i hx).1; simp only at e; omega))
       generalize hX : World.setCell _ _ _ = w10 at bO9 hBW hown9 ⊢
       have bO9 : Blk w10 OB 49 [.int .i64 5,.int .i64 0,.int .u16 0,.int .u16 0,.int .u64 0,.int .u64 0,.int .i64 0,.int .i64 0,.int .i64 0,.bool false,.slice none 0 0,.slice q7 (k + 1) c7] := bO9
       clear hX hg
       refine hK.out _ _ (⟨(HEL.out k HLT.out _ hBW).1,(HEL.out k HLT.out _ hBW).2.1,(HEL.out k HLT.out _ hBW).2.2⟩) (fun hHeld2 => ?_)
       replace hHeld := hHeld2
       clear hK K hHeld2
       try simp only [Act.put,List.setIfInBounds_toArray,List.set_cons_zero,List.set_cons_succ]
       refine wpAnyH_done (by kernel_rfl) ?_ _
       have HR := Lib.hid (And.intro hown9 (And.intro (fun j (hj : j < k + 1) => if h : j < k then HFC.out j h else (show j = k by omega) ▸ HF2.out) (And.intro bO9 hBW)))
       clear hown9 bO9 hBW e0 e1 e2 hp1 hk0 hk1
       go_wp2
       go_roundw
       case rel => exact ⟨k + 1,_,_,by go_num,by have := HLT.out; omega,HR⟩
       case measure => have := HLT.out; simp [intOf]; omega
     |false =>
      have hq := HQ.out
      have hk9 : firstNo (fdC s.mt LL) LL.length = k := firstNo_eq (by rw [HN.out]; exact hk) HFC.out (fun h => by rw [HN.out] at h; simpa [h] using hq)
      have hfs := HFS.out
      rw [if_neg (fun e => HN0.out (by rw [← HN.out,e]; rfl)),hk9] at hfs
      have HF2 := Lib.hid hfs
      have rgO := bO.range 0 [.int .i64 5,.int .i64 0,.int .u16 0,.int .u16 0,.int .u64 0,.int .u64 0,.int .i64 0,.int .i64 0,.int .i64 0,.bool false,.slice none 0 0,.slice ka k kc4] (fun j v hv => by rw [Nat.zero_add]; exact hv)
      have hB := HB2.out.trans ((HOB.out ▸ hBW).mono HB2.out.size)
      have HE := Lib.hid (And.intro hown hB)
      clear hq hk9 hfs HFS HFC HQ hown hB hBW
      go_wp2_with (refine wpList_load_mid rfl 49 _ rfl OB 0 rfl [.int .i64 5,.int .i64 0,.int .u16 0,.int .u16 0,.int .u64 0,.int .u64 0,.int .i64 0,.int .i64 0,.int .i64 0,.bool false,.slice none 0 0,.slice ka k kc4] _ rgO Tryz.underlying49 rfl (by kernel_rfl) ?_)
      generalize hX : World.alloc _ (.cells _ 49) = w8
      obtain ⟨hnb,hBy,-⟩ := alloc_named hX
      have bN : Blk w8 Y.heap.size 49 (pdc { pd0 with kd := 5 } (.slice none 0 0) (.slice ka k kc4)) := hnb
      have hA : AnsV w.heap.size w8 (.slice (some ⟨Y.heap.size,0,none⟩) 1 1) Fv.1 Fv.2 := by
       rw [HF2.out]
       refine ⟨_,_,_,rfl,HE.out.2.size,bN,BV.nil _,(LL.take k).map (fun x => (itF x,.slice none 0 0)),by rw [List.map_map]; rfl,?_,fun q hq => ?_⟩
       ·rw [List.length_map,List.length_take,HN.out,Nat.min_eq_left hk]
        have he := encF_ienc (LL.take k) (fun x hx => by
         obtain ⟨j,hj,e⟩ := List.getElem_of_mem (List.mem_of_mem_take hx)
         have hwj := HWL.out.1 j hj
         rw [← atI_get hj,e] at hwj
         exact ⟨hwj.1.1,hwj.2.1.1,hwj.2.2.1⟩)
        rw [← he]
        exact SR.below (SR.of_own HE.out.1 (fun u hu => by
         obtain ⟨x,_,hx⟩ := List.mem_flatMap.1 hu
         simp at hx
         rcases hx with rfl | rfl | rfl | rfl | rfl <;> rfl) (by have := HK9.out; unfold maxLen; omega)) hBy
       ·obtain ⟨x,_,rfl⟩ := List.mem_map.1 hq
        exact BV.nil _
      have HZ9 := Lib.hid (And.intro hA (HE.out.2.trans (hBy.mono HE.out.2.size)))
      clear hX hnb hBy bN rgO bO hA
      go_wp2
      go_ret
      exact ⟨_,rfl,HZ9.out.1,HZ9.out.2⟩
end Go.Proofs.YtldcihjddebciaaGreat
