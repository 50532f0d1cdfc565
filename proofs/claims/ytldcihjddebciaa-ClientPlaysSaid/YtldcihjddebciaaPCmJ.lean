/- client's reference: listed. -/
import Derived.Test.YtldcihjddebciaaPCmM
set_option linter.unusedSimpArgs false
set_option linter.unusedVariables false
set_option maxRecDepth 100000
set_option maxHeartbeats 12000000
namespace Go.Proofs.Ytldcihjddebciaa
open Go.RowKit
/-- an append of what is read to an empty row of one's own -/
theorem wpList_app_own0 {P : Program} {w : World} {ops : Array Oper} {rest : List Oper} {o : Oper} {a : Act} {Q : Exit → Act → World → Prop} (hgd : o.guard = none) (s x : Operand) (t : TypeId)
 (ho : o.op = .call { callee := .builtin .append,args := #[s,x],argTypes := #[t,t] })
 (base : Nat) (e : TypeId) (i : TypeInfo) (z : Value) (size bytes : Nat) (ht : P.underlying t = some (.slice e)) (hi : P.info? e = some i) (hz : i.zero = some z)
 (hsize : i.size = size) (hby : i.bytes = bytes) (hzs : z.cells.size = size) (hsz : 0 < size) (v : Value) (hs : a.eval s = v) (hown : w.ownsRow base e size v 0 [])
 (sv : Value) (m : Nat) (cs : List Value) (hx : a.eval x = sv) (hsr : SR w sv m size cs) (hbytes : m * bytes ≤ 140737488355328) (hbase : base ≤ w.heap.size)
 (h : ∀ v' w',w'.ownsRow base e size v' m cs → w.grownBy w' v.ownBlock → wpList P ops Q rest (a.put o.dst v') w') : wpList P ops Q (o :: rest) a w := by
 obtain ⟨hm,hl,h1,ao,cap,rfl,hnil,hc⟩ := hsr
 cases ao with
 |none =>
  obtain ⟨rfl,rfl⟩ := hnil rfl
  have hcs : cs = [] := List.eq_nil_of_length_eq_zero (by simpa using hl)
  subst hcs
  exact wpList_append_own_none hgd s x t ho base e i size ht hi v 0 [] hs hown hx (h v w hown (World.grownBy.refl w _))
 |some ad =>
  refine wpList_append_own_at w hgd s x t ho base e i z size bytes ht hi hz hsize hby hzs hsz v 0 [] hs hown ad m cap cs hx hl (fun j u hj => ?_) h1 (by omega) (by simpa using hbytes) hbase (fun v' w' h2 h3 _ _ => h v' w' (by simpa using h2) h3)
  have hj' := (List.getElem?_eq_some_iff.1 hj).1
  obtain ⟨b,off,e0,_,hcs⟩ := hc (by
   rcases Nat.eq_zero_or_pos m with h0 | h0
   ·subst h0; omega
   ·exact h0)
  cases e0
  rw [addr_add]
  exact hcs j u hj
theorem put_named {w w5 : World} {b : Nat} {t : TypeId} {zs vs : List Value} (h : Blk w b t zs) (hX : w.setCells b 0 vs = w5) (hl : zs.length = vs.length) : w.grownBy w5 (some b) ∧ Blk w5 b t vs := by
 subst hX
 exact ⟨setCells_grown b vs 0 w,h.putAll hl⟩
theorem fenc_arr (x : Fd) : (fenc x).toArray.all (·.oneCell') = true := by simp [fenc,Value.oneCell']
theorem own_zero (w : World) (e size base : Nat) (hb : base ≤ w.heap.size) : (w.alloc (.cells #[] e)).ownsRow base e size (.slice (some ⟨w.heap.size,0,none⟩) 0 0) 0 [] :=
 ⟨by simp,.inr ⟨w.heap.size,0,#[],rfl,hb,heap_alloc_new w _,Nat.le_refl _,by unfold maxLen; omega,by simp,by simp⟩⟩
/-- what the elements of an answer yield, by the reference -/
def rone (c : Cl) (kd : Int) (i : Im) : Option Fd := if (elR c kd i).2 = true then some (elR c kd i).1 else none
def rlastP (kd : Int) (l : List Im) : Nat := if kd = 17 then lastI 0 Im.la l else lastI 0 Im.ha l
def rstop (c : Cl) (kd : Int) : Nat := if kd = 17 then 65535 else c.tk.la
def rlisted (c : Cl) (kd : Int) (l : List Im) (now : Int) : Sp := match gets (rone c kd) l with
 |none => (sp0 c now).fail 4
 |some fs => if rstop c kd ≤ rlastP kd l then (sp0 { c with tk := { c.tk with fo := c.tk.fo ++ fs } } now).endd ⟨2,0,0,[],c.tk.fo ++ fs,0⟩
  else (sp0 { c with tk := { c.tk with fo := c.tk.fo ++ fs } } now).send { c.ad with ha := rlastP kd l + 1 }
theorem rlisted_any (c : Cl) (k : Cv) (R0 : List (Option Nat)) (p : Pd) (pb iv : Value) (qs : List (Im × Value)) (now : Int) (w : World) (hC : Cr w R0 c k) (hR0 : ∀ i,some i ∈ R0 → i < w.heap.size) (hw : ∀ t ∈ c.wt,TkOk t ∧ 1 ≤ t.kd ∧ t.kd ≤ 9) (hwl : c.wt.length ≤ 1000) (hI : ItB w w.heap.size iv qs) (hne : 0 < qs.length) (hfo : c.tk.fo.length + qs.length ≤ 100000) (hla : c.tk.la < 65536) :
 Calls Try.prog 85 #[.agg (k.cells c).toArray,.agg (pdc p pb iv).toArray,.int .i64 now] w fun e w' => Out3 w' R0 e (rlisted c p.kd (qs.map (·.1)) now) ∧ Below w.heap.size w w' := by
 obtain ⟨i0,hi0,hi1,hi2,hi3⟩ := info_parts Try.info_Found
 obtain ⟨b,off,ic,rfl⟩ : ∃ b off ic,iv = .slice (some ⟨b,off,none⟩) qs.length ic := by
  obtain ⟨_,_,_,ao,cap,rfl,_,h4⟩ := hI.sr
  obtain ⟨b,off,rfl,_,_⟩ := h4 hne
  exact ⟨b,off,cap,rfl⟩
 obtain ⟨N,hN⟩ : ∃ L,qs.length = L := ⟨_,rfl⟩
 rw [hN] at hI hfo hne ⊢
 obtain ⟨R,hRs,hm0,hm1,hm2,hRl,hRR,B0,bP0,bR0,hB0,hV3⟩ := pro3 hC hR0 (pdc p pb (.slice (some ⟨b,off,none⟩) N ic)) 32 [.int .i64 0,.int .i64 0,.int .i64 0,.int .u16 0,.int .u16 0,.int .u16 0,.slice none 0 0,.int .i64 0,.slice none 0 0,.bool false,.int .i64 0,.int .i64 0,.int .u16 0,.int .u16 0,.int .u64 0,.int .u64 0,.int .i64 0,.int .i64 0,.int .i64 0,.bool false,.slice none 0 0,.slice none 0 0,.bool false,.int .i64 0,.bool false,.slice none 0 0] 35
 have HV3 := Lib.hid hV3
 have HW1 := Lib.hid hw
 have HWL := Lib.hid hwl
 have HIT := Lib.hid (hI.below hB0)
 have HN := Lib.hid hN
 have HFO := Lib.hid hfo
 have HLA := Lib.hid hla
 clear hC hR0 hRR hV3 hw hwl hI hN hfo hla
 go_enter Try.func85,Try.ntmps85
 go_upto_region 1 with fail
 generalize hX : World.alloc (World.alloc (World.alloc w _) _) _ = V at B0 bP0 bR0 hB0 HV3 HIT ⊢
 clear hX
 obtain ⟨fa,fc,efv⟩ := B0.cr.fv.1.form
 have hfd := B0.cr.fv.1
 obtain ⟨FL,hFL⟩ : ∃ L,c.tk.fo.length = L := ⟨_,rfl⟩
 rw [hFL] at efv
 rw [efv] at hfd
 have m8 := B0.blk.cell (j := 8) (v := .slice fa FL fc) (by rw [← efv]; rfl)
 have hA := (Below.refl V.heap.size V).alloc (Nat.le_refl _) (.cells #[] 114)
 have m8a := kc m8 hA
 have hfda : SR (V.alloc (.cells #[] 114)) (.slice fa FL fc) FL 6 (fcells c.tk.fo) := by
  have h : SR V (.slice fa FL fc) c.tk.fo.length 6 (fcells c.tk.fo) := hfd
  rw [hFL] at h
  exact h.below hA
 have hoz := own_zero V 114 6 V.heap.size (Nat.le_refl _)
 have hFLb : FL * 32 ≤ 140737488355328 := by have := HFO.out; omega
 have HFL := Lib.hid hFL
 have HEFV := Lib.hid efv
 clear efv hfd hFL
 go_upto_region 2 with (refine wpList_app_own0 rfl _ _ 24 rfl V.heap.size 114 i0 _ 6 32 Try.underlying24 hi0 hi1 hi2 hi3 rfl (by decide) (.slice (some ⟨V.heap.size,0,none⟩) 0 0) rfl hoz (.slice fa FL fc) FL (fcells c.tk.fo) rfl hfda hFLb (by simp) ?_; intro l0 w1 hown1 hg1)
 have hB1 : Below V.heap.size V w1 := hA.grown hg1 (by simp) (fun k hk => by simp [Value.ownBlock] at hk; omega)
 clear m8 m8a hfda hoz hFLb hg1 hA
 have hrC := B0.range
 have hrP := bP0.range 0 (pdc p pb (.slice (some ⟨b,off,none⟩) N ic)) (fun j v hv => by rw [Nat.zero_add]; exact hv)
 have mP := bP0.cell (j := 11) (v := .slice (some ⟨b,off,none⟩) N ic) rfl
 have hown1 : FdO V.heap.size w1 l0 c.tk.fo := by unfold FdO; rw [HFL.out]; exact hown1
 have HR := Lib.hid (And.intro hrC (And.intro hrP mP))
 clear hrC hrP mP
 go_wp2_with fail
 go_loopw [9,10] (fun lv jv wr => ∃ (kk : Nat) (fs : List Fd),jv = .int .i64 kk ∧ kk ≤ N ∧ gets (rone c p.kd) ((qs.map (·.1)).take kk) = some fs ∧ FdO V.heap.size wr lv (c.tk.fo ++ fs) ∧ Below V.heap.size V wr) (fun _ jv _ => N - (intOf jv).toNat)
 case atStart => exact ⟨0,[],by simp,Nat.zero_le _,rfl,by simpa using hown1,hB1⟩
 case round =>
  obtain ⟨kk,fs,rfl,hk,hgs,hown,hBc⟩ := hrel
  clear hown1 hB1
  have mP := kc HR.out.2.2 hBc
  have hfl : fs.length ≤ kk := by
   have := gets_len _ _ _ hgs
   rw [this,List.length_take]
   omega
  have hFb : (c.tk.fo ++ fs).length ≤ 100000 := by
   rw [List.length_append]
   have := HFO.out
   omega
  have HFB := Lib.hid hFb
  have HGS := Lib.hid hgs
  clear hfl hFb hgs
  by_cases hlt : kk < N
  ·have g1 : decide (kk < N) = true := by simpa using hlt
   have hn0 : (0 : Int) ≤ (kk : Int) := by omega
   have hn1 : (kk : Int) < (N : Int) := by omega
   have w1' : IntKind.i64.wrap ((kk : Int) + 1) = (kk : Int) + 1 := IntWalk.i64_in _ (by have := HFO.out; omega)
   obtain ⟨q,hq⟩ : ∃ q,qs[kk]? = some q := ⟨_,List.getElem?_eq_getElem (by rw [HN.out]; exact hlt)⟩
   have hqm := List.mem_of_getElem? hq
   have hbv := HIT.out.bv q hqm
   have hrq : V.rangeAt b (off + kk * 5) (ienc q) := by
    obtain ⟨b',o',c',e,_,hc⟩ := HIT.out.cells hq
    rw [HN.out] at e
    injection e with e1 e2 e3
    injection e1 with e1
    injection e1 with e4 e5
    subst e4
    subst e5
    intro j v hv
    have := hc j v hv
    rw [Nat.add_assoc]
    exact this
   have HS : Hid (∀ W',Below V.heap.size V W' → W'.rangeAt w.heap.size 0 (k.cells c) ∧ W'.rangeAt (w.heap.size + 1) 0 (pdc p pb (.slice (some ⟨b,off,none⟩) N ic)) ∧ W'.rangeAt b (off + kk * 5) (ienc q) ∧ W'.cell? ⟨w.heap.size + 1,11,none⟩ = some (.slice (some ⟨b,off,none⟩) N ic)) := Lib.hid (fun W' hb =>
    ⟨fun j v hv => kc (HR.out.1 j v hv) hb,fun j v hv => kc (HR.out.2.1 j v hv) hb,fun j v hv => kc (hrq j v hv) hb,kc HR.out.2.2 hb⟩)
   have HBV := Lib.hid hbv
   have HQ := Lib.hid hq
   clear hrq hbv hq hqm
   go_upto_region 5 with fail
   go_cut [11,12] (fun fv okv wx => ∃ F,fv = .pointer (some ⟨F,0,none⟩) ∧ okv = .bool (elR c p.kd q.1).2 ∧ Blk wx F 114 (fenc (elR c p.kd q.1).1) ∧ FdO V.heap.size wx u9 (c.tk.fo ++ fs) ∧ Below V.heap.size V wx)
   case first =>
    have hBc := hBc.drew
    have hown := FdO.below hown (Below.refl _ wr).drew
    have hBM : w.heap.size ≤ V.heap.size := by have := HV3.out; omega
    clear mP
    refine wp_region_held_drew (S := (fun W' : World => W'.rangeAt w.heap.size 0 (k.cells c) ∧ W'.rangeAt (w.heap.size + 1) 0 (pdc p pb (.slice (some ⟨b,off,none⟩) N ic)) ∧ W'.rangeAt b (off + kk * 5) (ienc q) ∧ W'.cell? ⟨w.heap.size + 1,11,none⟩ = some (.slice (some ⟨b,off,none⟩) N ic))) (by kernel_rfl) (HS.out _ hBc) (fun hHeld => ?_)
    generalize World.drew _ = wd at hHeld hBc hown ⊢
    repeat' first
     |refine tkN 0 35 w.heap.size 0 (k.cells c) (fun _ h => h.1) Try.underlying35 ?_
     |refine tkN 1 32 (w.heap.size + 1) 0 (pdc p pb (.slice (some ⟨b,off,none⟩) N ic)) (fun _ h => h.2.1) Try.underlying32 ?_
     |refine tkU 2 ?_
     |refine tkU 3 ?_
     |refine tkU 4 ?_
     |refine tkU 5 ?_
     |refine tkN 6 101 b (off + kk * 5) (ienc q) (fun _ h => h.2.2.1) Try.underlying101 ?_
     |refine tkU 8 ?_
     |refine tkU 9 ?_
     |refine tkU 10 ?_
     |refine tkU 13 ?_
     |(refine opn 7 fun K hK => ?_
       go_simp
       go_at_call 96
       refine (relem_any c k p pb (.slice (some ⟨b,off,none⟩) N ic) q.1 q.2 _ (HBV.out.1.lowB (HBV.out.2.1) (hBc.mono hBM)) HBV.out.2.2).mono ?_
       rintro e w3 ⟨rfl,hB3⟩
       have hBc := hBc.trans (hB3.mono hBc.size)
       have hown := FdO.below hown hB3
       try have bF := bF.below hB3
       clear hB3
       refine hK.out _ _ (HS.out _ hBc) (fun h => ?_)
       replace hHeld := h
       clear hK K h
       try simp only [Act.put,List.setIfInBounds_toArray,List.set_cons_zero,List.set_cons_succ])
     |(refine opn 11 fun K hK => ?_
       go_simp
       generalize hX : World.alloc _ (.cells _ 114) = w4
       obtain ⟨hnb,hB4,hz4⟩ := alloc_named hX
       have hFn := own_lt hown
       have hFv := hBc.size
       have bF : Blk w4 _ 114 [.int .u16 0,.int .u16 0,.int .u16 0,.int .i64 0,.int .u64 0,.int .u64 0] := hnb
       have hBc := hBc.trans (hB4.mono hBc.size)
       have hown := FdO.below hown hB4
       clear hX hnb hB4 hz4
       refine hK.out _ _ (HS.out _ hBc) (fun h => ?_)
       replace hHeld := h
       clear hK K h
       try simp only [Act.put,List.setIfInBounds_toArray,List.set_cons_zero,List.set_cons_succ])
     |(refine opn 12 fun K hK => ?_
       refine step_store_mid (by rfl) 114 _ _ (by rfl) _ 0 (fenc (elR c p.kd q.1).1).toArray (by rfl) (by rfl) (bF.there 0 6 (by simp)) (by kernel_rfl) (fenc_arr _) ?_
       generalize hX : World.setCells _ _ 0 _ = w5
       obtain ⟨hg5,bF⟩ := put_named (vs := fenc (elR c p.kd q.1).1) bF hX rfl
       have hBc := hBc.grown hg5 hBc.size (fun k hk => by cases hk; exact hFv)
       have hown : FdO V.heap.size w5 u9 (c.tk.fo ++ fs) := own_none hown hg5 (fun i hi e => by injection e with e; have := hFn i hi; omega)
       clear hX hg5
       refine hK.out _ _ (HS.out _ hBc) (fun h => ?_)
       replace hHeld := h
       clear hK K h
       try simp only [Act.put,List.setIfInBounds_toArray,List.set_cons_zero,List.set_cons_succ])
     |refine rd2 7 11 ?_ ?_
     |refine rd1 11 ?_
     |refine rd1 12 ?_
     |refine rd1 7 ?_
     |(refine wpAnyH_done (by kernel_rfl) ?_ _
       go_wp2_with fail
       go_meet
       exact ⟨_,rfl,rfl,bF,hown,hBc⟩)
   case rest =>
    obtain ⟨F,rfl,rfl,bF,hown,hBc⟩ := hcut
    have HBC := Lib.hid hBc
    have bR1 := bR0.below hBc
    have hB1 := hB0.trans (hBc.mono hB0.size)
    have B1 := B0.below hBc
    cases hok : (elR c p.kd q.1).2 with
    |false =>
     have HOK := Lib.hid (show rlisted c p.kd (qs.map (·.1)) now = (sp0 c now).fail 4 by
      unfold rlisted
      rw [gets_fail (rone c p.kd) (qs.map (·.1)) kk q.1 (by rw [List.getElem?_map,HQ.out]; rfl) (by unfold rone; rw [hok]; rfl)])
     rw [hok] at *
     clear hok HGS bF hown hBc
     have hrg := B1.range
     go_wp2_with (refine wpList_load_mid rfl 35 _ rfl w.heap.size 0 rfl (k.cells c) _ hrg Try.underlying35 rfl (by kernel_rfl) ?_)
     refine (rfail_any c k R 4 now _ B1.cr (fun i hi => by have := hRl i hi; have := bR1.lt; omega) HW1.out HWL.out).mono ?_
     rintro e w1 ⟨⟨k1,o,r1,rfl,hC1,hps,hrs1⟩,hB4⟩
     obtain ⟨x1,hx1⟩ : ∃ x1 : Sp,(sp0 c now).fail 4 = x1 := ⟨_,rfl⟩
     rw [hx1] at hC1 hps hrs1 ⊢
     have HX := Lib.hid hx1
     have bRx := bR1.below hB4
     have hl1 := hB1.trans (hB4.mono hB1.size)
     have hth := bRx.there 0 26 (by simp)
     have hone := hC1.one
     clear hx1 hB4
     go_wp2_with (refine wpList_store_mid rfl 35 _ _ rfl (w.heap.size + 2) 0 (k1.cells x1.c).toArray rfl rfl hth (by kernel_rfl) hone ?_; simp only [Act.put]; generalize hW : World.setCells w1 (w.heap.size + 2) 0 _ = w2; have HW := Lib.hid hW; clear hW)
     obtain ⟨hF,bR4⟩ := fin26 hC1 hps hrs1 bRx rfl hm2 hRs hl1 (by omega)
     rw [show w1.setCells (w.heap.size + 2) 0 (k1.cells x1.c) = w2 from HW.out] at hF bR4
     have hl := run_loadVar_row (P := Try.prog) _ (w.heap.size + 2) 35 35 _ (0,0) _ bR4 Try.underlying35 rfl (by kernel_rfl)
     exact bodyPost_ret (v := .tuple #[.agg (k1.cells x1.c).toArray,o,r1]) (by rw [results_cell_tmp2 rfl]; simp [asAddr,hl]) rfl ⟨by rw [HOK.out,HX.out]; exact ⟨k1,_,_,rfl,hF.1,hF.2.1,hF.2.2.1⟩,hF.2.2.2⟩
    |true =>
     obtain ⟨f,hf⟩ : ∃ f,(elR c p.kd q.1).1 = f := ⟨_,rfl⟩
     have HSN := Lib.hid (gets_snoc (rone c p.kd) (qs.map (·.1)) kk q.1 f fs (by rw [List.getElem?_map,HQ.out]; rfl) (by unfold rone; rw [hok,hf]; rfl) HGS.out)
     rw [hf] at bF
     rw [hok] at *
     clear hok hf HGS HQ B1
     obtain ⟨f0,f1,f2,f3,f4,f5⟩ := f
     have hrf := bF.range 0 [.int .u16 f0,.int .u16 f1,.int .u16 f2,.int .i64 f3,.int .u64 f4,.int .u64 f5] (fun j v hv => by rw [Nat.zero_add]; exact hv)
     have hA := (Below.refl wc.heap.size wc).alloc (Nat.le_refl _) (.cells #[.int .u16 f0,.int .u16 f1,.int .u16 f2,.int .i64 f3,.int .u64 f4,.int .u64 f5] 114)
     have hownA : (wc.alloc (.cells #[.int .u16 f0,.int .u16 f1,.int .u16 f2,.int .i64 f3,.int .u64 f4,.int .u64 f5] 114)).ownsRow V.heap.size 114 6 u9 (c.tk.fo ++ fs).length (fcells (c.tk.fo ++ fs)) := FdO.below hown hA
     have hnews : ∀ (j : Nat) (u : Value),[.int .u16 f0,.int .u16 f1,.int .u16 f2,.int .i64 f3,.int .u64 f4,.int .u64 f5][j]? = some u → (wc.alloc (.cells #[.int .u16 f0,.int .u16 f1,.int .u16 f2,.int .i64 f3,.int .u64 f4,.int .u64 f5] 114)).cell? ((⟨wc.heap.size,0,none⟩ : Addr).add j) = some u := fun j u hj => by
      rw [addr_add,Nat.zero_add]
      exact Blk.cell (Blk.new wc 114 [.int .u16 f0,.int .u16 f1,.int .u16 f2,.int .i64 f3,.int .u64 f4,.int .u64 f5]) hj
     have hmx : (c.tk.fo ++ fs).length + 1 ≤ maxLen := by have := HFB.out; unfold maxLen; omega
     have hby : ((c.tk.fo ++ fs).length + 1) * 32 ≤ 140737488355328 := by have := HFB.out; omega
     have hbs : V.heap.size ≤ (wc.alloc (.cells #[.int .u16 f0,.int .u16 f1,.int .u16 f2,.int .i64 f3,.int .u64 f4,.int .u64 f5] 114)).heap.size := Nat.le_trans hBc.size hA.size
     have HOW := Lib.hid (And.intro hown (And.intro hBc hA))
     clear hown hBc hA bF bR1 hB1
     go_wp2_with (first | (refine wpList_load_mid rfl 114 _ rfl F 0 rfl [.int .u16 f0,.int .u16 f1,.int .u16 f2,.int .i64 f3,.int .u64 f4,.int .u64 f5] _ hrf Try.underlying114 rfl (by kernel_rfl) ?_) | (refine wpList_append_own_at _ rfl _ _ 24 rfl V.heap.size 114 i0 _ 6 32 Try.underlying24 hi0 hi1 hi2 hi3 rfl (by decide) u9 (c.tk.fo ++ fs).length (fcells (c.tk.fo ++ fs)) rfl hownA ⟨wc.heap.size,0,none⟩ 1 1 [.int .u16 f0,.int .u16 f1,.int .u16 f2,.int .i64 f3,.int .u64 f4,.int .u64 f5] rfl rfl hnews (by simp [Value.oneCell']) hmx hby hbs ?_; intro v6 w6 hown6 hg6 _ _; have HO6 := Lib.hid (And.intro hown6 hg6); clear hown6 hg6 hownA hnews))
     refine ⟨⟨kk + 1,fs ++ [⟨f0,f1,f2,f3,f4,f5⟩],by simp,hlt,HSN.out,?_,?_⟩,?_⟩
     ·have h := HO6.out.1
      unfold FdO
      rw [← List.append_assoc,fcells_snoc,List.length_append]
      exact h
     ·have h := HOW.out
      exact (h.2.1.trans (h.2.2.mono h.2.1.size)).grown HO6.out.2 (by simp; have := h.2.1.size; omega) (fun k hk => (World.ownsRow.lt h.1 k hk).1)
     ·simp [intOf]
      omega
  ·have g1 : decide (kk < N) = false := by simpa using hlt
   obtain rfl : N = kk := by omega
   have HGA := Lib.hid (show gets (rone c p.kd) (qs.map (·.1)) = some fs by
    have h := HGS.out
    rw [List.take_of_length_le (by simp [HN.out])] at h
    exact h)
   clear HGS hlt
   obtain ⟨ua,uc,rfl⟩ := own_form hown
   obtain ⟨L9,hL9⟩ : ∃ x,(c.tk.fo ++ fs).length = x := ⟨_,rfl⟩
   rw [hL9] at hown ⊢
   have HL9 := Lib.hid hL9
   clear hL9
   have B1 := B0.below hBc
   have bP1 := bP0.below hBc
   have bR1 := bR0.below hBc
   have hB1 := hB0.trans (hBc.mono hB0.size)
   have hIT := HIT.out.below (hBc.mono hB0.size)
   have hfd : FD wr R (.slice ua L9 uc) (c.tk.fo ++ fs) := ⟨FdO.fdv hown (by have := HFB.out; omega),.inr fun k' hk' hm => by
    have h1 := (World.ownsRow.lt hown k' hk').1
    have h2 := hRl k' hm
    have h3 := HV3.out
    omega⟩
   have m8 := B1.blk.cell (j := 8) (v := k.fv) rfl
   have z8 := B1.blk.frozen 8
   go_upto_region 10 with fail
   have B2 := B1.put_fo hfd
   have hg8 := set1 wr ⟨w.heap.size,8,none⟩ (.slice ua L9 uc)
   have bP2 := bP1.kept hg8 (fun e => by injection e with e; simp only at e; omega)
   have bR2 := bR1.kept hg8 (fun e => by injection e with e; simp only at e; omega)
   have hB2 := hB1.grown hg8 hB1.size (fun k hk => by cases hk; exact Nat.le_refl _)
   have hfd2 := hfd.turned hg8 (fun k hk => .inl (by rw [← hk]; exact hm0))
   have hI2 := hIT.below ((Below.refl _ wr).grown hg8 (by have := hB1.size; omega) (fun k hk => by cases hk; exact Nat.le_refl _))
   generalize hW : World.setCell wr _ _ = V2 at B2 bP2 bR2 hB2 hfd2 hI2 ⊢
   clear hW m8 z8 hg8 B1 bP1 bR1 hB1 hfd hIT hown hBc mP g1
   obtain ⟨c3,hc3⟩ : ∃ c3 : Cl,{ c with tk := { c.tk with fo := (c.tk.fo ++ fs) } } = c3 := ⟨_,rfl⟩
   obtain ⟨k3,hk3⟩ : ∃ k3 : Cv,{ k with fv := .slice ua L9 uc } = k3 := ⟨_,rfl⟩
   rw [hc3,hk3] at B2
   have HC3 := Lib.hid hc3
   have HW3 := Lib.hid (show c3.wt = c.wt by rw [← hc3])
   obtain ⟨M,hM⟩ : ∃ M,N = M + 1 := ⟨N - 1,by omega⟩
   obtain ⟨q,hq⟩ : ∃ q,qs[M]? = some q := ⟨_,List.getElem?_eq_getElem (by rw [HN.out]; omega)⟩
   have HQL := Lib.hid (show (qs.map (·.1)).getLast? = some q.1 by
    rw [List.getLast?_eq_getElem?,List.length_map,HN.out,hM,Nat.add_sub_cancel,List.getElem?_map,hq]
    rfl)
   have hrq : V2.cell? ⟨b,off + M * 5,none⟩ = some (.int .u16 q.1.ha) ∧ V2.cell? ⟨b,off + M * 5 + 1,none⟩ = some (.int .u16 q.1.la) ∧ q.1.la < 65536 := by
    obtain ⟨b',o',c',e,_,hc⟩ := hI2.cells hq
    rw [HN.out] at e
    injection e with e1 e2 e3
    injection e1 with e1
    injection e1 with e4 e5
    subst e4
    subst e5
    exact ⟨hc 0 _ rfl,by rw [Nat.add_assoc]; exact hc 1 _ rfl,(hI2.rg q (List.mem_of_getElem? hq)).2.1⟩
   obtain ⟨mQ2,mA2,hla2⟩ := hrq
   have hha2 := (hI2.rg q (List.mem_of_getElem? hq)).1
   have mP2 := bP2.cell (j := 11) (v := .slice (some ⟨b,off,none⟩) N ic) rfl
   have mK2 := bP2.cell (j := 0) (v := .int .i64 p.kd) rfl
   have mL2 := B2.blk.cell (j := 4) (v := .int .u16 c.tk.la) (by rw [← hc3]; rfl)
   have w1' : IntKind.i64.wrap ((N : Int) - 1) = (M : Int) := by rw [IntWalk.i64_in _ (by have := HFO.out; omega)]; omega
   have n1 : (0 : Int) ≤ (M : Int) := by omega
   have n2 : (M : Int) < (N : Int) := by omega
   have HI2 := Lib.hid hla2
   have HM := Lib.hid hM
   clear hc3 hk3 hq hI2 hla2 hM
   have B2 := B2.drew
   have bP2 := bP2.drew
   have bR2 := bR2.drew
   have hB2 := hB2.drew
   have hfd2 := hfd2.below (Below.refl _ V2).drew
   have mP2 := kc mP2 (Below.refl _ V2).drew
   have mK2 := kc mK2 (Below.refl _ V2).drew
   have mL2 := kc mL2 (Below.refl _ V2).drew
   have mQ2 := kc mQ2 (Below.refl _ V2).drew
   have mA2 := kc mA2 (Below.refl _ V2).drew
   refine wp_region_held_drew (S := (fun W' : World => Cells W' [(w.heap.size + 1,11,.slice (some ⟨b,off,none⟩) N ic),(w.heap.size,4,.int .u16 c.tk.la),(b,off + M * 5,.int .u16 q.1.ha)])) (by kernel_rfl) (⟨mP2,mL2,mQ2,trivial⟩) (fun hHeld => ?_)
   generalize World.drew _ = wd at hHeld B2 bP2 bR2 hB2 hfd2 mP2 mK2 mL2 mQ2 mA2 ⊢
   refine tkU 0 ?_
   refine tkU 1 ?_
   refine tkU 2 ?_
   refine tkU 3 ?_
   refine tkU 4 ?_
   refine tkU 5 ?_
   refine tkU 6 ?_
   refine tkU 7 ?_
   refine tkU 8 ?_
   refine tkU 9 ?_
   refine tkU 10 ?_
   refine tkU 11 ?_
   refine tkU 12 ?_
   refine tkU 13 ?_
   refine wpAnyH_done (by kernel_rfl) ?_ _
   clear hHeld
   have B3 := B2
   have bR3 := bR2
   have hB3 := hB2
   have hfd3 := hfd2
   clear B2 bR2 hB2 hfd2 bP2
   by_cases h17 : p.kd = 17
   ·skip
    have hat : rlastP p.kd (qs.map (·.1)) = q.1.la := by
     unfold rlastP
     rw [if_pos h17]
     unfold lastI
     rw [HQL.out]
     rfl
    have hst : rstop c p.kd = 65535 := by
     unfold rstop
     rw [if_pos h17]
    have HAT := Lib.hid (And.intro hat hst)
    clear hat hst
    have h17' : (p.kd == 17) = true := by simp [h17]
    have H17 := Lib.hid h17
    clear h17
    by_cases hge : 65535 ≤ q.1.la
    ·have c1 : decide (65535 ≤ q.1.la) = true := by simpa using hge
     have c2 : decide ((65535 : Int) ≤ (q.1.la : Int)) = true := by simp; omega
     have HRS := Lib.hid (show rlisted c p.kd (qs.map (·.1)) now = (sp0 c3 now).endd ⟨2,0,0,[],(c.tk.fo ++ fs),0⟩ by
      unfold rlisted
      rw [HGA.out]
      simp only [HAT.out.1,HAT.out.2,if_pos hge,HC3.out])
     have hrg := B3.range
     clear hge
     go_wp2_with (refine wpList_load_mid rfl 35 _ rfl w.heap.size 0 rfl (k3.cells c3) _ hrg Try.underlying35 rfl (by kernel_rfl) ?_)
     refine (rfinish_any c3 k3 R ⟨2,0,0,[],(c.tk.fo ++ fs),0⟩ (.slice none 0 0) (.slice ua L9 uc) now _ B3.cr (BD.nil _ R) hfd3 (fun i hi => by have := hRl i hi; have := bR3.lt; omega) (by rw [HW3.out]; exact HW1.out) (by rw [HW3.out]; exact HWL.out)).mono ?_
     rintro e w1 ⟨⟨k1,o,r1,rfl,hC1,hps,hrs1⟩,hB4⟩
     obtain ⟨x1,hx1⟩ : ∃ x1 : Sp,(sp0 c3 now).endd ⟨2,0,0,[],(c.tk.fo ++ fs),0⟩ = x1 := ⟨_,rfl⟩
     rw [hx1] at hC1 hps hrs1 ⊢
     have HX := Lib.hid hx1
     have bRx := bR3.below hB4
     have hl1 := hB3.trans (hB4.mono hB3.size)
     have hth := bRx.there 0 26 (by simp)
     have hone := hC1.one
     clear hx1 hB4
     go_wp2_with (refine wpList_store_mid rfl 35 _ _ rfl (w.heap.size + 2) 0 (k1.cells x1.c).toArray rfl rfl hth (by kernel_rfl) hone ?_; simp only [Act.put]; generalize hW : World.setCells w1 (w.heap.size + 2) 0 _ = w2; have HW := Lib.hid hW; clear hW)
     obtain ⟨hF,bR4⟩ := fin26 hC1 hps hrs1 bRx rfl hm2 hRs hl1 (by omega)
     rw [show w1.setCells (w.heap.size + 2) 0 (k1.cells x1.c) = w2 from HW.out] at hF bR4
     have hl := run_loadVar_row (P := Try.prog) _ (w.heap.size + 2) 35 35 _ (0,0) _ bR4 Try.underlying35 rfl (by kernel_rfl)
     exact bodyPost_ret (v := .tuple #[.agg (k1.cells x1.c).toArray,o,r1]) (by rw [results_cell_tmp2 rfl]; simp [asAddr,hl]) rfl ⟨by rw [HRS.out,HX.out]; exact ⟨k1,_,_,rfl,hF.1,hF.2.1,hF.2.2.1⟩,hF.2.2.2⟩
    ·have c1 : decide (65535 ≤ q.1.la) = false := by simpa using hge
     have c2 : decide ((65535 : Int) ≤ (q.1.la : Int)) = false := by simp; omega
     obtain ⟨A1,hA1⟩ : ∃ x,q.1.la + 1 = x := ⟨_,rfl⟩
     have HRS := Lib.hid (show rlisted c p.kd (qs.map (·.1)) now = (sp0 c3 now).send { c3.ad with ha := A1 } by
      rw [← hA1]
      unfold rlisted
      rw [HGA.out]
      simp only [HAT.out.1,HAT.out.2,if_neg hge,← HC3.out])
     have w2' : IntKind.u16.wrap ((q.1.la : Int) + 1) = (A1 : Int) := by rw [IntWalk.u16_in _ (by have := HLA.out; omega)]; omega
     have HA1 := Lib.hid hA1
     clear hA1
     have hrg := B3.range
     have hra := B3.blk.range 10 (pdc c3.ad k3.ab k3.ai) (ad_in c3 k3)
     have bD0 := Blk.new wd 32 [.int .i64 0,.int .i64 0,.int .u16 0,.int .u16 0,.int .u64 0,.int .u64 0,.int .i64 0,.int .i64 0,.int .i64 0,.bool false,.slice none 0 0,.slice none 0 0]
     have hth := bD0.there 0 12 (by simp)
     have hone : (pdc c3.ad k3.ab k3.ai).toArray.all (·.oneCell') = true := by
      obtain ⟨a1,c1,e1⟩ := B3.cr.ab.1.form
      obtain ⟨a2,c2,e2⟩ := B3.cr.ai.form
      simp [pdc,e1,e2,Value.oneCell']
     clear hge
     go_upto_region 16 with (first | (refine wpList_load_mid rfl 32 _ rfl w.heap.size 10 rfl (pdc c3.ad k3.ab k3.ai) _ hra Try.underlying32 rfl (by kernel_rfl) ?_) | (refine wpList_store_mid rfl 32 _ _ rfl wd.heap.size 0 (pdc c3.ad k3.ab k3.ai).toArray rfl rfl hth (by kernel_rfl) hone ?_; simp only [Act.put]; generalize hW : World.setCells _ wd.heap.size 0 _ = V4; have HW := Lib.hid hW; clear hW))
     have bD1 := bD0.putAll (vs := pdc c3.ad k3.ab k3.ai) rfl
     have hg1 := setCells_grown wd.heap.size (pdc c3.ad k3.ab k3.ai) 0 (wd.alloc (.cells #[.int .i64 0,.int .i64 0,.int .u16 0,.int .u16 0,.int .u64 0,.int .u64 0,.int .i64 0,.int .i64 0,.int .i64 0,.bool false,.slice none 0 0,.slice none 0 0] 32))
     rw [show World.setCells _ wd.heap.size 0 (pdc c3.ad k3.ab k3.ai) = V4 from HW.out] at bD1 hg1
     have hBV : Below wd.heap.size wd V4 := ((Below.refl wd.heap.size wd).alloc (Nat.le_refl _) _).grown hg1 (by simp) (fun k hk => by cases hk; exact Nat.le_refl _)
     have hDlt := bD1.lt
     clear hrg hra hth hone HW bD0 hg1
     have x2 := bD1.cell (j := 2) (v := .int .u16 c3.ad.ha) rfl
     have z2 := bD1.frozen 2
     go_upto_region 17 with fail
     have bD2 : Blk (V4.setCell ⟨wd.heap.size,2,none⟩ (.int .u16 (A1 : Int))) wd.heap.size 32 (pdc { c3.ad with ha := A1 } k3.ab k3.ai) := bD1.setAt (j := 2) (.int .u16 (A1 : Int))
     have hBV5 : Below wd.heap.size wd (V4.setCell ⟨wd.heap.size,2,none⟩ (.int .u16 (A1 : Int))) := hBV.grown (set1 V4 ⟨wd.heap.size,2,none⟩ (.int .u16 (A1 : Int))) (Nat.le_of_lt hDlt) (fun k hk => by cases hk; exact Nat.le_refl _)
     generalize hW : World.setCell V4 _ _ = V5 at bD2 hBV5 ⊢
     have B5 := B3.below hBV5
     have bR5 := bR3.below hBV5
     have hB5 := hB3.trans (hBV5.mono hB3.size)
     clear hW x2 z2 bD1 hBV hBV5 hDlt B3 bR3 hB3
     have hrg := B5.range
     have hrd := bD2.range 0 (pdc { c3.ad with ha := A1 } k3.ab k3.ai) (fun j v hv => by rw [Nat.zero_add]; exact hv)
     go_wp2_with (first | (refine wpList_load_mid rfl 35 _ rfl w.heap.size 0 rfl (k3.cells c3) _ hrg Try.underlying35 rfl (by kernel_rfl) ?_) | (refine wpList_load_mid rfl 32 _ rfl wd.heap.size 0 rfl (pdc { c3.ad with ha := A1 } k3.ab k3.ai) _ hrd Try.underlying32 rfl (by kernel_rfl) ?_))
     refine (rmore_any c3 k3 R { c3.ad with ha := A1 } k3.ab k3.ai now V5 B5.cr B5.cr.ab B5.cr.ai (fun i hi => by have := hRl i hi; have := bR5.lt; omega)).mono ?_
     rintro e w1 ⟨⟨k1,o,r1,rfl,hC1,hps,hrs1⟩,hB4⟩
     obtain ⟨x1,hx1⟩ : ∃ x1 : Sp,(sp0 c3 now).send { c3.ad with ha := A1 } = x1 := ⟨_,rfl⟩
     rw [hx1] at hC1 hps hrs1 ⊢
     have HX := Lib.hid hx1
     have bRx := bR5.below hB4
     have hl1 := hB5.trans (hB4.mono hB5.size)
     have hth := bRx.there 0 26 (by simp)
     have hone := hC1.one
     clear hx1 hB4
     go_wp2_with (refine wpList_store_mid rfl 35 _ _ rfl (w.heap.size + 2) 0 (k1.cells x1.c).toArray rfl rfl hth (by kernel_rfl) hone ?_; simp only [Act.put]; generalize hW : World.setCells w1 (w.heap.size + 2) 0 _ = w2; have HW := Lib.hid hW; clear hW)
     obtain ⟨hF,bR4⟩ := fin26 hC1 hps hrs1 bRx rfl hm2 hRs hl1 (by omega)
     rw [show w1.setCells (w.heap.size + 2) 0 (k1.cells x1.c) = w2 from HW.out] at hF bR4
     have hl := run_loadVar_row (P := Try.prog) _ (w.heap.size + 2) 35 35 _ (0,0) _ bR4 Try.underlying35 rfl (by kernel_rfl)
     exact bodyPost_ret (v := .tuple #[.agg (k1.cells x1.c).toArray,o,r1]) (by rw [results_cell_tmp2 rfl]; simp [asAddr,hl]) rfl ⟨by rw [HRS.out,HX.out]; exact ⟨k1,_,_,rfl,hF.1,hF.2.1,hF.2.2.1⟩,hF.2.2.2⟩
   ·skip
    have hat : rlastP p.kd (qs.map (·.1)) = q.1.ha := by
     unfold rlastP
     rw [if_neg h17]
     unfold lastI
     rw [HQL.out]
     rfl
    have hst : rstop c p.kd = c.tk.la := by
     unfold rstop
     rw [if_neg h17]
    have HAT := Lib.hid (And.intro hat hst)
    clear hat hst
    have h17' : (p.kd == 17) = false := by simp [h17]
    have H17 := Lib.hid h17
    clear h17
    by_cases hge : c.tk.la ≤ q.1.ha
    ·have c1 : decide (c.tk.la ≤ q.1.ha) = true := by simpa using hge
     have c2 : decide ((c.tk.la : Int) ≤ (q.1.ha : Int)) = true := by simp; omega
     have HRS := Lib.hid (show rlisted c p.kd (qs.map (·.1)) now = (sp0 c3 now).endd ⟨2,0,0,[],(c.tk.fo ++ fs),0⟩ by
      unfold rlisted
      rw [HGA.out]
      simp only [HAT.out.1,HAT.out.2,if_pos hge,HC3.out])
     have hrg := B3.range
     clear hge
     go_wp2_with (refine wpList_load_mid rfl 35 _ rfl w.heap.size 0 rfl (k3.cells c3) _ hrg Try.underlying35 rfl (by kernel_rfl) ?_)
     refine (rfinish_any c3 k3 R ⟨2,0,0,[],(c.tk.fo ++ fs),0⟩ (.slice none 0 0) (.slice ua L9 uc) now _ B3.cr (BD.nil _ R) hfd3 (fun i hi => by have := hRl i hi; have := bR3.lt; omega) (by rw [HW3.out]; exact HW1.out) (by rw [HW3.out]; exact HWL.out)).mono ?_
     rintro e w1 ⟨⟨k1,o,r1,rfl,hC1,hps,hrs1⟩,hB4⟩
     obtain ⟨x1,hx1⟩ : ∃ x1 : Sp,(sp0 c3 now).endd ⟨2,0,0,[],(c.tk.fo ++ fs),0⟩ = x1 := ⟨_,rfl⟩
     rw [hx1] at hC1 hps hrs1 ⊢
     have HX := Lib.hid hx1
     have bRx := bR3.below hB4
     have hl1 := hB3.trans (hB4.mono hB3.size)
     have hth := bRx.there 0 26 (by simp)
     have hone := hC1.one
     clear hx1 hB4
     go_wp2_with (refine wpList_store_mid rfl 35 _ _ rfl (w.heap.size + 2) 0 (k1.cells x1.c).toArray rfl rfl hth (by kernel_rfl) hone ?_; simp only [Act.put]; generalize hW : World.setCells w1 (w.heap.size + 2) 0 _ = w2; have HW := Lib.hid hW; clear hW)
     obtain ⟨hF,bR4⟩ := fin26 hC1 hps hrs1 bRx rfl hm2 hRs hl1 (by omega)
     rw [show w1.setCells (w.heap.size + 2) 0 (k1.cells x1.c) = w2 from HW.out] at hF bR4
     have hl := run_loadVar_row (P := Try.prog) _ (w.heap.size + 2) 35 35 _ (0,0) _ bR4 Try.underlying35 rfl (by kernel_rfl)
     exact bodyPost_ret (v := .tuple #[.agg (k1.cells x1.c).toArray,o,r1]) (by rw [results_cell_tmp2 rfl]; simp [asAddr,hl]) rfl ⟨by rw [HRS.out,HX.out]; exact ⟨k1,_,_,rfl,hF.1,hF.2.1,hF.2.2.1⟩,hF.2.2.2⟩
    ·have c1 : decide (c.tk.la ≤ q.1.ha) = false := by simpa using hge
     have c2 : decide ((c.tk.la : Int) ≤ (q.1.ha : Int)) = false := by simp; omega
     obtain ⟨A1,hA1⟩ : ∃ x,q.1.ha + 1 = x := ⟨_,rfl⟩
     have HRS := Lib.hid (show rlisted c p.kd (qs.map (·.1)) now = (sp0 c3 now).send { c3.ad with ha := A1 } by
      rw [← hA1]
      unfold rlisted
      rw [HGA.out]
      simp only [HAT.out.1,HAT.out.2,if_neg hge,← HC3.out])
     have w2' : IntKind.u16.wrap ((q.1.ha : Int) + 1) = (A1 : Int) := by rw [IntWalk.u16_in _ (by have := HLA.out; omega)]; omega
     have HA1 := Lib.hid hA1
     clear hA1
     have hrg := B3.range
     have hra := B3.blk.range 10 (pdc c3.ad k3.ab k3.ai) (ad_in c3 k3)
     have bD0 := Blk.new wd 32 [.int .i64 0,.int .i64 0,.int .u16 0,.int .u16 0,.int .u64 0,.int .u64 0,.int .i64 0,.int .i64 0,.int .i64 0,.bool false,.slice none 0 0,.slice none 0 0]
     have hth := bD0.there 0 12 (by simp)
     have hone : (pdc c3.ad k3.ab k3.ai).toArray.all (·.oneCell') = true := by
      obtain ⟨a1,c1,e1⟩ := B3.cr.ab.1.form
      obtain ⟨a2,c2,e2⟩ := B3.cr.ai.form
      simp [pdc,e1,e2,Value.oneCell']
     clear hge
     go_upto_region 16 with (first | (refine wpList_load_mid rfl 32 _ rfl w.heap.size 10 rfl (pdc c3.ad k3.ab k3.ai) _ hra Try.underlying32 rfl (by kernel_rfl) ?_) | (refine wpList_store_mid rfl 32 _ _ rfl wd.heap.size 0 (pdc c3.ad k3.ab k3.ai).toArray rfl rfl hth (by kernel_rfl) hone ?_; simp only [Act.put]; generalize hW : World.setCells _ wd.heap.size 0 _ = V4; have HW := Lib.hid hW; clear hW))
     have bD1 := bD0.putAll (vs := pdc c3.ad k3.ab k3.ai) rfl
     have hg1 := setCells_grown wd.heap.size (pdc c3.ad k3.ab k3.ai) 0 (wd.alloc (.cells #[.int .i64 0,.int .i64 0,.int .u16 0,.int .u16 0,.int .u64 0,.int .u64 0,.int .i64 0,.int .i64 0,.int .i64 0,.bool false,.slice none 0 0,.slice none 0 0] 32))
     rw [show World.setCells _ wd.heap.size 0 (pdc c3.ad k3.ab k3.ai) = V4 from HW.out] at bD1 hg1
     have hBV : Below wd.heap.size wd V4 := ((Below.refl wd.heap.size wd).alloc (Nat.le_refl _) _).grown hg1 (by simp) (fun k hk => by cases hk; exact Nat.le_refl _)
     have hDlt := bD1.lt
     clear hrg hra hth hone HW bD0 hg1
     have x2 := bD1.cell (j := 2) (v := .int .u16 c3.ad.ha) rfl
     have z2 := bD1.frozen 2
     go_upto_region 17 with fail
     have bD2 : Blk (V4.setCell ⟨wd.heap.size,2,none⟩ (.int .u16 (A1 : Int))) wd.heap.size 32 (pdc { c3.ad with ha := A1 } k3.ab k3.ai) := bD1.setAt (j := 2) (.int .u16 (A1 : Int))
     have hBV5 : Below wd.heap.size wd (V4.setCell ⟨wd.heap.size,2,none⟩ (.int .u16 (A1 : Int))) := hBV.grown (set1 V4 ⟨wd.heap.size,2,none⟩ (.int .u16 (A1 : Int))) (Nat.le_of_lt hDlt) (fun k hk => by cases hk; exact Nat.le_refl _)
     generalize hW : World.setCell V4 _ _ = V5 at bD2 hBV5 ⊢
     have B5 := B3.below hBV5
     have bR5 := bR3.below hBV5
     have hB5 := hB3.trans (hBV5.mono hB3.size)
     clear hW x2 z2 bD1 hBV hBV5 hDlt B3 bR3 hB3
     have hrg := B5.range
     have hrd := bD2.range 0 (pdc { c3.ad with ha := A1 } k3.ab k3.ai) (fun j v hv => by rw [Nat.zero_add]; exact hv)
     go_wp2_with (first | (refine wpList_load_mid rfl 35 _ rfl w.heap.size 0 rfl (k3.cells c3) _ hrg Try.underlying35 rfl (by kernel_rfl) ?_) | (refine wpList_load_mid rfl 32 _ rfl wd.heap.size 0 rfl (pdc { c3.ad with ha := A1 } k3.ab k3.ai) _ hrd Try.underlying32 rfl (by kernel_rfl) ?_))
     refine (rmore_any c3 k3 R { c3.ad with ha := A1 } k3.ab k3.ai now V5 B5.cr B5.cr.ab B5.cr.ai (fun i hi => by have := hRl i hi; have := bR5.lt; omega)).mono ?_
     rintro e w1 ⟨⟨k1,o,r1,rfl,hC1,hps,hrs1⟩,hB4⟩
     obtain ⟨x1,hx1⟩ : ∃ x1 : Sp,(sp0 c3 now).send { c3.ad with ha := A1 } = x1 := ⟨_,rfl⟩
     rw [hx1] at hC1 hps hrs1 ⊢
     have HX := Lib.hid hx1
     have bRx := bR5.below hB4
     have hl1 := hB5.trans (hB4.mono hB5.size)
     have hth := bRx.there 0 26 (by simp)
     have hone := hC1.one
     clear hx1 hB4
     go_wp2_with (refine wpList_store_mid rfl 35 _ _ rfl (w.heap.size + 2) 0 (k1.cells x1.c).toArray rfl rfl hth (by kernel_rfl) hone ?_; simp only [Act.put]; generalize hW : World.setCells w1 (w.heap.size + 2) 0 _ = w2; have HW := Lib.hid hW; clear hW)
     obtain ⟨hF,bR4⟩ := fin26 hC1 hps hrs1 bRx rfl hm2 hRs hl1 (by omega)
     rw [show w1.setCells (w.heap.size + 2) 0 (k1.cells x1.c) = w2 from HW.out] at hF bR4
     have hl := run_loadVar_row (P := Try.prog) _ (w.heap.size + 2) 35 35 _ (0,0) _ bR4 Try.underlying35 rfl (by kernel_rfl)
     exact bodyPost_ret (v := .tuple #[.agg (k1.cells x1.c).toArray,o,r1]) (by rw [results_cell_tmp2 rfl]; simp [asAddr,hl]) rfl ⟨by rw [HRS.out,HX.out]; exact ⟨k1,_,_,rfl,hF.1,hF.2.1,hF.2.2.1⟩,hF.2.2.2⟩
end Go.Proofs.Ytldcihjddebciaa
