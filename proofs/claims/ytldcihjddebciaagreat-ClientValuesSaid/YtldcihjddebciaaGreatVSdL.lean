/- server: prepare, by its reference. -/
import Derived.Test.YtldcihjddebciaaGreatVSdK
set_option linter.unusedSimpArgs false
set_option linter.unusedVariables false
set_option maxRecDepth 100000
set_option maxHeartbeats 4000000
namespace Go.Proofs.YtldcihjddebciaaGreat
open Go.RowKit
theorem run_app_own {P : Program} (w : World) (base : Nat) (t ty e : TypeId) (i : TypeInfo) (z : Value) (size bytes : Nat) (ht : P.underlying t = some (.slice e)) (hi : P.info? e = some i) (hz : i.zero = some z)
 (hsize : i.size = size) (hby : i.bytes = bytes) (hzs : z.cells.size = size) (hsz : 0 < size) (v : Value) (n : Nat) (xs : List Value) (hown : w.ownsRow base e size v n xs)
 (sv : Value) (m : Nat) (cs : List Value) (hsr : SR w sv m size cs) (h63 : n + m ≤ maxLen) (hbytes : (n + m) * bytes ≤ 140737488355328) (hbase : base ≤ w.heap.size) :
 ∃ v' w',(Builtin.append_ #[t,t] ty #[v,sv]).run P w = .ok v' w' ∧ w'.ownsRow base e size v' (n + m) (xs ++ cs) ∧ w.grownBy w' v.ownBlock := by
 obtain ⟨hm,hl,h1,ao,cap,rfl,hnil,hc⟩ := hsr
 cases ao with
 |none =>
  obtain ⟨rfl,rfl⟩ := hnil rfl
  have hcs : cs = [] := List.eq_nil_of_length_eq_zero (by simpa using hl)
  subst hcs
  exact ⟨v,w,run_append_owned_none (P := P) (w := w) base t ty e i size ht hi v n xs hown,by simpa using hown,World.grownBy.refl w _⟩
 |some ad =>
  obtain ⟨v',w',hr,h2,h3,_⟩ := run_append_own_at (P := P) w base t ty e i z size bytes ht hi hz hsize hby hzs hsz v n xs hown ad m cap cs hl (fun j u hj => by
   have hj' := (List.getElem?_eq_some_iff.1 hj).1
   obtain ⟨b,off,e0,_,hcs⟩ := hc (by
    rcases Nat.eq_zero_or_pos m with h0 | h0
    ·subst h0; omega
    ·exact h0)
   cases e0
   rw [addr_add]
   exact hcs j u hj) h1 h63 hbytes hbase
  exact ⟨v',w',hr,h2,h3⟩
theorem step_app_own {P : Program} {w : World} {ops : Array Oper} {o : Oper} {a : Act} {K : Act → World → Prop} {Q : Exit → Act → World → Prop} {E : Prop} (hgd : o.guard = none) (s x : Operand) (t : TypeId)
 (ho : o.op = .call { callee := .builtin .append,args := #[s,x],argTypes := #[t,t] })
 (base : Nat) (e : TypeId) (i : TypeInfo) (z : Value) (size bytes : Nat) (ht : P.underlying t = some (.slice e)) (hi : P.info? e = some i) (hz : i.zero = some z)
 (hsize : i.size = size) (hby : i.bytes = bytes) (hzs : z.cells.size = size) (hsz : 0 < size) (v : Value) (n : Nat) (xs : List Value) (hs : a.eval s = v) (hown : w.ownsRow base e size v n xs)
 (sv : Value) (m : Nat) (cs : List Value) (hx : a.eval x = sv) (hsr : SR w sv m size cs) (h63 : n + m ≤ maxLen) (hbytes : (n + m) * bytes ≤ 140737488355328) (hbase : base ≤ w.heap.size)
 (h : ∀ v' w',w'.ownsRow base e size v' (n + m) (xs ++ cs) → w.grownBy w' v.ownBlock → K (a.put o.dst v') w') : if Region.wanted o (yielded ops a.tmps) = true then Oper.wp P o a w K Q else E := by
 have hw : Region.wanted o (yielded ops a.tmps) = true := by simp [Region.wanted,hgd]
 rw [if_pos hw]
 obtain ⟨v',w',hr,h1,h2⟩ := run_app_own (P := P) w base t o.type e i z size bytes ht hi hz hsize hby hzs hsz v n xs hown sv m cs hsr h63 hbytes hbase
 unfold Oper.wp execOp
 simp only [ho,resolve,invoke,builtin,Sem.run_bind,Sem.run_pure,Result.andThen_ok,List.map_toArray,List.map_cons,List.map_nil,hs,hx,hr]
 exact h v' w' h1 h2
theorem own_low {w w' : World} {base e k n : Nat} {v : Value} {cs : List Value} (h : w.ownsRow base e k v n cs) (hg : w.grownBy w' v.ownBlock) (hb : base ≤ w.heap.size) : Below base w w' := (Below.refl base w).grown hg hb (fun i hi => (World.ownsRow.lt h i hi).1)
theorem run_app_zero {P : Program} (w : World) (base : Nat) (t ty e : TypeId) (i : TypeInfo) (z : Value) (size bytes : Nat) (ht : P.underlying t = some (.slice e)) (hi : P.info? e = some i) (hz : i.zero = some z)
 (hsize : i.size = size) (hby : i.bytes = bytes) (hzs : z.cells.size = size) (hsz : 0 < size) (g : Nat) (hown : w.ownsRow base e size (.slice (some ⟨g,0,none⟩) 0 0) 0 [])
 (sv : Value) (m : Nat) (cs : List Value) (hsr : SR w sv m size cs) (hbytes : m * bytes ≤ 140737488355328) (hbase : base ≤ w.heap.size) :
 ∃ v' w',(Builtin.append_ #[t,t] ty #[.slice (some ⟨g,0,none⟩) 0 0,sv]).run P w = .ok v' w' ∧ w'.ownsRow base e size v' m cs ∧ Below w.heap.size w w' := by
 obtain ⟨v1,w1,hr1,h1,_⟩ := run_app_own (P := P) w base t ty e i z size bytes ht hi hz hsize hby hzs hsz _ 0 [] hown sv m cs hsr (by have := hsr.1; omega) (by simpa using hbytes) hbase
 obtain ⟨a,c,w2,hr2,_,_,h2,_⟩ := run_append_empty2 (P := P) w t ty e i z size bytes ht hi hz hsize hby hzs hsz g sv m cs hsr hbytes
 have e := hr1.symm.trans hr2
 injection e with e1 e2
 subst e2
 exact ⟨v1,w1,hr1,by simpa using h1,h2⟩
theorem step_app_zero {P : Program} {w : World} {ops : Array Oper} {o : Oper} {a : Act} {K : Act → World → Prop} {Q : Exit → Act → World → Prop} {E : Prop} (hgd : o.guard = none) (s x : Operand) (t : TypeId)
 (ho : o.op = .call { callee := .builtin .append,args := #[s,x],argTypes := #[t,t] })
 (base : Nat) (e : TypeId) (i : TypeInfo) (z : Value) (size bytes : Nat) (ht : P.underlying t = some (.slice e)) (hi : P.info? e = some i) (hz : i.zero = some z)
 (hsize : i.size = size) (hby : i.bytes = bytes) (hzs : z.cells.size = size) (hsz : 0 < size) (g : Nat) (hs : a.eval s = .slice (some ⟨g,0,none⟩) 0 0) (hown : w.ownsRow base e size (.slice (some ⟨g,0,none⟩) 0 0) 0 [])
 (sv : Value) (m : Nat) (cs : List Value) (hx : a.eval x = sv) (hsr : SR w sv m size cs) (hbytes : m * bytes ≤ 140737488355328) (hbase : base ≤ w.heap.size)
 (h : ∀ v' w',w'.ownsRow base e size v' m cs → Below w.heap.size w w' → K (a.put o.dst v') w') : if Region.wanted o (yielded ops a.tmps) = true then Oper.wp P o a w K Q else E := by
 have hw : Region.wanted o (yielded ops a.tmps) = true := by simp [Region.wanted,hgd]
 rw [if_pos hw]
 obtain ⟨v',w',hr,h1,h2⟩ := run_app_zero (P := P) w base t o.type e i z size bytes ht hi hz hsize hby hzs hsz g hown sv m cs hsr hbytes hbase
 unfold Oper.wp execOp
 simp only [ho,resolve,invoke,builtin,Sem.run_bind,Sem.run_pure,Result.andThen_ok,List.map_toArray,List.map_cons,List.map_nil,hs,hx,hr]
 exact h v' w' h1 h2
theorem sr_oneblk {w : World} {b size : Nat} {t : TypeId} {cs : List Value} (h : Blk w b t cs) (hl : cs.length = size) (h1 : ∀ u ∈ cs,u.oneCell' = true) : SR w (.slice (some ⟨b,0,none⟩) 1 1) 1 size cs :=
 ⟨by unfold maxLen; omega,by rw [hl,Nat.one_mul],h1,some ⟨b,0,none⟩,1,rfl,(fun e => (by cases e)),(fun _ => ⟨b,0,rfl,h.lt,(fun j u hj => (by rw [Nat.zero_add]; exact h.cell hj))⟩)⟩
theorem qenc_one {qs : List (Pq × Value)} {w : World} (h : ∀ q ∈ qs,BV w q.2 q.1.vs) : ∀ u ∈ qs.flatMap qenc,u.oneCell' = true := fun u hu => by
 obtain ⟨q,hq,hu⟩ := List.mem_flatMap.1 hu
 obtain ⟨a,c,e⟩ := (h q hq).form
 simp only [qenc,e,List.mem_cons,List.not_mem_nil,or_false] at hu
 rcases hu with rfl | rfl | rfl <;> rfl
theorem vprepare_any (s : Ss) (da : Option Addr) (dn dc : Nat) (qa : Option Addr) (qn qc : Nat) (ua : Option Addr) (un uc : Nat) (oa : Option Addr) (on oc : Nat) (p : Pd) (pa : Option Addr) (pn pc : Nat) (ia : Option Addr) (ino ic : Nat) (w : World) (hdq : DQ w (.slice da dn dc) (.slice qa qn qc) s.db s.qu) (hn : s.db.length = dn) (hqn : s.qu.length = qn) (hdk : DbOk s.db) (hv : BV w (.slice pa pn pc) p.vs) (hpn : p.vs.length = pn) (hm : pn ≤ 1000000) (hpl : findN s.db p.ha < s.db.length → plainA (atI s.db (findN s.db p.ha))) :
 Calls Tryz.prog 51 #[.agg #[.slice da dn dc,.int .i64 s.mt,.int .i64 s.mx,.int .i64 2,.slice qa qn qc,.int .i64 2,.bool false,.slice ua un uc,.slice oa on oc,.bool false,.int .i64 0],.agg #[.int .i64 p.kd,.int .i64 p.ask,.int .u16 p.ha,.int .u16 p.la,.int .u64 p.hi,.int .u64 p.lo,.int .i64 p.of,.int .i64 p.mt,.int .i64 p.co,.bool p.cm,.slice pa pn pc,.slice ia ino ic]] w fun e w' => ∃ sv v,e = .returned (.tuple #[sv,v]) ∧ SvV w' sv (prepS s p).1 ∧ AnsV w.heap.size w' v (prepS s p).2 [] ∧ Below w.heap.size w w' := by
 have HWR := Lib.hid (fun W (hW : Below w.heap.size w W) => vwritable_any s da dn dc qa qn qc ua un uc oa on oc p pa pn pc ia ino ic W (hdq.db.dbs.below hW) hn hdk)
 obtain ⟨K,hK⟩ : ∃ K,findN s.db p.ha = K := ⟨_,rfl⟩
 obtain ⟨C,hC⟩ : ∃ C,(if K < dn then accI (atI s.db K).pe 2 else 1) = C := ⟨_,rfl⟩
 obtain ⟨FI,hFI⟩ : ∃ x,fI s.db p.ha = x := ⟨_,rfl⟩
 simp only [hK,hC,hFI] at HWR
 rcases write_code hn hK hC with ⟨hc0,-,hws⟩ | ⟨hc0,hi,-,hws⟩
 ·rw [hws]
  have g1 : (C == 0) = false := by simpa using hc0
  have g2 : (C != 0) = true := by simpa using hc0
  have bS := ((Blk.new w 57 [.slice da dn dc,.int .i64 s.mt,.int .i64 s.mx,.int .i64 2,.slice qa qn qc,.int .i64 2,.bool false,.slice ua un uc,.slice oa on oc,.bool false,.int .i64 0]).alloc (.cells #[.int .i64 p.kd,.int .i64 p.ask,.int .u16 p.ha,.int .u16 p.la,.int .u64 p.hi,.int .u64 p.lo,.int .i64 p.of,.int .i64 p.mt,.int .i64 p.co,.bool p.cm,.slice pa pn pc,.slice ia ino ic] 49)).alloc (.cells #[.slice none 0 0,.int .i64 0,.int .i64 0,.int .i64 0,.slice none 0 0,.int .i64 0,.bool false,.slice none 0 0,.slice none 0 0,.bool false,.int .i64 0] 57)
  have bP := (Blk.new (w.alloc (.cells #[.slice da dn dc,.int .i64 s.mt,.int .i64 s.mx,.int .i64 2,.slice qa qn qc,.int .i64 2,.bool false,.slice ua un uc,.slice oa on oc,.bool false,.int .i64 0] 57)) 49 [.int .i64 p.kd,.int .i64 p.ask,.int .u16 p.ha,.int .u16 p.la,.int .u64 p.hi,.int .u64 p.lo,.int .i64 p.of,.int .i64 p.mt,.int .i64 p.co,.bool p.cm,.slice pa pn pc,.slice ia ino ic]).alloc (.cells #[.slice none 0 0,.int .i64 0,.int .i64 0,.int .i64 0,.slice none 0 0,.int .i64 0,.bool false,.slice none 0 0,.slice none 0 0,.bool false,.int .i64 0] 57)
  have bR := Blk.new ((w.alloc (.cells #[.slice da dn dc,.int .i64 s.mt,.int .i64 s.mx,.int .i64 2,.slice qa qn qc,.int .i64 2,.bool false,.slice ua un uc,.slice oa on oc,.bool false,.int .i64 0] 57)).alloc (.cells #[.int .i64 p.kd,.int .i64 p.ask,.int .u16 p.ha,.int .u16 p.la,.int .u64 p.hi,.int .u64 p.lo,.int .i64 p.of,.int .i64 p.mt,.int .i64 p.co,.bool p.cm,.slice pa pn pc,.slice ia ino ic] 49)) 57 [.slice none 0 0,.int .i64 0,.int .i64 0,.int .i64 0,.slice none 0 0,.int .i64 0,.bool false,.slice none 0 0,.slice none 0 0,.bool false,.int .i64 0]
  have hB := (((Below.refl w.heap.size w).alloc (Nat.le_refl _) (.cells #[.slice da dn dc,.int .i64 s.mt,.int .i64 s.mx,.int .i64 2,.slice qa qn qc,.int .i64 2,.bool false,.slice ua un uc,.slice oa on oc,.bool false,.int .i64 0] 57)).alloc (by simp) (.cells #[.int .i64 p.kd,.int .i64 p.ask,.int .u16 p.ha,.int .u16 p.la,.int .u64 p.hi,.int .u64 p.lo,.int .i64 p.of,.int .i64 p.mt,.int .i64 p.co,.bool p.cm,.slice pa pn pc,.slice ia ino ic] 49)).alloc (by simp; omega) (.cells #[.slice none 0 0,.int .i64 0,.int .i64 0,.int .i64 0,.slice none 0 0,.int .i64 0,.bool false,.slice none 0 0,.slice none 0 0,.bool false,.int .i64 0] 57)
  have hz1 : (w.alloc (.cells #[.slice da dn dc,.int .i64 s.mt,.int .i64 s.mx,.int .i64 2,.slice qa qn qc,.int .i64 2,.bool false,.slice ua un uc,.slice oa on oc,.bool false,.int .i64 0] 57)).heap.size = w.heap.size + 1 := by simp
  have hz2 : ((w.alloc (.cells #[.slice da dn dc,.int .i64 s.mt,.int .i64 s.mx,.int .i64 2,.slice qa qn qc,.int .i64 2,.bool false,.slice ua un uc,.slice oa on oc,.bool false,.int .i64 0] 57)).alloc (.cells #[.int .i64 p.kd,.int .i64 p.ask,.int .u16 p.ha,.int .u16 p.la,.int .u64 p.hi,.int .u64 p.lo,.int .i64 p.of,.int .i64 p.mt,.int .i64 p.co,.bool p.cm,.slice pa pn pc,.slice ia ino ic] 49)).heap.size = w.heap.size + 2 := by simp
  rw [hz1] at bP
  rw [hz2] at bR
  clear hz1 hz2
  clear hn hqn hdk hv hpn hm hpl hK hC hFI hc0 hws
  go_enter Tryz.func51,Tryz.ntmps51
  go_upto_region 1 with fail
  generalize hX : World.alloc (World.alloc (World.alloc w _) _) _ = V at bS bP bR hB ⊢
  clear hX
  have hdq := hdq.below hB
  have rgS := bS.range 0 [.slice da dn dc,.int .i64 s.mt,.int .i64 s.mx,.int .i64 2,.slice qa qn qc,.int .i64 2,.bool false,.slice ua un uc,.slice oa on oc,.bool false,.int .i64 0] (fun j v hv => by rw [Nat.zero_add]; exact hv)
  have rgP := bP.range 0 [.int .i64 p.kd,.int .i64 p.ask,.int .u16 p.ha,.int .u16 p.la,.int .u64 p.hi,.int .u64 p.lo,.int .i64 p.of,.int .i64 p.mt,.int .i64 p.co,.bool p.cm,.slice pa pn pc,.slice ia ino ic] (fun j v hv => by rw [Nat.zero_add]; exact hv)
  go_upto_region 2 with (first | (refine wpList_load_mid rfl 57 _ rfl w.heap.size 0 rfl [.slice da dn dc,.int .i64 s.mt,.int .i64 s.mx,.int .i64 2,.slice qa qn qc,.int .i64 2,.bool false,.slice ua un uc,.slice oa on oc,.bool false,.int .i64 0] _ rgS Tryz.underlying57 rfl (by kernel_rfl) ?_) | (refine wpList_load_mid rfl 49 _ rfl (w.heap.size + 1) 0 rfl [.int .i64 p.kd,.int .i64 p.ask,.int .u16 p.ha,.int .u16 p.la,.int .u64 p.hi,.int .u64 p.lo,.int .i64 p.of,.int .i64 p.mt,.int .i64 p.co,.bool p.cm,.slice pa pn pc,.slice ia ino ic] _ rgP Tryz.underlying49 rfl (by kernel_rfl) ?_) | (go_at_call 91; refine (HWR.out _ hB).mono ?_; rintro e w2 ⟨rfl,hC2⟩; have bS := bS.below hC2; have bP := bP.below hC2; have bR := bR.below hC2; have hdq := hdq.below hC2; have hB := hB.trans (hC2.mono hB.size); clear hC2 rgS rgP))
  clear HWR
  go_upto_region 7 with fail
  have hdq := hdq.below (Below.refl _ _).drew
  have bS := bS.drew
  have bP := bP.drew
  have bR := bR.drew
  have hB := hB.drew
  refine wp_region_held_drew (S := (fun W' : World => W'.rangeAt w.heap.size 0 [.slice da dn dc,.int .i64 s.mt,.int .i64 s.mx,.int .i64 2,.slice qa qn qc,.int .i64 2,.bool false,.slice ua un uc,.slice oa on oc,.bool false,.int .i64 0] ∧ W'.rangeAt (w.heap.size + 1) 0 [.int .i64 p.kd,.int .i64 p.ask,.int .u16 p.ha,.int .u16 p.la,.int .u64 p.hi,.int .u64 p.lo,.int .i64 p.of,.int .i64 p.mt,.int .i64 p.co,.bool p.cm,.slice pa pn pc,.slice ia ino ic] ∧ W'.cell? ⟨w.heap.size + 1,2,none⟩ = some (.int .u16 p.ha))) (by kernel_rfl) (⟨bS.range 0 _ (fun j v hv => by rw [Nat.zero_add]; exact hv),bP.range 0 _ (fun j v hv => by rw [Nat.zero_add]; exact hv),bP.cell (j := 2) (v := .int .u16 p.ha) rfl⟩) (fun hHeld => ?_)
  generalize World.drew _ = wd at hHeld bS bP bR hdq hB ⊢
  repeat' first
   |refine tkN 0 57 w.heap.size 0 [.slice da dn dc,.int .i64 s.mt,.int .i64 s.mx,.int .i64 2,.slice qa qn qc,.int .i64 2,.bool false,.slice ua un uc,.slice oa on oc,.bool false,.int .i64 0] (fun _ h => h.1) Tryz.underlying57 ?_
   |refine tkN 1 49 (w.heap.size + 1) 0 [.int .i64 p.kd,.int .i64 p.ask,.int .u16 p.ha,.int .u16 p.la,.int .u64 p.hi,.int .u64 p.lo,.int .i64 p.of,.int .i64 p.mt,.int .i64 p.co,.bool p.cm,.slice pa pn pc,.slice ia ino ic] (fun _ h => h.2.1) Tryz.underlying49 ?_
   |refine tkU 2 ?_
   |refine tkU 3 ?_
   |refine tkU 4 ?_
   |refine tkU 7 ?_
   |(refine opn 5 fun K hK => ?_
     go_simp
     go_at_call 46
     refine (refuse_any p pa pn pc ia ino ic p.ha C _).mono ?_
     rintro e w3 ⟨v9,rfl,hA9,hC⟩
     have hR3 := bS.lt
     try (have hR3 := bR.lt)
     try (have hR3 := bR9.lt)
     have hdq := hdq.below hC
     have bS := bS.below hC
     have bP := bP.below hC
     try have bR := bR.below hC
     try have bR9 := bR9.below hC
     have hB := hB.trans (hC.mono hB.size)
     clear hC
     refine hK.out _ _ (⟨bS.range 0 _ (fun j v hv => by rw [Nat.zero_add]; exact hv),bP.range 0 _ (fun j v hv => by rw [Nat.zero_add]; exact hv),bP.cell (j := 2) (v := .int .u16 p.ha) rfl⟩) (fun h => ?_)
     replace hHeld := h
     clear hK K h
     try simp only [Act.put,List.setIfInBounds_toArray,List.set_cons_zero,List.set_cons_succ])
   |(refine opn 6 fun K hK => ?_
     refine step_store_mid (by rfl) 57 _ _ (by rfl) (w.heap.size + 2) 0 #[.slice da dn dc,.int .i64 s.mt,.int .i64 s.mx,.int .i64 2,.slice qa qn qc,.int .i64 2,.bool false,.slice ua un uc,.slice oa on oc,.bool false,.int .i64 0] (by rfl) (by rfl) (bR.there 0 11 (by simp)) (by kernel_rfl) (by simp [Value.oneCell']) ?_
     generalize hX : World.setCells _ (w.heap.size + 2) 0 _ = w9
     obtain ⟨hg9,bR9⟩ := put_namedB bR hX rfl
     have hdq := hdq.kept (nox_code (by simp only [List.map_cons,List.map_nil,code]; decide) (by simp only [List.map_cons,List.map_nil,code]; decide) (by simp only [List.map_cons,List.map_nil,code]; decide) (by simp only [List.map_cons,List.map_nil,code]; decide) (by simp only [List.map_cons,List.map_nil,code]; decide)) bR hg9
     try have hA9 := hA9.kept (by omega) (nox_code (by simp only [List.map_cons,List.map_nil,code]; decide) (by simp only [List.map_cons,List.map_nil,code]; decide) (by simp only [List.map_cons,List.map_nil,code]; decide) (by simp only [List.map_cons,List.map_nil,code]; decide) (by simp only [List.map_cons,List.map_nil,code]; decide)) bR hg9
     have bS := bS.kept hg9 (fun e => by injection e with e; omega)
     have bP := bP.kept hg9 (fun e => by injection e with e; omega)
     have hB := hB.grown hg9 hB.size (fun k hk => by cases hk; omega)
     clear hX hg9 bR
     refine hK.out _ _ (⟨bS.range 0 _ (fun j v hv => by rw [Nat.zero_add]; exact hv),bP.range 0 _ (fun j v hv => by rw [Nat.zero_add]; exact hv),bP.cell (j := 2) (v := .int .u16 p.ha) rfl⟩) (fun h => ?_)
     replace hHeld := h
     clear hK K h
     try simp only [Act.put,List.setIfInBounds_toArray,List.set_cons_zero,List.set_cons_succ])
   |refine rd1 5 ?_
   |refine rd1 6 ?_
   |(refine wpAnyH_done (by kernel_rfl) ?_ _
     go_wp2_with fail
     have hl := run_loadVar_row (P := Tryz.prog) _ (w.heap.size + 2) 57 57 _ (0,0) _ bR9 Tryz.underlying57 rfl (by kernel_rfl)
     refine bodyPost_ret (v := .tuple #[.agg #[.slice da dn dc,.int .i64 s.mt,.int .i64 s.mx,.int .i64 2,.slice qa qn qc,.int .i64 2,.bool false,.slice ua un uc,.slice oa on oc,.bool false,.int .i64 0],v9]) (by rw [results_cell_tmp rfl]; simp [asAddr,hl] <;> rfl) rfl ⟨_,_,rfl,hdq.svv,hA9.mono (by omega),hB⟩)
 ·obtain ⟨RS,hRS⟩ : ∃ x,prepS s p = x := ⟨_,rfl⟩
  rw [hRS,hqn] at hws
  rw [hRS]
  have HWS := Lib.hid hws
  subst hc0
  have hfi : FI = (K : Int) := by rw [← hFI]; exact fI_pos hK (by rw [hn]; exact hi)
  subst hfi
  obtain ⟨b,off,rfl,hb,hat⟩ := hdq.db.dbs.at hn (by omega)
  obtain ⟨ra,rc,d0,d1,d2,d3,d4,hcap,hby⟩ := hat K hi
  rw [hK,hn] at hpl
  have h2 := plain_g (hpl hi)
  obtain ⟨⟨ha,hi',lo,pe,bs⟩,he⟩ : ∃ r,atI s.db K = r := ⟨_,rfl⟩
  rw [he] at d0 d1 d2 d3 d4 h2
  simp only at d0 d1 d2 d3 d4 h2
  obtain ⟨L,hL⟩ : ∃ L,bs.length = L := ⟨_,rfl⟩
  rw [hL] at d4
  have H2 := Lib.hid (fun W => isCf_any ha hi' lo pe (.slice ra L rc) W)
  simp only [h2] at H2
  have rgA : w.rangeAt b (off + K * 5) [.int .u16 ha,.int .u64 hi',.int .u64 lo,.int .i64 pe,.slice ra L rc] := fun j v hv => by
   match j,hv with
   |0,hv => cases hv; exact d0
   |1,hv => cases hv; exact d1
   |2,hv => cases hv; exact d2
   |3,hv => cases hv; exact d3
   |4,hv => cases hv; exact d4
  have hi0 : (0 : Int) ≤ (K : Int) := by omega
  have hi1 : (K : Int) < (dn : Int) := by omega
  have RGA := Lib.hid rgA
  clear hpl hat d0 d1 d2 d3 d4 hcap hby he hL h2 rgA
  have bS := ((Blk.new w 57 [.slice (some ⟨b,off,none⟩) dn dc,.int .i64 s.mt,.int .i64 s.mx,.int .i64 2,.slice qa qn qc,.int .i64 2,.bool false,.slice ua un uc,.slice oa on oc,.bool false,.int .i64 0]).alloc (.cells #[.int .i64 p.kd,.int .i64 p.ask,.int .u16 p.ha,.int .u16 p.la,.int .u64 p.hi,.int .u64 p.lo,.int .i64 p.of,.int .i64 p.mt,.int .i64 p.co,.bool p.cm,.slice pa pn pc,.slice ia ino ic] 49)).alloc (.cells #[.slice none 0 0,.int .i64 0,.int .i64 0,.int .i64 0,.slice none 0 0,.int .i64 0,.bool false,.slice none 0 0,.slice none 0 0,.bool false,.int .i64 0] 57)
  have bP := (Blk.new (w.alloc (.cells #[.slice (some ⟨b,off,none⟩) dn dc,.int .i64 s.mt,.int .i64 s.mx,.int .i64 2,.slice qa qn qc,.int .i64 2,.bool false,.slice ua un uc,.slice oa on oc,.bool false,.int .i64 0] 57)) 49 [.int .i64 p.kd,.int .i64 p.ask,.int .u16 p.ha,.int .u16 p.la,.int .u64 p.hi,.int .u64 p.lo,.int .i64 p.of,.int .i64 p.mt,.int .i64 p.co,.bool p.cm,.slice pa pn pc,.slice ia ino ic]).alloc (.cells #[.slice none 0 0,.int .i64 0,.int .i64 0,.int .i64 0,.slice none 0 0,.int .i64 0,.bool false,.slice none 0 0,.slice none 0 0,.bool false,.int .i64 0] 57)
  have bR := Blk.new ((w.alloc (.cells #[.slice (some ⟨b,off,none⟩) dn dc,.int .i64 s.mt,.int .i64 s.mx,.int .i64 2,.slice qa qn qc,.int .i64 2,.bool false,.slice ua un uc,.slice oa on oc,.bool false,.int .i64 0] 57)).alloc (.cells #[.int .i64 p.kd,.int .i64 p.ask,.int .u16 p.ha,.int .u16 p.la,.int .u64 p.hi,.int .u64 p.lo,.int .i64 p.of,.int .i64 p.mt,.int .i64 p.co,.bool p.cm,.slice pa pn pc,.slice ia ino ic] 49)) 57 [.slice none 0 0,.int .i64 0,.int .i64 0,.int .i64 0,.slice none 0 0,.int .i64 0,.bool false,.slice none 0 0,.slice none 0 0,.bool false,.int .i64 0]
  have hB := (((Below.refl w.heap.size w).alloc (Nat.le_refl _) (.cells #[.slice (some ⟨b,off,none⟩) dn dc,.int .i64 s.mt,.int .i64 s.mx,.int .i64 2,.slice qa qn qc,.int .i64 2,.bool false,.slice ua un uc,.slice oa on oc,.bool false,.int .i64 0] 57)).alloc (by simp) (.cells #[.int .i64 p.kd,.int .i64 p.ask,.int .u16 p.ha,.int .u16 p.la,.int .u64 p.hi,.int .u64 p.lo,.int .i64 p.of,.int .i64 p.mt,.int .i64 p.co,.bool p.cm,.slice pa pn pc,.slice ia ino ic] 49)).alloc (by simp; omega) (.cells #[.slice none 0 0,.int .i64 0,.int .i64 0,.int .i64 0,.slice none 0 0,.int .i64 0,.bool false,.slice none 0 0,.slice none 0 0,.bool false,.int .i64 0] 57)
  have hz1 : (w.alloc (.cells #[.slice (some ⟨b,off,none⟩) dn dc,.int .i64 s.mt,.int .i64 s.mx,.int .i64 2,.slice qa qn qc,.int .i64 2,.bool false,.slice ua un uc,.slice oa on oc,.bool false,.int .i64 0] 57)).heap.size = w.heap.size + 1 := by simp
  have hz2 : ((w.alloc (.cells #[.slice (some ⟨b,off,none⟩) dn dc,.int .i64 s.mt,.int .i64 s.mx,.int .i64 2,.slice qa qn qc,.int .i64 2,.bool false,.slice ua un uc,.slice oa on oc,.bool false,.int .i64 0] 57)).alloc (.cells #[.int .i64 p.kd,.int .i64 p.ask,.int .u16 p.ha,.int .u16 p.la,.int .u64 p.hi,.int .u64 p.lo,.int .i64 p.of,.int .i64 p.mt,.int .i64 p.co,.bool p.cm,.slice pa pn pc,.slice ia ino ic] 49)).heap.size = w.heap.size + 2 := by simp
  rw [hz1] at bP
  rw [hz2] at bR
  clear hz1 hz2
  have HV := Lib.hid (And.intro hv (And.intro hpn (And.intro hm hqn)))
  clear hn hqn hdk hv hpn hm hK hC hFI hws hRS
  go_enter Tryz.func51,Tryz.ntmps51
  go_upto_region 1 with fail
  generalize hX : World.alloc (World.alloc (World.alloc w _) _) _ = V at bS bP bR hB ⊢
  clear hX
  have hdq := hdq.below hB
  have rgS := bS.range 0 [.slice (some ⟨b,off,none⟩) dn dc,.int .i64 s.mt,.int .i64 s.mx,.int .i64 2,.slice qa qn qc,.int .i64 2,.bool false,.slice ua un uc,.slice oa on oc,.bool false,.int .i64 0] (fun j v hv => by rw [Nat.zero_add]; exact hv)
  have rgP := bP.range 0 [.int .i64 p.kd,.int .i64 p.ask,.int .u16 p.ha,.int .u16 p.la,.int .u64 p.hi,.int .u64 p.lo,.int .i64 p.of,.int .i64 p.mt,.int .i64 p.co,.bool p.cm,.slice pa pn pc,.slice ia ino ic] (fun j v hv => by rw [Nat.zero_add]; exact hv)
  go_upto_region 2 with (first | (refine wpList_load_mid rfl 57 _ rfl w.heap.size 0 rfl [.slice (some ⟨b,off,none⟩) dn dc,.int .i64 s.mt,.int .i64 s.mx,.int .i64 2,.slice qa qn qc,.int .i64 2,.bool false,.slice ua un uc,.slice oa on oc,.bool false,.int .i64 0] _ rgS Tryz.underlying57 rfl (by kernel_rfl) ?_) | (refine wpList_load_mid rfl 49 _ rfl (w.heap.size + 1) 0 rfl [.int .i64 p.kd,.int .i64 p.ask,.int .u16 p.ha,.int .u16 p.la,.int .u64 p.hi,.int .u64 p.lo,.int .i64 p.of,.int .i64 p.mt,.int .i64 p.co,.bool p.cm,.slice pa pn pc,.slice ia ino ic] _ rgP Tryz.underlying49 rfl (by kernel_rfl) ?_) | (go_at_call 91; refine (HWR.out _ hB).mono ?_; rintro e w2 ⟨rfl,hC2⟩; have bS := bS.below hC2; have bP := bP.below hC2; have bR := bR.below hC2; have hdq := hdq.below hC2; have hB := hB.trans (hC2.mono hB.size); clear hC2 rgS rgP))
  clear HWR
  have m0 := bS.cell (j := 0) (v := .slice (some ⟨b,off,none⟩) dn dc) rfl
  have rgA := range_keep RGA.out hB
  go_upto_region 4 with (first | (refine wpList_load_midG (by rfl) 29 _ rfl b (off + K * 5) rfl [.int .u16 ha,.int .u64 hi',.int .u64 lo,.int .i64 pe,.slice ra L rc] _ rgA Tryz.underlying29 rfl (by kernel_rfl) ?_) | (go_at_call 90; refine (H2.out _).mono ?_; rintro e w3 ⟨rfl,hC3⟩; have bS := bS.below hC3; have bP := bP.below hC3; have bR := bR.below hC3; have hdq := hdq.below hC3; have hB := hB.trans (hC3.mono hB.size); clear hC3 m0 rgA))
  have m4 := bS.cell (j := 4) (v := .slice qa qn qc) rfl
  by_cases hq16 : 16 ≤ qn
  ·have hws := HWS.out
   rw [if_pos hq16] at hws
   subst hws
   clear HWS
   have g3 : decide (16 ≤ qn) = true := by simpa using hq16
   have g3i : decide ((16 : Int) ≤ (qn : Int)) = true := by simp; omega
   clear hq16
   go_upto_region 7 with fail
   clear m4
   have hdq := hdq.below (Below.refl _ _).drew
   have bS := bS.drew
   have bP := bP.drew
   have bR := bR.drew
   have hB := hB.drew
   refine wp_region_held_drew (S := (fun W' : World => W'.rangeAt w.heap.size 0 [.slice (some ⟨b,off,none⟩) dn dc,.int .i64 s.mt,.int .i64 s.mx,.int .i64 2,.slice qa qn qc,.int .i64 2,.bool false,.slice ua un uc,.slice oa on oc,.bool false,.int .i64 0] ∧ W'.rangeAt (w.heap.size + 1) 0 [.int .i64 p.kd,.int .i64 p.ask,.int .u16 p.ha,.int .u16 p.la,.int .u64 p.hi,.int .u64 p.lo,.int .i64 p.of,.int .i64 p.mt,.int .i64 p.co,.bool p.cm,.slice pa pn pc,.slice ia ino ic] ∧ W'.cell? ⟨w.heap.size + 1,2,none⟩ = some (.int .u16 p.ha))) (by kernel_rfl) (⟨bS.range 0 _ (fun j v hv => by rw [Nat.zero_add]; exact hv),bP.range 0 _ (fun j v hv => by rw [Nat.zero_add]; exact hv),bP.cell (j := 2) (v := .int .u16 p.ha) rfl⟩) (fun hHeld => ?_)
   generalize World.drew _ = wd at hHeld bS bP bR hdq hB ⊢
   repeat' first
    |refine tkN 0 57 w.heap.size 0 [.slice (some ⟨b,off,none⟩) dn dc,.int .i64 s.mt,.int .i64 s.mx,.int .i64 2,.slice qa qn qc,.int .i64 2,.bool false,.slice ua un uc,.slice oa on oc,.bool false,.int .i64 0] (fun _ h => h.1) Tryz.underlying57 ?_
    |refine tkN 1 49 (w.heap.size + 1) 0 [.int .i64 p.kd,.int .i64 p.ask,.int .u16 p.ha,.int .u16 p.la,.int .u64 p.hi,.int .u64 p.lo,.int .i64 p.of,.int .i64 p.mt,.int .i64 p.co,.bool p.cm,.slice pa pn pc,.slice ia ino ic] (fun _ h => h.2.1) Tryz.underlying49 ?_
    |refine tkU 2 ?_
    |refine tkU 3 ?_
    |refine tkU 4 ?_
    |refine tkU 7 ?_
    |(refine opn 5 fun K hK => ?_
      go_simp
      go_at_call 46
      refine (refuse_any p pa pn pc ia ino ic p.ha 9 _).mono ?_
      rintro e w3 ⟨v9,rfl,hA9,hC⟩
      have hR3 := bS.lt
      try (have hR3 := bR.lt)
      try (have hR3 := bR9.lt)
      have hdq := hdq.below hC
      have bS := bS.below hC
      have bP := bP.below hC
      try have bR := bR.below hC
      try have bR9 := bR9.below hC
      have hB := hB.trans (hC.mono hB.size)
      clear hC
      refine hK.out _ _ (⟨bS.range 0 _ (fun j v hv => by rw [Nat.zero_add]; exact hv),bP.range 0 _ (fun j v hv => by rw [Nat.zero_add]; exact hv),bP.cell (j := 2) (v := .int .u16 p.ha) rfl⟩) (fun h => ?_)
      replace hHeld := h
      clear hK K h
      try simp only [Act.put,List.setIfInBounds_toArray,List.set_cons_zero,List.set_cons_succ])
    |(refine opn 6 fun K hK => ?_
      refine step_store_mid (by rfl) 57 _ _ (by rfl) (w.heap.size + 2) 0 #[.slice (some ⟨b,off,none⟩) dn dc,.int .i64 s.mt,.int .i64 s.mx,.int .i64 2,.slice qa qn qc,.int .i64 2,.bool false,.slice ua un uc,.slice oa on oc,.bool false,.int .i64 0] (by rfl) (by rfl) (bR.there 0 11 (by simp)) (by kernel_rfl) (by simp [Value.oneCell']) ?_
      generalize hX : World.setCells _ (w.heap.size + 2) 0 _ = w9
      obtain ⟨hg9,bR9⟩ := put_namedB bR hX rfl
      have hdq := hdq.kept (nox_code (by simp only [List.map_cons,List.map_nil,code]; decide) (by simp only [List.map_cons,List.map_nil,code]; decide) (by simp only [List.map_cons,List.map_nil,code]; decide) (by simp only [List.map_cons,List.map_nil,code]; decide) (by simp only [List.map_cons,List.map_nil,code]; decide)) bR hg9
      try have hA9 := hA9.kept (by omega) (nox_code (by simp only [List.map_cons,List.map_nil,code]; decide) (by simp only [List.map_cons,List.map_nil,code]; decide) (by simp only [List.map_cons,List.map_nil,code]; decide) (by simp only [List.map_cons,List.map_nil,code]; decide) (by simp only [List.map_cons,List.map_nil,code]; decide)) bR hg9
      have bS := bS.kept hg9 (fun e => by injection e with e; omega)
      have bP := bP.kept hg9 (fun e => by injection e with e; omega)
      have hB := hB.grown hg9 hB.size (fun k hk => by cases hk; omega)
      clear hX hg9 bR
      refine hK.out _ _ (⟨bS.range 0 _ (fun j v hv => by rw [Nat.zero_add]; exact hv),bP.range 0 _ (fun j v hv => by rw [Nat.zero_add]; exact hv),bP.cell (j := 2) (v := .int .u16 p.ha) rfl⟩) (fun h => ?_)
      replace hHeld := h
      clear hK K h
      try simp only [Act.put,List.setIfInBounds_toArray,List.set_cons_zero,List.set_cons_succ])
    |refine rd1 5 ?_
    |refine rd1 6 ?_
    |(refine wpAnyH_done (by kernel_rfl) ?_ _
      go_wp2_with fail
      have hl := run_loadVar_row (P := Tryz.prog) _ (w.heap.size + 2) 57 57 _ (0,0) _ bR9 Tryz.underlying57 rfl (by kernel_rfl)
      refine bodyPost_ret (v := .tuple #[.agg #[.slice (some ⟨b,off,none⟩) dn dc,.int .i64 s.mt,.int .i64 s.mx,.int .i64 2,.slice qa qn qc,.int .i64 2,.bool false,.slice ua un uc,.slice oa on oc,.bool false,.int .i64 0],v9]) (by rw [results_cell_tmp rfl]; simp [asAddr,hl] <;> rfl) rfl ⟨_,_,rfl,hdq.svv,hA9.mono (by omega),hB⟩)
  ·have hws := HWS.out
   rw [if_neg hq16] at hws
   subst hws
   clear HWS
   have g3 : decide (16 ≤ qn) = false := by simpa using hq16
   have g3i : decide ((16 : Int) ≤ (qn : Int)) = false := by simp; omega
   obtain ⟨i0,hi0',hi1',hi2,hi3⟩ := info_parts Tryz.info_pq
   obtain ⟨j0,hj0,hj1,hj2,hj3⟩ := info_parts Tryz.info_u8
   obtain ⟨Q1,hQ1⟩ : ∃ x,qn + 1 = x := ⟨_,rfl⟩
   have HQ1 := Lib.hid (And.intro hQ1 (show qn < 16 by omega))
   clear hq16 hQ1
   go_upto_region 8 with fail
   go_cut [] (fun wx => ∃ q7 c7,Blk wx w.heap.size 57 [.slice (some ⟨b,off,none⟩) dn dc,.int .i64 s.mt,.int .i64 s.mx,.int .i64 2,.slice q7 Q1 c7,.int .i64 2,.bool false,.slice ua un uc,.slice oa on oc,.bool false,.int .i64 0] ∧ Blk wx (w.heap.size + 1) 49 [.int .i64 p.kd,.int .i64 p.ask,.int .u16 p.ha,.int .u16 p.la,.int .u64 p.hi,.int .u64 p.lo,.int .i64 p.of,.int .i64 p.mt,.int .i64 p.co,.bool p.cm,.slice pa pn pc,.slice ia ino ic] ∧ Blk wx (w.heap.size + 2) 57 [.slice none 0 0,.int .i64 0,.int .i64 0,.int .i64 0,.slice none 0 0,.int .i64 0,.bool false,.slice none 0 0,.slice none 0 0,.bool false,.int .i64 0] ∧ DQ wx (.slice (some ⟨b,off,none⟩) dn dc) (.slice q7 Q1 c7) s.db (s.qu ++ [⟨p.ha,p.of,p.vs⟩]) ∧ Below w.heap.size w wx)
   case first =>
    have hdq := hdq.below (Below.refl _ _).drew
    have bS := bS.drew
    have bP := bP.drew
    have bR := bR.drew
    have hB := hB.drew
    have m4d := bS.cell (j := 4) (v := .slice qa qn qc) rfl
    clear m4 g3 g3i
    have m4 := m4d
    have z4 := bS.frozen 4
    have hBd := Below.refl w3.drew.heap.size w3.drew
    obtain ⟨qs,hqs,hqsr,hqbv⟩ := hdq.qu
    have hqsl : qs.length = qn := by rw [← HV.out.2.2.2,← hqs,List.length_map]
    rw [hqsl] at hqsr
    have HQS := Lib.hid (And.intro hqs (And.intro hqbv hqsl))
    have hpv := HV.out.1.below hB
    have hpsr := hpv.sr
    rw [HV.out.2.1] at hpsr
    clear hqs hqbv hqsl hpv
    refine wp_region_held_drew (S := (fun W' : World => W'.cell? ⟨w.heap.size + 1,2,none⟩ = some (.int .u16 p.ha) ∧ W'.cell? ⟨w.heap.size + 1,6,none⟩ = some (.int .i64 p.of) ∧ W'.cell? ⟨w.heap.size + 1,10,none⟩ = some (.slice pa pn pc))) (by kernel_rfl) (⟨(bP.below hBd).cell (j := 2) (v := .int .u16 p.ha) rfl,(bP.below hBd).cell (j := 6) (v := .int .i64 p.of) rfl,(bP.below hBd).cell (j := 10) (v := .slice pa pn pc) rfl⟩) (fun hHeld => ?_)
    generalize World.drew _ = wd at hHeld bS bP bR hdq hB m4d m4 z4 hBd HQS hqsr hpsr ⊢
    repeat' first
     |refine tkU 1 ?_
     |refine tkU 4 ?_
     |refine tkU 5 ?_
     |refine tkU 6 ?_
     |refine tkU 7 ?_
     |refine tkU 9 ?_
     |refine tkU 10 ?_
     |refine tkU 12 ?_
     |refine tkU 15 ?_
     |(refine opn 0 fun K hK => ?_
       go_simp
       generalize hX : World.alloc _ (.cells _ 147) = w4
       have hoz : w4.ownsRow wd.heap.size 147 3 (.slice (some ⟨_,0,none⟩) 0 0) 0 [] := hX ▸ own_zero _ _ 3 wd.heap.size hBd.size
       obtain ⟨-,hBx,-⟩ := alloc_named hX
       try have bN := bN.below hBx
       try have hb5 := own_below hb5 hBx
       try have hzb := own_below hzb hBx
       have hBd := hBd.trans (hBx.mono hBd.size)
       clear m4 z4
       have m4 := (bS.below hBd).cell (j := 4) (v := .slice qa qn qc) rfl
       have z4 := (bS.below hBd).frozen 4
       clear hX hBx
       refine hK.out _ _ (⟨(bP.below hBd).cell (j := 2) (v := .int .u16 p.ha) rfl,(bP.below hBd).cell (j := 6) (v := .int .i64 p.of) rfl,(bP.below hBd).cell (j := 10) (v := .slice pa pn pc) rfl⟩) (fun h => ?_)
       replace hHeld := h
       clear hK K h
       try simp only [Act.put,List.setIfInBounds_toArray,List.set_cons_zero,List.set_cons_succ])
     |(refine opn 2 fun K hK => ?_
       go_simp
       refine hK.out _ _ (⟨(bP.below hBd).cell (j := 2) (v := .int .u16 p.ha) rfl,(bP.below hBd).cell (j := 6) (v := .int .i64 p.of) rfl,(bP.below hBd).cell (j := 10) (v := .slice pa pn pc) rfl⟩) (fun h => ?_)
       replace hHeld := h
       clear hK K h
       try simp only [Act.put,List.setIfInBounds_toArray,List.set_cons_zero,List.set_cons_succ])
     |(refine opn 3 fun K hK => ?_
       refine step_app_zero (by rfl) _ _ 53 (by rfl) wd.heap.size 147 i0 _ 3 40 Tryz.underlying53 hi0' hi1' hi2 hi3 rfl (by decide) _ (by rfl) hoz (.slice qa qn qc) qn (qs.flatMap qenc) (by rfl) (hqsr.below hBd) (by have := HQ1.out.2; omega) hBd.size ?_
       intro v5 w5 hown hBx
       try have bN := bN.below hBx
       try have hb5 := own_below hb5 hBx
       try have hzb := own_below hzb hBx
       have hBd := hBd.trans (hBx.mono hBd.size)
       clear m4 z4
       have m4 := (bS.below hBd).cell (j := 4) (v := .slice qa qn qc) rfl
       have z4 := (bS.below hBd).frozen 4
       clear hBx hoz
       refine hK.out _ _ (⟨(bP.below hBd).cell (j := 2) (v := .int .u16 p.ha) rfl,(bP.below hBd).cell (j := 6) (v := .int .i64 p.of) rfl,(bP.below hBd).cell (j := 10) (v := .slice pa pn pc) rfl⟩) (fun h => ?_)
       replace hHeld := h
       clear hK K h
       try simp only [Act.put,List.setIfInBounds_toArray,List.set_cons_zero,List.set_cons_succ])
     |(refine opn 8 fun K hK => ?_
       go_simp
       generalize hX : World.alloc _ (.cells _ 5) = w6
       have hzb : w6.ownsRow wd.heap.size 5 1 (.slice (some ⟨_,0,none⟩) 0 0) 0 [] := hX ▸ own_zero _ _ 1 wd.heap.size hBd.size
       obtain ⟨-,hBx,-⟩ := alloc_named hX
       try have hoz := own_below hoz hBx
       try have hown := own_below hown hBx
       have hBd := hBd.trans (hBx.mono hBd.size)
       clear m4 z4
       have m4 := (bS.below hBd).cell (j := 4) (v := .slice qa qn qc) rfl
       have z4 := (bS.below hBd).frozen 4
       clear hX hBx
       refine hK.out _ _ (⟨(bP.below hBd).cell (j := 2) (v := .int .u16 p.ha) rfl,(bP.below hBd).cell (j := 6) (v := .int .i64 p.of) rfl,(bP.below hBd).cell (j := 10) (v := .slice pa pn pc) rfl⟩) (fun h => ?_)
       replace hHeld := h
       clear hK K h
       try simp only [Act.put,List.setIfInBounds_toArray,List.set_cons_zero,List.set_cons_succ])
     |(refine opn 11 fun K hK => ?_
       refine step_app_zero (by rfl) _ _ 27 (by rfl) wd.heap.size 5 j0 _ 1 1 Tryz.underlying27 hj0 hj1 hj2 hj3 rfl (by decide) _ (by rfl) hzb (.slice pa pn pc) pn (bcells p.vs) (by rfl) (hpsr.below hBd) (by have := HV.out.2.2.1; omega) hBd.size ?_
       intro vb w7 hb5 hBx
       obtain ⟨b5,c5,rfl⟩ := own_form hb5
       try have hoz := own_below hoz hBx
       try have hown := own_below hown hBx
       have hBd := hBd.trans (hBx.mono hBd.size)
       clear m4 z4
       have m4 := (bS.below hBd).cell (j := 4) (v := .slice qa qn qc) rfl
       have z4 := (bS.below hBd).frozen 4
       clear hBx hzb
       refine hK.out _ _ (⟨(bP.below hBd).cell (j := 2) (v := .int .u16 p.ha) rfl,(bP.below hBd).cell (j := 6) (v := .int .i64 p.of) rfl,(bP.below hBd).cell (j := 10) (v := .slice pa pn pc) rfl⟩) (fun h => ?_)
       replace hHeld := h
       clear hK K h
       try simp only [Act.put,List.setIfInBounds_toArray,List.set_cons_zero,List.set_cons_succ])
     |(refine opn 13 fun K hK => ?_
       go_simp
       generalize hX : World.alloc _ (.cells _ 147) = w8
       obtain ⟨hnb,hBx,-⟩ := alloc_named hX
       have bN : Blk w8 _ 147 [.int .u16 p.ha,.int .i64 p.of,.slice b5 pn c5] := hnb
       try have hoz := own_below hoz hBx
       try have hown := own_below hown hBx
       have hb5 := own_below hb5 hBx
       have hBd := hBd.trans (hBx.mono hBd.size)
       clear m4 z4
       have m4 := (bS.below hBd).cell (j := 4) (v := .slice qa qn qc) rfl
       have z4 := (bS.below hBd).frozen 4
       clear hX hBx hnb
       refine hK.out _ _ (⟨(bP.below hBd).cell (j := 2) (v := .int .u16 p.ha) rfl,(bP.below hBd).cell (j := 6) (v := .int .i64 p.of) rfl,(bP.below hBd).cell (j := 10) (v := .slice pa pn pc) rfl⟩) (fun h => ?_)
       replace hHeld := h
       clear hK K h
       try simp only [Act.put,List.setIfInBounds_toArray,List.set_cons_zero,List.set_cons_succ])
     |(refine opn 14 fun K hK => ?_
       refine step_app_own (by rfl) _ _ 53 (by rfl) wd.heap.size 147 i0 _ 3 40 Tryz.underlying53 hi0' hi1' hi2 hi3 rfl (by decide) v5 qn (qs.flatMap qenc) (by rfl) hown (.slice (some ⟨_,0,none⟩) 1 1) 1 [.int .u16 p.ha,.int .i64 p.of,.slice b5 pn c5] (by rfl) (sr_oneblk bN rfl (by simp [Value.oneCell'])) (by have := HQ1.out.2; unfold maxLen; omega) (by have := HQ1.out.2; omega) hBd.size ?_
       intro v9 w9 hown9 hg9
       have hb9 := hb5.kept hg9 (by
        cases hx : (Value.slice b5 pn c5).ownBlock with
        |none => exact .inl rfl
        |some i => exact .inr (fun e => rows_ne hb5 hown (by decide) i hx e.symm))
       have hBx : Below wd.heap.size _ w9 := own_low hown hg9 hBd.size
       obtain ⟨q7,c7,rfl⟩ := own_form hown9
       rw [HQ1.out.1] at hown9 ⊢
       have hBd := hBd.trans hBx
       clear m4 z4
       have m4 := (bS.below hBd).cell (j := 4) (v := .slice qa qn qc) rfl
       have z4 := (bS.below hBd).frozen 4
       have hq9 : QuR w9 (.slice q7 Q1 c7) (s.qu ++ [⟨p.ha,p.of,p.vs⟩]) := by
        obtain ⟨k1,k2,k3⟩ := HQS.out
        obtain ⟨l1,l2,l3,_⟩ := HV.out
        have hbv9 : BV w9 (.slice b5 pn c5) p.vs := bv_of_own (by rw [l2]; exact hb9) l1.lt (by omega)
        have hall : ∀ q ∈ qs ++ [((⟨p.ha,p.of,p.vs⟩ : Pq),(.slice b5 pn c5 : Value))],BV w9 q.2 q.1.vs := fun q hq => by
         rcases List.mem_append.1 hq with h | h
         ·exact (k2 q h).below hBd
         ·rw [List.mem_singleton.1 h]; exact hbv9
        refine ⟨qs ++ [((⟨p.ha,p.of,p.vs⟩ : Pq),(.slice b5 pn c5 : Value))],by rw [List.map_append,k1]; rfl,?_,hall⟩
        rw [List.length_append,k3,show qn + [((⟨p.ha,p.of,p.vs⟩ : Pq),(.slice b5 pn c5 : Value))].length = Q1 from HQ1.out.1]
        have ho9 : w9.ownsRow wd.heap.size 147 3 (.slice q7 Q1 c7) Q1 ((qs ++ [((⟨p.ha,p.of,p.vs⟩ : Pq),(.slice b5 pn c5 : Value))]).flatMap qenc) := by
         rw [List.flatMap_append]
         exact hown9
        exact SR.of_own ho9 (qenc_one hall) (by have := HQ1.out; unfold maxLen; omega)
       clear hBx hown hg9 bN hb5 hb9 hown9
       refine hK.out _ _ (⟨(bP.below hBd).cell (j := 2) (v := .int .u16 p.ha) rfl,(bP.below hBd).cell (j := 6) (v := .int .i64 p.of) rfl,(bP.below hBd).cell (j := 10) (v := .slice pa pn pc) rfl⟩) (fun h => ?_)
       replace hHeld := h
       clear hK K h
       try simp only [Act.put,List.setIfInBounds_toArray,List.set_cons_zero,List.set_cons_succ])
     |(refine opn 16 fun K hK => ?_
       go_simp
       have hg := set1 w9 ⟨w.heap.size,4,none⟩ (.slice q7 Q1 c7)
       have bS9 := (bS.below hBd).setAt (j := 4) (.slice q7 Q1 c7)
       have bP9 := (bP.below hBd).kept hg (fun e => by injection e with e; simp only at e; omega)
       have bR9 := (bR.below hBd).kept hg (fun e => by injection e with e; simp only at e; omega)
       have hn9 : Nox [.slice (some ⟨b,off,none⟩) dn dc,.int .i64 s.mt,.int .i64 s.mx,.int .i64 2,.slice qa qn qc,.int .i64 2,.bool false,.slice ua un uc,.slice oa on oc,.bool false,.int .i64 0] := nox_code (by simp only [List.map_cons,List.map_nil,code]; decide) (by simp only [List.map_cons,List.map_nil,code]; decide) (by simp only [List.map_cons,List.map_nil,code]; decide) (by simp only [List.map_cons,List.map_nil,code]; decide) (by simp only [List.map_cons,List.map_nil,code]; decide)
       have hdq9 : DQ (w9.setCell ⟨w.heap.size,4,none⟩ (.slice q7 Q1 c7)) (.slice (some ⟨b,off,none⟩) dn dc) (.slice q7 Q1 c7) s.db (s.qu ++ [⟨p.ha,p.of,p.vs⟩]) := ⟨(hdq.db.below hBd).kept hn9 (bS.below hBd) hg,hq9.kept hn9 (bS.below hBd) hg⟩
       have hB9 := (hB.trans (hBd.mono hB.size)).grown hg (by have := hB.size; have := hBd.size; omega) (fun k hk => by cases hk; exact Nat.le_refl _)
       generalize hX : World.setCell _ _ _ = w10 at bS9 bP9 bR9 hdq9 hB9 ⊢
       have bS9 : Blk w10 w.heap.size 57 [.slice (some ⟨b,off,none⟩) dn dc,.int .i64 s.mt,.int .i64 s.mx,.int .i64 2,.slice q7 Q1 c7,.int .i64 2,.bool false,.slice ua un uc,.slice oa on oc,.bool false,.int .i64 0] := bS9
       clear hX hg hn9 hq9
       refine hK.out _ _ (⟨bP9.cell (j := 2) (v := .int .u16 p.ha) rfl,bP9.cell (j := 6) (v := .int .i64 p.of) rfl,bP9.cell (j := 10) (v := .slice pa pn pc) rfl⟩) (fun h => ?_)
       replace hHeld := h
       clear hK K h
       try simp only [Act.put,List.setIfInBounds_toArray,List.set_cons_zero,List.set_cons_succ])
     |refine rd3 0 2 8 ?_ ?_ ?_
     |refine rd2 2 8 ?_ ?_
     |refine rd2 3 8 ?_ ?_
     |refine rd1 8 ?_
     |refine rd1 11 ?_
     |refine rd1 13 ?_
     |refine rd1 14 ?_
     |refine rd1 16 ?_
     |refine rd1 3 ?_
     |refine rd1 2 ?_
     |refine rd2 0 8 ?_ ?_
     |refine rd1 0 ?_
     |refine rd2 0 2 ?_ ?_
     |(refine wpAnyH_done (by kernel_rfl) ?_ _
       go_wp2_with fail
       go_meet
       exact ⟨_,_,bS9,bP9,bR9,hdq9,hB9⟩)
   case rest =>
    obtain ⟨q7,c7,bS,bP,bR,hdq,hB⟩ := hcut
    go_upto_region 9 with fail
    have hpv := HV.out.1.below hB
    have hpsr := hpv.sr
    rw [HV.out.2.1] at hpsr
    have hdq := hdq.below (Below.refl _ _).drew
    have bS := bS.drew
    have bP := bP.drew
    have bR := bR.drew
    have hB := hB.drew
    have hpsr := SR.below hpsr (Below.refl _ _).drew
    clear hpv
    refine wp_region_held_drew (S := (fun W' : World => W'.rangeAt w.heap.size 0 [.slice (some ⟨b,off,none⟩) dn dc,.int .i64 s.mt,.int .i64 s.mx,.int .i64 2,.slice q7 Q1 c7,.int .i64 2,.bool false,.slice ua un uc,.slice oa on oc,.bool false,.int .i64 0] ∧ W'.cell? ⟨w.heap.size + 1,2,none⟩ = some (.int .u16 p.ha) ∧ W'.cell? ⟨w.heap.size + 1,6,none⟩ = some (.int .i64 p.of) ∧ W'.cell? ⟨w.heap.size + 1,10,none⟩ = some (.slice pa pn pc))) (by kernel_rfl) (⟨bS.range 0 _ (fun j v hv => by rw [Nat.zero_add]; exact hv),bP.cell (j := 2) (v := .int .u16 p.ha) rfl,bP.cell (j := 6) (v := .int .i64 p.of) rfl,bP.cell (j := 10) (v := .slice pa pn pc) rfl⟩) (fun hHeld => ?_)
    generalize World.drew _ = wd at hHeld bS bP bR hdq hB hpsr ⊢
    repeat' first
     |refine tkN 0 57 w.heap.size 0 [.slice (some ⟨b,off,none⟩) dn dc,.int .i64 s.mt,.int .i64 s.mx,.int .i64 2,.slice q7 Q1 c7,.int .i64 2,.bool false,.slice ua un uc,.slice oa on oc,.bool false,.int .i64 0] (fun _ h => h.1) Tryz.underlying57 ?_
     |refine tkU 1 ?_
     |refine tkU 2 ?_
     |refine tkU 3 ?_
     |refine tkU 4 ?_
     |refine tkU 6 ?_
     |refine tkU 7 ?_
     |refine tkU 9 ?_
     |refine tkU 12 ?_
     |(refine opn 5 fun K hK => ?_
       go_simp
       generalize hX : World.alloc _ (.cells _ 5) = w4
       obtain ⟨-,hB4,-⟩ := alloc_named hX
       have hdq := hdq.below hB4
       have bS := bS.below hB4
       have bP := bP.below hB4
       try have bR := bR.below hB4
       try have bR9 := bR9.below hB4
       have hpsr := SR.below hpsr hB4
       have hB := hB.trans (hB4.mono hB.size)
       clear hX hB4
       refine hK.out _ _ (⟨bS.range 0 _ (fun j v hv => by rw [Nat.zero_add]; exact hv),bP.cell (j := 2) (v := .int .u16 p.ha) rfl,bP.cell (j := 6) (v := .int .i64 p.of) rfl,bP.cell (j := 10) (v := .slice pa pn pc) rfl⟩) (fun h => ?_)
       replace hHeld := h
       clear hK K h
       try simp only [Act.put,List.setIfInBounds_toArray,List.set_cons_zero,List.set_cons_succ])
     |(refine opn 8 fun K hK => ?_
       refine step_app0 (by rfl) _ _ 27 (by rfl) 5 j0 _ 1 1 Tryz.underlying27 hj0 hj1 hj2 hj3 rfl (by decide) _ (by rfl) (.slice pa pn pc) pn (bcells p.vs) (by rfl) hpsr (by have := HV.out.2.2.1; omega) ?_
       intro b5 c5 w7 hsr5 hc5 hB4 ho5
       have hb5 : BV w7 (.slice b5 pn c5) p.vs := bv_new hsr5 HV.out.2.1 hc5 HV.out.2.2.1 HV.out.1.lt
       have hdq := hdq.below hB4
       have bS := bS.below hB4
       have bP := bP.below hB4
       try have bR := bR.below hB4
       try have bR9 := bR9.below hB4
       have hB := hB.trans (hB4.mono hB.size)
       clear hB4 hsr5 hc5 ho5 hpsr
       refine hK.out _ _ (⟨bS.range 0 _ (fun j v hv => by rw [Nat.zero_add]; exact hv),bP.cell (j := 2) (v := .int .u16 p.ha) rfl,bP.cell (j := 6) (v := .int .i64 p.of) rfl,bP.cell (j := 10) (v := .slice pa pn pc) rfl⟩) (fun h => ?_)
       replace hHeld := h
       clear hK K h
       try simp only [Act.put,List.setIfInBounds_toArray,List.set_cons_zero,List.set_cons_succ])
     |(refine opn 10 fun K hK => ?_
       go_simp
       generalize hX : World.alloc _ (.cells _ 49) = w8
       obtain ⟨hnb,hB4,-⟩ := alloc_named hX
       have hR3 := bS.lt
       try (have hR3 := bR.lt)
       try (have hR3 := bR9.lt)
       have hA9 : AnsV (w.heap.size + 3) w8 (.slice (some ⟨_,0,none⟩) 1 1) { pd0 with kd := 23,ha := p.ha,of := p.of,vs := p.vs } [] := ⟨_,.slice b5 pn c5,.slice none 0 0,rfl,(by omega),hnb,hb5.below hB4,[],rfl,SR.nil _ 5,fun q hq => by cases hq⟩
       have hdq := hdq.below hB4
       have bS := bS.below hB4
       have bP := bP.below hB4
       try have bR := bR.below hB4
       try have bR9 := bR9.below hB4
       have hB := hB.trans (hB4.mono hB.size)
       clear hX hnb hB4 hb5
       refine hK.out _ _ (⟨bS.range 0 _ (fun j v hv => by rw [Nat.zero_add]; exact hv),bP.cell (j := 2) (v := .int .u16 p.ha) rfl,bP.cell (j := 6) (v := .int .i64 p.of) rfl,bP.cell (j := 10) (v := .slice pa pn pc) rfl⟩) (fun h => ?_)
       replace hHeld := h
       clear hK K h
       try simp only [Act.put,List.setIfInBounds_toArray,List.set_cons_zero,List.set_cons_succ])
     |(refine opn 11 fun K hK => ?_
       refine step_store_mid (by rfl) 57 _ _ (by rfl) (w.heap.size + 2) 0 #[.slice (some ⟨b,off,none⟩) dn dc,.int .i64 s.mt,.int .i64 s.mx,.int .i64 2,.slice q7 Q1 c7,.int .i64 2,.bool false,.slice ua un uc,.slice oa on oc,.bool false,.int .i64 0] (by rfl) (by rfl) (bR.there 0 11 (by simp)) (by kernel_rfl) (by simp [Value.oneCell']) ?_
       generalize hX : World.setCells _ (w.heap.size + 2) 0 _ = w9
       obtain ⟨hg9,bR9⟩ := put_namedB bR hX rfl
       have hn9 : Nox [.slice none 0 0,.int .i64 0,.int .i64 0,.int .i64 0,.slice none 0 0,.int .i64 0,.bool false,.slice none 0 0,.slice none 0 0,.bool false,.int .i64 0] := nox_code (by simp only [List.map_cons,List.map_nil,code]; decide) (by simp only [List.map_cons,List.map_nil,code]; decide) (by simp only [List.map_cons,List.map_nil,code]; decide) (by simp only [List.map_cons,List.map_nil,code]; decide) (by simp only [List.map_cons,List.map_nil,code]; decide)
       have hdq := hdq.kept hn9 bR hg9
       try have hA9 := hA9.kept (by omega) hn9 bR hg9
       try have hb5 := hb5.notc hn9.nob bR hg9
       try have hpsr := (HV.out.1.below (hB.grown hg9 hB.size (fun k hk => by cases hk; omega))).sr
       try rw [HV.out.2.1] at hpsr
       have bS := bS.kept hg9 (fun e => by injection e with e; omega)
       have bP := bP.kept hg9 (fun e => by injection e with e; omega)
       have hB := hB.grown hg9 hB.size (fun k hk => by cases hk; omega)
       clear hX hg9 bR hn9
       refine hK.out _ _ (⟨bS.range 0 _ (fun j v hv => by rw [Nat.zero_add]; exact hv),bP.cell (j := 2) (v := .int .u16 p.ha) rfl,bP.cell (j := 6) (v := .int .i64 p.of) rfl,bP.cell (j := 10) (v := .slice pa pn pc) rfl⟩) (fun h => ?_)
       replace hHeld := h
       clear hK K h
       try simp only [Act.put,List.setIfInBounds_toArray,List.set_cons_zero,List.set_cons_succ])
     |refine rd1 5 ?_
     |refine rd1 8 ?_
     |refine rd2 10 11 ?_ ?_
     |refine rd1 11 ?_
     |refine rd1 10 ?_
     |(refine wpAnyH_done (by kernel_rfl) ?_ _
       go_wp2_with fail
       have hl := run_loadVar_row (P := Tryz.prog) _ (w.heap.size + 2) 57 57 _ (0,0) _ bR9 Tryz.underlying57 rfl (by kernel_rfl)
       refine bodyPost_ret (v := .tuple #[.agg #[.slice (some ⟨b,off,none⟩) dn dc,.int .i64 s.mt,.int .i64 s.mx,.int .i64 2,.slice q7 Q1 c7,.int .i64 2,.bool false,.slice ua un uc,.slice oa on oc,.bool false,.int .i64 0],.slice (some ⟨_,0,none⟩) 1 1]) (by rw [results_cell_tmp rfl]; simp [asAddr,hl] <;> rfl) rfl ⟨_,_,rfl,DQ.svv (s := { s with qu := s.qu ++ [⟨p.ha,p.of,p.vs⟩] }) hdq,hA9.mono (by omega),hB⟩)
end Go.Proofs.YtldcihjddebciaaGreat
