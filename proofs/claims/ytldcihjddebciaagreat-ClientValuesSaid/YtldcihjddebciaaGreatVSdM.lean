/- server: execute, by its reference. -/
import Derived.Test.YtldcihjddebciaaGreatVSdL
set_option linter.unusedSimpArgs false
set_option linter.unusedVariables false
set_option maxRecDepth 100000
set_option maxHeartbeats 12000000
namespace Go.Proofs.YtldcihjddebciaaGreat
open Go.RowKit
theorem execD_split (l m : List Pq) : ∀ (db : List At),execD db (l ++ m) = (match execD db l with | .inl d => execD d m | .inr e => .inr e) := by
 induction l with
 |nil => intro db; rfl
 |cons y l ih =>
  intro db
  rw [List.cons_append]
  by_cases h1 : findN db y.ha < db.length
  ·by_cases h2 : ((atI db (findN db y.ha)).bs.length : Int) < y.of
   ·simp only [execD,if_pos h1,if_pos h2]
   ·by_cases h3 : 512 < y.of + y.vs.length
    ·simp only [execD,if_pos h1,if_neg h2,if_pos h3]
    ·simp only [execD,if_pos h1,if_neg h2,if_neg h3]
     exact ih _
  ·simp only [execD,if_neg h1]
theorem own_nil0 (w : World) (base e size : Nat) : w.ownsRow base e size (.slice none 0 0) 0 [] := ⟨by simp,.inl ⟨rfl,rfl⟩⟩
theorem exec_from {qu : List Pq} {k : Nat} {x : Pq} {db d : List At} (hk : qu[k]? = some x) (h : execD db (qu.take k) = .inl d) : execD db qu = execD d (x :: qu.drop (k + 1)) := by
 have hlt := (List.getElem?_eq_some_iff.1 hk).1
 have e : qu = qu.take k ++ x :: qu.drop (k + 1) := by
  have h1 := List.drop_eq_getElem_cons hlt
  rw [(List.getElem?_eq_some_iff.1 hk).2] at h1
  rw [← h1,List.take_append_drop]
 conv => lhs; rw [e]
 rw [execD_split,h]
theorem exec_next {qu : List Pq} {k : Nat} {x : Pq} {db d : List At} (hk : qu[k]? = some x) (h : execD db (qu.take k) = .inl d) : execD db (qu.take (k + 1)) = execD d [x] := by
 have hlt := (List.getElem?_eq_some_iff.1 hk).1
 rw [List.take_succ_eq_append_getElem hlt,execD_split,h,(List.getElem?_eq_some_iff.1 hk).2]
theorem DbOk.put {db : List At} (h : DbOk db) {i : Nat} (hi : i < db.length) {v : List Nat} (hv : v.length ≤ 512) : DbOk (putA db i v) := by
 have hl : (putA db i v).length = db.length := putA_len db i v
 have hat : ∀ j,j < db.length → j ≠ i → atI (putA db i v) j = atI db j := fun j hj hne => by
  unfold putA atI
  rw [List.getD_eq_getElem?_getD,List.getD_eq_getElem?_getD,List.getElem?_set_ne (fun e => hne e.symm)]
  try rfl
 refine ⟨by rw [hl]; exact h.n,fun j hj => ?_,fun j hj => ?_⟩
 ·rw [hl] at hj
  by_cases c : j = i
  ·subst c; rw [putA_at hi]; exact hv
  ·rw [hat j hj c]; exact h.len j hj
 ·rw [hl] at hj
  by_cases c : j = i
  ·subst c; rw [putA_at hi]; exact h.prm j hj
  ·rw [hat j hj c]; exact h.prm j hj
theorem DbA.less {w : World} {R R' : List (Option Nat)} {v : Value} {db : List At} (h : DbA w R v db) (hs : ∀ r,r ∈ R' → r ∈ R) : DbA w R' v db := by
 obtain ⟨qs,h1,h2,h4,h3⟩ := h
 exact ⟨qs,h1,h2,h4.imp id fun h k hk hm => h k hk (hs _ hm),fun q hq => ⟨(h3 q hq).1,(h3 q hq).2.imp id fun h k hk hm => h k hk (hs _ hm)⟩⟩
theorem Tryz.info_u16 : (Tryz.prog.info? 23).map (fun i => (i.zero,i.size,i.bytes)) = some (some (.int .u16 0),1,2) := by kernel_rfl
/-- execute's own memory in the middle -/
structure EX (w w1 : World) (s : Ss) (p : Pd) (da : Option Addr) (dn dc : Nat) (ua : Option Addr) (un uc : Nat) (oa : Option Addr) (on oc : Nat) (pa : Option Addr) (pn pc : Nat) (ia : Option Addr) (ino ic : Nat) (T D : Nat) (db : List At) (ta : Option Addr) (tc : Nat) (wv : Value) (m : Nat) : Prop where
 bS : Blk w1 w.heap.size 57 [.slice da dn dc,.int .i64 s.mt,.int .i64 s.mx,.int .i64 2,.slice none 0 0,.int .i64 2,.bool false,.slice ua un uc,.slice oa on oc,.bool false,.int .i64 0]
 bP : Blk w1 (w.heap.size + 1) 49 [.int .i64 p.kd,.int .i64 p.ask,.int .u16 p.ha,.int .u16 p.la,.int .u64 p.hi,.int .u64 p.lo,.int .i64 p.of,.int .i64 p.mt,.int .i64 p.co,.bool p.cm,.slice pa pn pc,.slice ia ino ic]
 bR : Blk w1 (w.heap.size + 2) 57 [.slice none 0 0,.int .i64 0,.int .i64 0,.int .i64 0,.slice none 0 0,.int .i64 0,.bool false,.slice none 0 0,.slice none 0 0,.bool false,.int .i64 0]
 bT : Blk w1 T 57 [.slice ta dn tc,.int .i64 s.mt,.int .i64 s.mx,.int .i64 2,.slice none 0 0,.int .i64 2,.bool false,.slice ua un uc,.slice oa on oc,.bool false,.int .i64 0]
 bD : Blk w1 D 49 (pdc { pd0 with kd := 25 } (.slice none 0 0) (.slice none 0 0))
 hT : D < T
 hD : w.heap.size + 3 ≤ D
 dt : DbA w1 [wv.ownBlock] (.slice ta dn tc) db
 ok : DbOk db
 ln : db.length = dn
 hB : Below w.heap.size w w1
 wr : ∃ xs : List Nat,xs.length = m ∧ w1.ownsRow (w.heap.size + 3) 23 1 wv m (xs.map fun (x : Nat) => Value.int .u16 (x : Int))
theorem EX.below {w w1 w2 : World} {s : Ss} {p : Pd} {da : Option Addr} {dn dc : Nat} {ua : Option Addr} {un uc : Nat} {oa : Option Addr} {on oc : Nat} {pa : Option Addr} {pn pc : Nat} {ia : Option Addr} {ino ic : Nat} {T D : Nat} {db : List At} {ta : Option Addr} {tc : Nat} {wv : Value} {m : Nat} (h : EX w w1 s p da dn dc ua un uc oa on oc pa pn pc ia ino ic T D db ta tc wv m) (hb : Below w1.heap.size w1 w2) : EX w w2 s p da dn dc ua un uc oa on oc pa pn pc ia ino ic T D db ta tc wv m := by
 obtain ⟨xs,h1,h2⟩ := h.wr
 exact ⟨h.bS.below hb,h.bP.below hb,h.bR.below hb,h.bT.below hb,h.bD.below hb,h.hT,h.hD,h.dt.below hb,h.ok,h.ln,h.hB.trans (hb.mono h.hB.size),xs,h1,own_below h2 hb⟩
theorem vexec_any (s : Ss) (da : Option Addr) (dn dc : Nat) (qa : Option Addr) (qn qc : Nat) (ua : Option Addr) (un uc : Nat) (oa : Option Addr) (on oc : Nat) (p : Pd) (pa : Option Addr) (pn pc : Nat) (ia : Option Addr) (ino ic : Nat) (w : World) (hdq : DQ w (.slice da dn dc) (.slice qa qn qc) s.db s.qu) (hn : s.db.length = dn) (hqn : s.qu.length = qn) (hdk : DbOk s.db) (hq16 : qn ≤ 16) (hqo : ∀ x ∈ s.qu,0 ≤ x.of ∧ x.of ≤ 65535 ∧ x.vs.length ≤ 512) :
 Calls Tryz.prog 52 #[.agg #[.slice da dn dc,.int .i64 s.mt,.int .i64 s.mx,.int .i64 2,.slice qa qn qc,.int .i64 2,.bool false,.slice ua un uc,.slice oa on oc,.bool false,.int .i64 0],.agg #[.int .i64 p.kd,.int .i64 p.ask,.int .u16 p.ha,.int .u16 p.la,.int .u64 p.hi,.int .u64 p.lo,.int .i64 p.of,.int .i64 p.mt,.int .i64 p.co,.bool p.cm,.slice pa pn pc,.slice ia ino ic]] w fun e w' => ∃ sv v o,e = .returned (.tuple #[sv,v,o]) ∧ SvV w' sv (execS s p).1 ∧ AnsV w.heap.size w' v (execS s p).2 [] ∧ Below w.heap.size w w' := by
 obtain ⟨i0,hi0,hi1,hi2,hi3⟩ := info_parts Tryz.info_u16
 obtain ⟨j0,hj0,hj1,hj2,hj3⟩ := info_parts Tryz.info_u8
 obtain ⟨qs,hqs,hqsr,hqbv⟩ := hdq.qu
 have hqsl : qs.length = qn := by rw [← hqn,← hqs,List.length_map]
 obtain ⟨RS,hRS⟩ : ∃ x,execS s p = x := ⟨_,rfl⟩
 rw [hRS]
 obtain ⟨CM,hCM⟩ : ∃ x,p.cm = x := ⟨_,rfl⟩
 have hrs : RS = if CM = true then (match execD s.db s.qu with
  |.inl db => ({ s with db := db,qu := [] },{ pd0 with kd := 25 })
  |.inr (ha,co) => ({ s with qu := [] },errP p ha co)) else ({ s with qu := [] },{ pd0 with kd := 25 }) := by
  rw [← hRS,← hCM]
  rfl
 have bS := ((Blk.new w 57 [.slice da dn dc,.int .i64 s.mt,.int .i64 s.mx,.int .i64 2,.slice qa qn qc,.int .i64 2,.bool false,.slice ua un uc,.slice oa on oc,.bool false,.int .i64 0]).alloc (.cells #[.int .i64 p.kd,.int .i64 p.ask,.int .u16 p.ha,.int .u16 p.la,.int .u64 p.hi,.int .u64 p.lo,.int .i64 p.of,.int .i64 p.mt,.int .i64 p.co,.bool p.cm,.slice pa pn pc,.slice ia ino ic] 49)).alloc (.cells #[.slice none 0 0,.int .i64 0,.int .i64 0,.int .i64 0,.slice none 0 0,.int .i64 0,.bool false,.slice none 0 0,.slice none 0 0,.bool false,.int .i64 0] 57)
 have bP := (Blk.new (w.alloc (.cells #[.slice da dn dc,.int .i64 s.mt,.int .i64 s.mx,.int .i64 2,.slice qa qn qc,.int .i64 2,.bool false,.slice ua un uc,.slice oa on oc,.bool false,.int .i64 0] 57)) 49 [.int .i64 p.kd,.int .i64 p.ask,.int .u16 p.ha,.int .u16 p.la,.int .u64 p.hi,.int .u64 p.lo,.int .i64 p.of,.int .i64 p.mt,.int .i64 p.co,.bool p.cm,.slice pa pn pc,.slice ia ino ic]).alloc (.cells #[.slice none 0 0,.int .i64 0,.int .i64 0,.int .i64 0,.slice none 0 0,.int .i64 0,.bool false,.slice none 0 0,.slice none 0 0,.bool false,.int .i64 0] 57)
 have bR := Blk.new ((w.alloc (.cells #[.slice da dn dc,.int .i64 s.mt,.int .i64 s.mx,.int .i64 2,.slice qa qn qc,.int .i64 2,.bool false,.slice ua un uc,.slice oa on oc,.bool false,.int .i64 0] 57)).alloc (.cells #[.int .i64 p.kd,.int .i64 p.ask,.int .u16 p.ha,.int .u16 p.la,.int .u64 p.hi,.int .u64 p.lo,.int .i64 p.of,.int .i64 p.mt,.int .i64 p.co,.bool p.cm,.slice pa pn pc,.slice ia ino ic] 49)) 57 [.slice none 0 0,.int .i64 0,.int .i64 0,.int .i64 0,.slice none 0 0,.int .i64 0,.bool false,.slice none 0 0,.slice none 0 0,.bool false,.int .i64 0]
 have hB := (((Below.refl w.heap.size w).alloc (Nat.le_refl _) (.cells #[.slice da dn dc,.int .i64 s.mt,.int .i64 s.mx,.int .i64 2,.slice qa qn qc,.int .i64 2,.bool false,.slice ua un uc,.slice oa on oc,.bool false,.int .i64 0] 57)).alloc (by simp) (.cells #[.int .i64 p.kd,.int .i64 p.ask,.int .u16 p.ha,.int .u16 p.la,.int .u64 p.hi,.int .u64 p.lo,.int .i64 p.of,.int .i64 p.mt,.int .i64 p.co,.bool p.cm,.slice pa pn pc,.slice ia ino ic] 49)).alloc (by simp; omega) (.cells #[.slice none 0 0,.int .i64 0,.int .i64 0,.int .i64 0,.slice none 0 0,.int .i64 0,.bool false,.slice none 0 0,.slice none 0 0,.bool false,.int .i64 0] 57)
 have hz1 : (w.alloc (.cells #[.slice da dn dc,.int .i64 s.mt,.int .i64 s.mx,.int .i64 2,.slice qa qn qc,.int .i64 2,.bool false,.slice ua un uc,.slice oa on oc,.bool false,.int .i64 0] 57)).heap.size = w.heap.size + 1 := by simp
 have hz2 : ((w.alloc (.cells #[.slice da dn dc,.int .i64 s.mt,.int .i64 s.mx,.int .i64 2,.slice qa qn qc,.int .i64 2,.bool false,.slice ua un uc,.slice oa on oc,.bool false,.int .i64 0] 57)).alloc (.cells #[.int .i64 p.kd,.int .i64 p.ask,.int .u16 p.ha,.int .u16 p.la,.int .u64 p.hi,.int .u64 p.lo,.int .i64 p.of,.int .i64 p.mt,.int .i64 p.co,.bool p.cm,.slice pa pn pc,.slice ia ino ic] 49)).heap.size = w.heap.size + 2 := by simp
 rw [hz1] at bP
 rw [hz2] at bR
 clear hz1 hz2
 have HD0 := Lib.hid hdq.db
 have HRS := Lib.hid hrs
 have HCM := Lib.hid hCM
 have HQS := Lib.hid (And.intro hqs (And.intro hqsr (And.intro hqbv (And.intro hqsl hqo))))
 have HN := Lib.hid (And.intro hn hdk)
 clear hdq hqn hqs hqsr hqbv hqsl hqo hRS hCM hrs hn hdk
 go_enter Tryz.func52,Tryz.ntmps52
 go_upto_region 1 with fail
 generalize hX : World.alloc (World.alloc (World.alloc w _) _) _ = V at bS bP bR hB ⊢
 clear hX
 have m4 := bS.cell (j := 4) (v := .slice qa qn qc) rfl
 have z4 := bS.frozen 4
 go_upto_region 3 with fail
 have hg := set1 V ⟨w.heap.size,4,none⟩ (.slice none 0 0)
 have bS := bS.setAt (j := 4) (.slice none 0 0)
 have bP := bP.kept hg (fun e => by injection e with e; simp only at e; omega)
 have bR := bR.kept hg (fun e => by injection e with e; simp only at e; omega)
 have hB := hB.grown hg hB.size (fun k hk => by cases hk; exact Nat.le_refl _)
 generalize hX : World.setCell V _ _ = V2 at bS bP bR hB ⊢
 have bS : Blk V2 w.heap.size 57 [.slice da dn dc,.int .i64 s.mt,.int .i64 s.mx,.int .i64 2,.slice none 0 0,.int .i64 2,.bool false,.slice ua un uc,.slice oa on oc,.bool false,.int .i64 0] := bS
 clear hX hg m4 z4
 have n9 := bP.cell (j := 9) (v := .bool CM) (by rw [← HCM.out]; rfl)
 go_upto_region 4 with fail
 generalize hX : World.alloc V2 _ = V3
 obtain ⟨hnb,hB4,hz4⟩ := alloc_named hX
 have hlo := bR.lt
 obtain ⟨D,hDn⟩ : ∃ D,V2.heap.size = D := ⟨_,rfl⟩
 rw [hDn] at hnb hlo ⊢
 have bD : Blk V3 D 49 (pdc { pd0 with kd := 25 } (.slice none 0 0) (.slice none 0 0)) := hnb
 have bS := bS.below hB4
 have bP := bP.below hB4
 have bR := bR.below hB4
 have n9 := kc n9 hB4
 have hB := hB.trans (hB4.mono hB.size)
 clear hX hnb hB4 hz4 hDn
 cases CM with
 |false =>
  have hrs := HRS.out
  rw [if_neg (by decide)] at hrs
  subst hrs
  have hdq : DQ V3 (.slice da dn dc) (.slice none 0 0) s.db [] := ⟨HD0.out.below hB,QuR.nil _⟩
  have rgS := bS.range 0 [.slice da dn dc,.int .i64 s.mt,.int .i64 s.mx,.int .i64 2,.slice none 0 0,.int .i64 2,.bool false,.slice ua un uc,.slice oa on oc,.bool false,.int .i64 0] (fun j v hv => by rw [Nat.zero_add]; exact hv)
  have hth := bR.there 0 11 (by simp)
  have one : (#[.slice da dn dc,.int .i64 s.mt,.int .i64 s.mx,.int .i64 2,.slice none 0 0,.int .i64 2,.bool false,.slice ua un uc,.slice oa on oc,.bool false,.int .i64 0] : Array Value).all (·.oneCell') = true := by simp [Value.oneCell']
  clear HRS
  go_wp2_with (first | (refine wpList_load_mid rfl 57 _ rfl w.heap.size 0 rfl [.slice da dn dc,.int .i64 s.mt,.int .i64 s.mx,.int .i64 2,.slice none 0 0,.int .i64 2,.bool false,.slice ua un uc,.slice oa on oc,.bool false,.int .i64 0] _ rgS Tryz.underlying57 rfl (by kernel_rfl) ?_) | (refine wpList_store_mid rfl 57 _ _ rfl (w.heap.size + 2) 0 #[.slice da dn dc,.int .i64 s.mt,.int .i64 s.mx,.int .i64 2,.slice none 0 0,.int .i64 2,.bool false,.slice ua un uc,.slice oa on oc,.bool false,.int .i64 0] rfl rfl hth (by kernel_rfl) one ?_; simp only [Act.put]; generalize hW : World.setCells _ (w.heap.size + 2) 0 _ = w9; have HW := Lib.hid hW; clear hW))
  obtain ⟨hg9,bR9⟩ := put_namedB bR HW.out rfl
  have hn9 : Nox [.slice none 0 0,.int .i64 0,.int .i64 0,.int .i64 0,.slice none 0 0,.int .i64 0,.bool false,.slice none 0 0,.slice none 0 0,.bool false,.int .i64 0] := nox_code (by simp only [List.map_cons,List.map_nil,code]; decide) (by simp only [List.map_cons,List.map_nil,code]; decide) (by simp only [List.map_cons,List.map_nil,code]; decide) (by simp only [List.map_cons,List.map_nil,code]; decide) (by simp only [List.map_cons,List.map_nil,code]; decide)
  have hdq := hdq.kept hn9 bR hg9
  have bD := bD.kept hg9 (fun e => by injection e with e; omega)
  have hB := hB.grown hg9 hB.size (fun k hk => by cases hk; omega)
  have hl := run_loadVar_row (P := Tryz.prog) _ (w.heap.size + 2) 57 57 _ (0,0) _ bR9 Tryz.underlying57 rfl (by kernel_rfl)
  refine bodyPost_ret (v := .tuple #[.agg #[.slice da dn dc,.int .i64 s.mt,.int .i64 s.mx,.int .i64 2,.slice none 0 0,.int .i64 2,.bool false,.slice ua un uc,.slice oa on oc,.bool false,.int .i64 0],.slice (some ⟨D,0,none⟩) 1 1,.slice none 0 0]) (by rw [results_cell_tmp2 rfl]; simp [asAddr,hl] <;> rfl) rfl ⟨_,_,⟨_,rfl⟩,DQ.svv (s := { s with qu := [] }) hdq,⟨_,.slice none 0 0,.slice none 0 0,rfl,by omega,bD,BV.nil _,[],rfl,SR.nil _ 5,fun q hq => by cases hq⟩,hB⟩
 |true =>
  have hrs := HRS.out
  rw [if_pos rfl] at hrs
  replace HRS := Lib.hid hrs
  clear hrs
  have rgS := bS.range 0 [.slice da dn dc,.int .i64 s.mt,.int .i64 s.mx,.int .i64 2,.slice none 0 0,.int .i64 2,.bool false,.slice ua un uc,.slice oa on oc,.bool false,.int .i64 0] (fun j v hv => by rw [Nat.zero_add]; exact hv)
  have bX := Blk.new V3 57 [.slice none 0 0,.int .i64 0,.int .i64 0,.int .i64 0,.slice none 0 0,.int .i64 0,.bool false,.slice none 0 0,.slice none 0 0,.bool false,.int .i64 0]
  have hth := bX.there 0 11 (by simp)
  have one : (#[.slice da dn dc,.int .i64 s.mt,.int .i64 s.mx,.int .i64 2,.slice none 0 0,.int .i64 2,.bool false,.slice ua un uc,.slice oa on oc,.bool false,.int .i64 0] : Array Value).all (·.oneCell') = true := by simp [Value.oneCell']
  go_upto_region 7 with (first | (refine wpList_load_mid rfl 57 _ rfl w.heap.size 0 rfl [.slice da dn dc,.int .i64 s.mt,.int .i64 s.mx,.int .i64 2,.slice none 0 0,.int .i64 2,.bool false,.slice ua un uc,.slice oa on oc,.bool false,.int .i64 0] _ rgS Tryz.underlying57 rfl (by kernel_rfl) ?_) | (refine wpList_store_mid rfl 57 _ _ rfl V3.heap.size 0 #[.slice da dn dc,.int .i64 s.mt,.int .i64 s.mx,.int .i64 2,.slice none 0 0,.int .i64 2,.bool false,.slice ua un uc,.slice oa on oc,.bool false,.int .i64 0] rfl rfl hth (by kernel_rfl) one ?_; simp only [Act.put]; generalize hW : World.setCells _ V3.heap.size 0 _ = w2; have HW := Lib.hid hW; clear hW))
  obtain ⟨hg9,bT⟩ := put_namedB bX HW.out rfl
  have hA2 : Below V3.heap.size V3 w2 := ((Below.refl V3.heap.size V3).alloc (Nat.le_refl _) _).grown hg9 (by simp) (fun k hk => by cases hk; exact Nat.le_refl _)
  have hDT := bD.lt
  obtain ⟨T,hT⟩ : ∃ T,V3.heap.size = T := ⟨_,rfl⟩
  have hE0 : EX w w2 s p da dn dc ua un uc oa on oc pa pn pc ia ino ic T D s.db da dc (.slice none 0 0) 0 := ⟨bS.below hA2,bP.below hA2,bR.below hA2,by rw [← hT]; exact bT,bD.below hA2,by rw [← hT]; exact hDT,by omega,((HD0.out.below (hB.trans (hA2.mono hB.size))).dba).follows (fun k hk => by simp [Value.ownBlock] at hk),HN.out.2,HN.out.1,hB.trans (hA2.mono hB.size),[],rfl,own_nil0 w2 (w.heap.size + 3) 23 1⟩
  rw [hT]
  have HE0 := Lib.hid hE0
  clear hE0 bX hth one HW hg9 bT hA2 rgS bS bP bR bD hB n9 hT hlo hDT
  go_upto_region 9 with fail
  go_loopw [10,11] (fun wv kv wr => ∃ (k m : Nat) (db : List At) (ta : Option Addr) (tc : Nat) (ga : Option Addr) (gc : Nat),wv = .slice ga m gc ∧ kv = .int .i64 k ∧ k ≤ qn ∧ m ≤ k ∧ execD s.db (s.qu.take k) = .inl db ∧ EX w wr s p da dn dc ua un uc oa on oc pa pn pc ia ino ic T D db ta tc (.slice ga m gc) m) (fun _ kv _ => qn - (intOf kv).toNat)
  case atStart => exact ⟨0,0,s.db,da,dc,none,0,rfl,by simp,Nat.zero_le _,Nat.le_refl _,rfl,HE0.out⟩
  case round =>
   clear HE0
   obtain ⟨k,m,db,ta,tc,ga,gc,rfl,rfl,hk,hm,hex,hE⟩ := hrel
   have w1' : IntKind.i64.wrap ((k : Int) + 1) = (k : Int) + 1 := IntWalk.i64_in _ (by omega)
   by_cases hlt : k < qn
   rotate_left
   ·have ek : k = qn := by omega
    have g1 : decide (k < qn) = false := by simpa using hlt
    have g1i : decide ((k : Int) < (qn : Int)) = false := by simp; omega
    have hres : RS = ({ s with db := db,qu := [] },{ pd0 with kd := 25 }) := by
     have := HRS.out
     rw [ek,List.take_of_length_le (by rw [← HQS.out.1,List.length_map,HQS.out.2.2.2.1]; exact Nat.le_refl _)] at hex
     rw [hex] at this
     exact this
    subst hres
    have hdq : DQ wr (.slice ta dn tc) (.slice none 0 0) db [] := ⟨hE.dt.dbr,QuR.nil _⟩
    have bR := hE.bR
    have rgT := hE.bT.range 0 [.slice ta dn tc,.int .i64 s.mt,.int .i64 s.mx,.int .i64 2,.slice none 0 0,.int .i64 2,.bool false,.slice ua un uc,.slice oa on oc,.bool false,.int .i64 0] (fun j v hv => by rw [Nat.zero_add]; exact hv)
    have hth := bR.there 0 11 (by simp)
    have one : (#[.slice ta dn tc,.int .i64 s.mt,.int .i64 s.mx,.int .i64 2,.slice none 0 0,.int .i64 2,.bool false,.slice ua un uc,.slice oa on oc,.bool false,.int .i64 0] : Array Value).all (·.oneCell') = true := by simp [Value.oneCell']
    have hDlo := hE.hD
    clear HRS w1' ek hlt hex
    go_wp2_with (first | (refine wpList_load_mid rfl 57 _ rfl T 0 rfl [.slice ta dn tc,.int .i64 s.mt,.int .i64 s.mx,.int .i64 2,.slice none 0 0,.int .i64 2,.bool false,.slice ua un uc,.slice oa on oc,.bool false,.int .i64 0] _ rgT Tryz.underlying57 rfl (by kernel_rfl) ?_) | (refine wpList_store_mid rfl 57 _ _ rfl (w.heap.size + 2) 0 #[.slice ta dn tc,.int .i64 s.mt,.int .i64 s.mx,.int .i64 2,.slice none 0 0,.int .i64 2,.bool false,.slice ua un uc,.slice oa on oc,.bool false,.int .i64 0] rfl rfl hth (by kernel_rfl) one ?_; simp only [Act.put]; generalize hW : World.setCells _ (w.heap.size + 2) 0 _ = w9; have HW := Lib.hid hW; clear hW))
    obtain ⟨hg9,bR9⟩ := put_namedB bR HW.out rfl
    have hn9 : Nox [.slice none 0 0,.int .i64 0,.int .i64 0,.int .i64 0,.slice none 0 0,.int .i64 0,.bool false,.slice none 0 0,.slice none 0 0,.bool false,.int .i64 0] := nox_code (by simp only [List.map_cons,List.map_nil,code]; decide) (by simp only [List.map_cons,List.map_nil,code]; decide) (by simp only [List.map_cons,List.map_nil,code]; decide) (by simp only [List.map_cons,List.map_nil,code]; decide) (by simp only [List.map_cons,List.map_nil,code]; decide)
    have hdq := hdq.kept hn9 bR hg9
    have bD := hE.bD.kept hg9 (fun e => by injection e with e; omega)
    have hB := hE.hB.grown hg9 hE.hB.size (fun k hk => by cases hk; omega)
    have hl := run_loadVar_row (P := Tryz.prog) _ (w.heap.size + 2) 57 57 _ (0,0) _ bR9 Tryz.underlying57 rfl (by kernel_rfl)
    refine bodyPost_ret (v := .tuple #[.agg #[.slice ta dn tc,.int .i64 s.mt,.int .i64 s.mx,.int .i64 2,.slice none 0 0,.int .i64 2,.bool false,.slice ua un uc,.slice oa on oc,.bool false,.int .i64 0],.slice (some ⟨D,0,none⟩) 1 1,.slice ga m gc]) (by rw [results_cell_tmp2 rfl]; simp [asAddr,hl] <;> rfl) rfl ⟨_,_,⟨_,rfl⟩,DQ.svv (s := { s with db := db,qu := [] }) hdq,⟨_,.slice none 0 0,.slice none 0 0,rfl,by omega,bD,BV.nil _,[],rfl,SR.nil _ 5,fun q hq => by cases hq⟩,hB⟩
   ·have g1 : decide (k < qn) = true := by simpa using hlt
    have g1i : decide ((k : Int) < (qn : Int)) = true := by simp; omega
    obtain ⟨hqs,hqsr,hqbv,hqsl,hqo⟩ := HQS.out
    obtain ⟨qb,qo,qd,eqv,rows⟩ := sr_rows qenc qenc_len hqsr (by omega)
    rw [hqsl] at eqv
    cases eqv
    obtain ⟨q,hq⟩ : ∃ q,qs[k]? = some q := ⟨_,List.getElem?_eq_getElem (by omega)⟩
    have hqm := List.mem_of_getElem? hq
    have hxk : s.qu[k]? = some q.1 := by rw [← hqs,List.getElem?_map,hq]; rfl
    have hx := hqo _ (List.mem_of_getElem? hxk)
    have rgQ := range_keep (rows k q hq) hE.hB
    have hbvx := hqbv q hqm
    obtain ⟨x,xv⟩ := q
    simp only at hxk hx hbvx
    obtain ⟨xa,xc,rfl⟩ := hbvx.form
    obtain ⟨xn,hxn⟩ : ∃ n,x.vs.length = n := ⟨_,rfl⟩
    rw [hxn] at hbvx hx rgQ
    have rgQ : wr.rangeAt qb (qo + k * 3) [.int .u16 x.ha,.int .i64 x.of,.slice xa xn xc] := rgQ
    have HX := Lib.hid (And.intro hbvx (And.intro hxn hx))
    have HXK := Lib.hid hxk
    have HG := Lib.hid (And.intro hlt (And.intro hk hm))
    have hk0 : (0 : Int) ≤ (k : Int) := by omega
    have hk1 : (k : Int) < (qn : Int) := by omega
    have bX := Blk.new wr 147 [.int .u16 0,.int .i64 0,.slice none 0 0]
    have hth := bX.there 0 3 (by simp)
    have one : (#[.int .u16 x.ha,.int .i64 x.of,.slice xa xn xc] : Array Value).all (·.oneCell') = true := by simp [Value.oneCell']
    have hTl : Hid (T < wr.heap.size) := Lib.hid hE.bT.lt
    have hEl : w.heap.size + 3 ≤ wr.heap.size := by have h1 := hE.bT.lt; have h2 := hE.hT; have h3 := hE.hD; omega
    clear rows hqs hqsr hqbv hqsl hqo hq hqm hxk hx hbvx hxn hlt
    go_upto_region 12 with (first | (refine wpList_load_mid rfl 147 _ rfl qb (qo + k * 3) rfl [.int .u16 x.ha,.int .i64 x.of,.slice xa xn xc] _ rgQ Tryz.underlying147 rfl (by kernel_rfl) ?_) | (refine wpList_store_mid rfl 147 _ _ rfl wr.heap.size 0 #[.int .u16 x.ha,.int .i64 x.of,.slice xa xn xc] rfl rfl hth (by kernel_rfl) one ?_; simp only [Act.put]; generalize hW : World.setCells _ wr.heap.size 0 _ = w5; have HW := Lib.hid hW; clear hW))
    obtain ⟨hg9,bN⟩ := put_namedB bX HW.out rfl
    have hA5 : Below wr.heap.size wr w5 := ((Below.refl wr.heap.size wr).alloc (Nat.le_refl _) _).grown hg9 (by simp) (fun k hk => by cases hk; exact Nat.le_refl _)
    have hE5 := hE.below hA5
    clear bX hth one HW hg9 hA5 rgQ hE g1 g1i
    obtain ⟨XB,hXB⟩ : ∃ x,wr.heap.size = x := ⟨_,rfl⟩
    rw [hXB] at bN hEl hTl ⊢
    clear hXB
    obtain ⟨KX,hKX⟩ : ∃ KX,findN db x.ha = KX := ⟨_,rfl⟩
    have hdbs := hE5.dt.dbr.dbs
    have HF := Lib.hid (find_any ta dn tc db x.ha w5 hdbs hE5.ln (by have := hE5.ok.n; rw [hE5.ln] at this; exact this))
    have mT := hE5.bT.cell (j := 0) (v := .slice ta dn tc) rfl
    have n0 := bN.cell (j := 0) (v := .int .u16 x.ha) rfl
    have n1 := bN.cell (j := 1) (v := .int .i64 x.of) rfl
    have n2 := bN.cell (j := 2) (v := .slice xa xn xc) rfl
    by_cases hi : KX < dn
    rotate_left
    ·have hfi := fI_neg hKX (by rw [hE5.ln]; exact hi)
     rw [hfi] at HF
     have HNI := Lib.hid (And.intro hKX (And.intro hi hE5.ln))
     clear hdbs hKX hi hfi
     go_upto_region 13 with (go_at_call 10; refine HF.out.mono ?_; rintro e w6 ⟨rfl,rfl⟩)
     have hres : RS = ({ s with qu := [] },errP p x.ha 1) := by
      have := HRS.out
      rw [exec_from HXK.out hex] at this
      unfold execD at this
      rw [HNI.out.1,HNI.out.2.2,if_neg HNI.out.2.1] at this
      exact this
     subst hres
     clear HRS
     go_upto_region 14 with fail
     clear mT n0 n1 n2
     have hdq : DQ _ (.slice da dn dc) (.slice none 0 0) s.db [] := ⟨HD0.out.below hE5.hB,QuR.nil _⟩
     have bS := hE5.bS
     have bP := hE5.bP
     have bR := hE5.bR
     have hB := hE5.hB
     clear hE5
     have hdq := hdq.below (Below.refl _ _).drew
     have bS := bS.drew
     have bP := bP.drew
     have bR := bR.drew
     have hB := hB.drew
     have bN := bN.drew
     refine wp_region_held_drew (S := (fun W' : World => W'.rangeAt w.heap.size 0 [.slice da dn dc,.int .i64 s.mt,.int .i64 s.mx,.int .i64 2,.slice none 0 0,.int .i64 2,.bool false,.slice ua un uc,.slice oa on oc,.bool false,.int .i64 0] ∧ W'.rangeAt (w.heap.size + 1) 0 [.int .i64 p.kd,.int .i64 p.ask,.int .u16 p.ha,.int .u16 p.la,.int .u64 p.hi,.int .u64 p.lo,.int .i64 p.of,.int .i64 p.mt,.int .i64 p.co,.bool p.cm,.slice pa pn pc,.slice ia ino ic] ∧ W'.cell? ⟨XB,0,none⟩ = some (.int .u16 x.ha))) (by kernel_rfl) (⟨bS.range 0 _ (fun j v hv => by rw [Nat.zero_add]; exact hv),bP.range 0 _ (fun j v hv => by rw [Nat.zero_add]; exact hv),bN.cell (j := 0) (v := .int .u16 x.ha) rfl⟩) (fun hHeld => ?_)
     generalize World.drew _ = wd at hHeld bS bP bR bN hdq hB ⊢
     repeat' first
      |refine tkN 0 57 w.heap.size 0 [.slice da dn dc,.int .i64 s.mt,.int .i64 s.mx,.int .i64 2,.slice none 0 0,.int .i64 2,.bool false,.slice ua un uc,.slice oa on oc,.bool false,.int .i64 0] (fun _ h => h.1) Tryz.underlying57 ?_
      |refine tkN 1 49 (w.heap.size + 1) 0 [.int .i64 p.kd,.int .i64 p.ask,.int .u16 p.ha,.int .u16 p.la,.int .u64 p.hi,.int .u64 p.lo,.int .i64 p.of,.int .i64 p.mt,.int .i64 p.co,.bool p.cm,.slice pa pn pc,.slice ia ino ic] (fun _ h => h.2.1) Tryz.underlying49 ?_
      |refine tkU 2 ?_
      |refine tkU 3 ?_
      |refine tkU 6 ?_
      |refine tkU 7 ?_
      |(refine opn 4 fun K hK => ?_
        go_simp
        go_at_call 46
        refine (refuse_any p pa pn pc ia ino ic x.ha 1 _).mono ?_
        rintro e w3 ⟨v9,rfl,hA9,hC⟩
        have hR3 := bS.lt
        try (have hR3 := bR.lt)
        try (have hR3 := bR9.lt)
        have hdq := hdq.below hC
        have bS := bS.below hC
        have bP := bP.below hC
        try have bR := bR.below hC
        try have bR9 := bR9.below hC
        have bN := bN.below hC
        have hB := hB.trans (hC.mono hB.size)
        clear hC
        refine hK.out _ _ (⟨bS.range 0 _ (fun j v hv => by rw [Nat.zero_add]; exact hv),bP.range 0 _ (fun j v hv => by rw [Nat.zero_add]; exact hv),bN.cell (j := 0) (v := .int .u16 x.ha) rfl⟩) (fun h => ?_)
        replace hHeld := h
        clear hK K h
        try simp only [Act.put,List.setIfInBounds_toArray,List.set_cons_zero,List.set_cons_succ])
      |(refine opn 5 fun K hK => ?_
        refine step_store_mid (by rfl) 57 _ _ (by rfl) (w.heap.size + 2) 0 #[.slice da dn dc,.int .i64 s.mt,.int .i64 s.mx,.int .i64 2,.slice none 0 0,.int .i64 2,.bool false,.slice ua un uc,.slice oa on oc,.bool false,.int .i64 0] (by rfl) (by rfl) (bR.there 0 11 (by simp)) (by kernel_rfl) (by simp [Value.oneCell']) ?_
        generalize hX : World.setCells _ (w.heap.size + 2) 0 _ = w9
        obtain ⟨hg9,bR9⟩ := put_namedB bR hX rfl
        have hdq := hdq.kept (nox_code (by simp only [List.map_cons,List.map_nil,code]; decide) (by simp only [List.map_cons,List.map_nil,code]; decide) (by simp only [List.map_cons,List.map_nil,code]; decide) (by simp only [List.map_cons,List.map_nil,code]; decide) (by simp only [List.map_cons,List.map_nil,code]; decide)) bR hg9
        try have hA9 := hA9.kept (by omega) (nox_code (by simp only [List.map_cons,List.map_nil,code]; decide) (by simp only [List.map_cons,List.map_nil,code]; decide) (by simp only [List.map_cons,List.map_nil,code]; decide) (by simp only [List.map_cons,List.map_nil,code]; decide) (by simp only [List.map_cons,List.map_nil,code]; decide)) bR hg9
        have bS := bS.kept hg9 (fun e => by injection e with e; omega)
        have bP := bP.kept hg9 (fun e => by injection e with e; omega)
        have bN := bN.kept hg9 (fun e => by injection e with e; omega)
        have hB := hB.grown hg9 hB.size (fun k hk => by cases hk; omega)
        clear hX hg9 bR
        refine hK.out _ _ (⟨bS.range 0 _ (fun j v hv => by rw [Nat.zero_add]; exact hv),bP.range 0 _ (fun j v hv => by rw [Nat.zero_add]; exact hv),bN.cell (j := 0) (v := .int .u16 x.ha) rfl⟩) (fun h => ?_)
        replace hHeld := h
        clear hK K h
        try simp only [Act.put,List.setIfInBounds_toArray,List.set_cons_zero,List.set_cons_succ])
      |refine rd1 4 ?_
      |refine rd1 5 ?_
      |(refine wpAnyH_done (by kernel_rfl) ?_ _
        go_wp2_with fail
        have hl := run_loadVar_row (P := Tryz.prog) _ (w.heap.size + 2) 57 57 _ (0,0) _ bR9 Tryz.underlying57 rfl (by kernel_rfl)
        refine bodyPost_ret (v := .tuple #[.agg #[.slice da dn dc,.int .i64 s.mt,.int .i64 s.mx,.int .i64 2,.slice none 0 0,.int .i64 2,.bool false,.slice ua un uc,.slice oa on oc,.bool false,.int .i64 0],v9,.slice none 0 0]) (by rw [results_cell_tmp2 rfl]; simp [asAddr,hl] <;> rfl) rfl ⟨_,_,⟨_,rfl⟩,DQ.svv (s := { s with qu := [] }) hdq,hA9.mono (by omega),hB⟩)
    ·have hfi := fI_pos hKX (by rw [hE5.ln]; exact hi)
     rw [hfi] at HF
     obtain ⟨b,off,rfl,hb,hat⟩ := hdbs.at hE5.ln (by omega)
     obtain ⟨ra,rc,d0,-,-,-,d4,hcap,hby⟩ := hat KX hi
     have h512 := hE5.ok.len KX (by rw [hE5.ln]; exact hi)
     obtain ⟨bs,he⟩ : ∃ r,(atI db KX).bs = r := ⟨_,rfl⟩
     rw [he] at d4 hcap hby h512
     obtain ⟨L,hL⟩ : ∃ L,bs.length = L := ⟨_,rfl⟩
     rw [hL] at d4 hcap hby h512
     have HI := Lib.hid (And.intro hKX (And.intro hi (And.intro hE5.ln (And.intro he (And.intro hL (And.intro hcap h512))))))
     have HBY := Lib.hid hby
     have gk : decide ((KX : Int) < 0) = false := by simp
     have hi0' : (0 : Int) ≤ (KX : Int) := by omega
     have hi1' : (KX : Int) < (dn : Int) := by omega
     clear hdbs hKX hi hfi hat hcap hby h512 he hL
     go_upto_region 15 with (go_at_call 10; refine HF.out.mono ?_; rintro e w6 ⟨rfl,rfl⟩)
     have hbT : b ≠ T := fun e => by
      subst e
      rw [hE5.bT.at?] at d0
      have h := List.mem_of_getElem? d0
      simp at h
     obtain ⟨O,hO⟩ : ∃ O : Nat,x.of = (O : Int) := ⟨x.of.toNat,by have := HX.out.2.2.1; omega⟩
     have hdr := (Below.refl w5.heap.size w5).drew
     have hE5 := hE5.below hdr
     have bN := bN.below hdr
     have mT := kc mT hdr
     have n0 := kc n0 hdr
     have n1 := kc n1 hdr
     have n2 := kc n2 hdr
     have d4 := kc d4 hdr
     replace HBY := Lib.hid (HBY.out.below hdr)
     rw [hO] at n1
     have HO := Lib.hid (And.intro hO hbT)
     clear hdr d0 hO hbT
     refine wp_region_held_drew (S := (fun W' : World => W'.cell? ⟨XB,1,none⟩ = some (.int .i64 (O : Int)) ∧ W'.cell? ⟨T,0,none⟩ = some (.slice (some ⟨b,off,none⟩) dn tc) ∧ W'.cell? ⟨b,off + KX * 5 + 4,none⟩ = some (.slice ra L rc))) (by kernel_rfl) (⟨n1,mT,d4⟩) (fun hHeld => ?_)
     generalize World.drew _ = wd at hHeld hE5 bN mT n0 n1 n2 d4 HBY ⊢
     refine tkU 0 ?_
     refine tkU 1 ?_
     refine tkU 2 ?_
     refine tkU 3 ?_
     refine tkU 4 ?_
     refine tkU 5 ?_
     refine tkU 6 ?_
     refine tkU 7 ?_
     refine tkU 8 ?_
     refine tkU 9 ?_
     refine wpAnyH_done (by kernel_rfl) ?_ _
     clear hHeld
     by_cases h7 : L < O
     ·have g7 : decide (L < O) = true := by simpa using h7
      have g7i : decide ((L : Int) < (O : Int)) = true := by simp; omega
      have H7 : Hid ((L : Int) < x.of) := Lib.hid (by rw [HO.out.1]; omega)
      have hres : RS = ({ s with qu := [] },errP p x.ha 7) := by
       have := HRS.out
       rw [exec_from HXK.out hex] at this
       unfold execD at this
       rw [HI.out.1,HI.out.2.2.1,if_pos HI.out.2.1,HI.out.2.2.2.1,HI.out.2.2.2.2.1,if_pos H7.out] at this
       exact this
      subst hres
      clear HRS
      go_upto_region 16 with fail
      clear mT n0 n1 n2
      have hdq : DQ _ (.slice da dn dc) (.slice none 0 0) s.db [] := ⟨HD0.out.below hE5.hB,QuR.nil _⟩
      have bS := hE5.bS
      have bP := hE5.bP
      have bR := hE5.bR
      have hB := hE5.hB
      clear hE5
      have hdq := hdq.below (Below.refl _ _).drew
      have bS := bS.drew
      have bP := bP.drew
      have bR := bR.drew
      have hB := hB.drew
      have bN := bN.drew
      refine wp_region_held_drew (S := (fun W' : World => W'.rangeAt w.heap.size 0 [.slice da dn dc,.int .i64 s.mt,.int .i64 s.mx,.int .i64 2,.slice none 0 0,.int .i64 2,.bool false,.slice ua un uc,.slice oa on oc,.bool false,.int .i64 0] ∧ W'.rangeAt (w.heap.size + 1) 0 [.int .i64 p.kd,.int .i64 p.ask,.int .u16 p.ha,.int .u16 p.la,.int .u64 p.hi,.int .u64 p.lo,.int .i64 p.of,.int .i64 p.mt,.int .i64 p.co,.bool p.cm,.slice pa pn pc,.slice ia ino ic] ∧ W'.cell? ⟨XB,0,none⟩ = some (.int .u16 x.ha))) (by kernel_rfl) (⟨bS.range 0 _ (fun j v hv => by rw [Nat.zero_add]; exact hv),bP.range 0 _ (fun j v hv => by rw [Nat.zero_add]; exact hv),bN.cell (j := 0) (v := .int .u16 x.ha) rfl⟩) (fun hHeld => ?_)
      generalize World.drew _ = wd at hHeld bS bP bR bN hdq hB ⊢
      repeat' first
       |refine tkN 0 57 w.heap.size 0 [.slice da dn dc,.int .i64 s.mt,.int .i64 s.mx,.int .i64 2,.slice none 0 0,.int .i64 2,.bool false,.slice ua un uc,.slice oa on oc,.bool false,.int .i64 0] (fun _ h => h.1) Tryz.underlying57 ?_
       |refine tkN 1 49 (w.heap.size + 1) 0 [.int .i64 p.kd,.int .i64 p.ask,.int .u16 p.ha,.int .u16 p.la,.int .u64 p.hi,.int .u64 p.lo,.int .i64 p.of,.int .i64 p.mt,.int .i64 p.co,.bool p.cm,.slice pa pn pc,.slice ia ino ic] (fun _ h => h.2.1) Tryz.underlying49 ?_
       |refine tkU 2 ?_
       |refine tkU 3 ?_
       |refine tkU 6 ?_
       |refine tkU 7 ?_
       |(refine opn 4 fun K hK => ?_
         go_simp
         go_at_call 46
         refine (refuse_any p pa pn pc ia ino ic x.ha 7 _).mono ?_
         rintro e w3 ⟨v9,rfl,hA9,hC⟩
         have hR3 := bS.lt
         try (have hR3 := bR.lt)
         try (have hR3 := bR9.lt)
         have hdq := hdq.below hC
         have bS := bS.below hC
         have bP := bP.below hC
         try have bR := bR.below hC
         try have bR9 := bR9.below hC
         have bN := bN.below hC
         have hB := hB.trans (hC.mono hB.size)
         clear hC
         refine hK.out _ _ (⟨bS.range 0 _ (fun j v hv => by rw [Nat.zero_add]; exact hv),bP.range 0 _ (fun j v hv => by rw [Nat.zero_add]; exact hv),bN.cell (j := 0) (v := .int .u16 x.ha) rfl⟩) (fun h => ?_)
         replace hHeld := h
         clear hK K h
         try simp only [Act.put,List.setIfInBounds_toArray,List.set_cons_zero,List.set_cons_succ])
       |(refine opn 5 fun K hK => ?_
         refine step_store_mid (by rfl) 57 _ _ (by rfl) (w.heap.size + 2) 0 #[.slice da dn dc,.int .i64 s.mt,.int .i64 s.mx,.int .i64 2,.slice none 0 0,.int .i64 2,.bool false,.slice ua un uc,.slice oa on oc,.bool false,.int .i64 0] (by rfl) (by rfl) (bR.there 0 11 (by simp)) (by kernel_rfl) (by simp [Value.oneCell']) ?_
         generalize hX : World.setCells _ (w.heap.size + 2) 0 _ = w9
         obtain ⟨hg9,bR9⟩ := put_namedB bR hX rfl
         have hdq := hdq.kept (nox_code (by simp only [List.map_cons,List.map_nil,code]; decide) (by simp only [List.map_cons,List.map_nil,code]; decide) (by simp only [List.map_cons,List.map_nil,code]; decide) (by simp only [List.map_cons,List.map_nil,code]; decide) (by simp only [List.map_cons,List.map_nil,code]; decide)) bR hg9
         try have hA9 := hA9.kept (by omega) (nox_code (by simp only [List.map_cons,List.map_nil,code]; decide) (by simp only [List.map_cons,List.map_nil,code]; decide) (by simp only [List.map_cons,List.map_nil,code]; decide) (by simp only [List.map_cons,List.map_nil,code]; decide) (by simp only [List.map_cons,List.map_nil,code]; decide)) bR hg9
         have bS := bS.kept hg9 (fun e => by injection e with e; omega)
         have bP := bP.kept hg9 (fun e => by injection e with e; omega)
         have bN := bN.kept hg9 (fun e => by injection e with e; omega)
         have hB := hB.grown hg9 hB.size (fun k hk => by cases hk; omega)
         clear hX hg9 bR
         refine hK.out _ _ (⟨bS.range 0 _ (fun j v hv => by rw [Nat.zero_add]; exact hv),bP.range 0 _ (fun j v hv => by rw [Nat.zero_add]; exact hv),bN.cell (j := 0) (v := .int .u16 x.ha) rfl⟩) (fun h => ?_)
         replace hHeld := h
         clear hK K h
         try simp only [Act.put,List.setIfInBounds_toArray,List.set_cons_zero,List.set_cons_succ])
       |refine rd1 4 ?_
       |refine rd1 5 ?_
       |(refine wpAnyH_done (by kernel_rfl) ?_ _
         go_wp2_with fail
         have hl := run_loadVar_row (P := Tryz.prog) _ (w.heap.size + 2) 57 57 _ (0,0) _ bR9 Tryz.underlying57 rfl (by kernel_rfl)
         refine bodyPost_ret (v := .tuple #[.agg #[.slice da dn dc,.int .i64 s.mt,.int .i64 s.mx,.int .i64 2,.slice none 0 0,.int .i64 2,.bool false,.slice ua un uc,.slice oa on oc,.bool false,.int .i64 0],v9,.slice none 0 0]) (by rw [results_cell_tmp2 rfl]; simp [asAddr,hl] <;> rfl) rfl ⟨_,_,⟨_,rfl⟩,DQ.svv (s := { s with qu := [] }) hdq,hA9.mono (by omega),hB⟩)
     ·have g7 : decide (L < O) = false := by simpa using h7
      have g7i : decide ((L : Int) < (O : Int)) = false := by simp; omega
      have H7 : Hid (¬ (L : Int) < x.of) := Lib.hid (by rw [HO.out.1]; omega)
      have hOL : O ≤ L := by omega
      have hxb := HX.out.2.2.2.2
      have h5b := HI.out.2.2.2.2.2.2
      obtain ⟨N5,hN5⟩ : ∃ x,O + xn = x := ⟨_,rfl⟩
      have HWO : Hid (wrap64 ((O : Int) + (xn : Int)) = (N5 : Int)) := Lib.hid (by unfold wrap64; omega)
      have HN5 := Lib.hid (And.intro hN5 hOL)
      clear hN5 hOL hxb h5b
      by_cases h13 : 512 < N5
      ·have g13 : decide (512 < N5) = true := by simpa using h13
       have g13i : decide ((512 : Int) < (N5 : Int)) = true := by simp; omega
       have hw13 : 512 < wrap64 ((O : Int) + (xn : Int)) := by rw [HWO.out]; omega
       have H13 : Hid (512 < x.of + x.vs.length) := Lib.hid (by rw [HO.out.1,HX.out.2.1]; have := HN5.out.1; omega)
       have hres : RS = ({ s with qu := [] },errP p x.ha 13) := by
        have := HRS.out
        rw [exec_from HXK.out hex] at this
        unfold execD at this
        rw [HI.out.1,HI.out.2.2.1,if_pos HI.out.2.1,HI.out.2.2.2.1,HI.out.2.2.2.2.1,if_neg H7.out,if_pos H13.out] at this
        exact this
       subst hres
       clear HRS
       go_upto_region 18 with fail
       clear mT n0 n1 n2
       have hdq : DQ _ (.slice da dn dc) (.slice none 0 0) s.db [] := ⟨HD0.out.below hE5.hB,QuR.nil _⟩
       have bS := hE5.bS
       have bP := hE5.bP
       have bR := hE5.bR
       have hB := hE5.hB
       clear hE5
       have hdq := hdq.below (Below.refl _ _).drew
       have bS := bS.drew
       have bP := bP.drew
       have bR := bR.drew
       have hB := hB.drew
       have bN := bN.drew
       refine wp_region_held_drew (S := (fun W' : World => W'.rangeAt w.heap.size 0 [.slice da dn dc,.int .i64 s.mt,.int .i64 s.mx,.int .i64 2,.slice none 0 0,.int .i64 2,.bool false,.slice ua un uc,.slice oa on oc,.bool false,.int .i64 0] ∧ W'.rangeAt (w.heap.size + 1) 0 [.int .i64 p.kd,.int .i64 p.ask,.int .u16 p.ha,.int .u16 p.la,.int .u64 p.hi,.int .u64 p.lo,.int .i64 p.of,.int .i64 p.mt,.int .i64 p.co,.bool p.cm,.slice pa pn pc,.slice ia ino ic] ∧ W'.cell? ⟨XB,0,none⟩ = some (.int .u16 x.ha))) (by kernel_rfl) (⟨bS.range 0 _ (fun j v hv => by rw [Nat.zero_add]; exact hv),bP.range 0 _ (fun j v hv => by rw [Nat.zero_add]; exact hv),bN.cell (j := 0) (v := .int .u16 x.ha) rfl⟩) (fun hHeld => ?_)
       generalize World.drew _ = wd at hHeld bS bP bR bN hdq hB ⊢
       repeat' first
        |refine tkN 0 57 w.heap.size 0 [.slice da dn dc,.int .i64 s.mt,.int .i64 s.mx,.int .i64 2,.slice none 0 0,.int .i64 2,.bool false,.slice ua un uc,.slice oa on oc,.bool false,.int .i64 0] (fun _ h => h.1) Tryz.underlying57 ?_
        |refine tkN 1 49 (w.heap.size + 1) 0 [.int .i64 p.kd,.int .i64 p.ask,.int .u16 p.ha,.int .u16 p.la,.int .u64 p.hi,.int .u64 p.lo,.int .i64 p.of,.int .i64 p.mt,.int .i64 p.co,.bool p.cm,.slice pa pn pc,.slice ia ino ic] (fun _ h => h.2.1) Tryz.underlying49 ?_
        |refine tkU 2 ?_
        |refine tkU 3 ?_
        |refine tkU 6 ?_
        |refine tkU 7 ?_
        |(refine opn 4 fun K hK => ?_
          go_simp
          go_at_call 46
          refine (refuse_any p pa pn pc ia ino ic x.ha 13 _).mono ?_
          rintro e w3 ⟨v9,rfl,hA9,hC⟩
          have hR3 := bS.lt
          try (have hR3 := bR.lt)
          try (have hR3 := bR9.lt)
          have hdq := hdq.below hC
          have bS := bS.below hC
          have bP := bP.below hC
          try have bR := bR.below hC
          try have bR9 := bR9.below hC
          have bN := bN.below hC
          have hB := hB.trans (hC.mono hB.size)
          clear hC
          refine hK.out _ _ (⟨bS.range 0 _ (fun j v hv => by rw [Nat.zero_add]; exact hv),bP.range 0 _ (fun j v hv => by rw [Nat.zero_add]; exact hv),bN.cell (j := 0) (v := .int .u16 x.ha) rfl⟩) (fun h => ?_)
          replace hHeld := h
          clear hK K h
          try simp only [Act.put,List.setIfInBounds_toArray,List.set_cons_zero,List.set_cons_succ])
        |(refine opn 5 fun K hK => ?_
          refine step_store_mid (by rfl) 57 _ _ (by rfl) (w.heap.size + 2) 0 #[.slice da dn dc,.int .i64 s.mt,.int .i64 s.mx,.int .i64 2,.slice none 0 0,.int .i64 2,.bool false,.slice ua un uc,.slice oa on oc,.bool false,.int .i64 0] (by rfl) (by rfl) (bR.there 0 11 (by simp)) (by kernel_rfl) (by simp [Value.oneCell']) ?_
          generalize hX : World.setCells _ (w.heap.size + 2) 0 _ = w9
          obtain ⟨hg9,bR9⟩ := put_namedB bR hX rfl
          have hdq := hdq.kept (nox_code (by simp only [List.map_cons,List.map_nil,code]; decide) (by simp only [List.map_cons,List.map_nil,code]; decide) (by simp only [List.map_cons,List.map_nil,code]; decide) (by simp only [List.map_cons,List.map_nil,code]; decide) (by simp only [List.map_cons,List.map_nil,code]; decide)) bR hg9
          try have hA9 := hA9.kept (by omega) (nox_code (by simp only [List.map_cons,List.map_nil,code]; decide) (by simp only [List.map_cons,List.map_nil,code]; decide) (by simp only [List.map_cons,List.map_nil,code]; decide) (by simp only [List.map_cons,List.map_nil,code]; decide) (by simp only [List.map_cons,List.map_nil,code]; decide)) bR hg9
          have bS := bS.kept hg9 (fun e => by injection e with e; omega)
          have bP := bP.kept hg9 (fun e => by injection e with e; omega)
          have bN := bN.kept hg9 (fun e => by injection e with e; omega)
          have hB := hB.grown hg9 hB.size (fun k hk => by cases hk; omega)
          clear hX hg9 bR
          refine hK.out _ _ (⟨bS.range 0 _ (fun j v hv => by rw [Nat.zero_add]; exact hv),bP.range 0 _ (fun j v hv => by rw [Nat.zero_add]; exact hv),bN.cell (j := 0) (v := .int .u16 x.ha) rfl⟩) (fun h => ?_)
          replace hHeld := h
          clear hK K h
          try simp only [Act.put,List.setIfInBounds_toArray,List.set_cons_zero,List.set_cons_succ])
        |refine rd1 4 ?_
        |refine rd1 5 ?_
        |(refine wpAnyH_done (by kernel_rfl) ?_ _
          go_wp2_with fail
          have hl := run_loadVar_row (P := Tryz.prog) _ (w.heap.size + 2) 57 57 _ (0,0) _ bR9 Tryz.underlying57 rfl (by kernel_rfl)
          refine bodyPost_ret (v := .tuple #[.agg #[.slice da dn dc,.int .i64 s.mt,.int .i64 s.mx,.int .i64 2,.slice none 0 0,.int .i64 2,.bool false,.slice ua un uc,.slice oa on oc,.bool false,.int .i64 0],v9,.slice none 0 0]) (by rw [results_cell_tmp2 rfl]; simp [asAddr,hl] <;> rfl) rfl ⟨_,_,⟨_,rfl⟩,DQ.svv (s := { s with qu := [] }) hdq,hA9.mono (by omega),hB⟩)
      ·have g13 : decide (512 < N5) = false := by simpa using h13
       have g13i : decide ((512 : Int) < (N5 : Int)) = false := by simp; omega
       have hw13 : ¬ 512 < wrap64 ((O : Int) + (xn : Int)) := by rw [HWO.out]; omega
       have H13 : Hid (¬ 512 < x.of + x.vs.length ∧ N5 ≤ 512) := Lib.hid (by rw [HO.out.1,HX.out.2.1]; have := HN5.out.1; omega)
       have hexn : execD s.db (s.qu.take (k + 1)) = .inl (putA db KX (bs.take O ++ x.vs)) := by
        rw [exec_next HXK.out hex]
        unfold execD
        rw [HI.out.1,HI.out.2.2.1,if_pos HI.out.2.1,HI.out.2.2.2.1,HI.out.2.2.2.2.1,if_neg H7.out,if_neg H13.out.1,HO.out.1,Int.toNat_natCast]
        rfl
       have HEX := Lib.hid hexn
       clear hexn hex HXK
       go_upto_region 19 with fail
       go_cut [] (fun wx => ∃ ta2 tc2,EX w wx s p da dn dc ua un uc oa on oc pa pn pc ia ino ic T D (putA db KX (bs.take O ++ x.vs)) ta2 tc2 (.slice ga m gc) m ∧ Blk wx XB 147 [.int .u16 x.ha,.int .i64 x.of,.slice xa xn xc])
       case first =>
        obtain ⟨hK9,hi9,hln9,-,hL,hcap,h512⟩ := HI.out
        have hdr := (Below.refl wd.heap.size wd).drew
        obtain ⟨a',hby',hrun⟩ := bytes_to _ ra L rc O bs (HBY.out.below hdr) hL hcap HN5.out.2
        have hOl : (bs.take O).length = O := by rw [List.length_take,hL]; have := HN5.out.2; omega
        have hsrA := hby'.1
        rw [hOl] at hsrA
        have hsrX := ((HX.out.1).below (hE5.hB.trans (hdr.mono hE5.hB.size))).sr
        rw [HX.out.2.1] at hsrX
        have hltb : ∀ y ∈ bs.take O ++ x.vs,y < 256 := fun y hy => by
         rcases List.mem_append.1 hy with h | h
         ·exact hby'.2.2 y h
         ·exact HX.out.1.lt y h
        have hlen5 : (bs.take O ++ x.vs).length = N5 := by rw [List.length_append,hOl,HX.out.2.1]; exact HN5.out.1
        have hbc5 : bcells (bs.take O ++ x.vs) = bcells (bs.take O) ++ bcells x.vs := by simp [bcells]
        have HL5 := Lib.hid (And.intro hltb (And.intro hlen5 (And.intro hbc5 (And.intro hK9 (And.intro hi9 (And.intro hln9 H13.out.2))))))
        have hEd := hE5.below hdr
        have bN := bN.below hdr
        have mT := kc mT hdr
        have n1 := kc n1 hdr
        have n2 := kc n2 hdr
        have d4 := kc d4 hdr
        have hTx : T < XB := hTl.out
        have hBd := Below.refl wd.drew.heap.size wd.drew
        have hO0 : (0 : Int) ≤ (O : Int) := by omega
        clear hL hcap h512 hby' hOl hltb hlen5 hbc5 hE5 n0 HBY hdr hw13 h7 h13 hK9 hi9 hln9 w1' g7 g7i g13 g13i gk
        refine wp_region_held_drew (S := (fun W' : World => W'.cell? ⟨XB,1,none⟩ = some (.int .i64 (O : Int)) ∧ W'.cell? ⟨XB,2,none⟩ = some (.slice xa xn xc) ∧ W'.cell? ⟨b,off + KX * 5 + 4,none⟩ = some (.slice ra L rc))) (by kernel_rfl) (⟨kc n1 hBd,kc n2 hBd,kc d4 hBd⟩) (fun hHeld => ?_)
        generalize World.drew _ = wd at hHeld hEd bN mT n1 n2 d4 hBd hsrA hsrX ⊢
        repeat' first
         |refine tkU 1 ?_
         |refine tkU 3 ?_
         |refine tkU 5 ?_
         |refine tkU 9 ?_
         |refine tkU 10 ?_
         |refine tkU 13 ?_
         |refine tkU 14 ?_
         |refine tkU 6 ?_
         |refine tkU 7 ?_
         |refine tkU 8 ?_
         |refine tkU 11 ?_
         |(refine opn 0 fun K hK => ?_
           refine step_load_mid (by rfl) 57 _ (by rfl) T 0 (by rfl) [.slice (some ⟨b,off,none⟩) dn tc,.int .i64 s.mt,.int .i64 s.mx,.int .i64 2,.slice none 0 0,.int .i64 2,.bool false,.slice ua un uc,.slice oa on oc,.bool false,.int .i64 0] _ ((hEd.below hBd).bT.range 0 _ (fun j v hv => by rw [Nat.zero_add]; exact hv)) Tryz.underlying57 rfl (by kernel_rfl) ?_
           refine hK.out _ _ (⟨kc n1 hBd,kc n2 hBd,kc d4 hBd⟩) (fun h => ?_)
           replace hHeld := h
           clear hK K h
           try simp only [Act.put,List.setIfInBounds_toArray,List.set_cons_zero,List.set_cons_succ])
         |(refine opn 2 fun K hK => ?_
           go_simp
           generalize hX : World.alloc _ (.cells _ 5) = w6
           have hzb : w6.ownsRow wd.heap.size 5 1 (.slice (some ⟨_,0,none⟩) 0 0) 0 [] := hX ▸ own_zero _ _ 1 wd.heap.size hBd.size
           obtain ⟨-,hBx,-⟩ := alloc_named hX
           have hBd := hBd.trans (hBx.mono hBd.size)
           clear mT
           have mT := (hEd.below hBd).bT.cell (j := 0) (v := .slice (some ⟨b,off,none⟩) dn tc) rfl
           clear hX hBx
           refine hK.out _ _ (⟨kc n1 hBd,kc n2 hBd,kc d4 hBd⟩) (fun h => ?_)
           replace hHeld := h
           clear hK K h
           try simp only [Act.put,List.setIfInBounds_toArray,List.set_cons_zero,List.set_cons_succ])
         |(refine opn 4 fun K hK => ?_
           go_simp
           refine hK.out _ _ (⟨kc n1 hBd,kc n2 hBd,kc d4 hBd⟩) (fun h => ?_)
           replace hHeld := h
           clear hK K h
           try simp only [Act.put,List.setIfInBounds_toArray,List.set_cons_zero,List.set_cons_succ])
         |(refine opn 12 fun K hK => ?_
           refine step_app_zero (by rfl) _ _ 27 (by rfl) wd.heap.size 5 j0 _ 1 1 Tryz.underlying27 hj0 hj1 hj2 hj3 rfl (by decide) _ (by rfl) hzb (.slice a' O rc) O (bcells (bs.take O)) (by rfl) (SR.below hsrA hBd) (by have := HN5.out; have := H13.out.2; omega) hBd.size ?_
           intro vb w7 hown hBx
           have hBd := hBd.trans (hBx.mono hBd.size)
           clear mT
           have mT := (hEd.below hBd).bT.cell (j := 0) (v := .slice (some ⟨b,off,none⟩) dn tc) rfl
           clear hBx hzb
           refine hK.out _ _ (⟨kc n1 hBd,kc n2 hBd,kc d4 hBd⟩) (fun h => ?_)
           replace hHeld := h
           clear hK K h
           try simp only [Act.put,List.setIfInBounds_toArray,List.set_cons_zero,List.set_cons_succ])
         |(refine opn 15 fun K hK => ?_
           refine step_app_own (by rfl) _ _ 27 (by rfl) wd.heap.size 5 j0 _ 1 1 Tryz.underlying27 hj0 hj1 hj2 hj3 rfl (by decide) vb O (bcells (bs.take O)) (by rfl) hown (.slice xa xn xc) xn (bcells x.vs) (by rfl) (SR.below hsrX hBd) (by have := HN5.out; have := H13.out.2; unfold maxLen; omega) (by have := HN5.out; have := H13.out.2; omega) hBd.size ?_
           intro vb2 w8 hown2 hg2
           have hBx : Below wd.heap.size _ w8 := own_low hown hg2 hBd.size
           obtain ⟨b5,c5,rfl⟩ := own_form hown2
           rw [HN5.out.1] at hown2 ⊢
           have hBd := hBd.trans hBx
           clear mT
           have mT := (hEd.below hBd).bT.cell (j := 0) (v := .slice (some ⟨b,off,none⟩) dn tc) rfl
           have hbv5 : BV w8 (.slice b5 N5 c5) (bs.take O ++ x.vs) := bv_of_own (by rw [HL5.out.2.1,HL5.out.2.2.1]; exact hown2) HL5.out.1 (by rw [HL5.out.2.1]; have := H13.out.2; omega)
           clear hBx hown hg2 hown2
           refine hK.out _ _ (⟨kc n1 hBd,kc n2 hBd,kc d4 hBd⟩) (fun h => ?_)
           replace hHeld := h
           clear hK K h
           try simp only [Act.put,List.setIfInBounds_toArray,List.set_cons_zero,List.set_cons_succ])
         |(refine opn 16 fun K hK => ?_
           go_simp
           have hEc := hEd.below hBd
           have hPU := vput_any { s with db := db,qu := [] } (some ⟨b,off,none⟩) dn tc none 0 0 ua un uc oa on oc KX b5 N5 c5 (bs.take O ++ x.vs) [(Value.slice ga m gc).ownBlock] w8 (fun k hk => by
            obtain ⟨_,_,ho⟩ := hEc.wr
            exact own_lt ho k (List.mem_singleton.1 hk).symm) hEc.dt hEc.ln (by have := hEc.ok.n; rw [hEc.ln] at this; exact this) HL5.out.2.2.2.2.1 hbv5 HL5.out.2.1 (by have := H13.out.2; omega)
           go_at_call 94
           refine hPU.mono ?_
           rintro e w9 ⟨a,c,rfl,hdb9,hC⟩
           have hBd := hBd.trans (hC.mono hBd.size)
           clear mT hPU hEc hC hbv5
           have mT := (hEd.below hBd).bT.cell (j := 0) (v := .slice (some ⟨b,off,none⟩) dn tc) rfl
           refine hK.out _ _ (⟨kc n1 hBd,kc n2 hBd,kc d4 hBd⟩) (fun h => ?_)
           replace hHeld := h
           clear hK K h
           try simp only [Act.put,List.setIfInBounds_toArray,List.set_cons_zero,List.set_cons_succ])
         |(refine opn 17 fun K hK => ?_
           refine step_store_mid (by rfl) 57 _ _ (by rfl) T 0 #[.slice a dn c,.int .i64 s.mt,.int .i64 s.mx,.int .i64 2,.slice none 0 0,.int .i64 2,.bool false,.slice ua un uc,.slice oa on oc,.bool false,.int .i64 0] (by rfl) (by rfl) ((hEd.below hBd).bT.there 0 11 (by simp)) (by kernel_rfl) (by simp [Value.oneCell']) ?_
           have hEc := hEd.below hBd
           generalize hX : World.setCells _ T 0 _ = w10
           obtain ⟨hg9,bT9⟩ := put_namedB hEc.bT hX rfl
           have hn9 : Nox [.slice (some ⟨b,off,none⟩) dn tc,.int .i64 s.mt,.int .i64 s.mx,.int .i64 2,.slice none 0 0,.int .i64 2,.bool false,.slice ua un uc,.slice oa on oc,.bool false,.int .i64 0] := nox_code (by simp only [List.map_cons,List.map_nil,code]; decide) (by simp only [List.map_cons,List.map_nil,code]; decide) (by simp only [List.map_cons,List.map_nil,code]; decide) (by simp only [List.map_cons,List.map_nil,code]; decide) (by simp only [List.map_cons,List.map_nil,code]; decide)
           have hD1 := hEc.hD
           have hT1 := hEc.hT
           have bN9 := (bN.below hBd).kept hg9 (fun e => by injection e with e; omega)
           have hd4 := kc d4 hBd
           have d49 := (World.cell?_of_block (a := ⟨b,off + KX * 5 + 4,none⟩) (hg9.block b (World.block_lt_of_cell? w9 ⟨b,off + KX * 5 + 4,none⟩ hd4) (fun e => HO.out.2 (by injection e with e)))).trans hd4
           have hE10 : EX w w10 s p da dn dc ua un uc oa on oc pa pn pc ia ino ic T D (putA db KX (bs.take O ++ x.vs)) a c (.slice ga m gc) m := by
            obtain ⟨xs,hx1,hx2⟩ := hEc.wr
            exact ⟨hEc.bS.kept hg9 (fun e => by injection e with e; omega),hEc.bP.kept hg9 (fun e => by injection e with e; omega),hEc.bR.kept hg9 (fun e => by injection e with e; omega),bT9,hEc.bD.kept hg9 (fun e => by injection e with e; omega),hT1,hD1,hdb9.kept hn9 hEc.bT hg9,hEc.ok.put (by rw [hEc.ln]; exact HL5.out.2.2.2.2.1) (by rw [HL5.out.2.1]; exact H13.out.2),by rw [putA_len]; exact hEc.ln,hEc.hB.grown hg9 hEc.hB.size (fun k hk => by cases hk; omega),xs,hx1,own_none hx2 hg9 (fun i hi e => blk_ne hEc.bT hx2 (by decide) (by rw [hi,e]))⟩
           clear hX hn9 hEc hdb9 hd4 bT9 mT
           refine hK.out _ _ (⟨by have h := bN9.cell (j := 1) (v := .int .i64 x.of) rfl; rw [HO.out.1] at h; exact h,bN9.cell (j := 2) (v := .slice xa xn xc) rfl,d49⟩) (fun h => ?_)
           replace hHeld := h
           clear hK K h
           try simp only [Act.put,List.setIfInBounds_toArray,List.set_cons_zero,List.set_cons_succ])
         |refine rd3 0 2 4 ?_ ?_ ?_
         |refine rd2 2 4 ?_ ?_
         |refine rd1 4 ?_
         |refine rd1 12 ?_
         |refine rd1 15 ?_
         |refine rd1 16 ?_
         |refine rd1 17 ?_
         |refine rd1 2 ?_
         |refine rd2 0 4 ?_ ?_
         |refine rd2 0 12 ?_ ?_
         |refine rd2 0 15 ?_ ?_
         |refine rd1 0 ?_
         |refine rd2 0 2 ?_ ?_
         |(refine wpAnyH_done (by kernel_rfl) ?_ _
           go_wp2_with fail
           go_meet
           exact ⟨_,_,hE10,bN9⟩)
       case rest =>
        obtain ⟨ta2,tc2,hE6,bN⟩ := hcut
        clear hE5 mT n0 n1 n2 d4 HBY hw13 h7 h13 g7 g7i g13 g13i gk hi0' hi1'
        go_upto_region 22 with fail
        go_loopw [14,15] (fun bv jv wr => ∃ (B : Bool) (n : Nat),bv = .bool B ∧ jv = .int .i64 n ∧ n ≤ m ∧ EX w wr s p da dn dc ua un uc oa on oc pa pn pc ia ino ic T D (putA db KX (bs.take O ++ x.vs)) ta2 tc2 (.slice ga m gc) m ∧ Blk wr XB 147 [.int .u16 x.ha,.int .i64 x.of,.slice xa xn xc]) (fun _ jv _ => m - (intOf jv).toNat)
        case atStart => exact ⟨false,0,rfl,by simp,Nat.zero_le _,hE6,bN⟩
        case round =>
         clear hE6 bN
         obtain ⟨B,n,rfl,rfl,hn,hE,bN⟩ := hrel
         have w2' : IntKind.i64.wrap ((n : Int) + 1) = (n : Int) + 1 := IntWalk.i64_in _ (by have := HG.out; omega)
         by_cases hnm : n < m
         ·have c1 : decide (n < m) = true := by simpa using hnm
          have c1i : decide ((n : Int) < (m : Int)) = true := by simp; omega
          obtain ⟨xs,hxs,hown⟩ := hE.wr
          obtain ⟨g,rfl⟩ : ∃ g,ga = some ⟨g,0,none⟩ := by
           rcases hown.2 with ⟨_,h2⟩ | ⟨g,cap,cur,h1,_⟩
           ·omega
           ·simp only [Value.slice.injEq] at h1
            exact ⟨g,h1.1⟩
          obtain ⟨y,hy⟩ : ∃ y,xs[n]? = some y := ⟨_,List.getElem?_eq_getElem (by omega)⟩
          have my : wr.cell? ⟨g,n,none⟩ = some (.int .u16 (y : Int)) := by
           rw [hown.cellAt n (by omega),List.getElem?_map,hy]
           rfl
          have n0 := bN.cell (j := 0) (v := .int .u16 x.ha) rfl
          have hn0 : (0 : Int) ≤ (n : Int) := by omega
          have hn1 : (n : Int) < (m : Int) := by omega
          obtain ⟨B2,hB2⟩ : ∃ b,((y : Int) == (x.ha : Int)) = b := ⟨_,rfl⟩
          have hB3 : (y == x.ha) = B2 := by
           rw [← hB2,Bool.eq_iff_iff]
           simp only [beq_iff_eq]
           constructor <;> intro h <;> omega
          clear hxs hown hy hnm
          go_upto_region 24 with fail
          have hdr := (Below.refl wr.heap.size wr).drew
          have hE := hE.below hdr
          have bN := bN.below hdr
          have my := kc my hdr
          have n0 := kc n0 hdr
          clear hdr
          cases B with
          |true =>
           refine wp_region_held_drew (S := (fun W' : World => W'.cell? ⟨g,n,none⟩ = some (.int .u16 (y : Int)) ∧ W'.cell? ⟨XB,0,none⟩ = some (.int .u16 x.ha))) (by kernel_rfl) (⟨my,n0⟩) (fun hHeld => ?_)
           generalize World.drew _ = wd at hHeld hE bN my n0 ⊢
           refine tkU 0 ?_
           refine tkU 1 ?_
           refine tkV 2 ?_
           refine tkV 3 ?_
           refine tkV 4 ?_
           refine tkV 5 ?_
           refine tkV 6 ?_
           refine tkV 7 ?_
           refine tkV 8 ?_
           refine tkU 9 ?_
           refine tkU 10 ?_
           refine wpAnyH_done (by kernel_rfl) ?_ _
           clear hHeld
           go_wp2
           go_roundw
           case rel => exact ⟨_,n + 1,rfl,by go_num,by omega,hE,bN⟩
           case measure => simp [intOf]; omega
          |false =>
           refine wp_region_held_drew (S := (fun W' : World => W'.cell? ⟨g,n,none⟩ = some (.int .u16 (y : Int)) ∧ W'.cell? ⟨XB,0,none⟩ = some (.int .u16 x.ha))) (by kernel_rfl) (⟨my,n0⟩) (fun hHeld => ?_)
           generalize World.drew _ = wd at hHeld hE bN my n0 ⊢
           refine tkU 0 ?_
           refine tkU 1 ?_
           refine tkU 2 ?_
           refine tkU 3 ?_
           refine tkU 4 ?_
           refine tkU 5 ?_
           refine tkU 6 ?_
           refine tkU 7 ?_
           refine tkU 8 ?_
           refine tkU 9 ?_
           refine tkU 10 ?_
           refine wpAnyH_done (by kernel_rfl) ?_ _
           clear hHeld
           go_wp2
           go_roundw
           case rel => exact ⟨_,n + 1,rfl,by go_num,by omega,hE,bN⟩
           case measure => simp [intOf]; omega
         ·have c1 : decide (n < m) = false := by simpa using hnm
          have c1i : decide ((n : Int) < (m : Int)) = false := by simp; omega
          cases B with
          |true =>
           go_wp2
           go_roundw
           case rel => exact ⟨k + 1,m,_,ta2,tc2,ga,gc,rfl,by go_num,by have := HG.out; omega,by have := HG.out; omega,HEX.out,hE⟩
           case measure => have := HG.out; simp [intOf]; omega
          |false =>
           obtain ⟨xs,hxs,hown⟩ := hE.wr
           have n0 := bN.cell (j := 0) (v := .int .u16 x.ha) rfl
           have hA := (Below.refl wr.heap.size wr).alloc (Nat.le_refl _) (.cells #[.int .u16 (x.ha : Int)] 23)
           have bL := Blk.new wr 23 [.int .u16 (x.ha : Int)]
           have hownA := own_below hown hA
           have hEA := hE.below hA
           have hszA : w.heap.size + 3 ≤ (wr.alloc (.cells #[.int .u16 (x.ha : Int)] 23)).heap.size := by have h1 := hEA.bD.lt; have h2 := hEA.hD; omega
           have hnews : ∀ (j : Nat) (u : Value),[Value.int .u16 (x.ha : Int)][j]? = some u → (wr.alloc (.cells #[.int .u16 (x.ha : Int)] 23)).cell? ((⟨wr.heap.size,0,none⟩ : Addr).add j) = some u := fun j u hj => by
            match j,hj with
            |0,hj => cases hj; exact bL.cell (j := 0) rfl
           have hone : ∀ u ∈ [Value.int .u16 (x.ha : Int)],u.oneCell' = true := fun u hu => by rw [List.mem_singleton.1 hu]; rfl
           have hm63 : m + 1 ≤ maxLen := by have := HG.out; unfold maxLen; omega
           have hmb : (m + 1) * 2 ≤ 140737488355328 := by have := HG.out; omega
           clear hE hown bN hA
           go_wp2_with (refine wpList_append_own_at (wr.alloc (.cells #[.int .u16 (x.ha : Int)] 23)) rfl _ _ 85 rfl (w.heap.size + 3) 23 i0 _ 1 2 Tryz.underlying85 hi0 hi1 hi2 hi3 rfl (by decide) (.slice ga m gc) m (xs.map fun (x : Nat) => Value.int .u16 (x : Int)) rfl hownA ⟨wr.heap.size,0,none⟩ 1 1 [.int .u16 (x.ha : Int)] rfl rfl hnews hone hm63 hmb hszA ?_; intro v7 w7 hown7 hg7 _ hd7; obtain ⟨ga',gc',rfl⟩ := own_form hown7)
           go_roundw
           case rel =>
            have hE7 : EX w w7 s p da dn dc ua un uc oa on oc pa pn pc ia ino ic T D (putA db KX (bs.take O ++ x.vs)) ta2 tc2 (.slice ga' (m + 1) gc') (m + 1) :=
             ⟨hEA.bS.kept hg7 (fun e => blk_ne hEA.bS hownA (by decide) e.symm),hEA.bP.kept hg7 (fun e => blk_ne hEA.bP hownA (by decide) e.symm),hEA.bR.kept hg7 (fun e => blk_ne hEA.bR hownA (by decide) e.symm),hEA.bT.kept hg7 (fun e => blk_ne hEA.bT hownA (by decide) e.symm),hEA.bD.kept hg7 (fun e => blk_ne hEA.bD hownA (by decide) e.symm),hEA.hT,hEA.hD,
              ((hEA.dt.follows (R' := [(Value.slice ga m gc).ownBlock,(Value.slice ga' (m + 1) gc').ownBlock]) (fun i hi => by
                rcases List.mem_cons.1 hi with h | h
                ·exact .inl (by rw [h]; simp)
                ·rw [List.mem_singleton] at h
                 rcases hd7 with h2 | h2
                 ·exact .inl (by rw [h,h2]; simp)
                 ·rw [h2] at h
                  injection h with h
                  exact .inr (by omega))).turned hg7 (fun i hi => .inl (by rw [← hi]; simp))).less (fun r hr => by simp at hr; simp [hr]),hEA.ok,hEA.ln,hEA.hB.grown hg7 hEA.hB.size (fun i hi => by have := (World.ownsRow.lt hownA i hi).1; omega),xs ++ [x.ha],by rw [List.length_append,hxs]; rfl,by rw [List.map_append]; exact hown7⟩
            exact ⟨k + 1,m + 1,_,ta2,tc2,ga',gc',rfl,by go_num,by have := HG.out; omega,by have := HG.out; omega,HEX.out,hE7⟩
           case measure => have := HG.out; simp [intOf]; omega
end Go.Proofs.YtldcihjddebciaaGreat
