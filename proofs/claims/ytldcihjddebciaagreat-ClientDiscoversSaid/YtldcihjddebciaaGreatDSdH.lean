/- server: small functions of its reference. -/
import Derived.Test.YtldcihjddebciaaGreatDSdG
import Derived.Deep.MidRow
set_option linter.unusedSimpArgs false
set_option linter.unusedVariables false
set_option maxRecDepth 100000
set_option maxHeartbeats 4000000
namespace Go.Proofs.YtldcihjddebciaaGreat
open Go.RowKit
theorem bytes_mid (w : World) (a : Option Addr) (n c i j : Nat) (bs : List Nat) (h : BytesAt w (.slice a n c) bs) (hn : bs.length = n) (hc : n ≤ c) (hij : i ≤ j) (hj : j ≤ n) :
 ∃ a' c',BytesAt w (.slice a' (j - i) c') ((bs.drop i).take (j - i)) ∧ ∀ W,(Instr.slice 27 (.slice a n c) (some (.int .i64 i)) (some (.int .i64 j)) none).run Tryz.prog W = .ok (.slice a' (j - i) c') W := by
 obtain ⟨⟨h1,h2,h3,ao,cap,e,hnil,hcell⟩,hr,hlt⟩ := h
 rw [hn] at h1 h2 hnil hcell e hr
 cases e
 have hl : ((bs.drop i).take (j - i)).length = j - i := by simp [hn]; omega
 have hbc : bcells ((bs.drop i).take (j - i)) = ((bcells bs).drop i).take (j - i) := by simp [bcells,List.map_drop,List.map_take]
 refine ⟨if c = i then a else a.map (·.add i),c - i,⟨⟨by rw [hl]; omega,by rw [hl,bcells_len,hl]; omega,bcells_one _,_,_,by rw [hl],?_,?_⟩,by rw [hl]; omega,fun x hx => hlt x (List.mem_of_mem_drop (List.mem_of_mem_take hx))⟩,fun W => ?_⟩
 ·intro e
  have ha : a = none := by
   by_cases hck : c = i
   ·rw [if_pos hck] at e; exact e
   ·rw [if_neg hck] at e; simpa using e
  obtain ⟨h01,h02⟩ := hnil ha
  rw [hl]
  omega
 ·intro h0
  rw [hl] at h0
  obtain ⟨b,off,rfl,hb,hcs⟩ := hcell (by omega)
  rw [if_neg (by omega)]
  refine ⟨b,off + i,by simp [addr_off],hb,fun q u hq => ?_⟩
  rw [hbc,List.getElem?_take] at hq
  split at hq
  ·rw [List.getElem?_drop] at hq
   rw [Nat.add_assoc]
   exact hcs (i + q) u hq
  ·cases hq
 ·have hu : Tryz.prog.underlying 27 = some (.slice (Tryz.prog.elem 27)) := by kernel_rfl
  rw [run_slice_lh (ht := hu) (kl := .i64) (kh := .i64) (l := (i : Int)) (h := (j : Int)) (h0 := by omega) (h1 := by omega) (h2 := by omega)]
  have hs : (sizeOf (Tryz.prog.elem 27)).run Tryz.prog W = .ok 1 W := by kernel_rfl
  rw [hs]
  have e1 : (i : Int).toNat = i := rfl
  have e2 : ((j : Int) - (i : Int)).toNat = j - i := by omega
  have e3 : ((c : Int) - (i : Int)).toNat = c - i := by omega
  simp [Result.andThen,sliced]
/-- an append to an empty literal, with the room of its result -/
theorem run_append_empty2 {P : Program} (w : World) (t ty e : TypeId) (i : TypeInfo) (z : Value) (size bytes : Nat) (ht : P.underlying t = some (.slice e)) (hi : P.info? e = some i) (hz : i.zero = some z)
 (hsize : i.size = size) (hby : i.bytes = bytes) (hzs : z.cells.size = size) (hsz : 0 < size) (g : Nat) (sv : Value) (m : Nat) (cs : List Value) (hsr : SR w sv m size cs) (hbytes : m * bytes ≤ 140737488355328) :
 ∃ a c w',(Builtin.append_ #[t,t] ty #[.slice (some ⟨g,0,none⟩) 0 0,sv]).run P w = .ok (.slice a m c) w' ∧ SR w' (.slice a m c) m size cs ∧ m ≤ c ∧ Below w.heap.size w w' ∧ ((Value.slice a m c).ownBlock = some g ∨ (Value.slice a m c).ownBlock = some w.heap.size) := by
 obtain ⟨hm,hl,h1,ao,cap,rfl,hnil,hc⟩ := hsr
 subst hsize
 subst hby
 by_cases h0 : m = 0
 ·subst h0
  have hcs : cs = [] := List.eq_nil_of_length_eq_zero (by simpa using hl)
  subst hcs
  have hld : ∀ (x : Addr),(loadCells x 0).run P w = .ok #[] w := fun x => by simpa using run_loadCells_list (P := P) w x [] (by simp)
  refine ⟨some ⟨g,0,none⟩,0,w,?_,⟨Nat.zero_le _,by simp,by simp,some ⟨g,0,none⟩,0,rfl,fun h => (by cases h),fun h => absurd h (by simp)⟩,Nat.le_refl _,Below.refl _ _,.inl (by simp [Value.ownBlock])⟩
  cases ao <;> simp [Builtin.append_,run_underlying ht,sizeOf,typeInfo,hi,Builtin.lenOf,Builtin.firstCells,hld,storeCells_no]
 ·obtain ⟨b,off,rfl,hlt,hcell⟩ := hc (by omega)
  have hr := run_append_grow (P := P) w t ty e i z ht hi hz ⟨g,0,none⟩ 0 0 [] (by simp) (by simp) ⟨b,off,none⟩ m cap cs hl (fun j v hj => by rw [addr_add]; exact hcell j v hj) (by omega) (by unfold maxLen at hm; omega) (growslice_fits (by omega) (by simpa using hbytes))
  simp only [Nat.zero_add] at hr
  refine ⟨_,_,_,hr,⟨hm,hl,h1,_,_,rfl,fun h => (by cases h),fun _ => ⟨w.heap.size,0,rfl,by simp,fun j u hj => ?_⟩⟩,grownCap_ge w _ _ _,((Below.refl w.heap.size w).drew).alloc (Nat.le_refl _) _,.inr (by simp [Value.ownBlock])⟩
  have := cellNew w.drew (#[] ++ cs.toArray ++ Builtin.zeroCells z.cells (grownCap w m 0 e - m)) e (0 + j) u (by
   rw [Nat.zero_add]
   have hjl := (List.getElem?_eq_some_iff.1 hj).1
   rw [Array.getElem?_append_left (by simpa using hjl)]
   simpa using hj)
  exact this
theorem wpList_app0 {P : Program} {w : World} {ops : Array Oper} {rest : List Oper} {o : Oper} {a : Act} {Q : Exit → Act → World → Prop} (hgd : o.guard = none) (s x : Operand) (t : TypeId)
 (ho : o.op = .call { callee := .builtin .append,args := #[s,x],argTypes := #[t,t] })
 (e : TypeId) (i : TypeInfo) (z : Value) (size bytes : Nat) (ht : P.underlying t = some (.slice e)) (hi : P.info? e = some i) (hz : i.zero = some z)
 (hsize : i.size = size) (hby : i.bytes = bytes) (hzs : z.cells.size = size) (hsz : 0 < size) (g : Nat) (hs : a.eval s = .slice (some ⟨g,0,none⟩) 0 0)
 (sv : Value) (m : Nat) (cs : List Value) (hx : a.eval x = sv) (hsr : SR w sv m size cs) (hbytes : m * bytes ≤ 140737488355328)
 (h : ∀ b c w',SR w' (.slice b m c) m size cs → m ≤ c → Below w.heap.size w w' → ((Value.slice b m c).ownBlock = some g ∨ (Value.slice b m c).ownBlock = some w.heap.size) → wpList P ops Q rest (a.put o.dst (.slice b m c)) w') : wpList P ops Q (o :: rest) a w := by
 refine wpList_plain hgd fun K hK => ?_
 obtain ⟨b,c,w',hr,h1,h2,h3,h4⟩ := run_append_empty2 (P := P) w t o.type e i z size bytes ht hi hz hsize hby hzs hsz g sv m cs hsr hbytes
 unfold Oper.wp execOp
 simp only [ho,resolve,invoke,builtin,Sem.run_bind,Sem.run_pure,Result.andThen_ok,List.map_toArray,List.map_cons,List.map_nil,hs,hx,hr]
 exact hK _ _ (h b c w' h1 h2 h3 h4)
/-- an append of what is read to an empty row of one's own -/
theorem wpList_app_own0 {P : Program} {w : World} {ops : Array Oper} {rest : List Oper} {o : Oper} {a : Act} {Q : Exit → Act → World → Prop} (hgd : o.guard = none) (s x : Operand) (t : TypeId)
 (ho : o.op = .call { callee := .builtin .append,args := #[s,x],argTypes := #[t,t] })
 (base : Nat) (e : TypeId) (i : TypeInfo) (z : Value) (size bytes : Nat) (ht : P.underlying t = some (.slice e)) (hi : P.info? e = some i) (hz : i.zero = some z)
 (hsize : i.size = size) (hby : i.bytes = bytes) (hzs : z.cells.size = size) (hsz : 0 < size) (v : Value) (hs : a.eval s = v) (hown : w.ownsRow base e size v 0 [])
 (sv : Value) (m : Nat) (cs : List Value) (hx : a.eval x = sv) (hsr : SR w sv m size cs) (hbytes : m * bytes ≤ 140737488355328) (hbase : base ≤ w.heap.size)
 (h : ∀ v' w',w'.ownsRow base e size v' m cs → w.grownBy w' v.ownBlock → wpList P ops Q rest (a.put o.dst v') w') : wpList P ops Q (o :: rest) a w := by
 obtain ⟨hm,hl,h1,ao,cap,rfl,hnil,hc⟩ := hsr
 cases ao with
 |none =>
  obtain ⟨rfl,rfl⟩ := hnil rfl
  have hcs : cs = [] := List.eq_nil_of_length_eq_zero (by simpa using hl)
  subst hcs
  exact wpList_append_own_none hgd s x t ho base e i size ht hi v 0 [] hs hown hx (h v w hown (World.grownBy.refl w _))
 |some ad =>
  refine wpList_append_own_at w hgd s x t ho base e i z size bytes ht hi hz hsize hby hzs hsz v 0 [] hs hown ad m cap cs hx hl (fun j u hj => ?_) h1 (by omega) (by simpa using hbytes) hbase (fun v' w' h2 h3 _ _ => h v' w' (by simpa using h2) h3)
  have hj' := (List.getElem?_eq_some_iff.1 hj).1
  obtain ⟨b,off,e0,_,hcs⟩ := hc (by
   rcases Nat.eq_zero_or_pos m with h0 | h0
   ·subst h0; omega
   ·exact h0)
  cases e0
  rw [addr_add]
  exact hcs j u hj
theorem own_zero (w : World) (e size base : Nat) (hb : base ≤ w.heap.size) : (w.alloc (.cells #[] e)).ownsRow base e size (.slice (some ⟨w.heap.size,0,none⟩) 0 0) 0 [] :=
 ⟨by simp,.inr ⟨w.heap.size,0,#[],rfl,hb,heap_alloc_new w _,Nat.le_refl _,by unfold maxLen; omega,by simp,by simp⟩⟩
theorem Tryz.info_at : (Tryz.prog.info? 29).map (fun i => (i.zero,i.size,i.bytes)) = some (some (.agg #[.int .u16 0,.int .u64 0,.int .u64 0,.int .i64 0,.slice none 0 0]),5,56) := by kernel_rfl
theorem bytes_to (w : World) (a : Option Addr) (n c j : Nat) (bs : List Nat) (h : BytesAt w (.slice a n c) bs) (hn : bs.length = n) (hc : n ≤ c) (hj : j ≤ n) :
 ∃ a',BytesAt w (.slice a' j c) (bs.take j) ∧ ∀ W,(Instr.slice 27 (.slice a n c) none (some (.int .i64 j)) none).run Tryz.prog W = .ok (.slice a' j c) W := by
 obtain ⟨⟨h1,h2,h3,ao,cap,e,hnil,hcell⟩,hr,hlt⟩ := h
 rw [hn] at h1 h2 hnil hcell e hr
 cases e
 have hl : (bs.take j).length = j := by simp [hn]; omega
 have hbc : bcells (bs.take j) = (bcells bs).take j := by simp [bcells,List.map_take]
 refine ⟨if c = 0 then a else a.map (·.add 0),⟨⟨by rw [hl]; omega,by rw [hl,bcells_len,hl]; omega,bcells_one _,_,_,by rw [hl],?_,?_⟩,by rw [hl]; omega,fun x hx => hlt x (List.mem_of_mem_take hx)⟩,fun W => ?_⟩
 ·intro e
  have ha : a = none := by
   by_cases hck : c = 0
   ·rw [if_pos hck] at e; exact e
   ·rw [if_neg hck] at e; simpa using e
  obtain ⟨h01,h02⟩ := hnil ha
  rw [hl]
  omega
 ·intro h0
  rw [hl] at h0
  obtain ⟨b,off,rfl,hb,hcs⟩ := hcell (by omega)
  rw [if_neg (by omega)]
  refine ⟨b,off,by simp [addr_off],hb,fun q u hq => ?_⟩
  rw [hbc,List.getElem?_take] at hq
  split at hq
  ·exact hcs q u hq
  ·cases hq
 ·have hu : Tryz.prog.underlying 27 = some (.slice (Tryz.prog.elem 27)) := by kernel_rfl
  rw [run_slice_h (ht := hu) (kh := .i64) (h := (j : Int)) (h0 := by omega) (h2 := by omega)]
  have hs : (sizeOf (Tryz.prog.elem 27)).run Tryz.prog W = .ok 1 W := by kernel_rfl
  rw [hs]
  simp [Result.andThen,sliced]
/-- the kinds of requests that a reading or writing client sends -/
def Rk (k : Int) : Prop := k = 2 ∨ k = 4 ∨ k = 8 ∨ k = 10 ∨ k = 12 ∨ k = 16 ∨ k = 18 ∨ k = 22 ∨ k = 24
theorem Rk.ans {k : Int} (h : Rk k) : ansI k = k + 1 ∧ -9223372036854775808 ≤ k ∧ k ≤ 9223372036854775807 := by
 rcases h with rfl | rfl | rfl | rfl | rfl | rfl | rfl | rfl | rfl <;> exact ⟨rfl,by decide,by decide⟩
theorem isReq_any (k : Int) (hk : Rk k) (w : World) : Calls Tryz.prog 44 #[.int .i64 k] w fun e w' => e = .returned (.bool true) ∧ w = w' := by
 obtain ⟨ha,hb⟩ := hk.ans
 have hr := ranswer_any k hb w
 rw [ha] at hr
 have HR := Lib.hid hr
 have g1 : (k != 29) = true := by rcases hk with rfl | rfl | rfl | rfl | rfl | rfl | rfl | rfl | rfl <;> rfl
 have g2 : decide (0 ≤ k + 1) = true := by rcases hk with rfl | rfl | rfl | rfl | rfl | rfl | rfl | rfl | rfl <;> rfl
 clear ha hb hr hk
 go_enter Tryz.func44,Tryz.ntmps44
 go_wp2_with fail
 refine HR.out.mono ?_
 rintro e w2 ⟨rfl,rfl⟩
 go_wp2
 go_ret
 exact ⟨rfl,rfl⟩
theorem refuse_any (p : Pd) (pa : Option Addr) (pn pc : Nat) (ia : Option Addr) (ino ic : Nat) (H : Nat) (co : Int) (w : World) : Calls Tryz.prog 46 #[.agg #[.int .i64 p.kd,.int .i64 p.ask,.int .u16 p.ha,.int .u16 p.la,.int .u64 p.hi,.int .u64 p.lo,.int .i64 p.of,.int .i64 p.mt,.int .i64 p.co,.bool p.cm,.slice pa pn pc,.slice ia ino ic],.int .u16 (H : Nat),.int .i64 co] w fun e w' => ∃ v,e = .returned v ∧ AnsV w.heap.size w' v (errP p H co) [] ∧ Below w.heap.size w w' := by
 have bP := Blk.new w 49 [.int .i64 p.kd,.int .i64 p.ask,.int .u16 p.ha,.int .u16 p.la,.int .u64 p.hi,.int .u64 p.lo,.int .i64 p.of,.int .i64 p.mt,.int .i64 p.co,.bool p.cm,.slice pa pn pc,.slice ia ino ic]
 have hB := (Below.refl w.heap.size w).alloc (Nat.le_refl _) (.cells #[.int .i64 p.kd,.int .i64 p.ask,.int .u16 p.ha,.int .u16 p.la,.int .u64 p.hi,.int .u64 p.lo,.int .i64 p.of,.int .i64 p.mt,.int .i64 p.co,.bool p.cm,.slice pa pn pc,.slice ia ino ic] 49)
 go_enter Tryz.func46,Tryz.ntmps46
 go_upto_region 1 with fail
 generalize hX : World.alloc w _ = X at bP hB ⊢
 have m0 := bP.cell (j := 0) (v := .int .i64 p.kd) rfl
 clear hX
 go_wp2
 go_ret
 exact ⟨_,rfl,⟨_,.slice none 0 0,.slice none 0 0,rfl,hB.size,Blk.new X 49 (pdc (errP p H co) (.slice none 0 0) (.slice none 0 0)),BV.nil _,[],rfl,SR.nil _ 5,fun q hq => by cases hq⟩,hB.alloc hB.size _⟩
theorem is_h (hi lo : Int) (w : World) : Calls Tryz.prog 18 #[.agg #[.int .u64 hi,.int .u64 lo],.int .u16 11050] w fun e w' => e = .returned (.bool (isU 47459388624896 hi lo)) ∧ Below w.heap.size w w' := is_any hi lo 11050 (by decide) w
theorem isCf_any (ha hi lo pe : Int) (bv : Value) (w : World) : Calls Tryz.prog 90 #[.agg #[.int .u16 ha,.int .u64 hi,.int .u64 lo,.int .i64 pe,bv]] w fun e w' => e = .returned (.bool (isU 45088566677504 hi lo)) ∧ Below w.heap.size w w' := by
 have hb0 : Below w.heap.size w (w.alloc (.cells #[.int .u16 ha,.int .u64 hi,.int .u64 lo,.int .i64 pe,bv] 29)) := (Below.refl _ _).alloc (Nat.le_refl _) _
 obtain ⟨B,hB⟩ : ∃ B,isU 45088566677504 hi lo = B := ⟨_,rfl⟩
 have h1 := fun W => is_g hi lo W
 simp only [hB] at h1
 rw [hB]
 have H1 := Lib.hid h1
 clear h1 hB
 go_enter Tryz.func90,Tryz.ntmps90
 go_wp2_with fail
 refine (H1.out _).mono ?_
 rintro e w2 ⟨rfl,hB2⟩
 go_wp2
 go_ret
 exact ⟨rfl,hb0.trans (hB2.mono hb0.size)⟩
theorem plain_h {a : At} (h : plainA a) : isU 47459388624896 a.hi a.lo = false := by
 unfold isU
 rw [Bool.and_eq_false_iff]
 by_cases h1 : a.hi = 47459388624896
 ·by_cases h2 : a.lo = 9223372588214596859
  ·exact absurd ⟨h1,h2⟩ h.1
  ·exact .inr (beq_eq_false_iff_ne.2 h2)
 ·exact .inl (beq_eq_false_iff_ne.2 h1)
theorem plain_g {a : At} (h : plainA a) : isU 45088566677504 a.hi a.lo = false := by
 unfold isU
 rw [Bool.and_eq_false_iff]
 by_cases h1 : a.hi = 45088566677504
 ·by_cases h2 : a.lo = 9223372588214596859
  ·exact absurd ⟨h1,h2⟩ h.2
  ·exact .inr (beq_eq_false_iff_ne.2 h2)
 ·exact .inl (beq_eq_false_iff_ne.2 h1)
/-- the code that applies to an attribute -/
def accI (pe k : Int) : Int := if k = 1 then (if pe % 2 == 1 then 0 else 2) else if pe / 2 % 2 == 1 then 0 else 3
theorem bits_pe {pe : Int} (hp : 0 ≤ pe ∧ pe ≤ 15) : (bits .and .i64 pe 1 == 0) = !(pe % 2 == 1) ∧ (bits .and .i64 pe 2 == 0) = !(pe / 2 % 2 == 1) := by
 have h : pe = 0 ∨ pe = 1 ∨ pe = 2 ∨ pe = 3 ∨ pe = 4 ∨ pe = 5 ∨ pe = 6 ∨ pe = 7 ∨ pe = 8 ∨ pe = 9 ∨ pe = 10 ∨ pe = 11 ∨ pe = 12 ∨ pe = 13 ∨ pe = 14 ∨ pe = 15 := by omega
 rcases h with rfl | rfl | rfl | rfl | rfl | rfl | rfl | rfl | rfl | rfl | rfl | rfl | rfl | rfl | rfl | rfl <;> decide +kernel
theorem access_any (s : Ss) (da : Option Addr) (dn dc : Nat) (qa : Option Addr) (qn qc : Nat) (ua : Option Addr) (un uc : Nat) (oa : Option Addr) (on oc : Nat) (ha hi lo pe : Int) (ra : Option Addr) (L rc : Nat) (k : Int) (hk : k = 1 ∨ k = 2) (hp : 0 ≤ pe ∧ pe ≤ 15) (w : World) :
 Calls Tryz.prog 97 #[.agg #[.slice da dn dc,.int .i64 s.mt,.int .i64 s.mx,.int .i64 2,.slice qa qn qc,.int .i64 2,.bool false,.slice ua un uc,.slice oa on oc,.bool false,.int .i64 0],.agg #[.int .u16 ha,.int .u64 hi,.int .u64 lo,.int .i64 pe,.slice ra L rc],.int .i64 k] w fun e w' => e = .returned (.int .i64 (accI pe k)) ∧ Below w.heap.size w w' := by
 have bS := (Blk.new w 57 [.slice da dn dc,.int .i64 s.mt,.int .i64 s.mx,.int .i64 2,.slice qa qn qc,.int .i64 2,.bool false,.slice ua un uc,.slice oa on oc,.bool false,.int .i64 0]).alloc (.cells #[.int .u16 ha,.int .u64 hi,.int .u64 lo,.int .i64 pe,.slice ra L rc] 29)
 have bA := Blk.new (w.alloc (.cells #[.slice da dn dc,.int .i64 s.mt,.int .i64 s.mx,.int .i64 2,.slice qa qn qc,.int .i64 2,.bool false,.slice ua un uc,.slice oa on oc,.bool false,.int .i64 0] 57)) 29 [.int .u16 ha,.int .u64 hi,.int .u64 lo,.int .i64 pe,.slice ra L rc]
 have hB := ((Below.refl w.heap.size w).alloc (Nat.le_refl _) (.cells #[.slice da dn dc,.int .i64 s.mt,.int .i64 s.mx,.int .i64 2,.slice qa qn qc,.int .i64 2,.bool false,.slice ua un uc,.slice oa on oc,.bool false,.int .i64 0] 57)).alloc (by simp) (.cells #[.int .u16 ha,.int .u64 hi,.int .u64 lo,.int .i64 pe,.slice ra L rc] 29)
 have hz : (w.alloc (.cells #[.slice da dn dc,.int .i64 s.mt,.int .i64 s.mx,.int .i64 2,.slice qa qn qc,.int .i64 2,.bool false,.slice ua un uc,.slice oa on oc,.bool false,.int .i64 0] 57)).heap.size = w.heap.size + 1 := by simp
 rw [hz] at bA
 obtain ⟨q1,q2⟩ := bits_pe hp
 obtain ⟨R,hR⟩ : ∃ R,accI pe k = R := ⟨_,rfl⟩
 rw [hR]
 have hv : R = if k = 1 then (if pe % 2 == 1 then 0 else 2) else if pe / 2 % 2 == 1 then 0 else 3 := by rw [← hR]; rfl
 obtain ⟨X1,x1⟩ : ∃ x,bits .and .i64 pe 1 = x := ⟨_,rfl⟩
 obtain ⟨X2,x2⟩ : ∃ x,bits .and .i64 pe 2 = x := ⟨_,rfl⟩
 obtain ⟨X8,x8⟩ : ∃ x,bits .and .i64 pe 8 = x := ⟨_,rfl⟩
 obtain ⟨X4,x4⟩ : ∃ x,bits .and .i64 pe 4 = x := ⟨_,rfl⟩
 rw [x1] at q1
 rw [x2] at q2
 obtain ⟨B8,h8⟩ : ∃ B,(X8 != 0) = B := ⟨_,rfl⟩
 obtain ⟨B4,h4⟩ : ∃ B,(X4 != 0) = B := ⟨_,rfl⟩
 clear hz hR hp
 go_enter Tryz.func97,Tryz.ntmps97
 go_upto_region 1 with fail
 generalize hX : World.alloc (World.alloc w _) _ = X at bS bA hB ⊢
 have m3 := bS.cell (j := 3) (v := .int .i64 2) rfl
 have n3 := bA.cell (j := 3) (v := .int .i64 pe) rfl
 clear hX bS bA
 rcases hk with rfl | rfl
 ·rw [if_pos rfl] at hv
  cases hb : (pe % 2 == 1) with
  |false =>
   rw [hb] at q1 hv
   replace q1 : (X1 == 0) = true := q1
   replace hv : R = 2 := hv
   clear q2 h8 h4 hb
   subst hv
   go_wp2
   go_ret
   exact ⟨rfl,hB⟩
  |true =>
   rw [hb] at q1 hv
   replace q1 : (X1 == 0) = false := q1
   replace hv : R = 0 := hv
   clear q2 hb
   subst hv
   cases B8 <;> cases B4 <;> (go_wp2; go_ret; exact ⟨rfl,hB⟩)
 ·rw [if_neg (by decide)] at hv
  cases hb : (pe / 2 % 2 == 1) with
  |false =>
   rw [hb] at q2 hv
   replace q2 : (X2 == 0) = true := q2
   replace hv : R = 3 := hv
   clear q1 h8 h4 hb
   subst hv
   go_wp2
   go_ret
   exact ⟨rfl,hB⟩
  |true =>
   rw [hb] at q2 hv
   replace q2 : (X2 == 0) = false := q2
   replace hv : R = 0 := hv
   clear q1 hb
   subst hv
   cases B8 <;> cases B4 <;> (go_wp2; go_ret; exact ⟨rfl,hB⟩)
theorem shown_any (s : Ss) (da : Option Addr) (dn dc : Nat) (qa : Option Addr) (qn qc : Nat) (ua : Option Addr) (un uc : Nat) (oa : Option Addr) (on oc : Nat) (db : List At) (i : Nat) (w : World) (h : Dbs w (.slice da dn dc) db) (hn : db.length = dn) (hi : i < dn) (hp : plainA (atI db i)) :
 Calls Tryz.prog 99 #[.agg #[.slice da dn dc,.int .i64 s.mt,.int .i64 s.mx,.int .i64 2,.slice qa qn qc,.int .i64 2,.bool false,.slice ua un uc,.slice oa on oc,.bool false,.int .i64 0],.int .i64 i] w fun e w' => ∃ a c,e = .returned (.slice a (atI db i).bs.length c) ∧ BV w' (.slice a (atI db i).bs.length c) (atI db i).bs ∧ Below w.heap.size w w' := by
 obtain ⟨b,off,rfl,hb,hat⟩ := h.at hn (by omega)
 obtain ⟨ra,rc,d0,d1,d2,d3,d4,hcap,hby⟩ := hat i hi
 have h1 := plain_h hp
 have h2 := plain_g hp
 obtain ⟨⟨ha,hi',lo,pe,bs⟩,he⟩ : ∃ r,atI db i = r := ⟨_,rfl⟩
 rw [he] at d0 d1 d2 d3 d4 hby hcap h1 h2 ⊢
 simp only at d0 d1 d2 d3 d4 hby hcap h1 h2 ⊢
 obtain ⟨L,hL⟩ : ∃ L,bs.length = L := ⟨_,rfl⟩
 rw [hL] at d4 hby hcap ⊢
 have H1 := Lib.hid (fun W => is_h hi' lo W)
 have H2 := Lib.hid (fun W => isCf_any ha hi' lo pe (.slice ra L rc) W)
 simp only [h1,h2] at H1 H2
 have HV : Hid (BV w (.slice ra L rc) bs) := Lib.hid ⟨ra,rc,by rw [hL],by omega,by rw [hL]; exact hby⟩
 have hi0 : (0 : Int) ≤ (i : Int) := by omega
 have hi1 : (i : Int) < (dn : Int) := by omega
 have bS := Blk.new w 57 [.slice (some ⟨b,off,none⟩) dn dc,.int .i64 s.mt,.int .i64 s.mx,.int .i64 2,.slice qa qn qc,.int .i64 2,.bool false,.slice ua un uc,.slice oa on oc,.bool false,.int .i64 0]
 have hB := (Below.refl w.heap.size w).alloc (Nat.le_refl _) (.cells #[.slice (some ⟨b,off,none⟩) dn dc,.int .i64 s.mt,.int .i64 s.mx,.int .i64 2,.slice qa qn qc,.int .i64 2,.bool false,.slice ua un uc,.slice oa on oc,.bool false,.int .i64 0] 57)
 have DD := Lib.hid (And.intro d0 (And.intro d1 (And.intro d2 (And.intro d3 d4))))
 clear hat h he hL hby hcap hp h1 h2 d0 d1 d2 d3 d4 hn
 go_enter Tryz.func99,Tryz.ntmps99
 go_upto_region 1 with fail
 generalize hX : World.alloc w _ = X at bS hB ⊢
 have m0 := bS.cell (j := 0) (v := .slice (some ⟨b,off,none⟩) dn dc) rfl
 have d1 := kc DD.out.2.1 hB
 have d2 := kc DD.out.2.2.1 hB
 clear hX
 go_wp2_with fail
 refine (H1.out _).mono ?_
 rintro e w2 ⟨rfl,hC⟩
 have bS := bS.below hC
 have hB := hB.trans (hC.mono hB.size)
 clear hC m0 d1 d2
 have m0 := bS.cell (j := 0) (v := .slice (some ⟨b,off,none⟩) dn dc) rfl
 have d0 := kc DD.out.1 hB
 have d1 := kc DD.out.2.1 hB
 have d2 := kc DD.out.2.2.1 hB
 have d3 := kc DD.out.2.2.2.1 hB
 have d4 := kc DD.out.2.2.2.2 hB
 go_wp2_with fail
 refine (H2.out _).mono ?_
 rintro e w3 ⟨rfl,hC⟩
 have bS := bS.below hC
 have hB := hB.trans (hC.mono hB.size)
 clear hC m0 d0 d1 d2 d3 d4
 have m0 := bS.cell (j := 0) (v := .slice (some ⟨b,off,none⟩) dn dc) rfl
 have d4 := kc DD.out.2.2.2.2 hB
 go_wp2
 go_ret
 exact ⟨_,_,rfl,HV.out.below hB,hB⟩
end Go.Proofs.YtldcihjddebciaaGreat
