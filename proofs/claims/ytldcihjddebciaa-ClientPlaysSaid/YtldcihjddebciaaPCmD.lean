/- client's reference: piece. -/
import Derived.Test.YtldcihjddebciaaPCmC
set_option linter.unusedSimpArgs false
set_option linter.unusedVariables false
set_option maxRecDepth 100000
set_option maxHeartbeats 4000000
namespace Go.Proofs.Ytldcihjddebciaa
open Go.RowKit
theorem results_cell1 {fn : Func} {p : Tmp} {ty : TypeId} (h : fn.results = #[.cell p ty]) (tmps : Array Value) (P : Program) (w : World) :
 (results fn tmps).run P w = ((asAddr (tmps.getD p undef)).run P w).andThen fun a w₁ => (loadVar ty a).run P w₁ := by
 simp only [results,h]
 simp [Sem.run_bind,Result.andThen]
theorem bytes_mid (w : World) (a : Option Addr) (n c i j : Nat) (bs : List Nat) (h : BytesAt w (.slice a n c) bs) (hn : bs.length = n) (hc : n ≤ c) (hij : i ≤ j) (hj : j ≤ n) :
 ∃ a' c',BytesAt w (.slice a' (j - i) c') ((bs.drop i).take (j - i)) ∧ ∀ W,(Instr.slice 23 (.slice a n c) (some (.int .i64 i)) (some (.int .i64 j)) none).run Try.prog W = .ok (.slice a' (j - i) c') W := by
 obtain ⟨⟨h1,h2,h3,ao,cap,e,hnil,hcell⟩,hr,hlt⟩ := h
 rw [hn] at h1 h2 hnil hcell e hr
 cases e
 have hl : ((bs.drop i).take (j - i)).length = j - i := by simp [hn]; omega
 have hbc : bcells ((bs.drop i).take (j - i)) = ((bcells bs).drop i).take (j - i) := by simp [bcells,List.map_drop,List.map_take]
 refine ⟨if c = i then a else a.map (·.add i),c - i,⟨⟨by rw [hl]; omega,by rw [hl,bcells_len,hl]; omega,bcells_one _,_,_,by rw [hl],?_,?_⟩,by rw [hl]; omega,fun x hx => hlt x (List.mem_of_mem_drop (List.mem_of_mem_take hx))⟩,fun W => ?_⟩
 ·intro e
  have ha : a = none := by
   by_cases hck : c = i
   ·rw [if_pos hck] at e; exact e
   ·rw [if_neg hck] at e; simpa using e
  obtain ⟨h01,h02⟩ := hnil ha
  rw [hl]
  omega
 ·intro h0
  rw [hl] at h0
  obtain ⟨b,off,rfl,hb,hcs⟩ := hcell (by omega)
  rw [if_neg (by omega)]
  refine ⟨b,off + i,by simp [addr_off],hb,fun q u hq => ?_⟩
  rw [hbc,List.getElem?_take] at hq
  split at hq
  ·rw [List.getElem?_drop] at hq
   rw [Nat.add_assoc]
   exact hcs (i + q) u hq
  ·cases hq
 ·have hu : Try.prog.underlying 23 = some (.slice (Try.prog.elem 23)) := by kernel_rfl
  rw [run_slice_lh (ht := hu) (kl := .i64) (kh := .i64) (l := (i : Int)) (h := (j : Int)) (h0 := by omega) (h1 := by omega) (h2 := by omega)]
  have hs : (sizeOf (Try.prog.elem 23)).run Try.prog W = .ok 1 W := by kernel_rfl
  rw [hs]
  have e1 : (i : Int).toNat = i := rfl
  have e2 : ((j : Int) - (i : Int)).toNat = j - i := by omega
  have e3 : ((c : Int) - (i : Int)).toNat = c - i := by omega
  simp [Result.andThen,sliced]
theorem bv_mid {w : World} {a : Option Addr} {n c i j : Nat} {bs : List Nat} (h : BV w (.slice a n c) bs) (hn : bs.length = n) (hij : i ≤ j) (hj : j ≤ n) :
 ∃ a' c',BytesAt w (.slice a' (j - i) c') ((bs.drop i).take (j - i)) ∧ ∀ W,(Instr.slice 23 (.slice a n c) (some (.int .i64 i)) (some (.int .i64 j)) none).run Try.prog W = .ok (.slice a' (j - i) c') W := by
 obtain ⟨a0,c0,e,hc,hby⟩ := h
 rw [hn] at e hc hby
 cases e
 exact bytes_mid w a n c i j bs hby hn hc hij hj
theorem tk_in (c : Cl) (k : Cv) (j : Nat) (v : Value) (hv : (tkc c.tk k.bv k.fv)[j]? = some v) : (k.cells c)[2 + j]? = some v := by
 have hj : j < 8 := (List.getElem?_eq_some_iff.1 hv).1
 match j,hj,hv with
 |0,_,hv => exact hv
 |1,_,hv => exact hv
 |2,_,hv => exact hv
 |3,_,hv => exact hv
 |4,_,hv => exact hv
 |5,_,hv => exact hv
 |6,_,hv => exact hv
 |7,_,hv => exact hv
theorem ad_in (c : Cl) (k : Cv) (j : Nat) (v : Value) (hv : (pdc c.ad k.ab k.ai)[j]? = some v) : (k.cells c)[10 + j]? = some v := by
 have hj : j < 12 := (List.getElem?_eq_some_iff.1 hv).1
 match j,hj,hv with
 |0,_,hv => exact hv
 |1,_,hv => exact hv
 |2,_,hv => exact hv
 |3,_,hv => exact hv
 |4,_,hv => exact hv
 |5,_,hv => exact hv
 |6,_,hv => exact hv
 |7,_,hv => exact hv
 |8,_,hv => exact hv
 |9,_,hv => exact hv
 |10,_,hv => exact hv
 |11,_,hv => exact hv
/-- an append to an empty literal, with the room of its result -/
theorem run_append_empty2 {P : Program} (w : World) (t ty e : TypeId) (i : TypeInfo) (z : Value) (size bytes : Nat) (ht : P.underlying t = some (.slice e)) (hi : P.info? e = some i) (hz : i.zero = some z)
 (hsize : i.size = size) (hby : i.bytes = bytes) (hzs : z.cells.size = size) (hsz : 0 < size) (g : Nat) (sv : Value) (m : Nat) (cs : List Value) (hsr : SR w sv m size cs) (hbytes : m * bytes ≤ 140737488355328) :
 ∃ a c w',(Builtin.append_ #[t,t] ty #[.slice (some ⟨g,0,none⟩) 0 0,sv]).run P w = .ok (.slice a m c) w' ∧ SR w' (.slice a m c) m size cs ∧ m ≤ c ∧ Below w.heap.size w w' ∧ ((Value.slice a m c).ownBlock = some g ∨ (Value.slice a m c).ownBlock = some w.heap.size) := by
 obtain ⟨hm,hl,h1,ao,cap,rfl,hnil,hc⟩ := hsr
 subst hsize
 subst hby
 by_cases h0 : m = 0
 ·subst h0
  have hcs : cs = [] := List.eq_nil_of_length_eq_zero (by simpa using hl)
  subst hcs
  have hld : ∀ (x : Addr),(loadCells x 0).run P w = .ok #[] w := fun x => by simpa using run_loadCells_list (P := P) w x [] (by simp)
  refine ⟨some ⟨g,0,none⟩,0,w,?_,⟨Nat.zero_le _,by simp,by simp,some ⟨g,0,none⟩,0,rfl,fun h => (by cases h),fun h => absurd h (by simp)⟩,Nat.le_refl _,Below.refl _ _,.inl (by simp [Value.ownBlock])⟩
  cases ao <;> simp [Builtin.append_,run_underlying ht,sizeOf,typeInfo,hi,Builtin.lenOf,Builtin.firstCells,hld,storeCells_no]
 ·obtain ⟨b,off,rfl,hlt,hcell⟩ := hc (by omega)
  have hr := run_append_grow (P := P) w t ty e i z ht hi hz ⟨g,0,none⟩ 0 0 [] (by simp) (by simp) ⟨b,off,none⟩ m cap cs hl (fun j v hj => by rw [addr_add]; exact hcell j v hj) (by omega) (by unfold maxLen at hm; omega) (growslice_fits (by omega) (by simpa using hbytes))
  simp only [Nat.zero_add] at hr
  refine ⟨_,_,_,hr,⟨hm,hl,h1,_,_,rfl,fun h => (by cases h),fun _ => ⟨w.heap.size,0,rfl,by simp,fun j u hj => ?_⟩⟩,grownCap_ge w _ _ _,((Below.refl w.heap.size w).drew).alloc (Nat.le_refl _) _,.inr (by simp [Value.ownBlock])⟩
  have := cellNew w.drew (#[] ++ cs.toArray ++ Builtin.zeroCells z.cells (grownCap w m 0 e - m)) e (0 + j) u (by
   rw [Nat.zero_add]
   have hjl := (List.getElem?_eq_some_iff.1 hj).1
   rw [Array.getElem?_append_left (by simpa using hjl)]
   simpa using hj)
  exact this
theorem step_app0 {P : Program} {w : World} {ops : Array Oper} {o : Oper} {a : Act} {K : Act → World → Prop} {Q : Exit → Act → World → Prop} {E : Prop} (hgd : o.guard = none) (s x : Operand) (t : TypeId)
 (ho : o.op = .call { callee := .builtin .append,args := #[s,x],argTypes := #[t,t] })
 (e : TypeId) (i : TypeInfo) (z : Value) (size bytes : Nat) (ht : P.underlying t = some (.slice e)) (hi : P.info? e = some i) (hz : i.zero = some z)
 (hsize : i.size = size) (hby : i.bytes = bytes) (hzs : z.cells.size = size) (hsz : 0 < size) (g : Nat) (hs : a.eval s = .slice (some ⟨g,0,none⟩) 0 0)
 (sv : Value) (m : Nat) (cs : List Value) (hx : a.eval x = sv) (hsr : SR w sv m size cs) (hbytes : m * bytes ≤ 140737488355328)
 (h : ∀ b c w',SR w' (.slice b m c) m size cs → m ≤ c → Below w.heap.size w w' → ((Value.slice b m c).ownBlock = some g ∨ (Value.slice b m c).ownBlock = some w.heap.size) → K (a.put o.dst (.slice b m c)) w') : if Region.wanted o (yielded ops a.tmps) = true then Oper.wp P o a w K Q else E := by
 have hw : Region.wanted o (yielded ops a.tmps) = true := by simp [Region.wanted,hgd]
 rw [if_pos hw]
 obtain ⟨b,c,w',hr,h1,h2,h3,h4⟩ := run_append_empty2 (P := P) w t o.type e i z size bytes ht hi hz hsize hby hzs hsz g sv m cs hsr hbytes
 unfold Oper.wp execOp
 simp only [ho,resolve,invoke,builtin,Sem.run_bind,Sem.run_pure,Result.andThen_ok,List.map_toArray,List.map_cons,List.map_nil,hs,hx,hr]
 exact h b c w' h1 h2 h3 h4
theorem wpList_app0 {P : Program} {w : World} {ops : Array Oper} {rest : List Oper} {o : Oper} {a : Act} {Q : Exit → Act → World → Prop} (hgd : o.guard = none) (s x : Operand) (t : TypeId)
 (ho : o.op = .call { callee := .builtin .append,args := #[s,x],argTypes := #[t,t] })
 (e : TypeId) (i : TypeInfo) (z : Value) (size bytes : Nat) (ht : P.underlying t = some (.slice e)) (hi : P.info? e = some i) (hz : i.zero = some z)
 (hsize : i.size = size) (hby : i.bytes = bytes) (hzs : z.cells.size = size) (hsz : 0 < size) (g : Nat) (hs : a.eval s = .slice (some ⟨g,0,none⟩) 0 0)
 (sv : Value) (m : Nat) (cs : List Value) (hx : a.eval x = sv) (hsr : SR w sv m size cs) (hbytes : m * bytes ≤ 140737488355328)
 (h : ∀ b c w',SR w' (.slice b m c) m size cs → m ≤ c → Below w.heap.size w w' → ((Value.slice b m c).ownBlock = some g ∨ (Value.slice b m c).ownBlock = some w.heap.size) → wpList P ops Q rest (a.put o.dst (.slice b m c)) w') : wpList P ops Q (o :: rest) a w := by
 refine wpList_plain hgd fun K hK => ?_
 obtain ⟨b,c,w',hr,h1,h2,h3,h4⟩ := run_append_empty2 (P := P) w t o.type e i z size bytes ht hi hz hsize hby hzs hsz g sv m cs hsr hbytes
 unfold Oper.wp execOp
 simp only [ho,resolve,invoke,builtin,Sem.run_bind,Sem.run_pure,Result.andThen_ok,List.map_toArray,List.map_cons,List.map_nil,hs,hx,hr]
 exact hK _ _ (h b c w' h1 h2 h3 h4)
/-- the bytes of such an append -/
theorem bd_new {w : World} {a : Option Addr} {m c g s : Nat} {bs : List Nat} {R : List (Option Nat)} (h : SR w (.slice a m c) m 1 (bcells bs)) (hl : bs.length = m) (hc : m ≤ c) (hm : m ≤ 1000000) (hb : ∀ x ∈ bs,x < 256) (ho : (Value.slice a m c).ownBlock = some g ∨ (Value.slice a m c).ownBlock = some s) (hg : some g ∉ R) (hs : some s ∉ R) : BD w R (.slice a m c) bs := by
 subst hl
 refine ⟨⟨a,c,rfl,hc,h,by unfold reachBytes; omega,hb⟩,.inr fun k hk hm => ?_⟩
 rcases ho with e | e
 ·rw [e] at hk; injection hk with hk; subst hk; exact hg hm
 ·rw [e] at hk; injection hk with hk; subst hk; exact hs hm
theorem BD.lt {w : World} {R : List (Option Nat)} {v : Value} {bs : List Nat} (h : BD w R v bs) : ∀ x ∈ bs,x < 256 := by
 obtain ⟨_,_,_,_,_,_,h⟩ := h.1
 exact h
theorem rpiece_any (c : Cl) (k : Cv) (R0 : List (Option Nat)) (O : Nat) (w : World) (hC : Cr w R0 c k) (hR0 : ∀ i,some i ∈ R0 → i < w.heap.size) (hO : c.tk.of = (O : Int)) (hOl : O ≤ c.tk.vs.length) (hm : c.tk.vs.length ≤ 1000000) :
 Calls Try.prog 80 #[.agg (k.cells c).toArray] w fun e w' => ∃ bv,e = .returned (.agg (pdc (pieceP c.mt c.tk) bv (.slice none 0 0)).toArray) ∧ BD w' R0 bv (pieceP c.mt c.tk).vs ∧ Below w.heap.size w w' := by
 obtain ⟨i0,hi0,hi1,hi2,hi3⟩ := info_parts Try.info_u8
 obtain ⟨R,hRs,hm0,hm1,hRl,hRR,B0,bR0,hB0,hV3⟩ := pro2 hC hR0 [.int .i64 0,.int .i64 0,.int .u16 0,.int .u16 0,.int .u64 0,.int .u64 0,.int .i64 0,.int .i64 0,.int .i64 0,.bool false,.slice none 0 0,.slice none 0 0] 32
 have HR0 := Lib.hid hR0
 have hbv := B0.cr.bv.1
 obtain ⟨a,cc,ev⟩ := hbv.form
 obtain ⟨L,hL⟩ : ∃ L,c.tk.vs.length = L := ⟨_,rfl⟩
 rw [hL] at ev hOl hm
 rw [ev] at hbv
 have hro : 0 ≤ roomI 22 c.mt := by unfold roomI mtuI; omega
 have hrb : roomI 22 c.mt ≤ 512 := by unfold roomI mtuI; omega
 obtain ⟨Rm,hR⟩ : ∃ Rm : Nat,roomI 22 c.mt = (Rm : Int) := ⟨(roomI 22 c.mt).toNat,by omega⟩
 have hRb : Rm ≤ 512 := by omega
 clear hro hrb
 obtain ⟨TO,hTO⟩ : ∃ T,min L (O + Rm) = T := ⟨_,rfl⟩
 obtain ⟨a1,c1,hby1,hrun1⟩ := bv_mid hbv hL (show O ≤ TO by omega) (show TO ≤ L by omega)
 obtain ⟨LL,hLL⟩ : ∃ x,TO - O = x := ⟨_,rfl⟩
 rw [hLL] at hby1 hrun1
 have hvs : (pieceP c.mt c.tk).vs = (c.tk.vs.drop O).take LL := by
  unfold pieceP roomN
  simp only [hO,hR,Int.toNat_natCast]
  by_cases h : O + Rm ≤ L
  ·rw [show LL = Rm by omega]
  ·rw [List.take_of_length_le (by rw [List.length_drop,hL]; omega),List.take_of_length_le (by rw [List.length_drop,hL]; omega)]
 have hlen : ((c.tk.vs.drop O).take LL).length = LL := by rw [List.length_take,List.length_drop,hL]; omega
 have hpc : ∀ v : Value,pdc (pieceP c.mt c.tk) v (.slice none 0 0) = [.int .i64 22,.int .i64 0,.int .u16 c.tk.ha,.int .u16 0,.int .u64 0,.int .u64 0,.int .i64 (O : Nat),.int .i64 0,.int .i64 0,.bool false,v,.slice none 0 0] := fun v => by
  unfold pieceP pdc pd0
  simp only [hO]
  rfl
 rw [hvs]
 simp only [hpc]
 obtain ⟨ds,hds⟩ : ∃ ds,(c.tk.vs.drop O).take LL = ds := ⟨_,rfl⟩
 rw [hds] at hby1 hlen ⊢
 have hroom := fun W => rroom_any 22 c.mt W
 simp only [hR] at hroom
 have HRM := Lib.hid hroom
 have HBY := Lib.hid hby1
 have HLEN := Lib.hid hlen
 have m0 := B0.blk.cell (j := 0) (v := .int .i64 c.mt) rfl
 have hOL : O ≤ L := hOl
 have hOb : O ≤ 1000000 := by omega
 obtain ⟨S,hS⟩ : ∃ S,O + Rm = S := ⟨_,rfl⟩
 have w1 : IntKind.i64.wrap ((O : Int) + (Rm : Int)) = (S : Int) := by rw [IntWalk.i64_in _ (by omega)]; omega
 have m5 : (if (S : Int) < (L : Int) then (S : Int) else (L : Int)) = (TO : Int) := by split <;> omega
 have m6 : (if S < L then (S : Int) else (L : Int)) = (TO : Int) := by split <;> omega
 have m7 : (if (L : Int) ≤ (S : Int) then (L : Int) else (S : Int)) = (TO : Int) := by split <;> omega
 have m8 : (if L ≤ S then (L : Int) else (S : Int)) = (TO : Int) := by split <;> omega
 have hn2 : LL ≤ 1000000 := by omega
 have HV3 := Lib.hid hV3
 have HEV := Lib.hid ev
 have HO := Lib.hid hO
 clear ev hO
 clear hC hRR hR0 hL hOl hm hR hRb hTO hLL hvs hpc hds hroom hby1 hlen hV3 hbv hOL hS
 go_enter Try.func80,Try.ntmps80
 go_upto_region 1 with fail
 generalize hX : World.alloc (World.alloc w _) _ = V at B0 bR0 hB0 HV3 HBY m0 ⊢
 clear hX
 have hrg := B0.blk.range 2 (tkc c.tk k.bv k.fv) (tk_in c k)
 have bT0 := Blk.new V 26 [.int .i64 0,.int .u16 0,.int .u16 0,.int .u16 0,.slice none 0 0,.int .i64 0,.slice none 0 0,.bool false]
 have hth := bT0.there 0 8 (by simp)
 have hone : (tkc c.tk k.bv k.fv).toArray.all (·.oneCell') = true := by
  obtain ⟨a1,c1,e1⟩ := B0.cr.bv.1.form
  obtain ⟨a2,c2,e2⟩ := B0.cr.fv.1.form
  simp [tkc,e1,e2,Value.oneCell']
 go_upto_region 2 with (first | (refine wpList_load_mid rfl 26 _ rfl w.heap.size 2 rfl (tkc c.tk k.bv k.fv) _ hrg Try.underlying26 rfl (by kernel_rfl) ?_) | (refine wpList_store_mid rfl 26 _ _ rfl V.heap.size 0 (tkc c.tk k.bv k.fv).toArray rfl rfl hth (by kernel_rfl) hone ?_; simp only [Act.put]; generalize hW : World.setCells _ V.heap.size 0 _ = V1; have HW := Lib.hid hW; clear hW))
 have bT1 := bT0.putAll (vs := tkc c.tk k.bv k.fv) rfl
 rw [show World.setCells _ V.heap.size 0 (tkc c.tk k.bv k.fv) = V1 from HW.out] at bT1
 have hg1 := setCells_grown V.heap.size (tkc c.tk k.bv k.fv) 0 (V.alloc (.cells #[.int .i64 0,.int .u16 0,.int .u16 0,.int .u16 0,.slice none 0 0,.int .i64 0,.slice none 0 0,.bool false] 26))
 rw [show World.setCells _ V.heap.size 0 (tkc c.tk k.bv k.fv) = V1 from HW.out] at hg1
 have hBV : Below V.heap.size V V1 := ((Below.refl V.heap.size V).alloc (Nat.le_refl _) _).grown hg1 (by simp) (fun k hk => by cases hk; exact Nat.le_refl _)
 have bR1 := bR0.below hBV
 have hB1 := hB0.trans (hBV.mono hB0.size)
 have m1 := kc m0 hBV
 have HBY1 := Lib.hid (HBY.out.below hBV)
 have hltR := bR1.lt
 obtain ⟨TB0,hTB0⟩ : ∃ x,V.heap.size = x := ⟨_,rfl⟩
 rw [hTB0] at bT1 hg1 hBV HV3 ⊢
 have hT : Blk V1 TB0 26 [.int .i64 c.tk.kd,.int .u16 c.tk.fi,.int .u16 c.tk.la,.int .u16 c.tk.ha,.slice a L cc,.int .i64 (O : Nat),k.fv,.bool c.tk.bad] := by
  have := bT1
  rw [tkc,HEV.out,HO.out] at this
  exact this
 have hTlt := hT.lt
 clear hrg hth hone HW bT0 m0 hTB0 hg1 hBV bT1 HBY
 have T1 : Cells V1 ((w.heap.size,0,.int .i64 c.mt) :: blk TB0 0 0 [.int .i64 c.tk.kd,.int .u16 c.tk.fi,.int .u16 c.tk.la,.int .u16 c.tk.ha,.slice a L cc,.int .i64 (O : Nat),k.fv,.bool c.tk.bad]) := ⟨m1,hT.cells⟩
 have T1d := T1.drew
 have hTd := hT.drew
 have bRd := bR1.drew
 have hBd := hB1.drew
 have HBYd := Lib.hid (HBY1.out.below (Below.refl _ V1).drew)
 clear m1 hT T1 bR1 hB1 HBY1
 refine wp_region_held_drew (S := (fun W' : World => Cells W' ((w.heap.size,0,.int .i64 c.mt) :: blk TB0 0 0 [.int .i64 c.tk.kd,.int .u16 c.tk.fi,.int .u16 c.tk.la,.int .u16 c.tk.ha,.slice a L cc,.int .i64 (O : Nat),k.fv,.bool c.tk.bad]))) (by kernel_rfl) (T1d) (fun hHeld => ?_)
 generalize World.drew _ = wd at hHeld T1d hTd bRd hBd HBYd hltR hTlt ⊢
 refine tkU 0 ?_
 refine tkU 1 ?_
 refine tkU 2 ?_
 refine tkU 3 ?_
 refine tkU 4 ?_
 refine tkU 5 ?_
 refine tkU 6 ?_
 refine rd1 7 fun K hK => ?_
 go_simp
 refine (HRM.out _).mono ?_
 rintro e w2 ⟨rfl,rfl⟩
 clear hHeld
 refine hK.out _ _ (T1d) (fun hHeld => ?_)
 clear hK K
 try simp only [Act.put,List.setIfInBounds_toArray,List.set_cons_zero,List.set_cons_succ]
 refine tkU 8 ?_
 refine tkU 9 ?_
 refine tkU 10 ?_
 refine wpAnyH_done (by kernel_rfl) ?_ _
 go_upto_region 3 with fail
 clear m5 m6 m7 m8 w1 hHeld T1d
 have T2 := hTd.cells.drew
 have hT2 := hTd.drew
 have bR2 := bRd.drew
 have hB2 := hBd.drew
 have HBY2 := Lib.hid (HBYd.out.below (Below.refl _ wd).drew)
 clear hTd bRd hBd HBYd
 refine wp_region_held_drew (S := (fun W' : World => Cells W' (blk TB0 0 0 [.int .i64 c.tk.kd,.int .u16 c.tk.fi,.int .u16 c.tk.la,.int .u16 c.tk.ha,.slice a L cc,.int .i64 (O : Nat),k.fv,.bool c.tk.bad]))) (by kernel_rfl) (T2) (fun hHeld => ?_)
 generalize World.drew _ = wd at hHeld T2 hT2 bR2 hB2 HBY2 ⊢
 refine tkU 0 ?_
 refine tkU 1 ?_
 refine tkU 2 ?_
 refine tkU 3 ?_
 refine tkU 5 ?_
 refine tkU 6 ?_
 refine tkU 7 ?_
 refine tkU 8 ?_
 refine tkU 9 ?_
 refine tkU 10 ?_
 refine rd1 4 fun K hK => ?_
 go_simp
 generalize hX : World.alloc _ (.cells _ 5) = w3
 obtain ⟨_,hB3a,hz3⟩ := alloc_named hX
 have hltT := hT2.lt
 have hT3 := hT2.below hB3a
 have bR3 := bR2.below hB3a
 have hB3 := hB2.trans (hB3a.mono hB2.size)
 have hby3 := HBY2.out.below hB3a
 have hsr := hby3.1
 rw [HLEN.out] at hsr
 have hgn : w.heap.size + 3 ≤ wd.heap.size := by have := HV3.out; omega
 have hgn3 : w.heap.size + 3 ≤ w3.heap.size := by omega
 clear hX hB3a T2 hT2 bR2 hB2 HBY2 hz3
 clear hHeld
 refine hK.out _ _ (hT3.cells) (fun hHeld => ?_)
 clear hK K
 try simp only [Act.put,List.setIfInBounds_toArray,List.set_cons_zero,List.set_cons_succ]
 refine rd1 11 fun K hK => ?_
 refine step_app0 (by rfl) _ _ 23 (by rfl) 5 i0 _ 1 1 Try.underlying23 hi0 hi1 hi2 hi3 rfl (by decide) _ (by rfl) (.slice a1 LL c1) LL (bcells ds) (by rfl) hsr (by omega) ?_
 intro b4 c4 w4 hsr4 hc4 hB4 ho4
 have hbd : BD w4 R (.slice b4 LL c4) ds := bd_new hsr4 HLEN.out hc4 hn2 hby3.2.2 ho4 (fun hm => by have := hRl _ hm; omega) (fun hm => by have := hRl _ hm; omega)
 have hT4 := hT3.below hB4
 have bR4 := bR3.below hB4
 have hB4' := hB3.trans (hB4.mono hB3.size)
 clear hsr4 hc4 hB4 ho4 hsr hby3 hT3 bR3 hB3
 clear hHeld
 refine hK.out _ _ (hT4.cells) (fun hHeld => ?_)
 clear hK K
 try simp only [Act.put,List.setIfInBounds_toArray,List.set_cons_zero,List.set_cons_succ]
 refine tkU 12 ?_
 refine rd1 13 fun K hK => ?_
 refine step_store_mid (by rfl) 32 _ _ (by rfl) (w.heap.size + 1) 0 #[.int .i64 22,.int .i64 0,.int .u16 c.tk.ha,.int .u16 0,.int .u64 0,.int .u64 0,.int .i64 (O : Nat),.int .i64 0,.int .i64 0,.bool false,.slice b4 LL c4,.slice none 0 0] (by rfl) (by rfl) (bR4.there 0 12 (by simp)) (by kernel_rfl) (by simp [Value.oneCell']) ?_
 generalize hY : World.setCells _ (w.heap.size + 1) 0 _ = w5
 have bR5 : Blk w5 (w.heap.size + 1) 32 [.int .i64 22,.int .i64 0,.int .u16 c.tk.ha,.int .u16 0,.int .u64 0,.int .u64 0,.int .i64 (O : Nat),.int .i64 0,.int .i64 0,.bool false,.slice b4 LL c4,.slice none 0 0] := hY ▸ bR4.putAll rfl
 have hg5 := hY ▸ setCells_grown (w.heap.size + 1) [.int .i64 22,.int .i64 0,.int .u16 c.tk.ha,.int .u16 0,.int .u64 0,.int .u64 0,.int .i64 (O : Nat),.int .i64 0,.int .i64 0,.bool false,.slice b4 LL c4,.slice none 0 0] 0 w4
 have hB5 := hB4'.grown hg5 (by have := bR4.lt; omega) (fun k hk => by cases hk; omega)
 have hbd5 := hbd.turned hg5 (fun k hk => .inl (by rw [← hk]; exact hm1))
 have hT5 := hT4.kept hg5 (fun e => by injection e with e; have := HV3.out; omega)
 clear hY hg5 hbd bR4 hB4' hT4
 clear hHeld
 refine hK.out _ _ (hT5.cells) (fun hHeld => ?_)
 clear hK K
 try simp only [Act.put,List.setIfInBounds_toArray,List.set_cons_zero,List.set_cons_succ]
 refine wpAnyH_done (by kernel_rfl) ?_ _
 go_wp2_with fail
 have hl := run_loadVar_row (P := Try.prog) _ (w.heap.size + 1) 32 32 _ (0,0) _ bR5 Try.underlying32 rfl (by kernel_rfl)
 exact bodyPost_ret (v := .agg #[.int .i64 22,.int .i64 0,.int .u16 c.tk.ha,.int .u16 0,.int .u64 0,.int .u64 0,.int .i64 (O : Nat),.int .i64 0,.int .i64 0,.bool false,.slice b4 LL c4,.slice none 0 0]) (by rw [results_cell1 rfl]; simp [asAddr,hl]) rfl ⟨_,rfl,hbd5.less hRs,hB5⟩
end Go.Proofs.Ytldcihjddebciaa
