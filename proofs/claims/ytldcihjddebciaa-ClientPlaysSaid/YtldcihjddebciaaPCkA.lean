/- client: the reference's Check of a PDU (cut from the attpdu seat's walks). -/
import Derived.Test.YtldcihjddebciaaPClR
import Derived.Test.YtldcihjddebciaaPUuA
set_option linter.unusedSimpArgs false
set_option linter.unusedVariables false
set_option maxRecDepth 100000
set_option maxHeartbeats 4000000
namespace Go.Proofs.Ytldcihjddebciaa
open Go.RowKit
open Go.RowKit
theorem step_append_at {P : Program} {w : World} {ops : Array Oper} {o : Oper} {a : Act} {K : Act → World → Prop} {Q : Exit → Act → World → Prop} {E : Prop} (hgd : o.guard = none) (s x : Operand) (t : TypeId)
 (ho : o.op = .call { callee := .builtin .append,args := #[s,x],argTypes := #[t,t] })
 (base : Nat) (e : TypeId) (i : TypeInfo) (z : Value) (size bytes : Nat) (ht : P.underlying t = some (.slice e)) (hi : P.info? e = some i) (hz : i.zero = some z)
 (hsize : i.size = size) (hby : i.bytes = bytes) (hzs : z.cells.size = size) (hsz : 0 < size)
 (v : Value) (n : Nat) (xs : List Value) (hs : a.eval s = v) (hown : w.ownsRow base e size v n xs)
 (ad : Addr) (m c : Nat) (news : List Value) (hx : a.eval x = .slice (some ad) m c) (hl : news.length = m * size) (hnews : ∀ j u,news[j]? = some u → w.cell? (ad.add j) = some u) (h1 : ∀ u ∈ news,u.oneCell' = true)
 (h63 : n + m ≤ maxLen) (hbytes : (n + m) * bytes ≤ 140737488355328) (hbase : base ≤ w.heap.size)
 (h : ∀ v' w',w'.ownsRow base e size v' (n + m) (xs ++ news) → w.grownBy w' v.ownBlock → (v' = .slice none 0 0 → v = .slice none 0 0) → K (a.put o.dst v') w') :
 if Region.wanted o (yielded ops a.tmps) = true then Oper.wp P o a w K Q else E := by
 have hw : Region.wanted o (yielded ops a.tmps) = true := by simp [Region.wanted,hgd]
 rw [if_pos hw]
 obtain ⟨v',w',hr,h2,h3,h4,_⟩ := run_append_own_at (P := P) w base t o.type e i z size bytes ht hi hz hsize hby hzs hsz v n xs hown ad m c news hl hnews h1 h63 hbytes hbase
 unfold Oper.wp execOp
 simp only [ho,resolve,invoke,builtin,Sem.run_bind,Sem.run_pure,Result.andThen_ok,List.map_toArray,List.map_cons,List.map_nil,hs,hx,hr]
 exact h v' w' h2 h3 (fun e => (h4.1 e).1)
theorem own_news {w : World} {base e n cap : Nat} {g : Nat} {xs : List Value} (h : w.ownsRow base e 1 (.slice (some ⟨g,0,none⟩) n cap) n xs) (o : Nat) : ∀ j u,(xs.drop o)[j]? = some u → w.cell? ((⟨g,o,none⟩ : Addr).add j) = some u := by
 intro j u hj
 have ha : (⟨g,o,none⟩ : Addr).add j = ⟨g,o + j,none⟩ := by unfold Addr.add; split <;> simp_all
 rw [List.getElem?_drop] at hj
 have hl := (List.getElem?_eq_some_iff.1 hj).1
 rw [h.1] at hl
 rw [ha,h.cellAt (o + j) (by omega),hj]
theorem putB_b16 (hi lo : Nat) : putB lo 8 ++ putB hi 8 = b16 hi lo := rfl
/-- the bytes of a UUID -/
def encB (hi lo : Nat) : List Nat := if isShort hi lo then putB (numV hi) 2 else b16 hi lo
theorem encB_lt (hi lo : Nat) : ∀ x ∈ encB hi lo,x < 256 := by
 unfold encB
 split
 ·exact putB_lt _ _
 ·intro x hx
  rw [← putB_b16] at hx
  rcases List.mem_append.1 hx with h | h
  ·exact putB_lt _ _ x h
  ·exact putB_lt _ _ x h
theorem encB_len (hi lo : Nat) : (encB hi lo).length = if isShort hi lo then 2 else 16 := by
 unfold encB
 split
 ·exact putB_len _ _
 ·rw [← putB_b16,List.length_append,putB_len,putB_len]
theorem bytesAt_of_own {w : World} {base n : Nat} {v : Value} {bs : List Nat} (h : w.ownsRow base 5 1 v n (bcells bs)) (hl : bs.length = n) (hb : ∀ x ∈ bs,x < 256) (hm : n ≤ 1099511627776) : BytesAt w v bs := by
 subst hl
 exact ⟨SR.of_own h (bcells_one bs) (by unfold maxLen; omega),by unfold reachBytes; omega,hb⟩
theorem rencode_any (hi lo : Nat) (hh : hi < 18446744073709551616) (hl : lo < 18446744073709551616) (w : World) :
 Calls Try.prog 92 #[.agg #[.int .u64 hi,.int .u64 lo]] w fun e w' => ∃ v,e = .returned v ∧ BytesAt w' v (encB hi lo) ∧ Below w.heap.size w w' := by
 obtain ⟨i0,hi0,hz0,hz1,hz2⟩ := info_parts Try.info_u8
 have T := cells_new w [.int .u64 hi,.int .u64 lo] 29
 have hB := (Below.refl w.heap.size w).alloc (Nat.le_refl _) (.cells #[.int .u64 hi,.int .u64 lo] 29)
 have hnum := fun W => rnumber_any hi lo hh hl W
 obtain ⟨b,hb⟩ : ∃ b,isShort hi lo = b := ⟨_,rfl⟩
 have hn : numI hi lo = if b then (numV hi : Int) else 0 := by unfold numI; rw [hb]
 rw [hn,hb] at hnum
 have henc : encB hi lo = if b then putB (numV hi) 2 else b16 hi lo := by unfold encB; rw [hb]
 have HENC := Lib.hid henc
 have HNUM := Lib.hid hnum
 have HT := Lib.hid T
 have hnv : numV hi < 65536 := Nat.mod_lt _ (by decide)
 obtain ⟨N,hN⟩ : ∃ N,numV hi = N := ⟨_,rfl⟩
 rw [hN] at HENC HNUM hnv
 have LT := encB_lt hi lo
 have HLT := Lib.hid LT
 have hP1 := fun W => put_any lo 8 hl (by omega) W
 have hP2 := fun W => put_any hi 8 hh (by omega) W
 have HP1 := Lib.hid hP1
 have HP2 := Lib.hid hP2
 clear hnum hb hn henc T LT hh hl hN hP1 hP2
 cases b
 ·simp only [Bool.false_eq_true,if_false] at HENC HNUM
  go_enter Try.func92,Try.ntmps92
  go_wp2_with fail
  go_at_call 97
  refine (HNUM.out _).mono ?_
  rintro e w1 ⟨rfl,hB1⟩
  have T1 := HT.out.keep hB1
  have hBw1 := hB.trans (hB1.mono hB.size)
  clear hB1 hB
  go_upto_region 4 with fail
  refine wp_region_held_drew (S := (fun W' : World => Below w1.heap.size w1 W' ∧ w1.heap.size ≤ W'.heap.size ∧ Cells W' (blk w.heap.size 0 0 [.int .u64 hi,.int .u64 lo]))) (by kernel_rfl) (⟨(Below.refl _ _).drew,Nat.le_refl _,T1.drew⟩) (fun hHeld => ?_)
  generalize World.drew _ = wd at hHeld ⊢
  have hz := hHeld.2.1
  refine wpAnyH_take (i := 0) (oi := _) (v := ?_) (by rw [List.getElem?_toArray]; rfl) (by kernel_rfl) (by kernel_rfl) (by kernel_rfl) (by exact fun _ _ _ h => h) (Or.inl ⟨by rfl,?_⟩) (by assumption) ?_
  rotate_left
  ·intro w hSw
   try simp only [Cells,blk,List.cons_append,List.nil_append,and_true,Nat.reduceAdd,Nat.add_zero,Nat.zero_add] at hSw
   go_simp
   try with_reducible rfl
  simp only [Act.put,List.setIfInBounds_toArray,List.set_cons_zero,List.set_cons_succ]
  refine wpAnyH_take (i := 1) (oi := _) (v := ?_) (by rw [List.getElem?_toArray]; rfl) (by kernel_rfl) (by kernel_rfl) (by kernel_rfl) (by exact fun _ _ _ h => h) (Or.inl ⟨by rfl,?_⟩) (by assumption) ?_
  rotate_left
  ·intro w hSw
   try simp only [Cells,blk,List.cons_append,List.nil_append,and_true,Nat.reduceAdd,Nat.add_zero,Nat.zero_add] at hSw
   go_simp
   try with_reducible rfl
  simp only [Act.put,List.setIfInBounds_toArray,List.set_cons_zero,List.set_cons_succ]
  refine wpAnyH_take (i := 3) (oi := _) (v := ?_) (by rw [List.getElem?_toArray]; rfl) (by kernel_rfl) (by kernel_rfl) (by kernel_rfl) (by exact fun _ _ _ h => h) (Or.inl ⟨by rfl,?_⟩) (by assumption) ?_
  rotate_left
  ·intro w hSw
   try simp only [Cells,blk,List.cons_append,List.nil_append,and_true,Nat.reduceAdd,Nat.add_zero,Nat.zero_add] at hSw
   go_simp
   try with_reducible rfl
  simp only [Act.put,List.setIfInBounds_toArray,List.set_cons_zero,List.set_cons_succ]
  refine wpAnyH_take (i := 4) (oi := _) (v := ?_) (by rw [List.getElem?_toArray]; rfl) (by kernel_rfl) (by kernel_rfl) (by kernel_rfl) (by exact fun _ _ _ h => h) (Or.inl ⟨by rfl,?_⟩) (by assumption) ?_
  rotate_left
  ·intro w hSw
   try simp only [Cells,blk,List.cons_append,List.nil_append,and_true,Nat.reduceAdd,Nat.add_zero,Nat.zero_add] at hSw
   go_simp
   try with_reducible rfl
  simp only [Act.put,List.setIfInBounds_toArray,List.set_cons_zero,List.set_cons_succ]
  refine wpAnyH_ready (rs := [2]) (by kernel_rfl) (by simp) (AllReadyH.cons (o := _) (by rw [List.getElem?_toArray]; rfl) (fun K hK => ?_) AllReadyH.nil)
  go_simp
  go_at_call 91
  refine (HP1.out _).mono ?_
  rintro e wb ⟨va,rfl,hoa,hBb⟩
  have hoa := own_base hoa hHeld.2.1
  try replace hob := own_below hob hBb
  refine hK.out _ _ (⟨hHeld.1.trans (hBb.mono hHeld.2.1),Nat.le_trans hHeld.2.1 hBb.size,hHeld.2.2.keep hBb⟩) (fun hHeld2 => ?_)
  replace hHeld := hHeld2
  clear hK K hHeld2
  try simp only [Act.put,List.setIfInBounds_toArray,List.set_cons_zero,List.set_cons_succ]
  refine wpAnyH_ready (rs := [5]) (by kernel_rfl) (by simp) (AllReadyH.cons (o := _) (by rw [List.getElem?_toArray]; rfl) (fun K hK => ?_) AllReadyH.nil)
  go_simp
  go_at_call 91
  refine (HP2.out _).mono ?_
  rintro e wb ⟨vb,rfl,hob,hBb⟩
  have hob := own_base hob hHeld.2.1
  obtain ⟨gb,cb,rfl⟩ := ownsRow_succ (k := 7) hob
  try replace hoa := own_below hoa hBb
  refine hK.out _ _ (⟨hHeld.1.trans (hBb.mono hHeld.2.1),Nat.le_trans hHeld.2.1 hBb.size,hHeld.2.2.keep hBb⟩) (fun hHeld2 => ?_)
  replace hHeld := hHeld2
  clear hK K hHeld2
  try simp only [Act.put,List.setIfInBounds_toArray,List.set_cons_zero,List.set_cons_succ]
  refine wpAnyH_ready (rs := [6]) (by kernel_rfl) (by simp) (AllReadyH.cons (o := _) (by rw [List.getElem?_toArray]; rfl) (fun K hK => ?_) AllReadyH.nil)
  refine step_append_at (by rfl) _ _ 23 (by rfl) w1.heap.size 5 i0 _ 1 1 Try.underlying23 hi0 hz0 hz1 hz2 rfl (by decide) va 8 (bcells (putB lo 8)) (by rfl) hoa ⟨gb,0,none⟩ 8 cb (bcells (putB hi 8)) (by rfl) (by simp [bcells,putB]) (own_news hob 0) (bcells_one _) (by decide) (by decide) hHeld.2.1 ?_
  intro v' w6 hown hg _
  have hB6 : Below w1.heap.size w1 w6 := hHeld.1.grown hg hHeld.2.1 (fun q hq => (hoa.lt q hq).1)
  have hown6 := hown
  refine hK.out _ _ (⟨hB6,Nat.le_trans hHeld.2.1 hg.size,T1.keep hB6⟩) (fun hHeld2 => ?_)
  replace hHeld := hHeld2
  clear hK K hHeld2
  try simp only [Act.put,List.setIfInBounds_toArray,List.set_cons_zero,List.set_cons_succ]
  refine wpAnyH_take (i := 7) (oi := _) (v := ?_) (by rw [List.getElem?_toArray]; rfl) (by kernel_rfl) (by kernel_rfl) (by kernel_rfl) (by exact fun _ _ _ h => h) (Or.inl ⟨by rfl,?_⟩) (by assumption) ?_
  rotate_left
  ·intro w hSw
   try simp only [Cells,blk,List.cons_append,List.nil_append,and_true,Nat.reduceAdd,Nat.add_zero,Nat.zero_add] at hSw
   go_simp
   try with_reducible rfl
  simp only [Act.put,List.setIfInBounds_toArray,List.set_cons_zero,List.set_cons_succ]
  refine wpAnyH_done (by kernel_rfl) ?_ _
  have hby : BytesAt w6 v' (encB hi lo) := bytesAt_of_own (by rw [HENC.out]; simpa [bcells,b16,putB] using hown6) (by rw [HENC.out]; simp [b16]) HLT.out (by omega)
  have HBY := Lib.hid hby
  have hB7 := hBw1.trans (hB6.mono hBw1.size)
  clear hown6 hby hoa hob hown hg
  go_wp2
  go_ret
  exact ⟨_,rfl,HBY.out,hB7⟩
 ·simp only [if_true] at HENC HNUM
  have hP3 := fun W => put_any N 2 (by omega) (by omega) W
  have HP3 := Lib.hid hP3
  clear hP3
  go_enter Try.func92,Try.ntmps92
  go_wp2_with fail
  go_at_call 97
  refine (HNUM.out _).mono ?_
  rintro e w1 ⟨rfl,hB1⟩
  have hBw1 := hB.trans (hB1.mono hB.size)
  clear hB1 hB
  go_wp2_with fail
  go_at_call 91
  refine (HP3.out _).mono ?_
  rintro e w2 ⟨v2,rfl,ho2,hB2⟩
  have hby : BytesAt w2 v2 (encB hi lo) := bytesAt_of_own (by rw [HENC.out]; exact ho2) (by rw [HENC.out]; exact putB_len _ _) HLT.out (by omega)
  have HBY := Lib.hid hby
  have hB3 := hBw1.trans (hB2.mono hBw1.size)
  clear ho2 hby hB2 hBw1
  go_wp2
  go_ret
  exact ⟨_,rfl,HBY.out,hB3⟩
open Go.RowKit
/-- the letters of the fields of a kind -/
def fldC (k : Int) : Option (List Nat) :=
 if k = 1 then some [65,72,67] else if k = 2 ∨ k = 3 then some [77] else if k = 4 then some [72,76] else if k = 8 ∨ k = 16 then some [72,76,84] else
 if k = 10 then some [72] else if k = 12 then some [72,79] else if k = 11 ∨ k = 13 then some [86] else if k = 18 ∨ k = 82 ∨ k = 27 ∨ k = 29 then some [72,86] else
 if k = 22 ∨ k = 23 then some [72,79,86] else if k = 24 then some [88] else if k = 19 ∨ k = 25 ∨ k = 30 then some [] else if k = 5 ∨ k = 9 ∨ k = 17 then some [73] else none
theorem fldC_none (k : Int) (h : k ≠ 1 ∧ k ≠ 2 ∧ k ≠ 3 ∧ k ≠ 4 ∧ k ≠ 5 ∧ k ≠ 8 ∧ k ≠ 9 ∧ k ≠ 10 ∧ k ≠ 11 ∧ k ≠ 12 ∧ k ≠ 13 ∧ k ≠ 16 ∧ k ≠ 17 ∧ k ≠ 18 ∧ k ≠ 19 ∧ k ≠ 22 ∧ k ≠ 23 ∧ k ≠ 24 ∧ k ≠ 25 ∧ k ≠ 27 ∧ k ≠ 29 ∧ k ≠ 30 ∧ k ≠ 82) : fldC k = none := by
 unfold fldC
 repeat rw [if_neg (by omega)]
open Go.RowKit
/-- a kind has a field -/
def hasL (o : Option (List Nat)) (c : Nat) : Bool := (o.getD []).contains c
/-- the fields that a kind uses -/
def useV (o : Option (List Nat)) : Value := .agg #[.bool o.isSome,.bool (hasL o 65),.bool (hasL o 72),.bool (hasL o 76),.bool (hasL o 84),.bool (hasL o 79),.bool (hasL o 77),.bool (hasL o 67),.bool (hasL o 88),.bool (hasL o 86),.bool (hasL o 73)]
theorem bu0 (w : World) : (Instr.build 80 #[(0,.bool true),(1,.bool true),(2,.bool true),(7,.bool true)]).run Try.prog w = .ok (.agg #[.bool true,.bool true,.bool true,.bool false,.bool false,.bool false,.bool false,.bool true,.bool false,.bool false,.bool false]) w := by kernel_rfl
theorem bu1 (w : World) : (Instr.build 80 #[(0,.bool true),(6,.bool true)]).run Try.prog w = .ok (.agg #[.bool true,.bool false,.bool false,.bool false,.bool false,.bool false,.bool true,.bool false,.bool false,.bool false,.bool false]) w := by kernel_rfl
theorem bu2 (w : World) : (Instr.build 80 #[(0,.bool true),(2,.bool true),(3,.bool true)]).run Try.prog w = .ok (.agg #[.bool true,.bool false,.bool true,.bool true,.bool false,.bool false,.bool false,.bool false,.bool false,.bool false,.bool false]) w := by kernel_rfl
theorem bu3 (w : World) : (Instr.build 80 #[(0,.bool true),(2,.bool true),(3,.bool true),(4,.bool true)]).run Try.prog w = .ok (.agg #[.bool true,.bool false,.bool true,.bool true,.bool true,.bool false,.bool false,.bool false,.bool false,.bool false,.bool false]) w := by kernel_rfl
theorem bu4 (w : World) : (Instr.build 80 #[(0,.bool true),(2,.bool true)]).run Try.prog w = .ok (.agg #[.bool true,.bool false,.bool true,.bool false,.bool false,.bool false,.bool false,.bool false,.bool false,.bool false,.bool false]) w := by kernel_rfl
theorem bu5 (w : World) : (Instr.build 80 #[(0,.bool true),(2,.bool true),(5,.bool true)]).run Try.prog w = .ok (.agg #[.bool true,.bool false,.bool true,.bool false,.bool false,.bool true,.bool false,.bool false,.bool false,.bool false,.bool false]) w := by kernel_rfl
theorem bu6 (w : World) : (Instr.build 80 #[(0,.bool true),(9,.bool true)]).run Try.prog w = .ok (.agg #[.bool true,.bool false,.bool false,.bool false,.bool false,.bool false,.bool false,.bool false,.bool false,.bool true,.bool false]) w := by kernel_rfl
theorem bu7 (w : World) : (Instr.build 80 #[(0,.bool true),(2,.bool true),(9,.bool true)]).run Try.prog w = .ok (.agg #[.bool true,.bool false,.bool true,.bool false,.bool false,.bool false,.bool false,.bool false,.bool false,.bool true,.bool false]) w := by kernel_rfl
theorem bu8 (w : World) : (Instr.build 80 #[(0,.bool true),(2,.bool true),(5,.bool true),(9,.bool true)]).run Try.prog w = .ok (.agg #[.bool true,.bool false,.bool true,.bool false,.bool false,.bool true,.bool false,.bool false,.bool false,.bool true,.bool false]) w := by kernel_rfl
theorem bu9 (w : World) : (Instr.build 80 #[(0,.bool true),(8,.bool true)]).run Try.prog w = .ok (.agg #[.bool true,.bool false,.bool false,.bool false,.bool false,.bool false,.bool false,.bool false,.bool true,.bool false,.bool false]) w := by kernel_rfl
theorem bu10 (w : World) : (Instr.build 80 #[(0,.bool true)]).run Try.prog w = .ok (.agg #[.bool true,.bool false,.bool false,.bool false,.bool false,.bool false,.bool false,.bool false,.bool false,.bool false,.bool false]) w := by kernel_rfl
theorem bu11 (w : World) : (Instr.build 80 #[(0,.bool true),(10,.bool true)]).run Try.prog w = .ok (.agg #[.bool true,.bool false,.bool false,.bool false,.bool false,.bool false,.bool false,.bool false,.bool false,.bool false,.bool true]) w := by kernel_rfl
theorem bu12 (w : World) : (Instr.build 80 #[]).run Try.prog w = .ok (.agg #[.bool false,.bool false,.bool false,.bool false,.bool false,.bool false,.bool false,.bool false,.bool false,.bool false,.bool false]) w := by kernel_rfl
theorem rfields_any (k : Int) (w : World) : Calls Try.prog 28 #[.int .i64 k] w fun e w' => e = .returned (useV (fldC k)) ∧ Below w.heap.size w w' := by
 have b0 := bu0
 have b1 := bu1
 have b2 := bu2
 have b3 := bu3
 have b4 := bu4
 have b5 := bu5
 have b6 := bu6
 have b7 := bu7
 have b8 := bu8
 have b9 := bu9
 have b10 := bu10
 have b11 := bu11
 have b12 := bu12
 rcases att_kinds k with rfl | rfl | rfl | rfl | rfl | rfl | rfl | rfl | rfl | rfl | rfl | rfl | rfl | rfl | rfl | rfl | rfl | rfl | rfl | rfl | rfl | rfl | rfl | hne
 case' inr.inr.inr.inr.inr.inr.inr.inr.inr.inr.inr.inr.inr.inr.inr.inr.inr.inr.inr.inr.inr.inr.inr =>
  rw [fldC_none k hne]
  obtain ⟨h1,h2,h3,h4,h5,h6,h7,h8,h9,h10,h11,h12,h13,h14,h15,h16,h17,h18,h19,h20,h21,h22,h23⟩ := hne
  have e1 := beq_eq_false_iff_ne.2 h1
  have e2 := beq_eq_false_iff_ne.2 h2
  have e3 := beq_eq_false_iff_ne.2 h3
  have e4 := beq_eq_false_iff_ne.2 h4
  have e5 := beq_eq_false_iff_ne.2 h5
  have e6 := beq_eq_false_iff_ne.2 h6
  have e7 := beq_eq_false_iff_ne.2 h7
  have e8 := beq_eq_false_iff_ne.2 h8
  have e9 := beq_eq_false_iff_ne.2 h9
  have e10 := beq_eq_false_iff_ne.2 h10
  have e11 := beq_eq_false_iff_ne.2 h11
  have e12 := beq_eq_false_iff_ne.2 h12
  have e13 := beq_eq_false_iff_ne.2 h13
  have e14 := beq_eq_false_iff_ne.2 h14
  have e15 := beq_eq_false_iff_ne.2 h15
  have e16 := beq_eq_false_iff_ne.2 h16
  have e17 := beq_eq_false_iff_ne.2 h17
  have e18 := beq_eq_false_iff_ne.2 h18
  have e19 := beq_eq_false_iff_ne.2 h19
  have e20 := beq_eq_false_iff_ne.2 h20
  have e21 := beq_eq_false_iff_ne.2 h21
  have e22 := beq_eq_false_iff_ne.2 h22
  have e23 := beq_eq_false_iff_ne.2 h23
  clear h1 h2 h3 h4 h5 h6 h7 h8 h9 h10 h11 h12 h13 h14 h15 h16 h17 h18 h19 h20 h21 h22 h23
 all_goals
  go_enter Try.func28,Try.ntmps28
  go_wp2
  refine bodyPost_ret (by simp [results,Try.results28,go_sem] <;> rfl) rfl ?_
  exact ⟨rfl,(Below.refl _ _).alloc (Nat.le_refl _) _⟩
open Go.RowKit
def unlessI (b : Bool) (e : Int) : Int := if b then 0 else e
def leF : List Nat := [65,72,76,79,77,67,88,84,86,73]
def le (k : Nat) : Nat := leF.getD k 0
open Go.RowKit
/-- the number of bytes of an element -/
def sizeI (k : Int) (hi lo n : Nat) : Nat := if k = 5 then 2 + (encB hi lo).length else if k = 17 then 4 + n else 2 + n
/-- the fields that an element does not use are zero -/
def unuI (k : Int) (la hi lo n : Nat) : Bool := if k = 5 then (la == 0) && (n == 0) else if k = 17 then (hi == 0) && (lo == 0) else (la == 0) && ((hi == 0) && (lo == 0))
theorem encB_16 (hi lo : Nat) : (encB hi lo).length ≤ 16 := by
 rw [encB_len]
 split <;> omega
open Go.RowKit
/-- an element of a list -/
structure It where
 ha : Nat
 la : Nat
 hi : Nat
 lo : Nat
 a : Option Addr
 n : Nat
 c : Nat
 bs : List Nat
def itc (t : It) : List Value := [.int .u16 t.ha,.int .u16 t.la,.int .u64 t.hi,.int .u64 t.lo,.slice t.a t.n t.c]
/-- it can be read -/
def ItOk (W : World) (t : It) : Prop := t.ha < 65536 ∧ t.la < 65536 ∧ t.hi < 18446744073709551616 ∧ t.lo < 18446744073709551616 ∧ t.bs.length = t.n ∧ BytesAt W (.slice t.a t.n t.c) t.bs
def Items (W : World) (v : Value) (m : Nat) (its : List It) : Prop := its.length = m ∧ SR W v m 5 (its.flatMap itc) ∧ ∀ t ∈ its,ItOk W t
theorem ItOk.below {W W' : World} {t : It} (h : ItOk W t) (hb : Below W.heap.size W W') : ItOk W' t := ⟨h.1,h.2.1,h.2.2.1,h.2.2.2.1,h.2.2.2.2.1,h.2.2.2.2.2.below hb⟩
theorem Items.below {W W' : World} {v : Value} {m : Nat} {its : List It} (h : Items W v m its) (hb : Below W.heap.size W W') : Items W' v m its := ⟨h.1,h.2.1.below hb,fun t ht => (h.2.2 t ht).below hb⟩
theorem itc_get (its : List It) (k j : Nat) (hk : k < its.length) (hj : j < 5) : (its.flatMap itc)[k * 5 + j]? = (itc its[k])[j]? := flat_get itc 5 (fun _ => rfl) its k j hk hj
/-- the error of an element -/
def chkIt (k : Int) (last L : Nat) (t : It) : Int := if unuI k t.la t.hi t.lo t.n = false then 1 else if t.ha = 0 then 5 else if t.ha ≤ last ∨ (k = 17 ∧ t.la < t.ha) then 13 else if sizeI k t.hi t.lo t.n ≠ L then 11 else 0
def chkIts (k : Int) (last L : Nat) : List It → Int
 |[] => 0
 |t :: l => if chkIt k last L t = 0 then chkIts k (max t.ha t.la) L l else chkIt k last L t
/-- the error of a list -/
def chkL (k : Int) : List It → Int
 |[] => 1
 |t :: l => if chkIts k 0 (sizeI k t.hi t.lo t.n) (t :: l) = 0 then (if sizeI k t.hi t.lo t.n ≤ 255 ∧ (t :: l).length ≤ 515 / sizeI k t.hi t.lo t.n then 0 else 4) else chkIts k 0 (sizeI k t.hi t.lo t.n) (t :: l)
theorem sizeI_lo (k : Int) (hi lo n : Nat) : 2 ≤ sizeI k hi lo n := by
 unfold sizeI
 split
 ·omega
 ·split <;> omega
theorem chkIts_step (k : Int) (last L : Nat) (its : List It) (j : Nat) (h : j < its.length) : chkIts k last L (its.drop j) = if chkIt k last L its[j] = 0 then chkIts k (max its[j].ha its[j].la) L (its.drop (j + 1)) else chkIt k last L its[j] := by
 rw [List.drop_eq_getElem_cons h,chkIts]
open Go.RowKit
/-- field k is zero -/
def zB (ak : Int) (ha la hi lo : Nat) (of mt co : Int) (cm : Bool) (n m : Nat) (k : Nat) : Bool :=
 [(ak == 0),((ha : Int) == 0),((la : Int) == 0),(of == 0),(mt == 0),(co == 0),(!cm),(decide (hi = 0) && decide (lo = 0)),((n : Int) == 0),((m : Int) == 0)].getD k true
/-- the error of field k -/
def cI (ki ak : Int) (ha la : Nat) (of mt co : Int) (n : Nat) (its : List It) (k : Nat) : Int :=
 [unlessI (decide (0 ≤ ak) && decide (ak ≤ 255)) 5,unlessI (!((ha : Int) == 0) || (ki == 1)) 5,unlessI (decide (ha ≤ la)) 13,unlessI (decide (0 ≤ of) && decide (of ≤ 65535)) 5,unlessI (decide (23 ≤ mt) && decide (mt ≤ 517)) 5,
  unlessI (decide (1 ≤ co) && decide (co ≤ 255)) 5,0,0,unlessI (decide ((n : Int) ≤ 512)) 4,chkL ki its].getD k 0
/-- a field that is not used is not zero, among the last f -/
def anyC (u : List Nat) (z : Nat → Bool) : Nat → Bool
 |0 => false
 |f+1 => (!u.contains (le (9 - f)) && !z (9 - f)) || anyC u z f
/-- the first error of a field that is used, among the last f -/
def errC (u : List Nat) (e : Nat → Int) : Nat → Int
 |0 => 0
 |f+1 => if u.contains (le (9 - f)) = true ∧ e (9 - f) ≠ 0 then e (9 - f) else errC u e f
/-- the bytes of an element -/
def itB (k : Int) (t : It) : List Nat := putB t.ha 2 ++ (if k = 5 then encB t.hi t.lo else if k = 17 then putB t.la 2 ++ t.bs else t.bs)
theorem itB_len (k : Int) (t : It) (h : t.bs.length = t.n) : (itB k t).length = sizeI k t.hi t.lo t.n := by
 unfold itB sizeI
 rw [List.length_append,putB_len]
 split
 ·rfl
 ·split
  ·rw [List.length_append,putB_len,h]; omega
  ·rw [h]
theorem itB_lt (k : Int) (t : It) (h : ∀ x ∈ t.bs,x < 256) : ∀ x ∈ itB k t,x < 256 := by
 intro x hx
 unfold itB at hx
 rcases List.mem_append.1 hx with hx | hx
 ·exact putB_lt _ _ x hx
 ·split at hx
  ·exact encB_lt _ _ x hx
  ·split at hx
   ·rcases List.mem_append.1 hx with hx | hx
    ·exact putB_lt _ _ x hx
    ·exact h x hx
   ·exact h x hx
open Go.RowKit
theorem Blk.not_row {W : World} {B : Nat} {t e : TypeId} {cs : List Value} (h : Blk W B t cs) (hte : t ≠ e) {base size k : Nat} {v : Value} {xs : List Value} (hr : W.ownsRow base e size v k xs) : some B ≠ v.ownBlock := by
 rcases hr.2 with ⟨rfl,_⟩ | ⟨g,cap,cur,rfl,_,hgb,_⟩
 ·simp [Value.ownBlock]
 ·intro e'
  obtain rfl : B = g := by simpa [Value.ownBlock] using e'
  have := (show W.heap[B]? = _ from h).symm.trans hgb
  simp at this
  exact hte this.2
theorem sizeI_hi (k : Int) (hi lo n : Nat) : sizeI k hi lo n ≤ n + 18 := by
 have := encB_16 hi lo
 unfold sizeI
 split
 ·omega
 ·split <;> omega
open Go.RowKit
open Go.RowKit
/-- a row of bytes, and an append to it -/
def OwnB (w0 w : World) (v : Value) (bs : List Nat) : Prop := w.ownsRow w0.heap.size 5 1 v bs.length (bcells bs) ∧ Below w0.heap.size w0 w
theorem OwnB.below {w0 w w' : World} {v : Value} {bs : List Nat} (h : OwnB w0 w v bs) (hb : Below w.heap.size w w') : OwnB w0 w' v bs := ⟨own_below h.1 hb,h.2.trans (hb.mono h.2.size)⟩
theorem OwnB.app {w0 w w' : World} {v v' : Value} {n m : Nat} {bs cs : List Nat} {xs : List Value} (h : OwnB w0 w v bs) (hg : w.grownBy w' v.ownBlock) (ho : w'.ownsRow w0.heap.size 5 1 v' (n + m) (xs ++ bcells cs)) (hx : xs = bcells bs) (hn : bs.length = n) (hm : cs.length = m) : OwnB w0 w' v' (bs ++ cs) := by
 subst hx hn hm
 refine ⟨?_,h.2.grown hg h.2.size (fun j hj => (h.1.lt j hj).1)⟩
 simpa [bcells] using ho
theorem BytesAt.sr {w : World} {v : Value} {bs : List Nat} {n : Nat} (h : BytesAt w v bs) (hn : bs.length = n) : SR w v n 1 (bcells bs) := by subst hn; exact h.1
def BIGN : Nat := 140737488351232
/-- bytes that are read, of any number -/
def BytesR (w : World) (v : Value) (bs : List Nat) : Prop := SR w v bs.length 1 (bcells bs) ∧ True
theorem OwnB.big {w0 w : World} {v : Value} {bs : List Nat} (h : OwnB w0 w v bs) (hl : bs.length ≤ maxLen) : BytesR w v bs := ⟨SR.of_own h.1 (bcells_one bs) hl,trivial⟩
theorem ritem_any (k : Int) (t : It) (w : World) (ht : ItOk w t) (hn : t.n ≤ BIGN) :
 Calls Try.prog 63 #[.int .i64 k,.agg #[.int .u16 t.ha,.int .u16 t.la,.int .u64 t.hi,.int .u64 t.lo,.slice t.a t.n t.c]] w fun e w' => ∃ v,e = .returned v ∧ BytesR w' v (itB k t) ∧ Below w.heap.size w w' := by
 have hlt := itB_lt k t ht.2.2.2.2.2.2.2
 obtain ⟨hxa,hxl,hxh,hxo,hbl,hby⟩ := ht
 obtain ⟨xa,xl,xh,xo,aa,an,ac,abs⟩ := t
 have hit : itB k ⟨xa,xl,xh,xo,aa,an,ac,abs⟩ = putB xa 2 ++ (if k = 5 then encB xh xo else if k = 17 then putB xl 2 ++ abs else abs) := rfl
 simp only at hxa hxl hxh hxo hbl hby hn ⊢
 have HN := Lib.hid hn
 clear hn
 obtain ⟨R,hR⟩ : ∃ R,itB k ⟨xa,xl,xh,xo,aa,an,ac,abs⟩ = R := ⟨_,rfl⟩
 rw [hR] at hit hlt ⊢
 obtain ⟨i0,hii,hz0,hz1,hz2⟩ := info_parts Try.info_u8
 have hB := (Below.refl w.heap.size w).alloc (Nat.le_refl _) (.cells #[.int .u16 xa,.int .u16 xl,.int .u64 xh,.int .u64 xo,.slice aa an ac] 101)
 have bP := Blk.new w 101 [.int .u16 xa,.int .u16 xl,.int .u64 xh,.int .u64 xo,.slice aa an ac]
 have hp := fun W => put_any xa 2 (by omega) (by omega) W
 have hp2 := fun W => put_any xl 2 (by omega) (by omega) W
 have he := fun W => rencode_any xh xo hxh hxo W
 have hel := encB_16 xh xo
 have b1 : (xa : Int) < 65536 := by omega
 have b2 : (xl : Int) < 65536 := by omega
 have HP := Lib.hid hp
 have HP2 := Lib.hid hp2
 have HE := Lib.hid he
 have HEL := Lib.hid hel
 have HIT := Lib.hid hit
 have HLT := Lib.hid hlt
 have HBY := Lib.hid hby
 have HBL := Lib.hid hbl
 clear hp hp2 he hel hit hlt hby hbl hR hxa hxl hxh hxo
 go_enter Try.func63,Try.ntmps63
 go_upto_region 1 with fail
 generalize hV : World.alloc _ _ = V at bP hB ⊢
 clear hV
 have HBP := Lib.hid bP
 have HB := Lib.hid hB
 have T0 := bP.cells
 have hOpen := T0
 simp only [Cells,blk,List.cons_append,List.nil_append,and_true,Nat.reduceAdd,Nat.add_zero,Nat.zero_add] at hOpen
 obtain ⟨y0,y1,y2,y3,y4⟩ := hOpen
 clear T0 hB bP
 go_wp2_with fail
 refine (HP.out _).mono ?_
 rintro e w1 ⟨v1,rfl,hown1,hB1⟩
 have hO1 : OwnB w w1 v1 (putB xa 2) := ⟨by rw [putB_len]; exact own_base hown1 HB.out.size,HB.out.trans (hB1.mono HB.out.size)⟩
 have HBP1 := Lib.hid (HBP.out.below hB1)
 have T1 := HBP1.out.cells
 have HO1 := Lib.hid hO1
 clear y0 y1 y2 y3 y4 hown1 hB1 hO1 HBP
 have hOpen := T1
 simp only [Cells,blk,List.cons_append,List.nil_append,and_true,Nat.reduceAdd,Nat.add_zero,Nat.zero_add] at hOpen
 obtain ⟨y0,y1,y2,y3,y4⟩ := hOpen
 clear T1
 by_cases h5 : k = 5
 ·subst h5
  have hR5 : R = putB xa 2 ++ encB xh xo := by rw [HIT.out,if_pos rfl]
  go_wp2_with fail
  refine (HE.out _).mono ?_
  rintro e w2 ⟨v2,rfl,hv2,hB2⟩
  have hO2 := HO1.out.below hB2
  obtain ⟨X,hX⟩ : ∃ X,encB xh xo = X := ⟨_,rfl⟩
  have hel := HEL.out
  rw [hX] at hv2 hR5 hel
  obtain ⟨L,hL⟩ : ∃ L,X.length = L := ⟨_,rfl⟩
  have hsr := hv2.sr hL
  rw [hL] at hel
  have hown2 : w2.ownsRow w.heap.size 5 1 v1 2 (bcells (putB xa 2)) := hO2.1
  have hBs := hO2.2.size
  have HO2 := Lib.hid hO2
  have HR5 := Lib.hid hR5
  have HL := Lib.hid hL
  clear hv2 hB2 hO2 hX hR5 hL y0 y1 y2 y3 y4
  go_wp2_with (at_builtin; refine wpList_append_all rfl _ _ 23 rfl w.heap.size 5 i0 (.int .u8 0) 1 1 Try.underlying23 hii hz0 hz1 hz2 rfl (by decide) _ 2 _ rfl hown2 _ L _ rfl hsr (by unfold maxLen; omega) (by omega) hBs ?_)
  intro v3 w3 hown3 hg _
  have hO3 := HO2.out.app hg hown3 rfl rfl HL.out
  have HBF := Lib.hid (And.intro (hO3.big (by rw [List.length_append,putB_len,HL.out]; have := HN.out; unfold BIGN at this; unfold maxLen; omega)) hO3.2)
  clear hown3 hg hO3 hown2
  go_wp2
  go_ret
  exact ⟨_,rfl,by rw [HR5.out]; exact HBF.out.1,HBF.out.2⟩
 have t5 : (k == 5) = false := by simpa using h5
 by_cases h17 : k = 17
 ·subst h17
  have hR5 : R = putB xa 2 ++ (putB xl 2 ++ abs) := by rw [HIT.out,if_neg h5,if_pos rfl]
  go_wp2_with fail
  refine (HP2.out _).mono ?_
  rintro e w2 ⟨v2,rfl,hv2,hB2⟩
  have hO2 := HO1.out.below hB2
  have hby2 := HBY.out.below hO2.2
  have hsr := SR.of_own hv2 (bcells_one _) (by unfold maxLen; omega)
  have hown2 : w2.ownsRow w.heap.size 5 1 v1 2 (bcells (putB xa 2)) := hO2.1
  have hBs := hO2.2.size
  have HO2 := Lib.hid hO2
  have HR5 := Lib.hid hR5
  have HBP2 := Lib.hid (HBP1.out.below hB2)
  clear hv2 hB2 hO2 hR5 hby2 y0 y1 y2 y3 y4 HBP1
  go_wp2_with (at_builtin; refine wpList_append_all rfl _ _ 23 rfl w.heap.size 5 i0 (.int .u8 0) 1 1 Try.underlying23 hii hz0 hz1 hz2 rfl (by decide) _ 2 _ rfl hown2 _ 2 _ rfl hsr (by unfold maxLen; omega) (by omega) hBs ?_)
  intro v3 w3 hown3 hg _
  have hO3 := HO2.out.app hg hown3 rfl rfl (putB_len _ _)
  have HBP3 := Lib.hid (HBP2.out.kept hg (HBP2.out.not_row (by decide) hown2))
  have hown3' : w3.ownsRow w.heap.size 5 1 v3 4 (bcells (putB xa 2 ++ putB xl 2)) := hO3.1
  have hBs := hO3.2.size
  have hsr := (HBY.out.below hO3.2).sr HBL.out
  have T3 := HBP3.out.cells
  have HO3 := Lib.hid hO3
  clear hown3 hg hO3 hown2
  have hOpen := T3
  simp only [Cells,blk,List.cons_append,List.nil_append,and_true,Nat.reduceAdd,Nat.add_zero,Nat.zero_add] at hOpen
  obtain ⟨y0,y1,y2,y3,y4⟩ := hOpen
  clear T3
  go_wp2_with (at_builtin; refine wpList_append_all rfl _ _ 23 rfl w.heap.size 5 i0 (.int .u8 0) 1 1 Try.underlying23 hii hz0 hz1 hz2 rfl (by decide) _ 4 _ rfl hown3' _ an _ rfl hsr (by have := HN.out; unfold BIGN at this; unfold maxLen; omega) (by have := HN.out; unfold BIGN at this; omega) hBs ?_)
  intro v4 w4 hown4 hg _
  have hO4 := HO3.out.app hg hown4 rfl rfl HBL.out
  rw [List.append_assoc] at hO4
  have HBF := Lib.hid (And.intro (hO4.big (by rw [List.length_append,List.length_append,putB_len,putB_len,HBL.out]; have := HN.out; unfold BIGN at this; unfold maxLen; omega)) hO4.2)
  clear hown4 hg hO4 hown3'
  go_wp2
  go_ret
  exact ⟨_,rfl,by rw [HR5.out]; exact HBF.out.1,HBF.out.2⟩
 ·have t17 : (k == 17) = false := by simpa using h17
  have hR5 : R = putB xa 2 ++ abs := by rw [HIT.out,if_neg h5,if_neg h17]
  have hown2 : w1.ownsRow w.heap.size 5 1 v1 2 (bcells (putB xa 2)) := HO1.out.1
  have hBs := HO1.out.2.size
  have hsr := (HBY.out.below HO1.out.2).sr HBL.out
  have HR5 := Lib.hid hR5
  clear hR5
  go_wp2_with (at_builtin; refine wpList_append_all rfl _ _ 23 rfl w.heap.size 5 i0 (.int .u8 0) 1 1 Try.underlying23 hii hz0 hz1 hz2 rfl (by decide) _ 2 _ rfl hown2 _ an _ rfl hsr (by have := HN.out; unfold BIGN at this; unfold maxLen; omega) (by have := HN.out; unfold BIGN at this; omega) hBs ?_)
  intro v4 w4 hown4 hg _
  have hO4 := HO1.out.app hg hown4 rfl rfl HBL.out
  have HBF := Lib.hid (And.intro (hO4.big (by rw [List.length_append,putB_len,HBL.out]; have := HN.out; unfold BIGN at this; unfold maxLen; omega)) hO4.2)
  clear hown4 hg hO4 hown2
  go_wp2
  go_ret
  exact ⟨_,rfl,by rw [HR5.out]; exact HBF.out.1,HBF.out.2⟩
def chkA (ki ak : Int) (ha la hi lo : Nat) (of mt co : Int) (cm : Bool) (n m : Nat) (its : List It) : Int :=
 match fldC ki with
 |none => 12
 |some u => if anyC u (zB ak ha la hi lo of mt co cm n m) 10 then 1 else errC u (cI ki ak ha la of mt co n its) 10
end Go.Proofs.Ytldcihjddebciaa
