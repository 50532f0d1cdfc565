/- client: the table of the kinds of tasks. And what follows it. -/
import Derived.Test.YtldcihjddebciaaGreatVClD
set_option linter.unusedSimpArgs false
set_option linter.unusedVariables false
set_option maxRecDepth 100000
set_option maxHeartbeats 4000000
namespace Go.Proofs.YtldcihjddebciaaGreat
open Go.RowKit Go.Maps
theorem Tryz.law_int : Keyed Tryz.prog 3 := int_keyed Tryz.underlying3
def fnV (f : Nat) : Value := .func (.func f) #[] #[]
def whV (b : Nat) : Value := .func (.func 103) #[] #[.pointer (some ⟨b,0,none⟩),.pointer (some ⟨b + 1,0,none⟩)]
def stZ : Value := .agg #[.nilFunc,.nilFunc,.nilFunc]
theorem zero_step (w : World) : (zeroValue 98).run Tryz.prog w = .ok stZ w := by kernel_rfl
/-- a map that reads as a list of numbers and values -/
def SD (D : DataW Value) (l : List (Int × Value)) : Prop := Maps.IsMap D ∧ ∀ id : Int,Maps.has D (.int .i64 id) = (l.lookup id).isSome ∧ D.atKey (.int .i64 id) (.held stZ) = .held ((l.lookup id).getD stZ)
theorem SD.made : SD (.map []) [] := ⟨isMap_empty,fun _ => ⟨rfl,rfl⟩⟩
theorem SD.put {D : DataW Value} {l : List (Int × Value)} (h : SD D l) (k : Int) (v : Value) : SD (D.put (.int .i64 k) (.held v)) ((k,v) :: l) := by
 refine ⟨h.1.put _ _,fun id => ?_⟩
 by_cases h1 : id = k
 ·subst h1
  rw [List.lookup_cons_self]
  exact ⟨has_put_same h.1 (by trivial) _,atKey_put_same h.1 (by trivial) _ _⟩
 ·have e : List.lookup id ((k,v) :: l) = List.lookup id l := by
   rw [List.lookup_cons]
   have : (id == k) = false := by simpa using h1
   rw [this]
  rw [e]
  have hne : Lit.int .i64 id ≠ .int .i64 k := fun e => h1 (by injection e with _ e)
  rw [has_put_other hne,atKey_put_other hne]
  exact h.2 id
/-- how a step reads -/
def stR (v : Value) : Option (DataW Value × List MemPlace) := some (.held v,[])
/-- a map of the call's own that reads as a list of numbers and steps -/
def StM (w : World) (B : Nat) (l : List (Int × Value)) : Prop := ∃ D,w.ownsMap Tryz.prog 3 stR B l.length D ∧ SD D l
theorem StM.below {w w' : World} {B : Nat} {l : List (Int × Value)} (h : StM w B l) (hb : Below w.heap.size w w') : StM w' B l := by
 obtain ⟨D,h1,h2⟩ := h
 exact ⟨D,ownsMap_below h1 hb,h2⟩
theorem StM.ins {w : World} {B : Nat} {l : List (Int × Value)} (h : StM w B l) (k : Int) (v : Value) (hk : (Lit.int .i64 k).wf = true) (hl : l.length ≤ 100) :
 ∃ w',(Instr.mapUpdate 100 (.map (some B)) (.int .i64 k) v).run Tryz.prog w = .ok () w' ∧ StM w' B ((k,v) :: l) ∧ w.grownBy w' (some B) := by
 obtain ⟨D,h1,h2⟩ := h
 obtain ⟨w',e1,e2,e3⟩ := h1.update Tryz.law_int Tryz.underlying100 (by unfold maxLen; omega) (keyOf_int_mk Tryz.underlying3 hk) (show stR v = some (.held v,[]) from rfl)
 exact ⟨w',e1,⟨_,e2,h2.put k v⟩,e3⟩
theorem StM.look {w : World} {B : Nat} {l : List (Int × Value)} (h : StM w B l) (k : Int) (hk : (Lit.int .i64 k).wf = true) :
 (Instr.lookup 100 (.map (some B)) (.int .i64 k) true).run Tryz.prog w = .ok (.tuple #[(l.lookup k).getD stZ,.bool (l.lookup k).isSome]) w := by
 obtain ⟨D,h1,h2⟩ := h
 obtain ⟨v,ps,e1,e2⟩ := h1.look_ok Tryz.law_int Tryz.underlying100 (zero_step w) (show stR stZ = some (.held stZ,[]) from rfl) (keyOf_int_mk Tryz.underlying3 hk)
 rw [(h2.2 k).2] at e2
 unfold stR at e2
 injection e2 with e2
 injection e2 with e2 _
 injection e2 with e2
 rw [e1,(h2.2 k).1,e2]
theorem whole_any (K : Int) (n : Nat) (w : World) : Calls Tryz.prog 65 #[.int .i64 K,.int .u16 n] w fun e w' => e = .returned (.func (.func 103) #[] #[.pointer (some ⟨w.heap.size,0,none⟩),.pointer (some ⟨w.heap.size + 1,0,none⟩)]) ∧ w'.cell? ⟨w.heap.size,0,none⟩ = some (.int .i64 K) ∧ w'.cell? ⟨w.heap.size + 1,0,none⟩ = some (.int .u16 n) ∧ Below w.heap.size w w' := by
 have hmf : ∀ (fn : Fn) (first cap : Array Value) (w : World),(Instr.makeFunc fn first cap).run Tryz.prog w = .ok (.func fn first cap) w := fun _ _ _ _ => rfl
 go_enter Tryz.func65,Tryz.ntmps65
 go_wp2
 go_ret
 have T0 := cells_new w [.int .i64 K] 3
 have T1 := cells_new (w.alloc (.cells #[.int .i64 K] 3)) [.int .u16 n] 23
 have e1 : (w.alloc (.cells #[.int .i64 K] 3)).heap.size = w.heap.size + 1 := by simp
 rw [e1] at T1
 exact ⟨rfl,(T0.keep ((Below.refl _ _).alloc (Nat.le_refl _) _)).1,T1.1,((Below.refl _ _).alloc (Nat.le_refl _) _).alloc (by simp) _⟩
/-- the table, where the two numbers of each search lie -/
def stT (b2 b9 : Nat) : List (Int × Value) := [(9,.agg #[fnV 63,fnV 64,whV b9]),(8,.agg #[fnV 71,fnV 72,fnV 74]),(7,.agg #[fnV 71,fnV 72,fnV 73]),(6,.agg #[fnV 68,fnV 69,fnV 70]),(5,.agg #[fnV 68,fnV 69,fnV 70]),(4,.agg #[fnV 66,fnV 67,fnV 61]),(3,.agg #[fnV 66,fnV 67,fnV 59]),(2,.agg #[fnV 63,fnV 64,whV b2]),(1,.agg #[fnV 63,fnV 64,fnV 62])]
/-- the table is there -/
structure StAt (w : World) (B b2 b9 : Nat) : Prop where
 map : StM w B (stT b2 b9)
 k2 : w.cell? ⟨b2,0,none⟩ = some (.int .i64 16)
 n2 : w.cell? ⟨b2 + 1,0,none⟩ = some (.int .u16 10240)
 k9 : w.cell? ⟨b9,0,none⟩ = some (.int .i64 8)
 n9 : w.cell? ⟨b9 + 1,0,none⟩ = some (.int .u16 11050)
theorem StAt.below {w w' : World} {B b2 b9 : Nat} (h : StAt w B b2 b9) (hb : Below w.heap.size w w') : StAt w' B b2 b9 := ⟨h.map.below hb,kc h.k2 hb,kc h.n2 hb,kc h.k9 hb,kc h.n9 hb⟩
theorem steps_any (w : World) : Calls Tryz.prog 32 #[] w fun e w' => ∃ B b2 b9,e = .returned (.map (some B)) ∧ StAt w' B b2 b9 ∧ w.heap.size ≤ B ∧ Below w.heap.size w w' ∧ w.heap.size ≤ b2 ∧ w.heap.size ≤ b9 := by
 have hmm := @run_makeMap Tryz.prog
 have hs0 : StM (w.alloc (.map #[] 0)) w.heap.size [] := ⟨_,World.ownsMap_made w _ _ _,SD.made⟩
 have hB0 : Below w.heap.size w (w.alloc (.map #[] 0)) := (Below.refl _ _).alloc (Nat.le_refl _) _
 obtain ⟨x1,hr1,hs1,hg1⟩ := StM.ins hs0 1 (.agg #[fnV 63,fnV 64,fnV 62]) (by decide) (by simp)
 unfold fnV at hr1
 go_enter Tryz.func32,Tryz.ntmps32
 go_wp2_with fail
 refine (whole_any 16 10240 x1).mono ?_
 rintro e w2 ⟨rfl,c2,d2,hC⟩
 have hB2 := (hB0.grown hg1 hB0.size (fun q hq => by cases hq; exact Nat.le_refl _)).trans (hC.mono (hB0.grown hg1 hB0.size (fun q hq => by cases hq; exact Nat.le_refl _)).size)
 have hs1' := hs1.below hC
 have hlt : x1.heap.size + 1 < w2.heap.size := World.block_lt_of_cell? w2 _ d2
 have hbx : w.heap.size < x1.heap.size := by
  obtain ⟨_,h,_⟩ := hs1
  exact h.lt
 obtain ⟨b2,hb2⟩ : ∃ b,x1.heap.size = b := ⟨_,rfl⟩
 rw [hb2] at c2 d2 hlt hbx ⊢
 have HB2 := Lib.hid hB2
 clear hr1 hg1 hs1 hs0 hB0 hB2 hC hmm hb2
 obtain ⟨x2,hr2,hs2,hg2⟩ := StM.ins hs1' 2 (.agg #[fnV 63,fnV 64,whV b2]) (by decide) (by simp)
 unfold fnV whV at hr2
 obtain ⟨x3,hr3,hs3,hg3⟩ := StM.ins hs2 3 (.agg #[fnV 66,fnV 67,fnV 59]) (by decide) (by simp)
 unfold fnV at hr3
 obtain ⟨x4,hr4,hs4,hg4⟩ := StM.ins hs3 4 (.agg #[fnV 66,fnV 67,fnV 61]) (by decide) (by simp)
 unfold fnV at hr4
 obtain ⟨x5,hr5,hs5,hg5⟩ := StM.ins hs4 5 (.agg #[fnV 68,fnV 69,fnV 70]) (by decide) (by simp)
 unfold fnV at hr5
 obtain ⟨x6,hr6,hs6,hg6⟩ := StM.ins hs5 6 (.agg #[fnV 68,fnV 69,fnV 70]) (by decide) (by simp)
 unfold fnV at hr6
 obtain ⟨x7,hr7,hs7,hg7⟩ := StM.ins hs6 7 (.agg #[fnV 71,fnV 72,fnV 73]) (by decide) (by simp)
 unfold fnV at hr7
 obtain ⟨x8,hr8,hs8,hg8⟩ := StM.ins hs7 8 (.agg #[fnV 71,fnV 72,fnV 74]) (by decide) (by simp)
 unfold fnV at hr8
 have hG : w2.grownBy x8 (some w.heap.size) := hg2.trans (hg3.trans (hg4.trans (hg5.trans (hg6.trans (hg7.trans hg8)))))
 have hB8 := HB2.out.grown hG HB2.out.size (fun q hq => by cases hq; exact Nat.le_refl _)
 have c8 : x8.cell? ⟨b2,0,none⟩ = some (.int .i64 16) := (World.cell?_of_block (a := ⟨b2,0,none⟩) (hG.block b2 (by omega) (fun e => by injection e with e; omega))).trans c2
 have d8 : x8.cell? ⟨b2 + 1,0,none⟩ = some (.int .u16 10240) := (World.cell?_of_block (a := ⟨b2 + 1,0,none⟩) (hG.block (b2 + 1) (by omega) (fun e => by injection e with e; omega))).trans d2
 have HB8 := Lib.hid hB8
 have HS8 := Lib.hid hs8
 have HC8 := Lib.hid c8
 have HD8 := Lib.hid d8
 have hb8 : b2 + 1 < x8.heap.size := World.block_lt_of_cell? x8 _ d8
 clear hg2 hg3 hg4 hg5 hg6 hg7 hg8 hG hB8 c8 d8 c2 d2 hs2 hs3 hs4 hs5 hs6 hs7 hs8 hs1'
 go_wp2_with fail
 refine (whole_any 8 11050 x8).mono ?_
 rintro e w9 ⟨rfl,c9,d9,hC⟩
 have hs8' := HS8.out.below hC
 obtain ⟨b9,hb9⟩ : ∃ b,x8.heap.size = b := ⟨_,rfl⟩
 have hlt9 : b9 + 1 < w9.heap.size := by rw [← hb9]; exact World.block_lt_of_cell? w9 _ d9
 have HB9 := Lib.hid (HB8.out.trans (hC.mono HB8.out.size))
 have e8 := kc HC8.out hC
 have f8 := kc HD8.out hC
 rw [hb9] at c9 d9 hb8 ⊢
 clear hr2 hr3 hr4 hr5 hr6 hr7 hr8 hC hb9
 obtain ⟨x9,hr9,hs9,hg9⟩ := StM.ins hs8' 9 (.agg #[fnV 63,fnV 64,whV b9]) (by decide) (by simp)
 unfold fnV whV at hr9
 have keep9 : ∀ (b : Nat) (v : Value),b < w9.heap.size → w.heap.size < b → w9.cell? ⟨b,0,none⟩ = some v → x9.cell? ⟨b,0,none⟩ = some v := fun b v h1 h2 h3 => (World.cell?_of_block (a := ⟨b,0,none⟩) (hg9.block b h1 (fun e => by injection e with e; omega))).trans h3
 have hfin : StAt x9 w.heap.size b2 b9 := ⟨hs9,keep9 b2 _ (by omega) (by omega) e8,keep9 (b2 + 1) _ (by omega) (by omega) f8,keep9 b9 _ (by omega) (by omega) c9,keep9 (b9 + 1) _ (by omega) (by omega) d9⟩
 have HF := Lib.hid hfin
 have HBB := Lib.hid (And.intro (show w.heap.size ≤ b2 by omega) (show w.heap.size ≤ b9 by omega))
 have HB := Lib.hid (HB9.out.grown hg9 HB9.out.size (fun q hq => by cases hq; exact Nat.le_refl _))
 clear hs8' hs9 hg9 keep9 hfin c9 d9 e8 f8
 go_wp2
 go_ret
 exact ⟨_,_,_,rfl,HF.out,Nat.le_refl _,HB.out,HBB.out.1,HBB.out.2⟩
theorem run_eql_nil {P : Program} (w : World) (t e : TypeId) (a : Option Addr) (n c : Nat) (ht : P.underlying t = some (.slice e)) : (binOp .eql t (.slice a n c) (.slice none 0 0)).run P w = .ok (.bool a.isNone) w := by
 have h : ∀ d : Nat,(Op.equalIn (d + 1) t (.slice a n c) (.slice none 0 0)).run P w = .ok a.isNone w := fun d => by
  cases a <;> simp [Op.equalIn,run_underlying ht]
 simp only [binOp]
 simp [Op.equal,Op.maxDepth,h 9999]
theorem Tryz.info_Found : (Tryz.prog.info? 39).map (fun i => (i.zero,i.size,i.bytes)) = some (some (.agg #[.int .u16 0,.int .u16 0,.int .u16 0,.int .i64 0,.int .u64 0,.int .u64 0]),6,32) := by kernel_rfl
theorem Tryz.info_Task : (Tryz.prog.info? 46).map (fun i => (i.zero,i.size,i.bytes)) = some (some (.agg #[.int .i64 0,.int .u16 0,.int .u16 0,.int .u16 0,.slice none 0 0,.int .i64 0,.slice none 0 0,.bool false]),8,80) := by kernel_rfl
theorem Tryz.info_AttItem : (Tryz.prog.info? 142).map (fun i => (i.zero,i.size,i.bytes)) = some (some (.agg #[.int .u16 0,.int .u16 0,.int .u64 0,.int .u64 0,.slice none 0 0]),5,48) := by kernel_rfl
theorem Tryz.info_AttPDU : (Tryz.prog.info? 49).map (fun i => (i.zero,i.size,i.bytes)) = some (some (.agg #[.int .i64 0,.int .i64 0,.int .u16 0,.int .u16 0,.int .u64 0,.int .u64 0,.int .i64 0,.int .i64 0,.int .i64 0,.bool false,.slice none 0 0,.slice none 0 0]),12,120) := by kernel_rfl
theorem Tryz.info_Result : (Tryz.prog.info? 43).map (fun i => (i.zero,i.size,i.bytes)) = some (some (.agg #[.int .i64 0,.int .i64 0,.int .u16 0,.slice none 0 0,.slice none 0 0,.int .i64 0]),6,80) := by kernel_rfl
theorem clone_Found (v : Value) (n : Nat) (cs : List Value) (w : World) (h : SR w v n 6 cs) (hb : n ≤ 1000000) :
 Calls Tryz.prog 101 #[v] w fun e w' => ∃ v',e = .returned v' ∧ w'.ownsRow w.heap.size 39 6 v' n cs ∧ Below w.heap.size w w' ∧ (v = .slice none 0 0 → v' = .slice none 0 0) := by
 obtain ⟨i6,hi,hz0,hz1,hz2⟩ := info_parts Tryz.info_Found
 obtain ⟨hm,hl,h1,ao,cap,rfl,hnil,hcell⟩ := h
 cases ao with
 |none =>
  obtain ⟨rfl,rfl⟩ := hnil rfl
  have e : cs = [] := List.eq_nil_of_length_eq_zero (by omega)
  subst e
  have hq : ∀ w : World,(binOp .eql 36 (.slice none 0 0) (.slice none 0 0)).run Tryz.prog w = .ok (.bool true) w := fun w => run_eql_nil w _ _ none 0 0 Tryz.underlying36
  clear hnil hcell
  go_enter Tryz.func101,Tryz.ntmps101
  go_wp2
  go_ret
  exact ⟨_,rfl,⟨rfl,.inl ⟨rfl,rfl⟩⟩,Below.refl _ _,fun _ => rfl⟩
 |some ad =>
  have hb0 : Below w.heap.size w (w.alloc (.cells #[] 39)) := (Below.refl _ _).alloc (Nat.le_refl _) _
  have hq : ∀ w : World,(binOp .eql 36 (.slice (some ad) n cap) (.slice none 0 0)).run Tryz.prog w = .ok (.bool false) w := fun w => run_eql_nil w _ _ (some ad) _ _ Tryz.underlying36
  have own0 := World.ownsRow_made (base := w.heap.size) (e := 39) (size := 6) w #[] 0 (Nat.le_refl _) (by unfold maxLen; omega) rfl
  have hnew : ∀ j u,cs[j]? = some u → (w.alloc (.cells #[] 39)).cell? (ad.add j) = some u := fun j u hj => by
   have hlt := (List.getElem?_eq_some_iff.1 hj).1
   rw [hl] at hlt
   obtain ⟨b,off,e,hb1,hc⟩ := hcell (by omega)
   simp only [Option.some.injEq] at e
   subst e
   rw [addr_add]
   exact kc (hc j u hj) hb0
  have HNEW := Lib.hid hnew
  have HLC := Lib.hid hl
  clear hnil hcell hnew hl
  go_enter Tryz.func101,Tryz.ntmps101
  go_wp2_with (at_builtin; refine wpList_append_own_at _ rfl _ _ 36 rfl w.heap.size 39 i6 _ 6 32 Tryz.underlying36 hi hz0 hz1 hz2 rfl (by decide) _ _ _ rfl own0 ad n cap cs rfl HLC.out HNEW.out h1 (by unfold maxLen; omega) (by omega) (by simp) ?_)
  intro v' w' hown hg hnn hob
  have hfin := hb0.grown hg (by simp) (fun q hq => (own0.lt q hq).1)
  have HO := Lib.hid hown
  clear hown hg hnn hob own0
  go_wp2
  go_ret
  exact ⟨_,rfl,HO.out,hfin,fun e => by cases e⟩
theorem clone_Task (v : Value) (n : Nat) (cs : List Value) (w : World) (h : SR w v n 8 cs) (hb : n ≤ 1000000) :
 Calls Tryz.prog 58 #[v] w fun e w' => ∃ v',e = .returned v' ∧ w'.ownsRow w.heap.size 46 8 v' n cs ∧ Below w.heap.size w w' ∧ (v = .slice none 0 0 → v' = .slice none 0 0) := by
 obtain ⟨i6,hi,hz0,hz1,hz2⟩ := info_parts Tryz.info_Task
 obtain ⟨hm,hl,h1,ao,cap,rfl,hnil,hcell⟩ := h
 cases ao with
 |none =>
  obtain ⟨rfl,rfl⟩ := hnil rfl
  have e : cs = [] := List.eq_nil_of_length_eq_zero (by omega)
  subst e
  have hq : ∀ w : World,(binOp .eql 50 (.slice none 0 0) (.slice none 0 0)).run Tryz.prog w = .ok (.bool true) w := fun w => run_eql_nil w _ _ none 0 0 Tryz.underlying50
  clear hnil hcell
  go_enter Tryz.func58,Tryz.ntmps58
  go_wp2
  go_ret
  exact ⟨_,rfl,⟨rfl,.inl ⟨rfl,rfl⟩⟩,Below.refl _ _,fun _ => rfl⟩
 |some ad =>
  have hb0 : Below w.heap.size w (w.alloc (.cells #[] 46)) := (Below.refl _ _).alloc (Nat.le_refl _) _
  have hq : ∀ w : World,(binOp .eql 50 (.slice (some ad) n cap) (.slice none 0 0)).run Tryz.prog w = .ok (.bool false) w := fun w => run_eql_nil w _ _ (some ad) _ _ Tryz.underlying50
  have own0 := World.ownsRow_made (base := w.heap.size) (e := 46) (size := 8) w #[] 0 (Nat.le_refl _) (by unfold maxLen; omega) rfl
  have hnew : ∀ j u,cs[j]? = some u → (w.alloc (.cells #[] 46)).cell? (ad.add j) = some u := fun j u hj => by
   have hlt := (List.getElem?_eq_some_iff.1 hj).1
   rw [hl] at hlt
   obtain ⟨b,off,e,hb1,hc⟩ := hcell (by omega)
   simp only [Option.some.injEq] at e
   subst e
   rw [addr_add]
   exact kc (hc j u hj) hb0
  have HNEW := Lib.hid hnew
  have HLC := Lib.hid hl
  clear hnil hcell hnew hl
  go_enter Tryz.func58,Tryz.ntmps58
  go_wp2_with (at_builtin; refine wpList_append_own_at _ rfl _ _ 50 rfl w.heap.size 46 i6 _ 8 80 Tryz.underlying50 hi hz0 hz1 hz2 rfl (by decide) _ _ _ rfl own0 ad n cap cs rfl HLC.out HNEW.out h1 (by unfold maxLen; omega) (by omega) (by simp) ?_)
  intro v' w' hown hg hnn hob
  have hfin := hb0.grown hg (by simp) (fun q hq => (own0.lt q hq).1)
  have HO := Lib.hid hown
  clear hown hg hnn hob own0
  go_wp2
  go_ret
  exact ⟨_,rfl,HO.out,hfin,fun e => by cases e⟩
theorem clone_AttItem (v : Value) (n : Nat) (cs : List Value) (w : World) (h : SR w v n 5 cs) (hb : n ≤ 1000000) :
 Calls Tryz.prog 102 #[v] w fun e w' => ∃ v',e = .returned v' ∧ w'.ownsRow w.heap.size 142 5 v' n cs ∧ Below w.heap.size w w' ∧ (v = .slice none 0 0 → v' = .slice none 0 0) := by
 obtain ⟨i6,hi,hz0,hz1,hz2⟩ := info_parts Tryz.info_AttItem
 obtain ⟨hm,hl,h1,ao,cap,rfl,hnil,hcell⟩ := h
 cases ao with
 |none =>
  obtain ⟨rfl,rfl⟩ := hnil rfl
  have e : cs = [] := List.eq_nil_of_length_eq_zero (by omega)
  subst e
  have hq : ∀ w : World,(binOp .eql 47 (.slice none 0 0) (.slice none 0 0)).run Tryz.prog w = .ok (.bool true) w := fun w => run_eql_nil w _ _ none 0 0 Tryz.underlying47
  clear hnil hcell
  go_enter Tryz.func102,Tryz.ntmps102
  go_wp2
  go_ret
  exact ⟨_,rfl,⟨rfl,.inl ⟨rfl,rfl⟩⟩,Below.refl _ _,fun _ => rfl⟩
 |some ad =>
  have hb0 : Below w.heap.size w (w.alloc (.cells #[] 142)) := (Below.refl _ _).alloc (Nat.le_refl _) _
  have hq : ∀ w : World,(binOp .eql 47 (.slice (some ad) n cap) (.slice none 0 0)).run Tryz.prog w = .ok (.bool false) w := fun w => run_eql_nil w _ _ (some ad) _ _ Tryz.underlying47
  have own0 := World.ownsRow_made (base := w.heap.size) (e := 142) (size := 5) w #[] 0 (Nat.le_refl _) (by unfold maxLen; omega) rfl
  have hnew : ∀ j u,cs[j]? = some u → (w.alloc (.cells #[] 142)).cell? (ad.add j) = some u := fun j u hj => by
   have hlt := (List.getElem?_eq_some_iff.1 hj).1
   rw [hl] at hlt
   obtain ⟨b,off,e,hb1,hc⟩ := hcell (by omega)
   simp only [Option.some.injEq] at e
   subst e
   rw [addr_add]
   exact kc (hc j u hj) hb0
  have HNEW := Lib.hid hnew
  have HLC := Lib.hid hl
  clear hnil hcell hnew hl
  go_enter Tryz.func102,Tryz.ntmps102
  go_wp2_with (at_builtin; refine wpList_append_own_at _ rfl _ _ 47 rfl w.heap.size 142 i6 _ 5 48 Tryz.underlying47 hi hz0 hz1 hz2 rfl (by decide) _ _ _ rfl own0 ad n cap cs rfl HLC.out HNEW.out h1 (by unfold maxLen; omega) (by omega) (by simp) ?_)
  intro v' w' hown hg hnn hob
  have hfin := hb0.grown hg (by simp) (fun q hq => (own0.lt q hq).1)
  have HO := Lib.hid hown
  clear hown hg hnn hob own0
  go_wp2
  go_ret
  exact ⟨_,rfl,HO.out,hfin,fun e => by cases e⟩
end Go.Proofs.YtldcihjddebciaaGreat
