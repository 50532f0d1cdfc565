/- client with a server: plain: the server's answers for reading and writing, and the play of a task. And what follows it. -/
import Derived.Test.YtldcihjddebciaaGreatDClZ
import Derived.Test.YtldcihjddebciaaGreatDUuJ
import Derived.Deep.CutBlock
import Derived.Deep.DeepCutAuto
import Derived.IntWalk
import Derived.RangeFuncBox
set_option linter.unusedSimpArgs false
set_option linter.unusedVariables false
set_option maxRecDepth 100000
set_option maxHeartbeats 2000000
namespace Go.Proofs.YtldcihjddebciaaGreat
open Go.RowKit
/-- an attribute -/
structure At where
 ha : Int
 hi : Int
 lo : Int
 pe : Int
 bs : List Nat
instance : Inhabited At := ⟨⟨0,0,0,0,[]⟩⟩
/-- a prepared piece -/
structure Pq where
 ha : Nat
 of : Int
 vs : List Nat
instance : Inhabited Pq := ⟨⟨0,0,[]⟩⟩
/-- a server: its attributes, MTU, greatest MTU, queue -/
structure Ss where
 db : List At
 mt : Int
 mx : Int
 qu : List Pq
def atI (db : List At) (i : Nat) : At := db.getD i default
def findN (db : List At) (h : Int) : Nat := db.findIdx fun a => a.ha == h
def rdB (a : At) : Bool := a.pe % 2 == 1
def errP (p : Pd) (ha : Nat) (co : Int) : Pd := { pd0 with kd := 1,ask := p.kd,ha := ha,co := co }
/-- the handle is that of an attribute which is no hash and no configuration, or of none -/
def plainA (a : At) : Prop := ¬ (a.hi = 47459388624896 ∧ a.lo = 9223372588214596859) ∧ ¬ (a.hi = 45088566677504 ∧ a.lo = 9223372588214596859)
/-- a client that waits for nothing -/
def idle (mt mx : Int) (now : Int) : Cl := ⟨mt,mx,tk0,pd0,false,now,false,[]⟩
theorem ok_idle (mt mx now : Int) : ClOk (idle mt mx now) := ⟨by simp [idle],by simp [idle],by simp [idle,tk0],by simp [idle,tk0],by simp [idle,pd0],⟨0,rfl,by omega⟩,by simp [idle,tk0]⟩
/-- a client with a task -/
def act (mt mx now : Int) (t : Tk) (p : Pd) : Cl := ⟨mt,mx,t,p,true,now,false,[]⟩
theorem ok_act (mt mx now : Int) {t : Tk} {p : Pd} (h1 : t.vs.length ≤ 512) (h2 : t.fo = []) (h3 : p.vs.length ≤ 512) (h4 : ∃ O : Nat,t.of = (O : Int) ∧ O ≤ 512) (h5 : t.la < 65536) : ClOk (act mt mx now t p) := by
 obtain ⟨O,h6,h7⟩ := h4
 have a1 : (act mt mx now t p).tk.vs.length ≤ 1000000 := by show t.vs.length ≤ _; omega
 have a2 : (act mt mx now t p).tk.fo.length ≤ 50000 := by show t.fo.length ≤ _; rw [h2]; exact Nat.zero_le _
 have a3 : (act mt mx now t p).ad.vs.length ≤ 1000000 := by show p.vs.length ≤ _; omega
 exact ⟨(fun _ ht => by cases ht),Nat.zero_le _,a1,a2,a3,⟨O,h6,by omega⟩,h5⟩
end Go.Proofs.YtldcihjddebciaaGreat
namespace Go.Proofs.YtldcihjddebciaaGreat
open Go.RowKit
/-- the 16-bit UUID whose upper word is n -/
def isU (n hi lo : Int) : Bool := hi == n && lo == 9223372588214596859
def svU (hi lo : Int) : Bool := isU 43980465115136 hi lo || isU 43984760082432 hi lo
def chU (hi lo : Int) : Bool := isU 43993350017024 hi lo
def dcU (hi lo : Int) : Bool := isU 43980465115136 hi lo || (isU 43984760082432 hi lo || (isU 43989055049728 hi lo || isU 43993350017024 hi lo))
def cfU (hi lo : Int) : Bool := isU 45088566677504 hi lo
def kpU (hi lo : Int) : Bool := dcU hi lo || cfU hi lo
/-- the parts of a characteristic's declaration: properties, handle, type, whether they are right -/
def chP (bs : List Nat) : Int × Int × Int × Int × Bool :=
 if bs.length < 3 then (0,0,0,0,false) else ((bs.getD 0 0 : Nat),(vnum ((bs.drop 1).take 2) : Nat),((decR (bs.drop 3)).1 : Nat),((decR (bs.drop 3)).2.1 : Nat),(decR (bs.drop 3)).2.2 == 0)
def svA (db : List At) (i : Nat) : Bool := svU (atI db i).hi (atI db i).lo
def chA (db : List At) (i : Nat) : Bool := chU (atI db i).hi (atI db i).lo
/-- the last handle ahead of the next service -/
def lastOf (ha : Int) : List At → Int
 |[] => ha
 |b :: r => if svU b.hi b.lo then ha else lastOf b.ha r
/-- what Check's acceptance says -/
structure Gdb (db : List At) : Prop where
 pos : ∀ i,i < db.length → 0 < (atI db i).ha
 len : ∀ i,i < db.length → (atI db i).bs.length ≤ 512
 asc : ∀ i,i + 1 < db.length → (atI db i).ha < (atI db (i + 1)).ha
 chr : ∀ i,i < db.length → chA db i = true → i + 1 < db.length ∧ (atI db (i + 1)).ha = (chP (atI db i).bs).2.1 ∧ (atI db (i + 1)).hi = (chP (atI db i).bs).2.2.1 ∧ (atI db (i + 1)).lo = (chP (atI db i).bs).2.2.2.1 ∧ kpU (atI db (i + 1)).hi (atI db (i + 1)).lo = false ∧ (chP (atI db i).bs).2.2.2.2 = true
 prm : ∀ i,i < db.length → 0 ≤ (atI db i).pe ∧ (atI db i).pe ≤ 15
 big : db.length ≤ 1000
 svd : ∀ i,i < db.length → svA db i = true → (decR (atI db i).bs).2.2 = 0
theorem Gdb.lt {db : List At} (h : Gdb db) {i : Nat} : ∀ j,i < j → j < db.length → (atI db i).ha < (atI db j).ha
 |0,hi,_ => by omega
 |j+1,hi,hj => by
  have h1 := h.asc j hj
  by_cases c : i = j
  ·rw [c]; exact h1
  ·exact Int.lt_trans (h.lt j (by omega) (by omega)) h1
theorem sv_not_ch {hi lo : Int} (h : svU hi lo = true) : chU hi lo = false := by
 unfold svU isU at h
 unfold chU isU
 simp only [Bool.or_eq_true,Bool.and_eq_true,beq_iff_eq] at h
 rw [Bool.and_eq_false_iff]
 left
 rw [beq_eq_false_iff_ne]
 omega
theorem is_any (hi lo : Int) (n : Nat) (hn : n < 65536) (w : World) :
 Calls Tryz.prog 18 #[.agg #[.int .u64 hi,.int .u64 lo],.int .u16 n] w fun e w' => e = .returned (.bool (isU ((n : Int) * 4294967296 + 4096) hi lo)) ∧ Below w.heap.size w w' := by
 have hb0 : Below w.heap.size w (w.alloc (.cells #[.int .u64 hi,.int .u64 lo] 26)) := (Below.refl _ _).alloc (Nat.le_refl _) _
 have T := cells_new w [.int .u64 hi,.int .u64 lo] 26
 have hsh := fun W => rshort_any n hn W
 unfold isU
 obtain ⟨M,hM⟩ : ∃ M : Int,(n : Int) * 4294967296 + 4096 = M := ⟨_,rfl⟩
 obtain ⟨K0,hK0⟩ : ∃ M : Int,(9223372588214596859 : Int) = M := ⟨_,rfl⟩
 rw [hM,hK0]
 simp only [hM,hK0] at hsh
 obtain ⟨c1,hc1⟩ : ∃ c,(hi == M) = c := ⟨_,rfl⟩
 obtain ⟨c2,hc2⟩ : ∃ c,(lo == K0) = c := ⟨_,rfl⟩
 rw [hc1,hc2]
 have HSH := Lib.hid hsh
 clear hsh hM hK0
 cases c1 <;> cases c2
 all_goals
  go_enter Tryz.func18,Tryz.ntmps18
  go_upto_region 1 with fail
  generalize hX : w.alloc (.cells _ 26) = X at T hb0 ⊢
  clear hX
  refine wp_region_held_drew (S := (fun W' : World => Cells W' (blk w.heap.size 0 0 [.int .u64 hi,.int .u64 lo]))) (by kernel_rfl) (T.drew) (fun hHeld => ?_)
  refine tkU 0 ?_
  refine tkU 1 ?_
  refine rd1 2 fun K hK => ?_
  go_simp
  go_at_call 6
  refine (HSH.out _).mono ?_
  rintro e w2 ⟨rfl,hB2⟩
  have T2 := T.keep (((Below.refl _ X).drew).trans hB2)
  have hB3 := hb0.drew.trans (hB2.mono hb0.drew.size)
  clear hHeld
  refine hK.out _ _ (T2) (fun hHeld => ?_)
  clear hK K
  try simp only [Act.put,List.setIfInBounds_toArray,List.set_cons_zero,List.set_cons_succ]
  refine tkU 3 ?_
  refine tkU 4 ?_
  refine wpAnyH_done (by kernel_rfl) ?_ _
  go_wp2
  go_ret
  exact ⟨ret_bool rfl,hB3⟩
theorem is_p (hi lo : Int) (w : World) : Calls Tryz.prog 18 #[.agg #[.int .u64 hi,.int .u64 lo],.int .u16 10240] w fun e w' => e = .returned (.bool (isU 43980465115136 hi lo)) ∧ Below w.heap.size w w' := is_any hi lo 10240 (by decide) w
theorem is_s (hi lo : Int) (w : World) : Calls Tryz.prog 18 #[.agg #[.int .u64 hi,.int .u64 lo],.int .u16 10241] w fun e w' => e = .returned (.bool (isU 43984760082432 hi lo)) ∧ Below w.heap.size w w' := is_any hi lo 10241 (by decide) w
theorem is_i (hi lo : Int) (w : World) : Calls Tryz.prog 18 #[.agg #[.int .u64 hi,.int .u64 lo],.int .u16 10242] w fun e w' => e = .returned (.bool (isU 43989055049728 hi lo)) ∧ Below w.heap.size w w' := is_any hi lo 10242 (by decide) w
theorem is_c (hi lo : Int) (w : World) : Calls Tryz.prog 18 #[.agg #[.int .u64 hi,.int .u64 lo],.int .u16 10243] w fun e w' => e = .returned (.bool (isU 43993350017024 hi lo)) ∧ Below w.heap.size w w' := is_any hi lo 10243 (by decide) w
theorem is_g (hi lo : Int) (w : World) : Calls Tryz.prog 18 #[.agg #[.int .u64 hi,.int .u64 lo],.int .u16 10498] w fun e w' => e = .returned (.bool (isU 45088566677504 hi lo)) ∧ Below w.heap.size w w' := is_any hi lo 10498 (by decide) w
theorem isCh_any (ha hi lo pe : Int) (bv : Value) (w : World) : Calls Tryz.prog 5 #[.agg #[.int .u16 ha,.int .u64 hi,.int .u64 lo,.int .i64 pe,bv]] w fun e w' => e = .returned (.bool (chU hi lo)) ∧ Below w.heap.size w w' := by
 have hb0 : Below w.heap.size w (w.alloc (.cells #[.int .u16 ha,.int .u64 hi,.int .u64 lo,.int .i64 pe,bv] 29)) := (Below.refl _ _).alloc (Nat.le_refl _) _
 unfold chU
 obtain ⟨B,hB⟩ : ∃ B,isU 43993350017024 hi lo = B := ⟨_,rfl⟩
 have h1 := fun W => is_c hi lo W
 simp only [hB] at h1
 rw [hB]
 have H1 := Lib.hid h1
 clear h1 hB
 go_enter Tryz.func5,Tryz.ntmps5
 go_wp2_with fail
 refine (H1.out _).mono ?_
 rintro e w2 ⟨rfl,hB2⟩
 go_wp2
 go_ret
 exact ⟨rfl,hb0.trans (hB2.mono hb0.size)⟩
theorem isSv_any (ha hi lo pe : Int) (bv : Value) (w : World) : Calls Tryz.prog 23 #[.agg #[.int .u16 ha,.int .u64 hi,.int .u64 lo,.int .i64 pe,bv]] w fun e w' => e = .returned (.bool (svU hi lo)) ∧ Below w.heap.size w w' := by
 have hb0 : Below w.heap.size w (w.alloc (.cells #[.int .u16 ha,.int .u64 hi,.int .u64 lo,.int .i64 pe,bv] 29)) := (Below.refl _ _).alloc (Nat.le_refl _) _
 have T := cells_new w [.int .u16 ha,.int .u64 hi,.int .u64 lo,.int .i64 pe,bv] 29
 unfold svU
 obtain ⟨B,hB⟩ : ∃ B,isU 43980465115136 hi lo = B := ⟨_,rfl⟩
 obtain ⟨C,hC⟩ : ∃ C,isU 43984760082432 hi lo = C := ⟨_,rfl⟩
 have h1 := fun W => is_p hi lo W
 have h2 := fun W => is_s hi lo W
 simp only [hB] at h1
 simp only [hC] at h2
 rw [hB,hC]
 have H1 := Lib.hid h1
 have H2 := Lib.hid h2
 have HT := Lib.hid T
 clear h1 h2 hB hC T
 cases B with
 |true =>
  go_enter Tryz.func23,Tryz.ntmps23
  go_wp2_with fail
  refine (H1.out _).mono ?_
  rintro e w2 ⟨rfl,hB2⟩
  go_wp2
  go_ret
  exact ⟨rfl,hb0.trans (hB2.mono hb0.size)⟩
 |false =>
  go_enter Tryz.func23,Tryz.ntmps23
  go_wp2_with fail
  refine (H1.out _).mono ?_
  rintro e w2 ⟨rfl,hB2⟩
  have T2 := HT.out.keep hB2
  have hOpen := T2
  simp only [Cells,blk,List.cons_append,List.nil_append,and_true,Nat.reduceAdd,Nat.add_zero,Nat.zero_add] at hOpen
  obtain ⟨m0,m1,m2,m3,m4⟩ := hOpen
  have hB3 := hb0.trans (hB2.mono hb0.size)
  clear T2 hB2
  go_wp2_with fail
  refine (H2.out _).mono ?_
  rintro e w3 ⟨rfl,hB4⟩
  clear m0 m1 m2 m3 m4
  go_wp2
  go_ret
  exact ⟨rfl,hB3.trans (hB4.mono hB3.size)⟩
theorem declares_any (hi lo : Int) (w : World) : Calls Tryz.prog 28 #[.agg #[.int .u64 hi,.int .u64 lo]] w fun e w' => e = .returned (.bool (dcU hi lo)) ∧ Below w.heap.size w w' := by
 have hb0 : Below w.heap.size w (w.alloc (.cells #[.int .u64 hi,.int .u64 lo] 26)) := (Below.refl _ _).alloc (Nat.le_refl _) _
 have T := cells_new w [.int .u64 hi,.int .u64 lo] 26
 unfold dcU
 obtain ⟨B0,hB0⟩ : ∃ B,isU 43980465115136 hi lo = B := ⟨_,rfl⟩
 have h0 := fun W => is_p hi lo W
 simp only [hB0] at h0
 rw [hB0]
 have H0 := Lib.hid h0
 clear h0 hB0
 obtain ⟨B1,hB1⟩ : ∃ B,isU 43984760082432 hi lo = B := ⟨_,rfl⟩
 have h1 := fun W => is_s hi lo W
 simp only [hB1] at h1
 rw [hB1]
 have H1 := Lib.hid h1
 clear h1 hB1
 obtain ⟨B2,hB2⟩ : ∃ B,isU 43989055049728 hi lo = B := ⟨_,rfl⟩
 have h2 := fun W => is_i hi lo W
 simp only [hB2] at h2
 rw [hB2]
 have H2 := Lib.hid h2
 clear h2 hB2
 obtain ⟨B3,hB3⟩ : ∃ B,isU 43993350017024 hi lo = B := ⟨_,rfl⟩
 have h3 := fun W => is_c hi lo W
 simp only [hB3] at h3
 rw [hB3]
 have H3 := Lib.hid h3
 clear h3 hB3
 have HT := Lib.hid T
 clear T
 cases B0 with
 |true =>
  go_enter Tryz.func28,Tryz.ntmps28
  go_wp2_with fail
  refine (H0.out _).mono ?_
  rintro e w2 ⟨rfl,hC0⟩
  have hD0 := hb0.trans (hC0.mono hb0.size)
  go_wp2
  go_ret
  exact ⟨rfl,hD0⟩
 |false =>
 cases B1 with
 |true =>
  go_enter Tryz.func28,Tryz.ntmps28
  go_wp2_with fail
  refine (H0.out _).mono ?_
  rintro e w2 ⟨rfl,hC0⟩
  have hD0 := hb0.trans (hC0.mono hb0.size)
  have hK0 := hC0
  have T0 := HT.out.keep hK0
  have hOpen := T0
  simp only [Cells,blk,List.cons_append,List.nil_append,and_true,Nat.reduceAdd,Nat.add_zero,Nat.zero_add] at hOpen
  obtain ⟨m0a,m0b⟩ := hOpen
  clear T0 hC0
  go_wp2_with fail
  refine (H1.out _).mono ?_
  rintro e w3 ⟨rfl,hC1⟩
  have hD1 := hD0.trans (hC1.mono hD0.size)
  go_wp2
  go_ret
  exact ⟨rfl,hD1⟩
 |false =>
 cases B2 with
 |true =>
  go_enter Tryz.func28,Tryz.ntmps28
  go_wp2_with fail
  refine (H0.out _).mono ?_
  rintro e w2 ⟨rfl,hC0⟩
  have hD0 := hb0.trans (hC0.mono hb0.size)
  have hK0 := hC0
  have T0 := HT.out.keep hK0
  have hOpen := T0
  simp only [Cells,blk,List.cons_append,List.nil_append,and_true,Nat.reduceAdd,Nat.add_zero,Nat.zero_add] at hOpen
  obtain ⟨m0a,m0b⟩ := hOpen
  clear T0 hC0
  go_wp2_with fail
  refine (H1.out _).mono ?_
  rintro e w3 ⟨rfl,hC1⟩
  have hD1 := hD0.trans (hC1.mono hD0.size)
  have hK1 := hK0.trans (hC1.mono hK0.size)
  have T1 := HT.out.keep hK1
  have hOpen := T1
  simp only [Cells,blk,List.cons_append,List.nil_append,and_true,Nat.reduceAdd,Nat.add_zero,Nat.zero_add] at hOpen
  obtain ⟨m1a,m1b⟩ := hOpen
  clear T1 hC1
  clear m0a m0b
  go_wp2_with fail
  refine (H2.out _).mono ?_
  rintro e w4 ⟨rfl,hC2⟩
  have hD2 := hD1.trans (hC2.mono hD1.size)
  go_wp2
  go_ret
  exact ⟨rfl,hD2⟩
 |false =>
 go_enter Tryz.func28,Tryz.ntmps28
 go_wp2_with fail
 refine (H0.out _).mono ?_
 rintro e w2 ⟨rfl,hC0⟩
 have hD0 := hb0.trans (hC0.mono hb0.size)
 have hK0 := hC0
 have T0 := HT.out.keep hK0
 have hOpen := T0
 simp only [Cells,blk,List.cons_append,List.nil_append,and_true,Nat.reduceAdd,Nat.add_zero,Nat.zero_add] at hOpen
 obtain ⟨m0a,m0b⟩ := hOpen
 clear T0 hC0
 go_wp2_with fail
 refine (H1.out _).mono ?_
 rintro e w3 ⟨rfl,hC1⟩
 have hD1 := hD0.trans (hC1.mono hD0.size)
 have hK1 := hK0.trans (hC1.mono hK0.size)
 have T1 := HT.out.keep hK1
 have hOpen := T1
 simp only [Cells,blk,List.cons_append,List.nil_append,and_true,Nat.reduceAdd,Nat.add_zero,Nat.zero_add] at hOpen
 obtain ⟨m1a,m1b⟩ := hOpen
 clear T1 hC1
 clear m0a m0b
 go_wp2_with fail
 refine (H2.out _).mono ?_
 rintro e w4 ⟨rfl,hC2⟩
 have hD2 := hD1.trans (hC2.mono hD1.size)
 have hK2 := hK1.trans (hC2.mono hK1.size)
 have T2 := HT.out.keep hK2
 have hOpen := T2
 simp only [Cells,blk,List.cons_append,List.nil_append,and_true,Nat.reduceAdd,Nat.add_zero,Nat.zero_add] at hOpen
 obtain ⟨m2a,m2b⟩ := hOpen
 clear T2 hC2
 clear m1a m1b
 go_wp2_with fail
 refine (H3.out _).mono ?_
 rintro e w5 ⟨rfl,hC3⟩
 have hD3 := hD2.trans (hC3.mono hD2.size)
 go_wp2
 go_ret
 exact ⟨rfl,hD3⟩
theorem kept_any (hi lo : Int) (w : World) : Calls Tryz.prog 116 #[.agg #[.int .u64 hi,.int .u64 lo]] w fun e w' => e = .returned (.bool (kpU hi lo)) ∧ Below w.heap.size w w' := by
 have hb0 : Below w.heap.size w (w.alloc (.cells #[.int .u64 hi,.int .u64 lo] 26)) := (Below.refl _ _).alloc (Nat.le_refl _) _
 have T := cells_new w [.int .u64 hi,.int .u64 lo] 26
 unfold kpU
 obtain ⟨B0,hB0⟩ : ∃ B,dcU hi lo = B := ⟨_,rfl⟩
 have h0 := fun W => declares_any hi lo W
 simp only [hB0] at h0
 rw [hB0]
 have H0 := Lib.hid h0
 clear h0 hB0
 obtain ⟨B1,hB1⟩ : ∃ B,cfU hi lo = B := ⟨_,rfl⟩
 have h1 : ∀ W,Calls Tryz.prog 18 #[.agg #[.int .u64 hi,.int .u64 lo],.int .u16 10498] W fun e w' => e = .returned (.bool (cfU hi lo)) ∧ Below W.heap.size W w' := fun W => is_g hi lo W
 simp only [hB1] at h1
 rw [hB1]
 have H1 := Lib.hid h1
 clear h1 hB1
 have HT := Lib.hid T
 clear T
 cases B0 with
 |true =>
  go_enter Tryz.func116,Tryz.ntmps116
  go_wp2_with fail
  refine (H0.out _).mono ?_
  rintro e w2 ⟨rfl,hC0⟩
  have hD0 := hb0.trans (hC0.mono hb0.size)
  go_wp2
  go_ret
  exact ⟨rfl,hD0⟩
 |false =>
 go_enter Tryz.func116,Tryz.ntmps116
 go_wp2_with fail
 refine (H0.out _).mono ?_
 rintro e w2 ⟨rfl,hC0⟩
 have hD0 := hb0.trans (hC0.mono hb0.size)
 have hK0 := hC0
 have T0 := HT.out.keep hK0
 have hOpen := T0
 simp only [Cells,blk,List.cons_append,List.nil_append,and_true,Nat.reduceAdd,Nat.add_zero,Nat.zero_add] at hOpen
 obtain ⟨m0a,m0b⟩ := hOpen
 clear T0 hC0
 go_wp2_with fail
 refine (H1.out _).mono ?_
 rintro e w3 ⟨rfl,hC1⟩
 have hD1 := hD0.trans (hC1.mono hD0.size)
 go_wp2
 go_ret
 exact ⟨rfl,hD1⟩
end Go.Proofs.YtldcihjddebciaaGreat
