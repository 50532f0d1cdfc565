/- server: types of attributes, by the database's reference. And what follows it. -/
import Derived.Test.YtldcihjddebciaaGreatVSvC
import Derived.Test.YtldcihjddebciaaGreatVUuK
import Derived.Deep.CutBlock
import Derived.Deep.DeepCutAuto
import Derived.IntWalk
import Derived.RangeFuncBox
import Derived.Test.YtldcihjddebciaaGreatVClD
set_option linter.unusedSimpArgs false
set_option linter.unusedVariables false
set_option maxRecDepth 100000
set_option maxHeartbeats 4000000
namespace Go.Proofs.YtldcihjddebciaaGreat
open Go.RowKit
/-- the 16-bit UUID whose upper word is n -/
def isU (n hi lo : Int) : Bool := hi == n && lo == 9223372588214596859
def svU (hi lo : Int) : Bool := isU 43980465115136 hi lo || isU 43984760082432 hi lo
def chU (hi lo : Int) : Bool := isU 43993350017024 hi lo
def dcU (hi lo : Int) : Bool := isU 43980465115136 hi lo || (isU 43984760082432 hi lo || (isU 43989055049728 hi lo || isU 43993350017024 hi lo))
def cfU (hi lo : Int) : Bool := isU 45088566677504 hi lo
def kpU (hi lo : Int) : Bool := dcU hi lo || cfU hi lo
/-- the parts of a characteristic's declaration: properties, handle, type, whether they are right -/
def chP (bs : List Nat) : Int × Int × Int × Int × Bool :=
 if bs.length < 3 then (0,0,0,0,false) else ((bs.getD 0 0 : Nat),(vnum ((bs.drop 1).take 2) : Nat),((decR (bs.drop 3)).1 : Nat),((decR (bs.drop 3)).2.1 : Nat),(decR (bs.drop 3)).2.2 == 0)
def svA (db : List At) (i : Nat) : Bool := svU (atI db i).hi (atI db i).lo
def chA (db : List At) (i : Nat) : Bool := chU (atI db i).hi (atI db i).lo
/-- what Check's acceptance says -/
structure Gdb (db : List At) : Prop where
 pos : ∀ i,i < db.length → 0 < (atI db i).ha
 len : ∀ i,i < db.length → (atI db i).bs.length ≤ 512
 asc : ∀ i,i + 1 < db.length → (atI db i).ha < (atI db (i + 1)).ha
 chr : ∀ i,i < db.length → chA db i = true → i + 1 < db.length ∧ (atI db (i + 1)).ha = (chP (atI db i).bs).2.1 ∧ (atI db (i + 1)).hi = (chP (atI db i).bs).2.2.1 ∧ (atI db (i + 1)).lo = (chP (atI db i).bs).2.2.2.1 ∧ kpU (atI db (i + 1)).hi (atI db (i + 1)).lo = false ∧ (chP (atI db i).bs).2.2.2.2 = true
 prm : ∀ i,i < db.length → 0 ≤ (atI db i).pe ∧ (atI db i).pe ≤ 15
 big : db.length ≤ 1000
 svd : ∀ i,i < db.length → svA db i = true → (decR (atI db i).bs).2.2 = 0
theorem Gdb.lt {db : List At} (h : Gdb db) {i : Nat} : ∀ j,i < j → j < db.length → (atI db i).ha < (atI db j).ha
 |0,hi,_ => by omega
 |j+1,hi,hj => by
  have h1 := h.asc j hj
  by_cases c : i = j
  ·rw [c]; exact h1
  ·exact Int.lt_trans (h.lt j (by omega) (by omega)) h1
theorem sv_not_ch {hi lo : Int} (h : svU hi lo = true) : chU hi lo = false := by
 unfold svU isU at h
 unfold chU isU
 simp only [Bool.or_eq_true,Bool.and_eq_true,beq_iff_eq] at h
 rw [Bool.and_eq_false_iff]
 left
 rw [beq_eq_false_iff_ne]
 omega
theorem is_any (hi lo : Int) (n : Nat) (hn : n < 65536) (w : World) :
 Calls Tryz.prog 18 #[.agg #[.int .u64 hi,.int .u64 lo],.int .u16 n] w fun e w' => e = .returned (.bool (isU ((n : Int) * 4294967296 + 4096) hi lo)) ∧ Below w.heap.size w w' := by
 have hb0 : Below w.heap.size w (w.alloc (.cells #[.int .u64 hi,.int .u64 lo] 26)) := (Below.refl _ _).alloc (Nat.le_refl _) _
 have T := cells_new w [.int .u64 hi,.int .u64 lo] 26
 have hsh := fun W => rshort_any n hn W
 unfold isU
 obtain ⟨M,hM⟩ : ∃ M : Int,(n : Int) * 4294967296 + 4096 = M := ⟨_,rfl⟩
 obtain ⟨K0,hK0⟩ : ∃ M : Int,(9223372588214596859 : Int) = M := ⟨_,rfl⟩
 rw [hM,hK0]
 simp only [hM,hK0] at hsh
 obtain ⟨c1,hc1⟩ : ∃ c,(hi == M) = c := ⟨_,rfl⟩
 obtain ⟨c2,hc2⟩ : ∃ c,(lo == K0) = c := ⟨_,rfl⟩
 rw [hc1,hc2]
 have HSH := Lib.hid hsh
 clear hsh hM hK0
 cases c1 <;> cases c2
 all_goals
  go_enter Tryz.func18,Tryz.ntmps18
  go_upto_region 1 with fail
  generalize hX : w.alloc (.cells _ 26) = X at T hb0 ⊢
  clear hX
  refine wp_region_held_drew (S := (fun W' : World => Cells W' (blk w.heap.size 0 0 [.int .u64 hi,.int .u64 lo]))) (by kernel_rfl) (T.drew) (fun hHeld => ?_)
  refine tkU 0 ?_
  refine tkU 1 ?_
  refine rd1 2 fun K hK => ?_
  go_simp
  go_at_call 6
  refine (HSH.out _).mono ?_
  rintro e w2 ⟨rfl,hB2⟩
  have T2 := T.keep (((Below.refl _ X).drew).trans hB2)
  have hB3 := hb0.drew.trans (hB2.mono hb0.drew.size)
  clear hHeld
  refine hK.out _ _ (T2) (fun hHeld => ?_)
  clear hK K
  try simp only [Act.put,List.setIfInBounds_toArray,List.set_cons_zero,List.set_cons_succ]
  refine tkU 3 ?_
  refine tkU 4 ?_
  refine wpAnyH_done (by kernel_rfl) ?_ _
  go_wp2
  go_ret
  exact ⟨ret_bool rfl,hB3⟩
theorem is_p (hi lo : Int) (w : World) : Calls Tryz.prog 18 #[.agg #[.int .u64 hi,.int .u64 lo],.int .u16 10240] w fun e w' => e = .returned (.bool (isU 43980465115136 hi lo)) ∧ Below w.heap.size w w' := is_any hi lo 10240 (by decide) w
theorem is_s (hi lo : Int) (w : World) : Calls Tryz.prog 18 #[.agg #[.int .u64 hi,.int .u64 lo],.int .u16 10241] w fun e w' => e = .returned (.bool (isU 43984760082432 hi lo)) ∧ Below w.heap.size w w' := is_any hi lo 10241 (by decide) w
theorem is_i (hi lo : Int) (w : World) : Calls Tryz.prog 18 #[.agg #[.int .u64 hi,.int .u64 lo],.int .u16 10242] w fun e w' => e = .returned (.bool (isU 43989055049728 hi lo)) ∧ Below w.heap.size w w' := is_any hi lo 10242 (by decide) w
theorem is_c (hi lo : Int) (w : World) : Calls Tryz.prog 18 #[.agg #[.int .u64 hi,.int .u64 lo],.int .u16 10243] w fun e w' => e = .returned (.bool (isU 43993350017024 hi lo)) ∧ Below w.heap.size w w' := is_any hi lo 10243 (by decide) w
theorem is_g (hi lo : Int) (w : World) : Calls Tryz.prog 18 #[.agg #[.int .u64 hi,.int .u64 lo],.int .u16 10498] w fun e w' => e = .returned (.bool (isU 45088566677504 hi lo)) ∧ Below w.heap.size w w' := is_any hi lo 10498 (by decide) w
theorem isCh_any (ha hi lo pe : Int) (bv : Value) (w : World) : Calls Tryz.prog 5 #[.agg #[.int .u16 ha,.int .u64 hi,.int .u64 lo,.int .i64 pe,bv]] w fun e w' => e = .returned (.bool (chU hi lo)) ∧ Below w.heap.size w w' := by
 have hb0 : Below w.heap.size w (w.alloc (.cells #[.int .u16 ha,.int .u64 hi,.int .u64 lo,.int .i64 pe,bv] 29)) := (Below.refl _ _).alloc (Nat.le_refl _) _
 unfold chU
 obtain ⟨B,hB⟩ : ∃ B,isU 43993350017024 hi lo = B := ⟨_,rfl⟩
 have h1 := fun W => is_c hi lo W
 simp only [hB] at h1
 rw [hB]
 have H1 := Lib.hid h1
 clear h1 hB
 go_enter Tryz.func5,Tryz.ntmps5
 go_wp2_with fail
 refine (H1.out _).mono ?_
 rintro e w2 ⟨rfl,hB2⟩
 go_wp2
 go_ret
 exact ⟨rfl,hb0.trans (hB2.mono hb0.size)⟩
theorem isSv_any (ha hi lo pe : Int) (bv : Value) (w : World) : Calls Tryz.prog 23 #[.agg #[.int .u16 ha,.int .u64 hi,.int .u64 lo,.int .i64 pe,bv]] w fun e w' => e = .returned (.bool (svU hi lo)) ∧ Below w.heap.size w w' := by
 have hb0 : Below w.heap.size w (w.alloc (.cells #[.int .u16 ha,.int .u64 hi,.int .u64 lo,.int .i64 pe,bv] 29)) := (Below.refl _ _).alloc (Nat.le_refl _) _
 have T := cells_new w [.int .u16 ha,.int .u64 hi,.int .u64 lo,.int .i64 pe,bv] 29
 unfold svU
 obtain ⟨B,hB⟩ : ∃ B,isU 43980465115136 hi lo = B := ⟨_,rfl⟩
 obtain ⟨C,hC⟩ : ∃ C,isU 43984760082432 hi lo = C := ⟨_,rfl⟩
 have h1 := fun W => is_p hi lo W
 have h2 := fun W => is_s hi lo W
 simp only [hB] at h1
 simp only [hC] at h2
 rw [hB,hC]
 have H1 := Lib.hid h1
 have H2 := Lib.hid h2
 have HT := Lib.hid T
 clear h1 h2 hB hC T
 cases B with
 |true =>
  go_enter Tryz.func23,Tryz.ntmps23
  go_wp2_with fail
  refine (H1.out _).mono ?_
  rintro e w2 ⟨rfl,hB2⟩
  go_wp2
  go_ret
  exact ⟨rfl,hb0.trans (hB2.mono hb0.size)⟩
 |false =>
  go_enter Tryz.func23,Tryz.ntmps23
  go_wp2_with fail
  refine (H1.out _).mono ?_
  rintro e w2 ⟨rfl,hB2⟩
  have T2 := HT.out.keep hB2
  have hOpen := T2
  simp only [Cells,blk,List.cons_append,List.nil_append,and_true,Nat.reduceAdd,Nat.add_zero,Nat.zero_add] at hOpen
  obtain ⟨m0,m1,m2,m3,m4⟩ := hOpen
  have hB3 := hb0.trans (hB2.mono hb0.size)
  clear T2 hB2
  go_wp2_with fail
  refine (H2.out _).mono ?_
  rintro e w3 ⟨rfl,hB4⟩
  clear m0 m1 m2 m3 m4
  go_wp2
  go_ret
  exact ⟨rfl,hB3.trans (hB4.mono hB3.size)⟩
theorem declares_any (hi lo : Int) (w : World) : Calls Tryz.prog 28 #[.agg #[.int .u64 hi,.int .u64 lo]] w fun e w' => e = .returned (.bool (dcU hi lo)) ∧ Below w.heap.size w w' := by
 have hb0 : Below w.heap.size w (w.alloc (.cells #[.int .u64 hi,.int .u64 lo] 26)) := (Below.refl _ _).alloc (Nat.le_refl _) _
 have T := cells_new w [.int .u64 hi,.int .u64 lo] 26
 unfold dcU
 obtain ⟨B0,hB0⟩ : ∃ B,isU 43980465115136 hi lo = B := ⟨_,rfl⟩
 have h0 := fun W => is_p hi lo W
 simp only [hB0] at h0
 rw [hB0]
 have H0 := Lib.hid h0
 clear h0 hB0
 obtain ⟨B1,hB1⟩ : ∃ B,isU 43984760082432 hi lo = B := ⟨_,rfl⟩
 have h1 := fun W => is_s hi lo W
 simp only [hB1] at h1
 rw [hB1]
 have H1 := Lib.hid h1
 clear h1 hB1
 obtain ⟨B2,hB2⟩ : ∃ B,isU 43989055049728 hi lo = B := ⟨_,rfl⟩
 have h2 := fun W => is_i hi lo W
 simp only [hB2] at h2
 rw [hB2]
 have H2 := Lib.hid h2
 clear h2 hB2
 obtain ⟨B3,hB3⟩ : ∃ B,isU 43993350017024 hi lo = B := ⟨_,rfl⟩
 have h3 := fun W => is_c hi lo W
 simp only [hB3] at h3
 rw [hB3]
 have H3 := Lib.hid h3
 clear h3 hB3
 have HT := Lib.hid T
 clear T
 cases B0 with
 |true =>
  go_enter Tryz.func28,Tryz.ntmps28
  go_wp2_with fail
  refine (H0.out _).mono ?_
  rintro e w2 ⟨rfl,hC0⟩
  have hD0 := hb0.trans (hC0.mono hb0.size)
  go_wp2
  go_ret
  exact ⟨rfl,hD0⟩
 |false =>
 cases B1 with
 |true =>
  go_enter Tryz.func28,Tryz.ntmps28
  go_wp2_with fail
  refine (H0.out _).mono ?_
  rintro e w2 ⟨rfl,hC0⟩
  have hD0 := hb0.trans (hC0.mono hb0.size)
  have hK0 := hC0
  have T0 := HT.out.keep hK0
  have hOpen := T0
  simp only [Cells,blk,List.cons_append,List.nil_append,and_true,Nat.reduceAdd,Nat.add_zero,Nat.zero_add] at hOpen
  obtain ⟨m0a,m0b⟩ := hOpen
  clear T0 hC0
  go_wp2_with fail
  refine (H1.out _).mono ?_
  rintro e w3 ⟨rfl,hC1⟩
  have hD1 := hD0.trans (hC1.mono hD0.size)
  go_wp2
  go_ret
  exact ⟨rfl,hD1⟩
 |false =>
 cases B2 with
 |true =>
  go_enter Tryz.func28,Tryz.ntmps28
  go_wp2_with fail
  refine (H0.out _).mono ?_
  rintro e w2 ⟨rfl,hC0⟩
  have hD0 := hb0.trans (hC0.mono hb0.size)
  have hK0 := hC0
  have T0 := HT.out.keep hK0
  have hOpen := T0
  simp only [Cells,blk,List.cons_append,List.nil_append,and_true,Nat.reduceAdd,Nat.add_zero,Nat.zero_add] at hOpen
  obtain ⟨m0a,m0b⟩ := hOpen
  clear T0 hC0
  go_wp2_with fail
  refine (H1.out _).mono ?_
  rintro e w3 ⟨rfl,hC1⟩
  have hD1 := hD0.trans (hC1.mono hD0.size)
  have hK1 := hK0.trans (hC1.mono hK0.size)
  have T1 := HT.out.keep hK1
  have hOpen := T1
  simp only [Cells,blk,List.cons_append,List.nil_append,and_true,Nat.reduceAdd,Nat.add_zero,Nat.zero_add] at hOpen
  obtain ⟨m1a,m1b⟩ := hOpen
  clear T1 hC1
  clear m0a m0b
  go_wp2_with fail
  refine (H2.out _).mono ?_
  rintro e w4 ⟨rfl,hC2⟩
  have hD2 := hD1.trans (hC2.mono hD1.size)
  go_wp2
  go_ret
  exact ⟨rfl,hD2⟩
 |false =>
 go_enter Tryz.func28,Tryz.ntmps28
 go_wp2_with fail
 refine (H0.out _).mono ?_
 rintro e w2 ⟨rfl,hC0⟩
 have hD0 := hb0.trans (hC0.mono hb0.size)
 have hK0 := hC0
 have T0 := HT.out.keep hK0
 have hOpen := T0
 simp only [Cells,blk,List.cons_append,List.nil_append,and_true,Nat.reduceAdd,Nat.add_zero,Nat.zero_add] at hOpen
 obtain ⟨m0a,m0b⟩ := hOpen
 clear T0 hC0
 go_wp2_with fail
 refine (H1.out _).mono ?_
 rintro e w3 ⟨rfl,hC1⟩
 have hD1 := hD0.trans (hC1.mono hD0.size)
 have hK1 := hK0.trans (hC1.mono hK0.size)
 have T1 := HT.out.keep hK1
 have hOpen := T1
 simp only [Cells,blk,List.cons_append,List.nil_append,and_true,Nat.reduceAdd,Nat.add_zero,Nat.zero_add] at hOpen
 obtain ⟨m1a,m1b⟩ := hOpen
 clear T1 hC1
 clear m0a m0b
 go_wp2_with fail
 refine (H2.out _).mono ?_
 rintro e w4 ⟨rfl,hC2⟩
 have hD2 := hD1.trans (hC2.mono hD1.size)
 have hK2 := hK1.trans (hC2.mono hK1.size)
 have T2 := HT.out.keep hK2
 have hOpen := T2
 simp only [Cells,blk,List.cons_append,List.nil_append,and_true,Nat.reduceAdd,Nat.add_zero,Nat.zero_add] at hOpen
 obtain ⟨m2a,m2b⟩ := hOpen
 clear T2 hC2
 clear m1a m1b
 go_wp2_with fail
 refine (H3.out _).mono ?_
 rintro e w5 ⟨rfl,hC3⟩
 have hD3 := hD2.trans (hC3.mono hD2.size)
 go_wp2
 go_ret
 exact ⟨rfl,hD3⟩
theorem kept_any (hi lo : Int) (w : World) : Calls Tryz.prog 116 #[.agg #[.int .u64 hi,.int .u64 lo]] w fun e w' => e = .returned (.bool (kpU hi lo)) ∧ Below w.heap.size w w' := by
 have hb0 : Below w.heap.size w (w.alloc (.cells #[.int .u64 hi,.int .u64 lo] 26)) := (Below.refl _ _).alloc (Nat.le_refl _) _
 have T := cells_new w [.int .u64 hi,.int .u64 lo] 26
 unfold kpU
 obtain ⟨B0,hB0⟩ : ∃ B,dcU hi lo = B := ⟨_,rfl⟩
 have h0 := fun W => declares_any hi lo W
 simp only [hB0] at h0
 rw [hB0]
 have H0 := Lib.hid h0
 clear h0 hB0
 obtain ⟨B1,hB1⟩ : ∃ B,cfU hi lo = B := ⟨_,rfl⟩
 have h1 : ∀ W,Calls Tryz.prog 18 #[.agg #[.int .u64 hi,.int .u64 lo],.int .u16 10498] W fun e w' => e = .returned (.bool (cfU hi lo)) ∧ Below W.heap.size W w' := fun W => is_g hi lo W
 simp only [hB1] at h1
 rw [hB1]
 have H1 := Lib.hid h1
 clear h1 hB1
 have HT := Lib.hid T
 clear T
 cases B0 with
 |true =>
  go_enter Tryz.func116,Tryz.ntmps116
  go_wp2_with fail
  refine (H0.out _).mono ?_
  rintro e w2 ⟨rfl,hC0⟩
  have hD0 := hb0.trans (hC0.mono hb0.size)
  go_wp2
  go_ret
  exact ⟨rfl,hD0⟩
 |false =>
 go_enter Tryz.func116,Tryz.ntmps116
 go_wp2_with fail
 refine (H0.out _).mono ?_
 rintro e w2 ⟨rfl,hC0⟩
 have hD0 := hb0.trans (hC0.mono hb0.size)
 have hK0 := hC0
 have T0 := HT.out.keep hK0
 have hOpen := T0
 simp only [Cells,blk,List.cons_append,List.nil_append,and_true,Nat.reduceAdd,Nat.add_zero,Nat.zero_add] at hOpen
 obtain ⟨m0a,m0b⟩ := hOpen
 clear T0 hC0
 go_wp2_with fail
 refine (H1.out _).mono ?_
 rintro e w3 ⟨rfl,hC1⟩
 have hD1 := hD0.trans (hC1.mono hD0.size)
 go_wp2
 go_ret
 exact ⟨rfl,hD1⟩
/-- an attribute that is read -/
def AtAt (w : World) (b off k : Nat) (a : At) : Prop := ∃ (ra : Option Addr) (rc : Nat),w.cell? ⟨b,off + k * 5,none⟩ = some (.int .u16 a.ha) ∧ w.cell? ⟨b,off + k * 5 + 1,none⟩ = some (.int .u64 a.hi) ∧ w.cell? ⟨b,off + k * 5 + 2,none⟩ = some (.int .u64 a.lo) ∧
 w.cell? ⟨b,off + k * 5 + 3,none⟩ = some (.int .i64 a.pe) ∧ w.cell? ⟨b,off + k * 5 + 4,none⟩ = some (.slice ra a.bs.length rc) ∧ a.bs.length ≤ rc ∧ BytesAt w (.slice ra a.bs.length rc) a.bs
theorem AtAt.below {w w' : World} {b off k : Nat} {t : At} (h : AtAt w b off k t) (hb : Below w.heap.size w w') : AtAt w' b off k t := by
 obtain ⟨a,c,h0,h1,h2,h3,h4,h5,h6⟩ := h
 exact ⟨a,c,kc h0 hb,kc h1 hb,kc h2 hb,kc h3 hb,kc h4 hb,h5,h6.below hb⟩
/-- a database that is read -/
def Dbs (w : World) (v : Value) (db : List At) : Prop := db.length ≤ maxLen ∧ ∃ (ao : Option Addr) (cap : Nat),v = .slice ao db.length cap ∧
 (0 < db.length → ∃ b off,ao = some ⟨b,off,none⟩ ∧ b < w.heap.size ∧ ∀ k (h : k < db.length),AtAt w b off k db[k])
theorem Dbs.below {w w' : World} {v : Value} {db : List At} (h : Dbs w v db) (hb : Below w.heap.size w w') : Dbs w' v db := by
 obtain ⟨h1,ao,cap,rfl,h2⟩ := h
 refine ⟨h1,ao,cap,rfl,fun h0 => ?_⟩
 obtain ⟨b,off,rfl,hlt,hc⟩ := h2 h0
 exact ⟨b,off,rfl,Nat.lt_of_lt_of_le hlt hb.size,fun k hk => (hc k hk).below hb⟩
theorem atI_get {db : List At} {k : Nat} (h : k < db.length) : db[k] = atI db k := by
 unfold atI
 rw [List.getD_eq_getElem?_getD,List.getElem?_eq_getElem h]
 rfl
theorem Dbs.at {w : World} {a : Option Addr} {n c : Nat} {db : List At} (h : Dbs w (.slice a n c) db) (hn : db.length = n) (h0 : 0 < n) : ∃ b off,a = some ⟨b,off,none⟩ ∧ b < w.heap.size ∧ ∀ k,k < n → AtAt w b off k (atI db k) := by
 obtain ⟨_,ao,cap,e,hx⟩ := h
 rw [hn] at e
 cases e
 obtain ⟨b,off,rfl,hb,hc⟩ := hx (by omega)
 refine ⟨b,off,rfl,hb,fun k hk => ?_⟩
 have := hc k (by omega)
 rw [atI_get] at this
 exact this
theorem set2 {W X : World} {i : Nat} {t : TypeId} {x0 x1 y0 y1 : Value} (h : Blk W i t [x0,x1]) (hX : (W.setCell ⟨i,0,none⟩ y0).setCell ⟨i,1,none⟩ y1 = X) : Blk X i t [y0,y1] := by
 subst hX
 exact (h.setAt (j := 0) y0).setAt (j := 1) y1
theorem charParts_any (a : Option Addr) (n c : Nat) (bs : List Nat) (w : World) (h : BytesAt w (.slice a n c) bs) (hn : bs.length = n) (hc : n ≤ c) (hm : n ≤ 1099511627776) :
 Calls Tryz.prog 26 #[.slice a n c] w fun e w' => e = .returned (.tuple #[.int .i64 (chP bs).1,.int .u16 (chP bs).2.1,.agg #[.int .u64 (chP bs).2.2.1,.int .u64 (chP bs).2.2.2.1],.bool (chP bs).2.2.2.2]) ∧ Below w.heap.size w w' := by
 have hz := fun W => run_build0 W
 have hB0 := (Below.refl w.heap.size w).alloc (Nat.le_refl _) (.cells #[.int .u64 0,.int .u64 0] 26)
 have HN := Lib.hid hn
 unfold chP
 rw [hn]
 by_cases h3 : n < 3
 ·rw [if_pos h3]
  have g3 : decide (n < 3) = true := by simpa using h3
  have g3' : decide ((n : Int) < 3) = true := by simp; omega
  clear h hn
  go_enter Tryz.func26,Tryz.ntmps26
  go_wp2
  have b3 := ((Blk.new w 26 [.int .u64 0,.int .u64 0]).setAt (j := 0) (.int .u64 0)).setAt (j := 1) (.int .u64 0)
  obtain ⟨x0,x1,_⟩ := b3.cells
  simp only [Nat.zero_add,Nat.add_zero,List.set_cons_zero,List.set_cons_succ] at x0 x1
  refine bodyPost_ret (v := .tuple #[.int .i64 0,.int .u16 0,.agg #[.int .u64 0,.int .u64 0],.bool false]) (by simp [results,Tryz.results26,go_sem] <;> rfl) rfl ?_
  exact ⟨rfl,hB0⟩
 rw [if_neg h3]
 have g3 : decide (n < 3) = false := by simpa using h3
 have g3' : decide ((n : Int) < 3) = false := by simp; omega
 obtain ⟨a6,c6,hby6,hc6,hrun6⟩ := bytes_from w a n c 3 bs h hn hc (by omega)
 simp only [show ((3 : Nat) : Int) = 3 by rfl] at hrun6
 have hln : (bs.drop 3).length = n - 3 := by rw [List.length_drop,hn]
 obtain ⟨m,hmn⟩ : ∃ m,n - 3 = m := ⟨_,rfl⟩
 rw [hmn] at hby6 hc6 hrun6 hln
 have hde := rdecode_any (.slice a6 m c6) (bs.drop 3) _ (hby6.below hB0) (by rw [hln]; omega)
 obtain ⟨d1,hd1⟩ : ∃ x,(decR (bs.drop 3)).1 = x := ⟨_,rfl⟩
 obtain ⟨d2,hd2⟩ : ∃ x,(decR (bs.drop 3)).2.1 = x := ⟨_,rfl⟩
 obtain ⟨d3,hd3⟩ : ∃ x,(decR (bs.drop 3)).2.2 = x := ⟨_,rfl⟩
 obtain ⟨q,hq⟩ : ∃ q,(d3 == 0) = q := ⟨_,rfl⟩
 rw [hd1,hd2,hd3] at hde ⊢
 rw [hq]
 obtain ⟨x0,hx0⟩ : ∃ x,bs.getD 0 0 = x := ⟨_,rfl⟩
 have hx0' : bs[0]'(by omega) = x0 := by rw [← hx0,List.getD_eq_getElem?_getD,List.getElem?_eq_getElem (by omega)]; rfl
 have hx1 : x0 < 256 := by rw [← hx0']; exact h.2.2 _ (List.getElem_mem _)
 have hnm := fun W (hW : Below w.heap.size w W) => num_any (.slice a n c) bs 1 2 W (h.below hW) (by omega) (by omega) (by omega)
 obtain ⟨V,hV⟩ : ∃ V,vnum ((bs.drop 1).take 2) = V := ⟨_,rfl⟩
 have hVb : V < 65536 := by
  have := vnum_lt ((bs.drop 1).take 2) (fun x hx => h.2.2 x (List.mem_of_mem_drop (List.mem_of_mem_take hx)))
  rw [hV,List.length_take,List.length_drop] at this
  rw [show min 2 (bs.length - 1) = 2 by omega] at this
  simpa using this
 rw [hV] at hnm ⊢
 rw [hx0]
 simp only [show ((1 : Nat) : Int) = 1 by rfl,show ((2 : Nat) : Int) = 2 by rfl] at hnm
 have w1 : IntKind.u16.wrap (V : Int) = (V : Int) := IntWalk.u16_in _ (by omega)
 have w2 : IntKind.i64.wrap (x0 : Int) = (x0 : Int) := IntWalk.i64_in _ (by omega)
 have hcell : ∃ b off,a = some ⟨b,off,none⟩ ∧ w.cell? ⟨b,off,none⟩ = some (.int .u8 (x0 : Nat)) := by
  obtain ⟨⟨_,_,_,ao,cap,e,_,hcl⟩,_,_⟩ := h
  cases e
  obtain ⟨b,off,rfl,hb,hcs⟩ := hcl (by omega)
  exact ⟨b,off,rfl,by have := hcs 0 (.int .u8 (x0 : Nat)) (by simp [bcells,List.getElem?_eq_getElem (show 0 < bs.length by omega),hx0']); simpa using this⟩
 obtain ⟨b,off,rfl,hcl⟩ := hcell
 have HDE := Lib.hid hde
 have HNM := Lib.hid hnm
 have HCL := Lib.hid hcl
 have hi0 : (0 : Int) < (n : Int) := by omega
 have hn0 : 0 < n := by omega
 have hc3 : (3 : Int) ≤ (n : Int) := by omega
 have hmb : m ≤ 1099511627776 := by omega
 clear hde hnm hd1 hd2 hd3 hx0 hx0' hV h hn hby6 hln hmn hcl hc6
 go_enter Tryz.func26,Tryz.ntmps26
 go_wp2_with fail
 refine HDE.out.mono ?_
 rintro e w4 ⟨rfl,hB4⟩
 have hB4' := hB0.trans (hB4.mono hB0.size)
 have b4 := (Blk.new w 26 [.int .u64 0,.int .u64 0]).below hB4
 have HB4 := Lib.hid hB4'
 have HK4 := Lib.hid b4
 have hlt4 : w.heap.size < w4.heap.size := b4.lt
 clear hB4 hB4' b4 HDE
 go_upto_region 4 with fail
 generalize hX : World.alloc w4 _ = X
 obtain ⟨h6,hB6,h6z⟩ := alloc_named hX
 have b6 : Blk X w4.heap.size 26 [.int .u64 d1,.int .u64 d2] := h6
 have b4 := HK4.out.below hB6
 have hBX := HB4.out.trans (hB6.mono HB4.out.size)
 have c0 := kc HCL.out hBX
 have T : Cells X ([(b,off,.int .u8 (x0 : Nat))] ++ blk w4.heap.size 0 0 [.int .u64 d1,.int .u64 d2]) := ⟨c0,b6.cells⟩
 have hbw : b < w.heap.size := World.block_lt_of_cell? w _ HCL.out
 have HT := Lib.hid T
 have HK := Lib.hid b4
 obtain ⟨m0,m1,_⟩ := b4.cells
 simp only [Nat.zero_add,Nat.add_zero] at m0 m1
 have z0 := b4.frozen 0
 have z1 := b4.frozen 1
 have HBX := Lib.hid hBX
 clear hX h6 hB6 h6z b6 b4 hBX c0 HK4 HB4 HCL
 refine wp_region_held_drew (S := (fun W' : World => Cells W' ([(b,off,.int .u8 (x0 : Nat))] ++ blk w4.heap.size 0 0 [.int .u64 d1,.int .u64 d2]))) (by kernel_rfl) (T.drew) (fun hHeld => ?_)
 refine tkU 0 ?_
 refine tkU 1 ?_
 refine tkU 2 ?_
 refine tkU 3 ?_
 refine tkU 4 ?_
 refine tkU 7 ?_
 refine tkU 8 ?_
 refine tkU 9 ?_
 refine rd1 5 fun K hK => ?_
 go_simp
 go_at_call 41
 refine (HNM.out _ HBX.out.drew).mono ?_
 rintro e w5 ⟨rfl,rfl⟩
 clear hHeld
 refine hK.out _ _ (T.drew) (fun hHeld => ?_)
 clear hK K
 try simp only [Act.put,List.setIfInBounds_toArray,List.set_cons_zero,List.set_cons_succ]
 refine tkU 6 ?_
 refine tkU 10 ?_
 refine tkU 11 ?_
 refine rd1 12 fun K hK => ?_
 go_simp
 generalize hY : World.setCell _ _ _ = Y
 have bY := set2 HK.out hY
 have hBY : Below w.heap.size w Y := by
  rw [← hY]
  exact (HBX.out.setCell (p := ⟨w.heap.size,0,none⟩) (by simp) _).setCell (p := ⟨w.heap.size,1,none⟩) (by simp) _
 have TY : Cells Y ([(b,off,.int .u8 (x0 : Nat))] ++ blk w4.heap.size 0 0 [.int .u64 d1,.int .u64 d2]) := by
  rw [← hY]
  exact (T.setCell _ (fun x hx => by simp [blk] at hx; rcases hx with rfl | rfl | rfl <;> (simp; omega))).setCell _ (fun x hx => by simp [blk] at hx; rcases hx with rfl | rfl | rfl <;> (simp; omega))
 clear hHeld
 refine hK.out _ _ (TY.drew) (fun hHeld => ?_)
 clear hK K
 try simp only [Act.put,List.setIfInBounds_toArray,List.set_cons_zero,List.set_cons_succ]
 refine tkU 13 ?_
 refine wpAnyH_done (by kernel_rfl) ?_ _
 have HBY := Lib.hid hBY.drew
 obtain ⟨x0',x1',_⟩ := bY.cells
 simp only [Nat.zero_add,Nat.add_zero] at x0' x1'
 clear T hY TY bY hBY HT HNM hHeld m0 m1 z0 z1
 go_wp2
 refine bodyPost_ret (v := .tuple #[.int .i64 x0,.int .u16 V,.agg #[.int .u64 d1,.int .u64 d2],.bool q]) (by simp [results,Tryz.results26,go_sem,x0',x1']) rfl ?_
 exact ⟨rfl,HBY.out⟩
end Go.Proofs.YtldcihjddebciaaGreat
