/- cache: a database, what is found in it, and what CacheTrue asks: plain. -/
import Derived.Test.YteblimdbkiiaaaaTrA
namespace Go.Proofs.Yteblimdbkiiaaaa

/-- an attribute -/
structure At where
  ha : Int
  hi : Int
  lo : Int
  pe : Int
  bs : List Nat
instance : Inhabited At := ⟨⟨0, 0, 0, 0, []⟩⟩
/-- the 16-bit UUID whose upper word is n -/
def isU (n hi lo : Int) : Bool := hi == n && lo == 9223372588214596859
def svU (hi lo : Int) : Bool := isU 43980465115136 hi lo || isU 43984760082432 hi lo
def chU (hi lo : Int) : Bool := isU 43993350017024 hi lo
def dcU (hi lo : Int) : Bool := isU 43980465115136 hi lo || (isU 43984760082432 hi lo || (isU 43989055049728 hi lo || isU 43993350017024 hi lo))
def cfU (hi lo : Int) : Bool := isU 45088566677504 hi lo
def kpU (hi lo : Int) : Bool := dcU hi lo || cfU hi lo
/-- the parts of a characteristic's declaration: properties, handle, type, whether they are right -/
def chP (bs : List Nat) : Int × Int × Int × Int × Bool :=
  if bs.length < 3 then (0, 0, 0, 0, false) else ((bs.getD 0 0 : Nat), (vnum ((bs.drop 1).take 2) : Nat), ((decR (bs.drop 3)).1 : Nat), ((decR (bs.drop 3)).2.1 : Nat), (decR (bs.drop 3)).2.2 == 0)
def atI (db : List At) (i : Nat) : At := db.getD i default
def svA (db : List At) (i : Nat) : Bool := svU (atI db i).hi (atI db i).lo
def chA (db : List At) (i : Nat) : Bool := chU (atI db i).hi (atI db i).lo
/-- the last handle ahead of the next service -/
def lastOf (ha : Int) : List At → Int
  | [] => ha
  | b :: r => if svU b.hi b.lo then ha else lastOf b.ha r
/-- what is found at a place -/
def fdAt (db : List At) (i : Nat) : Option Fd :=
  if 0 < i ∧ chA db (i - 1) = true then none else
  if svA db i = true then some ⟨(atI db i).ha, lastOf (atI db i).ha (db.drop (i + 1)), 0, 0, ((decR (atI db i).bs).1 : Nat), ((decR (atI db i).bs).2.1 : Nat)⟩ else
  if chA db i = true then some ⟨(atI db i).ha, 0, (chP (atI db i).bs).2.1, (chP (atI db i).bs).1, (chP (atI db i).bs).2.2.1, (chP (atI db i).bs).2.2.2.1⟩ else
    some ⟨(atI db i).ha, 0, 0, 0, (atI db i).hi, (atI db i).lo⟩
def fdTo (db : List At) (k : Nat) : List Fd := (List.range k).filterMap (fdAt db)
def fdL (db : List At) : List Fd := fdTo db db.length
theorem fdTo_succ (db : List At) (k : Nat) : fdTo db (k + 1) = fdTo db k ++ (match fdAt db k with | some x => [x] | none => []) := by
  unfold fdTo
  rw [List.range_succ, List.filterMap_append]
  congr 1
  cases h : fdAt db k <;> simp [h]
/-- what Check's acceptance says -/
structure Gdb (db : List At) : Prop where
  pos : ∀ i, i < db.length → 0 < (atI db i).ha
  len : ∀ i, i < db.length → (atI db i).bs.length ≤ 512
  asc : ∀ i, i + 1 < db.length → (atI db i).ha < (atI db (i + 1)).ha
  chr : ∀ i, i < db.length → chA db i = true → i + 1 < db.length ∧ (atI db (i + 1)).ha = (chP (atI db i).bs).2.1 ∧ (atI db (i + 1)).hi = (chP (atI db i).bs).2.2.1 ∧ (atI db (i + 1)).lo = (chP (atI db i).bs).2.2.2.1 ∧ kpU (atI db (i + 1)).hi (atI db (i + 1)).lo = false
theorem Gdb.lt {db : List At} (h : Gdb db) {i : Nat} : ∀ j, i < j → j < db.length → (atI db i).ha < (atI db j).ha
  | 0, hi, _ => by omega
  | j+1, hi, hj => by
    have h1 := h.asc j hj
    by_cases c : i = j
    · rw [c]; exact h1
    · exact Int.lt_trans (h.lt j (by omega) (by omega)) h1
theorem Gdb.le_iff {db : List At} (h : Gdb db) {i j : Nat} (hi : i < db.length) (hj : j < db.length) : (atI db i).ha ≤ (atI db j).ha ↔ i ≤ j := by
  constructor
  · intro hle
    refine Nat.le_of_not_lt fun c => ?_
    have := h.lt (i := j) i c hi
    omega
  · intro hle
    by_cases c : i = j
    · rw [c]; exact Int.le_refl _
    · exact Int.le_of_lt (h.lt j (by omega) hj)
theorem Gdb.lt_iff {db : List At} (h : Gdb db) {i j : Nat} (hi : i < db.length) (hj : j < db.length) : (atI db i).ha < (atI db j).ha ↔ i < j := by
  have := h.le_iff hj hi
  omega
theorem sv_not_ch {hi lo : Int} (h : svU hi lo = true) : chU hi lo = false := by
  unfold svU isU at h
  unfold chU isU
  simp only [Bool.or_eq_true, Bool.and_eq_true, beq_iff_eq] at h
  rw [Bool.and_eq_false_iff]
  left
  rw [beq_eq_false_iff_ne]
  omega
theorem kp_not_sv {hi lo : Int} (h : kpU hi lo = false) : svU hi lo = false ∧ chU hi lo = false ∧ cfU hi lo = false := by
  unfold kpU dcU at h
  unfold svU chU
  simp only [Bool.or_eq_false_iff] at h ⊢
  exact ⟨⟨h.1.1, h.1.2.1⟩, h.1.2.2.2, h.2⟩
theorem last_spec (db : List At) : ∀ (d m : Nat), m + d + 1 = db.length → ∃ e, m ≤ e ∧ e < db.length ∧ lastOf (atI db m).ha (db.drop (m + 1)) = (atI db e).ha ∧ (∀ k, m < k → k ≤ e → svA db k = false) ∧ (e + 1 < db.length → svA db (e + 1) = true)
  | 0, m, h => ⟨m, Nat.le_refl _, by omega, by rw [List.drop_of_length_le (by omega)]; rfl, fun k h1 h2 => by omega, fun h1 => by omega⟩
  | d+1, m, h => by
    have hd : db.drop (m + 1) = atI db (m + 1) :: db.drop (m + 1 + 1) := by
      rw [List.drop_eq_getElem_cons (by omega)]
      unfold atI
      rw [List.getD_eq_getElem?_getD, List.getElem?_eq_getElem (by omega)]
      rfl
    rw [hd, lastOf]
    by_cases c : svA db (m + 1) = true
    · refine ⟨m, Nat.le_refl _, by omega, by unfold svA at c; rw [if_pos c], fun k h1 h2 => by omega, fun _ => c⟩
    · obtain ⟨e, h1, h2, h3, h4, h5⟩ := last_spec db d (m + 1) (by omega)
      refine ⟨e, by omega, h2, by unfold svA at c; rw [if_neg c]; exact h3, fun k k1 k2 => ?_, h5⟩
      by_cases ck : k = m + 1
      · rw [ck]; simpa using c
      · exact h4 k (by omega) k2
theorem mem_fdL {db : List At} {x : Fd} : x ∈ fdL db ↔ ∃ i, i < db.length ∧ fdAt db i = some x := by
  unfold fdL fdTo
  rw [List.mem_filterMap]
  constructor
  · rintro ⟨i, hi, h⟩; exact ⟨i, List.mem_range.1 hi, h⟩
  · rintro ⟨i, hi, h⟩; exact ⟨i, List.mem_range.2 hi, h⟩
theorem fdAt_ha {db : List At} {i : Nat} {x : Fd} (h : fdAt db i = some x) : x.ha = (atI db i).ha := by
  unfold fdAt at h
  split at h
  · cases h
  · split at h
    · injection h with h; rw [← h]
    · split at h
      · injection h with h; rw [← h]
      · injection h with h; rw [← h]
theorem fdL_asc {db : List At} (h : Gdb db) : Asc (fdL db) := by
  unfold Asc fdL fdTo
  rw [List.pairwise_filterMap]
  refine List.Pairwise.imp_of_mem (fun {i j} hi hj hij x hx y hy => ?_) (List.pairwise_lt_range (n := db.length))
  rw [fdAt_ha hx, fdAt_ha hy]
  exact h.lt j hij (List.mem_range.1 hj)
/-- a service that is found -/
theorem found_sv {db : List At} {x : Fd} (hx : x ∈ fdL db) (hl : x.la ≠ 0) : ∃ m e, m < db.length ∧ svA db m = true ∧ x.ha = (atI db m).ha ∧ m ≤ e ∧ e < db.length ∧ x.la = (atI db e).ha ∧ (∀ k, m < k → k ≤ e → svA db k = false) ∧ (e + 1 < db.length → svA db (e + 1) = true) := by
  obtain ⟨m, hm, hf⟩ := mem_fdL.1 hx
  have hh := fdAt_ha hf
  unfold fdAt at hf
  split at hf
  · cases hf
  · split at hf
    · rename_i hs
      obtain ⟨e, h1, h2, h3, h4, h5⟩ := last_spec db (db.length - m - 1) m (by omega)
      injection hf with hf
      refine ⟨m, e, hm, hs, hh, h1, h2, ?_, h4, h5⟩
      rw [← hf]; exact h3
    · split at hf
      · injection hf with hf; rw [← hf] at hl; exact absurd rfl hl
      · injection hf with hf; rw [← hf] at hl; exact absurd rfl hl
/-- a characteristic that is found -/
theorem found_ch {db : List At} (h : Gdb db) {x : Fd} (hx : x ∈ fdL db) (hl : x.va ≠ 0) : ∃ i, i + 1 < db.length ∧ chA db i = true ∧ x.ha = (atI db i).ha ∧ x.la = 0 ∧ x.va = (atI db (i + 1)).ha ∧ x.hi = (atI db (i + 1)).hi ∧ x.lo = (atI db (i + 1)).lo ∧ kpU (atI db (i + 1)).hi (atI db (i + 1)).lo = false := by
  obtain ⟨i, hi, hf⟩ := mem_fdL.1 hx
  have hh := fdAt_ha hf
  unfold fdAt at hf
  split at hf
  · cases hf
  · split at hf
    · injection hf with hf; rw [← hf] at hl; exact absurd rfl hl
    · split at hf
      · rename_i hc
        obtain ⟨c1, c2, c3, c4, c5⟩ := h.chr i hi hc
        injection hf with hf
        refine ⟨i, c1, hc, hh, ?_, ?_, ?_, ?_, c5⟩
        · rw [← hf]
        · rw [c2, ← hf]
        · rw [c3, ← hf]
        · rw [c4, ← hf]
      · injection hf with hf; rw [← hf] at hl; exact absurd rfl hl
/-- a descriptor that is found -/
theorem found_de {db : List At} (h : Gdb db) {x : Fd} (hx : x ∈ fdL db) (hl : x.la = 0) (hv : x.va = 0) : ∃ i, i < db.length ∧ x.ha = (atI db i).ha ∧ ¬ (0 < i ∧ chA db (i - 1) = true) ∧ x.hi = (atI db i).hi ∧ x.lo = (atI db i).lo := by
  obtain ⟨i, hi, hf⟩ := mem_fdL.1 hx
  have hh := fdAt_ha hf
  unfold fdAt at hf
  split at hf
  · cases hf
  · rename_i hn
    split at hf
    · obtain ⟨e, h1, h2, h3, h4, h5⟩ := last_spec db (db.length - i - 1) i (by omega)
      injection hf with hf
      rw [← hf] at hl
      simp only at hl
      rw [h3] at hl
      have := h.pos e h2
      omega
    · split at hf
      · rename_i hc
        obtain ⟨c1, c2, c3, c4, c5⟩ := h.chr i hi hc
        injection hf with hf
        rw [← hf] at hv
        simp only at hv
        rw [← c2] at hv
        have := h.pos (i + 1) c1
        omega
      · injection hf with hf
        refine ⟨i, hi, hh, hn, ?_, ?_⟩
        · rw [← hf]
        · rw [← hf]
/-- the value's handle lies where the declaration's does -/
theorem in_both {db : List At} (h : Gdb db) {x s : Fd} (hx : x ∈ fdL db) (hv : x.va ≠ 0) (hs : s ∈ fdL db) (sh sl : Int) : inB sh sl x.va s = inB sh sl x.ha s := by
  unfold inB
  by_cases hl : s.la = 0
  · rw [hl]; simp
  · obtain ⟨m, e, m1, m2, m3, m4, m5, m6, m7, m8⟩ := found_sv hs hl
    obtain ⟨i, i1, i2, i3, i4, i5, _, _, i8⟩ := found_ch h hx hv
    have k1 : decide (s.ha < x.va) = decide (s.ha < x.ha) := by
      rw [decide_eq_decide, m3, i3, i5, h.lt_iff m1 i1, h.lt_iff m1 (by omega)]
      constructor
      · intro hh
        by_cases c : m = i
        · subst c
          unfold svA at m2
          unfold chA at i2
          rw [sv_not_ch m2] at i2
          cases i2
        · omega
      · omega
    have k2 : decide (x.va ≤ s.la) = decide (x.ha ≤ s.la) := by
      rw [decide_eq_decide, m6, i3, i5, h.le_iff i1 m5, h.le_iff (by omega) m5]
      constructor
      · omega
      · intro hh
        by_cases c : i = e
        · subst c
          have := m8 i1
          unfold svA at this
          rw [(kp_not_sv i8).1] at this
          cases this
        · omega
    rw [k1, k2]
/-- the place of a handle -/
def findN (db : List At) (h : Int) : Nat := db.findIdx fun a => a.ha == h
theorem findN_at {db : List At} (h : Gdb db) {i : Nat} (hi : i < db.length) : findN db (atI db i).ha = i := by
  unfold findN
  rw [List.findIdx_eq hi]
  have e : ∀ j (hj : j < db.length), db[j] = atI db j := fun j hj => by unfold atI; rw [List.getD_eq_getElem?_getD, List.getElem?_eq_getElem hj]; rfl
  refine ⟨by rw [e i hi]; simp, fun j hj => ?_⟩
  rw [e j (by omega), beq_eq_false_iff_ne]
  have := h.lt i hj hi
  omega
def isAt (db : List At) (h ch cl : Int) : Bool := decide (findN db h < db.length) && ((atI db (findN db h)).hi == ch && (atI db (findN db h)).lo == cl)
/-- the law's inside -/
def insB (db : List At) (h sh sl ch cl : Int) : Bool := (fdL db).any (inB sh sl h) && isAt db h ch cl
theorem ins_use {db : List At} (h : Gdb db) {x : Fd} (hx : x ∈ fdL db) (hv : x.va ≠ 0) (sh sl ch cl : Int) : insB db x.va sh sl ch cl = useB (fdL db) sh sl ch cl x := by
  obtain ⟨i, i1, i2, i3, i4, i5, i6, i7, i8⟩ := found_ch h hx hv
  have e1 : (fdL db).any (inB sh sl x.va) = (fdL db).any (inB sh sl x.ha) := by
    rw [Bool.eq_iff_iff, List.any_eq_true, List.any_eq_true]
    constructor
    · rintro ⟨s, h1, h2⟩; exact ⟨s, h1, by rw [← in_both h hx hv h1]; exact h2⟩
    · rintro ⟨s, h1, h2⟩; exact ⟨s, h1, by rw [in_both h hx hv h1]; exact h2⟩
  have e2 : findN db x.va = i + 1 := by rw [i5]; exact findN_at h i1
  have e3 : chB x = true := by
    unfold chB
    rw [i4]
    simp [hv]
  unfold insB isAt useB
  rw [e1, e2, e3, i6, i7, decide_eq_true i1]
  simp only [Bool.true_and]
  rw [Bool.and_comm]
/-- whether there is a characteristic of the types -/
def thereB (db : List At) (sh sl ch cl : Int) : Bool := (fdL db).any fun x => !(x.va == 0) && insB db x.va sh sl ch cl
theorem use_ok {db : List At} (h : Gdb db) (sh sl ch cl : Int) : ((useL (fdL db) sh sl ch cl).2 == 0) = thereB db sh sl ch cl ∧ ((useL (fdL db) sh sl ch cl).2 = 0 → insB db (useL (fdL db) sh sl ch cl).1 sh sl ch cl = true) := by
  unfold useL
  cases hf : (fdL db).find? (useB (fdL db) sh sl ch cl) with
  | some x =>
    have hx := List.mem_of_find?_eq_some hf
    have hu := List.find?_some hf
    have hv : x.va ≠ 0 := by
      unfold useB chB at hu
      simp only [Bool.and_eq_true, Bool.not_eq_true', beq_eq_false_iff_ne] at hu
      exact hu.1.1.2
    have hi := ins_use h hx hv sh sl ch cl
    rw [hu] at hi
    refine ⟨?_, fun _ => hi⟩
    have : thereB db sh sl ch cl = true := by
      unfold thereB
      rw [List.any_eq_true]
      exact ⟨x, hx, by rw [hi]; simp [hv]⟩
    rw [this]
    rfl
  | none =>
    refine ⟨?_, fun h => by cases h⟩
    have : thereB db sh sl ch cl = false := by
      unfold thereB
      rw [List.any_eq_false]
      intro x hx hc
      rw [List.find?_eq_none] at hf
      simp only [Bool.and_eq_true, Bool.not_eq_true', beq_eq_false_iff_ne] at hc
      rw [ins_use h hx hc.1] at hc
      exact hf x hx hc.2
    rw [this]
    rfl
theorem cfgD_ok : ∀ (l : List Fd), ((cfgD l).2 = 0 ∨ (cfgD l).2 = 6) ∧ ((cfgD l).2 = 0 → ∃ d ∈ l, d.la = 0 ∧ d.va = 0 ∧ cfU d.hi d.lo = true ∧ (cfgD l).1 = d.ha)
  | [] => ⟨.inr rfl, fun h => by cases h⟩
  | d :: r => by
    obtain ⟨h1, h2⟩ := cfgD_ok r
    unfold cfgD
    by_cases c : ((d.la == 0) && (d.va == 0)) = true
    · rw [if_pos c]
      by_cases c2 : (d.hi == 45088566677504 && d.lo == 9223372588214596859) = true
      · rw [if_pos c2]
        simp only [Bool.and_eq_true, beq_iff_eq] at c
        exact ⟨.inl rfl, fun _ => ⟨d, by simp, c.1, c.2, c2, rfl⟩⟩
      · rw [if_neg c2]
        refine ⟨h1, fun h => ?_⟩
        obtain ⟨x, k1, k2⟩ := h2 h
        exact ⟨x, List.mem_cons_of_mem _ k1, k2⟩
    · rw [if_neg c]
      exact ⟨.inr rfl, fun h => by cases h⟩
theorem cfgL_ok (v : Int) : ∀ (l : List Fd), Asc l → ((cfgL v l).2 = 0 ∨ (cfgL v l).2 = 6) ∧ ((cfgL v l).2 = 0 → ∃ y ∈ l, chB y = true ∧ y.va = v ∧ ∃ d ∈ l, y.ha < d.ha ∧ d.la = 0 ∧ d.va = 0 ∧ cfU d.hi d.lo = true ∧ (cfgL v l).1 = d.ha)
  | [], _ => ⟨.inr rfl, fun h => by cases h⟩
  | y :: r, ha => by
    have ha' := List.pairwise_cons.1 ha
    unfold cfgL
    by_cases c : (chB y && y.va == v) = true
    · rw [if_pos c]
      obtain ⟨h1, h2⟩ := cfgD_ok r
      simp only [Bool.and_eq_true, beq_iff_eq] at c
      refine ⟨h1, fun h => ?_⟩
      obtain ⟨d, k1, k2, k3, k4, k5⟩ := h2 h
      exact ⟨y, by simp, c.1, c.2, d, List.mem_cons_of_mem _ k1, ha'.1 d k1, k2, k3, k4, k5⟩
    · rw [if_neg c]
      obtain ⟨h1, h2⟩ := cfgL_ok v r ha'.2
      refine ⟨h1, fun h => ?_⟩
      obtain ⟨y', k1, k2, k3, d, k4, k5⟩ := h2 h
      exact ⟨y', List.mem_cons_of_mem _ k1, k2, k3, d, List.mem_cons_of_mem _ k4, k5⟩
/-- whether a characteristic has a value's handle -/
def confB (db : List At) (v : Int) : Bool := (fdL db).any fun x => (x.va == v) && !(v == 0)
theorem cfg_ok {db : List At} (h : Gdb db) (v : Int) : ((cfgL v (fdL db)).2 = 0 ∨ (cfgL v (fdL db)).2 = 6) ∧ ((cfgL v (fdL db)).2 = 0 → confB db v = true ∧ v < (cfgL v (fdL db)).1 ∧ findN db (cfgL v (fdL db)).1 < db.length ∧ cfU (atI db (findN db (cfgL v (fdL db)).1)).hi (atI db (findN db (cfgL v (fdL db)).1)).lo = true) := by
  obtain ⟨h1, h2⟩ := cfgL_ok v (fdL db) (fdL_asc h)
  refine ⟨h1, fun h0 => ?_⟩
  obtain ⟨y, y1, y2, y3, d, d1, d2, d3, d4, d5, d6⟩ := h2 h0
  have hv : y.va ≠ 0 := by
    unfold chB at y2
    simp only [Bool.and_eq_true, Bool.not_eq_true', beq_eq_false_iff_ne] at y2
    exact y2.2
  obtain ⟨i, i1, i2, i3, i4, i5, i6, i7, i8⟩ := found_ch h y1 hv
  obtain ⟨k, k1, k2, k3, k4, k5⟩ := found_de h d1 d3 d4
  rw [d6, k2, findN_at h k1]
  refine ⟨?_, ?_, k1, by rw [← k4, ← k5]; exact d5⟩
  · unfold confB
    rw [List.any_eq_true]
    exact ⟨y, y1, by rw [y3]; rw [y3] at hv; simp [hv]⟩
  · rw [← y3, i5, h.lt_iff i1 k1]
    rw [i3, k2, h.lt_iff (by omega) k1] at d2
    by_cases c : k = i + 1
    · subst c
      exact absurd ⟨by omega, by rw [Nat.add_sub_cancel]; exact i2⟩ k3
    · omega
/-- rotated by some elements -/
def turnL (l : List Fd) (b k : Nat) : List Fd := (List.range k).map fun i => l.getD ((i + b) % l.length) default
theorem turnL_succ (l : List Fd) (b k : Nat) : turnL l b (k + 1) = turnL l b k ++ [l.getD ((k + b) % l.length) default] := by
  unfold turnL
  rw [List.range_succ, List.map_append]
  rfl
theorem turnL_len (l : List Fd) (b k : Nat) : (turnL l b k).length = k := by simp [turnL]
theorem turnL_get (l : List Fd) (b k i : Nat) (h : i < k) : (turnL l b k).getD i default = l.getD ((i + b) % l.length) default := by
  unfold turnL
  rw [List.getD_eq_getElem?_getD, List.getElem?_map, List.getElem?_range h]
  rfl
theorem mod_inj {n b i j : Nat} (hi : i < n) (hj : j < n) (h : (i + b) % n = (j + b) % n) : i = j := by
  have h1 := Nat.div_add_mod (i + b) n
  have h2 := Nat.div_add_mod (j + b) n
  rw [h] at h1
  by_cases c : (i + b) / n = (j + b) / n
  · rw [c] at h1; omega
  · exfalso
    rcases Nat.lt_or_gt_of_ne c with c | c
    · have : n * ((i + b) / n + 1) ≤ n * ((j + b) / n) := Nat.mul_le_mul_left n c
      rw [Nat.mul_add, Nat.mul_one] at this
      omega
    · have : n * ((j + b) / n + 1) ≤ n * ((i + b) / n) := Nat.mul_le_mul_left n c
      rw [Nat.mul_add, Nat.mul_one] at this
      omega
theorem mod_back {n b k : Nat} (hk : k < n) : ((k + (n - b % n)) % n + b) % n = k := by
  have hb : b % n < n := Nat.mod_lt _ (by omega)
  rw [Nat.add_mod, Nat.mod_mod, ← Nat.add_mod]
  have : k + (n - b % n) + b = k + n * (1 + b / n) := by
    have := Nat.div_add_mod b n
    rw [Nat.mul_add, Nat.mul_one]
    omega
  rw [this, Nat.add_mul_mod_self_left, Nat.mod_eq_of_lt hk]
theorem turn_back {l : List Fd} (ha : Asc l) (hp : ∀ x ∈ l, 0 < x.ha) (b : Nat) : rlTo (turnL l b l.length) l.length = l := by
  have hf := rl_firsts (turnL l b l.length) l.length (by rw [turnL_len]; exact Nat.le_refl _)
  have e1 : (turnL l b l.length).take l.length = turnL l b l.length := List.take_of_length_le (by rw [turnL_len]; exact Nat.le_refl _)
  have hmem : ∀ i, i < l.length → l.getD ((i + b) % l.length) default ∈ l := fun i hi => by
    have : (i + b) % l.length < l.length := Nat.mod_lt _ (by omega)
    rw [getD_lt this]
    exact List.getElem_mem _
  have e2 : flt (turnL l b l.length) = turnL l b l.length := by
    unfold flt
    rw [List.filter_eq_self]
    intro x hx
    unfold turnL at hx
    obtain ⟨i, hi, rfl⟩ := List.mem_map.1 hx
    have := hp _ (hmem i (List.mem_range.1 hi))
    rw [bne_iff_ne]
    omega
  rw [e1, e2] at hf
  refine hf.unique ⟨ha, fun y => ?_⟩
  rw [turnL_len]
  constructor
  · intro hy
    obtain ⟨k, hk, rfl⟩ := List.getElem_of_mem hy
    refine ⟨(k + (l.length - b % l.length)) % l.length, Nat.mod_lt _ (by omega), ?_, fun j hj e => ?_⟩
    · rw [turnL_get _ _ _ _ (Nat.mod_lt _ (by omega)), mod_back hk, getD_lt hk]
    · have hi := Nat.mod_lt (k + (l.length - b % l.length)) (show l.length > 0 by omega)
      rw [turnL_get _ _ _ _ (by omega)] at e
      have hm : (j + b) % l.length < l.length := Nat.mod_lt _ (by omega)
      rw [getD_lt hm] at e
      have hjk : (j + b) % l.length = k := by
        rcases Nat.lt_trichotomy ((j + b) % l.length) k with c | c | c
        · have := List.pairwise_iff_getElem.1 ha _ _ hm hk c; omega
        · exact c
        · have := List.pairwise_iff_getElem.1 ha _ _ hk hm c; omega
      have := mod_inj (b := b) (show j < l.length by omega) hi (by rw [hjk, mod_back hk])
      omega
  · rintro ⟨i, hi, rfl, _⟩
    rw [turnL_get _ _ _ _ hi]
    exact hmem i hi
end Go.Proofs.Yteblimdbkiiaaaa
