/- cache: lists of what was found; Clone; Learn's closures. -/
import Derived.Test.YteblimdbkiiaaaaFdU
namespace Go.Proofs.Yteblimdbkiiaaaa
open Go.RowKit

/-- what was found -/
structure Fd where
  ha : Int
  la : Int
  va : Int
  pr : Int
  hi : Int
  lo : Int
instance : Inhabited Fd := ⟨⟨0, 0, 0, 0, 0, 0⟩⟩
def fenc (x : Fd) : List Value := [.int .u16 x.ha, .int .u16 x.la, .int .u16 x.va, .int .i64 x.pr, .int .u64 x.hi, .int .u64 x.lo]
def fcells (l : List Fd) : List Value := l.flatMap fenc
def elF (x : Fd) : El := ⟨.int .u16 x.ha, .int .u16 x.la, .int .u16 x.va, .int .i64 x.pr, .int .u64 x.hi, .int .u64 x.lo⟩
theorem elF_one (x : Fd) : (elF x).one := ⟨rfl, rfl, rfl, rfl, rfl, rfl⟩
theorem fcells_get (l : List Fd) (k : Nat) (h : k < l.length) {j : Nat} (hj : j < 6) : (fcells l)[k * 6 + j]? = (elF l[k]).cells[j]? := flat_get fenc 6 (fun _ => rfl) l k j h hj
theorem fcells_len (l : List Fd) : (fcells l).length = l.length * 6 := by
  induction l with
  | nil => rfl
  | cons x l ih =>
    unfold fcells at ih ⊢
    rw [List.flatMap_cons, List.length_append, ih]
    simp [fenc]
    omega
theorem fcells_one (l : List Fd) : ∀ u ∈ fcells l, u.oneCell' = true := fun u hu => by
  obtain ⟨x, _, hx⟩ := List.mem_flatMap.1 hu
  simp [fenc] at hx
  rcases hx with rfl | rfl | rfl | rfl | rfl | rfl <;> rfl
theorem getD_lt {l : List Fd} {k : Nat} (h : k < l.length) : l.getD k default = l[k] := by rw [List.getD_eq_getElem?_getD, List.getElem?_eq_getElem h]; rfl
/-- a list in a block of the call's own -/
def RowL (w : World) (g : Nat) (l : List Fd) : Prop := Row6 53 w g 0 (fun k => elF (l.getD k default)) (fun k => k) l.length
def FO (B : Nat) (w : World) (v : Value) (l : List Fd) : Prop := (v = .slice none 0 0 ∧ l = []) ∨ ∃ g cap, v = .slice (some ⟨g, 0, none⟩) l.length cap ∧ B ≤ g ∧ l.length ≤ cap ∧ cap ≤ maxLen ∧ RowL w g l
theorem FO.below {B : Nat} {w w' : World} {v : Value} {l : List Fd} (h : FO B w v l) (hb : Below w.heap.size w w') : FO B w' v l := by
  rcases h with h | ⟨g, cap, e, h1, h2, h3, h4⟩
  · exact .inl h
  · exact .inr ⟨g, cap, e, h1, h2, h3, h4.below hb⟩
theorem FO.mono {B B' : Nat} {w : World} {v : Value} {l : List Fd} (h : FO B w v l) (hb : B' ≤ B) : FO B' w v l := by
  rcases h with h | ⟨g, cap, e, h1, h2⟩
  · exact .inl h
  · exact .inr ⟨g, cap, e, Nat.le_trans hb h1, h2⟩
theorem RowL.sr {w : World} {g cap : Nat} {l : List Fd} (h : RowL w g l) (hm : l.length ≤ maxLen) : SR w (.slice (some ⟨g, 0, none⟩) l.length cap) l.length 6 (fcells l) := by
  refine ⟨hm, fcells_len l, fcells_one l, some ⟨g, 0, none⟩, cap, rfl, fun h => (by cases h), fun _ => ⟨g, 0, rfl, h.lt, fun j u hj => ?_⟩⟩
  obtain ⟨cur, h1, _, h3⟩ := h
  have hlt := (List.getElem?_eq_some_iff.1 hj).1
  rw [fcells_len] at hlt
  have hd : j / 6 < l.length := by omega
  have hm6 : j % 6 < 6 := by omega
  have e := fcells_get l (j / 6) hd hm6
  rw [show j / 6 * 6 + j % 6 = j by omega, hj] at e
  have e3 : cur[0 + j / 6 * 6 + j % 6]? = (elF (l.getD (j / 6) default)).cells[j % 6]? := h3 (j / 6) hd (j % 6) hm6
  rw [getD_lt hd, ← e, show 0 + j / 6 * 6 + j % 6 = 0 + j by omega] at e3
  rw [cell_of_row w g _ cur _ _ h1]
  exact e3
theorem FO.sr {B : Nat} {w : World} {v : Value} {l : List Fd} (h : FO B w v l) : SR w v l.length 6 (fcells l) := by
  rcases h with ⟨rfl, rfl⟩ | ⟨g, cap, rfl, h1, h2, h3, h4⟩
  · exact ⟨Nat.zero_le _, by simp [fcells], by simp [fcells], none, 0, rfl, fun _ => ⟨rfl, rfl⟩, fun h => absurd h (by simp)⟩
  · exact h4.sr (Nat.le_trans h2 h3)
theorem rowL_of_own {base : Nat} {w : World} {v : Value} {l : List Fd} (h : w.ownsRow base 53 6 v l.length (fcells l)) (hne : v ≠ .slice none 0 0) : FO base w v l := by
  rcases h.2 with ⟨e, _⟩ | ⟨g, cap, cur, rfl, hb, hg, h1, h2, h3, h4⟩
  · exact absurd e hne
  refine .inr ⟨g, cap, rfl, hb, h1, h2, cur, hg, by omega, fun k hk j hj => ?_⟩
  have e : cur[0 + k * 6 + j]? = (fcells l)[k * 6 + j]? := by
    rw [← h4, List.getElem?_take, if_pos (by omega), Array.getElem?_toList, Nat.zero_add]
  rw [e, fcells_get l k hk hj]
  show _ = (elF (l.getD k default)).cells[j]?
  rw [getD_lt hk]
theorem Try.info_fd : (Try.prog.info? 53).map (fun i => (i.zero, i.size, i.bytes)) = some (some (.agg #[.int .u16 0, .int .u16 0, .int .u16 0, .int .i64 0, .int .u64 0, .int .u64 0]), 6, 32) := by kernel_rfl
theorem run_eql_fd {P : Program} (w : World) (t e : TypeId) (a : Option Addr) (n c : Nat) (ht : P.underlying t = some (.slice e)) : (binOp .eql t (.slice a n c) (.slice none 0 0)).run P w = .ok (.bool a.isNone) w := by
  have h : ∀ d : Nat, (Op.equalIn (d + 1) t (.slice a n c) (.slice none 0 0)).run P w = .ok a.isNone w := fun d => by
    cases a <;> simp [Op.equalIn, run_underlying ht]
  simp only [binOp]
  simp [Op.equal, Op.maxDepth, h 9999]

set_option linter.unusedSimpArgs false in
set_option linter.unusedVariables false in
set_option maxRecDepth 100000 in
set_option maxHeartbeats 2000000 in
theorem clone_fd (v : Value) (l : List Fd) (w : World) (h : SR w v l.length 6 (fcells l)) (hb : l.length ≤ 1000000) :
    Calls Try.prog 30 #[v] w fun e w' => ∃ v', e = .returned v' ∧ FO w.heap.size w' v' l ∧ Below w.heap.size w w' := by
  obtain ⟨i6, hi, hz0, hz1, hz2⟩ := info_parts Try.info_fd
  have hsr := Lib.hid h
  obtain ⟨hm, hl, h1, ao, cap, rfl, hnil, hcell⟩ := h
  cases ao with
  | none =>
    have h0 := hnil rfl
    have e : l = [] := List.eq_nil_of_length_eq_zero h0.1
    subst e
    obtain rfl := h0.2
    have hq : ∀ w : World, (binOp .eql 24 (.slice none 0 0) (.slice none 0 0)).run Try.prog w = .ok (.bool true) w := fun w => run_eql_fd w _ _ none 0 0 Try.underlying24
    clear hnil hcell h0 hsr
    go_enter Try.func30, Try.ntmps30
    go_wp2
    go_ret
    exact ⟨_, rfl, .inl ⟨rfl, rfl⟩, Below.refl _ _⟩
  | some ad =>
    have hb0 : Below w.heap.size w (w.alloc (.cells #[] 53)) := (Below.refl _ _).alloc (Nat.le_refl _) _
    have hq : ∀ w : World, (binOp .eql 24 (.slice (some ad) l.length cap) (.slice none 0 0)).run Try.prog w = .ok (.bool false) w := fun w => run_eql_fd w _ _ (some ad) _ _ Try.underlying24
    have own0 := World.ownsRow_made (base := w.heap.size) (e := 53) (size := 6) w #[] 0 (Nat.le_refl _) (by unfold maxLen; omega) rfl
    have hnew : ∀ j u, (fcells l)[j]? = some u → (w.alloc (.cells #[] 53)).cell? (ad.add j) = some u := fun j u hj => by
      have hlt := (List.getElem?_eq_some_iff.1 hj).1
      rw [hl] at hlt
      obtain ⟨b, off, e, hb1, hc⟩ := hcell (by omega)
      simp only [Option.some.injEq] at e
      subst e
      rw [addr_add]
      exact kc (hc j u hj) hb0
    have HNEW := Lib.hid hnew
    clear hnil hcell hnew
    go_enter Try.func30, Try.ntmps30
    go_wp2_with (at_builtin; refine wpList_append_own_at _ rfl _ _ 24 rfl w.heap.size 53 i6 _ 6 32 Try.underlying24 hi hz0 hz1 hz2 rfl (by decide) _ _ _ rfl own0 ad l.length cap (fcells l) rfl (fcells_len l) HNEW.out (fcells_one l) (by unfold maxLen; omega) (by omega) (by simp) ?_)
    intro v' w' hown hg hnn hob
    have hne : v' ≠ .slice none 0 0 := hnn
    have hfin := hb0.grown hg (by simp) (fun q hq => (own0.lt q hq).1)
    have hfo := rowL_of_own hown hne
    have FO' := Lib.hid hfo
    clear hown hg hnn hob hfo own0
    go_wp2
    go_ret
    exact ⟨_, rfl, FO'.out, hfin⟩

set_option linter.unusedSimpArgs false in
set_option linter.unusedVariables false in
set_option maxRecDepth 100000 in
set_option maxHeartbeats 2000000 in
/-- the closures of Learn -/
theorem learn1_any (a0 a1 a2 a3 a4 a5 : Int) (w : World) : Calls Try.prog 31 #[.agg #[.int .u16 a0, .int .u16 a1, .int .u16 a2, .int .i64 a3, .int .u64 a4, .int .u64 a5]] w fun e w' => e = .returned (.bool (a0 == 0)) ∧ Below w.heap.size w w' := by
  have hB0 : Below w.heap.size w (w.alloc (.cells #[.int .u16 a0, .int .u16 a1, .int .u16 a2, .int .i64 a3, .int .u64 a4, .int .u64 a5] 53)) := (Below.refl _ _).alloc (Nat.le_refl _) _
  go_enter Try.func31, Try.ntmps31
  go_wp2
  go_ret
  exact ⟨rfl, hB0⟩
set_option linter.unusedSimpArgs false in
set_option linter.unusedVariables false in
set_option maxRecDepth 100000 in
set_option maxHeartbeats 2000000 in
theorem learn3_any (a0 a1 a2 a3 a4 a5 b0 b1 b2 b3 b4 b5 : Int) (w : World) : Calls Try.prog 36 #[.agg #[.int .u16 a0, .int .u16 a1, .int .u16 a2, .int .i64 a3, .int .u64 a4, .int .u64 a5], .agg #[.int .u16 b0, .int .u16 b1, .int .u16 b2, .int .i64 b3, .int .u64 b4, .int .u64 b5]] w fun e w' => e = .returned (.bool (a0 == b0)) ∧ Below w.heap.size w w' := by
  have hB0 : Below w.heap.size w (w.alloc (.cells #[.int .u16 a0, .int .u16 a1, .int .u16 a2, .int .i64 a3, .int .u64 a4, .int .u64 a5] 53)) := (Below.refl _ _).alloc (Nat.le_refl _) _
  have hBW := hB0.alloc hB0.size (.cells #[.int .u16 b0, .int .u16 b1, .int .u16 b2, .int .i64 b3, .int .u64 b4, .int .u64 b5] 53)
  clear hB0
  go_enter Try.func36, Try.ntmps36
  go_wp2
  go_ret
  exact ⟨rfl, hBW⟩
theorem isnan_u16 (x : Int) (w : World) : Calls Try.prog 55 #[.int .u16 x] w fun e w' => e = .returned (.bool false) ∧ w = w' := by
  go_enter Try.func55, Try.ntmps55
  go_wp2
  go_ret
  exact ⟨ret_bool (by simp), rfl⟩
def cmpU (a b : Int) : Int := if a < b then -1 else if b < a then 1 else 0
theorem cmpU_cases (a b : Int) : (a < b ∧ cmpU a b = -1) ∨ (b < a ∧ cmpU a b = 1) ∨ (a = b ∧ cmpU a b = 0) := by
  unfold cmpU
  by_cases h : a < b
  · exact .inl ⟨h, by rw [if_pos h]⟩
  · by_cases h2 : b < a
    · exact .inr (.inl ⟨h2, by rw [if_neg h, if_pos h2]⟩)
    · exact .inr (.inr ⟨by omega, by rw [if_neg h, if_neg h2]⟩)
theorem cmp_u16 (a b : Int) (w : World) : Calls Try.prog 34 #[.int .u16 a, .int .u16 b] w fun e w' => e = .returned (.int .i64 (cmpU a b)) ∧ w = w' := by
  rcases cmpU_cases a b with ⟨h, e⟩ | ⟨h, e⟩ | ⟨rfl, e⟩
  all_goals
    rw [e]
    clear e
    go_enter Try.func34, Try.ntmps34
    go_wp2_with (go_at_call 55; refine (isnan_u16 _ _).mono ?_; rintro e w' ⟨rfl, rfl⟩)
    go_ret
    exact ⟨rfl, rfl⟩
set_option linter.unusedSimpArgs false in
set_option linter.unusedVariables false in
set_option maxRecDepth 100000 in
set_option maxHeartbeats 2000000 in
theorem learn2_any (a0 a1 a2 a3 a4 a5 b0 b1 b2 b3 b4 b5 : Int) (w : World) : Calls Try.prog 33 #[.agg #[.int .u16 a0, .int .u16 a1, .int .u16 a2, .int .i64 a3, .int .u64 a4, .int .u64 a5], .agg #[.int .u16 b0, .int .u16 b1, .int .u16 b2, .int .i64 b3, .int .u64 b4, .int .u64 b5]] w fun e w' => e = .returned (.int .i64 (cmpU a0 b0)) ∧ Below w.heap.size w w' := by
  have hB0 : Below w.heap.size w (w.alloc (.cells #[.int .u16 a0, .int .u16 a1, .int .u16 a2, .int .i64 a3, .int .u64 a4, .int .u64 a5] 53)) := (Below.refl _ _).alloc (Nat.le_refl _) _
  have hBW := hB0.alloc hB0.size (.cells #[.int .u16 b0, .int .u16 b1, .int .u16 b2, .int .i64 b3, .int .u64 b4, .int .u64 b5] 53)
  clear hB0
  go_enter Try.func33, Try.ntmps33
  go_wp2_with (go_at_call 34; refine (cmp_u16 _ _ _).mono ?_; rintro e w' ⟨rfl, rfl⟩)
  go_ret
  exact ⟨rfl, hBW⟩
theorem learn2_ok (l : List Fd) (n : Nat) : CmpOk Try.prog 33 (fun x y => (l.getD x default).ha < (l.getD y default).ha) (fun k => elF (l.getD k default)) n :=
  fun x y _ _ => ⟨cmpU (l.getD x default).ha (l.getD y default).ha, by
    rcases cmpU_cases (l.getD x default).ha (l.getD y default).ha with ⟨h, e⟩ | ⟨h, e⟩ | ⟨h, e⟩ <;> rw [e]
    · exact ⟨fun _ => h, fun _ => by decide⟩
    · exact ⟨fun h2 => absurd h2 (by decide), fun h2 => by omega⟩
    · exact ⟨fun h2 => absurd h2 (by decide), fun h2 => by omega⟩, fun w => learn2_any _ _ _ _ _ _ _ _ _ _ _ _ w⟩
theorem ha_swo (l : List Fd) : Swo (fun x y => (l.getD x default).ha < (l.getD y default).ha) := ⟨fun x => by omega, fun x y z h1 h2 => by omega, fun x y z h1 h2 => by omega⟩
end Go.Proofs.Yteblimdbkiiaaaa
