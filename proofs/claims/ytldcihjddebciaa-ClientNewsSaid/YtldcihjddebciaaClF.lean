/- client: slices.Clone. -/
import Derived.Test.YtldcihjddebciaaClE
namespace Go.Proofs.Ytldcihjddebciaa
open Go.RowKit

theorem run_eql_nil {P : Program} (w : World) (t e : TypeId) (a : Option Addr) (n c : Nat) (ht : P.underlying t = some (.slice e)) : (binOp .eql t (.slice a n c) (.slice none 0 0)).run P w = .ok (.bool a.isNone) w := by
  have h : ∀ d : Nat, (Op.equalIn (d + 1) t (.slice a n c) (.slice none 0 0)).run P w = .ok a.isNone w := fun d => by
    cases a <;> simp [Op.equalIn, run_underlying ht]
  simp only [binOp]
  simp [Op.equal, Op.maxDepth, h 9999]
theorem Try.info_Found : (Try.prog.info? 114).map (fun i => (i.zero, i.size, i.bytes)) = some (some (.agg #[.int .u16 0, .int .u16 0, .int .u16 0, .int .i64 0, .int .u64 0, .int .u64 0]), 6, 32) := by kernel_rfl
theorem Try.info_Task : (Try.prog.info? 26).map (fun i => (i.zero, i.size, i.bytes)) = some (some (.agg #[.int .i64 0, .int .u16 0, .int .u16 0, .int .u16 0, .slice none 0 0, .int .i64 0, .slice none 0 0, .bool false]), 8, 80) := by kernel_rfl
theorem Try.info_AttItem : (Try.prog.info? 101).map (fun i => (i.zero, i.size, i.bytes)) = some (some (.agg #[.int .u16 0, .int .u16 0, .int .u64 0, .int .u64 0, .slice none 0 0]), 5, 48) := by kernel_rfl
theorem Try.info_AttPDU : (Try.prog.info? 32).map (fun i => (i.zero, i.size, i.bytes)) = some (some (.agg #[.int .i64 0, .int .i64 0, .int .u16 0, .int .u16 0, .int .u64 0, .int .u64 0, .int .i64 0, .int .i64 0, .int .i64 0, .bool false, .slice none 0 0, .slice none 0 0]), 12, 120) := by kernel_rfl
theorem Try.info_Result : (Try.prog.info? 64).map (fun i => (i.zero, i.size, i.bytes)) = some (some (.agg #[.int .i64 0, .int .i64 0, .int .u16 0, .slice none 0 0, .slice none 0 0, .int .i64 0]), 6, 80) := by kernel_rfl
set_option linter.unusedSimpArgs false in
set_option linter.unusedVariables false in
set_option maxRecDepth 100000 in
set_option maxHeartbeats 2000000 in
theorem clone_Found (v : Value) (n : Nat) (cs : List Value) (w : World) (h : SR w v n 6 cs) (hb : n ≤ 1000000) :
    Calls Try.prog 87 #[v] w fun e w' => ∃ v', e = .returned v' ∧ w'.ownsRow w.heap.size 114 6 v' n cs ∧ Below w.heap.size w w' ∧ (v = .slice none 0 0 → v' = .slice none 0 0) := by
  obtain ⟨i6, hi, hz0, hz1, hz2⟩ := info_parts Try.info_Found
  obtain ⟨hm, hl, h1, ao, cap, rfl, hnil, hcell⟩ := h
  cases ao with
  | none =>
    obtain ⟨rfl, rfl⟩ := hnil rfl
    have e : cs = [] := List.eq_nil_of_length_eq_zero (by omega)
    subst e
    have hq : ∀ w : World, (binOp .eql 24 (.slice none 0 0) (.slice none 0 0)).run Try.prog w = .ok (.bool true) w := fun w => run_eql_nil w _ _ none 0 0 Try.underlying24
    clear hnil hcell
    go_enter Try.func87, Try.ntmps87
    go_wp2
    go_ret
    exact ⟨_, rfl, ⟨rfl, .inl ⟨rfl, rfl⟩⟩, Below.refl _ _, fun _ => rfl⟩
  | some ad =>
    have hb0 : Below w.heap.size w (w.alloc (.cells #[] 114)) := (Below.refl _ _).alloc (Nat.le_refl _) _
    have hq : ∀ w : World, (binOp .eql 24 (.slice (some ad) n cap) (.slice none 0 0)).run Try.prog w = .ok (.bool false) w := fun w => run_eql_nil w _ _ (some ad) _ _ Try.underlying24
    have own0 := World.ownsRow_made (base := w.heap.size) (e := 114) (size := 6) w #[] 0 (Nat.le_refl _) (by unfold maxLen; omega) rfl
    have hnew : ∀ j u, cs[j]? = some u → (w.alloc (.cells #[] 114)).cell? (ad.add j) = some u := fun j u hj => by
      have hlt := (List.getElem?_eq_some_iff.1 hj).1
      rw [hl] at hlt
      obtain ⟨b, off, e, hb1, hc⟩ := hcell (by omega)
      simp only [Option.some.injEq] at e
      subst e
      rw [addr_add]
      exact kc (hc j u hj) hb0
    have HNEW := Lib.hid hnew
    have HLC := Lib.hid hl
    clear hnil hcell hnew hl
    go_enter Try.func87, Try.ntmps87
    go_wp2_with (at_builtin; refine wpList_append_own_at _ rfl _ _ 24 rfl w.heap.size 114 i6 _ 6 32 Try.underlying24 hi hz0 hz1 hz2 rfl (by decide) _ _ _ rfl own0 ad n cap cs rfl HLC.out HNEW.out h1 (by unfold maxLen; omega) (by omega) (by simp) ?_)
    intro v' w' hown hg hnn hob
    have hfin := hb0.grown hg (by simp) (fun q hq => (own0.lt q hq).1)
    have HO := Lib.hid hown
    clear hown hg hnn hob own0
    go_wp2
    go_ret
    exact ⟨_, rfl, HO.out, hfin, fun e => by cases e⟩
set_option linter.unusedSimpArgs false in
set_option linter.unusedVariables false in
set_option maxRecDepth 100000 in
set_option maxHeartbeats 2000000 in
theorem clone_Task (v : Value) (n : Nat) (cs : List Value) (w : World) (h : SR w v n 8 cs) (hb : n ≤ 1000000) :
    Calls Try.prog 44 #[v] w fun e w' => ∃ v', e = .returned v' ∧ w'.ownsRow w.heap.size 26 8 v' n cs ∧ Below w.heap.size w w' ∧ (v = .slice none 0 0 → v' = .slice none 0 0) := by
  obtain ⟨i6, hi, hz0, hz1, hz2⟩ := info_parts Try.info_Task
  obtain ⟨hm, hl, h1, ao, cap, rfl, hnil, hcell⟩ := h
  cases ao with
  | none =>
    obtain ⟨rfl, rfl⟩ := hnil rfl
    have e : cs = [] := List.eq_nil_of_length_eq_zero (by omega)
    subst e
    have hq : ∀ w : World, (binOp .eql 33 (.slice none 0 0) (.slice none 0 0)).run Try.prog w = .ok (.bool true) w := fun w => run_eql_nil w _ _ none 0 0 Try.underlying33
    clear hnil hcell
    go_enter Try.func44, Try.ntmps44
    go_wp2
    go_ret
    exact ⟨_, rfl, ⟨rfl, .inl ⟨rfl, rfl⟩⟩, Below.refl _ _, fun _ => rfl⟩
  | some ad =>
    have hb0 : Below w.heap.size w (w.alloc (.cells #[] 26)) := (Below.refl _ _).alloc (Nat.le_refl _) _
    have hq : ∀ w : World, (binOp .eql 33 (.slice (some ad) n cap) (.slice none 0 0)).run Try.prog w = .ok (.bool false) w := fun w => run_eql_nil w _ _ (some ad) _ _ Try.underlying33
    have own0 := World.ownsRow_made (base := w.heap.size) (e := 26) (size := 8) w #[] 0 (Nat.le_refl _) (by unfold maxLen; omega) rfl
    have hnew : ∀ j u, cs[j]? = some u → (w.alloc (.cells #[] 26)).cell? (ad.add j) = some u := fun j u hj => by
      have hlt := (List.getElem?_eq_some_iff.1 hj).1
      rw [hl] at hlt
      obtain ⟨b, off, e, hb1, hc⟩ := hcell (by omega)
      simp only [Option.some.injEq] at e
      subst e
      rw [addr_add]
      exact kc (hc j u hj) hb0
    have HNEW := Lib.hid hnew
    have HLC := Lib.hid hl
    clear hnil hcell hnew hl
    go_enter Try.func44, Try.ntmps44
    go_wp2_with (at_builtin; refine wpList_append_own_at _ rfl _ _ 33 rfl w.heap.size 26 i6 _ 8 80 Try.underlying33 hi hz0 hz1 hz2 rfl (by decide) _ _ _ rfl own0 ad n cap cs rfl HLC.out HNEW.out h1 (by unfold maxLen; omega) (by omega) (by simp) ?_)
    intro v' w' hown hg hnn hob
    have hfin := hb0.grown hg (by simp) (fun q hq => (own0.lt q hq).1)
    have HO := Lib.hid hown
    clear hown hg hnn hob own0
    go_wp2
    go_ret
    exact ⟨_, rfl, HO.out, hfin, fun e => by cases e⟩
set_option linter.unusedSimpArgs false in
set_option linter.unusedVariables false in
set_option maxRecDepth 100000 in
set_option maxHeartbeats 2000000 in
theorem clone_AttItem (v : Value) (n : Nat) (cs : List Value) (w : World) (h : SR w v n 5 cs) (hb : n ≤ 1000000) :
    Calls Try.prog 88 #[v] w fun e w' => ∃ v', e = .returned v' ∧ w'.ownsRow w.heap.size 101 5 v' n cs ∧ Below w.heap.size w w' ∧ (v = .slice none 0 0 → v' = .slice none 0 0) := by
  obtain ⟨i6, hi, hz0, hz1, hz2⟩ := info_parts Try.info_AttItem
  obtain ⟨hm, hl, h1, ao, cap, rfl, hnil, hcell⟩ := h
  cases ao with
  | none =>
    obtain ⟨rfl, rfl⟩ := hnil rfl
    have e : cs = [] := List.eq_nil_of_length_eq_zero (by omega)
    subst e
    have hq : ∀ w : World, (binOp .eql 30 (.slice none 0 0) (.slice none 0 0)).run Try.prog w = .ok (.bool true) w := fun w => run_eql_nil w _ _ none 0 0 Try.underlying30
    clear hnil hcell
    go_enter Try.func88, Try.ntmps88
    go_wp2
    go_ret
    exact ⟨_, rfl, ⟨rfl, .inl ⟨rfl, rfl⟩⟩, Below.refl _ _, fun _ => rfl⟩
  | some ad =>
    have hb0 : Below w.heap.size w (w.alloc (.cells #[] 101)) := (Below.refl _ _).alloc (Nat.le_refl _) _
    have hq : ∀ w : World, (binOp .eql 30 (.slice (some ad) n cap) (.slice none 0 0)).run Try.prog w = .ok (.bool false) w := fun w => run_eql_nil w _ _ (some ad) _ _ Try.underlying30
    have own0 := World.ownsRow_made (base := w.heap.size) (e := 101) (size := 5) w #[] 0 (Nat.le_refl _) (by unfold maxLen; omega) rfl
    have hnew : ∀ j u, cs[j]? = some u → (w.alloc (.cells #[] 101)).cell? (ad.add j) = some u := fun j u hj => by
      have hlt := (List.getElem?_eq_some_iff.1 hj).1
      rw [hl] at hlt
      obtain ⟨b, off, e, hb1, hc⟩ := hcell (by omega)
      simp only [Option.some.injEq] at e
      subst e
      rw [addr_add]
      exact kc (hc j u hj) hb0
    have HNEW := Lib.hid hnew
    have HLC := Lib.hid hl
    clear hnil hcell hnew hl
    go_enter Try.func88, Try.ntmps88
    go_wp2_with (at_builtin; refine wpList_append_own_at _ rfl _ _ 30 rfl w.heap.size 101 i6 _ 5 48 Try.underlying30 hi hz0 hz1 hz2 rfl (by decide) _ _ _ rfl own0 ad n cap cs rfl HLC.out HNEW.out h1 (by unfold maxLen; omega) (by omega) (by simp) ?_)
    intro v' w' hown hg hnn hob
    have hfin := hb0.grown hg (by simp) (fun q hq => (own0.lt q hq).1)
    have HO := Lib.hid hown
    clear hown hg hnn hob own0
    go_wp2
    go_ret
    exact ⟨_, rfl, HO.out, hfin, fun e => by cases e⟩
end Go.Proofs.Ytldcihjddebciaa
