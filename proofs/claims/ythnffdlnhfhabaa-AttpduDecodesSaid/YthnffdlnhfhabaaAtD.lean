/- attpdu: the tables of fields. -/
import Derived.Test.YthnffdlnhfhabaaAtC
import Derived.Laws.EntriesVeiled
namespace Go.Proofs.Ythnffdlnhfhabaa
open Go.RowKit

/-- the cells of the first seven fields, and of the last three -/
def fd7 : List Value := [.string { data := #[65] }, .int .i64 1, .func (.func 64) #[] #[], .func (.func 65) #[] #[], .func (.func 67) #[] #[], .func (.func 68) #[] #[],
  .string { data := #[72] }, .int .i64 2, .func (.func 69) #[] #[], .func (.func 70) #[] #[], .func (.func 71) #[] #[], .func (.func 72) #[] #[],
  .string { data := #[76] }, .int .i64 2, .func (.func 73) #[] #[], .func (.func 74) #[] #[], .func (.func 75) #[] #[], .func (.func 76) #[] #[],
  .string { data := #[79] }, .int .i64 2, .func (.func 77) #[] #[], .func (.func 78) #[] #[], .func (.func 79) #[] #[], .func (.func 80) #[] #[],
  .string { data := #[77] }, .int .i64 2, .func (.func 81) #[] #[], .func (.func 82) #[] #[], .func (.func 83) #[] #[], .func (.func 84) #[] #[],
  .string { data := #[67] }, .int .i64 1, .func (.func 85) #[] #[], .func (.func 86) #[] #[], .func (.func 87) #[] #[], .func (.func 88) #[] #[],
  .string { data := #[88] }, .int .i64 1, .func (.func 89) #[] #[], .func (.func 44) #[] #[], .func (.func 90) #[] #[], .func (.func 91) #[] #[]]
def fd3 : List Value := [.string { data := #[84] }, .int .i64 0, .func (.func 43) #[] #[], .func (.func 44) #[] #[], .nilFunc, .nilFunc,
  .string { data := #[86] }, .int .i64 0, .func (.func 45) #[] #[], .func (.func 46) #[] #[], .nilFunc, .nilFunc,
  .string { data := #[73] }, .int .i64 0, .func (.func 48) #[] #[], .func (.func 49) #[] #[], .nilFunc, .nilFunc]
theorem fd7_one : ∀ u ∈ fd7, u.oneCell' = true := by unfold fd7; simp [Value.oneCell']
theorem fd3_one : ∀ u ∈ fd3, u.oneCell' = true := by unfold fd3; simp [Value.oneCell']
theorem build_T (w : World) : (Instr.build 55 #[(0, .string { data := #[84] }), (2, .func (.func 43) #[] #[]), (3, .func (.func 44) #[] #[])]).run Try.prog w = .ok (.agg #[.string { data := #[84] }, .int .i64 0, .func (.func 43) #[] #[], .func (.func 44) #[] #[], .nilFunc, .nilFunc]) w := by kernel_rfl
theorem Try.info_field : (Try.prog.info? 55).map (fun i => (i.zero, i.size, i.bytes)) = some (some (.agg #[.string ByteArray.empty, .int .i64 0, .nilFunc, .nilFunc, .nilFunc, .nilFunc]), 6, 56) := by kernel_rfl
set_option linter.unusedSimpArgs false in
set_option linter.unusedVariables false in
set_option maxRecDepth 100000 in
set_option maxHeartbeats 1000000 in
theorem numbers_any (w : World) : Calls Try.prog 42 #[] w fun e w' => e = .returned (.slice (some ⟨w.heap.size, 0, none⟩) 7 7) ∧ w' = w.alloc (.cells fd7.toArray 55) := by
  go_enter Try.func42, Try.ntmps42
  go_wp2
  go_ret
  exact ⟨rfl, rfl⟩
theorem numbers_own (w : World) : (w.alloc (.cells fd7.toArray 55)).ownsRow w.heap.size 55 6 (.slice (some ⟨w.heap.size, 0, none⟩) 7 7) 7 fd7 :=
  ⟨rfl, .inr ⟨w.heap.size, 7, fd7.toArray, rfl, Nat.le_refl _, heap_alloc_new w _, Nat.le_refl _, by unfold maxLen; omega, rfl, by simp [fd7]⟩⟩
set_option linter.unusedSimpArgs false in
set_option linter.unusedVariables false in
set_option maxRecDepth 100000 in
set_option maxHeartbeats 1000000 in
theorem all_any (w : World) : Calls Try.prog 26 #[] w fun e w' => ∃ v, e = .returned v ∧ w'.ownsRow w.heap.size 55 6 v 10 (fd7 ++ fd3) ∧ Below w.heap.size w w' := by
  obtain ⟨i0, hi, hz0, hz1, hz2⟩ := info_parts Try.info_field
  have hn := numbers_any w
  have ho := numbers_own w
  have hB : Below w.heap.size w (w.alloc (.cells fd7.toArray 55)) := (Below.refl _ _).alloc (Nat.le_refl _) _
  generalize hW : w.alloc (.cells fd7.toArray 55) = W at ho hB hn
  have HN := Lib.hid hn
  have HO := Lib.hid ho
  have HB := Lib.hid hB
  have hWs : w.heap.size + 1 = W.heap.size := by rw [← hW]; simp
  have hWs2 : w.heap.size < W.heap.size := by omega
  clear hn ho hB hW hWs
  go_enter Try.func26, Try.ntmps26
  go_wp2_with fail
  refine HN.out.mono ?_
  rintro e w' ⟨rfl, rfl⟩
  have hown := HO.out
  go_wp2_with (at_builtin; refine wpList_append_own _ rfl _ _ 50 rfl w.heap.size 55 i0 (.agg #[.string ByteArray.empty, .int .i64 0, .nilFunc, .nilFunc, .nilFunc, .nilFunc]) 6 56 Try.underlying50 hi hz0 hz1 hz2 rfl (by decide) _ _ _ rfl (hown.alloc _) ⟨w'.heap.size, 0, none⟩ 3 3 fd3 rfl rfl (fun j u hj => by rw [addr_add, Nat.zero_add]; exact cellNew _ _ _ j u (by simpa [fd3] using hj)) fd3_one (by unfold maxLen; omega) (by omega) (by simp; omega) ?_)
  intro v' w3 hown' hgrow _
  have hB3 : Below w.heap.size w w3 := (HB.out.alloc HB.out.size _).grown hgrow (by simp; omega) (fun j hj => (hown.lt j hj).1)
  clear hgrow hown
  go_wp2
  go_ret
  exact ⟨_, rfl, hown', hB3⟩
/-- what lies in field k of the table -/
def fzF : List FuncId := [64, 69, 73, 77, 81, 85, 89, 43, 45, 48]
def fkF : List FuncId := [65, 70, 74, 78, 82, 86, 44, 44, 46, 49]
def leF : List Nat := [65, 72, 76, 79, 77, 67, 88, 84, 86, 73]
def siF : List Nat := [1, 2, 2, 2, 2, 1, 1, 0, 0, 0]
def fz (k : Nat) : FuncId := fzF.getD k 0
def fk (k : Nat) : FuncId := fkF.getD k 0
def le (k : Nat) : Nat := leF.getD k 0
theorem fd_get (k : Nat) (h : k < 10) : ∃ s x g t, (fd7 ++ fd3)[k * 6]? = some (.string (strB [le k])) ∧ (fd7 ++ fd3)[k * 6 + 1]? = some s ∧ (fd7 ++ fd3)[k * 6 + 2]? = some (.func (.func (fz k)) #[] #[]) ∧ (fd7 ++ fd3)[k * 6 + 3]? = some (.func (.func (fk k)) #[] #[]) ∧
    (fd7 ++ fd3)[k * 6 + 4]? = some g ∧ (fd7 ++ fd3)[k * 6 + 5]? = some t ∧ s.oneCell' = true ∧ g.oneCell' = true ∧ t.oneCell' = true ∧ x = () := by
  rcases (show k = 0 ∨ k = 1 ∨ k = 2 ∨ k = 3 ∨ k = 4 ∨ k = 5 ∨ k = 6 ∨ k = 7 ∨ k = 8 ∨ k = 9 by omega) with rfl | rfl | rfl | rfl | rfl | rfl | rfl | rfl | rfl | rfl
  all_goals exact ⟨_, _, _, _, rfl, rfl, rfl, rfl, rfl, rfl, rfl, rfl, rfl, rfl⟩
theorem fd_one : ∀ u ∈ fd7 ++ fd3, u.oneCell' = true := fun u hu => by
  rcases List.mem_append.1 hu with h | h
  · exact fd7_one u h
  · exact fd3_one u h
end Go.Proofs.Ythnffdlnhfhabaa
