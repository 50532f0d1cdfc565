/- cache: Use's closure, and ContainsFunc with it. -/
import Derived.Test.YteblimdbkiiaaaaFdH
import Derived.Deep.DeepCutAuto
namespace Go.Proofs.Yteblimdbkiiaaaa
open Go.RowKit

/-- whether an element is a service of a type that holds a handle -/
def inB (sh sl : Int) (h : Int) (x : Fd) : Bool := !(x.la == 0) && (x.hi == sh && x.lo == sl) && decide (x.ha < h) && decide (h ≤ x.la)
set_option linter.unusedSimpArgs false in
set_option linter.unusedVariables false in
set_option maxRecDepth 100000 in
set_option maxHeartbeats 4000000 in
theorem use1_any (sh sl : Int) (f : Fd) (bs bf : Nat) (a0 a1 a2 a3 a4 a5 : Int) (w : World) (T : Cells w (blk bs 0 0 [.int .u64 sh, .int .u64 sl] ++ blk bf 0 0 [.int .u16 f.ha, .int .u16 f.la, .int .u16 f.va, .int .i64 f.pr, .int .u64 f.hi, .int .u64 f.lo])) :
    Calls Try.prog 42 #[.agg #[.int .u16 a0, .int .u16 a1, .int .u16 a2, .int .i64 a3, .int .u64 a4, .int .u64 a5], .pointer (some ⟨bs, 0, none⟩), .pointer (some ⟨bf, 0, none⟩)] w fun e w' => e = .returned (.bool (inB sh sl f.ha ⟨a0, a1, a2, a3, a4, a5⟩)) ∧ Below w.heap.size w w' := by
  obtain ⟨fh, fl, fv, fp, fhi, flo⟩ := f
  have hB : Below w.heap.size w (w.alloc (.cells #[.int .u16 a0, .int .u16 a1, .int .u16 a2, .int .i64 a3, .int .u64 a4, .int .u64 a5] 53)) := (Below.refl _ _).alloc (Nat.le_refl _) _
  have T2 := T.keep hB
  have hOpen := T2
  simp only [Cells, blk, List.cons_append, List.nil_append, and_true, Nat.reduceAdd, Nat.add_zero, Nat.zero_add] at hOpen
  obtain ⟨k0, k1, k2, k3, k4, k5, k6, k7⟩ := hOpen
  unfold inB
  simp only
  obtain ⟨y1, hy1⟩ : ∃ y, (a1 == 0) = y := ⟨_, rfl⟩
  have hy1' : (a1 != 0) = !y1 := by rw [← hy1]; rfl
  obtain ⟨y2, hy2⟩ : ∃ y, (a4 == sh) = y := ⟨_, rfl⟩
  obtain ⟨y3, hy3⟩ : ∃ y, (a5 == sl) = y := ⟨_, rfl⟩
  obtain ⟨y4, hy4⟩ : ∃ y, decide (a0 < fh) = y := ⟨_, rfl⟩
  obtain ⟨y5, hy5⟩ : ∃ y, decide (fh ≤ a1) = y := ⟨_, rfl⟩
  simp only [hy1, hy2, hy3, hy4, hy5]
  clear T T2
  cases y1 <;> cases y2 <;> cases y3 <;> cases y4 <;> cases y5
  all_goals
    go_enter Try.func42, Try.ntmps42
    go_wp2
    go_ret
    exact ⟨rfl, hB⟩
set_option linter.unusedSimpArgs false in
set_option linter.unusedVariables false in
set_option maxRecDepth 100000 in
set_option maxHeartbeats 4000000 in
theorem index2_any (bs bf : Nat) (pr : Fd → Bool) (v : Value) (l : List Fd) (w : World) (h : SR w v l.length 6 (fcells l)) (hn : l.length ≤ 1099511627776)
    (hP : ∀ x, x ∈ l → ∀ W, Below w.heap.size w W → Calls Try.prog 42 #[(elF x).val, .pointer (some ⟨bs, 0, none⟩), .pointer (some ⟨bf, 0, none⟩)] W fun e w' => e = .returned (.bool (pr x)) ∧ Below W.heap.size W w') :
    Calls Try.prog 53 #[v, .func (.func 42) #[] #[.pointer (some ⟨bs, 0, none⟩), .pointer (some ⟨bf, 0, none⟩)]] w
      fun e w' => ∃ r : Int, e = .returned (.int .i64 r) ∧ ((r = -1 ∧ ∀ j, j < l.length → pr (l.getD j default) = false) ∨ ∃ k : Nat, r = k ∧ k < l.length ∧ pr (l.getD k default) = true ∧ ∀ j, j < k → pr (l.getD j default) = false) ∧ Below w.heap.size w w' := by
  obtain ⟨n, hnn⟩ : ∃ n, l.length = n := ⟨_, rfl⟩
  have HN := Lib.hid hnn
  obtain ⟨_, _, _, ao, cap, rfl, _, hc⟩ := h
  have HC := Lib.hid hc
  have HP := Lib.hid hP
  rw [hnn] at hn ⊢
  clear hc hP hnn
  go_enter Try.func53, Try.ntmps53
  go_wp2
  go_loopw [5, 8] (fun _ i wr => ∃ k : Nat, i = .int .i64 k ∧ k ≤ n ∧ Hid (∀ j, j < k → pr (l.getD j default) = false) ∧ Below w.heap.size w wr) (fun _ i _ => n - (intOf i).toNat)
  case atStart => exact ⟨0, by simp, Nat.zero_le _, fun j h => by omega, Below.refl _ _⟩
  case round =>
    obtain ⟨k, rfl, hk, hno, hB⟩ := hrel
    by_cases hlt : k < n
    · have g1 : decide (k < n) = true := by simpa using hlt
      have hkl : k < l.length := by rw [HN.out]; exact hlt
      obtain ⟨b, off, rfl, hb, hcell⟩ := HC.out (by omega)
      have key : ∀ j, j < 6 → wr.cell? ⟨b, off + k * 6 + j, none⟩ = (elF l[k]).cells[j]? := fun j hj => by
        have e := fcells_get l k hkl hj
        obtain ⟨u, hu⟩ : ∃ u, (elF l[k]).cells[j]? = some u := ⟨_, List.getElem?_eq_getElem (show j < (elF l[k]).cells.length from hj)⟩
        rw [hu] at e ⊢
        have := kc (hcell _ _ e) hB
        rwa [← Nat.add_assoc] at this
      have c0 := key 0 (by decide)
      have c1 := key 1 (by decide)
      have c2 := key 2 (by decide)
      have c3 := key 3 (by decide)
      have c4 := key 4 (by decide)
      have c5 := key 5 (by decide)
      have hmem : l[k] ∈ l := List.getElem_mem hkl
      have hgd := getD_lt hkl
      obtain ⟨x, hx⟩ : ∃ x, l[k] = x := ⟨_, rfl⟩
      rw [hx] at c0 c1 c2 c3 c4 c5 hmem hgd
      simp only [El.cells, elF, Nat.add_zero, List.getElem?_cons_zero, List.getElem?_cons_succ] at c0 c1 c2 c3 c4 c5
      obtain ⟨c, hcp⟩ : ∃ c, pr x = c := ⟨_, rfl⟩
      have call := HP.out x hmem wr hB
      rw [hcp] at call
      simp only [El.val, elF] at call
      have CALL := Lib.hid call
      have HX := Lib.hid hgd
      have HCP := Lib.hid hcp
      have i1 : (k : Int) < (n : Int) := by omega
      have w1 : IntKind.i64.wrap ((k : Int) + 1) = (k : Int) + 1 := IntWalk.i64_in _ (by omega)
      clear key call hmem hgd hx hcell hcp
      cases c
      · go_wp2_with (go_at_call 42; refine CALL.out.mono ?_; rintro e w3 ⟨rfl, hB3⟩)
        refine ⟨⟨k + 1, by simp, hlt, fun j hj => ?_, hB.trans (hB3.mono hB.size)⟩, ?_⟩
        · by_cases hjk : j = k
          · rw [hjk, HX.out]; exact HCP.out
          · exact hno.out j (by omega)
        · simp [intOf]
          omega
      · go_wp2_with (go_at_call 42; refine CALL.out.mono ?_; rintro e w3 ⟨rfl, hB3⟩)
        go_ret
        exact ⟨_, rfl, .inr ⟨k, rfl, hlt, by rw [HX.out]; exact HCP.out, hno.out⟩, hB.trans (hB3.mono hB.size)⟩
    · have g1 : decide (k < n) = false := by simpa using hlt
      go_wp2
      go_ret
      exact ⟨_, rfl, .inl ⟨rfl, fun j hj => hno.out j (by omega)⟩, hB⟩

theorem contains2_any (sh sl : Int) (f : Fd) (bs bf : Nat) (v : Value) (l : List Fd) (w : World) (h : SR w v l.length 6 (fcells l)) (hn : l.length ≤ 1000000) (T : Cells w (blk bs 0 0 [.int .u64 sh, .int .u64 sl] ++ blk bf 0 0 [.int .u16 f.ha, .int .u16 f.la, .int .u16 f.va, .int .i64 f.pr, .int .u64 f.hi, .int .u64 f.lo])) :
    Calls Try.prog 41 #[v, .func (.func 42) #[] #[.pointer (some ⟨bs, 0, none⟩), .pointer (some ⟨bf, 0, none⟩)]] w
      fun e w' => e = .returned (.bool (l.any (inB sh sl f.ha))) ∧ Below w.heap.size w w' := by
  have idx := index2_any bs bf (inB sh sl f.ha) v l w h (by omega) (fun x _ W hW => use1_any sh sl f bs bf _ _ _ _ _ _ W (T.keep hW))
  have IDX := Lib.hid idx
  clear idx h T
  go_enter Try.func41, Try.ntmps41
  go_wp2_with fail
  go_at_call 53
  refine IDX.out.mono ?_
  rintro e w3 ⟨r, rfl, hr, hB3⟩
  have hres : decide (0 ≤ r) = l.any (inB sh sl f.ha) := by
    rcases hr with ⟨rfl, hno⟩ | ⟨k, rfl, hk, hyes, _⟩
    · have : l.any (inB sh sl f.ha) = false := by
        rw [List.any_eq_false]
        intro x hx
        obtain ⟨j, hj, rfl⟩ := List.getElem_of_mem hx
        have := hno j hj
        rw [getD_lt hj] at this
        simpa using this
      rw [this]
      rfl
    · have : l.any (inB sh sl f.ha) = true := List.any_eq_true.2 ⟨l.getD k default, by rw [getD_lt hk]; exact List.getElem_mem hk, hyes⟩
      rw [this]
      simp
  have HRES := Lib.hid hres
  clear hr hres IDX
  go_wp2
  go_ret
  exact ⟨by rw [← HRES.out]; rfl, hB3⟩
end Go.Proofs.Yteblimdbkiiaaaa
