/- attpdu: light. -/
import Derived.Test.YthnffdlnhfhabaaAuB
import Derived.Test.YthnffdlnhfhabaaUuE
namespace Go.Proofs.Ythnffdlnhfhabaa
open Go.RowKit

theorem same_refl (v1 v2 : Value) (xs : List Nat) (w : World) (ha : BytesAt w v1 xs) (hb : BytesAt w v2 xs) : Calls Try.prog 16 #[v1, v2] w fun e w' => e = .returned (.bool true) ∧ w = w' := by
  refine (same_any v1 v2 xs xs w ha hb).mono ?_
  rintro e w' ⟨rfl, rfl⟩
  exact ⟨by rw [decide_eq_true rfl], rfl⟩
/-- what light answers -/
def LightPost (w : World) (m n : Nat) (its : List It) (e : Ending) (w' : World) : Prop := ∃ b, e = .returned (.bool b) ∧ (b = true → m ≤ 300 ∧ n ≤ 4096 ∧ ∀ t ∈ its, t.n ≤ 4096) ∧ Below w.heap.size w w'
set_option linter.unusedSimpArgs false in
set_option linter.unusedVariables false in
set_option maxRecDepth 100000 in
set_option maxHeartbeats 2000000 in
theorem light_any (ki ak : Int) (ha la hi lo : Nat) (of mt co : Int) (cm : Bool) (a1 a2 : Option Addr) (n c m d : Nat) (its : List It) (w : World) (hits : Items w (.slice a2 m d) m its) (hn : n ≤ 140737488355328) :
    Calls Try.prog 10 #[.agg #[.int .i64 ki, .int .i64 ak, .int .u16 ha, .int .u16 la, .int .u64 hi, .int .u64 lo, .int .i64 of, .int .i64 mt, .int .i64 co, .bool cm, .slice a1 n c, .slice a2 m d]] w (LightPost w m n its) := by
  have hB : Below w.heap.size w (w.alloc (.cells #[.int .i64 ki, .int .i64 ak, .int .u16 ha, .int .u16 la, .int .u64 hi, .int .u64 lo, .int .i64 of, .int .i64 mt, .int .i64 co, .bool cm, .slice a1 n c, .slice a2 m d] 29)) := (Below.refl _ _).alloc (Nat.le_refl _) _
  have T0 := cells_new w [.int .i64 ki, .int .i64 ak, .int .u16 ha, .int .u16 la, .int .u64 hi, .int .u64 lo, .int .i64 of, .int .i64 mt, .int .i64 co, .bool cm, .slice a1 n c, .slice a2 m d] 29
  have hmm : m ≤ maxLen := hits.2.1.1
  unfold maxLen at hmm
  have HIT := Lib.hid hits
  clear hits
  go_enter Try.func10, Try.ntmps10
  go_upto_region 1 with fail
  generalize World.alloc _ _ = V at T0 hB ⊢
  have HT0 := Lib.hid T0
  have hOpen := T0
  simp only [Cells, blk, List.cons_append, List.nil_append, and_true, Nat.reduceAdd, Nat.add_zero, Nat.zero_add] at hOpen
  obtain ⟨y0, y1, y2, y3, y4, y5, y6, y7, y8, y9, yA, yB⟩ := hOpen
  clear T0
  go_wp2
  go_loopw [3, 4] (fun s i wr => ∃ k N : Nat, i = .int .i64 k ∧ s = .int .i64 N ∧ k ≤ m ∧ k ≤ 300 ∧ n ≤ N ∧ N ≤ n + k * 4096 ∧ Hid (∀ j (h : j < its.length), j < k → its[j].n ≤ 4096) ∧ wr = V) (fun _ i _ => 300 - (intOf i).toNat)
  case atStart => exact ⟨0, n, by simp, rfl, Nat.zero_le _, by omega, Nat.le_refl _, by omega, Lib.hid (fun j h hj => by omega), rfl⟩
  case round =>
    obtain ⟨k, N, rfl, rfl, hk, hk3, hnN, hNb, hall, rfl⟩ := hrel
    have w1 : IntKind.i64.wrap ((k : Int) + 1) = (k : Int) + 1 := IntWalk.i64_in _ (by omega)
    by_cases hlt : k < m
    · have g1 : decide (k < m) = true := by simpa using hlt
      by_cases hl3 : k < 300
      · have g2 : decide (k < 300) = true := by simpa using hl3
        have g2' : decide ((k : Int) < 300) = true := by simp; omega
        obtain ⟨hlen, hsr, hok⟩ := HIT.out
        have hkl : k < its.length := by rw [hlen]; exact hlt
        obtain ⟨_, _, _, ao, cap, e0, _, hcell⟩ := hsr
        simp only [Value.slice.injEq, true_and] at e0
        obtain ⟨e1, e2⟩ := e0
        obtain ⟨b, off, rfl, hb, hc⟩ := hcell (by omega)
        subst e1
        have cK : Cells w (blk b (off + k * 5) 0 (itc its[k])) := by
          have hh := fun i (hi5 : i < 5) => itc_get its k i hkl hi5
          refine ⟨?_, ?_, ?_, ?_, ?_, trivial⟩
          all_goals
            rw [Nat.add_assoc]
            refine hc _ _ ?_
            rw [hh _ (by decide)]
            rfl
        replace cK := cK.keep hB
        have hall2 := hall.out
        obtain ⟨t, ht⟩ : ∃ t, its[k] = t := ⟨_, rfl⟩
        have htn : its[k].n = t.n := by rw [ht]
        rw [ht] at cK
        obtain ⟨xa, xl, xh, xo, aa, an, ac, abs⟩ := t
        simp only [itc] at cK htn
        have hnext : an ≤ 4096 → Hid (∀ j (h : j < its.length), j < k + 1 → its[j].n ≤ 4096) := fun h => Lib.hid (fun j hj hjk => by
          by_cases e : j = k
          · subst e; omega
          · exact hall2 j hj (by omega))
        have HNX := Lib.hid hnext
        have hOpen := cK
        simp only [Cells, blk, List.cons_append, List.nil_append, and_true, Nat.reduceAdd, Nat.add_zero, Nat.zero_add] at hOpen
        obtain ⟨x0, x1, x2, x3, x4⟩ := hOpen
        clear hcell hc hok hlen cK ht htn hnext hall2 hall hkl e2
        by_cases h4 : 4096 < an
        · have g3 : decide (4096 < an) = true := by simpa using h4
          have g3' : decide ((4096 : Int) < (an : Int)) = true := by simp; omega
          clear HNX
          go_wp2
          go_ret
          exact ⟨false, rfl, by simp, hB⟩
        · have g3 : decide (4096 < an) = false := by simpa using h4
          have g3' : decide ((4096 : Int) < (an : Int)) = false := by simp; omega
          have hx := HNX.out (by omega)
          have w2 : IntKind.i64.wrap ((N : Int) + (an : Int)) = (N : Int) + (an : Int) := IntWalk.i64_in _ (by omega)
          clear HNX
          go_wp2
          refine ⟨⟨k + 1, N + an, by simp, by simp, hlt, hl3, by omega, by omega, hx, by first | rfl | trivial⟩, ?_⟩
          simp [intOf]
          omega
      · have g2 : decide (k < 300) = false := by simpa using hl3
        have g2' : decide ((k : Int) < 300) = false := by simp; omega
        obtain rfl : 300 = k := by omega
        have g3 : decide (m ≤ 300) = false := by simp; omega
        have g3' : decide ((m : Int) ≤ 300) = false := by simp; omega
        clear hall
        go_wp2
        go_ret
        exact ⟨false, rfl, by simp, hB⟩
    · have g1 : decide (k < m) = false := by simpa using hlt
      obtain rfl : m = k := by omega
      have hfin : N ≤ 4096 → n ≤ 4096 ∧ ∀ t ∈ its, t.n ≤ 4096 := fun h => ⟨by omega, fun t ht => by
        obtain ⟨j, hj, rfl⟩ := List.mem_iff_getElem.1 ht
        exact hall.out j hj (by rw [← HIT.out.1]; exact hj)⟩
      have g3 : decide (m ≤ 300) = true := by simpa using hk3
      have g3' : decide ((m : Int) ≤ 300) = true := by simp; omega
      have HF := Lib.hid hfin
      clear hall hfin
      go_wp2
      go_ret
      refine ⟨_, rfl, fun h => ?_, hB⟩
      have hN : N ≤ 4096 := by simp at h; omega
      exact ⟨hk3, HF.out hN⟩
end Go.Proofs.Ythnffdlnhfhabaa
