/- uuid: Same, Put, Num of the references. -/
import Derived.Test.YtldcihjddebciaaUuA
import Derived.Maps.AppendAt
namespace Go.Proofs.Ytldcihjddebciaa
open Go.RowKit

theorem Try.info_u8 : (Try.prog.info? 5).map (fun i => (i.zero, i.size, i.bytes)) = some (some (.int .u8 0), 1, 1) := by kernel_rfl
set_option linter.unusedSimpArgs false in
set_option linter.unusedVariables false in
set_option maxRecDepth 100000 in
set_option maxHeartbeats 1000000 in
theorem same_any (v1 v2 : Value) (xs ys : List Nat) (w : World) (ha : BytesAt w v1 xs) (hb : BytesAt w v2 ys) :
    Calls Try.prog 24 #[v1, v2] w fun e w' => e = .returned (.bool (decide (xs = ys))) ∧ w = w' := by
  have ca := run_convert_b (P := Try.prog) ha 23 5 9 Try.underlying23 Try.underlying5 Try.underlying9
  have cb := run_convert_b (P := Try.prog) hb 23 5 9 Try.underlying23 Try.underlying5 Try.underlying9
  have hq := strB_beqL xs ys ha.2.2 hb.2.2
  have hq2 := strB_beq xs ys ha.2.2 hb.2.2
  obtain ⟨a1, n1, rfl⟩ := ha.1.val
  obtain ⟨a2, n2, rfl⟩ := hb.1.val
  obtain ⟨d, hd⟩ : ∃ d, decide (xs = ys) = d := ⟨_, rfl⟩
  rw [hd] at hq hq2 ⊢
  clear ha hb hd
  go_enter Try.func24, Try.ntmps24
  go_wp2
  go_ret
  exact ⟨rfl, rfl⟩

/-- the lowest bytes of a number -/
def putB (n size : Nat) : List Nat := (List.range size).map (byt n)
theorem putB_succ (n k : Nat) : putB n (k + 1) = putB n k ++ [byt n k] := by simp [putB, List.range_succ]
theorem putB_len (n k : Nat) : (putB n k).length = k := by simp [putB]
theorem putB_lt (n k : Nat) : ∀ x ∈ putB n k, x < 256 := fun x hx => by
  obtain ⟨j, _, rfl⟩ := List.mem_map.1 hx
  exact byt_lt n j
theorem bcells_len (bs : List Nat) : (bcells bs).length = bs.length := by simp [bcells]
set_option linter.unusedSimpArgs false in
set_option linter.unusedVariables false in
set_option maxRecDepth 100000 in
set_option maxHeartbeats 1000000 in
theorem put_any (n size : Nat) (hn : n < 18446744073709551616) (hs : size ≤ 1000) (w : World) :
    Calls Try.prog 91 #[.int .u64 n, .int .i64 size] w fun e w' => ∃ v, e = .returned v ∧ w'.ownsRow w.heap.size 5 1 v size (bcells (putB n size)) ∧ Below w.heap.size w w' := by
  obtain ⟨i0, hi, hz0, hz1, hz2⟩ := info_parts Try.info_u8
  go_enter Try.func91, Try.ntmps91
  go_wp2
  go_loopw [0, 5, 6] (fun x v i wr => ∃ k : Nat, i = .int .i64 k ∧ k ≤ size ∧ x = .int .u64 ((n / 256 ^ k : Nat) : Int) ∧ wr.ownsRow w.heap.size 5 1 v k (bcells (putB n k)) ∧ Below w.heap.size w wr) (fun _ _ i _ => size - (intOf i).toNat)
  case atStart => exact ⟨0, by simp, Nat.zero_le _, by simp, World.ownsRow_nil _ _ _ _, Below.refl _ _⟩
  case round =>
    obtain ⟨k, rfl, hk, rfl, hown, hB⟩ := hrel
    by_cases hlt : k < size
    · have g1 : decide (k < size) = true := by simpa using hlt
      obtain ⟨N, hN⟩ : ∃ N, n / 256 ^ k = N := ⟨_, rfl⟩
      have hNle : N < 18446744073709551616 := by rw [← hN]; exact Nat.lt_of_le_of_lt (Nat.div_le_self _ _) hn
      have hN1 : n / 256 ^ (k + 1) = N / 256 := by rw [← hN, Nat.pow_succ, Nat.div_div_eq_div_mul]
      have hby : byt n k = N % 256 := by unfold byt; rw [hN]
      have HN := Lib.hid hN
      have HN1 := Lib.hid hN1
      have HBY := Lib.hid hby
      have b1 : (N : Int) < 18446744073709551616 := by omega
      have b0 : (0 : Int) ≤ (N : Int) := by omega
      have e1 : IntKind.u8.wrap ((N : Int) % 256) = ((N % 256 : Nat) : Int) := by rw [IntWalk.u8_in _ (by omega)]; simp
      rw [hN]
      have w1 : IntKind.i64.wrap ((k : Int) + 1) = (k : Int) + 1 := IntWalk.i64_in _ (by omega)
      clear hN hN1 hby
      go_wp2_with (at_builtin; refine wpList_append_own _ rfl _ _ 23 rfl w.heap.size 5 i0 (.int .u8 0) 1 1 Try.underlying23 hi hz0 hz1 hz2 rfl (by decide) _ _ _ rfl (hown.alloc _) ⟨wr.heap.size, 0, none⟩ 1 1 [.int .u8 ((N % 256 : Nat) : Int)] rfl rfl (cell_one_new _ _ _) (by simp [Value.oneCell']) (by unfold maxLen; omega) (by omega) (by have := hB.size; simp; omega) ?_)
      intro v' w2 hown' hgrow _
      obtain ⟨g', c', rfl⟩ := ownsRow_succ hown'
      have hB1 : Below w.heap.size w w2 := (hB.alloc hB.size _).grown hgrow (by have := hB.size; simp; omega) (fun j hj => (hown.lt j hj).1)
      have hown2 : w2.ownsRow w.heap.size 5 1 (.slice (some ⟨g', 0, none⟩) (k + 1) c') (k + 1) (bcells (putB n (k + 1))) := by
        rw [putB_succ, HBY.out]
        simpa [bcells] using hown'
      have HR : Hid (∃ k2 : Nat, Value.int .i64 ((k : Int) + 1) = .int .i64 k2 ∧ k2 ≤ size ∧ Value.int .u64 ((N : Int) / 256) = .int .u64 ((n / 256 ^ k2 : Nat) : Int) ∧ w2.ownsRow w.heap.size 5 1 (.slice (some ⟨g', 0, none⟩) (k + 1) c') k2 (bcells (putB n k2)) ∧ Below w.heap.size w w2) :=
        Lib.hid ⟨k + 1, by simp, hlt, by rw [HN1.out]; simp, hown2, hB1⟩
      clear hown hgrow hB hown' hown2 hB1
      go_wp2
      refine ⟨HR.out, ?_⟩
      simp [intOf]
      omega
    · have g1 : decide (k < size) = false := by simpa using hlt
      obtain rfl : k = size := by omega
      go_wp2
      go_ret
      exact ⟨_, rfl, hown, hB⟩
end Go.Proofs.Ytldcihjddebciaa
