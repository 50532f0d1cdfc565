/- Walks of the iterator over a map's channels (chanmap.all): its contract for whatever loop body. -/
import Derived.Test.YtoaiiceglfmfcaaDoorChanA
import Derived.RangeFuncBox
import Derived.RangeFuncNested
import Derived.RangeFuncBound
import Derived.RangeFuncCalls
import Derived.RangeFuncLeaves
import Derived.Shelf.Abstract
import Derived.Shelf.RegionOpen
import Derived.OwnWalkIn
import Derived.TacticsInMore
import Derived.LoopNIn
import Derived.LoopIn
import Derived.Maps.AppendAt
namespace Go.Proofs.YtoaiiceglfmfcaaDoor
open Go.RowKit Go.Shelf
attribute [local go_sem] Oper.semAt_some

/-- the channels of a map among the first k -/
def lstTo (m k : Nat) : List (Fin 37) := ((List.finRange 37).take k).filter (fun c => m.testBit c.val)
/-- the channels of a map -/
def lst (m : Nat) : List (Fin 37) := lstTo m 37
theorem lstTo_succ (m k : Nat) (h : k < 37) : lstTo m (k + 1) = lstTo m k ++ (if m.testBit k then [⟨k, h⟩] else []) := by
  unfold lstTo
  rw [List.take_succ_eq_append_getElem (by simpa using h), List.filter_append]
  congr 1
  simp [List.filter_cons]
theorem lstTo_len (m k : Nat) : (lstTo m k).length ≤ k := Nat.le_trans (List.length_filter_le _ _) (by simp; omega)
theorem lstTo_pre (m k : Nat) : lstTo m k <+: lst m := by
  unfold lst lstTo
  have : (List.finRange 37).take k <+: (List.finRange 37).take 37 := by
    rw [List.take_of_length_le (i := 37) (by simp)]
    exact List.take_prefix _ _
  exact this.filter _

/-- a cell keeps what it holds -/
def KeepsC (b : Nat) (W W' : World) : Prop := ∀ v, W.cell? ⟨b, 0, none⟩ = some v → W'.cell? ⟨b, 0, none⟩ = some v
theorem keepsC_t {b : Nat} {A B C : World} (h : KeepsC b A B) (k : KeepsC b B C) : KeepsC b A C := fun v hv => k v (h v hv)
theorem keepsC_b {b : Nat} (W : World) (l : Nat) (o o' : Obj) (h : W.heap[l]? = some o) (hc : o.isCells = false) : KeepsC b W (W.putObj l o') :=
  fun _ hv => cell_kept hv (grownBy_putObj' W l o') (fun _ e => by cases e; exact ⟨o, h, hc⟩)
theorem keepsC_set {b c : Nat} (W : World) (u : Value) (hne : b ≠ c) : KeepsC b W (W.setCell ⟨c, 0, none⟩ u) := fun v hv => by
  obtain ⟨o, ho, _⟩ := cells_of_cell hv
  exact (World.cell?_of_block (((grownBy_setCell' W c u).block b (Array.getElem?_eq_some_iff.1 ho).1 (fun e => hne (by cases e; rfl))))).trans hv
theorem KeepsC.refl (b : Nat) (W : World) : KeepsC b W W := fun _ h => h

set_option maxRecDepth 100000 in
set_option maxHeartbeats 1000000 in
theorem all1_in (n : Nat) (hn : 1 ≤ n) (l Bn m : Nat) (hm : m < 18446744073709551616) (J Jx : List (Fin 37) → World → Prop)
    (hY : ∀ pre (x : Fin 37) W, J pre W → pre.length < 37 → YieldAt Fence.wide (n - 1) Tryd.prog l #[.int .i64 (x.val : Int)] W fun e W' =>
      (e = .returned (.bool true) ∧ J (pre ++ [x]) W' ∧ KeepsC Bn W W') ∨ (e = .returned (.bool false) ∧ Jx (pre ++ [x]) W'))
    (W : World) (hBn : W.cell? ⟨Bn, 0, none⟩ = some (.int .u64 m)) (h0 : J [] W) :
    CallsIn Fence.wide n Tryd.prog 51 #[.func (.yield l) #[] #[], .pointer (some ⟨Bn, 0, none⟩)] W fun e W' => (∃ v, e = .returned v) ∧
      ((∃ ys, ys = lst m ∧ J ys W') ∨ (∃ pre, pre <+: lst m ∧ Jx pre W')) := by
  refine callsIn_of_wp Tryd.func51 rfl trivial ?_ rfl
  simp only [Tryd.ntmps51, List.size_toArray, List.length_cons, List.length_nil, Nat.reduceAdd, Nat.reduceSub, Array.replicate_succ, Array.replicate_zero, List.push_toArray, List.append_toArray, List.nil_append, List.cons_append]
  gi_wp2
  gi_loopw [3, 4] (fun _ i wr => ∃ k : Nat, k ≤ 37 ∧ i = .int .i64 k ∧ J (lstTo m k) wr ∧ wr.cell? ⟨Bn, 0, none⟩ = some (.int .u64 m))
    (fun _ i _ => 37 - (intOf i).toNat)
  case atStart =>
    exact ⟨0, by omega, rfl, h0, hBn⟩
  case round =>
    obtain ⟨k, hk, rfl, hJs, hc⟩ := hrel
    by_cases hlt : k < 37
    · have hlen : (lstTo m k).length < 37 := Nat.lt_of_le_of_lt (lstTo_len m k) hlt
      have hs := lstTo_succ m k hlt
      cases hb : m.testBit k
      · rw [hb] at hs
        simp only [Bool.false_eq_true, if_false, List.append_nil] at hs
        have hI := hasI_in m k hlt
        rw [hb] at hI
        have HI := Lib.hid hI
        rw [← hs] at hJs
        clear hs hI hb hlen
        gi_wp2_with (refine ⟨trivial, ?_⟩; gi_at_call 14; refine (callsIn_wide.2 (has_any m hm _ _)).mono ?_; rw [HI.out]; rintro e w' ⟨rfl, rfl⟩)
        refine ⟨fun _ h => (by cases h), ?_⟩
        gi_wp2
        go_roundw
        case rel => exact ⟨k + 1, by omega, by go_num, hJs, hc⟩
        case measure => simp [intOf]; omega
      · rw [hb] at hs
        simp only [if_true] at hs
        have hI := hasI_in m k hlt
        rw [hb] at hI
        have HI := Lib.hid hI
        have HS := Lib.hid hs
        clear hs hI hb
        obtain ⟨fn, tmps, assign, body, hy, hR⟩ := hY (lstTo m k) ⟨k, hlt⟩ wr hJs hlen
        dsimp only at hy
        gi_wp2_with (refine ⟨trivial, ?_⟩; gi_at_call 14; refine (callsIn_wide.2 (has_any m hm _ _)).mono ?_; rw [HI.out]; rintro e w' ⟨rfl, rfl⟩)
        refine hR.mono ?_
        rintro e W3 (⟨rfl, hJ3, hk3⟩ | ⟨rfl, hJx3⟩)
        · have hc3 := hk3 _ hc
          rw [← HS.out] at hJ3
          gi_wp2
          go_roundw
          case rel => exact ⟨k + 1, by omega, by go_num, hJ3, hc3⟩
          case measure => simp [intOf]; omega
        · gi_wp2
          refine bodyPost_ret (results_none rfl _ _ _) rfl ?_
          exact ⟨⟨_, rfl⟩, .inr ⟨_, by rw [← HS.out]; exact lstTo_pre m (k + 1), hJx3⟩⟩
    · gi_wp2
      go_end0
      obtain rfl : k = 37 := by omega
      exact ⟨⟨_, rfl⟩, .inl ⟨_, rfl, hJs⟩⟩

set_option maxHeartbeats 1000000 in
theorem all_in (n m : Nat) (w : World) :
    CallsIn Fence.wide n Tryd.prog 38 #[.int .u64 m] w fun e w' => e = .returned (.func (.func 51) #[] #[.pointer (some ⟨w.heap.size, 0, none⟩)]) ∧ w' = w.alloc (.cells #[.int .u64 m] 23) := by
  refine callsIn_of_wp Tryd.func38 rfl trivial ?_ rfl
  simp only [Tryd.ntmps38, List.size_toArray, List.length_cons, List.length_nil, Nat.reduceAdd, Nat.reduceSub, Array.replicate_succ, Array.replicate_zero, List.push_toArray, List.append_toArray, List.nil_append, List.cons_append]
  gi_wp2
  go_ret
  exact ⟨rfl, rfl⟩

/-- all(m) hands back a value that gives all channels of m, in order, or a beginning of them where a round has said that it wants no more. -/
theorem all_stops (n : Nat) (hn : 1 ≤ n) (Bn m : Nat) (hm : m < 18446744073709551616) (w : World) (hBn : Bn < w.heap.size) (hc : w.cell? ⟨Bn, 0, none⟩ = some (.int .u64 m)) :
    SeqStopsK Fence.wide n Tryd.prog 51 #[.pointer (some ⟨Bn, 0, none⟩)] (fun x : Fin 37 => #[Value.int .i64 (x.val : Int)]) (KeepsC Bn) (fun ys => ys = lst m) (fun pre => pre <+: lst m) 37 w := fun l J Jx W hW _ _ hY h0 =>
  all1_in n hn l Bn m hm J Jx hY W ((hW.cell (p := ⟨Bn, 0, none⟩) hBn).trans hc) h0
end Go.Proofs.YtoaiiceglfmfcaaDoor
