/- cache: the iterator over the characteristics of a list: its contract for whatever loop body. -/
import Derived.Test.YteblimdbkiiaaaaFdE
import Derived.RangeFuncBox
import Derived.RangeFuncNested
import Derived.RangeFuncBound
import Derived.RangeFuncCalls
import Derived.RangeFuncLeaves
import Derived.Shelf.Abstract
import Derived.Shelf.RegionOpen
import Derived.OwnWalkIn
import Derived.TacticsInMore
import Derived.LoopNIn
import Derived.LoopIn
import Derived.Maps.AppendAt
namespace Go.Proofs.Yteblimdbkiiaaaa
open Go.RowKit Go.Shelf
attribute [local go_sem] Oper.semAt_some

/-- the characteristics of a list, by their numbers -/
def chB (x : Fd) : Bool := (x.la == 0) && !(x.va == 0)
def chTo (l : List Fd) (k : Nat) : List (Fin l.length) := ((List.finRange l.length).take k).filter (fun c => chB (l.getD c.val default))
def chs (l : List Fd) : List (Fin l.length) := chTo l l.length
theorem chTo_succ (l : List Fd) (k : Nat) (h : k < l.length) : chTo l (k + 1) = chTo l k ++ (if chB (l.getD k default) then [⟨k, h⟩] else []) := by
  unfold chTo
  rw [List.take_succ_eq_append_getElem (by simpa using h), List.filter_append]
  congr 1
  simp [List.filter_cons, List.getElem?_eq_getElem h]
theorem chTo_len (l : List Fd) (k : Nat) : (chTo l k).length ≤ k := Nat.le_trans (List.length_filter_le _ _) (by simp; omega)
theorem chTo_pre (l : List Fd) (k : Nat) : chTo l k <+: chs l := by
  unfold chs chTo
  have : (List.finRange l.length).take k <+: (List.finRange l.length).take l.length := by
    rw [List.take_of_length_le (i := l.length) (by simp)]
    exact List.take_prefix _ _
  exact this.filter _

set_option linter.unusedSimpArgs false in
set_option linter.unusedVariables false in
set_option maxRecDepth 100000 in
set_option maxHeartbeats 1000000 in
theorem chr1_in (nn : Nat) (hnn : 1 ≤ nn) (ly Bs n₀ : Nat) (l : List Fd) (v : Value) (hlen : l.length ≤ 1000000) (J Jx : List (Fin l.length) → World → Prop)
    (hY : ∀ pre (x : Fin l.length) W, J pre W → pre.length < l.length → YieldAt Fence.wide (nn - 1) Try.prog ly #[.int .i64 (x.val : Int), (elF (l.getD x.val default)).val] W fun e W' =>
      (e = .returned (.bool true) ∧ J (pre ++ [x]) W' ∧ Below n₀ W W') ∨ (e = .returned (.bool false) ∧ Jx (pre ++ [x]) W'))
    (W : World) (hJ : AbidesFrom W.heap.size J) (hBs : W.cell? ⟨Bs, 0, none⟩ = some v) (hsr : SR W v l.length 6 (fcells l)) (hbl : 0 < l.length → ∀ b, v.ownBlock = some b → b < n₀) (hn₀ : n₀ ≤ W.heap.size) (h0 : J [] W) :
    CallsIn Fence.wide nn Try.prog 56 #[.func (.yield ly) #[] #[], .pointer (some ⟨Bs, 0, none⟩)] W fun e W' => (∃ v, e = .returned v) ∧
      ((∃ ys, ys = chs l ∧ J ys W') ∨ (∃ pre, pre <+: chs l ∧ Jx pre W')) := by
  obtain ⟨n, hn⟩ : ∃ n, l.length = n := ⟨_, rfl⟩
  have HN := Lib.hid hn
  obtain ⟨_, _, _, ao, cap, rfl, _, hc⟩ := hsr
  have HC := Lib.hid hc
  have hBs' : W.cell? ⟨Bs, 0, none⟩ = some (.slice ao n cap) := by rw [hBs, hn]
  have h0' : J (chTo l 0) W := h0
  have HBL := Lib.hid hbl
  have HJ := Lib.hid hJ
  have HY := Lib.hid hY
  clear hc hn hBs hbl hJ hY h0
  refine callsIn_of_wp Try.func56 rfl trivial ?_ rfl
  simp only [Try.ntmps56, List.size_toArray, List.length_cons, List.length_nil, Nat.reduceAdd, Nat.reduceSub, Array.replicate_succ, Array.replicate_zero, List.push_toArray, List.append_toArray, List.nil_append, List.cons_append]
  gi_wp2
  gi_loopw [3, 4, 7] (fun _ _ i wr => ∃ k : Nat, k ≤ n ∧ i = .int .i64 k ∧ J (chTo l k) wr ∧ Below n₀ W wr)
    (fun _ _ i _ => n - (intOf i).toNat)
  case atStart => exact ⟨0, Nat.zero_le _, rfl, h0', Below.refl _ _⟩
  case round =>
    obtain ⟨k, hk, rfl, hJs, hnx⟩ := hrel
    by_cases hlt : k < n
    · have hkl : k < l.length := by rw [HN.out]; exact hlt
      obtain ⟨b, off, rfl, hb, hcell⟩ := HC.out (by omega)
      have hbn : b < n₀ := HBL.out (by omega) b rfl
      have key : ∀ j, j < 6 → wr.cell? ⟨b, off + k * 6 + j, none⟩ = (elF l[k]).cells[j]? := fun j hj => by
        have e := fcells_get l k hkl hj
        obtain ⟨u, hu⟩ : ∃ u, (elF l[k]).cells[j]? = some u := ⟨_, List.getElem?_eq_getElem (show j < (elF l[k]).cells.length from hj)⟩
        rw [hu] at e ⊢
        have := (hnx.cell (p := ⟨b, off + (k * 6 + j), none⟩) hbn).trans (hcell _ _ e)
        rwa [← Nat.add_assoc] at this
      have c0 := key 0 (by decide)
      have c1 := key 1 (by decide)
      have c2 := key 2 (by decide)
      have c3 := key 3 (by decide)
      have c4 := key 4 (by decide)
      have c5 := key 5 (by decide)
      have hgd := getD_lt hkl
      have hs := chTo_succ l k hkl
      have hy0 := HY.out (chTo l k) ⟨k, hkl⟩
      simp only at hy0
      rw [hgd] at hs hy0
      obtain ⟨⟨x0, x1, x2, x3, x4, x5⟩, hx⟩ : ∃ x, l[k] = x := ⟨_, rfl⟩
      rw [hx] at c0 c1 c2 c3 c4 c5 hs hy0
      simp only [El.cells, elF, Nat.add_zero, List.getElem?_cons_zero, List.getElem?_cons_succ] at c0 c1 c2 c3 c4 c5
      simp only [elF, El.val] at hy0
      have hJa := HJ.out _ _ (wr.alloc (.cells #[.int .u16 x0, .int .u16 x1, .int .u16 x2, .int .i64 x3, .int .u64 x4, .int .u64 x5] 53)) none hJs (World.grownBy_alloc _ _ _) (fun r e => by cases e)
      have hBa : Below n₀ W (wr.alloc (.cells #[.int .u16 x0, .int .u16 x1, .int .u16 x2, .int .i64 x3, .int .u64 x4, .int .u64 x5] 53)) := hnx.alloc (Nat.le_trans hn₀ hnx.size) _
      have i1 : (k : Int) < (n : Int) := by omega
      have w1 : IntKind.i64.wrap ((k : Int) + 1) = (k : Int) + 1 := IntWalk.i64_in _ (by omega)
      have hlk : (chTo l k).length < l.length := Nat.lt_of_le_of_lt (chTo_len l k) hkl
      obtain ⟨y1, hy1⟩ : ∃ y, (x1 == 0) = y := ⟨_, rfl⟩
      obtain ⟨y2, hy2⟩ : ∃ y, (x2 == 0) = y := ⟨_, rfl⟩
      have hy2' : (x2 != 0) = !y2 := by rw [← hy2]; rfl
      unfold chB at hs
      simp only [hy1, hy2] at hs
      clear key hcell hgd hx hJs
      have HBa := Lib.hid hBa
      have skip : y1 = false ∨ y2 = true → chTo l (k + 1) = chTo l k := fun h => by
        rw [hs]
        rcases h with rfl | rfl
        · simp
        · simp
      have SKIP := Lib.hid skip
      have HS := Lib.hid hs
      clear hs skip hBa
      cases y1
      · have e := SKIP.out (.inl rfl)
        rw [← e] at hJa
        clear e HS SKIP hy0 hlk
        gi_wp2
        refine ⟨fun _ h => (by cases h), ?_⟩
        gi_wp2
        go_roundw
        case rel => exact ⟨k + 1, hlt, by simp, hJa, HBa.out⟩
        case measure => simp [intOf]; omega
      · cases y2
        · have e := HS.out
          simp only [Bool.not_false, Bool.and_true, if_true] at e
          have HE := Lib.hid e
          obtain ⟨fn, tmps, assign, body, hy, hR⟩ := hy0 _ hJa hlk
          clear e HS SKIP hy0 hJa
          gi_wp2
          refine hR.mono ?_
          rintro e W3 (⟨rfl, hJ3, hk3⟩ | ⟨rfl, hJx3⟩)
          · rw [← HE.out] at hJ3
            gi_wp2
            go_roundw
            case rel => exact ⟨k + 1, hlt, by simp, hJ3, HBa.out.trans hk3⟩
            case measure => simp [intOf]; omega
          · gi_wp2
            refine bodyPost_ret (results_none rfl _ _ _) rfl ?_
            exact ⟨⟨_, rfl⟩, .inr ⟨_, by rw [← HE.out]; exact chTo_pre l (k + 1), hJx3⟩⟩
        · have e := SKIP.out (.inr rfl)
          rw [← e] at hJa
          clear e HS SKIP hy0 hlk
          gi_wp2
          refine ⟨fun _ h => (by cases h), ?_⟩
          gi_wp2
          go_roundw
          case rel => exact ⟨k + 1, hlt, by simp, hJa, HBa.out⟩
          case measure => simp [intOf]; omega
    · gi_wp2
      go_end0
      obtain rfl : k = n := by omega
      exact ⟨⟨_, rfl⟩, .inl ⟨_, rfl, by unfold chs; rw [HN.out]; exact hJs⟩⟩
set_option maxHeartbeats 1000000 in
theorem chr_in (nn : Nat) (ao : Option Addr) (n cap : Nat) (w : World) :
    CallsIn Fence.wide nn Try.prog 40 #[.slice ao n cap] w fun e w' => e = .returned (.func (.func 56) #[] #[.pointer (some ⟨w.heap.size, 0, none⟩)]) ∧ w' = w.alloc (.cells #[.slice ao n cap] 24) := by
  refine callsIn_of_wp Try.func40 rfl trivial ?_ rfl
  simp only [Try.ntmps40, List.size_toArray, List.length_cons, List.length_nil, Nat.reduceAdd, Nat.reduceSub, Array.replicate_succ, Array.replicate_zero, List.push_toArray, List.append_toArray, List.nil_append, List.cons_append]
  gi_wp2
  go_ret
  exact ⟨rfl, rfl⟩
/-- what characteristics hands back gives the characteristics, in order, or a beginning of them -/
theorem chr_stops (nn : Nat) (hnn : 1 ≤ nn) (Bn n₀ : Nat) (l : List Fd) (v : Value) (hlen : l.length ≤ 1000000) (w : World) (hBn : Bn < w.heap.size) (hc : w.cell? ⟨Bn, 0, none⟩ = some v) (hsr : SR w v l.length 6 (fcells l)) (hbl : 0 < l.length → ∀ b, v.ownBlock = some b → b < n₀) (hn₀ : n₀ ≤ w.heap.size) :
    SeqStopsK Fence.wide nn Try.prog 56 #[.pointer (some ⟨Bn, 0, none⟩)] (fun x : Fin l.length => #[Value.int .i64 (x.val : Int), (elF (l.getD x.val default)).val]) (Below n₀) (fun ys => ys = chs l) (fun pre => pre <+: chs l) l.length w := fun ly J Jx W hW hJ _ hY h0 =>
  chr1_in nn hnn ly Bn n₀ l v hlen J Jx hY W hJ ((hW.cell (p := ⟨Bn, 0, none⟩) hBn).trans hc) (hsr.below hW) hbl (Nat.le_trans hn₀ hW.size) h0
end Go.Proofs.Yteblimdbkiiaaaa
