/- Walks of chanmap.Nth: the i-th channel of a map, or -1. -/
import Derived.Test.YtoaiiceglfmfcaaDoorChanB
namespace Go.Proofs.YtoaiiceglfmfcaaDoor
open Go.RowKit Go.Shelf
attribute [local go_sem] Oper.semAt_some

/-- the i-th channel of a map, or -1 -/
def nthI (m : Nat) (i : Int) : Int := if h : 0 ≤ i ∧ i.toNat < (lst m).length then ((lst m)[i.toNat]'h.2).val else -1
theorem nthI_out (m : Nat) (i : Int) (h : ¬ (0 ≤ i ∧ i < ((lst m).length : Int))) : nthI m i = -1 := by
  unfold nthI
  rw [dif_neg (by omega)]
theorem nthI_in (m : Nat) (p : List (Fin 37)) (x : Fin 37) (h : p ++ [x] <+: lst m) : nthI m (p.length : Int) = x.val := by
  obtain ⟨r, hr⟩ := h
  unfold nthI
  have hl : ((p.length : Int)).toNat < (lst m).length := by rw [← hr]; simp
  rw [dif_pos ⟨by omega, hl⟩]
  simp only [← hr]
  simp

set_option maxRecDepth 100000 in
set_option maxHeartbeats 1000000 in
theorem nth_in (n : Nat) (hn : 4 ≤ n) (m : Nat) (hm : m < 18446744073709551616) (i : Int) (w : World) :
    CallsIn Fence.wide n Tryd.prog 21 #[.int .u64 m, .int .i64 i] w fun e w' => e = .returned (.int .i64 (nthI m i)) ∧ Below w.heap.size w w' := by
  have h1 : 1 ≤ n := by omega
  refine callsIn_of_wp_marks Tryd.func21 rfl trivial ?_ rfl
  simp only [Tryd.ntmps21, List.size_toArray, List.length_cons, List.length_nil, Nat.reduceAdd, Nat.reduceSub, Array.replicate_succ, Array.replicate_zero, List.push_toArray, List.append_toArray, List.nil_append, List.cons_append]
  gi_wp2_with (refine ⟨trivial, ?_⟩; gi_at_call 38; refine (all_in (n - 1) _ _).mono ?_; rintro e w' ⟨rfl, rfl⟩)
  have bI := Boxed.new w 3 (.int .i64 i)
  have bR := Boxed.new (w.alloc (.cells #[.int .i64 i] 3)) 3 (.int .i64 0)
  have bN := Boxed.new ((w.alloc (.cells #[.int .i64 i] 3)).alloc (.cells #[.int .i64 0] 3)) 3 (.int .i64 0)
  have bM := Boxed.new (((w.alloc (.cells #[.int .i64 i] 3)).alloc (.cells #[.int .i64 0] 3)).alloc (.cells #[.int .i64 0] 3)) 23 (.int .u64 m)
  have hB0 : Below w.heap.size w ((((w.alloc (.cells #[.int .i64 i] 3)).alloc (.cells #[.int .i64 0] 3)).alloc (.cells #[.int .i64 0] 3)).alloc (.cells #[.int .u64 m] 23)) :=
    ((((Below.refl _ w).alloc (Nat.le_refl _) _).alloc (by simp) _).alloc (by simp; omega) _).alloc (by simp; omega) _
  simp only [World.size_alloc] at bR bN bM
  refine wpIn_rangeFunc_ownF rfl h1 (gf := 51) (lb := #[.pointer (some ⟨w.heap.size + 1 + 1 + 1, 0, none⟩)]) rfl trivial (enters_of Tryd.func51 (by kernel_rfl) rfl)
    (all_stops (n - 1) (by omega) (w.heap.size + 1 + 1 + 1) m hm _ (by simp) bM.cell) keepsC_t (fun W l o o' _ h hc _ => keepsC_b W l o o' h hc) (Below.refl _ _) (fun _ => rfl)
    (fun pre W => (Hid (¬ (0 ≤ i ∧ i < (pre.length : Int))) ∧ Boxed W w.heap.size 3 (.int .i64 i) ∧ Boxed W (w.heap.size + 1) 3 (.int .i64 0) ∧ Boxed W (w.heap.size + 1 + 1) 3 (.int .i64 pre.length)) ∧ Below w.heap.size w W)
    (fun c pre W => (c = .ret ∧ ∃ p x, pre = p ++ [x] ∧ Hid (i = p.length) ∧ Boxed W (w.heap.size + 1) 3 (.int .i64 (x.val : Int))) ∧ Below w.heap.size w W)
    ?hI ?hIx ⟨⟨by unfold Hid; simp, ((bI.alloc _).alloc _).alloc _, (bR.alloc _).alloc _, bN.alloc _⟩, hB0⟩
    (fun x => { tmps := #[.int .u64 m, .int .i64 i, undef, .pointer (some ⟨w.heap.size, 0, none⟩), .pointer (some ⟨w.heap.size + 1, 0, none⟩), .pointer (some ⟨w.heap.size + 1 + 1, 0, none⟩), .int .i64 (x.val : Int), .int .u64 m, .func (.func 51) #[] #[.pointer (some ⟨w.heap.size + 1 + 1 + 1, 0, none⟩)], .int .i64 (x.val : Int), undef, undef, undef, undef, undef, undef], defers := [] }) ?assign ?body ?done ?stop
  case hI =>
    exact OwnFrom.and (OwnFrom.and (ownFrom_pure _ _) (Own.from (fun s A B row hs hg hr => ⟨boxed_own _ _ (fun _ => _) s A B row hs.1 hg hr, boxed_own _ _ (fun _ => _) s A B row hs.2.1 hg hr, boxed_own _ _ (fun pre : List (Fin 37) => Value.int .i64 pre.length) s A B row hs.2.2 hg hr⟩) _)) (ownFrom_below (Nat.le_refl _) (by simp; omega))
  case hIx =>
    exact fun c => OwnFrom.and (Own.from (fun s A B row hs hg hr => by
      obtain ⟨h1, p, x, h2, h3, h4⟩ := hs
      exact ⟨h1, p, x, h2, h3, boxed_own _ _ (fun _ : Unit => _) () A B row h4 hg hr⟩) _) (ownFrom_below (Nat.le_refl _) (by simp; omega))
  case assign =>
    intro l x W K hK
    gi_wp2
    exact hK
  case body =>
    rintro l pre x W ⟨⟨hp, cI, cR, cN⟩, hB⟩ hlen
    have c1 := cI.cell
    have c2 := cR.cell
    have c3 := cN.cell
    have c4 := cR.frozen
    have c5 := cN.frozen
    by_cases hi : i = pre.length
    · have ht : ((pre.length : Int) == i) = true := by simp [hi]
      have HI := Lib.hid hi
      clear hi
      gi_wp2
      exact ⟨KeepsOthers.setCell _ _ _, ⟨rfl, pre, x, rfl, HI, cR.set _⟩, hB.setCell (p := ⟨w.heap.size + 1, 0, none⟩) (by simp) _⟩
    · have ht : ((pre.length : Int) == i) = false := by rw [beq_eq_false_iff_ne]; exact fun h => hi h.symm
      have HI := Lib.hid hi
      clear hi
      gi_wp2
      refine ⟨KeepsOthers.setCell _ _ _, keepsC_set _ _ (by omega), ⟨?_, cI.other (by omega) _, cR.other (by omega) _, ?_⟩, hB.setCell (p := ⟨w.heap.size + 1 + 1, 0, none⟩) (by simp; omega) _⟩
      · have h2 := HI.out
        have h3 := hp.out
        unfold Hid
        simp only [List.length_append, List.length_cons, List.length_nil]
        omega
      · have := cN.set (.int .i64 ((pre.length : Int) + 1))
        simpa using this
  case done =>
    rintro D ys W hD rfl ⟨⟨hp, _, cR, _⟩, hB⟩ hK
    have c2 := cR.cell
    have c4 := cR.frozen
    have hn := Lib.hid (nthI_out m i hp.out)
    gi_wp2
    have hK' := (KeepsOthers.setCell W ⟨w.heap.size + 1, 0, none⟩ (.int .i64 (-1))).same D _ hK rfl
    refine ⟨by simp, .inl ⟨_, _, rfl, run_takeDeferred hK', ?_⟩⟩
    have hc5 := ((cR.set (.int .i64 (-1))).kept (grownBy_putObj' _ D (.deferred none)) (fun e => by cases e; rw [show (W.setCell _ _).heap[w.heap.size + 1]? = _ from cR.set (.int .i64 (-1))] at hK'; cases hK')).cell
    refine ⟨.int .i64 (-1), ?_, by rw [hn.out], (hB.setCell (p := ⟨w.heap.size + 1, 0, none⟩) (by simp) _).trans (belowK_b (w := w) (Nat.le_refl _) _ D _ _ (by simp at hD; omega) hK' rfl rfl)⟩
    simp [results, Tryd.f21, go_sem, hc5]
  case stop =>
    rintro D c pre W hD hpre ⟨⟨rfl, p, x, rfl, hi, cR⟩, hB⟩ hK
    have hn := Lib.hid (nthI_in m p x hpre)
    gi_wp2
    refine ⟨by simp, .inl ⟨_, _, rfl, run_takeDeferred hK, ?_⟩⟩
    have hc5 := (cR.kept (grownBy_putObj' _ D (.deferred none)) (fun e => by cases e; rw [show W.heap[w.heap.size + 1]? = _ from cR] at hK; cases hK)).cell
    refine ⟨.int .i64 (x.val : Int), ?_, by rw [hi.out, hn.out], hB.trans (belowK_b (w := w) (Nat.le_refl _) W D _ _ (by simp at hD; omega) hK rfl rfl)⟩
    simp [results, Tryd.f21, go_sem, hc5]

theorem nth_any (m : Nat) (hm : m < 18446744073709551616) (i : Int) (w : World) :
    Calls Tryd.prog 21 #[.int .u64 m, .int .i64 i] w fun e w' => e = .returned (.int .i64 (nthI m i)) ∧ Below w.heap.size w w' :=
  callsIn_wide.1 (nth_in 4 (Nat.le_refl _) m hm i w)
end Go.Proofs.YtoaiiceglfmfcaaDoor
