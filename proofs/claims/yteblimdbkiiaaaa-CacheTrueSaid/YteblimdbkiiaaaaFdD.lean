/- cache: Learn. -/
import Derived.Test.YteblimdbkiiaaaaFdC
namespace Go.Proofs.Yteblimdbkiiaaaa
open Go.RowKit

/-- one order alone -/
theorem srt_one {lt : Nat → Nat → Prop} (ho : Swo lt) {p q : Nat → Nat} {n : Nat} (hp : Srt lt p 0 n) (hq : Srt lt q 0 n) (mp : Mem (fun k => k) p 0 n) (mq : Mem (fun k => k) q 0 n) : ∀ k, k < n → p k = q k := by
  have irr : ∀ x, ¬ Lx lt x x := fun x h => by
    rcases h with h | ⟨_, h⟩
    · exact ho.ir x h
    · omega
  have key : ∀ k, (∀ j, j < k → j < n → p j = q j) → k < n → p k = q k := fun k ih hk => by
    have hpk : p k < n := by
      obtain ⟨j, _, h2, e⟩ := mp.from' k (Nat.zero_le _) hk
      rw [e]; exact h2
    have hqk : q k < n := by
      obtain ⟨j, _, h2, e⟩ := mq.from' k (Nat.zero_le _) hk
      rw [e]; exact h2
    obtain ⟨i, _, hi, ei⟩ := mq.into (p k) (Nat.zero_le _) hpk
    obtain ⟨i', _, hi', ei'⟩ := mp.into (q k) (Nat.zero_le _) hqk
    have h1 : k ≤ i := Nat.le_of_not_lt fun h => by
      have := ih i h hi
      rw [ei] at this
      have h2 := hp i k (Nat.zero_le _) h hk
      rw [this] at h2
      exact irr _ h2
    have h2 : k ≤ i' := Nat.le_of_not_lt fun h => by
      have := ih i' h hi'
      rw [ei'] at this
      have h2 := hq i' k (Nat.zero_le _) h hk
      rw [← this] at h2
      exact irr _ h2
    by_cases c1 : i = k
    · rw [c1] at ei; exact ei.symm
    · by_cases c2 : i' = k
      · rw [c2] at ei'; exact ei'
      · have l1 := hq k i (Nat.zero_le _) (by omega) hi
        have l2 := hp k i' (Nat.zero_le _) (by omega) hi'
        rw [ei] at l1
        rw [ei'] at l2
        exact absurd (l1.trans ho l2) (irr _)
  have all : ∀ m k, k < m → k < n → p k = q k := by
    intro m
    induction m with
    | zero => intro k h; omega
    | succ m ih =>
      intro k h hk
      by_cases c : k < m
      · exact ih k c hk
      · exact key k (fun j hj hjn => ih j (by omega) hjn) hk
  exact fun k hk => all n k hk hk
/-- what is learnt of a list -/
def flt (l : List Fd) : List Fd := l.filter fun x => x.ha != 0
def prmF (s : List Fd) (p : Nat → Nat) : List Fd := pick s ((List.range s.length).map p)
theorem prmF_len (s : List Fd) (p : Nat → Nat) : (prmF s p).length = s.length := by simp [prmF, pick]
theorem prmF_get (s : List Fd) (p : Nat → Nat) (k : Nat) (h : k < s.length) : (prmF s p).getD k default = s.getD (p k) default := by
  rw [getD_lt (by rw [prmF_len]; exact h)]
  simp [prmF, pick]
def Sorted (s r : List Fd) : Prop := ∃ p, Mem (fun k => k) p 0 s.length ∧ Srt (fun x y => (s.getD x default).ha < (s.getD y default).ha) p 0 s.length ∧ r = prmF s p
theorem Sorted.unique {s r r' : List Fd} (h : Sorted s r) (h' : Sorted s r') : r = r' := by
  obtain ⟨p, h1, h2, rfl⟩ := h
  obtain ⟨q, k1, k2, rfl⟩ := h'
  unfold prmF
  rw [List.map_congr_left fun k hk => srt_one (ha_swo s) h2 k2 h1 k1 k (List.mem_range.1 hk)]
def Learnt (l r : List Fd) : Prop := ∃ r0, Sorted (flt l) r0 ∧ r = cmpct r0
theorem Learnt.unique {l r r' : List Fd} (h : Learnt l r) (h' : Learnt l r') : r = r' := by
  obtain ⟨a, h1, rfl⟩ := h
  obtain ⟨b, k1, rfl⟩ := h'
  rw [h1.unique k1]
theorem FO.set {B : Nat} {w : World} {v : Value} {l : List Fd} (h : FO B w v l) {p : Addr} (hp : p.block < B) (u : Value) : FO B (w.setCell p u) v l := by
  rcases h with h | ⟨g, cap, e, h1, h2, h3, cur, k1, k2⟩
  · exact .inl h
  · exact .inr ⟨g, cap, e, h1, h2, h3, cur, by rw [heap_setCell_other _ _ _ _ (by omega)]; exact k1, k2⟩
theorem FO.len {B : Nat} {w : World} {v : Value} {l : List Fd} (h : FO B w v l) : ∃ ao cap, v = .slice ao l.length cap := by
  rcases h with ⟨rfl, rfl⟩ | ⟨g, cap, e, _⟩
  · exact ⟨none, 0, rfl⟩
  · exact ⟨_, _, e⟩

/-- the sort of nothing -/
theorem insf_nil (w : World) (cv : Value) : Calls Try.prog 63 #[.slice none 0 0, .int .i64 0, .int .i64 0, cv] w fun x w' => x = .returned (.tuple #[]) ∧ Below w.heap.size w w' := by
  go_enter Try.func63, Try.ntmps63
  go_wp2
  go_loopw [8] (fun vi wr => vi = .int .i64 1 ∧ wr = w) (fun _ _ => 0)
  case atStart => exact ⟨rfl, rfl⟩
  case round =>
    obtain ⟨rfl, rfl⟩ := hrel
    go_wp2
    go_end0
    exact ⟨rfl, Below.refl _ _⟩
theorem stablef_nil (w : World) (cv : Value) : Calls Try.prog 54 #[.slice none 0 0, .int .i64 0, cv] w fun x w' => x = .returned (.tuple #[]) ∧ Below w.heap.size w w' := by
  go_enter Try.func54, Try.ntmps54
  go_wp2
  go_loopw [7, 8] (fun vi vj wr => vi = .int .i64 0 ∧ vj = .int .i64 20 ∧ wr = w) (fun _ _ _ => 0)
  case atStart => exact ⟨rfl, rfl, rfl⟩
  case round =>
    obtain ⟨rfl, rfl, rfl⟩ := hrel
    go_wp2_with (go_at_call 63; refine (insf_nil _ _).mono ?_; rintro y w3 ⟨rfl, hB3⟩)
    go_loopw [6] (fun vi wr2 => vi = .int .i64 20 ∧ Below wr.heap.size wr wr2) (fun _ _ => 0)
    case atStart => exact ⟨rfl, hB3⟩
    case round =>
      obtain ⟨rfl, hB⟩ := hrel
      go_wp2
      go_end0
      exact ⟨rfl, hB⟩
theorem sortf_nil (w : World) (cv : Value) : Calls Try.prog 32 #[.slice none 0 0, cv] w fun x w' => x = .returned (.tuple #[]) ∧ Below w.heap.size w w' := by
  go_enter Try.func32, Try.ntmps32
  go_wp2_with (go_at_call 54; refine (stablef_nil _ _).mono ?_; rintro y w3 ⟨rfl, h3⟩)
  go_end0
  exact ⟨rfl, h3⟩
theorem sort_fd (B : Nat) (v : Value) (l : List Fd) (w : World) (h : FO B w v l) (hB : B ≤ w.heap.size) (hn : l.length ≤ 1099511627776) :
    Calls Try.prog 32 #[v, .func (.func 33) #[] #[]] w fun e w' => e = .returned (.tuple #[]) ∧ ∃ r, Sorted l r ∧ FO B w' v r ∧ Below B w w' := by
  rcases h with ⟨rfl, rfl⟩ | ⟨g, cap, rfl, hg, hlc, hcm, hrow⟩
  · refine (sortf_nil w _).mono ?_
    rintro e w' ⟨rfl, hB'⟩
    exact ⟨rfl, [], ⟨fun k => k, Mem.refl _ _ _, fun i j h1 h2 h3 => by simp at h3, rfl⟩, .inl ⟨rfl, rfl⟩, hB'.mono hB⟩
  · refine (Fd_sort _ g 0 l.length cap w hrow hn (fun x => elF_one _) _ (ha_swo l) (learn2_ok l _)).mono ?_
    rintro e w' ⟨rfl, p, hr, hm, hs, hsw⟩
    refine ⟨rfl, prmF l p, ⟨p, hm, hs, rfl⟩, .inr ⟨g, cap, by rw [prmF_len], hg, by rw [prmF_len]; exact hlc, hcm, ?_⟩, hsw.below.mono hg⟩
    refine rowL_pick (p := p) (by simpa using hr) fun t ht => by simp

set_option linter.unusedSimpArgs false in
set_option linter.unusedVariables false in
set_option maxRecDepth 100000 in
set_option maxHeartbeats 2000000 in
theorem learn_any (v : Value) (l : List Fd) (hash : Int) (w : World) (h : SR w v l.length 6 (fcells l)) (hn : l.length ≤ 1000000) :
    Calls Try.prog 10 #[v, .int .u64 hash] w fun e w' => ∃ v' r, e = .returned (.agg #[.bool true, .int .u64 hash, v', .bool false]) ∧ Learnt l r ∧ FO (w.heap.size + 1) w' v' r ∧ Below w.heap.size w w' := by
  have hb0 : Below w.heap.size w (w.alloc (.cells #[.bool false, .int .u64 0, .slice none 0 0, .bool false] 26)) := (Below.refl _ _).alloc (Nat.le_refl _) _
  have hA0 := heap_alloc_new w (.cells #[.bool false, .int .u64 0, .slice none 0 0, .bool false] 26)
  have hz0 : (w.alloc (.cells #[.bool false, .int .u64 0, .slice none 0 0, .bool false] 26)).heap.size = w.heap.size + 1 := by simp
  have cl := clone_fd v l _ (h.below hb0) hn
  rw [hz0] at cl
  have CL := Lib.hid cl
  have HB0 := Lib.hid hb0
  have HA0 := Lib.hid hA0
  have HZ0 := Lib.hid hz0
  clear cl hb0 hA0 hz0 h
  go_enter Try.func10, Try.ntmps10
  go_wp2_with (go_at_call 30; refine CL.out.mono ?_; rintro e w1 ⟨v1, rfl, hf1, hB1⟩)
  go_at_call 29
  refine (delete_fd (w.heap.size + 1) v1 l w1 hf1 (by have := hB1.size; have := HZ0.out; omega) (by omega)).mono ?_
  rintro e w2 ⟨v2, rfl, hf2, hB2⟩
  have hle : (flt l).length ≤ l.length := List.length_filter_le _ _
  have HF2 : Hid (FO (w.heap.size + 1) w2 v2 (flt l)) := hf2
  clear hf2 hf1
  go_wp2_with fail
  go_at_call 32
  refine (sort_fd (w.heap.size + 1) v2 (flt l) w2 HF2.out (by have := hB1.size; have := hB2.size; have := HZ0.out; omega) (by omega)).mono ?_
  rintro e w3 ⟨rfl, r0, hs3, hf3, hB3⟩
  have hl0 : r0.length = (flt l).length := by obtain ⟨p, _, _, rfl⟩ := hs3; exact prmF_len _ _
  have HS3 := Lib.hid hs3
  have HF3 := Lib.hid hf3
  clear hs3 hf3
  go_wp2_with fail
  go_at_call 35
  refine (compact_fd (w.heap.size + 1) v2 r0 w3 HF3.out (by have := hB1.size; have := hB2.size; have := hB3.size; have := HZ0.out; omega) (by omega)).mono ?_
  rintro e w4 ⟨v4, rfl, hf4, hB4⟩
  have hB := ((hB1.trans hB2).trans hB3).trans hB4
  have hA4 := (hB.block w.heap.size (by omega)).trans HA0.out
  obtain ⟨L, hL⟩ : ∃ L, (cmpct r0).length = L := ⟨_, rfl⟩
  obtain ⟨ao, cp, rfl⟩ := hf4.len
  rw [hL] at hf4 ⊢
  have c0 := cell_of_row _ _ 0 _ _ _ hA4
  have c1 := cell_of_row _ _ 1 _ _ _ hA4
  have c2 := cell_of_row _ _ 2 _ _ _ hA4
  have c3 := cell_of_row _ _ 3 _ _ _ hA4
  have z0 := frozen_of_row _ _ 0 _ _ hA4
  have z1 := frozen_of_row _ _ 1 _ _ hA4
  have z2 := frozen_of_row _ _ 2 _ _ hA4
  have z3 := frozen_of_row _ _ 3 _ _ hA4
  simp only [List.getElem?_toArray, List.getElem?_cons_zero, List.getElem?_cons_succ] at c0 c1 c2 c3
  have HF4 := Lib.hid hf4
  have HB4 := Lib.hid hB
  clear hf4 hB1 hB2 hB3 hB4 hB hA4 hL
  go_wp2
  refine bodyPost_ret (v := .agg #[.bool true, .int .u64 hash, .slice ao L cp, .bool false]) (by simp [results, Try.results10, go_sem, c0, c1, c2, c3]) rfl ?_
  have hb4 : Below w.heap.size w w4 := HB0.out.trans (HB4.out.mono (by omega))
  exact ⟨_, cmpct r0, rfl, ⟨r0, HS3.out, rfl⟩, (((HF4.out.set (p := ⟨w.heap.size, 0, none⟩) (by simp) _).set (p := ⟨w.heap.size, 1, none⟩) (by simp) _).set (p := ⟨w.heap.size, 2, none⟩) (by simp) _).set (p := ⟨w.heap.size, 3, none⟩) (by simp) _,
    (((hb4.setCell (p := ⟨w.heap.size, 0, none⟩) (Nat.le_refl _) _).setCell (p := ⟨w.heap.size, 1, none⟩) (Nat.le_refl _) _).setCell (p := ⟨w.heap.size, 2, none⟩) (Nat.le_refl _) _).setCell (p := ⟨w.heap.size, 3, none⟩) (Nat.le_refl _) _⟩
end Go.Proofs.Yteblimdbkiiaaaa
