/- Walks of assess: Decay, and the reference's. -/
import Derived.Test.YtoaiiceglfmfcaaAssC
import Derived.Deep.AppendLies
namespace Go.Proofs.Ytoaiiceglfmfcaa
open Go.RowKit

theorem tcells_append : ∀ a b : List (Int × Int), tcells (a ++ b) = tcells a ++ tcells b
  | [], b => rfl
  | t :: a, b => by simp [tcells, tcells_append a b]
def decT (t : Int × Int) : Int × Int := (limI t.1 / 2, limI t.2 / 2)
def decL (l : List (Int × Int)) : List (Int × Int) := l.map decT
/-- k tallies are halved -/
def decTo (l : List (Int × Int)) (k : Nat) : List (Int × Int) := decL (l.take k) ++ l.drop k
theorem decTo_len (l : List (Int × Int)) (k : Nat) : (decTo l k).length = l.length := by simp [decTo, decL]; omega
theorem decTo_get (l : List (Int × Int)) (k : Nat) (h : k < l.length) : (decTo l k)[k]'(by rw [decTo_len]; exact h) = l[k] := by
  simp only [decTo]
  rw [List.getElem_append_right (by simp [decL]; omega)]
  simp [decL, Nat.min_eq_left (Nat.le_of_lt h)]
theorem decTo_step (l : List (Int × Int)) (k : Nat) (h : k < l.length) : (decTo l k).set k (decT l[k]) = decTo l (k + 1) := by
  unfold decTo
  rw [List.set_append_right _ _ (by simp [decL]; omega)]
  have e : k - (decL (l.take k)).length = 0 := by simp [decL]; omega
  rw [e, List.drop_eq_getElem_cons h, List.set_cons_zero, List.take_succ_eq_append_getElem h]
  simp only [decL, List.map_append, List.map_cons, List.map_nil, List.append_assoc, List.singleton_append]
theorem decTo_end (l : List (Int × Int)) (k : Nat) (h : l.length ≤ k) : decTo l k = decL l := by
  unfold decTo
  rw [List.take_of_length_le h, List.drop_eq_nil_of_le h, List.append_nil]
theorem decTo_zero (l : List (Int × Int)) : decTo l 0 = l := by simp [decTo, decL]

theorem decay_any (v : Value) (l : List (Int × Int)) (hl : l.length ≤ 1000) (w : World) (h : SR w v l.length 2 (tcells l)) :
    Calls Try.prog 39 #[v] w (Made w.heap.size (decL l) w) := by
  obtain ⟨n, hn⟩ : ∃ n, l.length = n := ⟨_, rfl⟩
  have HN := Lib.hid hn
  have hc := clone_any v l hl w h
  unfold Made at hc ⊢
  rw [show (decL l).length = l.length by simp [decL]]
  rw [hn] at hc hl ⊢
  have HC := Lib.hid hc
  clear hn h hc
  go_enter Try.func39, Try.ntmps39
  go_wp2_with fail
  refine HC.out.mono ?_
  rintro e w1 ⟨g, c, rfl, hown0, hB0⟩
  go_wp2
  go_loopw [12] (fun i wr => ∃ k : Nat, k ≤ n ∧ i = .int .i64 k ∧ wr.ownsRow w.heap.size 52 2 (.slice (some ⟨g, 0, none⟩) n c) n (tcells (decTo l k)) ∧ Below w.heap.size w wr) (fun i _ => n - (intOf i).toNat)
  case atStart => exact ⟨0, by omega, rfl, by rw [decTo_zero]; exact hown0, hB0⟩
  case round =>
    obtain ⟨k, hk, rfl, hown, hB⟩ := hrel
    clear hown0 hB0
    by_cases hlt : k < n
    · have hkl : k < l.length := by rw [HN.out]; exact hlt
      obtain ⟨p1, p2⟩ := tcells_get (decTo l k) k (by rw [decTo_len]; exact hkl)
      rw [decTo_get l k hkl] at p1 p2
      have hstep := decTo_step l k hkl
      have c1 := (hown.cellAt (k * 2) (by omega)).trans p1
      have c2 := (hown.cellAt (k * 2 + 1) (by omega)).trans p2
      have f1 := hown.frozenAt (k * 2)
      have f2 := hown.frozenAt (k * 2 + 1)
      have hge : w.heap.size ≤ g := (hown.lt g rfl).1
      have hgl : g < wr.heap.size := (hown.lt g rfl).2
      obtain ⟨⟨x, y⟩, he⟩ : ∃ t, l[k] = t := ⟨_, rfl⟩
      rw [he] at c1 c2 hstep
      simp only at c1 c2
      have HS := Lib.hid hstep
      have lx := limI_bd x
      have ly := limI_bd y
      have HO := Lib.hid hown
      clear p1 p2 hstep he hown
      go_wp2_with (go_at_call 56; refine (counts_any _ _ _).mono ?_; rintro e w2 ⟨rfl, hB2⟩; obtain ⟨hc2, hf2⟩ := bcell hB2)
      have hown2 := own_below (HO.out.alloc (.cells #[.int .i64 x, .int .i64 y] 52)) hB2
      have hst := ((hown2.stored (k * 2) (.int .i64 (limI x / 2))).1.stored (k * 2 + 1) (.int .i64 (limI y / 2))).1
      have hts := tcells_set (decTo l k) k (limI x / 2, limI y / 2)
      simp only at hts
      rw [← hts, show (limI x / 2, limI y / 2) = decT (x, y) from rfl, HS.out] at hst
      have hB3 := (hB.alloc hB.size (.cells #[.int .i64 x, .int .i64 y] 52)).trans (hB2.mono (by have := hB.size; simp; omega))
      go_roundw
      case rel => exact ⟨k + 1, by omega, by go_num, hst, (hB3.setCell (p := ⟨g, k * 2, none⟩) hge _).setCell (p := ⟨g, k * 2 + 1, none⟩) hge _⟩
      case measure => simp [intOf]; omega
    · have e : decTo l k = decL l := decTo_end l k (by rw [HN.out]; omega)
      rw [e] at hown
      go_wp2
      go_ret
      exact ⟨g, c, rfl, hown, hB⟩

set_option maxHeartbeats 1000000 in
theorem rdecay_any (v : Value) (l : List (Int × Int)) (hl : l.length ≤ 1000) (w : World) (h : SR w v l.length 2 (tcells l)) :
    Calls Try.prog 40 #[v] w (Made w.heap.size (decL l) w) := by
  obtain ⟨i0, hi, hz0, hz1, hz2⟩ := info_parts Try.info_tally
  obtain ⟨n, hn⟩ : ∃ n, l.length = n := ⟨_, rfl⟩
  have HN := Lib.hid hn
  obtain ⟨_, _, _, ao, cap, rfl, _, hcell⟩ := h
  unfold Made
  rw [show (decL l).length = l.length by simp [decL]]
  rw [hn] at hl hcell ⊢
  clear hn
  by_cases h0 : n = 0
  · subst h0
    have e : l = [] := List.eq_nil_of_length_eq_zero HN.out
    subst e
    clear hcell
    go_enter Try.func40, Try.ntmps40
    go_wp2
    refine wp_loop_rounds 1 ?_
    rw [rounds_succ]
    go_wp2
    go_ret
    exact ⟨_, _, rfl, World.ownsRow_made w #[] 0 (Nat.le_refl _) (by unfold maxLen; omega) rfl, (Below.refl _ _).alloc (Nat.le_refl _) _⟩
  · obtain ⟨b, off, rfl, hb, hx⟩ := hcell (by omega)
    go_enter Try.func40, Try.ntmps40
    go_wp2
    go_loopw [3, 4] (fun v i wr => ∃ k g c : Nat, k ≤ n ∧ i = .int .i64 k ∧ v = .slice (some ⟨g, 0, none⟩) k c ∧ wr.ownsRow w.heap.size 52 2 (.slice (some ⟨g, 0, none⟩) k c) k (tcells (decL (l.take k))) ∧ Below w.heap.size w wr) (fun _ i _ => n - (intOf i).toNat)
    case atStart => exact ⟨0, _, 0, by omega, rfl, rfl, World.ownsRow_made w #[] 0 (Nat.le_refl _) (by unfold maxLen; omega) rfl, (Below.refl _ _).alloc (Nat.le_refl _) _⟩
    case round =>
      obtain ⟨k, g, c, hk, rfl, rfl, hown, hB⟩ := hrel
      by_cases hlt : k < n
      · have hkl : k < l.length := by rw [HN.out]; exact hlt
        obtain ⟨p1, p2⟩ := tcells_get l k hkl
        have ts := List.take_succ_eq_append_getElem hkl
        have d1 := (hB.cell (p := ⟨b, off + k * 2, none⟩) hb).trans (hx _ _ p1)
        have d2 := (hB.cell (p := ⟨b, off + k * 2 + 1, none⟩) hb).trans (hx _ _ p2)
        obtain ⟨⟨x, y⟩, he⟩ : ∃ t, l[k] = t := ⟨_, rfl⟩
        rw [he] at d1 d2 ts
        simp only at d1 d2
        have T := Lib.hid ts
        have lx := limI_bd x
        have ly := limI_bd y
        have c1 := rlim_any x
        have c2 := rlim_any y
        obtain ⟨X, hX⟩ : ∃ X, limI x = X := ⟨_, rfl⟩
        obtain ⟨Y, hY⟩ : ∃ Y, limI y = Y := ⟨_, rfl⟩
        rw [hX] at lx c1
        rw [hY] at ly c2
        have C1 := Lib.hid c1
        have C2 := Lib.hid c2
        have HX := Lib.hid hX
        have HY := Lib.hid hY
        have q1 : IntKind.i64.wrap (X.tdiv 2) = X / 2 := IntWalk.i64_quo X 2 (by omega)
        have q2 : IntKind.i64.wrap (Y.tdiv 2) = Y / 2 := IntWalk.i64_quo Y 2 (by omega)
        have hgb : w.heap.size ≤ g := (hown.lt g rfl).1
        have hsz := hB.size
        have hk0 : (0 : Int) ≤ (k : Int) := by omega
        have hk1 : (k : Int) < (n : Int) := by omega
        clear p1 p2 he ts hX hY c1 c2
        go_wp2
        go_region_held3 (fun W' => W'.cell? ⟨b, off + k * 2, none⟩ = some (.int .i64 x) ∧ W'.cell? ⟨b, off + k * 2 + 1, none⟩ = some (.int .i64 y)) (first | go_keep | (go_split_ands; exact ⟨hgrow.cell ((Below.cell (p := ⟨b, off + k * 2, none⟩) (((Below.refl wr.heap.size wr).alloc (Nat.le_refl _) _).drew) (by simp; omega)).trans d1) (by simp [Value.ownBlock]; omega), hgrow.cell ((Below.cell (p := ⟨b, off + k * 2 + 1, none⟩) (((Below.refl wr.heap.size wr).alloc (Nat.le_refl _) _).drew) (by simp; omega)).trans d2) (by simp [Value.ownBlock]; omega)⟩)) (first | (refine step_append_lies _ (by rfl) _ _ _ (by rfl) w.heap.size 52 i0 _ 2 16 Try.underlying45 hi hz0 hz1 hz2 rfl (by omega) _ k _ (by rfl) ((hown.alloc _).drew) ⟨wr.heap.size, 0, none⟩ 1 1 [.int .i64 (X / 2), .int .i64 (Y / 2)] (by rfl) (by rfl) (World.news_of_block (cs := #[.int .i64 (X / 2), .int .i64 (Y / 2)]) (t := 52) (fr := (0, 0)) (heap_alloc_new wr _)) (by simp [Value.oneCell']) (by omega) (by unfold maxLen; omega) (by omega) (by simp; omega) (wr.heap.size + 1) (by simp) ?_; intro gg cap w1 hown1 hgrow hat hlt1) | (go_at_call 57; first | (refine (C1.out _).mono ?_; rintro e w' ⟨rfl, rfl⟩) | (refine (C2.out _).mono ?_; rintro e w' ⟨rfl, rfl⟩)))
        go_wp2
        have hB1 : Below w.heap.size w w1 := ((hB.alloc hsz _).drew).grown hgrow (by simp; omega) (fun j hj => by simp [Value.ownBlock] at hj; omega)
        have e : tcells (decL (l.take (k + 1))) = tcells (decL (l.take k)) ++ [.int .i64 (X / 2), .int .i64 (Y / 2)] := by
          rw [T.out, ← HX.out, ← HY.out]
          simp only [decL, List.map_append, List.map_cons, List.map_nil]
          rw [tcells_append]
          rfl
        rw [← e] at hown1
        go_roundw
        case rel => exact ⟨k + 1, gg, cap, by omega, by go_num, rfl, hown1, hB1⟩
        case measure => simp [intOf]; omega
      · have hkn : k = n := by omega
        subst hkn
        rw [List.take_of_length_le (by rw [HN.out]; omega)] at hown
        clear hx
        go_wp2
        go_ret
        exact ⟨g, c, rfl, hown, hB⟩
end Go.Proofs.Ytoaiiceglfmfcaa
