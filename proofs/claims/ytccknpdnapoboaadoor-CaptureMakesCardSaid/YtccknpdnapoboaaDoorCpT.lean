/- Pieces of slices of bytes; slices.Clone into a row of the call's own; slices.Equal; crc.Append, crc.Check. -/
import Derived.Test.YtccknpdnapoboaaDoorCpS
import Derived.Test.YtccknpdnapoboaaDoorCpV
import Derived.Test.YtccknpdnapoboaaDoorCpC
import Derived.Test.YtccknpdnapoboaaDoorCpF
namespace Go.Proofs.YtccknpdnapoboaaDoor
open Go.RowKit

/-- what 's[i:j]' hands back -/
theorem bytes_mid (w : World) (a : Option Addr) (n c i j : Nat) (bs : List Nat) (h : BytesAt w (.slice a n c) bs) (hn : bs.length = n) (hc : n ≤ c) (hij : i ≤ j) (hj : j ≤ n) :
    ∃ a' c', BytesAt w (.slice a' (j - i) c') ((bs.drop i).take (j - i)) ∧ j - i ≤ c' ∧ ∀ W, (Instr.slice 25 (.slice a n c) (some (.int .i64 i)) (some (.int .i64 j)) none).run Tryd.prog W = .ok (.slice a' (j - i) c') W := by
  obtain ⟨⟨h1, h2, h3, ao, cap, e, hnil, hcell⟩, hr, hlt⟩ := h
  rw [hn] at h1 h2 hnil hcell e hr
  cases e
  have hl : ((bs.drop i).take (j - i)).length = j - i := by simp [hn]; omega
  have hbc : bcells ((bs.drop i).take (j - i)) = ((bcells bs).drop i).take (j - i) := by simp [bcells, List.map_drop, List.map_take]
  refine ⟨if c = i then a else a.map (·.add i), c - i, ⟨⟨by rw [hl]; omega, by rw [hl, bcells_len, hl]; omega, bcells_one _, _, _, by rw [hl], ?_, ?_⟩, by rw [hl]; omega, fun x hx => hlt x (List.mem_of_mem_drop (List.mem_of_mem_take hx))⟩, by omega, fun W => ?_⟩
  · intro e
    have ha : a = none := by
      by_cases hck : c = i
      · rw [if_pos hck] at e; exact e
      · rw [if_neg hck] at e; simpa using e
    obtain ⟨h01, h02⟩ := hnil ha
    rw [hl]
    omega
  · intro h0
    rw [hl] at h0
    obtain ⟨b, off, rfl, hb, hcs⟩ := hcell (by omega)
    rw [if_neg (by omega)]
    refine ⟨b, off + i, by simp [addr_off], hb, fun q u hq => ?_⟩
    rw [hbc, List.getElem?_take] at hq
    split at hq
    · rw [List.getElem?_drop] at hq
      rw [Nat.add_assoc]
      exact hcs (i + q) u hq
    · cases hq
  · have hu : Tryd.prog.underlying 25 = some (.slice (Tryd.prog.elem 25)) := by kernel_rfl
    rw [run_slice_lh (ht := hu) (kl := .i64) (kh := .i64) (l := (i : Int)) (h := (j : Int)) (h0 := by omega) (h1 := by omega) (h2 := by omega)]
    have hs : (sizeOf (Tryd.prog.elem 25)).run Tryd.prog W = .ok 1 W := by kernel_rfl
    rw [hs]
    have e1 : (i : Int).toNat = i := rfl
    have e2 : ((j : Int) - (i : Int)).toNat = j - i := by omega
    have e3 : ((c : Int) - (i : Int)).toNat = c - i := by omega
    simp [Result.andThen, sliced]
/-- what 's[:j]' hands back -/
theorem bytes_to (w : World) (a : Option Addr) (n c j : Nat) (bs : List Nat) (h : BytesAt w (.slice a n c) bs) (hn : bs.length = n) (hc : n ≤ c) (hj : j ≤ n) :
    ∃ a', BytesAt w (.slice a' j c) (bs.take j) ∧ ∀ W, (Instr.slice 25 (.slice a n c) none (some (.int .i64 j)) none).run Tryd.prog W = .ok (.slice a' j c) W := by
  obtain ⟨⟨h1, h2, h3, ao, cap, e, hnil, hcell⟩, hr, hlt⟩ := h
  rw [hn] at h1 h2 hnil hcell e hr
  cases e
  have hl : (bs.take j).length = j := by simp [hn]; omega
  have hbc : bcells (bs.take j) = (bcells bs).take j := by simp [bcells, List.map_take]
  refine ⟨if c = 0 then a else a.map (·.add 0), ⟨⟨by rw [hl]; omega, by rw [hl, bcells_len, hl]; omega, bcells_one _, _, _, by rw [hl], ?_, ?_⟩, by rw [hl]; omega, fun x hx => hlt x (List.mem_of_mem_take hx)⟩, fun W => ?_⟩
  · intro e
    have ha : a = none := by
      by_cases hck : c = 0
      · rw [if_pos hck] at e; exact e
      · rw [if_neg hck] at e; simpa using e
    obtain ⟨h01, h02⟩ := hnil ha
    rw [hl]
    omega
  · intro h0
    rw [hl] at h0
    obtain ⟨b, off, rfl, hb, hcs⟩ := hcell (by omega)
    rw [if_neg (by omega)]
    refine ⟨b, off, by simp [addr_off], hb, fun q u hq => ?_⟩
    rw [hbc, List.getElem?_take] at hq
    split at hq
    · exact hcs q u hq
    · cases hq
  · have hu : Tryd.prog.underlying 25 = some (.slice (Tryd.prog.elem 25)) := by kernel_rfl
    rw [run_slice_h (ht := hu) (kh := .i64) (h := (j : Int)) (h0 := by omega) (h2 := by omega)]
    have hs : (sizeOf (Tryd.prog.elem 25)).run Tryd.prog W = .ok 1 W := by kernel_rfl
    rw [hs]
    simp [Result.andThen, sliced]
theorem cloneO_any (v : Value) (bs : List Nat) (w : World) (h : BytesAt w v bs) :
    Calls Tryd.prog 53 #[v] w fun e w' => ∃ v', e = .returned v' ∧ w'.ownsRow w.heap.size 5 1 v' bs.length (bcells bs) ∧ Below w.heap.size w w' := by
  obtain ⟨i0, hi, hz0, hz1, hz2⟩ := info_parts Tryd.info_u8
  obtain ⟨hs, hr, hlt⟩ := h
  have hsr := Lib.hid hs
  obtain ⟨hm, _, _, ao, cap, rfl, hnil, hcell⟩ := hs
  unfold reachBytes at hr
  cases ao with
  | none =>
    have h0 := hnil rfl
    have e : bs = [] := List.eq_nil_of_length_eq_zero h0.1
    subst e
    obtain rfl := h0.2
    have hq : ∀ w : World, (binOp .eql 25 (.slice none 0 0) (.slice none 0 0)).run Tryd.prog w = .ok (.bool true) w := fun w => run_eql_sl w _ _ none 0 0 Tryd.underlying25
    clear hnil hcell h0 hsr
    go_enter Tryd.func53, Tryd.ntmps53
    go_wp2
    go_ret
    exact ⟨_, rfl, World.ownsRow_nil _ _ _ _, Below.refl _ _⟩
  | some ad =>
    have hb : Below w.heap.size w (w.alloc (.cells #[] 5)) := (Below.refl _ _).alloc (Nat.le_refl _) _
    have hq : ∀ w : World, (binOp .eql 25 (.slice (some ad) bs.length cap) (.slice none 0 0)).run Tryd.prog w = .ok (.bool false) w := fun w => run_eql_sl w _ _ (some ad) _ _ Tryd.underlying25
    have hown0 := World.ownsRow_made (base := w.heap.size) (e := 5) (size := 1) w #[] 0 (Nat.le_refl _) (by unfold maxLen; omega) rfl
    have hsz0 : w.heap.size ≤ (w.alloc (.cells #[] 5)).heap.size := by simp
    clear hnil hcell
    go_enter Tryd.func53, Tryd.ntmps53
    go_wp2_with (at_builtin; refine wpList_append_all rfl _ _ 25 rfl w.heap.size 5 i0 _ 1 1 Tryd.underlying25 hi hz0 hz1 hz2 rfl (by decide) _ 0 [] (by rfl) hown0 _ bs.length (bcells bs) (by rfl) (hsr.out.below hb) (by unfold maxLen; omega) (by omega) hsz0 ?_)
    intro v' w' ho hg _
    have hB' := hb.grown hg hsz0 (fun q hq => (hown0.lt q hq).1)
    clear hown0 hg hb
    go_wp2
    go_ret
    exact ⟨_, rfl, ho, hB'⟩
set_option linter.unusedSimpArgs false in
set_option linter.unusedVariables false in
set_option maxRecDepth 100000 in
set_option maxHeartbeats 1000000 in
theorem equal_any (v1 v2 : Value) (xs ys : List Nat) (w : World) (ha : BytesAt w v1 xs) (hb : BytesAt w v2 ys) :
    Calls Tryd.prog 68 #[v1, v2] w fun e w' => e = .returned (.bool (decide (xs = ys))) ∧ Below w.heap.size w w' := by
  obtain ⟨⟨hm1, _, _, a1, c1, rfl, _, hc1⟩, hr1, hl1⟩ := ha
  obtain ⟨⟨hm2, _, _, a2, c2, rfl, _, hc2⟩, hr2, hl2⟩ := hb
  obtain ⟨n, hn⟩ : ∃ n, xs.length = n := ⟨_, rfl⟩
  obtain ⟨m, hm⟩ : ∃ m, ys.length = m := ⟨_, rfl⟩
  rw [hn] at hm1 hr1 ⊢
  rw [hm] at hm2 hr2 ⊢
  unfold reachBytes at hr1 hr2
  have HN := Lib.hid hn
  have HM := Lib.hid hm
  have HC1 := Lib.hid hc1
  have HC2 := Lib.hid hc2
  clear hn hm hc1 hc2 hm1 hm2
  by_cases hnm : n = m
  · subst hnm
    have t0 : ((n : Int) == (n : Int)) = true := by simp
    obtain ⟨D, hD⟩ : ∃ D, decide (xs = ys) = D := ⟨_, rfl⟩
    rw [hD]
    have HD := Lib.hid hD
    clear hD
    go_enter Tryd.func68, Tryd.ntmps68
    go_wp2
    go_loopw [5, 13] (fun _ i wr => ∃ k : Nat, i = .int .i64 k ∧ k ≤ n ∧ Hid (xs.take k = ys.take k) ∧ Below w.heap.size w wr) (fun _ i _ => n - (intOf i).toNat)
    case atStart => exact ⟨0, by simp, Nat.zero_le _, Lib.hid (by simp), Below.refl _ _⟩
    case round =>
      obtain ⟨k, rfl, hk, htk, hB⟩ := hrel
      by_cases hlt : k < n
      · have g1 : decide (k < n) = true := by simpa using hlt
        have hkx : k < xs.length := by rw [HN.out]; exact hlt
        have hky : k < ys.length := by rw [HM.out]; exact hlt
        obtain ⟨b1, o1, rfl, hb1, hcell1⟩ := HC1.out (by rw [HN.out]; omega)
        obtain ⟨b2, o2, rfl, hb2, hcell2⟩ := HC2.out (by rw [HM.out]; omega)
        have p1 := kc (hcell1 k (.int .u8 (xs[k] : Nat)) (by simp [bcells, List.getElem?_eq_getElem hkx])) hB
        have p2 := kc (hcell2 k (.int .u8 (ys[k] : Nat)) (by simp [bcells, List.getElem?_eq_getElem hky])) hB
        have sx := List.take_succ_eq_append_getElem hkx
        have sy := List.take_succ_eq_append_getElem hky
        have hne : xs[k] ≠ ys[k] → xs ≠ ys := fun h e => by subst e; exact h rfl
        obtain ⟨x, hx⟩ : ∃ x, xs[k] = x := ⟨_, rfl⟩
        obtain ⟨y, hy⟩ : ∃ y, ys[k] = y := ⟨_, rfl⟩
        rw [hx] at p1 sx hne
        rw [hy] at p2 sy hne
        have SX := Lib.hid sx
        have SY := Lib.hid sy
        have NE := Lib.hid hne
        clear sx sy hx hy hcell1 hcell2 hne hkx hky
        have w1 : IntKind.i64.wrap ((k : Int) + 1) = (k : Int) + 1 := IntWalk.i64_in _ (by omega)
        have i1 : (k : Int) < (n : Int) := by omega
        by_cases hxy : x = y
        · subst hxy
          have t1 : ((x : Int) == (x : Int)) = true := by simp
          go_wp2
          go_quiet (fail)
          go_wp2
          refine ⟨⟨k + 1, by simp, hlt, Lib.hid (by rw [SX.out, SY.out, htk.out]), below_drewN hB _⟩, ?_⟩
          simp [intOf]
          omega
        · have t1 : ((x : Int) == (y : Int)) = false := by simp; omega
          obtain rfl : D = false := by rw [← HD.out]; exact decide_eq_false (NE.out hxy)
          go_wp2
          go_quiet (fail)
          go_wp2
          go_ret
          exact ⟨rfl, below_drewN hB _⟩
      · have g1 : decide (k < n) = false := by simpa using hlt
        obtain rfl : k = n := by omega
        have e := htk.out
        rw [List.take_of_length_le (by rw [HN.out]; exact Nat.le_refl _), List.take_of_length_le (by rw [HM.out]; exact Nat.le_refl _)] at e
        obtain rfl : D = true := by rw [← HD.out]; exact decide_eq_true e
        clear e
        go_wp2
        go_ret
        exact ⟨rfl, hB⟩
  · have t0 : ((n : Int) == (m : Int)) = false := by simp; omega
    have e : xs ≠ ys := fun e => hnm (by rw [← HN.out, ← HM.out, e])
    rw [decide_eq_false e]
    clear e
    go_enter Tryd.func68, Tryd.ntmps68
    go_wp2
    go_ret
    exact ⟨rfl, Below.refl _ _⟩
end Go.Proofs.YtccknpdnapoboaaDoor
