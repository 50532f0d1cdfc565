/- octets.Hex. -/
import Derived.Test.YtccknpdnapoboaaDoorCpE
import Derived.OwnWalk
import Derived.RegionTactic
import Derived.Deep.RegionHeld3
namespace Go.Proofs.YtccknpdnapoboaaDoor
open Go.RowKit

/-- a hexadecimal digit -/
def dig (d : Nat) : Nat := if d < 10 then 48 + d else 87 + d
theorem dig_lt (d : Nat) (h : d < 16) : dig d < 256 := by unfold dig; split <;> omega
def digS : ByteArray := { data := #[48, 49, 50, 51, 52, 53, 54, 55, 56, 57, 97, 98, 99, 100, 101, 102] }
/-- two digits for each byte -/
def hexB (bs : List Nat) : List Nat := bs.flatMap fun c => [dig (c / 16), dig (c % 16)]
theorem hexB_len (bs : List Nat) : (hexB bs).length = 2 * bs.length := by
  induction bs with
  | nil => rfl
  | cons b l ih => simp only [hexB, List.flatMap_cons, List.length_append, List.length_cons, List.length_nil] at ih ⊢; omega
theorem hexB_snoc (bs : List Nat) (c : Nat) : hexB (bs ++ [c]) = hexB bs ++ [dig (c / 16), dig (c % 16)] := by simp [hexB]
theorem hexB_lt (bs : List Nat) (h : ∀ x ∈ bs, x < 256) : ∀ x ∈ hexB bs, x < 256 := by
  intro x hx
  obtain ⟨c, hc, hx⟩ := List.mem_flatMap.1 hx
  have := h c hc
  simp at hx
  rcases hx with rfl | rfl
  · exact dig_lt _ (by omega)
  · exact dig_lt _ (by omega)
set_option maxRecDepth 100000 in
theorem run_dig (k : IntKind) (d : Nat) (h : d < 16) (W : World) : (Instr.index 9 (.string { data := #[48, 49, 50, 51, 52, 53, 54, 55, 56, 57, 97, 98, 99, 100, 101, 102] }) (.int k (d : Int))).run Tryd.prog W = .ok (.int .u8 (dig d : Nat)) W := by
  have : d = 0 ∨ d = 1 ∨ d = 2 ∨ d = 3 ∨ d = 4 ∨ d = 5 ∨ d = 6 ∨ d = 7 ∨ d = 8 ∨ d = 9 ∨ d = 10 ∨ d = 11 ∨ d = 12 ∨ d = 13 ∨ d = 14 ∨ d = 15 := by omega
  rcases this with rfl | rfl | rfl | rfl | rfl | rfl | rfl | rfl | rfl | rfl | rfl | rfl | rfl | rfl | rfl | rfl <;> rfl
theorem and15 (x : Nat) (h : x < 256) : bits .and .u8 (x : Int) 15 = ((x % 16 : Nat) : Int) := by
  have := u8_and_nat x 15 h (by decide)
  rw [show ((15 : Nat) : Int) = 15 from rfl] at this
  rw [this]
  congr 1
  exact Nat.and_two_pow_sub_one_eq_mod x 4
set_option linter.unusedSimpArgs false in
set_option linter.unusedVariables false in
set_option maxRecDepth 100000 in
set_option maxHeartbeats 2000000 in
theorem hex_any (v : Value) (bs : List Nat) (w : World) (h : BytesAt w v bs) (hm : bs.length ≤ 10000000) :
    Calls Tryd.prog 40 #[v] w fun e w' => e = .returned (.string (strB (hexB bs))) ∧ Below w.heap.size w w' := by
  obtain ⟨i0, hi0, hz0, hz1, hz2⟩ := info_parts Tryd.info_u8
  obtain ⟨⟨_, _, _, ao, cap, rfl, _, hc⟩, _, hlt⟩ := h
  have HC := Lib.hid hc
  have HLT := Lib.hid hlt
  obtain ⟨n, hn⟩ : ∃ n, bs.length = n := ⟨_, rfl⟩
  have HN := Lib.hid hn
  rw [hn] at hm ⊢
  clear hc hlt hn
  have e2 : IntKind.i64.wrap (2 * (n : Int)) = 2 * (n : Int) := IntWalk.i64_in _ (by omega)
  go_enter Tryd.func40, Tryd.ntmps40
  go_wp2_with (at_make; refine wpList_make_own _ rfl _ _ 25 rfl w.heap.size 5 i0 (.int .u8 0) 1 Tryd.underlying25 hi0 hz0 hz1 _ _ _ (2 * n) rfl rfl (by omega) ?cb ?cm ?ch ?_)
  case cb => rw [hz2]; omega
  case cm => unfold maxLen; omega
  case ch => exact Nat.le_refl _
  intro w1 hown0 hg
  have hB1 := (Below.refl w.heap.size w).grown hg (Nat.le_refl _) (by simp)
  clear hg e2
  go_wp2
  go_loopw [3, 5, 12] (fun v _ i wr => ∃ k : Nat, i = .int .i64 k ∧ k ≤ n ∧ wr.ownsRow w.heap.size 5 1 v (2 * k) (bcells (hexB (bs.take k))) ∧ Below w.heap.size w wr) (fun _ _ i _ => n - (intOf i).toNat)
  case atStart => exact ⟨0, by simp, Nat.zero_le _, by simpa [hexB, bcells] using hown0, hB1⟩
  case round =>
    clear hown0 hB1
    obtain ⟨k, rfl, hk, hown, hB⟩ := hrel
    by_cases hlt : k < n
    · have g1 : decide (k < n) = true := by simpa using hlt
      have hkl : k < bs.length := by rw [HN.out]; exact hlt
      obtain ⟨b, off, rfl, hb, hcell⟩ := HC.out (by omega)
      have ht := List.take_succ_eq_append_getElem hkl
      have hx2 := HLT.out _ (List.getElem_mem hkl)
      have hcl := kc (hcell k (.int .u8 (bs[k] : Nat)) (by simp [bcells, List.getElem?_eq_getElem hkl])) hB
      obtain ⟨x, hx⟩ : ∃ x, bs[k] = x := ⟨_, rfl⟩
      rw [hx] at ht hx2 hcl
      have HT := Lib.hid ht
      clear ht hx hcell
      have x0 : (0 : Int) ≤ (x : Int) := by omega
      have x1 : (x : Int) < 256 := by omega
      have i1 : (k : Int) < (n : Int) := by omega
      have w1' : IntKind.i64.wrap ((k : Int) + 1) = (k : Int) + 1 := IntWalk.i64_in _ (by omega)
      have r1 := fun W => run_dig .u8 (x / 16) (by omega) W
      rw [show ((x / 16 : Nat) : Int) = (x : Int) / 16 by simp] at r1
      have r2 := fun W => run_dig .u8 (x % 16) (by omega) W
      rw [show ((x % 16 : Nat) : Int) = (x : Int) % 16 by simp] at r2
      have ra := and15 x hx2
      go_upto_region 5 with fail
      refine wp_region_held_drew (S := (fun W' : World => True)) (by kernel_rfl) (trivial) (fun hHeld => ?_)
      refine wpAnyH_take (i := 0) (oi := _) (v := ?_) (by rw [List.getElem?_toArray]; rfl) (by kernel_rfl) (by kernel_rfl) (by kernel_rfl) (by exact fun _ _ _ h => h) (Or.inl ⟨by rfl, ?_⟩) (by assumption) ?_
      rotate_left
      · intro w hSw
        try simp only [Cells, blk, List.cons_append, List.nil_append, and_true, Nat.reduceAdd, Nat.add_zero, Nat.zero_add] at hSw
        go_simp
        try with_reducible rfl
      simp only [Act.put, List.setIfInBounds_toArray, List.set_cons_zero, List.set_cons_succ]
      refine wpAnyH_take (i := 1) (oi := _) (v := ?_) (by rw [List.getElem?_toArray]; rfl) (by kernel_rfl) (by kernel_rfl) (by kernel_rfl) (by exact fun _ _ _ h => h) (Or.inl ⟨by rfl, ?_⟩) (by assumption) ?_
      rotate_left
      · intro w hSw
        try simp only [Cells, blk, List.cons_append, List.nil_append, and_true, Nat.reduceAdd, Nat.add_zero, Nat.zero_add] at hSw
        go_simp
        try with_reducible rfl
      simp only [Act.put, List.setIfInBounds_toArray, List.set_cons_zero, List.set_cons_succ]
      refine wpAnyH_take (i := 2) (oi := _) (v := ?_) (by rw [List.getElem?_toArray]; rfl) (by kernel_rfl) (by kernel_rfl) (by kernel_rfl) (by exact fun _ _ _ h => h) (Or.inl ⟨by rfl, ?_⟩) (by assumption) ?_
      rotate_left
      · intro w hSw
        try simp only [Cells, blk, List.cons_append, List.nil_append, and_true, Nat.reduceAdd, Nat.add_zero, Nat.zero_add] at hSw
        go_simp
        try with_reducible rfl
      simp only [Act.put, List.setIfInBounds_toArray, List.set_cons_zero, List.set_cons_succ]
      refine wpAnyH_take (i := 3) (oi := _) (v := ?_) (by rw [List.getElem?_toArray]; rfl) (by kernel_rfl) (by kernel_rfl) (by kernel_rfl) (by exact fun _ _ _ h => h) (Or.inl ⟨by rfl, ?_⟩) (by assumption) ?_
      rotate_left
      · intro w hSw
        try simp only [Cells, blk, List.cons_append, List.nil_append, and_true, Nat.reduceAdd, Nat.add_zero, Nat.zero_add] at hSw
        go_simp
        try with_reducible rfl
      simp only [Act.put, List.setIfInBounds_toArray, List.set_cons_zero, List.set_cons_succ]
      refine wpAnyH_take (i := 4) (oi := _) (v := ?_) (by rw [List.getElem?_toArray]; rfl) (by kernel_rfl) (by kernel_rfl) (by kernel_rfl) (by exact fun _ _ _ h => h) (Or.inl ⟨by rfl, ?_⟩) (by assumption) ?_
      rotate_left
      · intro w hSw
        try simp only [Cells, blk, List.cons_append, List.nil_append, and_true, Nat.reduceAdd, Nat.add_zero, Nat.zero_add] at hSw
        go_simp
        try with_reducible rfl
      simp only [Act.put, List.setIfInBounds_toArray, List.set_cons_zero, List.set_cons_succ]
      refine wpAnyH_take (i := 5) (oi := _) (v := ?_) (by rw [List.getElem?_toArray]; rfl) (by kernel_rfl) (by kernel_rfl) (by kernel_rfl) (by exact fun _ _ _ h => h) (Or.inl ⟨by rfl, ?_⟩) (by assumption) ?_
      rotate_left
      · intro w hSw
        try simp only [Cells, blk, List.cons_append, List.nil_append, and_true, Nat.reduceAdd, Nat.add_zero, Nat.zero_add] at hSw
        go_simp
        try with_reducible rfl
      simp only [Act.put, List.setIfInBounds_toArray, List.set_cons_zero, List.set_cons_succ]
      refine wpAnyH_take (i := 6) (oi := _) (v := ?_) (by rw [List.getElem?_toArray]; rfl) (by kernel_rfl) (by kernel_rfl) (by kernel_rfl) (by exact fun _ _ _ h => h) (Or.inl ⟨by rfl, ?_⟩) (by assumption) ?_
      rotate_left
      · intro w hSw
        try simp only [Cells, blk, List.cons_append, List.nil_append, and_true, Nat.reduceAdd, Nat.add_zero, Nat.zero_add] at hSw
        go_simp
        try with_reducible rfl
      simp only [Act.put, List.setIfInBounds_toArray, List.set_cons_zero, List.set_cons_succ]
      refine wpAnyH_ready (rs := [7]) (by kernel_rfl) (by simp) (AllReadyH.cons (o := _) (by rw [List.getElem?_toArray]; rfl) (fun K hK => ?_) AllReadyH.nil)
      go_simp
      generalize hX : World.drew _ = X2
      have bA : Blk X2 wr.heap.size 5 [.int .u8 (dig (x / 16) : Nat), .int .u8 (dig (x % 16) : Nat)] := by rw [← hX]; exact (Blk.new wr _ _).drew
      have hBX : Below wr.heap.size wr X2 := by
        rw [← hX]
        exact ((Below.refl wr.heap.size wr).alloc (Nat.le_refl _) _).drew
      clear hX
      refine hK.out _ _ (trivial) (fun hHeld2 => ?_)
      replace hHeld := hHeld2
      clear hK K hHeld2
      try simp only [Act.put, List.setIfInBounds_toArray, List.set_cons_zero, List.set_cons_succ]
      refine wpAnyH_ready (rs := [8]) (by kernel_rfl) (by simp) (AllReadyH.cons (o := _) (by rw [List.getElem?_toArray]; rfl) (fun K hK => ?_) AllReadyH.nil)
      refine step_append_at (by rfl) _ _ 25 (by rfl) w.heap.size 5 i0 _ 1 1 Tryd.underlying25 hi0 hz0 hz1 hz2 rfl (by decide) _ (2 * k) (bcells (hexB (bs.take k))) (by rfl) (own_below hown hBX) ⟨wr.heap.size, 0, none⟩ 2 2 [.int .u8 (dig (x / 16) : Nat), .int .u8 (dig (x % 16) : Nat)] (by rfl) (by rfl) (fun j u hj => by rw [addr_add, Nat.zero_add]; exact bA.cell hj) (by simp [Value.oneCell']) (by unfold maxLen; omega) (by omega) (Nat.le_trans hB.size hBX.size) ?_
      intro v' w6 hown6 hg6 _
      have hB6 : Below w.heap.size w w6 := (hB.trans (hBX.mono hB.size)).grown hg6 (Nat.le_trans hB.size hBX.size) (fun q hq => (hown.lt q hq).1)
      have HREL : Hid (∃ k2 : Nat, Value.int .i64 ((k : Int) + 1) = .int .i64 k2 ∧ k2 ≤ n ∧ w6.ownsRow w.heap.size 5 1 v' (2 * k2) (bcells (hexB (bs.take k2))) ∧ Below w.heap.size w w6) :=
        Lib.hid ⟨k + 1, by simp, hlt, by rw [HT.out, hexB_snoc, show 2 * (k + 1) = 2 * k + 2 by omega]; simpa [bcells] using hown6, hB6⟩
      clear hown6 hg6 hB6 hBX bA hown hB
      refine hK.out _ _ (trivial) (fun hHeld2 => ?_)
      replace hHeld := hHeld2
      clear hK K hHeld2
      try simp only [Act.put, List.setIfInBounds_toArray, List.set_cons_zero, List.set_cons_succ]
      refine wpAnyH_take (i := 9) (oi := _) (v := ?_) (by rw [List.getElem?_toArray]; rfl) (by kernel_rfl) (by kernel_rfl) (by kernel_rfl) (by exact fun _ _ _ h => h) (Or.inl ⟨by rfl, ?_⟩) (by assumption) ?_
      rotate_left
      · intro w hSw
        try simp only [Cells, blk, List.cons_append, List.nil_append, and_true, Nat.reduceAdd, Nat.add_zero, Nat.zero_add] at hSw
        go_simp
        try with_reducible rfl
      simp only [Act.put, List.setIfInBounds_toArray, List.set_cons_zero, List.set_cons_succ]
      refine wpAnyH_done (by kernel_rfl) ?_ _
      clear r1 r2 ra
      go_wp2
      refine ⟨HREL.out, ?_⟩
      simp [intOf]
      omega
    · have g1 : decide (k < n) = false := by simpa using hlt
      obtain rfl : k = n := by omega
      rw [List.take_of_length_le (show bs.length ≤ _ by rw [HN.out]; exact Nat.le_refl _)] at hown
      have hby := bytesAt_of_own hown (by rw [hexB_len, HN.out]) (hexB_lt bs HLT.out) (by omega)
      have ca := run_convert_b (P := Tryd.prog) hby 25 5 9 Tryd.underlying25 Tryd.underlying5 Tryd.underlying9
      obtain ⟨a1, n1, rfl⟩ := hby.1.val
      clear hby hown
      go_wp2
      go_ret
      exact ⟨rfl, hB⟩
end Go.Proofs.YtccknpdnapoboaaDoor
