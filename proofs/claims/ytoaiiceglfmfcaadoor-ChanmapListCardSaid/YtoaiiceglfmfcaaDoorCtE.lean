/- Value of the reference; chanmap: Encode, Decode of the code and of the reference. -/
import Derived.Test.YtoaiiceglfmfcaaDoorCtD
import Derived.Test.YtoaiiceglfmfcaaDoorCtB
namespace Go.Proofs.YtoaiiceglfmfcaaDoor
open Go.RowKit

set_option linter.unusedSimpArgs false in
set_option linter.unusedVariables false in
set_option maxRecDepth 100000 in
set_option maxHeartbeats 1000000 in
theorem value_any (a : Option Addr) (cap n : Nat) (bs : List Nat) (w : World) (h : BytesAt w (.slice a n cap) bs) (hn : bs.length = n) (hs : n ≤ 8) :
    Calls Tryd.prog 42 #[.slice a n cap] w fun e w' => e = .returned (.int .u64 (vnum bs : Nat)) ∧ w = w' := by
  obtain ⟨hsr, _, hlt⟩ := h
  rw [hn] at hsr
  obtain ⟨_, _, _, ao, cap', e, _, hc⟩ := hsr
  cases e
  have HC := Lib.hid hc
  have HLT := Lib.hid hlt
  have HN := Lib.hid hn
  clear hc hlt hn
  have z0 : IntKind.i64.wrap ((n : Int) - 1) = (n : Int) - 1 := IntWalk.i64_in _ (by omega)
  go_enter Tryd.func42, Tryd.ntmps42
  go_wp2
  clear z0
  go_loop [3, 4] (fun x i => ∃ k : Nat, i = .int .i64 ((k : Int) - 1) ∧ k ≤ n ∧ x = .int .u64 (vnum (bs.drop k) : Nat)) (fun _ i => (intOf i + 1).toNat)
  case atStart => exact ⟨n, rfl, Nat.le_refl _, by rw [List.drop_of_length_le (by rw [HN.out]; exact Nat.le_refl _)]; rfl⟩
  case round =>
    obtain ⟨k, rfl, hk, rfl⟩ := hrel
    by_cases hk0 : k = 0
    · subst hk0
      have g1 : decide ((0 : Int) ≤ ((0 : Nat) : Int) - 1) = false := by decide
      have g2 : decide ((1 : Int) ≤ ((0 : Nat) : Int)) = false := by decide
      go_wp2
      go_ret
      exact ⟨by simp, rfl⟩
    · obtain ⟨j, rfl⟩ : ∃ j, k = j + 1 := ⟨k - 1, by omega⟩
      have hj : j < n := by omega
      obtain ⟨b, off, rfl, hb, hcell⟩ := HC.out (by omega)
      have hjl : j < bs.length := by rw [HN.out]; omega
      have hst := List.drop_eq_getElem_cons hjl
      have hx2 := HLT.out _ (List.getElem_mem hjl)
      have hcl := hcell j (.int .u8 (bs[j] : Nat)) (by simp [bcells, List.getElem?_eq_getElem hjl])
      obtain ⟨x, hxx⟩ : ∃ x, bs[j] = x := ⟨_, rfl⟩
      rw [hxx] at hst hx2 hcl
      obtain ⟨V, hV⟩ : ∃ V, bs.drop (j + 1) = V := ⟨_, rfl⟩
      have hVl : V.length ≤ 7 := by rw [← hV]; simp [HN.out]; omega
      have hVb := vnum_lt V fun y hy => HLT.out y (by rw [← hV] at hy; exact List.mem_of_mem_drop hy)
      have hVm : vnum V < 72057594037927936 := Nat.lt_of_lt_of_le hVb (Nat.le_trans (Nat.pow_le_pow_right (by decide) hVl) (by decide))
      rw [hV] at hst ⊢
      have hnew : vnum (bs.drop j) = vnum V * 256 + x := by rw [hst]; rfl
      obtain ⟨u, hu⟩ : ∃ u, vnum V = u := ⟨_, rfl⟩
      rw [hu] at hnew hVm ⊢
      have HNEW := Lib.hid hnew
      have e0 : ((j + 1 : Nat) : Int) - 1 = (j : Int) := by omega
      rw [e0]
      have g1 : decide ((0 : Int) ≤ (j : Int)) = true := by simp
      have w1 : IntKind.i64.wrap ((j : Int) - 1) = (j : Int) - 1 := IntWalk.i64_in _ (by omega)
      have w3 : IntKind.u64.wrap ((u : Int) * 256) = (u : Int) * 256 := IntWalk.u64_in _ (by omega)
      have w4 : IntKind.u64.wrap ((u : Int) * 256 + (x : Int)) = (u : Int) * 256 + (x : Int) := IntWalk.u64_in _ (by omega)
      have i1 : (j : Int) < (n : Int) := by omega
      have x1 : (x : Int) < 256 := by omega
      have x0 : (0 : Int) ≤ (x : Int) := by omega
      clear hst hV hVl hVb hu hxx hnew hcell e0 hVm
      go_wp2
      refine ⟨⟨j, rfl, by omega, by rw [HNEW.out]; simp⟩, ?_⟩
      simp [intOf]
theorem chk_zero (m : Nat) (h : chk m = 0) : m < 137438953472 := by
  unfold chk at h
  split at h
  · cases h
  · omega
/-- the bytes of a map, if it is valid -/
def encI (m : Nat) : List Nat := if chk m = 0 then putB m 5 else []
theorem encI_lt (m : Nat) : ∀ x ∈ encI m, x < 256 := by
  unfold encI
  split
  · exact putB_lt _ _
  · intro x hx; cases hx
theorem encI_len (m : Nat) : (encI m).length ≤ 5 := by
  unfold encI
  split
  · rw [putB_len]; exact Nat.le_refl _
  · simp
/-- bytes that are read, in a slice whose capacity is known to hold them -/
def BytesC (w : World) (v : Value) (bs : List Nat) : Prop := BytesAt w v bs ∧ ∃ a c, v = .slice a bs.length c ∧ bs.length ≤ c
theorem bytesC_of_own {w : World} {base n : Nat} {v : Value} {bs : List Nat} (h : w.ownsRow base 5 1 v n (bcells bs)) (hl : bs.length = n) (hb : ∀ x ∈ bs, x < 256) (hm : n ≤ 140737488351232) : BytesC w v bs := by
  refine ⟨bytesAt_of_own h hl hb hm, ?_⟩
  rcases h.2 with ⟨rfl, rfl⟩ | ⟨g, cap, cur, rfl, _, _, hc, _⟩
  · exact ⟨none, 0, by rw [hl], by omega⟩
  · exact ⟨_, cap, by rw [hl], by omega⟩
theorem BytesC.below {w w' : World} {v : Value} {bs : List Nat} (h : BytesC w v bs) (hb : Below w.heap.size w w') : BytesC w' v bs := ⟨h.1.below hb, h.2⟩
theorem bytesAt_nil (w : World) : BytesAt w (.slice none 0 0) [] := ⟨⟨Nat.zero_le _, rfl, by simp [bcells], none, 0, rfl, fun _ => ⟨rfl, rfl⟩, fun h => absurd h (by simp)⟩, Nat.zero_le _, by simp⟩
theorem bytesC_nil (w : World) : BytesC w (.slice none 0 0) [] := ⟨bytesAt_nil w, none, 0, rfl, Nat.le_refl _⟩
set_option linter.unusedSimpArgs false in
set_option linter.unusedVariables false in
set_option maxRecDepth 100000 in
set_option maxHeartbeats 1000000 in
theorem encode_any (m : Nat) (hm : m < 18446744073709551616) (w : World) :
    Calls Tryd.prog 27 #[.int .u64 m] w fun e w' => ∃ v, e = .returned (.tuple #[v, .int .i64 (chk m)]) ∧ BytesC w' v (encI m) ∧ Below w.heap.size w w' := by
  have hc := fun W => check_any m hm W
  have hz := chk_zero m
  unfold encI
  obtain ⟨C, hC⟩ : ∃ C, chk m = C := ⟨_, rfl⟩
  simp only [hC] at hc hz ⊢
  have HC := Lib.hid hc
  clear hc hC
  by_cases h0 : C = 0
  · subst h0
    have h37 := hz rfl
    rw [if_pos rfl]
    have bP := Blk.new w 54 [.int .i64 5, .int .u64 m]
    have hp := fun v' => oput_any (.slice (some ⟨w.heap.size, 0, none⟩) 1 v') [(5, m)] (w.alloc (.cells #[.int .i64 5, .int .u64 m] 54)) ⟨by unfold maxLen; simp, by simp [fdc], by simp [fdc, Value.oneCell'], some ⟨w.heap.size, 0, none⟩, v', rfl, fun h => (by cases h), fun _ => ⟨w.heap.size, 0, rfl, bP.lt, fun j u hj => by rw [Nat.zero_add]; exact bP.cell hj⟩⟩
      (by intro f hf; simp only [List.mem_singleton] at hf; subst hf; exact ⟨show 1 ≤ 5 by decide, show 5 ≤ 8 by decide, Nat.lt_of_lt_of_le h37 (show 137438953472 ≤ 256 ^ 5 by decide)⟩) (by simp)
    have e1 : fdb [(5, m)] = putB m 5 := by simp [fdb]
    simp only [e1, putB_len, List.length_singleton] at hp
    have HP := Lib.hid hp
    clear hp bP hz h37 e1
    go_enter Tryd.func27, Tryd.ntmps27
    go_wp2_with (go_at_call 12; refine (HC.out _).mono ?_; rintro e w' ⟨rfl, rfl⟩)
    refine (HP.out _).mono ?_
    rintro e w4 ⟨v4, rfl, hown4, hB4⟩
    have hB5 := ((Below.refl w.heap.size w).alloc (Nat.le_refl _) (.cells #[.int .i64 5, .int .u64 m] 54)).trans (hB4.mono (by simp))
    have hby := bytesC_of_own hown4 (putB_len _ _) (putB_lt _ _) (by decide)
    clear HP hown4 hB4
    go_wp2
    go_ret2
    exact ⟨_, rfl, hby, hB5⟩
  · rw [if_neg h0]
    have g1 : (C != 0) = true := by simpa using h0
    clear hz
    go_enter Tryd.func27, Tryd.ntmps27
    go_wp2_with (go_at_call 12; refine (HC.out _).mono ?_; rintro e w' ⟨rfl, rfl⟩)
    go_ret2
    exact ⟨_, rfl, bytesC_nil _, Below.refl _ _⟩
set_option linter.unusedSimpArgs false in
set_option linter.unusedVariables false in
set_option maxRecDepth 100000 in
set_option maxHeartbeats 1000000 in
theorem rencode_any (m : Nat) (hm : m < 18446744073709551616) (w : World) :
    Calls Tryd.prog 28 #[.int .u64 m] w fun e w' => ∃ v, e = .returned (.tuple #[v, .int .i64 (chk m)]) ∧ BytesC w' v (encI m) ∧ Below w.heap.size w w' := by
  have hc := fun W => rcheck_any m hm W
  unfold encI
  obtain ⟨C, hC⟩ : ∃ C, chk m = C := ⟨_, rfl⟩
  simp only [hC] at hc ⊢
  have HC := Lib.hid hc
  have HP := Lib.hid (fun W => put_any m 5 hm (by decide) W)
  clear hc hC
  by_cases h0 : C = 0
  · subst h0
    rw [if_pos rfl]
    go_enter Tryd.func28, Tryd.ntmps28
    go_wp2_with (go_at_call 13; refine (HC.out _).mono ?_; rintro e w1 ⟨rfl, hB1⟩)
    refine (HP.out _).mono ?_
    rintro e w4 ⟨v4, rfl, hown4, hB4⟩
    have hB5 := hB1.trans (hB4.mono hB1.size)
    have hby := bytesC_of_own hown4 (putB_len _ _) (putB_lt _ _) (by decide)
    clear HP hown4 hB4 hB1
    go_wp2
    go_ret2
    exact ⟨_, rfl, hby, hB5⟩
  · rw [if_neg h0]
    have g1 : (C != 0) = true := by simpa using h0
    go_enter Tryd.func28, Tryd.ntmps28
    go_wp2_with (go_at_call 13; refine (HC.out _).mono ?_; rintro e w1 ⟨rfl, hB1⟩)
    go_ret2
    exact ⟨_, rfl, bytesC_nil _, by assumption⟩
/-- the map of bytes, or an error -/
def decI (bs : List Nat) : Nat × Int := if bs.length < 5 then (0, 3) else if 5 < bs.length then (0, 2) else if chk (vnum bs) = 0 then (vnum bs, 0) else (0, chk (vnum bs))
set_option linter.unusedSimpArgs false in
set_option linter.unusedVariables false in
set_option maxRecDepth 100000 in
set_option maxHeartbeats 1000000 in
theorem rdecode_any (v : Value) (bs : List Nat) (w : World) (h : BytesAt w v bs) :
    Calls Tryd.prog 30 #[v] w fun e w' => e = .returned (.tuple #[.int .u64 ((decI bs).1 : Nat), .int .i64 (decI bs).2]) ∧ Below w.heap.size w w' := by
  obtain ⟨n, hn⟩ : ∃ n, bs.length = n := ⟨_, rfl⟩
  have hh := h
  have hl : n ≤ 140737488355328 := by have := h.2.1; unfold reachBytes at this; omega
  obtain ⟨hsr, _, hlt⟩ := h
  rw [hn] at hsr
  obtain ⟨_, _, _, ao, cap, rfl, _, _⟩ := hsr
  unfold decI
  rw [hn]
  by_cases h1 : n < 5
  · rw [if_pos h1]
    go_enter Tryd.func30, Tryd.ntmps30
    go_wp2
    go_ret2
    exact ⟨rfl, Below.refl _ _⟩
  · rw [if_neg h1]
    by_cases h2 : 5 < n
    · rw [if_pos h2]
      go_enter Tryd.func30, Tryd.ntmps30
      go_wp2
      go_ret2
      exact ⟨rfl, Below.refl _ _⟩
    · rw [if_neg h2]
      obtain rfl : n = 5 := by omega
      have hv := fun W (hW : BytesAt W (.slice ao 5 cap) bs) => value_any ao cap 5 bs W hW hn (by decide)
      have hvl := vnum_lt bs hlt
      rw [hn] at hvl
      obtain ⟨V, hV⟩ : ∃ V, vnum bs = V := ⟨_, rfl⟩
      simp only [hV] at hv hvl ⊢
      have hc := fun W => rcheck_any V (Nat.lt_of_lt_of_le hvl (by decide)) W
      obtain ⟨C, hC⟩ : ∃ C, chk V = C := ⟨_, rfl⟩
      simp only [hC] at hc ⊢
      have HV := Lib.hid hv
      have HC := Lib.hid hc
      have HH := Lib.hid hh
      clear hv hc hh hV hC hvl hlt h1 h2 hn
      by_cases h0 : C = 0
      · subst h0
        rw [if_pos rfl]
        go_enter Tryd.func30, Tryd.ntmps30
        go_wp2_with (first | (go_at_call 42; refine (HV.out _ HH.out).mono ?_; rintro e w1 ⟨rfl, rfl⟩) | (go_at_call 13; refine (HC.out _).mono ?_; rintro e w1 ⟨rfl, hB1⟩))
        go_ret2
        exact ⟨rfl, by assumption⟩
      · rw [if_neg h0]
        have g1 : (C != 0) = true := by simpa using h0
        go_enter Tryd.func30, Tryd.ntmps30
        go_wp2_with (first | (go_at_call 42; refine (HV.out _ HH.out).mono ?_; rintro e w1 ⟨rfl, rfl⟩) | (go_at_call 13; refine (HC.out _).mono ?_; rintro e w1 ⟨rfl, hB1⟩))
        go_ret2
        exact ⟨rfl, by assumption⟩
set_option linter.unusedSimpArgs false in
set_option linter.unusedVariables false in
set_option maxRecDepth 100000 in
set_option maxHeartbeats 2000000 in
theorem decode_any (v : Value) (bs : List Nat) (w : World) (h : BytesC w v bs) (hm : bs.length ≤ 140737488351232) :
    Calls Tryd.prog 29 #[v] w fun e w' => e = .returned (.tuple #[.int .u64 ((decI bs).1 : Nat), .int .i64 (decI bs).2]) ∧ Below w.heap.size w w' := by
  obtain ⟨hby, ao, cap, rfl, hcap⟩ := h
  obtain ⟨n, hn⟩ : ∃ n, bs.length = n := ⟨_, rfl⟩
  rw [hn] at hby hcap hm ⊢
  have bP := Blk.new w 3 [.int .i64 5]
  have hB1 : Below w.heap.size w (w.alloc (.cells #[.int .i64 5] 3)) := (Below.refl _ _).alloc (Nat.le_refl _) _
  have hp := fun v' => take_any ao cap (.slice (some ⟨w.heap.size, 0, none⟩) 1 v') bs [5] n 1 (w.alloc (.cells #[.int .i64 5] 3)) (hby.below hB1) hn hcap ⟨by unfold maxLen; simp, by simp [icells], by simp [icells, Value.oneCell'], some ⟨w.heap.size, 0, none⟩, v', rfl, fun h => (by cases h), fun _ => ⟨w.heap.size, 0, rfl, bP.lt, fun j u hj => by rw [Nat.zero_add]; exact bP.cell hj⟩⟩
    (by intro f hf; simp only [List.mem_singleton] at hf; subst hf; exact ⟨show 1 ≤ 5 by decide, show 5 ≤ 8 by decide⟩) rfl (by decide) hm
  simp only [show [5].sum = 5 by rfl] at hp
  unfold decI
  rw [hn]
  have hlt := hby.2.2
  by_cases h1 : n < 5
  · rw [if_pos h1] at hp ⊢
    have HP := Lib.hid hp
    clear hp bP
    go_enter Tryd.func29, Tryd.ntmps29
    go_wp2_with fail
    refine (HP.out _).mono ?_
    rintro e w4 ⟨v1, v2, rfl, hB4, _⟩
    have hB5 := hB1.trans (hB4.mono (by simp))
    clear HP hB4
    go_wp2
    go_ret2
    exact ⟨rfl, hB5⟩
  · rw [if_neg h1] at hp ⊢
    by_cases h2 : 5 < n
    · rw [if_pos h2]
      have HP := Lib.hid hp
      clear hp bP
      go_enter Tryd.func29, Tryd.ntmps29
      go_wp2_with fail
      refine (HP.out _).mono ?_
      rintro e w4 ⟨v1, v2, rfl, hB4, hx⟩
      obtain ⟨hx1, hx2⟩ := hx h1
      have hB5 := hB1.trans (hB4.mono (by simp))
      obtain ⟨a2, c2, rfl⟩ : ∃ a2 c2, v2 = .slice a2 (n - 5) c2 := by
        rcases hx2.2 with ⟨rfl, h0⟩ | ⟨g, cc, cur, rfl, _⟩
        · exact ⟨none, 0, by rw [h0]⟩
        · exact ⟨_, _, rfl⟩
      obtain ⟨d, hd⟩ : ∃ d, n - 5 = d := ⟨_, rfl⟩
      rw [hd]
      have g1 : decide (0 < d) = true := by simp; omega
      have g2 : decide ((0 : Int) < (d : Int)) = true := by simp; omega
      clear HP hB4 hx1 hx2 hd
      go_wp2
      go_ret2
      exact ⟨rfl, hB5⟩
    · rw [if_neg h2]
      obtain rfl : n = 5 := by omega
      have hvl := vnum_lt bs hlt
      rw [hn] at hvl
      have htk : tk [5] bs = [vnum bs] := by simp only [tk]; rw [List.take_of_length_le (by omega)]
      obtain ⟨V, hV⟩ : ∃ V, vnum bs = V := ⟨_, rfl⟩
      simp only [hV] at htk hvl ⊢
      have HTK := Lib.hid htk
      have hc := fun W => check_any V (Nat.lt_of_lt_of_le hvl (by decide)) W
      obtain ⟨C, hC⟩ : ∃ C, chk V = C := ⟨_, rfl⟩
      simp only [hC] at hc ⊢
      have HP := Lib.hid hp
      have HC := Lib.hid hc
      have E0 : (if C = 0 then (V, (0 : Int)) else (0, C)) = (if C = 0 then V else 0, C) := by split <;> simp_all
      rw [E0]
      obtain ⟨X, hX⟩ : ∃ X, (if C = 0 then V else 0) = X := ⟨_, rfl⟩
      rw [hX]
      have HX := Lib.hid hX
      clear hp hc bP hX E0 hV hC htk hvl hlt h2 hby
      go_enter Tryd.func29, Tryd.ntmps29
      go_wp2_with fail
      refine (HP.out _).mono ?_
      rintro e w4 ⟨v1, v2, rfl, hB4, hx⟩
      obtain ⟨hx1, hx2⟩ := hx h1
      have hB5 := hB1.trans (hB4.mono (by simp))
      obtain ⟨a2, c2, rfl⟩ : ∃ a2 c2, v2 = .slice a2 0 c2 := by
        rcases hx2.2 with ⟨rfl, h0⟩ | ⟨g, cc, cur, rfl, _⟩
        · exact ⟨none, 0, rfl⟩
        · exact ⟨_, _, rfl⟩
      rw [HTK.out] at hx1
      obtain ⟨g1, c1, hv1⟩ := ownsRow_succ (k := 0) hx1
      rw [Nat.zero_add] at hv1
      subst hv1
      have q1 := hx1.cellAt 0 (by decide)
      simp only [ncells, List.map_cons, List.map_nil, List.getElem?_cons_zero] at q1
      clear HP hB4 hx1 hx2 hx
      by_cases h0 : C = 0
      · subst h0
        obtain rfl : X = V := by rw [← HX.out, if_pos rfl]
        go_wp2_with (go_at_call 12; refine (HC.out _).mono ?_; rintro e w' ⟨rfl, rfl⟩)
        go_ret2
        exact ⟨rfl, hB5⟩
      · obtain rfl : X = 0 := by rw [← HX.out, if_neg h0]
        have g3 : (C != 0) = true := by simpa using h0
        go_wp2_with (go_at_call 12; refine (HC.out _).mono ?_; rintro e w' ⟨rfl, rfl⟩)
        go_ret2
        exact ⟨rfl, hB5⟩
end Go.Proofs.YtoaiiceglfmfcaaDoor
