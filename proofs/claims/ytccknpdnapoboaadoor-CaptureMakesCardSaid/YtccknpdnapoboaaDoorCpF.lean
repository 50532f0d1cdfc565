/- Value of the reference; slices of bytes with room. -/
import Derived.Test.YtccknpdnapoboaaDoorCpV
namespace Go.Proofs.YtccknpdnapoboaaDoor
open Go.RowKit

set_option linter.unusedSimpArgs false in
set_option linter.unusedVariables false in
set_option maxRecDepth 100000 in
set_option maxHeartbeats 1000000 in
theorem value_any (a : Option Addr) (cap n : Nat) (bs : List Nat) (w : World) (h : BytesAt w (.slice a n cap) bs) (hn : bs.length = n) (hs : n ≤ 8) :
    Calls Tryd.prog 58 #[.slice a n cap] w fun e w' => e = .returned (.int .u64 (vnum bs : Nat)) ∧ w = w' := by
  obtain ⟨hsr, _, hlt⟩ := h
  rw [hn] at hsr
  obtain ⟨_, _, _, ao, cap', e, _, hc⟩ := hsr
  cases e
  have HC := Lib.hid hc
  have HLT := Lib.hid hlt
  have HN := Lib.hid hn
  clear hc hlt hn
  have z0 : IntKind.i64.wrap ((n : Int) - 1) = (n : Int) - 1 := IntWalk.i64_in _ (by omega)
  go_enter Tryd.func58, Tryd.ntmps58
  go_wp2
  clear z0
  go_loop [3, 4] (fun x i => ∃ k : Nat, i = .int .i64 ((k : Int) - 1) ∧ k ≤ n ∧ x = .int .u64 (vnum (bs.drop k) : Nat)) (fun _ i => (intOf i + 1).toNat)
  case atStart => exact ⟨n, rfl, Nat.le_refl _, by rw [List.drop_of_length_le (by rw [HN.out]; exact Nat.le_refl _)]; rfl⟩
  case round =>
    obtain ⟨k, rfl, hk, rfl⟩ := hrel
    by_cases hk0 : k = 0
    · subst hk0
      have g1 : decide ((0 : Int) ≤ ((0 : Nat) : Int) - 1) = false := by decide
      have g2 : decide ((1 : Int) ≤ ((0 : Nat) : Int)) = false := by decide
      go_wp2
      go_ret
      exact ⟨by simp, rfl⟩
    · obtain ⟨j, rfl⟩ : ∃ j, k = j + 1 := ⟨k - 1, by omega⟩
      have hj : j < n := by omega
      obtain ⟨b, off, rfl, hb, hcell⟩ := HC.out (by omega)
      have hjl : j < bs.length := by rw [HN.out]; omega
      have hst := List.drop_eq_getElem_cons hjl
      have hx2 := HLT.out _ (List.getElem_mem hjl)
      have hcl := hcell j (.int .u8 (bs[j] : Nat)) (by simp [bcells, List.getElem?_eq_getElem hjl])
      obtain ⟨x, hxx⟩ : ∃ x, bs[j] = x := ⟨_, rfl⟩
      rw [hxx] at hst hx2 hcl
      obtain ⟨V, hV⟩ : ∃ V, bs.drop (j + 1) = V := ⟨_, rfl⟩
      have hVl : V.length ≤ 7 := by rw [← hV]; simp [HN.out]; omega
      have hVb := vnum_lt V fun y hy => HLT.out y (by rw [← hV] at hy; exact List.mem_of_mem_drop hy)
      have hVm : vnum V < 72057594037927936 := Nat.lt_of_lt_of_le hVb (Nat.le_trans (Nat.pow_le_pow_right (by decide) hVl) (by decide))
      rw [hV] at hst ⊢
      have hnew : vnum (bs.drop j) = vnum V * 256 + x := by rw [hst]; rfl
      obtain ⟨u, hu⟩ : ∃ u, vnum V = u := ⟨_, rfl⟩
      rw [hu] at hnew hVm ⊢
      have HNEW := Lib.hid hnew
      have e0 : ((j + 1 : Nat) : Int) - 1 = (j : Int) := by omega
      rw [e0]
      have g1 : decide ((0 : Int) ≤ (j : Int)) = true := by simp
      have w1 : IntKind.i64.wrap ((j : Int) - 1) = (j : Int) - 1 := IntWalk.i64_in _ (by omega)
      have w3 : IntKind.u64.wrap ((u : Int) * 256) = (u : Int) * 256 := IntWalk.u64_in _ (by omega)
      have w4 : IntKind.u64.wrap ((u : Int) * 256 + (x : Int)) = (u : Int) * 256 + (x : Int) := IntWalk.u64_in _ (by omega)
      have i1 : (j : Int) < (n : Int) := by omega
      have x1 : (x : Int) < 256 := by omega
      have x0 : (0 : Int) ≤ (x : Int) := by omega
      clear hst hV hVl hVb hu hxx hnew hcell e0 hVm
      go_wp2
      refine ⟨⟨j, rfl, by omega, by rw [HNEW.out]; simp⟩, ?_⟩
      simp [intOf]
/-- bytes that are read, in a slice whose capacity is known to hold them -/
def BytesC (w : World) (v : Value) (bs : List Nat) : Prop := BytesAt w v bs ∧ ∃ a c, v = .slice a bs.length c ∧ bs.length ≤ c
theorem bytesC_of_own {w : World} {base n : Nat} {v : Value} {bs : List Nat} (h : w.ownsRow base 5 1 v n (bcells bs)) (hl : bs.length = n) (hb : ∀ x ∈ bs, x < 256) (hm : n ≤ 140737488351232) : BytesC w v bs := by
  refine ⟨bytesAt_of_own h hl hb hm, ?_⟩
  rcases h.2 with ⟨rfl, rfl⟩ | ⟨g, cap, cur, rfl, _, _, hc, _⟩
  · exact ⟨none, 0, by rw [hl], by omega⟩
  · exact ⟨_, cap, by rw [hl], by omega⟩
theorem BytesC.below {w w' : World} {v : Value} {bs : List Nat} (h : BytesC w v bs) (hb : Below w.heap.size w w') : BytesC w' v bs := ⟨h.1.below hb, h.2⟩
theorem bytesAt_nil (w : World) : BytesAt w (.slice none 0 0) [] := ⟨⟨Nat.zero_le _, rfl, by simp [bcells], none, 0, rfl, fun _ => ⟨rfl, rfl⟩, fun h => absurd h (by simp)⟩, Nat.zero_le _, by simp⟩
theorem bytesC_nil (w : World) : BytesC w (.slice none 0 0) [] := ⟨bytesAt_nil w, none, 0, rfl, Nat.le_refl _⟩
end Go.Proofs.YtccknpdnapoboaaDoor
