/- uuid: Num of the references; octets.Join. -/
import Derived.Test.YtldcihjddebciaaUuE
namespace Go.Proofs.Ytldcihjddebciaa
open Go.RowKit

/-- the number of bytes, the least significant first -/
def vnum : List Nat → Nat
  | [] => 0
  | b :: l => vnum l * 256 + b
theorem vnum_lt : ∀ (l : List Nat), (∀ x ∈ l, x < 256) → vnum l < 256 ^ l.length
  | [], _ => by simp [vnum]
  | b :: l, h => by
    have := vnum_lt l fun x hx => h x (List.mem_cons_of_mem _ hx)
    have hb := h b (by simp)
    simp only [vnum, List.length_cons, Nat.pow_succ]
    omega
theorem slice_step (bs : List Nat) (at' k size : Nat) (hk : k < size) (h : at' + size ≤ bs.length) : (bs.drop (at' + k)).take (size - k) = (bs.getD (at' + k) 0) :: (bs.drop (at' + (k + 1))).take (size - (k + 1)) := by
  have hl : at' + k < bs.length := by omega
  rw [List.drop_eq_getElem_cons hl, show size - k = (size - (k + 1)) + 1 by omega, List.take_succ_cons, List.getD_eq_getElem?_getD, List.getElem?_eq_getElem hl]
  rfl
set_option linter.unusedSimpArgs false in
set_option linter.unusedVariables false in
set_option maxRecDepth 100000 in
set_option maxHeartbeats 1000000 in
theorem num_any (v : Value) (bs : List Nat) (at' size : Nat) (w : World) (h : BytesAt w v bs) (hl : at' + size ≤ bs.length) (hs : size ≤ 8) (hm : bs.length ≤ 1099511627776) :
    Calls Try.prog 102 #[v, .int .i64 at', .int .i64 size] w fun e w' => e = .returned (.int .u64 (vnum ((bs.drop at').take size) : Nat)) ∧ w = w' := by
  obtain ⟨⟨_, _, _, ao, cap, rfl, _, hc⟩, _, hlt⟩ := h
  have HC := Lib.hid hc
  have HLT := Lib.hid hlt
  obtain ⟨n, hn⟩ : ∃ n, bs.length = n := ⟨_, rfl⟩
  have HN := Lib.hid hn
  rw [hn] at hl hm ⊢
  clear hc hlt hn
  have z0 : IntKind.i64.wrap ((size : Int) - 1) = (size : Int) - 1 := IntWalk.i64_in _ (by omega)
  go_enter Try.func102, Try.ntmps102
  go_wp2
  clear z0
  go_loop [7, 8] (fun x i => ∃ k : Nat, i = .int .i64 ((k : Int) - 1) ∧ k ≤ size ∧ x = .int .u64 (vnum ((bs.drop (at' + k)).take (size - k)) : Nat)) (fun _ i => (intOf i + 1).toNat)
  case atStart => exact ⟨size, rfl, Nat.le_refl _, by simp [vnum]⟩
  case round =>
    obtain ⟨k, rfl, hk, rfl⟩ := hrel
    by_cases hk0 : k = 0
    · subst hk0
      have g1 : decide ((0 : Int) ≤ ((0 : Nat) : Int) - 1) = false := by decide
      have g2 : decide ((1 : Int) ≤ ((0 : Nat) : Int)) = false := by decide
      go_wp2
      go_ret
      exact ⟨by simp, rfl⟩
    · obtain ⟨j, rfl⟩ : ∃ j, k = j + 1 := ⟨k - 1, by omega⟩
      have hj : j < size := by omega
      have hst := slice_step bs at' j size hj (by rw [HN.out]; exact hl)
      obtain ⟨b, off, rfl, hb, hcell⟩ := HC.out (by rw [HN.out]; omega)
      have hjl : at' + j < bs.length := by rw [HN.out]; omega
      have hx : bs.getD (at' + j) 0 = bs[at' + j] := by rw [List.getD_eq_getElem?_getD, List.getElem?_eq_getElem hjl]; rfl
      have hx2 := HLT.out _ (List.getElem_mem hjl)
      have hcl := hcell (at' + j) (.int .u8 (bs[at' + j] : Nat)) (by simp [bcells, List.getElem?_eq_getElem hjl])
      rw [hx] at hst
      obtain ⟨x, hxx⟩ : ∃ x, bs[at' + j] = x := ⟨_, rfl⟩
      rw [hxx] at hst hx2 hcl
      obtain ⟨V, hV⟩ : ∃ V, (bs.drop (at' + (j + 1))).take (size - (j + 1)) = V := ⟨_, rfl⟩
      have hVl : V.length ≤ 7 := by rw [← hV]; simp; omega
      have hVb := vnum_lt V fun y hy => HLT.out y (by rw [← hV] at hy; exact List.mem_of_mem_drop (List.mem_of_mem_take hy))
      have hVm : vnum V < 72057594037927936 := Nat.lt_of_lt_of_le hVb (Nat.le_trans (Nat.pow_le_pow_right (by decide) hVl) (by decide))
      rw [hV] at hst ⊢
      have hnew : vnum ((bs.drop (at' + j)).take (size - j)) = vnum V * 256 + x := by rw [hst]; rfl
      obtain ⟨u, hu⟩ : ∃ u, vnum V = u := ⟨_, rfl⟩
      rw [hu] at hnew hVm ⊢
      have HNEW := Lib.hid hnew
      have e0 : ((j + 1 : Nat) : Int) - 1 = (j : Int) := by omega
      rw [e0]
      have g1 : decide ((0 : Int) ≤ (j : Int)) = true := by simp
      have w1 : IntKind.i64.wrap ((j : Int) - 1) = (j : Int) - 1 := IntWalk.i64_in _ (by omega)
      have w2 : IntKind.i64.wrap ((at' : Int) + (j : Int)) = (at' : Int) + (j : Int) := IntWalk.i64_in _ (by omega)
      have w3 : IntKind.u64.wrap ((u : Int) * 256) = (u : Int) * 256 := IntWalk.u64_in _ (by omega)
      have w4 : IntKind.u64.wrap ((u : Int) * 256 + (x : Int)) = (u : Int) * 256 + (x : Int) := IntWalk.u64_in _ (by omega)
      have i0 : (0 : Int) ≤ (at' : Int) + (j : Int) := by omega
      have i1 : (at' : Int) + (j : Int) < (n : Int) := by omega
      have e1 : ((at' : Int) + (j : Int)).toNat = at' + j := by omega
      have x1 : (x : Int) < 256 := by omega
      have x0 : (0 : Int) ≤ (x : Int) := by omega
      clear hst hx hV hVl hVb hu hxx hnew hcell e0 hVm
      go_wp2
      refine ⟨⟨j, rfl, by omega, by rw [HNEW.out]; simp⟩, ?_⟩
      simp [intOf]
end Go.Proofs.Ytldcihjddebciaa
