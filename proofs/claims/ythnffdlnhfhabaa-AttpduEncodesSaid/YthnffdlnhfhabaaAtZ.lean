/- attpdu: the reference: Encode of any PDU. -/
import Derived.Test.YthnffdlnhfhabaaAtY
import Derived.Test.YthnffdlnhfhabaaAtN
namespace Go.Proofs.Ythnffdlnhfhabaa
open Go.RowKit

/-- a field that is not used is zero, where there is no error -/
theorem anyC_zero (u : List Nat) (z : Nat → Bool) : ∀ f, f ≤ 10 → anyC u z f = false → ∀ j, 10 - f ≤ j → j < 10 → u.contains (le j) = false → z j = true
  | 0, _, _, j, h1, h2, _ => by omega
  | f+1, hf, h, j, h1, h2, hc => by
    rw [anyC, Bool.or_eq_false_iff] at h
    by_cases hj : j = 9 - f
    · subst hj
      have := h.1
      rw [hc] at this
      simpa using this
    · exact anyC_zero u z f (by omega) h.2 j (by omega) h2 hc
theorem chkP_unused (ki ak : Int) (ha la hi lo : Nat) (of mt co : Int) (cm : Bool) (n m : Nat) (its : List It) (u : List Nat) (hk : fldC ki = some u) (h : chkP ki ak ha la hi lo of mt co cm n m its = 0) (j : Nat) (hj : j < 10) (hc : u.contains (le j) = false) : zB ak ha la hi lo of mt co cm n m j = true := by
  unfold chkP at h
  rw [hk] at h
  simp only at h
  by_cases ha' : anyC u (zB ak ha la hi lo of mt co cm n m) 10 = true
  · rw [if_pos ha'] at h; cases h
  · exact anyC_zero u _ 10 (Nat.le_refl _) (by simpa using ha') j (by omega) hj hc
theorem enc_list_pos (its : List It) (m : Nat) (hl : its.length = m) (hne : its ≠ []) : 0 < m := by
  cases its with
  | nil => exact absurd rfl hne
  | cons x l => simp at hl; omega
set_option linter.unusedSimpArgs false in
set_option linter.unusedVariables false in
set_option maxRecDepth 100000 in
set_option maxHeartbeats 4000000 in
theorem renc_err (ki ak : Int) (ha la hi lo : Nat) (of mt co : Int) (cm : Bool) (a1 a2 : Option Addr) (n c m d : Nat) (w : World) (E : Int) (hE : E ≠ 0)
    (hck : ∀ W, Below w.heap.size w W → Calls Try.prog 13 #[.agg #[.int .i64 ki, .int .i64 ak, .int .u16 ha, .int .u16 la, .int .u64 hi, .int .u64 lo, .int .i64 of, .int .i64 mt, .int .i64 co, .bool cm, .slice a1 n c, .slice a2 m d]] W fun e w' => e = .returned (.int .i64 E) ∧ Below W.heap.size W w') :
    Calls Try.prog 15 #[.agg #[.int .i64 ki, .int .i64 ak, .int .u16 ha, .int .u16 la, .int .u64 hi, .int .u64 lo, .int .i64 of, .int .i64 mt, .int .i64 co, .bool cm, .slice a1 n c, .slice a2 m d]] w fun e w' => e = .returned (.tuple #[.slice none 0 0, .int .i64 E]) ∧ Below w.heap.size w w' := by
  have hB := (Below.refl w.heap.size w).alloc (Nat.le_refl _) (.cells #[.int .i64 ki, .int .i64 ak, .int .u16 ha, .int .u16 la, .int .u64 hi, .int .u64 lo, .int .i64 of, .int .i64 mt, .int .i64 co, .bool cm, .slice a1 n c, .slice a2 m d] 29)
  have T0 := cells_new w [.int .i64 ki, .int .i64 ak, .int .u16 ha, .int .u16 la, .int .u64 hi, .int .u64 lo, .int .i64 of, .int .i64 mt, .int .i64 co, .bool cm, .slice a1 n c, .slice a2 m d] 29
  have t1 : (E != 0) = true := by simpa using hE
  have HCK := Lib.hid hck
  clear hck hE
  go_enter Try.func15, Try.ntmps15
  go_upto_region 1 with fail
  generalize World.alloc _ _ = V at T0 hB ⊢
  have hOpen := T0
  simp only [Cells, blk, List.cons_append, List.nil_append, and_true, Nat.reduceAdd, Nat.add_zero, Nat.zero_add] at hOpen
  obtain ⟨y0, y1, y2, y3, y4, y5, y6, y7, y8, y9, yA, yB⟩ := hOpen
  clear T0
  go_wp2_with fail
  refine (HCK.out _ hB).mono ?_
  rintro e w1 ⟨rfl, hB1⟩
  have hB2 := hB.trans (hB1.mono hB.size)
  clear y0 y1 y2 y3 y4 y5 y6 y7 y8 y9 yA yB hB1 HCK
  go_wp2
  go_ret2
  exact ⟨rfl, hB2⟩
set_option linter.unusedSimpArgs false in
set_option linter.unusedVariables false in
set_option maxRecDepth 100000 in
set_option maxHeartbeats 4000000 in
theorem arencode_any (ki ak : Int) (ha la hi lo : Nat) (of mt co : Int) (cm : Bool) (a1 a2 : Option Addr) (n c m d : Nat) (bs : List Nat) (its : List It) (w : World) (hval : BytesAt w (.slice a1 n c) bs) (hn : bs.length = n) (hnb : n ≤ 1000000) (hits : Items w (.slice a2 m d) m its) (hm : m ≤ 1000) (hbn : ∀ t ∈ its, t.n ≤ 1000000)
    (hha : ha < 65536) (hla : la < 65536) (hhi : hi < 18446744073709551616) (hlo : lo < 18446744073709551616) :
    Calls Try.prog 15 #[.agg #[.int .i64 ki, .int .i64 ak, .int .u16 ha, .int .u16 la, .int .u64 hi, .int .u64 lo, .int .i64 of, .int .i64 mt, .int .i64 co, .bool cm, .slice a1 n c, .slice a2 m d]] w fun e w' => ∃ v, e = .returned (.tuple #[v, .int .i64 (chkP ki ak ha la hi lo of mt co cm n m its)]) ∧ BytesAt w' v (if chkP ki ak ha la hi lo of mt co cm n m its = 0 then encP ki ak ha la hi lo of mt co cm bs its else []) ∧ Below w.heap.size w w' := by
  have hck := fun W (hW : Below w.heap.size w W) => rchk_any ki ak ha la hi lo of mt co cm a1 a2 n c m d its W (hits.below hW) hm hbn
  by_cases hc0 : chkP ki ak ha la hi lo of mt co cm n m its = 0
  rotate_left
  · rw [if_neg hc0]
    refine (renc_err ki ak ha la hi lo of mt co cm a1 a2 n c m d w _ hc0 hck).mono ?_
    rintro e w' ⟨rfl, hb⟩
    exact ⟨_, rfl, bytesAt_nil _, hb⟩
  rw [if_pos hc0, hc0]
  simp only [hc0] at hck
  rcases att_kinds ki with rfl | rfl | rfl | rfl | rfl | rfl | rfl | rfl | rfl | rfl | rfl | rfl | rfl | rfl | rfl | rfl | rfl | rfl | rfl | rfl | rfl | rfl | rfl | hne
  · have hk0 : fldC 1 = some [65, 72, 67] := rfl
    obtain ⟨qA, rA, _⟩ := gI_ok _ ak ha la hi lo of mt co cm n m its _ hk0 hha hla hc0 0 (by decide) rfl
    change 0 ≤ ak at qA
    change ak < 65536 at rA
    obtain ⟨XA, rfl⟩ := Int.eq_ofNat_of_zero_le qA
    obtain ⟨qC, rC, _⟩ := gI_ok _ XA ha la hi lo of mt co cm n m its _ hk0 hha hla hc0 5 (by decide) rfl
    change 0 ≤ co at qC
    change co < 65536 at rC
    obtain ⟨XC, rfl⟩ := Int.eq_ofNat_of_zero_le qC
    have hz8 := chkP_unused _ _ ha la hi lo _ _ _ cm n m its _ hk0 hc0 8 (by decide) rfl
    have hn0 : n = 0 := by have : ((n : Int) == 0) = true := hz8; simp at this; omega
    have hbs : bs = [] := List.eq_nil_of_length_eq_zero (by omega)
    exact renc_AHC _ hk0 XA ha la hi lo of mt XC cm a1 a2 n c m d bs its w hval hn hnb hha hla hhi hlo (by omega) (by omega) hbs hck
  · have hk0 : fldC 2 = some [77] := rfl
    obtain ⟨qM, rM, _⟩ := gI_ok _ ak ha la hi lo of mt co cm n m its _ hk0 hha hla hc0 4 (by decide) rfl
    change 0 ≤ mt at qM
    change mt < 65536 at rM
    obtain ⟨XM, rfl⟩ := Int.eq_ofNat_of_zero_le qM
    have hz8 := chkP_unused _ _ ha la hi lo _ _ _ cm n m its _ hk0 hc0 8 (by decide) rfl
    have hn0 : n = 0 := by have : ((n : Int) == 0) = true := hz8; simp at this; omega
    have hbs : bs = [] := List.eq_nil_of_length_eq_zero (by omega)
    exact renc_M _ hk0 ak ha la hi lo of XM co cm a1 a2 n c m d bs its w hval hn hnb hha hla hhi hlo (by omega) hbs hck
  · have hk0 : fldC 3 = some [77] := rfl
    obtain ⟨qM, rM, _⟩ := gI_ok _ ak ha la hi lo of mt co cm n m its _ hk0 hha hla hc0 4 (by decide) rfl
    change 0 ≤ mt at qM
    change mt < 65536 at rM
    obtain ⟨XM, rfl⟩ := Int.eq_ofNat_of_zero_le qM
    have hz8 := chkP_unused _ _ ha la hi lo _ _ _ cm n m its _ hk0 hc0 8 (by decide) rfl
    have hn0 : n = 0 := by have : ((n : Int) == 0) = true := hz8; simp at this; omega
    have hbs : bs = [] := List.eq_nil_of_length_eq_zero (by omega)
    exact renc_M _ hk0 ak ha la hi lo of XM co cm a1 a2 n c m d bs its w hval hn hnb hha hla hhi hlo (by omega) hbs hck
  · have hk0 : fldC 4 = some [72, 76] := rfl
    have hz8 := chkP_unused _ _ ha la hi lo _ _ _ cm n m its _ hk0 hc0 8 (by decide) rfl
    have hn0 : n = 0 := by have : ((n : Int) == 0) = true := hz8; simp at this; omega
    have hbs : bs = [] := List.eq_nil_of_length_eq_zero (by omega)
    exact renc_HL _ hk0 ak ha la hi lo of mt co cm a1 a2 n c m d bs its w hval hn hnb hha hla hhi hlo hbs hck
  · have hk0 : fldC 5 = some [73] := rfl
    have hne := its_ok _ ak ha la hi lo of mt co cm n m its _ hk0 hc0 rfl
    have hm0 := enc_list_pos its m hits.1 hne
    obtain ⟨hlen, hsr, hok⟩ := hits
    obtain ⟨_, _, _, ao, cap, e0, _, hcell⟩ := id hsr
    cases e0
    obtain ⟨b, off, rfl, _, _⟩ := hcell hm0
    exact renc_I _ hk0 ak ha la hi lo of mt co cm a1 b off n c m d bs its w ⟨hlen, hsr, hok⟩ hm hm0 hbn hck
  · have hk0 : fldC 8 = some [72, 76, 84] := rfl
    have hz8 := chkP_unused _ _ ha la hi lo _ _ _ cm n m its _ hk0 hc0 8 (by decide) rfl
    have hn0 : n = 0 := by have : ((n : Int) == 0) = true := hz8; simp at this; omega
    have hbs : bs = [] := List.eq_nil_of_length_eq_zero (by omega)
    exact renc_HLT _ hk0 ak ha la hi lo of mt co cm a1 a2 n c m d bs its w hval hn hnb hha hla hhi hlo hbs hck
  · have hk0 : fldC 9 = some [73] := rfl
    have hne := its_ok _ ak ha la hi lo of mt co cm n m its _ hk0 hc0 rfl
    have hm0 := enc_list_pos its m hits.1 hne
    obtain ⟨hlen, hsr, hok⟩ := hits
    obtain ⟨_, _, _, ao, cap, e0, _, hcell⟩ := id hsr
    cases e0
    obtain ⟨b, off, rfl, _, _⟩ := hcell hm0
    exact renc_I _ hk0 ak ha la hi lo of mt co cm a1 b off n c m d bs its w ⟨hlen, hsr, hok⟩ hm hm0 hbn hck
  · have hk0 : fldC 10 = some [72] := rfl
    have hz8 := chkP_unused _ _ ha la hi lo _ _ _ cm n m its _ hk0 hc0 8 (by decide) rfl
    have hn0 : n = 0 := by have : ((n : Int) == 0) = true := hz8; simp at this; omega
    have hbs : bs = [] := List.eq_nil_of_length_eq_zero (by omega)
    exact renc_H _ hk0 ak ha la hi lo of mt co cm a1 a2 n c m d bs its w hval hn hnb hha hla hhi hlo hbs hck
  · have hk0 : fldC 11 = some [86] := rfl
    exact renc_V _ hk0 ak ha la hi lo of mt co cm a1 a2 n c m d bs its w hval hn hnb hha hla hhi hlo hck
  · have hk0 : fldC 12 = some [72, 79] := rfl
    obtain ⟨qO, rO, _⟩ := gI_ok _ ak ha la hi lo of mt co cm n m its _ hk0 hha hla hc0 3 (by decide) rfl
    change 0 ≤ of at qO
    change of < 65536 at rO
    obtain ⟨XO, rfl⟩ := Int.eq_ofNat_of_zero_le qO
    have hz8 := chkP_unused _ _ ha la hi lo _ _ _ cm n m its _ hk0 hc0 8 (by decide) rfl
    have hn0 : n = 0 := by have : ((n : Int) == 0) = true := hz8; simp at this; omega
    have hbs : bs = [] := List.eq_nil_of_length_eq_zero (by omega)
    exact renc_HO _ hk0 ak ha la hi lo XO mt co cm a1 a2 n c m d bs its w hval hn hnb hha hla hhi hlo (by omega) hbs hck
  · have hk0 : fldC 13 = some [86] := rfl
    exact renc_V _ hk0 ak ha la hi lo of mt co cm a1 a2 n c m d bs its w hval hn hnb hha hla hhi hlo hck
  · have hk0 : fldC 16 = some [72, 76, 84] := rfl
    have hz8 := chkP_unused _ _ ha la hi lo _ _ _ cm n m its _ hk0 hc0 8 (by decide) rfl
    have hn0 : n = 0 := by have : ((n : Int) == 0) = true := hz8; simp at this; omega
    have hbs : bs = [] := List.eq_nil_of_length_eq_zero (by omega)
    exact renc_HLT _ hk0 ak ha la hi lo of mt co cm a1 a2 n c m d bs its w hval hn hnb hha hla hhi hlo hbs hck
  · have hk0 : fldC 17 = some [73] := rfl
    have hne := its_ok _ ak ha la hi lo of mt co cm n m its _ hk0 hc0 rfl
    have hm0 := enc_list_pos its m hits.1 hne
    obtain ⟨hlen, hsr, hok⟩ := hits
    obtain ⟨_, _, _, ao, cap, e0, _, hcell⟩ := id hsr
    cases e0
    obtain ⟨b, off, rfl, _, _⟩ := hcell hm0
    exact renc_I _ hk0 ak ha la hi lo of mt co cm a1 b off n c m d bs its w ⟨hlen, hsr, hok⟩ hm hm0 hbn hck
  · have hk0 : fldC 18 = some [72, 86] := rfl
    exact renc_HV _ hk0 ak ha la hi lo of mt co cm a1 a2 n c m d bs its w hval hn hnb hha hla hhi hlo hck
  · have hk0 : fldC 19 = some [] := rfl
    have hz8 := chkP_unused _ _ ha la hi lo _ _ _ cm n m its _ hk0 hc0 8 (by decide) rfl
    have hn0 : n = 0 := by have : ((n : Int) == 0) = true := hz8; simp at this; omega
    have hbs : bs = [] := List.eq_nil_of_length_eq_zero (by omega)
    exact renc_n _ hk0 ak ha la hi lo of mt co cm a1 a2 n c m d bs its w hval hn hnb hha hla hhi hlo hbs hck
  · have hk0 : fldC 22 = some [72, 79, 86] := rfl
    obtain ⟨qO, rO, _⟩ := gI_ok _ ak ha la hi lo of mt co cm n m its _ hk0 hha hla hc0 3 (by decide) rfl
    change 0 ≤ of at qO
    change of < 65536 at rO
    obtain ⟨XO, rfl⟩ := Int.eq_ofNat_of_zero_le qO
    exact renc_HOV _ hk0 ak ha la hi lo XO mt co cm a1 a2 n c m d bs its w hval hn hnb hha hla hhi hlo (by omega) hck
  · have hk0 : fldC 23 = some [72, 79, 86] := rfl
    obtain ⟨qO, rO, _⟩ := gI_ok _ ak ha la hi lo of mt co cm n m its _ hk0 hha hla hc0 3 (by decide) rfl
    change 0 ≤ of at qO
    change of < 65536 at rO
    obtain ⟨XO, rfl⟩ := Int.eq_ofNat_of_zero_le qO
    exact renc_HOV _ hk0 ak ha la hi lo XO mt co cm a1 a2 n c m d bs its w hval hn hnb hha hla hhi hlo (by omega) hck
  · have hk0 : fldC 24 = some [88] := rfl
    have hz8 := chkP_unused _ _ ha la hi lo _ _ _ cm n m its _ hk0 hc0 8 (by decide) rfl
    have hn0 : n = 0 := by have : ((n : Int) == 0) = true := hz8; simp at this; omega
    have hbs : bs = [] := List.eq_nil_of_length_eq_zero (by omega)
    exact renc_X _ hk0 ak ha la hi lo of mt co cm a1 a2 n c m d bs its w hval hn hnb hha hla hhi hlo hbs hck
  · have hk0 : fldC 25 = some [] := rfl
    have hz8 := chkP_unused _ _ ha la hi lo _ _ _ cm n m its _ hk0 hc0 8 (by decide) rfl
    have hn0 : n = 0 := by have : ((n : Int) == 0) = true := hz8; simp at this; omega
    have hbs : bs = [] := List.eq_nil_of_length_eq_zero (by omega)
    exact renc_n _ hk0 ak ha la hi lo of mt co cm a1 a2 n c m d bs its w hval hn hnb hha hla hhi hlo hbs hck
  · have hk0 : fldC 27 = some [72, 86] := rfl
    exact renc_HV _ hk0 ak ha la hi lo of mt co cm a1 a2 n c m d bs its w hval hn hnb hha hla hhi hlo hck
  · have hk0 : fldC 29 = some [72, 86] := rfl
    exact renc_HV _ hk0 ak ha la hi lo of mt co cm a1 a2 n c m d bs its w hval hn hnb hha hla hhi hlo hck
  · have hk0 : fldC 30 = some [] := rfl
    have hz8 := chkP_unused _ _ ha la hi lo _ _ _ cm n m its _ hk0 hc0 8 (by decide) rfl
    have hn0 : n = 0 := by have : ((n : Int) == 0) = true := hz8; simp at this; omega
    have hbs : bs = [] := List.eq_nil_of_length_eq_zero (by omega)
    exact renc_n _ hk0 ak ha la hi lo of mt co cm a1 a2 n c m d bs its w hval hn hnb hha hla hhi hlo hbs hck
  · have hk0 : fldC 82 = some [72, 86] := rfl
    exact renc_HV _ hk0 ak ha la hi lo of mt co cm a1 a2 n c m d bs its w hval hn hnb hha hla hhi hlo hck
  · have : chkP ki ak ha la hi lo of mt co cm n m its = 12 := by unfold chkP; rw [fldC_none ki hne]
    rw [this] at hc0
    cases hc0
end Go.Proofs.Ythnffdlnhfhabaa
