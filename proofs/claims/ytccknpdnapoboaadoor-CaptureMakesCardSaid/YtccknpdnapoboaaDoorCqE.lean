/- capture: first of the reference. -/
import Derived.Test.YtccknpdnapoboaaDoorCqD
import Derived.Test.YtccknpdnapoboaaDoorCpF
import Derived.Test.YtccknpdnapoboaaDoorCpS
import Derived.BigQuiet
namespace Go.Proofs.YtccknpdnapoboaaDoor
open Go.RowKit

theorem BytesAt.grownE {w w' : World} {v : Value} {bs : List Nat} {i : Nat} (h : BytesAt w v bs) (hg : w.grownBy w' (some i)) (hne : bs.length = 0 ∨ ∀ k, v.ownBlock = some k → k ≠ i) : BytesAt w' v bs := by
  refine ⟨h.1.grown hg ?_, h.2⟩
  rcases hne with e | hne
  · exact .inl e
  rcases h.nil_or with e | ⟨b, e1, _⟩
  · exact .inl (by rw [e]; rfl)
  · exact .inr ⟨b, e1, fun e => hne b e1 (Option.some.inj e).symm⟩
theorem SR.own_lt {w : World} {v : Value} {n size : Nat} {cs : List Value} (h : SR w v n size cs) : n = 0 ∨ ∀ k, v.ownBlock = some k → k < w.heap.size := by
  rcases Nat.eq_zero_or_pos n with h0 | h0
  · exact .inl h0
  · exact .inr fun k hk => h.lt h0 hk
/-- what first hands back -/
def FirstP (w : World) (L T C F K : Nat) (ds : List Nat) (E : Int) (e : Ending) (w' : World) : Prop :=
  Below w.heap.size w w' ∧ (E ≠ 0 → e = .returned (.tuple #[.agg #[.int .i64 0, .int .i64 0, .int .i64 0, .int .i64 0, .slice none 0 0], .int .i64 0, .int .i64 E])) ∧
    (E = 0 → ∃ a' c', e = .returned (.tuple #[.agg #[.int .i64 T, .int .i64 C, .int .i64 F, .int .i64 K, .slice a' L c'], .int .i64 (16 + L : Nat), .int .i64 0]) ∧ BytesO w.heap.size w' (.slice a' L c') ds)
theorem bytes_sub (w : World) (b off n c i m c' : Nat) (bs : List Nat) (h : BytesAt w (.slice (some ⟨b, off, none⟩) n c) bs) (hn : bs.length = n) (him : i + m ≤ n) : BytesAt w (.slice (some ⟨b, off + i, none⟩) m c') ((bs.drop i).take m) := by
  obtain ⟨⟨h1, h2, h3, ao, cap, e, hnil, hcell⟩, hr, hlt⟩ := h
  rw [hn] at h1 h2 hnil hcell e hr
  cases e
  have hl : ((bs.drop i).take m).length = m := by rw [List.length_take, List.length_drop]; omega
  have hbc : bcells ((bs.drop i).take m) = ((bcells bs).drop i).take m := by simp [bcells, List.map_drop, List.map_take]
  refine ⟨⟨by rw [hl]; omega, by rw [hl, bcells_len, hl]; omega, bcells_one _, _, _, by rw [hl], fun h => (by cases h), fun h0 => ?_⟩, by rw [hl]; omega, fun x hx => hlt x (List.mem_of_mem_drop (List.mem_of_mem_take hx))⟩
  rw [hl] at h0
  obtain ⟨b', off', e, hb, hcs⟩ := hcell (by omega)
  cases e
  refine ⟨b, off + i, rfl, hb, fun q u hq => ?_⟩
  rw [hbc, List.getElem?_take] at hq
  split at hq
  · rw [List.getElem?_drop] at hq
    rw [Nat.add_assoc]
    exact hcs _ u hq
  · cases hq
set_option linter.unusedSimpArgs false in
set_option linter.unusedVariables false in
set_option maxRecDepth 100000 in
set_option maxHeartbeats 8000000 in
theorem first_any (a : Option Addr) (n c : Nat) (bs : List Nat) (w : World) (h : BytesAt w (.slice a n c) bs) (hn : bs.length = n) (hc : n ≤ c) (hm : n ≤ 100000) :
    Calls Tryd.prog 37 #[.slice a n c] w (FirstP w (r1L bs) (vnum (bs.take 8)) (bs.getD 8 0) (bs.getD 9 0) (bs.getD 10 0) ((bs.drop 13).take (r1L bs)) (r1E bs 0)) := by
  obtain ⟨i0, hi0, hi1, hi2, hi3⟩ := info_parts Tryd.info_u8
  have hE0 : r1E bs 0 = if bs.length < 13 then 3 else if 260 < r1L bs then 4 else if bs.length < 16 + r1L bs then 3 else
    if vnum ((bs.drop (r1L bs + 13)).take 3) ≠ sumF 0 (bs.take (r1L bs + 13)) then 10 else if cpE (r1R bs) ≠ 0 then 5 else if (r1R bs).t < 0 then 13 else 0 := rfl
  have hR0 : r1R bs = ⟨vnum (bs.take 8), (bs.getD 8 0 : Nat), (bs.getD 9 0 : Nat), (bs.getD 10 0 : Nat), (bs.drop 13).take (r1L bs)⟩ := rfl
  have hn0 : ¬ (r1R bs).t < 0 := by rw [hR0]; simp only; omega
  rw [if_neg hn0] at hE0
  clear hn0
  obtain ⟨E, hE⟩ : ∃ E, r1E bs 0 = E := ⟨_, rfl⟩
  rw [hE, hn] at hE0
  rw [hE]
  clear hE
  have HN := Lib.hid hn
  have HV1 := heap_alloc_new w (.cells #[.int .i64 0, .int .i64 0, .int .i64 0, .int .i64 0, .slice none 0 0] 35)
  have hb0 : Below w.heap.size w (w.alloc (.cells #[.int .i64 0, .int .i64 0, .int .i64 0, .int .i64 0, .slice none 0 0] 35)) := (Below.refl _ _).alloc (Nat.le_refl _) _
  have hsz0 : w.heap.size < (w.alloc (.cells #[.int .i64 0, .int .i64 0, .int .i64 0, .int .i64 0, .slice none 0 0] 35)).heap.size := by simp
  obtain ⟨V, hV⟩ : ∃ V, w.alloc (.cells #[.int .i64 0, .int .i64 0, .int .i64 0, .int .i64 0, .slice none 0 0] 35) = V := ⟨_, rfl⟩
  rw [hV] at HV1 hb0 hsz0
  have HBY := Lib.hid (h.below hb0)
  have hlt := h.2.2
  have HB := Lib.hid hb0
  have HK := Lib.hid HV1
  have g0 := cell_of_row _ _ 0 _ _ _ HV1
  have g1 := cell_of_row _ _ 1 _ _ _ HV1
  have g2 := cell_of_row _ _ 2 _ _ _ HV1
  have g3 := cell_of_row _ _ 3 _ _ _ HV1
  have g4 := cell_of_row _ _ 4 _ _ _ HV1
  simp at g0 g1 g2 g3 g4
  have z0 := frozen_of_row _ _ 0 _ _ HV1
  have z1 := frozen_of_row _ _ 1 _ _ HV1
  have z2 := frozen_of_row _ _ 2 _ _ HV1
  have z3 := frozen_of_row _ _ 3 _ _ HV1
  have z4 := frozen_of_row _ _ 4 _ _ HV1
  clear h hb0 HV1
  by_cases h13 : n < 13
  · rw [if_pos h13] at hE0
    subst hE0
    have t1 : decide (n < 13) = true := by simpa using h13
    have t1' : decide ((n : Int) < (13 : Int)) = true := by simp; omega
    clear hR0 HN hlt HBY
    go_enter Tryd.func37, Tryd.ntmps37
    go_upto_region 1 with fail
    try rw [hV]
    clear hV
    go_wp2_with fail
    generalize hX : World.setCell _ _ _ = X
    obtain ⟨hX5, hgX⟩ := set5 HK.out hX
    clear hX
    have r0 := cell_of_row _ _ 0 _ _ _ hX5
    have r1 := cell_of_row _ _ 1 _ _ _ hX5
    have r2 := cell_of_row _ _ 2 _ _ _ hX5
    have r3 := cell_of_row _ _ 3 _ _ _ hX5
    have r4 := cell_of_row _ _ 4 _ _ _ hX5
    simp at r0 r1 r2 r3 r4
    refine bodyPost_ret (v := .tuple #[.agg #[.int .i64 0, .int .i64 0, .int .i64 0, .int .i64 0, .slice none 0 0], .int .i64 0, .int .i64 3]) (by simp [results, Tryd.results37, go_sem, r0, r1, r2, r3, r4]) rfl ?_
    exact ⟨HB.out.grown hgX (Nat.le_of_lt hsz0) (fun q hq => by simp at hq; omega), fun _ => rfl, fun h => absurd h (by decide)⟩
  rw [if_neg h13] at hE0
  have t1 : decide (n < 13) = false := by simp; omega
  have t1' : decide ((n : Int) < (13 : Int)) = false := by simp; omega
  have hget : ∀ i, i < n → bs.getD i 0 < 256 := fun i hi => by
    rw [List.getD_eq_getElem?_getD, List.getElem?_eq_getElem (by rw [hn]; exact hi)]
    exact hlt _ (List.getElem_mem _)
  have hC := hget 8 (by omega)
  have hF := hget 9 (by omega)
  have hKD := hget 10 (by omega)
  have hT64 : vnum (bs.take 8) < 18446744073709551616 := by
    have := vnum_lt (bs.take 8) (fun x hx => hlt x (List.mem_of_mem_take hx))
    rw [List.length_take, Nat.min_eq_left (by omega)] at this
    exact this
  have hL : r1L bs < 65536 := by
    have := vnum_lt ((bs.drop 11).take 2) (fun x hx => hlt x (List.mem_of_mem_drop (List.mem_of_mem_take hx)))
    rw [List.length_take, List.length_drop, Nat.min_eq_left (by omega)] at this
    exact this
  have hcell : ∀ j, j < n → ∃ b off, a = some ⟨b, off, none⟩ ∧ ∀ W, Below V.heap.size V W → W.cell? ⟨b, off + j, none⟩ = some (.int .u8 (bs.getD j 0 : Nat)) := fun j hj => by
    obtain ⟨⟨_, _, _, ao, cap, e, _, hx⟩, _⟩ := HBY.out
    obtain ⟨b, off, e2, hb, hcs⟩ := hx (by rw [hn]; omega)
    cases e
    refine ⟨b, off, e2, fun W hW => (hW.cell (p := ⟨b, off + j, none⟩) hb).trans (hcs j _ ?_)⟩
    rw [List.getD_eq_getElem?_getD]
    simp [bcells, hn, hj]
  obtain ⟨b, off, rfl, q8⟩ := hcell 8 (by omega)
  obtain ⟨_, _, e9, q9⟩ := hcell 9 (by omega)
  obtain ⟨_, _, e10, q10⟩ := hcell 10 (by omega)
  cases e9
  cases e10
  have hv1 := fun c' => value_any (some ⟨b, off + 11, none⟩) c' 2 _ V (bytes_sub V b off n c 11 2 c' bs HBY.out hn (by omega)) (by rw [List.length_take, List.length_drop]; omega) (by omega)
  change ∀ c', Calls _ _ _ _ (fun e w' => e = .returned (.int .u64 (r1L bs : Nat)) ∧ V = w') at hv1
  obtain ⟨T, hT⟩ : ∃ T, vnum (bs.take 8) = T := ⟨_, rfl⟩
  obtain ⟨C, hCC⟩ : ∃ C, bs.getD 8 0 = C := ⟨_, rfl⟩
  obtain ⟨F, hFF⟩ : ∃ F, bs.getD 9 0 = F := ⟨_, rfl⟩
  obtain ⟨KD, hKK⟩ : ∃ KD, bs.getD 10 0 = KD := ⟨_, rfl⟩
  obtain ⟨L, hLL⟩ : ∃ L, r1L bs = L := ⟨_, rfl⟩
  simp only [hT, hCC, hFF, hKK, hLL] at hE0 hR0 hT64 hC hF hKD hL hv1 q8 q9 q10 ⊢
  have HV1 := Lib.hid hv1
  have HT := Lib.hid hT
  have HQ8 := Lib.hid q8
  have HQ9 := Lib.hid q9
  have HQ10 := Lib.hid q10
  have HR := Lib.hid hR0
  have HE := Lib.hid hE0
  clear hget hcell hT hCC hFF hKK hLL hn hv1 q8 q9 q10 hR0 hE0 hlt
  have cL : IntKind.i64.wrap (L : Int) = (L : Int) := IntWalk.i64_in _ (by omega)
  have cC : IntKind.i64.wrap (C : Int) = (C : Int) := IntWalk.i64_in _ (by omega)
  have cF : IntKind.i64.wrap (F : Int) = (F : Int) := IntWalk.i64_in _ (by omega)
  have cK : IntKind.i64.wrap (KD : Int) = (KD : Int) := IntWalk.i64_in _ (by omega)
  go_enter Tryd.func37, Tryd.ntmps37
  go_upto_region 1 with fail
  try rw [hV]
  clear hV
  go_wp2_with fail
  refine (HV1.out _).mono ?_
  rintro e w' ⟨rfl, rfl⟩
  clear HV1
  by_cases h260 : 260 < L
  · have hE0 := HE.out
    rw [if_pos h260] at hE0
    subst hE0
    clear HE HR
    have t2 : decide (260 < L) = true := by simpa using h260
    have t2' : decide ((260 : Int) < (L : Int)) = true := by simp; omega
    go_wp2_with fail
    generalize hX : World.setCell _ _ _ = X
    obtain ⟨hX5, hgX⟩ := set5 HK.out hX
    clear hX
    have r0 := cell_of_row _ _ 0 _ _ _ hX5
    have r1 := cell_of_row _ _ 1 _ _ _ hX5
    have r2 := cell_of_row _ _ 2 _ _ _ hX5
    have r3 := cell_of_row _ _ 3 _ _ _ hX5
    have r4 := cell_of_row _ _ 4 _ _ _ hX5
    simp at r0 r1 r2 r3 r4
    refine bodyPost_ret (v := .tuple #[.agg #[.int .i64 0, .int .i64 0, .int .i64 0, .int .i64 0, .slice none 0 0], .int .i64 0, .int .i64 4]) (by simp [results, Tryd.results37, go_sem, r0, r1, r2, r3, r4]) rfl ?_
    exact ⟨HB.out.grown hgX (Nat.le_of_lt hsz0) (fun q hq => by simp at hq; omega), fun _ => rfl, fun h => absurd h (by decide)⟩
  have hE0 := HE.out
  rw [if_neg h260] at hE0
  replace HE := Lib.hid hE0
  clear hE0
  have t2 : decide (260 < L) = false := by simpa using h260
  have t2' : decide ((260 : Int) < (L : Int)) = false := by simp; omega
  have a1 : IntKind.i64.wrap ((L : Int) + 16) = (L : Int) + 16 := IntWalk.i64_in _ (by omega)
  have a2 : IntKind.i64.wrap ((L : Int) + 13) = (L : Int) + 13 := IntWalk.i64_in _ (by omega)
  by_cases hlen : n < 16 + L
  · have hE0 := HE.out
    rw [if_pos hlen] at hE0
    subst hE0
    clear HE HR
    have t3 : decide ((n : Int) < (L : Int) + 16) = true := by simp; omega
    go_wp2_with fail
    generalize hX : World.setCell _ _ _ = X
    obtain ⟨hX5, hgX⟩ := set5 HK.out hX
    clear hX
    have r0 := cell_of_row _ _ 0 _ _ _ hX5
    have r1 := cell_of_row _ _ 1 _ _ _ hX5
    have r2 := cell_of_row _ _ 2 _ _ _ hX5
    have r3 := cell_of_row _ _ 3 _ _ _ hX5
    have r4 := cell_of_row _ _ 4 _ _ _ hX5
    simp at r0 r1 r2 r3 r4
    refine bodyPost_ret (v := .tuple #[.agg #[.int .i64 0, .int .i64 0, .int .i64 0, .int .i64 0, .slice none 0 0], .int .i64 0, .int .i64 3]) (by simp [results, Tryd.results37, go_sem, r0, r1, r2, r3, r4]) rfl ?_
    exact ⟨HB.out.grown hgX (Nat.le_of_lt hsz0) (fun q hq => by simp at hq; omega), fun _ => rfl, fun h => absurd h (by decide)⟩
  have hE0 := HE.out
  rw [if_neg hlen] at hE0
  replace HE := Lib.hid hE0
  clear hE0
  have t3 : decide ((n : Int) < (L : Int) + 16) = false := by simp; omega
  obtain ⟨a5, c5, hby5, hc5, hrun5⟩ := bytes_mid V (some ⟨b, off, none⟩) n c (L + 13) (L + 16) bs HBY.out HN.out hc (by omega) (by omega)
  obtain ⟨a6, hby6, hrun6⟩ := bytes_to V (some ⟨b, off, none⟩) n c (L + 13) bs HBY.out HN.out hc (by omega)
  simp only [show L + 16 - (L + 13) = 3 by omega, show ((L + 16 : Nat) : Int) = (L : Int) + 16 by omega, show ((L + 13 : Nat) : Int) = (L : Int) + 13 by omega] at hby5 hrun5 hrun6
  have hl5 : (List.take 3 (List.drop (L + 13) bs)).length = 3 := by rw [List.length_take, List.length_drop, HN.out]; omega
  have HBY5 := Lib.hid hby5
  have HBY6 := Lib.hid hby6
  have HVAL := fun (W : World) (hW : Below V.heap.size V W) => value_any a5 c5 3 _ W (HBY5.out.below hW) hl5 (by omega)
  have HSUM := fun (W : World) (hW : Below V.heap.size V W) => rsum_any (.slice a6 (L + 13) c) _ W (HBY6.out.below hW)
  obtain ⟨V5, hV5⟩ : ∃ x, vnum (List.take 3 (List.drop (L + 13) bs)) = x := ⟨_, rfl⟩
  obtain ⟨S5, hS5⟩ : ∃ x, sumF 0 (List.take (L + 13) bs) = x := ⟨_, rfl⟩
  have hS24 : S5 < 16777216 := by rw [← hS5]; exact sumF_lt _ 0 (by omega)
  have hE0 := HE.out
  simp only [hV5, hS5] at hE0 HVAL HSUM
  replace HE := Lib.hid hE0
  have hvq := fun q => ((HVAL (V.drewN q) (below_drewN (Below.refl _ _) q))).mono (R' := fun e w' => e = .returned (.int .u64 (V5 : Nat)) ∧ w' = V.drewN q) (fun e w' h => ⟨h.1, h.2.symm⟩)
  have hsq := fun q => ((HSUM (V.drewN q) (below_drewN (Below.refl _ _) q))).mono (R' := fun e w' => e = .returned (.int .u32 (S5 : Nat)) ∧ w' = V.drewN q) (fun e w' h => ⟨h.1, h.2.symm⟩)
  have HVQ := Lib.hid hvq
  have HSQ := Lib.hid hsq
  have cS : IntKind.u64.wrap (S5 : Int) = (S5 : Int) := IntWalk.u64_in _ (by omega)
  clear hvq hsq hE0 HVAL HSUM hby5 hby6 hc5 hl5 hV5 hS5 HBY5 HBY6
  go_upto_region 8 with fail
  go_quiet (first | (go_at_call 58; exact Calls.quiet_of_same (HVQ.out _)) | (go_at_call 55; exact Calls.quiet_of_same (HSQ.out _)))
  generalize hW : World.drewN V _ = W
  have hBW : Below V.heap.size V W := by rw [← hW]; exact below_drewN (Below.refl _ _) _
  have hszW : w.heap.size < W.heap.size := Nat.lt_of_lt_of_le hsz0 hBW.size
  have hkw := (hBW.block _ hsz0).trans HK.out
  have HBYW := Lib.hid (HBY.out.below hBW)
  have HBW := Lib.hid (HB.out.trans (hBW.mono HB.out.size))
  have q8 := HQ8.out W hBW
  have q9 := HQ9.out W hBW
  have q10 := HQ10.out W hBW
  clear hW hBW hrun5 hrun6 HVQ HSQ HQ8 HQ9 HQ10 g0 g1 g2 g3 g4 z0 z1 z2 z3 z4
  have g0 := cell_of_row _ _ 0 _ _ _ hkw
  have g1 := cell_of_row _ _ 1 _ _ _ hkw
  have g2 := cell_of_row _ _ 2 _ _ _ hkw
  have g3 := cell_of_row _ _ 3 _ _ _ hkw
  have g4 := cell_of_row _ _ 4 _ _ _ hkw
  simp at g0 g1 g2 g3 g4
  have z0 := frozen_of_row _ _ 0 _ _ hkw
  have z1 := frozen_of_row _ _ 1 _ _ hkw
  have z2 := frozen_of_row _ _ 2 _ _ hkw
  have z3 := frozen_of_row _ _ 3 _ _ hkw
  have z4 := frozen_of_row _ _ 4 _ _ hkw
  have HKW := Lib.hid hkw
  clear hkw HK HB HBY
  by_cases hsum : V5 = S5
  rotate_left
  · have hE0 := HE.out
    rw [if_pos hsum] at hE0
    subst hE0
    clear HE HR
    have t4 : ((V5 : Int) != (S5 : Int)) = true := by simp; omega
    go_wp2_with fail
    generalize hX : World.setCell _ _ _ = X
    obtain ⟨hX5, hgX⟩ := set5 HKW.out hX
    clear hX
    have r0 := cell_of_row _ _ 0 _ _ _ hX5
    have r1 := cell_of_row _ _ 1 _ _ _ hX5
    have r2 := cell_of_row _ _ 2 _ _ _ hX5
    have r3 := cell_of_row _ _ 3 _ _ _ hX5
    have r4 := cell_of_row _ _ 4 _ _ _ hX5
    simp at r0 r1 r2 r3 r4
    refine bodyPost_ret (v := .tuple #[.agg #[.int .i64 0, .int .i64 0, .int .i64 0, .int .i64 0, .slice none 0 0], .int .i64 0, .int .i64 10]) (by simp [results, Tryd.results37, go_sem, r0, r1, r2, r3, r4]) rfl ?_
    exact ⟨HBW.out.grown hgX (Nat.le_of_lt hszW) (fun q hq => by simp at hq; omega), fun _ => rfl, fun h => absurd h (by decide)⟩
  subst hsum
  have hE0 := HE.out
  simp only [ne_eq, not_true_eq_false, if_false] at hE0
  replace HE := Lib.hid hE0
  clear hE0
  have t4 : ((V5 : Int) != (V5 : Int)) = false := by simp
  have hv8 := value_any (some ⟨b, off, none⟩) c 8 _ W (bytes_head W _ n c 8 bs HBYW.out HN.out (by omega) (by omega)) (by rw [List.length_take, HN.out]; omega) (by omega)
  rw [HT.out] at hv8
  have HV8 := Lib.hid hv8
  clear hv8
  go_wp2_with fail
  refine HV8.out.mono ?_
  rintro e w' ⟨rfl, rfl⟩
  clear HV8
  obtain ⟨a7, c7, hby7, hc7, hrun7⟩ := bytes_mid W (some ⟨b, off, none⟩) n c 13 (L + 13) bs HBYW.out HN.out hc (by omega) (by omega)
  simp only [show L + 13 - 13 = L by omega, show ((L + 13 : Nat) : Int) = (L : Int) + 13 by omega, show ((13 : Nat) : Int) = 13 by rfl] at hby7 hrun7
  have hdl : (List.take L (List.drop 13 bs)).length = L := by rw [List.length_take, List.length_drop, HN.out]; omega
  obtain ⟨ds, hds⟩ : ∃ ds, List.take L (List.drop 13 bs) = ds := ⟨_, rfl⟩
  have hR0 := HR.out
  rw [hds] at hby7 hdl hR0
  replace HR := Lib.hid hR0
  have hby7' := hby7.1
  rw [hdl] at hby7'
  have HSR7 := Lib.hid hby7'
  have HRE7 := Lib.hid hby7.2
  have HDL := Lib.hid hdl
  have HDS := Lib.hid hds
  clear hR0 hby7 hby7' hdl hds hc7
  have hTM : ∃ TM : Nat, (if (2199023255552 : Int) < (T : Int) then (2199023255552 : Int) else (T : Int)) = (TM : Int) ∧ (if 2199023255552 < T then (2199023255552 : Int) else (T : Int)) = (TM : Int) ∧ TM ≤ 2199023255552 ∧ (T ≤ 1099511627776 → TM = T) ∧ (1099511627776 < T → 1099511627776 < TM) := by
    by_cases h : 2199023255552 < T
    · exact ⟨2199023255552, by rw [if_pos (by omega)]; rfl, by rw [if_pos h]; rfl, Nat.le_refl _, fun _ => by omega, fun _ => by decide⟩
    · exact ⟨T, by rw [if_neg (by omega)], by rw [if_neg h], by omega, fun _ => rfl, fun h => h⟩
  obtain ⟨TM, hT1, hT2, hT3, hT4, hT5⟩ := hTM
  have cTM : IntKind.i64.wrap (TM : Int) = (TM : Int) := IntWalk.i64_in _ (by omega)
  have HT5 := Lib.hid hT5
  have HT4 := Lib.hid hT4
  have H13 : ((8 : Int) < (n : Int)) ∧ ((9 : Int) < (n : Int)) ∧ ((10 : Int) < (n : Int)) := by omega
  obtain ⟨n8, n9, n10⟩ := H13
  have hbW : b < W.heap.size := World.block_lt_of_cell? W _ q8
  clear hT4 hT5
  go_upto_region 11 with fail
  go_cut [7] (fun p wx => ∃ i xa xc, p = .pointer (some ⟨i, 0, none⟩) ∧ W.heap.size ≤ i ∧ wx.heap[i]? = some (.cells #[.int .i64 TM, .int .i64 C, .int .i64 F, .int .i64 KD, .slice xa L xc] 35 (0, 0)) ∧ BytesAt wx (.slice xa L xc) ds ∧ (∀ k, (Value.slice xa L xc).ownBlock = some k → W.heap.size ≤ k) ∧ Below W.heap.size W wx)
  case first =>
    refine wp_region_held_drew (S := (fun W' : World => Below W.heap.size W W' ∧ W.heap.size ≤ W'.heap.size ∧ Cells W' [(b, off + 8, .int .u8 (C : Int)), (b, off + 9, .int .u8 (F : Int)), (b, off + 10, .int .u8 (KD : Int))])) (by kernel_rfl) (⟨(Below.refl _ _).drew, Nat.le_refl _, Cells.drew ⟨q8, q9, q10, trivial⟩⟩) (fun hHeld => ?_)
    generalize World.drew _ = wd at hHeld ⊢
    have hz := hHeld.2.1
    refine wpAnyH_take (i := 0) (oi := _) (v := ?_) (by rw [List.getElem?_toArray]; rfl) (by kernel_rfl) (by kernel_rfl) (by kernel_rfl) (by exact fun _ _ _ h => h) (Or.inl ⟨by rfl, ?_⟩) (by assumption) ?_
    rotate_left
    · intro w hSw
      try simp only [Cells, blk, List.cons_append, List.nil_append, and_true, Nat.reduceAdd, Nat.add_zero, Nat.zero_add] at hSw
      go_simp
      try with_reducible rfl
    simp only [Act.put, List.setIfInBounds_toArray, List.set_cons_zero, List.set_cons_succ]
    refine wpAnyH_take (i := 1) (oi := _) (v := ?_) (by rw [List.getElem?_toArray]; rfl) (by kernel_rfl) (by kernel_rfl) (by kernel_rfl) (by exact fun _ _ _ h => h) (Or.inl ⟨by rfl, ?_⟩) (by assumption) ?_
    rotate_left
    · intro w hSw
      try simp only [Cells, blk, List.cons_append, List.nil_append, and_true, Nat.reduceAdd, Nat.add_zero, Nat.zero_add] at hSw
      go_simp
      try with_reducible rfl
    simp only [Act.put, List.setIfInBounds_toArray, List.set_cons_zero, List.set_cons_succ]
    refine wpAnyH_take (i := 2) (oi := _) (v := ?_) (by rw [List.getElem?_toArray]; rfl) (by kernel_rfl) (by kernel_rfl) (by kernel_rfl) (by exact fun _ _ _ h => h) (Or.inl ⟨by rfl, ?_⟩) (by assumption) ?_
    rotate_left
    · intro w hSw
      try simp only [Cells, blk, List.cons_append, List.nil_append, and_true, Nat.reduceAdd, Nat.add_zero, Nat.zero_add] at hSw
      go_simp
      try with_reducible rfl
    simp only [Act.put, List.setIfInBounds_toArray, List.set_cons_zero, List.set_cons_succ]
    refine wpAnyH_take (i := 3) (oi := _) (v := ?_) (by rw [List.getElem?_toArray]; rfl) (by kernel_rfl) (by kernel_rfl) (by kernel_rfl) (by exact fun _ _ _ h => h) (Or.inl ⟨by rfl, ?_⟩) (by assumption) ?_
    rotate_left
    · intro w hSw
      try simp only [Cells, blk, List.cons_append, List.nil_append, and_true, Nat.reduceAdd, Nat.add_zero, Nat.zero_add] at hSw
      go_simp
      try with_reducible rfl
    simp only [Act.put, List.setIfInBounds_toArray, List.set_cons_zero, List.set_cons_succ]
    refine wpAnyH_take (i := 4) (oi := _) (v := ?_) (by rw [List.getElem?_toArray]; rfl) (by kernel_rfl) (by kernel_rfl) (by kernel_rfl) (by exact fun _ _ _ h => h) (Or.inl ⟨by rfl, ?_⟩) (by assumption) ?_
    rotate_left
    · intro w hSw
      try simp only [Cells, blk, List.cons_append, List.nil_append, and_true, Nat.reduceAdd, Nat.add_zero, Nat.zero_add] at hSw
      go_simp
      try with_reducible rfl
    simp only [Act.put, List.setIfInBounds_toArray, List.set_cons_zero, List.set_cons_succ]
    refine wpAnyH_take (i := 5) (oi := _) (v := ?_) (by rw [List.getElem?_toArray]; rfl) (by kernel_rfl) (by kernel_rfl) (by kernel_rfl) (by exact fun _ _ _ h => h) (Or.inl ⟨by rfl, ?_⟩) (by assumption) ?_
    rotate_left
    · intro w hSw
      try simp only [Cells, blk, List.cons_append, List.nil_append, and_true, Nat.reduceAdd, Nat.add_zero, Nat.zero_add] at hSw
      go_simp
      try with_reducible rfl
    simp only [Act.put, List.setIfInBounds_toArray, List.set_cons_zero, List.set_cons_succ]
    refine wpAnyH_take (i := 6) (oi := _) (v := ?_) (by rw [List.getElem?_toArray]; rfl) (by kernel_rfl) (by kernel_rfl) (by kernel_rfl) (by exact fun _ _ _ h => h) (Or.inl ⟨by rfl, ?_⟩) (by assumption) ?_
    rotate_left
    · intro w hSw
      try simp only [Cells, blk, List.cons_append, List.nil_append, and_true, Nat.reduceAdd, Nat.add_zero, Nat.zero_add] at hSw
      go_simp
      try with_reducible rfl
    simp only [Act.put, List.setIfInBounds_toArray, List.set_cons_zero, List.set_cons_succ]
    refine wpAnyH_take (i := 7) (oi := _) (v := ?_) (by rw [List.getElem?_toArray]; rfl) (by kernel_rfl) (by kernel_rfl) (by kernel_rfl) (by exact fun _ _ _ h => h) (Or.inl ⟨by rfl, ?_⟩) (by assumption) ?_
    rotate_left
    · intro w hSw
      try simp only [Cells, blk, List.cons_append, List.nil_append, and_true, Nat.reduceAdd, Nat.add_zero, Nat.zero_add] at hSw
      go_simp
      try with_reducible rfl
    simp only [Act.put, List.setIfInBounds_toArray, List.set_cons_zero, List.set_cons_succ]
    refine wpAnyH_take (i := 8) (oi := _) (v := ?_) (by rw [List.getElem?_toArray]; rfl) (by kernel_rfl) (by kernel_rfl) (by kernel_rfl) (by exact fun _ _ _ h => h) (Or.inl ⟨by rfl, ?_⟩) (by assumption) ?_
    rotate_left
    · intro w hSw
      try simp only [Cells, blk, List.cons_append, List.nil_append, and_true, Nat.reduceAdd, Nat.add_zero, Nat.zero_add] at hSw
      go_simp
      try with_reducible rfl
    simp only [Act.put, List.setIfInBounds_toArray, List.set_cons_zero, List.set_cons_succ]
    refine wpAnyH_take (i := 9) (oi := _) (v := ?_) (by rw [List.getElem?_toArray]; rfl) (by kernel_rfl) (by kernel_rfl) (by kernel_rfl) (by exact fun _ _ _ h => h) (Or.inl ⟨by rfl, ?_⟩) (by assumption) ?_
    rotate_left
    · intro w hSw
      try simp only [Cells, blk, List.cons_append, List.nil_append, and_true, Nat.reduceAdd, Nat.add_zero, Nat.zero_add] at hSw
      go_simp
      try with_reducible rfl
    simp only [Act.put, List.setIfInBounds_toArray, List.set_cons_zero, List.set_cons_succ]
    refine wpAnyH_take (i := 10) (oi := _) (v := ?_) (by rw [List.getElem?_toArray]; rfl) (by kernel_rfl) (by kernel_rfl) (by kernel_rfl) (by exact fun _ _ _ h => h) (Or.inl ⟨by rfl, ?_⟩) (by assumption) ?_
    rotate_left
    · intro w hSw
      try simp only [Cells, blk, List.cons_append, List.nil_append, and_true, Nat.reduceAdd, Nat.add_zero, Nat.zero_add] at hSw
      go_simp
      try with_reducible rfl
    simp only [Act.put, List.setIfInBounds_toArray, List.set_cons_zero, List.set_cons_succ]
    refine wpAnyH_take (i := 11) (oi := _) (v := ?_) (by rw [List.getElem?_toArray]; rfl) (by kernel_rfl) (by kernel_rfl) (by kernel_rfl) (by exact fun _ _ _ h => h) (Or.inl ⟨by rfl, ?_⟩) (by assumption) ?_
    rotate_left
    · intro w hSw
      try simp only [Cells, blk, List.cons_append, List.nil_append, and_true, Nat.reduceAdd, Nat.add_zero, Nat.zero_add] at hSw
      go_simp
      try with_reducible rfl
    simp only [Act.put, List.setIfInBounds_toArray, List.set_cons_zero, List.set_cons_succ]
    refine wpAnyH_take (i := 12) (oi := _) (v := ?_) (by rw [List.getElem?_toArray]; rfl) (by kernel_rfl) (by kernel_rfl) (by kernel_rfl) (by exact fun _ _ _ h => h) (Or.inl ⟨by rfl, ?_⟩) (by assumption) ?_
    rotate_left
    · intro w hSw
      try simp only [Cells, blk, List.cons_append, List.nil_append, and_true, Nat.reduceAdd, Nat.add_zero, Nat.zero_add] at hSw
      go_simp
      try with_reducible rfl
    simp only [Act.put, List.setIfInBounds_toArray, List.set_cons_zero, List.set_cons_succ]
    refine wpAnyH_take (i := 13) (oi := _) (v := ?_) (by rw [List.getElem?_toArray]; rfl) (by kernel_rfl) (by kernel_rfl) (by kernel_rfl) (by exact fun _ _ _ h => h) (Or.inl ⟨by rfl, ?_⟩) (by assumption) ?_
    rotate_left
    · intro w hSw
      try simp only [Cells, blk, List.cons_append, List.nil_append, and_true, Nat.reduceAdd, Nat.add_zero, Nat.zero_add] at hSw
      go_simp
      try with_reducible rfl
    simp only [Act.put, List.setIfInBounds_toArray, List.set_cons_zero, List.set_cons_succ]
    refine wpAnyH_take (i := 14) (oi := _) (v := ?_) (by rw [List.getElem?_toArray]; rfl) (by kernel_rfl) (by kernel_rfl) (by kernel_rfl) (by exact fun _ _ _ h => h) (Or.inl ⟨by rfl, ?_⟩) (by assumption) ?_
    rotate_left
    · intro w hSw
      try simp only [Cells, blk, List.cons_append, List.nil_append, and_true, Nat.reduceAdd, Nat.add_zero, Nat.zero_add] at hSw
      go_simp
      try with_reducible rfl
    simp only [Act.put, List.setIfInBounds_toArray, List.set_cons_zero, List.set_cons_succ]
    refine wpAnyH_take (i := 16) (oi := _) (v := ?_) (by rw [List.getElem?_toArray]; rfl) (by kernel_rfl) (by kernel_rfl) (by kernel_rfl) (by exact fun _ _ _ h => h) (Or.inl ⟨by rfl, ?_⟩) (by assumption) ?_
    rotate_left
    · intro w hSw
      try simp only [Cells, blk, List.cons_append, List.nil_append, and_true, Nat.reduceAdd, Nat.add_zero, Nat.zero_add] at hSw
      go_simp
      try with_reducible rfl
    simp only [Act.put, List.setIfInBounds_toArray, List.set_cons_zero, List.set_cons_succ]
    refine wpAnyH_take (i := 17) (oi := _) (v := ?_) (by rw [List.getElem?_toArray]; rfl) (by kernel_rfl) (by kernel_rfl) (by kernel_rfl) (by exact fun _ _ _ h => h) (Or.inl ⟨by rfl, ?_⟩) (by assumption) ?_
    rotate_left
    · intro w hSw
      try simp only [Cells, blk, List.cons_append, List.nil_append, and_true, Nat.reduceAdd, Nat.add_zero, Nat.zero_add] at hSw
      go_simp
      try with_reducible rfl
    simp only [Act.put, List.setIfInBounds_toArray, List.set_cons_zero, List.set_cons_succ]
    refine wpAnyH_take (i := 18) (oi := _) (v := ?_) (by rw [List.getElem?_toArray]; rfl) (by kernel_rfl) (by kernel_rfl) (by kernel_rfl) (by exact fun _ _ _ h => h) (Or.inl ⟨by rfl, ?_⟩) (by assumption) ?_
    rotate_left
    · intro w hSw
      try simp only [Cells, blk, List.cons_append, List.nil_append, and_true, Nat.reduceAdd, Nat.add_zero, Nat.zero_add] at hSw
      go_simp
      try with_reducible rfl
    simp only [Act.put, List.setIfInBounds_toArray, List.set_cons_zero, List.set_cons_succ]
    refine wpAnyH_take (i := 19) (oi := _) (v := ?_) (by rw [List.getElem?_toArray]; rfl) (by kernel_rfl) (by kernel_rfl) (by kernel_rfl) (by exact fun _ _ _ h => h) (Or.inl ⟨by rfl, ?_⟩) (by assumption) ?_
    rotate_left
    · intro w hSw
      try simp only [Cells, blk, List.cons_append, List.nil_append, and_true, Nat.reduceAdd, Nat.add_zero, Nat.zero_add] at hSw
      go_simp
      try with_reducible rfl
    simp only [Act.put, List.setIfInBounds_toArray, List.set_cons_zero, List.set_cons_succ]
    refine wpAnyH_ready (rs := [15, 22]) (by kernel_rfl) (by simp) (AllReadyH.cons (o := _) (by rw [List.getElem?_toArray]; rfl) (fun K hK => ?_) (AllReadyH.cons (o := _) (by rw [List.getElem?_toArray]; rfl) (fun K hK => ?_) AllReadyH.nil))
    · go_simp
      generalize hX : World.alloc _ (.cells #[] 5) = w15
      obtain ⟨h15, hB15, h15z⟩ := alloc_named hX
      clear hX h15
      try have hGI := Nat.ne_of_gt h22s
      have hsr := HSR7.out.below (hHeld.1.trans (hB15.mono (by have := hHeld.2.1; omega)))
      refine hK.out _ _ (⟨hHeld.1.trans (hB15.mono (by have := hHeld.2.1; omega)), Nat.le_trans hHeld.2.1 hB15.size, hHeld.2.2.keep hB15⟩) (fun hHeld2 => ?_)
      replace hHeld := hHeld2
      clear hK K hHeld2
      try simp only [Act.put, List.setIfInBounds_toArray, List.set_cons_zero, List.set_cons_succ]
      have h15s := Nat.le_of_eq h15z.symm
      clear h15z
      have hG1 := hz
      have hz := hHeld.2.1
      try replace h22 := (hB15.block _ (by have := h22s; omega)).trans h22
      try replace h22s := Nat.le_trans h22s hB15.size
      clear hB15
      refine wpAnyH_ready (rs := [20, 22]) (by kernel_rfl) (by simp) (AllReadyH.cons (o := _) (by rw [List.getElem?_toArray]; rfl) (fun K hK => ?_) (AllReadyH.cons (o := _) (by rw [List.getElem?_toArray]; rfl) (fun K hK => ?_) AllReadyH.nil))
      · refine step_append_empty (by rfl) _ _ 25 (by rfl) 5 i0 _ 1 1 Tryd.underlying25 hi0 hi1 hi2 hi3 rfl (by decide) _ (by rfl) (.slice a7 L c7) L (bcells ds) (by rfl) hsr (by omega) ?_
        intro v20 w20 hr20 hB20 ho20 hn20
        obtain ⟨xa, xc, rfl⟩ := hr20.val
        have hbo : BytesAt w20 (.slice xa L xc) ds := ⟨by rw [HDL.out]; exact hr20, HRE7.out⟩
        have hbl := hr20.own_lt
        have hol : ∀ k, (Value.slice xa L xc).ownBlock = some k → W.heap.size ≤ k := fun k hk => ho20.elim (fun h => by rw [h] at hk; cases hk; exact hG1) (fun h => by rw [h] at hk; cases hk; exact hHeld.2.1)
        refine hK.out _ _ (⟨hHeld.1.trans (hB20.mono (by have := hHeld.2.1; omega)), Nat.le_trans hHeld.2.1 hB20.size, hHeld.2.2.keep hB20⟩) (fun hHeld2 => ?_)
        replace hHeld := hHeld2
        clear hK K hHeld2
        try simp only [Act.put, List.setIfInBounds_toArray, List.set_cons_zero, List.set_cons_succ]
        try have hne : L = 0 ∨ ∀ k, (Value.slice xa L xc).ownBlock = some k → k ≠ _ := .inr fun k hk e => ho20.elim (fun h => absurd ((Option.some.inj (hk.symm.trans h)).symm.trans e) hGI) (fun h => absurd ((Option.some.inj (hk.symm.trans h)).symm.trans e) (Nat.ne_of_gt h22s))
        try replace h22 := (hB20.block _ (by have := h22s; omega)).trans h22
        try replace h22s := Nat.le_trans h22s hB20.size
        have hz := hHeld.2.1
        clear hB20 hsr hr20 ho20 hn20
        try have f0 := cell_of_row _ _ 0 _ _ _ h22
        try have f1 := cell_of_row _ _ 1 _ _ _ h22
        try have f2 := cell_of_row _ _ 2 _ _ _ h22
        try have f3 := cell_of_row _ _ 3 _ _ _ h22
        try have f4 := cell_of_row _ _ 4 _ _ _ h22
        try have y0 := frozen_of_row _ _ 0 _ _ h22
        try have y1 := frozen_of_row _ _ 1 _ _ h22
        try have y2 := frozen_of_row _ _ 2 _ _ h22
        try have y3 := frozen_of_row _ _ 3 _ _ h22
        try have y4 := frozen_of_row _ _ 4 _ _ h22
        try simp at f0 f1 f2 f3 f4
        refine wpAnyH_take (i := 21) (oi := _) (v := ?_) (by rw [List.getElem?_toArray]; rfl) (by kernel_rfl) (by kernel_rfl) (by kernel_rfl) (by exact fun _ _ _ h => h) (Or.inl ⟨by rfl, ?_⟩) (by assumption) ?_
        rotate_left
        · intro w hSw
          try simp only [Cells, blk, List.cons_append, List.nil_append, and_true, Nat.reduceAdd, Nat.add_zero, Nat.zero_add] at hSw
          go_simp
          try with_reducible rfl
        simp only [Act.put, List.setIfInBounds_toArray, List.set_cons_zero, List.set_cons_succ]
        refine wpAnyH_ready (rs := [22]) (by kernel_rfl) (by simp) (AllReadyH.cons (o := _) (by rw [List.getElem?_toArray]; rfl) (fun K hK => ?_) AllReadyH.nil)
        go_simp
        generalize hX : World.alloc _ (.cells _ 35) = w22
        obtain ⟨h22, hB22, h22z⟩ := alloc_named hX
        clear hX
        try have hne : L = 0 ∨ ∀ k, (Value.slice xa L xc).ownBlock = some k → k ≠ _ := hbl.imp id (fun h k hk e => absurd e (Nat.ne_of_lt (h k hk)))
        try have hGI := Nat.ne_of_lt h15s
        refine hK.out _ _ (⟨hHeld.1.trans (hB22.mono (by have := hHeld.2.1; omega)), Nat.le_trans hHeld.2.1 hB22.size, hHeld.2.2.keep hB22⟩) (fun hHeld2 => ?_)
        replace hHeld := hHeld2
        clear hK K hHeld2
        try simp only [Act.put, List.setIfInBounds_toArray, List.set_cons_zero, List.set_cons_succ]
        have h22s := Nat.le_of_eq h22z.symm
        clear h22z
        have hi22 := hz
        have hz := hHeld.2.1
        try replace h15s := Nat.le_trans h15s hB22.size
        try replace hsr := hsr.below hB22
        try replace hbo := hbo.below hB22
        clear hB22
        try have f0 := cell_of_row _ _ 0 _ _ _ h22
        try have f1 := cell_of_row _ _ 1 _ _ _ h22
        try have f2 := cell_of_row _ _ 2 _ _ _ h22
        try have f3 := cell_of_row _ _ 3 _ _ _ h22
        try have f4 := cell_of_row _ _ 4 _ _ _ h22
        try have y0 := frozen_of_row _ _ 0 _ _ h22
        try have y1 := frozen_of_row _ _ 1 _ _ h22
        try have y2 := frozen_of_row _ _ 2 _ _ h22
        try have y3 := frozen_of_row _ _ 3 _ _ h22
        try have y4 := frozen_of_row _ _ 4 _ _ h22
        try simp at f0 f1 f2 f3 f4
        refine wpAnyH_ready (rs := [23]) (by kernel_rfl) (by simp) (AllReadyH.cons (o := _) (by rw [List.getElem?_toArray]; rfl) (fun K hK => ?_) AllReadyH.nil)
        go_simp
        generalize hX : World.setCell _ _ _ = w23
        obtain ⟨h23, hg23⟩ := set5 h22 hX
        clear hX
        have hbo23 := hbo.grownE hg23 (by rw [HDL.out]; exact hne)
        refine hK.out _ _ (⟨hHeld.1.grown hg23 (by have := hHeld.2.1; omega) (fun q hq => by have := hi22; simp at hq; omega), Nat.le_trans hHeld.2.1 hg23.size, hHeld.2.2.grown hg23 (fun x hx => by simp only [List.mem_cons, List.not_mem_nil, or_false] at hx; rcases hx with rfl | rfl | rfl <;> exact Nat.ne_of_lt (Nat.lt_of_lt_of_le hbW hi22))⟩) (fun hHeld2 => ?_)
        replace hHeld := hHeld2
        clear hK K hHeld2
        try simp only [Act.put, List.setIfInBounds_toArray, List.set_cons_zero, List.set_cons_succ]
        have hz := hHeld.2.1
        refine wpAnyH_done (by kernel_rfl) ?_ _
        go_wp2_with fail
        go_meet
        exact ⟨_, _, _, rfl, hi22, h23, hbo23, hol, hHeld.1⟩
      · go_simp
        generalize hX : World.alloc _ (.cells _ 35) = w22
        obtain ⟨h22, hB22, h22z⟩ := alloc_named hX
        clear hX
        try have hne : L = 0 ∨ ∀ k, (Value.slice xa L xc).ownBlock = some k → k ≠ _ := hbl.imp id (fun h k hk e => absurd e (Nat.ne_of_lt (h k hk)))
        try have hGI := Nat.ne_of_lt h15s
        refine hK.out _ _ (⟨hHeld.1.trans (hB22.mono (by have := hHeld.2.1; omega)), Nat.le_trans hHeld.2.1 hB22.size, hHeld.2.2.keep hB22⟩) (fun hHeld2 => ?_)
        replace hHeld := hHeld2
        clear hK K hHeld2
        try simp only [Act.put, List.setIfInBounds_toArray, List.set_cons_zero, List.set_cons_succ]
        have h22s := Nat.le_of_eq h22z.symm
        clear h22z
        have hi22 := hz
        have hz := hHeld.2.1
        try replace h15s := Nat.le_trans h15s hB22.size
        try replace hsr := hsr.below hB22
        try replace hbo := hbo.below hB22
        clear hB22
        try have f0 := cell_of_row _ _ 0 _ _ _ h22
        try have f1 := cell_of_row _ _ 1 _ _ _ h22
        try have f2 := cell_of_row _ _ 2 _ _ _ h22
        try have f3 := cell_of_row _ _ 3 _ _ _ h22
        try have f4 := cell_of_row _ _ 4 _ _ _ h22
        try have y0 := frozen_of_row _ _ 0 _ _ h22
        try have y1 := frozen_of_row _ _ 1 _ _ h22
        try have y2 := frozen_of_row _ _ 2 _ _ h22
        try have y3 := frozen_of_row _ _ 3 _ _ h22
        try have y4 := frozen_of_row _ _ 4 _ _ h22
        try simp at f0 f1 f2 f3 f4
        refine wpAnyH_ready (rs := [20]) (by kernel_rfl) (by simp) (AllReadyH.cons (o := _) (by rw [List.getElem?_toArray]; rfl) (fun K hK => ?_) AllReadyH.nil)
        refine step_append_empty (by rfl) _ _ 25 (by rfl) 5 i0 _ 1 1 Tryd.underlying25 hi0 hi1 hi2 hi3 rfl (by decide) _ (by rfl) (.slice a7 L c7) L (bcells ds) (by rfl) hsr (by omega) ?_
        intro v20 w20 hr20 hB20 ho20 hn20
        obtain ⟨xa, xc, rfl⟩ := hr20.val
        have hbo : BytesAt w20 (.slice xa L xc) ds := ⟨by rw [HDL.out]; exact hr20, HRE7.out⟩
        have hbl := hr20.own_lt
        have hol : ∀ k, (Value.slice xa L xc).ownBlock = some k → W.heap.size ≤ k := fun k hk => ho20.elim (fun h => by rw [h] at hk; cases hk; exact hG1) (fun h => by rw [h] at hk; cases hk; exact hHeld.2.1)
        refine hK.out _ _ (⟨hHeld.1.trans (hB20.mono (by have := hHeld.2.1; omega)), Nat.le_trans hHeld.2.1 hB20.size, hHeld.2.2.keep hB20⟩) (fun hHeld2 => ?_)
        replace hHeld := hHeld2
        clear hK K hHeld2
        try simp only [Act.put, List.setIfInBounds_toArray, List.set_cons_zero, List.set_cons_succ]
        try have hne : L = 0 ∨ ∀ k, (Value.slice xa L xc).ownBlock = some k → k ≠ _ := .inr fun k hk e => ho20.elim (fun h => absurd ((Option.some.inj (hk.symm.trans h)).symm.trans e) hGI) (fun h => absurd ((Option.some.inj (hk.symm.trans h)).symm.trans e) (Nat.ne_of_gt h22s))
        try replace h22 := (hB20.block _ (by have := h22s; omega)).trans h22
        try replace h22s := Nat.le_trans h22s hB20.size
        have hz := hHeld.2.1
        clear hB20 hsr hr20 ho20 hn20
        try have f0 := cell_of_row _ _ 0 _ _ _ h22
        try have f1 := cell_of_row _ _ 1 _ _ _ h22
        try have f2 := cell_of_row _ _ 2 _ _ _ h22
        try have f3 := cell_of_row _ _ 3 _ _ _ h22
        try have f4 := cell_of_row _ _ 4 _ _ _ h22
        try have y0 := frozen_of_row _ _ 0 _ _ h22
        try have y1 := frozen_of_row _ _ 1 _ _ h22
        try have y2 := frozen_of_row _ _ 2 _ _ h22
        try have y3 := frozen_of_row _ _ 3 _ _ h22
        try have y4 := frozen_of_row _ _ 4 _ _ h22
        try simp at f0 f1 f2 f3 f4
        refine wpAnyH_take (i := 21) (oi := _) (v := ?_) (by rw [List.getElem?_toArray]; rfl) (by kernel_rfl) (by kernel_rfl) (by kernel_rfl) (by exact fun _ _ _ h => h) (Or.inl ⟨by rfl, ?_⟩) (by assumption) ?_
        rotate_left
        · intro w hSw
          try simp only [Cells, blk, List.cons_append, List.nil_append, and_true, Nat.reduceAdd, Nat.add_zero, Nat.zero_add] at hSw
          go_simp
          try with_reducible rfl
        simp only [Act.put, List.setIfInBounds_toArray, List.set_cons_zero, List.set_cons_succ]
        refine wpAnyH_ready (rs := [23]) (by kernel_rfl) (by simp) (AllReadyH.cons (o := _) (by rw [List.getElem?_toArray]; rfl) (fun K hK => ?_) AllReadyH.nil)
        go_simp
        generalize hX : World.setCell _ _ _ = w23
        obtain ⟨h23, hg23⟩ := set5 h22 hX
        clear hX
        have hbo23 := hbo.grownE hg23 (by rw [HDL.out]; exact hne)
        refine hK.out _ _ (⟨hHeld.1.grown hg23 (by have := hHeld.2.1; omega) (fun q hq => by have := hi22; simp at hq; omega), Nat.le_trans hHeld.2.1 hg23.size, hHeld.2.2.grown hg23 (fun x hx => by simp only [List.mem_cons, List.not_mem_nil, or_false] at hx; rcases hx with rfl | rfl | rfl <;> exact Nat.ne_of_lt (Nat.lt_of_lt_of_le hbW hi22))⟩) (fun hHeld2 => ?_)
        replace hHeld := hHeld2
        clear hK K hHeld2
        try simp only [Act.put, List.setIfInBounds_toArray, List.set_cons_zero, List.set_cons_succ]
        have hz := hHeld.2.1
        refine wpAnyH_done (by kernel_rfl) ?_ _
        go_wp2_with fail
        go_meet
        exact ⟨_, _, _, rfl, hi22, h23, hbo23, hol, hHeld.1⟩
    · go_simp
      generalize hX : World.alloc _ (.cells _ 35) = w22
      obtain ⟨h22, hB22, h22z⟩ := alloc_named hX
      clear hX
      try have hne : L = 0 ∨ ∀ k, (Value.slice xa L xc).ownBlock = some k → k ≠ _ := hbl.imp id (fun h k hk e => absurd e (Nat.ne_of_lt (h k hk)))
      try have hGI := Nat.ne_of_lt h15s
      refine hK.out _ _ (⟨hHeld.1.trans (hB22.mono (by have := hHeld.2.1; omega)), Nat.le_trans hHeld.2.1 hB22.size, hHeld.2.2.keep hB22⟩) (fun hHeld2 => ?_)
      replace hHeld := hHeld2
      clear hK K hHeld2
      try simp only [Act.put, List.setIfInBounds_toArray, List.set_cons_zero, List.set_cons_succ]
      have h22s := Nat.le_of_eq h22z.symm
      clear h22z
      have hi22 := hz
      have hz := hHeld.2.1
      try replace h15s := Nat.le_trans h15s hB22.size
      try replace hsr := hsr.below hB22
      try replace hbo := hbo.below hB22
      clear hB22
      try have f0 := cell_of_row _ _ 0 _ _ _ h22
      try have f1 := cell_of_row _ _ 1 _ _ _ h22
      try have f2 := cell_of_row _ _ 2 _ _ _ h22
      try have f3 := cell_of_row _ _ 3 _ _ _ h22
      try have f4 := cell_of_row _ _ 4 _ _ _ h22
      try have y0 := frozen_of_row _ _ 0 _ _ h22
      try have y1 := frozen_of_row _ _ 1 _ _ h22
      try have y2 := frozen_of_row _ _ 2 _ _ h22
      try have y3 := frozen_of_row _ _ 3 _ _ h22
      try have y4 := frozen_of_row _ _ 4 _ _ h22
      try simp at f0 f1 f2 f3 f4
      refine wpAnyH_ready (rs := [15]) (by kernel_rfl) (by simp) (AllReadyH.cons (o := _) (by rw [List.getElem?_toArray]; rfl) (fun K hK => ?_) AllReadyH.nil)
      go_simp
      generalize hX : World.alloc _ (.cells #[] 5) = w15
      obtain ⟨h15, hB15, h15z⟩ := alloc_named hX
      clear hX h15
      try have hGI := Nat.ne_of_gt h22s
      have hsr := HSR7.out.below (hHeld.1.trans (hB15.mono (by have := hHeld.2.1; omega)))
      refine hK.out _ _ (⟨hHeld.1.trans (hB15.mono (by have := hHeld.2.1; omega)), Nat.le_trans hHeld.2.1 hB15.size, hHeld.2.2.keep hB15⟩) (fun hHeld2 => ?_)
      replace hHeld := hHeld2
      clear hK K hHeld2
      try simp only [Act.put, List.setIfInBounds_toArray, List.set_cons_zero, List.set_cons_succ]
      have h15s := Nat.le_of_eq h15z.symm
      clear h15z
      have hG1 := hz
      have hz := hHeld.2.1
      try replace h22 := (hB15.block _ (by have := h22s; omega)).trans h22
      try replace h22s := Nat.le_trans h22s hB15.size
      clear hB15
      refine wpAnyH_ready (rs := [20]) (by kernel_rfl) (by simp) (AllReadyH.cons (o := _) (by rw [List.getElem?_toArray]; rfl) (fun K hK => ?_) AllReadyH.nil)
      refine step_append_empty (by rfl) _ _ 25 (by rfl) 5 i0 _ 1 1 Tryd.underlying25 hi0 hi1 hi2 hi3 rfl (by decide) _ (by rfl) (.slice a7 L c7) L (bcells ds) (by rfl) hsr (by omega) ?_
      intro v20 w20 hr20 hB20 ho20 hn20
      obtain ⟨xa, xc, rfl⟩ := hr20.val
      have hbo : BytesAt w20 (.slice xa L xc) ds := ⟨by rw [HDL.out]; exact hr20, HRE7.out⟩
      have hbl := hr20.own_lt
      have hol : ∀ k, (Value.slice xa L xc).ownBlock = some k → W.heap.size ≤ k := fun k hk => ho20.elim (fun h => by rw [h] at hk; cases hk; exact hG1) (fun h => by rw [h] at hk; cases hk; exact hHeld.2.1)
      refine hK.out _ _ (⟨hHeld.1.trans (hB20.mono (by have := hHeld.2.1; omega)), Nat.le_trans hHeld.2.1 hB20.size, hHeld.2.2.keep hB20⟩) (fun hHeld2 => ?_)
      replace hHeld := hHeld2
      clear hK K hHeld2
      try simp only [Act.put, List.setIfInBounds_toArray, List.set_cons_zero, List.set_cons_succ]
      try have hne : L = 0 ∨ ∀ k, (Value.slice xa L xc).ownBlock = some k → k ≠ _ := .inr fun k hk e => ho20.elim (fun h => absurd ((Option.some.inj (hk.symm.trans h)).symm.trans e) hGI) (fun h => absurd ((Option.some.inj (hk.symm.trans h)).symm.trans e) (Nat.ne_of_gt h22s))
      try replace h22 := (hB20.block _ (by have := h22s; omega)).trans h22
      try replace h22s := Nat.le_trans h22s hB20.size
      have hz := hHeld.2.1
      clear hB20 hsr hr20 ho20 hn20
      try have f0 := cell_of_row _ _ 0 _ _ _ h22
      try have f1 := cell_of_row _ _ 1 _ _ _ h22
      try have f2 := cell_of_row _ _ 2 _ _ _ h22
      try have f3 := cell_of_row _ _ 3 _ _ _ h22
      try have f4 := cell_of_row _ _ 4 _ _ _ h22
      try have y0 := frozen_of_row _ _ 0 _ _ h22
      try have y1 := frozen_of_row _ _ 1 _ _ h22
      try have y2 := frozen_of_row _ _ 2 _ _ h22
      try have y3 := frozen_of_row _ _ 3 _ _ h22
      try have y4 := frozen_of_row _ _ 4 _ _ h22
      try simp at f0 f1 f2 f3 f4
      refine wpAnyH_take (i := 21) (oi := _) (v := ?_) (by rw [List.getElem?_toArray]; rfl) (by kernel_rfl) (by kernel_rfl) (by kernel_rfl) (by exact fun _ _ _ h => h) (Or.inl ⟨by rfl, ?_⟩) (by assumption) ?_
      rotate_left
      · intro w hSw
        try simp only [Cells, blk, List.cons_append, List.nil_append, and_true, Nat.reduceAdd, Nat.add_zero, Nat.zero_add] at hSw
        go_simp
        try with_reducible rfl
      simp only [Act.put, List.setIfInBounds_toArray, List.set_cons_zero, List.set_cons_succ]
      refine wpAnyH_ready (rs := [23]) (by kernel_rfl) (by simp) (AllReadyH.cons (o := _) (by rw [List.getElem?_toArray]; rfl) (fun K hK => ?_) AllReadyH.nil)
      go_simp
      generalize hX : World.setCell _ _ _ = w23
      obtain ⟨h23, hg23⟩ := set5 h22 hX
      clear hX
      have hbo23 := hbo.grownE hg23 (by rw [HDL.out]; exact hne)
      refine hK.out _ _ (⟨hHeld.1.grown hg23 (by have := hHeld.2.1; omega) (fun q hq => by have := hi22; simp at hq; omega), Nat.le_trans hHeld.2.1 hg23.size, hHeld.2.2.grown hg23 (fun x hx => by simp only [List.mem_cons, List.not_mem_nil, or_false] at hx; rcases hx with rfl | rfl | rfl <;> exact Nat.ne_of_lt (Nat.lt_of_lt_of_le hbW hi22))⟩) (fun hHeld2 => ?_)
      replace hHeld := hHeld2
      clear hK K hHeld2
      try simp only [Act.put, List.setIfInBounds_toArray, List.set_cons_zero, List.set_cons_succ]
      have hz := hHeld.2.1
      refine wpAnyH_done (by kernel_rfl) ?_ _
      go_wp2_with fail
      go_meet
      exact ⟨_, _, _, rfl, hi22, h23, hbo23, hol, hHeld.1⟩
  case rest =>
  obtain ⟨i, xa, xc, rfl, hi2, hi, hbo, hol, hB3⟩ := hcut
  rename World => X3
  have HB3 := Lib.hid (HBW.out.trans (hB3.mono HBW.out.size))
  have HK3 := Lib.hid ((hB3.block _ hszW).trans HKW.out)
  have hsz3 : w.heap.size < X3.heap.size := Nat.lt_of_lt_of_le hszW hB3.size
  have hi3' : i < X3.heap.size := (Array.getElem?_eq_some_iff.1 hi).1
  have hcb : cpB (TM : Int) C F KD = cpB (T : Int) C F KD := by
    by_cases hT : T ≤ 1099511627776
    · rw [HT4.out hT]
    · have h5 := HT5.out (by omega)
      have e1 : cpB (TM : Int) C F KD = false := decide_eq_false (by omega)
      have e2 : cpB (T : Int) C F KD = false := decide_eq_false (by omega)
      rw [e1, e2]
  have hri := right_any (TM : Int) C F KD (.slice xa L xc) X3 rfl
  rw [hcb] at hri
  have hce := cpB_cpE (T : Int) C F KD ds
  rw [HDL.out, if_neg (show ¬ 260 < L from h260)] at hce
  have hE0 := HE.out
  rw [HR.out] at hE0
  simp only [hce] at hE0
  have hTb : cpB (T : Int) C F KD = true → TM = T := fun h => by
    have := of_decide_eq_true h
    exact HT4.out (by omega)
  obtain ⟨BB, hBB⟩ : ∃ x, cpB (T : Int) C F KD = x := ⟨_, rfl⟩
  rw [hBB] at hri hE0 hTb
  have HRI := Lib.hid hri
  replace HE := Lib.hid hE0
  have HTB := Lib.hid hTb
  have HI := Lib.hid hi
  have HBO := Lib.hid hbo
  have HOL := Lib.hid hol
  have f0 := cell_of_row _ _ 0 _ _ _ hi
  have f1 := cell_of_row _ _ 1 _ _ _ hi
  have f2 := cell_of_row _ _ 2 _ _ _ hi
  have f3 := cell_of_row _ _ 3 _ _ _ hi
  have f4 := cell_of_row _ _ 4 _ _ _ hi
  simp at f0 f1 f2 f3 f4
  clear hri hE0 hTb hcb hce hBB hi hbo hol hB3 HT4 HT5 HR HKW HBW HBYW HT hT1 hT2 hT3 cTM HSR7 HRE7 hrun7 q8 q9 q10 g0 g1 g2 g3 g4 z0 z1 z2 z3 z4 hbW
  go_wp2_with fail
  refine HRI.out.mono ?_
  rintro e w4 ⟨rfl, hB4⟩
  have HB4 := Lib.hid (HB3.out.trans (hB4.mono HB3.out.size))
  have hk4 := (hB4.block _ hsz3).trans HK3.out
  have hi4 := (hB4.block _ hi3').trans HI.out
  have HBO4 := Lib.hid (HBO.out.below hB4)
  have hsz4 : w.heap.size < w4.heap.size := Nat.lt_of_lt_of_le hsz3 hB4.size
  clear hB4 HB3 HK3 HI HBO HRI f0 f1 f2 f3 f4 hsz3 hi3'
  have g0 := cell_of_row _ _ 0 _ _ _ hk4
  have g1 := cell_of_row _ _ 1 _ _ _ hk4
  have g2 := cell_of_row _ _ 2 _ _ _ hk4
  have g3 := cell_of_row _ _ 3 _ _ _ hk4
  have g4 := cell_of_row _ _ 4 _ _ _ hk4
  simp at g0 g1 g2 g3 g4
  have z0 := frozen_of_row _ _ 0 _ _ hk4
  have z1 := frozen_of_row _ _ 1 _ _ hk4
  have z2 := frozen_of_row _ _ 2 _ _ hk4
  have z3 := frozen_of_row _ _ 3 _ _ hk4
  have z4 := frozen_of_row _ _ 4 _ _ hk4
  have f0 := cell_of_row _ _ 0 _ _ _ hi4
  have f1 := cell_of_row _ _ 1 _ _ _ hi4
  have f2 := cell_of_row _ _ 2 _ _ _ hi4
  have f3 := cell_of_row _ _ 3 _ _ _ hi4
  have f4 := cell_of_row _ _ 4 _ _ _ hi4
  simp at f0 f1 f2 f3 f4
  have HK4 := Lib.hid hk4
  have HI4 := Lib.hid hi4
  clear hk4 hi4
  cases BB with
  | false =>
    have hE0 := HE.out
    simp at hE0
    subst hE0
    clear HE HTB
    go_wp2_with fail
    generalize hX : World.setCell _ _ _ = X
    obtain ⟨hX5, hgX⟩ := set5 HK4.out hX
    clear hX
    have r0 := cell_of_row _ _ 0 _ _ _ hX5
    have r1 := cell_of_row _ _ 1 _ _ _ hX5
    have r2 := cell_of_row _ _ 2 _ _ _ hX5
    have r3 := cell_of_row _ _ 3 _ _ _ hX5
    have r4 := cell_of_row _ _ 4 _ _ _ hX5
    simp at r0 r1 r2 r3 r4
    refine bodyPost_ret (v := .tuple #[.agg #[.int .i64 0, .int .i64 0, .int .i64 0, .int .i64 0, .slice none 0 0], .int .i64 0, .int .i64 5]) (by simp [results, Tryd.results37, go_sem, r0, r1, r2, r3, r4]) rfl ?_
    exact ⟨HB4.out.grown hgX (Nat.le_of_lt hsz4) (fun q hq => by simp at hq; omega), fun _ => rfl, fun h => absurd h (by decide)⟩
  | true =>
    have hE0 := HE.out
    simp at hE0
    subst hE0
    obtain rfl := HTB.out rfl
    clear HE HTB
    have a3 : IntKind.i64.wrap ((L : Int) + 16) = (L : Int) + 16 := a1
    go_wp2_with fail
    generalize hX : World.setCell _ _ _ = X
    obtain ⟨hX5, hgX⟩ := set5 HK4.out hX
    clear hX f0 f1 f2 f3 f4 g0 g1 g2 g3 g4 z0 z1 z2 z3 z4
    have hbX := HBO4.out.grownE hgX (.inr fun k hk e => by
      have := HOL.out k hk
      omega)
    have hBX := HB4.out.grown hgX (Nat.le_of_lt hsz4) (fun q hq => by simp at hq; omega)
    have r0 := cell_of_row _ _ 0 _ _ _ hX5
    have r1 := cell_of_row _ _ 1 _ _ _ hX5
    have r2 := cell_of_row _ _ 2 _ _ _ hX5
    have r3 := cell_of_row _ _ 3 _ _ _ hX5
    have r4 := cell_of_row _ _ 4 _ _ _ hX5
    simp at r0 r1 r2 r3 r4
    refine bodyPost_ret (v := .tuple #[.agg #[.int .i64 TM, .int .i64 C, .int .i64 F, .int .i64 KD, .slice xa L xc], .int .i64 ((L : Int) + 16), .int .i64 0]) (by simp [results, Tryd.results37, go_sem, r0, r1, r2, r3, r4]) rfl ?_
    rw [HDS.out]
    refine ⟨hBX, fun h => absurd rfl h, fun _ => ⟨xa, xc, by rw [show ((16 + L : Nat) : Int) = (L : Int) + 16 by omega], hbX, fun k hk => ?_⟩⟩
    have := HOL.out k hk
    omega
end Go.Proofs.YtccknpdnapoboaaDoor
