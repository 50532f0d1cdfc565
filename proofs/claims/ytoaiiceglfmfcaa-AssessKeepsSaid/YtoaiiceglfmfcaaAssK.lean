/- The plain law of AssessKeeps: what is left of a map. -/
import Derived.Test.YtoaiiceglfmfcaaAssQ
namespace Go.Proofs.Ytoaiiceglfmfcaa
open Go.RowKit

/-- the worst one is the worst -/
def Worst (l : List (Int × Int)) (fo : Option Nat) (L : List Nat) : Prop :=
  match fo with
  | none => ∀ c ∈ L, badL l c = false
  | some f => f ∈ L ∧ badL l f = true ∧ ∀ c ∈ L, badL l c = true → rateL l c ≤ rateL l f
theorem worst_step (l : List (Int × Int)) (fo : Option Nat) (L : List Nat) (c : Nat) (h : Worst l fo L) : Worst l (candStep l fo c) (L ++ [c]) := by
  unfold candStep
  by_cases hb : badL l c = true
  · rw [if_pos hb]
    cases fo with
    | none =>
      refine ⟨by simp, hb, fun d hd hbd => ?_⟩
      rcases List.mem_append.1 hd with h1 | h1
      · rw [h d h1] at hbd; cases hbd
      · rw [List.mem_singleton.1 h1]; exact Int.le_refl _
    | some f =>
      obtain ⟨h1, h2, h3⟩ := h
      simp only
      split
      · refine ⟨by simp, hb, fun d hd hbd => ?_⟩
        rcases List.mem_append.1 hd with h4 | h4
        · have := h3 d h4 hbd; omega
        · rw [List.mem_singleton.1 h4]; exact Int.le_refl _
      · refine ⟨by simp [h1], h2, fun d hd hbd => ?_⟩
        rcases List.mem_append.1 hd with h4 | h4
        · exact h3 d h4 hbd
        · rw [List.mem_singleton.1 h4]; omega
  · rw [if_neg hb]
    cases fo with
    | none =>
      intro d hd
      rcases List.mem_append.1 hd with h1 | h1
      · exact h d h1
      · rw [List.mem_singleton.1 h1]; simpa using hb
    | some f =>
      obtain ⟨h1, h2, h3⟩ := h
      refine ⟨by simp [h1], h2, fun d hd hbd => ?_⟩
      rcases List.mem_append.1 hd with h4 | h4
      · exact h3 d h4 hbd
      · rw [List.mem_singleton.1 h4] at hbd; exact absurd hbd hb
theorem worst_all (l : List (Int × Int)) : ∀ (L' : List Nat) (fo : Option Nat) (pre : List Nat), Worst l fo pre → Worst l (L'.foldl (candStep l) fo) (pre ++ L')
  | [], fo, pre, h => by simpa using h
  | c :: L', fo, pre, h => by
    have := worst_all l L' (candStep l fo c) (pre ++ [c]) (worst_step l fo pre c h)
    simpa using this
theorem cand_worst (l : List (Int × Int)) (L : List Nat) : Worst l (candL l L) L := by
  have := worst_all l L none [] (by intro c hc; cases hc)
  simpa [candL] using this

theorem nats_mem (L : List (Fin 37)) (x : Fin 37) : x.val ∈ nats L ↔ x ∈ L := by
  unfold nats
  rw [List.mem_map]
  constructor
  · rintro ⟨y, hy, e⟩
    rwa [← Fin.ext e]
  · intro h
    exact ⟨x, h, rfl⟩
theorem filter_one (L : List (Fin 37)) (hn : L.Nodup) (c : Nat) (h : c ∈ nats L) : (L.filter (fun x => decide (x.val ≠ c))).length = L.length - 1 := by
  obtain ⟨x, hx, rfl⟩ := List.mem_map.1 h
  obtain ⟨a, ha, e⟩ := List.mem_iff_getElem.1 hx
  have := erase_filter L hn a ha x.val (by rw [e])
  rw [← this, List.length_append, List.length_take, List.length_drop]
  omega

/-- what is left is a map -/
theorem propL_map (l : List (Int × Int)) (ls : Int) : ∀ k m', m' < 137438953472 → ∃ m2, m2 < 137438953472 ∧ propL l ls k (lst m') = lst m2
  | 0, m', h => ⟨m', h, rfl⟩
  | k+1, m', h => by
    unfold propL
    split
    · split
      · exact ⟨m', h, rfl⟩
      · rename_i c hc
        have hw := cand_worst l (nats (lst m'))
        rw [hc] at hw
        obtain ⟨x, _, hx⟩ := List.mem_map.1 hw.1
        have hc37 : c < 37 := by rw [← hx]; exact x.isLt
        rw [← less_lst m' c hc37]
        exact propL_map l ls k _ (less_lt m' c h)
    · exact ⟨m', h, rfl⟩
/-- what is left: a part, long enough, only bad ones are taken away, the worst ones first -/
theorem propL_law (l : List (Int × Int)) (ls : Int) (hls : 0 ≤ ls) : ∀ (k : Nat) (L : List (Fin 37)), L.Nodup → (L.length : Int) ≤ (k : Int) + ls →
    (∀ x, x ∈ propL l ls k L → x ∈ L) ∧ (ls ≤ (propL l ls k L).length ∨ (propL l ls k L).length = L.length) ∧ (propL l ls k L).length ≤ L.length ∧
    (∀ x, x ∈ L → x ∉ propL l ls k L → badL l x.val = true) ∧
    (∀ x, x ∈ propL l ls k L → badL l x.val = true → ((propL l ls k L).length : Int) ≤ ls ∧ ∀ y, y ∈ L → y ∉ propL l ls k L → rateL l x.val ≤ rateL l y.val)
  | 0, L, _, hk => by
    unfold propL
    exact ⟨fun _ h => h, .inr rfl, Nat.le_refl _, fun x h1 h2 => absurd h1 h2, fun x _ _ => ⟨by omega, fun y h1 h2 => absurd h1 h2⟩⟩
  | k+1, L, hn, hk => by
    unfold propL
    by_cases hgt : ls < (L.length : Int)
    · rw [if_pos hgt]
      have hw := cand_worst l (nats L)
      cases hc : candL l (nats L) with
      | none =>
        rw [hc] at hw
        exact ⟨fun _ h => h, .inr rfl, Nat.le_refl _, fun x h1 h2 => absurd h1 h2, fun x hx hb => by rw [hw x.val ((nats_mem L x).2 hx)] at hb; cases hb⟩
      | some c =>
        rw [hc] at hw
        obtain ⟨w1, w2, w3⟩ := hw
        simp only
        have hlen := filter_one L hn c w1
        have hpos : 0 < L.length := by omega
        obtain ⟨i1, i2, i5, i3, i4⟩ := propL_law l ls hls k (L.filter (fun x => decide (x.val ≠ c))) (hn.filter _) (by omega)
        have hsub : ∀ x, x ∈ L.filter (fun x => decide (x.val ≠ c)) → x ∈ L := fun x h => (List.mem_filter.1 h).1
        refine ⟨fun x h => hsub x (i1 x h), ?_, by omega, fun x h1 h2 => ?_, fun x h1 hb => ?_⟩
        · left
          rcases i2 with h | h <;> omega
        · by_cases hxc : x.val = c
          · rw [hxc]; exact w2
          · exact i3 x (List.mem_filter.2 ⟨h1, by simpa using hxc⟩) h2
        · obtain ⟨j1, j2⟩ := i4 x h1 hb
          refine ⟨j1, fun y h2 h3 => ?_⟩
          by_cases hyc : y.val = c
          · rw [hyc]; exact w3 x.val ((nats_mem L x).2 (hsub x (i1 x h1))) hb
          · exact j2 y (List.mem_filter.2 ⟨h2, by simpa using hyc⟩) h3
    · rw [if_neg hgt]
      exact ⟨fun _ h => h, .inr rfl, Nat.le_refl _, fun x h1 h2 => absurd h1 h2, fun x _ _ => ⟨by omega, fun y h1 h2 => absurd h1 h2⟩⟩

/-- the least number of channels -/
def leastI (m : Nat) (least : Int) : Int := if lsI least ≤ (pop m 37 : Int) then lsI least else pop m 37
theorem keep_law (l : List (Int × Int)) (m : Nat) (least : Int) :
    propN l m least < 137438953472 ∧ leastI m least ≤ (pop (propN l m least) 37 : Int) ∧
    (∀ c : Nat, c < 37 → (propN l m least).testBit c = true → m.testBit c = true) ∧
    (∀ c : Nat, c < 37 → m.testBit c = true → (propN l m least).testBit c = false → badL l c = true) ∧
    (∀ c : Nat, c < 37 → (propN l m least).testBit c = true → badL l c = true → (pop (propN l m least) 37 : Int) = leastI m least ∧ ∀ d : Nat, d < 37 → m.testBit d = true → (propN l m least).testBit d = false → rateL l c ≤ rateL l d) := by
  have hlb := lsI_bd least
  have hm := lst_mod m
  obtain ⟨x, hx, he⟩ := propL_map l (lsI least) 37 (m &&& 137438953471) (Nat.lt_succ_of_le Nat.and_le_right)
  rw [hm] at he
  have h37 : (lst m).length ≤ 37 := lstTo_len m 37
  obtain ⟨i1, i2, i5, i3, i4⟩ := propL_law l (lsI least) (by omega) 37 (lst m) (lst_nodup m) (by omega)
  have hp : propN l m least = x := by
    unfold propN
    rw [he, ofN_lst x hx]
  rw [hp]
  rw [he] at i1 i2 i3 i4 i5
  simp only [lst_count] at i2 i4 i5
  have hmx : ∀ c (h : c < 37), (⟨c, h⟩ : Fin 37) ∈ lst x ↔ x.testBit c = true := fun c h => mem_lst x ⟨c, h⟩
  have hmm : ∀ c (h : c < 37), (⟨c, h⟩ : Fin 37) ∈ lst m ↔ m.testBit c = true := fun c h => mem_lst m ⟨c, h⟩
  have hx0 : ∀ c (h : c < 37), x.testBit c = false → (⟨c, h⟩ : Fin 37) ∉ lst x := fun c h h1 h2 => by rw [(hmx c h).1 h2] at h1; cases h1
  have hle : leastI m least ≤ (pop x 37 : Int) := by
    unfold leastI
    split <;> omega
  refine ⟨hx, hle, fun c h hc => (hmm c h).1 (i1 _ ((hmx c h).2 hc)), fun c h h1 h2 => i3 ⟨c, h⟩ ((hmm c h).2 h1) (hx0 c h h2), fun c h h1 h2 => ?_⟩
  obtain ⟨j1, j2⟩ := i4 ⟨c, h⟩ ((hmx c h).2 h1) h2
  refine ⟨?_, fun d hd h3 h4 => j2 ⟨d, hd⟩ ((hmm d hd).2 h3) (hx0 d hd h4)⟩
  unfold leastI at hle ⊢
  split <;> rename_i h5 <;> simp only [h5, if_true, if_false] at hle <;> omega
end Go.Proofs.Ytoaiiceglfmfcaa
