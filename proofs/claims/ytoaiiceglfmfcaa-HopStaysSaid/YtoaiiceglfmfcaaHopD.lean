/- hop: the channel of an event is in the map; what the unmapped channels are. -/
import Derived.Test.YtoaiiceglfmfcaaHopC
import Derived.Test.YtoaiiceglfmfcaaRefB
import Derived.Test.YtoaiiceglfmfcaaPlainD
namespace Go.Proofs.Ytoaiiceglfmfcaa
open Go.RowKit

theorem lst_mem (m : Nat) (c : Fin 37) (h : c ∈ lst m) : m.testBit c.val = true := by
  unfold lst lstTo at h
  simpa using (List.mem_filter.1 h).2
theorem nthI_has (m : Nat) (i : Int) (h0 : 0 ≤ i) (h1 : i < (pop m 37 : Int)) : hasI m (nthI m i) = true := by
  rw [← lst_count] at h1
  have hl : i.toNat < (lst m).length := by omega
  unfold nthI
  rw [dif_pos ⟨h0, hl⟩, hasI_in _ _ (Fin.isLt _)]
  exact lst_mem m _ (List.getElem_mem hl)
theorem stepI_bd (a b : Int) : 0 ≤ stepI a b ∧ stepI a b ≤ 36 := by unfold stepI; omega
theorem unm_bd (al : Int) (ac : Nat) (hp : Int) (ev : Nat) (la : Int) : 0 ≤ unmI al ac hp ev la ∧ unmI al ac hp ev la ≤ 36 := by
  unfold unmI
  split
  · omega
  · exact stepI_bd _ _
theorem chan_has (al : Int) (mp ac : Nat) (hp : Int) (ev : Nat) (la : Int) (he : ev < 65536) (ha : ac < 4294967296) (hP : 1 ≤ pop mp 37) : hasI mp (chanI al mp ac hp ev la) = true := by
  unfold chanI
  split
  · unfold mixI
    simp only
    split
    · assumption
    · have hr := randN_lt ev (identN ac) he (identN_lt ac ha)
      have h1 : pop mp 37 * randN ev (identN ac) < pop mp 37 * 65536 := Nat.mul_lt_mul_of_pos_left hr hP
      refine nthI_has _ _ ?_ ?_
      · rw [← Int.natCast_mul]; omega
      · rw [← Int.natCast_mul]; omega
  · unfold remapI
    split
    · assumption
    · rw [if_neg (by omega)]
      have : 0 ≤ clampI (stepI la hp) := by by_cases h : stepI la hp < 0 <;> by_cases h' : 36 < stepI la hp <;> simp [clampI, h, h'] <;> omega
      exact nthI_has _ _ (Int.emod_nonneg _ (by omega)) (Int.emod_lt_of_pos _ (by omega))
theorem chan_stays (al : Int) (mp ac : Nat) (hp : Int) (ev : Nat) (la : Int) (h : hasI mp (unmI al ac hp ev la) = true) : chanI al mp ac hp ev la = unmI al ac hp ev la := by
  unfold unmI at h ⊢
  unfold chanI
  split
  · rename_i h2
    rw [if_pos h2] at h
    unfold mixI
    simp only
    rw [if_pos h]
  · rename_i h2
    rw [if_neg h2] at h
    have hb := stepI_bd la hp
    have e : clampI (stepI la hp) = stepI la hp := by unfold clampI; rw [if_neg (by omega), if_neg (by omega)]
    unfold remapI
    rw [e, if_pos h]

/-- the unmapped channels, event by event, by a constant increment -/
theorem step_uSeq (u hp : Int) (h0 : 0 ≤ u) (h1 : u < 37) : stepI u hp = (u + hp.tmod 37) % 37 := by
  unfold stepI
  have e : u.tmod 37 = u := by rw [Int.tmod_eq_emod_of_nonneg h0]; omega
  rw [e]
  omega
theorem tmod_zero (hp : Int) : hp.tmod 37 % 37 = 0 ↔ hp.tmod 37 = 0 := by
  have := tmod_bd hp 37 (by omega)
  constructor
  · intro h; omega
  · intro h; omega

theorem visit_lt (V u : Nat) (hV : V < 137438953472) (hu : u < 37) (h : V.testBit u = false) : V + 2^u < 137438953472 := by
  have : V + 2^u < 2^37 := by
    apply Nat.lt_pow_two_of_testBit
    intro i hi
    rw [testBit_add V u i h, Nat.testBit_lt_two_pow (Nat.lt_of_lt_of_le hV (show 2^37 ≤ 2^i from Nat.pow_le_pow_right (by decide) hi))]
    simp
    omega
  exact this
theorem pow36 (u : Nat) (hu : u < 37) : 2^u ≤ 68719476736 := by
  have : 2^u ≤ 2^36 := Nat.pow_le_pow_right (by decide) (by omega)
  exact this

/-- what is known behind k events, where a constant increment is used that 37 does not divide -/
def Seen (al hp la0 la : Int) (k s V : Nat) : Prop :=
  al ≠ 2 → hp.tmod 37 ≠ 0 → s = k ∧ stepI la hp = uSeq (stepI la0 hp) (hp.tmod 37) k ∧ ∀ c, V.testBit c = true → ∃ j, j < k ∧ uSeq (stepI la0 hp) (hp.tmod 37) j = (c : Int)
theorem seen_zero (al hp la : Int) : Seen al hp la la 0 0 0 := fun _ _ => ⟨rfl, rfl, fun c h => by simp at h⟩
theorem uSeq_bd (u0 h : Int) (h0 : 0 ≤ u0) (h1 : u0 < 37) (k : Nat) : 0 ≤ uSeq u0 h k ∧ uSeq u0 h k < 37 := by
  rw [uSeq_eq u0 h h0 h1]; omega
theorem seen_next {al hp la0 la : Int} {k s V : Nat} (h : Seen al hp la0 la k s V) (ac ev : Nat) (u : Nat) (hu : unmI al ac hp ev la = (u : Int)) (hv : V.testBit u = false) :
    Seen al hp la0 u (k + 1) (s + 1) (V + 2^u) := by
  intro h2 h37
  obtain ⟨h3, h4, h5⟩ := h h2 h37
  have hb := stepI_bd la0 hp
  unfold unmI at hu
  rw [if_neg h2, h4] at hu
  have hub := uSeq_bd (stepI la0 hp) (hp.tmod 37) hb.1 (by omega) k
  refine ⟨by omega, ?_, fun c hc => ?_⟩
  · rw [← hu, step_uSeq _ _ hub.1 hub.2]
    rfl
  · rw [testBit_add V u c hv] at hc
    simp only [Bool.or_eq_true, decide_eq_true_eq] at hc
    rcases hc with rfl | hc
    · exact ⟨k, by omega, hu⟩
    · obtain ⟨j, hj, e⟩ := h5 c hc
      exact ⟨j, by omega, e⟩
theorem seen_again {al hp la0 la : Int} {k s V : Nat} (h : Seen al hp la0 la k s V) (hk : k < 37) (ac ev : Nat) (u : Nat) (hu : unmI al ac hp ev la = (u : Int)) (hv : V.testBit u = true) :
    Seen al hp la0 u (k + 1) s V := by
  intro h2 h37
  exfalso
  obtain ⟨h3, h4, h5⟩ := h h2 h37
  have hb := stepI_bd la0 hp
  unfold unmI at hu
  rw [if_neg h2, h4] at hu
  obtain ⟨j, hj, e⟩ := h5 u hv
  exact uSeq_inj (stepI la0 hp) (hp.tmod 37) hb.1 (by omega) (fun hz => h37 ((tmod_zero hp).1 hz)) j k hj hk (by rw [e, hu])
theorem seen_end {al hp la0 la : Int} {s V : Nat} (h : Seen al hp la0 la 37 s V) (h2 : (al == 2) = false) (h37 : (hp.tmod 37 == 0) = false) : (s : Int) = 37 := by
  have := (h (by simpa using h2) (by simpa using h37)).1
  omega
end Go.Proofs.Ytoaiiceglfmfcaa
