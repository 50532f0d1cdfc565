/- A slice that came in, as a list of what its elements read as. -/
import Derived.Test.YtoaiiceglfmfcaaSl
import Derived.Test.YtoaiiceglfmfcaaFrame
namespace Go.Proofs.Ytoaiiceglfmfcaa
open Go.RowKit

theorem addr_add (b off j : Nat) : (⟨b, off, none⟩ : Addr).add j = ⟨b, off + j, none⟩ := by unfold Addr.add; split <;> simp_all
theorem flat_get {α : Type} (enc : α → List Value) (size : Nat) (hsz : ∀ x, (enc x).length = size) : ∀ (l : List α) (i j : Nat) (hi : i < l.length), j < size → (l.flatMap enc)[i * size + j]? = (enc l[i])[j]?
  | x :: l, 0, j, _, hj => by
    simp only [List.flatMap_cons, Nat.zero_mul, Nat.zero_add, List.getElem_cons_zero]
    rw [List.getElem?_append_left (by rw [hsz]; exact hj)]
  | x :: l, i+1, j, hi, hj => by
    have := flat_get enc size hsz l i j (by simpa using hi) hj
    simp only [List.flatMap_cons, List.getElem_cons_succ]
    rw [List.getElem?_append_right (by rw [hsz, Nat.add_mul]; omega), hsz, show (i + 1) * size + j - size = i * size + j by rw [Nat.add_mul]; omega]
    exact this
theorem flat_len {α : Type} (enc : α → List Value) (size : Nat) (hsz : ∀ x, (enc x).length = size) : ∀ l : List α, (l.flatMap enc).length = l.length * size
  | [] => by simp
  | x :: l => by simp [List.flatMap_cons, hsz, flat_len enc size hsz l, Nat.add_mul]; omega

theorem sr_of_arg {α : Type} [Inhabited α] {P : Program} {w : World} {t e : TypeId} {v : Value} (enc : α → List Value) (size : Nat) (hsz : ∀ x, (enc x).length = size) (h1 : ∀ x, ∀ u ∈ enc x, u.oneCell' = true) (h0 : 0 < size)
    (ht : P.underlying t = some (.slice e)) (hc : P.cellsOf e = size) (hdec : ∀ cs, Rd P w e cs → ∃ x, cs = enc x) (h : Arg P w t v) : ∃ l : List α, SR w v l.length size (l.flatMap enc) := by
  have hone : ∀ l : List α, ∀ u ∈ l.flatMap enc, u.oneCell' = true := fun l u hu => by
    obtain ⟨x, _, hx⟩ := List.mem_flatMap.1 hu
    exact h1 x u hx
  rcases h.slice ht with rfl | ⟨a, len, cap, rfl, hle, hm, hel⟩
  · exact ⟨[], Nat.zero_le _, by simp, by simp, none, 0, rfl, fun _ => ⟨rfl, rfl⟩, fun h => absurd h (by simp)⟩
  · rw [hc] at hel
    obtain ⟨f, hf⟩ := Deep.choose_lt (n := len) (p := fun i x => w.cells? 0 (a.add (i * size)) size = some (enc x)) (fun i hi => by
      obtain ⟨cs, e1, e2⟩ := hel i (by omega)
      obtain ⟨x, rfl⟩ := hdec cs e2
      exact ⟨x, e1⟩)
    have hlen : ((List.range len).map f).length = len := by simp
    refine ⟨(List.range len).map f, by rw [hlen]; omega, flat_len enc size hsz _, hone _, some a, cap, by rw [hlen], fun h => (by cases h), fun hp => ?_⟩
    rw [hlen] at hp
    obtain ⟨_, hl0, hc0⟩ := World.cells?_some (hf 0 hp)
    have hcell := hc0 0 h0
    obtain ⟨b, off, spot⟩ := a
    have hg : (enc (f 0))[0]? = some ((enc (f 0))[0]'(by rw [hsz]; exact h0)) := List.getElem?_eq_getElem _
    rw [hg] at hcell
    have hspot : spot = none := by simpa [Addr.add] using World.cell?_spot hcell
    subst hspot
    refine ⟨b, off, rfl, by simpa [addr_add] using World.block_lt_of_cell? w _ hcell, fun j u hj => ?_⟩
    have hjl : j < len * size := by
      have := (List.getElem?_eq_some_iff.1 hj).1
      rw [flat_len enc size hsz, hlen] at this
      exact this
    have hq : j / size < len := Nat.div_lt_of_lt_mul (by rw [Nat.mul_comm]; exact hjl)
    have hr : j % size < size := Nat.mod_lt _ h0
    have hjj : j = (j / size) * size + j % size := by rw [Nat.mul_comm]; exact (Nat.div_add_mod j size).symm
    obtain ⟨_, _, hcj⟩ := World.cells?_some (hf (j / size) hq)
    have h2 := hcj (j % size) hr
    rw [hjj, flat_get enc size hsz _ _ _ (by rw [hlen]; exact hq) hr] at hj
    simp only [List.getElem_map, List.getElem_range] at hj
    rw [← hj, ← h2, addr_add, addr_add, Nat.add_assoc, ← hjj]
end Go.Proofs.Ytoaiiceglfmfcaa
