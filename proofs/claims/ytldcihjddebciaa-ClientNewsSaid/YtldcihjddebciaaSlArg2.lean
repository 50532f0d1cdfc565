/- A slice that came in, or that lies in what came in, as a list of what its elements read as. -/
import Derived.Test.YtldcihjddebciaaSl
import Derived.Test.YtldcihjddebciaaFrame2
namespace Go.Proofs.Ytldcihjddebciaa
open Go.RowKit

theorem addr_add (b off j : Nat) : (⟨b, off, none⟩ : Addr).add j = ⟨b, off + j, none⟩ := by unfold Addr.add; split <;> simp_all
theorem flat_get {α : Type} (enc : α → List Value) (size : Nat) (hsz : ∀ x, (enc x).length = size) : ∀ (l : List α) (i j : Nat) (hi : i < l.length), j < size → (l.flatMap enc)[i * size + j]? = (enc l[i])[j]?
  | x :: l, 0, j, _, hj => by
    simp only [List.flatMap_cons, Nat.zero_mul, Nat.zero_add, List.getElem_cons_zero]
    rw [List.getElem?_append_left (by rw [hsz]; exact hj)]
  | x :: l, i+1, j, hi, hj => by
    have := flat_get enc size hsz l i j (by simpa using hi) hj
    simp only [List.flatMap_cons, List.getElem_cons_succ]
    rw [List.getElem?_append_right (by rw [hsz, Nat.add_mul]; omega), hsz, show (i + 1) * size + j - size = i * size + j by rw [Nat.add_mul]; omega]
    exact this
theorem flat_len {α : Type} (enc : α → List Value) (size : Nat) (hsz : ∀ x, (enc x).length = size) : ∀ l : List α, (l.flatMap enc).length = l.length * size
  | [] => by simp
  | x :: l => by simp [List.flatMap_cons, hsz, flat_len enc size hsz l, Nat.add_mul]; omega

/-- what is known of a slice value that came in -/
def SlIn (P : Program) (w : World) (e : TypeId) (v : Value) : Prop :=
  v = .slice none 0 0 ∨ ∃ (a : Addr) (len cap : Nat), v = .slice (some a) len cap ∧ len ≤ cap ∧ cap ≤ maxLen ∧ cap * P.bytesOf e ≤ reachBytes ∧
    ∀ i, i < cap → ∃ cs', w.cells? 0 (a.add (i * P.cellsOf e)) (P.cellsOf e) = some cs' ∧ Rd P w e cs'
theorem Rd.slIn {P : Program} {w : World} {t e : TypeId} {cs : List Value} (ht : P.underlying t = some (.slice e)) (h : Rd P w t cs) : ∃ v, cs = [v] ∧ SlIn P w e v := by
  rcases h.slice ht with rfl | ⟨a, len, cap, rfl, r⟩
  · exact ⟨_, rfl, .inl rfl⟩
  · exact ⟨_, rfl, .inr ⟨a, len, cap, rfl, r⟩⟩
theorem Arg.slIn {P : Program} {w : World} {t e : TypeId} {v : Value} (ht : P.underlying t = some (.slice e)) (h : Arg P w t v) : SlIn P w e v := h.slice ht

theorem sr_of_in {α : Type} [Inhabited α] {P : Program} {w : World} {e : TypeId} {v : Value} (enc : α → List Value) (Good : α → Prop) (size bytes : Nat) (hsz : ∀ x, (enc x).length = size) (h1 : ∀ x, Good x → ∀ u ∈ enc x, u.oneCell' = true) (h0 : 0 < size)
    (hc : P.cellsOf e = size) (hby : P.bytesOf e = bytes) (hdec : ∀ cs, Rd P w e cs → ∃ x, cs = enc x ∧ Good x) (h : SlIn P w e v) :
    ∃ l : List α, SR w v l.length size (l.flatMap enc) ∧ l.length * bytes ≤ reachBytes ∧ ∀ x ∈ l, Good x := by
  rcases h with rfl | ⟨a, len, cap, rfl, hle, hm, hr, hel⟩
  · exact ⟨[], ⟨Nat.zero_le _, by simp, by simp, none, 0, rfl, fun _ => ⟨rfl, rfl⟩, fun h => absurd h (by simp)⟩, by simp, by simp⟩
  · rw [hc] at hel
    rw [hby] at hr
    obtain ⟨f, hf⟩ := Deep.choose_lt (n := len) (p := fun i x => w.cells? 0 (a.add (i * size)) size = some (enc x) ∧ Good x) (fun i hi => by
      obtain ⟨cs, e1, e2⟩ := hel i (by omega)
      obtain ⟨x, rfl, hg⟩ := hdec cs e2
      exact ⟨x, e1, hg⟩)
    have hlen : ((List.range len).map f).length = len := by simp
    have hgood : ∀ x ∈ (List.range len).map f, Good x := fun x hx => by
      obtain ⟨i, hi, rfl⟩ := List.mem_map.1 hx
      exact (hf i (List.mem_range.1 hi)).2
    have hone : ∀ u ∈ ((List.range len).map f).flatMap enc, u.oneCell' = true := fun u hu => by
      obtain ⟨x, hx0, hx⟩ := List.mem_flatMap.1 hu
      exact h1 x (hgood x hx0) u hx
    refine ⟨(List.range len).map f, ⟨by rw [hlen]; omega, flat_len enc size hsz _, hone, some a, cap, by rw [hlen], fun h => (by cases h), fun hp => ?_⟩, by rw [hlen]; exact Nat.le_trans (Nat.mul_le_mul_right _ hle) hr, hgood⟩
    rw [hlen] at hp
    obtain ⟨_, hl0, hc0⟩ := World.cells?_some (hf 0 hp).1
    have hcell := hc0 0 h0
    obtain ⟨b, off, spot⟩ := a
    have hg : (enc (f 0))[0]? = some ((enc (f 0))[0]'(by rw [hsz]; exact h0)) := List.getElem?_eq_getElem _
    rw [hg] at hcell
    have hspot : spot = none := by simpa [Addr.add] using World.cell?_spot hcell
    subst hspot
    refine ⟨b, off, rfl, by simpa [addr_add] using World.block_lt_of_cell? w _ hcell, fun j u hj => ?_⟩
    have hjl : j < len * size := by
      have := (List.getElem?_eq_some_iff.1 hj).1
      rw [flat_len enc size hsz, hlen] at this
      exact this
    have hq : j / size < len := Nat.div_lt_of_lt_mul (by rw [Nat.mul_comm]; exact hjl)
    have hr2 : j % size < size := Nat.mod_lt _ h0
    have hjj : j = (j / size) * size + j % size := by rw [Nat.mul_comm]; exact (Nat.div_add_mod j size).symm
    obtain ⟨_, _, hcj⟩ := World.cells?_some (hf (j / size) hq).1
    have h2 := hcj (j % size) hr2
    rw [hjj, flat_get enc size hsz _ _ _ (by rw [hlen]; exact hq) hr2] at hj
    simp only [List.getElem_map, List.getElem_range] at hj
    rw [← hj, ← h2, addr_add, addr_add, Nat.add_assoc, ← hjj]

theorem list2 {α : Type} (l : List α) (h : l.length = 2) : ∃ a b, l = [a, b] := by
  match l, h with
  | [a, b], _ => exact ⟨a, b, rfl⟩
theorem list3 {α : Type} (l : List α) (h : l.length = 3) : ∃ a b c, l = [a, b, c] := by
  match l, h with
  | [a, b, c], _ => exact ⟨a, b, c, rfl⟩
theorem list4 {α : Type} (l : List α) (h : l.length = 4) : ∃ a b c d, l = [a, b, c, d] := by
  match l, h with
  | [a, b, c, d], _ => exact ⟨a, b, c, d, rfl⟩
theorem list5 {α : Type} (l : List α) (h : l.length = 5) : ∃ a b c d e, l = [a, b, c, d, e] := by
  match l, h with
  | [a, b, c, d, e], _ => exact ⟨a, b, c, d, e, rfl⟩
/-- bytes that are read -/
def bcells (bs : List Nat) : List Value := bs.map fun x : Nat => .int .u8 (x : Int)
theorem bcells_flat (bs : List Nat) : bs.flatMap (fun x : Nat => [Value.int .u8 (x : Int)]) = bcells bs := by
  induction bs with
  | nil => rfl
  | cons x l ih => rw [List.flatMap_cons, ih]; rfl
theorem bcells_one (bs : List Nat) : ∀ u ∈ bcells bs, u.oneCell' = true := by
  intro u hu
  obtain ⟨x, _, rfl⟩ := List.mem_map.1 hu
  rfl
def BytesAt (w : World) (v : Value) (bs : List Nat) : Prop := SR w v bs.length 1 (bcells bs) ∧ bs.length ≤ reachBytes ∧ ∀ x ∈ bs, x < 256
theorem BytesAt.below {w w' : World} {v : Value} {bs : List Nat} (h : BytesAt w v bs) (hb : Below w.heap.size w w') : BytesAt w' v bs := ⟨h.1.below hb, h.2⟩
theorem bytes_of_in {P : Program} {w : World} {e : TypeId} {v : Value} (he : P.underlying e = some (.int .u8)) (hc : P.cellsOf e = 1) (hby : P.bytesOf e = 1) (h : SlIn P w e v) : ∃ bs, BytesAt w v bs := by
  obtain ⟨l, h1, h2, h3⟩ := sr_of_in (α := Nat) (fun x => [Value.int .u8 (x : Int)]) (fun x => x < 256) 1 1 (fun _ => rfl) (fun x _ u hu => by simp at hu; subst hu; rfl) (by decide) hc hby
    (fun cs h => by
      obtain ⟨n, e1, e2⟩ := h.u8 he
      exact ⟨n, e1, e2⟩) h
  rw [bcells_flat] at h1
  exact ⟨l, h1, by simpa using h2, h3⟩
end Go.Proofs.Ytldcihjddebciaa
