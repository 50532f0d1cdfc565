/- air: parts of a row of transmissions. -/
import Derived.Test.YthemdbgcamkecaaAirY
namespace Go.Proofs.Ythemdbgcamkecaa
open Go.RowKit

theorem Txs.first {w : World} {b off n cap : Nat} {ts : List Tr} (h : Txs w (.slice (some ⟨b, off, none⟩) n cap) ts) (k : Nat) (hk : k ≤ n) : Txs w (.slice (some ⟨b, off, none⟩) k cap) (ts.take k) := by
  obtain ⟨h1, ao, c, e, h2⟩ := h
  simp only [Value.slice.injEq] at e
  obtain ⟨e0, e1, rfl⟩ := e
  have hl : (ts.take k).length = k := by rw [List.length_take]; omega
  refine ⟨by omega, some ⟨b, off, none⟩, cap, by rw [hl], fun h0 => ?_⟩
  obtain ⟨b', off', rfl, hb, hc⟩ := h2 (by omega)
  simp only [Option.some.injEq, Addr.mk.injEq, and_true] at e0
  obtain ⟨rfl, rfl⟩ := e0
  refine ⟨b, off, rfl, hb, fun j hj => ?_⟩
  rw [List.getElem_take]
  exact hc j (by omega)
theorem Txs.rest {w : World} {b off n cap : Nat} {ts : List Tr} (h : Txs w (.slice (some ⟨b, off, none⟩) n cap) ts) (hcap : n ≤ cap) (k : Nat) (hk : k < n) :
    Txs w (.slice (if cap = k + 1 then some ⟨b, off, none⟩ else some ⟨b, off + (k + 1) * 5, none⟩) (n - (k + 1)) (cap - (k + 1))) (ts.drop (k + 1)) := by
  obtain ⟨h1, ao, c, e, h2⟩ := h
  simp only [Value.slice.injEq] at e
  obtain ⟨e0, e1, rfl⟩ := e
  have hl : (ts.drop (k + 1)).length = n - (k + 1) := by rw [List.length_drop]; omega
  refine ⟨by omega, _, cap - (k + 1), by rw [hl], fun h0 => ?_⟩
  obtain ⟨b', off', rfl, hb, hc⟩ := h2 (by omega)
  simp only [Option.some.injEq, Addr.mk.injEq, and_true] at e0
  obtain ⟨rfl, rfl⟩ := e0
  refine ⟨b, off + (k + 1) * 5, by rw [if_neg (by omega)], hb, fun j hj => ?_⟩
  have := hc (k + 1 + j) (by omega)
  rw [List.getElem_drop]
  unfold TxAt at this ⊢
  rw [show off + (k + 1 + j) * 5 = off + (k + 1) * 5 + j * 5 by omega] at this
  exact this
theorem txs_of_row {base e : Nat} {w : World} {out : Value} {ts : List Tr} {vs : List Value} (hlen : ts.length = vs.length) (hown : w.ownsRow base e 5 out ts.length (txcells ts vs)) (hrd : ∀ j (h : j < ts.length) (h' : j < vs.length), BytesAt w vs[j] ts[j].bs) : Txs w out ts := by
  have one : ∀ (l : List Tr) (us : List Value), l.length = us.length → (∀ j (h : j < us.length), us[j].oneCell' = true) → ∀ u ∈ txcells l us, u.oneCell' = true := by
    intro l
    induction l with
    | nil => intro us _ _ u hu; cases us <;> simp [txcells] at hu
    | cons t l ih =>
      intro us hl hj u hu
      match us, hl, hj with
      | v :: us, hl, hj =>
        simp only [txcells, List.mem_cons] at hu
        rcases hu with rfl | rfl | rfl | rfl | rfl | hu
        · rfl
        · rfl
        · rfl
        · rfl
        · exact hj 0 (by simp)
        · exact ih us (by simpa using hl) (fun j h => hj (j + 1) (by simpa using h)) u hu
  have hl := hlen
  have hsr := SR.of_own hown (one ts vs hlen (fun j hj => by
    obtain ⟨ao, cap, e⟩ := (hrd j (by omega) hj).1.val
    rw [e]; rfl)) (cap_of hown)
  obtain ⟨h1, _, _, ao, cap, rfl, _, hc⟩ := hsr
  refine ⟨h1, ao, cap, rfl, fun h0 => ?_⟩
  obtain ⟨b, off, rfl, hb, hcell⟩ := hc h0
  refine ⟨b, off, rfl, hb, fun k hk => ?_⟩
  obtain ⟨g0, g1, g2, g3, g4⟩ := txcells_get ts vs k hk (by omega)
  have hby := hrd k hk (by omega)
  obtain ⟨a, c, e⟩ := hby.1.val
  rw [e] at hby g4
  exact ⟨a, c, hcell _ _ g0, hcell _ _ g1, hcell _ _ g2, hcell _ _ g3, hcell _ _ g4, hby⟩


theorem txcells_app : ∀ (l l' : List Tr) (vs vs' : List Value), l.length = vs.length → txcells (l ++ l') (vs ++ vs') = txcells l vs ++ txcells l' vs'
  | [], _, [], _, _ => rfl
  | x :: l, l', y :: vs, vs', h => by
    have := txcells_app l l' vs vs' (by simpa using h)
    simp [txcells, this]
theorem copies_append {b1 b2 e : Nat} {W w' : World} {out1 out2 out' : Value} {ts1 ts2 : List Tr} {vs1 vs2 : List Value} (h1 : CopyInv b1 e W out1 ts1 vs1) (h2 : CopyInv b2 e W out2 ts2 vs2) (hlow : ∀ g, out1.ownBlock = some g → g < b2)
    (hown : w'.ownsRow b1 e 5 out' (ts1.length + ts2.length) (txcells ts1 vs1 ++ txcells ts2 vs2)) (hg : W.grownBy w' out1.ownBlock) : Txs w' out' (ts1 ++ ts2) := by
  have l1 := h1.len
  have l2 := h2.len
  refine txs_of_row (vs := vs1 ++ vs2) (by simp [l1, l2]) (by rw [List.length_append, txcells_app _ _ _ _ l1]; exact hown) (fun j hj hj' => ?_)
  by_cases hlt : j < ts1.length
  · obtain ⟨q1, _, q3⟩ := h1.rd j hlt (by omega)
    simp only [List.getElem_append_left hlt, List.getElem_append_left (show j < vs1.length by omega)]
    refine ⟨q1.1.grown hg ?_, q1.2⟩
    rcases q3 with h | ⟨b, e1, _, e3⟩
    · exact .inl (by rw [h]; rfl)
    · exact .inr ⟨b, e1, e3⟩
  · simp only [List.length_append] at hj hj'
    obtain ⟨q1, q2, q3⟩ := h2.rd (j - ts1.length) (by omega) (by omega)
    rw [List.getElem_append_right (by omega), List.getElem_append_right (by omega)]
    simp only [← l1]
    refine ⟨q1.1.grown hg ?_, q1.2⟩
    rcases q3 with h | ⟨b, e1, _, e3⟩
    · exact .inl (by rw [h]; rfl)
    · exact .inr ⟨b, e1, fun e => by have := hlow b e; have := q2 b e1; omega⟩
end Go.Proofs.Ythemdbgcamkecaa
