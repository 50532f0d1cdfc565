/- air: two copies put together, as a step of a region. -/
import Derived.Test.YthemdbgcamkecaaAirY2
import Derived.Maps.AppendAt
namespace Go.Proofs.Ythemdbgcamkecaa
open Go.RowKit

/-- append at a step of a region that draws, whatever is appended -/
theorem step_append_at {P : Program} {w : World} {ops : Array Oper} {o : Oper} {a : Act} {K : Act → World → Prop} {Q : Exit → Act → World → Prop} {E : Prop} (hgd : o.guard = none) (s x : Operand) (t : TypeId)
    (ho : o.op = .call { callee := .builtin .append, args := #[s, x], argTypes := #[t, t] })
    (base : Nat) (e : TypeId) (i : TypeInfo) (z : Value) (size bytes : Nat) (ht : P.underlying t = some (.slice e)) (hi : P.info? e = some i) (hz : i.zero = some z)
    (hsize : i.size = size) (hby : i.bytes = bytes) (hzs : z.cells.size = size) (hsz : 0 < size)
    (v : Value) (n : Nat) (xs : List Value) (hs : a.eval s = v) (hown : w.ownsRow base e size v n xs)
    (ad : Addr) (m c : Nat) (news : List Value) (hx : a.eval x = .slice (some ad) m c) (hl : news.length = m * size) (hnews : ∀ j u, news[j]? = some u → w.cell? (ad.add j) = some u) (h1 : ∀ u ∈ news, u.oneCell' = true)
    (h63 : n + m ≤ maxLen) (hbytes : (n + m) * bytes ≤ 140737488355328) (hbase : base ≤ w.heap.size)
    (h : ∀ v' w', w'.ownsRow base e size v' (n + m) (xs ++ news) → w.grownBy w' v.ownBlock → (v' = .slice none 0 0 → v = .slice none 0 0) → K (a.put o.dst v') w') :
    if Region.wanted o (yielded ops a.tmps) = true then Oper.wp P o a w K Q else E := by
  have hw : Region.wanted o (yielded ops a.tmps) = true := by simp [Region.wanted, hgd]
  rw [if_pos hw]
  obtain ⟨v', w', hr, h2, h3, h4, _⟩ := run_append_own_at (P := P) w base t o.type e i z size bytes ht hi hz hsize hby hzs hsz v n xs hown ad m c news hl hnews h1 h63 hbytes hbase
  unfold Oper.wp execOp
  simp only [ho, resolve, invoke, builtin, Sem.run_bind, Sem.run_pure, Result.andThen_ok, List.map_toArray, List.map_cons, List.map_nil, hs, hx, hr]
  exact h v' w' h2 h3 (fun e => (h4.1 e).1)

/-- the cells of a copy, to be appended -/
theorem CopyInv.news {base e : Nat} {w : World} {out : Value} {ts : List Tr} {vs : List Value} (h : CopyInv base e w out ts vs) :
    ∃ g c, out = .slice (some ⟨g, 0, none⟩) ts.length c ∧ base ≤ g ∧ g < w.heap.size ∧ (∀ j u, (txcells ts vs)[j]? = some u → w.cell? ((⟨g, 0, none⟩ : Addr).add j) = some u) ∧ (∀ u ∈ txcells ts vs, u.oneCell' = true) ∧ (txcells ts vs).length = ts.length * 5 := by
  have one : ∀ (l : List Tr) (us : List Value), l.length = us.length → (∀ j (h : j < us.length), us[j].oneCell' = true) → ∀ u ∈ txcells l us, u.oneCell' = true := by
    intro l
    induction l with
    | nil => intro us _ _ u hu; cases us <;> simp [txcells] at hu
    | cons t l ih =>
      intro us hl hj u hu
      match us, hl, hj with
      | v :: us, hl, hj =>
        simp only [txcells, List.mem_cons] at hu
        rcases hu with rfl | rfl | rfl | rfl | rfl | hu
        · rfl
        · rfl
        · rfl
        · rfl
        · exact hj 0 (by simp)
        · exact ih us (by simpa using hl) (fun j h => hj (j + 1) (by simpa using h)) u hu
  have hl := h.len
  have h1 := one ts vs h.len (fun j hj => by
    obtain ⟨ao, cap, e⟩ := (h.rd j (by omega) hj).1.1.val
    rw [e]
    rfl)
  have ho := h.own
  rcases ho.2 with ⟨h0, _⟩ | ⟨g, c, cur, rfl, hb, hg, _⟩
  · exact absurd h0 h.some'
  refine ⟨g, c, rfl, hb, (Array.getElem?_eq_some_iff.1 hg).1, fun j u hj => ?_, h1, ho.1⟩
  have ha : (⟨g, 0, none⟩ : Addr).add j = ⟨g, j, none⟩ := by unfold Addr.add; split <;> simp_all
  have hl := (List.getElem?_eq_some_iff.1 hj).1
  rw [ho.1] at hl
  rw [ha, ho.cellAt j (by omega), hj]
end Go.Proofs.Ythemdbgcamkecaa
