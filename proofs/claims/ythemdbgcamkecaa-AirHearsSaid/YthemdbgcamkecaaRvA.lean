/- air: lists of receptions: plain. -/
import Derived.Test.YthemdbgcamkecaaRcU
import Derived.Test.YthemdbgcamkecaaAirR
import Derived.Test.YthemdbgcamkecaaAirZ0
namespace Go.Proofs.Ythemdbgcamkecaa
open Go.RowKit

theorem Try.info_rc : (Try.prog.info? 47).map (fun i => (i.zero, i.size, i.bytes)) = some (some (.agg #[.int .i64 0, .int .i64 0, .int .i64 0, .int .i64 0, .int .i64 0, .slice none 0 0]), 6, 64) := by kernel_rfl
instance : Inhabited Rc := ⟨noRc⟩
def rcells : List Rc → List Value → List Value
  | r :: l, v :: vs => .int .i64 r.id :: .int .i64 r.to :: .int .i64 r.kd :: .int .i64 r.st :: .int .i64 r.en :: v :: rcells l vs
  | _, _ => []
theorem rcells_app : ∀ (l l' : List Rc) (vs vs' : List Value), l.length = vs.length → rcells (l ++ l') (vs ++ vs') = rcells l vs ++ rcells l' vs'
  | [], _, [], _, _ => rfl
  | x :: l, l', y :: vs, vs', h => by
    have := rcells_app l l' vs vs' (by simpa using h)
    simp [rcells, this]
theorem rcells_get : ∀ (l : List Rc) (vs : List Value) (k : Nat) (h : k < l.length) (h' : k < vs.length), (rcells l vs)[k * 6]? = some (.int .i64 l[k].id) ∧ (rcells l vs)[k * 6 + 1]? = some (.int .i64 l[k].to) ∧ (rcells l vs)[k * 6 + 2]? = some (.int .i64 l[k].kd) ∧ (rcells l vs)[k * 6 + 3]? = some (.int .i64 l[k].st) ∧ (rcells l vs)[k * 6 + 4]? = some (.int .i64 l[k].en) ∧ (rcells l vs)[k * 6 + 5]? = some vs[k]
  | t :: l, v :: vs, 0, _, _ => by simp [rcells]
  | t :: l, v :: vs, k+1, h, h' => by
    have := rcells_get l vs k (by simpa using h) (by simpa using h')
    rw [show (k + 1) * 6 = k * 6 + 1 + 1 + 1 + 1 + 1 + 1 by omega]
    simpa [rcells, Nat.add_assoc] using this
theorem rcells_len : ∀ (l : List Rc) (vs : List Value), l.length = vs.length → (rcells l vs).length = l.length * 6
  | [], [], _ => rfl
  | x :: l, y :: vs, h => by
    have := rcells_len l vs (by simpa using h)
    simp [rcells, this]; omega
theorem rcells_take (l : List Rc) (vs : List Value) (h : l.length = vs.length) (k : Nat) (hk : k ≤ l.length) : (rcells l vs).take (k * 6) = rcells (l.take k) (vs.take k) := by
  have e : rcells l vs = rcells (l.take k) (vs.take k) ++ rcells (l.drop k) (vs.drop k) := by
    rw [← rcells_app _ _ _ _ (by rw [List.length_take, List.length_take]; omega), List.take_append_drop, List.take_append_drop]
  have hl := rcells_len (l.take k) (vs.take k) (by rw [List.length_take, List.length_take]; omega)
  rw [List.length_take, Nat.min_eq_left hk] at hl
  rw [e, List.take_append_of_le_length (by omega), List.take_of_length_le (by omega)]
theorem rcells_drop (l : List Rc) (vs : List Value) (h : l.length = vs.length) (k : Nat) (hk : k ≤ l.length) : (rcells l vs).drop (k * 6) = rcells (l.drop k) (vs.drop k) := by
  have e : rcells l vs = rcells (l.take k) (vs.take k) ++ rcells (l.drop k) (vs.drop k) := by
    rw [← rcells_app _ _ _ _ (by rw [List.length_take, List.length_take]; omega), List.take_append_drop, List.take_append_drop]
  have hl := rcells_len (l.take k) (vs.take k) (by rw [List.length_take, List.length_take]; omega)
  rw [List.length_take, Nat.min_eq_left hk] at hl
  rw [e, List.drop_append_of_le_length (by omega), List.drop_of_length_le (by omega), List.nil_append]

/-- what is known of each reception of a list: its bytes lie in a block of their own -/
def Rd1 (base : Nat) (w : World) (out : Value) (r : Rc) (v : Value) : Prop := BytesAt w v r.bs ∧ (r.bs = [] ∨ ∃ b, v.ownBlock = some b ∧ base ≤ b ∧ b < w.heap.size ∧ out.ownBlock ≠ some b)
structure RInv (base : Nat) (w : World) (out : Value) (rs : List Rc) (vs : List Value) : Prop where
  len : rs.length = vs.length
  own : w.ownsRow base 47 6 out rs.length (rcells rs vs)
  rd : ∀ j (h : j < rs.length) (h' : j < vs.length), Rd1 base w out rs[j] vs[j]
theorem Rd1.below {base : Nat} {w w' : World} {out : Value} {r : Rc} {v : Value} (h : Rd1 base w out r v) (hb : Below w.heap.size w w') : Rd1 base w' out r v :=
  ⟨h.1.below hb, h.2.imp id (fun ⟨b, e1, e2, e3, e4⟩ => ⟨b, e1, e2, Nat.lt_of_lt_of_le e3 hb.size, e4⟩)⟩
theorem RInv.below {base : Nat} {w w' : World} {out : Value} {rs : List Rc} {vs : List Value} (h : RInv base w out rs vs) (hb : Below w.heap.size w w') : RInv base w' out rs vs :=
  ⟨h.len, own_below h.own hb, fun j h1 h2 => (h.rd j h1 h2).below hb⟩
theorem Rd1.move {base : Nat} {W w' : World} {out out' : Value} {r : Rc} {v : Value} (h : Rd1 base W out r v) (hg : W.grownBy w' out.ownBlock) (ho : out'.ownBlock = out.ownBlock ∨ out'.ownBlock = some W.heap.size) : Rd1 base w' out' r v := by
  refine ⟨⟨h.1.1.grown hg ?_, h.1.2⟩, ?_⟩
  · rcases h.2 with h0 | ⟨b, e1, _, _, e4⟩
    · exact .inl (by rw [h0]; rfl)
    · exact .inr ⟨b, e1, e4⟩
  · rcases h.2 with h0 | ⟨b, e1, e2, e3, e4⟩
    · exact .inl h0
    · refine .inr ⟨b, e1, e2, Nat.lt_of_lt_of_le e3 hg.size, ?_⟩
      rcases ho with h | h
      · rw [h]; exact e4
      · rw [h]; intro e; cases e; omega
theorem RInv.push {base : Nat} {W w' : World} {out out' : Value} {rs : List Rc} {vs : List Value} (h : RInv base W out rs vs) {r : Rc} {v : Value} (hv : Rd1 base W out r v)
    (hown : w'.ownsRow base 47 6 out' (rs.length + 1) (rcells rs vs ++ [.int .i64 r.id, .int .i64 r.to, .int .i64 r.kd, .int .i64 r.st, .int .i64 r.en, v])) (hg : W.grownBy w' out.ownBlock)
    (ho' : out'.ownBlock = out.ownBlock ∨ out'.ownBlock = some W.heap.size) : RInv base w' out' (rs ++ [r]) (vs ++ [v]) := by
  have hl := h.len
  refine ⟨by simp [h.len], by rw [rcells_app _ _ _ _ h.len]; simpa [rcells] using hown, fun j h1 h2 => ?_⟩
  by_cases hj : j < rs.length
  · simp only [List.getElem_append_left hj, List.getElem_append_left (show j < vs.length by omega)]
    exact (h.rd j hj (by omega)).move hg ho'
  · simp at h1
    have e1 : j = rs.length := by omega
    subst e1
    have e2 : (vs ++ [v])[rs.length] = v := by simp [hl]
    have e3 : (rs ++ [r])[rs.length] = r := by simp
    rw [e2, e3]
    exact hv.move hg ho'
theorem rcells_one (l : List Rc) (vs : List Value) (h : l.length = vs.length) (hv : ∀ j (h : j < vs.length), vs[j].oneCell' = true) : ∀ u ∈ rcells l vs, u.oneCell' = true := by
  induction l generalizing vs with
  | nil => intro u hu; cases vs <;> simp [rcells] at hu
  | cons t l ih =>
    intro u hu
    match vs, h, hv with
    | v :: vs, h, hv =>
      simp only [rcells, List.mem_cons] at hu
      rcases hu with rfl | rfl | rfl | rfl | rfl | rfl | hu
      · rfl
      · rfl
      · rfl
      · rfl
      · rfl
      · exact hv 0 (by simp)
      · exact ih vs (by simpa using h) (fun j h => hv (j + 1) (by simpa using h)) u hu
theorem RInv.one {base : Nat} {w : World} {out : Value} {rs : List Rc} {vs : List Value} (h : RInv base w out rs vs) : ∀ j (hj : j < vs.length), vs[j].oneCell' = true := fun j hj => by
  obtain ⟨ao, cap, e⟩ := (h.rd j (by have := h.len; omega) hj).1.1.val
  rw [e]
  rfl

/-- a list of receptions that is read -/
def Rcs (w : World) (v : Value) (rs : List Rc) : Prop := rs.length ≤ maxLen ∧ ∃ (ao : Option Addr) (cap : Nat), v = .slice ao rs.length cap ∧
  (0 < rs.length → ∃ b off, ao = some ⟨b, off, none⟩ ∧ b < w.heap.size ∧ ∀ k (h : k < rs.length), ∃ va, w.cell? ⟨b, off + k * 6, none⟩ = some (.int .i64 rs[k].id) ∧ w.cell? ⟨b, off + k * 6 + 1, none⟩ = some (.int .i64 rs[k].to) ∧
    w.cell? ⟨b, off + k * 6 + 2, none⟩ = some (.int .i64 rs[k].kd) ∧ w.cell? ⟨b, off + k * 6 + 3, none⟩ = some (.int .i64 rs[k].st) ∧ w.cell? ⟨b, off + k * 6 + 4, none⟩ = some (.int .i64 rs[k].en) ∧ w.cell? ⟨b, off + k * 6 + 5, none⟩ = some va ∧ BytesAt w va rs[k].bs)
theorem Rcs.below {w w' : World} {v : Value} {rs : List Rc} (h : Rcs w v rs) (hb : Below w.heap.size w w') : Rcs w' v rs := by
  obtain ⟨h1, ao, cap, rfl, h2⟩ := h
  refine ⟨h1, ao, cap, rfl, fun h0 => ?_⟩
  obtain ⟨b, off, rfl, hlt, hc⟩ := h2 h0
  refine ⟨b, off, rfl, Nat.lt_of_lt_of_le hlt hb.size, fun k hk => ?_⟩
  obtain ⟨va, c0, c1, c2, c3, c4, c5, hby⟩ := hc k hk
  exact ⟨va, kc c0 hb, kc c1 hb, kc c2 hb, kc c3 hb, kc c4 hb, kc c5 hb, hby.below hb⟩
theorem RInv.rcs {base : Nat} {w : World} {out : Value} {rs : List Rc} {vs : List Value} (h : RInv base w out rs vs) : Rcs w out rs := by
  have hl := h.len
  have hsr := SR.of_own h.own (rcells_one rs vs h.len h.one) (cap_of h.own)
  obtain ⟨h1, _, _, ao, cap, rfl, _, hc⟩ := hsr
  refine ⟨h1, ao, cap, rfl, fun h0 => ?_⟩
  obtain ⟨b, off, rfl, hb, hcell⟩ := hc h0
  refine ⟨b, off, rfl, hb, fun k hk => ?_⟩
  obtain ⟨g0, g1, g2, g3, g4, g5⟩ := rcells_get rs vs k hk (by omega)
  exact ⟨vs[k], hcell _ _ g0, hcell _ _ g1, hcell _ _ g2, hcell _ _ g3, hcell _ _ g4, hcell _ _ g5, (h.rd k hk (by omega)).1⟩

/-- a reception's cells -/
def elOf (r : Rc) (v : Value) : El := ⟨.int .i64 r.id, .int .i64 r.to, .int .i64 r.kd, .int .i64 r.st, .int .i64 r.en, v⟩
theorem elOf_one (r : Rc) (v : Value) (h : v.oneCell' = true) : (elOf r v).one := ⟨rfl, rfl, rfl, rfl, rfl, h⟩
/-- in the order of p -/
def prm (h : Nat → Rc) (p : Nat → Nat) (n : Nat) : List Rc := (List.range n).map (fun k => h (p k))
theorem prm_len (h : Nat → Rc) (p : Nat → Nat) (n : Nat) : (prm h p n).length = n := by simp [prm]
theorem prm_get (h : Nat → Rc) (p : Nat → Nat) (n k : Nat) (hk : k < (prm h p n).length) : (prm h p n)[k] = h (p k) := by simp [prm]
theorem prm_congr {h h' : Nat → Rc} {p q : Nat → Nat} {n : Nat} (e : ∀ k, k < n → h (p k) = h' (q k)) : prm h p n = prm h' q n := by
  unfold prm
  refine List.map_congr_left fun k hk => e k (List.mem_range.1 hk)
theorem RInv.row {base : Nat} {w : World} {out : Value} {rs : List Rc} {vs : List Value} (h : RInv base w out rs vs) (h0 : 0 < rs.length) :
    ∃ g cap, out = .slice (some ⟨g, 0, none⟩) rs.length cap ∧ base ≤ g ∧ Row6 47 w g 0 (fun k => elOf (rs.getD k default) (vs.getD k (.slice none 0 0))) (fun k => k) rs.length := by
  have hl := h.len
  rcases h.own.2 with ⟨_, hz⟩ | ⟨g, cap, cur, rfl, hb, hg, h1, h2, h3, h4⟩
  · omega
  refine ⟨g, cap, rfl, hb, cur, hg, by omega, fun k hk j hj => ?_⟩
  have e : cur[0 + k * 6 + j]? = (rcells rs vs)[k * 6 + j]? := by
    rw [← h4, List.getElem?_take, if_pos (by omega), Array.getElem?_toList, Nat.zero_add]
  rw [e]
  obtain ⟨g0, g1, g2, g3, g4, g5⟩ := rcells_get rs vs k hk (by omega)
  show (rcells rs vs)[k * 6 + j]? = (elOf (rs.getD k default) (vs.getD k (.slice none 0 0))).cells[j]?
  rw [show rs.getD k default = rs[k] by rw [List.getD_eq_getElem?_getD, List.getElem?_eq_getElem hk]; rfl, show vs.getD k (.slice none 0 0) = vs[k]'(by omega) by rw [List.getD_eq_getElem?_getD, List.getElem?_eq_getElem (by omega)]; rfl]
  match j, hj with
  | 0, _ => exact g0
  | 1, _ => exact g1
  | 2, _ => exact g2
  | 3, _ => exact g3
  | 4, _ => exact g4
  | 5, _ => exact g5
theorem rcs_of_row {w : World} {b n cap : Nat} {h : Nat → Rc} {vf : Nat → Value} {p : Nat → Nat} (hr : Row6 47 w b 0 (fun k => elOf (h k) (vf k)) p n) (hm : n ≤ maxLen) (hb : ∀ k, k < n → BytesAt w (vf (p k)) (h (p k)).bs) : Rcs w (.slice (some ⟨b, 0, none⟩) n cap) (prm h p n) := by
  refine ⟨by rw [prm_len]; exact hm, some ⟨b, 0, none⟩, cap, by rw [prm_len], fun _ => ⟨b, 0, rfl, hr.lt, fun k hk => ?_⟩⟩
  rw [prm_get]
  rw [prm_len] at hk
  obtain ⟨c0, c1, c2, c3, c4, c5⟩ := hr.get hk
  exact ⟨vf (p k), c0, c1, c2, c3, c4, c5, hb k hk⟩

/-- the order of receptions -/
def rlt (a b : Rc) : Prop := a.st < b.st ∨ (a.st = b.st ∧ (a.id < b.id ∨ (a.id = b.id ∧ a.to < b.to)))
theorem rlt_swo (h : Nat → Rc) : Swo (fun x y => rlt (h x) (h y)) := by
  refine ⟨fun x => ?_, fun x y z => ?_, fun x y z => ?_⟩ <;> unfold rlt <;> omega
theorem rlt_or (a b : Rc) : orL [cmpI a.st b.st, cmpI a.id b.id, cmpI a.to b.to] < 0 ↔ rlt a b := by
  unfold rlt
  rcases cmp_cases a.st b.st with ⟨h1, e1⟩ | ⟨h1, e1⟩ | ⟨h1, e1⟩ <;> rcases cmp_cases a.id b.id with ⟨h2, e2⟩ | ⟨h2, e2⟩ | ⟨h2, e2⟩ <;> rcases cmp_cases a.to b.to with ⟨h3, e3⟩ | ⟨h3, e3⟩ | ⟨h3, e3⟩ <;> simp [orL, e1, e2, e3] <;> omega
/-- one order alone -/
theorem srt_unique {lt : Nat → Nat → Prop} (ho : Swo lt) {p q : Nat → Nat} {n : Nat} (hp : Srt lt p 0 n) (hq : Srt lt q 0 n) (mp : Mem (fun k => k) p 0 n) (mq : Mem (fun k => k) q 0 n) : ∀ k, k < n → p k = q k := by
  have irr : ∀ x, ¬ Lx lt x x := fun x h => by
    rcases h with h | ⟨_, h⟩
    · exact ho.ir x h
    · omega
  have key : ∀ k, (∀ j, j < k → j < n → p j = q j) → k < n → p k = q k := fun k ih hk => by
    have hpk : p k < n := by
      obtain ⟨j, _, h2, e⟩ := mp.from' k (Nat.zero_le _) hk
      rw [e]; exact h2
    have hqk : q k < n := by
      obtain ⟨j, _, h2, e⟩ := mq.from' k (Nat.zero_le _) hk
      rw [e]; exact h2
    obtain ⟨i, _, hi, ei⟩ := mq.into (p k) (Nat.zero_le _) hpk
    obtain ⟨i', _, hi', ei'⟩ := mp.into (q k) (Nat.zero_le _) hqk
    have h1 : k ≤ i := Nat.le_of_not_lt fun h => by
      have := ih i h hi
      rw [ei] at this
      have h2 := hp i k (Nat.zero_le _) h hk
      rw [this] at h2
      exact irr _ h2
    have h2 : k ≤ i' := Nat.le_of_not_lt fun h => by
      have := ih i' h hi'
      rw [ei'] at this
      have h2 := hq i' k (Nat.zero_le _) h hk
      rw [← this] at h2
      exact irr _ h2
    by_cases c1 : i = k
    · rw [c1] at ei; exact ei.symm
    · by_cases c2 : i' = k
      · rw [c2] at ei'; exact ei'
      · have l1 := hq k i (Nat.zero_le _) (by omega) hi
        have l2 := hp k i' (Nat.zero_le _) (by omega) hi'
        rw [ei] at l1
        rw [ei'] at l2
        exact absurd (l1.trans ho l2) (irr _)
  have all : ∀ m k, k < m → k < n → p k = q k := by
    intro m
    induction m with
    | zero => intro k h; omega
    | succ m ih =>
      intro k h hk
      by_cases c : k < m
      · exact ih k c hk
      · exact key k (fun j hj hjn => ih j (by omega) hjn) hk
  exact fun k hk => all n k hk hk
/-- one more element put into its place -/
theorem prm_ins {h : Nat → Rc} {q : Nat → Nat} {m at' : Nat} (ha : at' ≤ m) (hq : q m = m) : (prm h q m).take at' ++ [h m] ++ (prm h q m).drop at' = prm h (rot q at' m (m + 1)) (m + 1) := by
  refine List.ext_getElem ?_ fun k h1 h2 => ?_
  · simp [prm_len]; omega
  · rw [prm_get]
    rw [prm_len] at h2
    unfold rot
    by_cases c1 : k < at'
    · rw [if_neg (by omega), if_neg (by omega), List.getElem_append_left (by simp [prm_len]; omega), List.getElem_append_left (by simp [prm_len]; omega), List.getElem_take, prm_get]
    · by_cases c2 : k = at'
      · subst c2
        rw [if_pos (by omega), List.getElem_append_left (by simp [prm_len]; omega), List.getElem_append_right (by simp [prm_len]; omega), show k + (m - k) = m by omega, hq]
        simp
      · rw [if_neg (by omega), if_pos (by omega), List.getElem_append_right (by simp [prm_len]; omega), List.getElem_drop, prm_get]
        congr 1
        simp [prm_len]
        congr 1
        omega
end Go.Proofs.Ythemdbgcamkecaa
