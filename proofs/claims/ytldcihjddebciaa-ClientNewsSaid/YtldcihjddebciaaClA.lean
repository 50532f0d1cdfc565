/- client: common lemmas; lists of what is found. -/
import Derived.Test.YtldcihjddebciaaTk
import Derived.Test.YtldcihjddebciaaUuL
import Derived.Test.YtldcihjddebciaaUuG
import Derived.Test.YtldcihjddebciaaFresh
import Derived.Maps.AppendAt
import Derived.Maps.OwnSet
import Derived.WalkSpells
import Derived.WalkSmall
import Derived.BigQuiet
import Derived.Deep.QuietTactic
import Derived.Deep.RegionHeld3
import Derived.Deep.DeepCutAuto
import Derived.Deep.CutRange
namespace Go.Proofs.Ytldcihjddebciaa
open Go.RowKit

theorem SR.grown {w w' : World} {v : Value} {n size : Nat} {cs : List Value} {row : Option Nat} (h : SR w v n size cs) (hg : w.grownBy w' row) (hne : n = 0 ∨ ∃ b, v.ownBlock = some b ∧ row ≠ some b) : SR w' v n size cs := by
  obtain ⟨h1, h2, h3, ao, cap, rfl, hn, h4⟩ := h
  refine ⟨h1, h2, h3, ao, cap, rfl, hn, fun h0 => ?_⟩
  obtain ⟨b, off, rfl, hlt, hc⟩ := h4 h0
  rcases hne with h | ⟨b', hb', hne⟩
  · omega
  · simp [Value.ownBlock] at hb'
    subst hb'
    exact ⟨b, off, rfl, Nat.lt_of_lt_of_le hlt hg.size, fun j u hj => (World.cell?_of_block (a := ⟨b, off + j, none⟩) (hg.block b hlt (fun e => hne e.symm))).trans (hc j u hj)⟩
theorem BytesAt.nil_or {w : World} {v : Value} {bs : List Nat} (h : BytesAt w v bs) : bs = [] ∨ ∃ b, v.ownBlock = some b ∧ b < w.heap.size := by
  obtain ⟨⟨h1, h2, h3, ao, cap, rfl, hn, h4⟩, _⟩ := h
  by_cases h0 : bs = []
  · exact .inl h0
  · obtain ⟨b', off, rfl, hlt, hc⟩ := h4 (List.length_pos_iff.2 h0)
    exact .inr ⟨b', by simp [Value.ownBlock], hlt⟩
theorem alloc_named {W X : World} {o : Obj} (h : W.alloc o = X) : X.heap[W.heap.size]? = some o ∧ Below W.heap.size W X ∧ X.heap.size = W.heap.size + 1 := by
  subst h
  exact ⟨heap_alloc_new W o, (Below.refl _ _).alloc (Nat.le_refl _) _, by simp⟩
theorem set1 (W : World) (p : Addr) (u : Value) : W.grownBy (W.setCell p u) (some p.block) :=
  ⟨rfl, rfl, rfl, by simp [World.setCell], fun k _ hne => heap_setCell_other _ _ _ _ (fun e => hne (by rw [e]))⟩
theorem Cells.grown {W X : World} {i : Nat} (hg : W.grownBy X (some i)) : ∀ {l : List (Nat × Nat × Value)}, Cells W l → (∀ x ∈ l, x.1 ≠ i) → Cells X l
  | [], _, _ => trivial
  | (b, o, v) :: l, h, hne => ⟨(World.cell?_of_block (a := ⟨b, o, none⟩) (hg.block b (World.block_lt_of_cell? W _ h.1) (fun e => hne (b, o, v) (by simp) (by simpa using e)))).trans h.1, Cells.grown hg h.2 (fun x hx => hne x (by simp [hx]))⟩
theorem BytesAt.grown {w w' : World} {v : Value} {bs : List Nat} {i : Nat} (h : BytesAt w v bs) (hg : w.grownBy w' (some i)) (hne : v.ownBlock ≠ some i) : BytesAt w' v bs := by
  refine ⟨h.1.grown hg ?_, h.2⟩
  rcases h.nil_or with e | ⟨b, e1, _⟩
  · exact .inl (by rw [e]; rfl)
  · exact .inr ⟨b, e1, fun e => hne (by rw [e1]; exact e.symm)⟩
/-- one element -/
theorem sr_one {w : World} {i : Nat} {t : TypeId} {x : Value} (h : w.heap[i]? = some (.cells #[x] t (0, 0))) (hx : x.oneCell' = true) : SR w (.slice (some ⟨i, 0, none⟩) 1 1) 1 1 [x] :=
  ⟨by unfold maxLen; simp, rfl, by simpa using hx, some ⟨i, 0, none⟩, 1, rfl, fun h => (by cases h), fun _ => ⟨i, 0, rfl, (Array.getElem?_eq_some_iff.1 h).1, fun j u hj => by
    match j, hj with
    | 0, hj =>
      simp at hj
      subst hj
      exact cell_of_row _ _ 0 _ _ _ h⟩⟩
theorem ownsMap_below {H : Type} {P : Program} {k : TypeId} {R : Value → Option (DataW H × List MemPlace)} {w w' : World} {b n : Nat} {D : DataW H} (h : w.ownsMap P k R b n D) (hB : Below w.heap.size w w') : w'.ownsMap P k R b n D := by
  have hlt := h.lt
  obtain ⟨es, clock, hb, F, hs, hD⟩ := h
  exact ⟨es, clock, (hB.block b hlt).trans hb, F, hs, hD⟩
theorem Cells.grownO {W X : World} {r : Option Nat} (hg : W.grownBy X r) : ∀ {l : List (Nat × Nat × Value)}, Cells W l → (∀ x ∈ l, r ≠ some x.1) → Cells X l
  | [], _, _ => trivial
  | (b, o, v) :: l, h, hne => ⟨(World.cell?_of_block (a := ⟨b, o, none⟩) (hg.block b (World.block_lt_of_cell? W _ h.1) (fun e => hne (b, o, v) (by simp) e.symm))).trans h.1, Cells.grownO hg h.2 (fun x hx => hne x (by simp [hx]))⟩
theorem step_append_own {P : Program} {w : World} {ops : Array Oper} {o : Oper} {a : Act} {K : Act → World → Prop} {Q : Exit → Act → World → Prop} {E : Prop} (hgd : o.guard = none) (s x : Operand) (t : TypeId)
    (ho : o.op = .call { callee := .builtin .append, args := #[s, x], argTypes := #[t, t] })
    (base : Nat) (e : TypeId) (i : TypeInfo) (z : Value) (size bytes : Nat) (ht : P.underlying t = some (.slice e)) (hi : P.info? e = some i) (hz : i.zero = some z)
    (hsize : i.size = size) (hby : i.bytes = bytes) (hzs : z.cells.size = size) (hsz : 0 < size)
    (v : Value) (n : Nat) (xs : List Value) (hs : a.eval s = v) (hown : w.ownsRow base e size v n xs)
    (ad : Addr) (m c : Nat) (news : List Value) (hx : a.eval x = .slice (some ad) m c) (hl : news.length = m * size) (hnews : ∀ j u, news[j]? = some u → w.cell? (ad.add j) = some u) (h1 : ∀ u ∈ news, u.oneCell' = true)
    (h63 : n + m ≤ maxLen) (hbytes : (n + m) * bytes ≤ 140737488355328) (hbase : base ≤ w.heap.size)
    (h : ∀ v' w', w'.ownsRow base e size v' (n + m) (xs ++ news) → w.grownBy w' v.ownBlock → (v'.ownBlock = v.ownBlock ∨ v'.ownBlock = some w.heap.size) → K (a.put o.dst v') w') :
    if Region.wanted o (yielded ops a.tmps) = true then Oper.wp P o a w K Q else E := by
  have hw : Region.wanted o (yielded ops a.tmps) = true := by simp [Region.wanted, hgd]
  rw [if_pos hw]
  obtain ⟨v', w', hr, h2, h3, _, h5⟩ := run_append_own_at (P := P) w base t o.type e i z size bytes ht hi hz hsize hby hzs hsz v n xs hown ad m c news hl hnews h1 h63 hbytes hbase
  unfold Oper.wp execOp
  simp only [ho, resolve, invoke, builtin, Sem.run_bind, Sem.run_pure, Result.andThen_ok, List.map_toArray, List.map_cons, List.map_nil, hs, hx, hr]
  exact h v' w' h2 h3 h5
theorem Cells.setCell {W : World} {p : Addr} (u : Value) : ∀ {l : List (Nat × Nat × Value)}, Cells W l → (∀ x ∈ l, x.1 ≠ p.block) → Cells (W.setCell p u) l
  | [], _, _ => trivial
  | (b, o, v) :: l, h, hne => ⟨(World.cell?_of_block (a := ⟨b, o, none⟩) (heap_setCell_other W p b u (fun e => hne (b, o, v) (by simp) e))).trans h.1, Cells.setCell u h.2 (fun x hx => hne x (by simp [hx]))⟩
/-- what was found -/
structure Fd where
  ha : Int
  la : Int
  va : Int
  pr : Int
  hi : Int
  lo : Int
instance : Inhabited Fd := ⟨⟨0, 0, 0, 0, 0, 0⟩⟩
def fenc (x : Fd) : List Value := [.int .u16 x.ha, .int .u16 x.la, .int .u16 x.va, .int .i64 x.pr, .int .u64 x.hi, .int .u64 x.lo]
def fcells (l : List Fd) : List Value := l.flatMap fenc
theorem fcells_len (l : List Fd) : (fcells l).length = l.length * 6 := by
  induction l with
  | nil => rfl
  | cons x l ih =>
    unfold fcells at ih ⊢
    rw [List.flatMap_cons, List.length_append, ih]
    simp [fenc]
    omega
theorem fcells_one (l : List Fd) : ∀ u ∈ fcells l, u.oneCell' = true := fun u hu => by
  obtain ⟨x, _, hx⟩ := List.mem_flatMap.1 hu
  simp [fenc] at hx
  rcases hx with rfl | rfl | rfl | rfl | rfl | rfl <;> rfl
theorem getD_lt {l : List Fd} {k : Nat} (h : k < l.length) : l.getD k default = l[k] := by rw [List.getD_eq_getElem?_getD, List.getElem?_eq_getElem h]; rfl

/-- a list of what was found that is read -/
def FdV (w : World) (v : Value) (l : List Fd) : Prop := SR w v l.length 6 (fcells l)
theorem FdV.below {w w' : World} {v : Value} {l : List Fd} (h : FdV w v l) (hb : Below w.heap.size w w') : FdV w' v l := SR.below h hb
theorem FdV.nil (w : World) : FdV w (.slice none 0 0) [] := ⟨Nat.zero_le _, by simp [fcells], by simp [fcells], none, 0, rfl, fun _ => ⟨rfl, rfl⟩, fun h => absurd h (by simp)⟩
/-- bytes that are read, in a slice with room for them -/
def BV (w : World) (v : Value) (bs : List Nat) : Prop := ∃ a c, v = .slice a bs.length c ∧ bs.length ≤ c ∧ BytesAt w (.slice a bs.length c) bs
theorem BV.below {w w' : World} {v : Value} {bs : List Nat} (h : BV w v bs) (hb : Below w.heap.size w w') : BV w' v bs := by
  obtain ⟨a, c, e, hc, hby⟩ := h
  exact ⟨a, c, e, hc, hby.below hb⟩
theorem BV.grown {w w' : World} {v : Value} {bs : List Nat} {i : Nat} (h : BV w v bs) (hg : w.grownBy w' (some i)) (hne : v.ownBlock ≠ some i) : BV w' v bs := by
  obtain ⟨a, c, rfl, hc, hby⟩ := h
  exact ⟨a, c, rfl, hc, hby.grown hg hne⟩
theorem BV.nil (w : World) : BV w (.slice none 0 0) [] := ⟨none, 0, rfl, Nat.le_refl _, ⟨Nat.zero_le _, rfl, by simp [bcells], none, 0, rfl, fun _ => ⟨rfl, rfl⟩, fun h => absurd h (by simp)⟩, Nat.zero_le _, by simp⟩
theorem bv_of_own {w : World} {base : Nat} {v : Value} {bs : List Nat} (h : w.ownsRow base 5 1 v bs.length (bcells bs)) (hb : ∀ x ∈ bs, x < 256) (hm : bs.length ≤ 140737488351232) : BV w v bs := by
  have hs : SR w v bs.length 1 (bcells bs) := SR.of_own h (bcells_one bs) (by unfold maxLen; omega)
  rcases h.2 with ⟨rfl, e⟩ | ⟨g, cap, cur, rfl, _, _, hc, _⟩
  · have : bs = [] := List.eq_nil_of_length_eq_zero e
    subst this
    exact BV.nil w
  · exact ⟨_, _, rfl, hc, hs, by unfold reachBytes; omega, hb⟩
/-- Join of one slice: bytes of the call's own -/
theorem join_one (i : Nat) (x : Value) (bs : List Nat) (w : World) (t : TypeId) (hx : w.heap[i]? = some (.cells #[x] t (0, 0))) (h : BV w x bs) (hm : bs.length ≤ 1000000) :
    Calls Try.prog 31 #[.slice (some ⟨i, 0, none⟩) 1 1] w fun e w' => ∃ v, e = .returned v ∧ BV w' v bs ∧ Own w.heap.size v ∧ Below w.heap.size w w' := by
  obtain ⟨a, c, rfl, hc, hby⟩ := h
  refine (join_any _ [(.slice a bs.length c, bs)] w (sr_one hx rfl) (by simpa using hby) (by simpa using (by omega : bs.length ≤ 1099511627776)) (by simp)).mono ?_
  rintro e w' ⟨v', rfl, hown, hB⟩
  simp only [List.flatMap_cons, List.flatMap_nil, List.append_nil] at hown
  exact ⟨_, rfl, bv_of_own hown hby.2.2 (by omega), fun k hk => (hown.lt k hk).1, hB⟩
end Go.Proofs.Ytldcihjddebciaa
