/- What a walk is told of arguments of bounded bulk. -/
import Derived.Test.YtccknpdnapoboaaDoorCqL
namespace Go.Proofs.YtccknpdnapoboaaDoor
open Go.ChangeShapes Go.WideShapes Go.ChangeAt Go.RowKit

theorem bulk_in {H : Type} {d : DataW H} {l : List (DataW H)} (h : d ∈ l) : Rows.uptoBulk d ≤ Rows.uptoBulkAll l := by
  induction l with
  | nil => cases h
  | cons x r ih =>
    simp only [Rows.uptoBulkAll]
    rcases List.mem_cons.1 h with e | e
    · subst e; omega
    · have := ih e; omega
theorem bulk_pos {H : Type} (d : DataW H) : 1 ≤ Rows.uptoBulk d := by
  cases d with
  | lit x => cases x <;> simp [Rows.uptoBulk]
  | _ => simp [Rows.uptoBulk]
theorem bulk_count {H : Type} : ∀ l : List (DataW H), l.length ≤ Rows.uptoBulkAll l
  | [] => Nat.zero_le _
  | d :: l => by
    have h1 := bulk_pos d
    have h2 := bulk_count l
    simp only [Rows.uptoBulkAll, List.length_cons]
    omega
/-- the cells cs can be read as a value of type t, of bulk at most M -/
def RdM (P : Program) (w : World) (t : TypeId) (cs : List Value) (M : Nat) : Prop :=
  ∃ (H : Type) (enc : TypeId × Value → H) (fuel : Nat) (x : DataW H × List MemPlace), DataW.trod enc P w 0 (fun _ => true) true fuel t cs = some x ∧ (∀ n ∈ x.1.weights P t, n ≤ reachBytes) ∧ Rows.uptoBulk x.1 ≤ M
theorem RdM.rd {P : Program} {w : World} {t : TypeId} {cs : List Value} {M : Nat} (h : RdM P w t cs M) : Rd P w t cs := by
  obtain ⟨H, enc, fuel, x, h1, h2, _⟩ := h
  exact ⟨H, enc, fuel, x, h1, h2⟩
def ArgM (P : Program) (w : World) (t : TypeId) (v : Value) (M : Nat) : Prop := (∃ base, Value.okWide P w .any base t v) ∧ RdM P w t v.cells.toList M
theorem ArgM.of {H : Type} {enc : TypeId × Value → H} {P : Program} {w : World} {base : Nat} {t : TypeId} {v : Value} {d : DataW H} {p : List MemPlace} {M : Nat}
    (hv : Value.okWide P w .any base t v) (h : DataW.Trod enc P w 0 (fun _ => true) true t v d p) (hr : ∀ n ∈ d.weights P t, n ≤ reachBytes) (hb : Rows.uptoBulk d ≤ M) : ArgM P w t v M :=
  ⟨⟨base, hv⟩, by obtain ⟨m, hm⟩ := h; exact ⟨H, enc, m, _, hm, hr, hb⟩⟩
theorem ArgM.arg {P : Program} {w : World} {t : TypeId} {v : Value} {M : Nat} (h : ArgM P w t v M) : Arg P w t v := ⟨h.1, h.2.rd⟩
theorem RdM.struct {P : Program} {w : World} {t : TypeId} {fs : Array Field} {cs : List Value} {M : Nat} (ht : P.underlying t = some (.struct fs)) (h : RdM P w t cs M) :
    cs.length = P.cellsOf t ∧ ∀ (i : Nat) (f : Field), fs[i]? = some f → RdM P w f.type ((cs.drop f.offset).take (P.cellsOf f.type)) M := by
  obtain ⟨H, enc, fuel, x, h, hw, hM⟩ := h
  obtain ⟨xs, n, _, rfl, hl, hlen, hf⟩ := DataW.trod_struct ht h
  refine ⟨hl, fun i f hi => ?_⟩
  have hlt : i < xs.length := by rw [hlen]; exact (Array.getElem?_eq_some_iff.1 hi).1
  refine ⟨H, enc, n, xs[i], by rw [hf i f hi]; simp [hlt], fun k hk => hw k ?_, ?_⟩
  · have : (DataW.agg (xs.map (·.1))).weights P t = DataW.weightsEach P (fs.toList.map (·.type)) (xs.map (·.1)) := by rw [DataW.weights, ht]
    rw [this]
    exact DataW.weights_mem_each (j := i) (t := f.type) (d := xs[i].1) (by rw [List.getElem?_map]; simp [hi]) (by simp [hlt]) k hk
  · have h1 : Rows.uptoBulk xs[i].1 ≤ Rows.uptoBulkAll (xs.map (·.1)) := bulk_in (List.mem_map.2 ⟨xs[i], List.getElem_mem hlt, rfl⟩)
    simp only [Rows.uptoBulk] at hM
    omega
theorem RdM.slice {P : Program} {w : World} {t e : TypeId} {cs : List Value} {M : Nat} (ht : P.underlying t = some (.slice e)) (h : RdM P w t cs M) :
    cs = [.slice none 0 0] ∨ ∃ (a : Addr) (len cap : Nat), cs = [.slice (some a) len cap] ∧ len ≤ cap ∧ cap ≤ maxLen ∧ cap * P.bytesOf e ≤ reachBytes ∧ cap ≤ M ∧
      ∀ i, i < cap → ∃ cs', w.cells? 0 (a.add (i * P.cellsOf e)) (P.cellsOf e) = some cs' ∧ RdM P w e cs' M := by
  obtain ⟨H, enc, fuel, x, h, hw, hM⟩ := h
  rcases Deep.open_slice ht h with ⟨h0, _⟩ | ⟨a, len, cap, m, n, D, Pl, h1, _, h2, h3, h4, rfl, h5⟩
  · exact .inl h0
  · simp only [if_true] at h4
    subst h4
    rw [DataW.weights, ht] at hw
    simp only [Rows.uptoBulk] at hM
    refine .inr ⟨a, len, m, h1, h2, h3, ?_, ?_, fun i hi => ?_⟩
    · have := hw _ List.mem_cons_self
      simp only [List.length_map, List.length_range] at this
      rwa [show len + (m - len) = m by omega] at this
    · have c1 : len ≤ Rows.uptoBulkAll (List.map D (List.range len)) := by
        have := bulk_count (List.map D (List.range len))
        rwa [List.length_map, List.length_range] at this
      have c2 : m - len ≤ Rows.uptoBulkAll (List.map (fun j => D (len + j)) (List.range (m - len))) := by
        have := bulk_count (List.map (fun j => D (len + j)) (List.range (m - len)))
        rwa [List.length_map, List.length_range] at this
      omega
    · obtain ⟨cs', e1, e2⟩ := h5 i hi
      refine ⟨cs', e1, H, enc, n, _, e2, fun k hk => hw k (List.mem_cons_of_mem _ (List.mem_append.2 ?_)), ?_⟩
      · by_cases hl : i < len
        · exact .inl (weights_mem_all (List.mem_map.2 ⟨i, List.mem_range.2 hl, rfl⟩) k hk)
        · exact .inr (weights_mem_all (List.mem_map.2 ⟨i - len, List.mem_range.2 (by omega), by rw [show len + (i - len) = i by omega]⟩) k hk)
      · by_cases hl : i < len
        · have := bulk_in (d := D i) (l := List.map D (List.range len)) (List.mem_map.2 ⟨i, List.mem_range.2 hl, rfl⟩)
          simp only
          omega
        · have := bulk_in (d := D i) (l := (List.range (m - len)).map fun i => D (len + i)) (List.mem_map.2 ⟨i - len, List.mem_range.2 (by omega), by rw [show len + (i - len) = i by omega]⟩)
          simp only
          omega
theorem ArgM.slIn {P : Program} {w : World} {t e : TypeId} {v : Value} {M : Nat} (ht : P.underlying t = some (.slice e)) (h : ArgM P w t v M) :
    v = .slice none 0 0 ∨ ∃ (a : Addr) (len cap : Nat), v = .slice (some a) len cap ∧ len ≤ cap ∧ cap ≤ maxLen ∧ cap * P.bytesOf e ≤ reachBytes ∧
      ∀ i, i < cap → ∃ cs', w.cells? 0 (a.add (i * P.cellsOf e)) (P.cellsOf e) = some cs' ∧ RdM P w e cs' M := by
  obtain ⟨⟨b, hv⟩, hr⟩ := h
  obtain ⟨a0, len, cap, rfl⟩ := okWide_slice ht hv
  rcases RdM.slice ht hr with h0 | ⟨a, l, c, h1, h2, h3, h4, _, h5⟩
  · left
    simpa [Value.cells] using h0
  · right
    simp [Value.cells] at h1
    obtain ⟨rfl, rfl, rfl⟩ := h1
    exact ⟨a, _, _, rfl, h2, h3, h4, h5⟩
theorem sr_of_Q {α : Type} [Inhabited α] {P : Program} {w : World} {e : TypeId} {v : Value} (Q : List Value → Prop) (enc : α → List Value) (Good : α → Prop) (size bytes : Nat) (hsz : ∀ x, (enc x).length = size) (h1 : ∀ x, Good x → ∀ u ∈ enc x, u.oneCell' = true) (h0 : 0 < size)
    (hc : P.cellsOf e = size) (hby : P.bytesOf e = bytes) (hdec : ∀ cs, Q cs → ∃ x, cs = enc x ∧ Good x) (h : v = .slice none 0 0 ∨ ∃ (a : Addr) (len cap : Nat), v = .slice (some a) len cap ∧ len ≤ cap ∧ cap ≤ maxLen ∧ cap * P.bytesOf e ≤ reachBytes ∧ ∀ i, i < cap → ∃ cs', w.cells? 0 (a.add (i * P.cellsOf e)) (P.cellsOf e) = some cs' ∧ Q cs') :
    ∃ l : List α, SR w v l.length size (l.flatMap enc) ∧ l.length * bytes ≤ reachBytes ∧ ∀ x ∈ l, Good x := by
  rcases h with rfl | ⟨a, len, cap, rfl, hle, hm, hr, hel⟩
  · exact ⟨[], ⟨Nat.zero_le _, by simp, by simp, none, 0, rfl, fun _ => ⟨rfl, rfl⟩, fun h => absurd h (by simp)⟩, by simp, by simp⟩
  · rw [hc] at hel
    rw [hby] at hr
    obtain ⟨f, hf⟩ := Deep.choose_lt (n := len) (p := fun i x => w.cells? 0 (a.add (i * size)) size = some (enc x) ∧ Good x) (fun i hi => by
      obtain ⟨cs, e1, e2⟩ := hel i (by omega)
      obtain ⟨x, rfl, hg⟩ := hdec cs e2
      exact ⟨x, e1, hg⟩)
    have hlen : ((List.range len).map f).length = len := by simp
    have hgood : ∀ x ∈ (List.range len).map f, Good x := fun x hx => by
      obtain ⟨i, hi, rfl⟩ := List.mem_map.1 hx
      exact (hf i (List.mem_range.1 hi)).2
    have hone : ∀ u ∈ ((List.range len).map f).flatMap enc, u.oneCell' = true := fun u hu => by
      obtain ⟨x, hx0, hx⟩ := List.mem_flatMap.1 hu
      exact h1 x (hgood x hx0) u hx
    refine ⟨(List.range len).map f, ⟨by rw [hlen]; omega, flat_len enc size hsz _, hone, some a, cap, by rw [hlen], fun h => (by cases h), fun hp => ?_⟩, by rw [hlen]; exact Nat.le_trans (Nat.mul_le_mul_right _ hle) hr, hgood⟩
    rw [hlen] at hp
    obtain ⟨_, hl0, hc0⟩ := World.cells?_some (hf 0 hp).1
    have hcell := hc0 0 h0
    obtain ⟨b, off, spot⟩ := a
    have hg : (enc (f 0))[0]? = some ((enc (f 0))[0]'(by rw [hsz]; exact h0)) := List.getElem?_eq_getElem _
    rw [hg] at hcell
    have hspot : spot = none := by simpa [Addr.add] using World.cell?_spot hcell
    subst hspot
    refine ⟨b, off, rfl, by simpa [addr_add] using World.block_lt_of_cell? w _ hcell, fun j u hj => ?_⟩
    have hjl : j < len * size := by
      have := (List.getElem?_eq_some_iff.1 hj).1
      rw [flat_len enc size hsz, hlen] at this
      exact this
    have hq : j / size < len := Nat.div_lt_of_lt_mul (by rw [Nat.mul_comm]; exact hjl)
    have hr2 : j % size < size := Nat.mod_lt _ h0
    have hjj : j = (j / size) * size + j % size := by rw [Nat.mul_comm]; exact (Nat.div_add_mod j size).symm
    obtain ⟨_, _, hcj⟩ := World.cells?_some (hf (j / size) hq).1
    have h2 := hcj (j % size) hr2
    rw [hjj, flat_get enc size hsz _ _ _ (by rw [hlen]; exact hq) hr2] at hj
    simp only [List.getElem_map, List.getElem_range] at hj
    rw [← hj, ← h2, addr_add, addr_add, Nat.add_assoc, ← hjj]

theorem rd_cpM {w : World} {M : Nat} (cs : List Value) (h : RdM Tryd.prog w 35 cs M) : ∃ (t : Cp) (a : Option Addr) (c : Nat), cs = [.int .i64 t.t, .int .i64 t.c, .int .i64 t.f, .int .i64 t.k, .slice a t.bs.length c] ∧ BytesAt w (.slice a t.bs.length c) t.bs ∧ (i64b t.t ∧ i64b t.c ∧ i64b t.f ∧ i64b t.k) ∧ t.bs.length ≤ M := by
  obtain ⟨t, a, c, e, hb, q1, q2, q3, q4⟩ := rd_cp cs h.rd
  refine ⟨t, a, c, e, hb, ⟨q1, q2, q3, q4⟩, ?_⟩
  obtain ⟨hl, hf⟩ := h.struct Tryd.underlying35
  have h4 := hf 4 _ rfl
  subst e
  have h5 : RdM Tryd.prog w 25 [.slice a t.bs.length c] M := by
    simpa [Tryd.cells_bytes] using h4
  rcases h5.slice Tryd.underlying25 with e | ⟨a', len, cap, e, h1, _, _, h2, _⟩
  · simp only [List.cons.injEq, Value.slice.injEq, and_true] at e
    omega
  · simp only [List.cons.injEq, Value.slice.injEq, and_true] at e
    omega
theorem arg_cpsM {w : World} {v : Value} {M : Nat} (h : ArgM Tryd.prog w 22 v M) : ∃ ts, CpsC w v ts ∧ ts.length * 56 ≤ 140737488355328 ∧ ∀ t ∈ ts, (i64b t.t ∧ i64b t.c ∧ i64b t.f ∧ i64b t.k) ∧ t.bs.length ≤ M := by
  have h0 := h.slIn Tryd.underlying22
  have hcap : CapOk v := fun a n c e => by
    rcases h0 with rfl | ⟨a', len, cap, rfl, hle, _⟩
    · cases e; exact Nat.le_refl _
    · cases e; exact hle
  obtain ⟨l, h1, h2, h3⟩ := sr_of_Q (α := Cp × Option Addr × Nat) (fun cs => RdM Tryd.prog w 35 cs M) (fun x => [.int .i64 x.1.t, .int .i64 x.1.c, .int .i64 x.1.f, .int .i64 x.1.k, .slice x.2.1 x.1.bs.length x.2.2]) (fun x => BytesAt w (.slice x.2.1 x.1.bs.length x.2.2) x.1.bs ∧ (i64b x.1.t ∧ i64b x.1.c ∧ i64b x.1.f ∧ i64b x.1.k) ∧ x.1.bs.length ≤ M) 5 56 (fun _ => rfl)
    (fun x _ u hu => by simp at hu; rcases hu with rfl | rfl | rfl | rfl | rfl <;> rfl) (by decide) Tryd.cells_tx Tryd.bytes_tx (fun cs hcs => by obtain ⟨t, a, c, e, hb⟩ := rd_cpM cs hcs; exact ⟨(t, a, c), e, hb⟩) h0
  unfold reachBytes at h2
  obtain ⟨q1, _, _, ao, cap, rfl, _, hc⟩ := h1
  refine ⟨l.map (·.1), ⟨⟨by rw [List.length_map]; exact q1, ao, cap, by rw [List.length_map], fun h0 => ?_⟩, hcap⟩, by rw [List.length_map]; omega, fun t ht => by
    obtain ⟨x, hx, rfl⟩ := List.mem_map.1 ht
    exact (h3 x hx).2⟩
  rw [List.length_map] at h0
  obtain ⟨b, off, rfl, hb, hcell⟩ := hc h0
  refine ⟨b, off, rfl, hb, fun k hk => ?_⟩
  have hk' : k < l.length := by simpa using hk
  have g := fun j (hj : j < 5) => flat_get (fun x : Cp × Option Addr × Nat => [Value.int .i64 x.1.t, .int .i64 x.1.c, .int .i64 x.1.f, .int .i64 x.1.k, .slice x.2.1 x.1.bs.length x.2.2]) 5 (fun _ => rfl) l k j hk' hj
  simp only [List.getElem_map]
  exact ⟨l[k].2.1, l[k].2.2, hcell _ _ (g 0 (by decide)), hcell _ _ (g 1 (by decide)), hcell _ _ (g 2 (by decide)), hcell _ _ (g 3 (by decide)), hcell _ _ (g 4 (by decide)), (h3 _ (List.getElem_mem hk')).1⟩

end Go.Proofs.YtccknpdnapoboaaDoor
