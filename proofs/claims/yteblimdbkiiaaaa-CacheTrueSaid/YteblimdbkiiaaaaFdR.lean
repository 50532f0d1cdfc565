/- cache: what is learnt is what the reference's fold lays: plain. -/
import Derived.Test.YteblimdbkiiaaaaFdP
namespace Go.Proofs.Yteblimdbkiiaaaa

/-- strictly ascending -/
def Asc (r : List Fd) : Prop := r.Pairwise (fun a b => a.ha < b.ha)
theorem asc_unique : ∀ (a b : List Fd), Asc a → Asc b → (∀ y, y ∈ a ↔ y ∈ b) → a = b
  | [], [], _, _, _ => rfl
  | [], y :: b, _, _, h => by have := (h y).2 (by simp); simp at this
  | x :: a, [], _, _, h => by have := (h x).1 (by simp); simp at this
  | x :: a, y :: b, ha, hb, h => by
    have ha' := List.pairwise_cons.1 ha
    have hb' := List.pairwise_cons.1 hb
    have hxy : x = y := by
      rcases List.mem_cons.1 ((h x).1 (by simp)) with e | e
      · exact e
      · rcases List.mem_cons.1 ((h y).2 (by simp)) with e2 | e2
        · exact e2.symm
        · have := hb'.1 x e
          have := ha'.1 y e2
          omega
    subst hxy
    rw [asc_unique a b ha'.2 hb'.2 fun z => ?_]
    constructor
    · intro hz
      rcases List.mem_cons.1 ((h z).1 (by simp [hz])) with e | e
      · have := ha'.1 z hz
        rw [e] at this
        omega
      · exact e
    · intro hz
      rcases List.mem_cons.1 ((h z).2 (by simp [hz])) with e | e
      · have := hb'.1 z hz
        rw [e] at this
        omega
      · exact e
/-- the first of each handle, ascending -/
structure Firsts (s r : List Fd) : Prop where
  asc : Asc r
  mem : ∀ y, y ∈ r ↔ ∃ i, i < s.length ∧ s.getD i default = y ∧ ∀ j, j < i → (s.getD j default).ha ≠ y.ha
theorem Firsts.unique {s r r' : List Fd} (h : Firsts s r) (h' : Firsts s r') : r = r' := asc_unique _ _ h.asc h'.asc fun y => (h.mem y).trans (h'.mem y).symm

/-- what the sort and CompactFunc leave -/
theorem firsts_learnt {s r0 : List Fd} (h : Sorted s r0) : Firsts s (cmpct r0) := by
  obtain ⟨p, hm, hs, rfl⟩ := h
  have hn := prmF_len s p
  have ha : ∀ t, t < s.length → ((prmF s p).getD t default) = s.getD (p t) default := fun t ht => prmF_get s p t ht
  have hle : ∀ i j, i ≤ j → j < s.length → (s.getD (p i) default).ha ≤ (s.getD (p j) default).ha := fun i j h1 h2 => by
    by_cases c : i = j
    · rw [c]; exact Int.le_refl _
    · rcases hs i j (Nat.zero_le _) (by omega) h2 with h | ⟨h, _⟩
      · exact Int.le_of_lt h
      · exact Int.not_lt.1 h
  have hk : ∀ t, t < s.length → (keepB (prmF s p) t = true ↔ t = 0 ∨ (s.getD (p t) default).ha ≠ (s.getD (p (t - 1)) default).ha) := fun t ht => by
    unfold keepB
    rw [ha t ht, ha (t - 1) (by omega)]
    simp
  have hpl : ∀ t, t < s.length → p t < s.length := fun t ht => by
    obtain ⟨j, _, h2, e⟩ := hm.from' t (Nat.zero_le _) ht
    rw [e]; exact h2
  refine ⟨?_, fun y => ?_⟩
  · unfold Asc cmpct pick
    rw [List.pairwise_map]
    have hp : ((List.range (prmF s p).length).filter (keepB (prmF s p))).Pairwise (· < ·) := List.Pairwise.filter _ List.pairwise_lt_range
    refine List.Pairwise.imp_of_mem (fun {i j} hi hj hij => ?_) hp
    simp only [List.mem_filter, List.mem_range, hn] at hi hj
    rw [ha i hi.1, ha j hj.1]
    rcases (hk j hj.1).1 hj.2 with h | h
    · omega
    · have h1 := hle i (j - 1) (by omega) (by omega)
      have h2 := hle (j - 1) j (by omega) hj.1
      omega
  · unfold cmpct pick
    rw [List.mem_map]
    constructor
    · rintro ⟨t, ht, rfl⟩
      simp only [List.mem_filter, List.mem_range, hn] at ht
      rw [ha t ht.1]
      refine ⟨p t, hpl t ht.1, rfl, fun j hj e => ?_⟩
      obtain ⟨t', _, ht', et⟩ := hm.into j (Nat.zero_le _) (by have := hpl t ht.1; omega)
      have hlt : t' < t := Nat.lt_of_not_le fun hge => by
        by_cases c : t' = t
        · rw [c] at et; omega
        · rcases hs t t' (Nat.zero_le _) (by omega) ht' with h | ⟨_, h⟩
          · rw [et] at h; omega
          · omega
      rcases (hk t ht.1).1 ht.2 with h | h
      · omega
      · have h1 := hle t' (t - 1) (by omega) (by omega)
        have h2 := hle (t - 1) t (by omega) ht.1
        rw [et] at h1
        omega
    · rintro ⟨i, hi, rfl, hf⟩
      obtain ⟨t, _, ht, et⟩ := hm.into i (Nat.zero_le _) hi
      refine ⟨t, ?_, by rw [ha t ht, et]⟩
      simp only [List.mem_filter, List.mem_range, hn]
      refine ⟨ht, (hk t ht).2 ?_⟩
      by_cases c : t = 0
      · exact .inl c
      · refine .inr fun e => ?_
        rcases hs (t - 1) t (Nat.zero_le _) (by omega) ht with h | ⟨_, h⟩
        · omega
        · rw [et] at h e
          exact hf (p (t - 1)) h e.symm

/-- an element put ahead of the first greater one -/
def insL (x : Fd) : List Fd → List Fd
  | [] => [x]
  | y :: t => if x.ha < y.ha then x :: y :: t else y :: insL x t
theorem insL_mem (x : Fd) : ∀ (l : List Fd) (y : Fd), y ∈ insL x l ↔ y = x ∨ y ∈ l
  | [], y => by simp [insL]
  | z :: t, y => by
    unfold insL
    split
    · simp
    · rw [List.mem_cons, insL_mem x t y, List.mem_cons]
      constructor
      · rintro (h | h | h) <;> simp [h]
      · rintro (h | h | h) <;> simp [h]
theorem insL_asc (x : Fd) : ∀ (l : List Fd), Asc l → (∀ y ∈ l, y.ha ≠ x.ha) → Asc (insL x l)
  | [], _, _ => by simp [insL, Asc]
  | z :: t, h, hne => by
    have h' := List.pairwise_cons.1 h
    unfold insL
    split
    · rename_i hx
      exact List.pairwise_cons.2 ⟨fun y hy => by
        rcases List.mem_cons.1 hy with rfl | hy
        · exact hx
        · have := h'.1 y hy
          omega, h⟩
    · rename_i hx
      refine List.pairwise_cons.2 ⟨fun y hy => ?_, insL_asc x t h'.2 fun y hy => hne y (by simp [hy])⟩
      rcases (insL_mem x t y).1 hy with rfl | hy
      · have := hne z (by simp)
        omega
      · exact h'.1 y hy
theorem insL_none (x : Fd) : ∀ (t : List Fd), (∀ y ∈ t, ¬ x.ha < y.ha) → insL x t = t ++ [x]
  | [], _ => rfl
  | z :: t, h => by
    unfold insL
    rw [if_neg (h z (by simp)), insL_none x t fun y hy => h y (by simp [hy])]
    rfl
set_option linter.unusedSimpArgs false in
theorem insL_snoc (x z : Fd) : ∀ (t : List Fd), insL x (t ++ [z]) = if (∃ y ∈ t, x.ha < y.ha) ∨ ¬ x.ha < z.ha then (if (∃ y ∈ t, x.ha < y.ha) then insL x t ++ [z] else t ++ [z] ++ [x]) else t ++ [x, z]
  | [] => by
    unfold insL
    by_cases c : x.ha < z.ha
    · simp [insL, c]
    · simp [insL, c]
  | a :: t => by
    have ih := insL_snoc x z t
    show insL x (a :: (t ++ [z])) = _
    by_cases c : x.ha < a.ha
    · have e : ∃ y ∈ a :: t, x.ha < y.ha := ⟨a, by simp, c⟩
      rw [if_pos (.inl e), if_pos e]
      simp [insL, c]
    · have e : (∃ y ∈ a :: t, x.ha < y.ha) ↔ ∃ y ∈ t, x.ha < y.ha := by
        constructor
        · rintro ⟨y, hy, h⟩
          rcases List.mem_cons.1 hy with rfl | hy
          · exact absurd h c
          · exact ⟨y, hy, h⟩
        · rintro ⟨y, hy, h⟩
          exact ⟨y, by simp [hy], h⟩
      unfold insL
      rw [if_neg c, ih]
      simp only [e]
      split
      · split
        · first | rfl | (rw [if_neg c]; rfl)
        · rfl
      · rfl
theorem putTo_ins (l : List Fd) (x : Fd) : ∀ i, i ≤ l.length → (putTo l x i).2 = decide (∃ y ∈ l.take i, x.ha < y.ha) ∧ (if (putTo l x i).2 then (putTo l x i).1 else (putTo l x i).1 ++ [x]) = insL x (l.take i) ∧ ((putTo l x i).2 = false → (putTo l x i).1 = l.take i)
  | 0, _ => by simp [putTo, insL]
  | i+1, hi => by
    obtain ⟨h1, h2, h3⟩ := putTo_ins l x i (by omega)
    have et := List.take_succ_eq_append_getElem (show i < l.length by omega)
    have hg : l.getD i default = l[i] := getD_lt (by omega)
    have hsn := insL_snoc x l[i] (l.take i)
    rw [← et] at hsn
    rw [hsn]
    unfold putTo
    rw [hg]
    by_cases c : (putTo l x i).2 = true
    · have hex : ∃ y ∈ l.take i, x.ha < y.ha := by
        rw [c] at h1
        exact of_decide_eq_true h1.symm
      rw [if_neg (by rw [c]; simp)]
      rw [if_pos c] at h2
      simp only [c, if_true]
      refine ⟨?_, ?_, fun h => by cases h⟩
      · symm
        apply decide_eq_true
        obtain ⟨y, hy, hlt⟩ := hex
        exact ⟨y, by rw [et]; exact List.mem_append.2 (.inl hy), hlt⟩
      · rw [if_pos (.inl hex), if_pos hex, h2]
    · have cf : (putTo l x i).2 = false := by simpa using c
      have hno : ¬ ∃ y ∈ l.take i, x.ha < y.ha := by
        rw [cf] at h1
        exact of_decide_eq_false h1.symm
      have e3 := h3 cf
      by_cases d : x.ha < l[i].ha
      · rw [if_pos (by rw [cf]; simp [d])]
        simp only [if_true]
        refine ⟨?_, ?_, fun h => by cases h⟩
        · symm
          apply decide_eq_true
          exact ⟨l[i], by rw [et]; exact List.mem_append.2 (.inr (List.mem_singleton.2 rfl)), d⟩
        · rw [if_neg (by simp only [not_or, Decidable.not_not]; exact ⟨hno, d⟩), e3]
      · rw [if_neg (by simp [d])]
        simp only [cf, Bool.false_eq_true, if_false]
        refine ⟨?_, ?_, fun _ => by rw [e3, ← et]⟩
        · symm
          apply decide_eq_false
          rintro ⟨y, hy, hlt⟩
          rw [et] at hy
          rcases List.mem_append.1 hy with hy | hy
          · exact hno ⟨y, hy, hlt⟩
          · simp at hy
            rw [hy] at hlt
            exact d hlt
        · rw [if_pos (.inr d), if_neg hno, e3, et]
theorem rput_ins (l : List Fd) (x : Fd) : rput l x = if l.any (fun y => y.ha == x.ha) then l else insL x l := by
  have h := (putTo_ins l x l.length (Nat.le_refl _)).2.1
  rw [List.take_length] at h
  unfold rput
  rw [h]
theorem getD_app {s : List Fd} {x : Fd} {i : Nat} : (s ++ [x]).getD i default = if i < s.length then s.getD i default else if i = s.length then x else default := by
  rw [List.getD_eq_getElem?_getD, List.getD_eq_getElem?_getD]
  by_cases c : i < s.length
  · rw [if_pos c, List.getElem?_append_left c]
  · rw [if_neg c]
    by_cases d : i = s.length
    · rw [if_pos d, List.getElem?_append_right (by omega), d]
      simp
    · rw [if_neg d, List.getElem?_eq_none (by simp; omega)]
      rfl
theorem firsts_cover {s r : List Fd} (h : Firsts s r) : ∀ m j, j < m → j < s.length → ∃ y ∈ r, y.ha = (s.getD j default).ha
  | 0, j, h1, _ => by omega
  | m+1, j, h1, h2 => by
    by_cases c : ∃ j', j' < j ∧ (s.getD j' default).ha = (s.getD j default).ha
    · obtain ⟨j', hj, e⟩ := c
      obtain ⟨y, hy, e2⟩ := firsts_cover h m j' (by omega) (by omega)
      exact ⟨y, hy, e2.trans e⟩
    · exact ⟨s.getD j default, (h.mem _).2 ⟨j, h2, rfl, fun j' hj e => c ⟨j', hj, e⟩⟩, rfl⟩
theorem firsts_snoc {s r : List Fd} {x : Fd} (h : Firsts s r) : Firsts (s ++ [x]) (rput r x) := by
  rw [rput_ins]
  have hlen : (s ++ [x]).length = s.length + 1 := by simp
  by_cases c : r.any (fun y => y.ha == x.ha) = true
  · rw [if_pos c]
    obtain ⟨z, hz, hzx⟩ := List.any_eq_true.1 c
    have hzx : z.ha = x.ha := by simpa using hzx
    obtain ⟨iz, hiz, ez, _⟩ := (h.mem z).1 hz
    refine ⟨h.asc, fun y => ?_⟩
    rw [h.mem y]
    constructor
    · rintro ⟨i, hi, e, hf⟩
      refine ⟨i, by omega, by rw [getD_app, if_pos hi]; exact e, fun j hj => ?_⟩
      rw [getD_app, if_pos (by omega)]
      exact hf j hj
    · rintro ⟨i, hi, e, hf⟩
      rw [hlen] at hi
      by_cases d : i < s.length
      · refine ⟨i, d, by rw [getD_app, if_pos d] at e; exact e, fun j hj => ?_⟩
        have := hf j hj
        rw [getD_app, if_pos (by omega)] at this
        exact this
      · have di : i = s.length := by omega
        rw [getD_app, if_neg d, if_pos di] at e
        have := hf iz (by omega)
        rw [getD_app, if_pos hiz, ez, ← e] at this
        exact absurd hzx this
  · rw [if_neg c]
    have hne : ∀ y ∈ r, y.ha ≠ x.ha := fun y hy e => c (List.any_eq_true.2 ⟨y, hy, by simpa using e⟩)
    have hno : ∀ j, j < s.length → (s.getD j default).ha ≠ x.ha := fun j hj e => by
      obtain ⟨y, hy, e2⟩ := firsts_cover h (j + 1) j (by omega) hj
      exact hne y hy (e2.trans e)
    refine ⟨insL_asc x r h.asc hne, fun y => ?_⟩
    rw [insL_mem, h.mem y]
    constructor
    · rintro (rfl | ⟨i, hi, e, hf⟩)
      · refine ⟨s.length, by omega, by rw [getD_app, if_neg (by omega), if_pos rfl], fun j hj => ?_⟩
        rw [getD_app, if_pos hj]
        exact hno j hj
      · refine ⟨i, by omega, by rw [getD_app, if_pos hi]; exact e, fun j hj => ?_⟩
        rw [getD_app, if_pos (by omega)]
        exact hf j hj
    · rintro ⟨i, hi, e, hf⟩
      rw [hlen] at hi
      by_cases d : i < s.length
      · refine .inr ⟨i, d, by rw [getD_app, if_pos d] at e; exact e, fun j hj => ?_⟩
        have := hf j hj
        rw [getD_app, if_pos (by omega)] at this
        exact this
      · rw [getD_app, if_neg d, if_pos (by omega)] at e
        exact .inl e.symm
/-- what the reference's Learn has laid when i elements are over -/
def rlTo (l : List Fd) : Nat → List Fd
  | 0 => []
  | i+1 => if (l.getD i default).ha != 0 then rput (rlTo l i) (l.getD i default) else rlTo l i
theorem rl_firsts (l : List Fd) : ∀ i, i ≤ l.length → Firsts (flt (l.take i)) (rlTo l i)
  | 0, _ => ⟨List.Pairwise.nil, fun y => by simp [rlTo, flt]⟩
  | i+1, hi => by
    have ih := rl_firsts l i (by omega)
    have e : flt (l.take (i + 1)) = flt (l.take i) ++ (if (l.getD i default).ha != 0 then [l.getD i default] else []) := by
      unfold flt
      rw [List.take_succ_eq_append_getElem (show i < l.length by omega), List.filter_append, getD_lt (show i < l.length by omega)]
      congr 1
      simp only [List.filter_cons, List.filter_nil]
    rw [e]
    unfold rlTo
    by_cases c : ((l.getD i default).ha != 0) = true
    · rw [if_pos c, if_pos c]
      exact firsts_snoc ih
    · rw [if_neg c, if_neg c, List.append_nil]
      exact ih
theorem learnt_rl {l r : List Fd} (h : Learnt l r) : r = rlTo l l.length := by
  obtain ⟨r0, hs, rfl⟩ := h
  have h2 := rl_firsts l l.length (Nat.le_refl _)
  rw [List.take_length] at h2
  exact (firsts_learnt hs).unique h2
end Go.Proofs.Yteblimdbkiiaaaa
