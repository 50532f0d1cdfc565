/- a stable sort by exchanges: the plain law. -/
import Derived.Test.YteblimdbkiiaaaaBase
namespace Go.Proofs.Yteblimdbkiiaaaa

/-- a strict weak order -/
structure Swo (lt : Nat → Nat → Prop) : Prop where
  ir : ∀ x, ¬ lt x x
  tr : ∀ x y z, lt x y → lt y z → lt x z
  ng : ∀ x y z, ¬ lt x y → ¬ lt y z → ¬ lt x z
/-- the same with ties decided by the numbers -/
def Lx (lt : Nat → Nat → Prop) (x y : Nat) : Prop := lt x y ∨ (¬ lt y x ∧ x < y)
theorem Lx.trans {lt : Nat → Nat → Prop} (h : Swo lt) {x y z : Nat} (h1 : Lx lt x y) (h2 : Lx lt y z) : Lx lt x z := by
  rcases h1 with h1 | ⟨h1, l1⟩ <;> rcases h2 with h2 | ⟨h2, l2⟩
  · exact .inl (h.tr _ _ _ h1 h2)
  · exact .inl (Classical.byContradiction fun hn => h.ng _ _ _ hn h2 h1)
  · exact .inl (Classical.byContradiction fun hn => h.ng _ _ _ h1 hn h2)
  · exact .inr ⟨h.ng _ _ _ h2 h1, by omega⟩
/-- ascending between two places -/
def Srt (lt : Nat → Nat → Prop) (p : Nat → Nat) (a b : Nat) : Prop := ∀ i j, a ≤ i → i < j → j < b → Lx lt (p i) (p j)
def swp (p : Nat → Nat) (i j : Nat) : Nat → Nat := fun k => if k = i then p j else if k = j then p i else p k
def swr (q : Nat → Nat) (a b n : Nat) : Nat → Nat := fun k => if a ≤ k ∧ k < a + n then q (k - a + b) else if b ≤ k ∧ k < b + n then q (k - b + a) else q k
def rot (p : Nat → Nat) (a m b : Nat) : Nat → Nat := fun k => if a ≤ k ∧ k < a + (b - m) then p (k + (m - a)) else if a + (b - m) ≤ k ∧ k < b then p (k - (b - m)) else p k
theorem rot_left {p : Nat → Nat} {m b : Nat} : rot p m m b = p := by
  funext k
  unfold rot
  split
  · congr 1; omega
  · split
    · omega
    · rfl
theorem rot_right {p : Nat → Nat} {a m : Nat} : rot p a m m = p := by
  funext k
  unfold rot
  split
  · omega
  · split
    · congr 1; omega
    · rfl
theorem swr_zero {p : Nat → Nat} {a b : Nat} : swr p a b 0 = p := by
  funext k
  unfold swr
  rw [if_neg (by omega), if_neg (by omega)]
theorem swr_succ {p : Nat → Nat} {a b n : Nat} (h : a + n < b) : swp (swr p a b n) (a + n) (b + n) = swr p a b (n + 1) := by
  funext k
  unfold swp swr
  by_cases h1 : k = a + n
  · subst h1
    rw [if_pos rfl, if_neg (by omega), if_neg (by omega), if_pos (by omega)]
    congr 1; omega
  · rw [if_neg h1]
    by_cases h2 : k = b + n
    · subst h2
      rw [if_pos rfl, if_neg (by omega), if_neg (by omega), if_neg (by omega), if_pos (by omega)]
      congr 1; omega
    · rw [if_neg h2]
      by_cases h3 : a ≤ k ∧ k < a + n
      · rw [if_pos h3, if_pos (by omega)]
      · rw [if_neg h3, if_neg (show ¬ (a ≤ k ∧ k < a + (n + 1)) by omega)]
        by_cases h4 : b ≤ k ∧ k < b + n
        · rw [if_pos h4, if_pos (by omega)]
        · rw [if_neg h4, if_neg (by omega)]
/-- the two steps of a rotation, and its end -/
theorem rot_gt {q : Nat → Nat} {m i j : Nat} (him : i ≤ m) (hij : j < i) : rot (swr q (m - i) m j) (m - (i - j)) m (m + j) = rot q (m - i) m (m + j) := by
  funext k
  unfold rot swr
  by_cases c1 : m - i ≤ k ∧ k < m - i + j
  · rw [if_neg (by omega), if_neg (by omega), if_pos c1, if_pos (by omega)]
    congr 1; omega
  · by_cases c2 : m - i + j ≤ k ∧ k < m - i + j + j
    · rw [if_pos (by omega), if_neg (by omega), if_pos (by omega), if_neg (by omega), if_pos (by omega)]
      congr 1; omega
    · by_cases c3 : m - i + j + j ≤ k ∧ k < m + j
      · rw [if_neg (by omega), if_pos (by omega), if_neg (by omega), if_neg (by omega), if_neg (by omega), if_pos (by omega)]
      · rw [if_neg (by omega), if_neg (by omega), if_neg (by omega), if_neg (by omega), if_neg (by omega), if_neg (by omega)]
theorem rot_lt {q : Nat → Nat} {m i j : Nat} (him : i ≤ m) (hij : i < j) : rot (swr q (m - i) (m + j - i) i) (m - i) m (m + (j - i)) = rot q (m - i) m (m + j) := by
  funext k
  unfold rot swr
  by_cases c0 : m - i ≤ k ∧ k < m + j
  · by_cases c1 : k < m - i + (j - i)
    · rw [if_pos (by omega), if_neg (by omega), if_neg (by omega), if_pos (by omega)]
    · by_cases c2 : k < m + j - i
      · rw [if_neg (by omega), if_pos (by omega), if_pos (by omega), if_pos (by omega)]
        congr 1; omega
      · rw [if_neg (by omega), if_neg (by omega), if_neg (by omega), if_pos (by omega), if_neg (by omega), if_pos (by omega)]
        congr 1; omega
  · rw [if_neg (by omega), if_neg (by omega), if_neg (by omega), if_neg (by omega), if_neg (by omega), if_neg (by omega)]
theorem rot_eq {q : Nat → Nat} {m i : Nat} (him : i ≤ m) : swr q (m - i) m i = rot q (m - i) m (m + i) := by
  funext k
  unfold rot swr
  by_cases c1 : m - i ≤ k ∧ k < m - i + i
  · rw [if_pos c1, if_pos (by omega)]
    congr 1; omega
  · by_cases c2 : m ≤ k ∧ k < m + i
    · rw [if_neg c1, if_pos c2, if_neg (by omega), if_pos (by omega)]
      congr 1; omega
    · rw [if_neg c1, if_neg c2, if_neg (by omega), if_neg (by omega)]
/-- one more to the left, one more to the right -/
theorem rot_down {p : Nat → Nat} {i j : Nat} (hj : 0 < j) (hij : j ≤ i) : swp (rot p j i (i + 1)) j (j - 1) = rot p (j - 1) i (i + 1) := by
  funext k
  unfold swp rot
  by_cases c1 : k = j
  · subst c1
    rw [if_pos rfl, if_neg (by omega), if_neg (by omega), if_neg (by omega), if_pos (by omega)]
    congr 1; omega
  · rw [if_neg c1]
    by_cases c2 : k = j - 1
    · subst c2
      rw [if_pos rfl, if_pos (by omega), if_pos (by omega)]
      congr 1; omega
    · rw [if_neg c2]
      by_cases c3 : j + 1 ≤ k ∧ k < i + 1
      · rw [if_neg (by omega), if_pos (by omega), if_neg (by omega), if_pos (by omega)]
      · rw [if_neg (by omega), if_neg (by omega), if_neg (by omega), if_neg (by omega)]
theorem rot_up {p : Nat → Nat} {a k0 : Nat} (h : a ≤ k0) : swp (rot p a (a + 1) (k0 + 1)) k0 (k0 + 1) = rot p a (a + 1) (k0 + 2) := by
  funext k
  unfold swp rot
  by_cases c1 : k = k0
  · subst c1
    rw [if_pos rfl, if_neg (by omega), if_neg (by omega), if_pos (by omega)]
    congr 1; omega
  · rw [if_neg c1]
    by_cases c2 : k = k0 + 1
    · subst c2
      rw [if_pos rfl, if_neg (by omega), if_pos (by omega), if_neg (by omega), if_pos (by omega)]
      congr 1; omega
    · rw [if_neg c2]
      by_cases c3 : a ≤ k ∧ k < k0
      · rw [if_pos (by omega), if_pos (by omega)]
      · rw [if_neg (by omega), if_neg (by omega), if_neg (by omega), if_neg (by omega)]

/-- what a step leaves: what lies outside, and the same members -/
structure Mem (p p' : Nat → Nat) (a b : Nat) : Prop where
  out : ∀ k, k < a ∨ b ≤ k → p' k = p k
  from' : ∀ i, a ≤ i → i < b → ∃ j, a ≤ j ∧ j < b ∧ p' i = p j
  into : ∀ j, a ≤ j → j < b → ∃ i, a ≤ i ∧ i < b ∧ p' i = p j
theorem Mem.refl (p : Nat → Nat) (a b : Nat) : Mem p p a b := ⟨fun _ _ => rfl, fun i h1 h2 => ⟨i, h1, h2, rfl⟩, fun i h1 h2 => ⟨i, h1, h2, rfl⟩⟩
theorem Mem.trans {p q r : Nat → Nat} {a b : Nat} (h1 : Mem p q a b) (h2 : Mem q r a b) : Mem p r a b := by
  refine ⟨fun k hk => (h2.out k hk).trans (h1.out k hk), fun i l1 l2 => ?_, fun j l1 l2 => ?_⟩
  · obtain ⟨j, m1, m2, e⟩ := h2.from' i l1 l2
    obtain ⟨j', m1', m2', e'⟩ := h1.from' j m1 m2
    exact ⟨j', m1', m2', e.trans e'⟩
  · obtain ⟨i, m1, m2, e⟩ := h1.into j l1 l2
    obtain ⟨i', m1', m2', e'⟩ := h2.into i m1 m2
    exact ⟨i', m1', m2', e'.trans e⟩
theorem Mem.wide {p q : Nat → Nat} {a b a' b' : Nat} (h : Mem p q a b) (h1 : a' ≤ a) (h2 : b ≤ b') : Mem p q a' b' := by
  refine ⟨fun k hk => h.out k (by omega), fun i l1 l2 => ?_, fun j l1 l2 => ?_⟩
  · by_cases c : a ≤ i ∧ i < b
    · obtain ⟨j, m1, m2, e⟩ := h.from' i c.1 c.2
      exact ⟨j, by omega, by omega, e⟩
    · exact ⟨i, l1, l2, h.out i (by omega)⟩
  · by_cases c : a ≤ j ∧ j < b
    · obtain ⟨i, m1, m2, e⟩ := h.into j c.1 c.2
      exact ⟨i, by omega, by omega, e⟩
    · exact ⟨j, l1, l2, h.out j (by omega)⟩
theorem mem_rot {p : Nat → Nat} {a m b : Nat} (h1 : a ≤ m) (h2 : m ≤ b) : Mem p (rot p a m b) a b := by
  refine ⟨fun k hk => ?_, fun i l1 l2 => ?_, fun j l1 l2 => ?_⟩
  · unfold rot
    rw [if_neg (by omega), if_neg (by omega)]
  · unfold rot
    by_cases c : i < a + (b - m)
    · rw [if_pos ⟨l1, c⟩]
      exact ⟨_, by omega, by omega, rfl⟩
    · rw [if_neg (by omega), if_pos (by omega)]
      exact ⟨_, by omega, by omega, rfl⟩
  · by_cases c : j < m
    · refine ⟨j + (b - m), by omega, by omega, ?_⟩
      unfold rot
      rw [if_neg (by omega), if_pos (by omega)]
      congr 1; omega
    · refine ⟨j - (m - a), by omega, by omega, ?_⟩
      unfold rot
      rw [if_pos (by omega)]
      congr 1; omega
theorem Srt.congr {lt : Nat → Nat → Prop} {p q : Nat → Nat} {a b : Nat} (h : Srt lt p a b) (e : ∀ k, a ≤ k → k < b → q k = p k) : Srt lt q a b := fun i j h1 h2 h3 => by
  rw [e i h1 (by omega), e j (by omega) h3]
  exact h i j h1 h2 h3
theorem Srt.sub {lt : Nat → Nat → Prop} {p : Nat → Nat} {a b a' b' : Nat} (h : Srt lt p a b) (h1 : a ≤ a') (h2 : b' ≤ b) : Srt lt p a' b' := fun i j l1 l2 l3 => h i j (by omega) l2 (by omega)
theorem Srt.join {lt : Nat → Nat → Prop} {p : Nat → Nat} {a m b : Nat} (h1 : Srt lt p a m) (h2 : Srt lt p m b) (h3 : ∀ i j, a ≤ i → i < m → m ≤ j → j < b → Lx lt (p i) (p j)) : Srt lt p a b := fun i j l1 l2 l3 => by
  by_cases c1 : j < m
  · exact h1 i j l1 l2 c1
  · by_cases c2 : i < m
    · exact h3 i j l1 c2 (by omega) l3
    · exact h2 i j (by omega) l2 l3

/-- one element moved down into its place -/
theorem srt_down {lt : Nat → Nat → Prop} (ho : Swo lt) {p : Nat → Nat} {a i j : Nat} (hs : Srt lt p a i) (hidx : ∀ k, a ≤ k → k < i → p k < p i) (haj : a ≤ j) (hji : j ≤ i)
    (h1 : ∀ k, j ≤ k → k < i → lt (p i) (p k)) (h2 : j = a ∨ ¬ lt (p i) (p (j - 1))) : Srt lt (rot p j i (i + 1)) a (i + 1) := by
  have low : ∀ k, a ≤ k → k < j → Lx lt (p k) (p i) := fun k l1 l2 => by
    rcases h2 with h2 | h2
    · omega
    · have hb : Lx lt (p (j - 1)) (p i) := .inr ⟨h2, hidx _ (by omega) (by omega)⟩
      by_cases c : k = j - 1
      · rw [c]; exact hb
      · exact (hs k (j - 1) l1 (by omega) (by omega)).trans ho hb
  have e1 : ∀ k, k < j → rot p j i (i + 1) k = p k := fun k hk => by
    unfold rot
    rw [if_neg (by omega), if_neg (by omega)]
  have e2 : rot p j i (i + 1) j = p i := by
    unfold rot
    rw [if_pos (by omega)]
    congr 1; omega
  have e3 : ∀ k, j < k → k ≤ i → rot p j i (i + 1) k = p (k - 1) := fun k c1 c2 => by
    unfold rot
    rw [if_neg (by omega), if_pos (by omega)]
    congr 1; omega
  intro x y l1 l2 l3
  by_cases cx : x < j
  · rw [e1 x cx]
    by_cases cy : y < j
    · rw [e1 y cy]; exact hs x y l1 l2 (by omega)
    · by_cases cy2 : y = j
      · rw [cy2, e2]; exact low x l1 cx
      · rw [e3 y (by omega) (by omega)]
        exact hs x (y - 1) l1 (by omega) (by omega)
  · by_cases cx2 : x = j
    · subst cx2
      rw [e2, e3 y l2 (by omega)]
      exact .inl (h1 _ (by omega) (by omega))
    · rw [e3 x (by omega) (by omega), e3 y (by omega) (by omega)]
      exact hs (x - 1) (y - 1) (by omega) (by omega) (by omega)
/-- the first of a row moved up into its place -/
theorem srt_up {lt : Nat → Nat → Prop} {p : Nat → Nat} {a b i : Nat} (hs : Srt lt p (a + 1) b) (hidx : ∀ k, a + 1 ≤ k → k < b → p a < p k) (hai : a + 1 ≤ i) (hib : i ≤ b)
    (h1 : ∀ k, a + 1 ≤ k → k < i → lt (p k) (p a)) (h2 : ∀ k, i ≤ k → k < b → ¬ lt (p k) (p a)) : Srt lt (rot p a (a + 1) i) a b := by
  have e1 : ∀ k, a ≤ k → k < i - 1 → rot p a (a + 1) i k = p (k + 1) := fun k c1 c2 => by
    unfold rot
    rw [if_pos (by omega)]
    congr 1; omega
  have e2 : rot p a (a + 1) i (i - 1) = p a := by
    unfold rot
    rw [if_neg (by omega), if_pos (by omega)]
    congr 1; omega
  have e3 : ∀ k, i ≤ k → rot p a (a + 1) i k = p k := fun k hk => by
    unfold rot
    rw [if_neg (by omega), if_neg (by omega)]
  intro x y l1 l2 l3
  by_cases cx : x < i - 1
  · rw [e1 x l1 cx]
    by_cases cy : y < i - 1
    · rw [e1 y (by omega) cy]
      exact hs _ _ (by omega) (by omega) (by omega)
    · by_cases cy2 : y = i - 1
      · rw [cy2, e2]
        exact .inl (h1 _ (by omega) (by omega))
      · rw [e3 y (by omega)]
        exact hs _ _ (by omega) (by omega) (by omega)
  · by_cases cx2 : x = i - 1
    · rw [cx2, e2, e3 y (by omega)]
      exact .inr ⟨h2 y (by omega) l3, hidx y (by omega) l3⟩
    · rw [e3 x (by omega), e3 y (by omega)]
      exact hs _ _ (by omega) (by omega) (by omega)
/-- the last of a row moved down into its place, found by halving -/
theorem srt_last {lt : Nat → Nat → Prop} (ho : Swo lt) {p : Nat → Nat} {a m i : Nat} (hs : Srt lt p a m) (hidx : ∀ k, a ≤ k → k < m → p k < p m) (hai : a ≤ i) (him : i ≤ m)
    (h1 : ∀ k, a ≤ k → k < i → ¬ lt (p m) (p k)) (h2 : ∀ k, i ≤ k → k < m → lt (p m) (p k)) : Srt lt (rot p i m (m + 1)) a (m + 1) :=
  srt_down ho hs hidx hai him h2 (by
    by_cases c : i = a
    · exact .inl c
    · exact .inr (h1 _ (by omega) (by omega)))
set_option linter.unusedVariables false in
/-- the two halves behind a rotation -/
theorem sym_cross {lt : Nat → Nat → Prop} (ho : Swo lt) {p : Nat → Nat} {a m b mid s : Nat} (ham : a < m) (hmb : m < b) (hs1 : Srt lt p a m) (hs2 : Srt lt p m b) (hidx : ∀ i j, a ≤ i → i < m → m ≤ j → j < b → p i < p j)
    (hmid : a < mid ∧ mid < b) (ha : a ≤ s) (hsm : s ≤ m) (hsd : s ≤ mid) (he1 : m ≤ mid + m - s) (he2 : mid + m - s ≤ b)
    (h1 : s = a ∨ mid + m - s = b ∨ ¬ lt (p (mid + m - s)) (p (s - 1))) (h2 : s = m ∨ mid + m - s = m ∨ lt (p (mid + m - s - 1)) (p s)) :
    Srt lt (rot p s m (mid + m - s)) a s ∧ Srt lt (rot p s m (mid + m - s)) s mid ∧ Srt lt (rot p s m (mid + m - s)) mid (mid + m - s) ∧ Srt lt (rot p s m (mid + m - s)) (mid + m - s) b ∧
    (∀ i j, a ≤ i → i < s → s ≤ j → j < mid → rot p s m (mid + m - s) i < rot p s m (mid + m - s) j) ∧ (∀ i j, mid ≤ i → i < mid + m - s → mid + m - s ≤ j → j < b → rot p s m (mid + m - s) i < rot p s m (mid + m - s) j) ∧
    (∀ i j, a ≤ i → i < mid → mid ≤ j → j < b → Lx lt (rot p s m (mid + m - s) i) (rot p s m (mid + m - s) j)) := by
  obtain ⟨e, he⟩ : ∃ e, mid + m - s = e := ⟨_, rfl⟩
  rw [he] at he1 he2 h1 h2 ⊢
  have r1 : ∀ k, k < s → rot p s m e k = p k := fun k hk => by
    unfold rot
    rw [if_neg (by omega), if_neg (by omega)]
  have r2 : ∀ k, s ≤ k → k < mid → rot p s m e k = p (k + (m - s)) := fun k c1 c2 => by
    unfold rot
    rw [if_pos (by omega)]
  have r3 : ∀ k, mid ≤ k → k < e → rot p s m e k = p (k - (e - m)) := fun k c1 c2 => by
    unfold rot
    rw [if_neg (by omega), if_pos (by omega)]
  have r4 : ∀ k, e ≤ k → rot p s m e k = p k := fun k hk => by
    unfold rot
    rw [if_neg (by omega), if_neg (by omega)]
  -- the four parts against each other
  have c13 : ∀ x y, a ≤ x → x < s → e ≤ y → y < b → Lx lt (p x) (p y) := fun x y l1 l2 l3 l4 => by
    rcases h1 with h1 | h1 | h1
    · omega
    · omega
    · have hb : Lx lt (p (s - 1)) (p e) := .inr ⟨h1, hidx _ _ (by omega) (by omega) (by omega) (by omega)⟩
      have h3 : Lx lt (p x) (p e) := by
        by_cases c : x = s - 1
        · rw [c]; exact hb
        · exact (hs1 x (s - 1) l1 (by omega) (by omega)).trans ho hb
      by_cases c : y = e
      · rw [c]; exact h3
      · exact h3.trans ho (hs2 e y (by omega) (by omega) l4)
  have c22 : ∀ x y, m ≤ x → x < e → s ≤ y → y < m → Lx lt (p x) (p y) := fun x y l1 l2 l3 l4 => by
    rcases h2 with h2 | h2 | h2
    · omega
    · omega
    · have hb : Lx lt (p (e - 1)) (p s) := .inl h2
      have h3 : Lx lt (p x) (p s) := by
        by_cases c : x = e - 1
        · rw [c]; exact hb
        · exact (hs2 x (e - 1) l1 (by omega) (by omega)).trans ho hb
      by_cases c : y = s
      · rw [c]; exact h3
      · exact h3.trans ho (hs1 s y ha (by omega) l4)
  refine ⟨?_, ?_, ?_, ?_, ?_, ?_, ?_⟩
  · exact (hs1.sub (Nat.le_refl _) hsm).congr fun k l1 l2 => r1 k l2
  · intro x y l1 l2 l3
    rw [r2 x l1 (by omega), r2 y (by omega) l3]
    exact hs2 _ _ (by omega) (by omega) (by omega)
  · intro x y l1 l2 l3
    rw [r3 x l1 (by omega), r3 y (by omega) l3]
    exact hs1 _ _ (by omega) (by omega) (by omega)
  · exact (hs2.sub he1 (Nat.le_refl _)).congr fun k l1 l2 => r4 k l1
  · intro x y l1 l2 l3 l4
    rw [r1 x l2, r2 y l3 l4]
    exact hidx _ _ l1 (by omega) (by omega) (by omega)
  · intro x y l1 l2 l3 l4
    rw [r3 x l1 l2, r4 y l3]
    exact hidx _ _ (by omega) (by omega) (by omega) (by omega)
  · intro x y l1 l2 l3 l4
    by_cases cx : x < s
    · rw [r1 x cx]
      by_cases cy : y < e
      · rw [r3 y l3 cy]
        exact hs1 _ _ l1 (by omega) (by omega)
      · rw [r4 y (by omega)]
        exact c13 x y l1 cx (by omega) l4
    · rw [r2 x (by omega) l2]
      by_cases cy : y < e
      · rw [r3 y l3 cy]
        exact c22 _ _ (by omega) (by omega) (by omega) (by omega)
      · rw [r4 y (by omega)]
        exact hs2 _ _ (by omega) (by omega) l4

/-- a block that holds what was there at first, ascending -/
structure Good (lt : Nat → Nat → Prop) (p : Nat → Nat) (a b : Nat) : Prop where
  srt : Srt lt p a b
  own : ∀ i, a ≤ i → i < b → a ≤ p i ∧ p i < b
theorem Good.congr {lt : Nat → Nat → Prop} {p q : Nat → Nat} {a b : Nat} (h : Good lt p a b) (e : ∀ k, a ≤ k → k < b → q k = p k) : Good lt q a b :=
  ⟨h.srt.congr e, fun i h1 h2 => by rw [e i h1 h2]; exact h.own i h1 h2⟩
theorem Good.join {lt : Nat → Nat → Prop} {p q : Nat → Nat} {a m b : Nat} (h1 : Good lt p a m) (h2 : Good lt p m b) (hm : a ≤ m ∧ m ≤ b) (hq : Mem p q a b) (hs : Srt lt q a b) : Good lt q a b := by
  refine ⟨hs, fun i l1 l2 => ?_⟩
  obtain ⟨j, m1, m2, e⟩ := hq.from' i l1 l2
  rw [e]
  by_cases c : j < m
  · have := h1.own j m1 c; omega
  · have := h2.own j (by omega) m2; omega
/-- blocks of a size, from a place on -/
inductive Blocks (lt : Nat → Nat → Prop) (p : Nat → Nat) (s n : Nat) : Nat → Prop where
  | last (x : Nat) : x ≤ n → n ≤ x + s → Good lt p x n → Blocks lt p s n x
  | more (x : Nat) : x + s < n → Good lt p x (x + s) → Blocks lt p s n (x + s) → Blocks lt p s n x
/-- blocks of a size, up to a place -/
inductive Pre (lt : Nat → Nat → Prop) (p : Nat → Nat) (s : Nat) : Nat → Prop where
  | nil : Pre lt p s 0
  | snoc (x : Nat) : Pre lt p s x → Good lt p x (x + s) → Pre lt p s (x + s)
theorem Blocks.congr {lt : Nat → Nat → Prop} {p q : Nat → Nat} {s n x : Nat} (h : Blocks lt p s n x) (e : ∀ k, x ≤ k → k < n → q k = p k) : Blocks lt q s n x := by
  induction h with
  | last x h1 h2 h3 => exact .last x h1 h2 (h3.congr e)
  | more x h1 h2 _ ih => exact .more x h1 (h2.congr fun k l1 l2 => e k l1 (by omega)) (ih fun k l1 l2 => e k (by omega) l2)
theorem Pre.congr {lt : Nat → Nat → Prop} {p q : Nat → Nat} {s x : Nat} (h : Pre lt p s x) (e : ∀ k, k < x → q k = p k) : Pre lt q s x := by
  induction h with
  | nil => exact .nil
  | snoc x h1 h2 ih => exact .snoc x (ih fun k l => e k (by omega)) (h2.congr fun k l1 l2 => e k l2)
theorem Pre.all {lt : Nat → Nat → Prop} {p : Nat → Nat} {s n x : Nat} (hs : 0 < s) (h : Pre lt p s x) (hb : Blocks lt p s n x) : Blocks lt p s n 0 := by
  induction h with
  | nil => exact hb
  | snoc x h1 h2 ih =>
    by_cases c : x + s < n
    · exact ih (.more x c h2 hb)
    · refine ih (.last x ?_ ?_ ?_)
      · cases hb <;> omega
      · omega
      · have : x + s = n := by cases hb <;> omega
        rw [← this]; exact h2
theorem Blocks.two {lt : Nat → Nat → Prop} {p : Nat → Nat} {s n x : Nat} (hs : 0 < s) (h : Blocks lt p s n x) (hn : x + 2 * s ≤ n) : Good lt p x (x + s) ∧ Good lt p (x + s) (x + 2 * s) ∧ Blocks lt p s n (x + 2 * s) := by
  cases h with
  | last _ h1 h2 h3 => omega
  | more _ h1 h2 h3 =>
    cases h3 with
    | last _ k1 k2 k3 =>
      have e : n = x + 2 * s := by omega
      subst e
      exact ⟨h2, k3, .last _ (Nat.le_refl _) (by omega) ⟨fun i j l1 l2 l3 => by omega, fun i l1 l2 => by omega⟩⟩
    | more _ k1 k2 k3 =>
      rw [show x + s + s = x + 2 * s by omega] at k2 k3
      exact ⟨h2, k2, k3⟩
theorem Blocks.tail {lt : Nat → Nat → Prop} {p : Nat → Nat} {s n x : Nat} (h : Blocks lt p s n x) (hn : n < x + 2 * s) : (x + s < n → Good lt p x (x + s) ∧ Good lt p (x + s) n) ∧ (n ≤ x + s → Good lt p x n) := by
  cases h with
  | last _ h1 h2 h3 => exact ⟨fun h => by omega, fun _ => h3⟩
  | more _ h1 h2 h3 =>
    refine ⟨fun _ => ⟨h2, ?_⟩, fun h => by omega⟩
    cases h3 with
    | last _ k1 k2 k3 => exact k3
    | more _ k1 k2 k3 => omega
theorem Blocks.whole {lt : Nat → Nat → Prop} {p : Nat → Nat} {s n : Nat} (h : Blocks lt p s n 0) (hn : n ≤ s) : Good lt p 0 n := by
  cases h with
  | last _ h1 h2 h3 => exact h3
  | more _ h1 h2 h3 => omega
theorem Blocks.le {lt : Nat → Nat → Prop} {p : Nat → Nat} {s n x : Nat} (h : Blocks lt p s n x) : x ≤ n := by
  cases h <;> omega
end Go.Proofs.Yteblimdbkiiaaaa
