/- chanmap: plain laws of the texts of maps: runs of channels, their text, and what both parsers make of a text; no walk. -/
import Derived.Test.YtoaiiceglfmfcaaDoorChanB
import Derived.Lib.AtoiAll
import Derived.Lib.Split
namespace Go.Proofs.YtoaiiceglfmfcaaDoor

/-- the digits of a number below 100 -/
def dec (n : Nat) : List Nat := if n < 10 then [48 + n] else [48 + n / 10, 48 + n % 10]
/-- the text of a run of channels -/
def part (r : Nat × Nat) : List Nat := if r.1 < r.2 then dec r.1 ++ [45] ++ dec r.2 else dec r.1
def tailR (l : List (Nat × Nat)) : List Nat := l.flatMap fun r => 44 :: part r
/-- the text of runs -/
def txtR : List (Nat × Nat) → List Nat
  | [] => []
  | r :: l => part r ++ tailR l
theorem dec_ne (n : Nat) : dec n ≠ [] := by unfold dec; split <;> simp
theorem dec_len (n : Nat) : 1 ≤ (dec n).length ∧ (dec n).length ≤ 2 := by unfold dec; split <;> simp
theorem dec_mem (n : Nat) (h : n < 100) : ∀ x ∈ dec n, 48 ≤ x ∧ x ≤ 57 := by
  intro x hx
  unfold dec at hx
  split at hx
  · simp only [List.mem_singleton] at hx; omega
  · simp only [List.mem_cons, List.not_mem_nil, or_false] at hx
    rcases hx with rfl | rfl <;> omega
theorem part_ne (r : Nat × Nat) : part r ≠ [] := by
  unfold part
  split
  · simp
  · exact dec_ne _
theorem part_len (r : Nat × Nat) : 1 ≤ (part r).length ∧ (part r).length ≤ 5 := by
  have h1 := dec_len r.1
  have h2 := dec_len r.2
  unfold part
  split
  · simp only [List.length_append, List.length_cons, List.length_nil]; omega
  · omega
theorem part_mem (r : Nat × Nat) (h1 : r.1 < 100) (h2 : r.2 < 100) : ∀ x ∈ part r, x = 45 ∨ 48 ≤ x ∧ x ≤ 57 := by
  intro x hx
  unfold part at hx
  split at hx
  · simp only [List.mem_append, List.mem_singleton] at hx
    rcases hx with (h | h) | h
    · exact .inr (dec_mem _ h1 x h)
    · exact .inl h
    · exact .inr (dec_mem _ h2 x h)
  · exact .inr (dec_mem _ h1 x hx)
theorem txtR_snoc (l : List (Nat × Nat)) (r : Nat × Nat) : txtR (l ++ [r]) = if l = [] then part r else txtR l ++ 44 :: part r := by
  cases l with
  | nil => simp [txtR, tailR]
  | cons a l => simp [txtR, tailR]
theorem txtR_nil (l : List (Nat × Nat)) : txtR l = [] ↔ l = [] := by
  cases l with
  | nil => simp [txtR]
  | cons a l =>
    have := part_ne a
    simp [txtR, this]
theorem txtR_lt (l : List (Nat × Nat)) (h : ∀ r ∈ l, r.1 < 100 ∧ r.2 < 100) : ∀ x ∈ txtR l, x < 256 := by
  intro x hx
  cases l with
  | nil => simp [txtR] at hx
  | cons a l =>
    simp only [txtR, tailR, List.mem_append, List.mem_flatMap, List.mem_cons] at hx
    rcases hx with hx | ⟨r, hr, rfl | hx⟩
    · obtain ⟨h1, h2⟩ := h a (by simp)
      rcases part_mem a h1 h2 x hx with rfl | hh <;> omega
    · decide
    · obtain ⟨h1, h2⟩ := h r (by simp [hr])
      rcases part_mem r h1 h2 x hx with rfl | hh <;> omega
theorem tailR_len (l : List (Nat × Nat)) : (tailR l).length ≤ 6 * l.length := by
  induction l with
  | nil => simp [tailR]
  | cons a l ih =>
    have := part_len a
    simp only [tailR, List.flatMap_cons, List.length_append, List.length_cons] at ih ⊢
    omega
theorem txtR_len (l : List (Nat × Nat)) : (txtR l).length ≤ 6 * l.length := by
  cases l with
  | nil => simp [txtR]
  | cons a l =>
    have := part_len a
    have := tailR_len l
    simp only [txtR, List.length_append, List.length_cons]
    omega

/-! ### the runs of a map -/
/-- the last channel of the run that goes on at a -/
def ext (m a : Nat) : Nat → Nat
  | 0 => a
  | f+1 => if hasI m ((a + 1 : Nat) : Int) then ext m (a + 1) f else a
def lastOf (m a : Nat) : Nat := ext m a (37 - a)
theorem lastOf_step (m a : Nat) (h : hasI m ((a + 1 : Nat) : Int) = true) : lastOf m a = lastOf m (a + 1) := by
  have h37 : a + 1 < 37 := by
    rcases Nat.lt_or_ge (a + 1) 37 with h' | h'
    · exact h'
    · rw [hasI_hi m (by omega)] at h; cases h
  unfold lastOf
  rw [show 37 - a = (37 - (a + 1)) + 1 by omega, ext, if_pos h]
theorem lastOf_stop (m a : Nat) (h : hasI m ((a + 1 : Nat) : Int) = false) : lastOf m a = a := by
  unfold lastOf
  cases 37 - a with
  | zero => rfl
  | succ k => rw [ext, if_neg (fun e => by rw [h] at e; cases e)]
theorem lastOf_spec (m : Nat) : ∀ (f a : Nat), 36 - a = f → a < 37 → hasI m (a : Int) = true → a ≤ lastOf m a ∧ lastOf m a < 37 ∧ (∀ c, a ≤ c → c ≤ lastOf m a → hasI m (c : Int) = true) ∧ hasI m ((lastOf m a + 1 : Nat) : Int) = false
  | 0, a, hf, h37, ha => by
    have h : hasI m ((a + 1 : Nat) : Int) = false := hasI_hi m (by omega)
    rw [lastOf_stop m a h]
    exact ⟨Nat.le_refl _, h37, fun c h1 h2 => by rw [show c = a by omega]; exact ha, h⟩
  | f+1, a, hf, h37, ha => by
    cases h : hasI m ((a + 1 : Nat) : Int)
    · rw [lastOf_stop m a h]
      exact ⟨Nat.le_refl _, h37, fun c h1 h2 => by rw [show c = a by omega]; exact ha, h⟩
    · rw [lastOf_step m a h]
      obtain ⟨h1, h2, h3, h4⟩ := lastOf_spec m f (a + 1) (by omega) (by omega) h
      refine ⟨by omega, h2, fun c hc1 hc2 => ?_, h4⟩
      by_cases e : c = a
      · rw [e]; exact ha
      · exact h3 c (by omega) hc2
/-- the runs that begin below k -/
def runsTo (m k : Nat) : List (Nat × Nat) := ((List.range k).filter fun a : Nat => hasI m (a : Int) && !hasI m ((a : Int) - 1)).map fun a => (a, lastOf m a)
theorem runsTo_succ (m k : Nat) : runsTo m (k + 1) = runsTo m k ++ (if hasI m (k : Int) && !hasI m ((k : Int) - 1) then [(k, lastOf m k)] else []) := by
  unfold runsTo
  rw [List.range_succ, List.filter_append, List.map_append]
  congr 1
  simp only [List.filter_cons, List.filter_nil]
  split <;> rfl
theorem runsTo_mem (m k : Nat) (r : Nat × Nat) (h : r ∈ runsTo m k) : r.1 ≤ r.2 ∧ r.2 < 37 ∧ (∀ c, r.1 ≤ c → c ≤ r.2 → hasI m (c : Int) = true) := by
  unfold runsTo at h
  simp only [List.mem_map, List.mem_filter, List.mem_range, Bool.and_eq_true] at h
  obtain ⟨a, ⟨_, ha, _⟩, rfl⟩ := h
  have h37 : a < 37 := by
    rcases Nat.lt_or_ge a 37 with h' | h'
    · exact h'
    · rw [hasI_hi m (by omega)] at ha; cases ha
  obtain ⟨h1, h2, h3, _⟩ := lastOf_spec m _ a rfl h37 ha
  exact ⟨h1, h2, h3⟩
theorem has_lt37 (m c : Nat) (h : hasI m (c : Int) = true) : c < 37 := by
  rcases Nat.lt_or_ge c 37 with h' | h'
  · exact h'
  · rw [hasI_hi m (by omega)] at h; cases h
theorem runs_cover (m c : Nat) (h : hasI m (c : Int) = true) : ∃ a : Nat, a ≤ c ∧ c ≤ lastOf m a ∧ hasI m (a : Int) = true ∧ hasI m ((a : Int) - 1) = false := by
  induction c with
  | zero => exact ⟨0, Nat.le_refl _, Nat.zero_le _, h, hasI_lo m (by omega)⟩
  | succ c ih =>
    have h37 := has_lt37 m _ h
    cases hp : hasI m (c : Int) with
    | false =>
      have hl := (lastOf_spec m _ (c + 1) rfl h37 h).1
      have hq : hasI m (((c + 1 : Nat) : Int) - 1) = false := by rw [show ((c + 1 : Nat) : Int) - 1 = (c : Int) by omega]; exact hp
      exact ⟨c + 1, Nat.le_refl _, hl, h, hq⟩
    | true =>
      obtain ⟨a, h1, h2, h3, h4⟩ := ih hp
      have ha := has_lt37 m _ h3
      obtain ⟨s1, s2, s3, s4⟩ := lastOf_spec m _ a rfl ha h3
      refine ⟨a, by omega, ?_, h3, h4⟩
      rcases Nat.lt_or_ge (lastOf m a) (c + 1) with h' | h'
      · have e : lastOf m a = c := by omega
        rw [e, h] at s4
        cases s4
      · exact h'
theorem runs_any (m c : Nat) : (runsTo m 37).any (fun r => decide (r.1 ≤ c) && decide (c ≤ r.2)) = hasI m (c : Int) := by
  cases h : hasI m (c : Int)
  · rw [List.any_eq_false]
    intro r hr
    obtain ⟨_, _, h3⟩ := runsTo_mem m 37 r hr
    intro hh
    simp only [Bool.and_eq_true, decide_eq_true_eq] at hh
    rw [h3 c hh.1 hh.2] at h
    cases h
  · obtain ⟨a, h1, h2, h3, h4⟩ := runs_cover m c h
    have h37 : a < 37 := by
      rcases Nat.lt_or_ge a 37 with h' | h'
      · exact h'
      · rw [hasI_hi m (by omega)] at h3; cases h3
    rw [List.any_eq_true]
    refine ⟨(a, lastOf m a), ?_, by simp [h1, h2]⟩
    unfold runsTo
    simp only [List.mem_map, List.mem_filter, List.mem_range]
    exact ⟨a, ⟨h37, by simp [h3, h4]⟩, rfl⟩
theorem runsTo_len (m : Nat) : ∀ k : Nat, 2 * (runsTo m k).length ≤ k + (if hasI m ((k : Int) - 1) then 1 else 0)
  | 0 => by simp [runsTo]
  | k+1 => by
    have ih := runsTo_len m k
    rw [runsTo_succ, List.length_append, show ((k + 1 : Nat) : Int) - 1 = (k : Int) by omega]
    cases h1 : hasI m (k : Int) <;> cases h2 : hasI m ((k : Int) - 1) <;> simp [h2] at ih ⊢ <;> omega
/-- the text of a map -/
def tx (m : Nat) : List Nat := txtR (runsTo m 37)
theorem tx_len (m : Nat) : (tx m).length ≤ 114 := by
  have h1 := txtR_len (runsTo m 37)
  have h2 := runsTo_len m 37
  have h3 : (if hasI m (((37 : Nat) : Int) - 1) then 1 else 0) ≤ 1 := by split <;> omega
  unfold tx
  omega
theorem runs_bd (m k : Nat) : ∀ r ∈ runsTo m k, r.1 < 100 ∧ r.2 < 100 := fun r hr => by
  obtain ⟨h1, h2, _⟩ := runsTo_mem m k r hr
  omega
theorem tx_lt (m : Nat) : ∀ x ∈ tx m, x < 256 := txtR_lt _ (runs_bd m 37)
/-- what the code collects of the channels of a list -/
def runsL (m : Nat) (l : List (Fin 37)) : List (Nat × Nat) := (l.filter fun x => !hasI m ((x.val : Int) - 1)).map fun x => (x.val, lastOf m x.val)
theorem runsL_snoc (m : Nat) (l : List (Fin 37)) (x : Fin 37) : runsL m (l ++ [x]) = runsL m l ++ (if hasI m ((x.val : Int) - 1) then [] else [(x.val, lastOf m x.val)]) := by
  unfold runsL
  rw [List.filter_append, List.map_append]
  congr 1
  cases h : hasI m ((x.val : Int) - 1) <;> simp [h]
theorem runsL_all (m : Nat) : runsL m (lst m) = runsTo m 37 := by
  have hr : List.range 37 = (List.finRange 37).map (fun x => x.val) := by decide
  unfold runsL runsTo lst lstTo
  rw [hr, List.filter_map, List.map_map, List.take_of_length_le (by simp), List.filter_filter]
  congr 1
  refine List.filter_congr (fun x _ => ?_)
  have : hasI m (x.val : Int) = m.testBit x.val := hasI_in m x.val x.isLt
  simp only [Function.comp]
  rw [this, Bool.and_comm]

/-! ### maps of runs -/
def orTo (m a : Nat) : Nat → Nat
  | 0 => m
  | k+1 => orTo m a k ||| 2 ^ (a + k)
/-- a map with the channels of a run -/
def orRun (m : Nat) (r : Nat × Nat) : Nat := orTo m r.1 (r.2 + 1 - r.1)
theorem orTo_bit (m a c : Nat) : ∀ k, (orTo m a k).testBit c = (m.testBit c || (decide (a ≤ c) && decide (c < a + k)))
  | 0 => by simp [orTo]; omega
  | k+1 => by
    rw [orTo, Nat.testBit_or, orTo_bit m a c k, Nat.testBit_two_pow]
    cases m.testBit c
    · rw [Bool.eq_iff_iff]
      simp only [Bool.false_or, Bool.or_eq_true, Bool.and_eq_true, decide_eq_true_eq]
      omega
    · simp
theorem orRun_bit (m c : Nat) (r : Nat × Nat) : (orRun m r).testBit c = (m.testBit c || (decide (r.1 ≤ c) && decide (c ≤ r.2))) := by
  unfold orRun
  rw [orTo_bit]
  congr 1
  rw [Bool.eq_iff_iff]
  simp only [Bool.and_eq_true, decide_eq_true_eq]
  omega
theorem orTo_lt (m a : Nat) (hm : m < 2 ^ 37) : ∀ k, a + k ≤ 37 → orTo m a k < 2 ^ 37
  | 0, _ => hm
  | k+1, h => by
    unfold orTo
    exact Nat.or_lt_two_pow (orTo_lt m a hm k (by omega)) (Nat.pow_lt_pow_right (by decide) (by omega))
theorem orRun_lt (m : Nat) (r : Nat × Nat) (hm : m < 2 ^ 37) (h1 : r.1 < 37) (h : r.2 < 37) : orRun m r < 2 ^ 37 := by
  unfold orRun
  exact orTo_lt m r.1 hm _ (by omega)
theorem fold_bit (l : List (Nat × Nat)) (c : Nat) : ∀ m, (l.foldl orRun m).testBit c = (m.testBit c || l.any fun r => decide (r.1 ≤ c) && decide (c ≤ r.2)) := by
  induction l with
  | nil => intro m; simp
  | cons r l ih =>
    intro m
    rw [List.foldl_cons, ih, orRun_bit, List.any_cons, Bool.or_assoc]
theorem fold_runs (m : Nat) (hm : m < 2 ^ 37) : (runsTo m 37).foldl orRun 0 = m := by
  apply Nat.eq_of_testBit_eq
  intro c
  rw [fold_bit, runs_any]
  simp only [Nat.zero_testBit, Bool.false_or]
  by_cases h : c < 37
  · exact hasI_in m c h
  · rw [hasI_hi m (by omega), Nat.testBit_lt_two_pow (Nat.lt_of_lt_of_le hm (Nat.pow_le_pow_right (by decide) (by omega)))]

/-! ### the code's parser -/
/-- the pieces of a text between commas -/
def spl : List Nat → List (List Nat)
  | [] => [[]]
  | x :: l => if x = 44 then [] :: spl l else match spl l with
    | [] => [[x]]
    | p :: ps => (x :: p) :: ps
theorem spl_ne (l : List Nat) : spl l ≠ [] := by
  cases l with
  | nil => simp [spl]
  | cons x l =>
    unfold spl
    split
    · simp
    · split <;> simp
theorem spl_piece (p l : List Nat) (h : ∀ x ∈ p, x ≠ 44) : spl (p ++ 44 :: l) = p :: spl l := by
  induction p with
  | nil => simp [spl]
  | cons x p ih =>
    rw [List.cons_append, spl, if_neg (h x (by simp)), ih (fun y hy => h y (by simp [hy]))]
theorem spl_last (p : List Nat) (h : ∀ x ∈ p, x ≠ 44) : spl p = [p] := by
  induction p with
  | nil => simp [spl]
  | cons x p ih =>
    rw [spl, if_neg (h x (by simp)), ih (fun y hy => h y (by simp [hy]))]
theorem spl_parts (l : List (Nat × Nat)) (r : Nat × Nat) (h : ∀ q ∈ r :: l, q.1 < 100 ∧ q.2 < 100) : spl (txtR (r :: l)) = (r :: l).map part := by
  have hp : ∀ q ∈ r :: l, ∀ x ∈ part q, x ≠ 44 := fun q hq x hx => by
    obtain ⟨h1, h2⟩ := h q hq
    rcases part_mem q h1 h2 x hx with rfl | hh <;> omega
  clear h
  induction l generalizing r with
  | nil => simp only [txtR, tailR, List.flatMap_nil, List.append_nil, List.map_cons, List.map_nil]; exact spl_last _ (hp r (by simp))
  | cons a l ih =>
    have e : txtR (r :: a :: l) = part r ++ 44 :: txtR (a :: l) := by simp [txtR, tailR]
    rw [e, spl_piece _ _ (hp r (by simp)), ih a (fun q hq => hp q (List.mem_cons_of_mem _ hq)), List.map_cons, List.map_cons, List.map_cons]
/-- a piece before and behind its first hyphen -/
def cutP (p : List Nat) : List Nat × List Nat := if 45 ∈ p then (p.takeWhile (· ≠ 45), (p.dropWhile (· ≠ 45)).drop 1) else (p, p)
theorem cut_free (l k : List Nat) (h : ∀ x ∈ l, x ≠ 45) : (l ++ 45 :: k).takeWhile (· ≠ 45) = l ∧ (l ++ 45 :: k).dropWhile (· ≠ 45) = 45 :: k := by
  induction l with
  | nil => simp
  | cons x l ih =>
    obtain ⟨h1, h2⟩ := ih (fun y hy => h y (by simp [hy]))
    have hx : x ≠ 45 := h x (by simp)
    simp only [List.cons_append, List.takeWhile_cons, List.dropWhile_cons]
    simp [hx]
    exact ⟨by simpa using h1, by simpa using h2⟩
theorem cutP_part (r : Nat × Nat) (h : r.1 ≤ r.2) (h2 : r.2 < 100) : cutP (part r) = (dec r.1, dec r.2) := by
  have hd : ∀ x ∈ dec r.1, x ≠ 45 := fun x hx => by have := dec_mem r.1 (by omega) x hx; omega
  unfold cutP part
  split
  · obtain ⟨e1, e2⟩ := cut_free (dec r.1) (dec r.2) hd
    rw [List.append_assoc, List.singleton_append, if_pos (by simp), e1, e2]
    rfl
  · rw [if_neg (fun hh => hd 45 hh rfl), show r.2 = r.1 by omega]
/-- the data channel of one or two bytes -/
def numC (t : List Nat) : Option Nat :=
  if t.length < 1 ∨ 2 < t.length then none else match Lib.atoiAll (t.map UInt8.ofNat) with
    | .ok v => if 0 ≤ v ∧ v < 37 then some v.toNat else none
    | _ => none
theorem numC_lt (t : List Nat) (n : Nat) (h : numC t = some n) : n < 37 := by
  unfold numC at h
  split at h
  · cases h
  · split at h
    · split at h
      · simp only [Option.some.injEq] at h; omega
      · cases h
    · cases h
set_option maxRecDepth 100000 in
theorem numC_all : ∀ n : Fin 37, numC (dec n.val) = some n.val := by decide +kernel
theorem numC_dec (n : Nat) (h : n < 37) : numC (dec n) = some n := numC_all ⟨n, h⟩
/-- the map of pieces -/
def candP : List (List Nat) → Nat → Option Nat
  | [], m => some m
  | p :: ps, m => match numC (cutP p).1, numC (cutP p).2 with
    | some a, some b => candP ps (orRun m (a, b))
    | _, _ => none
theorem candP_parts (l : List (Nat × Nat)) (h : ∀ q ∈ l, q.1 ≤ q.2 ∧ q.2 < 37) : ∀ m, candP (l.map part) m = some (l.foldl orRun m) := by
  induction l with
  | nil => intro m; rfl
  | cons r l ih =>
    intro m
    obtain ⟨h1, h2⟩ := h r (by simp)
    rw [List.map_cons, candP, cutP_part r h1 (by omega), numC_dec r.1 (by omega), numC_dec r.2 h2, List.foldl_cons]
    exact ih (fun q hq => h q (by simp [hq])) _
theorem candP_lt : ∀ (l : List (List Nat)) (m n : Nat), m < 2 ^ 37 → candP l m = some n → n < 2 ^ 37
  | [], m, n, hm, h => by simp only [candP, Option.some.injEq] at h; omega
  | p :: ps, m, n, hm, h => by
    unfold candP at h
    split at h
    · rename_i a b ha hb
      exact candP_lt ps _ n (orRun_lt m (a, b) hm (numC_lt _ _ ha) (numC_lt _ _ hb)) h
    · cases h
def candC (ss : List Nat) : Option Nat := candP (spl ss) 0

/-! ### the reference's parser -/
/-- a byte more: number, digits, whether it ends a range, the numbers so far -/
def numS (st : Nat × Nat × Bool × List (Nat × Bool)) (c : Nat) : Nat × Nat × Bool × List (Nat × Bool) :=
  if 48 ≤ c ∧ c ≤ 57 then ((10 * st.1 + (c - 48)) % 100, st.2.1 + 1, st.2.2.1, st.2.2.2)
  else (0, 0, decide (c = 45), if 0 < st.2.1 then st.2.2.2 ++ [(st.1, st.2.2.1)] else st.2.2.2)
def numsTo (ss : List Nat) : Nat × Nat × Bool × List (Nat × Bool) := ss.foldl numS (0, 0, false, [])
def nums (ss : List Nat) : List (Nat × Bool) := (numS (numsTo ss) 0).2.2.2
theorem numS_dig (n k : Nat) (j : Bool) (acc : List (Nat × Bool)) (c : Nat) (h : 48 ≤ c ∧ c ≤ 57) : numS (n, k, j, acc) c = ((10 * n + (c - 48)) % 100, k + 1, j, acc) := by
  unfold numS
  rw [if_pos h]
theorem numS_sep (n k : Nat) (j : Bool) (acc : List (Nat × Bool)) (c : Nat) (h : ¬ (48 ≤ c ∧ c ≤ 57)) : numS (n, k + 1, j, acc) c = (0, 0, decide (c = 45), acc ++ [(n, j)]) := by
  unfold numS
  rw [if_neg h]
  simp
theorem numS_dec (n : Nat) (h : n < 100) (j : Bool) (acc : List (Nat × Bool)) (c : Nat) (hc : ¬ (48 ≤ c ∧ c ≤ 57)) : (dec n ++ [c]).foldl numS (0, 0, j, acc) = (0, 0, decide (c = 45), acc ++ [(n, j)]) := by
  unfold dec
  split
  · have e : (10 * 0 + (48 + n - 48)) % 100 = n := by omega
    rw [List.singleton_append, List.foldl_cons, List.foldl_cons, List.foldl_nil, numS_dig 0 0 j acc (48 + n) (by omega), e, numS_sep _ _ _ _ _ hc]
  · have e1 : (10 * 0 + (48 + n / 10 - 48)) % 100 = n / 10 := by omega
    have e2 : (10 * (n / 10) + (48 + n % 10 - 48)) % 100 = n := by omega
    rw [List.cons_append, List.singleton_append, List.foldl_cons, List.foldl_cons, List.foldl_cons, List.foldl_nil, numS_dig 0 0 j acc (48 + n / 10) (by omega), e1, numS_dig _ _ j acc (48 + n % 10) (by omega), e2, numS_sep _ _ _ _ _ hc]
/-- the numbers of a run -/
def pr (r : Nat × Nat) : List (Nat × Bool) := if r.1 < r.2 then [(r.1, false), (r.2, true)] else [(r.1, false)]
theorem numS_part (r : Nat × Nat) (h1 : r.1 < 100) (h2 : r.2 < 100) (acc : List (Nat × Bool)) (c : Nat) (hc : ¬ (48 ≤ c ∧ c ≤ 57)) (hc2 : c ≠ 45) : (part r ++ [c]).foldl numS (0, 0, false, acc) = (0, 0, false, acc ++ pr r) := by
  unfold part pr
  split
  · rw [List.append_assoc, List.foldl_append, numS_dec _ h1 _ _ 45 (by decide), numS_dec _ h2 _ _ c hc]
    simp [hc2]
  · rw [numS_dec _ h1 _ _ c hc]
    simp [hc2]
theorem nums_txtR (l : List (Nat × Nat)) (r : Nat × Nat) (h : ∀ q ∈ r :: l, q.1 < 100 ∧ q.2 < 100) : ∀ acc, (txtR (r :: l) ++ [0]).foldl numS (0, 0, false, acc) = (0, 0, false, acc ++ (r :: l).flatMap pr) := by
  induction l generalizing r with
  | nil =>
    intro acc
    obtain ⟨h1, h2⟩ := h r (by simp)
    simp only [txtR, tailR, List.flatMap_nil, List.append_nil, List.flatMap_cons]
    exact numS_part r h1 h2 acc 0 (by decide) (by decide)
  | cons a l ih =>
    intro acc
    obtain ⟨h1, h2⟩ := h r (by simp)
    have e : txtR (r :: a :: l) ++ [0] = (part r ++ [44]) ++ (txtR (a :: l) ++ [0]) := by simp [txtR, tailR]
    rw [e, List.foldl_append, numS_part r h1 h2 acc 44 (by decide) (by decide), ih a (fun q hq => h q (List.mem_cons_of_mem _ hq)), List.append_assoc]
    rfl
theorem nums_eq (ss : List Nat) : nums ss = ((ss ++ [0]).foldl numS (0, 0, false, [])).2.2.2 := by
  unfold nums numsTo
  rw [List.foldl_append]
  rfl
/-- a number more: the last number, the map -/
def mapS (st : Option Nat × Nat) (x : Nat × Bool) : Option Nat × Nat :=
  (some x.1, orRun st.2 (match st.1 with | some q => if x.2 then q else x.1 | none => x.1, min x.1 36))
def candR (ss : List Nat) : Nat := ((nums ss).foldl mapS (none, 0)).2
theorem orRun_twice (m a b : Nat) (h : a < b) : orRun (orRun m (a, a)) (a, b) = orRun m (a, b) := by
  apply Nat.eq_of_testBit_eq
  intro c
  rw [orRun_bit, orRun_bit, orRun_bit]
  cases m.testBit c
  · rw [Bool.eq_iff_iff]
    simp only [Bool.false_or, Bool.or_eq_true, Bool.and_eq_true, decide_eq_true_eq]
    omega
  · simp
theorem mapS_pr (r : Nat × Nat) (h1 : r.1 ≤ r.2) (h2 : r.2 < 37) (p : Option Nat) (m : Nat) : ∃ q, (pr r).foldl mapS (p, m) = (q, orRun m r) := by
  obtain ⟨a, b⟩ := r
  simp only at h1 h2
  unfold pr
  split
  · rename_i h
    simp only at h
    refine ⟨some b, ?_⟩
    have e1 : min a 36 = a := by omega
    have e2 : min b 36 = b := by omega
    simp only [List.foldl_cons, List.foldl_nil, mapS, Bool.false_eq_true, if_false, if_true, e1, e2]
    rw [← orRun_twice m a b h]
    cases p <;> rfl
  · rename_i h
    simp only at h
    obtain rfl : a = b := by omega
    have e1 : min a 36 = a := by omega
    refine ⟨some a, ?_⟩
    simp only [List.foldl_cons, List.foldl_nil, mapS, Bool.false_eq_true, if_false, e1]
    cases p <;> rfl
theorem mapS_runs (l : List (Nat × Nat)) (h : ∀ q ∈ l, q.1 ≤ q.2 ∧ q.2 < 37) : ∀ p m, ((l.flatMap pr).foldl mapS (p, m)).2 = l.foldl orRun m := by
  induction l with
  | nil => intro p m; rfl
  | cons r l ih =>
    intro p m
    obtain ⟨h1, h2⟩ := h r (by simp)
    obtain ⟨q, hq⟩ := mapS_pr r h1 h2 p m
    rw [List.flatMap_cons, List.foldl_append, hq, ih (fun q hq => h q (by simp [hq])), List.foldl_cons]
theorem mapS_lt (l : List (Nat × Bool)) : ∀ st : Option Nat × Nat, st.2 < 2 ^ 37 → (l.foldl mapS st).2 < 2 ^ 37 := by
  induction l with
  | nil => intro st h; exact h
  | cons x l ih =>
    intro st h
    rw [List.foldl_cons]
    refine ih _ ?_
    unfold mapS orRun
    simp only
    generalize (match st.1 with | some q => if x.2 then q else x.1 | none => x.1) = a
    by_cases ha : a ≤ min x.1 36
    · exact orTo_lt _ _ h _ (by omega)
    · rw [show min x.1 36 + 1 - a = 0 by omega]
      exact h
theorem candR_lt (ss : List Nat) : candR ss < 2 ^ 37 := mapS_lt _ _ (by decide)

/-! ### both parsers answer alike -/
/-- a map's first error -/
def chk (m : Nat) : Int := if 137438953472 ≤ m then 5 else if pop m 37 < 2 then 1 else 0
theorem runs_some (m : Nat) (h : chk m = 0) : m < 2 ^ 37 ∧ ∃ r l, runsTo m 37 = r :: l := by
  unfold chk at h
  split at h
  · cases h
  · rename_i hm
    split at h
    · cases h
    · rename_i hp
      have hm' : m < 2 ^ 37 := by have : (2 : Nat) ^ 37 = 137438953472 := by decide
                                  omega
      refine ⟨hm', ?_⟩
      cases hr : runsTo m 37 with
      | cons r l => exact ⟨r, l, rfl⟩
      | nil =>
        have := fold_runs m hm'
        rw [hr] at this
        simp only [List.foldl_nil] at this
        subst this
        exact absurd (pop_zero 0 37) (by omega)
theorem candC_tx (m : Nat) (h : chk m = 0) : candC (tx m) = some m := by
  obtain ⟨hm, r, l, hr⟩ := runs_some m h
  have hb := runs_bd m 37
  have hf := fold_runs m hm
  have hmem := runsTo_mem m 37
  rw [hr] at hb hf hmem
  unfold candC tx
  rw [hr, spl_parts l r hb, candP_parts (r :: l) (fun q hq => ⟨(hmem q hq).1, (hmem q hq).2.1⟩), hf]
theorem candR_tx (m : Nat) (h : chk m = 0) : candR (tx m) = m := by
  obtain ⟨hm, r, l, hr⟩ := runs_some m h
  have hb := runs_bd m 37
  have hf := fold_runs m hm
  have hmem := runsTo_mem m 37
  rw [hr] at hb hf hmem
  unfold candR tx
  rw [nums_eq, hr, nums_txtR l r hb]
  simp only [List.nil_append]
  rw [mapS_runs (r :: l) (fun q hq => ⟨(hmem q hq).1, (hmem q hq).2.1⟩), hf]
/-- the answer to a text, by the map that it may mean -/
def ansM (ss : List Nat) : Option Nat → Nat × Int
  | none => (0, 2)
  | some m => if chk m = 0 ∧ tx m = ss then (m, 0) else (0, 2)
theorem ansM_some (ss : List Nat) (m : Nat) : ansM ss (some m) = if chk m = 0 ∧ tx m = ss then (m, 0) else (0, 2) := rfl
def prsC (ss : List Nat) : Nat × Int := ansM ss (candC ss)
def prsR (ss : List Nat) : Nat × Int := ansM ss (if 120 < ss.length then none else some (candR ss))
theorem prs_eq (ss : List Nat) : prsC ss = prsR ss := by
  by_cases h : ∃ m, chk m = 0 ∧ tx m = ss
  · obtain ⟨m, hm, rfl⟩ := h
    have := tx_len m
    unfold prsC prsR
    rw [candC_tx m hm, candR_tx m hm, if_neg (by omega)]
  · have hn : ∀ o, ansM ss o = (0, 2) := fun o => by
      cases o with
      | none => rfl
      | some m =>
        rw [ansM_some, if_neg (fun hh => h ⟨m, hh⟩)]
    unfold prsC prsR
    rw [hn, hn]
theorem prs_tx (m : Nat) (h : chk m = 0) : prsC (tx m) = (m, 0) := by
  unfold prsC
  rw [candC_tx m h]
  exact if_pos ⟨h, rfl⟩
theorem prs_ok (ss : List Nat) (h : (prsC ss).2 = 0) : chk (prsC ss).1 = 0 ∧ tx (prsC ss).1 = ss := by
  unfold prsC at h ⊢
  cases hc : candC ss with
  | none => rw [hc] at h; cases h
  | some m =>
    rw [hc, ansM_some] at h
    rw [ansM_some]
    by_cases hh : chk m = 0 ∧ tx m = ss
    · rw [if_pos hh]; exact hh
    · rw [if_neg hh] at h; cases h
end Go.Proofs.YtoaiiceglfmfcaaDoor
