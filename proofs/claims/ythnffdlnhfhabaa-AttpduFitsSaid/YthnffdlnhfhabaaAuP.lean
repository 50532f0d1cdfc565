/- attpdu: the plain laws: bytes and numbers, both ways. -/
import Derived.Test.YthnffdlnhfhabaaAtQ
import Derived.Test.YthnffdlnhfhabaaAtK
namespace Go.Proofs.Ythnffdlnhfhabaa
open Go.RowKit

theorem vnum_put (x : Nat) : ∀ n, vnum (putB x n) = x % 256 ^ n
  | 0 => by simp [putB, vnum, Nat.mod_one]
  | n+1 => by
    rw [putB_succ, vnum_snoc, vnum_put x n, putB_len]
    unfold byt
    rw [Nat.pow_succ, Nat.mod_mul, Nat.mul_comm (x / 256 ^ n % 256)]
theorem isShort_eq {hi lo : Nat} (h : isShort hi lo = true) : hi = numV hi * 4294967296 + 4096 ∧ lo = 9223372588214596859 := by
  unfold isShort at h
  simp only [Bool.and_eq_true, beq_iff_eq] at h
  unfold numV
  omega
theorem putB_cons (x n : Nat) : putB x (n + 1) = byt x 0 :: putB (x / 256) n := by
  unfold putB
  rw [List.range_succ_eq_map, List.map_cons, List.map_map]
  refine congrArg _ (List.map_congr_left fun i _ => ?_)
  simp only [Function.comp, byt]
  rw [Nat.div_div_eq_div_mul, Nat.pow_succ, Nat.mul_comm]
theorem putB_vnum : ∀ l : List Nat, (∀ x ∈ l, x < 256) → putB (vnum l) l.length = l
  | [], _ => rfl
  | b :: l, h => by
    have hb := h b (by simp)
    rw [List.length_cons, putB_cons]
    have e1 : vnum (b :: l) / 256 = vnum l := by simp only [vnum]; omega
    have e2 : byt (vnum (b :: l)) 0 = b := by simp only [vnum, byt, Nat.pow_zero, Nat.div_one]; omega
    rw [e1, e2, putB_vnum l fun x hx => h x (List.mem_cons_of_mem _ hx)]
theorem vnum_put8 (x : Nat) (h : x < 18446744073709551616) : vnum (putB x 8) = x := by
  rw [vnum_put]
  exact Nat.mod_eq_of_lt (by omega)
theorem decR_encB (hi lo : Nat) (hh : hi < 18446744073709551616) (hl : lo < 18446744073709551616) : decR (encB hi lo) = (hi, lo, 0) := by
  unfold decR
  rw [encB_len]
  by_cases s : isShort hi lo = true
  · have e := isShort_eq s
    have ev : vnum (encB hi lo) = numV hi := by
      unfold encB
      rw [if_pos s, vnum_put]
      exact Nat.mod_eq_of_lt (by unfold numV; omega)
    rw [if_pos s, if_pos rfl, ev, ← e.1, ← e.2]
  · have e : encB hi lo = putB lo 8 ++ putB hi 8 := by unfold encB; rw [if_neg s]; rfl
    have e1 : (putB lo 8 ++ putB hi 8).drop 8 = putB hi 8 := by
      rw [List.drop_append, List.drop_eq_nil_of_le (by rw [putB_len]; omega), putB_len]; rfl
    have e2 : (putB lo 8 ++ putB hi 8).take 8 = putB lo 8 := by
      rw [List.take_append, List.take_of_length_le (by rw [putB_len]; omega), putB_len]; simp
    rw [if_neg s, if_neg (by decide), if_neg (by decide), if_neg (by decide), e, e1, e2, vnum_put8 _ hh, vnum_put8 _ hl, if_neg s]
theorem decR_back (bs : List Nat) (h : ∀ x ∈ bs, x < 256) : (decR bs).1 < 18446744073709551616 ∧ (decR bs).2.1 < 18446744073709551616 ∧ ((decR bs).2.2 = 0 → encB (decR bs).1 (decR bs).2.1 = bs) := by
  unfold decR
  have hv := vnum_lt bs h
  by_cases h2 : bs.length = 2
  · rw [if_pos h2]
    rw [h2] at hv
    have hv' : vnum bs < 65536 := hv
    refine ⟨by simp only; omega, by simp only; omega, fun _ => ?_⟩
    simp only
    have s := num_short (vnum bs * 4294967296 + 4096) 9223372588214596859 (vnum bs) rfl rfl hv'
    unfold encB
    rw [if_pos s]
    have e : numV (vnum bs * 4294967296 + 4096) = vnum bs := by unfold numV; omega
    rw [e, ← h2, putB_vnum bs h]
  rw [if_neg h2]
  by_cases h3 : bs.length < 16
  · rw [if_pos h3]
    exact ⟨by decide, by decide, fun e => absurd e (by decide)⟩
  rw [if_neg h3]
  by_cases h4 : 16 < bs.length
  · rw [if_pos h4]
    exact ⟨by decide, by decide, fun e => absurd e (by decide)⟩
  rw [if_neg h4]
  by_cases s : isShort (vnum (bs.drop 8)) (vnum (bs.take 8)) = true
  · rw [if_pos s]
    exact ⟨by decide, by decide, fun e => absurd e (by decide)⟩
  rw [if_neg s]
  have hd : ∀ x ∈ bs.drop 8, x < 256 := fun x hx => h x (List.mem_of_mem_drop hx)
  have ht : ∀ x ∈ bs.take 8, x < 256 := fun x hx => h x (List.mem_of_mem_take hx)
  have ld : (bs.drop 8).length = 8 := by rw [List.length_drop]; omega
  have lt : (bs.take 8).length = 8 := by rw [List.length_take]; omega
  have v1 := vnum_lt _ hd
  have v2 := vnum_lt _ ht
  have p1 := putB_vnum _ hd
  have p2 := putB_vnum _ ht
  rw [ld] at v1 p1
  rw [lt] at v2 p2
  refine ⟨v1, v2, fun _ => ?_⟩
  show encB (vnum (bs.drop 8)) (vnum (bs.take 8)) = bs
  unfold encB
  rw [if_neg s, ← putB_b16, p1, p2, List.take_append_drop]
theorem vnum_put1 (x : Nat) (h : x < 256) : vnum (putB x 1) = x := by rw [vnum_put]; exact Nat.mod_eq_of_lt (by omega)
theorem vnum_put2 (x : Nat) (h : x < 65536) : vnum (putB x 2) = x := by rw [vnum_put]; exact Nat.mod_eq_of_lt (by omega)
theorem take_app {α : Type} (a b : List α) (n : Nat) (h : a.length = n) : (a ++ b).take n = a := by subst h; simp
theorem drop_app {α : Type} (a b : List α) (n : Nat) (h : a.length = n) : (a ++ b).drop n = b := by subst h; simp
/-! ### a list, there and back -/
/-- an element is read back -/
theorem dtD_itB (k : Int) (hk : k = 5 ∨ k = 9 ∨ k = 17) (t : It) (hl : t.bs.length = t.n) (hha : t.ha < 65536) (hla : t.la < 65536) (hhi : t.hi < 18446744073709551616) (hlo : t.lo < 18446744073709551616) (hu : unuI k t.la t.hi t.lo t.n = true) : dtD k (itB k t) = dat t ∧ erD k (itB k t) = 0 := by
  obtain ⟨ha, la, hi, lo, a, n, c, bs⟩ := t
  simp only at hl hha hla hhi hlo hu
  have t2 : ∀ X : List Nat, (putB ha 2 ++ X).take 2 = putB ha 2 := fun X => take_app _ _ _ (putB_len _ _)
  have d2 : ∀ X : List Nat, (putB ha 2 ++ X).drop 2 = X := fun X => drop_app _ _ _ (putB_len _ _)
  unfold dtD dat itD erD itB
  rcases hk with rfl | rfl | rfl
  · unfold unuI at hu
    simp at hu
    obtain ⟨rfl, rfl⟩ := hu
    have hbs : bs = [] := List.eq_nil_of_length_eq_zero hl
    subst hbs
    simp [t2, d2, vnum_put2 _ hha, decR_encB hi lo hhi hlo]
  · unfold unuI at hu
    simp at hu
    obtain ⟨rfl, rfl, rfl⟩ := hu
    simp [t2, d2, vnum_put2 _ hha]
  · unfold unuI at hu
    simp at hu
    obtain ⟨rfl, rfl⟩ := hu
    have d4 : (putB ha 2 ++ (putB la 2 ++ bs)).drop 4 = bs := by
      rw [show (4 : Nat) = 2 + 2 from rfl, ← List.drop_drop, d2, drop_app _ _ _ (putB_len _ _)]
    have tl : (putB la 2 ++ bs).take 2 = putB la 2 := take_app _ _ _ (putB_len _ _)
    simp [t2, d2, d4, tl, vnum_put2 _ hha, vnum_put2 _ hla]
/-- and written back -/
theorem itB_dtD (k : Int) (hk : k = 5 ∨ k = 9 ∨ k = 17) (bs : List Nat) (hb : ∀ x ∈ bs, x < 256) (h2 : 2 ≤ bs.length) (h4 : k = 17 → 4 ≤ bs.length) (he : erD k bs = 0) : itB k (itOf (dtD k bs)) = bs ∧ unuI k (dtD k bs).la (dtD k bs).hi (dtD k bs).lo (dtD k bs).bs.length = true := by
  have hp : putB (vnum (bs.take 2)) 2 = bs.take 2 := by
    have := putB_vnum (bs.take 2) fun x hx => hb x (List.mem_of_mem_take hx)
    rwa [List.length_take, Nat.min_eq_left h2] at this
  have hbd : ∀ x ∈ bs.drop 2, x < 256 := fun x hx => hb x (List.mem_of_mem_drop hx)
  unfold erD at he
  unfold itOf dtD dat itD itB
  rcases hk with rfl | rfl | rfl
  · have he' : (decR (bs.drop 2)).2.2 = 0 := by simpa using he
    have hx := (decR_back _ hbd).2.2 he'
    simp only [if_true]
    rw [hp, hx, List.take_append_drop]
    exact ⟨rfl, by simp [unuI]⟩
  · simp only [show ((9 : Int) = 5) = False by decide, show ((9 : Int) = 17) = False by decide, if_false]
    rw [hp, List.take_append_drop]
    exact ⟨rfl, by simp [unuI]⟩
  · simp only [show ((17 : Int) = 5) = False by decide, if_false, if_true]
    have hp2 : putB (vnum ((bs.drop 2).take 2)) 2 = (bs.drop 2).take 2 := by
      have := putB_vnum ((bs.drop 2).take 2) fun x hx => hbd x (List.mem_of_mem_take hx)
      rwa [List.length_take, Nat.min_eq_left (by rw [List.length_drop]; have := h4 rfl; omega)] at this
    rw [hp, hp2, show bs.drop 4 = (bs.drop 2).drop 2 by rw [List.drop_drop], List.take_append_drop, List.take_append_drop]
    exact ⟨rfl, by simp [unuI]⟩
theorem flat_chn (L : Nat) (hL : 0 < L) : ∀ (l : List (List Nat)), (∀ x ∈ l, x.length = L) → ∀ j (h : j < l.length), chn L l.flatten j = l[j]
  | x :: l, hl, 0, _ => by
    unfold chn
    rw [Nat.zero_mul, List.drop_zero, List.flatten_cons, take_app _ _ _ (hl x (by simp))]
    rfl
  | x :: l, hl, j+1, h => by
    have ih := flat_chn L hL l (fun y hy => hl y (by simp [hy])) j (by simpa using h)
    unfold chn at ih ⊢
    rw [List.flatten_cons, Nat.add_mul, Nat.one_mul, Nat.add_comm, ← List.drop_drop, drop_app _ _ _ (hl x (by simp)), ih]
    rfl
theorem flat_size (L : Nat) : ∀ (l : List (List Nat)), (∀ x ∈ l, x.length = L) → l.flatten.length = l.length * L
  | [], _ => by simp
  | x :: l, hl => by
    rw [List.flatten_cons, List.length_append, hl x (by simp), flat_size L l fun y hy => hl y (by simp [hy]), List.length_cons, Nat.add_mul]
    omega
theorem erL_zero (k : Int) (s : Nat) (r : List Nat) : ∀ f j, (∀ i, j ≤ i → i < j + f → erD k (chn s r i) = 0) → erL k s r j f = 0
  | 0, _, _ => rfl
  | f+1, j, h => by
    rw [erL, if_pos (h j (Nat.le_refl _) (by omega))]
    exact erL_zero k s r f (j + 1) fun i hi hif => h i (by omega) (by omega)
theorem erL_of (k : Int) (s : Nat) (r : List Nat) : ∀ f j, erL k s r j f = 0 → ∀ i, j ≤ i → i < j + f → erD k (chn s r i) = 0
  | 0, j, _, i, h1, h2 => by omega
  | f+1, j, h, i, h1, h2 => by
    rw [erL] at h
    by_cases e : erD k (chn s r j) = 0
    · rw [if_pos e] at h
      by_cases hij : i = j
      · subst hij; exact e
      · exact erL_of k s r f (j + 1) h i (by omega) (by omega)
    · rw [if_neg e] at h
      exact absurd h e
/-- what a list without an error is like -/
theorem chkIts_all (k : Int) (L : Nat) : ∀ (its : List It) (last : Nat), chkIts k last L its = 0 → ∀ t ∈ its, unuI k t.la t.hi t.lo t.n = true ∧ sizeI k t.hi t.lo t.n = L
  | [], _, _, t, ht => by cases ht
  | x :: l, last, h, t, ht => by
    rw [chkIts] at h
    by_cases e : chkIt k last L x = 0
    · rw [if_pos e] at h
      rcases List.mem_cons.1 ht with rfl | ht
      · unfold chkIt at e
        split at e
        · cases e
        · rename_i h1
          split at e
          · cases e
          · split at e
            · cases e
            · split at e
              · cases e
              · rename_i h4
                exact ⟨by simpa using h1, by simpa using h4⟩
      · exact chkIts_all k L l _ h t ht
    · rw [if_neg e] at h
      exact absurd h e
theorem chkL_ok (k : Int) (t0 : It) (l : List It) (h : chkL k (t0 :: l) = 0) : sizeI k t0.hi t0.lo t0.n ≤ 255 ∧ (t0 :: l).length * sizeI k t0.hi t0.lo t0.n ≤ 515 ∧ ∀ t ∈ t0 :: l, unuI k t.la t.hi t.lo t.n = true ∧ sizeI k t.hi t.lo t.n = sizeI k t0.hi t0.lo t0.n := by
  rw [chkL] at h
  have h2 := sizeI_lo k t0.hi t0.lo t0.n
  by_cases e : chkIts k 0 (sizeI k t0.hi t0.lo t0.n) (t0 :: l) = 0
  · rw [if_pos e] at h
    by_cases e2 : sizeI k t0.hi t0.lo t0.n ≤ 255 ∧ (t0 :: l).length ≤ 515 / sizeI k t0.hi t0.lo t0.n
    · rw [Nat.le_div_iff_mul_le (by omega)] at e2
      exact ⟨e2.1, e2.2, chkIts_all k _ _ 0 e⟩
    · rw [if_neg e2] at h
      cases h
  · rw [if_neg e] at h
    exact absurd h e
theorem byt0_lt (x : Nat) (h : x < 256) : byt x 0 = x := by simp only [byt, Nat.pow_zero, Nat.div_one]; omega
theorem size5 (hi lo n : Nat) : sizeI 5 hi lo n = 4 ∨ sizeI 5 hi lo n = 18 := by
  unfold sizeI
  rw [if_pos rfl, encB_len]
  cases isShort hi lo
  · right; rfl
  · left; rfl
/-- a list without an error is read back -/
theorem list_back (k : Int) (hk : k = 5 ∨ k = 9 ∨ k = 17) (its : List It) (h : chkL k its = 0) (hok : ∀ t ∈ its, t.bs.length = t.n ∧ t.ha < 65536 ∧ t.la < 65536 ∧ t.hi < 18446744073709551616 ∧ t.lo < 18446744073709551616) : lsE k (elB k its) = 0 ∧ lsL k (elB k its) = its.map dat ∧ (elB k its).length ≤ 516 := by
  cases its with
  | nil => cases h
  | cons t0 l =>
    obtain ⟨h1, h2, h3⟩ := chkL_ok k t0 l h
    obtain ⟨its, hi⟩ : ∃ its, t0 :: l = its := ⟨_, rfl⟩
    have he : elB k (t0 :: l) = byt (elN k t0) 0 :: (its.map (itB k)).flatten := by rw [elB, hi, List.flatMap_def]
    rw [he]
    rw [hi] at h2 h3 hok ⊢
    obtain ⟨L, hL⟩ : ∃ L, sizeI k t0.hi t0.lo t0.n = L := ⟨_, rfl⟩
    have hlo := sizeI_lo k t0.hi t0.lo t0.n
    rw [hL] at h1 h2 h3 hlo
    have hlen : ∀ x ∈ its.map (itB k), x.length = L := by
      intro x hx
      obtain ⟨t, ht, rfl⟩ := List.mem_map.1 hx
      rw [itB_len k t (hok t ht).1, (h3 t ht).2]
    have hN : lsN k (byt (elN k t0) 0) = some L := by
      unfold elN lsN
      rcases hk with rfl | rfl | rfl
      · rw [if_pos rfl, if_pos rfl, hL]
        rcases size5 t0.hi t0.lo t0.n with e | e
        · rw [hL] at e; subst e; rfl
        · rw [hL] at e; subst e; rfl
      · simp only [show ((9 : Int) = 5) = False by decide, if_false, if_true]
        rw [hL, byt0_lt _ (by omega), if_neg (by omega)]
      · have h4 : sizeI 17 t0.hi t0.lo t0.n = 4 + t0.n := rfl
        simp only [show ((17 : Int) = 5) = False by decide, show ((17 : Int) = 9) = False by decide, if_false]
        rw [hL, byt0_lt _ (by omega), if_neg (by omega)]
    have hfl := flat_size L (its.map (itB k)) hlen
    rw [List.length_map] at hfl
    have hne : (its.map (itB k)).flatten ≠ [] := by
      intro e
      rw [e, List.length_nil, ← hi, List.length_cons, Nat.add_mul] at hfl
      omega
    have hch : ∀ j (hj : j < its.length), chn L (its.map (itB k)).flatten j = itB k its[j] := fun j hj => by
      rw [flat_chn L (by omega) _ hlen j (by simpa using hj)]
      simp
    have hdj : ∀ j (hj : j < its.length), dtD k (itB k its[j]) = dat its[j] ∧ erD k (itB k its[j]) = 0 := fun j hj => by
      have hm := List.getElem_mem hj
      obtain ⟨q1, q2, q3, q4, q5⟩ := hok _ hm
      exact dtD_itB k hk _ q1 q2 q3 q4 q5 (h3 _ hm).1
    have hcond : ¬ ((its.map (itB k)).flatten = [] ∨ (its.map (itB k)).flatten.length % L ≠ 0) := by
      rintro (e | e)
      · exact hne e
      · rw [hfl] at e; exact e (Nat.mul_mod_left _ _)
    have hdiv : (its.map (itB k)).flatten.length / L = its.length := by rw [hfl]; exact Nat.mul_div_cancel _ (by omega)
    refine ⟨?_, ?_, ?_⟩
    · simp only [lsE, hN]
      rw [if_neg hcond, hdiv]
      refine erL_zero k L _ _ 0 fun i _ hi2 => ?_
      rw [hch i (by omega)]
      exact (hdj i (by omega)).2
    · simp only [lsL, hN]
      rw [if_neg hcond, hdiv]
      refine List.ext_getElem (by simp) fun i hi1 hi2 => ?_
      simp only [List.getElem_map, List.getElem_range]
      have hi3 : i < its.length := by simpa using hi2
      rw [hch i hi3, (hdj i hi3).1]
    · rw [List.length_cons, hfl]
      omega
end Go.Proofs.Ythnffdlnhfhabaa
