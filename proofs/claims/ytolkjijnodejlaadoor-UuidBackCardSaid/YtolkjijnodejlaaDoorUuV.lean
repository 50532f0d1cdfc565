/- uuid: the plain law of Parse. -/
import Derived.Test.YtolkjijnodejlaaDoorUuS
import Derived.Test.YtolkjijnodejlaaDoorUuQ
import Derived.Test.YtolkjijnodejlaaDoorUuJ
import Derived.Lib.SplitLaws
import Derived.Lib.IndexBytes
namespace Go.Proofs.YtolkjijnodejlaaDoor
open Go.RowKit

theorem replaceK_one (c : UInt8) : ∀ l : List UInt8, Lib.replaceK [c] [] (l.count c) l = l.filter (· != c)
  | [] => rfl
  | b :: l => by
    have ih := replaceK_one c l
    by_cases h : b = c
    · subst h
      have hi : Lib.index (b :: l) [b] = ((0 : Nat) : Int) := by rw [Lib.index_one]; simp [Lib.indexByte]
      rw [show (b :: l).count b = l.count b + 1 by simp, Lib.replaceK_hit _ _ _ _ 0 hi]
      simpa using ih
    · have hc : (b :: l).count c = l.count c := by rw [List.count_cons, if_neg (by simpa using h)]; rfl
      rw [hc]
      have hf : (b :: l).filter (· != c) = b :: l.filter (· != c) := by rw [List.filter_cons_of_pos (by simpa using h)]
      rw [hf, ← ih]
      cases hk : l.count c with
      | zero => rfl
      | succ j =>
        obtain ⟨i, hi⟩ := Lib.index_of_count (s := l) (old := [c]) (by rw [Lib.count_one]; omega)
        have hi2 : Lib.index (b :: l) [c] = ((i + 1 : Nat) : Int) := by
          rw [Lib.index_one] at hi ⊢
          unfold Lib.indexByte
          have h1 : (b == c) = false := by simpa using h
          have h2 : (Lib.indexByte l c == -1) = false := by rw [hi, beq_eq_false_iff_ne]; omega
          rw [h1, h2, hi]
          simp
        rw [Lib.replaceK_hit _ _ _ _ _ hi, Lib.replaceK_hit _ _ _ _ _ hi2]
        simp
theorem replaceAll_one (c : UInt8) (l : List UInt8) : Lib.replaceAll l [c] [] = l.filter (· != c) := by
  unfold Lib.replaceAll Lib.replace Lib.replaceNum
  rw [if_neg (by simp), if_pos (by left; decide), Lib.count_one]
  exact replaceK_one c l
theorem replaceAll_str (ss : List Nat) (hb : ∀ x ∈ ss, x < 256) : (⟨(Lib.replaceAll (strB ss).data.toList ({ data := #[45] } : ByteArray).data.toList ({ data := #[] } : ByteArray).data.toList).toArray⟩ : ByteArray) = strB (ss.filter (· != 45)) := by
  apply ByteArray.ext
  rw [← Array.toList_inj]
  show Lib.replaceAll (strB ss).data.toList [45] [] = _
  rw [replaceAll_one]
  unfold strB
  rw [strOfNums_data, strOfNums_data]
  induction ss with
  | nil => rfl
  | cons x l ih =>
    have hx := hb x (by simp)
    have ih := ih fun y hy => hb y (List.mem_cons_of_mem _ hy)
    have e : ((UInt8.ofNat (Int.ofNat x).toNat) != 45) = (x != 45) := by
      rw [Bool.eq_iff_iff]
      simp only [bne_iff_ne, ne_eq]
      have : UInt8.ofNat (Int.ofNat x).toNat = 45 ↔ x = 45 := by
        constructor
        · intro h
          have := congrArg UInt8.toNat h
          simp at this
          omega
        · rintro rfl
          rfl
      rw [this]
    simp only [List.map_cons, List.filter_cons, e]
    cases hq : (x != 45)
    · simpa [hq] using ih
    · simp only [if_true, List.map_cons]
      rw [← ih]
theorem nib_b (d : Nat) (h : d < 16) : dig d ≠ 45 := by unfold dig; split <;> omega
theorem hexB_filter (bs : List Nat) (h : ∀ x ∈ bs, x < 256) : (hexB bs).filter (· != 45) = hexB bs := by
  rw [List.filter_eq_self]
  intro x hx
  obtain ⟨c, hc, hx⟩ := List.mem_flatMap.1 hx
  have := h c hc
  simp at hx
  rcases hx with rfl | rfl
  · simpa using nib_b _ (by omega)
  · simpa using nib_b _ (by omega)
theorem unhex_hexB : ∀ (bs : List Nat), (∀ x ∈ bs, x < 256) → unhexL (hexB bs) = some bs
  | [], _ => rfl
  | c :: l, h => by
    have hc := h c (by simp)
    have ih := unhex_hexB l fun y hy => h y (List.mem_cons_of_mem _ hy)
    have e : hexB (c :: l) = dig (c / 16) :: dig (c % 16) :: hexB l := by simp [hexB]
    rw [e, unhexL_cons (nib_dig _ (by omega)) (nib_dig _ (by omega)), ih]
    simp
    omega
/-- the number of bytes, the most significant first -/
def benum (l : List Nat) : Nat := l.foldl (fun n b => n * 256 + b) 0
theorem benum_snoc (l : List Nat) (b : Nat) : benum (l ++ [b]) = benum l * 256 + b := by simp [benum]
theorem benum_rev (l : List Nat) : benum l.reverse = vnum l := by
  induction l with
  | nil => rfl
  | cons b l ih => rw [List.reverse_cons, benum_snoc, ih]; rfl
theorem vnum_put (x : Nat) : ∀ n, vnum (putB x n) = x % 256 ^ n
  | 0 => by simp [putB, vnum, Nat.mod_one]
  | n+1 => by
    rw [putB_succ, vnum_snoc, vnum_put x n, putB_len]
    unfold byt
    rw [Nat.pow_succ, Nat.mod_mul, Nat.mul_comm (x / 256 ^ n % 256)]
/-- the code's candidate -/
def candC (ss : List Nat) : Option (Nat × Nat) := match unhexL (ss.filter (· != 45)) with
  | none => none
  | some b => if b.length = 2 then some ((b.getD 0 0 * 256 + b.getD 1 0) * 4294967296 + 4096, 9223372588214596859) else
      if b.length = 16 then some (benum (b.take 8), benum (b.drop 8)) else none
theorem isShort_eq {hi lo : Nat} (h : isShort hi lo = true) : hi = numV hi * 4294967296 + 4096 ∧ lo = 9223372588214596859 := by
  unfold isShort at h
  simp only [Bool.and_eq_true, beq_iff_eq] at h
  unfold numV
  omega
theorem b16_lt (hi lo : Nat) : ∀ x ∈ b16 hi lo, x < 256 := by
  rw [← putB_b16]
  intro x hx
  rcases List.mem_append.1 hx with h | h
  · exact putB_lt _ _ x h
  · exact putB_lt _ _ x h
theorem dashed_filter (t : List Nat) (h : t.filter (· != 45) = t) : (dashed t).filter (· != 45) = t := by
  have hall := List.filter_eq_self.1 h
  unfold dashed
  simp only [List.filter_append, show ([45] : List Nat).filter (· != 45) = [] from rfl, List.append_nil]
  have f : ∀ u : List Nat, (∀ x ∈ u, x ∈ t) → u.filter (· != 45) = u := fun u hu => List.filter_eq_self.2 fun x hx => hall x (hu x hx)
  rw [f _ (fun x hx => List.mem_of_mem_take hx), f _ (fun x hx => List.mem_of_mem_drop (List.mem_of_mem_take hx)), f _ (fun x hx => List.mem_of_mem_drop (List.mem_of_mem_take hx)), f _ (fun x hx => List.mem_of_mem_drop (List.mem_of_mem_take hx)), f _ (fun x hx => List.mem_of_mem_drop hx)]
  apply List.ext_getElem?
  intro i
  obtain ⟨n, hn⟩ : ∃ n, t = (t.take 8 ++ ((t.drop 8).take 4 ++ ((t.drop 12).take 4 ++ ((t.drop 16).take 4 ++ t.drop 20)))) ∧ n = 0 := ⟨0, by
    have e1 := List.take_append_drop 8 t
    have e2 := List.take_append_drop 4 (t.drop 8)
    have e3 := List.take_append_drop 4 (t.drop 12)
    have e4 := List.take_append_drop 4 (t.drop 16)
    rw [List.drop_drop] at e2 e3 e4
    rw [e4, e3, e2, e1], rfl⟩
  conv => rhs; rw [hn.1]
  simp [List.append_assoc]
theorem candC_txt (hi lo : Nat) (hh : hi < 18446744073709551616) (hl : lo < 18446744073709551616) : candC (txt hi lo) = some (hi, lo) := by
  unfold candC txt
  cases hs : isShort hi lo
  · simp only [Bool.false_eq_true, if_false]
    have hfil : (hexD hi 16 ++ hexD lo 16).filter (· != 45) = hexD hi 16 ++ hexD lo 16 := by
      rw [← hexB_b16]
      exact hexB_filter _ fun x hx => b16_lt hi lo x (List.mem_reverse.1 hx)
    rw [dashed_filter _ hfil, ← hexB_b16, unhex_hexB _ fun x hx => b16_lt hi lo x (List.mem_reverse.1 hx)]
    have hrl : (b16 hi lo).reverse.length = 16 := by simp [b16]
    simp only [hrl]
    rw [if_neg (by decide), if_pos trivial]
    have hr : (b16 hi lo).reverse = (putB hi 8).reverse ++ (putB lo 8).reverse := by rw [← putB_b16, List.reverse_append]
    have l8 : ((putB hi 8).reverse).length = 8 := by rw [List.length_reverse, putB_len]
    rw [hr, List.take_left' l8, List.drop_left' l8, benum_rev, benum_rev, vnum_put, vnum_put, Nat.mod_eq_of_lt (by simpa using hh), Nat.mod_eq_of_lt (by simpa using hl)]
  · simp only [if_true]
    obtain ⟨h1, h2⟩ := isShort_eq hs
    have hnv : numV hi < 65536 := Nat.mod_lt _ (by decide)
    rw [← hexB_two, hexB_filter _ (fun x hx => by simp at hx; rcases hx with rfl | rfl <;> exact byt_lt _ _), unhex_hexB _ (fun x hx => by simp at hx; rcases hx with rfl | rfl <;> exact byt_lt _ _)]
    simp only [List.length_cons, List.length_nil]
    rw [if_pos trivial]
    have e : byt (numV hi) 1 * 256 + byt (numV hi) 0 = numV hi := by unfold byt; simp only [Nat.reducePow]; omega
    have e' : [byt (numV hi) 1, byt (numV hi) 0].getD 0 0 * 256 + [byt (numV hi) 1, byt (numV hi) 0].getD 1 0 = numV hi := e
    rw [e', ← h1, ← h2]
/-- the number of digits -/
def uhF (acc : Nat) : List Nat → Option Nat
  | [] => some acc
  | c :: l => match nib c with
    | some d => uhF (acc * 16 + d) l
    | none => none
theorem uhF_hexD (n : Nat) : ∀ (k acc : Nat), uhF acc (hexD n k) = some (acc * 16 ^ k + n % 16 ^ k)
  | 0, acc => by simp [hexD, uhF, Nat.mod_one]
  | k+1, acc => by
    rw [hexD, uhF, nib_dig _ (Nat.mod_lt _ (by decide))]
    simp only
    rw [uhF_hexD n k, Nat.mod_pow_succ, Nat.pow_succ, Nat.add_mul, Nat.mul_assoc, Nat.mul_comm 16 (16 ^ k), Nat.mul_comm (n / 16 ^ k % 16)]
    congr 1
    omega
/-- the reference's candidate -/
def candR (ss : List Nat) : Option (Nat × Nat) :=
  if ss.length = 4 then some ((uhF 0 ss).getD 0 * 4294967296 + 4096, 9223372588214596859) else
    if ss.length = 36 then some ((uhF 0 (ss.take 8 ++ (ss.drop 9).take 4 ++ (ss.drop 14).take 4)).getD 0, (uhF 0 ((ss.drop 19).take 4 ++ ss.drop 24)).getD 0) else none
theorem candR_txt (hi lo : Nat) (hh : hi < 18446744073709551616) (hl : lo < 18446744073709551616) : candR (txt hi lo) = some (hi, lo) := by
  unfold txt
  cases hs : isShort hi lo
  · simp only [Bool.false_eq_true, if_false]
    have u1 := uhF_hexD hi 16 0
    have u2 := uhF_hexD lo 16 0
    rw [Nat.zero_mul, Nat.zero_add, Nat.mod_eq_of_lt (by simpa using hh)] at u1
    rw [Nat.zero_mul, Nat.zero_add, Nat.mod_eq_of_lt (by simpa using hl)] at u2
    obtain ⟨p0, p1, p2, p3, p4, p5, p6, p7, p8, p9, pa, pb, pc, pd, pe, pf, hp⟩ := list16 _ (hexD_len hi 16)
    obtain ⟨q0, q1, q2, q3, q4, q5, q6, q7, q8, q9, qa, qb, qc, qd, qe, qf, hq⟩ := list16 _ (hexD_len lo 16)
    rw [hp] at u1 ⊢
    rw [hq] at u2 ⊢
    simp only [dashed, candR, List.cons_append, List.nil_append, List.take_succ_cons, List.take_zero, List.drop_succ_cons, List.drop_zero, List.length_cons, List.length_nil]
    rw [if_neg (by decide), if_pos (by decide), u1, u2]
    rfl
  · simp only [if_true]
    obtain ⟨h1, h2⟩ := isShort_eq hs
    have hnv : numV hi < 65536 := Nat.mod_lt _ (by decide)
    have u := uhF_hexD (numV hi) 4 0
    rw [Nat.zero_mul, Nat.zero_add, Nat.mod_eq_of_lt (by simpa using hnv)] at u
    unfold candR
    rw [if_pos (hexD_len _ _), u]
    simp only [Option.getD_some]
    rw [← h1, ← h2]
open Classical in
/-- the UUID of a text, or an error -/
noncomputable def prs (ss : List Nat) : Nat × Nat × Int :=
  if h : ∃ u : Nat × Nat, u.1 < 18446744073709551616 ∧ u.2 < 18446744073709551616 ∧ txt u.1 u.2 = ss then (h.choose.1, h.choose.2, 0) else (0, 0, 2)
def ansO (ss : List Nat) : Option (Nat × Nat) → Nat × Nat × Int
  | none => (0, 0, 2)
  | some u => if txt u.1 u.2 = ss then (u.1, u.2, 0) else (0, 0, 2)
theorem prs_of {ss : List Nat} {cand : Option (Nat × Nat)} (h : ∀ hi lo, hi < 18446744073709551616 → lo < 18446744073709551616 → txt hi lo = ss → cand = some (hi, lo))
    (hb : ∀ u, cand = some u → u.1 < 18446744073709551616 ∧ u.2 < 18446744073709551616) :
    prs ss = ansO ss cand := by
  unfold prs
  by_cases hx : ∃ u : Nat × Nat, u.1 < 18446744073709551616 ∧ u.2 < 18446744073709551616 ∧ txt u.1 u.2 = ss
  · rw [dif_pos hx]
    obtain ⟨h1, h2, h3⟩ := hx.choose_spec
    rw [h _ _ h1 h2 h3, ansO, if_pos h3]
  · rw [dif_neg hx]
    cases cand with
    | none => rfl
    | some u =>
      obtain ⟨h1, h2⟩ := hb u rfl
      rw [ansO, if_neg fun e => hx ⟨u, h1, h2, e⟩]
theorem prs_txt (hi lo : Nat) (hh : hi < 18446744073709551616) (hl : lo < 18446744073709551616) : prs (txt hi lo) = (hi, lo, 0) := by
  rw [prs_of (cand := some (hi, lo)) (fun hi' lo' h1 h2 e => by
    have a := candR_txt hi lo hh hl
    have b := candR_txt hi' lo' h1 h2
    rw [e, a] at b
    exact b) (fun u hu => by cases hu; exact ⟨hh, hl⟩), ansO, if_pos rfl]
theorem uhF_lt : ∀ (l : List Nat) (acc v : Nat), uhF acc l = some v → v < (acc + 1) * 16 ^ l.length
  | [], acc, v, h => by simp [uhF] at h; subst h; simp
  | c :: l, acc, v, h => by
    unfold uhF at h
    cases hc : nib c with
    | none => simp [hc] at h
    | some d =>
      simp only [hc] at h
      have hd := (dig_nib c d hc).1
      have := uhF_lt l _ v h
      refine Nat.lt_of_lt_of_le this ?_
      rw [List.length_cons, Nat.pow_succ, Nat.mul_comm (16 ^ l.length) 16, ← Nat.mul_assoc]
      exact Nat.mul_le_mul_right _ (by omega)
theorem uhF_getD (l : List Nat) (k : Nat) (h : l.length ≤ k) : (uhF 0 l).getD 0 < 16 ^ k := by
  cases hu : uhF 0 l with
  | none => exact Nat.pow_pos (by decide)
  | some v =>
    have := uhF_lt l 0 v hu
    simp only [Option.getD_some]
    refine Nat.lt_of_lt_of_le this ?_
    rw [Nat.zero_add, Nat.one_mul]
    exact Nat.pow_le_pow_right (by decide) h
theorem candR_bd (ss : List Nat) : ∀ u, candR ss = some u → u.1 < 18446744073709551616 ∧ u.2 < 18446744073709551616 := by
  intro u hu
  unfold candR at hu
  by_cases h4 : ss.length = 4
  · rw [if_pos h4] at hu
    cases hu
    have := uhF_getD ss 4 (by omega)
    simp only [Nat.reducePow] at this
    exact ⟨by simp only; omega, by simp only; omega⟩
  · rw [if_neg h4] at hu
    by_cases h36 : ss.length = 36
    · rw [if_pos h36] at hu
      cases hu
      refine ⟨uhF_getD _ 16 ?_, uhF_getD _ 16 ?_⟩
      · simp; omega
      · simp; omega
    · rw [if_neg h36] at hu
      cases hu
theorem benum_lt (l : List Nat) (h : ∀ x ∈ l, x < 256) (hl : l.length ≤ 8) : benum l < 18446744073709551616 := by
  have := vnum_lt l.reverse fun x hx => h x (List.mem_reverse.1 hx)
  rw [← benum_rev, List.reverse_reverse, List.length_reverse] at this
  exact Nat.lt_of_lt_of_le this (Nat.le_trans (Nat.pow_le_pow_right (by decide) hl) (by decide))
theorem candC_bd (ss : List Nat) : ∀ u, candC ss = some u → u.1 < 18446744073709551616 ∧ u.2 < 18446744073709551616 := by
  intro u hu
  unfold candC at hu
  cases hx : unhexL (ss.filter (· != 45)) with
  | none => simp [hx] at hu
  | some b =>
    have hlt := unhexL_lt _ _ hx
    simp only [hx] at hu
    by_cases h2 : b.length = 2
    · rw [if_pos h2] at hu
      cases hu
      obtain ⟨b0, b1, rfl⟩ := list2 b h2
      have h0 := hlt b0 (by simp)
      have h1 := hlt b1 (by simp)
      exact ⟨by simp; omega, by simp⟩
    · rw [if_neg h2] at hu
      by_cases h16 : b.length = 16
      · rw [if_pos h16] at hu
        cases hu
        exact ⟨benum_lt _ (fun x hx => hlt x (List.mem_of_mem_take hx)) (by simp; omega), benum_lt _ (fun x hx => hlt x (List.mem_of_mem_drop hx)) (by simp; omega)⟩
      · rw [if_neg h16] at hu
        cases hu
theorem prs_C (ss : List Nat) : prs ss = ansO ss (candC ss) := prs_of (ss := ss) (fun hi lo h1 h2 e => by subst e; exact candC_txt hi lo h1 h2) (candC_bd ss)
theorem prs_R (ss : List Nat) : prs ss = ansO ss (candR ss) := prs_of (ss := ss) (fun hi lo h1 h2 e => by subst e; exact candR_txt hi lo h1 h2) (candR_bd ss)
end Go.Proofs.YtolkjijnodejlaaDoor
