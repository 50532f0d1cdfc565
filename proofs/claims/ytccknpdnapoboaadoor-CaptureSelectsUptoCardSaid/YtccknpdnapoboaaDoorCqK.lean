/- capture: what is read of a file that was written: cut off, or with a byte changed. Plain. -/
import Derived.Test.YtccknpdnapoboaaDoorCpW
import Derived.Test.YtccknpdnapoboaaDoorCpZ
namespace Go.Proofs.YtccknpdnapoboaaDoor
open Go.RowKit

/-- what is wrong with one record's bytes, its length being right -/
theorem r1_app (R rest : List Nat) (L : Nat) (hR : R.length = 16 + L) (hL : vnum ((R.drop 11).take 2) = L) (hL2 : L ≤ 260) :
    r1L (R ++ rest) = L ∧ r1R (R ++ rest) = ⟨vnum (R.take 8), (R.getD 8 0 : Nat), (R.getD 9 0 : Nat), (R.getD 10 0 : Nat), (R.drop 13).take L⟩ ∧
    ∀ last, r1E (R ++ rest) last = if vnum ((R.drop (L + 13)).take 3) ≠ sumF 0 (R.take (L + 13)) then 10 else if cpE ⟨vnum (R.take 8), (R.getD 8 0 : Nat), (R.getD 9 0 : Nat), (R.getD 10 0 : Nat), (R.drop 13).take L⟩ ≠ 0 then 5 else if (vnum (R.take 8) : Int) < last then 13 else 0 := by
  have h1 : r1L (R ++ rest) = L := by
    unfold r1L
    rw [List.drop_append_of_le_length (by omega), List.take_append_of_le_length (by rw [List.length_drop]; omega), hL]
  have hg : ∀ i, i < R.length → (R ++ rest).getD i 0 = R.getD i 0 := fun i hi => by
    simp only [List.getD_eq_getElem?_getD, List.getElem?_append_left hi]
  have h2 : r1R (R ++ rest) = ⟨vnum (R.take 8), (R.getD 8 0 : Nat), (R.getD 9 0 : Nat), (R.getD 10 0 : Nat), (R.drop 13).take L⟩ := by
    unfold r1R
    rw [h1, hg 8 (by omega), hg 9 (by omega), hg 10 (by omega), List.take_append_of_le_length (by omega), List.drop_append_of_le_length (by omega), List.take_append_of_le_length (by rw [List.length_drop]; omega)]
  refine ⟨h1, h2, fun last => ?_⟩
  unfold r1E
  rw [h1, h2, if_neg (by rw [List.length_append]; omega), if_neg (by omega), if_neg (by rw [List.length_append]; omega)]
  rw [List.drop_append_of_le_length (by omega), List.take_append_of_le_length (by rw [List.length_drop]; omega), List.take_append_of_le_length (by omega)]
theorem putB1 (x : Nat) (h : x < 256) : putB x 1 = [x] := by simp [putB, byt, Nat.mod_eq_of_lt h]
theorem take_of_app {α : Type} (a b : List α) (n : Nat) (h : a.length = n) : (a ++ b).take n = a := by subst h; simp
theorem drop_of_app {α : Type} (a b : List α) (n : Nat) (h : a.length = n) : (a ++ b).drop n = b := by subst h; simp
/-- the parts of a right record's bytes -/
theorem rec_parts (r : Cp) (hr : cpE r = 0) : (recB r).length = 16 + r.bs.length ∧ (recB r).take (r.bs.length + 13) = recD r ∧ (recB r).drop (r.bs.length + 13) = putB (sumF 0 (recD r)) 3 ∧
    vnum ((recB r).take 8) = r.t.toNat ∧ (recB r).getD 8 0 = r.c.toNat ∧ (recB r).getD 9 0 = r.f.toNat ∧ (recB r).getD 10 0 = r.k.toNat ∧ ((recB r).drop 11).take 2 = putB r.bs.length 2 ∧ ((recB r).drop 13).take r.bs.length = r.bs := by
  obtain ⟨⟨hT0, hT1⟩, ⟨hC0, hC1⟩, ⟨hF0, hF1⟩, ⟨hK0, hK1⟩, hL⟩ := cpE_ok hr
  have hl := recD_len r
  have e : recB r = putB r.t.toNat 8 ++ ([r.c.toNat] ++ ([r.f.toNat] ++ ([r.k.toNat] ++ (putB r.bs.length 2 ++ (r.bs ++ putB (sumF 0 (recD r)) 3))))) := by
    rw [show recB r = recD r ++ putB (sumF 0 (recD r)) 3 from rfl]
    conv => lhs; arg 1; unfold recD
    rw [putB1 _ (by omega), putB1 _ (by omega), putB1 _ (by omega)]
    simp only [List.append_assoc]
  have p8 := putB_len r.t.toNat 8
  have p2 := putB_len r.bs.length 2
  refine ⟨recB_len r, ?_, ?_, ?_, ?_, ?_, ?_, ?_, ?_⟩
  · exact take_of_app _ _ _ (by omega)
  · exact drop_of_app _ _ _ (by omega)
  · rw [e, take_of_app _ _ _ p8, vnum_put, Nat.mod_eq_of_lt]
    omega
  · rw [e, List.getD_eq_getElem?_getD, List.getElem?_append_right (by omega), p8]; rfl
  · rw [e, List.getD_eq_getElem?_getD, List.getElem?_append_right (by omega), p8]; rfl
  · rw [e, List.getD_eq_getElem?_getD, List.getElem?_append_right (by omega), p8]; rfl
  · rw [e, show (11 : Nat) = 8 + 3 from rfl, ← List.drop_drop, drop_of_app _ _ _ p8]
    simp only [List.singleton_append, List.drop_succ_cons, List.drop_zero]
    exact take_of_app _ _ _ p2
  · rw [e, show (13 : Nat) = 8 + 5 from rfl, ← List.drop_drop, drop_of_app _ _ _ p8]
    rw [show (5 : Nat) = 3 + 2 from rfl, ← List.drop_drop]
    simp only [List.singleton_append, List.drop_succ_cons, List.drop_zero]
    rw [drop_of_app _ _ _ p2]
    exact take_of_app _ _ _ rfl
theorem cp_nat (r : Cp) (hr : cpE r = 0) : (⟨(r.t.toNat : Int), (r.c.toNat : Int), (r.f.toNat : Int), (r.k.toNat : Int), r.bs⟩ : Cp) = r := by
  obtain ⟨⟨hT0, _⟩, ⟨hC0, _⟩, ⟨hF0, _⟩, ⟨hK0, _⟩, _⟩ := cpE_ok hr
  obtain ⟨t, c, f, k, bs⟩ := r
  simp only [Cp.mk.injEq, and_true]
  simp only at hT0 hC0 hF0 hK0
  omega
/-- a right record is read -/
theorem rec_read (r : Cp) (hr : cpE r = 0) (rest : List Nat) : r1L (recB r ++ rest) = r.bs.length ∧ r1R (recB r ++ rest) = r ∧ ∀ last, r1E (recB r ++ rest) last = if r.t < last then 13 else 0 := by
  obtain ⟨h1, h2, h3, h4, h5, h6, h7, h8, h9⟩ := rec_parts r hr
  have hL := (cpE_ok hr).2.2.2.2
  have hT0 := (cpE_ok hr).1.1
  have hv : vnum (((recB r).drop 11).take 2) = r.bs.length := by rw [h8, vnum_put]; exact Nat.mod_eq_of_lt (by omega)
  obtain ⟨q1, q2, q3⟩ := r1_app (recB r) rest r.bs.length h1 hv hL
  rw [h4, h5, h6, h7, h9, cp_nat r hr] at q2
  refine ⟨q1, q2, fun last => ?_⟩
  have hs := sumF_lt (recD r) 0 (by omega)
  rw [q3 last, h2, h3, h4, h5, h6, h7, h9, cp_nat r hr, if_neg, if_neg (by simp [hr]), show ((r.t.toNat : Nat) : Int) = r.t by omega]
  rw [List.take_of_length_le (by rw [putB_len]; omega), vnum_put, Nat.mod_eq_of_lt hs]
  simp
/-- times do not decrease, from a time on; each record right -/
def okL : List Cp → Int → Prop
  | [], _ => True
  | r :: l, last => cpE r = 0 ∧ ¬ r.t < last ∧ okL l r.t
def endT : List Cp → Int → Int
  | [], last => last
  | r :: l, _ => endT l r.t
theorem rdF_prefix : ∀ (p : List Cp) (f : Nat) (b : List Nat) (last : Int), okL p last → p.length ≤ f →
    rdF f (p.flatMap recB ++ b) last = (p ++ (rdF (f - p.length) b (endT p last)).1, (p.flatMap recB).length + (rdF (f - p.length) b (endT p last)).2.1, (rdF (f - p.length) b (endT p last)).2.2)
  | [], f, b, last, _, _ => by simp [endT]
  | r :: p, 0, b, last, _, h => by simp at h
  | r :: p, f+1, b, last, ⟨h1, h2, h3⟩, h => by
    have ih := rdF_prefix p f b r.t h3 (by simpa using h)
    obtain ⟨q1, q2, q3⟩ := rec_read r h1 (p.flatMap recB ++ b)
    have hlen := recB_len r
    have hd : (recB r ++ (p.flatMap recB ++ b)).drop (16 + r.bs.length) = p.flatMap recB ++ b := drop_of_app _ _ _ hlen
    rw [List.flatMap_cons, List.append_assoc, rdF_good f _ last (by intro e; have := congrArg List.length e; simp [hlen] at this) (by rw [q3, if_neg h2]), q1, q2, hd, ih]
    simp only [List.length_cons, Nat.add_sub_add_right, endT, List.cons_append, List.length_append, hlen, Nat.add_assoc]
/-- where record number k begins, behind the first four bytes -/
def pos (l : List Cp) (k : Nat) : Nat := ((l.take k).flatMap recB).length
theorem pos_succ (l : List Cp) (k : Nat) (h : k < l.length) : pos l (k + 1) = pos l k + (16 + l[k].bs.length) := by
  unfold pos
  rw [List.take_succ_eq_append_getElem h, List.flatMap_append]
  simp [recB_len]
theorem pos_zero (l : List Cp) : pos l 0 = 0 := by simp [pos]
theorem pos_all (l : List Cp) : pos l l.length = (l.flatMap recB).length := by simp [pos]
/-- how many records are whole within c bytes -/
def cutM : List Cp → Nat → Nat
  | [], _ => 0
  | r :: l, c => if c < 16 + r.bs.length then 0 else cutM l (c - (16 + r.bs.length)) + 1
theorem cutM_le : ∀ (l : List Cp) (c : Nat), cutM l c ≤ l.length
  | [], _ => Nat.le_refl _
  | r :: l, c => by
    unfold cutM
    split
    · omega
    · have := cutM_le l (c - (16 + r.bs.length))
      simp
      omega
theorem pos_cons (r : Cp) (l : List Cp) (k : Nat) : pos (r :: l) (k + 1) = 16 + r.bs.length + pos l k := by
  simp [pos, recB_len]
theorem cutM_pos : ∀ (l : List Cp) (c : Nat), pos l (cutM l c) ≤ c
  | [], _ => by simp [cutM, pos]
  | r :: l, c => by
    unfold cutM
    split
    · rw [pos_zero]; omega
    · rw [pos_cons]
      have := cutM_pos l (c - (16 + r.bs.length))
      omega
theorem cutM_next : ∀ (l : List Cp) (c : Nat), cutM l c < l.length → c < pos l (cutM l c + 1)
  | [], _, h => by simp at h
  | r :: l, c, h => by
    unfold cutM at h ⊢
    split at h
    · rename_i hc
      rw [if_pos hc, pos_cons, pos_zero]
      omega
    · rename_i hc
      rw [if_neg hc, pos_cons]
      have := cutM_next l (c - (16 + r.bs.length)) (by simpa using h)
      omega
/-- what is left behind the whole ones -/
theorem cut_split (l : List Cp) (c : Nat) : (l.flatMap recB).take c = (l.take (cutM l c)).flatMap recB ++ ((l.drop (cutM l c)).flatMap recB).take (c - pos l (cutM l c)) := by
  have h := cutM_pos l c
  have e : l.flatMap recB = (l.take (cutM l c)).flatMap recB ++ (l.drop (cutM l c)).flatMap recB := by rw [← List.flatMap_append, List.take_append_drop]
  have hp : pos l (cutM l c) = ((l.take (cutM l c)).flatMap recB).length := rfl
  conv => lhs; rw [e]
  rw [List.take_append, List.take_of_length_le (by omega), ← hp]
theorem okL_take : ∀ (l : List Cp) (k : Nat) (last : Int), okL l last → okL (l.take k) last
  | [], k, last, _ => by simp [okL]
  | r :: l, 0, last, _ => by simp [okL]
  | r :: l, k+1, last, ⟨h1, h2, h3⟩ => ⟨h1, h2, okL_take l k r.t h3⟩
/-- an incomplete record at the end -/
theorem rdF_short (r : Cp) (hr : cpE r = 0) (rest : List Nat) (c f : Nat) (last : Int) (hc : c < 16 + r.bs.length) (hf : c ≤ f) : rdF f ((recB r ++ rest).take c) last = ([], 0, if c = 0 then 0 else 3) := by
  rcases Nat.eq_zero_or_pos c with rfl | h0
  · simp [rdF_nil]
  · obtain ⟨f, rfl⟩ : ∃ g, f = g + 1 := ⟨f - 1, by omega⟩
    have hlen := recB_len r
    have hl : ((recB r ++ rest).take c).length = c := by rw [List.length_take, List.length_append]; omega
    have he : r1E ((recB r ++ rest).take c) last = 3 := by
      unfold r1E
      rw [hl]
      by_cases h13 : c < 13
      · rw [if_pos h13]
      · have hrl : r1L ((recB r ++ rest).take c) = r.bs.length := by
          unfold r1L
          rw [List.drop_take, List.take_take, Nat.min_eq_left (by omega)]
          have := (rec_read r hr rest).1
          unfold r1L at this
          exact this
        rw [hrl, if_neg h13, if_neg (by have := (cpE_ok hr).2.2.2.2; omega), if_pos hc]
    rw [rdF_bad f _ last (by intro e; rw [e] at hl; simp at hl; omega) (by rw [he]; decide), he, if_neg (by omega)]
theorem okL_get : ∀ (l : List Cp) (k : Nat) (last : Int) (h : k < l.length), okL l last → cpE l[k] = 0
  | r :: l, 0, last, _, ⟨h1, _⟩ => h1
  | r :: l, k+1, last, h, ⟨_, _, h3⟩ => okL_get l k r.t (by simpa using h) h3
/-- of the beginning of a file exactly the whole records are read -/
theorem rd_cut (l : List Cp) (c f : Nat) (hl : okL l 0) (hc : c ≤ (l.flatMap recB).length) (hf : c ≤ f) :
    rdF f ((l.flatMap recB).take c) 0 = (l.take (cutM l c), pos l (cutM l c), if pos l (cutM l c) = c then 0 else 3) := by
  have hM := cutM_le l c
  have hP := cutM_pos l c
  have hPM : cutM l c ≤ pos l (cutM l c) := by
    have hg : ∀ (l : List Cp), l.length ≤ (l.flatMap recB).length := by
      intro l
      induction l with
      | nil => simp
      | cons r l ih => rw [List.flatMap_cons, List.length_append, recB_len, List.length_cons]; omega
    have := hg (l.take (cutM l c))
    rw [List.length_take, Nat.min_eq_left hM] at this
    exact this
  have hlen : (l.take (cutM l c)).length = cutM l c := by rw [List.length_take, Nat.min_eq_left hM]
  rw [cut_split l c, rdF_prefix _ _ _ _ (okL_take l _ 0 hl) (by rw [hlen]; omega), hlen]
  have hpd : ((l.take (cutM l c)).flatMap recB).length = pos l (cutM l c) := rfl
  rw [hpd]
  by_cases hend : cutM l c < l.length
  · have hnx := cutM_next l c hend
    rw [pos_succ l _ hend] at hnx
    have hdr : l.drop (cutM l c) = l[cutM l c] :: l.drop (cutM l c + 1) := List.drop_eq_getElem_cons hend
    rw [hdr, List.flatMap_cons, rdF_short _ (okL_get l _ 0 hend hl) _ _ _ _ (by omega) (by omega)]
    by_cases he : pos l (cutM l c) = c
    · rw [if_pos he, if_pos (by omega)]; simp
    · rw [if_neg he, if_neg (by omega)]; simp
  · have e : cutM l c = l.length := by omega
    have hpa := pos_all l
    rw [List.drop_of_length_le (by omega)]
    have he : pos l (cutM l c) = c := by rw [e] at hP ⊢; omega
    simp [rdF_nil, he]
theorem okL_of (l : List Cp) (h : cpW l l.length = 0) : okL l 0 := by
  have hrec : ∀ j (hj : j < l.length), cpE l[j] = 0 := fun j hj => cpW_rec l l.length j h (Nat.le_refl _) hj
  have hord : ∀ j (hj : j + 1 < l.length), ¬ (l[j + 1]).t < (l[j]'(by omega)).t := fun j hj => by
    have h0 := cpW_zero l l.length (j + 1 + 1) h (by omega)
    have h1 := cpW_zero l l.length (j + 1) h (by omega)
    rw [cpW_step l (j + 1) h1, cpE_get hj, if_neg (by simp [hrec _ hj])] at h0
    split at h0
    · cases h0
    · rename_i hn
      intro hlt
      refine hn ⟨by omega, ?_⟩
      rw [Nat.add_sub_cancel, List.getD_eq_getElem?_getD, List.getElem?_eq_getElem (show j < l.length by omega), Option.getD_some]
      exact hlt
  have key : ∀ (m : List Cp) (last : Int), (∀ j (hj : j < m.length), cpE m[j] = 0) → (∀ j (hj : j + 1 < m.length), ¬ (m[j + 1]).t < (m[j]'(by omega)).t) → (∀ h0 : 0 < m.length, ¬ (m[0]).t < last) → okL m last := by
    intro m
    induction m with
    | nil => intro last _ _ _; exact trivial
    | cons r m ih =>
      intro last g1 g2 g3
      refine ⟨g1 0 (by simp), g3 (by simp), ih r.t (fun j hj => g1 (j + 1) (by simpa using hj)) (fun j hj => g2 (j + 1) (by simpa using hj)) (fun h0 => g2 0 (by simpa using h0))⟩
  refine key l 0 hrec hord (fun h0 => ?_)
  have := (cpE_ok (hrec 0 h0)).1.1
  omega
/-- Read of the beginning of a file -/
theorem rdA_cut (l : List Cp) (cut : Nat) (hl : cpW l l.length = 0) (h4 : 4 ≤ cut) (hc : cut ≤ (wrB l l.length).length) :
    rdA ((wrB l l.length).take cut) = (l.take (cutM l (cut - 4)), 4 + pos l (cutM l (cut - 4)), if 4 + pos l (cutM l (cut - 4)) = cut then 0 else 3) := by
  have e : wrB l l.length = mag ++ l.flatMap recB := by simp [wrB]
  rw [e] at hc ⊢
  have hm : mag.length = 4 := rfl
  rw [List.length_append, hm] at hc
  have e2 : (mag ++ l.flatMap recB).take cut = mag ++ (l.flatMap recB).take (cut - 4) := by rw [List.take_append, List.take_of_length_le (by omega), hm]
  have hln : (mag ++ (l.flatMap recB).take (cut - 4)).length = cut := by rw [List.length_append, hm, List.length_take]; omega
  rw [e2]
  unfold rdA
  rw [hln, if_neg (by omega), if_neg (by rw [take_of_app _ _ 4 hm]; simp), drop_of_app _ _ 4 hm, rd_cut l (cut - 4) cut (okL_of l hl) (by omega) (by omega)]
  have : (4 + pos l (cutM l (cut - 4)) = cut) = (pos l (cutM l (cut - 4)) = cut - 4) := by simp only [eq_iff_iff]; omega
  simp only [this]
theorem rdA_few (l : List Cp) (cut : Nat) (h4 : cut < 4) : rdA ((wrB l l.length).take cut) = ([], 0, 3) := by
  unfold rdA
  rw [if_pos (by rw [List.length_take]; omega)]
/-- a byte changed -/
theorem xor_ne (x y : Nat) (hy : y ≠ 0) : x ^^^ y ≠ x := fun e => hy (by
  have h := congrArg (x ^^^ ·) e
  simp only [← Nat.xor_assoc, Nat.xor_self, Nat.zero_xor] at h
  exact h)
theorem split_at {α : Type} (l : List α) (k : Nat) (h : k < l.length) (x : α) : l.set k x = l.take k ++ x :: l.drop (k + 1) := List.set_eq_take_append_cons_drop.trans (if_pos h)
/-- a right record with a byte changed that is not of its length: its checksum does not fit -/
theorem rec_flip (r : Cp) (hr : cpE r = 0) (hb : ∀ x ∈ r.bs, x < 256) (at_ y : Nat) (hat : at_ < 16 + r.bs.length) (h11 : at_ ≠ 11) (h12 : at_ ≠ 12) (hy : y ≠ 0) (hy2 : y < 256) (rest : List Nat) (last : Int) :
    r1E ((recB r).set at_ ((recB r).getD at_ 0 ^^^ y) ++ rest) last = 10 := by
  obtain ⟨h1, h2, h3, h4, h5, h6, h7, h8, h9⟩ := rec_parts r hr
  have hL := (cpE_ok hr).2.2.2.2
  have hlt := recB_lt r hb
  have hDlt := recD_lt r hb
  have hg : (recB r).getD at_ 0 < 256 := by
    rw [List.getD_eq_getElem?_getD, List.getElem?_eq_getElem (by omega), Option.getD_some]
    exact hlt _ (List.getElem_mem _)
  have hx : (recB r).getD at_ 0 ^^^ y < 256 := Nat.xor_lt_two_pow (n := 8) hg hy2
  obtain ⟨x, hxe⟩ : ∃ x, (recB r).getD at_ 0 ^^^ y = x := ⟨_, rfl⟩
  have hne : x ≠ (recB r).getD at_ 0 := by rw [← hxe]; exact xor_ne _ _ hy
  rw [hxe] at hx ⊢
  have hlen : ((recB r).set at_ x).length = 16 + r.bs.length := by rw [List.length_set, h1]
  have hv : vnum ((((recB r).set at_ x).drop 11).take 2) = r.bs.length := by
    have e : (((recB r).set at_ x).drop 11).take 2 = ((recB r).drop 11).take 2 := by
      rw [List.drop_set]
      split
      · rfl
      · rw [List.take_set, List.set_eq_of_length_le (by rw [List.length_take, List.length_drop]; omega)]
    rw [e, h8, vnum_put]
    exact Nat.mod_eq_of_lt (by omega)
  obtain ⟨_, _, q3⟩ := r1_app _ rest r.bs.length hlen hv hL
  rw [q3 last, if_pos]
  have hDlen : (recD r).length = r.bs.length + 13 := by rw [recD_len]; omega
  have hs := sumF_lt (recD r) 0 (by omega)
  by_cases hin : at_ < r.bs.length + 13
  · have e1 : ((recB r).set at_ x).drop (r.bs.length + 13) = putB (sumF 0 (recD r)) 3 := by rw [List.drop_set, if_pos hin, h3]
    have e2 : ((recB r).set at_ x).take (r.bs.length + 13) = (recD r).set at_ x := by rw [List.take_set, h2]
    rw [e1, e2, List.take_of_length_le (by rw [putB_len]; omega), vnum_put, Nat.mod_eq_of_lt (by simpa using hs)]
    intro hsum
    have hg2 : (recB r).getD at_ 0 = (recD r)[at_]'(by omega) := by
      rw [List.getD_eq_getElem?_getD, show recB r = recD r ++ putB (sumF 0 (recD r)) 3 from rfl, List.getElem?_append_left (by omega), List.getElem?_eq_getElem (by omega), Option.getD_some]
    have hsp : recD r = (recD r).take at_ ++ (recD r)[at_]'(by omega) :: (recD r).drop (at_ + 1) := by
      rw [← List.drop_eq_getElem_cons (by omega), List.take_append_drop]
    rw [split_at _ _ (by omega)] at hsum
    conv at hsum => lhs; rw [hsp]
    exact hne ((sumF_flip _ _ _ _ (hDlt _ (List.getElem_mem _)) hx 0 (by omega) hsum).symm.trans hg2.symm)
  · have e1 : ((recB r).set at_ x).drop (r.bs.length + 13) = (putB (sumF 0 (recD r)) 3).set (at_ - (r.bs.length + 13)) x := by rw [List.drop_set, if_neg hin, h3]
    have e2 : ((recB r).set at_ x).take (r.bs.length + 13) = recD r := by rw [List.take_set, List.set_eq_of_length_le (by rw [List.length_take, h1]; omega), h2]
    rw [e1, e2, List.take_of_length_le (by rw [List.length_set, putB_len]; omega)]
    intro hsum
    have hl3 : ((putB (sumF 0 (recD r)) 3).set (at_ - (r.bs.length + 13)) x).length = 3 := by rw [List.length_set, putB_len]
    have hlt3 : ∀ z ∈ (putB (sumF 0 (recD r)) 3).set (at_ - (r.bs.length + 13)) x, z < 256 := fun z hz => by
      rcases List.mem_or_eq_of_mem_set hz with h | h
      · exact putB_lt _ _ z h
      · rw [h]; exact hx
    have hput := putB_vnum _ hlt3
    rw [hl3, hsum] at hput
    have hj : at_ - (r.bs.length + 13) < (putB (sumF 0 (recD r)) 3).length := by rw [putB_len]; omega
    have hget := congrArg (fun l : List Nat => l[at_ - (r.bs.length + 13)]?) hput
    simp only [List.getElem?_set_self hj] at hget
    have hg3 : (recB r).getD at_ 0 = x := by
      rw [List.getD_eq_getElem?_getD, show recB r = recD r ++ putB (sumF 0 (recD r)) 3 from rfl, List.getElem?_append_right (by omega), hDlen, hget, Option.getD_some]
    exact hne hg3.symm
/-- Read of a file with a byte changed -/
theorem rdA_flip (l : List Cp) (which at_ y : Nat) (hl : cpW l l.length = 0) (hb : ∀ r ∈ l, ∀ x ∈ r.bs, x < 256) (hw : which < l.length) (hat : at_ < 16 + l[which].bs.length) (h11 : at_ ≠ 11) (h12 : at_ ≠ 12) (hy : y ≠ 0) (hy2 : y < 256) :
    rdA ((wrB l l.length).set (4 + pos l which + at_) ((wrB l l.length).getD (4 + pos l which + at_) 0 ^^^ y)) = (l.take which, 4 + pos l which, 10) := by
  have hok := okL_of l hl
  have hr := okL_get l which 0 hw hok
  have hm : mag.length = 4 := rfl
  have hpre : (mag ++ (l.take which).flatMap recB).length = 4 + pos l which := by rw [List.length_append, hm]; rfl
  have e : wrB l l.length = (mag ++ (l.take which).flatMap recB) ++ (recB l[which] ++ (l.drop (which + 1)).flatMap recB) := by
    have h1 : l = l.take which ++ l[which] :: l.drop (which + 1) := by rw [← List.drop_eq_getElem_cons hw, List.take_append_drop]
    have h2 : l.flatMap recB = (l.take which).flatMap recB ++ (recB l[which] ++ (l.drop (which + 1)).flatMap recB) := by
      conv => lhs; rw [h1]
      rw [List.flatMap_append, List.flatMap_cons]
    unfold wrB
    rw [List.take_length, h2, List.append_assoc]
  have hlen := recB_len l[which]
  have hget : (wrB l l.length).getD (4 + pos l which + at_) 0 = (recB l[which]).getD at_ 0 := by
    rw [e, List.getD_eq_getElem?_getD, List.getElem?_append_right (by omega), hpre, Nat.add_sub_cancel_left, List.getElem?_append_left (by omega), List.getD_eq_getElem?_getD]
  rw [hget]
  obtain ⟨x, hx⟩ : ∃ x, (recB l[which]).getD at_ 0 ^^^ y = x := ⟨_, rfl⟩
  have hset : (wrB l l.length).set (4 + pos l which + at_) x = (mag ++ (l.take which).flatMap recB) ++ ((recB l[which]).set at_ x ++ (l.drop (which + 1)).flatMap recB) := by
    rw [e, List.set_append_right _ _ (by omega), hpre, Nat.add_sub_cancel_left, List.set_append_left _ _ (by omega)]
  have hf := fun rest last => rec_flip l[which] hr (hb _ (List.getElem_mem hw)) at_ y hat h11 h12 hy hy2 rest last
  rw [hx] at hf ⊢
  rw [hset]
  obtain ⟨N, hN⟩ : ∃ N, ((mag ++ (l.take which).flatMap recB) ++ ((recB l[which]).set at_ x ++ (l.drop (which + 1)).flatMap recB)).length = N := ⟨_, rfl⟩
  have hN2 : N = 4 + pos l which + (16 + l[which].bs.length + ((l.drop (which + 1)).flatMap recB).length) := by
    rw [← hN, List.length_append, hpre, List.length_append, List.length_set, hlen]
  have hwl : (l.take which).length = which := by rw [List.length_take]; omega
  have hgp : which ≤ pos l which := by
    have hg : ∀ (l : List Cp), l.length ≤ (l.flatMap recB).length := by
      intro l
      induction l with
      | nil => simp
      | cons r l ih => rw [List.flatMap_cons, List.length_append, recB_len, List.length_cons]; omega
    have := hg (l.take which)
    rw [hwl] at this
    exact this
  unfold rdA
  rw [hN, if_neg (by omega), if_neg (by rw [List.append_assoc, take_of_app _ _ 4 hm]; simp), List.append_assoc, drop_of_app _ _ 4 hm, rdF_prefix _ _ _ _ (okL_take l which 0 hok) (by rw [hwl]; omega), hwl]
  obtain ⟨f, hf2⟩ : ∃ f, N - which = f + 1 := ⟨N - which - 1, by omega⟩
  rw [hf2, rdF_bad f _ _ (by intro e; have := congrArg List.length e; simp [hlen] at this) (by rw [hf]; decide), hf]
  simp [pos]
end Go.Proofs.YtccknpdnapoboaaDoor
