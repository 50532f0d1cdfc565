/- capture: what is read of a file that was written: cut off, or with a byte changed. Plain. capture: parts of a row of records; CaptureFlips. capture: fits, copied, Select; Select of the reference. capture: Ordered; Hex of the reference. -/
import Derived.Test.YtccknpdnapoboaaDoorCpW
import Derived.Test.YtccknpdnapoboaaDoorCpZ
import Derived.Test.YtccknpdnapoboaaDoorCqJ
import Derived.Test.YtccknpdnapoboaaDoorCqH
import Derived.BigQuiet
namespace Go.Proofs.YtccknpdnapoboaaDoor
open Go.RowKit

/-- what is wrong with one record's bytes, its length being right -/
theorem r1_app (R rest : List Nat) (L : Nat) (hR : R.length = 16 + L) (hL : vnum ((R.drop 11).take 2) = L) (hL2 : L ≤ 260) :
    r1L (R ++ rest) = L ∧ r1R (R ++ rest) = ⟨vnum (R.take 8), (R.getD 8 0 : Nat), (R.getD 9 0 : Nat), (R.getD 10 0 : Nat), (R.drop 13).take L⟩ ∧
    ∀ last, r1E (R ++ rest) last = if vnum ((R.drop (L + 13)).take 3) ≠ sumF 0 (R.take (L + 13)) then 10 else if cpE ⟨vnum (R.take 8), (R.getD 8 0 : Nat), (R.getD 9 0 : Nat), (R.getD 10 0 : Nat), (R.drop 13).take L⟩ ≠ 0 then 5 else if (vnum (R.take 8) : Int) < last then 13 else 0 := by
  have h1 : r1L (R ++ rest) = L := by
    unfold r1L
    rw [List.drop_append_of_le_length (by omega), List.take_append_of_le_length (by rw [List.length_drop]; omega), hL]
  have hg : ∀ i, i < R.length → (R ++ rest).getD i 0 = R.getD i 0 := fun i hi => by
    simp only [List.getD_eq_getElem?_getD, List.getElem?_append_left hi]
  have h2 : r1R (R ++ rest) = ⟨vnum (R.take 8), (R.getD 8 0 : Nat), (R.getD 9 0 : Nat), (R.getD 10 0 : Nat), (R.drop 13).take L⟩ := by
    unfold r1R
    rw [h1, hg 8 (by omega), hg 9 (by omega), hg 10 (by omega), List.take_append_of_le_length (by omega), List.drop_append_of_le_length (by omega), List.take_append_of_le_length (by rw [List.length_drop]; omega)]
  refine ⟨h1, h2, fun last => ?_⟩
  unfold r1E
  rw [h1, h2, if_neg (by rw [List.length_append]; omega), if_neg (by omega), if_neg (by rw [List.length_append]; omega)]
  rw [List.drop_append_of_le_length (by omega), List.take_append_of_le_length (by rw [List.length_drop]; omega), List.take_append_of_le_length (by omega)]
theorem putB1 (x : Nat) (h : x < 256) : putB x 1 = [x] := by simp [putB, byt, Nat.mod_eq_of_lt h]
theorem take_of_app {α : Type} (a b : List α) (n : Nat) (h : a.length = n) : (a ++ b).take n = a := by subst h; simp
theorem drop_of_app {α : Type} (a b : List α) (n : Nat) (h : a.length = n) : (a ++ b).drop n = b := by subst h; simp
/-- the parts of a right record's bytes -/
theorem rec_parts (r : Cp) (hr : cpE r = 0) : (recB r).length = 16 + r.bs.length ∧ (recB r).take (r.bs.length + 13) = recD r ∧ (recB r).drop (r.bs.length + 13) = putB (sumF 0 (recD r)) 3 ∧
    vnum ((recB r).take 8) = r.t.toNat ∧ (recB r).getD 8 0 = r.c.toNat ∧ (recB r).getD 9 0 = r.f.toNat ∧ (recB r).getD 10 0 = r.k.toNat ∧ ((recB r).drop 11).take 2 = putB r.bs.length 2 ∧ ((recB r).drop 13).take r.bs.length = r.bs := by
  obtain ⟨⟨hT0, hT1⟩, ⟨hC0, hC1⟩, ⟨hF0, hF1⟩, ⟨hK0, hK1⟩, hL⟩ := cpE_ok hr
  have hl := recD_len r
  have e : recB r = putB r.t.toNat 8 ++ ([r.c.toNat] ++ ([r.f.toNat] ++ ([r.k.toNat] ++ (putB r.bs.length 2 ++ (r.bs ++ putB (sumF 0 (recD r)) 3))))) := by
    rw [show recB r = recD r ++ putB (sumF 0 (recD r)) 3 from rfl]
    conv => lhs; arg 1; unfold recD
    rw [putB1 _ (by omega), putB1 _ (by omega), putB1 _ (by omega)]
    simp only [List.append_assoc]
  have p8 := putB_len r.t.toNat 8
  have p2 := putB_len r.bs.length 2
  refine ⟨recB_len r, ?_, ?_, ?_, ?_, ?_, ?_, ?_, ?_⟩
  · exact take_of_app _ _ _ (by omega)
  · exact drop_of_app _ _ _ (by omega)
  · rw [e, take_of_app _ _ _ p8, vnum_put, Nat.mod_eq_of_lt]
    omega
  · rw [e, List.getD_eq_getElem?_getD, List.getElem?_append_right (by omega), p8]; rfl
  · rw [e, List.getD_eq_getElem?_getD, List.getElem?_append_right (by omega), p8]; rfl
  · rw [e, List.getD_eq_getElem?_getD, List.getElem?_append_right (by omega), p8]; rfl
  · rw [e, show (11 : Nat) = 8 + 3 from rfl, ← List.drop_drop, drop_of_app _ _ _ p8]
    simp only [List.singleton_append, List.drop_succ_cons, List.drop_zero]
    exact take_of_app _ _ _ p2
  · rw [e, show (13 : Nat) = 8 + 5 from rfl, ← List.drop_drop, drop_of_app _ _ _ p8]
    rw [show (5 : Nat) = 3 + 2 from rfl, ← List.drop_drop]
    simp only [List.singleton_append, List.drop_succ_cons, List.drop_zero]
    rw [drop_of_app _ _ _ p2]
    exact take_of_app _ _ _ rfl
theorem cp_nat (r : Cp) (hr : cpE r = 0) : (⟨(r.t.toNat : Int), (r.c.toNat : Int), (r.f.toNat : Int), (r.k.toNat : Int), r.bs⟩ : Cp) = r := by
  obtain ⟨⟨hT0, _⟩, ⟨hC0, _⟩, ⟨hF0, _⟩, ⟨hK0, _⟩, _⟩ := cpE_ok hr
  obtain ⟨t, c, f, k, bs⟩ := r
  simp only [Cp.mk.injEq, and_true]
  simp only at hT0 hC0 hF0 hK0
  omega
/-- a right record is read -/
theorem rec_read (r : Cp) (hr : cpE r = 0) (rest : List Nat) : r1L (recB r ++ rest) = r.bs.length ∧ r1R (recB r ++ rest) = r ∧ ∀ last, r1E (recB r ++ rest) last = if r.t < last then 13 else 0 := by
  obtain ⟨h1, h2, h3, h4, h5, h6, h7, h8, h9⟩ := rec_parts r hr
  have hL := (cpE_ok hr).2.2.2.2
  have hT0 := (cpE_ok hr).1.1
  have hv : vnum (((recB r).drop 11).take 2) = r.bs.length := by rw [h8, vnum_put]; exact Nat.mod_eq_of_lt (by omega)
  obtain ⟨q1, q2, q3⟩ := r1_app (recB r) rest r.bs.length h1 hv hL
  rw [h4, h5, h6, h7, h9, cp_nat r hr] at q2
  refine ⟨q1, q2, fun last => ?_⟩
  have hs := sumF_lt (recD r) 0 (by omega)
  rw [q3 last, h2, h3, h4, h5, h6, h7, h9, cp_nat r hr, if_neg, if_neg (by simp [hr]), show ((r.t.toNat : Nat) : Int) = r.t by omega]
  rw [List.take_of_length_le (by rw [putB_len]; omega), vnum_put, Nat.mod_eq_of_lt hs]
  simp
/-- times do not decrease, from a time on; each record right -/
def okL : List Cp → Int → Prop
  | [], _ => True
  | r :: l, last => cpE r = 0 ∧ ¬ r.t < last ∧ okL l r.t
def endT : List Cp → Int → Int
  | [], last => last
  | r :: l, _ => endT l r.t
theorem rdF_prefix : ∀ (p : List Cp) (f : Nat) (b : List Nat) (last : Int), okL p last → p.length ≤ f →
    rdF f (p.flatMap recB ++ b) last = (p ++ (rdF (f - p.length) b (endT p last)).1, (p.flatMap recB).length + (rdF (f - p.length) b (endT p last)).2.1, (rdF (f - p.length) b (endT p last)).2.2)
  | [], f, b, last, _, _ => by simp [endT]
  | r :: p, 0, b, last, _, h => by simp at h
  | r :: p, f+1, b, last, ⟨h1, h2, h3⟩, h => by
    have ih := rdF_prefix p f b r.t h3 (by simpa using h)
    obtain ⟨q1, q2, q3⟩ := rec_read r h1 (p.flatMap recB ++ b)
    have hlen := recB_len r
    have hd : (recB r ++ (p.flatMap recB ++ b)).drop (16 + r.bs.length) = p.flatMap recB ++ b := drop_of_app _ _ _ hlen
    rw [List.flatMap_cons, List.append_assoc, rdF_good f _ last (by intro e; have := congrArg List.length e; simp [hlen] at this) (by rw [q3, if_neg h2]), q1, q2, hd, ih]
    simp only [List.length_cons, Nat.add_sub_add_right, endT, List.cons_append, List.length_append, hlen, Nat.add_assoc]
/-- where record number k begins, behind the first four bytes -/
def pos (l : List Cp) (k : Nat) : Nat := ((l.take k).flatMap recB).length
theorem pos_succ (l : List Cp) (k : Nat) (h : k < l.length) : pos l (k + 1) = pos l k + (16 + l[k].bs.length) := by
  unfold pos
  rw [List.take_succ_eq_append_getElem h, List.flatMap_append]
  simp [recB_len]
theorem pos_zero (l : List Cp) : pos l 0 = 0 := by simp [pos]
theorem pos_all (l : List Cp) : pos l l.length = (l.flatMap recB).length := by simp [pos]
/-- how many records are whole within c bytes -/
def cutM : List Cp → Nat → Nat
  | [], _ => 0
  | r :: l, c => if c < 16 + r.bs.length then 0 else cutM l (c - (16 + r.bs.length)) + 1
theorem cutM_le : ∀ (l : List Cp) (c : Nat), cutM l c ≤ l.length
  | [], _ => Nat.le_refl _
  | r :: l, c => by
    unfold cutM
    split
    · omega
    · have := cutM_le l (c - (16 + r.bs.length))
      simp
      omega
theorem pos_cons (r : Cp) (l : List Cp) (k : Nat) : pos (r :: l) (k + 1) = 16 + r.bs.length + pos l k := by
  simp [pos, recB_len]
theorem cutM_pos : ∀ (l : List Cp) (c : Nat), pos l (cutM l c) ≤ c
  | [], _ => by simp [cutM, pos]
  | r :: l, c => by
    unfold cutM
    split
    · rw [pos_zero]; omega
    · rw [pos_cons]
      have := cutM_pos l (c - (16 + r.bs.length))
      omega
theorem cutM_next : ∀ (l : List Cp) (c : Nat), cutM l c < l.length → c < pos l (cutM l c + 1)
  | [], _, h => by simp at h
  | r :: l, c, h => by
    unfold cutM at h ⊢
    split at h
    · rename_i hc
      rw [if_pos hc, pos_cons, pos_zero]
      omega
    · rename_i hc
      rw [if_neg hc, pos_cons]
      have := cutM_next l (c - (16 + r.bs.length)) (by simpa using h)
      omega
/-- what is left behind the whole ones -/
theorem cut_split (l : List Cp) (c : Nat) : (l.flatMap recB).take c = (l.take (cutM l c)).flatMap recB ++ ((l.drop (cutM l c)).flatMap recB).take (c - pos l (cutM l c)) := by
  have h := cutM_pos l c
  have e : l.flatMap recB = (l.take (cutM l c)).flatMap recB ++ (l.drop (cutM l c)).flatMap recB := by rw [← List.flatMap_append, List.take_append_drop]
  have hp : pos l (cutM l c) = ((l.take (cutM l c)).flatMap recB).length := rfl
  conv => lhs; rw [e]
  rw [List.take_append, List.take_of_length_le (by omega), ← hp]
theorem okL_take : ∀ (l : List Cp) (k : Nat) (last : Int), okL l last → okL (l.take k) last
  | [], k, last, _ => by simp [okL]
  | r :: l, 0, last, _ => by simp [okL]
  | r :: l, k+1, last, ⟨h1, h2, h3⟩ => ⟨h1, h2, okL_take l k r.t h3⟩
/-- an incomplete record at the end -/
theorem rdF_short (r : Cp) (hr : cpE r = 0) (rest : List Nat) (c f : Nat) (last : Int) (hc : c < 16 + r.bs.length) (hf : c ≤ f) : rdF f ((recB r ++ rest).take c) last = ([], 0, if c = 0 then 0 else 3) := by
  rcases Nat.eq_zero_or_pos c with rfl | h0
  · simp [rdF_nil]
  · obtain ⟨f, rfl⟩ : ∃ g, f = g + 1 := ⟨f - 1, by omega⟩
    have hlen := recB_len r
    have hl : ((recB r ++ rest).take c).length = c := by rw [List.length_take, List.length_append]; omega
    have he : r1E ((recB r ++ rest).take c) last = 3 := by
      unfold r1E
      rw [hl]
      by_cases h13 : c < 13
      · rw [if_pos h13]
      · have hrl : r1L ((recB r ++ rest).take c) = r.bs.length := by
          unfold r1L
          rw [List.drop_take, List.take_take, Nat.min_eq_left (by omega)]
          have := (rec_read r hr rest).1
          unfold r1L at this
          exact this
        rw [hrl, if_neg h13, if_neg (by have := (cpE_ok hr).2.2.2.2; omega), if_pos hc]
    rw [rdF_bad f _ last (by intro e; rw [e] at hl; simp at hl; omega) (by rw [he]; decide), he, if_neg (by omega)]
theorem okL_get : ∀ (l : List Cp) (k : Nat) (last : Int) (h : k < l.length), okL l last → cpE l[k] = 0
  | r :: l, 0, last, _, ⟨h1, _⟩ => h1
  | r :: l, k+1, last, h, ⟨_, _, h3⟩ => okL_get l k r.t (by simpa using h) h3
/-- of the beginning of a file exactly the whole records are read -/
theorem rd_cut (l : List Cp) (c f : Nat) (hl : okL l 0) (hc : c ≤ (l.flatMap recB).length) (hf : c ≤ f) :
    rdF f ((l.flatMap recB).take c) 0 = (l.take (cutM l c), pos l (cutM l c), if pos l (cutM l c) = c then 0 else 3) := by
  have hM := cutM_le l c
  have hP := cutM_pos l c
  have hPM : cutM l c ≤ pos l (cutM l c) := by
    have hg : ∀ (l : List Cp), l.length ≤ (l.flatMap recB).length := by
      intro l
      induction l with
      | nil => simp
      | cons r l ih => rw [List.flatMap_cons, List.length_append, recB_len, List.length_cons]; omega
    have := hg (l.take (cutM l c))
    rw [List.length_take, Nat.min_eq_left hM] at this
    exact this
  have hlen : (l.take (cutM l c)).length = cutM l c := by rw [List.length_take, Nat.min_eq_left hM]
  rw [cut_split l c, rdF_prefix _ _ _ _ (okL_take l _ 0 hl) (by rw [hlen]; omega), hlen]
  have hpd : ((l.take (cutM l c)).flatMap recB).length = pos l (cutM l c) := rfl
  rw [hpd]
  by_cases hend : cutM l c < l.length
  · have hnx := cutM_next l c hend
    rw [pos_succ l _ hend] at hnx
    have hdr : l.drop (cutM l c) = l[cutM l c] :: l.drop (cutM l c + 1) := List.drop_eq_getElem_cons hend
    rw [hdr, List.flatMap_cons, rdF_short _ (okL_get l _ 0 hend hl) _ _ _ _ (by omega) (by omega)]
    by_cases he : pos l (cutM l c) = c
    · rw [if_pos he, if_pos (by omega)]; simp
    · rw [if_neg he, if_neg (by omega)]; simp
  · have e : cutM l c = l.length := by omega
    have hpa := pos_all l
    rw [List.drop_of_length_le (by omega)]
    have he : pos l (cutM l c) = c := by rw [e] at hP ⊢; omega
    simp [rdF_nil, he]
theorem okL_of (l : List Cp) (h : cpW l l.length = 0) : okL l 0 := by
  have hrec : ∀ j (hj : j < l.length), cpE l[j] = 0 := fun j hj => cpW_rec l l.length j h (Nat.le_refl _) hj
  have hord : ∀ j (hj : j + 1 < l.length), ¬ (l[j + 1]).t < (l[j]'(by omega)).t := fun j hj => by
    have h0 := cpW_zero l l.length (j + 1 + 1) h (by omega)
    have h1 := cpW_zero l l.length (j + 1) h (by omega)
    rw [cpW_step l (j + 1) h1, cpE_get hj, if_neg (by simp [hrec _ hj])] at h0
    split at h0
    · cases h0
    · rename_i hn
      intro hlt
      refine hn ⟨by omega, ?_⟩
      rw [Nat.add_sub_cancel, List.getD_eq_getElem?_getD, List.getElem?_eq_getElem (show j < l.length by omega), Option.getD_some]
      exact hlt
  have key : ∀ (m : List Cp) (last : Int), (∀ j (hj : j < m.length), cpE m[j] = 0) → (∀ j (hj : j + 1 < m.length), ¬ (m[j + 1]).t < (m[j]'(by omega)).t) → (∀ h0 : 0 < m.length, ¬ (m[0]).t < last) → okL m last := by
    intro m
    induction m with
    | nil => intro last _ _ _; exact trivial
    | cons r m ih =>
      intro last g1 g2 g3
      refine ⟨g1 0 (by simp), g3 (by simp), ih r.t (fun j hj => g1 (j + 1) (by simpa using hj)) (fun j hj => g2 (j + 1) (by simpa using hj)) (fun h0 => g2 0 (by simpa using h0))⟩
  refine key l 0 hrec hord (fun h0 => ?_)
  have := (cpE_ok (hrec 0 h0)).1.1
  omega
/-- Read of the beginning of a file -/
theorem rdA_cut (l : List Cp) (cut : Nat) (hl : cpW l l.length = 0) (h4 : 4 ≤ cut) (hc : cut ≤ (wrB l l.length).length) :
    rdA ((wrB l l.length).take cut) = (l.take (cutM l (cut - 4)), 4 + pos l (cutM l (cut - 4)), if 4 + pos l (cutM l (cut - 4)) = cut then 0 else 3) := by
  have e : wrB l l.length = mag ++ l.flatMap recB := by simp [wrB]
  rw [e] at hc ⊢
  have hm : mag.length = 4 := rfl
  rw [List.length_append, hm] at hc
  have e2 : (mag ++ l.flatMap recB).take cut = mag ++ (l.flatMap recB).take (cut - 4) := by rw [List.take_append, List.take_of_length_le (by omega), hm]
  have hln : (mag ++ (l.flatMap recB).take (cut - 4)).length = cut := by rw [List.length_append, hm, List.length_take]; omega
  rw [e2]
  unfold rdA
  rw [hln, if_neg (by omega), if_neg (by rw [take_of_app _ _ 4 hm]; simp), drop_of_app _ _ 4 hm, rd_cut l (cut - 4) cut (okL_of l hl) (by omega) (by omega)]
  have : (4 + pos l (cutM l (cut - 4)) = cut) = (pos l (cutM l (cut - 4)) = cut - 4) := by simp only [eq_iff_iff]; omega
  simp only [this]
theorem rdA_few (l : List Cp) (cut : Nat) (h4 : cut < 4) : rdA ((wrB l l.length).take cut) = ([], 0, 3) := by
  unfold rdA
  rw [if_pos (by rw [List.length_take]; omega)]
/-- a byte changed -/
theorem xor_ne (x y : Nat) (hy : y ≠ 0) : x ^^^ y ≠ x := fun e => hy (by
  have h := congrArg (x ^^^ ·) e
  simp only [← Nat.xor_assoc, Nat.xor_self, Nat.zero_xor] at h
  exact h)
theorem split_at {α : Type} (l : List α) (k : Nat) (h : k < l.length) (x : α) : l.set k x = l.take k ++ x :: l.drop (k + 1) := List.set_eq_take_append_cons_drop.trans (if_pos h)
/-- a right record with a byte changed that is not of its length: its checksum does not fit -/
theorem rec_flip (r : Cp) (hr : cpE r = 0) (hb : ∀ x ∈ r.bs, x < 256) (at_ y : Nat) (hat : at_ < 16 + r.bs.length) (h11 : at_ ≠ 11) (h12 : at_ ≠ 12) (hy : y ≠ 0) (hy2 : y < 256) (rest : List Nat) (last : Int) :
    r1E ((recB r).set at_ ((recB r).getD at_ 0 ^^^ y) ++ rest) last = 10 := by
  obtain ⟨h1, h2, h3, h4, h5, h6, h7, h8, h9⟩ := rec_parts r hr
  have hL := (cpE_ok hr).2.2.2.2
  have hlt := recB_lt r hb
  have hDlt := recD_lt r hb
  have hg : (recB r).getD at_ 0 < 256 := by
    rw [List.getD_eq_getElem?_getD, List.getElem?_eq_getElem (by omega), Option.getD_some]
    exact hlt _ (List.getElem_mem _)
  have hx : (recB r).getD at_ 0 ^^^ y < 256 := Nat.xor_lt_two_pow (n := 8) hg hy2
  obtain ⟨x, hxe⟩ : ∃ x, (recB r).getD at_ 0 ^^^ y = x := ⟨_, rfl⟩
  have hne : x ≠ (recB r).getD at_ 0 := by rw [← hxe]; exact xor_ne _ _ hy
  rw [hxe] at hx ⊢
  have hlen : ((recB r).set at_ x).length = 16 + r.bs.length := by rw [List.length_set, h1]
  have hv : vnum ((((recB r).set at_ x).drop 11).take 2) = r.bs.length := by
    have e : (((recB r).set at_ x).drop 11).take 2 = ((recB r).drop 11).take 2 := by
      rw [List.drop_set]
      split
      · rfl
      · rw [List.take_set, List.set_eq_of_length_le (by rw [List.length_take, List.length_drop]; omega)]
    rw [e, h8, vnum_put]
    exact Nat.mod_eq_of_lt (by omega)
  obtain ⟨_, _, q3⟩ := r1_app _ rest r.bs.length hlen hv hL
  rw [q3 last, if_pos]
  have hDlen : (recD r).length = r.bs.length + 13 := by rw [recD_len]; omega
  have hs := sumF_lt (recD r) 0 (by omega)
  by_cases hin : at_ < r.bs.length + 13
  · have e1 : ((recB r).set at_ x).drop (r.bs.length + 13) = putB (sumF 0 (recD r)) 3 := by rw [List.drop_set, if_pos hin, h3]
    have e2 : ((recB r).set at_ x).take (r.bs.length + 13) = (recD r).set at_ x := by rw [List.take_set, h2]
    rw [e1, e2, List.take_of_length_le (by rw [putB_len]; omega), vnum_put, Nat.mod_eq_of_lt (by simpa using hs)]
    intro hsum
    have hg2 : (recB r).getD at_ 0 = (recD r)[at_]'(by omega) := by
      rw [List.getD_eq_getElem?_getD, show recB r = recD r ++ putB (sumF 0 (recD r)) 3 from rfl, List.getElem?_append_left (by omega), List.getElem?_eq_getElem (by omega), Option.getD_some]
    have hsp : recD r = (recD r).take at_ ++ (recD r)[at_]'(by omega) :: (recD r).drop (at_ + 1) := by
      rw [← List.drop_eq_getElem_cons (by omega), List.take_append_drop]
    rw [split_at _ _ (by omega)] at hsum
    conv at hsum => lhs; rw [hsp]
    exact hne ((sumF_flip _ _ _ _ (hDlt _ (List.getElem_mem _)) hx 0 (by omega) hsum).symm.trans hg2.symm)
  · have e1 : ((recB r).set at_ x).drop (r.bs.length + 13) = (putB (sumF 0 (recD r)) 3).set (at_ - (r.bs.length + 13)) x := by rw [List.drop_set, if_neg hin, h3]
    have e2 : ((recB r).set at_ x).take (r.bs.length + 13) = recD r := by rw [List.take_set, List.set_eq_of_length_le (by rw [List.length_take, h1]; omega), h2]
    rw [e1, e2, List.take_of_length_le (by rw [List.length_set, putB_len]; omega)]
    intro hsum
    have hl3 : ((putB (sumF 0 (recD r)) 3).set (at_ - (r.bs.length + 13)) x).length = 3 := by rw [List.length_set, putB_len]
    have hlt3 : ∀ z ∈ (putB (sumF 0 (recD r)) 3).set (at_ - (r.bs.length + 13)) x, z < 256 := fun z hz => by
      rcases List.mem_or_eq_of_mem_set hz with h | h
      · exact putB_lt _ _ z h
      · rw [h]; exact hx
    have hput := putB_vnum _ hlt3
    rw [hl3, hsum] at hput
    have hj : at_ - (r.bs.length + 13) < (putB (sumF 0 (recD r)) 3).length := by rw [putB_len]; omega
    have hget := congrArg (fun l : List Nat => l[at_ - (r.bs.length + 13)]?) hput
    simp only [List.getElem?_set_self hj] at hget
    have hg3 : (recB r).getD at_ 0 = x := by
      rw [List.getD_eq_getElem?_getD, show recB r = recD r ++ putB (sumF 0 (recD r)) 3 from rfl, List.getElem?_append_right (by omega), hDlen, hget, Option.getD_some]
    exact hne hg3.symm
/-- Read of a file with a byte changed -/
theorem rdA_flip (l : List Cp) (which at_ y : Nat) (hl : cpW l l.length = 0) (hb : ∀ r ∈ l, ∀ x ∈ r.bs, x < 256) (hw : which < l.length) (hat : at_ < 16 + l[which].bs.length) (h11 : at_ ≠ 11) (h12 : at_ ≠ 12) (hy : y ≠ 0) (hy2 : y < 256) :
    rdA ((wrB l l.length).set (4 + pos l which + at_) ((wrB l l.length).getD (4 + pos l which + at_) 0 ^^^ y)) = (l.take which, 4 + pos l which, 10) := by
  have hok := okL_of l hl
  have hr := okL_get l which 0 hw hok
  have hm : mag.length = 4 := rfl
  have hpre : (mag ++ (l.take which).flatMap recB).length = 4 + pos l which := by rw [List.length_append, hm]; rfl
  have e : wrB l l.length = (mag ++ (l.take which).flatMap recB) ++ (recB l[which] ++ (l.drop (which + 1)).flatMap recB) := by
    have h1 : l = l.take which ++ l[which] :: l.drop (which + 1) := by rw [← List.drop_eq_getElem_cons hw, List.take_append_drop]
    have h2 : l.flatMap recB = (l.take which).flatMap recB ++ (recB l[which] ++ (l.drop (which + 1)).flatMap recB) := by
      conv => lhs; rw [h1]
      rw [List.flatMap_append, List.flatMap_cons]
    unfold wrB
    rw [List.take_length, h2, List.append_assoc]
  have hlen := recB_len l[which]
  have hget : (wrB l l.length).getD (4 + pos l which + at_) 0 = (recB l[which]).getD at_ 0 := by
    rw [e, List.getD_eq_getElem?_getD, List.getElem?_append_right (by omega), hpre, Nat.add_sub_cancel_left, List.getElem?_append_left (by omega), List.getD_eq_getElem?_getD]
  rw [hget]
  obtain ⟨x, hx⟩ : ∃ x, (recB l[which]).getD at_ 0 ^^^ y = x := ⟨_, rfl⟩
  have hset : (wrB l l.length).set (4 + pos l which + at_) x = (mag ++ (l.take which).flatMap recB) ++ ((recB l[which]).set at_ x ++ (l.drop (which + 1)).flatMap recB) := by
    rw [e, List.set_append_right _ _ (by omega), hpre, Nat.add_sub_cancel_left, List.set_append_left _ _ (by omega)]
  have hf := fun rest last => rec_flip l[which] hr (hb _ (List.getElem_mem hw)) at_ y hat h11 h12 hy hy2 rest last
  rw [hx] at hf ⊢
  rw [hset]
  obtain ⟨N, hN⟩ : ∃ N, ((mag ++ (l.take which).flatMap recB) ++ ((recB l[which]).set at_ x ++ (l.drop (which + 1)).flatMap recB)).length = N := ⟨_, rfl⟩
  have hN2 : N = 4 + pos l which + (16 + l[which].bs.length + ((l.drop (which + 1)).flatMap recB).length) := by
    rw [← hN, List.length_append, hpre, List.length_append, List.length_set, hlen]
  have hwl : (l.take which).length = which := by rw [List.length_take]; omega
  have hgp : which ≤ pos l which := by
    have hg : ∀ (l : List Cp), l.length ≤ (l.flatMap recB).length := by
      intro l
      induction l with
      | nil => simp
      | cons r l ih => rw [List.flatMap_cons, List.length_append, recB_len, List.length_cons]; omega
    have := hg (l.take which)
    rw [hwl] at this
    exact this
  unfold rdA
  rw [hN, if_neg (by omega), if_neg (by rw [List.append_assoc, take_of_app _ _ 4 hm]; simp), List.append_assoc, drop_of_app _ _ 4 hm, rdF_prefix _ _ _ _ (okL_take l which 0 hok) (by rw [hwl]; omega), hwl]
  obtain ⟨f, hf2⟩ : ∃ f, N - which = f + 1 := ⟨N - which - 1, by omega⟩
  rw [hf2, rdF_bad f _ _ (by intro e; have := congrArg List.length e; simp [hlen] at this) (by rw [hf]; decide), hf]
  simp [pos]
end Go.Proofs.YtccknpdnapoboaaDoor
namespace Go.Proofs.YtccknpdnapoboaaDoor
open Go.RowKit

theorem CpAt.shift {w : World} {b off k i : Nat} {t : Cp} (h : CpAt w b off (i + k) t) : CpAt w b (off + i * 5) k t := by
  obtain ⟨a, c, h0, h1, h2, h3, h4, h5⟩ := h
  have e : off + (i + k) * 5 = off + i * 5 + k * 5 := by rw [Nat.add_mul]; omega
  rw [e] at h0 h1 h2 h3 h4
  exact ⟨a, c, h0, h1, h2, h3, h4, h5⟩
/-- what 's[i:j]' of records hands back -/
theorem cps_mid (w : World) (a : Option Addr) (n c i j : Nat) (ts : List Cp) (h : Cps w (.slice a n c) ts) (hn : ts.length = n) (hc : n ≤ c) (hij : i ≤ j) (hj : j ≤ n) :
    ∃ a' c', Cps w (.slice a' (j - i) c') ((ts.drop i).take (j - i)) ∧ ∀ W, (Instr.slice 22 (.slice a n c) (some (.int .i64 i)) (some (.int .i64 j)) none).run Tryd.prog W = .ok (.slice a' (j - i) c') W := by
  obtain ⟨hm, ao, cap, e, hcell⟩ := h
  rw [hn] at e
  cases e
  have hl : ((ts.drop i).take (j - i)).length = j - i := by rw [List.length_take, List.length_drop]; omega
  refine ⟨if c = i then a else a.map (·.add (i * 5)), c - i, ⟨by rw [hl]; omega, _, _, by rw [hl], ?_⟩, fun W => ?_⟩
  · intro h0
    rw [hl] at h0
    obtain ⟨b, off, rfl, hb, hcs⟩ := hcell (by omega)
    rw [if_neg (by omega)]
    refine ⟨b, off + i * 5, by simp [addr_off], hb, fun k hk => ?_⟩
    have hk2 : k < j - i := by rw [hl] at hk; exact hk
    rw [List.getElem_take, List.getElem_drop]
    exact (hcs (i + k) (by omega)).shift
  · have hu : Tryd.prog.underlying 22 = some (.slice (Tryd.prog.elem 22)) := by kernel_rfl
    rw [run_slice_lh (ht := hu) (kl := .i64) (l := (i : Int)) (kh := .i64) (h := (j : Int)) (h0 := by omega) (h1 := by omega) (h2 := by omega)]
    have hs : (sizeOf (Tryd.prog.elem 22)).run Tryd.prog W = .ok 5 W := by kernel_rfl
    rw [hs]
    have e1 : (i : Int).toNat = i := rfl
    have e2 : ((j : Int) - (i : Int)).toNat = j - i := by omega
    have e3 : ((c : Int) - (i : Int)).toNat = c - i := by omega
    simp [Result.andThen, sliced]
theorem cps_to (w : World) (a : Option Addr) (n c j : Nat) (ts : List Cp) (h : Cps w (.slice a n c) ts) (hn : ts.length = n) (hc : n ≤ c) (hj : j ≤ n) :
    ∃ a' c', Cps w (.slice a' j c') (ts.take j) ∧ ∀ W, (Instr.slice 22 (.slice a n c) none (some (.int .i64 j)) none).run Tryd.prog W = .ok (.slice a' j c') W := by
  obtain ⟨hm, ao, cap, e, hcell⟩ := h
  rw [hn] at e
  cases e
  have hl : (ts.take j).length = j := by rw [List.length_take]; omega
  refine ⟨if c = 0 then a else a.map (·.add 0), c, ⟨by rw [hl]; omega, _, _, by rw [hl], ?_⟩, fun W => ?_⟩
  · intro h0
    rw [hl] at h0
    obtain ⟨b, off, rfl, hb, hcs⟩ := hcell (by omega)
    rw [if_neg (by omega)]
    refine ⟨b, off, by simp [addr_off], hb, fun k hk => ?_⟩
    rw [List.getElem_take]
    exact hcs k (by rw [hl] at hk; omega)
  · have hu : Tryd.prog.underlying 22 = some (.slice (Tryd.prog.elem 22)) := by kernel_rfl
    rw [run_slice_h (ht := hu) (kh := .i64) (h := (j : Int)) (h0 := by omega) (h2 := by omega)]
    have hs : (sizeOf (Tryd.prog.elem 22)).run Tryd.prog W = .ok 5 W := by kernel_rfl
    rw [hs]
    simp [Result.andThen, sliced]
theorem arg_cpsC {w : World} {v : Value} (h : Arg Tryd.prog w 22 v) : ∃ ts, CpsC w v ts ∧ ts.length * 56 ≤ 140737488355328 ∧ ∀ t ∈ ts, i64b t.t ∧ i64b t.c ∧ i64b t.f ∧ i64b t.k := by
  obtain ⟨ts, h1, h2, h3⟩ := arg_cps h
  refine ⟨ts, ⟨h1, fun a n c e => ?_⟩, h2, h3⟩
  rcases h.slIn Tryd.underlying22 with rfl | ⟨a', len, cap, rfl, hle, _⟩
  · cases e; exact Nat.le_refl _
  · cases e; exact hle
theorem xor8 {x y : Int} {X Y : Nat} (hx : x = X) (hy : y = Y) (h1 : X < 256) (h2 : Y < 256) : bits .xor .u8 x y = ((X ^^^ Y : Nat) : Int) := by
  subst hx hy
  exact u8_xor_nat _ _ h1 h2
theorem pos_bd (l : List Cp) (k : Nat) (h : cpW l l.length = 0) (hk : k ≤ l.length) : pos l k ≤ 276 * k := by
  have := wrB_len l k (cpW_zero l l.length k h hk) hk
  have e : (wrB l k).length = 4 + pos l k := by simp [wrB, pos, mag]; omega
  omega
theorem pos_le (l : List Cp) (k : Nat) : pos l k ≤ pos l l.length := by
  rw [pos_all]
  unfold pos
  conv => rhs; rw [← List.take_append_drop k l]
  rw [List.flatMap_append, List.length_append]
  omega
theorem wrB_all (l : List Cp) : (wrB l l.length).length = 4 + pos l l.length := by simp [wrB, pos, mag]; omega
set_option linter.unusedSimpArgs false in
set_option linter.unusedVariables false in
set_option maxRecDepth 100000 in
set_option maxHeartbeats 8000000 in
theorem captureFlips_walk (v0 v1 v2 v3 : Value) (w : World) (a0 : Arg Tryd.prog w 22 v0) (a1 : Arg Tryd.prog w 3 v1) (a2 : Arg Tryd.prog w 3 v2) (a3 : Arg Tryd.prog w 5 v3) (hs : Sums w) (hp : Pow10 w) :
    Calls Tryd.prog 6 #[v0, v1, v2, v3] w fun e w' => e = .returned (.bool true) ∧ Below w.heap.size w w' := by
  obtain ⟨i0, hi, hz0, hz1, hz2⟩ := info_parts Tryd.info_u8
  obtain ⟨l, ⟨hl, hcap⟩, hbd, _⟩ := arg_cpsC a0
  obtain ⟨which, rfl, hw0, hw1⟩ := a1.i64 Tryd.underlying3
  obtain ⟨A0, rfl, hA0, hA1⟩ := a2.i64 Tryd.underlying3
  obtain ⟨Y, rfl, hY⟩ := a3.u8 Tryd.underlying5
  clear a0 a1 a2 a3
  have HLV := Lib.hid (lives_any w hs hp)
  have HS := Lib.hid hs
  obtain ⟨n, hn⟩ : ∃ n, l.length = n := ⟨_, rfl⟩
  rw [hn] at hbd
  have hv : ∃ a c, v0 = .slice a n c := by
    obtain ⟨_, ao, cap, rfl, _⟩ := hl
    exact ⟨ao, cap, by rw [hn]⟩
  obtain ⟨a, c, rfl⟩ := hv
  have hc := hcap a n c rfl
  have HC := Lib.hid hl
  have HN := Lib.hid hn
  clear hs hp hl hn hcap
  by_cases hbig : n ≤ 64
  rotate_left
  · have t1 : decide (n ≤ 64) = false := by simpa using hbig
    go_enter Tryd.func6, Tryd.ntmps6
    go_wp2_with fail
    refine HLV.out.mono ?_
    rintro e w1 ⟨rfl, hB1⟩
    have HB1 := Lib.hid hB1
    clear hB1 HLV
    go_wp2_with fail
    refine (few_any a n c w1).mono ?_
    rintro e w' ⟨rfl, rfl⟩
    go_wp2
    go_ret
    exact ⟨rfl, HB1.out⟩
  have t1 : decide (n ≤ 64) = true := by simpa using hbig
  by_cases hy : Y = 0
  · subst hy
    have t2 : (((0 : Nat) : Int) == 0) = true := rfl
    go_enter Tryd.func6, Tryd.ntmps6
    go_wp2_with fail
    refine HLV.out.mono ?_
    rintro e w1 ⟨rfl, hB1⟩
    have HB1 := Lib.hid hB1
    clear hB1 HLV
    go_wp2_with fail
    refine (few_any a n c w1).mono ?_
    rintro e w' ⟨rfl, rfl⟩
    go_wp2
    go_ret
    exact ⟨rfl, HB1.out⟩
  have t2 : ((Y : Int) == 0) = false := by simp; omega
  by_cases hwn : which < 0
  · have t3 : decide (which < 0) = true := by simpa using hwn
    go_enter Tryd.func6, Tryd.ntmps6
    go_wp2_with fail
    refine HLV.out.mono ?_
    rintro e w1 ⟨rfl, hB1⟩
    have HB1 := Lib.hid hB1
    clear hB1 HLV
    go_wp2_with fail
    refine (few_any a n c w1).mono ?_
    rintro e w' ⟨rfl, rfl⟩
    go_wp2
    go_ret
    exact ⟨rfl, HB1.out⟩
  have t3 : decide (which < 0) = false := by simpa using hwn
  by_cases hwb : (n : Int) ≤ which
  · have t4 : decide ((n : Int) ≤ which) = true := by simpa using hwb
    go_enter Tryd.func6, Tryd.ntmps6
    go_wp2_with fail
    refine HLV.out.mono ?_
    rintro e w1 ⟨rfl, hB1⟩
    have HB1 := Lib.hid hB1
    clear hB1 HLV
    go_wp2_with fail
    refine (few_any a n c w1).mono ?_
    rintro e w' ⟨rfl, rfl⟩
    go_wp2
    go_ret
    exact ⟨rfl, HB1.out⟩
  have t4 : decide ((n : Int) ≤ which) = false := by simpa using hwb
  obtain ⟨W, rfl⟩ := Int.eq_ofNat_of_zero_le (show 0 ≤ which by omega)
  have hWn : W < n := by omega
  go_enter Tryd.func6, Tryd.ntmps6
  go_wp2_with fail
  refine HLV.out.mono ?_
  rintro e w1 ⟨rfl, hB1⟩
  have HB1 := Lib.hid hB1
  clear hB1 HLV
  go_wp2_with fail
  refine (few_any a n c w1).mono ?_
  rintro e w' ⟨rfl, rfl⟩
  have HCP := Lib.hid (copy_any (.slice a n c) l w1 (HC.out.below HB1.out) (by rw [HN.out]; omega))
  go_wp2_with fail
  refine HCP.out.mono ?_
  rintro e w2 ⟨v2, vs2, rfl, hinv, hB2⟩
  have HB2 := Lib.hid (HB1.out.trans (hB2.mono HB1.out.size))
  have HWR := Lib.hid (write_any v2 l w2 (HS.out.keep HB2.out) hinv.cps (by rw [HN.out]; omega))
  clear hinv hB2 HCP HB1
  go_wp2_with fail
  refine HWR.out.mono ?_
  rintro e w3 ⟨v3, rfl, hB3, hok3, _⟩
  have HB3 := Lib.hid (HB2.out.trans (hB3.mono HB2.out.size))
  obtain ⟨E, hE⟩ : ∃ E, cpW l l.length = E := ⟨_, rfl⟩
  rw [hE] at hok3 ⊢
  have HOK := Lib.hid hok3
  have HE := Lib.hid hE
  clear hok3 hE hB3 HB2 HWR
  by_cases hE0 : E = 0
  rotate_left
  · have t5 : (E != 0) = true := by simpa using hE0
    go_wp2
    go_ret
    exact ⟨rfl, HB3.out⟩
  subst hE0
  have t5 : ((0 : Int) != 0) = false := rfl
  have hbc := HOK.out rfl
  have HBC := Lib.hid hbc
  clear hbc HOK
  have hWl : W < l.length := by rw [HN.out]; exact hWn
  go_wp2_with fail
  go_loopw [11, 12] (fun f i wr => ∃ k F : Nat, i = .int .i64 k ∧ k ≤ W ∧ f = .int .i64 (F : Int) ∧ Hid (4 + pos l k = F) ∧ Hid (wr = w3)) (fun _ i _ => W - (intOf i).toNat)
  case atStart => exact ⟨0, 4, rfl, Nat.zero_le _, rfl, Lib.hid (by rw [pos_zero]), Lib.hid rfl⟩
  case round =>
    obtain ⟨k, F, rfl, hk, rfl, hF, hwr⟩ := hrel
    obtain rfl := hwr.out
    by_cases hlt : k < W
    · have g1 : decide (k < W) = true := by simpa using hlt
      have g1' : decide ((k : Int) < (W : Int)) = true := by simp; omega
      have hkl : k < l.length := by omega
      obtain ⟨b, off, rfl, hb, hx⟩ := (HC.out.below HB3.out).2.elim fun ao h => h.elim fun cap h => by
        have e := h.1
        rw [HN.out] at e
        cases e
        exact h.2 (by omega)
      obtain ⟨ra, rc, d0, d1, d2, d3, d4, hby⟩ := hx k hkl
      have hps := pos_succ l k hkl
      have hpb := pos_bd l (k + 1) HE.out (by omega)
      obtain ⟨L, hL⟩ : ∃ L, l[k].bs.length = L := ⟨_, rfl⟩
      rw [hL] at d4 hps
      have hFF := hF.out
      have hi1 : (k : Int) < (n : Int) := by omega
      have w1 : IntKind.i64.wrap ((F : Int) + 16) = (F : Int) + 16 := IntWalk.i64_in _ (by omega)
      have w2 : IntKind.i64.wrap ((F : Int) + 16 + (L : Int)) = (F : Int) + 16 + (L : Int) := IntWalk.i64_in _ (by omega)
      have w3 : IntKind.i64.wrap ((k : Int) + 1) = (k : Int) + 1 := IntWalk.i64_in _ (by omega)
      have HPS := Lib.hid (show 4 + pos l (k + 1) = F + 16 + L by omega)
      clear hx hby hL hps hpb hFF d0 d1 d2 d3
      go_wp2
      go_roundw
      case rel => exact ⟨k + 1, F + 16 + L, by go_num, by omega, by go_num, HPS, Lib.hid (by simp)⟩
      case measure => simp [intOf]; omega
    · obtain rfl : k = W := by omega
      have g1 : decide (k < k) = false := by simp
      have hkl : k < l.length := hWl
      obtain ⟨b, off, rfl, hb, hx⟩ := (HC.out.below HB3.out).2.elim fun ao h => h.elim fun cap h => by
        have e := h.1
        rw [HN.out] at e
        cases e
        exact h.2 (by omega)
      obtain ⟨ra, rc, _, _, _, _, d4, _⟩ := hx k hkl
      have hps := pos_succ l k hkl
      have hpl := pos_le l (k + 1)
      have hpb := pos_bd l l.length HE.out (Nat.le_refl _)
      have hall := wrB_all l
      have hflip := fun at_ => rdA_flip l k at_ Y HE.out HC.out.lt hkl
      obtain ⟨L, hL⟩ : ∃ L, l[k].bs.length = L := ⟨_, rfl⟩
      rw [hL] at d4 hps hflip
      replace hF := hF.out
      obtain ⟨N, hNN⟩ : ∃ N, (wrB l l.length).length = N := ⟨_, rfl⟩
      rw [hF] at hflip
      rw [hNN] at hall
      have hbd2 : F + (16 + L) ≤ N := by omega
      have hN2 : N ≤ 100000 := by rw [HN.out] at hpb hall; rw [HN.out] at hpl; omega
      have hi1 : (k : Int) < (n : Int) := by omega
      have w16 : IntKind.i64.wrap (16 + (L : Int)) = 16 + (L : Int) := IntWalk.i64_in _ (by omega)
      have HFL := Lib.hid hflip
      have HNN := Lib.hid hNN
      clear hx hL hps hpl hpb hall hflip hF hNN
      by_cases hA : A0 < 0
      · have u1 : decide (A0 < 0) = true := by simpa using hA
        go_wp2
        go_ret
        exact ⟨rfl, HB3.out⟩
      have u1 : decide (A0 < 0) = false := by simpa using hA
      by_cases hAL : 16 + (L : Int) ≤ A0
      · have u2 : decide (16 + (L : Int) ≤ A0) = true := by simpa using hAL
        go_wp2
        go_ret
        exact ⟨rfl, HB3.out⟩
      have u2 : decide (16 + (L : Int) ≤ A0) = false := by simpa using hAL
      by_cases h11 : A0 = 11
      · have u3 : (A0 == 11) = true := by simpa using h11
        go_wp2
        go_ret
        exact ⟨rfl, HB3.out⟩
      have u3 : (A0 == 11) = false := by simpa using h11
      by_cases h12 : A0 = 12
      · have u4 : (A0 == 12) = true := by simpa using h12
        go_wp2
        go_ret
        exact ⟨rfl, HB3.out⟩
      have u4 : (A0 == 12) = false := by simpa using h12
      obtain ⟨A, rfl⟩ := Int.eq_ofNat_of_zero_le (show 0 ≤ A0 by omega)
      have hrd := HFL.out A (by omega) (by omega) (by omega) hy hY
      obtain ⟨J, hJ⟩ : ∃ J, F + A = J := ⟨_, rfl⟩
      rw [hJ] at hrd
      have hJN : J < N := by omega
      have wJ : IntKind.i64.wrap ((F : Int) + (A : Int)) = (J : Int) := by rw [IntWalk.i64_in _ (by omega)]; omega
      have hbc := HBC.out
      obtain ⟨hb3, a3, c3, hv3, hc3⟩ := hbc
      rw [HNN.out] at hv3 hc3
      subst hv3
      have hown4 := made0 wr
      have ha4 : Below wr.heap.size wr (wr.alloc (.cells #[] 5)) := (Below.refl _ _).alloc (Nat.le_refl _) _
      have hsr4 := (hb3.below ha4).1
      rw [HNN.out] at hsr4
      have hB4 := HB3.out.trans (ha4.mono HB3.out.size)
      have HB4 := Lib.hid hB4
      have hlt3 := hb3.2.2
      have HL3 := Lib.hid hlt3
      have HRD := Lib.hid hrd
      clear hB4 hb3 hlt3 hrd HFL HBC
      go_wp2_with (at_builtin; refine wpList_append_all rfl _ _ 25 rfl wr.heap.size 5 i0 (.int .u8 0) 1 1 Tryd.underlying25 hi hz0 hz1 hz2 rfl (by decide) _ 0 _ rfl hown4 _ N (bcells (wrB l l.length)) rfl hsr4 (by unfold maxLen; omega) (by omega) ha4.size ?_)
      intro v5 w5 hown5 hg5 _
      have hB5 := HB4.out.grown hg5 HB4.out.size (fun q hq => by simp [Value.ownBlock] at hq; subst hq; exact HB3.out.size)
      obtain ⟨N1, rfl⟩ : ∃ m, N = m + 1 := ⟨N - 1, by omega⟩
      obtain ⟨g, cg, rfl⟩ := ownsRow_succ hown5
      obtain ⟨B, hB⟩ : ∃ B, wrB l l.length = B := ⟨_, rfl⟩
      rw [hB] at hown5
      have hBr := HRD.out
      have hBlt := HL3.out
      have hBn := HNN.out
      rw [hB] at hBr hBlt hBn
      have hcellJ : w5.cell? ⟨g, J, none⟩ = some (.int .u8 (B.getD J 0 : Nat)) := by
        have := hown5.cellAt J (by omega)
        rw [this, List.getD_eq_getElem?_getD]
        simp [bcells, List.getElem?_eq_getElem (show J < B.length by omega)]
      have hbX : B.getD J 0 < 256 := by
        rw [List.getD_eq_getElem?_getD, List.getElem?_eq_getElem (show J < B.length by omega), Option.getD_some]
        exact hBlt _ (List.getElem_mem _)
      have hst := World.ownsRow.stored hown5 J (.int .u8 ((B.getD J 0 ^^^ Y : Nat) : Int))
      have hfz : w5.frozen? ⟨g, J, none⟩ = false := by
        rcases hown5.2 with ⟨h', _⟩ | ⟨g', cap', cur, h', _, hh, _⟩
        · cases h'
        · cases h'
          exact frozen_of_row _ _ J _ _ hh
      have hxr := xor8 (x := ((B.getD J 0 : Nat) : Int)) (y := (Y : Int)) rfl rfl hbX hY
      obtain ⟨X, hX⟩ : ∃ X, B.getD J 0 = X := ⟨_, rfl⟩
      rw [hX] at hcellJ hst hxr hBr hbX
      obtain ⟨Z, hZ⟩ : ∃ Z, X ^^^ Y = Z := ⟨_, rfl⟩
      have hZ256 : Z < 256 := by rw [← hZ]; exact Nat.xor_lt_two_pow (n := 8) hbX hY
      rw [hZ] at hst hxr hBr
      have j0 : (0 : Int) ≤ (J : Int) := by omega
      have j1 : (J : Int) < ((N1 + 1 : Nat) : Int) := by omega
      have HST := Lib.hid hst
      have HBR := Lib.hid hBr
      have HBLT := Lib.hid hBlt
      have HBN := Lib.hid hBn
      have HB5 := Lib.hid hB5
      have HGL := Lib.hid (hown5.lt g rfl)
      clear hown4 ha4 hsr4 HB4 hown5 hg5 hB5 hst hBr hBlt hBn hB hX hZ HRD HL3 HNN
      go_wp2_with fail
      generalize hV : World.setCell w5 _ _ = V at HST ⊢
      obtain ⟨hownV, hgV⟩ := HST.out
      have hset : (bcells B).set J (.int .u8 (Z : Int)) = bcells (B.set J Z) := by simp [bcells, List.map_set]
      rw [hset] at hownV
      have hltZ : ∀ x ∈ B.set J Z, x < 256 := fun x hx => by
        rcases List.mem_or_eq_of_mem_set hx with h | h
        · exact HBLT.out x h
        · rw [h]; exact hZ256
      have hlenZ : (B.set J Z).length = N1 + 1 := by rw [List.length_set, HBN.out]
      have hcg : N1 + 1 ≤ cg := by
        rcases hownV.2 with ⟨h', _⟩ | ⟨g', cap', cur, h', _, _, hnc, _⟩
        · cases h'
        · cases h'; exact hnc
      have hbV := bytesAt_of_own hownV hlenZ hltZ (by omega)
      have hgl := HGL.out.1
      have hBV := HB5.out.grown hgV HB5.out.size (fun q hq => by cases hq; exact Nat.le_trans HB3.out.size hgl)
      have hrd := read_any (some ⟨g, 0, none⟩) (N1 + 1) cg (B.set J Z) V (HS.out.keep hBV) hbV hlenZ hcg (by omega)
      rw [HBR.out] at hrd
      have HRD := Lib.hid hrd
      have HBV := Lib.hid hBV
      clear hV HST hownV hgV hset hltZ hlenZ hbV hBV hrd HBR HBLT HBN HB5 HGL hcellJ hfz hxr
      refine HRD.out.mono ?_
      rintro e w6 ⟨v6, rfl, hcp6, hB6⟩
      have HB6 := Lib.hid (HBV.out.trans (hB6.mono HBV.out.size))
      obtain ⟨a7, c7, hcp7, hrun7⟩ := cps_to w6 (some ⟨b, off, none⟩) n c k l (HC.out.below HB6.out) HN.out hc (by omega)
      have HSM := Lib.hid (same_any v6 (.slice a7 k c7) _ _ w6 hcp6.1 hcp7)
      have f10 : ((10 : Int) != 0) = true := rfl
      have ff : ((F : Int) == (F : Int)) = true := by simp
      clear hcp6 hcp7 hB6 HRD HBV
      go_wp2_with fail
      refine HSM.out.mono ?_
      rintro e w8 ⟨D, rfl, hD, hB8⟩
      obtain rfl : D = true := by first | exact hD.2 rfl | exact hD.2 trivial
      have HB8 := Lib.hid (HB6.out.trans (hB8.mono HB6.out.size))
      clear hB8 HB6 HSM hD
      go_wp2
      go_ret
      exact ⟨rfl, HB8.out⟩
end Go.Proofs.YtccknpdnapoboaaDoor
namespace Go.Proofs.YtccknpdnapoboaaDoor
open Go.RowKit

/-- a row of records of the call's own; their bytes may lie anywhere -/
structure CpJ (base e : Nat) (w : World) (out : Value) (ts : List Cp) (vs : List Value) : Prop where
  len : ts.length = vs.length
  own : w.ownsRow base e 5 out ts.length (cpcells ts vs)
  rd : ∀ j (h : j < ts.length) (h' : j < vs.length), BytesAt w vs[j] ts[j].bs ∧ (ts[j].bs = [] ∨ ∃ b, vs[j].ownBlock = some b ∧ b < w.heap.size ∧ out.ownBlock ≠ some b)
theorem CpJ.nil (base e : Nat) (w : World) : CpJ base e w (.slice none 0 0) [] [] := ⟨rfl, ⟨rfl, .inl ⟨rfl, rfl⟩⟩, fun j h => absurd h (by simp)⟩
theorem CpJ.below {base e : Nat} {w w' : World} {out : Value} {ts : List Cp} {vs : List Value} (h : CpJ base e w out ts vs) (hb : Below w.heap.size w w') : CpJ base e w' out ts vs :=
  ⟨h.len, own_below h.own hb, fun j h1 h2 => ⟨(h.rd j h1 h2).1.below hb, (h.rd j h1 h2).2.imp id (fun ⟨b, e1, e2, e3⟩ => ⟨b, e1, Nat.lt_of_lt_of_le e2 hb.size, e3⟩)⟩⟩
theorem CpJ.push {base e : Nat} {W w' : World} {out out' : Value} {ts : List Cp} {vs : List Value} (h : CpJ base e W out ts vs) {t : Cp} {v : Value} (hv : BytesAt W v t.bs)
    (hb : t.bs = [] ∨ ∃ b, v.ownBlock = some b ∧ b < W.heap.size ∧ out.ownBlock ≠ some b)
    (hown : w'.ownsRow base e 5 out' (ts.length + 1) (cpcells ts vs ++ [.int .i64 t.t, .int .i64 t.c, .int .i64 t.f, .int .i64 t.k, v])) (hg : W.grownBy w' out.ownBlock)
    (ho' : out'.ownBlock = out.ownBlock ∨ out'.ownBlock = some W.heap.size) : CpJ base e w' out' (ts ++ [t]) (vs ++ [v]) := by
  have key : ∀ (x : Value) (bs : List Nat), BytesAt W x bs → (bs = [] ∨ ∃ b, x.ownBlock = some b ∧ b < W.heap.size ∧ out.ownBlock ≠ some b) →
      BytesAt w' x bs ∧ (bs = [] ∨ ∃ b, x.ownBlock = some b ∧ b < w'.heap.size ∧ out'.ownBlock ≠ some b) := fun x bs hx hor => by
    refine ⟨⟨hx.1.grown hg ?_, hx.2⟩, ?_⟩
    · rcases hor with h | ⟨b, e1, _, e3⟩
      · exact .inl (by rw [h]; rfl)
      · exact .inr ⟨b, e1, e3⟩
    · rcases hor with h | ⟨b, e1, e2, e3⟩
      · exact .inl h
      · refine .inr ⟨b, e1, Nat.lt_of_lt_of_le e2 hg.size, ?_⟩
        rcases ho' with h | h
        · rw [h]; exact e3
        · rw [h]; intro e; cases e; omega
  refine ⟨by simp [h.len], by rw [cpcells_snoc _ _ _ _ h.len]; simpa using hown, fun j h1 h2 => ?_⟩
  have hl := h.len
  by_cases hj : j < ts.length
  · obtain ⟨q1, q3⟩ := h.rd j hj (by omega)
    simp only [List.getElem_append_left hj, List.getElem_append_left (show j < vs.length by omega)]
    obtain ⟨k1, k2⟩ := key _ _ q1 q3
    exact ⟨k1, k2⟩
  · simp at h1
    have e1 : j = ts.length := by omega
    subst e1
    have e2 : (vs ++ [v])[ts.length] = v := by simp [hl]
    have e3 : (ts ++ [t])[ts.length] = t := by simp
    rw [e2, e3]
    obtain ⟨k1, k2⟩ := key _ _ hv hb
    exact ⟨k1, k2⟩
theorem CpJ.cps {base e : Nat} {w : World} {out : Value} {ts : List Cp} {vs : List Value} (h : CpJ base e w out ts vs) : Cps w out ts := by
  have one : ∀ (l : List Cp) (us : List Value), l.length = us.length → (∀ j (h : j < us.length), us[j].oneCell' = true) → ∀ u ∈ cpcells l us, u.oneCell' = true := by
    intro l
    induction l with
    | nil => intro us _ _ u hu; cases us <;> simp [cpcells] at hu
    | cons t l ih =>
      intro us hl hj u hu
      match us, hl, hj with
      | v :: us, hl, hj =>
        simp only [cpcells, List.mem_cons] at hu
        rcases hu with rfl | rfl | rfl | rfl | rfl | hu
        · rfl
        · rfl
        · rfl
        · rfl
        · exact hj 0 (by simp)
        · exact ih us (by simpa using hl) (fun j h => hj (j + 1) (by simpa using h)) u hu
  have hl := h.len
  have hsr := SR.of_own h.own (one ts vs h.len (fun j hj => by
    obtain ⟨ao, cap, e⟩ := (h.rd j (by omega) hj).1.1.val
    rw [e]; rfl)) (cap_of h.own)
  obtain ⟨h1, _, _, ao, cap, rfl, _, hc⟩ := hsr
  refine ⟨h1, ao, cap, rfl, fun h0 => ?_⟩
  obtain ⟨b, off, rfl, hb, hcell⟩ := hc h0
  refine ⟨b, off, rfl, hb, fun k hk => ?_⟩
  obtain ⟨g0, g1, g2, g3, g4⟩ := cpcells_get ts vs k hk (by omega)
  have hby := (h.rd k hk (by omega)).1
  obtain ⟨a, c, e⟩ := hby.1.val
  rw [e] at hby g4
  exact ⟨a, c, hcell _ _ g0, hcell _ _ g1, hcell _ _ g2, hcell _ _ g3, hcell _ _ g4, hby⟩


def fitB (x y : Int) : Bool := decide (x = -1) || decide (x = y)
theorem fits_any (x y : Int) (w : World) : Calls Tryd.prog 38 #[.int .i64 x, .int .i64 y] w fun e w' => e = .returned (.bool (fitB x y)) ∧ w = w' := by
  unfold fitB
  by_cases h1 : x = -1
  · have t1 : (x == -1) = true := by simpa using h1
    rw [decide_eq_true h1, Bool.true_or]
    clear h1
    go_enter Tryd.func38, Tryd.ntmps38
    go_wp2
    go_ret
    exact ⟨rfl, rfl⟩
  · have t1 : (x == -1) = false := by simpa using h1
    rw [decide_eq_false h1, Bool.false_or]
    obtain ⟨B, hB⟩ : ∃ B, decide (x = y) = B := ⟨_, rfl⟩
    have t2 : (x == y) = B := by rw [← hB]; rfl
    rw [hB]
    clear h1 hB
    go_enter Tryd.func38, Tryd.ntmps38
    go_wp2
    go_ret
    exact ⟨rfl, rfl⟩
set_option linter.unusedSimpArgs false in
set_option maxRecDepth 100000 in
set_option maxHeartbeats 2000000 in
theorem copied_any (T C F KD : Int) (a : Option Addr) (L c : Nat) (bs : List Nat) (hL : bs.length = L) (w : World) (h : BytesAt w (.slice a L c) bs) :
    Calls Tryd.prog 39 #[.agg #[.int .i64 T, .int .i64 C, .int .i64 F, .int .i64 KD, .slice a L c]] w fun e w' => ∃ xa xc, e = .returned (.agg #[.int .i64 T, .int .i64 C, .int .i64 F, .int .i64 KD, .slice xa L xc]) ∧ BytesAt w' (.slice xa L xc) bs ∧ Own w.heap.size (.slice xa L xc) ∧ Below w.heap.size w w' := by
  have hm : bs.length ≤ 140737488351232 := by have := h.2.1; unfold reachBytes at this; omega
  have hn1 := heap_alloc_new w (.cells #[.int .i64 T, .int .i64 C, .int .i64 F, .int .i64 KD, .slice a L c] 35)
  have ha1 : Below w.heap.size w (w.alloc (.cells #[.int .i64 T, .int .i64 C, .int .i64 F, .int .i64 KD, .slice a L c] 35)) := (Below.refl _ _).alloc (Nat.le_refl _) _
  obtain ⟨V, hV⟩ : ∃ V, w.alloc (.cells #[.int .i64 T, .int .i64 C, .int .i64 F, .int .i64 KD, .slice a L c] 35) = V := ⟨_, rfl⟩
  have hVs : V.heap.size = w.heap.size + 1 := by rw [← hV]; simp
  rw [hV] at hn1 ha1
  have hn2 := heap_alloc_new V (.cells #[.int .i64 0, .int .i64 0, .int .i64 0, .int .i64 0, .slice none 0 0] 35)
  have ha2 : Below V.heap.size V (V.alloc (.cells #[.int .i64 0, .int .i64 0, .int .i64 0, .int .i64 0, .slice none 0 0] 35)) := (Below.refl _ _).alloc (Nat.le_refl _) _
  obtain ⟨U, hU⟩ : ∃ U, V.alloc (.cells #[.int .i64 0, .int .i64 0, .int .i64 0, .int .i64 0, .slice none 0 0] 35) = U := ⟨_, rfl⟩
  have hUs : U.heap.size = w.heap.size + 2 := by rw [← hU]; simp [hVs]
  rw [hU] at hn2 ha2
  rw [hVs] at hn2
  have h1 := (ha2.block _ (by omega : w.heap.size < V.heap.size)).trans hn1
  have hbU := (h.below ha1).below ha2
  have hB2 := ha1.trans (ha2.mono (by omega))
  have hj := join1_any (.slice a L c) bs 25 U hbU (by omega)
  rw [hUs] at hj
  have g0 := cell_of_row _ _ 0 _ _ _ h1
  have g1 := cell_of_row _ _ 1 _ _ _ h1
  have g2 := cell_of_row _ _ 2 _ _ _ h1
  have g3 := cell_of_row _ _ 3 _ _ _ h1
  have g4 := cell_of_row _ _ 4 _ _ _ h1
  simp at g0 g1 g2 g3 g4
  have HJ := Lib.hid hj
  have HH1 := Lib.hid h1
  have HH2 := Lib.hid hn2
  have HB2 := Lib.hid hB2
  have HLT := Lib.hid hbU.2
  clear hj h1 hn1 ha1 hn2 ha2 hbU hB2 h
  go_enter Tryd.func39, Tryd.ntmps39
  go_upto_region 1 with fail
  try rw [hV]
  try rw [hU]
  clear hV hU
  go_wp2_with fail
  refine HJ.out.mono ?_
  rintro e w3 ⟨v3, rfl, hown3, hB3⟩
  have hUA : Below U.heap.size U w3 := ((Below.refl U.heap.size U).alloc (Nat.le_refl _) (.cells #[.slice a L c] 25)).trans (hB3.mono (by omega))
  have h1 := (hUA.block _ (by omega : w.heap.size < U.heap.size)).trans HH1.out
  have h2 := (hUA.block _ (by omega : w.heap.size + 1 < U.heap.size)).trans HH2.out
  have hb3 := bytesAt_of_own hown3 rfl HLT.out.2 (by omega)
  obtain ⟨xa, xc, rfl⟩ := hb3.1.val
  rw [hL] at hb3 hown3 ⊢
  have hol := hown3.lt
  have hsz3 := hUA.size
  have HB3 := Lib.hid (HB2.out.trans (hUA.mono HB2.out.size))
  clear g0 g1 g2 g3 g4 HJ HH1 HH2 HB2 hUA hB3 hown3
  have g0 := cell_of_row _ _ 0 _ _ _ h1
  have g1 := cell_of_row _ _ 1 _ _ _ h1
  have g2 := cell_of_row _ _ 2 _ _ _ h1
  have g3 := cell_of_row _ _ 3 _ _ _ h1
  have g4 := cell_of_row _ _ 4 _ _ _ h1
  simp at g0 g1 g2 g3 g4
  have z4 := frozen_of_row _ _ 4 _ _ h1
  go_upto_region 2 with fail
  generalize hX : World.setCell w3 _ _ = X
  have h1X := heap_setCell_same w3 w.heap.size 4 _ _ (.slice xa L xc) h1
  simp only [List.setIfInBounds_toArray, List.set_cons_zero, List.set_cons_succ] at h1X
  rw [hX] at h1X
  have hgX := set1 w3 ⟨w.heap.size, 4, none⟩ (.slice xa L xc)
  rw [hX] at hgX
  have h2X := (hgX.block (w.heap.size + 1) (by omega) (by simp)).trans h2
  have hbX := hb3.grownE hgX (.inr fun k hk e => by
    have := (hol k hk).1
    simp at e
    omega)
  have hBX := HB3.out.grown hgX (by omega) (fun q hq => by simp at hq; omega)
  have HBX := Lib.hid hBX
  have hszX := hgX.size
  clear hX h1 h2 hb3 hgX hBX g0 g1 g2 g3 g4 z4 HB3
  have g0 := cell_of_row _ _ 0 _ _ _ h1X
  have g1 := cell_of_row _ _ 1 _ _ _ h1X
  have g2 := cell_of_row _ _ 2 _ _ _ h1X
  have g3 := cell_of_row _ _ 3 _ _ _ h1X
  have g4 := cell_of_row _ _ 4 _ _ _ h1X
  simp at g0 g1 g2 g3 g4
  have HHX := Lib.hid h2X
  have k0 := cell_of_row _ _ 0 _ _ _ h2X
  have k1 := cell_of_row _ _ 1 _ _ _ h2X
  have k2 := cell_of_row _ _ 2 _ _ _ h2X
  have k3 := cell_of_row _ _ 3 _ _ _ h2X
  have k4 := cell_of_row _ _ 4 _ _ _ h2X
  simp at k0 k1 k2 k3 k4
  have z0 := frozen_of_row _ _ 0 _ _ h2X
  have z1 := frozen_of_row _ _ 1 _ _ h2X
  have z2 := frozen_of_row _ _ 2 _ _ h2X
  have z3 := frozen_of_row _ _ 3 _ _ h2X
  have z4 := frozen_of_row _ _ 4 _ _ h2X
  clear h1X h2X
  go_wp2_with fail
  generalize hY : World.setCell _ _ _ = Y
  obtain ⟨hY5, hgY⟩ := set5 HHX.out hY
  clear hY g0 g1 g2 g3 g4 k0 k1 k2 k3 k4 z0 z1 z2 z3 z4
  have hbY := hbX.grownE hgY (.inr fun k hk e => by
    have := (hol k hk).1
    omega)
  have hBY := HBX.out.grown hgY (by omega) (fun q hq => by cases hq; omega)
  have r0 := cell_of_row _ _ 0 _ _ _ hY5
  have r1 := cell_of_row _ _ 1 _ _ _ hY5
  have r2 := cell_of_row _ _ 2 _ _ _ hY5
  have r3 := cell_of_row _ _ 3 _ _ _ hY5
  have r4 := cell_of_row _ _ 4 _ _ _ hY5
  simp at r0 r1 r2 r3 r4
  refine bodyPost_ret (v := .agg #[.int .i64 T, .int .i64 C, .int .i64 F, .int .i64 KD, .slice xa L xc]) (by simp [results, Tryd.results39, go_sem, r0, r1, r2, r3, r4]) rfl ?_
  exact ⟨xa, xc, rfl, hbY, fun k hk => by have := (hol k hk).1; omega, hBY⟩
end Go.Proofs.YtccknpdnapoboaaDoor
namespace Go.Proofs.YtccknpdnapoboaaDoor
open Go.RowKit

/-- times do not decrease -/
structure OrdP (l : List Cp) : Prop where
  out : ∀ j, j + 1 < l.length → ¬ (l.getD (j + 1) default).t < (l.getD j default).t
structure OrdK (l : List Cp) (n k : Nat) : Prop where
  out : ∀ j, j + 1 < n → j + 1 < k → ¬ (l.getD (j + 1) default).t < (l.getD j default).t
set_option linter.unusedSimpArgs false in
set_option linter.unusedVariables false in
set_option maxRecDepth 100000 in
set_option maxHeartbeats 4000000 in
theorem ordered_any (v : Value) (l : List Cp) (w : World) (h : Cps w v l) :
    Calls Tryd.prog 21 #[v] w fun e w' => ∃ D : Bool, e = .returned (.bool D) ∧ (D = true ↔ OrdP l) ∧ Below w.heap.size w w' := by
  obtain ⟨hm, ao, cap, rfl, hcell⟩ := h
  obtain ⟨n, hn⟩ : ∃ n, l.length = n := ⟨_, rfl⟩
  rw [hn] at hm ⊢
  have HN := Lib.hid hn
  have HC := Lib.hid hcell
  unfold maxLen at hm
  clear hn hcell
  go_enter Tryd.func21, Tryd.ntmps21
  go_wp2_with fail
  go_loopw [3] (fun i wr => ∃ k : Nat, i = .int .i64 k ∧ 1 ≤ k ∧ k ≤ n + 1 ∧ OrdK l n k ∧ Below w.heap.size w wr) (fun i _ => (n + 1) - (intOf i).toNat)
  case atStart => exact ⟨1, rfl, Nat.le_refl _, by omega, ⟨fun j _ h => absurd h (by omega)⟩, Below.refl _ _⟩
  case round =>
    obtain ⟨k, rfl, hk1, hk, hall, hB⟩ := hrel
    by_cases hlt : k < n
    · have g1 : decide (k < n) = true := by simpa using hlt
      have g1' : decide ((k : Int) < (n : Int)) = true := by simp; omega
      obtain ⟨b, off, rfl, hb, hx⟩ := HC.out (by rw [HN.out]; omega)
      obtain ⟨_, _, dx, _⟩ := (hx k (by rw [HN.out]; omega)).below hB
      obtain ⟨_, _, dy, _⟩ := (hx (k - 1) (by rw [HN.out]; omega)).below hB
      have ex : ∀ j (hj : j < l.length), l[j] = l.getD j default := fun j hj => by rw [List.getD_eq_getElem?_getD, List.getElem?_eq_getElem hj, Option.getD_some]
      rw [ex] at dx dy
      obtain ⟨X, hX⟩ : ∃ X, (l.getD k default).t = X := ⟨_, rfl⟩
      obtain ⟨Y, hY⟩ : ∃ Y, (l.getD (k - 1) default).t = Y := ⟨_, rfl⟩
      rw [hX] at dx
      rw [hY] at dy
      have hbr : b < wr.heap.size := Nat.lt_of_lt_of_le hb hB.size
      have i0 : (0 : Int) ≤ (k : Int) := by omega
      have i1 : (k : Int) < (n : Int) := by omega
      have w0 : IntKind.i64.wrap ((k : Int) - 1) = ((k - 1 : Nat) : Int) := by rw [IntWalk.i64_in _ (by omega)]; omega
      have w1 : IntKind.i64.wrap ((k : Int) + 1) = (k : Int) + 1 := IntWalk.i64_in _ (by omega)
      obtain ⟨J, hJ⟩ : ∃ J, k - 1 = J := ⟨_, rfl⟩
      rw [hJ] at dy w0
      have j1 : (J : Int) < (n : Int) := by omega
      have hstep : ¬ X < Y → OrdK l n (k + 1) := fun h => ⟨fun j h1 h2 => by
        by_cases h3 : j + 1 < k
        · exact hall.out j h1 h3
        · have e1 : j + 1 = k := by omega
          have e2 : j = k - 1 := by omega
          rw [e1, hX, e2, hY]
          exact h⟩
      have hbad : X < Y → ¬ OrdP l := fun h hall => by
        have := hall.out (k - 1) (by rw [HN.out]; omega)
        rw [show k - 1 + 1 = k by omega, hX, hY] at this
        exact this h
      have HST := Lib.hid hstep
      have HBD := Lib.hid hbad
      clear hX hY hJ ex hx hall hstep hbad
      by_cases hxy : X < Y
      · have g2 : decide (X < Y) = true := by simpa using hxy
        go_wp2_with fail
        go_quiet (fail)
        have hBf := below_drewN hB
        go_wp2
        refine bodyPost_ret (by simp [results, Tryd.results21, go_sem] <;> rfl) rfl ?_
        exact ⟨false, rfl, by simpa using HBD.out hxy, hBf _⟩
      · have g2 : decide (X < Y) = false := by simpa using hxy
        go_wp2_with fail
        go_quiet (fail)
        have hBf := below_drewN hB
        go_wp2
        go_roundw
        case rel => exact ⟨k + 1, by go_num, by omega, by omega, by exact HST.out hxy, hBf _⟩
        case measure => simp [intOf]; omega
    · have g1 : decide (k < n) = false := by simpa using hlt
      have g1' : decide ((k : Int) < (n : Int)) = false := by simp; omega
      have HALL : OrdP l := ⟨fun j h => hall.out j (by rw [HN.out] at h; exact h) (by rw [HN.out] at h; omega)⟩
      clear hall
      go_wp2
      go_ret
      exact ⟨true, rfl, by simpa using HALL, hB⟩
theorem sr_two {w : World} {i : Nat} {t : TypeId} {x y : Nat} (h : w.heap[i]? = some (.cells #[.int .u8 (x : Int), .int .u8 (y : Int)] t (0, 0))) : SR w (.slice (some ⟨i, 0, none⟩) 2 2) 2 1 (bcells [x, y]) :=
  ⟨by unfold maxLen; simp, rfl, bcells_one _, some ⟨i, 0, none⟩, 2, rfl, fun h => (by cases h), fun _ => ⟨i, 0, rfl, (Array.getElem?_eq_some_iff.1 h).1, fun j u hj => by
    rw [Nat.zero_add]
    match j, hj with
    | 0, hj => simp [bcells] at hj; subst hj; exact cell_of_row _ _ 0 _ _ _ h
    | 1, hj => simp [bcells] at hj; subst hj; exact cell_of_row _ _ 1 _ _ _ h⟩⟩
set_option linter.unusedSimpArgs false in
set_option linter.unusedVariables false in
set_option maxRecDepth 100000 in
set_option maxHeartbeats 4000000 in
theorem rhex_any (v : Value) (bs : List Nat) (w : World) (h : BytesAt w v bs) (hm : bs.length ≤ 10000000) :
    Calls Tryd.prog 44 #[v] w fun e w' => e = .returned (.string (strB (hexB bs))) ∧ Below w.heap.size w w' := by
  obtain ⟨i0, hi0, hz0, hz1, hz2⟩ := info_parts Tryd.info_u8
  obtain ⟨⟨_, _, _, ao, cap, rfl, _, hc⟩, _, hlt⟩ := h
  have HC := Lib.hid hc
  have HLT := Lib.hid hlt
  obtain ⟨n, hn⟩ : ∃ n, bs.length = n := ⟨_, rfl⟩
  have HN := Lib.hid hn
  rw [hn] at hm ⊢
  have HO := Lib.hid (World.ownsRow_made (base := w.heap.size) (e := 5) (size := 1) w #[] 0 (Nat.le_refl _) (by unfold maxLen; omega) rfl)
  clear hc hlt hn
  go_enter Tryd.func44, Tryd.ntmps44
  go_wp2_with fail
  go_loopw [3, 4] (fun v i wr => ∃ k : Nat, i = .int .i64 k ∧ k ≤ n ∧ Hid (wr.ownsRow w.heap.size 5 1 v (2 * k) (bcells (hexB (bs.take k)))) ∧ Below w.heap.size w wr) (fun _ i _ => n - (intOf i).toNat)
  case atStart => exact ⟨0, by simp, Nat.zero_le _, Lib.hid (by simpa [hexB, bcells] using HO.out), (Below.refl _ _).alloc (Nat.le_refl _) _⟩
  case round =>
    clear HO
    obtain ⟨k, rfl, hk, hown, hB⟩ := hrel
    by_cases hlt : k < n
    · have g1 : decide (k < n) = true := by simpa using hlt
      have g1' : decide ((k : Int) < (n : Int)) = true := by simp; omega
      have hkl : k < bs.length := by rw [HN.out]; exact hlt
      obtain ⟨b, off, rfl, hb, hcell⟩ := HC.out (by omega)
      have ht := List.take_succ_eq_append_getElem hkl
      have hx2 := HLT.out _ (List.getElem_mem hkl)
      have hcl := kc (hcell k (.int .u8 (bs[k] : Nat)) (by simp [bcells, List.getElem?_eq_getElem hkl])) hB
      obtain ⟨x, hx⟩ : ∃ x, bs[k] = x := ⟨_, rfl⟩
      rw [hx] at ht hx2 hcl
      have HT := Lib.hid ht
      clear ht hx hcell
      have x0 : (0 : Int) ≤ (x : Int) := by omega
      have x1 : (x : Int) < 256 := by omega
      have i1 : (k : Int) < (n : Int) := by omega
      have w1' : IntKind.i64.wrap ((k : Int) + 1) = (k : Int) + 1 := IntWalk.i64_in _ (by omega)
      obtain ⟨A, hA⟩ : ∃ A, x / 16 = A := ⟨_, rfl⟩
      obtain ⟨B, hBm⟩ : ∃ B, x % 16 = B := ⟨_, rfl⟩
      have c1 : IntKind.u8.wrap ((x : Int) / 16) = (A : Int) := by rw [IntWalk.u8_in _ (by omega)]; omega
      have c2 : ((x : Int).tmod 16) = (B : Int) := by rw [Int.tmod_eq_emod_of_nonneg (by omega)]; omega
      have r1 := fun W => run_dig .u8 A (by omega) W
      have r2 := fun W => run_dig .u8 B (by omega) W
      have HAB := Lib.hid (show hexB (bs.take (k + 1)) = hexB (bs.take k) ++ [dig A, dig B] by rw [HT.out, hexB_snoc, hA, hBm])
      clear hA hBm HT
      have hbr : b < wr.heap.size := Nat.lt_of_lt_of_le hb hB.size
      have hclw : w.cell? ⟨b, off + k, none⟩ = some (.int .u8 (x : Int)) := (hB.cell (p := ⟨b, off + k, none⟩) hb).symm.trans hcl
      go_upto_region 5 with fail
      refine wp_region_held_drew (S := (fun W' : World => Below w.heap.size w W' ∧ wr.heap.size ≤ W'.heap.size ∧ W'.cell? ⟨b, off + k, none⟩ = some (.int .u8 (x : Int)) ∧ True)) (by kernel_rfl) (⟨hB.drew, Nat.le_refl _, (kc hcl (Below.refl _ _).drew), trivial⟩) (fun hHeld => ?_)
      refine wpAnyH_take (i := 0) (oi := _) (v := ?_) (by rw [List.getElem?_toArray]; rfl) (by kernel_rfl) (by kernel_rfl) (by kernel_rfl) (by exact fun _ _ _ h => h) (Or.inl ⟨by rfl, ?_⟩) (by assumption) ?_
      rotate_left
      · intro w hSw
        try simp only [Cells, blk, List.cons_append, List.nil_append, and_true, Nat.reduceAdd, Nat.add_zero, Nat.zero_add] at hSw
        go_simp
        try with_reducible rfl
      simp only [Act.put, List.setIfInBounds_toArray, List.set_cons_zero, List.set_cons_succ]
      refine wpAnyH_take (i := 1) (oi := _) (v := ?_) (by rw [List.getElem?_toArray]; rfl) (by kernel_rfl) (by kernel_rfl) (by kernel_rfl) (by exact fun _ _ _ h => h) (Or.inl ⟨by rfl, ?_⟩) (by assumption) ?_
      rotate_left
      · intro w hSw
        try simp only [Cells, blk, List.cons_append, List.nil_append, and_true, Nat.reduceAdd, Nat.add_zero, Nat.zero_add] at hSw
        go_simp
        try with_reducible rfl
      simp only [Act.put, List.setIfInBounds_toArray, List.set_cons_zero, List.set_cons_succ]
      refine wpAnyH_take (i := 2) (oi := _) (v := ?_) (by rw [List.getElem?_toArray]; rfl) (by kernel_rfl) (by kernel_rfl) (by kernel_rfl) (by exact fun _ _ _ h => h) (Or.inl ⟨by rfl, ?_⟩) (by assumption) ?_
      rotate_left
      · intro w hSw
        try simp only [Cells, blk, List.cons_append, List.nil_append, and_true, Nat.reduceAdd, Nat.add_zero, Nat.zero_add] at hSw
        go_simp
        try with_reducible rfl
      simp only [Act.put, List.setIfInBounds_toArray, List.set_cons_zero, List.set_cons_succ]
      refine wpAnyH_take (i := 3) (oi := _) (v := ?_) (by rw [List.getElem?_toArray]; rfl) (by kernel_rfl) (by kernel_rfl) (by kernel_rfl) (by exact fun _ _ _ h => h) (Or.inl ⟨by rfl, ?_⟩) (by assumption) ?_
      rotate_left
      · intro w hSw
        try simp only [Cells, blk, List.cons_append, List.nil_append, and_true, Nat.reduceAdd, Nat.add_zero, Nat.zero_add] at hSw
        go_simp
        try with_reducible rfl
      simp only [Act.put, List.setIfInBounds_toArray, List.set_cons_zero, List.set_cons_succ]
      refine wpAnyH_take (i := 4) (oi := _) (v := ?_) (by rw [List.getElem?_toArray]; rfl) (by kernel_rfl) (by kernel_rfl) (by kernel_rfl) (by exact fun _ _ _ h => h) (Or.inl ⟨by rfl, ?_⟩) (by assumption) ?_
      rotate_left
      · intro w hSw
        try simp only [Cells, blk, List.cons_append, List.nil_append, and_true, Nat.reduceAdd, Nat.add_zero, Nat.zero_add] at hSw
        go_simp
        try with_reducible rfl
      simp only [Act.put, List.setIfInBounds_toArray, List.set_cons_zero, List.set_cons_succ]
      refine wpAnyH_take (i := 5) (oi := _) (v := ?_) (by rw [List.getElem?_toArray]; rfl) (by kernel_rfl) (by kernel_rfl) (by kernel_rfl) (by exact fun _ _ _ h => h) (Or.inl ⟨by rfl, ?_⟩) (by assumption) ?_
      rotate_left
      · intro w hSw
        try simp only [Cells, blk, List.cons_append, List.nil_append, and_true, Nat.reduceAdd, Nat.add_zero, Nat.zero_add] at hSw
        go_simp
        try with_reducible rfl
      simp only [Act.put, List.setIfInBounds_toArray, List.set_cons_zero, List.set_cons_succ]
      refine wpAnyH_take (i := 6) (oi := _) (v := ?_) (by rw [List.getElem?_toArray]; rfl) (by kernel_rfl) (by kernel_rfl) (by kernel_rfl) (by exact fun _ _ _ h => h) (Or.inl ⟨by rfl, ?_⟩) (by assumption) ?_
      rotate_left
      · intro w hSw
        try simp only [Cells, blk, List.cons_append, List.nil_append, and_true, Nat.reduceAdd, Nat.add_zero, Nat.zero_add] at hSw
        go_simp
        try with_reducible rfl
      simp only [Act.put, List.setIfInBounds_toArray, List.set_cons_zero, List.set_cons_succ]
      refine wpAnyH_take (i := 7) (oi := _) (v := ?_) (by rw [List.getElem?_toArray]; rfl) (by kernel_rfl) (by kernel_rfl) (by kernel_rfl) (by exact fun _ _ _ h => h) (Or.inl ⟨by rfl, ?_⟩) (by assumption) ?_
      rotate_left
      · intro w hSw
        try simp only [Cells, blk, List.cons_append, List.nil_append, and_true, Nat.reduceAdd, Nat.add_zero, Nat.zero_add] at hSw
        go_simp
        try with_reducible rfl
      simp only [Act.put, List.setIfInBounds_toArray, List.set_cons_zero, List.set_cons_succ]
      refine wpAnyH_take (i := 8) (oi := _) (v := ?_) (by rw [List.getElem?_toArray]; rfl) (by kernel_rfl) (by kernel_rfl) (by kernel_rfl) (by exact fun _ _ _ h => h) (Or.inl ⟨by rfl, ?_⟩) (by assumption) ?_
      rotate_left
      · intro w hSw
        try simp only [Cells, blk, List.cons_append, List.nil_append, and_true, Nat.reduceAdd, Nat.add_zero, Nat.zero_add] at hSw
        go_simp
        try with_reducible rfl
      simp only [Act.put, List.setIfInBounds_toArray, List.set_cons_zero, List.set_cons_succ]
      refine wpAnyH_take (i := 9) (oi := _) (v := ?_) (by rw [List.getElem?_toArray]; rfl) (by kernel_rfl) (by kernel_rfl) (by kernel_rfl) (by exact fun _ _ _ h => h) (Or.inl ⟨by rfl, ?_⟩) (by assumption) ?_
      rotate_left
      · intro w hSw
        try simp only [Cells, blk, List.cons_append, List.nil_append, and_true, Nat.reduceAdd, Nat.add_zero, Nat.zero_add] at hSw
        go_simp
        try with_reducible rfl
      simp only [Act.put, List.setIfInBounds_toArray, List.set_cons_zero, List.set_cons_succ]
      refine wpAnyH_take (i := 10) (oi := _) (v := ?_) (by rw [List.getElem?_toArray]; rfl) (by kernel_rfl) (by kernel_rfl) (by kernel_rfl) (by exact fun _ _ _ h => h) (Or.inl ⟨by rfl, ?_⟩) (by assumption) ?_
      rotate_left
      · intro w hSw
        try simp only [Cells, blk, List.cons_append, List.nil_append, and_true, Nat.reduceAdd, Nat.add_zero, Nat.zero_add] at hSw
        go_simp
        try with_reducible rfl
      simp only [Act.put, List.setIfInBounds_toArray, List.set_cons_zero, List.set_cons_succ]
      refine wpAnyH_take (i := 11) (oi := _) (v := ?_) (by rw [List.getElem?_toArray]; rfl) (by kernel_rfl) (by kernel_rfl) (by kernel_rfl) (by exact fun _ _ _ h => h) (Or.inl ⟨by rfl, ?_⟩) (by assumption) ?_
      rotate_left
      · intro w hSw
        try simp only [Cells, blk, List.cons_append, List.nil_append, and_true, Nat.reduceAdd, Nat.add_zero, Nat.zero_add] at hSw
        go_simp
        try with_reducible rfl
      simp only [Act.put, List.setIfInBounds_toArray, List.set_cons_zero, List.set_cons_succ]
      refine wpAnyH_take (i := 12) (oi := _) (v := ?_) (by rw [List.getElem?_toArray]; rfl) (by kernel_rfl) (by kernel_rfl) (by kernel_rfl) (by exact fun _ _ _ h => h) (Or.inl ⟨by rfl, ?_⟩) (by assumption) ?_
      rotate_left
      · intro w hSw
        try simp only [Cells, blk, List.cons_append, List.nil_append, and_true, Nat.reduceAdd, Nat.add_zero, Nat.zero_add] at hSw
        go_simp
        try with_reducible rfl
      simp only [Act.put, List.setIfInBounds_toArray, List.set_cons_zero, List.set_cons_succ]
      refine wpAnyH_ready (rs := [13]) (by kernel_rfl) (by simp) (AllReadyH.cons (o := _) (by rw [List.getElem?_toArray]; rfl) (fun K hK => ?_) AllReadyH.nil)
      go_simp
      generalize hX : World.drew _ = w13
      have hsr := (sr_two (heap_alloc_new wr (.cells #[.int .u8 (dig A : Nat), .int .u8 (dig B : Nat)] 5))).below (Below.refl _ _).drew
      have hB13 : Below wr.heap.size wr w13 := by rw [← hX]; exact ((Below.refl wr.heap.size wr).alloc (Nat.le_refl _) _).drew
      rw [hX] at hsr
      clear hX
      have hown3 := own_below hown.out hB13
      refine hK.out _ _ (⟨hB.trans (hB13.mono hB.size), hB13.size, kc hcl hB13, trivial⟩) (fun hHeld2 => ?_)
      replace hHeld := hHeld2
      clear hK K hHeld2
      try simp only [Act.put, List.setIfInBounds_toArray, List.set_cons_zero, List.set_cons_succ]
      have hz := hHeld.2.1
      clear hB13
      have hbz := Nat.le_trans hB.size hz
      refine wpAnyH_ready (rs := [14]) (by kernel_rfl) (by simp) (AllReadyH.cons (o := _) (by rw [List.getElem?_toArray]; rfl) (fun K hK => ?_) AllReadyH.nil)
      refine step_append_sr (by rfl) _ _ 25 (by rfl) w.heap.size 5 i0 _ 1 1 Tryd.underlying25 hi0 hz0 hz1 hz2 rfl (by decide) _ (2 * k) _ (by rfl) hown3 _ 2 _ (by rfl) hsr (by unfold maxLen; omega) (by omega) hbz ?_
      intro v14 w14 hown14 hg14
      have hB14 := hHeld.1.grown hg14 hbz (fun q hq => (hown3.lt q hq).1)
      have hcc := (hB14.cell (p := ⟨b, off + k, none⟩) hb).trans hclw
      refine hK.out _ _ (⟨hB14, Nat.le_trans hz hg14.size, hcc, trivial⟩) (fun hHeld2 => ?_)
      replace hHeld := hHeld2
      clear hK K hHeld2
      try simp only [Act.put, List.setIfInBounds_toArray, List.set_cons_zero, List.set_cons_succ]
      refine wpAnyH_take (i := 15) (oi := _) (v := ?_) (by rw [List.getElem?_toArray]; rfl) (by kernel_rfl) (by kernel_rfl) (by kernel_rfl) (by exact fun _ _ _ h => h) (Or.inl ⟨by rfl, ?_⟩) (by assumption) ?_
      rotate_left
      · intro w hSw
        try simp only [Cells, blk, List.cons_append, List.nil_append, and_true, Nat.reduceAdd, Nat.add_zero, Nat.zero_add] at hSw
        go_simp
        try with_reducible rfl
      simp only [Act.put, List.setIfInBounds_toArray, List.set_cons_zero, List.set_cons_succ]
      refine wpAnyH_done (by kernel_rfl) ?_ _
      have HREL : Hid (∃ k2 : Nat, Value.int .i64 ((k : Int) + 1) = .int .i64 k2 ∧ k2 ≤ n ∧ Hid (w14.ownsRow w.heap.size 5 1 v14 (2 * k2) (bcells (hexB (bs.take k2)))) ∧ Below w.heap.size w w14) :=
        Lib.hid ⟨k + 1, by simp, hlt, Lib.hid (by rw [HAB.out, show 2 * (k + 1) = 2 * k + 2 by omega]; simpa [bcells] using hown14), hHeld.1⟩
      clear hown14 hg14 hB14 hcc hown3 hsr hown hB hcl hclw r1 r2
      go_wp2
      refine ⟨HREL.out, ?_⟩
      simp [intOf]
      omega
    · have g1 : decide (k < n) = false := by simpa using hlt
      have g1' : decide ((k : Int) < (n : Int)) = false := by simp; omega
      obtain rfl : k = n := by omega
      have hown := hown.out
      rw [List.take_of_length_le (show bs.length ≤ _ by rw [HN.out]; exact Nat.le_refl _)] at hown
      have hby := bytesAt_of_own hown (by rw [hexB_len, HN.out]) (hexB_lt bs HLT.out) (by omega)
      have ca := run_convert_b (P := Tryd.prog) hby 25 5 9 Tryd.underlying25 Tryd.underlying5 Tryd.underlying9
      obtain ⟨a1, n1, rfl⟩ := hby.1.val
      clear hby hown
      go_wp2
      go_ret
      exact ⟨rfl, hB⟩
end Go.Proofs.YtccknpdnapoboaaDoor
