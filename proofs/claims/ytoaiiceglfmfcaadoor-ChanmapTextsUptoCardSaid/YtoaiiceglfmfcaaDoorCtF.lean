/- chanmap: pieces of strings; number. -/
import Derived.Test.YtoaiiceglfmfcaaDoorCtE
import Derived.Test.YtoaiiceglfmfcaaDoorChSh
import Derived.Lib.AtoiTie
import Derived.Lib.CutLaws
import Derived.Lib.AtoiErrMem
namespace Go.Proofs.YtoaiiceglfmfcaaDoor
open Go.RowKit

theorem strB_data (ss : List Nat) : (strB ss).data.toList = ss.map UInt8.ofNat := by
  unfold strB
  rw [strOfNums_data, List.map_map]
  rfl
theorem strB_of (s : ByteArray) : strB (s.data.toList.map UInt8.toNat) = s := by
  apply ByteArray.ext
  rw [← Array.toList_inj, strB_data, List.map_map, show (UInt8.ofNat ∘ UInt8.toNat) = id from funext fun c => by simp, List.map_id]
theorem toNat_lt (s : ByteArray) : ∀ x ∈ s.data.toList.map UInt8.toNat, x < 256 := fun x hx => by
  obtain ⟨c, _, rfl⟩ := List.mem_map.1 hx
  exact c.toNat_lt
theorem ofNat_inj (x c : Nat) (hx : x < 256) (hc : c < 256) : UInt8.ofNat x = UInt8.ofNat c ↔ x = c := by
  constructor
  · intro h
    have := congrArg UInt8.toNat h
    simp at this
    omega
  · rintro rfl; rfl
theorem strB_mk (l : List UInt8) (ss : List Nat) (h : l = ss.map UInt8.ofNat) : (⟨l.toArray⟩ : ByteArray) = strB ss := by
  apply ByteArray.ext
  rw [← Array.toList_inj, strB_data, h]

/-! ### split at a byte -/
theorem splitK_cons_hit (c : UInt8) (k : Nat) (l : List UInt8) : Lib.splitK [c] 0 (k + 1) (c :: l) = [] :: Lib.splitK [c] 0 k l := by
  have hi : Lib.index (c :: l) [c] = 0 := by rw [Lib.index_one]; simp [Lib.indexByte]
  rw [Lib.splitK, hi]
  simp
theorem splitK_cons_miss (c b : UInt8) (hb : b ≠ c) (l : List UInt8) (k : Nat) : Lib.splitK [c] 0 k (b :: l) = match Lib.splitK [c] 0 k l with
    | [] => [[b]]
    | p :: ps => (b :: p) :: ps := by
  cases k with
  | zero => rfl
  | succ k =>
    have hi : Lib.index (b :: l) [c] = if Lib.index l [c] == -1 then -1 else Lib.index l [c] + 1 := by
      rw [Lib.index_one, Lib.index_one]
      simp [Lib.indexByte, hb]
    have hg := Lib.index_ge l [c]
    rw [Lib.splitK, Lib.splitK, hi]
    by_cases h : Lib.index l [c] = -1
    · simp [h]
    · have h1 : (Lib.index l [c] == -1) = false := beq_eq_false_iff_ne.2 h
      have h2 : (Lib.index l [c] + 1 == -1) = false := beq_eq_false_iff_ne.2 (by omega)
      obtain ⟨i, hi'⟩ := Int.eq_ofNat_of_zero_le (show 0 ≤ Lib.index l [c] by omega)
      rw [hi'] at h1 h2 ⊢
      simp only [h1, Bool.false_eq_true, if_false, h2]
      have e : ((i : Int) + 1).toNat = i + 1 := by omega
      simp [e]
theorem splitK_spl (ss : List Nat) (hb : ∀ x ∈ ss, x < 256) : Lib.splitK [44] 0 ((ss.map UInt8.ofNat).count 44) (ss.map UInt8.ofNat) = (spl ss).map (·.map UInt8.ofNat) := by
  induction ss with
  | nil => rfl
  | cons x l ih =>
    have hx := hb x (by simp)
    have ih := ih fun y hy => hb y (by simp [hy])
    rw [List.map_cons]
    by_cases h : x = 44
    · subst h
      rw [show (UInt8.ofNat 44) = (44 : UInt8) by rfl, List.count_cons_self, splitK_cons_hit, ih, spl, if_pos rfl, List.map_cons]
      rfl
    · have hne : UInt8.ofNat x ≠ 44 := fun e => h ((ofNat_inj x 44 hx (by decide)).1 e)
      rw [List.count_cons_of_ne hne, splitK_cons_miss _ _ hne, ih, spl, if_neg h]
      cases hs : spl l with
      | nil => rfl
      | cons p ps => rfl
theorem map_data_inj : ∀ (a b : List ByteArray), a.map (·.data.toList) = b.map (·.data.toList) → a = b
  | [], [], _ => rfl
  | [], _ :: _, h => by simp at h
  | _ :: _, [], h => by simp at h
  | x :: a, y :: b, h => by
    simp only [List.map_cons, List.cons.injEq] at h
    rw [map_data_inj a b h.2, show x = y from ByteArray.ext (Array.toList_inj.1 h.1)]
theorem splitB_spl (ss : List Nat) (hb : ∀ x ∈ ss, x < 256) : Lib.splitB { data := #[44] } 0 (Lib.countB (strB ss) { data := #[44] }) (strB ss) = (spl ss).map strB := by
  apply map_data_inj
  have hc : Lib.countB (strB ss) { data := #[44] } = (ss.map UInt8.ofNat).count 44 := by
    show Lib.count (strB ss).data.toList [44] = _
    rw [strB_data, Lib.count_one]
  rw [Lib.splitB_data, hc, strB_data]
  show Lib.splitK [44] 0 _ _ = _
  rw [splitK_spl ss hb, List.map_map]
  refine List.map_congr_left fun p _ => ?_
  simp only [Function.comp]
  rw [strB_data]
theorem spl_len_count (ss : List Nat) (hb : ∀ x ∈ ss, x < 256) : Lib.countB (strB ss) { data := #[44] } + 1 = (spl ss).length := by
  have h := splitB_spl ss hb
  have h2 := Lib.splitB_all { data := #[44] } (by decide) 0 _ (strB ss) rfl
  rw [h, List.length_map] at h2
  exact h2.symm
theorem spl_mem : ∀ (ss : List Nat), ∀ p ∈ spl ss, ∀ x ∈ p, x ∈ ss
  | [], p, hp, x, hx => by
    simp only [spl, List.mem_singleton] at hp
    subst hp
    cases hx
  | c :: l, p, hp, x, hx => by
    have ih := spl_mem l
    rw [spl] at hp
    by_cases h : c = 44
    · rw [if_pos h] at hp
      rcases List.mem_cons.1 hp with rfl | hp
      · cases hx
      · exact List.mem_cons_of_mem _ (ih p hp x hx)
    · rw [if_neg h] at hp
      cases hs : spl l with
      | nil => exact absurd hs (spl_ne l)
      | cons q qs =>
        rw [hs] at hp ih
        simp only [List.mem_cons] at hp
        rcases hp with rfl | hp
        · rcases List.mem_cons.1 hx with rfl | hx
          · simp
          · exact List.mem_cons_of_mem _ (ih q (by simp) x hx)
        · exact List.mem_cons_of_mem _ (ih p (by simp [hp]) x hx)
theorem spl_len_le : ∀ ss : List Nat, (spl ss).length ≤ ss.length + 1
  | [] => by simp [spl]
  | c :: l => by
    have ih := spl_len_le l
    rw [spl]
    split
    · simp only [List.length_cons]; omega
    · cases hs : spl l with
      | nil => simp
      | cons q qs => rw [hs] at ih; simp only [List.length_cons] at ih ⊢; omega
theorem spl_piece_len : ∀ (ss : List Nat), ∀ p ∈ spl ss, p.length ≤ ss.length
  | [], p, hp => by
    simp only [spl, List.mem_singleton] at hp
    subst hp
    simp
  | c :: l, p, hp => by
    have ih := spl_piece_len l
    rw [spl] at hp
    by_cases h : c = 44
    · rw [if_pos h] at hp
      rcases List.mem_cons.1 hp with rfl | hp
      · simp
      · have := ih p hp; simp only [List.length_cons]; omega
    · rw [if_neg h] at hp
      cases hs : spl l with
      | nil => exact absurd hs (spl_ne l)
      | cons q qs =>
        rw [hs] at hp ih
        simp only [List.mem_cons] at hp
        rcases hp with rfl | hp
        · have := ih q (by simp); simp only [List.length_cons]; omega
        · have := ih p (by simp [hp]); simp only [List.length_cons]; omega

/-! ### cut at a byte -/
theorem cut_lib (p : List Nat) (hb : ∀ x ∈ p, x < 256) : Lib.cut (p.map UInt8.ofNat) [45] =
    if 45 ∈ p then ((p.takeWhile (· ≠ 45)).map UInt8.ofNat, ((p.dropWhile (· ≠ 45)).drop 1).map UInt8.ofNat, true) else (p.map UInt8.ofNat, [], false) := by
  induction p with
  | nil => rfl
  | cons x l ih =>
    have hx := hb x (by simp)
    have ih := ih fun y hy => hb y (by simp [hy])
    unfold Lib.cut at ih ⊢
    rw [List.map_cons]
    by_cases h : x = 45
    · subst h
      have hi : Lib.index (UInt8.ofNat 45 :: l.map UInt8.ofNat) [45] = 0 := by rw [Lib.index_one]; simp [Lib.indexByte]
      rw [hi]
      simp
    · have hne : UInt8.ofNat x ≠ 45 := fun e => h ((ofNat_inj x 45 hx (by decide)).1 e)
      have hi : Lib.index (UInt8.ofNat x :: l.map UInt8.ofNat) [45] = if Lib.index (l.map UInt8.ofNat) [45] == -1 then -1 else Lib.index (l.map UInt8.ofNat) [45] + 1 := by
        rw [Lib.index_one, Lib.index_one]
        simp [Lib.indexByte, hne]
      have hg := Lib.index_ge (l.map UInt8.ofNat) [45]
      have hm : (45 ∈ x :: l) ↔ 45 ∈ l := by simp [Ne.symm h]
      rw [hi]
      generalize Lib.index (l.map UInt8.ofNat) [45] = I at *
      by_cases hI : I = -1
      · subst hI
        have hl : ¬ 45 ∈ l := by
          intro hh
          rw [if_pos hh, if_neg (by omega)] at ih
          simp at ih
        rw [if_neg (fun hh => hl (hm.1 hh))]
        simp
      · have h1 : (I == -1) = false := beq_eq_false_iff_ne.2 hI
        rw [if_pos (show 0 ≤ I by omega)] at ih
        have hl : 45 ∈ l := by
          apply Decidable.byContradiction
          intro hh
          rw [if_neg hh] at ih
          simp at ih
        rw [if_pos hl] at ih
        simp only [Prod.mk.injEq] at ih
        rw [if_pos (hm.2 hl), h1]
        simp only [Bool.false_eq_true, if_false]
        rw [if_pos (by omega)]
        obtain ⟨i, rfl⟩ := Int.eq_ofNat_of_zero_le (show 0 ≤ I by omega)
        have e : ((i : Int) + 1).toNat = i + 1 := by omega
        have e2 : ((i : Int)).toNat = i := by omega
        simp only [e2, List.length_singleton] at ih
        simp only [e, List.length_singleton, List.take_succ_cons, List.drop_succ_cons, ih.1, List.takeWhile_cons, List.dropWhile_cons]
        simp only [h, ne_eq, not_false_eq_true, decide_true, if_true, List.map_cons, Prod.mk.injEq, true_and, and_true]
        exact ih.2.1

/-! ### number -/
theorem numC_out (t : List Nat) (h : t.length < 1 ∨ 2 < t.length) : numC t = none := by
  unfold numC
  rw [if_pos h]
theorem atoi_two (l : List UInt8) (h : l.length ≤ 2) : Lib.atoiAll l = Lib.atoiAll [] ∨ ∃ v, Lib.atoiAll l = .ok v := by
  rw [Lib.atoiAll_short l (by omega)]
  cases Lib.atoi l with
  | none => exact .inl rfl
  | some v => exact .inr ⟨v, rfl⟩
/-- what number hands back -/
def NumP (t : List Nat) (w : World) (e : Ending) (w' : World) : Prop := ∃ v : Int, e = .returned (.tuple #[.int .i64 v, .bool (numC t).isSome]) ∧ (∀ n : Nat, numC t = some n → v = n) ∧ Below w.heap.size w w'
/-- the library's variable strconv.ErrSyntax holds an interface value -/
def EVar (w : World) : Prop := ∃ ev, w.cell? ⟨1, 0, none⟩ = some ev ∧ (ev = .nilIface ∨ ∃ te pe, ev = .iface te pe)
set_option linter.unusedSimpArgs false in
set_option linter.unusedVariables false in
set_option maxRecDepth 100000 in
set_option maxHeartbeats 2000000 in
theorem number_any (t : List Nat) (hb : ∀ x ∈ t, x < 256) (hm : t.length ≤ 140737488351232) (w : World) (hE : EVar w) :
    Calls Tryd.prog 45 #[.string (strB t)] w (NumP t w) := by
  have hsz := strB_size t
  by_cases h0 : t.length < 1 ∨ 2 < t.length
  · have hn := numC_out t h0
    unfold NumP
    rw [hn]
    obtain ⟨n, hnn⟩ : ∃ n, t.length = n := ⟨_, rfl⟩
    rw [hnn] at hsz h0 hm
    clear hnn hn
    rcases h0 with h0 | h0
    · have g1 : decide (n < 1) = true := by simpa using h0
      obtain rfl : n = 0 := by omega
      go_enter Tryd.func45, Tryd.ntmps45
      go_wp2
      go_ret2
      exact ⟨0, rfl, fun n h => (by cases h), Below.refl _ _⟩
    · have g1 : decide (n < 1) = false := by simp; omega
      have g2 : decide (2 < n) = true := by simpa using h0
      go_enter Tryd.func45, Tryd.ntmps45
      go_wp2
      go_ret2
      exact ⟨0, rfl, fun n h => (by cases h), Below.refl _ _⟩
  · have hl1 : 1 ≤ t.length ∧ t.length ≤ 2 := by omega
    have hat := atoi_two (t.map UInt8.ofNat) (by rw [List.length_map]; omega)
    have hnc : numC t = match Lib.atoiAll (t.map UInt8.ofNat) with
      | .ok v => if 0 ≤ v ∧ v < 37 then some v.toNat else none
      | _ => none := by unfold numC; rw [if_neg h0]; cases Lib.atoiAll (t.map UInt8.ofNat) <;> rfl
    have hd := strB_data t
    obtain ⟨n, hnn⟩ : ∃ n, t.length = n := ⟨_, rfl⟩
    rw [hnn] at hsz hl1
    have HSZ := Lib.hid hsz
    clear hnn h0
    have g1 : decide (n < 1) = false := by simp; omega
    have g2 : decide (2 < n) = false := by simp; omega
    rcases hat with h | ⟨v, h⟩
    · replace hnc : numC t = none := hnc.trans (by rw [h]; first | done | rfl)
      obtain ⟨ev, he1, he2⟩ := hE
      have hc := fun W (hW : W.cell? ⟨1, 0, none⟩ = some ev) => Tryd.strconv_Atoi_syntax (strB t) (by rw [hsz]; omega) (by rw [hd]; exact h) ev W hW he2
      have HC := Lib.hid (hc w he1)
      unfold NumP
      rw [hnc]
      clear hc hnc h hd hsz he2 he1
      have hsz := HSZ.out
      go_enter Tryd.func45, Tryd.ntmps45
      go_wp2_with fail
      refine HC.out.mono ?_
      rintro e w1 ⟨N, rfl, _, _, hB⟩
      go_wp2
      go_ret2
      exact ⟨_, rfl, fun n h => (by cases h), hB⟩
    · rw [h] at hnc
      simp only at hnc
      have hc := fun W => Tryd.strconv_Atoi_ok (strB t) (by rw [hsz]; omega) v (by rw [hd]; exact h) W
      have HC := Lib.hid (hc w)
      have hgrow : ∀ w', (w' = w ∨ ∃ t, w' = Lib.bytesWorld w 5 t) → Below w.heap.size w w' := by
        rintro w' (rfl | ⟨t, rfl⟩)
        · exact Below.refl _ _
        · exact Lib.bytesWorld_below w _ t
      have HG := Lib.hid hgrow
      clear hc h hd hsz hE hgrow
      have hsz := HSZ.out
      by_cases v0 : 0 ≤ v
      · by_cases v37 : v < 37
        · rw [if_pos ⟨v0, v37⟩] at hnc
          have HNC := Lib.hid hnc
          obtain ⟨k, rfl⟩ := Int.eq_ofNat_of_zero_le v0
          unfold NumP
          rw [hnc]
          clear hnc
          have g5 : decide (k < 37) = true := by simp; omega
          go_enter Tryd.func45, Tryd.ntmps45
          go_wp2_with fail
          refine HC.out.mono ?_
          rintro e w1 ⟨rfl, hw1⟩
          have hB := HG.out _ hw1
          clear hw1
          go_wp2
          go_ret2
          exact ⟨_, rfl, fun n h => by simp only [Option.some.injEq] at h; omega, hB⟩
        · rw [if_neg (fun h => v37 h.2)] at hnc
          unfold NumP
          rw [hnc]
          clear hnc
          have g5 : decide (v < 37) = false := by simp; omega
          go_enter Tryd.func45, Tryd.ntmps45
          go_wp2_with fail
          refine HC.out.mono ?_
          rintro e w1 ⟨rfl, hw1⟩
          have hB := HG.out _ hw1
          clear hw1
          go_wp2
          go_ret2
          exact ⟨_, rfl, fun n h => (by cases h), hB⟩
      · rw [if_neg (fun h => v0 h.1)] at hnc
        unfold NumP
        rw [hnc]
        clear hnc
        have g5 : decide (0 ≤ v) = false := by simp; omega
        go_enter Tryd.func45, Tryd.ntmps45
        go_wp2_with fail
        refine HC.out.mono ?_
        rintro e w1 ⟨rfl, hw1⟩
        have hB := HG.out _ hw1
        clear hw1
        go_wp2
        go_ret2
        exact ⟨_, rfl, fun n h => (by cases h), hB⟩
end Go.Proofs.YtoaiiceglfmfcaaDoor
