/- air: the reference's All. -/
import Derived.Test.YthemdbgcamkecaaRvC
import Derived.Deep.DeepCutAuto
import Derived.Deep.CutRange
namespace Go.Proofs.Ythemdbgcamkecaa
open Go.RowKit

theorem ids_lt {ts : List Tr} (h : ∀ k (h : k < ts.length), 0 < k → (ts[k - 1]'(by omega)).id < ts[k].id) {j : Nat} : ∀ (k : Nat) (hk : k < ts.length) (hj : j < k), (ts[j]'(by omega)).id < ts[k].id
  | 0, _, hj => by omega
  | k+1, hk, hj => by
    have h1 := h (k + 1) hk (by omega)
    simp only [Nat.add_sub_cancel] at h1
    by_cases c : j = k
    · subst c; exact h1
    · exact Int.lt_trans (ids_lt h k (by omega) (by omega)) h1
theorem best_congr {ok : Nat → Bool} {lt lt' : Nat → Nat → Bool} {n : Nat} (h : ∀ k j, j < k → k < n → lt k j = lt' k j) : ∀ m, m ≤ n → bestE ok lt m = bestE ok lt' m
  | 0, _ => rfl
  | m+1, hm => by
    have ih := best_congr (ok := ok) h m (by omega)
    rcases bestE_cases ok lt' m with hb | ⟨j, hb, hj, _⟩
    · rw [bestE, bestE, ih, hb]
      simp
    · rw [bestE, bestE, ih, hb, Int.toNat_natCast, h m j hj (by omega)]
theorem best_er_eq {ts : List Tr} (h : ∀ k (h : k < ts.length), 0 < k → (ts[k - 1]'(by omega)).id < ts[k].id) (ok : Nat → Bool) : bestE ok (ltR ts) ts.length = bestE ok (ltE ts) ts.length := by
  refine best_congr (n := ts.length) (fun k j hj hk => ?_) _ (Nat.le_refl _)
  have hid := ids_lt h k hk hj
  unfold ltR ltE erlB
  rw [List.getD_eq_getElem?_getD, List.getElem?_eq_getElem hk, List.getD_eq_getElem?_getD, List.getElem?_eq_getElem (show j < ts.length by omega)]
  simp only [Option.getD_some]
  rcases cmp_cases ts[k].st ts[j].st with ⟨h1, e1⟩ | ⟨h1, e1⟩ | ⟨h1, e1⟩ <;> rcases cmp_cases ts[k].id ts[j].id with ⟨h2, e2⟩ | ⟨h2, e2⟩ | ⟨h2, e2⟩ <;> simp [orL, e1, e2] <;> omega

theorem heard_split (ls : List (Int × Int)) (js : List (Int × Int × Int)) (ss : List (Int × Int)) (ts : List Tr) (l : List (Int × Int × Int × Int)) (j : Nat) : heard ls js ss ts l = heard ls js ss ts (l.take j) ++ heard ls js ss ts (l.drop j) := by
  unfold heard
  rw [← List.filterMap_append, List.take_append_drop]
theorem heard_at {ls : List (Int × Int)} {js : List (Int × Int × Int)} {ss : List (Int × Int)} {ts : List Tr} {l : List (Int × Int × Int × Int)} {k m : Nat} {r : Rc} (hm : m = (heard ls js ss ts (l.take k)).length) (h : heard ls js ss ts (l.take (k + 1)) = heard ls js ss ts (l.take k) ++ [r]) : (heard ls js ss ts l).getD m default = r := by
  rw [heard_split ls js ss ts l (k + 1), h, hm, List.append_assoc, List.getD_eq_getElem?_getD, List.getElem?_append_right (Nat.le_refl _)]
  simp
theorem Rd1.fresh {base : Nat} {Y w' : World} {out v' : Value} {r : Rc} {v : Value} (h : Rd1 base Y out r v) (hB : Below Y.heap.size Y w') (ho : ∀ b, v'.ownBlock = some b → Y.heap.size ≤ b) : Rd1 base w' v' r v := by
  refine ⟨h.1.below hB, h.2.imp id fun ⟨b, e1, e2, e3, _⟩ => ⟨b, e1, e2, Nat.lt_of_lt_of_le e3 hB.size, fun e => ?_⟩⟩
  have := ho b e
  omega
theorem rinv_ins {base : Nat} {Y w' : World} {out v' : Value} {rs : List Rc} {vs : List Value} {r : Rc} {va : Value} {t : Nat} (h : RInv base Y out rs vs) (hr : Rd1 base Y out r va) (ht : t ≤ rs.length) (hB : Below Y.heap.size Y w') (hbase : base ≤ Y.heap.size)
    (hown : w'.ownsRow Y.heap.size 47 6 v' (0 + t + 1 + (rs.length - t)) ((([] ++ (rcells rs vs).take (t * 6)) ++ [.int .i64 r.id, .int .i64 r.to, .int .i64 r.kd, .int .i64 r.st, .int .i64 r.en, va]) ++ (rcells rs vs).drop (t * 6))) :
    RInv base w' v' (rs.take t ++ [r] ++ rs.drop t) (vs.take t ++ [va] ++ vs.drop t) := by
  have hl := h.len
  have ho : ∀ b, v'.ownBlock = some b → Y.heap.size ≤ b := fun b hb => (hown.lt b hb).1
  have e1 : rcells (rs.take t ++ [r] ++ rs.drop t) (vs.take t ++ [va] ++ vs.drop t) = (([] ++ (rcells rs vs).take (t * 6)) ++ [.int .i64 r.id, .int .i64 r.to, .int .i64 r.kd, .int .i64 r.st, .int .i64 r.en, va]) ++ (rcells rs vs).drop (t * 6) := by
    rw [rcells_app _ _ _ _ (by simp; omega), rcells_app _ _ _ _ (by simp; omega), rcells_take _ _ hl _ ht, rcells_drop _ _ hl _ ht]
    simp [rcells]
  have e2 : (rs.take t ++ [r] ++ rs.drop t).length = 0 + t + 1 + (rs.length - t) := by simp; omega
  refine ⟨by simp; omega, by rw [e1, e2]; exact own_base hown hbase, fun j h1 h2 => ?_⟩
  rw [e2] at h1
  by_cases c1 : j < t
  · rw [List.getElem_append_left (by simp; omega), List.getElem_append_left (by simp; omega), List.getElem_append_left (by simp; omega), List.getElem_append_left (by simp; omega), List.getElem_take, List.getElem_take]
    exact (h.rd j (by omega) (by omega)).fresh hB ho
  · by_cases c2 : j = t
    · subst c2
      have e3 : (rs.take j ++ [r] ++ rs.drop j)[j]? = some r := by
        rw [List.append_assoc, List.getElem?_append_right (by simp; omega)]
        simp [Nat.min_eq_left ht]
      have e4 : (vs.take j ++ [va] ++ vs.drop j)[j]? = some va := by
        rw [List.append_assoc, List.getElem?_append_right (by simp; omega)]
        simp [Nat.min_eq_left (show j ≤ vs.length by omega)]
      rw [List.getElem?_eq_getElem (by rw [e2]; exact h1)] at e3
      rw [List.getElem?_eq_getElem h2] at e4
      simp only [Option.some.injEq] at e3 e4
      rw [e3, e4]
      exact hr.fresh hB ho
    · rw [List.getElem_append_right (by simp; omega), List.getElem_append_right (by simp; omega), List.getElem_drop, List.getElem_drop]
      have q1 : t + (j - (rs.take t ++ [r]).length) = j - 1 := by simp; omega
      have q2 : t + (j - (vs.take t ++ [va]).length) = j - 1 := by simp; omega
      simp only [q1, q2]
      exact (h.rd (j - 1) (by omega) (by omega)).fresh hB ho
/-- a block of one element's cells -/
def New6 (w : World) (g : Nat) (cs : List Value) : Prop := w.heap[g]? = some (.cells cs.toArray 47 (0, 0))
theorem new6_of {w : World} {g : Nat} {cs : List Value} (h : w.heap[g]? = some (.cells cs.toArray 47 (0, 0))) : New6 w g cs := h
theorem New6.below2 {w w' : World} {g : Nat} {cs : List Value} (h : New6 w g cs) (hB : Below w.heap.size w w') : New6 w' g cs := (hB.block g (Array.getElem?_eq_some_iff.1 h).1).trans h
theorem New6.news {w : World} {g : Nat} {cs : List Value} (h : New6 w g cs) : ∀ j u, cs[j]? = some u → w.cell? ((⟨g, 0, none⟩ : Addr).add j) = some u := fun j u hj => by
  rw [addr_add, Nat.zero_add]
  exact (cell_of_row w g j _ _ _ h).trans (by simpa using hj)
theorem New6.grown2 {w w' : World} {g : Nat} {cs : List Value} (h : New6 w g cs) {v : Value} (hg : w.grownBy w' v.ownBlock) (hne : v.ownBlock ≠ some g) : New6 w' g cs := (hg.block g (Array.getElem?_eq_some_iff.1 h).1 (fun e => hne e.symm)).trans h
/-- the cells of a list, from a place on, wherever the list is still read -/
theorem RInv.news {base : Nat} {Y : World} {g m cap : Nat} {rs : List Rc} {vs : List Value} (h : RInv base Y (.slice (some ⟨g, 0, none⟩) m cap) rs vs) (hl : rs.length = m) {W : World} (hB : Below Y.heap.size Y W) (o : Nat) : ∀ j u, ((rcells rs vs).drop o)[j]? = some u → W.cell? ((⟨g, o, none⟩ : Addr).add j) = some u := by
  intro j u hj
  have hg : g < Y.heap.size := (h.own.lt g (by simp [Value.ownBlock])).2
  rw [List.getElem?_drop] at hj
  have hlt := (List.getElem?_eq_some_iff.1 hj).1
  rw [h.own.1] at hlt
  subst hl
  rw [addr_add]
  refine (World.cell?_of_block (a := ⟨g, o + j, none⟩) (hB.block g hg)).trans ?_
  rw [h.own.cellAt (o + j) hlt, hj]

set_option linter.unusedSimpArgs false in
set_option linter.unusedVariables false in
set_option maxRecDepth 100000 in
set_option maxHeartbeats 8000000 in
theorem rall_any (d : Int) (lv jv sv tv lnv : Value) (ls : List (Int × Int)) (js : List (Int × Int × Int)) (ss : List (Int × Int)) (ts : List Tr) (l : List (Int × Int × Int × Int)) (w : World)
    (hf : ∀ x ∈ ts, Fits x) (hids : ∀ k (h : k < ts.length), 0 < k → (ts[k - 1]'(by omega)).id < ts[k].id) (h1 : SR w lv ls.length 2 (tcells ls)) (h2 : SR w jv js.length 3 (jcells js)) (h3 : SR w sv ss.length 2 (tcells ss)) (h4 : Txs w tv ts) (h5 : SR w lnv l.length 4 (lcells l)) (hn : l.length ≤ 64) :
    Calls Try.prog 31 #[.agg #[.int .i64 d, lv, jv, sv], tv, lnv] w
      fun e w' => ∃ v p, e = .returned v ∧ Rcs w' v (prm (fun k => (heard ls js ss ts l).getD k default) p (heard ls js ss ts l).length) ∧ Mem (fun k => k) p 0 (heard ls js ss ts l).length ∧
        Srt (fun x y => rlt ((heard ls js ss ts l).getD x default) ((heard ls js ss ts l).getD y default)) p 0 (heard ls js ss ts l).length ∧ Below w.heap.size w w' := by
  obtain ⟨i6, hi6, hy0, hy1, hy2⟩ := info_parts Try.info_rc
  obtain ⟨n, hnn⟩ : ∃ n, l.length = n := ⟨_, rfl⟩
  have HN := Lib.hid hnn
  have H1 := Lib.hid h1
  have H2 := Lib.hid h2
  have H3 := Lib.hid h3
  have H4 := Lib.hid h4
  have H5 := Lib.hid h5
  have HF := Lib.hid hf
  have HBE := Lib.hid (best_er_eq hids)
  obtain ⟨ln, lc, hlv⟩ := h5.val
  rw [hnn] at hlv hn
  subst hlv
  obtain ⟨hf', hff⟩ : ∃ f : Nat → Rc, ∀ k, f k = (heard ls js ss ts l).getD k default := ⟨_, fun _ => rfl⟩
  have HFF := Lib.hid hff
  have hA0 := heap_alloc_new w (.cells #[.int .i64 d, lv, jv, sv] 34)
  have hz0 : (w.alloc (.cells #[.int .i64 d, lv, jv, sv] 34)).heap.size = w.heap.size + 1 := by simp
  have hb0 : Below w.heap.size w (w.alloc (.cells #[.int .i64 d, lv, jv, sv] 34)) := (Below.refl _ _).alloc (Nat.le_refl _) _
  have own0 := World.ownsRow_made (base := w.heap.size + 1) (e := 47) (size := 6) (w.alloc (.cells #[.int .i64 d, lv, jv, sv] 34)) #[] 0 (by omega) (by unfold maxLen; omega) rfl
  have hb1 : Below (w.heap.size + 1) (w.alloc (.cells #[.int .i64 d, lv, jv, sv] 34)) ((w.alloc (.cells #[.int .i64 d, lv, jv, sv] 34)).alloc (.cells #[] 47)) := (Below.refl _ _).alloc (by omega) _
  rw [hz0] at own0
  have inv0 : RInv (w.heap.size + 1) ((w.alloc (.cells #[.int .i64 d, lv, jv, sv] 34)).alloc (.cells #[] 47)) (.slice (some ⟨w.heap.size + 1, 0, none⟩) 0 0) (prm hf' (fun k => k) 0) [] := ⟨rfl, own0, fun j h => absurd h (by simp [prm])⟩
  have INV0 := Lib.hid inv0
  clear h1 h2 h3 h4 h5 hf hnn hids own0 inv0 hff
  go_enter Try.func31, Try.ntmps31
  go_wp2
  go_loopw [7, 8, 9, 10, 11] (fun out i _ _ _ wr => ∃ (k m : Nat) (q : Nat → Nat) (vs : List Value), k ≤ n ∧ i = .int .i64 k ∧ Hid (m = (heard ls js ss ts (l.take k)).length) ∧ out ≠ .slice none 0 0 ∧ Hid (RInv (w.heap.size + 1) wr out (prm hf' q m) vs) ∧ Hid (Mem (fun k => k) q 0 m) ∧ Hid (Srt (fun x y => rlt (hf' x) (hf' y)) q 0 m) ∧ Below (w.heap.size + 1) (w.alloc (.cells #[.int .i64 d, lv, jv, sv] 34)) wr) (fun _ i _ _ _ _ => n - (intOf i).toNat)
  case atStart => exact ⟨0, 0, fun k => k, [], by omega, by simp, rfl, by simp, INV0.out, Mem.refl _ _ _, fun i j h1 h2 h3 => by omega, hb1⟩
  case round =>
    obtain ⟨k, m, q, vs, hk, rfl, hm, hne, hinv, hmem, hsrt, hB⟩ := hrel
    have hB1 : Below w.heap.size w wr := hb0.trans (hB.mono (by omega))
    have hAr := (hB.block w.heap.size (by omega)).trans hA0
    have hszr : w.heap.size + 1 ≤ wr.heap.size := by have := hB.size; omega
    by_cases hlt : k < n
    · have g1 : decide (k < n) = true := by simpa using hlt
      have hkl : k < l.length := by rw [HN.out]; exact hlt
      have hc5 := H5.out
      obtain ⟨_, _, _, ao, cap5, e5, _, hc5⟩ := hc5
      simp only [Value.slice.injEq] at e5
      obtain ⟨rfl, e6, rfl⟩ := e5
      clear e6
      obtain ⟨b5, o5, rfl, hb5, hc5⟩ := hc5 (by omega)
      obtain ⟨q0, q1, q2, q3⟩ := lcells_get l k hkl
      have hhs := @heard_some ls js ss ts l k hkl
      have hhn := @heard_none ls js ss ts l k hkl
      obtain ⟨⟨dev, LC, LS, LE⟩, hx⟩ : ∃ x, l[k] = x := ⟨_, rfl⟩
      rw [hx] at q0 q1 q2 q3 hhs hhn
      have T : Cells wr (blk w.heap.size 0 0 [.int .i64 d, lv, jv, sv] ++ blk b5 (o5 + k * 4) 0 [.int .i64 dev, .int .i64 LC, .int .i64 LS, .int .i64 LE]) := (show Cells wr (blk w.heap.size 0 0 [.int .i64 d, lv, jv, sv]) from ⟨cell_of_row _ _ 0 _ _ _ hAr, cell_of_row _ _ 1 _ _ _ hAr, cell_of_row _ _ 2 _ _ _ hAr, cell_of_row _ _ 3 _ _ _ hAr, trivial⟩).app ⟨kc (hc5 _ _ q0) hB1, kc (hc5 _ _ q1) hB1, kc (hc5 _ _ q2) hB1, kc (hc5 _ _ q3) hB1, trivial⟩
      have i1 : (k : Int) < (n : Int) := by omega
      have w1 : IntKind.i64.wrap ((k : Int) + 1) = (k : Int) + 1 := IntWalk.i64_in _ (by omega)
      obtain ⟨F, hF⟩ : ∃ F, bestE (okK ls dev LC LS LE ts) (ltE ts) ts.length = F := ⟨_, rfl⟩
      obtain ⟨RC, hRC⟩ : ∃ R, hearR ls js ss ts dev F = R := ⟨_, rfl⟩
      have hh : hrd ls js ss ts (dev, LC, LS, LE) = if 0 ≤ F then some RC else none := by
        unfold hrd
        simp only
        rw [hF, hRC]
      rw [hh] at hhs hhn
      obtain ⟨okv, hokv⟩ : ∃ b, decide (0 ≤ F) = b := ⟨_, rfl⟩
      obtain ⟨r0, r1, r2, r3, r4, rb⟩ := RC
      have hear : ∀ W', Below wr.heap.size wr W' → Calls Try.prog 28 #[.agg #[.int .i64 d, lv, jv, sv], tv, .agg #[.int .i64 dev, .int .i64 LC, .int .i64 LS, .int .i64 LE]] W'
          fun e w' => ∃ va, e = .returned (.tuple #[.agg #[.int .i64 r0, .int .i64 r1, .int .i64 r2, .int .i64 r3, .int .i64 r4, va], .bool okv]) ∧ BytesO W'.heap.size w' va rb ∧ Below W'.heap.size W' w' := fun W' hW => by
        have hW1 := hB1.trans (hW.mono hB1.size)
        have h := rhear_any d lv jv sv tv ls js ss ts dev LC LS LE W' HF.out (H1.out.below hW1) (H2.out.below hW1) (H3.out.below hW1) (H4.out.below hW1)
        rw [HBE.out, hF, hRC, hokv] at h
        exact h
      have hs2 : okv = true → heard ls js ss ts (l.take (k + 1)) = heard ls js ss ts (l.take k) ++ [⟨r0, r1, r2, r3, r4, rb⟩] := fun h => hhs (by rw [if_pos (by rw [← hokv] at h; simpa using h)])
      have hn2 : okv = false → heard ls js ss ts (l.take (k + 1)) = heard ls js ss ts (l.take k) := fun h => hhn (by rw [if_neg (by rw [← hokv] at h; simpa using h)])
      have HEAR := Lib.hid hear
      have HB := Lib.hid hB
      have HHS := Lib.hid hs2
      have HHN := Lib.hid hn2
      have HB1 := Lib.hid hB1
      clear hc5 hx q0 q1 q2 q3 hF hRC hh hA0 hb0 hb1 hAr hear hhs hhn hokv hB hB1 hs2 hn2
      go_upto_region 5 with fail
      go_cut [9, 10] (fun p ok wx => ∃ i va, p = .pointer (some ⟨i, 0, none⟩) ∧ ok = .bool okv ∧ wx.heap[i]? = some (.cells #[.int .i64 r0, .int .i64 r1, .int .i64 r2, .int .i64 r3, .int .i64 r4, va] 47 (0, 0)) ∧ BytesAt wx va rb ∧ (∀ b, va.ownBlock = some b → wr.heap.size ≤ b) ∧ wr.heap.size ≤ i ∧ Below wr.heap.size wr wx)
      case first =>
        refine wp_region_held_drew (S := (fun W' : World => Below wr.heap.size wr W' ∧ wr.heap.size ≤ W'.heap.size ∧ Cells W' (blk w.heap.size 0 0 [.int .i64 d, lv, jv, sv] ++ blk b5 (o5 + k * 4) 0 [.int .i64 dev, .int .i64 LC, .int .i64 LS, .int .i64 LE]))) (by kernel_rfl) (⟨(Below.refl _ _).drew, Nat.le_refl _, T.drew⟩) (fun hHeld => ?_)
        generalize World.drew _ = wd at hHeld ⊢
        have hz := hHeld.2.1
        refine wpAnyH_take (i := 0) (oi := _) (v := ?_) (by rw [List.getElem?_toArray]; rfl) (by kernel_rfl) (by kernel_rfl) (by kernel_rfl) (by exact fun _ _ _ h => h) (Or.inl ⟨by rfl, ?_⟩) (by assumption) ?_
        rotate_left
        · intro w hSw
          try simp only [Cells, blk, List.cons_append, List.nil_append, and_true, Nat.reduceAdd, Nat.add_zero, Nat.zero_add] at hSw
          go_simp
          try with_reducible rfl
        simp only [Act.put, List.setIfInBounds_toArray, List.set_cons_zero, List.set_cons_succ]
        refine wpAnyH_take (i := 1) (oi := _) (v := ?_) (by rw [List.getElem?_toArray]; rfl) (by kernel_rfl) (by kernel_rfl) (by kernel_rfl) (by exact fun _ _ _ h => h) (Or.inl ⟨by rfl, ?_⟩) (by assumption) ?_
        rotate_left
        · intro w hSw
          try simp only [Cells, blk, List.cons_append, List.nil_append, and_true, Nat.reduceAdd, Nat.add_zero, Nat.zero_add] at hSw
          go_simp
          try with_reducible rfl
        simp only [Act.put, List.setIfInBounds_toArray, List.set_cons_zero, List.set_cons_succ]
        refine wpAnyH_take (i := 2) (oi := _) (v := ?_) (by rw [List.getElem?_toArray]; rfl) (by kernel_rfl) (by kernel_rfl) (by kernel_rfl) (by exact fun _ _ _ h => h) (Or.inl ⟨by rfl, ?_⟩) (by assumption) ?_
        rotate_left
        · intro w hSw
          try simp only [Cells, blk, List.cons_append, List.nil_append, and_true, Nat.reduceAdd, Nat.add_zero, Nat.zero_add] at hSw
          go_simp
          try with_reducible rfl
        simp only [Act.put, List.setIfInBounds_toArray, List.set_cons_zero, List.set_cons_succ]
        refine wpAnyH_take (i := 3) (oi := _) (v := ?_) (by rw [List.getElem?_toArray]; rfl) (by kernel_rfl) (by kernel_rfl) (by kernel_rfl) (by exact fun _ _ _ h => h) (Or.inl ⟨by rfl, ?_⟩) (by assumption) ?_
        rotate_left
        · intro w hSw
          try simp only [Cells, blk, List.cons_append, List.nil_append, and_true, Nat.reduceAdd, Nat.add_zero, Nat.zero_add] at hSw
          go_simp
          try with_reducible rfl
        simp only [Act.put, List.setIfInBounds_toArray, List.set_cons_zero, List.set_cons_succ]
        refine wpAnyH_take (i := 4) (oi := _) (v := ?_) (by rw [List.getElem?_toArray]; rfl) (by kernel_rfl) (by kernel_rfl) (by kernel_rfl) (by exact fun _ _ _ h => h) (Or.inl ⟨by rfl, ?_⟩) (by assumption) ?_
        rotate_left
        · intro w hSw
          try simp only [Cells, blk, List.cons_append, List.nil_append, and_true, Nat.reduceAdd, Nat.add_zero, Nat.zero_add] at hSw
          go_simp
          try with_reducible rfl
        simp only [Act.put, List.setIfInBounds_toArray, List.set_cons_zero, List.set_cons_succ]
        refine wpAnyH_take (i := 5) (oi := _) (v := ?_) (by rw [List.getElem?_toArray]; rfl) (by kernel_rfl) (by kernel_rfl) (by kernel_rfl) (by exact fun _ _ _ h => h) (Or.inl ⟨by rfl, ?_⟩) (by assumption) ?_
        rotate_left
        · intro w hSw
          try simp only [Cells, blk, List.cons_append, List.nil_append, and_true, Nat.reduceAdd, Nat.add_zero, Nat.zero_add] at hSw
          go_simp
          try with_reducible rfl
        simp only [Act.put, List.setIfInBounds_toArray, List.set_cons_zero, List.set_cons_succ]
        refine wpAnyH_ready (rs := [6, 10]) (by kernel_rfl) (by simp) (AllReadyH.cons (o := _) (by rw [List.getElem?_toArray]; rfl) (fun K hK => ?_) (AllReadyH.cons (o := _) (by rw [List.getElem?_toArray]; rfl) (fun K hK => ?_) AllReadyH.nil))
        · go_simp
          go_at_call 28
          refine (HEAR.out _ hHeld.1).mono ?_
          rintro e w4 ⟨va, rfl, hva, hB4⟩
          obtain ⟨xa, xc, rfl⟩ := hva.1.1.val
          have hnl := hva.1.nil_or
          have hvo := hva.2
          have hvw := hz
          have hvb := hva.1
          clear hva
          try have hlow := h8s
          try replace h8 := (hB4.block _ (by have := h8s; omega)).trans h8
          try replace h8s := Nat.le_trans h8s hB4.size
          refine hK.out _ _ (⟨hHeld.1.trans (hB4.mono (by have := hHeld.2.1; omega)), Nat.le_trans hHeld.2.1 hB4.size, hHeld.2.2.keep hB4⟩) (fun hHeld2 => ?_)
          replace hHeld := hHeld2
          clear hK K hHeld2
          try simp only [Act.put, List.setIfInBounds_toArray, List.set_cons_zero, List.set_cons_succ]
          have hz := hHeld.2.1
          try have f0 := cell_of_row _ _ 0 _ _ _ h8
          try have f1 := cell_of_row _ _ 1 _ _ _ h8
          try have f2 := cell_of_row _ _ 2 _ _ _ h8
          try have f3 := cell_of_row _ _ 3 _ _ _ h8
          try have f4 := cell_of_row _ _ 4 _ _ _ h8
          try have f5 := cell_of_row _ _ 5 _ _ _ h8
          try have z0 := frozen_of_row _ _ 0 _ _ h8
          try have z1 := frozen_of_row _ _ 1 _ _ h8
          try have z2 := frozen_of_row _ _ 2 _ _ h8
          try have z3 := frozen_of_row _ _ 3 _ _ h8
          try have z4 := frozen_of_row _ _ 4 _ _ h8
          try have z5 := frozen_of_row _ _ 5 _ _ h8
          try simp at f0 f1 f2 f3 f4 f5
          refine wpAnyH_take (i := 7) (oi := _) (v := ?_) (by rw [List.getElem?_toArray]; rfl) (by kernel_rfl) (by kernel_rfl) (by kernel_rfl) (by exact fun _ _ _ h => h) (Or.inl ⟨by rfl, ?_⟩) (by assumption) ?_
          rotate_left
          · intro w hSw
            try simp only [Cells, blk, List.cons_append, List.nil_append, and_true, Nat.reduceAdd, Nat.add_zero, Nat.zero_add] at hSw
            go_simp
            try with_reducible rfl
          simp only [Act.put, List.setIfInBounds_toArray, List.set_cons_zero, List.set_cons_succ]
          refine wpAnyH_take (i := 8) (oi := _) (v := ?_) (by rw [List.getElem?_toArray]; rfl) (by kernel_rfl) (by kernel_rfl) (by kernel_rfl) (by exact fun _ _ _ h => h) (Or.inl ⟨by rfl, ?_⟩) (by assumption) ?_
          rotate_left
          · intro w hSw
            try simp only [Cells, blk, List.cons_append, List.nil_append, and_true, Nat.reduceAdd, Nat.add_zero, Nat.zero_add] at hSw
            go_simp
            try with_reducible rfl
          simp only [Act.put, List.setIfInBounds_toArray, List.set_cons_zero, List.set_cons_succ]
          refine wpAnyH_take (i := 9) (oi := _) (v := ?_) (by rw [List.getElem?_toArray]; rfl) (by kernel_rfl) (by kernel_rfl) (by kernel_rfl) (by exact fun _ _ _ h => h) (Or.inl ⟨by rfl, ?_⟩) (by assumption) ?_
          rotate_left
          · intro w hSw
            try simp only [Cells, blk, List.cons_append, List.nil_append, and_true, Nat.reduceAdd, Nat.add_zero, Nat.zero_add] at hSw
            go_simp
            try with_reducible rfl
          simp only [Act.put, List.setIfInBounds_toArray, List.set_cons_zero, List.set_cons_succ]
          refine wpAnyH_ready (rs := [10]) (by kernel_rfl) (by simp) (AllReadyH.cons (o := _) (by rw [List.getElem?_toArray]; rfl) (fun K hK => ?_) AllReadyH.nil)
          go_simp
          generalize hX : World.alloc _ (.cells _ 47) = w8
          obtain ⟨h8, hB8, h8z⟩ := alloc_named hX
          clear hX
          refine hK.out _ _ (⟨hHeld.1.trans (hB8.mono (by have := hHeld.2.1; omega)), Nat.le_trans hHeld.2.1 hB8.size, hHeld.2.2.keep hB8⟩) (fun hHeld2 => ?_)
          replace hHeld := hHeld2
          clear hK K hHeld2
          try simp only [Act.put, List.setIfInBounds_toArray, List.set_cons_zero, List.set_cons_succ]
          have h8s := Nat.le_of_eq h8z.symm
          clear h8z
          have hi8 := hz
          have hz := hHeld.2.1
          try replace hvb := hvb.below hB8
          try have f0 := cell_of_row _ _ 0 _ _ _ h8
          try have f1 := cell_of_row _ _ 1 _ _ _ h8
          try have f2 := cell_of_row _ _ 2 _ _ _ h8
          try have f3 := cell_of_row _ _ 3 _ _ _ h8
          try have f4 := cell_of_row _ _ 4 _ _ _ h8
          try have f5 := cell_of_row _ _ 5 _ _ _ h8
          try have z0 := frozen_of_row _ _ 0 _ _ h8
          try have z1 := frozen_of_row _ _ 1 _ _ h8
          try have z2 := frozen_of_row _ _ 2 _ _ h8
          try have z3 := frozen_of_row _ _ 3 _ _ h8
          try have z4 := frozen_of_row _ _ 4 _ _ h8
          try have z5 := frozen_of_row _ _ 5 _ _ h8
          try simp at f0 f1 f2 f3 f4 f5
          refine wpAnyH_ready (rs := [11]) (by kernel_rfl) (by simp) (AllReadyH.cons (o := _) (by rw [List.getElem?_toArray]; rfl) (fun K hK => ?_) AllReadyH.nil)
          go_simp
          generalize hX : World.setCell _ _ _ = w9
          obtain ⟨h9, hg9⟩ := set6 h8 hX
          clear hX
          have hva9 := set6_by hg9 hvb (by
            rcases hnl with e | ⟨b, e1, e2⟩
            · exact .inl e
            · refine .inr ⟨b, e1, ?_⟩
              have := hvo b e1
              omega)
          refine hK.out _ _ (⟨hHeld.1.grown hg9 (by have := hHeld.2.1; omega) (fun q hq => by have := hi8; simp at hq; omega), Nat.le_trans hHeld.2.1 hg9.size, hHeld.2.2.grown hg9 (fun x hx => by have := hi8; simp [blk] at hx; rcases hx with rfl | rfl | rfl | rfl | rfl | rfl | rfl | rfl <;> (simp; omega))⟩) (fun hHeld2 => ?_)
          replace hHeld := hHeld2
          clear hK K hHeld2
          try simp only [Act.put, List.setIfInBounds_toArray, List.set_cons_zero, List.set_cons_succ]
          have hz := hHeld.2.1
          refine wpAnyH_take (i := 12) (oi := _) (v := ?_) (by rw [List.getElem?_toArray]; rfl) (by kernel_rfl) (by kernel_rfl) (by kernel_rfl) (by exact fun _ _ _ h => h) (Or.inl ⟨by rfl, ?_⟩) (by assumption) ?_
          rotate_left
          · intro w hSw
            try simp only [Cells, blk, List.cons_append, List.nil_append, and_true, Nat.reduceAdd, Nat.add_zero, Nat.zero_add] at hSw
            go_simp
            try with_reducible rfl
          simp only [Act.put, List.setIfInBounds_toArray, List.set_cons_zero, List.set_cons_succ]
          refine wpAnyH_done (by kernel_rfl) ?_ _
          go_wp2_with fail
          go_meet
          exact ⟨_, _, rfl, rfl, h9, hva9, fun b hb => Nat.le_trans hvw (hvo b hb), hi8, hHeld.1⟩
        · go_simp
          generalize hX : World.alloc _ (.cells _ 47) = w8
          obtain ⟨h8, hB8, h8z⟩ := alloc_named hX
          clear hX
          refine hK.out _ _ (⟨hHeld.1.trans (hB8.mono (by have := hHeld.2.1; omega)), Nat.le_trans hHeld.2.1 hB8.size, hHeld.2.2.keep hB8⟩) (fun hHeld2 => ?_)
          replace hHeld := hHeld2
          clear hK K hHeld2
          try simp only [Act.put, List.setIfInBounds_toArray, List.set_cons_zero, List.set_cons_succ]
          have h8s := Nat.le_of_eq h8z.symm
          clear h8z
          have hi8 := hz
          have hz := hHeld.2.1
          try replace hvb := hvb.below hB8
          try have f0 := cell_of_row _ _ 0 _ _ _ h8
          try have f1 := cell_of_row _ _ 1 _ _ _ h8
          try have f2 := cell_of_row _ _ 2 _ _ _ h8
          try have f3 := cell_of_row _ _ 3 _ _ _ h8
          try have f4 := cell_of_row _ _ 4 _ _ _ h8
          try have f5 := cell_of_row _ _ 5 _ _ _ h8
          try have z0 := frozen_of_row _ _ 0 _ _ h8
          try have z1 := frozen_of_row _ _ 1 _ _ h8
          try have z2 := frozen_of_row _ _ 2 _ _ h8
          try have z3 := frozen_of_row _ _ 3 _ _ h8
          try have z4 := frozen_of_row _ _ 4 _ _ h8
          try have z5 := frozen_of_row _ _ 5 _ _ h8
          try simp at f0 f1 f2 f3 f4 f5
          refine wpAnyH_ready (rs := [6]) (by kernel_rfl) (by simp) (AllReadyH.cons (o := _) (by rw [List.getElem?_toArray]; rfl) (fun K hK => ?_) AllReadyH.nil)
          go_simp
          go_at_call 28
          refine (HEAR.out _ hHeld.1).mono ?_
          rintro e w4 ⟨va, rfl, hva, hB4⟩
          obtain ⟨xa, xc, rfl⟩ := hva.1.1.val
          have hnl := hva.1.nil_or
          have hvo := hva.2
          have hvw := hz
          have hvb := hva.1
          clear hva
          try have hlow := h8s
          try replace h8 := (hB4.block _ (by have := h8s; omega)).trans h8
          try replace h8s := Nat.le_trans h8s hB4.size
          refine hK.out _ _ (⟨hHeld.1.trans (hB4.mono (by have := hHeld.2.1; omega)), Nat.le_trans hHeld.2.1 hB4.size, hHeld.2.2.keep hB4⟩) (fun hHeld2 => ?_)
          replace hHeld := hHeld2
          clear hK K hHeld2
          try simp only [Act.put, List.setIfInBounds_toArray, List.set_cons_zero, List.set_cons_succ]
          have hz := hHeld.2.1
          try have f0 := cell_of_row _ _ 0 _ _ _ h8
          try have f1 := cell_of_row _ _ 1 _ _ _ h8
          try have f2 := cell_of_row _ _ 2 _ _ _ h8
          try have f3 := cell_of_row _ _ 3 _ _ _ h8
          try have f4 := cell_of_row _ _ 4 _ _ _ h8
          try have f5 := cell_of_row _ _ 5 _ _ _ h8
          try have z0 := frozen_of_row _ _ 0 _ _ h8
          try have z1 := frozen_of_row _ _ 1 _ _ h8
          try have z2 := frozen_of_row _ _ 2 _ _ h8
          try have z3 := frozen_of_row _ _ 3 _ _ h8
          try have z4 := frozen_of_row _ _ 4 _ _ h8
          try have z5 := frozen_of_row _ _ 5 _ _ h8
          try simp at f0 f1 f2 f3 f4 f5
          refine wpAnyH_take (i := 7) (oi := _) (v := ?_) (by rw [List.getElem?_toArray]; rfl) (by kernel_rfl) (by kernel_rfl) (by kernel_rfl) (by exact fun _ _ _ h => h) (Or.inl ⟨by rfl, ?_⟩) (by assumption) ?_
          rotate_left
          · intro w hSw
            try simp only [Cells, blk, List.cons_append, List.nil_append, and_true, Nat.reduceAdd, Nat.add_zero, Nat.zero_add] at hSw
            go_simp
            try with_reducible rfl
          simp only [Act.put, List.setIfInBounds_toArray, List.set_cons_zero, List.set_cons_succ]
          refine wpAnyH_take (i := 8) (oi := _) (v := ?_) (by rw [List.getElem?_toArray]; rfl) (by kernel_rfl) (by kernel_rfl) (by kernel_rfl) (by exact fun _ _ _ h => h) (Or.inl ⟨by rfl, ?_⟩) (by assumption) ?_
          rotate_left
          · intro w hSw
            try simp only [Cells, blk, List.cons_append, List.nil_append, and_true, Nat.reduceAdd, Nat.add_zero, Nat.zero_add] at hSw
            go_simp
            try with_reducible rfl
          simp only [Act.put, List.setIfInBounds_toArray, List.set_cons_zero, List.set_cons_succ]
          refine wpAnyH_take (i := 9) (oi := _) (v := ?_) (by rw [List.getElem?_toArray]; rfl) (by kernel_rfl) (by kernel_rfl) (by kernel_rfl) (by exact fun _ _ _ h => h) (Or.inl ⟨by rfl, ?_⟩) (by assumption) ?_
          rotate_left
          · intro w hSw
            try simp only [Cells, blk, List.cons_append, List.nil_append, and_true, Nat.reduceAdd, Nat.add_zero, Nat.zero_add] at hSw
            go_simp
            try with_reducible rfl
          simp only [Act.put, List.setIfInBounds_toArray, List.set_cons_zero, List.set_cons_succ]
          refine wpAnyH_ready (rs := [11]) (by kernel_rfl) (by simp) (AllReadyH.cons (o := _) (by rw [List.getElem?_toArray]; rfl) (fun K hK => ?_) AllReadyH.nil)
          go_simp
          generalize hX : World.setCell _ _ _ = w9
          obtain ⟨h9, hg9⟩ := set6 h8 hX
          clear hX
          have hva9 := set6_by hg9 hvb (by
            rcases hnl with e | ⟨b, e1, e2⟩
            · exact .inl e
            · refine .inr ⟨b, e1, ?_⟩
              have := hvo b e1
              omega)
          refine hK.out _ _ (⟨hHeld.1.grown hg9 (by have := hHeld.2.1; omega) (fun q hq => by have := hi8; simp at hq; omega), Nat.le_trans hHeld.2.1 hg9.size, hHeld.2.2.grown hg9 (fun x hx => by have := hi8; simp [blk] at hx; rcases hx with rfl | rfl | rfl | rfl | rfl | rfl | rfl | rfl <;> (simp; omega))⟩) (fun hHeld2 => ?_)
          replace hHeld := hHeld2
          clear hK K hHeld2
          try simp only [Act.put, List.setIfInBounds_toArray, List.set_cons_zero, List.set_cons_succ]
          have hz := hHeld.2.1
          refine wpAnyH_take (i := 12) (oi := _) (v := ?_) (by rw [List.getElem?_toArray]; rfl) (by kernel_rfl) (by kernel_rfl) (by kernel_rfl) (by exact fun _ _ _ h => h) (Or.inl ⟨by rfl, ?_⟩) (by assumption) ?_
          rotate_left
          · intro w hSw
            try simp only [Cells, blk, List.cons_append, List.nil_append, and_true, Nat.reduceAdd, Nat.add_zero, Nat.zero_add] at hSw
            go_simp
            try with_reducible rfl
          simp only [Act.put, List.setIfInBounds_toArray, List.set_cons_zero, List.set_cons_succ]
          refine wpAnyH_done (by kernel_rfl) ?_ _
          go_wp2_with fail
          go_meet
          exact ⟨_, _, rfl, rfl, h9, hva9, fun b hb => Nat.le_trans hvw (hvo b hb), hi8, hHeld.1⟩
      case rest =>
        obtain ⟨i, va, rfl, rfl, hi, hva, hvlo, hilo, hBX⟩ := hcut
        rename World => X
        obtain ⟨xa, xc, rfl⟩ := hva.1.val
        have hB2 := HB.out.trans (hBX.mono hszr)
        have hinvX := hinv.out.below hBX
        have HI := Lib.hid hi
        have HINVX := Lib.hid hinvX
        have HBX2 := Lib.hid hB2
        have HBASEX := Lib.hid (show w.heap.size + 1 ≤ X.heap.size from Nat.le_trans hszr hBX.size)
        cases okv
        · have e := HHN.out rfl
          have hm2 : m = (heard ls js ss ts (l.take (k + 1))).length := by rw [e]; exact hm.out
          have HM2 := Lib.hid hm2
          clear hm2 e hi hva hvlo hB2 hinvX T
          go_wp2
          refine ⟨⟨k + 1, m, q, vs, by omega, by simp, HM2.out, hne, HINVX.out, hmem, hsrt, HBX2.out⟩, ?_⟩
          simp [intOf]
          omega
        · have e := HHS.out rfl
          have hm1 : m + 1 = (heard ls js ss ts (l.take (k + 1))).length := by rw [e, List.length_append, ← hm.out]; rfl
          have hrm : hf' m = ⟨r0, r1, r2, r3, r4, rb⟩ := by rw [HFF.out]; exact heard_at hm.out e
          have hm64 : m + 1 ≤ 64 := by
            rw [hm1]
            exact Nat.le_trans (heard_len _ _ _ _ _) (by rw [List.length_take]; omega)
          have hr2 := hinvX.row2
          rw [prm_len] at hr2
          rcases hr2 with ⟨e0, _⟩ | ⟨gb, cap, rfl, hgb, hrow⟩
          · exact absurd e0 hne
          have hcap : m ≤ cap := by
            have h := hinvX.own
            rw [prm_len] at h
            rcases h.2 with ⟨h, _⟩ | ⟨g', cap', cur, h, _, _, h3, _⟩
            · cases h
            · simp only [Value.slice.injEq] at h
              omega
          have hgb2 : gb < wr.heap.size := (hinv.out.own.lt gb (by simp [Value.ownBlock])).2
          have hrd0 : Rd1 (w.heap.size + 1) X (.slice (some ⟨gb, 0, none⟩) m cap) ⟨r0, r1, r2, r3, r4, rb⟩ (.slice xa rb.length xc) := by
            refine ⟨hva, ?_⟩
            rcases hva.nil_or with h | ⟨b', e1, e2⟩
            · exact .inl h
            · refine .inr ⟨b', e1, Nat.le_trans hszr (hvlo b' e1), e2, fun e => ?_⟩
              have := hvlo b' e1
              simp [Value.ownBlock] at e
              omega
          have HM1 := Lib.hid hm1
          have HRM := Lib.hid hrm
          have HM64 := Lib.hid hm64
          have HCAP := Lib.hid hcap
          have HRD := Lib.hid hrd0
          have HROW := Lib.hid hrow
          have HBASE := HBASEX
          have TI : Cells X (blk i 0 0 [.int .i64 r0, .int .i64 r1, .int .i64 r2, .int .i64 r3, .int .i64 r4, .slice xa rb.length xc]) := ⟨cell_of_row _ _ 0 _ _ _ hi, cell_of_row _ _ 1 _ _ _ hi, cell_of_row _ _ 2 _ _ _ hi, cell_of_row _ _ 3 _ _ _ hi, cell_of_row _ _ 4 _ _ _ hi, cell_of_row _ _ 5 _ _ _ hi, trivial⟩
          clear e hm1 hrm hm64 hcap hrd0 hi hva hvlo hB2 hinvX T hrow
          go_wp2
          go_loopw [11] (fun v wr2 => ∃ t : Nat, v = .int .i64 t ∧ t ≤ m ∧ Hid (∀ j, t ≤ j → j < m → rlt (hf' m) (hf' (q j))) ∧ Below X.heap.size X wr2) (fun v _ => (intOf v).toNat)
          case atStart => exact ⟨m, rfl, Nat.le_refl _, fun j h1 h2 => by omega, Below.refl _ _⟩
          case round =>
            obtain ⟨t, rfl, htm, hlow, hBW⟩ := hrel
            rename World => V
            by_cases ht : 0 < t
            · have g2 : decide (0 < t) = true := by simpa using ht
              obtain ⟨t1, ht1⟩ : ∃ t1, t = t1 + 1 := ⟨t - 1, by omega⟩
              have w3 : IntKind.i64.wrap ((t : Int) - 1) = (t1 : Int) := by have := HM64.out; rw [IntWalk.i64_in _ (by omega)]; omega
              have i3 : (t1 : Int) < (m : Int) := by omega
              have hrw := HROW.out.below hBW
              have hcl := hrw.cells (show t1 < m by omega)
              obtain ⟨⟨s0, s1, s2, s3, s4, sb⟩, hs⟩ : ∃ r, hf' (q t1) = r := ⟨_, rfl⟩
              obtain ⟨sv, hsv⟩ : ∃ v, vs.getD t1 (.slice none 0 0) = v := ⟨_, rfl⟩
              have hsd : (prm hf' q m).getD t1 default = ⟨s0, s1, s2, s3, s4, sb⟩ := by
                rw [← hs, List.getD_eq_getElem?_getD, List.getElem?_eq_getElem (by rw [prm_len]; omega)]
                exact prm_get _ _ _ _ _
              rw [hsd, hsv, Nat.zero_add] at hcl
              simp only [elOf] at hcl
              have T := hcl.app (TI.keep hBW)
              obtain ⟨cb, hcb⟩ : ∃ c, decide (r3 < s3 ∨ (r3 = s3 ∧ (r0 < s0 ∨ (r0 = s0 ∧ r1 < s1)))) = c := ⟨_, rfl⟩
              have haf := fun W => after_any s0 s1 s2 s3 s4 r0 r1 r2 r3 r4 sv (.slice xa rb.length xc) W
              simp only [hcb] at haf
              have hcr : cb = true ↔ rlt (hf' m) (hf' (q t1)) := by
                rw [HRM.out, hs, ← hcb]
                unfold rlt
                simp
              have HAF := Lib.hid haf
              have HCR := Lib.hid hcr
              have HT1 := Lib.hid ht1
              clear hrw hcl hs hsv hsd haf hcb hcr ht1
              cases cb
              · have HSTOP : Hid (t = 0 ∨ ¬ rlt (hf' m) (hf' (q (t - 1)))) := .inr (by
                  have := HT1.out
                  rw [show t - 1 = t1 by omega]
                  exact fun h => by have := HCR.out.2 h; cases this)
                have HLOW := hlow
                go_wp2_with fail
                refine wp_region_held_drew (S := (fun W' : World => Cells W' (blk gb (t1 * 6) 0 [.int .i64 s0, .int .i64 s1, .int .i64 s2, .int .i64 s3, .int .i64 s4, sv] ++ blk i 0 0 [.int .i64 r0, .int .i64 r1, .int .i64 r2, .int .i64 r3, .int .i64 r4, .slice xa rb.length xc]))) (by kernel_rfl) (T.drew) (fun hHeld => ?_)
                refine wpAnyH_take (i := 0) (oi := _) (v := ?_) (by rw [List.getElem?_toArray]; rfl) (by kernel_rfl) (by kernel_rfl) (by kernel_rfl) (by exact fun _ _ _ h => h) (Or.inl ⟨by rfl, ?_⟩) (by assumption) ?_
                rotate_left
                · intro w hSw
                  try simp only [Cells, blk, List.cons_append, List.nil_append, and_true, Nat.reduceAdd, Nat.add_zero, Nat.zero_add] at hSw
                  go_simp
                  try with_reducible rfl
                simp only [Act.put, List.setIfInBounds_toArray, List.set_cons_zero, List.set_cons_succ]
                refine wpAnyH_take (i := 1) (oi := _) (v := ?_) (by rw [List.getElem?_toArray]; rfl) (by kernel_rfl) (by kernel_rfl) (by kernel_rfl) (by exact fun _ _ _ h => h) (Or.inl ⟨by rfl, ?_⟩) (by assumption) ?_
                rotate_left
                · intro w hSw
                  try simp only [Cells, blk, List.cons_append, List.nil_append, and_true, Nat.reduceAdd, Nat.add_zero, Nat.zero_add] at hSw
                  go_simp
                  try with_reducible rfl
                simp only [Act.put, List.setIfInBounds_toArray, List.set_cons_zero, List.set_cons_succ]
                refine wpAnyH_take (i := 2) (oi := _) (v := ?_) (by rw [List.getElem?_toArray]; rfl) (by kernel_rfl) (by kernel_rfl) (by kernel_rfl) (by exact fun _ _ _ h => h) (Or.inl ⟨by rfl, ?_⟩) (by assumption) ?_
                rotate_left
                · intro w hSw
                  try simp only [Cells, blk, List.cons_append, List.nil_append, and_true, Nat.reduceAdd, Nat.add_zero, Nat.zero_add] at hSw
                  go_simp
                  try with_reducible rfl
                simp only [Act.put, List.setIfInBounds_toArray, List.set_cons_zero, List.set_cons_succ]
                refine wpAnyH_take (i := 3) (oi := _) (v := ?_) (by rw [List.getElem?_toArray]; rfl) (by kernel_rfl) (by kernel_rfl) (by kernel_rfl) (by exact fun _ _ _ h => h) (Or.inl ⟨by rfl, ?_⟩) (by assumption) ?_
                rotate_left
                · intro w hSw
                  try simp only [Cells, blk, List.cons_append, List.nil_append, and_true, Nat.reduceAdd, Nat.add_zero, Nat.zero_add] at hSw
                  go_simp
                  try with_reducible rfl
                simp only [Act.put, List.setIfInBounds_toArray, List.set_cons_zero, List.set_cons_succ]
                refine wpAnyH_take (i := 4) (oi := _) (v := ?_) (by rw [List.getElem?_toArray]; rfl) (by kernel_rfl) (by kernel_rfl) (by kernel_rfl) (by exact fun _ _ _ h => h) (Or.inl ⟨by rfl, ?_⟩) (by assumption) ?_
                rotate_left
                · intro w hSw
                  try simp only [Cells, blk, List.cons_append, List.nil_append, and_true, Nat.reduceAdd, Nat.add_zero, Nat.zero_add] at hSw
                  go_simp
                  try with_reducible rfl
                simp only [Act.put, List.setIfInBounds_toArray, List.set_cons_zero, List.set_cons_succ]
                refine wpAnyH_take (i := 5) (oi := _) (v := ?_) (by rw [List.getElem?_toArray]; rfl) (by kernel_rfl) (by kernel_rfl) (by kernel_rfl) (by exact fun _ _ _ h => h) (Or.inl ⟨by rfl, ?_⟩) (by assumption) ?_
                rotate_left
                · intro w hSw
                  try simp only [Cells, blk, List.cons_append, List.nil_append, and_true, Nat.reduceAdd, Nat.add_zero, Nat.zero_add] at hSw
                  go_simp
                  try with_reducible rfl
                simp only [Act.put, List.setIfInBounds_toArray, List.set_cons_zero, List.set_cons_succ]
                refine wpAnyH_take (i := 6) (oi := _) (v := ?_) (by rw [List.getElem?_toArray]; rfl) (by kernel_rfl) (by kernel_rfl) (by kernel_rfl) (by exact fun _ _ _ h => h) (Or.inl ⟨by rfl, ?_⟩) (by assumption) ?_
                rotate_left
                · intro w hSw
                  try simp only [Cells, blk, List.cons_append, List.nil_append, and_true, Nat.reduceAdd, Nat.add_zero, Nat.zero_add] at hSw
                  go_simp
                  try with_reducible rfl
                simp only [Act.put, List.setIfInBounds_toArray, List.set_cons_zero, List.set_cons_succ]
                refine wpAnyH_take (i := 7) (oi := _) (v := ?_) (by rw [List.getElem?_toArray]; rfl) (by kernel_rfl) (by kernel_rfl) (by kernel_rfl) (by exact fun _ _ _ h => h) (Or.inl ⟨by rfl, ?_⟩) (by assumption) ?_
                rotate_left
                · intro w hSw
                  try simp only [Cells, blk, List.cons_append, List.nil_append, and_true, Nat.reduceAdd, Nat.add_zero, Nat.zero_add] at hSw
                  go_simp
                  try with_reducible rfl
                simp only [Act.put, List.setIfInBounds_toArray, List.set_cons_zero, List.set_cons_succ]
                refine wpAnyH_take (i := 8) (oi := _) (v := ?_) (by rw [List.getElem?_toArray]; rfl) (by kernel_rfl) (by kernel_rfl) (by kernel_rfl) (by exact fun _ _ _ h => h) (Or.inl ⟨by rfl, ?_⟩) (by assumption) ?_
                rotate_left
                · intro w hSw
                  try simp only [Cells, blk, List.cons_append, List.nil_append, and_true, Nat.reduceAdd, Nat.add_zero, Nat.zero_add] at hSw
                  go_simp
                  try with_reducible rfl
                simp only [Act.put, List.setIfInBounds_toArray, List.set_cons_zero, List.set_cons_succ]
                refine wpAnyH_ready (rs := [9]) (by kernel_rfl) (by simp) (AllReadyH.cons (o := _) (by rw [List.getElem?_toArray]; rfl) (fun K hK => ?_) AllReadyH.nil)
                go_simp
                go_at_call 50
                refine (HAF.out _).mono ?_
                rintro e Y ⟨rfl, hBY0⟩
                have T3 := Cells.keep (T.drew) hBY0
                have hBY : Below X.heap.size X Y := hBW.drew.trans (hBY0.mono hBW.drew.size)
                clear hHeld
                refine hK.out _ _ (T3) (fun hHeld => ?_)
                clear hK K
                try simp only [Act.put, List.setIfInBounds_toArray, List.set_cons_zero, List.set_cons_succ]
                refine wpAnyH_take (i := 10) (oi := _) (v := ?_) (by rw [List.getElem?_toArray]; rfl) (by kernel_rfl) (by kernel_rfl) (by kernel_rfl) (by exact fun _ _ _ h => h) (Or.inl ⟨by rfl, ?_⟩) (by assumption) ?_
                rotate_left
                · intro w hSw
                  try simp only [Cells, blk, List.cons_append, List.nil_append, and_true, Nat.reduceAdd, Nat.add_zero, Nat.zero_add] at hSw
                  go_simp
                  try with_reducible rfl
                simp only [Act.put, List.setIfInBounds_toArray, List.set_cons_zero, List.set_cons_succ]
                refine wpAnyH_done (by kernel_rfl) ?_ _
                clear T T3 hBY0
                have hinvY := HINVX.out.below hBY
                have hiY := (hBY.block i (Array.getElem?_eq_some_iff.1 HI.out).1).trans HI.out
                have hsY : X.heap.size ≤ Y.heap.size := hBY.size
                have TY : Cells Y (blk i 0 0 [.int .i64 r0, .int .i64 r1, .int .i64 r2, .int .i64 r3, .int .i64 r4, .slice xa rb.length xc]) := ⟨cell_of_row _ _ 0 _ _ _ hiY, cell_of_row _ _ 1 _ _ _ hiY, cell_of_row _ _ 2 _ _ _ hiY, cell_of_row _ _ 3 _ _ _ hiY, cell_of_row _ _ 4 _ _ _ hiY, cell_of_row _ _ 5 _ _ _ hiY, trivial⟩
                have hrd1 : Rd1 (w.heap.size + 1) Y (.slice (some ⟨gb, 0, none⟩) m cap) ⟨r0, r1, r2, r3, r4, rb⟩ (.slice xa rb.length xc) := HRD.out.below hBY
                have hlv := hinvY.len
                rw [prm_len] at hlv
                have hl1 : ((rcells (prm hf' q m) vs).take (t * 6)).length = t * 6 := by rw [List.length_take, rcells_len _ _ hinvY.len, prm_len]; omega
                have hl2 : ((rcells (prm hf' q m) vs).drop (t * 6)).length = (m - t) * 6 := by rw [List.length_drop, rcells_len _ _ hinvY.len, prm_len]; omega
                have hon := rcells_one _ _ hinvY.len hinvY.one
                have ho1 : ∀ u ∈ (rcells (prm hf' q m) vs).take (t * 6), u.oneCell' = true := fun u hu => hon u (List.mem_of_mem_take hu)
                have ho2 : ∀ u ∈ (rcells (prm hf' q m) vs).drop (t * 6), u.oneCell' = true := fun u hu => hon u (List.mem_of_mem_drop hu)
                have hnw1 : ∀ W, Below Y.heap.size Y W → ∀ j u, ((rcells (prm hf' q m) vs).take (t * 6))[j]? = some u → W.cell? ((⟨gb, 0, none⟩ : Addr).add j) = some u := fun W hW j u hj => by
                  rw [List.getElem?_take] at hj
                  split at hj
                  · exact hinvY.news (prm_len _ _ _) hW 0 j u (by simpa using hj)
                  · cases hj
                have hnw2 : ∀ W, Below Y.heap.size Y W → ∀ j u, ((rcells (prm hf' q m) vs).drop (t * 6))[j]? = some u → W.cell? ((if cap = t then ⟨gb, 0, none⟩ else ⟨gb, t * 6, none⟩ : Addr).add j) = some u := fun W hW j u hj => by
                  by_cases hct : cap = t
                  · have hlt := (List.getElem?_eq_some_iff.1 hj).1
                    rw [hl2] at hlt
                    have := HCAP.out
                    omega
                  · rw [if_neg hct]
                    exact hinvY.news (prm_len _ _ _) hW (t * 6) j u hj
                have NW1 := Lib.hid hnw1
                have NW2 := Lib.hid hnw2
                have HO1 := Lib.hid ho1
                have HO2 := Lib.hid ho2
                have HL1 := Lib.hid hl1
                have HL2 := Lib.hid hl2
                have HINVY := Lib.hid hinvY
                have HRD1 := Lib.hid hrd1
                have HTM := Lib.hid htm
                have HBY := Lib.hid hBY
                have j1 : (0 : Int) ≤ (t : Int) := by omega
                have j2 : (t : Int) ≤ (m : Int) := by omega
                have j3 : (t : Int) ≤ (cap : Int) := by have := HCAP.out; omega
                have j4 : (m : Int) ≤ (cap : Int) := by have := HCAP.out; omega
                clear hinvY hiY hrd1 hlv hl1 hl2 hon ho1 ho2 hnw1 hnw2 hBY
                go_upto_region 10 with fail
                refine wp_region_held_drew (S := (fun W' : World => Below Y.heap.size Y W' ∧ Y.heap.size ≤ W'.heap.size ∧ Cells W' (blk i 0 0 [.int .i64 r0, .int .i64 r1, .int .i64 r2, .int .i64 r3, .int .i64 r4, .slice xa rb.length xc]))) (by kernel_rfl) (⟨(Below.refl _ _).drew, Nat.le_refl _, TY.drew⟩) (fun hHeld => ?_)
                generalize World.drew _ = wd at hHeld ⊢
                have hz := hHeld.2.1
                refine wpAnyH_take (i := 1) (oi := _) (v := ?_) (by rw [List.getElem?_toArray]; rfl) (by kernel_rfl) (by kernel_rfl) (by kernel_rfl) (by exact fun _ _ _ h => h) (Or.inl ⟨by rfl, ?_⟩) (by assumption) ?_
                rotate_left
                · intro w hSw
                  try simp only [Cells, blk, List.cons_append, List.nil_append, and_true, Nat.reduceAdd, Nat.add_zero, Nat.zero_add] at hSw
                  go_simp
                  try with_reducible rfl
                simp only [Act.put, List.setIfInBounds_toArray, List.set_cons_zero, List.set_cons_succ]
                refine wpAnyH_take (i := 2) (oi := _) (v := ?_) (by rw [List.getElem?_toArray]; rfl) (by kernel_rfl) (by kernel_rfl) (by kernel_rfl) (by exact fun _ _ _ h => h) (Or.inl ⟨by rfl, ?_⟩) (by assumption) ?_
                rotate_left
                · intro w hSw
                  try simp only [Cells, blk, List.cons_append, List.nil_append, and_true, Nat.reduceAdd, Nat.add_zero, Nat.zero_add] at hSw
                  go_simp
                  try with_reducible rfl
                simp only [Act.put, List.setIfInBounds_toArray, List.set_cons_zero, List.set_cons_succ]
                refine wpAnyH_take (i := 3) (oi := _) (v := ?_) (by rw [List.getElem?_toArray]; rfl) (by kernel_rfl) (by kernel_rfl) (by kernel_rfl) (by exact fun _ _ _ h => h) (Or.inl ⟨by rfl, ?_⟩) (by assumption) ?_
                rotate_left
                · intro w hSw
                  try simp only [Cells, blk, List.cons_append, List.nil_append, and_true, Nat.reduceAdd, Nat.add_zero, Nat.zero_add] at hSw
                  go_simp
                  try with_reducible rfl
                simp only [Act.put, List.setIfInBounds_toArray, List.set_cons_zero, List.set_cons_succ]
                refine wpAnyH_take (i := 5) (oi := _) (v := ?_) (by rw [List.getElem?_toArray]; rfl) (by kernel_rfl) (by kernel_rfl) (by kernel_rfl) (by exact fun _ _ _ h => h) (Or.inl ⟨by rfl, ?_⟩) (by assumption) ?_
                rotate_left
                · intro w hSw
                  try simp only [Cells, blk, List.cons_append, List.nil_append, and_true, Nat.reduceAdd, Nat.add_zero, Nat.zero_add] at hSw
                  go_simp
                  try with_reducible rfl
                simp only [Act.put, List.setIfInBounds_toArray, List.set_cons_zero, List.set_cons_succ]
                refine wpAnyH_take (i := 8) (oi := _) (v := ?_) (by rw [List.getElem?_toArray]; rfl) (by kernel_rfl) (by kernel_rfl) (by kernel_rfl) (by exact fun _ _ _ h => h) (Or.inl ⟨by rfl, ?_⟩) (by assumption) ?_
                rotate_left
                · intro w hSw
                  try simp only [Cells, blk, List.cons_append, List.nil_append, and_true, Nat.reduceAdd, Nat.add_zero, Nat.zero_add] at hSw
                  go_simp
                  try with_reducible rfl
                simp only [Act.put, List.setIfInBounds_toArray, List.set_cons_zero, List.set_cons_succ]
                refine wpAnyH_take (i := 9) (oi := _) (v := ?_) (by rw [List.getElem?_toArray]; rfl) (by kernel_rfl) (by kernel_rfl) (by kernel_rfl) (by exact fun _ _ _ h => h) (Or.inl ⟨by rfl, ?_⟩) (by assumption) ?_
                rotate_left
                · intro w hSw
                  try simp only [Cells, blk, List.cons_append, List.nil_append, and_true, Nat.reduceAdd, Nat.add_zero, Nat.zero_add] at hSw
                  go_simp
                  try with_reducible rfl
                simp only [Act.put, List.setIfInBounds_toArray, List.set_cons_zero, List.set_cons_succ]
                refine wpAnyH_take (i := 10) (oi := _) (v := ?_) (by rw [List.getElem?_toArray]; rfl) (by kernel_rfl) (by kernel_rfl) (by kernel_rfl) (by exact fun _ _ _ h => h) (Or.inl ⟨by rfl, ?_⟩) (by assumption) ?_
                rotate_left
                · intro w hSw
                  try simp only [Cells, blk, List.cons_append, List.nil_append, and_true, Nat.reduceAdd, Nat.add_zero, Nat.zero_add] at hSw
                  go_simp
                  try with_reducible rfl
                simp only [Act.put, List.setIfInBounds_toArray, List.set_cons_zero, List.set_cons_succ]
                refine wpAnyH_ready (rs := [0, 6]) (by kernel_rfl) (by simp) (AllReadyH.cons (o := _) (by rw [List.getElem?_toArray]; rfl) (fun K hK => ?_) (AllReadyH.cons (o := _) (by rw [List.getElem?_toArray]; rfl) (fun K hK => ?_) AllReadyH.nil))
                · go_simp
                  generalize hX : World.alloc _ (.cells #[] 47) = w2
                  have own1 := World.ownsRow_made (base := Y.heap.size) (e := 47) (size := 6) _ #[] 0 hz (by unfold maxLen; omega) rfl
                  rw [hX] at own1
                  obtain ⟨h2, hB2, h2z⟩ := alloc_named hX
                  have h2l := Nat.le_of_eq h2z.symm
                  clear hX h2z h2
                  try have hc6 := hc6.below2 hB2
                  refine hK.out _ _ (⟨hHeld.1.trans (hB2.mono (by have := hHeld.2.1; omega)), Nat.le_trans hHeld.2.1 hB2.size, hHeld.2.2.keep hB2⟩) (fun hHeld2 => ?_)
                  replace hHeld := hHeld2
                  clear hK K hHeld2
                  try simp only [Act.put, List.setIfInBounds_toArray, List.set_cons_zero, List.set_cons_succ]
                  have hz := hHeld.2.1
                  refine wpAnyH_ready (rs := [4, 6]) (by kernel_rfl) (by simp) (AllReadyH.cons (o := _) (by rw [List.getElem?_toArray]; rfl) (fun K hK => ?_) (AllReadyH.cons (o := _) (by rw [List.getElem?_toArray]; rfl) (fun K hK => ?_) AllReadyH.nil))
                  · refine step_append_at (by rfl) _ _ 55 (by rfl) Y.heap.size 47 i6 (.agg #[.int .i64 0, .int .i64 0, .int .i64 0, .int .i64 0, .int .i64 0, .slice none 0 0]) 6 64 Try.underlying55 hi6 hy0 hy1 hy2 rfl (by decide) _ (0) ([]) (by rfl) own1 ⟨gb, 0, none⟩ (t) (cap) ((rcells (prm hf' q m) vs).take (t * 6)) (by rfl) HL1.out (NW1.out _ hHeld.1) HO1.out (by have := HM64.out; unfold maxLen; omega) (by have := HM64.out; omega) hz ?_
                    intro v4 w4 own2 hg4 hne4
                    have hB4 := hHeld.1.grown hg4 hz (fun b hb => (own1.lt b hb).1)
                    have ng4 : v4 ≠ .slice none 0 0 := fun e => by cases hne4 e
                    try replace hc6 := hc6.grown2 hg4 (fun e => by simp [Value.ownBlock] at e; omega)
                    clear own1 hne4
                    refine hK.out _ _ (⟨hB4, Nat.le_trans hHeld.2.1 hg4.size, TY.keep hB4⟩) (fun hHeld2 => ?_)
                    replace hHeld := hHeld2
                    clear hK K hHeld2
                    try simp only [Act.put, List.setIfInBounds_toArray, List.set_cons_zero, List.set_cons_succ]
                    have hz := hHeld.2.1
                    refine wpAnyH_ready (rs := [6]) (by kernel_rfl) (by simp) (AllReadyH.cons (o := _) (by rw [List.getElem?_toArray]; rfl) (fun K hK => ?_) AllReadyH.nil)
                    go_simp
                    generalize hX : World.alloc _ (.cells #[.int .i64 r0, .int .i64 r1, .int .i64 r2, .int .i64 r3, .int .i64 r4, .slice xa rb.length xc] 47) = w6
                    obtain ⟨h6, hB6, h6z⟩ := alloc_named hX
                    have hc6 : New6 w6 _ [.int .i64 r0, .int .i64 r1, .int .i64 r2, .int .i64 r3, .int .i64 r4, .slice xa rb.length xc] := new6_of h6
                    have h6l := Nat.le_of_eq h6z.symm
                    clear hX h6z h6
                    try replace own1 := own_below own1 hB6
                    try replace own2 := own_below own2 hB6
                    refine hK.out _ _ (⟨hHeld.1.trans (hB6.mono (by have := hHeld.2.1; omega)), Nat.le_trans hHeld.2.1 hB6.size, hHeld.2.2.keep hB6⟩) (fun hHeld2 => ?_)
                    replace hHeld := hHeld2
                    clear hK K hHeld2
                    try simp only [Act.put, List.setIfInBounds_toArray, List.set_cons_zero, List.set_cons_succ]
                    have hz := hHeld.2.1
                    refine wpAnyH_ready (rs := [7]) (by kernel_rfl) (by simp) (AllReadyH.cons (o := _) (by rw [List.getElem?_toArray]; rfl) (fun K hK => ?_) AllReadyH.nil)
                    refine step_append_at (by rfl) _ _ 55 (by rfl) Y.heap.size 47 i6 (.agg #[.int .i64 0, .int .i64 0, .int .i64 0, .int .i64 0, .int .i64 0, .slice none 0 0]) 6 64 Try.underlying55 hi6 hy0 hy1 hy2 rfl (by decide) _ (0 + t) ([] ++ (rcells (prm hf' q m) vs).take (t * 6)) (by rfl) own2 ⟨_, 0, none⟩ (1) (1) ([.int .i64 r0, .int .i64 r1, .int .i64 r2, .int .i64 r3, .int .i64 r4, .slice xa rb.length xc]) (by rfl) (by rfl) hc6.news (by intro u hu; simp at hu; rcases hu with rfl | rfl | rfl | rfl | rfl | rfl <;> rfl) (by have := HM64.out; unfold maxLen; omega) (by have := HM64.out; omega) hz ?_
                    intro v7 w7 own3 hg7 hne7
                    have hB7 := hHeld.1.grown hg7 hz (fun b hb => (own2.lt b hb).1)
                    have ng7 : v7 ≠ .slice none 0 0 := fun e => ng4 (hne7 e)
                    clear own2 hne7 hc6
                    refine hK.out _ _ (⟨hB7, Nat.le_trans hHeld.2.1 hg7.size, TY.keep hB7⟩) (fun hHeld2 => ?_)
                    replace hHeld := hHeld2
                    clear hK K hHeld2
                    try simp only [Act.put, List.setIfInBounds_toArray, List.set_cons_zero, List.set_cons_succ]
                    have hz := hHeld.2.1
                    refine wpAnyH_ready (rs := [11]) (by kernel_rfl) (by simp) (AllReadyH.cons (o := _) (by rw [List.getElem?_toArray]; rfl) (fun K hK => ?_) AllReadyH.nil)
                    refine step_append_at (by rfl) _ _ 55 (by rfl) Y.heap.size 47 i6 (.agg #[.int .i64 0, .int .i64 0, .int .i64 0, .int .i64 0, .int .i64 0, .slice none 0 0]) 6 64 Try.underlying55 hi6 hy0 hy1 hy2 rfl (by decide) _ (0 + t + 1) (([] ++ (rcells (prm hf' q m) vs).take (t * 6)) ++ [.int .i64 r0, .int .i64 r1, .int .i64 r2, .int .i64 r3, .int .i64 r4, .slice xa rb.length xc]) (by rfl) own3 (if cap = t then ⟨gb, 0, none⟩ else ⟨gb, t * 6, none⟩) (m - t) (cap - t) ((rcells (prm hf' q m) vs).drop (t * 6)) (by show Value.slice (if cap = t then some (⟨gb, 0, none⟩ : Addr) else some ⟨gb, t * 6, none⟩) (m - t) (cap - t) = _; split <;> rfl) HL2.out (NW2.out _ hHeld.1) HO2.out (by have := HM64.out; unfold maxLen; omega) (by have := HM64.out; omega) hz ?_
                    intro v11 w11 own4 hg11 hne11
                    have hB11 := hHeld.1.grown hg11 hz (fun b hb => (own3.lt b hb).1)
                    have ng11 : v11 ≠ .slice none 0 0 := fun e => ng7 (hne11 e)
                    have fin := rinv_ins (t := t) HINVY.out HRD1.out (by rw [prm_len]; exact HTM.out) hB11 (by have := HBASE.out; omega) (by rw [prm_len]; exact own4)
                    have hqm : q m = m := hmem.out.out m (.inr (Nat.le_refl _))
                    rw [← HRM.out, prm_ins HTM.out hqm] at fin
                    have FIN := Lib.hid fin
                    have hidx : ∀ j, 0 ≤ j → j < m → q j < q m := fun j h1 h2 => by
                      obtain ⟨x, _, hx, e⟩ := hmem.out.from' j h1 h2
                      rw [e, hqm]
                      exact hx
                    have srt := srt_down (rlt_swo hf') hsrt.out hidx (Nat.zero_le t) HTM.out (fun j h1 h2 => by rw [hqm]; exact HLOW.out j h1 h2) (by rw [hqm]; exact HSTOP.out)
                    have mem := (hmem.out.wide (Nat.le_refl 0) (Nat.le_succ m)).trans ((mem_rot (p := q) HTM.out (Nat.le_succ m)).wide (Nat.zero_le t) (Nat.le_refl _))
                    have SRT := Lib.hid srt
                    have MEM := Lib.hid mem
                    clear own3 own4 hne11 fin srt mem hidx
                    refine hK.out _ _ (⟨hB11, Nat.le_trans hHeld.2.1 hg11.size, TY.keep hB11⟩) (fun hHeld2 => ?_)
                    replace hHeld := hHeld2
                    clear hK K hHeld2
                    try simp only [Act.put, List.setIfInBounds_toArray, List.set_cons_zero, List.set_cons_succ]
                    have hz := hHeld.2.1
                    refine wpAnyH_take (i := 12) (oi := _) (v := ?_) (by rw [List.getElem?_toArray]; rfl) (by kernel_rfl) (by kernel_rfl) (by kernel_rfl) (by exact fun _ _ _ h => h) (Or.inl ⟨by rfl, ?_⟩) (by assumption) ?_
                    rotate_left
                    · intro w hSw
                      try simp only [Cells, blk, List.cons_append, List.nil_append, and_true, Nat.reduceAdd, Nat.add_zero, Nat.zero_add] at hSw
                      go_simp
                      try with_reducible rfl
                    simp only [Act.put, List.setIfInBounds_toArray, List.set_cons_zero, List.set_cons_succ]
                    refine wpAnyH_done (by kernel_rfl) ?_ _
                    generalize (if cap = t then some (⟨gb, 0, none⟩ : Addr) else some ⟨gb, t * 6, none⟩) = A2
                    go_wp2
                    refine ⟨⟨k + 1, m + 1, rot q t m (m + 1), _, by omega, by simp, HM1.out, ng11, FIN.out, MEM.out, SRT.out, HBX2.out.trans ((HBY.out.trans (hHeld.1.mono HBY.out.size)).mono HBASEX.out)⟩, ?_⟩
                    simp [intOf]
                    omega
                  · go_simp
                    generalize hX : World.alloc _ (.cells #[.int .i64 r0, .int .i64 r1, .int .i64 r2, .int .i64 r3, .int .i64 r4, .slice xa rb.length xc] 47) = w6
                    obtain ⟨h6, hB6, h6z⟩ := alloc_named hX
                    have hc6 : New6 w6 _ [.int .i64 r0, .int .i64 r1, .int .i64 r2, .int .i64 r3, .int .i64 r4, .slice xa rb.length xc] := new6_of h6
                    have h6l := Nat.le_of_eq h6z.symm
                    clear hX h6z h6
                    try replace own1 := own_below own1 hB6
                    try replace own2 := own_below own2 hB6
                    refine hK.out _ _ (⟨hHeld.1.trans (hB6.mono (by have := hHeld.2.1; omega)), Nat.le_trans hHeld.2.1 hB6.size, hHeld.2.2.keep hB6⟩) (fun hHeld2 => ?_)
                    replace hHeld := hHeld2
                    clear hK K hHeld2
                    try simp only [Act.put, List.setIfInBounds_toArray, List.set_cons_zero, List.set_cons_succ]
                    have hz := hHeld.2.1
                    refine wpAnyH_ready (rs := [4]) (by kernel_rfl) (by simp) (AllReadyH.cons (o := _) (by rw [List.getElem?_toArray]; rfl) (fun K hK => ?_) AllReadyH.nil)
                    refine step_append_at (by rfl) _ _ 55 (by rfl) Y.heap.size 47 i6 (.agg #[.int .i64 0, .int .i64 0, .int .i64 0, .int .i64 0, .int .i64 0, .slice none 0 0]) 6 64 Try.underlying55 hi6 hy0 hy1 hy2 rfl (by decide) _ (0) ([]) (by rfl) own1 ⟨gb, 0, none⟩ (t) (cap) ((rcells (prm hf' q m) vs).take (t * 6)) (by rfl) HL1.out (NW1.out _ hHeld.1) HO1.out (by have := HM64.out; unfold maxLen; omega) (by have := HM64.out; omega) hz ?_
                    intro v4 w4 own2 hg4 hne4
                    have hB4 := hHeld.1.grown hg4 hz (fun b hb => (own1.lt b hb).1)
                    have ng4 : v4 ≠ .slice none 0 0 := fun e => by cases hne4 e
                    try replace hc6 := hc6.grown2 hg4 (fun e => by simp [Value.ownBlock] at e; omega)
                    clear own1 hne4
                    refine hK.out _ _ (⟨hB4, Nat.le_trans hHeld.2.1 hg4.size, TY.keep hB4⟩) (fun hHeld2 => ?_)
                    replace hHeld := hHeld2
                    clear hK K hHeld2
                    try simp only [Act.put, List.setIfInBounds_toArray, List.set_cons_zero, List.set_cons_succ]
                    have hz := hHeld.2.1
                    refine wpAnyH_ready (rs := [7]) (by kernel_rfl) (by simp) (AllReadyH.cons (o := _) (by rw [List.getElem?_toArray]; rfl) (fun K hK => ?_) AllReadyH.nil)
                    refine step_append_at (by rfl) _ _ 55 (by rfl) Y.heap.size 47 i6 (.agg #[.int .i64 0, .int .i64 0, .int .i64 0, .int .i64 0, .int .i64 0, .slice none 0 0]) 6 64 Try.underlying55 hi6 hy0 hy1 hy2 rfl (by decide) _ (0 + t) ([] ++ (rcells (prm hf' q m) vs).take (t * 6)) (by rfl) own2 ⟨_, 0, none⟩ (1) (1) ([.int .i64 r0, .int .i64 r1, .int .i64 r2, .int .i64 r3, .int .i64 r4, .slice xa rb.length xc]) (by rfl) (by rfl) hc6.news (by intro u hu; simp at hu; rcases hu with rfl | rfl | rfl | rfl | rfl | rfl <;> rfl) (by have := HM64.out; unfold maxLen; omega) (by have := HM64.out; omega) hz ?_
                    intro v7 w7 own3 hg7 hne7
                    have hB7 := hHeld.1.grown hg7 hz (fun b hb => (own2.lt b hb).1)
                    have ng7 : v7 ≠ .slice none 0 0 := fun e => ng4 (hne7 e)
                    clear own2 hne7 hc6
                    refine hK.out _ _ (⟨hB7, Nat.le_trans hHeld.2.1 hg7.size, TY.keep hB7⟩) (fun hHeld2 => ?_)
                    replace hHeld := hHeld2
                    clear hK K hHeld2
                    try simp only [Act.put, List.setIfInBounds_toArray, List.set_cons_zero, List.set_cons_succ]
                    have hz := hHeld.2.1
                    refine wpAnyH_ready (rs := [11]) (by kernel_rfl) (by simp) (AllReadyH.cons (o := _) (by rw [List.getElem?_toArray]; rfl) (fun K hK => ?_) AllReadyH.nil)
                    refine step_append_at (by rfl) _ _ 55 (by rfl) Y.heap.size 47 i6 (.agg #[.int .i64 0, .int .i64 0, .int .i64 0, .int .i64 0, .int .i64 0, .slice none 0 0]) 6 64 Try.underlying55 hi6 hy0 hy1 hy2 rfl (by decide) _ (0 + t + 1) (([] ++ (rcells (prm hf' q m) vs).take (t * 6)) ++ [.int .i64 r0, .int .i64 r1, .int .i64 r2, .int .i64 r3, .int .i64 r4, .slice xa rb.length xc]) (by rfl) own3 (if cap = t then ⟨gb, 0, none⟩ else ⟨gb, t * 6, none⟩) (m - t) (cap - t) ((rcells (prm hf' q m) vs).drop (t * 6)) (by show Value.slice (if cap = t then some (⟨gb, 0, none⟩ : Addr) else some ⟨gb, t * 6, none⟩) (m - t) (cap - t) = _; split <;> rfl) HL2.out (NW2.out _ hHeld.1) HO2.out (by have := HM64.out; unfold maxLen; omega) (by have := HM64.out; omega) hz ?_
                    intro v11 w11 own4 hg11 hne11
                    have hB11 := hHeld.1.grown hg11 hz (fun b hb => (own3.lt b hb).1)
                    have ng11 : v11 ≠ .slice none 0 0 := fun e => ng7 (hne11 e)
                    have fin := rinv_ins (t := t) HINVY.out HRD1.out (by rw [prm_len]; exact HTM.out) hB11 (by have := HBASE.out; omega) (by rw [prm_len]; exact own4)
                    have hqm : q m = m := hmem.out.out m (.inr (Nat.le_refl _))
                    rw [← HRM.out, prm_ins HTM.out hqm] at fin
                    have FIN := Lib.hid fin
                    have hidx : ∀ j, 0 ≤ j → j < m → q j < q m := fun j h1 h2 => by
                      obtain ⟨x, _, hx, e⟩ := hmem.out.from' j h1 h2
                      rw [e, hqm]
                      exact hx
                    have srt := srt_down (rlt_swo hf') hsrt.out hidx (Nat.zero_le t) HTM.out (fun j h1 h2 => by rw [hqm]; exact HLOW.out j h1 h2) (by rw [hqm]; exact HSTOP.out)
                    have mem := (hmem.out.wide (Nat.le_refl 0) (Nat.le_succ m)).trans ((mem_rot (p := q) HTM.out (Nat.le_succ m)).wide (Nat.zero_le t) (Nat.le_refl _))
                    have SRT := Lib.hid srt
                    have MEM := Lib.hid mem
                    clear own3 own4 hne11 fin srt mem hidx
                    refine hK.out _ _ (⟨hB11, Nat.le_trans hHeld.2.1 hg11.size, TY.keep hB11⟩) (fun hHeld2 => ?_)
                    replace hHeld := hHeld2
                    clear hK K hHeld2
                    try simp only [Act.put, List.setIfInBounds_toArray, List.set_cons_zero, List.set_cons_succ]
                    have hz := hHeld.2.1
                    refine wpAnyH_take (i := 12) (oi := _) (v := ?_) (by rw [List.getElem?_toArray]; rfl) (by kernel_rfl) (by kernel_rfl) (by kernel_rfl) (by exact fun _ _ _ h => h) (Or.inl ⟨by rfl, ?_⟩) (by assumption) ?_
                    rotate_left
                    · intro w hSw
                      try simp only [Cells, blk, List.cons_append, List.nil_append, and_true, Nat.reduceAdd, Nat.add_zero, Nat.zero_add] at hSw
                      go_simp
                      try with_reducible rfl
                    simp only [Act.put, List.setIfInBounds_toArray, List.set_cons_zero, List.set_cons_succ]
                    refine wpAnyH_done (by kernel_rfl) ?_ _
                    generalize (if cap = t then some (⟨gb, 0, none⟩ : Addr) else some ⟨gb, t * 6, none⟩) = A2
                    go_wp2
                    refine ⟨⟨k + 1, m + 1, rot q t m (m + 1), _, by omega, by simp, HM1.out, ng11, FIN.out, MEM.out, SRT.out, HBX2.out.trans ((HBY.out.trans (hHeld.1.mono HBY.out.size)).mono HBASEX.out)⟩, ?_⟩
                    simp [intOf]
                    omega
                · go_simp
                  generalize hX : World.alloc _ (.cells #[.int .i64 r0, .int .i64 r1, .int .i64 r2, .int .i64 r3, .int .i64 r4, .slice xa rb.length xc] 47) = w6
                  obtain ⟨h6, hB6, h6z⟩ := alloc_named hX
                  have hc6 : New6 w6 _ [.int .i64 r0, .int .i64 r1, .int .i64 r2, .int .i64 r3, .int .i64 r4, .slice xa rb.length xc] := new6_of h6
                  have h6l := Nat.le_of_eq h6z.symm
                  clear hX h6z h6
                  try replace own1 := own_below own1 hB6
                  try replace own2 := own_below own2 hB6
                  refine hK.out _ _ (⟨hHeld.1.trans (hB6.mono (by have := hHeld.2.1; omega)), Nat.le_trans hHeld.2.1 hB6.size, hHeld.2.2.keep hB6⟩) (fun hHeld2 => ?_)
                  replace hHeld := hHeld2
                  clear hK K hHeld2
                  try simp only [Act.put, List.setIfInBounds_toArray, List.set_cons_zero, List.set_cons_succ]
                  have hz := hHeld.2.1
                  refine wpAnyH_ready (rs := [0]) (by kernel_rfl) (by simp) (AllReadyH.cons (o := _) (by rw [List.getElem?_toArray]; rfl) (fun K hK => ?_) AllReadyH.nil)
                  go_simp
                  generalize hX : World.alloc _ (.cells #[] 47) = w2
                  have own1 := World.ownsRow_made (base := Y.heap.size) (e := 47) (size := 6) _ #[] 0 hz (by unfold maxLen; omega) rfl
                  rw [hX] at own1
                  obtain ⟨h2, hB2, h2z⟩ := alloc_named hX
                  have h2l := Nat.le_of_eq h2z.symm
                  clear hX h2z h2
                  try have hc6 := hc6.below2 hB2
                  refine hK.out _ _ (⟨hHeld.1.trans (hB2.mono (by have := hHeld.2.1; omega)), Nat.le_trans hHeld.2.1 hB2.size, hHeld.2.2.keep hB2⟩) (fun hHeld2 => ?_)
                  replace hHeld := hHeld2
                  clear hK K hHeld2
                  try simp only [Act.put, List.setIfInBounds_toArray, List.set_cons_zero, List.set_cons_succ]
                  have hz := hHeld.2.1
                  refine wpAnyH_ready (rs := [4]) (by kernel_rfl) (by simp) (AllReadyH.cons (o := _) (by rw [List.getElem?_toArray]; rfl) (fun K hK => ?_) AllReadyH.nil)
                  refine step_append_at (by rfl) _ _ 55 (by rfl) Y.heap.size 47 i6 (.agg #[.int .i64 0, .int .i64 0, .int .i64 0, .int .i64 0, .int .i64 0, .slice none 0 0]) 6 64 Try.underlying55 hi6 hy0 hy1 hy2 rfl (by decide) _ (0) ([]) (by rfl) own1 ⟨gb, 0, none⟩ (t) (cap) ((rcells (prm hf' q m) vs).take (t * 6)) (by rfl) HL1.out (NW1.out _ hHeld.1) HO1.out (by have := HM64.out; unfold maxLen; omega) (by have := HM64.out; omega) hz ?_
                  intro v4 w4 own2 hg4 hne4
                  have hB4 := hHeld.1.grown hg4 hz (fun b hb => (own1.lt b hb).1)
                  have ng4 : v4 ≠ .slice none 0 0 := fun e => by cases hne4 e
                  try replace hc6 := hc6.grown2 hg4 (fun e => by simp [Value.ownBlock] at e; omega)
                  clear own1 hne4
                  refine hK.out _ _ (⟨hB4, Nat.le_trans hHeld.2.1 hg4.size, TY.keep hB4⟩) (fun hHeld2 => ?_)
                  replace hHeld := hHeld2
                  clear hK K hHeld2
                  try simp only [Act.put, List.setIfInBounds_toArray, List.set_cons_zero, List.set_cons_succ]
                  have hz := hHeld.2.1
                  refine wpAnyH_ready (rs := [7]) (by kernel_rfl) (by simp) (AllReadyH.cons (o := _) (by rw [List.getElem?_toArray]; rfl) (fun K hK => ?_) AllReadyH.nil)
                  refine step_append_at (by rfl) _ _ 55 (by rfl) Y.heap.size 47 i6 (.agg #[.int .i64 0, .int .i64 0, .int .i64 0, .int .i64 0, .int .i64 0, .slice none 0 0]) 6 64 Try.underlying55 hi6 hy0 hy1 hy2 rfl (by decide) _ (0 + t) ([] ++ (rcells (prm hf' q m) vs).take (t * 6)) (by rfl) own2 ⟨_, 0, none⟩ (1) (1) ([.int .i64 r0, .int .i64 r1, .int .i64 r2, .int .i64 r3, .int .i64 r4, .slice xa rb.length xc]) (by rfl) (by rfl) hc6.news (by intro u hu; simp at hu; rcases hu with rfl | rfl | rfl | rfl | rfl | rfl <;> rfl) (by have := HM64.out; unfold maxLen; omega) (by have := HM64.out; omega) hz ?_
                  intro v7 w7 own3 hg7 hne7
                  have hB7 := hHeld.1.grown hg7 hz (fun b hb => (own2.lt b hb).1)
                  have ng7 : v7 ≠ .slice none 0 0 := fun e => ng4 (hne7 e)
                  clear own2 hne7 hc6
                  refine hK.out _ _ (⟨hB7, Nat.le_trans hHeld.2.1 hg7.size, TY.keep hB7⟩) (fun hHeld2 => ?_)
                  replace hHeld := hHeld2
                  clear hK K hHeld2
                  try simp only [Act.put, List.setIfInBounds_toArray, List.set_cons_zero, List.set_cons_succ]
                  have hz := hHeld.2.1
                  refine wpAnyH_ready (rs := [11]) (by kernel_rfl) (by simp) (AllReadyH.cons (o := _) (by rw [List.getElem?_toArray]; rfl) (fun K hK => ?_) AllReadyH.nil)
                  refine step_append_at (by rfl) _ _ 55 (by rfl) Y.heap.size 47 i6 (.agg #[.int .i64 0, .int .i64 0, .int .i64 0, .int .i64 0, .int .i64 0, .slice none 0 0]) 6 64 Try.underlying55 hi6 hy0 hy1 hy2 rfl (by decide) _ (0 + t + 1) (([] ++ (rcells (prm hf' q m) vs).take (t * 6)) ++ [.int .i64 r0, .int .i64 r1, .int .i64 r2, .int .i64 r3, .int .i64 r4, .slice xa rb.length xc]) (by rfl) own3 (if cap = t then ⟨gb, 0, none⟩ else ⟨gb, t * 6, none⟩) (m - t) (cap - t) ((rcells (prm hf' q m) vs).drop (t * 6)) (by show Value.slice (if cap = t then some (⟨gb, 0, none⟩ : Addr) else some ⟨gb, t * 6, none⟩) (m - t) (cap - t) = _; split <;> rfl) HL2.out (NW2.out _ hHeld.1) HO2.out (by have := HM64.out; unfold maxLen; omega) (by have := HM64.out; omega) hz ?_
                  intro v11 w11 own4 hg11 hne11
                  have hB11 := hHeld.1.grown hg11 hz (fun b hb => (own3.lt b hb).1)
                  have ng11 : v11 ≠ .slice none 0 0 := fun e => ng7 (hne11 e)
                  have fin := rinv_ins (t := t) HINVY.out HRD1.out (by rw [prm_len]; exact HTM.out) hB11 (by have := HBASE.out; omega) (by rw [prm_len]; exact own4)
                  have hqm : q m = m := hmem.out.out m (.inr (Nat.le_refl _))
                  rw [← HRM.out, prm_ins HTM.out hqm] at fin
                  have FIN := Lib.hid fin
                  have hidx : ∀ j, 0 ≤ j → j < m → q j < q m := fun j h1 h2 => by
                    obtain ⟨x, _, hx, e⟩ := hmem.out.from' j h1 h2
                    rw [e, hqm]
                    exact hx
                  have srt := srt_down (rlt_swo hf') hsrt.out hidx (Nat.zero_le t) HTM.out (fun j h1 h2 => by rw [hqm]; exact HLOW.out j h1 h2) (by rw [hqm]; exact HSTOP.out)
                  have mem := (hmem.out.wide (Nat.le_refl 0) (Nat.le_succ m)).trans ((mem_rot (p := q) HTM.out (Nat.le_succ m)).wide (Nat.zero_le t) (Nat.le_refl _))
                  have SRT := Lib.hid srt
                  have MEM := Lib.hid mem
                  clear own3 own4 hne11 fin srt mem hidx
                  refine hK.out _ _ (⟨hB11, Nat.le_trans hHeld.2.1 hg11.size, TY.keep hB11⟩) (fun hHeld2 => ?_)
                  replace hHeld := hHeld2
                  clear hK K hHeld2
                  try simp only [Act.put, List.setIfInBounds_toArray, List.set_cons_zero, List.set_cons_succ]
                  have hz := hHeld.2.1
                  refine wpAnyH_take (i := 12) (oi := _) (v := ?_) (by rw [List.getElem?_toArray]; rfl) (by kernel_rfl) (by kernel_rfl) (by kernel_rfl) (by exact fun _ _ _ h => h) (Or.inl ⟨by rfl, ?_⟩) (by assumption) ?_
                  rotate_left
                  · intro w hSw
                    try simp only [Cells, blk, List.cons_append, List.nil_append, and_true, Nat.reduceAdd, Nat.add_zero, Nat.zero_add] at hSw
                    go_simp
                    try with_reducible rfl
                  simp only [Act.put, List.setIfInBounds_toArray, List.set_cons_zero, List.set_cons_succ]
                  refine wpAnyH_done (by kernel_rfl) ?_ _
                  generalize (if cap = t then some (⟨gb, 0, none⟩ : Addr) else some ⟨gb, t * 6, none⟩) = A2
                  go_wp2
                  refine ⟨⟨k + 1, m + 1, rot q t m (m + 1), _, by omega, by simp, HM1.out, ng11, FIN.out, MEM.out, SRT.out, HBX2.out.trans ((HBY.out.trans (hHeld.1.mono HBY.out.size)).mono HBASEX.out)⟩, ?_⟩
                  simp [intOf]
                  omega
              · go_wp2_with fail
                refine wp_region_held_drew (S := (fun W' : World => Cells W' (blk gb (t1 * 6) 0 [.int .i64 s0, .int .i64 s1, .int .i64 s2, .int .i64 s3, .int .i64 s4, sv] ++ blk i 0 0 [.int .i64 r0, .int .i64 r1, .int .i64 r2, .int .i64 r3, .int .i64 r4, .slice xa rb.length xc]))) (by kernel_rfl) (T.drew) (fun hHeld => ?_)
                refine wpAnyH_take (i := 0) (oi := _) (v := ?_) (by rw [List.getElem?_toArray]; rfl) (by kernel_rfl) (by kernel_rfl) (by kernel_rfl) (by exact fun _ _ _ h => h) (Or.inl ⟨by rfl, ?_⟩) (by assumption) ?_
                rotate_left
                · intro w hSw
                  try simp only [Cells, blk, List.cons_append, List.nil_append, and_true, Nat.reduceAdd, Nat.add_zero, Nat.zero_add] at hSw
                  go_simp
                  try with_reducible rfl
                simp only [Act.put, List.setIfInBounds_toArray, List.set_cons_zero, List.set_cons_succ]
                refine wpAnyH_take (i := 1) (oi := _) (v := ?_) (by rw [List.getElem?_toArray]; rfl) (by kernel_rfl) (by kernel_rfl) (by kernel_rfl) (by exact fun _ _ _ h => h) (Or.inl ⟨by rfl, ?_⟩) (by assumption) ?_
                rotate_left
                · intro w hSw
                  try simp only [Cells, blk, List.cons_append, List.nil_append, and_true, Nat.reduceAdd, Nat.add_zero, Nat.zero_add] at hSw
                  go_simp
                  try with_reducible rfl
                simp only [Act.put, List.setIfInBounds_toArray, List.set_cons_zero, List.set_cons_succ]
                refine wpAnyH_take (i := 2) (oi := _) (v := ?_) (by rw [List.getElem?_toArray]; rfl) (by kernel_rfl) (by kernel_rfl) (by kernel_rfl) (by exact fun _ _ _ h => h) (Or.inl ⟨by rfl, ?_⟩) (by assumption) ?_
                rotate_left
                · intro w hSw
                  try simp only [Cells, blk, List.cons_append, List.nil_append, and_true, Nat.reduceAdd, Nat.add_zero, Nat.zero_add] at hSw
                  go_simp
                  try with_reducible rfl
                simp only [Act.put, List.setIfInBounds_toArray, List.set_cons_zero, List.set_cons_succ]
                refine wpAnyH_take (i := 3) (oi := _) (v := ?_) (by rw [List.getElem?_toArray]; rfl) (by kernel_rfl) (by kernel_rfl) (by kernel_rfl) (by exact fun _ _ _ h => h) (Or.inl ⟨by rfl, ?_⟩) (by assumption) ?_
                rotate_left
                · intro w hSw
                  try simp only [Cells, blk, List.cons_append, List.nil_append, and_true, Nat.reduceAdd, Nat.add_zero, Nat.zero_add] at hSw
                  go_simp
                  try with_reducible rfl
                simp only [Act.put, List.setIfInBounds_toArray, List.set_cons_zero, List.set_cons_succ]
                refine wpAnyH_take (i := 4) (oi := _) (v := ?_) (by rw [List.getElem?_toArray]; rfl) (by kernel_rfl) (by kernel_rfl) (by kernel_rfl) (by exact fun _ _ _ h => h) (Or.inl ⟨by rfl, ?_⟩) (by assumption) ?_
                rotate_left
                · intro w hSw
                  try simp only [Cells, blk, List.cons_append, List.nil_append, and_true, Nat.reduceAdd, Nat.add_zero, Nat.zero_add] at hSw
                  go_simp
                  try with_reducible rfl
                simp only [Act.put, List.setIfInBounds_toArray, List.set_cons_zero, List.set_cons_succ]
                refine wpAnyH_take (i := 5) (oi := _) (v := ?_) (by rw [List.getElem?_toArray]; rfl) (by kernel_rfl) (by kernel_rfl) (by kernel_rfl) (by exact fun _ _ _ h => h) (Or.inl ⟨by rfl, ?_⟩) (by assumption) ?_
                rotate_left
                · intro w hSw
                  try simp only [Cells, blk, List.cons_append, List.nil_append, and_true, Nat.reduceAdd, Nat.add_zero, Nat.zero_add] at hSw
                  go_simp
                  try with_reducible rfl
                simp only [Act.put, List.setIfInBounds_toArray, List.set_cons_zero, List.set_cons_succ]
                refine wpAnyH_take (i := 6) (oi := _) (v := ?_) (by rw [List.getElem?_toArray]; rfl) (by kernel_rfl) (by kernel_rfl) (by kernel_rfl) (by exact fun _ _ _ h => h) (Or.inl ⟨by rfl, ?_⟩) (by assumption) ?_
                rotate_left
                · intro w hSw
                  try simp only [Cells, blk, List.cons_append, List.nil_append, and_true, Nat.reduceAdd, Nat.add_zero, Nat.zero_add] at hSw
                  go_simp
                  try with_reducible rfl
                simp only [Act.put, List.setIfInBounds_toArray, List.set_cons_zero, List.set_cons_succ]
                refine wpAnyH_take (i := 7) (oi := _) (v := ?_) (by rw [List.getElem?_toArray]; rfl) (by kernel_rfl) (by kernel_rfl) (by kernel_rfl) (by exact fun _ _ _ h => h) (Or.inl ⟨by rfl, ?_⟩) (by assumption) ?_
                rotate_left
                · intro w hSw
                  try simp only [Cells, blk, List.cons_append, List.nil_append, and_true, Nat.reduceAdd, Nat.add_zero, Nat.zero_add] at hSw
                  go_simp
                  try with_reducible rfl
                simp only [Act.put, List.setIfInBounds_toArray, List.set_cons_zero, List.set_cons_succ]
                refine wpAnyH_take (i := 8) (oi := _) (v := ?_) (by rw [List.getElem?_toArray]; rfl) (by kernel_rfl) (by kernel_rfl) (by kernel_rfl) (by exact fun _ _ _ h => h) (Or.inl ⟨by rfl, ?_⟩) (by assumption) ?_
                rotate_left
                · intro w hSw
                  try simp only [Cells, blk, List.cons_append, List.nil_append, and_true, Nat.reduceAdd, Nat.add_zero, Nat.zero_add] at hSw
                  go_simp
                  try with_reducible rfl
                simp only [Act.put, List.setIfInBounds_toArray, List.set_cons_zero, List.set_cons_succ]
                refine wpAnyH_ready (rs := [9]) (by kernel_rfl) (by simp) (AllReadyH.cons (o := _) (by rw [List.getElem?_toArray]; rfl) (fun K hK => ?_) AllReadyH.nil)
                go_simp
                go_at_call 50
                refine (HAF.out _).mono ?_
                rintro e Y ⟨rfl, hBY0⟩
                have T3 := Cells.keep (T.drew) hBY0
                have hBY : Below X.heap.size X Y := hBW.drew.trans (hBY0.mono hBW.drew.size)
                clear hHeld
                refine hK.out _ _ (T3) (fun hHeld => ?_)
                clear hK K
                try simp only [Act.put, List.setIfInBounds_toArray, List.set_cons_zero, List.set_cons_succ]
                refine wpAnyH_take (i := 10) (oi := _) (v := ?_) (by rw [List.getElem?_toArray]; rfl) (by kernel_rfl) (by kernel_rfl) (by kernel_rfl) (by exact fun _ _ _ h => h) (Or.inl ⟨by rfl, ?_⟩) (by assumption) ?_
                rotate_left
                · intro w hSw
                  try simp only [Cells, blk, List.cons_append, List.nil_append, and_true, Nat.reduceAdd, Nat.add_zero, Nat.zero_add] at hSw
                  go_simp
                  try with_reducible rfl
                simp only [Act.put, List.setIfInBounds_toArray, List.set_cons_zero, List.set_cons_succ]
                refine wpAnyH_done (by kernel_rfl) ?_ _
                clear T T3 hBY0
                go_wp2
                have ht1 := HT1.out
                refine ⟨⟨t1, rfl, by omega, fun j h1 h2 => ?_, hBY⟩, ?_⟩
                · by_cases hj : j = t1
                  · rw [hj]; exact HCR.out.1 (by first | rfl | trivial)
                  · exact hlow.out j (by omega) h2
                · simp [intOf]
                  omega
            · have e0 : t = 0 := by omega
              have g2 : decide (0 < t) = false := by simpa using ht
              have HSTOP : Hid (t = 0 ∨ ¬ rlt (hf' m) (hf' (q (t - 1)))) := .inl e0
              have HLOW := hlow
              clear e0
              go_wp2_with fail
              refine wp_region_held_drew (S := (fun W' : World => W' = V.drew)) (by kernel_rfl) (rfl) (fun hHeld => ?_)
              refine wpAnyH_take (i := 0) (oi := _) (v := ?_) (by rw [List.getElem?_toArray]; rfl) (by kernel_rfl) (by kernel_rfl) (by kernel_rfl) (by exact fun _ _ _ h => h) (Or.inl ⟨by rfl, ?_⟩) (by assumption) ?_
              rotate_left
              · intro w hSw
                try simp only [Cells, blk, List.cons_append, List.nil_append, and_true, Nat.reduceAdd, Nat.add_zero, Nat.zero_add] at hSw
                go_simp
                try with_reducible rfl
              simp only [Act.put, List.setIfInBounds_toArray, List.set_cons_zero, List.set_cons_succ]
              refine wpAnyH_take (i := 1) (oi := _) (v := ?_) (by rw [List.getElem?_toArray]; rfl) (by kernel_rfl) (by kernel_rfl) (by kernel_rfl) (by exact fun _ _ _ h => h) (Or.inl ⟨by rfl, ?_⟩) (by assumption) ?_
              rotate_left
              · intro w hSw
                try simp only [Cells, blk, List.cons_append, List.nil_append, and_true, Nat.reduceAdd, Nat.add_zero, Nat.zero_add] at hSw
                go_simp
                try with_reducible rfl
              simp only [Act.put, List.setIfInBounds_toArray, List.set_cons_zero, List.set_cons_succ]
              refine wpAnyH_take (i := 2) (oi := _) (v := ?_) (by rw [List.getElem?_toArray]; rfl) (by kernel_rfl) (by kernel_rfl) (by kernel_rfl) (by exact fun _ _ _ h => h) (Or.inl ⟨by rfl, ?_⟩) (by assumption) ?_
              rotate_left
              · intro w hSw
                try simp only [Cells, blk, List.cons_append, List.nil_append, and_true, Nat.reduceAdd, Nat.add_zero, Nat.zero_add] at hSw
                go_simp
                try with_reducible rfl
              simp only [Act.put, List.setIfInBounds_toArray, List.set_cons_zero, List.set_cons_succ]
              refine wpAnyH_take (i := 3) (oi := _) (v := undef) (by rw [List.getElem?_toArray]; rfl) (by kernel_rfl) (by kernel_rfl) (by kernel_rfl) (by exact fun _ _ _ h => h) (Or.inr ⟨by rfl, rfl⟩) (by assumption) ?_
              simp only [Act.put, List.setIfInBounds_toArray, List.set_cons_zero, List.set_cons_succ]
              refine wpAnyH_take (i := 4) (oi := _) (v := undef) (by rw [List.getElem?_toArray]; rfl) (by kernel_rfl) (by kernel_rfl) (by kernel_rfl) (by exact fun _ _ _ h => h) (Or.inr ⟨by rfl, rfl⟩) (by assumption) ?_
              simp only [Act.put, List.setIfInBounds_toArray, List.set_cons_zero, List.set_cons_succ]
              refine wpAnyH_take (i := 5) (oi := _) (v := undef) (by rw [List.getElem?_toArray]; rfl) (by kernel_rfl) (by kernel_rfl) (by kernel_rfl) (by exact fun _ _ _ h => h) (Or.inr ⟨by rfl, rfl⟩) (by assumption) ?_
              simp only [Act.put, List.setIfInBounds_toArray, List.set_cons_zero, List.set_cons_succ]
              refine wpAnyH_take (i := 6) (oi := _) (v := undef) (by rw [List.getElem?_toArray]; rfl) (by kernel_rfl) (by kernel_rfl) (by kernel_rfl) (by exact fun _ _ _ h => h) (Or.inr ⟨by rfl, rfl⟩) (by assumption) ?_
              simp only [Act.put, List.setIfInBounds_toArray, List.set_cons_zero, List.set_cons_succ]
              refine wpAnyH_take (i := 7) (oi := _) (v := undef) (by rw [List.getElem?_toArray]; rfl) (by kernel_rfl) (by kernel_rfl) (by kernel_rfl) (by exact fun _ _ _ h => h) (Or.inr ⟨by rfl, rfl⟩) (by assumption) ?_
              simp only [Act.put, List.setIfInBounds_toArray, List.set_cons_zero, List.set_cons_succ]
              refine wpAnyH_take (i := 8) (oi := _) (v := undef) (by rw [List.getElem?_toArray]; rfl) (by kernel_rfl) (by kernel_rfl) (by kernel_rfl) (by exact fun _ _ _ h => h) (Or.inr ⟨by rfl, rfl⟩) (by assumption) ?_
              simp only [Act.put, List.setIfInBounds_toArray, List.set_cons_zero, List.set_cons_succ]
              refine wpAnyH_take (i := 9) (oi := _) (v := undef) (by rw [List.getElem?_toArray]; rfl) (by kernel_rfl) (by kernel_rfl) (by kernel_rfl) (by exact fun _ _ _ h => h) (Or.inr ⟨by rfl, rfl⟩) (by assumption) ?_
              simp only [Act.put, List.setIfInBounds_toArray, List.set_cons_zero, List.set_cons_succ]
              refine wpAnyH_take (i := 10) (oi := _) (v := ?_) (by rw [List.getElem?_toArray]; rfl) (by kernel_rfl) (by kernel_rfl) (by kernel_rfl) (by exact fun _ _ _ h => h) (Or.inl ⟨by rfl, ?_⟩) (by assumption) ?_
              rotate_left
              · intro w hSw
                try simp only [Cells, blk, List.cons_append, List.nil_append, and_true, Nat.reduceAdd, Nat.add_zero, Nat.zero_add] at hSw
                go_simp
                try with_reducible rfl
              simp only [Act.put, List.setIfInBounds_toArray, List.set_cons_zero, List.set_cons_succ]
              refine wpAnyH_done (by kernel_rfl) ?_ _
              have hBY : Below X.heap.size X V.drew := hBW.drew
              generalize V.drew = Y at hBY ⊢
              have hinvY := HINVX.out.below hBY
              have hiY := (hBY.block i (Array.getElem?_eq_some_iff.1 HI.out).1).trans HI.out
              have hsY : X.heap.size ≤ Y.heap.size := hBY.size
              have TY : Cells Y (blk i 0 0 [.int .i64 r0, .int .i64 r1, .int .i64 r2, .int .i64 r3, .int .i64 r4, .slice xa rb.length xc]) := ⟨cell_of_row _ _ 0 _ _ _ hiY, cell_of_row _ _ 1 _ _ _ hiY, cell_of_row _ _ 2 _ _ _ hiY, cell_of_row _ _ 3 _ _ _ hiY, cell_of_row _ _ 4 _ _ _ hiY, cell_of_row _ _ 5 _ _ _ hiY, trivial⟩
              have hrd1 : Rd1 (w.heap.size + 1) Y (.slice (some ⟨gb, 0, none⟩) m cap) ⟨r0, r1, r2, r3, r4, rb⟩ (.slice xa rb.length xc) := HRD.out.below hBY
              have hlv := hinvY.len
              rw [prm_len] at hlv
              have hl1 : ((rcells (prm hf' q m) vs).take (t * 6)).length = t * 6 := by rw [List.length_take, rcells_len _ _ hinvY.len, prm_len]; omega
              have hl2 : ((rcells (prm hf' q m) vs).drop (t * 6)).length = (m - t) * 6 := by rw [List.length_drop, rcells_len _ _ hinvY.len, prm_len]; omega
              have hon := rcells_one _ _ hinvY.len hinvY.one
              have ho1 : ∀ u ∈ (rcells (prm hf' q m) vs).take (t * 6), u.oneCell' = true := fun u hu => hon u (List.mem_of_mem_take hu)
              have ho2 : ∀ u ∈ (rcells (prm hf' q m) vs).drop (t * 6), u.oneCell' = true := fun u hu => hon u (List.mem_of_mem_drop hu)
              have hnw1 : ∀ W, Below Y.heap.size Y W → ∀ j u, ((rcells (prm hf' q m) vs).take (t * 6))[j]? = some u → W.cell? ((⟨gb, 0, none⟩ : Addr).add j) = some u := fun W hW j u hj => by
                rw [List.getElem?_take] at hj
                split at hj
                · exact hinvY.news (prm_len _ _ _) hW 0 j u (by simpa using hj)
                · cases hj
              have hnw2 : ∀ W, Below Y.heap.size Y W → ∀ j u, ((rcells (prm hf' q m) vs).drop (t * 6))[j]? = some u → W.cell? ((if cap = t then ⟨gb, 0, none⟩ else ⟨gb, t * 6, none⟩ : Addr).add j) = some u := fun W hW j u hj => by
                by_cases hct : cap = t
                · have hlt := (List.getElem?_eq_some_iff.1 hj).1
                  rw [hl2] at hlt
                  have := HCAP.out
                  omega
                · rw [if_neg hct]
                  exact hinvY.news (prm_len _ _ _) hW (t * 6) j u hj
              have NW1 := Lib.hid hnw1
              have NW2 := Lib.hid hnw2
              have HO1 := Lib.hid ho1
              have HO2 := Lib.hid ho2
              have HL1 := Lib.hid hl1
              have HL2 := Lib.hid hl2
              have HINVY := Lib.hid hinvY
              have HRD1 := Lib.hid hrd1
              have HTM := Lib.hid htm
              have HBY := Lib.hid hBY
              have j1 : (0 : Int) ≤ (t : Int) := by omega
              have j2 : (t : Int) ≤ (m : Int) := by omega
              have j3 : (t : Int) ≤ (cap : Int) := by have := HCAP.out; omega
              have j4 : (m : Int) ≤ (cap : Int) := by have := HCAP.out; omega
              clear hinvY hiY hrd1 hlv hl1 hl2 hon ho1 ho2 hnw1 hnw2 hBY
              go_upto_region 10 with fail
              refine wp_region_held_drew (S := (fun W' : World => Below Y.heap.size Y W' ∧ Y.heap.size ≤ W'.heap.size ∧ Cells W' (blk i 0 0 [.int .i64 r0, .int .i64 r1, .int .i64 r2, .int .i64 r3, .int .i64 r4, .slice xa rb.length xc]))) (by kernel_rfl) (⟨(Below.refl _ _).drew, Nat.le_refl _, TY.drew⟩) (fun hHeld => ?_)
              generalize World.drew _ = wd at hHeld ⊢
              have hz := hHeld.2.1
              refine wpAnyH_take (i := 1) (oi := _) (v := ?_) (by rw [List.getElem?_toArray]; rfl) (by kernel_rfl) (by kernel_rfl) (by kernel_rfl) (by exact fun _ _ _ h => h) (Or.inl ⟨by rfl, ?_⟩) (by assumption) ?_
              rotate_left
              · intro w hSw
                try simp only [Cells, blk, List.cons_append, List.nil_append, and_true, Nat.reduceAdd, Nat.add_zero, Nat.zero_add] at hSw
                go_simp
                try with_reducible rfl
              simp only [Act.put, List.setIfInBounds_toArray, List.set_cons_zero, List.set_cons_succ]
              refine wpAnyH_take (i := 2) (oi := _) (v := ?_) (by rw [List.getElem?_toArray]; rfl) (by kernel_rfl) (by kernel_rfl) (by kernel_rfl) (by exact fun _ _ _ h => h) (Or.inl ⟨by rfl, ?_⟩) (by assumption) ?_
              rotate_left
              · intro w hSw
                try simp only [Cells, blk, List.cons_append, List.nil_append, and_true, Nat.reduceAdd, Nat.add_zero, Nat.zero_add] at hSw
                go_simp
                try with_reducible rfl
              simp only [Act.put, List.setIfInBounds_toArray, List.set_cons_zero, List.set_cons_succ]
              refine wpAnyH_take (i := 3) (oi := _) (v := ?_) (by rw [List.getElem?_toArray]; rfl) (by kernel_rfl) (by kernel_rfl) (by kernel_rfl) (by exact fun _ _ _ h => h) (Or.inl ⟨by rfl, ?_⟩) (by assumption) ?_
              rotate_left
              · intro w hSw
                try simp only [Cells, blk, List.cons_append, List.nil_append, and_true, Nat.reduceAdd, Nat.add_zero, Nat.zero_add] at hSw
                go_simp
                try with_reducible rfl
              simp only [Act.put, List.setIfInBounds_toArray, List.set_cons_zero, List.set_cons_succ]
              refine wpAnyH_take (i := 5) (oi := _) (v := ?_) (by rw [List.getElem?_toArray]; rfl) (by kernel_rfl) (by kernel_rfl) (by kernel_rfl) (by exact fun _ _ _ h => h) (Or.inl ⟨by rfl, ?_⟩) (by assumption) ?_
              rotate_left
              · intro w hSw
                try simp only [Cells, blk, List.cons_append, List.nil_append, and_true, Nat.reduceAdd, Nat.add_zero, Nat.zero_add] at hSw
                go_simp
                try with_reducible rfl
              simp only [Act.put, List.setIfInBounds_toArray, List.set_cons_zero, List.set_cons_succ]
              refine wpAnyH_take (i := 8) (oi := _) (v := ?_) (by rw [List.getElem?_toArray]; rfl) (by kernel_rfl) (by kernel_rfl) (by kernel_rfl) (by exact fun _ _ _ h => h) (Or.inl ⟨by rfl, ?_⟩) (by assumption) ?_
              rotate_left
              · intro w hSw
                try simp only [Cells, blk, List.cons_append, List.nil_append, and_true, Nat.reduceAdd, Nat.add_zero, Nat.zero_add] at hSw
                go_simp
                try with_reducible rfl
              simp only [Act.put, List.setIfInBounds_toArray, List.set_cons_zero, List.set_cons_succ]
              refine wpAnyH_take (i := 9) (oi := _) (v := ?_) (by rw [List.getElem?_toArray]; rfl) (by kernel_rfl) (by kernel_rfl) (by kernel_rfl) (by exact fun _ _ _ h => h) (Or.inl ⟨by rfl, ?_⟩) (by assumption) ?_
              rotate_left
              · intro w hSw
                try simp only [Cells, blk, List.cons_append, List.nil_append, and_true, Nat.reduceAdd, Nat.add_zero, Nat.zero_add] at hSw
                go_simp
                try with_reducible rfl
              simp only [Act.put, List.setIfInBounds_toArray, List.set_cons_zero, List.set_cons_succ]
              refine wpAnyH_take (i := 10) (oi := _) (v := ?_) (by rw [List.getElem?_toArray]; rfl) (by kernel_rfl) (by kernel_rfl) (by kernel_rfl) (by exact fun _ _ _ h => h) (Or.inl ⟨by rfl, ?_⟩) (by assumption) ?_
              rotate_left
              · intro w hSw
                try simp only [Cells, blk, List.cons_append, List.nil_append, and_true, Nat.reduceAdd, Nat.add_zero, Nat.zero_add] at hSw
                go_simp
                try with_reducible rfl
              simp only [Act.put, List.setIfInBounds_toArray, List.set_cons_zero, List.set_cons_succ]
              refine wpAnyH_ready (rs := [0, 6]) (by kernel_rfl) (by simp) (AllReadyH.cons (o := _) (by rw [List.getElem?_toArray]; rfl) (fun K hK => ?_) (AllReadyH.cons (o := _) (by rw [List.getElem?_toArray]; rfl) (fun K hK => ?_) AllReadyH.nil))
              · go_simp
                generalize hX : World.alloc _ (.cells #[] 47) = w2
                have own1 := World.ownsRow_made (base := Y.heap.size) (e := 47) (size := 6) _ #[] 0 hz (by unfold maxLen; omega) rfl
                rw [hX] at own1
                obtain ⟨h2, hB2, h2z⟩ := alloc_named hX
                have h2l := Nat.le_of_eq h2z.symm
                clear hX h2z h2
                try have hc6 := hc6.below2 hB2
                refine hK.out _ _ (⟨hHeld.1.trans (hB2.mono (by have := hHeld.2.1; omega)), Nat.le_trans hHeld.2.1 hB2.size, hHeld.2.2.keep hB2⟩) (fun hHeld2 => ?_)
                replace hHeld := hHeld2
                clear hK K hHeld2
                try simp only [Act.put, List.setIfInBounds_toArray, List.set_cons_zero, List.set_cons_succ]
                have hz := hHeld.2.1
                refine wpAnyH_ready (rs := [4, 6]) (by kernel_rfl) (by simp) (AllReadyH.cons (o := _) (by rw [List.getElem?_toArray]; rfl) (fun K hK => ?_) (AllReadyH.cons (o := _) (by rw [List.getElem?_toArray]; rfl) (fun K hK => ?_) AllReadyH.nil))
                · refine step_append_at (by rfl) _ _ 55 (by rfl) Y.heap.size 47 i6 (.agg #[.int .i64 0, .int .i64 0, .int .i64 0, .int .i64 0, .int .i64 0, .slice none 0 0]) 6 64 Try.underlying55 hi6 hy0 hy1 hy2 rfl (by decide) _ (0) ([]) (by rfl) own1 ⟨gb, 0, none⟩ (t) (cap) ((rcells (prm hf' q m) vs).take (t * 6)) (by rfl) HL1.out (NW1.out _ hHeld.1) HO1.out (by have := HM64.out; unfold maxLen; omega) (by have := HM64.out; omega) hz ?_
                  intro v4 w4 own2 hg4 hne4
                  have hB4 := hHeld.1.grown hg4 hz (fun b hb => (own1.lt b hb).1)
                  have ng4 : v4 ≠ .slice none 0 0 := fun e => by cases hne4 e
                  try replace hc6 := hc6.grown2 hg4 (fun e => by simp [Value.ownBlock] at e; omega)
                  clear own1 hne4
                  refine hK.out _ _ (⟨hB4, Nat.le_trans hHeld.2.1 hg4.size, TY.keep hB4⟩) (fun hHeld2 => ?_)
                  replace hHeld := hHeld2
                  clear hK K hHeld2
                  try simp only [Act.put, List.setIfInBounds_toArray, List.set_cons_zero, List.set_cons_succ]
                  have hz := hHeld.2.1
                  refine wpAnyH_ready (rs := [6]) (by kernel_rfl) (by simp) (AllReadyH.cons (o := _) (by rw [List.getElem?_toArray]; rfl) (fun K hK => ?_) AllReadyH.nil)
                  go_simp
                  generalize hX : World.alloc _ (.cells #[.int .i64 r0, .int .i64 r1, .int .i64 r2, .int .i64 r3, .int .i64 r4, .slice xa rb.length xc] 47) = w6
                  obtain ⟨h6, hB6, h6z⟩ := alloc_named hX
                  have hc6 : New6 w6 _ [.int .i64 r0, .int .i64 r1, .int .i64 r2, .int .i64 r3, .int .i64 r4, .slice xa rb.length xc] := new6_of h6
                  have h6l := Nat.le_of_eq h6z.symm
                  clear hX h6z h6
                  try replace own1 := own_below own1 hB6
                  try replace own2 := own_below own2 hB6
                  refine hK.out _ _ (⟨hHeld.1.trans (hB6.mono (by have := hHeld.2.1; omega)), Nat.le_trans hHeld.2.1 hB6.size, hHeld.2.2.keep hB6⟩) (fun hHeld2 => ?_)
                  replace hHeld := hHeld2
                  clear hK K hHeld2
                  try simp only [Act.put, List.setIfInBounds_toArray, List.set_cons_zero, List.set_cons_succ]
                  have hz := hHeld.2.1
                  refine wpAnyH_ready (rs := [7]) (by kernel_rfl) (by simp) (AllReadyH.cons (o := _) (by rw [List.getElem?_toArray]; rfl) (fun K hK => ?_) AllReadyH.nil)
                  refine step_append_at (by rfl) _ _ 55 (by rfl) Y.heap.size 47 i6 (.agg #[.int .i64 0, .int .i64 0, .int .i64 0, .int .i64 0, .int .i64 0, .slice none 0 0]) 6 64 Try.underlying55 hi6 hy0 hy1 hy2 rfl (by decide) _ (0 + t) ([] ++ (rcells (prm hf' q m) vs).take (t * 6)) (by rfl) own2 ⟨_, 0, none⟩ (1) (1) ([.int .i64 r0, .int .i64 r1, .int .i64 r2, .int .i64 r3, .int .i64 r4, .slice xa rb.length xc]) (by rfl) (by rfl) hc6.news (by intro u hu; simp at hu; rcases hu with rfl | rfl | rfl | rfl | rfl | rfl <;> rfl) (by have := HM64.out; unfold maxLen; omega) (by have := HM64.out; omega) hz ?_
                  intro v7 w7 own3 hg7 hne7
                  have hB7 := hHeld.1.grown hg7 hz (fun b hb => (own2.lt b hb).1)
                  have ng7 : v7 ≠ .slice none 0 0 := fun e => ng4 (hne7 e)
                  clear own2 hne7 hc6
                  refine hK.out _ _ (⟨hB7, Nat.le_trans hHeld.2.1 hg7.size, TY.keep hB7⟩) (fun hHeld2 => ?_)
                  replace hHeld := hHeld2
                  clear hK K hHeld2
                  try simp only [Act.put, List.setIfInBounds_toArray, List.set_cons_zero, List.set_cons_succ]
                  have hz := hHeld.2.1
                  refine wpAnyH_ready (rs := [11]) (by kernel_rfl) (by simp) (AllReadyH.cons (o := _) (by rw [List.getElem?_toArray]; rfl) (fun K hK => ?_) AllReadyH.nil)
                  refine step_append_at (by rfl) _ _ 55 (by rfl) Y.heap.size 47 i6 (.agg #[.int .i64 0, .int .i64 0, .int .i64 0, .int .i64 0, .int .i64 0, .slice none 0 0]) 6 64 Try.underlying55 hi6 hy0 hy1 hy2 rfl (by decide) _ (0 + t + 1) (([] ++ (rcells (prm hf' q m) vs).take (t * 6)) ++ [.int .i64 r0, .int .i64 r1, .int .i64 r2, .int .i64 r3, .int .i64 r4, .slice xa rb.length xc]) (by rfl) own3 (if cap = t then ⟨gb, 0, none⟩ else ⟨gb, t * 6, none⟩) (m - t) (cap - t) ((rcells (prm hf' q m) vs).drop (t * 6)) (by show Value.slice (if cap = t then some (⟨gb, 0, none⟩ : Addr) else some ⟨gb, t * 6, none⟩) (m - t) (cap - t) = _; split <;> rfl) HL2.out (NW2.out _ hHeld.1) HO2.out (by have := HM64.out; unfold maxLen; omega) (by have := HM64.out; omega) hz ?_
                  intro v11 w11 own4 hg11 hne11
                  have hB11 := hHeld.1.grown hg11 hz (fun b hb => (own3.lt b hb).1)
                  have ng11 : v11 ≠ .slice none 0 0 := fun e => ng7 (hne11 e)
                  have fin := rinv_ins (t := t) HINVY.out HRD1.out (by rw [prm_len]; exact HTM.out) hB11 (by have := HBASE.out; omega) (by rw [prm_len]; exact own4)
                  have hqm : q m = m := hmem.out.out m (.inr (Nat.le_refl _))
                  rw [← HRM.out, prm_ins HTM.out hqm] at fin
                  have FIN := Lib.hid fin
                  have hidx : ∀ j, 0 ≤ j → j < m → q j < q m := fun j h1 h2 => by
                    obtain ⟨x, _, hx, e⟩ := hmem.out.from' j h1 h2
                    rw [e, hqm]
                    exact hx
                  have srt := srt_down (rlt_swo hf') hsrt.out hidx (Nat.zero_le t) HTM.out (fun j h1 h2 => by rw [hqm]; exact HLOW.out j h1 h2) (by rw [hqm]; exact HSTOP.out)
                  have mem := (hmem.out.wide (Nat.le_refl 0) (Nat.le_succ m)).trans ((mem_rot (p := q) HTM.out (Nat.le_succ m)).wide (Nat.zero_le t) (Nat.le_refl _))
                  have SRT := Lib.hid srt
                  have MEM := Lib.hid mem
                  clear own3 own4 hne11 fin srt mem hidx
                  refine hK.out _ _ (⟨hB11, Nat.le_trans hHeld.2.1 hg11.size, TY.keep hB11⟩) (fun hHeld2 => ?_)
                  replace hHeld := hHeld2
                  clear hK K hHeld2
                  try simp only [Act.put, List.setIfInBounds_toArray, List.set_cons_zero, List.set_cons_succ]
                  have hz := hHeld.2.1
                  refine wpAnyH_take (i := 12) (oi := _) (v := ?_) (by rw [List.getElem?_toArray]; rfl) (by kernel_rfl) (by kernel_rfl) (by kernel_rfl) (by exact fun _ _ _ h => h) (Or.inl ⟨by rfl, ?_⟩) (by assumption) ?_
                  rotate_left
                  · intro w hSw
                    try simp only [Cells, blk, List.cons_append, List.nil_append, and_true, Nat.reduceAdd, Nat.add_zero, Nat.zero_add] at hSw
                    go_simp
                    try with_reducible rfl
                  simp only [Act.put, List.setIfInBounds_toArray, List.set_cons_zero, List.set_cons_succ]
                  refine wpAnyH_done (by kernel_rfl) ?_ _
                  generalize (if cap = t then some (⟨gb, 0, none⟩ : Addr) else some ⟨gb, t * 6, none⟩) = A2
                  go_wp2
                  refine ⟨⟨k + 1, m + 1, rot q t m (m + 1), _, by omega, by simp, HM1.out, ng11, FIN.out, MEM.out, SRT.out, HBX2.out.trans ((HBY.out.trans (hHeld.1.mono HBY.out.size)).mono HBASEX.out)⟩, ?_⟩
                  simp [intOf]
                  omega
                · go_simp
                  generalize hX : World.alloc _ (.cells #[.int .i64 r0, .int .i64 r1, .int .i64 r2, .int .i64 r3, .int .i64 r4, .slice xa rb.length xc] 47) = w6
                  obtain ⟨h6, hB6, h6z⟩ := alloc_named hX
                  have hc6 : New6 w6 _ [.int .i64 r0, .int .i64 r1, .int .i64 r2, .int .i64 r3, .int .i64 r4, .slice xa rb.length xc] := new6_of h6
                  have h6l := Nat.le_of_eq h6z.symm
                  clear hX h6z h6
                  try replace own1 := own_below own1 hB6
                  try replace own2 := own_below own2 hB6
                  refine hK.out _ _ (⟨hHeld.1.trans (hB6.mono (by have := hHeld.2.1; omega)), Nat.le_trans hHeld.2.1 hB6.size, hHeld.2.2.keep hB6⟩) (fun hHeld2 => ?_)
                  replace hHeld := hHeld2
                  clear hK K hHeld2
                  try simp only [Act.put, List.setIfInBounds_toArray, List.set_cons_zero, List.set_cons_succ]
                  have hz := hHeld.2.1
                  refine wpAnyH_ready (rs := [4]) (by kernel_rfl) (by simp) (AllReadyH.cons (o := _) (by rw [List.getElem?_toArray]; rfl) (fun K hK => ?_) AllReadyH.nil)
                  refine step_append_at (by rfl) _ _ 55 (by rfl) Y.heap.size 47 i6 (.agg #[.int .i64 0, .int .i64 0, .int .i64 0, .int .i64 0, .int .i64 0, .slice none 0 0]) 6 64 Try.underlying55 hi6 hy0 hy1 hy2 rfl (by decide) _ (0) ([]) (by rfl) own1 ⟨gb, 0, none⟩ (t) (cap) ((rcells (prm hf' q m) vs).take (t * 6)) (by rfl) HL1.out (NW1.out _ hHeld.1) HO1.out (by have := HM64.out; unfold maxLen; omega) (by have := HM64.out; omega) hz ?_
                  intro v4 w4 own2 hg4 hne4
                  have hB4 := hHeld.1.grown hg4 hz (fun b hb => (own1.lt b hb).1)
                  have ng4 : v4 ≠ .slice none 0 0 := fun e => by cases hne4 e
                  try replace hc6 := hc6.grown2 hg4 (fun e => by simp [Value.ownBlock] at e; omega)
                  clear own1 hne4
                  refine hK.out _ _ (⟨hB4, Nat.le_trans hHeld.2.1 hg4.size, TY.keep hB4⟩) (fun hHeld2 => ?_)
                  replace hHeld := hHeld2
                  clear hK K hHeld2
                  try simp only [Act.put, List.setIfInBounds_toArray, List.set_cons_zero, List.set_cons_succ]
                  have hz := hHeld.2.1
                  refine wpAnyH_ready (rs := [7]) (by kernel_rfl) (by simp) (AllReadyH.cons (o := _) (by rw [List.getElem?_toArray]; rfl) (fun K hK => ?_) AllReadyH.nil)
                  refine step_append_at (by rfl) _ _ 55 (by rfl) Y.heap.size 47 i6 (.agg #[.int .i64 0, .int .i64 0, .int .i64 0, .int .i64 0, .int .i64 0, .slice none 0 0]) 6 64 Try.underlying55 hi6 hy0 hy1 hy2 rfl (by decide) _ (0 + t) ([] ++ (rcells (prm hf' q m) vs).take (t * 6)) (by rfl) own2 ⟨_, 0, none⟩ (1) (1) ([.int .i64 r0, .int .i64 r1, .int .i64 r2, .int .i64 r3, .int .i64 r4, .slice xa rb.length xc]) (by rfl) (by rfl) hc6.news (by intro u hu; simp at hu; rcases hu with rfl | rfl | rfl | rfl | rfl | rfl <;> rfl) (by have := HM64.out; unfold maxLen; omega) (by have := HM64.out; omega) hz ?_
                  intro v7 w7 own3 hg7 hne7
                  have hB7 := hHeld.1.grown hg7 hz (fun b hb => (own2.lt b hb).1)
                  have ng7 : v7 ≠ .slice none 0 0 := fun e => ng4 (hne7 e)
                  clear own2 hne7 hc6
                  refine hK.out _ _ (⟨hB7, Nat.le_trans hHeld.2.1 hg7.size, TY.keep hB7⟩) (fun hHeld2 => ?_)
                  replace hHeld := hHeld2
                  clear hK K hHeld2
                  try simp only [Act.put, List.setIfInBounds_toArray, List.set_cons_zero, List.set_cons_succ]
                  have hz := hHeld.2.1
                  refine wpAnyH_ready (rs := [11]) (by kernel_rfl) (by simp) (AllReadyH.cons (o := _) (by rw [List.getElem?_toArray]; rfl) (fun K hK => ?_) AllReadyH.nil)
                  refine step_append_at (by rfl) _ _ 55 (by rfl) Y.heap.size 47 i6 (.agg #[.int .i64 0, .int .i64 0, .int .i64 0, .int .i64 0, .int .i64 0, .slice none 0 0]) 6 64 Try.underlying55 hi6 hy0 hy1 hy2 rfl (by decide) _ (0 + t + 1) (([] ++ (rcells (prm hf' q m) vs).take (t * 6)) ++ [.int .i64 r0, .int .i64 r1, .int .i64 r2, .int .i64 r3, .int .i64 r4, .slice xa rb.length xc]) (by rfl) own3 (if cap = t then ⟨gb, 0, none⟩ else ⟨gb, t * 6, none⟩) (m - t) (cap - t) ((rcells (prm hf' q m) vs).drop (t * 6)) (by show Value.slice (if cap = t then some (⟨gb, 0, none⟩ : Addr) else some ⟨gb, t * 6, none⟩) (m - t) (cap - t) = _; split <;> rfl) HL2.out (NW2.out _ hHeld.1) HO2.out (by have := HM64.out; unfold maxLen; omega) (by have := HM64.out; omega) hz ?_
                  intro v11 w11 own4 hg11 hne11
                  have hB11 := hHeld.1.grown hg11 hz (fun b hb => (own3.lt b hb).1)
                  have ng11 : v11 ≠ .slice none 0 0 := fun e => ng7 (hne11 e)
                  have fin := rinv_ins (t := t) HINVY.out HRD1.out (by rw [prm_len]; exact HTM.out) hB11 (by have := HBASE.out; omega) (by rw [prm_len]; exact own4)
                  have hqm : q m = m := hmem.out.out m (.inr (Nat.le_refl _))
                  rw [← HRM.out, prm_ins HTM.out hqm] at fin
                  have FIN := Lib.hid fin
                  have hidx : ∀ j, 0 ≤ j → j < m → q j < q m := fun j h1 h2 => by
                    obtain ⟨x, _, hx, e⟩ := hmem.out.from' j h1 h2
                    rw [e, hqm]
                    exact hx
                  have srt := srt_down (rlt_swo hf') hsrt.out hidx (Nat.zero_le t) HTM.out (fun j h1 h2 => by rw [hqm]; exact HLOW.out j h1 h2) (by rw [hqm]; exact HSTOP.out)
                  have mem := (hmem.out.wide (Nat.le_refl 0) (Nat.le_succ m)).trans ((mem_rot (p := q) HTM.out (Nat.le_succ m)).wide (Nat.zero_le t) (Nat.le_refl _))
                  have SRT := Lib.hid srt
                  have MEM := Lib.hid mem
                  clear own3 own4 hne11 fin srt mem hidx
                  refine hK.out _ _ (⟨hB11, Nat.le_trans hHeld.2.1 hg11.size, TY.keep hB11⟩) (fun hHeld2 => ?_)
                  replace hHeld := hHeld2
                  clear hK K hHeld2
                  try simp only [Act.put, List.setIfInBounds_toArray, List.set_cons_zero, List.set_cons_succ]
                  have hz := hHeld.2.1
                  refine wpAnyH_take (i := 12) (oi := _) (v := ?_) (by rw [List.getElem?_toArray]; rfl) (by kernel_rfl) (by kernel_rfl) (by kernel_rfl) (by exact fun _ _ _ h => h) (Or.inl ⟨by rfl, ?_⟩) (by assumption) ?_
                  rotate_left
                  · intro w hSw
                    try simp only [Cells, blk, List.cons_append, List.nil_append, and_true, Nat.reduceAdd, Nat.add_zero, Nat.zero_add] at hSw
                    go_simp
                    try with_reducible rfl
                  simp only [Act.put, List.setIfInBounds_toArray, List.set_cons_zero, List.set_cons_succ]
                  refine wpAnyH_done (by kernel_rfl) ?_ _
                  generalize (if cap = t then some (⟨gb, 0, none⟩ : Addr) else some ⟨gb, t * 6, none⟩) = A2
                  go_wp2
                  refine ⟨⟨k + 1, m + 1, rot q t m (m + 1), _, by omega, by simp, HM1.out, ng11, FIN.out, MEM.out, SRT.out, HBX2.out.trans ((HBY.out.trans (hHeld.1.mono HBY.out.size)).mono HBASEX.out)⟩, ?_⟩
                  simp [intOf]
                  omega
              · go_simp
                generalize hX : World.alloc _ (.cells #[.int .i64 r0, .int .i64 r1, .int .i64 r2, .int .i64 r3, .int .i64 r4, .slice xa rb.length xc] 47) = w6
                obtain ⟨h6, hB6, h6z⟩ := alloc_named hX
                have hc6 : New6 w6 _ [.int .i64 r0, .int .i64 r1, .int .i64 r2, .int .i64 r3, .int .i64 r4, .slice xa rb.length xc] := new6_of h6
                have h6l := Nat.le_of_eq h6z.symm
                clear hX h6z h6
                try replace own1 := own_below own1 hB6
                try replace own2 := own_below own2 hB6
                refine hK.out _ _ (⟨hHeld.1.trans (hB6.mono (by have := hHeld.2.1; omega)), Nat.le_trans hHeld.2.1 hB6.size, hHeld.2.2.keep hB6⟩) (fun hHeld2 => ?_)
                replace hHeld := hHeld2
                clear hK K hHeld2
                try simp only [Act.put, List.setIfInBounds_toArray, List.set_cons_zero, List.set_cons_succ]
                have hz := hHeld.2.1
                refine wpAnyH_ready (rs := [0]) (by kernel_rfl) (by simp) (AllReadyH.cons (o := _) (by rw [List.getElem?_toArray]; rfl) (fun K hK => ?_) AllReadyH.nil)
                go_simp
                generalize hX : World.alloc _ (.cells #[] 47) = w2
                have own1 := World.ownsRow_made (base := Y.heap.size) (e := 47) (size := 6) _ #[] 0 hz (by unfold maxLen; omega) rfl
                rw [hX] at own1
                obtain ⟨h2, hB2, h2z⟩ := alloc_named hX
                have h2l := Nat.le_of_eq h2z.symm
                clear hX h2z h2
                try have hc6 := hc6.below2 hB2
                refine hK.out _ _ (⟨hHeld.1.trans (hB2.mono (by have := hHeld.2.1; omega)), Nat.le_trans hHeld.2.1 hB2.size, hHeld.2.2.keep hB2⟩) (fun hHeld2 => ?_)
                replace hHeld := hHeld2
                clear hK K hHeld2
                try simp only [Act.put, List.setIfInBounds_toArray, List.set_cons_zero, List.set_cons_succ]
                have hz := hHeld.2.1
                refine wpAnyH_ready (rs := [4]) (by kernel_rfl) (by simp) (AllReadyH.cons (o := _) (by rw [List.getElem?_toArray]; rfl) (fun K hK => ?_) AllReadyH.nil)
                refine step_append_at (by rfl) _ _ 55 (by rfl) Y.heap.size 47 i6 (.agg #[.int .i64 0, .int .i64 0, .int .i64 0, .int .i64 0, .int .i64 0, .slice none 0 0]) 6 64 Try.underlying55 hi6 hy0 hy1 hy2 rfl (by decide) _ (0) ([]) (by rfl) own1 ⟨gb, 0, none⟩ (t) (cap) ((rcells (prm hf' q m) vs).take (t * 6)) (by rfl) HL1.out (NW1.out _ hHeld.1) HO1.out (by have := HM64.out; unfold maxLen; omega) (by have := HM64.out; omega) hz ?_
                intro v4 w4 own2 hg4 hne4
                have hB4 := hHeld.1.grown hg4 hz (fun b hb => (own1.lt b hb).1)
                have ng4 : v4 ≠ .slice none 0 0 := fun e => by cases hne4 e
                try replace hc6 := hc6.grown2 hg4 (fun e => by simp [Value.ownBlock] at e; omega)
                clear own1 hne4
                refine hK.out _ _ (⟨hB4, Nat.le_trans hHeld.2.1 hg4.size, TY.keep hB4⟩) (fun hHeld2 => ?_)
                replace hHeld := hHeld2
                clear hK K hHeld2
                try simp only [Act.put, List.setIfInBounds_toArray, List.set_cons_zero, List.set_cons_succ]
                have hz := hHeld.2.1
                refine wpAnyH_ready (rs := [7]) (by kernel_rfl) (by simp) (AllReadyH.cons (o := _) (by rw [List.getElem?_toArray]; rfl) (fun K hK => ?_) AllReadyH.nil)
                refine step_append_at (by rfl) _ _ 55 (by rfl) Y.heap.size 47 i6 (.agg #[.int .i64 0, .int .i64 0, .int .i64 0, .int .i64 0, .int .i64 0, .slice none 0 0]) 6 64 Try.underlying55 hi6 hy0 hy1 hy2 rfl (by decide) _ (0 + t) ([] ++ (rcells (prm hf' q m) vs).take (t * 6)) (by rfl) own2 ⟨_, 0, none⟩ (1) (1) ([.int .i64 r0, .int .i64 r1, .int .i64 r2, .int .i64 r3, .int .i64 r4, .slice xa rb.length xc]) (by rfl) (by rfl) hc6.news (by intro u hu; simp at hu; rcases hu with rfl | rfl | rfl | rfl | rfl | rfl <;> rfl) (by have := HM64.out; unfold maxLen; omega) (by have := HM64.out; omega) hz ?_
                intro v7 w7 own3 hg7 hne7
                have hB7 := hHeld.1.grown hg7 hz (fun b hb => (own2.lt b hb).1)
                have ng7 : v7 ≠ .slice none 0 0 := fun e => ng4 (hne7 e)
                clear own2 hne7 hc6
                refine hK.out _ _ (⟨hB7, Nat.le_trans hHeld.2.1 hg7.size, TY.keep hB7⟩) (fun hHeld2 => ?_)
                replace hHeld := hHeld2
                clear hK K hHeld2
                try simp only [Act.put, List.setIfInBounds_toArray, List.set_cons_zero, List.set_cons_succ]
                have hz := hHeld.2.1
                refine wpAnyH_ready (rs := [11]) (by kernel_rfl) (by simp) (AllReadyH.cons (o := _) (by rw [List.getElem?_toArray]; rfl) (fun K hK => ?_) AllReadyH.nil)
                refine step_append_at (by rfl) _ _ 55 (by rfl) Y.heap.size 47 i6 (.agg #[.int .i64 0, .int .i64 0, .int .i64 0, .int .i64 0, .int .i64 0, .slice none 0 0]) 6 64 Try.underlying55 hi6 hy0 hy1 hy2 rfl (by decide) _ (0 + t + 1) (([] ++ (rcells (prm hf' q m) vs).take (t * 6)) ++ [.int .i64 r0, .int .i64 r1, .int .i64 r2, .int .i64 r3, .int .i64 r4, .slice xa rb.length xc]) (by rfl) own3 (if cap = t then ⟨gb, 0, none⟩ else ⟨gb, t * 6, none⟩) (m - t) (cap - t) ((rcells (prm hf' q m) vs).drop (t * 6)) (by show Value.slice (if cap = t then some (⟨gb, 0, none⟩ : Addr) else some ⟨gb, t * 6, none⟩) (m - t) (cap - t) = _; split <;> rfl) HL2.out (NW2.out _ hHeld.1) HO2.out (by have := HM64.out; unfold maxLen; omega) (by have := HM64.out; omega) hz ?_
                intro v11 w11 own4 hg11 hne11
                have hB11 := hHeld.1.grown hg11 hz (fun b hb => (own3.lt b hb).1)
                have ng11 : v11 ≠ .slice none 0 0 := fun e => ng7 (hne11 e)
                have fin := rinv_ins (t := t) HINVY.out HRD1.out (by rw [prm_len]; exact HTM.out) hB11 (by have := HBASE.out; omega) (by rw [prm_len]; exact own4)
                have hqm : q m = m := hmem.out.out m (.inr (Nat.le_refl _))
                rw [← HRM.out, prm_ins HTM.out hqm] at fin
                have FIN := Lib.hid fin
                have hidx : ∀ j, 0 ≤ j → j < m → q j < q m := fun j h1 h2 => by
                  obtain ⟨x, _, hx, e⟩ := hmem.out.from' j h1 h2
                  rw [e, hqm]
                  exact hx
                have srt := srt_down (rlt_swo hf') hsrt.out hidx (Nat.zero_le t) HTM.out (fun j h1 h2 => by rw [hqm]; exact HLOW.out j h1 h2) (by rw [hqm]; exact HSTOP.out)
                have mem := (hmem.out.wide (Nat.le_refl 0) (Nat.le_succ m)).trans ((mem_rot (p := q) HTM.out (Nat.le_succ m)).wide (Nat.zero_le t) (Nat.le_refl _))
                have SRT := Lib.hid srt
                have MEM := Lib.hid mem
                clear own3 own4 hne11 fin srt mem hidx
                refine hK.out _ _ (⟨hB11, Nat.le_trans hHeld.2.1 hg11.size, TY.keep hB11⟩) (fun hHeld2 => ?_)
                replace hHeld := hHeld2
                clear hK K hHeld2
                try simp only [Act.put, List.setIfInBounds_toArray, List.set_cons_zero, List.set_cons_succ]
                have hz := hHeld.2.1
                refine wpAnyH_take (i := 12) (oi := _) (v := ?_) (by rw [List.getElem?_toArray]; rfl) (by kernel_rfl) (by kernel_rfl) (by kernel_rfl) (by exact fun _ _ _ h => h) (Or.inl ⟨by rfl, ?_⟩) (by assumption) ?_
                rotate_left
                · intro w hSw
                  try simp only [Cells, blk, List.cons_append, List.nil_append, and_true, Nat.reduceAdd, Nat.add_zero, Nat.zero_add] at hSw
                  go_simp
                  try with_reducible rfl
                simp only [Act.put, List.setIfInBounds_toArray, List.set_cons_zero, List.set_cons_succ]
                refine wpAnyH_done (by kernel_rfl) ?_ _
                generalize (if cap = t then some (⟨gb, 0, none⟩ : Addr) else some ⟨gb, t * 6, none⟩) = A2
                go_wp2
                refine ⟨⟨k + 1, m + 1, rot q t m (m + 1), _, by omega, by simp, HM1.out, ng11, FIN.out, MEM.out, SRT.out, HBX2.out.trans ((HBY.out.trans (hHeld.1.mono HBY.out.size)).mono HBASEX.out)⟩, ?_⟩
                simp [intOf]
                omega
    · have g1 : decide (k < n) = false := by simpa using hlt
      have e : heard ls js ss ts (l.take k) = heard ls js ss ts l := by rw [List.take_of_length_le (by rw [HN.out]; omega)]
      have e2 := hm.out
      rw [e] at e2
      have E2 := Lib.hid e2
      clear hA0 hb0 hb1 hAr e e2
      go_wp2
      go_ret
      rw [← E2.out]
      have hff : hf' = fun k => (heard ls js ss ts l).getD k default := funext HFF.out
      have h1 := hinv.out.rcs
      have h2 := hsrt.out
      rw [hff] at h1 h2
      exact ⟨_, q, rfl, h1, hmem.out, h2, hB1⟩
end Go.Proofs.Ythemdbgcamkecaa
