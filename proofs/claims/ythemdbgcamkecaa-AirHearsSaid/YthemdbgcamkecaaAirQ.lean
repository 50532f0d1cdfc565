/- Walks of air: what is heard: plain; Hear. -/
import Derived.Test.YthemdbgcamkecaaAirP
namespace Go.Proofs.Ythemdbgcamkecaa
open Go.RowKit

/-- the best of the first k -/
def bestE (ok : Nat → Bool) (lt : Nat → Nat → Bool) : Nat → Int
  | 0 => -1
  | k+1 => if ok k = true ∧ (bestE ok lt k < 0 ∨ lt k (bestE ok lt k).toNat = true) then (k : Int) else bestE ok lt k
theorem bestE_cases (ok : Nat → Bool) (lt : Nat → Nat → Bool) : ∀ k, bestE ok lt k = -1 ∨ ∃ j : Nat, bestE ok lt k = j ∧ j < k ∧ ok j = true
  | 0 => .inl rfl
  | k+1 => by
    unfold bestE
    split
    · next h => exact .inr ⟨k, rfl, by omega, h.1⟩
    · rcases bestE_cases ok lt k with h | ⟨j, h1, h2, h3⟩
      · exact .inl h
      · exact .inr ⟨j, h1, by omega, h3⟩
theorem bestE_skip {ok : Nat → Bool} {lt : Nat → Nat → Bool} {k : Nat} (h : ok k = false) : bestE ok lt (k + 1) = bestE ok lt k := by
  rw [bestE, if_neg (by rw [h]; simp)]
theorem bestE_first {ok : Nat → Bool} {lt : Nat → Nat → Bool} {k : Nat} (h : ok k = true) (hf : bestE ok lt k = -1) : bestE ok lt (k + 1) = k := by
  rw [bestE, hf, if_pos ⟨h, .inl (by decide)⟩]
theorem bestE_lt {ok : Nat → Bool} {lt : Nat → Nat → Bool} {k j : Nat} (h : ok k = true) (hf : bestE ok lt k = j) (hl : lt k j = true) : bestE ok lt (k + 1) = k := by
  rw [bestE, hf, if_pos ⟨h, .inr (by simpa using hl)⟩]
theorem bestE_ge {ok : Nat → Bool} {lt : Nat → Nat → Bool} {k j : Nat} (hf : bestE ok lt k = j) (hl : lt k j = false) : bestE ok lt (k + 1) = j := by
  rw [bestE, hf, if_neg]
  rintro ⟨_, h | h⟩
  · omega
  · simp [hl] at h

/-- a transmission that a receiver may hear -/
def okB (ls : List (Int × Int)) (dev ch st en : Int) (t : Tr) : Bool := decide (t.ch = ch) && decide (st ≤ t.st) && decide (t.st < en) && rngB ls t.fr dev
def okK (ls : List (Int × Int)) (dev ch st en : Int) (ts : List Tr) (k : Nat) : Bool := okB ls dev ch st en (ts.getD k default)
def ltE (ts : List Tr) (k j : Nat) : Bool := erlB (ts.getD k default).st (ts.getD k default).id (ts.getD j default).st (ts.getD j default).id
def ltR (ts : List Tr) (k j : Nat) : Bool := decide ((ts.getD k default).st < (ts.getD j default).st)
def noRc : Rc := ⟨0, 0, 0, 0, 0, []⟩
def hearR (ls : List (Int × Int)) (js : List (Int × Int × Int)) (ss : List (Int × Int)) (ts : List Tr) (dev : Int) (F : Int) : Rc :=
  if F < 0 then noRc else ⟨(ts.getD F.toNat default).id, dev, distE ls js ss ts F dev, (ts.getD F.toNat default).st, endI (ts.getD F.toNat default).st (ts.getD F.toNat default).bs.length, if distE ls js ss ts F dev = 1 then (ts.getD F.toNat default).bs else []⟩

theorem ne_of_hi {a b i : Nat} (h : a + 1 ≤ i) (h2 : b < a + 1) : i ≠ b ∧ b ≠ i := by omega
theorem below_dd {B : Nat} {W X : World} (h : Below B W X) : Below B W.drew X.drew := ⟨h.os, h.tape, h.output, h.size, h.block⟩
theorem alloc_named {W X : World} {o : Obj} (h : W.alloc o = X) : X.heap[W.heap.size]? = some o ∧ Below W.heap.size W X ∧ X.heap.size = W.heap.size + 1 := by
  subst h
  exact ⟨heap_alloc_new W o, (Below.refl _ _).alloc (Nat.le_refl _) _, by simp⟩
theorem set1 (W : World) (p : Addr) (u : Value) : W.grownBy (W.setCell p u) (some p.block) :=
  ⟨rfl, rfl, rfl, by simp [World.setCell], fun k _ hne => heap_setCell_other _ _ _ _ (fun e => hne (by rw [e]))⟩
set_option linter.unusedSimpArgs false in
theorem set6 {W X : World} {i : Nat} {t : TypeId} {x0 x1 x2 x3 x4 x5 y0 y1 y2 y3 y4 y5 : Value} (h : W.heap[i]? = some (.cells #[x0, x1, x2, x3, x4, x5] t (0, 0)))
    (hX : (((((W.setCell ⟨i, 0, none⟩ y0).setCell ⟨i, 1, none⟩ y1).setCell ⟨i, 2, none⟩ y2).setCell ⟨i, 3, none⟩ y3).setCell ⟨i, 4, none⟩ y4).setCell ⟨i, 5, none⟩ y5 = X) :
    X.heap[i]? = some (.cells #[y0, y1, y2, y3, y4, y5] t (0, 0)) ∧ W.grownBy X (some i) := by
  subst hX
  refine ⟨?_, ((((((set1 W ⟨i, 0, none⟩ y0).trans (set1 _ ⟨i, 1, none⟩ y1)).trans (set1 _ ⟨i, 2, none⟩ y2)).trans (set1 _ ⟨i, 3, none⟩ y3)).trans (set1 _ ⟨i, 4, none⟩ y4)).trans (set1 _ ⟨i, 5, none⟩ y5))⟩
  · have h0 := heap_setCell_same W i 0 _ t y0 h
    simp only [List.setIfInBounds_toArray, List.set_cons_zero, List.set_cons_succ] at h0
    have h1 := heap_setCell_same _ i 1 _ t y1 h0
    simp only [List.setIfInBounds_toArray, List.set_cons_zero, List.set_cons_succ] at h1
    have h2 := heap_setCell_same _ i 2 _ t y2 h1
    simp only [List.setIfInBounds_toArray, List.set_cons_zero, List.set_cons_succ] at h2
    have h3 := heap_setCell_same _ i 3 _ t y3 h2
    simp only [List.setIfInBounds_toArray, List.set_cons_zero, List.set_cons_succ] at h3
    have h4 := heap_setCell_same _ i 4 _ t y4 h3
    simp only [List.setIfInBounds_toArray, List.set_cons_zero, List.set_cons_succ] at h4
    have h5 := heap_setCell_same _ i 5 _ t y5 h4
    simp only [List.setIfInBounds_toArray, List.set_cons_zero, List.set_cons_succ] at h5
    exact h5
theorem Cells.grown {W X : World} {i : Nat} (hg : W.grownBy X (some i)) : ∀ {l : List (Nat × Nat × Value)}, Cells W l → (∀ x ∈ l, x.1 ≠ i) → Cells X l
  | [], _, _ => trivial
  | (b, o, v) :: l, h, hne => ⟨(World.cell?_of_block (a := ⟨b, o, none⟩) (hg.block b (World.block_lt_of_cell? W _ h.1) (fun e => hne (b, o, v) (by simp) (by simpa using e)))).trans h.1, Cells.grown hg h.2 (fun x hx => hne x (by simp [hx]))⟩
theorem BytesO.set {B : Nat} {w : World} {v : Value} {bs : List Nat} (h : BytesO B w v bs) {p : Addr} (hp : p.block < B) (u : Value) : BytesO B (w.setCell p u) v bs :=
  ⟨⟨(SRO.set ⟨h.1.1, h.2⟩ hp u).1, h.1.2⟩, h.2⟩
theorem BytesO.mono {B B' : Nat} {w : World} {v : Value} {bs : List Nat} (h : BytesO B w v bs) (hb : B' ≤ B) : BytesO B' w v bs := ⟨h.1, h.2.mono hb⟩
theorem bytesO_nil (B : Nat) (w : World) : BytesO B w (.slice none 0 0) [] :=
  ⟨⟨⟨Nat.zero_le _, rfl, by simp [bcells], none, 0, rfl, fun _ => ⟨rfl, rfl⟩, fun h => absurd h (by simp)⟩, by simp, by simp⟩, fun k hk => by simp [Value.ownBlock] at hk⟩

set_option linter.unusedSimpArgs false in
set_option linter.unusedVariables false in
set_option maxRecDepth 100000 in
set_option maxHeartbeats 8000000 in
theorem hear_any (d : Int) (lv jv sv tv : Value) (ls : List (Int × Int)) (js : List (Int × Int × Int)) (ss : List (Int × Int)) (ts : List Tr) (dev LC LS LE : Int) (w : World)
    (hf : ∀ x ∈ ts, Fits x) (h1 : SR w lv ls.length 2 (tcells ls)) (h2 : SR w jv js.length 3 (jcells js)) (h3 : SR w sv ss.length 2 (tcells ss)) (h4 : Txs w tv ts) :
    Calls Try.prog 26 #[.agg #[.int .i64 d, lv, jv, sv], tv, .agg #[.int .i64 dev, .int .i64 LC, .int .i64 LS, .int .i64 LE]] w
      fun e w' => ∃ va, e = .returned (.tuple #[rcV (hearR ls js ss ts dev (bestE (okK ls dev LC LS LE ts) (ltE ts) ts.length)) va, .bool (decide (0 ≤ bestE (okK ls dev LC LS LE ts) (ltE ts) ts.length))]) ∧
        BytesO w.heap.size w' va (hearR ls js ss ts dev (bestE (okK ls dev LC LS LE ts) (ltE ts) ts.length)).bs ∧ Below w.heap.size w w' := by
  have h4' := h4
  obtain ⟨hm4, a4, c4, rfl, hcell⟩ := h4
  unfold maxLen at hm4
  obtain ⟨n, hn⟩ : ∃ n, ts.length = n := ⟨_, rfl⟩
  have HN := Lib.hid hn
  have cd := fun (i : Int) w' (hb : Below w.heap.size w w') => dist_any d lv jv sv (.slice a4 ts.length c4) ls js ss ts i dev w' hf (h1.below hb) (h2.below hb) (h3.below hb) (h4'.below hb)
  have cr := fun (F : Int) w' (hb : Below w.heap.size w w') => range_any d lv jv sv ls F dev w' (h1.below hb)
  have hok : ∀ k (hk : k < ts.length), okK ls dev LC LS LE ts k = okB ls dev LC LS LE ts[k] := fun k hk => by unfold okK; rw [getD_at ts k _ hk]
  have hlt : ∀ k j (hk : k < ts.length) (hj : j < ts.length), ltE ts k j = erlB ts[k].st ts[k].id ts[j].st ts[j].id := fun k j hk hj => by unfold ltE; rw [getD_at ts k _ hk, getD_at ts j _ hj]
  obtain ⟨ok, hoke⟩ : ∃ f, okK ls dev LC LS LE ts = f := ⟨_, rfl⟩
  obtain ⟨lt, hlte⟩ : ∃ f, ltE ts = f := ⟨_, rfl⟩
  rw [hoke] at hok ⊢
  rw [hlte] at hlt ⊢
  rw [hn] at hm4 cd ⊢
  obtain ⟨dist, hdist⟩ : ∃ f : Int → Int, (fun i => distE ls js ss ts i dev) = f := ⟨_, rfl⟩
  have hd1 : ∀ i, distE ls js ss ts i dev = dist i := fun i => by rw [← hdist]
  simp only [hd1] at cd
  have HD := Lib.hid hd1
  have CD := Lib.hid cd
  have CR := Lib.hid cr
  have HOK := Lib.hid hok
  have HLT := Lib.hid hlt
  have HC := Lib.hid hcell
  have HF := Lib.hid hf
  obtain ⟨FN, hFN⟩ : ∃ F, bestE ok lt n = F := ⟨_, rfl⟩
  rw [hFN]
  have HFN := Lib.hid hFN
  clear hn cd cr hok hlt hoke hlte hdist hd1 hcell hf h1 h2 h3 h4' hFN
  have T0 := cells_new w [.int .i64 d, lv, jv, sv] 34
  have hB0 : Below w.heap.size w (w.alloc (.cells #[.int .i64 d, lv, jv, sv] 34)) := (Below.refl _ _).alloc (Nat.le_refl _) _
  have e1 : (w.alloc (.cells #[.int .i64 d, lv, jv, sv] 34)).heap.size = w.heap.size + 1 := by simp
  have T1 := cells_new (w.alloc (.cells #[.int .i64 d, lv, jv, sv] 34)) [.int .i64 dev, .int .i64 LC, .int .i64 LS, .int .i64 LE] 45
  rw [e1] at T1
  have T2 := (T0.keep ((Below.refl _ _).alloc (Nat.le_refl _) (.cells #[.int .i64 dev, .int .i64 LC, .int .i64 LS, .int .i64 LE] 45))).app T1
  have hB1 := hB0.alloc hB0.size (.cells #[.int .i64 dev, .int .i64 LC, .int .i64 LS, .int .i64 LE] 45)
  have e2 : ((w.alloc (.cells #[.int .i64 d, lv, jv, sv] 34)).alloc (.cells #[.int .i64 dev, .int .i64 LC, .int .i64 LS, .int .i64 LE] 45)).heap.size = w.heap.size + 1 + 1 := by simp
  have T := T2.keep ((Below.refl _ _).alloc (Nat.le_refl _) (.cells #[.int .i64 0, .int .i64 0, .int .i64 0, .int .i64 0, .int .i64 0, .slice none 0 0] 47))
  have hBW := hB1.alloc hB1.size (.cells #[.int .i64 0, .int .i64 0, .int .i64 0, .int .i64 0, .int .i64 0, .slice none 0 0] 47)
  have hres := heap_alloc_new ((w.alloc (.cells #[.int .i64 d, lv, jv, sv] 34)).alloc (.cells #[.int .i64 dev, .int .i64 LC, .int .i64 LS, .int .i64 LE] 45)) (.cells #[.int .i64 0, .int .i64 0, .int .i64 0, .int .i64 0, .int .i64 0, .slice none 0 0] 47)
  rw [e2] at hres
  have hsz : w.heap.size + 3 ≤ (((w.alloc (.cells #[.int .i64 d, lv, jv, sv] 34)).alloc (.cells #[.int .i64 dev, .int .i64 LC, .int .i64 LS, .int .i64 LE] 45)).alloc (.cells #[.int .i64 0, .int .i64 0, .int .i64 0, .int .i64 0, .int .i64 0, .slice none 0 0] 47)).heap.size := by simp
  clear T0 T1 T2 hB0 hB1 e1 e2
  go_enter Try.func26, Try.ntmps26
  go_wp2_with fail
  generalize hW : ((w.alloc (.cells _ 34)).alloc (.cells _ 45)).alloc (.cells _ 47) = W at T hBW hres hsz ⊢
  clear hW
  go_wp2_with fail
  go_step3
  go_wp2_with fail
  go_step3
  go_wp2_with fail
  go_loopw [15, 8, 9, 10] (fun i fd _ _ wr => ∃ k : Nat, k ≤ n ∧ i = .int .i64 k ∧ fd = .int .i64 (bestE ok lt k) ∧ Below W.heap.size W wr) (fun i _ _ _ _ => n - (intOf i).toNat)
  case atStart => exact ⟨0, by omega, rfl, rfl, Below.refl _ _⟩
  case round =>
    obtain ⟨k, hk, rfl, rfl, hB⟩ := hrel
    have hBr := hBW.trans (hB.mono hBW.size)
    have hszr : w.heap.size + 3 ≤ wr.heap.size := Nat.le_trans hsz hB.size
    have l0 : w.heap.size < wr.heap.size := by omega
    have l1 : w.heap.size + 1 < wr.heap.size := by omega
    have TR := T.keep hB
    have hrr := (hB.block (w.heap.size + 1 + 1) (by omega)).trans hres
    have hbc := bestE_cases ok lt k
    by_cases hlt : k < n
    · have hkl : k < ts.length := by rw [HN.out]; exact hlt
      obtain ⟨b, off, rfl, hb, hx⟩ := HC.out (by omega)
      obtain ⟨xa, xc, x0, x1, x2, x3, x4, _⟩ := (hx k hkl).below hBr
      have hokk := HOK.out k hkl
      have hyj : ∀ j (hj : j < k), ∃ (ya : Option Addr) (yc : Nat) (y : Tr), Cells wr (five b (off + j * 5) y ya yc) ∧ lt k j = (erlB ts[k].st ts[k].id y.st y.id) := fun j hj => by
        have hjl : j < ts.length := by omega
        obtain ⟨ya, yc, y0, y1, y2, y3, y4, _⟩ := (hx j hjl).below hBr
        exact ⟨ya, yc, ts[j], ⟨y0, y1, y2, y3, y4, trivial⟩, HLT.out k j hkl hjl⟩
      obtain ⟨x, hex⟩ : ∃ x, ts[k] = x := ⟨_, rfl⟩
      rw [hex] at x0 x1 x2 x3 x4 hokk
      simp only [hex] at hyj
      obtain ⟨XI, XF, XC, XS, xb⟩ := x
      unfold okB at hokk
      simp only at x0 x1 x2 x3 x4 hokk hyj
      obtain ⟨xn, hxn⟩ : ∃ n, xb.length = n := ⟨_, rfl⟩
      rw [hxn] at x4
      have crx := CR.out XF
      obtain ⟨r, hr⟩ : ∃ r, rngB ls XF dev = r := ⟨_, rfl⟩
      rw [hr] at crx hokk
      have CX := Lib.hid crx
      have HY := Lib.hid hyj
      have hi0 : (0 : Int) ≤ (k : Int) := by omega
      have hi1 : (k : Int) < (n : Int) := by omega
      have hbr : b < wr.heap.size := Nat.lt_of_lt_of_le hb hBr.size
      have TX := (cells_new wr [.int .i64 XI, .int .i64 XF, .int .i64 XC, .int .i64 XS, .slice xa xn xc] 24).app (TR.keep ((Below.refl _ _).alloc (Nat.le_refl _) (.cells #[.int .i64 XI, .int .i64 XF, .int .i64 XC, .int .i64 XS, .slice xa xn xc] 24)))
      have hBX := hB.alloc hB.size (.cells #[.int .i64 XI, .int .i64 XF, .int .i64 XC, .int .i64 XS, .slice xa xn xc] 24)
      have hBA := hBr.alloc hBr.size (.cells #[.int .i64 XI, .int .i64 XF, .int .i64 XC, .int .i64 XS, .slice xa xn xc] 24)
      have hBS : Below wr.heap.size wr (wr.alloc (.cells #[.int .i64 XI, .int .i64 XF, .int .i64 XC, .int .i64 XS, .slice xa xn xc] 24)) := (Below.refl _ _).alloc (Nat.le_refl _) _
      have hOpen := TR
      simp only [Cells, blk, List.cons_append, List.nil_append, and_true, Nat.reduceAdd, Nat.add_zero, Nat.zero_add] at hOpen
      obtain ⟨k0, k1, k2, k3, k4, k5, k6, k7⟩ := hOpen
      obtain ⟨okk, hokv⟩ : ∃ v, ok k = v := ⟨_, rfl⟩
      have HOKV := Lib.hid hokv
      rw [hokv] at hokk
      have hpar : (okk = false ∧ ((XC != LC) = true ∨ ((XC != LC) = false ∧ decide (XS < LS) = true) ∨ ((XC != LC) = false ∧ decide (XS < LS) = false ∧ decide (LE ≤ XS) = true))) ∨ (okk = r ∧ (XC != LC) = false ∧ decide (XS < LS) = false ∧ decide (LE ≤ XS) = false) := by
        rw [hokk]
        simp only [bne_iff_ne, ne_eq, bne_eq_false_iff_eq, decide_eq_true_eq, decide_eq_false_iff_not]
        by_cases q1 : XC = LC
        · by_cases q2 : XS < LS
          · left; exact ⟨by rw [decide_eq_false (show ¬ LS ≤ XS by omega)]; simp, .inr (.inl ⟨q1, q2⟩)⟩
          · by_cases q3 : LE ≤ XS
            · left; exact ⟨by rw [decide_eq_false (show ¬ XS < LE by omega)]; simp, .inr (.inr ⟨q1, q2, q3⟩)⟩
            · right; exact ⟨by rw [decide_eq_true q1, decide_eq_true (show LS ≤ XS by omega), decide_eq_true (show XS < LE by omega)]; simp, q1, q2, q3⟩
        · left; exact ⟨by rw [decide_eq_false q1]; simp, .inl q1⟩
      obtain ⟨F, hF⟩ : ∃ F, bestE ok lt k = F := ⟨_, rfl⟩
      rw [hF]
      have hskip : okk = false → bestE ok lt (k + 1) = F := fun h => by rw [bestE_skip (by rw [HOKV.out, h]), hF]
      have HSK := Lib.hid hskip
      have hfirst : okk = true → F = -1 → bestE ok lt (k + 1) = k := fun h hf => bestE_first (by rw [HOKV.out, h]) (by rw [hF, hf])
      have HFI := Lib.hid hfirst
      have hlt' : ∀ j : Nat, okk = true → F = j → lt k j = true → bestE ok lt (k + 1) = k := fun j h hf hl => bestE_lt (by rw [HOKV.out, h]) (by rw [hF, hf]) hl
      have HLE := Lib.hid hlt'
      have hge' : ∀ j : Nat, F = j → lt k j = false → bestE ok lt (k + 1) = j := fun j hf hl => bestE_ge (by rw [hF, hf]) hl
      have HGE := Lib.hid hge'
      rw [hF] at hbc
      have HBC := Lib.hid hbc
      clear hokv hokk hskip hfirst hlt' hge' hbc hF hx hex hxn crx hr hyj TR T hrr
      rcases hpar with ⟨hk0, hc⟩ | ⟨hk1, g1, g2, g3⟩
      · have he := HSK.out hk0
        have HE := Lib.hid he
        clear he HOKV
        rcases hc with g1 | ⟨g1, g2⟩ | ⟨g1, g2, g3⟩
        all_goals
          go_wp2
          go_roundw
          case rel => exact ⟨k + 1, by omega, by go_num, by rw [HE.out], hBX⟩
          case measure => simp [intOf]; omega
      · subst hk1
        go_wp2_with fail
        generalize hX : wr.alloc (.cells _ 24) = X at TX hBX hBA hBS ⊢
        clear hX
        refine (CX.out _ hBA).mono ?_
        rintro e w2 ⟨rfl, hB2⟩
        have T2 := TX.keep hB2
        have hBn := hBX.trans (hB2.mono hBX.size)
        cases okk
        · have he := HSK.out (by rfl)
          have HE := Lib.hid he
          clear he
          go_wp2
          go_roundw
          case rel => exact ⟨k + 1, by omega, by go_num, by rw [HE.out], hBn⟩
          case measure => simp [intOf]; omega
        · skip
          rcases HBC.out with hF | ⟨j, hF, hjk, _⟩
          · have he := HFI.out (by first | rfl | trivial) hF
            have HE := Lib.hid he
            subst hF
            clear he
            go_wp2_with fail
            go_quiet (fail)
            go_wp2
            go_roundw
            case rel => exact ⟨k + 1, by omega, by go_num, by rw [HE.out], below_drewN hBn _⟩
            case measure => simp [intOf]; omega
          · obtain ⟨ya, yc, y, TY, hyl⟩ := HY.out j hjk
            subst hF
            obtain ⟨YI, YF, YC, YS, yb⟩ := y
            unfold five at TY
            simp only at TY hyl
            obtain ⟨yn, hyn⟩ : ∃ n, yb.length = n := ⟨_, rfl⟩
            rw [hyn] at TY
            have TZ := T2.app ((TY.keep hBS).keep hB2)
            have hj0 : (0 : Int) ≤ (j : Int) := by omega
            have hj1 : (j : Int) < (n : Int) := by omega
            have hneg : decide ((j : Int) < 0) = false := by simp; try omega
            clear hyn
            have ce := earlier_any XI XF XC XS YI YF YC YS (.slice xa xn xc) (.slice ya yn yc)
            obtain ⟨g, hg⟩ : ∃ g, erlB XS XI YS YI = g := ⟨_, rfl⟩
            rw [hg] at ce hyl
            have CE := Lib.hid ce
            clear ce hg
            go_wp2_with fail
            refine wp_region_held_drew (S := (fun W' : World => Cells W' ((blk wr.heap.size 0 0 [.int .i64 XI, .int .i64 XF, .int .i64 XC, .int .i64 XS, .slice xa xn xc] ++ (blk w.heap.size 0 0 [.int .i64 d, lv, jv, sv] ++ blk (w.heap.size + 1) 0 0 [.int .i64 dev, .int .i64 LC, .int .i64 LS, .int .i64 LE])) ++ blk b (off + j * 5) 0 [.int .i64 YI, .int .i64 YF, .int .i64 YC, .int .i64 YS, .slice ya yn yc]))) (by kernel_rfl) (TZ) (fun hHeld => ?_)
            refine wpAnyH_take (i := 0) (oi := _) (v := ?_) (by rw [List.getElem?_toArray]; rfl) (by kernel_rfl) (by kernel_rfl) (by kernel_rfl) (by exact fun _ _ _ h => h) (Or.inl ⟨by rfl, ?_⟩) (by assumption) ?_
            rotate_left
            · intro w hSw
              try simp only [Cells, blk, List.cons_append, List.nil_append, and_true, Nat.reduceAdd, Nat.add_zero, Nat.zero_add] at hSw
              go_simp
              try with_reducible rfl
            simp only [Act.put, List.setIfInBounds_toArray, List.set_cons_zero, List.set_cons_succ]
            refine wpAnyH_take (i := 1) (oi := _) (v := ?_) (by rw [List.getElem?_toArray]; rfl) (by kernel_rfl) (by kernel_rfl) (by kernel_rfl) (by exact fun _ _ _ h => h) (Or.inl ⟨by rfl, ?_⟩) (by assumption) ?_
            rotate_left
            · intro w hSw
              try simp only [Cells, blk, List.cons_append, List.nil_append, and_true, Nat.reduceAdd, Nat.add_zero, Nat.zero_add] at hSw
              go_simp
              try with_reducible rfl
            simp only [Act.put, List.setIfInBounds_toArray, List.set_cons_zero, List.set_cons_succ]
            refine wpAnyH_take (i := 2) (oi := _) (v := ?_) (by rw [List.getElem?_toArray]; rfl) (by kernel_rfl) (by kernel_rfl) (by kernel_rfl) (by exact fun _ _ _ h => h) (Or.inl ⟨by rfl, ?_⟩) (by assumption) ?_
            rotate_left
            · intro w hSw
              try simp only [Cells, blk, List.cons_append, List.nil_append, and_true, Nat.reduceAdd, Nat.add_zero, Nat.zero_add] at hSw
              go_simp
              try with_reducible rfl
            simp only [Act.put, List.setIfInBounds_toArray, List.set_cons_zero, List.set_cons_succ]
            refine wpAnyH_take (i := 3) (oi := _) (v := ?_) (by rw [List.getElem?_toArray]; rfl) (by kernel_rfl) (by kernel_rfl) (by kernel_rfl) (by exact fun _ _ _ h => h) (Or.inl ⟨by rfl, ?_⟩) (by assumption) ?_
            rotate_left
            · intro w hSw
              try simp only [Cells, blk, List.cons_append, List.nil_append, and_true, Nat.reduceAdd, Nat.add_zero, Nat.zero_add] at hSw
              go_simp
              try with_reducible rfl
            simp only [Act.put, List.setIfInBounds_toArray, List.set_cons_zero, List.set_cons_succ]
            refine wpAnyH_take (i := 4) (oi := _) (v := ?_) (by rw [List.getElem?_toArray]; rfl) (by kernel_rfl) (by kernel_rfl) (by kernel_rfl) (by exact fun _ _ _ h => h) (Or.inl ⟨by rfl, ?_⟩) (by assumption) ?_
            rotate_left
            · intro w hSw
              try simp only [Cells, blk, List.cons_append, List.nil_append, and_true, Nat.reduceAdd, Nat.add_zero, Nat.zero_add] at hSw
              go_simp
              try with_reducible rfl
            simp only [Act.put, List.setIfInBounds_toArray, List.set_cons_zero, List.set_cons_succ]
            refine wpAnyH_take (i := 5) (oi := _) (v := ?_) (by rw [List.getElem?_toArray]; rfl) (by kernel_rfl) (by kernel_rfl) (by kernel_rfl) (by exact fun _ _ _ h => h) (Or.inl ⟨by rfl, ?_⟩) (by assumption) ?_
            rotate_left
            · intro w hSw
              try simp only [Cells, blk, List.cons_append, List.nil_append, and_true, Nat.reduceAdd, Nat.add_zero, Nat.zero_add] at hSw
              go_simp
              try with_reducible rfl
            simp only [Act.put, List.setIfInBounds_toArray, List.set_cons_zero, List.set_cons_succ]
            refine wpAnyH_take (i := 6) (oi := _) (v := ?_) (by rw [List.getElem?_toArray]; rfl) (by kernel_rfl) (by kernel_rfl) (by kernel_rfl) (by exact fun _ _ _ h => h) (Or.inl ⟨by rfl, ?_⟩) (by assumption) ?_
            rotate_left
            · intro w hSw
              try simp only [Cells, blk, List.cons_append, List.nil_append, and_true, Nat.reduceAdd, Nat.add_zero, Nat.zero_add] at hSw
              go_simp
              try with_reducible rfl
            simp only [Act.put, List.setIfInBounds_toArray, List.set_cons_zero, List.set_cons_succ]
            refine wpAnyH_take (i := 7) (oi := _) (v := ?_) (by rw [List.getElem?_toArray]; rfl) (by kernel_rfl) (by kernel_rfl) (by kernel_rfl) (by exact fun _ _ _ h => h) (Or.inl ⟨by rfl, ?_⟩) (by assumption) ?_
            rotate_left
            · intro w hSw
              try simp only [Cells, blk, List.cons_append, List.nil_append, and_true, Nat.reduceAdd, Nat.add_zero, Nat.zero_add] at hSw
              go_simp
              try with_reducible rfl
            simp only [Act.put, List.setIfInBounds_toArray, List.set_cons_zero, List.set_cons_succ]
            refine wpAnyH_ready (rs := [8]) (by kernel_rfl) (by simp) (AllReadyH.cons (o := _) (by rw [List.getElem?_toArray]; rfl) (fun K hK => ?_) AllReadyH.nil)
            go_simp
            go_at_call 44
            refine (CE.out _).mono ?_
            rintro e w3 ⟨rfl, hB3⟩
            have hBn3 := hBn.drew.trans (hB3.mono hBn.drew.size)
            have TW := Cells.keep (W := w2.drew) TZ.drew hB3
            clear hHeld
            refine hK.out _ _ (TW) (fun hHeld => ?_)
            clear hK K
            try simp only [Act.put, List.setIfInBounds_toArray, List.set_cons_zero, List.set_cons_succ]
            refine wpAnyH_take (i := 9) (oi := _) (v := ?_) (by rw [List.getElem?_toArray]; rfl) (by kernel_rfl) (by kernel_rfl) (by kernel_rfl) (by exact fun _ _ _ h => h) (Or.inl ⟨by rfl, ?_⟩) (by assumption) ?_
            rotate_left
            · intro w hSw
              try simp only [Cells, blk, List.cons_append, List.nil_append, and_true, Nat.reduceAdd, Nat.add_zero, Nat.zero_add] at hSw
              go_simp
              try with_reducible rfl
            simp only [Act.put, List.setIfInBounds_toArray, List.set_cons_zero, List.set_cons_succ]
            refine wpAnyH_take (i := 10) (oi := _) (v := ?_) (by rw [List.getElem?_toArray]; rfl) (by kernel_rfl) (by kernel_rfl) (by kernel_rfl) (by exact fun _ _ _ h => h) (Or.inl ⟨by rfl, ?_⟩) (by assumption) ?_
            rotate_left
            · intro w hSw
              try simp only [Cells, blk, List.cons_append, List.nil_append, and_true, Nat.reduceAdd, Nat.add_zero, Nat.zero_add] at hSw
              go_simp
              try with_reducible rfl
            simp only [Act.put, List.setIfInBounds_toArray, List.set_cons_zero, List.set_cons_succ]
            refine wpAnyH_done (by kernel_rfl) ?_ _
            cases g
            · have he := HGE.out j rfl hyl
              have HE := Lib.hid he
              clear he
              go_wp2
              go_roundw
              case rel => exact ⟨k + 1, by omega, by go_num, by rw [HE.out], hBn3⟩
              case measure => simp [intOf]; omega
            · have he := HLE.out j (by first | rfl | trivial) rfl hyl
              have HE := Lib.hid he
              clear he
              go_wp2
              go_roundw
              case rel => exact ⟨k + 1, by omega, by go_num, by rw [HE.out], hBn3⟩
              case measure => simp [intOf]; omega
    · have hkn : k = n := by omega
      subst hkn
      rw [HFN.out] at hbc
      rw [HFN.out]
      have i0 := cell_of_row _ _ 0 _ _ _ hrr
      have i1 := cell_of_row _ _ 1 _ _ _ hrr
      have i2 := cell_of_row _ _ 2 _ _ _ hrr
      have i3 := cell_of_row _ _ 3 _ _ _ hrr
      have i4 := cell_of_row _ _ 4 _ _ _ hrr
      have i5 := cell_of_row _ _ 5 _ _ _ hrr
      have z0 := frozen_of_row _ _ 0 _ _ hrr
      have z1 := frozen_of_row _ _ 1 _ _ hrr
      have z2 := frozen_of_row _ _ 2 _ _ hrr
      have z3 := frozen_of_row _ _ 3 _ _ hrr
      have z4 := frozen_of_row _ _ 4 _ _ hrr
      have z5 := frozen_of_row _ _ 5 _ _ hrr
      simp at i0 i1 i2 i3 i4 i5
      rcases hbc with hF | ⟨j, hF, hjk, _⟩
      · subst hF
        have hout : hearR ls js ss ts dev (-1) = noRc := by unfold hearR; rw [if_pos (by decide)]
        have HOUT := Lib.hid hout
        clear hout T TR
        go_wp2
        rw [Exit.noGoto_ret]
        refine bodyPost_ret (v := .tuple #[rcV noRc (.slice none 0 0), .bool false]) (by simp [results, Try.results26, go_sem, i0, i1, i2, i3, i4, i5, rcV, noRc]) rfl ?_
        rw [HOUT.out]
        exact ⟨_, rfl, bytesO_nil _ _, (((((hBr.setCell (by simp; omega) _).setCell (by simp; omega) _).setCell (by simp; omega) _).setCell (by simp; omega) _).setCell (by simp; omega) _).setCell (by simp; omega) _⟩
      · subst hF
        have hjl : j < ts.length := by rw [HN.out]; exact hjk
        obtain ⟨b, off, rfl, hb, hx⟩ := HC.out (by omega)
        obtain ⟨ta, tc, x0, x1, x2, x3, x4, hby⟩ := (hx j hjl).below hBr
        have hft := HF.out _ (List.getElem_mem hjl)
        have cdj := CD.out (j : Int)
        have hout : hearR ls js ss ts dev (j : Int) = ⟨ts[j].id, dev, dist j, ts[j].st, endI ts[j].st ts[j].bs.length, if dist j = 1 then ts[j].bs else []⟩ := by
          unfold hearR
          rw [if_neg (by omega), Int.toNat_natCast, getD_at ts j _ hjl, HD.out]
        obtain ⟨t, het⟩ : ∃ t, ts[j] = t := ⟨_, rfl⟩
        rw [het] at x0 x1 x2 x3 x4 hby hft hout
        obtain ⟨TI, TF, TC, TS, tb⟩ := t
        unfold Fits at hft
        simp only at x0 x1 x2 x3 x4 hby hft hout
        obtain ⟨tn, htn⟩ : ∃ n, tb.length = n := ⟨_, rfl⟩
        rw [htn] at x4 hft hby hout
        have ce := end_any TI TF TC TS ta tn tc (by omega) (by omega)
        obtain ⟨EN, hEN⟩ : ∃ E, endI TS tn = E := ⟨_, rfl⟩
        rw [hEN] at ce hout
        obtain ⟨KD, hKD⟩ : ∃ K, dist (j : Int) = K := ⟨_, rfl⟩
        rw [hKD] at cdj hout
        have HOUT := Lib.hid hout
        have CDJ := Lib.hid cdj
        have CE := Lib.hid ce
        have HBY := Lib.hid hby
        have HTN := Lib.hid htn
        have hj0 : (0 : Int) ≤ (j : Int) := by omega
        have hj1 : (j : Int) < (k : Int) := by omega
        have hneg : decide ((j : Int) < 0) = false := by simp; try omega
        have hbr : b < wr.heap.size := Nat.lt_of_lt_of_le hb hBr.size
        have TX := (cells_new wr [.int .i64 TI, .int .i64 TF, .int .i64 TC, .int .i64 TS, .slice ta tn tc] 24).app (TR.keep ((Below.refl _ _).alloc (Nat.le_refl _) (.cells #[.int .i64 TI, .int .i64 TF, .int .i64 TC, .int .i64 TS, .slice ta tn tc] 24)))
        have hBX : Below wr.heap.size wr (wr.alloc (.cells #[.int .i64 TI, .int .i64 TF, .int .i64 TC, .int .i64 TS, .slice ta tn tc] 24)) := (Below.refl _ _).alloc (Nat.le_refl _) _
        have hsX : wr.heap.size + 1 ≤ (wr.alloc (.cells #[.int .i64 TI, .int .i64 TF, .int .i64 TC, .int .i64 TS, .slice ta tn tc] 24)).heap.size := by simp
        clear hx het hout cdj ce hby htn hEN hKD T TR i0 i1 i2 i3 i4 i5 z0 z1 z2 z3 z4 z5
        go_wp2_with fail
        generalize hX : wr.alloc (.cells _ 24) = X at TX hBX hsX ⊢
        clear hX x0 x1 x2 x3 x4
        refine wp_region_held_drew (S := (fun W' : World => Below wr.heap.size wr W' ∧ wr.heap.size + 1 ≤ W'.heap.size ∧ Cells W' (blk wr.heap.size 0 0 [.int .i64 TI, .int .i64 TF, .int .i64 TC, .int .i64 TS, .slice ta tn tc] ++ (blk w.heap.size 0 0 [.int .i64 d, lv, jv, sv] ++ blk (w.heap.size + 1) 0 0 [.int .i64 dev, .int .i64 LC, .int .i64 LS, .int .i64 LE])))) (by kernel_rfl) (⟨hBX.drew, hsX, TX.drew⟩) (fun hHeld => ?_)
        generalize World.drew _ = wd at hHeld ⊢
        have hz := hHeld.2.1
        refine wpAnyH_take (i := 0) (oi := _) (v := ?_) (by rw [List.getElem?_toArray]; rfl) (by kernel_rfl) (by kernel_rfl) (by kernel_rfl) (by exact fun _ _ _ h => h) (Or.inl ⟨by rfl, ?_⟩) (by assumption) ?_
        rotate_left
        · intro w hSw
          try simp only [Cells, blk, List.cons_append, List.nil_append, and_true, Nat.reduceAdd, Nat.add_zero, Nat.zero_add] at hSw
          go_simp
          try with_reducible rfl
        simp only [Act.put, List.setIfInBounds_toArray, List.set_cons_zero, List.set_cons_succ]
        refine wpAnyH_take (i := 1) (oi := _) (v := ?_) (by rw [List.getElem?_toArray]; rfl) (by kernel_rfl) (by kernel_rfl) (by kernel_rfl) (by exact fun _ _ _ h => h) (Or.inl ⟨by rfl, ?_⟩) (by assumption) ?_
        rotate_left
        · intro w hSw
          try simp only [Cells, blk, List.cons_append, List.nil_append, and_true, Nat.reduceAdd, Nat.add_zero, Nat.zero_add] at hSw
          go_simp
          try with_reducible rfl
        simp only [Act.put, List.setIfInBounds_toArray, List.set_cons_zero, List.set_cons_succ]
        refine wpAnyH_take (i := 2) (oi := _) (v := ?_) (by rw [List.getElem?_toArray]; rfl) (by kernel_rfl) (by kernel_rfl) (by kernel_rfl) (by exact fun _ _ _ h => h) (Or.inl ⟨by rfl, ?_⟩) (by assumption) ?_
        rotate_left
        · intro w hSw
          try simp only [Cells, blk, List.cons_append, List.nil_append, and_true, Nat.reduceAdd, Nat.add_zero, Nat.zero_add] at hSw
          go_simp
          try with_reducible rfl
        simp only [Act.put, List.setIfInBounds_toArray, List.set_cons_zero, List.set_cons_succ]
        refine wpAnyH_take (i := 3) (oi := _) (v := ?_) (by rw [List.getElem?_toArray]; rfl) (by kernel_rfl) (by kernel_rfl) (by kernel_rfl) (by exact fun _ _ _ h => h) (Or.inl ⟨by rfl, ?_⟩) (by assumption) ?_
        rotate_left
        · intro w hSw
          try simp only [Cells, blk, List.cons_append, List.nil_append, and_true, Nat.reduceAdd, Nat.add_zero, Nat.zero_add] at hSw
          go_simp
          try with_reducible rfl
        simp only [Act.put, List.setIfInBounds_toArray, List.set_cons_zero, List.set_cons_succ]
        refine wpAnyH_take (i := 4) (oi := _) (v := ?_) (by rw [List.getElem?_toArray]; rfl) (by kernel_rfl) (by kernel_rfl) (by kernel_rfl) (by exact fun _ _ _ h => h) (Or.inl ⟨by rfl, ?_⟩) (by assumption) ?_
        rotate_left
        · intro w hSw
          try simp only [Cells, blk, List.cons_append, List.nil_append, and_true, Nat.reduceAdd, Nat.add_zero, Nat.zero_add] at hSw
          go_simp
          try with_reducible rfl
        simp only [Act.put, List.setIfInBounds_toArray, List.set_cons_zero, List.set_cons_succ]
        refine wpAnyH_take (i := 5) (oi := _) (v := ?_) (by rw [List.getElem?_toArray]; rfl) (by kernel_rfl) (by kernel_rfl) (by kernel_rfl) (by exact fun _ _ _ h => h) (Or.inl ⟨by rfl, ?_⟩) (by assumption) ?_
        rotate_left
        · intro w hSw
          try simp only [Cells, blk, List.cons_append, List.nil_append, and_true, Nat.reduceAdd, Nat.add_zero, Nat.zero_add] at hSw
          go_simp
          try with_reducible rfl
        simp only [Act.put, List.setIfInBounds_toArray, List.set_cons_zero, List.set_cons_succ]
        refine wpAnyH_take (i := 6) (oi := _) (v := ?_) (by rw [List.getElem?_toArray]; rfl) (by kernel_rfl) (by kernel_rfl) (by kernel_rfl) (by exact fun _ _ _ h => h) (Or.inl ⟨by rfl, ?_⟩) (by assumption) ?_
        rotate_left
        · intro w hSw
          try simp only [Cells, blk, List.cons_append, List.nil_append, and_true, Nat.reduceAdd, Nat.add_zero, Nat.zero_add] at hSw
          go_simp
          try with_reducible rfl
        simp only [Act.put, List.setIfInBounds_toArray, List.set_cons_zero, List.set_cons_succ]
        refine wpAnyH_take (i := 7) (oi := _) (v := ?_) (by rw [List.getElem?_toArray]; rfl) (by kernel_rfl) (by kernel_rfl) (by kernel_rfl) (by exact fun _ _ _ h => h) (Or.inl ⟨by rfl, ?_⟩) (by assumption) ?_
        rotate_left
        · intro w hSw
          try simp only [Cells, blk, List.cons_append, List.nil_append, and_true, Nat.reduceAdd, Nat.add_zero, Nat.zero_add] at hSw
          go_simp
          try with_reducible rfl
        simp only [Act.put, List.setIfInBounds_toArray, List.set_cons_zero, List.set_cons_succ]
        refine wpAnyH_take (i := 8) (oi := _) (v := ?_) (by rw [List.getElem?_toArray]; rfl) (by kernel_rfl) (by kernel_rfl) (by kernel_rfl) (by exact fun _ _ _ h => h) (Or.inl ⟨by rfl, ?_⟩) (by assumption) ?_
        rotate_left
        · intro w hSw
          try simp only [Cells, blk, List.cons_append, List.nil_append, and_true, Nat.reduceAdd, Nat.add_zero, Nat.zero_add] at hSw
          go_simp
          try with_reducible rfl
        simp only [Act.put, List.setIfInBounds_toArray, List.set_cons_zero, List.set_cons_succ]
        refine wpAnyH_take (i := 10) (oi := _) (v := ?_) (by rw [List.getElem?_toArray]; rfl) (by kernel_rfl) (by kernel_rfl) (by kernel_rfl) (by exact fun _ _ _ h => h) (Or.inl ⟨by rfl, ?_⟩) (by assumption) ?_
        rotate_left
        · intro w hSw
          try simp only [Cells, blk, List.cons_append, List.nil_append, and_true, Nat.reduceAdd, Nat.add_zero, Nat.zero_add] at hSw
          go_simp
          try with_reducible rfl
        simp only [Act.put, List.setIfInBounds_toArray, List.set_cons_zero, List.set_cons_succ]
        refine wpAnyH_take (i := 11) (oi := _) (v := ?_) (by rw [List.getElem?_toArray]; rfl) (by kernel_rfl) (by kernel_rfl) (by kernel_rfl) (by exact fun _ _ _ h => h) (Or.inl ⟨by rfl, ?_⟩) (by assumption) ?_
        rotate_left
        · intro w hSw
          try simp only [Cells, blk, List.cons_append, List.nil_append, and_true, Nat.reduceAdd, Nat.add_zero, Nat.zero_add] at hSw
          go_simp
          try with_reducible rfl
        simp only [Act.put, List.setIfInBounds_toArray, List.set_cons_zero, List.set_cons_succ]
        refine wpAnyH_take (i := 12) (oi := _) (v := ?_) (by rw [List.getElem?_toArray]; rfl) (by kernel_rfl) (by kernel_rfl) (by kernel_rfl) (by exact fun _ _ _ h => h) (Or.inl ⟨by rfl, ?_⟩) (by assumption) ?_
        rotate_left
        · intro w hSw
          try simp only [Cells, blk, List.cons_append, List.nil_append, and_true, Nat.reduceAdd, Nat.add_zero, Nat.zero_add] at hSw
          go_simp
          try with_reducible rfl
        simp only [Act.put, List.setIfInBounds_toArray, List.set_cons_zero, List.set_cons_succ]
        refine wpAnyH_ready (rs := [9, 15]) (by kernel_rfl) (by simp) (AllReadyH.cons (o := _) (by rw [List.getElem?_toArray]; rfl) (fun K hK => ?_) (AllReadyH.cons (o := _) (by rw [List.getElem?_toArray]; rfl) (fun K hK => ?_) AllReadyH.nil))
        · go_simp
          go_at_call 24
          refine (CDJ.out _ (hBr.trans (hHeld.1.mono (by omega)))).mono ?_
          rintro e w9 ⟨rfl, hB9⟩
          refine hK.out _ _ (⟨hHeld.1.trans (hB9.mono (by have := hHeld.2.1; omega)), Nat.le_trans hHeld.2.1 hB9.size, hHeld.2.2.keep hB9⟩) (fun hHeld2 => ?_)
          replace hHeld := hHeld2
          clear hK K hHeld2
          try simp only [Act.put, List.setIfInBounds_toArray, List.set_cons_zero, List.set_cons_succ]
          have hz := hHeld.2.1
          try replace h12 := (hB9.block _ (by have := h12s; omega)).trans h12
          try replace h12s := Nat.le_trans h12s hB9.size
          refine wpAnyH_ready (rs := [13, 15]) (by kernel_rfl) (by simp) (AllReadyH.cons (o := _) (by rw [List.getElem?_toArray]; rfl) (fun K hK => ?_) (AllReadyH.cons (o := _) (by rw [List.getElem?_toArray]; rfl) (fun K hK => ?_) AllReadyH.nil))
          · go_simp
            go_at_call 13
            refine (CE.out _).mono ?_
            rintro e w13 ⟨rfl, hB13⟩
            refine hK.out _ _ (⟨hHeld.1.trans (hB13.mono (by have := hHeld.2.1; omega)), Nat.le_trans hHeld.2.1 hB13.size, hHeld.2.2.keep hB13⟩) (fun hHeld2 => ?_)
            replace hHeld := hHeld2
            clear hK K hHeld2
            try simp only [Act.put, List.setIfInBounds_toArray, List.set_cons_zero, List.set_cons_succ]
            have hz := hHeld.2.1
            try replace h12 := (hB13.block _ (by have := h12s; omega)).trans h12
            try replace h12s := Nat.le_trans h12s hB13.size
            try have f0 := cell_of_row _ _ 0 _ _ _ h12
            try have f1 := cell_of_row _ _ 1 _ _ _ h12
            try have f2 := cell_of_row _ _ 2 _ _ _ h12
            try have f3 := cell_of_row _ _ 3 _ _ _ h12
            try have f4 := cell_of_row _ _ 4 _ _ _ h12
            try have f5 := cell_of_row _ _ 5 _ _ _ h12
            try have z0 := frozen_of_row _ _ 0 _ _ h12
            try have z1 := frozen_of_row _ _ 1 _ _ h12
            try have z2 := frozen_of_row _ _ 2 _ _ h12
            try have z3 := frozen_of_row _ _ 3 _ _ h12
            try have z4 := frozen_of_row _ _ 4 _ _ h12
            try have z5 := frozen_of_row _ _ 5 _ _ h12
            try simp at f0 f1 f2 f3 f4 f5
            refine wpAnyH_take (i := 14) (oi := _) (v := ?_) (by rw [List.getElem?_toArray]; rfl) (by kernel_rfl) (by kernel_rfl) (by kernel_rfl) (by exact fun _ _ _ h => h) (Or.inl ⟨by rfl, ?_⟩) (by assumption) ?_
            rotate_left
            · intro w hSw
              try simp only [Cells, blk, List.cons_append, List.nil_append, and_true, Nat.reduceAdd, Nat.add_zero, Nat.zero_add] at hSw
              go_simp
              try with_reducible rfl
            simp only [Act.put, List.setIfInBounds_toArray, List.set_cons_zero, List.set_cons_succ]
            refine wpAnyH_ready (rs := [15]) (by kernel_rfl) (by simp) (AllReadyH.cons (o := _) (by rw [List.getElem?_toArray]; rfl) (fun K hK => ?_) AllReadyH.nil)
            go_simp
            generalize hX : World.alloc _ (.cells _ 47) = w15
            obtain ⟨h12, hB15, h12z⟩ := alloc_named hX
            clear hX
            refine hK.out _ _ (by first | exact ⟨hHeld.1.trans (hB15.mono (by have := hHeld.2.1; omega)), Nat.le_trans hHeld.2.1 hB15.size, hHeld.2.2.keep hB15⟩) (fun hHeld2 => ?_)
            replace hHeld := hHeld2
            clear hK K hHeld2
            try simp only [Act.put, List.setIfInBounds_toArray, List.set_cons_zero, List.set_cons_succ]
            have h12s := Nat.le_of_eq h12z.symm
            have hi12 := hz
            try have f0 := cell_of_row _ _ 0 _ _ _ h12
            try have f1 := cell_of_row _ _ 1 _ _ _ h12
            try have f2 := cell_of_row _ _ 2 _ _ _ h12
            try have f3 := cell_of_row _ _ 3 _ _ _ h12
            try have f4 := cell_of_row _ _ 4 _ _ _ h12
            try have f5 := cell_of_row _ _ 5 _ _ _ h12
            try have z0 := frozen_of_row _ _ 0 _ _ h12
            try have z1 := frozen_of_row _ _ 1 _ _ h12
            try have z2 := frozen_of_row _ _ 2 _ _ h12
            try have z3 := frozen_of_row _ _ 3 _ _ h12
            try have z4 := frozen_of_row _ _ 4 _ _ h12
            try have z5 := frozen_of_row _ _ 5 _ _ h12
            try simp at f0 f1 f2 f3 f4 f5
            refine wpAnyH_ready (rs := [16]) (by kernel_rfl) (by simp) (AllReadyH.cons (o := _) (by rw [List.getElem?_toArray]; rfl) (fun K hK => ?_) AllReadyH.nil)
            go_simp
            generalize hX : World.setCell _ _ _ = w16
            obtain ⟨h16, hg16⟩ := set6 h12 hX
            clear hX
            refine hK.out _ _ (⟨hHeld.1.grown hg16 (by have := hHeld.2.1; omega) (fun q hq => by have := hi12; simp at hq; omega), Nat.le_trans hHeld.2.1 hg16.size, hHeld.2.2.grown hg16 (fun x hx => by have := hi12; simp [blk] at hx; rcases hx with rfl | rfl | rfl | rfl | rfl | rfl | rfl | rfl | rfl | rfl | rfl | rfl | rfl <;> (simp; omega))⟩) (fun hHeld2 => ?_)
            replace hHeld := hHeld2
            clear hK K hHeld2
            try simp only [Act.put, List.setIfInBounds_toArray, List.set_cons_zero, List.set_cons_succ]
            have hz16 := Nat.le_trans h12s hg16.size
            refine wpAnyH_done (by kernel_rfl) ?_ _
            have hne := ne_of_hi hi12 (b := w.heap.size + 1 + 1) (by omega)
            obtain ⟨hb16, hs16, T16⟩ := hHeld
            have hres16 := (hb16.block (w.heap.size + 1 + 1) (by omega)).trans hrr
            have hw16 := hBr.trans (hb16.mono (by omega))
            have hBy16 := HBY.out.below hb16
            clear f0 f1 f2 f3 f4 f5 z0 z1 z2 z3 z4 z5
            have hOpen := T16
            simp only [Cells, blk, List.cons_append, List.nil_append, and_true, Nat.reduceAdd, Nat.add_zero, Nat.zero_add] at hOpen
            obtain ⟨r0, r1, r2, r3, r4, q0, q1, q2, q3, q4, q5, q6, q7⟩ := hOpen
            have f0 := cell_of_row _ _ 0 _ _ _ h16
            have f1 := cell_of_row _ _ 1 _ _ _ h16
            have f2 := cell_of_row _ _ 2 _ _ _ h16
            have f3 := cell_of_row _ _ 3 _ _ _ h16
            have f4 := cell_of_row _ _ 4 _ _ _ h16
            have f5 := cell_of_row _ _ 5 _ _ _ h16
            have z0 := frozen_of_row _ _ 0 _ _ h16
            have z1 := frozen_of_row _ _ 1 _ _ h16
            have z2 := frozen_of_row _ _ 2 _ _ h16
            have z3 := frozen_of_row _ _ 3 _ _ h16
            have z4 := frozen_of_row _ _ 4 _ _ h16
            have z5 := frozen_of_row _ _ 5 _ _ h16
            simp at f0 f1 f2 f3 f4 f5
            have i0 := cell_of_row _ _ 0 _ _ _ hres16
            have i1 := cell_of_row _ _ 1 _ _ _ hres16
            have i2 := cell_of_row _ _ 2 _ _ _ hres16
            have i3 := cell_of_row _ _ 3 _ _ _ hres16
            have i4 := cell_of_row _ _ 4 _ _ _ hres16
            have i5 := cell_of_row _ _ 5 _ _ _ hres16
            have y0 := frozen_of_row _ _ 0 _ _ hres16
            have y1 := frozen_of_row _ _ 1 _ _ hres16
            have y2 := frozen_of_row _ _ 2 _ _ hres16
            have y3 := frozen_of_row _ _ 3 _ _ hres16
            have y4 := frozen_of_row _ _ 4 _ _ hres16
            have y5 := frozen_of_row _ _ 5 _ _ hres16
            simp at i0 i1 i2 i3 i4 i5
            by_cases hK : KD = 1
            · have ho := HOUT.out
              rw [if_pos hK] at ho
              have HO := Lib.hid ho
              clear ho
              subst hK
              go_wp2_with fail
              refine (clone_any (.slice ta tn tc) tb w16 hBy16).mono ?_
              rintro e w17 ⟨v17, rfl, hv17, hB17⟩
              obtain ⟨a17, c17, rfl⟩ := hv17.1.1.val
              have h17 := (hB17.block _ (by omega)).trans h16
              have hres17 := (hB17.block _ (by omega)).trans hres16
              have hw17 := hw16.trans (hB17.mono (by omega))
              clear f0 f1 f2 f3 f4 f5 z0 z1 z2 z3 z4 z5 i0 i1 i2 i3 i4 i5 y0 y1 y2 y3 y4 y5
              have f0 := cell_of_row _ _ 0 _ _ _ h17
              have f1 := cell_of_row _ _ 1 _ _ _ h17
              have f2 := cell_of_row _ _ 2 _ _ _ h17
              have f3 := cell_of_row _ _ 3 _ _ _ h17
              have f4 := cell_of_row _ _ 4 _ _ _ h17
              have f5 := cell_of_row _ _ 5 _ _ _ h17
              have z0 := frozen_of_row _ _ 0 _ _ h17
              have z1 := frozen_of_row _ _ 1 _ _ h17
              have z2 := frozen_of_row _ _ 2 _ _ h17
              have z3 := frozen_of_row _ _ 3 _ _ h17
              have z4 := frozen_of_row _ _ 4 _ _ h17
              have z5 := frozen_of_row _ _ 5 _ _ h17
              simp at f0 f1 f2 f3 f4 f5
              have i0 := cell_of_row _ _ 0 _ _ _ hres17
              have i1 := cell_of_row _ _ 1 _ _ _ hres17
              have i2 := cell_of_row _ _ 2 _ _ _ hres17
              have i3 := cell_of_row _ _ 3 _ _ _ hres17
              have i4 := cell_of_row _ _ 4 _ _ _ hres17
              have i5 := cell_of_row _ _ 5 _ _ _ hres17
              have y0 := frozen_of_row _ _ 0 _ _ hres17
              have y1 := frozen_of_row _ _ 1 _ _ hres17
              have y2 := frozen_of_row _ _ 2 _ _ hres17
              have y3 := frozen_of_row _ _ 3 _ _ hres17
              have y4 := frozen_of_row _ _ 4 _ _ hres17
              have y5 := frozen_of_row _ _ 5 _ _ hres17
              simp at i0 i1 i2 i3 i4 i5
              go_wp2
              rw [Exit.noGoto_ret]
              refine bodyPost_ret (v := .tuple #[rcV ⟨TI, dev, 1, TS, EN, tb⟩ (.slice a17 tb.length c17), .bool true]) (by simp [results, Try.results26, go_sem, i0, i1, i2, i3, i4, i5, rcV]) rfl ?_
              rw [HO.out]
              exact ⟨_, by simp, (((((((hv17.set (by simp; omega) _).set (by simp; omega) _).set (by simp; omega) _).set (by simp; omega) _).set (by simp; omega) _).set (by simp; omega) _).set (by simp; omega) _).mono (by omega), ((((((hw17.setCell (by simp; omega) _).setCell (by simp; omega) _).setCell (by simp; omega) _).setCell (by simp; omega) _).setCell (by simp; omega) _).setCell (by simp; omega) _).setCell (by simp; omega) _⟩
            · have ho := HOUT.out
              rw [if_neg hK] at ho
              have HO := Lib.hid ho
              have hKb : (KD == 1) = false := by simpa using hK
              clear ho hK
              go_wp2
              rw [Exit.noGoto_ret]
              refine bodyPost_ret (v := .tuple #[rcV ⟨TI, dev, KD, TS, EN, []⟩ (.slice none 0 0), .bool true]) (by simp [results, Try.results26, go_sem, i0, i1, i2, i3, i4, i5, rcV]) rfl ?_
              rw [HO.out]
              exact ⟨_, by simp, bytesO_nil _ _, (((((hw16.setCell (by simp; omega) _).setCell (by simp; omega) _).setCell (by simp; omega) _).setCell (by simp; omega) _).setCell (by simp; omega) _).setCell (by simp; omega) _⟩
          · go_simp
            generalize hX : World.alloc _ (.cells _ 47) = w15
            obtain ⟨h12, hB15, h12z⟩ := alloc_named hX
            clear hX
            refine hK.out _ _ (by first | exact ⟨hHeld.1.trans (hB15.mono (by have := hHeld.2.1; omega)), Nat.le_trans hHeld.2.1 hB15.size, hHeld.2.2.keep hB15⟩) (fun hHeld2 => ?_)
            replace hHeld := hHeld2
            clear hK K hHeld2
            try simp only [Act.put, List.setIfInBounds_toArray, List.set_cons_zero, List.set_cons_succ]
            have h12s := Nat.le_of_eq h12z.symm
            have hi12 := hz
            try have f0 := cell_of_row _ _ 0 _ _ _ h12
            try have f1 := cell_of_row _ _ 1 _ _ _ h12
            try have f2 := cell_of_row _ _ 2 _ _ _ h12
            try have f3 := cell_of_row _ _ 3 _ _ _ h12
            try have f4 := cell_of_row _ _ 4 _ _ _ h12
            try have f5 := cell_of_row _ _ 5 _ _ _ h12
            try have z0 := frozen_of_row _ _ 0 _ _ h12
            try have z1 := frozen_of_row _ _ 1 _ _ h12
            try have z2 := frozen_of_row _ _ 2 _ _ h12
            try have z3 := frozen_of_row _ _ 3 _ _ h12
            try have z4 := frozen_of_row _ _ 4 _ _ h12
            try have z5 := frozen_of_row _ _ 5 _ _ h12
            try simp at f0 f1 f2 f3 f4 f5
            refine wpAnyH_ready (rs := [13]) (by kernel_rfl) (by simp) (AllReadyH.cons (o := _) (by rw [List.getElem?_toArray]; rfl) (fun K hK => ?_) AllReadyH.nil)
            go_simp
            go_at_call 13
            refine (CE.out _).mono ?_
            rintro e w13 ⟨rfl, hB13⟩
            refine hK.out _ _ (⟨hHeld.1.trans (hB13.mono (by have := hHeld.2.1; omega)), Nat.le_trans hHeld.2.1 hB13.size, hHeld.2.2.keep hB13⟩) (fun hHeld2 => ?_)
            replace hHeld := hHeld2
            clear hK K hHeld2
            try simp only [Act.put, List.setIfInBounds_toArray, List.set_cons_zero, List.set_cons_succ]
            have hz := hHeld.2.1
            try replace h12 := (hB13.block _ (by have := h12s; omega)).trans h12
            try replace h12s := Nat.le_trans h12s hB13.size
            try have f0 := cell_of_row _ _ 0 _ _ _ h12
            try have f1 := cell_of_row _ _ 1 _ _ _ h12
            try have f2 := cell_of_row _ _ 2 _ _ _ h12
            try have f3 := cell_of_row _ _ 3 _ _ _ h12
            try have f4 := cell_of_row _ _ 4 _ _ _ h12
            try have f5 := cell_of_row _ _ 5 _ _ _ h12
            try have z0 := frozen_of_row _ _ 0 _ _ h12
            try have z1 := frozen_of_row _ _ 1 _ _ h12
            try have z2 := frozen_of_row _ _ 2 _ _ h12
            try have z3 := frozen_of_row _ _ 3 _ _ h12
            try have z4 := frozen_of_row _ _ 4 _ _ h12
            try have z5 := frozen_of_row _ _ 5 _ _ h12
            try simp at f0 f1 f2 f3 f4 f5
            refine wpAnyH_take (i := 14) (oi := _) (v := ?_) (by rw [List.getElem?_toArray]; rfl) (by kernel_rfl) (by kernel_rfl) (by kernel_rfl) (by exact fun _ _ _ h => h) (Or.inl ⟨by rfl, ?_⟩) (by assumption) ?_
            rotate_left
            · intro w hSw
              try simp only [Cells, blk, List.cons_append, List.nil_append, and_true, Nat.reduceAdd, Nat.add_zero, Nat.zero_add] at hSw
              go_simp
              try with_reducible rfl
            simp only [Act.put, List.setIfInBounds_toArray, List.set_cons_zero, List.set_cons_succ]
            refine wpAnyH_ready (rs := [16]) (by kernel_rfl) (by simp) (AllReadyH.cons (o := _) (by rw [List.getElem?_toArray]; rfl) (fun K hK => ?_) AllReadyH.nil)
            go_simp
            generalize hX : World.setCell _ _ _ = w16
            obtain ⟨h16, hg16⟩ := set6 h12 hX
            clear hX
            refine hK.out _ _ (⟨hHeld.1.grown hg16 (by have := hHeld.2.1; omega) (fun q hq => by have := hi12; simp at hq; omega), Nat.le_trans hHeld.2.1 hg16.size, hHeld.2.2.grown hg16 (fun x hx => by have := hi12; simp [blk] at hx; rcases hx with rfl | rfl | rfl | rfl | rfl | rfl | rfl | rfl | rfl | rfl | rfl | rfl | rfl <;> (simp; omega))⟩) (fun hHeld2 => ?_)
            replace hHeld := hHeld2
            clear hK K hHeld2
            try simp only [Act.put, List.setIfInBounds_toArray, List.set_cons_zero, List.set_cons_succ]
            have hz16 := Nat.le_trans h12s hg16.size
            refine wpAnyH_done (by kernel_rfl) ?_ _
            have hne := ne_of_hi hi12 (b := w.heap.size + 1 + 1) (by omega)
            obtain ⟨hb16, hs16, T16⟩ := hHeld
            have hres16 := (hb16.block (w.heap.size + 1 + 1) (by omega)).trans hrr
            have hw16 := hBr.trans (hb16.mono (by omega))
            have hBy16 := HBY.out.below hb16
            clear f0 f1 f2 f3 f4 f5 z0 z1 z2 z3 z4 z5
            have hOpen := T16
            simp only [Cells, blk, List.cons_append, List.nil_append, and_true, Nat.reduceAdd, Nat.add_zero, Nat.zero_add] at hOpen
            obtain ⟨r0, r1, r2, r3, r4, q0, q1, q2, q3, q4, q5, q6, q7⟩ := hOpen
            have f0 := cell_of_row _ _ 0 _ _ _ h16
            have f1 := cell_of_row _ _ 1 _ _ _ h16
            have f2 := cell_of_row _ _ 2 _ _ _ h16
            have f3 := cell_of_row _ _ 3 _ _ _ h16
            have f4 := cell_of_row _ _ 4 _ _ _ h16
            have f5 := cell_of_row _ _ 5 _ _ _ h16
            have z0 := frozen_of_row _ _ 0 _ _ h16
            have z1 := frozen_of_row _ _ 1 _ _ h16
            have z2 := frozen_of_row _ _ 2 _ _ h16
            have z3 := frozen_of_row _ _ 3 _ _ h16
            have z4 := frozen_of_row _ _ 4 _ _ h16
            have z5 := frozen_of_row _ _ 5 _ _ h16
            simp at f0 f1 f2 f3 f4 f5
            have i0 := cell_of_row _ _ 0 _ _ _ hres16
            have i1 := cell_of_row _ _ 1 _ _ _ hres16
            have i2 := cell_of_row _ _ 2 _ _ _ hres16
            have i3 := cell_of_row _ _ 3 _ _ _ hres16
            have i4 := cell_of_row _ _ 4 _ _ _ hres16
            have i5 := cell_of_row _ _ 5 _ _ _ hres16
            have y0 := frozen_of_row _ _ 0 _ _ hres16
            have y1 := frozen_of_row _ _ 1 _ _ hres16
            have y2 := frozen_of_row _ _ 2 _ _ hres16
            have y3 := frozen_of_row _ _ 3 _ _ hres16
            have y4 := frozen_of_row _ _ 4 _ _ hres16
            have y5 := frozen_of_row _ _ 5 _ _ hres16
            simp at i0 i1 i2 i3 i4 i5
            by_cases hK : KD = 1
            · have ho := HOUT.out
              rw [if_pos hK] at ho
              have HO := Lib.hid ho
              clear ho
              subst hK
              go_wp2_with fail
              refine (clone_any (.slice ta tn tc) tb w16 hBy16).mono ?_
              rintro e w17 ⟨v17, rfl, hv17, hB17⟩
              obtain ⟨a17, c17, rfl⟩ := hv17.1.1.val
              have h17 := (hB17.block _ (by omega)).trans h16
              have hres17 := (hB17.block _ (by omega)).trans hres16
              have hw17 := hw16.trans (hB17.mono (by omega))
              clear f0 f1 f2 f3 f4 f5 z0 z1 z2 z3 z4 z5 i0 i1 i2 i3 i4 i5 y0 y1 y2 y3 y4 y5
              have f0 := cell_of_row _ _ 0 _ _ _ h17
              have f1 := cell_of_row _ _ 1 _ _ _ h17
              have f2 := cell_of_row _ _ 2 _ _ _ h17
              have f3 := cell_of_row _ _ 3 _ _ _ h17
              have f4 := cell_of_row _ _ 4 _ _ _ h17
              have f5 := cell_of_row _ _ 5 _ _ _ h17
              have z0 := frozen_of_row _ _ 0 _ _ h17
              have z1 := frozen_of_row _ _ 1 _ _ h17
              have z2 := frozen_of_row _ _ 2 _ _ h17
              have z3 := frozen_of_row _ _ 3 _ _ h17
              have z4 := frozen_of_row _ _ 4 _ _ h17
              have z5 := frozen_of_row _ _ 5 _ _ h17
              simp at f0 f1 f2 f3 f4 f5
              have i0 := cell_of_row _ _ 0 _ _ _ hres17
              have i1 := cell_of_row _ _ 1 _ _ _ hres17
              have i2 := cell_of_row _ _ 2 _ _ _ hres17
              have i3 := cell_of_row _ _ 3 _ _ _ hres17
              have i4 := cell_of_row _ _ 4 _ _ _ hres17
              have i5 := cell_of_row _ _ 5 _ _ _ hres17
              have y0 := frozen_of_row _ _ 0 _ _ hres17
              have y1 := frozen_of_row _ _ 1 _ _ hres17
              have y2 := frozen_of_row _ _ 2 _ _ hres17
              have y3 := frozen_of_row _ _ 3 _ _ hres17
              have y4 := frozen_of_row _ _ 4 _ _ hres17
              have y5 := frozen_of_row _ _ 5 _ _ hres17
              simp at i0 i1 i2 i3 i4 i5
              go_wp2
              rw [Exit.noGoto_ret]
              refine bodyPost_ret (v := .tuple #[rcV ⟨TI, dev, 1, TS, EN, tb⟩ (.slice a17 tb.length c17), .bool true]) (by simp [results, Try.results26, go_sem, i0, i1, i2, i3, i4, i5, rcV]) rfl ?_
              rw [HO.out]
              exact ⟨_, by simp, (((((((hv17.set (by simp; omega) _).set (by simp; omega) _).set (by simp; omega) _).set (by simp; omega) _).set (by simp; omega) _).set (by simp; omega) _).set (by simp; omega) _).mono (by omega), ((((((hw17.setCell (by simp; omega) _).setCell (by simp; omega) _).setCell (by simp; omega) _).setCell (by simp; omega) _).setCell (by simp; omega) _).setCell (by simp; omega) _).setCell (by simp; omega) _⟩
            · have ho := HOUT.out
              rw [if_neg hK] at ho
              have HO := Lib.hid ho
              have hKb : (KD == 1) = false := by simpa using hK
              clear ho hK
              go_wp2
              rw [Exit.noGoto_ret]
              refine bodyPost_ret (v := .tuple #[rcV ⟨TI, dev, KD, TS, EN, []⟩ (.slice none 0 0), .bool true]) (by simp [results, Try.results26, go_sem, i0, i1, i2, i3, i4, i5, rcV]) rfl ?_
              rw [HO.out]
              exact ⟨_, by simp, bytesO_nil _ _, (((((hw16.setCell (by simp; omega) _).setCell (by simp; omega) _).setCell (by simp; omega) _).setCell (by simp; omega) _).setCell (by simp; omega) _).setCell (by simp; omega) _⟩
        · go_simp
          generalize hX : World.alloc _ (.cells _ 47) = w15
          obtain ⟨h12, hB15, h12z⟩ := alloc_named hX
          clear hX
          refine hK.out _ _ (by first | exact ⟨hHeld.1.trans (hB15.mono (by have := hHeld.2.1; omega)), Nat.le_trans hHeld.2.1 hB15.size, hHeld.2.2.keep hB15⟩) (fun hHeld2 => ?_)
          replace hHeld := hHeld2
          clear hK K hHeld2
          try simp only [Act.put, List.setIfInBounds_toArray, List.set_cons_zero, List.set_cons_succ]
          have h12s := Nat.le_of_eq h12z.symm
          have hi12 := hz
          try have f0 := cell_of_row _ _ 0 _ _ _ h12
          try have f1 := cell_of_row _ _ 1 _ _ _ h12
          try have f2 := cell_of_row _ _ 2 _ _ _ h12
          try have f3 := cell_of_row _ _ 3 _ _ _ h12
          try have f4 := cell_of_row _ _ 4 _ _ _ h12
          try have f5 := cell_of_row _ _ 5 _ _ _ h12
          try have z0 := frozen_of_row _ _ 0 _ _ h12
          try have z1 := frozen_of_row _ _ 1 _ _ h12
          try have z2 := frozen_of_row _ _ 2 _ _ h12
          try have z3 := frozen_of_row _ _ 3 _ _ h12
          try have z4 := frozen_of_row _ _ 4 _ _ h12
          try have z5 := frozen_of_row _ _ 5 _ _ h12
          try simp at f0 f1 f2 f3 f4 f5
          refine wpAnyH_ready (rs := [9]) (by kernel_rfl) (by simp) (AllReadyH.cons (o := _) (by rw [List.getElem?_toArray]; rfl) (fun K hK => ?_) AllReadyH.nil)
          go_simp
          go_at_call 24
          refine (CDJ.out _ (hBr.trans (hHeld.1.mono (by omega)))).mono ?_
          rintro e w9 ⟨rfl, hB9⟩
          refine hK.out _ _ (⟨hHeld.1.trans (hB9.mono (by have := hHeld.2.1; omega)), Nat.le_trans hHeld.2.1 hB9.size, hHeld.2.2.keep hB9⟩) (fun hHeld2 => ?_)
          replace hHeld := hHeld2
          clear hK K hHeld2
          try simp only [Act.put, List.setIfInBounds_toArray, List.set_cons_zero, List.set_cons_succ]
          have hz := hHeld.2.1
          try replace h12 := (hB9.block _ (by have := h12s; omega)).trans h12
          try replace h12s := Nat.le_trans h12s hB9.size
          refine wpAnyH_ready (rs := [13]) (by kernel_rfl) (by simp) (AllReadyH.cons (o := _) (by rw [List.getElem?_toArray]; rfl) (fun K hK => ?_) AllReadyH.nil)
          go_simp
          go_at_call 13
          refine (CE.out _).mono ?_
          rintro e w13 ⟨rfl, hB13⟩
          refine hK.out _ _ (⟨hHeld.1.trans (hB13.mono (by have := hHeld.2.1; omega)), Nat.le_trans hHeld.2.1 hB13.size, hHeld.2.2.keep hB13⟩) (fun hHeld2 => ?_)
          replace hHeld := hHeld2
          clear hK K hHeld2
          try simp only [Act.put, List.setIfInBounds_toArray, List.set_cons_zero, List.set_cons_succ]
          have hz := hHeld.2.1
          try replace h12 := (hB13.block _ (by have := h12s; omega)).trans h12
          try replace h12s := Nat.le_trans h12s hB13.size
          try have f0 := cell_of_row _ _ 0 _ _ _ h12
          try have f1 := cell_of_row _ _ 1 _ _ _ h12
          try have f2 := cell_of_row _ _ 2 _ _ _ h12
          try have f3 := cell_of_row _ _ 3 _ _ _ h12
          try have f4 := cell_of_row _ _ 4 _ _ _ h12
          try have f5 := cell_of_row _ _ 5 _ _ _ h12
          try have z0 := frozen_of_row _ _ 0 _ _ h12
          try have z1 := frozen_of_row _ _ 1 _ _ h12
          try have z2 := frozen_of_row _ _ 2 _ _ h12
          try have z3 := frozen_of_row _ _ 3 _ _ h12
          try have z4 := frozen_of_row _ _ 4 _ _ h12
          try have z5 := frozen_of_row _ _ 5 _ _ h12
          try simp at f0 f1 f2 f3 f4 f5
          refine wpAnyH_take (i := 14) (oi := _) (v := ?_) (by rw [List.getElem?_toArray]; rfl) (by kernel_rfl) (by kernel_rfl) (by kernel_rfl) (by exact fun _ _ _ h => h) (Or.inl ⟨by rfl, ?_⟩) (by assumption) ?_
          rotate_left
          · intro w hSw
            try simp only [Cells, blk, List.cons_append, List.nil_append, and_true, Nat.reduceAdd, Nat.add_zero, Nat.zero_add] at hSw
            go_simp
            try with_reducible rfl
          simp only [Act.put, List.setIfInBounds_toArray, List.set_cons_zero, List.set_cons_succ]
          refine wpAnyH_ready (rs := [16]) (by kernel_rfl) (by simp) (AllReadyH.cons (o := _) (by rw [List.getElem?_toArray]; rfl) (fun K hK => ?_) AllReadyH.nil)
          go_simp
          generalize hX : World.setCell _ _ _ = w16
          obtain ⟨h16, hg16⟩ := set6 h12 hX
          clear hX
          refine hK.out _ _ (⟨hHeld.1.grown hg16 (by have := hHeld.2.1; omega) (fun q hq => by have := hi12; simp at hq; omega), Nat.le_trans hHeld.2.1 hg16.size, hHeld.2.2.grown hg16 (fun x hx => by have := hi12; simp [blk] at hx; rcases hx with rfl | rfl | rfl | rfl | rfl | rfl | rfl | rfl | rfl | rfl | rfl | rfl | rfl <;> (simp; omega))⟩) (fun hHeld2 => ?_)
          replace hHeld := hHeld2
          clear hK K hHeld2
          try simp only [Act.put, List.setIfInBounds_toArray, List.set_cons_zero, List.set_cons_succ]
          have hz16 := Nat.le_trans h12s hg16.size
          refine wpAnyH_done (by kernel_rfl) ?_ _
          have hne := ne_of_hi hi12 (b := w.heap.size + 1 + 1) (by omega)
          obtain ⟨hb16, hs16, T16⟩ := hHeld
          have hres16 := (hb16.block (w.heap.size + 1 + 1) (by omega)).trans hrr
          have hw16 := hBr.trans (hb16.mono (by omega))
          have hBy16 := HBY.out.below hb16
          clear f0 f1 f2 f3 f4 f5 z0 z1 z2 z3 z4 z5
          have hOpen := T16
          simp only [Cells, blk, List.cons_append, List.nil_append, and_true, Nat.reduceAdd, Nat.add_zero, Nat.zero_add] at hOpen
          obtain ⟨r0, r1, r2, r3, r4, q0, q1, q2, q3, q4, q5, q6, q7⟩ := hOpen
          have f0 := cell_of_row _ _ 0 _ _ _ h16
          have f1 := cell_of_row _ _ 1 _ _ _ h16
          have f2 := cell_of_row _ _ 2 _ _ _ h16
          have f3 := cell_of_row _ _ 3 _ _ _ h16
          have f4 := cell_of_row _ _ 4 _ _ _ h16
          have f5 := cell_of_row _ _ 5 _ _ _ h16
          have z0 := frozen_of_row _ _ 0 _ _ h16
          have z1 := frozen_of_row _ _ 1 _ _ h16
          have z2 := frozen_of_row _ _ 2 _ _ h16
          have z3 := frozen_of_row _ _ 3 _ _ h16
          have z4 := frozen_of_row _ _ 4 _ _ h16
          have z5 := frozen_of_row _ _ 5 _ _ h16
          simp at f0 f1 f2 f3 f4 f5
          have i0 := cell_of_row _ _ 0 _ _ _ hres16
          have i1 := cell_of_row _ _ 1 _ _ _ hres16
          have i2 := cell_of_row _ _ 2 _ _ _ hres16
          have i3 := cell_of_row _ _ 3 _ _ _ hres16
          have i4 := cell_of_row _ _ 4 _ _ _ hres16
          have i5 := cell_of_row _ _ 5 _ _ _ hres16
          have y0 := frozen_of_row _ _ 0 _ _ hres16
          have y1 := frozen_of_row _ _ 1 _ _ hres16
          have y2 := frozen_of_row _ _ 2 _ _ hres16
          have y3 := frozen_of_row _ _ 3 _ _ hres16
          have y4 := frozen_of_row _ _ 4 _ _ hres16
          have y5 := frozen_of_row _ _ 5 _ _ hres16
          simp at i0 i1 i2 i3 i4 i5
          by_cases hK : KD = 1
          · have ho := HOUT.out
            rw [if_pos hK] at ho
            have HO := Lib.hid ho
            clear ho
            subst hK
            go_wp2_with fail
            refine (clone_any (.slice ta tn tc) tb w16 hBy16).mono ?_
            rintro e w17 ⟨v17, rfl, hv17, hB17⟩
            obtain ⟨a17, c17, rfl⟩ := hv17.1.1.val
            have h17 := (hB17.block _ (by omega)).trans h16
            have hres17 := (hB17.block _ (by omega)).trans hres16
            have hw17 := hw16.trans (hB17.mono (by omega))
            clear f0 f1 f2 f3 f4 f5 z0 z1 z2 z3 z4 z5 i0 i1 i2 i3 i4 i5 y0 y1 y2 y3 y4 y5
            have f0 := cell_of_row _ _ 0 _ _ _ h17
            have f1 := cell_of_row _ _ 1 _ _ _ h17
            have f2 := cell_of_row _ _ 2 _ _ _ h17
            have f3 := cell_of_row _ _ 3 _ _ _ h17
            have f4 := cell_of_row _ _ 4 _ _ _ h17
            have f5 := cell_of_row _ _ 5 _ _ _ h17
            have z0 := frozen_of_row _ _ 0 _ _ h17
            have z1 := frozen_of_row _ _ 1 _ _ h17
            have z2 := frozen_of_row _ _ 2 _ _ h17
            have z3 := frozen_of_row _ _ 3 _ _ h17
            have z4 := frozen_of_row _ _ 4 _ _ h17
            have z5 := frozen_of_row _ _ 5 _ _ h17
            simp at f0 f1 f2 f3 f4 f5
            have i0 := cell_of_row _ _ 0 _ _ _ hres17
            have i1 := cell_of_row _ _ 1 _ _ _ hres17
            have i2 := cell_of_row _ _ 2 _ _ _ hres17
            have i3 := cell_of_row _ _ 3 _ _ _ hres17
            have i4 := cell_of_row _ _ 4 _ _ _ hres17
            have i5 := cell_of_row _ _ 5 _ _ _ hres17
            have y0 := frozen_of_row _ _ 0 _ _ hres17
            have y1 := frozen_of_row _ _ 1 _ _ hres17
            have y2 := frozen_of_row _ _ 2 _ _ hres17
            have y3 := frozen_of_row _ _ 3 _ _ hres17
            have y4 := frozen_of_row _ _ 4 _ _ hres17
            have y5 := frozen_of_row _ _ 5 _ _ hres17
            simp at i0 i1 i2 i3 i4 i5
            go_wp2
            rw [Exit.noGoto_ret]
            refine bodyPost_ret (v := .tuple #[rcV ⟨TI, dev, 1, TS, EN, tb⟩ (.slice a17 tb.length c17), .bool true]) (by simp [results, Try.results26, go_sem, i0, i1, i2, i3, i4, i5, rcV]) rfl ?_
            rw [HO.out]
            exact ⟨_, by simp, (((((((hv17.set (by simp; omega) _).set (by simp; omega) _).set (by simp; omega) _).set (by simp; omega) _).set (by simp; omega) _).set (by simp; omega) _).set (by simp; omega) _).mono (by omega), ((((((hw17.setCell (by simp; omega) _).setCell (by simp; omega) _).setCell (by simp; omega) _).setCell (by simp; omega) _).setCell (by simp; omega) _).setCell (by simp; omega) _).setCell (by simp; omega) _⟩
          · have ho := HOUT.out
            rw [if_neg hK] at ho
            have HO := Lib.hid ho
            have hKb : (KD == 1) = false := by simpa using hK
            clear ho hK
            go_wp2
            rw [Exit.noGoto_ret]
            refine bodyPost_ret (v := .tuple #[rcV ⟨TI, dev, KD, TS, EN, []⟩ (.slice none 0 0), .bool true]) (by simp [results, Try.results26, go_sem, i0, i1, i2, i3, i4, i5, rcV]) rfl ?_
            rw [HO.out]
            exact ⟨_, by simp, bytesO_nil _ _, (((((hw16.setCell (by simp; omega) _).setCell (by simp; omega) _).setCell (by simp; omega) _).setCell (by simp; omega) _).setCell (by simp; omega) _).setCell (by simp; omega) _⟩
end Go.Proofs.Ythemdbgcamkecaa
