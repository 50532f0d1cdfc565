/- capture.Read. -/
import Derived.Test.YtccknpdnapoboaaDoorCpY
import Derived.WalkSmall
namespace Go.Proofs.YtccknpdnapoboaaDoor
open Go.RowKit

/-- a row of records of the call's own, nil at first -/
structure CpI (base e : Nat) (w : World) (out : Value) (ts : List Cp) (vs : List Value) : Prop where
  len : ts.length = vs.length
  own : w.ownsRow base e 5 out ts.length (cpcells ts vs)
  rd : ∀ j (h : j < ts.length) (h' : j < vs.length), BytesAt w vs[j] ts[j].bs ∧ Own base vs[j] ∧ (ts[j].bs = [] ∨ ∃ b, vs[j].ownBlock = some b ∧ b < w.heap.size ∧ out.ownBlock ≠ some b)
theorem CpI.nil (base e : Nat) (w : World) : CpI base e w (.slice none 0 0) [] [] := ⟨rfl, ⟨rfl, .inl ⟨rfl, rfl⟩⟩, fun j h => absurd h (by simp)⟩
theorem CpI.below {base e : Nat} {w w' : World} {out : Value} {ts : List Cp} {vs : List Value} (h : CpI base e w out ts vs) (hb : Below w.heap.size w w') : CpI base e w' out ts vs :=
  ⟨h.len, own_below h.own hb, fun j h1 h2 => ⟨(h.rd j h1 h2).1.below hb, (h.rd j h1 h2).2.1, (h.rd j h1 h2).2.2.imp id (fun ⟨b, e1, e2, e3⟩ => ⟨b, e1, Nat.lt_of_lt_of_le e2 hb.size, e3⟩)⟩⟩
theorem CpI.push {base e : Nat} {W w' : World} {out out' : Value} {ts : List Cp} {vs : List Value} (h : CpI base e W out ts vs) {t : Cp} {v : Value} (hv : BytesAt W v t.bs) (ho : Own base v)
    (hb : t.bs = [] ∨ ∃ b, v.ownBlock = some b ∧ b < W.heap.size ∧ out.ownBlock ≠ some b)
    (hown : w'.ownsRow base e 5 out' (ts.length + 1) (cpcells ts vs ++ [.int .i64 t.t, .int .i64 t.c, .int .i64 t.f, .int .i64 t.k, v])) (hg : W.grownBy w' out.ownBlock)
    (ho' : out'.ownBlock = out.ownBlock ∨ out'.ownBlock = some W.heap.size) : CpI base e w' out' (ts ++ [t]) (vs ++ [v]) := by
  have key : ∀ (x : Value) (bs : List Nat), BytesAt W x bs → (bs = [] ∨ ∃ b, x.ownBlock = some b ∧ b < W.heap.size ∧ out.ownBlock ≠ some b) →
      BytesAt w' x bs ∧ (bs = [] ∨ ∃ b, x.ownBlock = some b ∧ b < w'.heap.size ∧ out'.ownBlock ≠ some b) := fun x bs hx hor => by
    refine ⟨⟨hx.1.grown hg ?_, hx.2⟩, ?_⟩
    · rcases hor with h | ⟨b, e1, _, e3⟩
      · exact .inl (by rw [h]; rfl)
      · exact .inr ⟨b, e1, e3⟩
    · rcases hor with h | ⟨b, e1, e2, e3⟩
      · exact .inl h
      · refine .inr ⟨b, e1, Nat.lt_of_lt_of_le e2 hg.size, ?_⟩
        rcases ho' with h | h
        · rw [h]; exact e3
        · rw [h]; intro e; cases e; omega
  refine ⟨by simp [h.len], by rw [cpcells_snoc _ _ _ _ h.len]; simpa using hown, fun j h1 h2 => ?_⟩
  have hl := h.len
  by_cases hj : j < ts.length
  · obtain ⟨q1, q2, q3⟩ := h.rd j hj (by omega)
    simp only [List.getElem_append_left hj, List.getElem_append_left (show j < vs.length by omega)]
    obtain ⟨k1, k2⟩ := key _ _ q1 q3
    exact ⟨k1, q2, k2⟩
  · simp at h1
    have e1 : j = ts.length := by omega
    subst e1
    have e2 : (vs ++ [v])[ts.length] = v := by simp [hl]
    have e3 : (ts ++ [t])[ts.length] = t := by simp
    rw [e2, e3]
    obtain ⟨k1, k2⟩ := key _ _ hv hb
    exact ⟨k1, ho, k2⟩
theorem CpI.cps {base e : Nat} {w : World} {out : Value} {ts : List Cp} {vs : List Value} (h : CpI base e w out ts vs) : Cps w out ts := by
  by_cases hn : out = .slice none 0 0
  · subst hn
    have h0 : ts.length = 0 := by
      rcases h.own.2 with ⟨_, h⟩ | ⟨_, _, _, e, _⟩
      · exact h
      · cases e
    rw [List.eq_nil_of_length_eq_zero h0]
    exact ⟨Nat.zero_le _, none, 0, rfl, fun h => absurd h (by simp)⟩
  · exact CpInv.cps ⟨h.len, h.own, hn, h.rd⟩
theorem CpI.grown {base e i : Nat} {w w' : World} {out : Value} {ts : List Cp} {vs : List Value} (h : CpI base e w out ts vs) (hg : w.grownBy w' (some i)) (hi : i < base) : CpI base e w' out ts vs := by
  refine ⟨h.len, ⟨h.own.1, ?_⟩, fun j h1 h2 => ?_⟩
  · rcases h.own.2 with h0 | ⟨g, cap, cur, rfl, hb, hh, r⟩
    · exact .inl h0
    · exact .inr ⟨g, cap, cur, rfl, hb, by rw [hg.block g (Array.getElem?_eq_some_iff.1 hh).1 (fun e => by cases e; omega)]; exact hh, r⟩
  · obtain ⟨q1, q2, q3⟩ := h.rd j h1 h2
    exact ⟨q1.grown hg (fun e => absurd (q2 _ e) (by omega)), q2, q3.imp id (fun ⟨b, e1, e2, e3⟩ => ⟨b, e1, Nat.lt_of_lt_of_le e2 hg.size, e3⟩)⟩
theorem rdF_nil (f : Nat) (last : Int) : rdF f [] last = ([], 0, 0) := by cases f <;> simp [rdF]
theorem rdF_bad (f : Nat) (b : List Nat) (last : Int) (hb : b ≠ []) (he : r1E b last ≠ 0) : rdF (f + 1) b last = ([], 0, r1E b last) := by
  rw [rdF, if_neg hb, if_pos he]
theorem rdF_good (f : Nat) (b : List Nat) (last : Int) (hb : b ≠ []) (he : r1E b last = 0) : rdF (f + 1) b last =
    (r1R b :: (rdF f (b.drop (16 + r1L b)) (r1R b).t).1, 16 + r1L b + (rdF f (b.drop (16 + r1L b)) (r1R b).t).2.1, (rdF f (b.drop (16 + r1L b)) (r1R b).t).2.2) := by
  rw [rdF, if_neg hb, if_neg (by simpa using he)]
theorem r1E_len (b : List Nat) (last : Int) (he : r1E b last = 0) : 16 + r1L b ≤ b.length ∧ r1L b ≤ 260 := by
  unfold r1E at he
  split at he
  · cases he
  split at he
  · cases he
  split at he
  · cases he
  omega
theorem r1E_bad (b : List Nat) (last : Int) : r1E b last = 0 ∨ 0 < r1E b last := by
  unfold r1E
  repeat' split
  all_goals first | exact .inl rfl | (right; decide)
/-- what is left to be read at a place -/
structure RdAt (bs : List Nat) (ts : List Cp) (k : Nat) (last : Int) : Prop where
  eq : ∃ f, bs.length - k ≤ f ∧ rdA bs = (ts ++ (rdF f (bs.drop k) last).1, k + (rdF f (bs.drop k) last).2.1, (rdF f (bs.drop k) last).2.2)
  le : k ≤ bs.length
theorem RdAt.first {bs : List Nat} (h4 : 4 ≤ bs.length) (hm : bs.take 4 = mag) : RdAt bs [] 4 0 :=
  ⟨⟨bs.length, by omega, by unfold rdA; rw [if_neg (by omega), if_neg (by simpa using hm)]; rfl⟩, h4⟩
theorem RdAt.last {bs : List Nat} {ts : List Cp} {k : Nat} {last : Int} (h : RdAt bs ts k last) (hk : ¬ k < bs.length) : rdA bs = (ts, k, 0) := by
  obtain ⟨⟨f, _, e⟩, _⟩ := h
  rw [List.drop_of_length_le (by omega), rdF_nil] at e
  simpa using e
theorem drop_ne {bs : List Nat} {k : Nat} (hk : k < bs.length) : bs.drop k ≠ [] := fun e => by
  have := congrArg List.length e
  simp at this
  omega
theorem RdAt.bad {bs : List Nat} {ts : List Cp} {k : Nat} {last : Int} (h : RdAt bs ts k last) (hk : k < bs.length) (he : r1E (bs.drop k) last ≠ 0) : rdA bs = (ts, k, r1E (bs.drop k) last) := by
  obtain ⟨⟨f, hf, e⟩, _⟩ := h
  obtain ⟨f, rfl⟩ : ∃ g, f = g + 1 := ⟨f - 1, by omega⟩
  rw [rdF_bad f _ last (drop_ne hk) he] at e
  simpa using e
theorem RdAt.good {bs : List Nat} {ts : List Cp} {k : Nat} {last : Int} (h : RdAt bs ts k last) (hk : k < bs.length) (he : r1E (bs.drop k) last = 0) : RdAt bs (ts ++ [r1R (bs.drop k)]) (k + (16 + r1L (bs.drop k))) (r1R (bs.drop k)).t := by
  obtain ⟨⟨f, hf, e⟩, _⟩ := h
  have hl := (r1E_len _ _ he).1
  rw [List.length_drop] at hl
  obtain ⟨f, rfl⟩ : ∃ g, f = g + 1 := ⟨f - 1, by omega⟩
  rw [rdF_good f _ last (drop_ne hk) he, List.drop_drop] at e
  refine ⟨⟨f, by omega, ?_⟩, by omega⟩
  rw [e]
  simp [Nat.add_assoc]
/-- the slice has room for its length -/
def CapOk (v : Value) : Prop := ∀ a n c, v = .slice a n c → n ≤ c
def CpsC (w : World) (v : Value) (ts : List Cp) : Prop := Cps w v ts ∧ CapOk v
theorem CpI.cpsC {base e : Nat} {w : World} {out : Value} {ts : List Cp} {vs : List Value} (h : CpI base e w out ts vs) : CpsC w out ts := by
  refine ⟨h.cps, fun a n c hv => ?_⟩
  rcases h.own.2 with ⟨rfl, _⟩ | ⟨g, cap, cur, rfl, _, _, hnc, _⟩
  · cases hv; exact Nat.le_refl _
  · cases hv; exact hnc
/-- what Read hands back -/
def ReadP (w : World) (r : List Cp × Nat × Int) (e : Ending) (w' : World) : Prop :=
  ∃ v, e = .returned (.tuple #[v, .int .i64 (r.2.1 : Nat), .int .i64 r.2.2]) ∧ CpsC w' v r.1 ∧ Below w.heap.size w w'

theorem grown_alloc (W : World) (o : Obj) (r : Option Nat) : W.grownBy (W.alloc o) r := ⟨rfl, rfl, rfl, by simp, fun k hk _ => Below.heap_alloc _ _ _ hk⟩
set_option linter.unusedSimpArgs false in
theorem door_panic (tm : Array Value) (B : Nat) (out : Value) (k : Nat) (E : Int) (R : Ending → World → Prop) (W : World) (x : Value) (h2 : tm[2]? = some out) (h3 : tm[3]? = some (.int .i64 k)) (h4 : tm[4]? = some (.pointer (some ⟨B, 0, none⟩)))
    (hc : W.cell? ⟨B, 0, none⟩ = some x) (hz : W.frozen? ⟨B, 0, none⟩ = false) (h : ∀ W', W.grownBy W' (some B) → R (.returned (.tuple #[out, .int .i64 k, .int .i64 E])) W') :
    bodyPostD Tryd.prog Tryd.f14 R (Exit.panic [stp E false]) { tmps := tm, defers := [{ target := Target.fn (Fn.func 34) #[.pointer (some ⟨B, 0, none⟩)], args := #[] }] } W := by
  have hlt := World.block_lt_of_cell? W _ hc
  refine leaves_cons (f := 34) (args := #[.pointer (some ⟨B, 0, none⟩)]) (by simp) (by simp [go_sem]) ?_
  refine (catch_panicking ⟨B, 0, none⟩ E x _ hc hz hlt).mono ?_
  rintro e u' w'' ⟨rfl, rfl, rfl⟩
  have hg := (grown_alloc W (.cells #[.int .i64 E] 68) (some B)).trans (set1 (W.alloc (.cells #[.int .i64 E] 68)) ⟨B, 0, none⟩ (.int .i64 E))
  have hfin := h _ hg
  have hcell := World.cell?_setCell_same (w := W.alloc (.cells #[.int .i64 E] 68)) (a := ⟨B, 0, none⟩) (v := .int .i64 E) (((((Below.refl W.heap.size W).alloc (Nat.le_refl _) _).cell (p := ⟨B, 0, none⟩) hlt)).trans hc)
  obtain ⟨W', hW'⟩ : ∃ W', (W.alloc (.cells #[.int .i64 E] 68)).setCell ⟨B, 0, none⟩ (.int .i64 E) = W' := ⟨_, rfl⟩
  rw [hW'] at hfin hcell ⊢
  have g2 : tm.getD 2 undef = out := by simp [h2]
  have g3 : tm.getD 3 undef = .int .i64 k := by simp [h3]
  have g4 : tm.getD 4 undef = .pointer (some ⟨B, 0, none⟩) := by simp [h4]
  clear hW' hg hc hz h
  simp [Leaves, settle, results, Tryd.results14, go_sem, stp, h2, h3, h4, hcell]
  exact hfin
set_option linter.unusedSimpArgs false in
theorem door_ret (tm : Array Value) (B : Nat) (out : Value) (k : Nat) (R : Ending → World → Prop) (W : World) (h2 : tm[2]? = some out) (h3 : tm[3]? = some (.int .i64 k)) (h4 : tm[4]? = some (.pointer (some ⟨B, 0, none⟩)))
    (hc : W.cell? ⟨B, 0, none⟩ = some (.int .i64 0)) (h : ∀ W', Below W.heap.size W W' → R (.returned (.tuple #[out, .int .i64 k, .int .i64 0])) W') :
    bodyPostD Tryd.prog Tryd.f14 R Exit.ret { tmps := tm, defers := [{ target := Target.fn (Fn.func 34) #[.pointer (some ⟨B, 0, none⟩)], args := #[] }] } W := by
  have hlt := World.block_lt_of_cell? W _ hc
  refine leaves_cons (f := 34) (args := #[.pointer (some ⟨B, 0, none⟩)]) (by simp) (by simp [go_sem]) ?_
  refine (catch_idle ⟨B, 0, none⟩ _).mono ?_
  rintro e u' w'' ⟨rfl, rfl, rfl⟩
  have hB := (Below.refl W.heap.size W).alloc (Nat.le_refl _) (.cells #[.int .i64 0] 68)
  have hfin := h _ hB
  have hcell := (hB.cell (p := ⟨B, 0, none⟩) hlt).trans hc
  obtain ⟨W', hW'⟩ : ∃ W', (W.alloc (.cells #[.int .i64 0] 68)) = W' := ⟨_, rfl⟩
  rw [hW'] at hfin hcell ⊢
  clear hW' hB hc h
  simp [Leaves, settle, results, Tryd.results14, go_sem, h2, h3, h4, hcell]
  exact hfin
theorem bytes_head (w : World) (a : Option Addr) (n c j : Nat) (bs : List Nat) (h : BytesAt w (.slice a n c) bs) (hn : bs.length = n) (h0 : 0 < j) (hj : j ≤ n) : BytesAt w (.slice a j c) (bs.take j) := by
  obtain ⟨⟨h1, h2, h3, ao, cap, e, hnil, hcell⟩, hr, hlt⟩ := h
  rw [hn] at h1 h2 hnil hcell e hr
  cases e
  have hl : (bs.take j).length = j := by simp [hn]; omega
  have hbc : bcells (bs.take j) = (bcells bs).take j := by simp [bcells, List.map_take]
  obtain ⟨b, off, rfl, hb, hcs⟩ := hcell (by omega)
  refine ⟨⟨by rw [hl]; omega, by rw [hl, bcells_len, hl]; omega, bcells_one _, _, _, by rw [hl], fun h => (by cases h), fun _ => ⟨b, off, rfl, hb, fun q u hq => ?_⟩⟩, by rw [hl]; omega, fun x hx => hlt x (List.mem_of_mem_take hx)⟩
  rw [hbc, List.getElem?_take] at hq
  split at hq
  · exact hcs q u hq
  · cases hq
theorem strMag : (strB mag).toList = [65, 73, 82, 49] := by rw [ByteArray.toList_eq]; rfl
set_option linter.unusedSimpArgs false in
set_option linter.unusedVariables false in
set_option maxRecDepth 100000 in
set_option maxHeartbeats 4000000 in
theorem read_any (a : Option Addr) (n c : Nat) (bs : List Nat) (w : World) (hs : Sums w) (h : BytesAt w (.slice a n c) bs) (hn : bs.length = n) (hc : n ≤ c) (hm : n ≤ 100000) :
    Calls Tryd.prog 14 #[.slice a n c] w (ReadP w (rdA bs)) := by
  have hmf : ∀ (fn : Fn) (first cap : Array Value) (w : World), (Instr.makeFunc fn first cap).run Tryd.prog w = .ok (.func fn first cap) w := fun _ _ _ _ => rfl
  obtain ⟨i5, hi5, hy0, hy1, hy2⟩ := info_parts Tryd.info_cp
  have HBY := Lib.hid h
  have HN := Lib.hid hn
  have HS := Lib.hid hs
  obtain ⟨R, hR⟩ : ∃ R, rdA bs = R := ⟨_, rfl⟩
  have hb0 : Below w.heap.size w (w.alloc (.cells #[.int .i64 0] 26)) := (Below.refl _ _).alloc (Nat.le_refl _) _
  have hw0 := heap_alloc_new w (.cells #[.int .i64 0] 26)
  have hz0 : (w.alloc (.cells #[.int .i64 0] 26)).heap.size = w.heap.size + 1 := by simp
  rw [hR]
  by_cases h4 : n < 4
  · have t1 : decide (4 ≤ n) = false := by simp; omega
    have t1' : decide ((4 : Int) ≤ (n : Int)) = false := by simp; omega
    obtain rfl : ([], 0, 3) = R := by rw [← hR]; unfold rdA; rw [if_pos (by omega)]
    clear hR hs h hn HS
    go_enter_defers Tryd.func14, Tryd.ntmps14
    go_wp2_with fail
    refine (need_no 3 _).mono ?_
    rintro e w' ⟨rfl, rfl⟩
    go_wp2
    refine door_panic _ w.heap.size (.slice none 0 0) 0 3 _ _ (.int .i64 0) rfl rfl rfl (cell_of_row _ _ 0 _ _ _ hw0) (frozen_of_row _ _ 0 _ _ hw0) (fun W' hg => ?_)
    exact ⟨_, rfl, (CpI.nil 0 35 W').cpsC, hb0.grown hg (by omega) (fun q hq => by cases hq; exact Nat.le_refl _)⟩
  have t1 : decide (4 ≤ n) = true := by simp; omega
  have t1' : decide ((4 : Int) ≤ (n : Int)) = true := by simp; omega
  have hby4 := bytes_head w a n c 4 bs h hn (by omega) (by omega)
  have hcv := run_convert_b (hby4.below hb0) 25 5 9 Tryd.underlying25 Tryd.underlying5 Tryd.underlying9
  have hqL := strB_beqL (bs.take 4) mag hby4.2.2 (by decide)
  rw [strMag] at hqL
  clear hby4
  by_cases hmag : bs.take 4 = mag
  rotate_left
  · rw [decide_eq_false hmag] at hqL
    obtain rfl : ([], 0, 2) = R := by rw [← hR]; unfold rdA; rw [if_neg (by omega), if_pos hmag]
    clear hR hs h hn HS hmag
    go_enter_defers Tryd.func14, Tryd.ntmps14
    go_wp2_with fail
    refine (need_ok 3 _).mono ?_
    rintro e w' ⟨rfl, rfl⟩
    go_wp2_with fail
    refine (need_no 2 _).mono ?_
    rintro e w' ⟨rfl, rfl⟩
    go_wp2
    refine door_panic _ w.heap.size (.slice none 0 0) 0 2 _ _ (.int .i64 0) rfl rfl rfl (cell_of_row _ _ 0 _ _ _ hw0) (frozen_of_row _ _ 0 _ _ hw0) (fun W' hg => ?_)
    exact ⟨_, rfl, (CpI.nil 0 35 W').cpsC, hb0.grown hg (by omega) (fun q hq => by cases hq; exact Nat.le_refl _)⟩
  rw [decide_eq_true hmag] at hqL
  have hat := RdAt.first (bs := bs) (by omega) hmag
  have HAT := Lib.hid hat
  have HR := Lib.hid hR
  clear hR hs h hn hmag hat
  go_enter_defers Tryd.func14, Tryd.ntmps14
  go_wp2_with fail
  refine (need_ok 3 _).mono ?_
  rintro e w' ⟨rfl, rfl⟩
  go_wp2_with fail
  refine (need_ok 2 _).mono ?_
  rintro e w' ⟨rfl, rfl⟩
  clear hcv hqL
  go_wp2_with fail
  have HW0 := Lib.hid hw0
  have HB0 := Lib.hid hb0
  clear hw0 hb0
  go_loopw [2, 3, 5, 6, 7] (fun out i last _ _ wr => ∃ (k : Nat) (T : Int) (ts : List Cp) (vs : List Value), i = .int .i64 k ∧ last = .int .i64 T ∧ k ≤ n ∧ Hid (CpI (w.heap.size + 1) 35 wr out ts vs) ∧ Hid (RdAt bs ts k T) ∧ Hid (ts.length ≤ k) ∧ Below (w.heap.size + 1) (w.alloc (.cells #[.int .i64 0] 26)) wr) (fun _ i _ _ _ _ => n - (intOf i).toNat)
  case atStart => exact ⟨4, 0, [], [], rfl, rfl, by omega, Lib.hid (CpI.nil _ _ _), HAT, Lib.hid (by simp), Below.refl _ _⟩
  case round =>
    clear HAT
    obtain ⟨k, T, ts, vs, rfl, rfl, hk, hinv, hat, hlen, hB⟩ := hrel
    have hblk := (hB.block _ (Nat.lt_succ_self _)).trans HW0.out
    have hcell := cell_of_row _ _ 0 _ _ _ hblk
    have hfroz := frozen_of_row _ _ 0 _ _ hblk
    have hBw : Below w.heap.size w wr := HB0.out.trans (hB.mono (Nat.le_succ _))
    have hszr : w.heap.size < wr.heap.size := (Array.getElem?_eq_some_iff.1 hblk).1
    simp at hcell
    by_cases hlt : k < n
    · have g1 : decide (k < n) = true := by simpa using hlt
      have g1' : decide ((k : Int) < (n : Int)) = true := by simp; omega
      obtain ⟨a2, c2, hby2, hc2, hrun2⟩ := bytes_from wr a n c k bs (HBY.out.below hBw) HN.out hc hk
      obtain ⟨m, hm2⟩ : ∃ m, n - k = m := ⟨_, rfl⟩
      rw [hm2] at hby2 hc2 hrun2
      have hrec := record_any a2 m c2 (bs.drop k) T wr (HS.out.keep hBw) hby2 (by rw [List.length_drop, HN.out, hm2]) hc2 (by omega)
      have hlt2 : k < bs.length := by rw [HN.out]; exact hlt
      have hbad := hat.out.bad hlt2
      have hgood := hat.out.good hlt2
      have hr1 := r1E_len (bs.drop k) T
      rw [HR.out] at hbad
      have hR1 : r1R (bs.drop k) = ⟨vnum ((bs.drop k).take 8), ((bs.drop k).getD 8 0 : Nat), ((bs.drop k).getD 9 0 : Nat), ((bs.drop k).getD 10 0 : Nat), ((bs.drop k).drop 13).take (r1L (bs.drop k))⟩ := rfl
      rw [hR1] at hgood
      simp only [List.length_drop, HN.out] at hr1
      obtain ⟨E, hEE⟩ : ∃ E, r1E (bs.drop k) T = E := ⟨_, rfl⟩
      obtain ⟨T1, hT1⟩ : ∃ x, vnum ((bs.drop k).take 8) = x := ⟨_, rfl⟩
      obtain ⟨C1, hC1⟩ : ∃ x, (bs.drop k).getD 8 0 = x := ⟨_, rfl⟩
      obtain ⟨F1, hF1⟩ : ∃ x, (bs.drop k).getD 9 0 = x := ⟨_, rfl⟩
      obtain ⟨K1, hK1⟩ : ∃ x, (bs.drop k).getD 10 0 = x := ⟨_, rfl⟩
      obtain ⟨L1, hL1⟩ : ∃ x, r1L (bs.drop k) = x := ⟨_, rfl⟩
      obtain ⟨ds, hds⟩ : ∃ x, ((bs.drop k).drop 13).take (r1L (bs.drop k)) = x := ⟨_, rfl⟩
      rw [hds] at hgood hrec
      rw [hEE] at hbad hgood hr1 hrec
      rw [hT1, hC1, hF1, hK1, hL1] at hgood hrec
      rw [hL1] at hr1
      have HBAD := Lib.hid hbad
      have HGOOD := Lib.hid hgood
      have HREC := Lib.hid hrec
      have HBW := Lib.hid hBw
      have HBB := Lib.hid hB
      have HBLK := Lib.hid hblk
      have hr1' := Lib.hid hr1
      have HM2 := Lib.hid hm2
      clear hds hT1 hC1 hF1 hK1 hL1 hEE hR1 hbad hgood hrec hby2 hlt2 hBw hB hblk hat hr1 hm2
      by_cases hE : E = 0
      rotate_left
      · obtain rfl := HBAD.out hE
        go_wp2_with fail
        refine HREC.out.mono ?_
        rintro e w2 ⟨hB2, hpan, _⟩
        obtain rfl := hpan hE
        have hcell2 := (hB2.cell (p := ⟨w.heap.size, 0, none⟩) hszr).trans hcell
        have hfroz2 := (hB2.frozen (p := ⟨w.heap.size, 0, none⟩) hszr).trans hfroz
        have hI := hinv.out.below hB2
        have HF := Lib.hid (HBW.out.trans (hB2.mono HBW.out.size))
        have hsz2 : w.heap.size < w2.heap.size := Nat.lt_of_lt_of_le hszr hB2.size
        clear hB2 hpan HREC HGOOD
        go_wp2
        refine door_panic _ w.heap.size u2 k E _ _ (.int .i64 0) rfl rfl rfl hcell2 hfroz2 (fun W' hg => ?_)
        exact ⟨_, rfl, (hI.grown hg (Nat.lt_succ_self _)).cpsC, HF.out.grown hg (Nat.le_of_lt hsz2) (fun q hq => by cases hq; exact Nat.le_refl _)⟩
      subst hE
      obtain ⟨hl1, hl2⟩ := hr1'.out rfl
      have hG := HGOOD.out rfl
      replace HGOOD := Lib.hid hG
      clear hG hr1' HBAD
      go_wp2_with fail
      refine HREC.out.mono ?_
      rintro e w2 ⟨hB2, _, hret⟩
      obtain ⟨xa, xc, rfl, hbo⟩ := hret rfl
      clear hret HREC hrun2
      go_upto_region 8 with fail
      generalize hV : World.alloc w2 _ = V
      obtain ⟨h6, hB6, h6z⟩ := alloc_named hV
      have f0 := cell_of_row _ _ 0 _ _ _ h6
      have f1 := cell_of_row _ _ 1 _ _ _ h6
      have f2 := cell_of_row _ _ 2 _ _ _ h6
      have f3 := cell_of_row _ _ 3 _ _ _ h6
      have f4 := cell_of_row _ _ 4 _ _ _ h6
      simp at f0 f1 f2 f3 f4
      have hB7 := (Below.refl V.heap.size V).alloc (Nat.le_refl _) (.cells #[.int .i64 (T1 : Int), .int .i64 (C1 : Int), .int .i64 (F1 : Int), .int .i64 (K1 : Int), .slice xa L1 xc] 35)
      have hinv7 := ((hinv.out.below hB2).below hB6).below hB7
      have hby7 := (hbo.1.below hB6).below hB7
      have hf2 := HBW.out.trans (hB2.mono HBW.out.size)
      have hf6 := hf2.trans (hB6.mono hf2.size)
      have hf7 := hf6.trans (hB7.mono hf6.size)
      have e2 := HBB.out.trans (hB2.mono hszr)
      have e6 := e2.trans (hB6.mono (Nat.le_trans hszr hB2.size))
      have hszV : w.heap.size < V.heap.size := Nat.lt_of_lt_of_le hszr (Nat.le_trans hB2.size hB6.size)
      have e7 := e6.trans (hB7.mono hszV)
      have hszV2 : w2.heap.size < V.heap.size := by omega
      have hnew : ∀ j u, [Value.int .i64 (T1 : Int), .int .i64 (C1 : Int), .int .i64 (F1 : Int), .int .i64 (K1 : Int), .slice xa L1 xc][j]? = some u → (V.alloc (.cells #[.int .i64 (T1 : Int), .int .i64 (C1 : Int), .int .i64 (F1 : Int), .int .i64 (K1 : Int), .slice xa L1 xc] 35)).cell? ((⟨V.heap.size, 0, none⟩ : Addr).add j) = some u := fun j u hj => by
        have := cellNew V #[.int .i64 (T1 : Int), .int .i64 (C1 : Int), .int .i64 (F1 : Int), .int .i64 (K1 : Int), .slice xa L1 xc] 35 j u (by simpa using hj)
        rw [addr_add, Nat.zero_add]
        exact this
      have hov : ds = [] ∨ ∃ b, (Value.slice xa L1 xc).ownBlock = some b ∧ b < (V.alloc (.cells #[.int .i64 (T1 : Int), .int .i64 (C1 : Int), .int .i64 (F1 : Int), .int .i64 (K1 : Int), .slice xa L1 xc] 35)).heap.size ∧ u2.ownBlock ≠ some b := by
        rcases hby7.nil_or with h | ⟨b', e1, e2⟩
        · exact .inl h
        · refine .inr ⟨b', e1, e2, fun e => ?_⟩
          have q1 := hbo.2 b' e1
          have q2 := (hinv.out.own.lt b' e).2
          omega
      have hne2 : ∀ q, u2.ownBlock = some q → q < w2.heap.size := fun q hq => Nat.lt_of_lt_of_le (hinv.out.own.lt q hq).2 hB2.size
      have hsz7 : (V.alloc (.cells #[.int .i64 (T1 : Int), .int .i64 (C1 : Int), .int .i64 (F1 : Int), .int .i64 (K1 : Int), .slice xa L1 xc] 35)).heap.size = V.heap.size + 1 := by simp
      have hf0 := (hB7.cell (p := ⟨w2.heap.size, 0, none⟩) hszV2).trans f0
      have HIN := Lib.hid hinv7.own
      have HI7 := Lib.hid hinv7
      have HOV := Lib.hid hov
      have HV7 := Lib.hid hby7
      have HF7 := Lib.hid hf7
      have HE7 := Lib.hid e7
      have HNE := Lib.hid hne2
      have hon : Own (w.heap.size + 1) (.slice xa L1 xc) := fun q hq => Nat.le_trans hszr (hbo.2 q hq)
      have hlen2 := hlen.out
      have hbase : w.heap.size + 1 ≤ (V.alloc (.cells #[.int .i64 (T1 : Int), .int .i64 (C1 : Int), .int .i64 (F1 : Int), .int .i64 (K1 : Int), .slice xa L1 xc] 35)).heap.size := by rw [hsz7]; omega
      clear hV h6 hB6 h6z hB7 hinv7 hby7 hf2 hf6 hf7 e2 e6 e7 hov hne2 hbo hB2 hinv HBW HBB HBLK hcell hfroz
      go_wp2_with (at_builtin; refine wpList_append_own_at _ rfl _ _ 22 rfl (w.heap.size + 1) 35 i5 _ 5 56 Tryd.underlying22 hi5 hy0 hy1 hy2 rfl (by decide) _ _ _ rfl HIN.out ⟨V.heap.size, 0, none⟩ 1 1 [Value.int .i64 (T1 : Int), .int .i64 (C1 : Int), .int .i64 (F1 : Int), .int .i64 (K1 : Int), .slice xa L1 xc] rfl rfl hnew ?c2 (by unfold maxLen; omega) (by omega) hbase ?_)
      case c2 => intro u hu; simp at hu; rcases hu with rfl | rfl | rfl | rfl | rfl <;> rfl
      intro v6 w6 hown6 hg6 hnn6 hob6
      have hpush := HI7.out.push (t := ⟨(T1 : Int), (C1 : Int), (F1 : Int), (K1 : Int), ds⟩) HV7.out hon HOV.out hown6 hg6 (by rw [hsz7]; exact hob6)
      have hB8 := HF7.out.grown hg6 (Nat.le_of_lt (Nat.lt_of_lt_of_le (Nat.lt_succ_self _) hbase)) (fun q hq => Nat.le_of_succ_le (HIN.out.lt q hq).1)
      have hE8 := HE7.out.grown hg6 hbase (fun q hq => (HIN.out.lt q hq).1)
      have hf8 : w6.cell? ⟨w2.heap.size, 0, none⟩ = some (.int .i64 (T1 : Int)) := (World.cell?_of_block (a := ⟨w2.heap.size, 0, none⟩) (hg6.block w2.heap.size (by rw [hsz7]; omega) (fun e => absurd (HNE.out _ e.symm) (Nat.lt_irrefl _)))).trans hf0
      have HP := Lib.hid hpush
      have HE8 := Lib.hid hE8
      have w1 : IntKind.i64.wrap ((k : Int) + ((16 + L1 : Nat) : Int)) = ((k + (16 + L1) : Nat) : Int) := by rw [IntWalk.i64_in _ (by omega)]; omega
      have hlen8 : (ts ++ [(⟨(T1 : Int), (C1 : Int), (F1 : Int), (K1 : Int), ds⟩ : Cp)]).length ≤ k + (16 + L1) := by simp; omega
      have HL8 := Lib.hid hlen8
      clear hpush hown6 hg6 hnn6 hob6 hB8 hE8 hlen8 HIN HI7 HOV HV7 HF7 HE7 HNE hnew hf0 f0 f1 f2 f3 f4 hbase hsz7
      go_wp2
      go_roundw
      case rel => exact ⟨k + (16 + L1), (T1 : Int), _, _, by go_num, rfl, by omega, HP, HGOOD, HL8, HE8.out⟩
      case measure => simp [intOf]; omega
    · have hk2 : k = n := by omega
      subst hk2
      have g1 : decide (k < k) = false := by simp
      have hfin := hat.out.last (by rw [HN.out]; omega)
      rw [HR.out] at hfin
      subst hfin
      clear hat HR
      go_wp2_with fail
      have hg := set1 wr ⟨w.heap.size, 0, none⟩ (.int .i64 0)
      have hc1 := World.cell?_setCell_same wr ⟨w.heap.size, 0, none⟩ (.int .i64 0) hcell
      have hI := hinv.out.grown hg (Nat.lt_succ_self _)
      have HF := Lib.hid (hBw.grown hg (Nat.le_of_lt hszr) (fun q hq => by cases hq; exact Nat.le_refl _))
      refine door_ret _ w.heap.size u2 k _ _ rfl rfl rfl hc1 (fun W' hB' => ?_)
      exact ⟨_, rfl, (hI.below hB').cpsC, HF.out.trans (hB'.mono HF.out.size)⟩
end Go.Proofs.YtccknpdnapoboaaDoor
