/- capture: a row of records that is read; slices.Clone of bytes; Copy of the reference. -/
import Derived.Test.YtccknpdnapoboaaDoorCpE
import Derived.Maps.AppendAt
namespace Go.Proofs.YtccknpdnapoboaaDoor
open Go.RowKit

/-- a record of a capture -/
structure Cp where
  t : Int
  c : Int
  f : Int
  k : Int
  bs : List Nat
instance : Inhabited Cp := ⟨⟨0, 0, 0, 0, []⟩⟩
/-- number k of a row of records -/
def CpAt (w : World) (b off k : Nat) (t : Cp) : Prop := ∃ a c, w.cell? ⟨b, off + k * 5, none⟩ = some (.int .i64 t.t) ∧ w.cell? ⟨b, off + k * 5 + 1, none⟩ = some (.int .i64 t.c) ∧ w.cell? ⟨b, off + k * 5 + 2, none⟩ = some (.int .i64 t.f) ∧
  w.cell? ⟨b, off + k * 5 + 3, none⟩ = some (.int .i64 t.k) ∧ w.cell? ⟨b, off + k * 5 + 4, none⟩ = some (.slice a t.bs.length c) ∧ BytesAt w (.slice a t.bs.length c) t.bs
def Cps (w : World) (v : Value) (ts : List Cp) : Prop := ts.length ≤ maxLen ∧ ∃ (ao : Option Addr) (cap : Nat), v = .slice ao ts.length cap ∧
  (0 < ts.length → ∃ b off, ao = some ⟨b, off, none⟩ ∧ b < w.heap.size ∧ ∀ k (h : k < ts.length), CpAt w b off k ts[k])
theorem CpAt.below {w w' : World} {b off k : Nat} {t : Cp} (h : CpAt w b off k t) (hb : Below w.heap.size w w') : CpAt w' b off k t := by
  obtain ⟨a, c, h0, h1, h2, h3, h4, h5⟩ := h
  exact ⟨a, c, kc h0 hb, kc h1 hb, kc h2 hb, kc h3 hb, kc h4 hb, h5.below hb⟩
theorem Cps.below {w w' : World} {v : Value} {ts : List Cp} (h : Cps w v ts) (hb : Below w.heap.size w w') : Cps w' v ts := by
  obtain ⟨h1, ao, cap, rfl, h2⟩ := h
  refine ⟨h1, ao, cap, rfl, fun h0 => ?_⟩
  obtain ⟨b, off, rfl, hlt, hc⟩ := h2 h0
  exact ⟨b, off, rfl, Nat.lt_of_lt_of_le hlt hb.size, fun k h => (hc k h).below hb⟩

/-- a slice of bytes of the call's own, or nil -/
def BytesO (B : Nat) (w : World) (v : Value) (bs : List Nat) : Prop := BytesAt w v bs ∧ Own B v
theorem BytesO.below {B : Nat} {w w' : World} {v : Value} {bs : List Nat} (h : BytesO B w v bs) (hb : Below w.heap.size w w') : BytesO B w' v bs := ⟨h.1.below hb, h.2⟩

theorem run_eql_sl {P : Program} (w : World) (t e : TypeId) (a : Option Addr) (n c : Nat) (ht : P.underlying t = some (.slice e)) : (binOp .eql t (.slice a n c) (.slice none 0 0)).run P w = .ok (.bool a.isNone) w := by
  have h : ∀ d : Nat, (Op.equalIn (d + 1) t (.slice a n c) (.slice none 0 0)).run P w = .ok a.isNone w := fun d => by
    cases a <;> simp [Op.equalIn, run_underlying ht]
  simp only [binOp]
  simp [Op.equal, Op.maxDepth, h 9999]
theorem clone_any (v : Value) (bs : List Nat) (w : World) (h : BytesAt w v bs) :
    Calls Tryd.prog 53 #[v] w fun e w' => ∃ v', e = .returned v' ∧ BytesO w.heap.size w' v' bs ∧ Below w.heap.size w w' := by
  obtain ⟨i0, hi, hz0, hz1, hz2⟩ := info_parts Tryd.info_u8
  obtain ⟨hs, hr, hlt⟩ := h
  have hsr := Lib.hid hs
  obtain ⟨hm, _, _, ao, cap, rfl, hnil, hcell⟩ := hs
  unfold reachBytes at hr
  cases ao with
  | none =>
    have h0 := hnil rfl
    have e : bs = [] := List.eq_nil_of_length_eq_zero h0.1
    subst e
    obtain rfl := h0.2
    have hq : ∀ w : World, (binOp .eql 25 (.slice none 0 0) (.slice none 0 0)).run Tryd.prog w = .ok (.bool true) w := fun w => run_eql_sl w _ _ none 0 0 Tryd.underlying25
    clear hnil hcell h0 hsr
    go_enter Tryd.func53, Tryd.ntmps53
    go_wp2
    go_ret
    exact ⟨_, rfl, ⟨⟨⟨Nat.zero_le _, rfl, by simp [bcells], none, 0, rfl, fun _ => ⟨rfl, rfl⟩, fun h => absurd h (by simp)⟩, by simp, by simp⟩, fun k hk => by simp [Value.ownBlock] at hk⟩, Below.refl _ _⟩
  | some ad =>
    have hb : Below w.heap.size w (w.alloc (.cells #[] 5)) := (Below.refl _ _).alloc (Nat.le_refl _) _
    have hq : ∀ w : World, (binOp .eql 25 (.slice (some ad) bs.length cap) (.slice none 0 0)).run Tryd.prog w = .ok (.bool false) w := fun w => run_eql_sl w _ _ (some ad) _ _ Tryd.underlying25
    clear hnil hcell
    go_enter Tryd.func53, Tryd.ntmps53
    go_wp2_with (at_builtin; refine wpList_append_empty rfl _ _ 25 rfl 5 i0 _ 1 1 Tryd.underlying25 hi hz0 hz1 hz2 rfl (by decide) _ (by rfl) _ _ (bcells bs) (by rfl) (hsr.out.below hb) (by omega) ?_)
    intro v' w' hr' hB' ho hn
    have hfin := hb.trans (hB'.mono (by omega))
    have hown : Own w.heap.size v' := fun k hk => by rcases ho with h | h <;> (rw [h] at hk; simp at hk; omega)
    clear hB' ho hn
    go_wp2
    go_ret
    exact ⟨_, rfl, ⟨⟨hr', hr, hlt⟩, hown⟩, hfin⟩

/-- the cells of a row of records -/
def cpcells : List Cp → List Value → List Value
  | t :: l, v :: vs => .int .i64 t.t :: .int .i64 t.c :: .int .i64 t.f :: .int .i64 t.k :: v :: cpcells l vs
  | _, _ => []
theorem cpcells_snoc : ∀ (l : List Cp) (vs : List Value) (t : Cp) (v : Value), l.length = vs.length → cpcells (l ++ [t]) (vs ++ [v]) = cpcells l vs ++ [.int .i64 t.t, .int .i64 t.c, .int .i64 t.f, .int .i64 t.k, v]
  | [], [], _, _, _ => rfl
  | x :: l, y :: vs, t, v, h => by
    have := cpcells_snoc l vs t v (by simpa using h)
    simp [cpcells, this]
theorem cpcells_get : ∀ (l : List Cp) (vs : List Value) (k : Nat) (h : k < l.length) (h' : k < vs.length), (cpcells l vs)[k * 5]? = some (.int .i64 l[k].t) ∧ (cpcells l vs)[k * 5 + 1]? = some (.int .i64 l[k].c) ∧ (cpcells l vs)[k * 5 + 2]? = some (.int .i64 l[k].f) ∧ (cpcells l vs)[k * 5 + 3]? = some (.int .i64 l[k].k) ∧ (cpcells l vs)[k * 5 + 4]? = some vs[k]
  | t :: l, v :: vs, 0, _, _ => by simp [cpcells]
  | t :: l, v :: vs, k+1, h, h' => by
    have := cpcells_get l vs k (by simpa using h) (by simpa using h')
    rw [show (k + 1) * 5 = k * 5 + 1 + 1 + 1 + 1 + 1 by omega]
    simpa [cpcells, Nat.add_assoc] using this
theorem cpcells_len : ∀ (l : List Cp) (vs : List Value), l.length = vs.length → (cpcells l vs).length = l.length * 5
  | [], [], _ => rfl
  | x :: l, y :: vs, h => by
    have := cpcells_len l vs (by simpa using h)
    simp [cpcells, this]; omega

theorem Tryd.info_cp : (Tryd.prog.info? 35).map (fun i => (i.zero, i.size, i.bytes)) = some (some (.agg #[.int .i64 0, .int .i64 0, .int .i64 0, .int .i64 0, .slice none 0 0]), 5, 56) := by kernel_rfl
theorem SR.grown {w w' : World} {v : Value} {n size : Nat} {cs : List Value} {row : Option Nat} (h : SR w v n size cs) (hg : w.grownBy w' row) (hne : n = 0 ∨ ∃ b, v.ownBlock = some b ∧ row ≠ some b) : SR w' v n size cs := by
  obtain ⟨h1, h2, h3, ao, cap, rfl, hn, h4⟩ := h
  refine ⟨h1, h2, h3, ao, cap, rfl, hn, fun h0 => ?_⟩
  obtain ⟨b, off, rfl, hlt, hc⟩ := h4 h0
  rcases hne with h | ⟨b', hb', hne⟩
  · omega
  · simp [Value.ownBlock] at hb'
    subst hb'
    exact ⟨b, off, rfl, Nat.lt_of_lt_of_le hlt hg.size, fun j u hj => (World.cell?_of_block (a := ⟨b, off + j, none⟩) (hg.block b hlt (fun e => hne e.symm))).trans (hc j u hj)⟩
theorem SR.lt {w : World} {v : Value} {n size : Nat} {cs : List Value} (h : SR w v n size cs) (h0 : 0 < n) {b : Nat} (hb : v.ownBlock = some b) : b < w.heap.size := by
  obtain ⟨h1, h2, h3, ao, cap, rfl, hn, h4⟩ := h
  obtain ⟨b', off, rfl, hlt, hc⟩ := h4 h0
  simp [Value.ownBlock] at hb
  omega
theorem BytesAt.nil_or {w : World} {v : Value} {bs : List Nat} (h : BytesAt w v bs) : bs = [] ∨ ∃ b, v.ownBlock = some b ∧ b < w.heap.size := by
  obtain ⟨⟨h1, h2, h3, ao, cap, rfl, hn, h4⟩, _⟩ := h
  by_cases h0 : bs = []
  · exact .inl h0
  · obtain ⟨b', off, rfl, hlt, hc⟩ := h4 (List.length_pos_iff.2 h0)
    exact .inr ⟨b', by simp [Value.ownBlock], hlt⟩

/-- what is known of the copies so far -/
structure CpInv (base e : Nat) (w : World) (out : Value) (ts : List Cp) (vs : List Value) : Prop where
  len : ts.length = vs.length
  own : w.ownsRow base e 5 out ts.length (cpcells ts vs)
  some' : out ≠ .slice none 0 0
  rd : ∀ j (h : j < ts.length) (h' : j < vs.length), BytesAt w vs[j] ts[j].bs ∧ Own base vs[j] ∧ (ts[j].bs = [] ∨ ∃ b, vs[j].ownBlock = some b ∧ b < w.heap.size ∧ out.ownBlock ≠ some b)
theorem CpInv.below {base e : Nat} {w w' : World} {out : Value} {ts : List Cp} {vs : List Value} (h : CpInv base e w out ts vs) (hb : Below w.heap.size w w') : CpInv base e w' out ts vs :=
  ⟨h.len, own_below h.own hb, h.some', fun j h1 h2 => ⟨(h.rd j h1 h2).1.below hb, (h.rd j h1 h2).2.1, (h.rd j h1 h2).2.2.imp id (fun ⟨b, e1, e2, e3⟩ => ⟨b, e1, Nat.lt_of_lt_of_le e2 hb.size, e3⟩)⟩⟩
theorem CpInv.push {base e : Nat} {W w' : World} {out out' : Value} {ts : List Cp} {vs : List Value} (h : CpInv base e W out ts vs) {t : Cp} {v : Value} (hv : BytesAt W v t.bs) (ho : Own base v)
    (hb : t.bs = [] ∨ ∃ b, v.ownBlock = some b ∧ b < W.heap.size ∧ out.ownBlock ≠ some b)
    (hown : w'.ownsRow base e 5 out' (ts.length + 1) (cpcells ts vs ++ [.int .i64 t.t, .int .i64 t.c, .int .i64 t.f, .int .i64 t.k, v])) (hg : W.grownBy w' out.ownBlock)
    (ho' : out'.ownBlock = out.ownBlock ∨ out'.ownBlock = some W.heap.size) (hs : out' ≠ .slice none 0 0) : CpInv base e w' out' (ts ++ [t]) (vs ++ [v]) := by
  have key : ∀ (x : Value) (bs : List Nat), BytesAt W x bs → (bs = [] ∨ ∃ b, x.ownBlock = some b ∧ b < W.heap.size ∧ out.ownBlock ≠ some b) →
      BytesAt w' x bs ∧ (bs = [] ∨ ∃ b, x.ownBlock = some b ∧ b < w'.heap.size ∧ out'.ownBlock ≠ some b) := fun x bs hx hor => by
    refine ⟨⟨hx.1.grown hg ?_, hx.2⟩, ?_⟩
    · rcases hor with h | ⟨b, e1, _, e3⟩
      · exact .inl (by rw [h]; rfl)
      · exact .inr ⟨b, e1, e3⟩
    · rcases hor with h | ⟨b, e1, e2, e3⟩
      · exact .inl h
      · refine .inr ⟨b, e1, Nat.lt_of_lt_of_le e2 hg.size, ?_⟩
        rcases ho' with h | h
        · rw [h]; exact e3
        · rw [h]; intro e; cases e; omega
  refine ⟨by simp [h.len], by rw [cpcells_snoc _ _ _ _ h.len]; simpa using hown, hs, fun j h1 h2 => ?_⟩
  have hl := h.len
  by_cases hj : j < ts.length
  · obtain ⟨q1, q2, q3⟩ := h.rd j hj (by omega)
    simp only [List.getElem_append_left hj, List.getElem_append_left (show j < vs.length by omega)]
    obtain ⟨k1, k2⟩ := key _ _ q1 q3
    exact ⟨k1, q2, k2⟩
  · simp at h1
    have e1 : j = ts.length := by omega
    subst e1
    have e2 : (vs ++ [v])[ts.length] = v := by simp [hl]
    have e3 : (ts ++ [t])[ts.length] = t := by simp
    rw [e2, e3]
    obtain ⟨k1, k2⟩ := key _ _ hv hb
    exact ⟨k1, ho, k2⟩
theorem CpInv.cps {base e : Nat} {w : World} {out : Value} {ts : List Cp} {vs : List Value} (h : CpInv base e w out ts vs) : Cps w out ts := by
  have one : ∀ (l : List Cp) (us : List Value), l.length = us.length → (∀ j (h : j < us.length), us[j].oneCell' = true) → ∀ u ∈ cpcells l us, u.oneCell' = true := by
    intro l
    induction l with
    | nil => intro us _ _ u hu; cases us <;> simp [cpcells] at hu
    | cons t l ih =>
      intro us hl hj u hu
      match us, hl, hj with
      | v :: us, hl, hj =>
        simp only [cpcells, List.mem_cons] at hu
        rcases hu with rfl | rfl | rfl | rfl | rfl | hu
        · rfl
        · rfl
        · rfl
        · rfl
        · exact hj 0 (by simp)
        · exact ih us (by simpa using hl) (fun j h => hj (j + 1) (by simpa using h)) u hu
  have hl := h.len
  have hsr := SR.of_own h.own (one ts vs h.len (fun j hj => by
    obtain ⟨ao, cap, e⟩ := (h.rd j (by omega) hj).1.1.val
    rw [e]; rfl)) (cap_of h.own)
  obtain ⟨h1, _, _, ao, cap, rfl, _, hc⟩ := hsr
  refine ⟨h1, ao, cap, rfl, fun h0 => ?_⟩
  obtain ⟨b, off, rfl, hb, hcell⟩ := hc h0
  refine ⟨b, off, rfl, hb, fun k hk => ?_⟩
  obtain ⟨g0, g1, g2, g3, g4⟩ := cpcells_get ts vs k hk (by omega)
  have hby := (h.rd k hk (by omega)).1
  obtain ⟨a, c, e⟩ := hby.1.val
  rw [e] at hby g4
  exact ⟨a, c, hcell _ _ g0, hcell _ _ g1, hcell _ _ g2, hcell _ _ g3, hcell _ _ g4, hby⟩

set_option maxHeartbeats 2000000 in
theorem copy_any (tv : Value) (ts : List Cp) (w : World) (h : Cps w tv ts) (hbd : ts.length * 56 ≤ 140737488355328) :
    Calls Tryd.prog 12 #[tv] w fun e w' => ∃ v' vs, e = .returned v' ∧ CpInv w.heap.size 35 w' v' ts vs ∧ Below w.heap.size w w' := by
  obtain ⟨i0, hi, hz0, hz1, hz2⟩ := info_parts Tryd.info_u8
  obtain ⟨i5, hi5, hy0, hy1, hy2⟩ := info_parts Tryd.info_cp
  obtain ⟨hm, ao, cap, rfl, hcell⟩ := h
  obtain ⟨n, hn⟩ : ∃ n, ts.length = n := ⟨_, rfl⟩
  unfold maxLen at hm
  rw [hn] at hm hbd ⊢
  have HN := Lib.hid hn
  have HC := Lib.hid hcell
  have hown0 := World.ownsRow_made (base := w.heap.size) (e := 35) (size := 5) w #[] 0 (Nat.le_refl _) (by unfold maxLen; omega) rfl
  have hb0 : Below w.heap.size w (w.alloc (.cells #[] 35)) := (Below.refl _ _).alloc (Nat.le_refl _) _
  clear hn hcell
  go_enter Tryd.func12, Tryd.ntmps12
  go_wp2_with fail
  go_loopw [3, 4, 5] (fun out i _ wr => ∃ (k : Nat) (vs : List Value), k ≤ n ∧ i = .int .i64 k ∧ Hid (CpInv w.heap.size 35 wr out (ts.take k) vs) ∧ Below w.heap.size w wr) (fun _ i _ _ => n - (intOf i).toNat)
  case atStart => exact ⟨0, [], by omega, rfl, ⟨rfl, hown0, by simp, fun j h => absurd h (by simp)⟩, hb0⟩
  case round =>
    obtain ⟨k, vs, hk, rfl, hinv, hB⟩ := hrel
    by_cases hlt : k < n
    · have hkl : k < ts.length := by rw [HN.out]; exact hlt
      obtain ⟨b, off, rfl, hb, hx⟩ := HC.out (by omega)
      obtain ⟨ta, tc, d0, d1, d2, d3, d4, hby⟩ := (hx k hkl).below hB
      have tse := List.take_succ_eq_append_getElem hkl
      obtain ⟨⟨I, F, C, S, bs⟩, he⟩ : ∃ t, ts[k] = t := ⟨_, rfl⟩
      rw [he] at d0 d1 d2 d3 d4 hby tse
      simp only at d0 d1 d2 d3 d4 hby
      obtain ⟨L, hL⟩ : ∃ L, bs.length = L := ⟨_, rfl⟩
      rw [hL] at d4 hby
      have hbr : b < wr.heap.size := Nat.lt_of_lt_of_le hb hB.size
      have hi0 : (0 : Int) ≤ (k : Int) := by omega
      have hi1 : (k : Int) < (n : Int) := by omega
      have TSE := Lib.hid tse
      have HBY := Lib.hid hby
      have HL := Lib.hid hL
      have hLr : L ≤ reachBytes := by rw [← hL]; exact hby.2.1
      unfold reachBytes at hLr
      clear hx he tse hby hL
      have hBx : Below wr.heap.size wr (wr.alloc (.cells #[.int .i64 I, .int .i64 F, .int .i64 C, .int .i64 S, .slice ta L tc] 35)) := (Below.refl _ _).alloc (Nat.le_refl _) _
      have hBy := hBx.alloc hBx.size (.cells #[] 5)
      have hblk := (Below.heap_alloc (wr.alloc (.cells #[.int .i64 I, .int .i64 F, .int .i64 C, .int .i64 S, .slice ta L tc] 35)) (.cells #[] 5) wr.heap.size (by simp)).trans (heap_alloc_new wr (.cells #[.int .i64 I, .int .i64 F, .int .i64 C, .int .i64 S, .slice ta L tc] 35))
      have hsy := HBY.out.1.below hBy
      have HSY := Lib.hid hsy
      clear hsy
      go_wp2_with (at_builtin; refine wpList_append_empty rfl _ _ 25 rfl 5 i0 _ 1 1 Tryd.underlying25 hi hz0 hz1 hz2 rfl (by decide) _ (by rfl) _ _ (bcells bs) (by rfl) HSY.out (by rw [HL.out]; omega) ?_)
      intro v3 w3 hr3 hB3 ho3 hn3
      have hB3' := hBy.trans (hB3.mono (by omega))
      have hblk3 := (hB3.block wr.heap.size (by omega)).trans hblk
      have hs3 : wr.heap.size + 2 ≤ w3.heap.size := by have := hB3.size; simpa using this
      obtain ⟨a3, c3, rfl⟩ := hr3.val
      have ho3' : Own (wr.heap.size + 1) (.slice a3 bs.length c3) := fun q hq => by rcases ho3 with h | h <;> (rw [h] at hq; simp at hq; omega)
      have f0 : w3.cell? ⟨wr.heap.size, 0, none⟩ = some (.int .i64 I) := cell_of_row _ _ 0 _ _ _ hblk3
      have f1 : w3.cell? ⟨wr.heap.size, 1, none⟩ = some (.int .i64 F) := cell_of_row _ _ 1 _ _ _ hblk3
      have f2 : w3.cell? ⟨wr.heap.size, 2, none⟩ = some (.int .i64 C) := cell_of_row _ _ 2 _ _ _ hblk3
      have f3 : w3.cell? ⟨wr.heap.size, 3, none⟩ = some (.int .i64 S) := cell_of_row _ _ 3 _ _ _ hblk3
      have f4 : w3.cell? ⟨wr.heap.size, 4, none⟩ = some (.slice ta L tc) := cell_of_row _ _ 4 _ _ _ hblk3
      have z4 := frozen_of_row _ _ 4 _ _ hblk3
      have hv4 := SRO.set ⟨hr3, ho3'⟩ (p := ⟨wr.heap.size, 4, none⟩) (by simp) (.slice a3 bs.length c3)
      have hB4 := hB3'.setCell (p := ⟨wr.heap.size, 4, none⟩) (by simp) (.slice a3 bs.length c3)
      have hv5 := hv4.alloc (.cells #[.int .i64 I, .int .i64 F, .int .i64 C, .int .i64 S, .slice a3 bs.length c3] 35)
      have hB5 := hB4.alloc hB4.size (.cells #[.int .i64 I, .int .i64 F, .int .i64 C, .int .i64 S, .slice a3 bs.length c3] 35)
      have hinv5 := hinv.out.below hB5
      have hnew : ∀ j u, [Value.int .i64 I, .int .i64 F, .int .i64 C, .int .i64 S, .slice a3 bs.length c3][j]? = some u → ((w3.setCell ⟨wr.heap.size, 4, none⟩ (.slice a3 bs.length c3)).alloc (.cells #[.int .i64 I, .int .i64 F, .int .i64 C, .int .i64 S, .slice a3 bs.length c3] 35)).cell? ((⟨w3.heap.size, 0, none⟩ : Addr).add j) = some u := fun j u hj => by
        have := cellNew (w3.setCell ⟨wr.heap.size, 4, none⟩ (.slice a3 bs.length c3)) #[.int .i64 I, .int .i64 F, .int .i64 C, .int .i64 S, .slice a3 bs.length c3] 35 j u (by simpa using hj)
        rw [addr_add, Nat.zero_add]
        rw [show (w3.setCell ⟨wr.heap.size, 4, none⟩ (.slice a3 bs.length c3)).heap.size = w3.heap.size by simp [World.setCell]] at this
        exact this
      have htk : (ts.take k).length = k := by rw [List.length_take]; omega
      have hfin := hB.trans (hB5.mono hB.size)
      have hov : bs = [] ∨ ∃ b, (Value.slice a3 bs.length c3).ownBlock = some b ∧ b < ((w3.setCell ⟨wr.heap.size, 4, none⟩ (.slice a3 bs.length c3)).alloc (.cells #[.int .i64 I, .int .i64 F, .int .i64 C, .int .i64 S, .slice a3 bs.length c3] 35)).heap.size ∧ u3.ownBlock ≠ some b := by
        have hv5' : BytesAt _ _ bs := ⟨hv5.1, HBY.out.2⟩
        rcases hv5'.nil_or with h | ⟨b', e1, e2⟩
        · exact .inl h
        · refine .inr ⟨b', e1, e2, fun e => ?_⟩
          have q1 := ho3' b' e1
          have q2 := (hinv.out.own.lt b' e).2
          omega
      have hin := hinv5.own
      have hbase : w.heap.size ≤ ((w3.setCell ⟨wr.heap.size, 4, none⟩ (.slice a3 bs.length c3)).alloc (.cells #[.int .i64 I, .int .i64 F, .int .i64 C, .int .i64 S, .slice a3 bs.length c3] 35)).heap.size := Nat.le_trans hB.size hB5.size
      have HIN := Lib.hid hin
      have HI5 := Lib.hid hinv5
      have HOV := Lib.hid hov
      have HV5 := Lib.hid hv5
      have HFI := Lib.hid hfin
      have hsz5 : ((w3.setCell ⟨wr.heap.size, 4, none⟩ (.slice a3 bs.length c3)).alloc (.cells #[.int .i64 I, .int .i64 F, .int .i64 C, .int .i64 S, .slice a3 bs.length c3] 35)).heap.size = w3.heap.size + 1 := by simp [World.setCell]
      clear hin hinv5 hov hv5 hfin hB3 ho3 hn3 hB4 hB5 hv4 hB3' hblk hblk3 hBx hBy HSY
      go_wp2_with (at_builtin; refine wpList_append_own_at _ rfl _ _ 22 rfl w.heap.size 35 i5 _ 5 56 Tryd.underlying22 hi5 hy0 hy1 hy2 rfl (by decide) _ _ _ rfl HIN.out ⟨w3.heap.size, 0, none⟩ 1 1 [Value.int .i64 I, .int .i64 F, .int .i64 C, .int .i64 S, .slice a3 bs.length c3] rfl rfl hnew ?c2 (by rw [htk]; unfold maxLen; omega) (by rw [htk]; omega) hbase ?_)
      case c2 => intro u hu; simp at hu; rcases hu with rfl | rfl | rfl | rfl | rfl <;> rfl
      intro v6 w6 hown6 hg6 hnn6 hob6
      have hpush := HI5.out.push (t := ⟨I, F, C, S, bs⟩) ⟨HV5.out.1, HBY.out.2⟩ (HV5.out.2.mono (by have := hB.size; omega)) HOV.out (by rw [htk]; exact hown6) hg6 (by rw [hsz5]; exact hob6) hnn6
      rw [← TSE.out] at hpush
      have hB6 := HFI.out.grown hg6 hbase (fun q hq => (HIN.out.lt q hq).1)
      have HP := Lib.hid hpush
      clear hpush hown6 hg6 hnn6 hob6
      go_wp2
      go_roundw
      case rel => exact ⟨k + 1, _, by omega, by go_num, HP.out, hB6⟩
      case measure => simp [intOf]; omega
    · have e : ts.take k = ts := List.take_of_length_le (by rw [HN.out]; omega)
      have ha := hinv.out
      rw [e] at ha
      have HA := Lib.hid ha
      clear ha e
      go_wp2
      go_ret
      exact ⟨_, vs, rfl, HA.out, hB⟩
end Go.Proofs.YtccknpdnapoboaaDoor
