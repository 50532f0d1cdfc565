/- capture: air's reference's Copy. capture: cmp.Compare, cmp.Or; Clone of transmissions. capture: the comparison of Make; the sort of transmissions. capture: the kinds of receptions: a map filled forward against a search backward. capture: receptions. capture: readings of the arguments of Makes. capture: plain laws of Makes. -/
import Derived.Test.YtccknpdnapoboaaDoorMkA
import Derived.Maps.AppendAt
import Derived.Test.YtccknpdnapoboaaDoorMkZb
import Derived.Maps.OwnSet
import Derived.Test.YtccknpdnapoboaaDoorMkZc
namespace Go.Proofs.YtccknpdnapoboaaDoor
open Go.RowKit

/-- the cells of a row of transmissions -/
def txcells : List Tr → List Value → List Value
  | t :: l, v :: vs => .int .i64 t.id :: .int .i64 t.fr :: .int .i64 t.ch :: .int .i64 t.st :: v :: txcells l vs
  | _, _ => []
theorem txcells_snoc : ∀ (l : List Tr) (vs : List Value) (t : Tr) (v : Value), l.length = vs.length → txcells (l ++ [t]) (vs ++ [v]) = txcells l vs ++ [.int .i64 t.id, .int .i64 t.fr, .int .i64 t.ch, .int .i64 t.st, v]
  | [], [], _, _, _ => rfl
  | x :: l, y :: vs, t, v, h => by
    have := txcells_snoc l vs t v (by simpa using h)
    simp [txcells, this]
theorem txcells_get : ∀ (l : List Tr) (vs : List Value) (k : Nat) (h : k < l.length) (h' : k < vs.length), (txcells l vs)[k * 5]? = some (.int .i64 l[k].id) ∧ (txcells l vs)[k * 5 + 1]? = some (.int .i64 l[k].fr) ∧ (txcells l vs)[k * 5 + 2]? = some (.int .i64 l[k].ch) ∧ (txcells l vs)[k * 5 + 3]? = some (.int .i64 l[k].st) ∧ (txcells l vs)[k * 5 + 4]? = some vs[k]
  | t :: l, v :: vs, 0, _, _ => by simp [txcells]
  | t :: l, v :: vs, k+1, h, h' => by
    have := txcells_get l vs k (by simpa using h) (by simpa using h')
    rw [show (k + 1) * 5 = k * 5 + 1 + 1 + 1 + 1 + 1 by omega]
    simpa [txcells, Nat.add_assoc] using this
theorem txcells_len : ∀ (l : List Tr) (vs : List Value), l.length = vs.length → (txcells l vs).length = l.length * 5
  | [], [], _ => rfl
  | x :: l, y :: vs, h => by
    have := txcells_len l vs (by simpa using h)
    simp [txcells, this]; omega
theorem Tryd.info_tx : (Tryd.prog.info? 88).map (fun i => (i.zero, i.size, i.bytes)) = some (some (.agg #[.int .i64 0, .int .i64 0, .int .i64 0, .int .i64 0, .slice none 0 0]), 5, 56) := by kernel_rfl
/-- what is known of the copies so far -/
structure TcInv (base e : Nat) (w : World) (out : Value) (ts : List Tr) (vs : List Value) : Prop where
  len : ts.length = vs.length
  own : w.ownsRow base e 5 out ts.length (txcells ts vs)
  some' : out ≠ .slice none 0 0
  rd : ∀ j (h : j < ts.length) (h' : j < vs.length), BytesAt w vs[j] ts[j].bs ∧ Own base vs[j] ∧ (ts[j].bs = [] ∨ ∃ b, vs[j].ownBlock = some b ∧ b < w.heap.size ∧ out.ownBlock ≠ some b)
theorem TcInv.below {base e : Nat} {w w' : World} {out : Value} {ts : List Tr} {vs : List Value} (h : TcInv base e w out ts vs) (hb : Below w.heap.size w w') : TcInv base e w' out ts vs :=
  ⟨h.len, own_below h.own hb, h.some', fun j h1 h2 => ⟨(h.rd j h1 h2).1.below hb, (h.rd j h1 h2).2.1, (h.rd j h1 h2).2.2.imp id (fun ⟨b, e1, e2, e3⟩ => ⟨b, e1, Nat.lt_of_lt_of_le e2 hb.size, e3⟩)⟩⟩
theorem TcInv.push {base e : Nat} {W w' : World} {out out' : Value} {ts : List Tr} {vs : List Value} (h : TcInv base e W out ts vs) {t : Tr} {v : Value} (hv : BytesAt W v t.bs) (ho : Own base v)
    (hb : t.bs = [] ∨ ∃ b, v.ownBlock = some b ∧ b < W.heap.size ∧ out.ownBlock ≠ some b)
    (hown : w'.ownsRow base e 5 out' (ts.length + 1) (txcells ts vs ++ [.int .i64 t.id, .int .i64 t.fr, .int .i64 t.ch, .int .i64 t.st, v])) (hg : W.grownBy w' out.ownBlock)
    (ho' : out'.ownBlock = out.ownBlock ∨ out'.ownBlock = some W.heap.size) (hs : out' ≠ .slice none 0 0) : TcInv base e w' out' (ts ++ [t]) (vs ++ [v]) := by
  have key : ∀ (x : Value) (bs : List Nat), BytesAt W x bs → (bs = [] ∨ ∃ b, x.ownBlock = some b ∧ b < W.heap.size ∧ out.ownBlock ≠ some b) →
      BytesAt w' x bs ∧ (bs = [] ∨ ∃ b, x.ownBlock = some b ∧ b < w'.heap.size ∧ out'.ownBlock ≠ some b) := fun x bs hx hor => by
    refine ⟨⟨hx.1.grown hg ?_, hx.2⟩, ?_⟩
    · rcases hor with h | ⟨b, e1, _, e3⟩
      · exact .inl (by rw [h]; rfl)
      · exact .inr ⟨b, e1, e3⟩
    · rcases hor with h | ⟨b, e1, e2, e3⟩
      · exact .inl h
      · refine .inr ⟨b, e1, Nat.lt_of_lt_of_le e2 hg.size, ?_⟩
        rcases ho' with h | h
        · rw [h]; exact e3
        · rw [h]; intro e; cases e; omega
  refine ⟨by simp [h.len], by rw [txcells_snoc _ _ _ _ h.len]; simpa using hown, hs, fun j h1 h2 => ?_⟩
  have hl := h.len
  by_cases hj : j < ts.length
  · obtain ⟨q1, q2, q3⟩ := h.rd j hj (by omega)
    simp only [List.getElem_append_left hj, List.getElem_append_left (show j < vs.length by omega)]
    obtain ⟨k1, k2⟩ := key _ _ q1 q3
    exact ⟨k1, q2, k2⟩
  · simp at h1
    have e1 : j = ts.length := by omega
    subst e1
    have e2 : (vs ++ [v])[ts.length] = v := by simp [hl]
    have e3 : (ts ++ [t])[ts.length] = t := by simp
    rw [e2, e3]
    obtain ⟨k1, k2⟩ := key _ _ hv hb
    exact ⟨k1, ho, k2⟩
theorem TcInv.txs {base e : Nat} {w : World} {out : Value} {ts : List Tr} {vs : List Value} (h : TcInv base e w out ts vs) : Txs w out ts := by
  have one : ∀ (l : List Tr) (us : List Value), l.length = us.length → (∀ j (h : j < us.length), us[j].oneCell' = true) → ∀ u ∈ txcells l us, u.oneCell' = true := by
    intro l
    induction l with
    | nil => intro us _ _ u hu; cases us <;> simp [txcells] at hu
    | cons t l ih =>
      intro us hl hj u hu
      match us, hl, hj with
      | v :: us, hl, hj =>
        simp only [txcells, List.mem_cons] at hu
        rcases hu with rfl | rfl | rfl | rfl | rfl | hu
        · rfl
        · rfl
        · rfl
        · rfl
        · exact hj 0 (by simp)
        · exact ih us (by simpa using hl) (fun j h => hj (j + 1) (by simpa using h)) u hu
  have hl := h.len
  have hsr := SR.of_own h.own (one ts vs h.len (fun j hj => by
    obtain ⟨ao, cap, e⟩ := (h.rd j (by omega) hj).1.1.val
    rw [e]; rfl)) (cap_of h.own)
  obtain ⟨h1, _, _, ao, cap, rfl, _, hc⟩ := hsr
  refine ⟨h1, ao, cap, rfl, fun h0 => ?_⟩
  obtain ⟨b, off, rfl, hb, hcell⟩ := hc h0
  refine ⟨b, off, rfl, hb, fun k hk => ?_⟩
  obtain ⟨g0, g1, g2, g3, g4⟩ := txcells_get ts vs k hk (by omega)
  have hby := (h.rd k hk (by omega)).1
  obtain ⟨a, c, e⟩ := hby.1.val
  rw [e] at hby g4
  exact ⟨a, c, hcell _ _ g0, hcell _ _ g1, hcell _ _ g2, hcell _ _ g3, hcell _ _ g4, hby⟩
set_option maxHeartbeats 2000000 in
theorem tcopy_any (tv : Value) (ts : List Tr) (w : World) (h : Txs w tv ts) (hbd : ts.length * 56 ≤ 140737488355328) :
    Calls Tryd.prog 26 #[tv] w fun e w' => ∃ v' vs, e = .returned v' ∧ TcInv w.heap.size 88 w' v' ts vs ∧ Below w.heap.size w w' := by
  obtain ⟨i0, hi, hz0, hz1, hz2⟩ := info_parts Tryd.info_u8
  obtain ⟨i5, hi5, hy0, hy1, hy2⟩ := info_parts Tryd.info_tx
  obtain ⟨hm, ao, cap, rfl, hcell⟩ := h
  obtain ⟨n, hn⟩ : ∃ n, ts.length = n := ⟨_, rfl⟩
  unfold maxLen at hm
  rw [hn] at hm hbd ⊢
  have HN := Lib.hid hn
  have HC := Lib.hid hcell
  have hown0 := World.ownsRow_made (base := w.heap.size) (e := 88) (size := 5) w #[] 0 (Nat.le_refl _) (by unfold maxLen; omega) rfl
  have hb0 : Below w.heap.size w (w.alloc (.cells #[] 88)) := (Below.refl _ _).alloc (Nat.le_refl _) _
  clear hn hcell
  go_enter Tryd.func26, Tryd.ntmps26
  go_wp2_with fail
  go_loopw [3, 4, 5] (fun out i _ wr => ∃ (k : Nat) (vs : List Value), k ≤ n ∧ i = .int .i64 k ∧ Hid (TcInv w.heap.size 88 wr out (ts.take k) vs) ∧ Below w.heap.size w wr) (fun _ i _ _ => n - (intOf i).toNat)
  case atStart => exact ⟨0, [], by omega, rfl, ⟨rfl, hown0, by simp, fun j h => absurd h (by simp)⟩, hb0⟩
  case round =>
    obtain ⟨k, vs, hk, rfl, hinv, hB⟩ := hrel
    by_cases hlt : k < n
    · have hkl : k < ts.length := by rw [HN.out]; exact hlt
      obtain ⟨b, off, rfl, hb, hx⟩ := HC.out (by omega)
      obtain ⟨ta, tc, d0, d1, d2, d3, d4, hby⟩ := (hx k hkl).below hB
      have tse := List.take_succ_eq_append_getElem hkl
      obtain ⟨⟨I, F, C, S, bs⟩, he⟩ : ∃ t, ts[k] = t := ⟨_, rfl⟩
      rw [he] at d0 d1 d2 d3 d4 hby tse
      simp only at d0 d1 d2 d3 d4 hby
      obtain ⟨L, hL⟩ : ∃ L, bs.length = L := ⟨_, rfl⟩
      rw [hL] at d4 hby
      have hbr : b < wr.heap.size := Nat.lt_of_lt_of_le hb hB.size
      have hi0 : (0 : Int) ≤ (k : Int) := by omega
      have hi1 : (k : Int) < (n : Int) := by omega
      have TSE := Lib.hid tse
      have HBY := Lib.hid hby
      have HL := Lib.hid hL
      have hLr : L ≤ reachBytes := by rw [← hL]; exact hby.2.1
      unfold reachBytes at hLr
      clear hx he tse hby hL
      have hBx : Below wr.heap.size wr (wr.alloc (.cells #[.int .i64 I, .int .i64 F, .int .i64 C, .int .i64 S, .slice ta L tc] 88)) := (Below.refl _ _).alloc (Nat.le_refl _) _
      have hBy := hBx.alloc hBx.size (.cells #[] 5)
      have hblk := (Below.heap_alloc (wr.alloc (.cells #[.int .i64 I, .int .i64 F, .int .i64 C, .int .i64 S, .slice ta L tc] 88)) (.cells #[] 5) wr.heap.size (by simp)).trans (heap_alloc_new wr (.cells #[.int .i64 I, .int .i64 F, .int .i64 C, .int .i64 S, .slice ta L tc] 88))
      have hsy := HBY.out.1.below hBy
      have HSY := Lib.hid hsy
      clear hsy
      go_wp2_with (at_builtin; refine wpList_append_empty rfl _ _ 25 rfl 5 i0 _ 1 1 Tryd.underlying25 hi hz0 hz1 hz2 rfl (by decide) _ (by rfl) _ _ (bcells bs) (by rfl) HSY.out (by rw [HL.out]; omega) ?_)
      intro v3 w3 hr3 hB3 ho3 hn3
      have hB3' := hBy.trans (hB3.mono (by omega))
      have hblk3 := (hB3.block wr.heap.size (by omega)).trans hblk
      have hs3 : wr.heap.size + 2 ≤ w3.heap.size := by have := hB3.size; simpa using this
      obtain ⟨a3, c3, rfl⟩ := hr3.val
      have ho3' : Own (wr.heap.size + 1) (.slice a3 bs.length c3) := fun q hq => by rcases ho3 with h | h <;> (rw [h] at hq; simp at hq; omega)
      have f0 : w3.cell? ⟨wr.heap.size, 0, none⟩ = some (.int .i64 I) := cell_of_row _ _ 0 _ _ _ hblk3
      have f1 : w3.cell? ⟨wr.heap.size, 1, none⟩ = some (.int .i64 F) := cell_of_row _ _ 1 _ _ _ hblk3
      have f2 : w3.cell? ⟨wr.heap.size, 2, none⟩ = some (.int .i64 C) := cell_of_row _ _ 2 _ _ _ hblk3
      have f3 : w3.cell? ⟨wr.heap.size, 3, none⟩ = some (.int .i64 S) := cell_of_row _ _ 3 _ _ _ hblk3
      have f4 : w3.cell? ⟨wr.heap.size, 4, none⟩ = some (.slice ta L tc) := cell_of_row _ _ 4 _ _ _ hblk3
      have z4 := frozen_of_row _ _ 4 _ _ hblk3
      have hv4 := SRO.set ⟨hr3, ho3'⟩ (p := ⟨wr.heap.size, 4, none⟩) (by simp) (.slice a3 bs.length c3)
      have hB4 := hB3'.setCell (p := ⟨wr.heap.size, 4, none⟩) (by simp) (.slice a3 bs.length c3)
      have hv5 := hv4.alloc (.cells #[.int .i64 I, .int .i64 F, .int .i64 C, .int .i64 S, .slice a3 bs.length c3] 88)
      have hB5 := hB4.alloc hB4.size (.cells #[.int .i64 I, .int .i64 F, .int .i64 C, .int .i64 S, .slice a3 bs.length c3] 88)
      have hinv5 := hinv.out.below hB5
      have hnew : ∀ j u, [Value.int .i64 I, .int .i64 F, .int .i64 C, .int .i64 S, .slice a3 bs.length c3][j]? = some u → ((w3.setCell ⟨wr.heap.size, 4, none⟩ (.slice a3 bs.length c3)).alloc (.cells #[.int .i64 I, .int .i64 F, .int .i64 C, .int .i64 S, .slice a3 bs.length c3] 88)).cell? ((⟨w3.heap.size, 0, none⟩ : Addr).add j) = some u := fun j u hj => by
        have := cellNew (w3.setCell ⟨wr.heap.size, 4, none⟩ (.slice a3 bs.length c3)) #[.int .i64 I, .int .i64 F, .int .i64 C, .int .i64 S, .slice a3 bs.length c3] 88 j u (by simpa using hj)
        rw [addr_add, Nat.zero_add]
        rw [show (w3.setCell ⟨wr.heap.size, 4, none⟩ (.slice a3 bs.length c3)).heap.size = w3.heap.size by simp [World.setCell]] at this
        exact this
      have htk : (ts.take k).length = k := by rw [List.length_take]; omega
      have hfin := hB.trans (hB5.mono hB.size)
      have hov : bs = [] ∨ ∃ b, (Value.slice a3 bs.length c3).ownBlock = some b ∧ b < ((w3.setCell ⟨wr.heap.size, 4, none⟩ (.slice a3 bs.length c3)).alloc (.cells #[.int .i64 I, .int .i64 F, .int .i64 C, .int .i64 S, .slice a3 bs.length c3] 88)).heap.size ∧ u3.ownBlock ≠ some b := by
        have hv5' : BytesAt _ _ bs := ⟨hv5.1, HBY.out.2⟩
        rcases hv5'.nil_or with h | ⟨b', e1, e2⟩
        · exact .inl h
        · refine .inr ⟨b', e1, e2, fun e => ?_⟩
          have q1 := ho3' b' e1
          have q2 := (hinv.out.own.lt b' e).2
          omega
      have hin := hinv5.own
      have hbase : w.heap.size ≤ ((w3.setCell ⟨wr.heap.size, 4, none⟩ (.slice a3 bs.length c3)).alloc (.cells #[.int .i64 I, .int .i64 F, .int .i64 C, .int .i64 S, .slice a3 bs.length c3] 88)).heap.size := Nat.le_trans hB.size hB5.size
      have HIN := Lib.hid hin
      have HI5 := Lib.hid hinv5
      have HOV := Lib.hid hov
      have HV5 := Lib.hid hv5
      have HFI := Lib.hid hfin
      have hsz5 : ((w3.setCell ⟨wr.heap.size, 4, none⟩ (.slice a3 bs.length c3)).alloc (.cells #[.int .i64 I, .int .i64 F, .int .i64 C, .int .i64 S, .slice a3 bs.length c3] 88)).heap.size = w3.heap.size + 1 := by simp [World.setCell]
      clear hin hinv5 hov hv5 hfin hB3 ho3 hn3 hB4 hB5 hv4 hB3' hblk hblk3 hBx hBy HSY
      go_wp2_with (at_builtin; refine wpList_append_own_at _ rfl _ _ 49 rfl w.heap.size 88 i5 _ 5 56 Tryd.underlying49 hi5 hy0 hy1 hy2 rfl (by decide) _ _ _ rfl HIN.out ⟨w3.heap.size, 0, none⟩ 1 1 [Value.int .i64 I, .int .i64 F, .int .i64 C, .int .i64 S, .slice a3 bs.length c3] rfl rfl hnew ?c2 (by rw [htk]; unfold maxLen; omega) (by rw [htk]; omega) hbase ?_)
      case c2 => intro u hu; simp at hu; rcases hu with rfl | rfl | rfl | rfl | rfl <;> rfl
      intro v6 w6 hown6 hg6 hnn6 hob6
      have hpush := HI5.out.push (t := ⟨I, F, C, S, bs⟩) ⟨HV5.out.1, HBY.out.2⟩ (HV5.out.2.mono (by have := hB.size; omega)) HOV.out (by rw [htk]; exact hown6) hg6 (by rw [hsz5]; exact hob6) hnn6
      rw [← TSE.out] at hpush
      have hB6 := HFI.out.grown hg6 hbase (fun q hq => (HIN.out.lt q hq).1)
      have HP := Lib.hid hpush
      clear hpush hown6 hg6 hnn6 hob6
      go_wp2
      go_roundw
      case rel => exact ⟨k + 1, _, by omega, by go_num, HP.out, hB6⟩
      case measure => simp [intOf]; omega
    · have e : ts.take k = ts := List.take_of_length_le (by rw [HN.out]; omega)
      have ha := hinv.out
      rw [e] at ha
      have HA := Lib.hid ha
      clear ha e
      go_wp2
      go_ret
      exact ⟨_, vs, rfl, HA.out, hB⟩
end Go.Proofs.YtccknpdnapoboaaDoor
namespace Go.Proofs.YtccknpdnapoboaaDoor
open Go.RowKit

theorem isnan_any (x : Int) (w : World) : Calls Tryd.prog 65 #[.int .i64 x] w fun e w' => e = .returned (.bool false) ∧ w = w' := by
  go_enter Tryd.func65, Tryd.ntmps65
  go_wp2
  go_ret
  exact ⟨ret_bool (by simp), rfl⟩
theorem cmp_any (a b : Int) (w : World) : Calls Tryd.prog 50 #[.int .i64 a, .int .i64 b] w fun e w' => e = .returned (.int .i64 (cmpI a b)) ∧ w = w' := by
  rcases cmp_cases a b with ⟨h, e⟩ | ⟨h, e⟩ | ⟨rfl, e⟩
  all_goals
    rw [e]
    clear e
    go_enter Tryd.func50, Tryd.ntmps50
    go_wp2_with (go_at_call 65; refine (isnan_any _ _).mono ?_; rintro e w' ⟨rfl, rfl⟩)
    go_ret
    exact ⟨rfl, rfl⟩
theorem or_any (b c : Nat) (xs : List Int) (n : Nat) (hn : xs.length = n) (hm : n ≤ 1000) (w : World) (hc : ∀ j (h : j < xs.length), w.cell? ⟨b, j, none⟩ = some (.int .i64 xs[j])) :
    Calls Tryd.prog 49 #[.slice (some ⟨b, 0, none⟩) n c] w fun e w' => e = .returned (.int .i64 (orL xs)) ∧ w = w' := by
  have HN := Lib.hid hn
  have HC := Lib.hid hc
  clear hn hc
  go_enter Tryd.func49, Tryd.ntmps49
  go_wp2
  go_loop [8, 5] (fun i _ => ∃ k : Nat, k ≤ n ∧ i = .int .i64 k ∧ Hid (∀ x ∈ xs.take k, x = 0)) (fun i _ => n - (intOf i).toNat)
  case atStart => exact ⟨0, by omega, rfl, by intro x hx; simp at hx⟩
  case round =>
    obtain ⟨k, hk, rfl, hall⟩ := hrel
    by_cases hlt : k < n
    · have hkl : k < xs.length := by rw [HN.out]; exact hlt
      have d := HC.out k hkl
      have ts := List.take_succ_eq_append_getElem hkl
      have ho := orL_take xs k hkl hall.out
      obtain ⟨x, he⟩ : ∃ t, xs[k] = t := ⟨_, rfl⟩
      rw [he] at d ts ho
      have TS := Lib.hid ts
      have HO := Lib.hid ho
      clear ts he ho
      by_cases hz : x = 0
      · subst hz
        go_wp2
        go_round
        case rel =>
          refine ⟨k + 1, by omega, by go_num, ?_⟩
          intro t ht
          rw [TS.out] at ht
          rcases List.mem_append.1 ht with h1 | h1
          · exact hall.out t h1
          · exact List.mem_singleton.1 h1
        case measure => simp [intOf]; omega
      · have hf : (x == 0) = false := by simpa using hz
        have HO2 := Lib.hid (HO.out hz)
        clear hz
        go_wp2
        go_ret
        exact ⟨ret_eq HO2.out.symm, rfl⟩
    · have e : xs.take k = xs := List.take_of_length_le (by rw [HN.out]; omega)
      have ha := hall.out
      rw [e] at ha
      have HA := Lib.hid (orL_zero xs ha)
      clear ha e
      go_wp2
      go_ret
      exact ⟨ret_eq HA.out.symm, rfl⟩

def elT (t : Tr) (v : Value) : El := ⟨.int .i64 t.id, .int .i64 t.fr, .int .i64 t.ch, .int .i64 t.st, v⟩
def esT (ts : List Tr) (vs : List Value) (k : Nat) : El := elT (ts.getD k default) (vs.getD k (.slice none 0 0))
theorem txcells_at (ts : List Tr) (vs : List Value) (hl : ts.length = vs.length) (k : Nat) (h : k < ts.length) {j : Nat} (hj : j < 5) : (txcells ts vs)[k * 5 + j]? = (esT ts vs k).cells[j]? := by
  obtain ⟨g0, g1, g2, g3, g4⟩ := txcells_get ts vs k h (by omega)
  have e1 : ts.getD k default = ts[k] := by rw [List.getD_eq_getElem?_getD, List.getElem?_eq_getElem h]; rfl
  have e2 : vs.getD k (.slice none 0 0) = vs[k] := by rw [List.getD_eq_getElem?_getD, List.getElem?_eq_getElem (show k < vs.length by omega)]; rfl
  unfold esT elT El.cells
  rw [e1, e2]
  match j, hj with
  | 0, _ => simpa using g0
  | 1, _ => simpa using g1
  | 2, _ => simpa using g2
  | 3, _ => simpa using g3
  | 4, _ => simpa using g4
theorem txcells_one : ∀ (l : List Tr) (us : List Value), l.length = us.length → (∀ j (h : j < us.length), us[j].oneCell' = true) → ∀ u ∈ txcells l us, u.oneCell' = true := by
  intro l
  induction l with
  | nil => intro us _ _ u hu; cases us <;> simp [txcells] at hu
  | cons t l ih =>
    intro us hl hj u hu
    match us, hl, hj with
    | v :: us, hl, hj =>
      simp only [txcells, List.mem_cons] at hu
      rcases hu with rfl | rfl | rfl | rfl | rfl | hu
      · rfl
      · rfl
      · rfl
      · rfl
      · exact hj 0 (by simp)
      · exact ih us (by simpa using hl) (fun j h => hj (j + 1) (by simpa using h)) u hu
theorem TcInv.one {base e : Nat} {w : World} {out : Value} {ts : List Tr} {vs : List Value} (h : TcInv base e w out ts vs) : ∀ j (hj : j < vs.length), vs[j].oneCell' = true := fun j hj => by
  obtain ⟨ao, cap, e⟩ := (h.rd j (by have := h.len; omega) hj).1.1.val
  rw [e]; rfl
theorem TcInv.sr {base e : Nat} {w : World} {out : Value} {ts : List Tr} {vs : List Value} (h : TcInv base e w out ts vs) : SR w out ts.length 5 (txcells ts vs) :=
  SR.of_own h.own (txcells_one ts vs h.len h.one) (cap_of h.own)
theorem esT_one (ts : List Tr) (vs : List Value) (h : ∀ j (hj : j < vs.length), vs[j].oneCell' = true) (k : Nat) : (esT ts vs k).one := by
  refine ⟨rfl, rfl, rfl, rfl, ?_⟩
  show (vs.getD k (.slice none 0 0)).oneCell' = true
  by_cases hk : k < vs.length
  · rw [List.getD_eq_getElem?_getD, List.getElem?_eq_getElem hk]
    exact h k hk
  · rw [List.getD_eq_getElem?_getD, List.getElem?_eq_none (by omega)]
    rfl
/-- a row of transmissions in a block of the call's own -/
def RowT (base : Nat) (w : World) (v : Value) (ts : List Tr) (vs : List Value) : Prop := ∃ g cap, v = .slice (some ⟨g, 0, none⟩) ts.length cap ∧ base ≤ g ∧ ts.length ≤ cap ∧ cap ≤ maxLen ∧ Row5 88 w g 0 (esT ts vs) (fun k => k) ts.length
theorem rowT_of_own {base : Nat} {w : World} {v : Value} {ts : List Tr} {vs : List Value} (hl : ts.length = vs.length) (h : w.ownsRow base 88 5 v ts.length (txcells ts vs)) (hne : v ≠ .slice none 0 0) : RowT base w v ts vs := by
  rcases h.2 with ⟨e, _⟩ | ⟨g, cap, cur, rfl, hb, hg, h1, h2, h3, h4⟩
  · exact absurd e hne
  refine ⟨g, cap, rfl, hb, h1, h2, cur, hg, by omega, fun k hk j hj => ?_⟩
  have e : cur[0 + k * 5 + j]? = (txcells ts vs)[k * 5 + j]? := by
    rw [← h4, List.getElem?_take, if_pos (by omega), Array.getElem?_toList, Nat.zero_add]
  rw [e, txcells_at ts vs hl k hk hj]
theorem run_eql_tx {P : Program} (w : World) (t e : TypeId) (a : Option Addr) (n c : Nat) (ht : P.underlying t = some (.slice e)) : (binOp .eql t (.slice a n c) (.slice none 0 0)).run P w = .ok (.bool a.isNone) w := by
  have h : ∀ d : Nat, (Op.equalIn (d + 1) t (.slice a n c) (.slice none 0 0)).run P w = .ok a.isNone w := fun d => by
    cases a <;> simp [Op.equalIn, run_underlying ht]
  simp only [binOp]
  simp [Op.equal, Op.maxDepth, h 9999]

set_option linter.unusedSimpArgs false in
set_option linter.unusedVariables false in
set_option maxRecDepth 100000 in
set_option maxHeartbeats 2000000 in
theorem clone_tx (v : Value) (ts : List Tr) (vs : List Value) (w : World) (hlv : ts.length = vs.length) (h : SR w v ts.length 5 (txcells ts vs)) (hne0 : v ≠ .slice none 0 0) (hb : ts.length ≤ 1000000) :
    Calls Tryd.prog 46 #[v] w fun e w' => ∃ v', e = .returned v' ∧ RowT w.heap.size w' v' ts vs ∧ Below w.heap.size w w' := by
  obtain ⟨i6, hi, hz0, hz1, hz2⟩ := info_parts Tryd.info_tx
  have hsr := Lib.hid h
  have HNE := Lib.hid hne0
  have HLV := Lib.hid hlv
  obtain ⟨hm, hl, h1, ao, cap, rfl, hnil, hcell⟩ := h
  cases ao with
  | none =>
    have h0 := hnil rfl
    obtain rfl := h0.2
    exact absurd (by rw [h0.1]) hne0
  | some ad =>
    obtain ⟨n, hn⟩ : ∃ n, ts.length = n := ⟨_, rfl⟩
    have hb0 : Below w.heap.size w (w.alloc (.cells #[] 88)) := (Below.refl _ _).alloc (Nat.le_refl _) _
    have hq : ∀ w : World, (binOp .eql 49 (.slice (some ad) n cap) (.slice none 0 0)).run Tryd.prog w = .ok (.bool false) w := fun w => run_eql_tx w _ _ (some ad) _ _ Tryd.underlying49
    have own0 := World.ownsRow_made (base := w.heap.size) (e := 88) (size := 5) w #[] 0 (Nat.le_refl _) (by unfold maxLen; omega) rfl
    have hnew : ∀ j u, (txcells ts vs)[j]? = some u → (w.alloc (.cells #[] 88)).cell? (ad.add j) = some u := fun j u hj => by
      have hlt := (List.getElem?_eq_some_iff.1 hj).1
      rw [hl] at hlt
      obtain ⟨b, off, e, hb1, hc⟩ := hcell (by omega)
      simp only [Option.some.injEq] at e
      subst e
      rw [addr_add]
      exact kc (hc j u hj) hb0
    have HNEW := Lib.hid hnew
    have HL : Hid ((txcells ts vs).length = n * 5) := by rw [← hn]; exact hl
    rw [hn] at hb
    have HN := Lib.hid hn
    clear hnil hcell hnew hne0 hsr hlv hl
    rw [hn]
    clear hn
    go_enter Tryd.func46, Tryd.ntmps46
    go_wp2_with (at_builtin; refine wpList_append_own_at _ rfl _ _ 49 rfl w.heap.size 88 i6 _ 5 56 Tryd.underlying49 hi hz0 hz1 hz2 rfl (by decide) _ _ _ rfl own0 ad n cap (txcells ts vs) rfl HL.out HNEW.out h1 (by unfold maxLen; omega) (by omega) (by simp) ?_)
    intro v' w' hown hg hnn hob
    have hne : v' ≠ .slice none 0 0 := hnn
    have hfin := hb0.grown hg (by simp) (fun q hq => (own0.lt q hq).1)
    have hfo := rowT_of_own (ts := ts) (vs := vs) HLV.out (by rw [HN.out]; simpa using hown) hne
    have FO' := Lib.hid hfo
    clear hown hg hnn hob hfo own0
    go_wp2
    go_ret
    exact ⟨_, rfl, FO'.out, hfin⟩
end Go.Proofs.YtccknpdnapoboaaDoor
namespace Go.Proofs.YtccknpdnapoboaaDoor
open Go.RowKit

set_option linter.unusedSimpArgs false in
set_option linter.unusedVariables false in
set_option maxRecDepth 100000 in
set_option maxHeartbeats 2000000 in
theorem make1_any (a0 a1 a2 a3 b0 b1 b2 b3 : Int) (va vb : Value) (w : World) :
    Calls Tryd.prog 48 #[.agg #[.int .i64 a0, .int .i64 a1, .int .i64 a2, .int .i64 a3, va], .agg #[.int .i64 b0, .int .i64 b1, .int .i64 b2, .int .i64 b3, vb]] w
      fun e w' => e = .returned (.int .i64 (orL [cmpI a3 b3, cmpI a0 b0])) ∧ Below w.heap.size w w' := by
  have T0 := cells_new w [.int .i64 a0, .int .i64 a1, .int .i64 a2, .int .i64 a3, va] 88
  have hB0 : Below w.heap.size w (w.alloc (.cells #[.int .i64 a0, .int .i64 a1, .int .i64 a2, .int .i64 a3, va] 88)) := (Below.refl _ _).alloc (Nat.le_refl _) _
  have e : (w.alloc (.cells #[.int .i64 a0, .int .i64 a1, .int .i64 a2, .int .i64 a3, va] 88)).heap.size = w.heap.size + 1 := by simp
  have T1 := cells_new (w.alloc (.cells #[.int .i64 a0, .int .i64 a1, .int .i64 a2, .int .i64 a3, va] 88)) [.int .i64 b0, .int .i64 b1, .int .i64 b2, .int .i64 b3, vb] 88
  rw [e] at T1
  have T := (T0.keep ((Below.refl _ _).alloc (Nat.le_refl _) (.cells #[.int .i64 b0, .int .i64 b1, .int .i64 b2, .int .i64 b3, vb] 88))).app T1
  have hBW := hB0.alloc hB0.size (.cells #[.int .i64 b0, .int .i64 b1, .int .i64 b2, .int .i64 b3, vb] 88)
  clear T0 T1 hB0 e
  go_enter Tryd.func48, Tryd.ntmps48
  go_wp2_with fail
  generalize hW : (w.alloc (.cells _ 88)).alloc (.cells _ 88) = W at T hBW ⊢
  clear hW
  refine wp_region_held_drew (S := (fun W' : World => Cells W' (blk w.heap.size 0 0 [.int .i64 a0, .int .i64 a1, .int .i64 a2, .int .i64 a3, va] ++ blk (w.heap.size + 1) 0 0 [.int .i64 b0, .int .i64 b1, .int .i64 b2, .int .i64 b3, vb]))) (by kernel_rfl) (T) (fun hHeld => ?_)
  refine wpAnyH_take (i := 0) (oi := _) (v := ?_) (by rw [List.getElem?_toArray]; rfl) (by kernel_rfl) (by kernel_rfl) (by kernel_rfl) (by exact fun _ _ _ h => h) (Or.inl ⟨by rfl, ?_⟩) (by assumption) ?_
  rotate_left
  · intro w hSw
    try simp only [Cells, blk, List.cons_append, List.nil_append, and_true, Nat.reduceAdd, Nat.add_zero, Nat.zero_add] at hSw
    go_simp
    try with_reducible rfl
  simp only [Act.put, List.setIfInBounds_toArray, List.set_cons_zero, List.set_cons_succ]
  refine wpAnyH_take (i := 1) (oi := _) (v := ?_) (by rw [List.getElem?_toArray]; rfl) (by kernel_rfl) (by kernel_rfl) (by kernel_rfl) (by exact fun _ _ _ h => h) (Or.inl ⟨by rfl, ?_⟩) (by assumption) ?_
  rotate_left
  · intro w hSw
    try simp only [Cells, blk, List.cons_append, List.nil_append, and_true, Nat.reduceAdd, Nat.add_zero, Nat.zero_add] at hSw
    go_simp
    try with_reducible rfl
  simp only [Act.put, List.setIfInBounds_toArray, List.set_cons_zero, List.set_cons_succ]
  refine wpAnyH_take (i := 2) (oi := _) (v := ?_) (by rw [List.getElem?_toArray]; rfl) (by kernel_rfl) (by kernel_rfl) (by kernel_rfl) (by exact fun _ _ _ h => h) (Or.inl ⟨by rfl, ?_⟩) (by assumption) ?_
  rotate_left
  · intro w hSw
    try simp only [Cells, blk, List.cons_append, List.nil_append, and_true, Nat.reduceAdd, Nat.add_zero, Nat.zero_add] at hSw
    go_simp
    try with_reducible rfl
  simp only [Act.put, List.setIfInBounds_toArray, List.set_cons_zero, List.set_cons_succ]
  refine wpAnyH_take (i := 3) (oi := _) (v := ?_) (by rw [List.getElem?_toArray]; rfl) (by kernel_rfl) (by kernel_rfl) (by kernel_rfl) (by exact fun _ _ _ h => h) (Or.inl ⟨by rfl, ?_⟩) (by assumption) ?_
  rotate_left
  · intro w hSw
    try simp only [Cells, blk, List.cons_append, List.nil_append, and_true, Nat.reduceAdd, Nat.add_zero, Nat.zero_add] at hSw
    go_simp
    try with_reducible rfl
  simp only [Act.put, List.setIfInBounds_toArray, List.set_cons_zero, List.set_cons_succ]
  refine wpAnyH_take (i := 5) (oi := _) (v := ?_) (by rw [List.getElem?_toArray]; rfl) (by kernel_rfl) (by kernel_rfl) (by kernel_rfl) (by exact fun _ _ _ h => h) (Or.inl ⟨by rfl, ?_⟩) (by assumption) ?_
  rotate_left
  · intro w hSw
    try simp only [Cells, blk, List.cons_append, List.nil_append, and_true, Nat.reduceAdd, Nat.add_zero, Nat.zero_add] at hSw
    go_simp
    try with_reducible rfl
  simp only [Act.put, List.setIfInBounds_toArray, List.set_cons_zero, List.set_cons_succ]
  refine wpAnyH_take (i := 6) (oi := _) (v := ?_) (by rw [List.getElem?_toArray]; rfl) (by kernel_rfl) (by kernel_rfl) (by kernel_rfl) (by exact fun _ _ _ h => h) (Or.inl ⟨by rfl, ?_⟩) (by assumption) ?_
  rotate_left
  · intro w hSw
    try simp only [Cells, blk, List.cons_append, List.nil_append, and_true, Nat.reduceAdd, Nat.add_zero, Nat.zero_add] at hSw
    go_simp
    try with_reducible rfl
  simp only [Act.put, List.setIfInBounds_toArray, List.set_cons_zero, List.set_cons_succ]
  refine wpAnyH_take (i := 7) (oi := _) (v := ?_) (by rw [List.getElem?_toArray]; rfl) (by kernel_rfl) (by kernel_rfl) (by kernel_rfl) (by exact fun _ _ _ h => h) (Or.inl ⟨by rfl, ?_⟩) (by assumption) ?_
  rotate_left
  · intro w hSw
    try simp only [Cells, blk, List.cons_append, List.nil_append, and_true, Nat.reduceAdd, Nat.add_zero, Nat.zero_add] at hSw
    go_simp
    try with_reducible rfl
  simp only [Act.put, List.setIfInBounds_toArray, List.set_cons_zero, List.set_cons_succ]
  refine wpAnyH_take (i := 8) (oi := _) (v := ?_) (by rw [List.getElem?_toArray]; rfl) (by kernel_rfl) (by kernel_rfl) (by kernel_rfl) (by exact fun _ _ _ h => h) (Or.inl ⟨by rfl, ?_⟩) (by assumption) ?_
  rotate_left
  · intro w hSw
    try simp only [Cells, blk, List.cons_append, List.nil_append, and_true, Nat.reduceAdd, Nat.add_zero, Nat.zero_add] at hSw
    go_simp
    try with_reducible rfl
  simp only [Act.put, List.setIfInBounds_toArray, List.set_cons_zero, List.set_cons_succ]
  refine wpAnyH_ready (rs := [4]) (by kernel_rfl) (by simp) (AllReadyH.cons (o := _) (by rw [List.getElem?_toArray]; rfl) (fun K hK => ?_) AllReadyH.nil)
  go_simp
  go_at_call 50
  refine (cmp_any _ _ _).mono ?_
  rintro e w' ⟨rfl, rfl⟩
  clear hHeld
  refine hK.out _ _ (T) (fun hHeld => ?_)
  clear hK K
  try simp only [Act.put, List.setIfInBounds_toArray, List.set_cons_zero, List.set_cons_succ]
  refine wpAnyH_ready (rs := [9]) (by kernel_rfl) (by simp) (AllReadyH.cons (o := _) (by rw [List.getElem?_toArray]; rfl) (fun K hK => ?_) AllReadyH.nil)
  go_simp
  go_at_call 50
  refine (cmp_any _ _ _).mono ?_
  rintro e w' ⟨rfl, rfl⟩
  clear hHeld
  refine hK.out _ _ (T) (fun hHeld => ?_)
  clear hK K
  try simp only [Act.put, List.setIfInBounds_toArray, List.set_cons_zero, List.set_cons_succ]
  refine wpAnyH_ready (rs := [10]) (by kernel_rfl) (by simp) (AllReadyH.cons (o := _) (by rw [List.getElem?_toArray]; rfl) (fun K hK => ?_) AllReadyH.nil)
  go_simp
  have T2 := Cells.keep (W := W.drew) T.drew ((Below.refl _ _).alloc (Nat.le_refl _) (.cells #[.int .i64 (cmpI a3 b3), .int .i64 (cmpI a0 b0)] 3))
  clear hHeld
  refine hK.out _ _ (T2) (fun hHeld => ?_)
  clear hK K
  try simp only [Act.put, List.setIfInBounds_toArray, List.set_cons_zero, List.set_cons_succ]
  refine wpAnyH_ready (rs := [11]) (by kernel_rfl) (by simp) (AllReadyH.cons (o := _) (by rw [List.getElem?_toArray]; rfl) (fun K hK => ?_) AllReadyH.nil)
  go_simp
  go_at_call 49
  refine (or_any _ _ [cmpI a3 b3, cmpI a0 b0] _ rfl (by simp) _ (fun j hj => ?_)).mono ?_
  · match j, hj with
    | 0, _ => exact cellNew W _ _ 0 _ rfl
    | 1, _ => exact cellNew W _ _ 1 _ rfl
  rintro e w' ⟨rfl, rfl⟩
  clear hHeld
  refine hK.out _ _ (T2) (fun hHeld => ?_)
  clear hK K
  try simp only [Act.put, List.setIfInBounds_toArray, List.set_cons_zero, List.set_cons_succ]
  refine wpAnyH_take (i := 12) (oi := _) (v := ?_) (by rw [List.getElem?_toArray]; rfl) (by kernel_rfl) (by kernel_rfl) (by kernel_rfl) (by exact fun _ _ _ h => h) (Or.inl ⟨by rfl, ?_⟩) (by assumption) ?_
  rotate_left
  · intro w hSw
    try simp only [Cells, blk, List.cons_append, List.nil_append, and_true, Nat.reduceAdd, Nat.add_zero, Nat.zero_add] at hSw
    go_simp
    try with_reducible rfl
  simp only [Act.put, List.setIfInBounds_toArray, List.set_cons_zero, List.set_cons_succ]
  refine wpAnyH_done (by kernel_rfl) ?_ _
  go_wp2
  go_ret
  exact ⟨rfl, (hBW.alloc hBW.size _).drew⟩

/-- the order of transmissions -/
def tlt (a b : Tr) : Prop := a.st < b.st ∨ (a.st = b.st ∧ a.id < b.id)
theorem tlt_swo (h : Nat → Tr) : Swo (fun x y => tlt (h x) (h y)) := by
  refine ⟨fun x => ?_, fun x y z => ?_, fun x y z => ?_⟩ <;> unfold tlt <;> omega
theorem tlt_or (a b : Tr) : orL [cmpI a.st b.st, cmpI a.id b.id] < 0 ↔ tlt a b := by
  unfold tlt
  rcases cmp_cases a.st b.st with ⟨h1, e1⟩ | ⟨h1, e1⟩ | ⟨h1, e1⟩ <;> rcases cmp_cases a.id b.id with ⟨h2, e2⟩ | ⟨h2, e2⟩ | ⟨h2, e2⟩ <;> simp [orL, e1, e2] <;> omega
/-- one order alone -/
theorem srt_unique {lt : Nat → Nat → Prop} (ho : Swo lt) {p q : Nat → Nat} {n : Nat} (hp : Srt lt p 0 n) (hq : Srt lt q 0 n) (mp : Mem (fun k => k) p 0 n) (mq : Mem (fun k => k) q 0 n) : ∀ k, k < n → p k = q k := by
  have irr : ∀ x, ¬ Lx lt x x := fun x h => by
    rcases h with h | ⟨_, h⟩
    · exact ho.ir x h
    · omega
  have key : ∀ k, (∀ j, j < k → j < n → p j = q j) → k < n → p k = q k := fun k ih hk => by
    have hpk : p k < n := by
      obtain ⟨j, _, h2, e⟩ := mp.from' k (Nat.zero_le _) hk
      rw [e]; exact h2
    have hqk : q k < n := by
      obtain ⟨j, _, h2, e⟩ := mq.from' k (Nat.zero_le _) hk
      rw [e]; exact h2
    obtain ⟨i, _, hi, ei⟩ := mq.into (p k) (Nat.zero_le _) hpk
    obtain ⟨i', _, hi', ei'⟩ := mp.into (q k) (Nat.zero_le _) hqk
    have h1 : k ≤ i := Nat.le_of_not_lt fun h => by
      have := ih i h hi
      rw [ei] at this
      have h2 := hp i k (Nat.zero_le _) h hk
      rw [this] at h2
      exact irr _ h2
    have h2 : k ≤ i' := Nat.le_of_not_lt fun h => by
      have := ih i' h hi'
      rw [ei'] at this
      have h2 := hq i' k (Nat.zero_le _) h hk
      rw [← this] at h2
      exact irr _ h2
    by_cases c1 : i = k
    · rw [c1] at ei; exact ei.symm
    · by_cases c2 : i' = k
      · rw [c2] at ei'; exact ei'
      · have l1 := hq k i (Nat.zero_le _) (by omega) hi
        have l2 := hp k i' (Nat.zero_le _) (by omega) hi'
        rw [ei] at l1
        rw [ei'] at l2
        exact absurd (l1.trans ho l2) (irr _)
  have all : ∀ m k, k < m → k < n → p k = q k := by
    intro m
    induction m with
    | zero => intro k h; omega
    | succ m ih =>
      intro k h hk
      by_cases c : k < m
      · exact ih k c hk
      · exact key k (fun j hj hjn => ih j (by omega) hjn) hk
  exact fun k hk => all n k hk hk
theorem make1_ok (ts : List Tr) (vs : List Value) (n : Nat) : CmpOk Tryd.prog 48 (fun x y => tlt (ts.getD x default) (ts.getD y default)) (esT ts vs) n :=
  fun _ _ _ _ => ⟨_, tlt_or _ _, fun w => make1_any _ _ _ _ _ _ _ _ _ _ w⟩
/-- transmissions after the sort: number p k at place k -/
def RowS (base : Nat) (w : World) (v : Value) (ts : List Tr) (vs : List Value) (p : Nat → Nat) : Prop := ∃ g cap, v = .slice (some ⟨g, 0, none⟩) ts.length cap ∧ base ≤ g ∧ Row5 88 w g 0 (esT ts vs) p ts.length
theorem RowS.below {base : Nat} {w w' : World} {v : Value} {ts : List Tr} {vs : List Value} {p : Nat → Nat} (h : RowS base w v ts vs p) (hB : Below w.heap.size w w') : RowS base w' v ts vs p := by
  obtain ⟨g, cap, e, h1, h2⟩ := h
  exact ⟨g, cap, e, h1, h2.below hB⟩
theorem sort_tx (base : Nat) (v : Value) (ts : List Tr) (vs : List Value) (w : World) (h : RowT base w v ts vs) (hone : ∀ j (hj : j < vs.length), vs[j].oneCell' = true) (hb : ts.length ≤ 1000000) :
    Calls Tryd.prog 47 #[v, .func (.func 48) #[] #[]] w fun e w' => e = .returned (.tuple #[]) ∧
      ∃ p, Mem (fun k => k) p 0 ts.length ∧ Srt (fun x y => tlt (ts.getD x default) (ts.getD y default)) p 0 ts.length ∧ RowS base w' v ts vs p ∧ Below base w w' := by
  obtain ⟨g, cap, rfl, hg, h1, h2, hr⟩ := h
  refine (Tx_sort (esT ts vs) g 0 ts.length cap w hr (by omega) (esT_one ts vs hone) _ (tlt_swo fun k => ts.getD k default) (make1_ok ts vs _)).mono ?_
  rintro e w' ⟨rfl, p, hr', hm, hs, hsw⟩
  exact ⟨rfl, p, hm, hs, ⟨g, cap, rfl, hg, hr'⟩, hsw.below.mono hg⟩
end Go.Proofs.YtccknpdnapoboaaDoor
namespace Go.Proofs.YtccknpdnapoboaaDoor
open Go.RowKit Go.Maps

/-- one reception into the kinds at a number -/
def kindStep (id : Int) (acc : Option Int) (g : Int × Int) : Option Int := if g.1 = id ∧ (acc = none ∨ g.2 = 1) then some g.2 else acc
def kindF (gs : List (Int × Int)) (id : Int) : Option Int := gs.foldl (kindStep id) none
/-- the reference's search, from the last to the first -/
def kindR : List (Int × Int) → Int → Int
  | [], _ => 0
  | g :: gs, id => if g.1 = id ∧ (kindR gs id ≠ 1 ∨ g.2 = 1) then g.2 else kindR gs id
theorem kindF_snoc (gs : List (Int × Int)) (g : Int × Int) (id : Int) : kindF (gs ++ [g]) id = kindStep id (kindF gs id) g := by simp [kindF]
theorem fold_some (id : Int) : ∀ (gs : List (Int × Int)) (a : Int), gs.foldl (kindStep id) (some a) = some (if kindR gs id = 1 then 1 else a)
  | [], a => by simp [kindR]
  | g :: gs, a => by
    rw [List.foldl_cons]
    by_cases h1 : g.1 = id
    · by_cases h2 : g.2 = 1
      · have e : kindStep id (some a) g = some 1 := by simp [kindStep, h1, h2]
        rw [e, fold_some id gs 1]
        simp [kindR, h1, h2]
      · have e : kindStep id (some a) g = some a := by simp [kindStep, h2]
        rw [e, fold_some id gs a]
        by_cases h3 : kindR gs id = 1
        · simp [kindR, h1, h2, h3]
        · simp [kindR, h1, h2, h3]
    · have e : kindStep id (some a) g = some a := by simp [kindStep, h1]
      rw [e, fold_some id gs a]
      simp [kindR, h1]
theorem kind_eq (id : Int) : ∀ gs : List (Int × Int), (kindF gs id).getD 0 = kindR gs id
  | [] => rfl
  | g :: gs => by
    unfold kindF
    rw [List.foldl_cons]
    by_cases h1 : g.1 = id
    · have e : kindStep id none g = some g.2 := by simp [kindStep, h1]
      rw [e, fold_some]
      by_cases h3 : kindR gs id = 1
      · by_cases h2 : g.2 = 1
        · simp [kindR, h1, h2, h3]
        · simp [kindR, h1, h2, h3]
      · simp [kindR, h1, h3]
    · have e : kindStep id none g = none := by simp [kindStep, h1]
      rw [e]
      have := kind_eq id gs
      unfold kindF at this
      rw [this]
      simp [kindR, h1]
/-- a map that reads as the kinds so far -/
def KD {H : Type} (D : DataW H) (gs : List (Int × Int)) : Prop := Maps.IsMap D ∧ ∀ id : Int, Maps.has D (.int .i64 id) = (kindF gs id).isSome ∧ D.atKey (.int .i64 id) (.lit (.int .i64 0)) = .lit (.int .i64 ((kindF gs id).getD 0))
theorem KD.made {H : Type} : KD (.map [] : DataW H) [] := ⟨isMap_empty, fun _ => ⟨rfl, rfl⟩⟩
theorem KD.skip {H : Type} {D : DataW H} {gs : List (Int × Int)} (h : KD D gs) {g : Int × Int} (hc : ¬ (kindF gs g.1 = none ∨ g.2 = 1)) : KD D (gs ++ [g]) := by
  refine ⟨h.1, fun id => ?_⟩
  have e : kindF (gs ++ [g]) id = kindF gs id := by
    rw [kindF_snoc]
    unfold kindStep
    by_cases h1 : g.1 = id
    · subst h1; rw [if_neg (fun h => hc h.2)]
    · rw [if_neg (fun h => h1 h.1)]
  rw [e]
  exact h.2 id
theorem KD.put {H : Type} {D : DataW H} {gs : List (Int × Int)} (h : KD D gs) {g : Int × Int} (hc : kindF gs g.1 = none ∨ g.2 = 1) : KD (D.put (.int .i64 g.1) (.lit (.int .i64 g.2))) (gs ++ [g]) := by
  refine ⟨h.1.put _ _, fun id => ?_⟩
  rw [kindF_snoc]
  unfold kindStep
  by_cases h1 : g.1 = id
  · subst h1
    rw [if_pos ⟨rfl, hc⟩]
    exact ⟨has_put_same h.1 (by trivial) _, atKey_put_same h.1 (by trivial) _ _⟩
  · rw [if_neg (fun h => h1 h.1)]
    have hne : Lit.int .i64 id ≠ .int .i64 g.1 := fun e => h1 (by injection e with _ e; exact e.symm)
    rw [has_put_other hne, atKey_put_other hne]
    exact h.2 id
end Go.Proofs.YtccknpdnapoboaaDoor
namespace Go.Proofs.YtccknpdnapoboaaDoor
open Go.RowKit

/-- a reception -/
structure Rc where
  id : Int
  dst : Int
  kd : Int
  st : Int
  en : Int
  bs : List Nat
instance : Inhabited Rc := ⟨⟨0, 0, 0, 0, 0, []⟩⟩
theorem Tryd.info_rc : (Tryd.prog.info? 53).map (fun i => (i.zero, i.size, i.bytes)) = some (some (.agg #[.int .i64 0, .int .i64 0, .int .i64 0, .int .i64 0, .int .i64 0, .slice none 0 0]), 6, 64) := by kernel_rfl
def rcells : List Rc → List Value → List Value
  | r :: l, v :: vs => .int .i64 r.id :: .int .i64 r.dst :: .int .i64 r.kd :: .int .i64 r.st :: .int .i64 r.en :: v :: rcells l vs
  | _, _ => []
theorem rcells_app : ∀ (l l' : List Rc) (vs vs' : List Value), l.length = vs.length → rcells (l ++ l') (vs ++ vs') = rcells l vs ++ rcells l' vs'
  | [], _, [], _, _ => rfl
  | x :: l, l', y :: vs, vs', h => by
    have := rcells_app l l' vs vs' (by simpa using h)
    simp [rcells, this]
theorem rcells_get : ∀ (l : List Rc) (vs : List Value) (k : Nat) (h : k < l.length) (h' : k < vs.length), (rcells l vs)[k * 6]? = some (.int .i64 l[k].id) ∧ (rcells l vs)[k * 6 + 1]? = some (.int .i64 l[k].dst) ∧ (rcells l vs)[k * 6 + 2]? = some (.int .i64 l[k].kd) ∧ (rcells l vs)[k * 6 + 3]? = some (.int .i64 l[k].st) ∧ (rcells l vs)[k * 6 + 4]? = some (.int .i64 l[k].en) ∧ (rcells l vs)[k * 6 + 5]? = some vs[k]
  | t :: l, v :: vs, 0, _, _ => by simp [rcells]
  | t :: l, v :: vs, k+1, h, h' => by
    have := rcells_get l vs k (by simpa using h) (by simpa using h')
    rw [show (k + 1) * 6 = k * 6 + 1 + 1 + 1 + 1 + 1 + 1 by omega]
    simpa [rcells, Nat.add_assoc] using this
theorem rcells_len : ∀ (l : List Rc) (vs : List Value), l.length = vs.length → (rcells l vs).length = l.length * 6
  | [], [], _ => rfl
  | x :: l, y :: vs, h => by
    have := rcells_len l vs (by simpa using h)
    simp [rcells, this]; omega
/-- what is known of each reception of a list: its bytes lie in a block of their own -/
def Rd1 (base : Nat) (w : World) (out : Value) (r : Rc) (v : Value) : Prop := BytesAt w v r.bs ∧ (r.bs = [] ∨ ∃ b, v.ownBlock = some b ∧ base ≤ b ∧ b < w.heap.size ∧ out.ownBlock ≠ some b)
structure RInv (base : Nat) (w : World) (out : Value) (rs : List Rc) (vs : List Value) : Prop where
  len : rs.length = vs.length
  own : w.ownsRow base 53 6 out rs.length (rcells rs vs)
  rd : ∀ j (h : j < rs.length) (h' : j < vs.length), Rd1 base w out rs[j] vs[j]
theorem Rd1.below {base : Nat} {w w' : World} {out : Value} {r : Rc} {v : Value} (h : Rd1 base w out r v) (hb : Below w.heap.size w w') : Rd1 base w' out r v :=
  ⟨h.1.below hb, h.2.imp id (fun ⟨b, e1, e2, e3, e4⟩ => ⟨b, e1, e2, Nat.lt_of_lt_of_le e3 hb.size, e4⟩)⟩
theorem RInv.below {base : Nat} {w w' : World} {out : Value} {rs : List Rc} {vs : List Value} (h : RInv base w out rs vs) (hb : Below w.heap.size w w') : RInv base w' out rs vs :=
  ⟨h.len, own_below h.own hb, fun j h1 h2 => (h.rd j h1 h2).below hb⟩
theorem Rd1.move {base : Nat} {W w' : World} {out out' : Value} {r : Rc} {v : Value} (h : Rd1 base W out r v) (hg : W.grownBy w' out.ownBlock) (ho : out'.ownBlock = out.ownBlock ∨ out'.ownBlock = some W.heap.size) : Rd1 base w' out' r v := by
  refine ⟨⟨h.1.1.grown hg ?_, h.1.2⟩, ?_⟩
  · rcases h.2 with h0 | ⟨b, e1, _, _, e4⟩
    · exact .inl (by rw [h0]; rfl)
    · exact .inr ⟨b, e1, e4⟩
  · rcases h.2 with h0 | ⟨b, e1, e2, e3, e4⟩
    · exact .inl h0
    · refine .inr ⟨b, e1, e2, Nat.lt_of_lt_of_le e3 hg.size, ?_⟩
      rcases ho with h | h
      · rw [h]; exact e4
      · rw [h]; intro e; cases e; omega
theorem RInv.push {base : Nat} {W w' : World} {out out' : Value} {rs : List Rc} {vs : List Value} (h : RInv base W out rs vs) {r : Rc} {v : Value} (hv : Rd1 base W out r v)
    (hown : w'.ownsRow base 53 6 out' (rs.length + 1) (rcells rs vs ++ [.int .i64 r.id, .int .i64 r.dst, .int .i64 r.kd, .int .i64 r.st, .int .i64 r.en, v])) (hg : W.grownBy w' out.ownBlock)
    (ho' : out'.ownBlock = out.ownBlock ∨ out'.ownBlock = some W.heap.size) : RInv base w' out' (rs ++ [r]) (vs ++ [v]) := by
  have hl := h.len
  refine ⟨by simp [h.len], by rw [rcells_app _ _ _ _ h.len]; simpa [rcells] using hown, fun j h1 h2 => ?_⟩
  by_cases hj : j < rs.length
  · simp only [List.getElem_append_left hj, List.getElem_append_left (show j < vs.length by omega)]
    exact (h.rd j hj (by omega)).move hg ho'
  · simp at h1
    have e1 : j = rs.length := by omega
    subst e1
    have e2 : (vs ++ [v])[rs.length] = v := by simp [hl]
    have e3 : (rs ++ [r])[rs.length] = r := by simp
    rw [e2, e3]
    exact hv.move hg ho'
theorem rcells_one (l : List Rc) (vs : List Value) (h : l.length = vs.length) (hv : ∀ j (h : j < vs.length), vs[j].oneCell' = true) : ∀ u ∈ rcells l vs, u.oneCell' = true := by
  induction l generalizing vs with
  | nil => intro u hu; cases vs <;> simp [rcells] at hu
  | cons t l ih =>
    intro u hu
    match vs, h, hv with
    | v :: vs, h, hv =>
      simp only [rcells, List.mem_cons] at hu
      rcases hu with rfl | rfl | rfl | rfl | rfl | rfl | hu
      · rfl
      · rfl
      · rfl
      · rfl
      · rfl
      · exact hv 0 (by simp)
      · exact ih vs (by simpa using h) (fun j h => hv (j + 1) (by simpa using h)) u hu
theorem RInv.one {base : Nat} {w : World} {out : Value} {rs : List Rc} {vs : List Value} (h : RInv base w out rs vs) : ∀ j (hj : j < vs.length), vs[j].oneCell' = true := fun j hj => by
  obtain ⟨ao, cap, e⟩ := (h.rd j (by have := h.len; omega) hj).1.1.val
  rw [e]
  rfl
/-- a list of receptions that is read -/
def Rcs (w : World) (v : Value) (rs : List Rc) : Prop := rs.length ≤ maxLen ∧ ∃ (ao : Option Addr) (cap : Nat), v = .slice ao rs.length cap ∧
  (0 < rs.length → ∃ b off, ao = some ⟨b, off, none⟩ ∧ b < w.heap.size ∧ ∀ k (h : k < rs.length), ∃ va, w.cell? ⟨b, off + k * 6, none⟩ = some (.int .i64 rs[k].id) ∧ w.cell? ⟨b, off + k * 6 + 1, none⟩ = some (.int .i64 rs[k].dst) ∧
    w.cell? ⟨b, off + k * 6 + 2, none⟩ = some (.int .i64 rs[k].kd) ∧ w.cell? ⟨b, off + k * 6 + 3, none⟩ = some (.int .i64 rs[k].st) ∧ w.cell? ⟨b, off + k * 6 + 4, none⟩ = some (.int .i64 rs[k].en) ∧ w.cell? ⟨b, off + k * 6 + 5, none⟩ = some va ∧ BytesAt w va rs[k].bs)
theorem Rcs.below {w w' : World} {v : Value} {rs : List Rc} (h : Rcs w v rs) (hb : Below w.heap.size w w') : Rcs w' v rs := by
  obtain ⟨h1, ao, cap, rfl, h2⟩ := h
  refine ⟨h1, ao, cap, rfl, fun h0 => ?_⟩
  obtain ⟨b, off, rfl, hlt, hc⟩ := h2 h0
  refine ⟨b, off, rfl, Nat.lt_of_lt_of_le hlt hb.size, fun k hk => ?_⟩
  obtain ⟨va, c0, c1, c2, c3, c4, c5, hby⟩ := hc k hk
  exact ⟨va, kc c0 hb, kc c1 hb, kc c2 hb, kc c3 hb, kc c4 hb, kc c5 hb, hby.below hb⟩
theorem RInv.rcs {base : Nat} {w : World} {out : Value} {rs : List Rc} {vs : List Value} (h : RInv base w out rs vs) : Rcs w out rs := by
  have hl := h.len
  have hsr := SR.of_own h.own (rcells_one rs vs h.len h.one) (cap_of h.own)
  obtain ⟨h1, _, _, ao, cap, rfl, _, hc⟩ := hsr
  refine ⟨h1, ao, cap, rfl, fun h0 => ?_⟩
  obtain ⟨b, off, rfl, hb, hcell⟩ := hc h0
  refine ⟨b, off, rfl, hb, fun k hk => ?_⟩
  obtain ⟨g0, g1, g2, g3, g4, g5⟩ := rcells_get rs vs k hk (by omega)
  exact ⟨vs[k], hcell _ _ g0, hcell _ _ g1, hcell _ _ g2, hcell _ _ g3, hcell _ _ g4, hcell _ _ g5, (h.rd k hk (by omega)).1⟩
end Go.Proofs.YtccknpdnapoboaaDoor
namespace Go.Proofs.YtccknpdnapoboaaDoor
open Go.RowKit

theorem Tryd.cells_pair : Tryd.prog.cellsOf 82 = 2 := by kernel_rfl
theorem Tryd.cells_jam : Tryd.prog.cellsOf 84 = 3 := by kernel_rfl
theorem Tryd.cells_loss : Tryd.prog.cellsOf 86 = 2 := by kernel_rfl
theorem Tryd.cells_trx : Tryd.prog.cellsOf 88 = 5 := by kernel_rfl
theorem Tryd.cells_air : Tryd.prog.cellsOf 48 = 4 := by kernel_rfl
theorem Tryd.cells_pairs : Tryd.prog.cellsOf 44 = 1 := by kernel_rfl
theorem Tryd.cells_jams : Tryd.prog.cellsOf 45 = 1 := by kernel_rfl
theorem Tryd.cells_losses : Tryd.prog.cellsOf 46 = 1 := by kernel_rfl
theorem Tryd.bytes_pair : Tryd.prog.bytesOf 82 = 16 := by kernel_rfl
theorem Tryd.bytes_jam : Tryd.prog.bytesOf 84 = 24 := by kernel_rfl
theorem Tryd.bytes_loss : Tryd.prog.bytesOf 86 = 16 := by kernel_rfl
theorem Tryd.bytes_trx : Tryd.prog.bytesOf 88 = 56 := by kernel_rfl
def tenc (t : Int × Int) : List Value := [.int .i64 t.1, .int .i64 t.2]
theorem tcells_flat (l : List (Int × Int)) : tcells l = l.flatMap tenc := by
  induction l with
  | nil => rfl
  | cons t l ih => simp [tcells, tenc, ih]
theorem rd_two {w : World} {t : TypeId} {fs : Array Field} (ht : Tryd.prog.underlying t = some (.struct fs)) (hc : Tryd.prog.cellsOf t = 2) (h0 : ∃ f, fs[0]? = some f ∧ f.type = 3 ∧ f.offset = 0) (h1 : ∃ f, fs[1]? = some f ∧ f.type = 3 ∧ f.offset = 1)
    (cs : List Value) (h : Rd Tryd.prog w t cs) : ∃ t, cs = tenc t ∧ True := by
  obtain ⟨hl, hf⟩ := h.struct ht
  rw [hc] at hl
  obtain ⟨c0, c1, rfl⟩ := list2 cs hl
  obtain ⟨q0, hq0, e0, o0⟩ := h0
  obtain ⟨q1, hq1, e1, o1⟩ := h1
  have f0 := hf 0 _ hq0
  have f1 := hf 1 _ hq1
  rw [e0, o0] at f0
  rw [e1, o1] at f1
  simp only [Tryd.cells_int, List.drop_succ_cons, List.drop_zero, List.take_succ_cons, List.take_zero] at f0 f1
  obtain ⟨x, e0, _⟩ := f0.i64 Tryd.underlying3
  obtain ⟨y, e1, _⟩ := f1.i64 Tryd.underlying3
  simp only [List.cons.injEq, and_true] at e0 e1
  subst e0 e1
  exact ⟨(x, y), rfl, trivial⟩
theorem rd_jam {w : World} (cs : List Value) (h : Rd Tryd.prog w 84 cs) : ∃ t, cs = jenc t ∧ True := by
  obtain ⟨hl, hf⟩ := h.struct Tryd.underlying84
  rw [Tryd.cells_jam] at hl
  obtain ⟨c0, c1, c2, rfl⟩ := list3 cs hl
  have f0 : Rd Tryd.prog w 3 (([c0, c1, c2].drop 0).take (Tryd.prog.cellsOf 3)) := hf 0 _ rfl
  have f1 : Rd Tryd.prog w 3 (([c0, c1, c2].drop 1).take (Tryd.prog.cellsOf 3)) := hf 1 _ rfl
  have f2 : Rd Tryd.prog w 3 (([c0, c1, c2].drop 2).take (Tryd.prog.cellsOf 3)) := hf 2 _ rfl
  simp only [Tryd.cells_int, List.drop_succ_cons, List.drop_zero, List.take_succ_cons, List.take_zero] at f0 f1 f2
  obtain ⟨x, e0, _⟩ := f0.i64 Tryd.underlying3
  obtain ⟨y, e1, _⟩ := f1.i64 Tryd.underlying3
  obtain ⟨z, e2, _⟩ := f2.i64 Tryd.underlying3
  simp only [List.cons.injEq, and_true] at e0 e1 e2
  subst e0 e1 e2
  exact ⟨(x, y, z), rfl, trivial⟩
theorem five_tx {w : World} (c0 c1 c2 c3 c4 : Value) (f0 : Rd Tryd.prog w 3 (([c0, c1, c2, c3, c4].drop 0).take (Tryd.prog.cellsOf 3))) (f1 : Rd Tryd.prog w 3 (([c0, c1, c2, c3, c4].drop 1).take (Tryd.prog.cellsOf 3)))
    (f2 : Rd Tryd.prog w 3 (([c0, c1, c2, c3, c4].drop 2).take (Tryd.prog.cellsOf 3))) (f3 : Rd Tryd.prog w 3 (([c0, c1, c2, c3, c4].drop 3).take (Tryd.prog.cellsOf 3))) (f4 : Rd Tryd.prog w 25 (([c0, c1, c2, c3, c4].drop 4).take (Tryd.prog.cellsOf 25))) :
    ∃ (t : Tr) (a : Option Addr) (c : Nat), [c0, c1, c2, c3, c4] = [.int .i64 t.id, .int .i64 t.fr, .int .i64 t.ch, .int .i64 t.st, .slice a t.bs.length c] ∧ BytesAt w (.slice a t.bs.length c) t.bs ∧ i64b t.id := by
  simp only [Tryd.cells_int, Tryd.cells_bytes, List.drop_succ_cons, List.drop_zero, List.take_succ_cons, List.take_zero] at f0 f1 f2 f3 f4
  obtain ⟨x0, e0, q0⟩ := f0.i64 Tryd.underlying3
  obtain ⟨x1, e1, _⟩ := f1.i64 Tryd.underlying3
  obtain ⟨x2, e2, _⟩ := f2.i64 Tryd.underlying3
  obtain ⟨x3, e3, _⟩ := f3.i64 Tryd.underlying3
  obtain ⟨bs, hb⟩ := rd_bytes f4
  obtain ⟨a, c, rfl⟩ := hb.1.val
  simp only [List.cons.injEq, and_true] at e0 e1 e2 e3
  subst e0 e1 e2 e3
  exact ⟨⟨x0, x1, x2, x3, bs⟩, a, c, rfl, hb, q0⟩
theorem rd_tx {w : World} (cs : List Value) (h : Rd Tryd.prog w 88 cs) : ∃ (t : Tr) (a : Option Addr) (c : Nat), cs = [.int .i64 t.id, .int .i64 t.fr, .int .i64 t.ch, .int .i64 t.st, .slice a t.bs.length c] ∧ BytesAt w (.slice a t.bs.length c) t.bs ∧ i64b t.id := by
  obtain ⟨hl, hf⟩ := h.struct Tryd.underlying88
  rw [Tryd.cells_trx] at hl
  obtain ⟨c0, c1, c2, c3, c4, rfl⟩ := list5 cs hl
  exact five_tx c0 c1 c2 c3 c4 (hf 0 _ rfl) (hf 1 _ rfl) (hf 2 _ rfl) (hf 3 _ rfl) (hf 4 _ rfl)
/-- what came in as an Air, and as transmissions -/
structure AirIn (w : World) (d : Int) (lv jv sv : Value) (ls : List (Int × Int)) (js : List (Int × Int × Int)) (ss : List (Int × Int)) : Prop where
  l : SR w lv ls.length 2 (tcells ls)
  j : SR w jv js.length 3 (jcells js)
  s : SR w sv ss.length 2 (tcells ss)
  lb : ls.length * 16 ≤ 140737488355328
  jb : js.length * 24 ≤ 140737488355328
  sb : ss.length * 16 ≤ 140737488355328
theorem tenc_one (x : Int × Int) : ∀ u ∈ tenc x, u.oneCell' = true := by
  intro u hu
  simp [tenc] at hu
  rcases hu with rfl | rfl <;> rfl
theorem rd_pairs {w : World} {v : Value} (h : Rd Tryd.prog w 44 [v]) : ∃ l, SR w v l.length 2 (tcells l) ∧ l.length * 16 ≤ 140737488355328 := by
  obtain ⟨u, e, hs⟩ := h.slIn Tryd.underlying44
  simp only [List.cons.injEq, and_true] at e
  subst e
  obtain ⟨l, h1, h2, _⟩ := sr_of_in tenc (fun _ => True) 2 16 (fun _ => rfl) (fun x _ => tenc_one x) (by decide) Tryd.cells_pair Tryd.bytes_pair (rd_two Tryd.underlying82 Tryd.cells_pair ⟨_, rfl, rfl, rfl⟩ ⟨_, rfl, rfl, rfl⟩) hs
  unfold reachBytes at h2
  exact ⟨l, by rw [tcells_flat]; exact h1, by omega⟩
theorem rd_losses {w : World} {v : Value} (h : Rd Tryd.prog w 46 [v]) : ∃ l, SR w v l.length 2 (tcells l) ∧ l.length * 16 ≤ 140737488355328 := by
  obtain ⟨u, e, hs⟩ := h.slIn Tryd.underlying46
  simp only [List.cons.injEq, and_true] at e
  subst e
  obtain ⟨l, h1, h2, _⟩ := sr_of_in tenc (fun _ => True) 2 16 (fun _ => rfl) (fun x _ => tenc_one x) (by decide) Tryd.cells_loss Tryd.bytes_loss (rd_two Tryd.underlying86 Tryd.cells_loss ⟨_, rfl, rfl, rfl⟩ ⟨_, rfl, rfl, rfl⟩) hs
  unfold reachBytes at h2
  exact ⟨l, by rw [tcells_flat]; exact h1, by omega⟩
theorem rd_jams {w : World} {v : Value} (h : Rd Tryd.prog w 45 [v]) : ∃ l, SR w v l.length 3 (jcells l) ∧ l.length * 24 ≤ 140737488355328 := by
  obtain ⟨u, e, hs⟩ := h.slIn Tryd.underlying45
  simp only [List.cons.injEq, and_true] at e
  subst e
  obtain ⟨l, h1, h2, _⟩ := sr_of_in jenc (fun _ => True) 3 24 (fun _ => rfl) (fun x _ u hu => by simp [jenc] at hu; rcases hu with rfl | rfl | rfl <;> rfl) (by decide) Tryd.cells_jam Tryd.bytes_jam rd_jam hs
  unfold reachBytes at h2
  exact ⟨l, h1, by omega⟩
theorem arg_air {w : World} {v : Value} (h : Arg Tryd.prog w 48 v) : ∃ d lv jv sv ls js ss, v = .agg #[.int .i64 d, lv, jv, sv] ∧ AirIn w d lv jv sv ls js ss ∧ -9223372036854775808 ≤ d ∧ d ≤ 9223372036854775807 := by
  obtain ⟨cs, rfl, hl, hf⟩ := h.struct Tryd.underlying48
  rw [Tryd.cells_air] at hl
  obtain ⟨c0, c1, c2, c3, rfl⟩ := list4 cs hl
  have f0 : Rd Tryd.prog w 3 (([c0, c1, c2, c3].drop 0).take (Tryd.prog.cellsOf 3)) := hf 0 _ rfl
  have f1 : Rd Tryd.prog w 44 (([c0, c1, c2, c3].drop 1).take (Tryd.prog.cellsOf 44)) := hf 1 _ rfl
  have f2 : Rd Tryd.prog w 45 (([c0, c1, c2, c3].drop 2).take (Tryd.prog.cellsOf 45)) := hf 2 _ rfl
  have f3 : Rd Tryd.prog w 46 (([c0, c1, c2, c3].drop 3).take (Tryd.prog.cellsOf 46)) := hf 3 _ rfl
  simp only [Tryd.cells_int, Tryd.cells_pairs, Tryd.cells_jams, Tryd.cells_losses, List.drop_succ_cons, List.drop_zero, List.take_succ_cons, List.take_zero] at f0 f1 f2 f3
  obtain ⟨x0, e0, hx⟩ := f0.i64 Tryd.underlying3
  obtain ⟨ls, l1, l2⟩ := rd_pairs f1
  obtain ⟨js, j1, j2⟩ := rd_jams f2
  obtain ⟨ss, s1, s2⟩ := rd_losses f3
  simp only [List.cons.injEq, and_true] at e0
  subst e0
  exact ⟨x0, c1, c2, c3, ls, js, ss, rfl, ⟨l1, j1, s1, l2, j2, s2⟩, hx⟩
theorem arg_txs {w : World} {v : Value} (h : Arg Tryd.prog w 49 v) : ∃ ts, Txs w v ts ∧ ts.length * 56 ≤ 140737488355328 ∧ ∀ t ∈ ts, i64b t.id := by
  obtain ⟨l, h1, h2, h3⟩ := sr_of_in (α := Tr × Option Addr × Nat) (fun x => [.int .i64 x.1.id, .int .i64 x.1.fr, .int .i64 x.1.ch, .int .i64 x.1.st, .slice x.2.1 x.1.bs.length x.2.2]) (fun x => BytesAt w (.slice x.2.1 x.1.bs.length x.2.2) x.1.bs ∧ i64b x.1.id) 5 56 (fun _ => rfl)
    (fun x _ u hu => by simp at hu; rcases hu with rfl | rfl | rfl | rfl | rfl <;> rfl) (by decide) Tryd.cells_trx Tryd.bytes_trx (fun cs hcs => by obtain ⟨t, a, c, e, hb⟩ := rd_tx cs hcs; exact ⟨(t, a, c), e, hb⟩) (h.slIn Tryd.underlying49)
  unfold reachBytes at h2
  obtain ⟨q1, _, _, ao, cap, rfl, _, hc⟩ := h1
  refine ⟨l.map (·.1), ⟨by rw [List.length_map]; exact q1, ao, cap, by rw [List.length_map], fun h0 => ?_⟩, by rw [List.length_map]; omega, fun t ht => by
    obtain ⟨x, hx, rfl⟩ := List.mem_map.1 ht
    exact (h3 x hx).2⟩
  rw [List.length_map] at h0
  obtain ⟨b, off, rfl, hb, hcell⟩ := hc h0
  refine ⟨b, off, rfl, hb, fun k hk => ?_⟩
  have hk' : k < l.length := by simpa using hk
  have g := fun j (hj : j < 5) => flat_get (fun x : Tr × Option Addr × Nat => [Value.int .i64 x.1.id, .int .i64 x.1.fr, .int .i64 x.1.ch, .int .i64 x.1.st, .slice x.2.1 x.1.bs.length x.2.2]) 5 (fun _ => rfl) l k j hk' hj
  simp only [List.getElem_map]
  exact ⟨l[k].2.1, l[k].2.2, hcell _ _ (g 0 (by decide)), hcell _ _ (g 1 (by decide)), hcell _ _ (g 2 (by decide)), hcell _ _ (g 3 (by decide)), hcell _ _ (g 4 (by decide)), (h3 _ (List.getElem_mem hk')).1⟩
theorem AirIn.below {w w' : World} {d : Int} {lv jv sv : Value} {ls : List (Int × Int)} {js : List (Int × Int × Int)} {ss : List (Int × Int)} (h : AirIn w d lv jv sv ls js ss) (hb : Below w.heap.size w w') : AirIn w' d lv jv sv ls js ss :=
  ⟨h.l.below hb, h.j.below hb, h.s.below hb, h.lb, h.jb, h.sb⟩
theorem Tryd.cells_rc : Tryd.prog.cellsOf 53 = 6 := by kernel_rfl
theorem Tryd.bytes_rc : Tryd.prog.bytesOf 53 = 64 := by kernel_rfl
theorem list6 : ∀ (cs : List Value), cs.length = 6 → ∃ c0 c1 c2 c3 c4 c5, cs = [c0, c1, c2, c3, c4, c5]
  | [c0, c1, c2, c3, c4, c5], _ => ⟨c0, c1, c2, c3, c4, c5, rfl⟩
theorem six_rc {w : World} (c0 c1 c2 c3 c4 c5 : Value) (f0 : Rd Tryd.prog w 3 (([c0, c1, c2, c3, c4, c5].drop 0).take (Tryd.prog.cellsOf 3))) (f1 : Rd Tryd.prog w 3 (([c0, c1, c2, c3, c4, c5].drop 1).take (Tryd.prog.cellsOf 3)))
    (f2 : Rd Tryd.prog w 3 (([c0, c1, c2, c3, c4, c5].drop 2).take (Tryd.prog.cellsOf 3))) (f3 : Rd Tryd.prog w 3 (([c0, c1, c2, c3, c4, c5].drop 3).take (Tryd.prog.cellsOf 3))) (f4 : Rd Tryd.prog w 3 (([c0, c1, c2, c3, c4, c5].drop 4).take (Tryd.prog.cellsOf 3)))
    (f5 : Rd Tryd.prog w 25 (([c0, c1, c2, c3, c4, c5].drop 5).take (Tryd.prog.cellsOf 25))) :
    ∃ (r : Rc) (a : Option Addr) (c : Nat), [c0, c1, c2, c3, c4, c5] = [.int .i64 r.id, .int .i64 r.dst, .int .i64 r.kd, .int .i64 r.st, .int .i64 r.en, .slice a r.bs.length c] ∧ BytesAt w (.slice a r.bs.length c) r.bs ∧ i64b r.id ∧ i64b r.kd := by
  simp only [Tryd.cells_int, Tryd.cells_bytes, List.drop_succ_cons, List.drop_zero, List.take_succ_cons, List.take_zero] at f0 f1 f2 f3 f4 f5
  obtain ⟨x0, e0, q0⟩ := f0.i64 Tryd.underlying3
  obtain ⟨x1, e1, _⟩ := f1.i64 Tryd.underlying3
  obtain ⟨x2, e2, q2⟩ := f2.i64 Tryd.underlying3
  obtain ⟨x3, e3, _⟩ := f3.i64 Tryd.underlying3
  obtain ⟨x4, e4, _⟩ := f4.i64 Tryd.underlying3
  obtain ⟨bs, hb⟩ := rd_bytes f5
  obtain ⟨a, c, rfl⟩ := hb.1.val
  simp only [List.cons.injEq, and_true] at e0 e1 e2 e3 e4
  subst e0 e1 e2 e3 e4
  exact ⟨⟨x0, x1, x2, x3, x4, bs⟩, a, c, rfl, hb, q0, q2⟩
theorem rd_rc {w : World} (cs : List Value) (h : Rd Tryd.prog w 53 cs) : ∃ (r : Rc) (a : Option Addr) (c : Nat), cs = [.int .i64 r.id, .int .i64 r.dst, .int .i64 r.kd, .int .i64 r.st, .int .i64 r.en, .slice a r.bs.length c] ∧ BytesAt w (.slice a r.bs.length c) r.bs ∧ i64b r.id ∧ i64b r.kd := by
  obtain ⟨hl, hf⟩ := h.struct Tryd.underlying53
  rw [Tryd.cells_rc] at hl
  obtain ⟨c0, c1, c2, c3, c4, c5, rfl⟩ := list6 cs hl
  exact six_rc c0 c1 c2 c3 c4 c5 (hf 0 _ rfl) (hf 1 _ rfl) (hf 2 _ rfl) (hf 3 _ rfl) (hf 4 _ rfl) (hf 5 _ rfl)
theorem arg_rcs {w : World} {v : Value} (h : Arg Tryd.prog w 50 v) : ∃ rs, Rcs w v rs ∧ rs.length * 64 ≤ 140737488355328 ∧ ∀ r ∈ rs, i64b r.id ∧ i64b r.kd := by
  obtain ⟨l, h1, h2, h3⟩ := sr_of_in (α := Rc × Option Addr × Nat) (fun x => [.int .i64 x.1.id, .int .i64 x.1.dst, .int .i64 x.1.kd, .int .i64 x.1.st, .int .i64 x.1.en, .slice x.2.1 x.1.bs.length x.2.2]) (fun x => BytesAt w (.slice x.2.1 x.1.bs.length x.2.2) x.1.bs ∧ i64b x.1.id ∧ i64b x.1.kd) 6 64 (fun _ => rfl)
    (fun x _ u hu => by simp at hu; rcases hu with rfl | rfl | rfl | rfl | rfl | rfl <;> rfl) (by decide) Tryd.cells_rc Tryd.bytes_rc (fun cs hcs => by obtain ⟨t, a, c, e, hb⟩ := rd_rc cs hcs; exact ⟨(t, a, c), e, hb⟩) (h.slIn Tryd.underlying50)
  unfold reachBytes at h2
  obtain ⟨q1, _, _, ao, cap, rfl, _, hc⟩ := h1
  refine ⟨l.map (·.1), ⟨by rw [List.length_map]; exact q1, ao, cap, by rw [List.length_map], fun h0 => ?_⟩, by rw [List.length_map]; omega, fun t ht => by
    obtain ⟨x, hx, rfl⟩ := List.mem_map.1 ht
    exact (h3 x hx).2⟩
  rw [List.length_map] at h0
  obtain ⟨b, off, rfl, hb, hcell⟩ := hc h0
  refine ⟨b, off, rfl, hb, fun k hk => ?_⟩
  have hk' : k < l.length := by simpa using hk
  have g := fun j (hj : j < 6) => flat_get (fun x : Rc × Option Addr × Nat => [Value.int .i64 x.1.id, .int .i64 x.1.dst, .int .i64 x.1.kd, .int .i64 x.1.st, .int .i64 x.1.en, .slice x.2.1 x.1.bs.length x.2.2]) 6 (fun _ => rfl) l k j hk' hj
  simp only [List.getElem_map]
  exact ⟨_, hcell _ _ (g 0 (by decide)), hcell _ _ (g 1 (by decide)), hcell _ _ (g 2 (by decide)), hcell _ _ (g 3 (by decide)), hcell _ _ (g 4 (by decide)), hcell _ _ (g 5 (by decide)), (h3 _ (List.getElem_mem hk')).1⟩
end Go.Proofs.YtccknpdnapoboaaDoor
namespace Go.Proofs.YtccknpdnapoboaaDoor
open Go.RowKit

/-- in the order of p -/
def prm (h : Nat → Cp) (p : Nat → Nat) (n : Nat) : List Cp := (List.range n).map (fun k => h (p k))
theorem prm_len (h : Nat → Cp) (p : Nat → Nat) (n : Nat) : (prm h p n).length = n := by simp [prm]
theorem prm_get (h : Nat → Cp) (p : Nat → Nat) (n k : Nat) (hk : k < (prm h p n).length) : (prm h p n)[k] = h (p k) := by simp [prm]
theorem prm_congr {h h' : Nat → Cp} {p q : Nat → Nat} {n : Nat} (e : ∀ k, k < n → h (p k) = h' (q k)) : prm h p n = prm h' q n := by
  unfold prm
  refine List.map_congr_left fun k hk => e k (List.mem_range.1 hk)
/-- one more element put into its place -/
theorem prm_ins {h : Nat → Cp} {q : Nat → Nat} {m at' : Nat} (ha : at' ≤ m) (hq : q m = m) : (prm h q m).take at' ++ [h m] ++ (prm h q m).drop at' = prm h (rot q at' m (m + 1)) (m + 1) := by
  refine List.ext_getElem ?_ fun k h1 h2 => ?_
  · simp [prm_len]; omega
  · rw [prm_get]
    rw [prm_len] at h2
    unfold rot
    by_cases c1 : k < at'
    · rw [if_neg (by omega), if_neg (by omega), List.getElem_append_left (by simp [prm_len]; omega), List.getElem_append_left (by simp [prm_len]; omega), List.getElem_take, prm_get]
    · by_cases c2 : k = at'
      · subst c2
        rw [if_pos (by omega), List.getElem_append_left (by simp [prm_len]; omega), List.getElem_append_right (by simp [prm_len]; omega), show k + (m - k) = m by omega, hq]
        simp
      · rw [if_neg (by omega), if_pos (by omega), List.getElem_append_right (by simp [prm_len]; omega), List.getElem_drop, prm_get]
        congr 1
        simp [prm_len]
        congr 1
        omega
/-- the record of a transmission -/
def recOf (gs : List (Int × Int)) (t : Tr) : Cp := ⟨t.st, t.ch, t.fr, kindR gs t.id, t.bs⟩
theorem firstE_all (f : Nat → Int) : ∀ n, firstE f n = 0 → ∀ k, k < n → f k = 0
  | 0, _, k, hk => by omega
  | n+1, h, k, hk => by
    unfold firstE at h
    by_cases h0 : firstE f n = 0
    · rw [if_pos h0] at h
      by_cases e : k = n
      · subst e; exact h
      · exact firstE_all f n h0 k (by omega)
    · rw [if_neg h0] at h
      exact absurd h h0
theorem orL_two {a b : Int} (h : orL [a, b] = 0) : b = 0 := by
  unfold orL at h
  by_cases ha : a = 0
  · rw [if_pos ha] at h
    unfold orL at h
    by_cases hb : b = 0
    · exact hb
    · rw [if_neg hb] at h; exact absurd h hb
  · rw [if_neg ha] at h; exact absurd h ha
theorem ids_asc {d : Int} {ls : List (Int × Int)} {js : List (Int × Int × Int)} {ss : List (Int × Int)} {ts : List Tr} (h : checkE d ls js ss ts = 0) : ∀ j i, i < j → j < ts.length → (ts.getD i default).id < (ts.getD j default).id := by
  have hs : ∀ k, k < ts.length → sentV d ts k = 0 := by
    unfold checkE at h
    by_cases h1 : d < 0 ∨ 8 < d
    · rw [if_pos h1] at h; omega
    · rw [if_neg h1] at h
      by_cases h2 : 1000 < js.length ∨ 1000 < ss.length ∨ 1000 < ts.length
      · rw [if_pos h2] at h; omega
      · rw [if_neg h2] at h
        exact firstE_all _ _ (orL_two h)
  have one : ∀ k, k + 1 < ts.length → (ts.getD k default).id < (ts.getD (k + 1) default).id := fun k hk => by
    have := hs (k + 1) hk
    unfold sentV at this
    by_cases c : 0 < k + 1 ∧ (ts.getD (k + 1) default).id ≤ (ts.getD (k + 1 - 1) default).id
    · rw [if_pos c] at this; omega
    · rw [Nat.add_sub_cancel] at c
      omega
  intro j
  induction j with
  | zero => intro i h; omega
  | succ j ih =>
    intro i hi hj
    by_cases e : i = j
    · subst e; exact one i hj
    · exact Int.lt_trans (ih i (by omega) (by omega)) (one j hj)
theorem srt_le {ts : List Tr} {p : Nat → Nat} {n : Nat} (hs : Srt (fun x y => tlt (ts.getD x default) (ts.getD y default)) p 0 n) {i j : Nat} (hij : i < j) (hj : j < n) : (ts.getD (p i) default).st ≤ (ts.getD (p j) default).st := by
  rcases hs i j (Nat.zero_le _) hij hj with h | ⟨h, _⟩
  · unfold tlt at h; omega
  · unfold tlt at h; omega
theorem prm_at (h : Nat → Cp) (p : Nat → Nat) (n j : Nat) (hj : j < n) : (prm h p n).getD j default = h (p j) := by
  rw [List.getD_eq_getElem?_getD, List.getElem?_eq_getElem (by rw [prm_len]; exact hj)]
  simp only [Option.getD_some, prm_get]
theorem prm_ord {gs : List (Int × Int)} {ts : List Tr} {p : Nat → Nat} {n : Nat} (hs : Srt (fun x y => tlt (ts.getD x default) (ts.getD y default)) p 0 n) : OrdP (prm (fun x => recOf gs (ts.getD x default)) p n) := by
  refine ⟨fun j hj => ?_⟩
  rw [prm_len] at hj
  rw [prm_at _ _ _ _ hj, prm_at _ _ _ _ (by omega)]
  have := srt_le hs (show j < j + 1 by omega) hj
  unfold recOf
  simp only
  omega
end Go.Proofs.YtccknpdnapoboaaDoor
