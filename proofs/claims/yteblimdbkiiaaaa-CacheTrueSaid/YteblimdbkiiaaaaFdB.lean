/- cache: IndexFunc, DeleteFunc, and the clearing of a row's end. -/
import Derived.Test.YteblimdbkiiaaaaFdA
namespace Go.Proofs.Yteblimdbkiiaaaa
open Go.RowKit

set_option linter.unusedSimpArgs false in
set_option linter.unusedVariables false in
set_option maxRecDepth 100000 in
set_option maxHeartbeats 4000000 in
theorem index1_any (pr : Fd → Bool) (v : Value) (l : List Fd) (w : World) (h : SR w v l.length 6 (fcells l)) (hn : l.length ≤ 1099511627776)
    (hP : ∀ x, x ∈ l → ∀ W, Below w.heap.size w W → Calls Try.prog 31 #[(elF x).val] W fun e w' => e = .returned (.bool (pr x)) ∧ Below W.heap.size W w') :
    Calls Try.prog 53 #[v, .func (.func 31) #[] #[]] w
      fun e w' => ∃ r : Int, e = .returned (.int .i64 r) ∧ ((r = -1 ∧ ∀ j, j < l.length → pr (l.getD j default) = false) ∨ ∃ k : Nat, r = k ∧ k < l.length ∧ pr (l.getD k default) = true ∧ ∀ j, j < k → pr (l.getD j default) = false) ∧ Below w.heap.size w w' := by
  obtain ⟨n, hnn⟩ : ∃ n, l.length = n := ⟨_, rfl⟩
  have HN := Lib.hid hnn
  obtain ⟨_, _, _, ao, cap, rfl, _, hc⟩ := h
  have HC := Lib.hid hc
  have HP := Lib.hid hP
  rw [hnn] at hn ⊢
  clear hc hP hnn
  go_enter Try.func53, Try.ntmps53
  go_wp2
  go_loopw [5, 8] (fun _ i wr => ∃ k : Nat, i = .int .i64 k ∧ k ≤ n ∧ Hid (∀ j, j < k → pr (l.getD j default) = false) ∧ Below w.heap.size w wr) (fun _ i _ => n - (intOf i).toNat)
  case atStart => exact ⟨0, by simp, Nat.zero_le _, fun j h => by omega, Below.refl _ _⟩
  case round =>
    obtain ⟨k, rfl, hk, hno, hB⟩ := hrel
    by_cases hlt : k < n
    · have g1 : decide (k < n) = true := by simpa using hlt
      have hkl : k < l.length := by rw [HN.out]; exact hlt
      obtain ⟨b, off, rfl, hb, hcell⟩ := HC.out (by omega)
      have key : ∀ j, j < 6 → wr.cell? ⟨b, off + k * 6 + j, none⟩ = (elF l[k]).cells[j]? := fun j hj => by
        have e := fcells_get l k hkl hj
        obtain ⟨u, hu⟩ : ∃ u, (elF l[k]).cells[j]? = some u := ⟨_, List.getElem?_eq_getElem (show j < (elF l[k]).cells.length from hj)⟩
        rw [hu] at e ⊢
        have := kc (hcell _ _ e) hB
        rwa [← Nat.add_assoc] at this
      have c0 := key 0 (by decide)
      have c1 := key 1 (by decide)
      have c2 := key 2 (by decide)
      have c3 := key 3 (by decide)
      have c4 := key 4 (by decide)
      have c5 := key 5 (by decide)
      have hmem : l[k] ∈ l := List.getElem_mem hkl
      have hgd := getD_lt hkl
      obtain ⟨x, hx⟩ : ∃ x, l[k] = x := ⟨_, rfl⟩
      rw [hx] at c0 c1 c2 c3 c4 c5 hmem hgd
      simp only [El.cells, elF, Nat.add_zero, List.getElem?_cons_zero, List.getElem?_cons_succ] at c0 c1 c2 c3 c4 c5
      obtain ⟨c, hcp⟩ : ∃ c, pr x = c := ⟨_, rfl⟩
      have call := HP.out x hmem wr hB
      rw [hcp] at call
      simp only [El.val, elF] at call
      have CALL := Lib.hid call
      have HX := Lib.hid hgd
      have HCP := Lib.hid hcp
      have i1 : (k : Int) < (n : Int) := by omega
      have w1 : IntKind.i64.wrap ((k : Int) + 1) = (k : Int) + 1 := IntWalk.i64_in _ (by omega)
      clear key call hmem hgd hx hcell hcp
      cases c
      · go_wp2_with (go_at_call 31; refine CALL.out.mono ?_; rintro e w3 ⟨rfl, hB3⟩)
        refine ⟨⟨k + 1, by simp, hlt, fun j hj => ?_, hB.trans (hB3.mono hB.size)⟩, ?_⟩
        · by_cases hjk : j = k
          · rw [hjk, HX.out]; exact HCP.out
          · exact hno.out j (by omega)
        · simp [intOf]
          omega
      · go_wp2_with (go_at_call 31; refine CALL.out.mono ?_; rintro e w3 ⟨rfl, hB3⟩)
        go_ret
        exact ⟨_, rfl, .inr ⟨k, rfl, hlt, by rw [HX.out]; exact HCP.out, hno.out⟩, hB.trans (hB3.mono hB.size)⟩
    · have g1 : decide (k < n) = false := by simpa using hlt
      go_wp2
      go_ret
      exact ⟨_, rfl, .inl ⟨rfl, fun j hj => hno.out j (by omega)⟩, hB⟩

/-- the end of a row is cleared -/
theorem setCells_heap {b : Nat} {T : TypeId} : ∀ (vs : List Value) (o : Nat) (w : World) (cur : Array Value), w.heap[b]? = some (.cells cur T (0, 0)) →
    (∃ cur', (w.setCells b o vs).heap[b]? = some (.cells cur' T (0, 0)) ∧ cur'.size = cur.size ∧ ∀ x, x < o → cur'[x]? = cur[x]?) ∧ w.grownBy (w.setCells b o vs) (some b)
  | [], o, w, cur, h => ⟨⟨cur, h, rfl, fun _ _ => rfl⟩, ⟨rfl, rfl, rfl, Nat.le_refl _, fun _ _ _ => rfl⟩⟩
  | v :: vs, o, w, cur, h => by
    have h1 := heap_setCell_same w b o _ T v h
    obtain ⟨⟨cur', e1, e2, e3⟩, hg⟩ := setCells_heap vs (o + 1) _ _ h1
    refine ⟨⟨cur', e1, by rw [e2]; simp, fun x hx => ?_⟩, grown_trans (one6 w ⟨b, o, none⟩ v) hg⟩
    rw [e3 x (by omega), Array.getElem?_setIfInBounds, if_neg (by omega)]
theorem Row6.cleared {T : TypeId} {w : World} {b : Nat} {es : Nat → El} {p : Nat → Nat} {n i : Nat} (h : Row6 T w b 0 es p n) (hi : i ≤ n) (vs : List Value) : Row6 T (w.setCells b (i * 6) vs) b 0 es p i ∧ Sw b w (w.setCells b (i * 6) vs) := by
  have hl := h.lt
  obtain ⟨cur, h1, h2, h3⟩ := h
  obtain ⟨⟨cur', e1, e2, e3⟩, hg⟩ := setCells_heap vs (i * 6) w cur h1
  refine ⟨⟨cur', e1, by omega, fun k hk j hj => ?_⟩, Sw.of_grown hg (by omega)⟩
  rw [e3 _ (by omega)]
  exact h3 k (by omega) j hj
theorem zero_fd (w : World) : (zeroValue 53).run Try.prog w = .ok (.agg #[.int .u16 0, .int .u16 0, .int .u16 0, .int .i64 0, .int .u64 0, .int .u64 0]) w := by
  obtain ⟨i6, hi, hz0, hz1, hz2⟩ := info_parts Try.info_fd
  simp [zeroValue, typeInfo, hi, hz0]
theorem run_clear_fd {w : World} {b n i cap : Nat} {es : Nat → El} {p : Nat → Nat} (h : Row6 53 w b 0 es p n) (hi : i < n) :
    ∃ vs, ∀ ty, (Builtin.clear_ #[24] ty #[.slice (some ⟨b, i * 6, none⟩) (n - i) cap]).run Try.prog w = .ok (.tuple #[]) (w.setCells b (i * 6) vs) := by
  obtain ⟨cur, h1, h2, h3⟩ := h
  refine ⟨(Builtin.zeroCells (Value.cells (.agg #[.int .u16 0, .int .u16 0, .int .u16 0, .int .i64 0, .int .u64 0, .int .u64 0])) (n - i)).toList, fun ty => ?_⟩
  have hlen : (Builtin.zeroCells (Value.cells (.agg #[.int .u16 0, .int .u16 0, .int .u16 0, .int .i64 0, .int .u64 0, .int .u64 0])) (n - i)).toList.length = (n - i) * 6 := by
    simp [Builtin.zeroCells, Value.cells]
  have hone : ∀ v ∈ (Builtin.zeroCells (Value.cells (.agg #[.int .u16 0, .int .u16 0, .int .u16 0, .int .i64 0, .int .u64 0, .int .u64 0])) (n - i)).toList, v.oneCell' = true := fun v hv => by
    simp only [Builtin.zeroCells, Value.cells, Array.toList_map, List.mem_map] at hv
    obtain ⟨x, _, rfl⟩ := hv
    have hx : x % 6 < 6 := Nat.mod_lt _ (by decide)
    show (#[Value.int .u16 0, .int .u16 0, .int .u16 0, .int .i64 0, .int .u64 0, .int .u64 0][x % 6]!).oneCell' = true
    generalize x % 6 = y at hx
    match y, hx with
    | 0, _ => rfl
    | 1, _ => rfl
    | 2, _ => rfl
    | 3, _ => rfl
    | 4, _ => rfl
    | 5, _ => rfl
  have hst := run_storeCells_cells (P := Try.prog) b (i * 6) _ 0 w (fun j hj => by
    rw [hlen] at hj
    rw [cell_of_row w b _ cur _ _ h1, Array.getElem?_eq_getElem (by omega)]
    rfl) (fun j _ => frozen_of_row w b _ cur _ h1) hone
  simp only [Nat.add_zero] at hst
  obtain ⟨m, hm⟩ : ∃ m, n - i = m + 1 := ⟨n - i - 1, by omega⟩
  rw [hm] at hst ⊢
  simp [Builtin.clear_, run_underlying Try.underlying24, hst]

/-- the elements with the numbers of a list -/
def pick (l : List Fd) (ks : List Nat) : List Fd := ks.map fun k => l.getD k default
theorem filter_pick (l : List Fd) (q : Fd → Bool) : l.filter q = pick l ((List.range l.length).filter fun k => q (l.getD k default)) := by
  have e : l = (List.range l.length).map fun k => l.getD k default := by
    refine List.ext_getElem (by simp) fun k h1 h2 => ?_
    rw [List.getElem_map, List.getElem_range, getD_lt h1]
  have e2 : l.filter q = ((List.range l.length).map fun k => l.getD k default).filter q := by rw [← e]
  rw [e2, List.filter_map]
  rfl
theorem rowL_pick {w : World} {g : Nat} {l : List Fd} {p : Nat → Nat} {ks : List Nat} (h : Row6 53 w g 0 (fun k => elF (l.getD k default)) p ks.length) (hp : ∀ t (ht : t < ks.length), p t = ks[t]) : RowL w g (pick l ks) := by
  have hl : (pick l ks).length = ks.length := by simp [pick]
  obtain ⟨cur, h1, h2, h3⟩ := h
  refine ⟨cur, h1, by rw [hl]; exact h2, fun k hk j hj => ?_⟩
  rw [hl] at hk
  rw [h3 k hk j hj]
  show (elF (l.getD (p k) default)).cells[j]? = (elF ((pick l ks).getD k default)).cells[j]?
  rw [getD_lt (show k < (pick l ks).length by rw [hl]; exact hk), hp k hk]
  simp [pick]
theorem range_filter_succ (q : Nat → Bool) (j : Nat) : (List.range (j + 1)).filter q = if q j then (List.range j).filter q ++ [j] else (List.range j).filter q := by
  rw [List.range_succ, List.filter_append]
  by_cases h : q j = true
  · rw [if_pos h]; simp [h]
  · rw [if_neg h]; simp [h]
theorem filter_range_le (q : Nat → Bool) (j : Nat) : ((List.range j).filter q).length ≤ j := by
  have := List.length_filter_le q (List.range j)
  simpa using this

set_option linter.unusedSimpArgs false in
set_option linter.unusedVariables false in
set_option maxRecDepth 100000 in
set_option maxHeartbeats 4000000 in
theorem delete_fd (B : Nat) (v : Value) (l : List Fd) (w : World) (h : FO B w v l) (hB : B ≤ w.heap.size) (hn : l.length ≤ 1099511627776) :
    Calls Try.prog 29 #[v, .func (.func 31) #[] #[]] w
      fun e w' => ∃ v', e = .returned v' ∧ FO B w' v' (l.filter fun x => x.ha != 0) ∧ Below B w w' := by
  have idx := index1_any (fun x => x.ha == 0) v l w h.sr hn (fun x _ W _ => learn1_any _ _ _ _ _ _ W)
  have IDX := Lib.hid idx
  rcases h with ⟨rfl, rfl⟩ | ⟨g, cap, rfl, hg, hlc, hcm, hrow⟩
  · clear idx
    go_enter Try.func29, Try.ntmps29
    go_wp2_with (go_at_call 53; refine IDX.out.mono ?_; rintro e w3 ⟨r, rfl, ⟨rfl, _⟩ | ⟨k, rfl, hk, _⟩, hB3⟩)
    go_ret
    exact ⟨_, rfl, .inl ⟨rfl, rfl⟩, hB3.mono hB⟩
  · clear idx
    obtain ⟨n, hnn⟩ : ∃ n, l.length = n := ⟨_, rfl⟩
    have HN := Lib.hid hnn
    have HROW := Lib.hid hrow
    rw [hnn] at IDX hn hlc ⊢
    have hgl := hrow.lt
    clear hrow hnn
    go_enter Try.func29, Try.ntmps29
    go_wp2_with fail
    go_at_call 53
    refine IDX.out.mono ?_
    rintro e w3 ⟨r, rfl, hr, hB3⟩
    have hrow3 := HROW.out.below hB3
    rcases hr with ⟨rfl, hno⟩ | ⟨k, rfl, hk, hyes, hno⟩
    · have e : l.filter (fun x => x.ha != 0) = l := List.filter_eq_self.2 fun x hx => by
        obtain ⟨j, hj, rfl⟩ := List.getElem_of_mem hx
        have := hno j (by rw [← HN.out]; exact hj)
        rw [getD_lt hj] at this
        simpa using this
      have fin : FO B w3 (.slice (some ⟨g, 0, none⟩) n cap) (l.filter fun x => x.ha != 0) := by
        rw [e]
        exact .inr ⟨g, cap, by rw [HN.out], hg, by rw [HN.out]; exact hlc, hcm, hrow3⟩
      have FIN := Lib.hid fin
      clear hrow3 hno e fin
      go_wp2
      go_ret
      exact ⟨_, rfl, FIN.out, hB3.mono hB⟩
    · have hki : k < n := hk
      obtain ⟨E, hE⟩ : ∃ E : Nat → El, E = fun k => elF (l.getD k default) := ⟨_, rfl⟩
      have hone : ∀ x, (E x).one := fun x => by rw [hE]; exact elF_one _
      obtain ⟨q, hq⟩ : ∃ q : Nat → Bool, q = fun t => (l.getD t default).ha != 0 := ⟨_, rfl⟩
      have call : ∀ j W, Calls Try.prog 31 #[.agg #[(E j).c0, (E j).c1, (E j).c2, (E j).c3, (E j).c4, (E j).c5]] W fun e w' => e = .returned (.bool (!q j)) ∧ Below W.heap.size W w' := fun j W => by
        rw [hE, hq]
        have h := learn1_any (l.getD j default).ha (l.getD j default).la (l.getD j default).va (l.getD j default).pr (l.getD j default).hi (l.getD j default).lo W
        have e : (!((l.getD j default).ha != 0)) = ((l.getD j default).ha == 0) := by simp [bne]
        simp only [e]
        exact h
      have k0 : (List.range (k + 1)).filter q = List.range k := by
        rw [range_filter_succ, if_neg (by rw [hq]; simpa using hyes)]
        refine List.filter_eq_self.2 fun t ht => ?_
        have := hno t (List.mem_range.1 ht)
        rw [hq]
        simpa using this
      have hrow4 : Row6 53 w3 g 0 E (fun k => k) n := by rw [hE, ← HN.out]; exact hrow3
      have fin : ∀ W' (p : Nat → Nat) (i : Nat), ((List.range n).filter q).length = i → (∀ t (ht : t < ((List.range n).filter q).length), p t = ((List.range n).filter q)[t]) → Row6 53 W' g 0 E p i → FO B W' (.slice (some ⟨g, 0, none⟩) i cap) (l.filter fun x => x.ha != 0) := fun W' p i hi hp hr => by
        have hpk : l.filter (fun x => x.ha != 0) = pick l ((List.range n).filter q) := by rw [filter_pick, HN.out, hq]
        have hlen : (l.filter (fun x => x.ha != 0)).length = i := by rw [hpk, ← hi]; simp [pick]
        have hle := filter_range_le q n
        refine .inr ⟨g, cap, by rw [hlen], hg, by omega, hcm, ?_⟩
        rw [hpk]
        refine rowL_pick (p := p) ?_ hp
        rw [hE] at hr
        rw [hi]
        exact hr
      have CALL := Lib.hid call
      have HONE := Lib.hid hone
      have FIN := Lib.hid fin
      have K0 := Lib.hid k0
      have HR4 := Lib.hid hrow4
      have HBW := Lib.hid (hB3.mono hB)
      have w1 : IntKind.i64.wrap ((k : Int) + 1) = (k : Int) + 1 := IntWalk.i64_in _ (by omega)
      have hm1 : (((k : Nat) : Int) == -1) = false := by simp
      clear hE hone hq call k0 fin hrow4 hrow3 hyes hno hB3 hk
      go_wp2
      clear w1
      go_loopw [5, 6, 7] (fun vi vj _ wr => ∃ (i j : Nat) (p : Nat → Nat), vi = .int .i64 i ∧ vj = .int .i64 j ∧ j ≤ n ∧ i < j ∧ Hid (((List.range j).filter q).length = i) ∧ Hid (∀ t (ht : t < ((List.range j).filter q).length), p t = ((List.range j).filter q)[t]) ∧ Hid (∀ t, j ≤ t → p t = t) ∧ Row6 53 wr g 0 E p n ∧ Below B w wr) (fun _ vj _ _ => n - (intOf vj).toNat)
      case atStart => exact ⟨k, k + 1, fun k => k, rfl, by simp, hki, by omega, by show ((List.range (k + 1)).filter q).length = k; rw [K0.out]; simp, fun t ht => by simp only [K0.out, List.getElem_range], fun t _ => rfl, HR4.out, HBW.out⟩
      case round =>
        clear K0 HR4 HBW
        obtain ⟨i, j, p, rfl, rfl, hj, hij, hlen, hpt, hpi, hrj, hBj⟩ := hrel
        have hgj := hrj.lt
        have hBg : B ≤ wr.heap.size := Nat.le_trans hB hBj.size
        by_cases hlt : j < n
        · have g1 : decide (j < n) = true := by simpa using hlt
          have hin : i < n := by omega
          have i1 : (j : Int) < (n : Int) := by omega
          have i2 : (i : Int) < (n : Int) := by omega
          have w2 : IntKind.i64.wrap ((j : Int) + 1) = (j : Int) + 1 := IntWalk.i64_in _ (by omega)
          have w3' : IntKind.i64.wrap ((i : Int) + 1) = (i : Int) + 1 := IntWalk.i64_in _ (by omega)
          have G := hrj.get hlt
          rw [hpi.out j (Nat.le_refl _), Nat.zero_add] at G
          obtain ⟨c0, c1, c2, c3, c4, c5⟩ := G
          obtain ⟨o0, o1, o2, o3, o4, o5⟩ := HONE.out j
          have a0 := fun W a m => run_store Try.prog W a _ m o0
          have a1 := fun W a m => run_store Try.prog W a _ m o1
          have a2 := fun W a m => run_store Try.prog W a _ m o2
          have a3 := fun W a m => run_store Try.prog W a _ m o3
          have a4 := fun W a m => run_store Try.prog W a _ m o4
          have a5 := fun W a m => run_store Try.prog W a _ m o5
          obtain ⟨cb, hcb⟩ : ∃ c, q j = c := ⟨_, rfl⟩
          have call := CALL.out j
          rw [hcb] at call
          have CALL1 := Lib.hid call
          have HCB := Lib.hid hcb
          have HRJ := Lib.hid hrj
          have HBJ := Lib.hid hBj
          have hbx : Below wr.heap.size wr (wr.alloc (.cells #[(E j).c0, (E j).c1, (E j).c2, (E j).c3, (E j).c4, (E j).c5] 53)) := (Below.refl _ _).alloc (Nat.le_refl _) _
          have hsx : (wr.alloc (.cells #[(E j).c0, (E j).c1, (E j).c2, (E j).c3, (E j).c4, (E j).c5] 53)).heap.size = wr.heap.size + 1 := by simp
          have hrow := heap_alloc_new wr (.cells #[(E j).c0, (E j).c1, (E j).c2, (E j).c3, (E j).c4, (E j).c5] 53)
          have HB1 := Lib.hid hbx
          have HS1 := Lib.hid hsx
          have HN1 := Lib.hid hrow
          clear call hcb hrj hBj hbx hsx hrow o0 o1 o2 o3 o4 o5
          cases cb
          · have e := range_filter_succ q j
            rw [HCB.out] at e
            simp only [Bool.false_eq_true, if_false] at e
            have HE := Lib.hid e
            clear e
            go_wp2_with (go_at_call 31; refine (CALL1.out _).mono ?_; rintro e w4 ⟨rfl, hB4⟩)
            have hB5 : Below wr.heap.size wr w4 := HB1.out.trans (hB4.mono (by rw [HS1.out]; omega))
            refine ⟨⟨i, j + 1, p, rfl, by simp, hlt, by omega, by show _ = _; rw [HE.out]; exact hlen.out, fun t ht => by simp only [HE.out]; exact hpt.out t (by rw [← HE.out]; exact ht), fun t ht => hpi.out t (by omega), HRJ.out.below hB5, HBJ.out.trans (hB5.mono hBg)⟩, ?_⟩
            simp [intOf]
            omega
          · have e := range_filter_succ q j
            rw [HCB.out] at e
            simp only [if_true] at e
            have HE := Lib.hid e
            clear e
            go_wp2_with (go_at_call 31
                         refine (CALL1.out _).mono ?_
                         rintro e w4 ⟨rfl, hB4⟩
                         have hB5 : Below wr.heap.size wr w4 := HB1.out.trans (hB4.mono (by rw [HS1.out]; omega))
                         have hr4 := HRJ.out.below hB5
                         have hn4 := (hB4.block wr.heap.size (by rw [HS1.out]; omega)).trans HN1.out
                         have d0 := cell_of_row _ _ 0 _ _ _ hn4
                         have d1 := cell_of_row _ _ 1 _ _ _ hn4
                         have d2 := cell_of_row _ _ 2 _ _ _ hn4
                         have d3 := cell_of_row _ _ 3 _ _ _ hn4
                         have d4 := cell_of_row _ _ 4 _ _ _ hn4
                         have d5 := cell_of_row _ _ 5 _ _ _ hn4
                         simp only [List.getElem?_toArray, List.getElem?_cons_zero, List.getElem?_cons_succ] at d0 d1 d2 d3 d4 d5
                         have F := hr4.get hin
                         rw [Nat.zero_add] at F
                         obtain ⟨f0, f1, f2, f3, f4, f5⟩ := F
                         have z0 := hr4.fz (i * 6)
                         have z1 := hr4.fz (i * 6 + 1)
                         have z2 := hr4.fz (i * 6 + 2)
                         have z3 := hr4.fz (i * 6 + 3)
                         have z4 := hr4.fz (i * 6 + 4)
                         have z5 := hr4.fz (i * 6 + 5)
                         have HR4 := Lib.hid hr4
                         have HB5 := Lib.hid hB5
                         clear hr4 hB5 hn4 hB4)
            have hput := HR4.out.put hin j
            rw [Nat.zero_add] at hput
            obtain ⟨r1, s1⟩ := hput
            have hl := hlen.out
            refine ⟨⟨i + 1, j + 1, upd p i j, by simp, by simp, hlt, by omega, by show _ = _; rw [HE.out]; simp [hl], fun t ht => ?_, fun t ht => ?_, r1, (HBJ.out.trans (HB5.out.mono hBg)).trans (s1.below.mono ?_)⟩, ?_⟩
            · simp only [HE.out] at ht ⊢
              unfold upd
              by_cases c : t = i
              · rw [if_pos c]
                subst c
                rw [List.getElem_append_right (by omega)]
                simp
              · rw [if_neg c]
                simp at ht
                rw [List.getElem_append_left (by omega)]
                exact hpt.out t (by omega)
            · unfold upd
              rw [if_neg (by omega)]
              exact hpi.out t (by omega)
            · exact hg
            · simp [intOf]
              omega
        · have e1 : j = n := by omega
          subst e1
          have g1 : decide (j < j) = false := by simp
          obtain ⟨vs, hclr⟩ := run_clear_fd (cap := cap - i) hrj hij
          have hcc := hrj.cleared (i := i) (by omega) vs
          have i2 : (i : Int) ≤ (j : Int) := by omega
          have i3 : (j : Int) ≤ (cap : Int) := by omega
          have i4 : (i : Int) ≤ (cap : Int) := by omega
          have hci : ¬ cap = i := by omega
          have HCC := Lib.hid hcc
          clear hrj hcc
          go_wp2
          go_ret
          exact ⟨_, rfl, FIN.out _ p i hlen.out hpt.out HCC.out.1, hBj.trans (HCC.out.2.below.mono hg)⟩
end Go.Proofs.Yteblimdbkiiaaaa
