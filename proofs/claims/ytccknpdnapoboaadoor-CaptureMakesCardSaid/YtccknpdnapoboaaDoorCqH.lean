/- capture: Bytes of the reference. -/
import Derived.Test.YtccknpdnapoboaaDoorCpZ
import Derived.Test.YtccknpdnapoboaaDoorCpW
import Derived.BigQuiet
namespace Go.Proofs.YtccknpdnapoboaaDoor
open Go.RowKit

theorem run_append_sr {P : Program} {w : World} (base : Nat) (t ty e : TypeId) (i : TypeInfo) (z : Value) (size bytes : Nat) (ht : P.underlying t = some (.slice e)) (hi : P.info? e = some i) (hz : i.zero = some z)
    (hsize : i.size = size) (hby : i.bytes = bytes) (hzs : z.cells.size = size) (hsz : 0 < size) (v : Value) (n : Nat) (xs : List Value) (hown : w.ownsRow base e size v n xs)
    (sv : Value) (m : Nat) (cs : List Value) (hsr : SR w sv m size cs) (h63 : n + m ≤ maxLen) (hbytes : (n + m) * bytes ≤ 140737488355328) (hbase : base ≤ w.heap.size) :
    ∃ v' w', (Builtin.append_ #[t, t] ty #[v, sv]).run P w = .ok v' w' ∧ w'.ownsRow base e size v' (n + m) (xs ++ cs) ∧ w.grownBy w' v.ownBlock := by
  obtain ⟨hm, hl, h1, ao, scap, rfl, hnil, hc⟩ := hsr
  cases ao with
  | none =>
    obtain ⟨rfl, rfl⟩ := hnil rfl
    have hcs : cs = [] := List.eq_nil_of_length_eq_zero (by simpa using hl)
    subst hcs
    exact ⟨v, w, run_append_owned_none (P := P) (w := w) base t ty e i size ht hi v n xs hown, by simpa using hown, ⟨rfl, rfl, rfl, Nat.le_refl _, fun _ _ _ => rfl⟩⟩
  | some ad =>
    obtain ⟨v', w', hr, h2, h3, _, _⟩ := run_append_own_at (P := P) w base t ty e i z size bytes ht hi hz hsize hby hzs hsz v n xs hown ad m scap cs hl (fun j u hj => by
      have hj2 : j < m * size := by rw [← hl]; exact (List.getElem?_eq_some_iff.1 hj).1
      have hm0 : 0 < m := by
        rcases Nat.eq_zero_or_pos m with h | h
        · subst h; omega
        · exact h
      obtain ⟨b, off, hb, _, hcell⟩ := hc hm0
      obtain rfl : ad = ⟨b, off, none⟩ := Option.some.inj hb
      rw [addr_add]
      exact hcell j u hj) h1 h63 hbytes hbase
    exact ⟨v', w', hr, h2, h3⟩
/-- at a step of a region that draws: an append of whatever is read onto a row of the call's own -/
theorem step_append_sr {P : Program} {w : World} {ops : Array Oper} {o : Oper} {a : Act} {K : Act → World → Prop} {Q : Exit → Act → World → Prop} {E : Prop} (hgd : o.guard = none) (s x : Operand) (t : TypeId)
    (ho : o.op = .call { callee := .builtin .append, args := #[s, x], argTypes := #[t, t] })
    (base : Nat) (e : TypeId) (i : TypeInfo) (z : Value) (size bytes : Nat) (ht : P.underlying t = some (.slice e)) (hi : P.info? e = some i) (hz : i.zero = some z)
    (hsize : i.size = size) (hby : i.bytes = bytes) (hzs : z.cells.size = size) (hsz : 0 < size)
    (v : Value) (n : Nat) (xs : List Value) (hs : a.eval s = v) (hown : w.ownsRow base e size v n xs) (sv : Value) (m : Nat) (cs : List Value) (hx : a.eval x = sv) (hsr : SR w sv m size cs)
    (h63 : n + m ≤ maxLen) (hbytes : (n + m) * bytes ≤ 140737488355328) (hbase : base ≤ w.heap.size)
    (h : ∀ v' w', w'.ownsRow base e size v' (n + m) (xs ++ cs) → w.grownBy w' v.ownBlock → K (a.put o.dst v') w') :
    if Region.wanted o (yielded ops a.tmps) = true then Oper.wp P o a w K Q else E := by
  have hw : Region.wanted o (yielded ops a.tmps) = true := by simp [Region.wanted, hgd]
  rw [if_pos hw]
  obtain ⟨v', w', hr, h2, h3⟩ := run_append_sr (P := P) base t o.type e i z size bytes ht hi hz hsize hby hzs hsz v n xs hown sv m cs hsr h63 hbytes hbase
  unfold Oper.wp execOp
  simp only [ho, resolve, invoke, builtin, Sem.run_bind, Sem.run_pure, Result.andThen_ok, List.map_toArray, List.map_cons, List.map_nil, hs, hx, hr]
  exact h v' w' h2 h3
theorem sr_three {w : World} {i : Nat} {t : TypeId} {x y z : Nat} (h : w.heap[i]? = some (.cells #[.int .u8 (x : Int), .int .u8 (y : Int), .int .u8 (z : Int)] t (0, 0))) : SR w (.slice (some ⟨i, 0, none⟩) 3 3) 3 1 (bcells [x, y, z]) :=
  ⟨by unfold maxLen; simp, rfl, bcells_one _, some ⟨i, 0, none⟩, 3, rfl, fun h => (by cases h), fun _ => ⟨i, 0, rfl, (Array.getElem?_eq_some_iff.1 h).1, fun j u hj => by
    rw [Nat.zero_add]
    match j, hj with
    | 0, hj => simp [bcells] at hj; subst hj; exact cell_of_row _ _ 0 _ _ _ h
    | 1, hj => simp [bcells] at hj; subst hj; exact cell_of_row _ _ 1 _ _ _ h
    | 2, hj => simp [bcells] at hj; subst hj; exact cell_of_row _ _ 2 _ _ _ h⟩⟩
set_option linter.unusedSimpArgs false in
set_option linter.unusedVariables false in
set_option maxRecDepth 100000 in
set_option maxHeartbeats 4000000 in
theorem rbytes_any (T C F KD L : Nat) (a : Option Addr) (c : Nat) (bs : List Nat) (hL : bs.length = L) (w : World) (h : BytesAt w (.slice a L c) bs) (hT : T < 1099511627777) (hC : C < 256) (hF : F < 256) (hK : KD < 256) (hL2 : L ≤ 260) :
    Calls Tryd.prog 33 #[.agg #[.int .i64 T, .int .i64 C, .int .i64 F, .int .i64 KD, .slice a L c]] w fun e w' => ∃ v, e = .returned v ∧ w'.ownsRow w.heap.size 5 1 v (16 + L) (bcells (recB ⟨T, C, F, KD, bs⟩)) ∧ Below w.heap.size w w' := by
  obtain ⟨i0, hi, hz0, hz1, hz2⟩ := info_parts Tryd.info_u8
  have hb0 : Below w.heap.size w (w.alloc (.cells #[.int .i64 T, .int .i64 C, .int .i64 F, .int .i64 KD, .slice a L c] 35)) := (Below.refl _ _).alloc (Nat.le_refl _) _
  have T0 := cells_new w [.int .i64 (T : Int), .int .i64 (C : Int), .int .i64 (F : Int), .int .i64 (KD : Int), .slice a L c] 35
  obtain ⟨V, hV⟩ : ∃ V, w.alloc (.cells #[.int .i64 T, .int .i64 C, .int .i64 F, .int .i64 KD, .slice a L c] 35) = V := ⟨_, rfl⟩
  have hVs : w.heap.size < V.heap.size := by rw [← hV]; simp
  change Cells (w.alloc (.cells #[.int .i64 T, .int .i64 C, .int .i64 F, .int .i64 KD, .slice a L c] 35)) _ at T0
  rw [hV] at hb0 T0
  have HBY := Lib.hid (h.below hb0)
  have HB := Lib.hid hb0
  have HT0 := Lib.hid T0
  have HL := Lib.hid hL
  have cT : IntKind.u64.wrap (T : Int) = (T : Int) := IntWalk.u64_in _ (by omega)
  have cC : IntKind.u8.wrap (C : Int) = (C : Int) := IntWalk.u8_in _ (by omega)
  have cF : IntKind.u8.wrap (F : Int) = (F : Int) := IntWalk.u8_in _ (by omega)
  have cK : IntKind.u8.wrap (KD : Int) = (KD : Int) := IntWalk.u8_in _ (by omega)
  have cL : IntKind.u64.wrap (L : Int) = (L : Int) := IntWalk.u64_in _ (by omega)
  have hD : bcells (putB T 8 ++ [C, F, KD]) ++ bcells (putB L 2) ++ bcells bs = bcells (recD ⟨(T : Int), (C : Int), (F : Int), (KD : Int), bs⟩) := by
    have e1 : ∀ x : Nat, x < 256 → putB x 1 = [x] := fun x hx => by simp [putB, byt, Nat.mod_eq_of_lt hx]
    unfold recD
    simp only [Int.toNat_natCast, e1 C hC, e1 F hF, e1 KD hK, hL]
    simp [bcells]
  have hDlt := recD_lt ⟨(T : Int), (C : Int), (F : Int), (KD : Int), bs⟩ h.2.2
  have hDlen := recD_len ⟨(T : Int), (C : Int), (F : Int), (KD : Int), bs⟩
  simp only [hL] at hDlen
  have hrec : recB ⟨(T : Int), (C : Int), (F : Int), (KD : Int), bs⟩ = recD ⟨(T : Int), (C : Int), (F : Int), (KD : Int), bs⟩ ++ putB (sumF 0 (recD ⟨(T : Int), (C : Int), (F : Int), (KD : Int), bs⟩)) 3 := rfl
  rw [hrec]
  obtain ⟨D, hDD⟩ : ∃ D, recD ⟨(T : Int), (C : Int), (F : Int), (KD : Int), bs⟩ = D := ⟨_, rfl⟩
  rw [hDD] at hD hDlt hDlen ⊢
  have HD := Lib.hid hD
  have HDLT := Lib.hid hDlt
  have HDLEN := Lib.hid hDlen
  have hS24 := sumF_lt D 0 (by omega)
  obtain ⟨S5, hS5⟩ : ∃ x, sumF 0 D = x := ⟨_, rfl⟩
  rw [hS5] at hS24 ⊢
  have HS5 := Lib.hid hS5
  clear h hb0 hL hD hDlt hDlen hDD hrec hS5
  go_enter Tryd.func33, Tryd.ntmps33
  go_upto_region 1 with fail
  try rw [hV]
  clear hV
  go_cut [3] (fun v wx => wx.ownsRow V.heap.size 5 1 v 11 (bcells (putB T 8 ++ [C, F, KD])) ∧ Below V.heap.size V wx)
  case first =>
    refine wp_region_held_drew (S := (fun W' : World => Below V.heap.size V W' ∧ V.heap.size ≤ W'.heap.size ∧ Cells W' (blk w.heap.size 0 0 [.int .i64 (T : Int), .int .i64 (C : Int), .int .i64 (F : Int), .int .i64 (KD : Int), .slice a L c]))) (by kernel_rfl) (⟨(Below.refl _ _).drew, Nat.le_refl _, T0.drew⟩) (fun hHeld => ?_)
    generalize World.drew _ = wd at hHeld ⊢
    have hz := hHeld.2.1
    refine wpAnyH_take (i := 0) (oi := _) (v := ?_) (by rw [List.getElem?_toArray]; rfl) (by kernel_rfl) (by kernel_rfl) (by kernel_rfl) (by exact fun _ _ _ h => h) (Or.inl ⟨by rfl, ?_⟩) (by assumption) ?_
    rotate_left
    · intro w hSw
      try simp only [Cells, blk, List.cons_append, List.nil_append, and_true, Nat.reduceAdd, Nat.add_zero, Nat.zero_add] at hSw
      go_simp
      try with_reducible rfl
    simp only [Act.put, List.setIfInBounds_toArray, List.set_cons_zero, List.set_cons_succ]
    refine wpAnyH_take (i := 1) (oi := _) (v := ?_) (by rw [List.getElem?_toArray]; rfl) (by kernel_rfl) (by kernel_rfl) (by kernel_rfl) (by exact fun _ _ _ h => h) (Or.inl ⟨by rfl, ?_⟩) (by assumption) ?_
    rotate_left
    · intro w hSw
      try simp only [Cells, blk, List.cons_append, List.nil_append, and_true, Nat.reduceAdd, Nat.add_zero, Nat.zero_add] at hSw
      go_simp
      try with_reducible rfl
    simp only [Act.put, List.setIfInBounds_toArray, List.set_cons_zero, List.set_cons_succ]
    refine wpAnyH_take (i := 2) (oi := _) (v := ?_) (by rw [List.getElem?_toArray]; rfl) (by kernel_rfl) (by kernel_rfl) (by kernel_rfl) (by exact fun _ _ _ h => h) (Or.inl ⟨by rfl, ?_⟩) (by assumption) ?_
    rotate_left
    · intro w hSw
      try simp only [Cells, blk, List.cons_append, List.nil_append, and_true, Nat.reduceAdd, Nat.add_zero, Nat.zero_add] at hSw
      go_simp
      try with_reducible rfl
    simp only [Act.put, List.setIfInBounds_toArray, List.set_cons_zero, List.set_cons_succ]
    refine wpAnyH_take (i := 4) (oi := _) (v := ?_) (by rw [List.getElem?_toArray]; rfl) (by kernel_rfl) (by kernel_rfl) (by kernel_rfl) (by exact fun _ _ _ h => h) (Or.inl ⟨by rfl, ?_⟩) (by assumption) ?_
    rotate_left
    · intro w hSw
      try simp only [Cells, blk, List.cons_append, List.nil_append, and_true, Nat.reduceAdd, Nat.add_zero, Nat.zero_add] at hSw
      go_simp
      try with_reducible rfl
    simp only [Act.put, List.setIfInBounds_toArray, List.set_cons_zero, List.set_cons_succ]
    refine wpAnyH_take (i := 5) (oi := _) (v := ?_) (by rw [List.getElem?_toArray]; rfl) (by kernel_rfl) (by kernel_rfl) (by kernel_rfl) (by exact fun _ _ _ h => h) (Or.inl ⟨by rfl, ?_⟩) (by assumption) ?_
    rotate_left
    · intro w hSw
      try simp only [Cells, blk, List.cons_append, List.nil_append, and_true, Nat.reduceAdd, Nat.add_zero, Nat.zero_add] at hSw
      go_simp
      try with_reducible rfl
    simp only [Act.put, List.setIfInBounds_toArray, List.set_cons_zero, List.set_cons_succ]
    refine wpAnyH_take (i := 6) (oi := _) (v := ?_) (by rw [List.getElem?_toArray]; rfl) (by kernel_rfl) (by kernel_rfl) (by kernel_rfl) (by exact fun _ _ _ h => h) (Or.inl ⟨by rfl, ?_⟩) (by assumption) ?_
    rotate_left
    · intro w hSw
      try simp only [Cells, blk, List.cons_append, List.nil_append, and_true, Nat.reduceAdd, Nat.add_zero, Nat.zero_add] at hSw
      go_simp
      try with_reducible rfl
    simp only [Act.put, List.setIfInBounds_toArray, List.set_cons_zero, List.set_cons_succ]
    refine wpAnyH_take (i := 7) (oi := _) (v := ?_) (by rw [List.getElem?_toArray]; rfl) (by kernel_rfl) (by kernel_rfl) (by kernel_rfl) (by exact fun _ _ _ h => h) (Or.inl ⟨by rfl, ?_⟩) (by assumption) ?_
    rotate_left
    · intro w hSw
      try simp only [Cells, blk, List.cons_append, List.nil_append, and_true, Nat.reduceAdd, Nat.add_zero, Nat.zero_add] at hSw
      go_simp
      try with_reducible rfl
    simp only [Act.put, List.setIfInBounds_toArray, List.set_cons_zero, List.set_cons_succ]
    refine wpAnyH_take (i := 8) (oi := _) (v := ?_) (by rw [List.getElem?_toArray]; rfl) (by kernel_rfl) (by kernel_rfl) (by kernel_rfl) (by exact fun _ _ _ h => h) (Or.inl ⟨by rfl, ?_⟩) (by assumption) ?_
    rotate_left
    · intro w hSw
      try simp only [Cells, blk, List.cons_append, List.nil_append, and_true, Nat.reduceAdd, Nat.add_zero, Nat.zero_add] at hSw
      go_simp
      try with_reducible rfl
    simp only [Act.put, List.setIfInBounds_toArray, List.set_cons_zero, List.set_cons_succ]
    refine wpAnyH_take (i := 9) (oi := _) (v := ?_) (by rw [List.getElem?_toArray]; rfl) (by kernel_rfl) (by kernel_rfl) (by kernel_rfl) (by exact fun _ _ _ h => h) (Or.inl ⟨by rfl, ?_⟩) (by assumption) ?_
    rotate_left
    · intro w hSw
      try simp only [Cells, blk, List.cons_append, List.nil_append, and_true, Nat.reduceAdd, Nat.add_zero, Nat.zero_add] at hSw
      go_simp
      try with_reducible rfl
    simp only [Act.put, List.setIfInBounds_toArray, List.set_cons_zero, List.set_cons_succ]
    refine wpAnyH_take (i := 10) (oi := _) (v := ?_) (by rw [List.getElem?_toArray]; rfl) (by kernel_rfl) (by kernel_rfl) (by kernel_rfl) (by exact fun _ _ _ h => h) (Or.inl ⟨by rfl, ?_⟩) (by assumption) ?_
    rotate_left
    · intro w hSw
      try simp only [Cells, blk, List.cons_append, List.nil_append, and_true, Nat.reduceAdd, Nat.add_zero, Nat.zero_add] at hSw
      go_simp
      try with_reducible rfl
    simp only [Act.put, List.setIfInBounds_toArray, List.set_cons_zero, List.set_cons_succ]
    refine wpAnyH_take (i := 11) (oi := _) (v := ?_) (by rw [List.getElem?_toArray]; rfl) (by kernel_rfl) (by kernel_rfl) (by kernel_rfl) (by exact fun _ _ _ h => h) (Or.inl ⟨by rfl, ?_⟩) (by assumption) ?_
    rotate_left
    · intro w hSw
      try simp only [Cells, blk, List.cons_append, List.nil_append, and_true, Nat.reduceAdd, Nat.add_zero, Nat.zero_add] at hSw
      go_simp
      try with_reducible rfl
    simp only [Act.put, List.setIfInBounds_toArray, List.set_cons_zero, List.set_cons_succ]
    refine wpAnyH_take (i := 12) (oi := _) (v := ?_) (by rw [List.getElem?_toArray]; rfl) (by kernel_rfl) (by kernel_rfl) (by kernel_rfl) (by exact fun _ _ _ h => h) (Or.inl ⟨by rfl, ?_⟩) (by assumption) ?_
    rotate_left
    · intro w hSw
      try simp only [Cells, blk, List.cons_append, List.nil_append, and_true, Nat.reduceAdd, Nat.add_zero, Nat.zero_add] at hSw
      go_simp
      try with_reducible rfl
    simp only [Act.put, List.setIfInBounds_toArray, List.set_cons_zero, List.set_cons_succ]
    refine wpAnyH_ready (rs := [3, 13]) (by kernel_rfl) (by simp) (AllReadyH.cons (o := _) (by rw [List.getElem?_toArray]; rfl) (fun K hK => ?_) (AllReadyH.cons (o := _) (by rw [List.getElem?_toArray]; rfl) (fun K hK => ?_) AllReadyH.nil))
    · go_simp
      go_at_call 54
      refine (put_any T 8 (by omega) (by omega) _).mono ?_
      rintro e w3 ⟨v3, rfl, hown3, hB3⟩
      replace hown3 := own_base hown3 hHeld.2.1
      refine hK.out _ _ (⟨hHeld.1.trans (hB3.mono (by have := hHeld.2.1; omega)), Nat.le_trans hHeld.2.1 hB3.size, hHeld.2.2.keep hB3⟩) (fun hHeld2 => ?_)
      replace hHeld := hHeld2
      clear hK K hHeld2
      try simp only [Act.put, List.setIfInBounds_toArray, List.set_cons_zero, List.set_cons_succ]
      have hz := hHeld.2.1
      try replace hsr := hsr.below hB3
      clear hB3
      refine wpAnyH_ready (rs := [13]) (by kernel_rfl) (by simp) (AllReadyH.cons (o := _) (by rw [List.getElem?_toArray]; rfl) (fun K hK => ?_) AllReadyH.nil)
      go_simp
      generalize hX : World.alloc _ (.cells _ 5) = w13
      obtain ⟨h13, hB13, h13z⟩ := alloc_named hX
      clear hX h13z
      have hsr := sr_three h13
      clear h13
      refine hK.out _ _ (⟨hHeld.1.trans (hB13.mono (by have := hHeld.2.1; omega)), Nat.le_trans hHeld.2.1 hB13.size, hHeld.2.2.keep hB13⟩) (fun hHeld2 => ?_)
      replace hHeld := hHeld2
      clear hK K hHeld2
      try simp only [Act.put, List.setIfInBounds_toArray, List.set_cons_zero, List.set_cons_succ]
      have hz := hHeld.2.1
      try replace hown3 := own_below hown3 hB13
      clear hB13
      refine wpAnyH_ready (rs := [14]) (by kernel_rfl) (by simp) (AllReadyH.cons (o := _) (by rw [List.getElem?_toArray]; rfl) (fun K hK => ?_) AllReadyH.nil)
      refine step_append_sr (by rfl) _ _ 25 (by rfl) V.heap.size 5 i0 _ 1 1 Tryd.underlying25 hi hz0 hz1 hz2 rfl (by decide) _ 8 _ (by rfl) hown3 _ 3 _ (by rfl) hsr (by unfold maxLen; omega) (by omega) hz ?_
      intro v14 w14 hown14 hg14
      have hnb := hown3.lt
      refine hK.out _ _ (⟨hHeld.1.grown hg14 hz (fun q hq => (hnb q hq).1), Nat.le_trans hHeld.2.1 hg14.size, Cells.keep T0 (hHeld.1.grown hg14 hz (fun q hq => (hnb q hq).1))⟩) (fun hHeld2 => ?_)
      replace hHeld := hHeld2
      clear hK K hHeld2
      try simp only [Act.put, List.setIfInBounds_toArray, List.set_cons_zero, List.set_cons_succ]
      have hz := hHeld.2.1
      refine wpAnyH_take (i := 15) (oi := _) (v := ?_) (by rw [List.getElem?_toArray]; rfl) (by kernel_rfl) (by kernel_rfl) (by kernel_rfl) (by exact fun _ _ _ h => h) (Or.inl ⟨by rfl, ?_⟩) (by assumption) ?_
      rotate_left
      · intro w hSw
        try simp only [Cells, blk, List.cons_append, List.nil_append, and_true, Nat.reduceAdd, Nat.add_zero, Nat.zero_add] at hSw
        go_simp
        try with_reducible rfl
      simp only [Act.put, List.setIfInBounds_toArray, List.set_cons_zero, List.set_cons_succ]
      refine wpAnyH_done (by kernel_rfl) ?_ _
      go_wp2_with fail
      go_meet
      exact ⟨by simpa [bcells] using hown14, hHeld.1⟩
    · go_simp
      generalize hX : World.alloc _ (.cells _ 5) = w13
      obtain ⟨h13, hB13, h13z⟩ := alloc_named hX
      clear hX h13z
      have hsr := sr_three h13
      clear h13
      refine hK.out _ _ (⟨hHeld.1.trans (hB13.mono (by have := hHeld.2.1; omega)), Nat.le_trans hHeld.2.1 hB13.size, hHeld.2.2.keep hB13⟩) (fun hHeld2 => ?_)
      replace hHeld := hHeld2
      clear hK K hHeld2
      try simp only [Act.put, List.setIfInBounds_toArray, List.set_cons_zero, List.set_cons_succ]
      have hz := hHeld.2.1
      try replace hown3 := own_below hown3 hB13
      clear hB13
      refine wpAnyH_ready (rs := [3]) (by kernel_rfl) (by simp) (AllReadyH.cons (o := _) (by rw [List.getElem?_toArray]; rfl) (fun K hK => ?_) AllReadyH.nil)
      go_simp
      go_at_call 54
      refine (put_any T 8 (by omega) (by omega) _).mono ?_
      rintro e w3 ⟨v3, rfl, hown3, hB3⟩
      replace hown3 := own_base hown3 hHeld.2.1
      refine hK.out _ _ (⟨hHeld.1.trans (hB3.mono (by have := hHeld.2.1; omega)), Nat.le_trans hHeld.2.1 hB3.size, hHeld.2.2.keep hB3⟩) (fun hHeld2 => ?_)
      replace hHeld := hHeld2
      clear hK K hHeld2
      try simp only [Act.put, List.setIfInBounds_toArray, List.set_cons_zero, List.set_cons_succ]
      have hz := hHeld.2.1
      try replace hsr := hsr.below hB3
      clear hB3
      refine wpAnyH_ready (rs := [14]) (by kernel_rfl) (by simp) (AllReadyH.cons (o := _) (by rw [List.getElem?_toArray]; rfl) (fun K hK => ?_) AllReadyH.nil)
      refine step_append_sr (by rfl) _ _ 25 (by rfl) V.heap.size 5 i0 _ 1 1 Tryd.underlying25 hi hz0 hz1 hz2 rfl (by decide) _ 8 _ (by rfl) hown3 _ 3 _ (by rfl) hsr (by unfold maxLen; omega) (by omega) hz ?_
      intro v14 w14 hown14 hg14
      have hnb := hown3.lt
      refine hK.out _ _ (⟨hHeld.1.grown hg14 hz (fun q hq => (hnb q hq).1), Nat.le_trans hHeld.2.1 hg14.size, Cells.keep T0 (hHeld.1.grown hg14 hz (fun q hq => (hnb q hq).1))⟩) (fun hHeld2 => ?_)
      replace hHeld := hHeld2
      clear hK K hHeld2
      try simp only [Act.put, List.setIfInBounds_toArray, List.set_cons_zero, List.set_cons_succ]
      have hz := hHeld.2.1
      refine wpAnyH_take (i := 15) (oi := _) (v := ?_) (by rw [List.getElem?_toArray]; rfl) (by kernel_rfl) (by kernel_rfl) (by kernel_rfl) (by exact fun _ _ _ h => h) (Or.inl ⟨by rfl, ?_⟩) (by assumption) ?_
      rotate_left
      · intro w hSw
        try simp only [Cells, blk, List.cons_append, List.nil_append, and_true, Nat.reduceAdd, Nat.add_zero, Nat.zero_add] at hSw
        go_simp
        try with_reducible rfl
      simp only [Act.put, List.setIfInBounds_toArray, List.set_cons_zero, List.set_cons_succ]
      refine wpAnyH_done (by kernel_rfl) ?_ _
      go_wp2_with fail
      go_meet
      exact ⟨by simpa [bcells] using hown14, hHeld.1⟩
  case rest =>
  obtain ⟨hown, hB1⟩ := hcut
  rename World => W
  have T1 := T0.keep hB1
  have HOWN := Lib.hid hown
  have hzW := hB1.size
  clear hown
  go_upto_region 2 with fail
  go_cut [3] (fun v wx => wx.ownsRow V.heap.size 5 1 v (13 + L) (bcells D) ∧ Below V.heap.size V wx)
  case first =>
    refine wp_region_held_drew (S := (fun W' : World => Below V.heap.size V W' ∧ V.heap.size ≤ W'.heap.size ∧ Cells W' (blk w.heap.size 0 0 [.int .i64 (T : Int), .int .i64 (C : Int), .int .i64 (F : Int), .int .i64 (KD : Int), .slice a L c]))) (by kernel_rfl) (⟨hB1.drew, hzW, T1.drew⟩) (fun hHeld => ?_)
    refine wpAnyH_take (i := 0) (oi := _) (v := ?_) (by rw [List.getElem?_toArray]; rfl) (by kernel_rfl) (by kernel_rfl) (by kernel_rfl) (by exact fun _ _ _ h => h) (Or.inl ⟨by rfl, ?_⟩) (by assumption) ?_
    rotate_left
    · intro w hSw
      try simp only [Cells, blk, List.cons_append, List.nil_append, and_true, Nat.reduceAdd, Nat.add_zero, Nat.zero_add] at hSw
      go_simp
      try with_reducible rfl
    simp only [Act.put, List.setIfInBounds_toArray, List.set_cons_zero, List.set_cons_succ]
    refine wpAnyH_take (i := 1) (oi := _) (v := ?_) (by rw [List.getElem?_toArray]; rfl) (by kernel_rfl) (by kernel_rfl) (by kernel_rfl) (by exact fun _ _ _ h => h) (Or.inl ⟨by rfl, ?_⟩) (by assumption) ?_
    rotate_left
    · intro w hSw
      try simp only [Cells, blk, List.cons_append, List.nil_append, and_true, Nat.reduceAdd, Nat.add_zero, Nat.zero_add] at hSw
      go_simp
      try with_reducible rfl
    simp only [Act.put, List.setIfInBounds_toArray, List.set_cons_zero, List.set_cons_succ]
    refine wpAnyH_take (i := 2) (oi := _) (v := ?_) (by rw [List.getElem?_toArray]; rfl) (by kernel_rfl) (by kernel_rfl) (by kernel_rfl) (by exact fun _ _ _ h => h) (Or.inl ⟨by rfl, ?_⟩) (by assumption) ?_
    rotate_left
    · intro w hSw
      try simp only [Cells, blk, List.cons_append, List.nil_append, and_true, Nat.reduceAdd, Nat.add_zero, Nat.zero_add] at hSw
      go_simp
      try with_reducible rfl
    simp only [Act.put, List.setIfInBounds_toArray, List.set_cons_zero, List.set_cons_succ]
    refine wpAnyH_take (i := 3) (oi := _) (v := ?_) (by rw [List.getElem?_toArray]; rfl) (by kernel_rfl) (by kernel_rfl) (by kernel_rfl) (by exact fun _ _ _ h => h) (Or.inl ⟨by rfl, ?_⟩) (by assumption) ?_
    rotate_left
    · intro w hSw
      try simp only [Cells, blk, List.cons_append, List.nil_append, and_true, Nat.reduceAdd, Nat.add_zero, Nat.zero_add] at hSw
      go_simp
      try with_reducible rfl
    simp only [Act.put, List.setIfInBounds_toArray, List.set_cons_zero, List.set_cons_succ]
    refine wpAnyH_take (i := 4) (oi := _) (v := ?_) (by rw [List.getElem?_toArray]; rfl) (by kernel_rfl) (by kernel_rfl) (by kernel_rfl) (by exact fun _ _ _ h => h) (Or.inl ⟨by rfl, ?_⟩) (by assumption) ?_
    rotate_left
    · intro w hSw
      try simp only [Cells, blk, List.cons_append, List.nil_append, and_true, Nat.reduceAdd, Nat.add_zero, Nat.zero_add] at hSw
      go_simp
      try with_reducible rfl
    simp only [Act.put, List.setIfInBounds_toArray, List.set_cons_zero, List.set_cons_succ]
    refine wpAnyH_take (i := 7) (oi := _) (v := ?_) (by rw [List.getElem?_toArray]; rfl) (by kernel_rfl) (by kernel_rfl) (by kernel_rfl) (by exact fun _ _ _ h => h) (Or.inl ⟨by rfl, ?_⟩) (by assumption) ?_
    rotate_left
    · intro w hSw
      try simp only [Cells, blk, List.cons_append, List.nil_append, and_true, Nat.reduceAdd, Nat.add_zero, Nat.zero_add] at hSw
      go_simp
      try with_reducible rfl
    simp only [Act.put, List.setIfInBounds_toArray, List.set_cons_zero, List.set_cons_succ]
    refine wpAnyH_take (i := 8) (oi := _) (v := ?_) (by rw [List.getElem?_toArray]; rfl) (by kernel_rfl) (by kernel_rfl) (by kernel_rfl) (by exact fun _ _ _ h => h) (Or.inl ⟨by rfl, ?_⟩) (by assumption) ?_
    rotate_left
    · intro w hSw
      try simp only [Cells, blk, List.cons_append, List.nil_append, and_true, Nat.reduceAdd, Nat.add_zero, Nat.zero_add] at hSw
      go_simp
      try with_reducible rfl
    simp only [Act.put, List.setIfInBounds_toArray, List.set_cons_zero, List.set_cons_succ]
    refine wpAnyH_ready (rs := [5]) (by kernel_rfl) (by simp) (AllReadyH.cons (o := _) (by rw [List.getElem?_toArray]; rfl) (fun K hK => ?_) AllReadyH.nil)
    go_simp
    go_at_call 54
    refine (put_any L 2 (by omega) (by omega) _).mono ?_
    rintro e w5 ⟨v5, rfl, hown5, hB5⟩
    have hown3 := own_below (own_below HOWN.out (Below.refl _ _).drew) hB5
    have hz := hHeld.2.1
    replace hown5 := own_base hown5 hz
    have hsr5 := SR.of_own hown5 (bcells_one _) (by unfold maxLen; omega)
    refine hK.out _ _ (⟨hHeld.1.trans (hB5.mono hz), Nat.le_trans hz hB5.size, hHeld.2.2.keep hB5⟩) (fun hHeld2 => ?_)
    replace hHeld := hHeld2
    clear hK K hHeld2
    try simp only [Act.put, List.setIfInBounds_toArray, List.set_cons_zero, List.set_cons_succ]
    have hz := hHeld.2.1
    clear hB5
    refine wpAnyH_ready (rs := [6]) (by kernel_rfl) (by simp) (AllReadyH.cons (o := _) (by rw [List.getElem?_toArray]; rfl) (fun K hK => ?_) AllReadyH.nil)
    refine step_append_sr (by rfl) _ _ 25 (by rfl) V.heap.size 5 i0 _ 1 1 Tryd.underlying25 hi hz0 hz1 hz2 rfl (by decide) _ 11 _ (by rfl) hown3 _ 2 _ (by rfl) hsr5 (by unfold maxLen; omega) (by omega) hz ?_
    intro v6 w6 hown6 hg6
    have hnb := hown3.lt
    have hb6 := hHeld.1.grown hg6 hz (fun q hq => (hnb q hq).1)
    refine hK.out _ _ (⟨hb6, hb6.size, Cells.keep T0 hb6⟩) (fun hHeld2 => ?_)
    replace hHeld := hHeld2
    clear hK K hHeld2
    try simp only [Act.put, List.setIfInBounds_toArray, List.set_cons_zero, List.set_cons_succ]
    have hz := hHeld.2.1
    clear hsr5 hown5 hown3 hg6
    have hsr8 := (HBY.out.below hHeld.1).1
    rw [HL.out] at hsr8
    refine wpAnyH_ready (rs := [9]) (by kernel_rfl) (by simp) (AllReadyH.cons (o := _) (by rw [List.getElem?_toArray]; rfl) (fun K hK => ?_) AllReadyH.nil)
    refine step_append_sr (by rfl) _ _ 25 (by rfl) V.heap.size 5 i0 _ 1 1 Tryd.underlying25 hi hz0 hz1 hz2 rfl (by decide) _ 13 _ (by rfl) hown6 _ L _ (by rfl) hsr8 (by unfold maxLen; omega) (by omega) hz ?_
    intro v9 w9 hown9 hg9
    have hnb9 := hown6.lt
    have hb9 := hHeld.1.grown hg9 hz (fun q hq => (hnb9 q hq).1)
    refine hK.out _ _ (⟨hb9, hb9.size, Cells.keep T0 hb9⟩) (fun hHeld2 => ?_)
    replace hHeld := hHeld2
    clear hK K hHeld2
    try simp only [Act.put, List.setIfInBounds_toArray, List.set_cons_zero, List.set_cons_succ]
    rw [HD.out] at hown9
    refine wpAnyH_take (i := 10) (oi := _) (v := ?_) (by rw [List.getElem?_toArray]; rfl) (by kernel_rfl) (by kernel_rfl) (by kernel_rfl) (by exact fun _ _ _ h => h) (Or.inl ⟨by rfl, ?_⟩) (by assumption) ?_
    rotate_left
    · intro w hSw
      try simp only [Cells, blk, List.cons_append, List.nil_append, and_true, Nat.reduceAdd, Nat.add_zero, Nat.zero_add] at hSw
      go_simp
      try with_reducible rfl
    simp only [Act.put, List.setIfInBounds_toArray, List.set_cons_zero, List.set_cons_succ]
    refine wpAnyH_done (by kernel_rfl) ?_ _
    go_wp2_with fail
    go_meet
    exact ⟨hown9, hHeld.1⟩
  case rest =>
  obtain ⟨hown, hB2⟩ := hcut
  rename World => W2
  have hz2' := hB2.size
  have hbD := bytesAt_of_own hown HDLEN.out HDLT.out (by omega)
  have hsum := rsum_any u3 D W2 hbD
  rw [HS5.out] at hsum
  have cS : IntKind.u64.wrap (S5 : Int) = (S5 : Int) := IntWalk.u64_in _ (by omega)
  have HSUM := Lib.hid hsum
  have HOWN2 := Lib.hid hown
  have HF := Lib.hid (HB.out.trans (hB2.mono HB.out.size))
  clear hown hB2 hbD hsum HOWN T1 T0 HT0 HBY HB HD HDLT hB1
  go_wp2_with fail
  refine HSUM.out.mono ?_
  rintro e w' ⟨rfl, rfl⟩
  go_wp2_with fail
  refine (put_any S5 3 (by omega) (by omega) _).mono ?_
  rintro e w5 ⟨v5, rfl, hown5, hB5⟩
  have hown3 := own_below HOWN2.out hB5
  have hsr5 := SR.of_own hown5 (bcells_one _) (by unfold maxLen; omega)
  have HF5 := Lib.hid (HF.out.trans (hB5.mono HF.out.size))
  have hz5 : V.heap.size ≤ w5.heap.size := Nat.le_trans hz2' hB5.size
  clear hB5 HF HSUM HOWN2
  go_wp2_with (at_builtin; refine wpList_append_all rfl _ _ 25 rfl V.heap.size 5 i0 (.int .u8 0) 1 1 Tryd.underlying25 hi hz0 hz1 hz2 rfl (by decide) _ (13 + L) _ rfl hown3 _ 3 _ rfl hsr5 (by unfold maxLen; omega) (by omega) hz5 ?_)
  intro v7 w7 hown7 hg7 _
  have hB7 := HF5.out.grown hg7 (by omega) (fun q hq => Nat.le_trans (Nat.le_of_lt hVs) (hown3.lt q hq).1)
  have hfin := own_base hown7 (Nat.le_of_lt hVs)
  have HFIN := Lib.hid hfin
  have HB7 := Lib.hid hB7
  clear hown3 hown5 hsr5 HF5 hown7 hg7 hfin hB7
  go_wp2
  go_ret
  exact ⟨_, rfl, by simpa [bcells, show 16 + L = 13 + L + 3 by omega] using HFIN.out, HB7.out⟩
end Go.Proofs.YtccknpdnapoboaaDoor
