/- air: arguments that came in; the walk of AirTimes. -/
import Derived.Test.YthemdbgcamkecaaAirS
namespace Go.Proofs.Ythemdbgcamkecaa
open Go.RowKit

theorem Try.cells_int : Try.prog.cellsOf 3 = 1 := by kernel_rfl
theorem Try.cells_byte : Try.prog.cellsOf 5 = 1 := by kernel_rfl
theorem Try.cells_bytes : Try.prog.cellsOf 22 = 1 := by kernel_rfl
theorem Try.cells_pair : Try.prog.cellsOf 62 = 2 := by kernel_rfl
theorem Try.cells_jam : Try.prog.cellsOf 64 = 3 := by kernel_rfl
theorem Try.cells_loss : Try.prog.cellsOf 66 = 2 := by kernel_rfl
theorem Try.cells_tx : Try.prog.cellsOf 24 = 5 := by kernel_rfl
theorem Try.cells_air : Try.prog.cellsOf 34 = 4 := by kernel_rfl
theorem Try.cells_pairs : Try.prog.cellsOf 30 = 1 := by kernel_rfl
theorem Try.cells_jams : Try.prog.cellsOf 31 = 1 := by kernel_rfl
theorem Try.cells_losses : Try.prog.cellsOf 32 = 1 := by kernel_rfl
theorem Try.bytes_byte : Try.prog.bytesOf 5 = 1 := by kernel_rfl
theorem Try.bytes_pair : Try.prog.bytesOf 62 = 16 := by kernel_rfl
theorem Try.bytes_jam : Try.prog.bytesOf 64 = 24 := by kernel_rfl
theorem Try.bytes_loss : Try.prog.bytesOf 66 = 16 := by kernel_rfl
theorem Try.bytes_tx : Try.prog.bytesOf 24 = 56 := by kernel_rfl

def tenc (t : Int × Int) : List Value := [.int .i64 t.1, .int .i64 t.2]
theorem tcells_flat (l : List (Int × Int)) : tcells l = l.flatMap tenc := by
  induction l with
  | nil => rfl
  | cons t l ih => simp [tcells, tenc, ih]
theorem rd_two {w : World} {t : TypeId} {fs : Array Field} (ht : Try.prog.underlying t = some (.struct fs)) (hc : Try.prog.cellsOf t = 2) (h0 : ∃ f, fs[0]? = some f ∧ f.type = 3 ∧ f.offset = 0) (h1 : ∃ f, fs[1]? = some f ∧ f.type = 3 ∧ f.offset = 1)
    (cs : List Value) (h : Rd Try.prog w t cs) : ∃ t, cs = tenc t ∧ True := by
  obtain ⟨hl, hf⟩ := h.struct ht
  rw [hc] at hl
  obtain ⟨c0, c1, rfl⟩ := list2 cs hl
  obtain ⟨q0, hq0, e0, o0⟩ := h0
  obtain ⟨q1, hq1, e1, o1⟩ := h1
  have f0 := hf 0 _ hq0
  have f1 := hf 1 _ hq1
  rw [e0, o0] at f0
  rw [e1, o1] at f1
  simp only [Try.cells_int, List.drop_succ_cons, List.drop_zero, List.take_succ_cons, List.take_zero] at f0 f1
  obtain ⟨x, e0, _⟩ := f0.i64 Try.underlying3
  obtain ⟨y, e1, _⟩ := f1.i64 Try.underlying3
  simp only [List.cons.injEq, and_true] at e0 e1
  subst e0 e1
  exact ⟨(x, y), rfl, trivial⟩
theorem rd_jam {w : World} (cs : List Value) (h : Rd Try.prog w 64 cs) : ∃ t, cs = jenc t ∧ True := by
  obtain ⟨hl, hf⟩ := h.struct Try.underlying64
  rw [Try.cells_jam] at hl
  obtain ⟨c0, c1, c2, rfl⟩ := list3 cs hl
  have f0 : Rd Try.prog w 3 (([c0, c1, c2].drop 0).take (Try.prog.cellsOf 3)) := hf 0 _ rfl
  have f1 : Rd Try.prog w 3 (([c0, c1, c2].drop 1).take (Try.prog.cellsOf 3)) := hf 1 _ rfl
  have f2 : Rd Try.prog w 3 (([c0, c1, c2].drop 2).take (Try.prog.cellsOf 3)) := hf 2 _ rfl
  simp only [Try.cells_int, List.drop_succ_cons, List.drop_zero, List.take_succ_cons, List.take_zero] at f0 f1 f2
  obtain ⟨x, e0, _⟩ := f0.i64 Try.underlying3
  obtain ⟨y, e1, _⟩ := f1.i64 Try.underlying3
  obtain ⟨z, e2, _⟩ := f2.i64 Try.underlying3
  simp only [List.cons.injEq, and_true] at e0 e1 e2
  subst e0 e1 e2
  exact ⟨(x, y, z), rfl, trivial⟩
theorem rd_bytes {w : World} {v : Value} (h : Rd Try.prog w 22 [v]) : ∃ bs, BytesAt w v bs := by
  obtain ⟨u, e, hs⟩ := h.slIn Try.underlying22
  simp only [List.cons.injEq, and_true] at e
  subst e
  exact bytes_of_in Try.underlying5 Try.cells_byte Try.bytes_byte hs
theorem five_tx {w : World} (c0 c1 c2 c3 c4 : Value) (f0 : Rd Try.prog w 3 (([c0, c1, c2, c3, c4].drop 0).take (Try.prog.cellsOf 3))) (f1 : Rd Try.prog w 3 (([c0, c1, c2, c3, c4].drop 1).take (Try.prog.cellsOf 3)))
    (f2 : Rd Try.prog w 3 (([c0, c1, c2, c3, c4].drop 2).take (Try.prog.cellsOf 3))) (f3 : Rd Try.prog w 3 (([c0, c1, c2, c3, c4].drop 3).take (Try.prog.cellsOf 3))) (f4 : Rd Try.prog w 22 (([c0, c1, c2, c3, c4].drop 4).take (Try.prog.cellsOf 22))) :
    ∃ (t : Tr) (a : Option Addr) (c : Nat), [c0, c1, c2, c3, c4] = [.int .i64 t.id, .int .i64 t.fr, .int .i64 t.ch, .int .i64 t.st, .slice a t.bs.length c] ∧ BytesAt w (.slice a t.bs.length c) t.bs := by
  simp only [Try.cells_int, Try.cells_bytes, List.drop_succ_cons, List.drop_zero, List.take_succ_cons, List.take_zero] at f0 f1 f2 f3 f4
  obtain ⟨x0, e0, _⟩ := f0.i64 Try.underlying3
  obtain ⟨x1, e1, _⟩ := f1.i64 Try.underlying3
  obtain ⟨x2, e2, _⟩ := f2.i64 Try.underlying3
  obtain ⟨x3, e3, _⟩ := f3.i64 Try.underlying3
  obtain ⟨bs, hb⟩ := rd_bytes f4
  obtain ⟨a, c, rfl⟩ := hb.1.val
  simp only [List.cons.injEq, and_true] at e0 e1 e2 e3
  subst e0 e1 e2 e3
  exact ⟨⟨x0, x1, x2, x3, bs⟩, a, c, rfl, hb⟩
theorem rd_tx {w : World} (cs : List Value) (h : Rd Try.prog w 24 cs) : ∃ (t : Tr) (a : Option Addr) (c : Nat), cs = [.int .i64 t.id, .int .i64 t.fr, .int .i64 t.ch, .int .i64 t.st, .slice a t.bs.length c] ∧ BytesAt w (.slice a t.bs.length c) t.bs := by
  obtain ⟨hl, hf⟩ := h.struct Try.underlying24
  rw [Try.cells_tx] at hl
  obtain ⟨c0, c1, c2, c3, c4, rfl⟩ := list5 cs hl
  exact five_tx c0 c1 c2 c3 c4 (hf 0 _ rfl) (hf 1 _ rfl) (hf 2 _ rfl) (hf 3 _ rfl) (hf 4 _ rfl)
theorem arg_tx {w : World} {v : Value} (h : Arg Try.prog w 24 v) : ∃ (t : Tr) (a : Option Addr) (c : Nat), v = txV t a c ∧ BytesAt w (.slice a t.bs.length c) t.bs := by
  obtain ⟨cs, rfl, hl, hf⟩ := h.struct Try.underlying24
  rw [Try.cells_tx] at hl
  obtain ⟨c0, c1, c2, c3, c4, rfl⟩ := list5 cs hl
  obtain ⟨t, a, c, e, hb⟩ := five_tx c0 c1 c2 c3 c4 (hf 0 _ rfl) (hf 1 _ rfl) (hf 2 _ rfl) (hf 3 _ rfl) (hf 4 _ rfl)
  exact ⟨t, a, c, by rw [e]; rfl, hb⟩

/-- what came in as an Air, and as transmissions -/
structure AirIn (w : World) (d : Int) (lv jv sv : Value) (ls : List (Int × Int)) (js : List (Int × Int × Int)) (ss : List (Int × Int)) : Prop where
  l : SR w lv ls.length 2 (tcells ls)
  j : SR w jv js.length 3 (jcells js)
  s : SR w sv ss.length 2 (tcells ss)
  lb : ls.length * 16 ≤ 140737488355328
  jb : js.length * 24 ≤ 140737488355328
  sb : ss.length * 16 ≤ 140737488355328
theorem tenc_one (x : Int × Int) : ∀ u ∈ tenc x, u.oneCell' = true := by
  intro u hu
  simp [tenc] at hu
  rcases hu with rfl | rfl <;> rfl
theorem rd_pairs {w : World} {v : Value} (h : Rd Try.prog w 30 [v]) : ∃ l, SR w v l.length 2 (tcells l) ∧ l.length * 16 ≤ 140737488355328 := by
  obtain ⟨u, e, hs⟩ := h.slIn Try.underlying30
  simp only [List.cons.injEq, and_true] at e
  subst e
  obtain ⟨l, h1, h2, _⟩ := sr_of_in tenc (fun _ => True) 2 16 (fun _ => rfl) (fun x _ => tenc_one x) (by decide) Try.cells_pair Try.bytes_pair (rd_two Try.underlying62 Try.cells_pair ⟨_, rfl, rfl, rfl⟩ ⟨_, rfl, rfl, rfl⟩) hs
  unfold reachBytes at h2
  exact ⟨l, by rw [tcells_flat]; exact h1, by omega⟩
theorem rd_losses {w : World} {v : Value} (h : Rd Try.prog w 32 [v]) : ∃ l, SR w v l.length 2 (tcells l) ∧ l.length * 16 ≤ 140737488355328 := by
  obtain ⟨u, e, hs⟩ := h.slIn Try.underlying32
  simp only [List.cons.injEq, and_true] at e
  subst e
  obtain ⟨l, h1, h2, _⟩ := sr_of_in tenc (fun _ => True) 2 16 (fun _ => rfl) (fun x _ => tenc_one x) (by decide) Try.cells_loss Try.bytes_loss (rd_two Try.underlying66 Try.cells_loss ⟨_, rfl, rfl, rfl⟩ ⟨_, rfl, rfl, rfl⟩) hs
  unfold reachBytes at h2
  exact ⟨l, by rw [tcells_flat]; exact h1, by omega⟩
theorem rd_jams {w : World} {v : Value} (h : Rd Try.prog w 31 [v]) : ∃ l, SR w v l.length 3 (jcells l) ∧ l.length * 24 ≤ 140737488355328 := by
  obtain ⟨u, e, hs⟩ := h.slIn Try.underlying31
  simp only [List.cons.injEq, and_true] at e
  subst e
  obtain ⟨l, h1, h2, _⟩ := sr_of_in jenc (fun _ => True) 3 24 (fun _ => rfl) (fun x _ u hu => by simp [jenc] at hu; rcases hu with rfl | rfl | rfl <;> rfl) (by decide) Try.cells_jam Try.bytes_jam rd_jam hs
  unfold reachBytes at h2
  exact ⟨l, h1, by omega⟩
theorem arg_air {w : World} {v : Value} (h : Arg Try.prog w 34 v) : ∃ d lv jv sv ls js ss, v = .agg #[.int .i64 d, lv, jv, sv] ∧ AirIn w d lv jv sv ls js ss ∧ -9223372036854775808 ≤ d ∧ d ≤ 9223372036854775807 := by
  obtain ⟨cs, rfl, hl, hf⟩ := h.struct Try.underlying34
  rw [Try.cells_air] at hl
  obtain ⟨c0, c1, c2, c3, rfl⟩ := list4 cs hl
  have f0 : Rd Try.prog w 3 (([c0, c1, c2, c3].drop 0).take (Try.prog.cellsOf 3)) := hf 0 _ rfl
  have f1 : Rd Try.prog w 30 (([c0, c1, c2, c3].drop 1).take (Try.prog.cellsOf 30)) := hf 1 _ rfl
  have f2 : Rd Try.prog w 31 (([c0, c1, c2, c3].drop 2).take (Try.prog.cellsOf 31)) := hf 2 _ rfl
  have f3 : Rd Try.prog w 32 (([c0, c1, c2, c3].drop 3).take (Try.prog.cellsOf 32)) := hf 3 _ rfl
  simp only [Try.cells_int, Try.cells_pairs, Try.cells_jams, Try.cells_losses, List.drop_succ_cons, List.drop_zero, List.take_succ_cons, List.take_zero] at f0 f1 f2 f3
  obtain ⟨x0, e0, hx⟩ := f0.i64 Try.underlying3
  obtain ⟨ls, l1, l2⟩ := rd_pairs f1
  obtain ⟨js, j1, j2⟩ := rd_jams f2
  obtain ⟨ss, s1, s2⟩ := rd_losses f3
  simp only [List.cons.injEq, and_true] at e0
  subst e0
  exact ⟨x0, c1, c2, c3, ls, js, ss, rfl, ⟨l1, j1, s1, l2, j2, s2⟩, hx⟩
theorem arg_txs {w : World} {v : Value} (h : Arg Try.prog w 35 v) : ∃ ts, Txs w v ts ∧ ts.length * 56 ≤ 140737488355328 := by
  obtain ⟨l, h1, h2, h3⟩ := sr_of_in (α := Tr × Option Addr × Nat) (fun x => [.int .i64 x.1.id, .int .i64 x.1.fr, .int .i64 x.1.ch, .int .i64 x.1.st, .slice x.2.1 x.1.bs.length x.2.2]) (fun x => BytesAt w (.slice x.2.1 x.1.bs.length x.2.2) x.1.bs) 5 56 (fun _ => rfl)
    (fun x _ u hu => by simp at hu; rcases hu with rfl | rfl | rfl | rfl | rfl <;> rfl) (by decide) Try.cells_tx Try.bytes_tx (fun cs hcs => by obtain ⟨t, a, c, e, hb⟩ := rd_tx cs hcs; exact ⟨(t, a, c), e, hb⟩) (h.slIn Try.underlying35)
  unfold reachBytes at h2
  obtain ⟨q1, _, _, ao, cap, rfl, _, hc⟩ := h1
  refine ⟨l.map (·.1), ⟨by rw [List.length_map]; exact q1, ao, cap, by rw [List.length_map], fun h0 => ?_⟩, by rw [List.length_map]; omega⟩
  rw [List.length_map] at h0
  obtain ⟨b, off, rfl, hb, hcell⟩ := hc h0
  refine ⟨b, off, rfl, hb, fun k hk => ?_⟩
  have hk' : k < l.length := by simpa using hk
  have g := fun j (hj : j < 5) => flat_get (fun x : Tr × Option Addr × Nat => [Value.int .i64 x.1.id, .int .i64 x.1.fr, .int .i64 x.1.ch, .int .i64 x.1.st, .slice x.2.1 x.1.bs.length x.2.2]) 5 (fun _ => rfl) l k j hk' hj
  simp only [List.getElem_map]
  exact ⟨l[k].2.1, l[k].2.2, hcell _ _ (g 0 (by decide)), hcell _ _ (g 1 (by decide)), hcell _ _ (g 2 (by decide)), hcell _ _ (g 3 (by decide)), hcell _ _ (g 4 (by decide)), h3 _ (List.getElem_mem hk')⟩

set_option linter.unusedSimpArgs false in
set_option linter.unusedVariables false in
set_option maxHeartbeats 4000000 in
theorem airTimes_walk (v0 v1 v2 : Value) (w : World) (a0 : Arg Try.prog w 24 v0) (a1 : Arg Try.prog w 24 v1) (a2 : Arg Try.prog w 3 v2) :
    Calls Try.prog 3 #[v0, v1, v2] w fun e w' => e = .returned (.bool true) ∧ Below w.heap.size w w' := by
  obtain ⟨⟨ai, af, ac, sa, ab⟩, aa, acp, rfl, hba⟩ := arg_tx a0
  obtain ⟨⟨bi, bf, bc, sb, bb⟩, ba, bcp, rfl, hbb⟩ := arg_tx a1
  obtain ⟨n, rfl, _⟩ := a2.i64 Try.underlying3
  unfold txV
  have ha := hba.2.1
  have hb := hbb.2.1
  unfold reachBytes at ha hb
  simp only at ha hb hba hbb ⊢
  obtain ⟨an, han⟩ : ∃ n, ab.length = n := ⟨_, rfl⟩
  obtain ⟨bn, hbn⟩ : ∃ n, bb.length = n := ⟨_, rfl⟩
  rw [han] at ha ⊢
  rw [hbn] at hb ⊢
  clear han hbn hba hbb a0 a1 a2
  have T0 := cells_new w [.int .i64 ai, .int .i64 af, .int .i64 ac, .int .i64 sa, .slice aa an acp] 24
  have hB0 : Below w.heap.size w (w.alloc (.cells #[.int .i64 ai, .int .i64 af, .int .i64 ac, .int .i64 sa, .slice aa an acp] 24)) := (Below.refl _ _).alloc (Nat.le_refl _) _
  have e1 : (w.alloc (.cells #[.int .i64 ai, .int .i64 af, .int .i64 ac, .int .i64 sa, .slice aa an acp] 24)).heap.size = w.heap.size + 1 := by simp
  have T1 := cells_new (w.alloc (.cells #[.int .i64 ai, .int .i64 af, .int .i64 ac, .int .i64 sa, .slice aa an acp] 24)) [.int .i64 bi, .int .i64 bf, .int .i64 bc, .int .i64 sb, .slice ba bn bcp] 24
  rw [e1] at T1
  have T := (T0.keep ((Below.refl _ _).alloc (Nat.le_refl _) (.cells #[.int .i64 bi, .int .i64 bf, .int .i64 bc, .int .i64 sb, .slice ba bn bcp] 24))).app T1
  have hBW := hB0.alloc hB0.size (.cells #[.int .i64 bi, .int .i64 bf, .int .i64 bc, .int .i64 sb, .slice ba bn bcp] 24)
  clear T0 T1 hB0 e1
  by_cases hbig : 1099511627776 < n ∨ sa < -1099511627776 ∨ 1099511627776 < sa ∨ sb < -1099511627776 ∨ 1099511627776 < sb
  · have hc : decide (1099511627776 < n) = true ∨ (decide (1099511627776 < n) = false ∧ decide (sa < -1099511627776) = true) ∨ (decide (1099511627776 < n) = false ∧ decide (sa < -1099511627776) = false ∧ decide (1099511627776 < sa) = true) ∨ (decide (1099511627776 < n) = false ∧ decide (sa < -1099511627776) = false ∧ decide (1099511627776 < sa) = false ∧ decide (sb < -1099511627776) = true) ∨ (decide (1099511627776 < n) = false ∧ decide (sa < -1099511627776) = false ∧ decide (1099511627776 < sa) = false ∧ decide (sb < -1099511627776) = false ∧ decide (1099511627776 < sb) = true) := by
      simp only [decide_eq_true_eq, decide_eq_false_iff_not]
      omega
    clear hbig
    rcases hc with g1 | ⟨g1, g2⟩ | ⟨g1, g2, g3⟩ | ⟨g1, g2, g3, g4⟩ | ⟨g1, g2, g3, g4, g5⟩
    all_goals
      go_enter Try.func3, Try.ntmps3
      go_wp2_with fail
      refine (lives_any _).mono ?_
      rintro e w1 ⟨rfl, hB1⟩
      have hBn := hBW.trans (hB1.mono hBW.size)
      have T2 := T.keep hB1
      have hOpen := T2
      simp only [Cells, blk, List.cons_append, List.nil_append, and_true, Nat.reduceAdd, Nat.add_zero, Nat.zero_add] at hOpen
      obtain ⟨k0, k1, k2, k3, k4, k5, k6, k7, k8, k9⟩ := hOpen
      go_wp2
      go_ret
      exact ⟨rfl, hBn⟩
  · have g1 : decide (1099511627776 < n) = false := by simp; omega
    have g2 : decide (sa < -1099511627776) = false := by simp; omega
    have g3 : decide (1099511627776 < sa) = false := by simp; omega
    have g4 : decide (sb < -1099511627776) = false := by simp; omega
    have g5 : decide (1099511627776 < sb) = false := by simp; omega
    have ct := time_any n (by omega)
    have cr := rtime_any n (by omega)
    have ea := end_any ai af ac sa aa an acp (by omega) (by omega)
    have er := rend_any ai af ac sa aa an acp (by omega) (by omega)
    have oa := over_any ai af ac sa bi bf bc sb aa ba an acp bn bcp (by omega) (by omega) (by omega) (by omega)
    have orr := rover_any ai af ac sa bi bf bc sb aa ba an acp bn bcp (by omega) (by omega) (by omega) (by omega)
    have ob := over_any bi bf bc sb ai af ac sa ba aa bn bcp an acp (by omega) (by omega) (by omega) (by omega)
    rw [overB_symm] at ob
    obtain ⟨M, hM⟩ : ∃ M, timeI n = M := ⟨_, rfl⟩
    obtain ⟨EA, hEA⟩ : ∃ M, endI sa an = M := ⟨_, rfl⟩
    obtain ⟨O, hO⟩ : ∃ M, overB ac bc sa sb (endI sa an) (endI sb bn) = M := ⟨_, rfl⟩
    rw [hM] at ct cr
    rw [hO] at oa orr ob
    rw [hEA] at ea er
    have CT := Lib.hid ct
    have CR := Lib.hid cr
    have CA := Lib.hid ea
    have CE := Lib.hid er
    have OA := Lib.hid oa
    have OR := Lib.hid orr
    have OB := Lib.hid ob
    clear ct cr ea er oa orr ob hM hEA hO hbig
    go_enter Try.func3, Try.ntmps3
    go_wp2_with fail
    refine (lives_any _).mono ?_
    rintro e w1 ⟨rfl, hB1⟩
    have hBn := hBW.trans (hB1.mono hBW.size)
    have T2 := T.keep hB1
    have T3 := T2
    have hOpen := T2
    simp only [Cells, blk, List.cons_append, List.nil_append, and_true, Nat.reduceAdd, Nat.add_zero, Nat.zero_add] at hOpen
    obtain ⟨k0, k1, k2, k3, k4, k5, k6, k7, k8, k9⟩ := hOpen
    clear T T2
    go_wp2_with fail
    refine wp_region_held_drew (S := (fun W' : World => Cells W' (blk w.heap.size 0 0 [.int .i64 ai, .int .i64 af, .int .i64 ac, .int .i64 sa, .slice aa an acp] ++ blk (w.heap.size + 1) 0 0 [.int .i64 bi, .int .i64 bf, .int .i64 bc, .int .i64 sb, .slice ba bn bcp]))) (by kernel_rfl) (T3) (fun hHeld => ?_)
    refine wpAnyH_take (i := 0) (oi := _) (v := ?_) (by rw [List.getElem?_toArray]; rfl) (by kernel_rfl) (by kernel_rfl) (by kernel_rfl) (by exact fun _ _ _ h => h) (Or.inl ⟨by rfl, ?_⟩) (by assumption) ?_
    rotate_left
    · intro w hSw
      try simp only [Cells, blk, List.cons_append, List.nil_append, and_true, Nat.reduceAdd, Nat.add_zero, Nat.zero_add] at hSw
      go_simp
      try with_reducible rfl
    simp only [Act.put, List.setIfInBounds_toArray, List.set_cons_zero, List.set_cons_succ]
    refine wpAnyH_take (i := 2) (oi := _) (v := ?_) (by rw [List.getElem?_toArray]; rfl) (by kernel_rfl) (by kernel_rfl) (by kernel_rfl) (by exact fun _ _ _ h => h) (Or.inl ⟨by rfl, ?_⟩) (by assumption) ?_
    rotate_left
    · intro w hSw
      try simp only [Cells, blk, List.cons_append, List.nil_append, and_true, Nat.reduceAdd, Nat.add_zero, Nat.zero_add] at hSw
      go_simp
      try with_reducible rfl
    simp only [Act.put, List.setIfInBounds_toArray, List.set_cons_zero, List.set_cons_succ]
    refine wpAnyH_ready (rs := [1]) (by kernel_rfl) (by simp) (AllReadyH.cons (o := _) (by rw [List.getElem?_toArray]; rfl) (fun K hK => ?_) AllReadyH.nil)
    go_simp
    go_at_call 11
    refine (CT.out _).mono ?_
    rintro e w' ⟨rfl, rfl⟩
    clear hHeld
    refine hK.out _ _ (T3) (fun hHeld => ?_)
    clear hK K
    try simp only [Act.put, List.setIfInBounds_toArray, List.set_cons_zero, List.set_cons_succ]
    refine wpAnyH_ready (rs := [3]) (by kernel_rfl) (by simp) (AllReadyH.cons (o := _) (by rw [List.getElem?_toArray]; rfl) (fun K hK => ?_) AllReadyH.nil)
    go_simp
    go_at_call 12
    refine (CR.out _).mono ?_
    rintro e w' ⟨rfl, rfl⟩
    clear hHeld
    refine hK.out _ _ (T3) (fun hHeld => ?_)
    clear hK K
    try simp only [Act.put, List.setIfInBounds_toArray, List.set_cons_zero, List.set_cons_succ]
    refine wpAnyH_take (i := 4) (oi := _) (v := ?_) (by rw [List.getElem?_toArray]; rfl) (by kernel_rfl) (by kernel_rfl) (by kernel_rfl) (by exact fun _ _ _ h => h) (Or.inl ⟨by rfl, ?_⟩) (by assumption) ?_
    rotate_left
    · intro w hSw
      try simp only [Cells, blk, List.cons_append, List.nil_append, and_true, Nat.reduceAdd, Nat.add_zero, Nat.zero_add] at hSw
      go_simp
      try with_reducible rfl
    simp only [Act.put, List.setIfInBounds_toArray, List.set_cons_zero, List.set_cons_succ]
    refine wpAnyH_take (i := 5) (oi := _) (v := ?_) (by rw [List.getElem?_toArray]; rfl) (by kernel_rfl) (by kernel_rfl) (by kernel_rfl) (by exact fun _ _ _ h => h) (Or.inl ⟨by rfl, ?_⟩) (by assumption) ?_
    rotate_left
    · intro w hSw
      try simp only [Cells, blk, List.cons_append, List.nil_append, and_true, Nat.reduceAdd, Nat.add_zero, Nat.zero_add] at hSw
      go_simp
      try with_reducible rfl
    simp only [Act.put, List.setIfInBounds_toArray, List.set_cons_zero, List.set_cons_succ]
    refine wpAnyH_take (i := 6) (oi := _) (v := ?_) (by rw [List.getElem?_toArray]; rfl) (by kernel_rfl) (by kernel_rfl) (by kernel_rfl) (by exact fun _ _ _ h => h) (Or.inl ⟨by rfl, ?_⟩) (by assumption) ?_
    rotate_left
    · intro w hSw
      try simp only [Cells, blk, List.cons_append, List.nil_append, and_true, Nat.reduceAdd, Nat.add_zero, Nat.zero_add] at hSw
      go_simp
      try with_reducible rfl
    simp only [Act.put, List.setIfInBounds_toArray, List.set_cons_zero, List.set_cons_succ]
    refine wpAnyH_take (i := 8) (oi := _) (v := ?_) (by rw [List.getElem?_toArray]; rfl) (by kernel_rfl) (by kernel_rfl) (by kernel_rfl) (by exact fun _ _ _ h => h) (Or.inl ⟨by rfl, ?_⟩) (by assumption) ?_
    rotate_left
    · intro w hSw
      try simp only [Cells, blk, List.cons_append, List.nil_append, and_true, Nat.reduceAdd, Nat.add_zero, Nat.zero_add] at hSw
      go_simp
      try with_reducible rfl
    simp only [Act.put, List.setIfInBounds_toArray, List.set_cons_zero, List.set_cons_succ]
    refine wpAnyH_ready (rs := [7]) (by kernel_rfl) (by simp) (AllReadyH.cons (o := _) (by rw [List.getElem?_toArray]; rfl) (fun K hK => ?_) AllReadyH.nil)
    go_simp
    go_at_call 13
    refine (CA.out _).mono ?_
    rintro e w2 ⟨rfl, hB2⟩
    have T4 := Cells.keep (W := w1.drew) T3.drew hB2
    have hB3 := hBn.drew.trans (hB2.mono hBn.drew.size)
    clear hHeld
    refine hK.out _ _ (T4) (fun hHeld => ?_)
    clear hK K
    try simp only [Act.put, List.setIfInBounds_toArray, List.set_cons_zero, List.set_cons_succ]
    refine wpAnyH_ready (rs := [9]) (by kernel_rfl) (by simp) (AllReadyH.cons (o := _) (by rw [List.getElem?_toArray]; rfl) (fun K hK => ?_) AllReadyH.nil)
    go_simp
    go_at_call 14
    refine (CE.out _).mono ?_
    rintro e w3 ⟨rfl, hB4⟩
    have T5 := T4.keep hB4
    have hB5 := hB3.trans (hB4.mono hB3.size)
    clear hHeld
    refine hK.out _ _ (T5) (fun hHeld => ?_)
    clear hK K
    try simp only [Act.put, List.setIfInBounds_toArray, List.set_cons_zero, List.set_cons_succ]
    refine wpAnyH_take (i := 10) (oi := _) (v := ?_) (by rw [List.getElem?_toArray]; rfl) (by kernel_rfl) (by kernel_rfl) (by kernel_rfl) (by exact fun _ _ _ h => h) (Or.inl ⟨by rfl, ?_⟩) (by assumption) ?_
    rotate_left
    · intro w hSw
      try simp only [Cells, blk, List.cons_append, List.nil_append, and_true, Nat.reduceAdd, Nat.add_zero, Nat.zero_add] at hSw
      go_simp
      try with_reducible rfl
    simp only [Act.put, List.setIfInBounds_toArray, List.set_cons_zero, List.set_cons_succ]
    refine wpAnyH_take (i := 11) (oi := _) (v := ?_) (by rw [List.getElem?_toArray]; rfl) (by kernel_rfl) (by kernel_rfl) (by kernel_rfl) (by exact fun _ _ _ h => h) (Or.inl ⟨by rfl, ?_⟩) (by assumption) ?_
    rotate_left
    · intro w hSw
      try simp only [Cells, blk, List.cons_append, List.nil_append, and_true, Nat.reduceAdd, Nat.add_zero, Nat.zero_add] at hSw
      go_simp
      try with_reducible rfl
    simp only [Act.put, List.setIfInBounds_toArray, List.set_cons_zero, List.set_cons_succ]
    refine wpAnyH_take (i := 12) (oi := _) (v := ?_) (by rw [List.getElem?_toArray]; rfl) (by kernel_rfl) (by kernel_rfl) (by kernel_rfl) (by exact fun _ _ _ h => h) (Or.inl ⟨by rfl, ?_⟩) (by assumption) ?_
    rotate_left
    · intro w hSw
      try simp only [Cells, blk, List.cons_append, List.nil_append, and_true, Nat.reduceAdd, Nat.add_zero, Nat.zero_add] at hSw
      go_simp
      try with_reducible rfl
    simp only [Act.put, List.setIfInBounds_toArray, List.set_cons_zero, List.set_cons_succ]
    refine wpAnyH_take (i := 13) (oi := _) (v := ?_) (by rw [List.getElem?_toArray]; rfl) (by kernel_rfl) (by kernel_rfl) (by kernel_rfl) (by exact fun _ _ _ h => h) (Or.inl ⟨by rfl, ?_⟩) (by assumption) ?_
    rotate_left
    · intro w hSw
      try simp only [Cells, blk, List.cons_append, List.nil_append, and_true, Nat.reduceAdd, Nat.add_zero, Nat.zero_add] at hSw
      go_simp
      try with_reducible rfl
    simp only [Act.put, List.setIfInBounds_toArray, List.set_cons_zero, List.set_cons_succ]
    refine wpAnyH_take (i := 14) (oi := _) (v := ?_) (by rw [List.getElem?_toArray]; rfl) (by kernel_rfl) (by kernel_rfl) (by kernel_rfl) (by exact fun _ _ _ h => h) (Or.inl ⟨by rfl, ?_⟩) (by assumption) ?_
    rotate_left
    · intro w hSw
      try simp only [Cells, blk, List.cons_append, List.nil_append, and_true, Nat.reduceAdd, Nat.add_zero, Nat.zero_add] at hSw
      go_simp
      try with_reducible rfl
    simp only [Act.put, List.setIfInBounds_toArray, List.set_cons_zero, List.set_cons_succ]
    refine wpAnyH_take (i := 16) (oi := _) (v := ?_) (by rw [List.getElem?_toArray]; rfl) (by kernel_rfl) (by kernel_rfl) (by kernel_rfl) (by exact fun _ _ _ h => h) (Or.inl ⟨by rfl, ?_⟩) (by assumption) ?_
    rotate_left
    · intro w hSw
      try simp only [Cells, blk, List.cons_append, List.nil_append, and_true, Nat.reduceAdd, Nat.add_zero, Nat.zero_add] at hSw
      go_simp
      try with_reducible rfl
    simp only [Act.put, List.setIfInBounds_toArray, List.set_cons_zero, List.set_cons_succ]
    refine wpAnyH_take (i := 17) (oi := _) (v := ?_) (by rw [List.getElem?_toArray]; rfl) (by kernel_rfl) (by kernel_rfl) (by kernel_rfl) (by exact fun _ _ _ h => h) (Or.inl ⟨by rfl, ?_⟩) (by assumption) ?_
    rotate_left
    · intro w hSw
      try simp only [Cells, blk, List.cons_append, List.nil_append, and_true, Nat.reduceAdd, Nat.add_zero, Nat.zero_add] at hSw
      go_simp
      try with_reducible rfl
    simp only [Act.put, List.setIfInBounds_toArray, List.set_cons_zero, List.set_cons_succ]
    refine wpAnyH_ready (rs := [15]) (by kernel_rfl) (by simp) (AllReadyH.cons (o := _) (by rw [List.getElem?_toArray]; rfl) (fun K hK => ?_) AllReadyH.nil)
    go_simp
    go_at_call 15
    refine (OA.out _).mono ?_
    rintro e w4 ⟨rfl, hB6⟩
    have T6 := T5.keep hB6
    have hB7 := hB5.trans (hB6.mono hB5.size)
    clear hHeld
    refine hK.out _ _ (T6) (fun hHeld => ?_)
    clear hK K
    try simp only [Act.put, List.setIfInBounds_toArray, List.set_cons_zero, List.set_cons_succ]
    refine wpAnyH_ready (rs := [18]) (by kernel_rfl) (by simp) (AllReadyH.cons (o := _) (by rw [List.getElem?_toArray]; rfl) (fun K hK => ?_) AllReadyH.nil)
    go_simp
    go_at_call 16
    refine (OR.out _).mono ?_
    rintro e w5 ⟨rfl, hB8⟩
    have T7 := T6.keep hB8
    have hB9 := hB7.trans (hB8.mono hB7.size)
    clear hHeld
    refine hK.out _ _ (T7) (fun hHeld => ?_)
    clear hK K
    try simp only [Act.put, List.setIfInBounds_toArray, List.set_cons_zero, List.set_cons_succ]
    refine wpAnyH_take (i := 19) (oi := _) (v := ?_) (by rw [List.getElem?_toArray]; rfl) (by kernel_rfl) (by kernel_rfl) (by kernel_rfl) (by exact fun _ _ _ h => h) (Or.inl ⟨by rfl, ?_⟩) (by assumption) ?_
    rotate_left
    · intro w hSw
      try simp only [Cells, blk, List.cons_append, List.nil_append, and_true, Nat.reduceAdd, Nat.add_zero, Nat.zero_add] at hSw
      go_simp
      try with_reducible rfl
    simp only [Act.put, List.setIfInBounds_toArray, List.set_cons_zero, List.set_cons_succ]
    refine wpAnyH_take (i := 20) (oi := _) (v := ?_) (by rw [List.getElem?_toArray]; rfl) (by kernel_rfl) (by kernel_rfl) (by kernel_rfl) (by exact fun _ _ _ h => h) (Or.inl ⟨by rfl, ?_⟩) (by assumption) ?_
    rotate_left
    · intro w hSw
      try simp only [Cells, blk, List.cons_append, List.nil_append, and_true, Nat.reduceAdd, Nat.add_zero, Nat.zero_add] at hSw
      go_simp
      try with_reducible rfl
    simp only [Act.put, List.setIfInBounds_toArray, List.set_cons_zero, List.set_cons_succ]
    refine wpAnyH_take (i := 21) (oi := _) (v := ?_) (by rw [List.getElem?_toArray]; rfl) (by kernel_rfl) (by kernel_rfl) (by kernel_rfl) (by exact fun _ _ _ h => h) (Or.inl ⟨by rfl, ?_⟩) (by assumption) ?_
    rotate_left
    · intro w hSw
      try simp only [Cells, blk, List.cons_append, List.nil_append, and_true, Nat.reduceAdd, Nat.add_zero, Nat.zero_add] at hSw
      go_simp
      try with_reducible rfl
    simp only [Act.put, List.setIfInBounds_toArray, List.set_cons_zero, List.set_cons_succ]
    refine wpAnyH_take (i := 22) (oi := _) (v := ?_) (by rw [List.getElem?_toArray]; rfl) (by kernel_rfl) (by kernel_rfl) (by kernel_rfl) (by exact fun _ _ _ h => h) (Or.inl ⟨by rfl, ?_⟩) (by assumption) ?_
    rotate_left
    · intro w hSw
      try simp only [Cells, blk, List.cons_append, List.nil_append, and_true, Nat.reduceAdd, Nat.add_zero, Nat.zero_add] at hSw
      go_simp
      try with_reducible rfl
    simp only [Act.put, List.setIfInBounds_toArray, List.set_cons_zero, List.set_cons_succ]
    refine wpAnyH_take (i := 23) (oi := _) (v := ?_) (by rw [List.getElem?_toArray]; rfl) (by kernel_rfl) (by kernel_rfl) (by kernel_rfl) (by exact fun _ _ _ h => h) (Or.inl ⟨by rfl, ?_⟩) (by assumption) ?_
    rotate_left
    · intro w hSw
      try simp only [Cells, blk, List.cons_append, List.nil_append, and_true, Nat.reduceAdd, Nat.add_zero, Nat.zero_add] at hSw
      go_simp
      try with_reducible rfl
    simp only [Act.put, List.setIfInBounds_toArray, List.set_cons_zero, List.set_cons_succ]
    refine wpAnyH_take (i := 25) (oi := _) (v := ?_) (by rw [List.getElem?_toArray]; rfl) (by kernel_rfl) (by kernel_rfl) (by kernel_rfl) (by exact fun _ _ _ h => h) (Or.inl ⟨by rfl, ?_⟩) (by assumption) ?_
    rotate_left
    · intro w hSw
      try simp only [Cells, blk, List.cons_append, List.nil_append, and_true, Nat.reduceAdd, Nat.add_zero, Nat.zero_add] at hSw
      go_simp
      try with_reducible rfl
    simp only [Act.put, List.setIfInBounds_toArray, List.set_cons_zero, List.set_cons_succ]
    refine wpAnyH_take (i := 26) (oi := _) (v := ?_) (by rw [List.getElem?_toArray]; rfl) (by kernel_rfl) (by kernel_rfl) (by kernel_rfl) (by exact fun _ _ _ h => h) (Or.inl ⟨by rfl, ?_⟩) (by assumption) ?_
    rotate_left
    · intro w hSw
      try simp only [Cells, blk, List.cons_append, List.nil_append, and_true, Nat.reduceAdd, Nat.add_zero, Nat.zero_add] at hSw
      go_simp
      try with_reducible rfl
    simp only [Act.put, List.setIfInBounds_toArray, List.set_cons_zero, List.set_cons_succ]
    refine wpAnyH_ready (rs := [24]) (by kernel_rfl) (by simp) (AllReadyH.cons (o := _) (by rw [List.getElem?_toArray]; rfl) (fun K hK => ?_) AllReadyH.nil)
    go_simp
    go_at_call 15
    refine (OB.out _).mono ?_
    rintro e w6 ⟨rfl, hB10⟩
    have T8 := T7.keep hB10
    have hB11 := hB9.trans (hB10.mono hB9.size)
    clear hHeld
    refine hK.out _ _ (T8) (fun hHeld => ?_)
    clear hK K
    try simp only [Act.put, List.setIfInBounds_toArray, List.set_cons_zero, List.set_cons_succ]
    refine wpAnyH_ready (rs := [27]) (by kernel_rfl) (by simp) (AllReadyH.cons (o := _) (by rw [List.getElem?_toArray]; rfl) (fun K hK => ?_) AllReadyH.nil)
    go_simp
    go_at_call 15
    refine (OA.out _).mono ?_
    rintro e w7 ⟨rfl, hB12⟩
    have T9 := T8.keep hB12
    have hB13 := hB11.trans (hB12.mono hB11.size)
    clear hHeld
    refine hK.out _ _ (T9) (fun hHeld => ?_)
    clear hK K
    try simp only [Act.put, List.setIfInBounds_toArray, List.set_cons_zero, List.set_cons_succ]
    refine wpAnyH_take (i := 28) (oi := _) (v := ?_) (by rw [List.getElem?_toArray]; rfl) (by kernel_rfl) (by kernel_rfl) (by kernel_rfl) (by exact fun _ _ _ h => h) (Or.inl ⟨by rfl, ?_⟩) (by assumption) ?_
    rotate_left
    · intro w hSw
      try simp only [Cells, blk, List.cons_append, List.nil_append, and_true, Nat.reduceAdd, Nat.add_zero, Nat.zero_add] at hSw
      go_simp
      try with_reducible rfl
    simp only [Act.put, List.setIfInBounds_toArray, List.set_cons_zero, List.set_cons_succ]
    refine wpAnyH_take (i := 29) (oi := _) (v := ?_) (by rw [List.getElem?_toArray]; rfl) (by kernel_rfl) (by kernel_rfl) (by kernel_rfl) (by exact fun _ _ _ h => h) (Or.inl ⟨by rfl, ?_⟩) (by assumption) ?_
    rotate_left
    · intro w hSw
      try simp only [Cells, blk, List.cons_append, List.nil_append, and_true, Nat.reduceAdd, Nat.add_zero, Nat.zero_add] at hSw
      go_simp
      try with_reducible rfl
    simp only [Act.put, List.setIfInBounds_toArray, List.set_cons_zero, List.set_cons_succ]
    refine wpAnyH_take (i := 30) (oi := _) (v := ?_) (by rw [List.getElem?_toArray]; rfl) (by kernel_rfl) (by kernel_rfl) (by kernel_rfl) (by exact fun _ _ _ h => h) (Or.inl ⟨by rfl, ?_⟩) (by assumption) ?_
    rotate_left
    · intro w hSw
      try simp only [Cells, blk, List.cons_append, List.nil_append, and_true, Nat.reduceAdd, Nat.add_zero, Nat.zero_add] at hSw
      go_simp
      try with_reducible rfl
    simp only [Act.put, List.setIfInBounds_toArray, List.set_cons_zero, List.set_cons_succ]
    refine wpAnyH_done (by kernel_rfl) ?_ _
    go_wp2
    go_ret
    exact ⟨ret_bool (by simp), hB13⟩
end Go.Proofs.Ythemdbgcamkecaa
