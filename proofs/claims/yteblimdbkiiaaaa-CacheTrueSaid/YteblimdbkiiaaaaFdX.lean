/- cache: Use. -/
import Derived.Test.YteblimdbkiiaaaaFdW
namespace Go.Proofs.Yteblimdbkiiaaaa
open Go.RowKit Go.Shelf
attribute [local go_sem] Oper.semAt_some

/-- block B holds cells -/
def Blk (W : World) (B : Nat) (t : TypeId) (cs : List Value) : Prop := W.heap[B]? = some (.cells cs.toArray t (0, 0))
theorem Blk.lt {W : World} {B : Nat} {t : TypeId} {cs : List Value} (h : Blk W B t cs) : B < W.heap.size := (Array.getElem?_eq_some_iff.1 h).1
theorem Blk.new (W : World) (t : TypeId) (cs : List Value) : Blk (W.alloc (.cells cs.toArray t)) W.heap.size t cs := World.alloc_heap_new W _
theorem Blk.below {W W' : World} {B : Nat} {t : TypeId} {cs : List Value} (h : Blk W B t cs) (hb : Below W.heap.size W W') : Blk W' B t cs := (hb.block B h.lt).trans h
theorem Blk.kept {W W' : World} {row : Option Nat} {B : Nat} {t : TypeId} {cs : List Value} (h : Blk W B t cs) (hg : W.grownBy W' row) (hne : some B ≠ row) : Blk W' B t cs := (hg.block B h.lt hne).trans h
theorem Blk.own {β : Type} (B : Nat) (t : TypeId) (f : β → List Value) : Go.Own (fun s W => Blk W B t (f s)) := fun s X Y row hs hg hrow =>
  hs.kept hg (fun e' => by obtain ⟨o, ho, hc⟩ := hrow B e'.symm; rw [show X.heap[B]? = _ from hs] at ho; cases ho; cases hc)
theorem Blk.other {W : World} {B B' : Nat} {t : TypeId} {cs : List Value} (h : Blk W B t cs) (hne : B ≠ B') (u : Value) : Blk (W.setCell ⟨B', 0, none⟩ u) B t cs := h.kept (grownBy_setCell' W B' u) (fun e => hne (by cases e; rfl))
theorem cells_of_arr {W : World} {B : Nat} {t : TypeId} {A : Array Value} (h : W.heap[B]? = some (.cells A t (0, 0))) : ∀ (l : List Value) (j : Nat), (∀ i x, l[i]? = some x → A[j + i]? = some x) → Cells W (blk B 0 j l)
  | [], _, _ => trivial
  | x :: l, j, hx => ⟨by
      have := hx 0 x rfl
      simp only [World.cell?, h, Nat.zero_add]
      simpa using this, cells_of_arr h l (j + 1) fun i y hy => by
      have := hx (i + 1) y (by simpa using hy)
      rwa [show j + 1 + i = j + (i + 1) by omega]⟩
theorem Blk.cells {W : World} {B : Nat} {t : TypeId} {cs : List Value} (h : Blk W B t cs) : Cells W (blk B 0 0 cs) := cells_of_arr h cs 0 fun i x hx => by simpa using hx
theorem Blk.frozen {W : World} {B : Nat} {t : TypeId} {cs : List Value} (h : Blk W B t cs) (o : Nat) : W.frozen? ⟨B, o, none⟩ = false := by simp [World.frozen?, show W.heap[B]? = _ from h]
theorem Below.others {W W' : World} (h : Below W.heap.size W W') : KeepsOthers W W' := ⟨h.size, fun k _ hk _ => (h.block k (Array.getElem?_eq_some_iff.1 hk).1).trans hk⟩

theorem chs_any (l : List Fd) (p : Fd → Bool) : (chs l).find? (fun c => p (l.getD c.val default)) = none ↔ ∀ x ∈ l, chB x = true → p x = false := by
  unfold chs chTo
  rw [List.find?_eq_none]
  constructor
  · intro h x hx hc
    obtain ⟨j, hj, rfl⟩ := List.getElem_of_mem hx
    have := h ⟨j, hj⟩ (List.mem_filter.2 ⟨by rw [List.take_of_length_le (by simp)]; exact List.mem_finRange _, by simpa [List.getElem?_eq_getElem hj] using hc⟩)
    simpa [List.getElem?_eq_getElem hj] using this
  · intro h c hc
    have hc' : chB (l.getD c.val default) = true := by simpa using (List.mem_filter.1 hc).2
    have := h (l.getD c.val default) (by rw [getD_lt c.2]; exact List.getElem_mem _) hc'
    simp only [this, Bool.false_eq_true, not_false_eq_true]
/-- the first of the characteristics that is asked for is the list's -/
theorem chs_first (l : List Fd) (p : Fd → Bool) (pre : List (Fin l.length)) (x : Fin l.length) (h : pre ++ [x] <+: chs l) (hn : ∀ c ∈ pre, p (l.getD c.val default) = false) (hx : p (l.getD x.val default) = true) :
    l.find? (fun y => chB y && p y) = some (l.getD x.val default) := by
  have hmem : x ∈ chs l := h.subset (by simp)
  have hcx : chB (l.getD x.val default) = true := by simpa using (List.mem_filter.1 hmem).2
  refine find_first l x.val x.2 (fun j hj => ?_) (by rw [hcx, hx]; rfl)
  by_cases hc : chB (l.getD j default) = true
  · have hjl : j < l.length := by omega
    have hjm : (⟨j, hjl⟩ : Fin l.length) ∈ chs l := by
      unfold chs chTo
      rw [List.mem_filter]
      exact ⟨by rw [List.take_of_length_le (by simp)]; exact List.mem_finRange _, by simpa using hc⟩
    have hsrt : (chs l).Pairwise (fun a b => a.val < b.val) := by
      unfold chs chTo
      refine List.Pairwise.filter _ (List.Pairwise.sublist (List.take_sublist _ _) ?_)
      rw [List.pairwise_iff_getElem]
      intro a b ha hb hab
      simpa using hab
    obtain ⟨r, hr⟩ := h
    rw [← hr] at hjm hsrt
    have hin : (⟨j, hjl⟩ : Fin l.length) ∈ pre := by
      rw [List.mem_append, List.mem_append] at hjm
      rcases hjm with (hm | hm) | hm
      · exact hm
      · have : (⟨j, hjl⟩ : Fin l.length) = x := by simpa using hm
        have := congrArg Fin.val this
        simp only at this
        omega
      · have := (List.pairwise_append.1 hsrt).2.2 x (by simp) _ hm
        simp at this
        omega
    rw [hn _ hin, Bool.and_false]
  · have : chB (l.getD j default) = false := by simpa using hc
    rw [this, Bool.false_and]
theorem useL_eq (l : List Fd) (sh sl ch cl : Int) : useL l sh sl ch cl = match l.find? (fun y => chB y && ((y.hi == ch && y.lo == cl) && l.any (inB sh sl y.ha))) with
  | some x => (x.va, 0)
  | none => (0, 6) := by
  unfold useL
  congr 1
  congr 1
  funext y
  unfold useB
  rw [Bool.and_assoc]
def useP (l : List Fd) (sh sl ch cl : Int) (y : Fd) : Bool := (y.hi == ch && y.lo == cl) && l.any (inB sh sl y.ha)
theorem use_none (l : List Fd) (sh sl ch cl : Int) (h : ∀ c ∈ chs l, useP l sh sl ch cl (l.getD c.val default) = false) : useL l sh sl ch cl = (0, 6) := by
  rw [useL_eq]
  have : l.find? (fun y => chB y && ((y.hi == ch && y.lo == cl) && l.any (inB sh sl y.ha))) = none := by
    rw [List.find?_eq_none]
    intro y hy
    obtain ⟨j, hj, rfl⟩ := List.getElem_of_mem hy
    by_cases hc : chB l[j] = true
    · have hm : (⟨j, hj⟩ : Fin l.length) ∈ chs l := by
        unfold chs chTo
        rw [List.mem_filter]
        exact ⟨by rw [List.take_of_length_le (by simp)]; exact List.mem_finRange _, by simpa [List.getElem?_eq_getElem hj] using hc⟩
      have := h _ hm
      rw [getD_lt hj] at this
      unfold useP at this
      rw [hc, this]
      decide
    · have : chB l[j] = false := by simpa using hc
      rw [this, Bool.false_and]
      decide
  rw [this]
theorem use_first (l : List Fd) (sh sl ch cl : Int) (pre : List (Fin l.length)) (x : Fin l.length) (h : pre ++ [x] <+: chs l) (hn : ∀ c ∈ pre, useP l sh sl ch cl (l.getD c.val default) = false) (hx : useP l sh sl ch cl (l.getD x.val default) = true) : useL l sh sl ch cl = ((l.getD x.val default).va, 0) := by
  rw [useL_eq]
  have := chs_first l (useP l sh sl ch cl) pre x h hn hx
  unfold useP at this
  rw [this]
/-- what lies in Use's own memory -/
def UB (ha : Int) (fv : Value) (sh sl ch cl : Int) (B : Nat) (r : Int) (e : Int) (W : World) : Prop :=
  Blk W B 26 [.bool true, .int .u64 ha, fv, .bool false] ∧ Blk W (B + 1) 34 [.int .u64 sh, .int .u64 sl] ∧ Blk W (B + 1 + 1) 34 [.int .u64 ch, .int .u64 cl] ∧ Blk W (B + 1 + 1 + 1) 35 [.int .u16 r] ∧ Blk W (B + 1 + 1 + 1 + 1) 36 [.int .i64 e]
theorem UB.below {ha : Int} {fv : Value} {sh sl ch cl : Int} {B : Nat} {r e : Int} {W W' : World} (h : UB ha fv sh sl ch cl B r e W) (hb : Below W.heap.size W W') : UB ha fv sh sl ch cl B r e W' := ⟨h.1.below hb, h.2.1.below hb, h.2.2.1.below hb, h.2.2.2.1.below hb, h.2.2.2.2.below hb⟩
theorem UB.own {β : Type} (ha : Int) (fv : Value) (sh sl ch cl : Int) (B : Nat) (r e : β → Int) : Go.Own (fun s W => UB ha fv sh sl ch cl B (r s) (e s) W) := fun _ X Y row hs hg hr =>
  ⟨Blk.own B _ (fun _ : Unit => _) () X Y row hs.1 hg hr, Blk.own (B + 1) _ (fun _ : Unit => _) () X Y row hs.2.1 hg hr, Blk.own (B + 1 + 1) _ (fun _ : Unit => _) () X Y row hs.2.2.1 hg hr, Blk.own (B + 1 + 1 + 1) _ (fun _ : Unit => _) () X Y row hs.2.2.2.1 hg hr, Blk.own (B + 1 + 1 + 1 + 1) _ (fun _ : Unit => _) () X Y row hs.2.2.2.2 hg hr⟩
theorem Blk.set {W : World} {B : Nat} {t : TypeId} {v : Value} (v' : Value) (h : Blk W B t [v]) : Blk (W.setCell ⟨B, 0, none⟩ v') B t [v'] := Boxed.set v' h
theorem UB.set {ha : Int} {fv : Value} {sh sl ch cl : Int} {B : Nat} {r e : Int} {W : World} (h : UB ha fv sh sl ch cl B r e W) (r' e' : Int) : UB ha fv sh sl ch cl B r' e' ((W.setCell ⟨B + 1 + 1 + 1, 0, none⟩ (.int .u16 r')).setCell ⟨B + 1 + 1 + 1 + 1, 0, none⟩ (.int .i64 e')) :=
  ⟨(h.1.other (by omega) _).other (by omega) _, (h.2.1.other (by omega) _).other (by omega) _, (h.2.2.1.other (by omega) _).other (by omega) _, (h.2.2.2.1.set _).other (by omega) _, (h.2.2.2.2.other (by omega) _).set _⟩
set_option linter.unusedSimpArgs false in
set_option linter.unusedVariables false in
set_option maxRecDepth 100000 in
set_option maxHeartbeats 4000000 in
theorem use_in (n : Nat) (hn : 4 ≤ n) (ha : Int) (l : List Fd) (fv : Value) (sh sl ch cl : Int) (w : World) (hs : SR w fv l.length 6 (fcells l)) (hlen : l.length ≤ 1000000) :
    CallsIn Fence.wide n Try.prog 16 #[.agg #[.bool true, .int .u64 ha, fv, .bool false], .agg #[.int .u64 sh, .int .u64 sl], .agg #[.int .u64 ch, .int .u64 cl]] w fun e w' => e = .returned (.tuple #[.int .u16 (useL l sh sl ch cl).1, .int .i64 (useL l sh sl ch cl).2]) ∧ Below w.heap.size w w' := by
  have h1 : 1 ≤ n := by omega
  have hbl : 0 < l.length → ∀ b, fv.ownBlock = some b → b < w.heap.size := fun h0 b hb => by
    obtain ⟨_, _, _, ao, cap, rfl, _, h4⟩ := hs
    obtain ⟨b', off, rfl, hlt, _⟩ := h4 h0
    simp [Value.ownBlock] at hb
    omega
  have HSR := Lib.hid hs
  obtain ⟨_, _, _, ao, cap, rfl, _, _⟩ := hs
  obtain ⟨m, hm⟩ : ∃ m, l.length = m := ⟨_, rfl⟩
  have HM := Lib.hid hm
  have HBL := Lib.hid hbl
  rw [hm] at hlen
  have HSR' : Hid (SR w (.slice ao m cap) l.length 6 (fcells l)) := by rw [← HM.out]; exact HSR
  have HBL' : Hid (0 < l.length → ∀ b, (Value.slice ao m cap).ownBlock = some b → b < w.heap.size) := by rw [← HM.out]; exact HBL
  rw [hm]
  clear hm hbl HSR HBL
  have hB5 : Below w.heap.size w (((((w.alloc (.cells #[.bool true, .int .u64 ha, .slice ao m cap, .bool false] 26)).alloc (.cells #[.int .u64 sh, .int .u64 sl] 34)).alloc (.cells #[.int .u64 ch, .int .u64 cl] 34)).alloc (.cells #[.int .u16 0] 35)).alloc (.cells #[.int .i64 0] 36)) := (((((Below.refl _ _).alloc (Nat.le_refl _) _).alloc (by simp) _).alloc (by simp; omega) _).alloc (by simp; omega) _).alloc (by simp; omega) _
  have hz5 : (((((w.alloc (.cells #[.bool true, .int .u64 ha, .slice ao m cap, .bool false] 26)).alloc (.cells #[.int .u64 sh, .int .u64 sl] 34)).alloc (.cells #[.int .u64 ch, .int .u64 cl] 34)).alloc (.cells #[.int .u16 0] 35)).alloc (.cells #[.int .i64 0] 36)).heap.size = w.heap.size + 5 := by simp
  have hU : UB ha (.slice ao m cap) sh sl ch cl w.heap.size 0 0 (((((w.alloc (.cells #[.bool true, .int .u64 ha, .slice ao m cap, .bool false] 26)).alloc (.cells #[.int .u64 sh, .int .u64 sl] 34)).alloc (.cells #[.int .u64 ch, .int .u64 cl] 34)).alloc (.cells #[.int .u16 0] 35)).alloc (.cells #[.int .i64 0] 36)) := by
    have b0 := Blk.new w 26 [.bool true, .int .u64 ha, .slice ao m cap, .bool false]
    have b1 := Blk.new (w.alloc (.cells #[.bool true, .int .u64 ha, .slice ao m cap, .bool false] 26)) 34 [.int .u64 sh, .int .u64 sl]
    have b2 := Blk.new ((w.alloc (.cells #[.bool true, .int .u64 ha, .slice ao m cap, .bool false] 26)).alloc (.cells #[.int .u64 sh, .int .u64 sl] 34)) 34 [.int .u64 ch, .int .u64 cl]
    have b3 := Blk.new (((w.alloc (.cells #[.bool true, .int .u64 ha, .slice ao m cap, .bool false] 26)).alloc (.cells #[.int .u64 sh, .int .u64 sl] 34)).alloc (.cells #[.int .u64 ch, .int .u64 cl] 34)) 35 [.int .u16 0]
    have b4 := Blk.new ((((w.alloc (.cells #[.bool true, .int .u64 ha, .slice ao m cap, .bool false] 26)).alloc (.cells #[.int .u64 sh, .int .u64 sl] 34)).alloc (.cells #[.int .u64 ch, .int .u64 cl] 34)).alloc (.cells #[.int .u16 0] 35)) 36 [.int .i64 0]
    simp only [World.size_alloc] at b1 b2 b3 b4
    have al : ∀ (W : World) (o : Obj), Below W.heap.size W (W.alloc o) := fun W o => (Below.refl _ _).alloc (Nat.le_refl _) _
    exact ⟨(((b0.below (al _ _)).below (al _ _)).below (al _ _)).below (al _ _), ((b1.below (al _ _)).below (al _ _)).below (al _ _), (b2.below (al _ _)).below (al _ _), b3.below (al _ _), b4⟩
  have HU := Lib.hid hU
  have HZ5 := Lib.hid hz5
  clear hU hz5
  refine callsIn_of_wp_marks Try.func16 rfl trivial ?_ rfl
  simp only [Try.ntmps16, List.size_toArray, List.length_cons, List.length_nil, Nat.reduceAdd, Nat.reduceSub, Array.replicate_succ, Array.replicate_zero, List.push_toArray, List.append_toArray, List.nil_append, List.cons_append]
  gi_wp2_with fail
  refine ⟨trivial, ?_⟩
  gi_at_call 39
  refine (callsIn_wide.2 (usable_any true false ha _ _)).mono ?_
  rintro e wu ⟨rfl, hbu⟩
  have hUu := HU.out.below hbu
  have hzu : w.heap.size + 5 ≤ wu.heap.size := by have := hbu.size; have := HZ5.out; omega
  have hBu : Below w.heap.size w wu := hB5.trans (hbu.mono (by have := HZ5.out; omega))
  have HUu := Lib.hid hUu
  obtain ⟨c0, c1, c2, c3, _⟩ := hUu.1.cells
  clear hUu HU hbu HZ5 hB5
  simp only [Nat.zero_add, Nat.add_zero, Nat.reduceAdd, Bool.not_false, Bool.and_self] at c0 c1 c2 c3 ⊢
  gi_wp2_with (refine ⟨trivial, ?_⟩; gi_at_call 40; refine (chr_in (n - 1) _ _ _ _).mono ?_; rintro e w' ⟨rfl, rfl⟩)
  clear c0 c1 c2 c3
  have bM := Blk.new wu 24 [.slice ao m cap]
  obtain ⟨W0, hW0⟩ : ∃ W0, wu.alloc (.cells #[.slice ao m cap] 24) = W0 := ⟨_, rfl⟩
  have hB0 : Below w.heap.size w W0 := by rw [← hW0]; exact hBu.alloc hBu.size _
  have hU0 : UB ha (.slice ao m cap) sh sl ch cl w.heap.size 0 0 W0 := by rw [← hW0]; exact HUu.out.below ((Below.refl _ _).alloc (Nat.le_refl _) _)
  have hz0 : wu.heap.size + 1 = W0.heap.size := by rw [← hW0]; simp
  have bM' : Blk W0 wu.heap.size 24 [.slice ao m cap] := by rw [← hW0]; exact bM
  rw [hW0]
  have hSR0 := HSR'.out.below hB0
  have cM : W0.cell? ⟨wu.heap.size, 0, none⟩ = some (.slice ao m cap) := bM'.cells.1
  clear bM hW0 HUu hBu bM'
  refine wpIn_rangeFunc_ownH rfl h1 (gf := 56) (lb := #[.pointer (some ⟨wu.heap.size, 0, none⟩)]) rfl trivial (enters_of Try.func56 (by kernel_rfl) rfl)
    (chr_stops (n - 1) (by omega) wu.heap.size w.heap.size l (.slice ao m cap) (by rw [HM.out]; exact hlen) W0 (by omega) cM hSR0 HBL'.out (by omega)) belowK_t (belowK_b (by omega)) (Below.refl _ _) (fun _ => rfl)
    (fun pre W => (Hid (∀ c ∈ pre, useP l sh sl ch cl (l.getD c.val default) = false) ∧ UB ha (.slice ao m cap) sh sl ch cl w.heap.size 0 0 W) ∧ Below w.heap.size w W)
    (fun c pre W => (c = .ret ∧ ∃ p x, pre = p ++ [x] ∧ Hid ((∀ c ∈ p, useP l sh sl ch cl (l.getD c.val default) = false) ∧ useP l sh sl ch cl (l.getD x.val default) = true) ∧ UB ha (.slice ao m cap) sh sl ch cl w.heap.size (l.getD x.val default).va 0 W) ∧ Below w.heap.size w W)
    ?hI ?hIx ⟨⟨Lib.hid (fun c hc => absurd hc (by simp)), hU0⟩, hB0⟩
    (fun x a' W => ∃ Bx, w.heap.size + 4 < Bx ∧ Blk W Bx 53 (fenc (l.getD x.val default)) ∧ a' = { tmps := #[.agg #[.bool true, .int .u64 ha, .slice ao m cap, .bool false], .agg #[.int .u64 sh, .int .u64 sl], .agg #[.int .u64 ch, .int .u64 cl], .pointer (some ⟨w.heap.size, 0, none⟩), .pointer (some ⟨w.heap.size + 1, 0, none⟩), .pointer (some ⟨w.heap.size + 1 + 1, 0, none⟩), .pointer (some ⟨w.heap.size + 1 + 1 + 1, 0, none⟩), .pointer (some ⟨w.heap.size + 1 + 1 + 1 + 1, 0, none⟩), undef, .pointer (some ⟨Bx, 0, none⟩), undef, .agg #[.bool true, .int .u64 ha, .slice ao m cap, .bool false], .bool true, .bool false, .pointer (some ⟨w.heap.size, 2, none⟩), .slice ao m cap, .func (.func 56) #[] #[.pointer (some ⟨wu.heap.size, 0, none⟩)], .int .i64 (x.val : Int), (elF (l.getD x.val default)).val, undef, undef, undef, undef, undef, undef, undef, undef, undef, undef, undef, undef, undef], defers := [] })
    ?hAx ?assign ?body ?done ?stop
  case hI =>
    exact OwnFrom.and (OwnFrom.and (ownFrom_pure _ _) (Own.from (UB.own ha _ sh sl ch cl w.heap.size (fun _ => 0) (fun _ => 0)) _)) (ownFrom_below (Nat.le_refl _) (by omega))
  case hIx =>
    exact fun c => OwnFrom.and (Own.from (fun s A B row hs hg hr => by
      obtain ⟨h1, p, x, h2, h3, h4⟩ := hs
      exact ⟨h1, p, x, h2, h3, UB.own ha _ sh sl ch cl w.heap.size (fun _ : Unit => _) (fun _ : Unit => _) () A B row h4 hg hr⟩) _) (ownFrom_below (Nat.le_refl _) (by omega))
  case hAx =>
    exact fun x a' _ X Y row hs hg hr => by obtain ⟨Bx, h1, h2, h3⟩ := hs; exact ⟨Bx, h1, Blk.own Bx _ (fun (_ : Unit) => _) () X Y row h2 hg (fun r e => (hr r e).2), h3⟩
  case assign =>
    rintro k pre x W K ⟨⟨hp, hUW⟩, hBW⟩ hK
    have hzW : w.heap.size + 4 < W.heap.size := hUW.2.2.2.2.lt
    obtain ⟨⟨y0, y1, y2, y3, y4, y5⟩, hY⟩ : ∃ y, l.getD x.val default = y := ⟨_, rfl⟩
    rw [hY] at hK
    simp only [hY, El.val, elF]
    clear hY
    gi_wp2
    exact hK _ _ ((KeepsOthers.alloc _ _).from _) ((Below.refl _ W).alloc hBW.size _) ⟨⟨hp, hUW.below ((Below.refl _ W).alloc (Nat.le_refl _) _)⟩, hBW.alloc hBW.size _⟩ ⟨W.heap.size, hzW, Blk.new W _ (fenc ⟨y0, y1, y2, y3, y4, y5⟩), rfl⟩
  case body =>
    rintro k pre x a' W hl ⟨r, hr⟩ ⟨⟨hp, hUW⟩, hBW⟩ ⟨Bx, hBx, bX, rfl⟩ hlt
    have hn1 : 1 ≤ n - 1 - 1 := by omega
    have hSRW := HSR'.out.below hBW
    have hT : Cells W (blk (w.heap.size + 1) 0 0 [.int .u64 sh, .int .u64 sl] ++ blk Bx 0 0 (fenc (l.getD x.val default))) := hUW.2.1.cells.app bX.cells
    have hcon := contains2_any sh sl (l.getD x.val default) (w.heap.size + 1) Bx (.slice ao m cap) l W hSRW (by rw [HM.out]; exact hlen) hT
    have HP := Lib.hid (show useP l sh sl ch cl (l.getD x.val default) = (((l.getD x.val default).hi == ch && (l.getD x.val default).lo == cl) && l.any (inB sh sl (l.getD x.val default).ha)) from rfl)
    obtain ⟨y6, hy6⟩ : ∃ y, l.any (inB sh sl (l.getD x.val default).ha) = y := ⟨_, rfl⟩
    rw [hy6] at hcon HP
    have HCON := Lib.hid hcon
    have HBX : Hid (Blk W Bx 53 (fenc (l.getD x.val default))) := bX
    have HVA := Lib.hid (show (l.getD x.val default).va = (l.getD x.val default).va from rfl)
    have HUW := Lib.hid hUW
    obtain ⟨⟨y0, y1, y2, y3, y4, y5⟩, hY⟩ : ∃ y, l.getD x.val default = y := ⟨_, rfl⟩
    rw [hY] at HP HBX
    have HYY := Lib.hid hY
    simp only [hY, El.val, elF] at hcon ⊢
    obtain ⟨e3, he3⟩ : ∃ e, (y4 == ch) = e := ⟨_, rfl⟩
    obtain ⟨e4, he4⟩ : ∃ e, (y5 == cl) = e := ⟨_, rfl⟩
    have HP2 : Hid (useP l sh sl ch cl (l.getD x.val default) = ((e3 && e4) && y6)) := by unfold Hid; rw [hY, HP.out]; simp only [he3, he4]
    obtain ⟨c0, c1, c2, c3, _⟩ := hUW.1.cells
    simp only [Nat.zero_add, Nat.add_zero, Nat.reduceAdd] at c0 c1 c2 c3
    have HPP := Lib.hid hp
    clear hT hcon hy6 bX HVA hY HP hUW hSRW hp
    gi_wp2_with fail
    refine ⟨trivial, ?_⟩
    gi_at_call 41
    refine (CallsIn.inRound k (callsIn_wide.2 HCON.out)).mono ?_
    rintro e W3 ⟨rfl, hb3⟩
    have hU3 := HUW.out.below hb3
    have hX3 := Blk.below HBX.out hb3
    have hz3 := hb3.size
    have hzW := HUW.out.2.2.2.2.lt
    obtain ⟨d0, d1, _⟩ := hU3.2.2.1.cells
    have d2 := hU3.2.2.2.1.cells.1
    have d3 := hU3.2.2.2.2.cells.1
    have f2 := hU3.2.2.2.1.frozen 0
    have f3 := hU3.2.2.2.2.frozen 0
    obtain ⟨x0, x1, x2, x3, x4, x5, _⟩ := hX3.cells
    simp only [Nat.zero_add, Nat.add_zero, Nat.reduceAdd] at d0 d1 d2 d3 x0 x1 x2 x3 x4 x5
    have HU3 := Lib.hid hU3
    have HB3 := Lib.hid hb3
    clear hU3 hX3 hb3 c0 c1 c2 c3 HBX
    have goon : ((e3 && e4) && y6) = false → KeepsFrom W0.heap.size W W3 ∧ Below w.heap.size W W3 ∧ (Hid (∀ c ∈ pre ++ [x], useP l sh sl ch cl (l.getD c.val default) = false) ∧ UB ha (.slice ao m cap) sh sl ch cl w.heap.size 0 0 W3) ∧ Below w.heap.size w W3 := fun h =>
      ⟨(Below.others HB3.out).from _, HB3.out.mono (by omega), ⟨fun c hc => by
        rcases List.mem_append.1 hc with hc | hc
        · exact HPP.out c hc
        · obtain rfl : c = x := by simpa using hc
          rw [HP2.out, h], HU3.out⟩, hBW.trans (HB3.out.mono (by omega))⟩
    have GOON := Lib.hid goon
    clear goon
    cases e3
    · gi_wp2
      exact GOON.out (by rfl)
    · cases e4
      · gi_wp2
        exact GOON.out (by rfl)
      · cases y6
        · gi_wp2
          exact GOON.out (by rfl)
        · gi_wp2
          refine ⟨(((Below.others HB3.out).trans (KeepsOthers.setCell _ _ _)).trans (KeepsOthers.setCell _ _ _)).from _, ⟨rfl, pre, x, rfl, Lib.hid ⟨HPP.out, HP2.out⟩, ?_⟩, ((hBW.trans (HB3.out.mono (by omega))).setCell (p := ⟨w.heap.size + 1 + 1 + 1, 0, none⟩) (by simp; omega) _).setCell (p := ⟨w.heap.size + 1 + 1 + 1 + 1, 0, none⟩) (by simp; omega) _⟩
          rw [HYY.out]
          exact HU3.out.set y2 0
  case done =>
    rintro D ys W hD rfl ⟨⟨hp, hUW⟩, hBW⟩ hK
    have c3 := hUW.2.2.2.1.cells.1
    have c4 := hUW.2.2.2.2.cells.1
    have f3 := hUW.2.2.2.1.frozen 0
    have f4 := hUW.2.2.2.2.frozen 0
    have hn := Lib.hid (use_none l sh sl ch cl hp.out)
    have HUW := Lib.hid hUW
    simp only [Nat.zero_add, Nat.add_zero, Nat.reduceAdd] at c3 c4
    clear hUW
    gi_wp2
    have hK' := ((KeepsOthers.setCell W ⟨w.heap.size + 1 + 1 + 1, 0, none⟩ (.int .u16 0)).trans (KeepsOthers.setCell _ ⟨w.heap.size + 1 + 1 + 1 + 1, 0, none⟩ (.int .i64 6))).same D _ hK rfl
    refine ⟨by simp, .inl ⟨_, _, rfl, run_takeDeferred hK', ?_⟩⟩
    have hU2 := UB.own ha _ sh sl ch cl w.heap.size (fun _ : Unit => 0) (fun _ => 6) () _ _ _ (HUW.out.set 0 6) (grownBy_putObj' _ D (.deferred none)) (fun r e => by cases e; exact ⟨_, hK', rfl⟩)
    have c5 := hU2.2.2.2.1.cells.1
    have c6 := hU2.2.2.2.2.cells.1
    simp only [Nat.zero_add, Nat.add_zero] at c5 c6
    refine ⟨.tuple #[.int .u16 0, .int .i64 6], ?_, by rw [hn.out], ((hBW.setCell (p := ⟨w.heap.size + 1 + 1 + 1, 0, none⟩) (by simp; omega) _).setCell (p := ⟨w.heap.size + 1 + 1 + 1 + 1, 0, none⟩) (by simp; omega) _).trans (belowK_b (w := w) (Nat.le_refl _) _ D _ _ (by omega) hK' rfl rfl)⟩
    simp [results, Try.f16, go_sem, c5, c6]
  case stop =>
    rintro D c pre W hD hpre ⟨⟨rfl, p, x, rfl, hx, hUW⟩, hBW⟩ hK
    have hn := Lib.hid (use_first l sh sl ch cl p x hpre hx.out.1 hx.out.2)
    gi_wp2
    refine ⟨by simp, .inl ⟨_, _, rfl, run_takeDeferred hK, ?_⟩⟩
    have hU2 := UB.own ha _ sh sl ch cl w.heap.size (fun _ : Unit => (l.getD x.val default).va) (fun _ => 0) () _ _ _ hUW (grownBy_putObj' _ D (.deferred none)) (fun r e => by cases e; exact ⟨_, hK, rfl⟩)
    have c5 := hU2.2.2.2.1.cells.1
    have c6 := hU2.2.2.2.2.cells.1
    simp only [Nat.zero_add, Nat.add_zero] at c5 c6
    refine ⟨.tuple #[.int .u16 (l.getD x.val default).va, .int .i64 0], ?_, by rw [hn.out], hBW.trans (belowK_b (w := w) (Nat.le_refl _) W D _ _ (by omega) hK rfl rfl)⟩
    simp [results, Try.f16, go_sem, c5, c6]
set_option linter.unusedSimpArgs false in
set_option linter.unusedVariables false in
set_option maxRecDepth 100000 in
set_option maxHeartbeats 4000000 in
theorem use_any (v : Value) (c : Ca) (sh sl ch cl : Int) (w : World) (hc : CaV w v c) (hn : c.l.length ≤ 1000000) :
    Calls Try.prog 16 #[v, .agg #[.int .u64 sh, .int .u64 sl], .agg #[.int .u64 ch, .int .u64 cl]] w fun e w' => e = .returned (.tuple #[.int .u16 (useC c sh sl ch cl).1, .int .i64 (useC c sh sl ch cl).2]) ∧ Below w.heap.size w w' := by
  obtain ⟨va, ha, l, du⟩ := c
  obtain ⟨fv, rfl, hs⟩ := hc
  simp only at hs hn ⊢
  by_cases hok : va = true ∧ du = false
  · obtain ⟨rfl, rfl⟩ := hok
    exact callsIn_wide.1 (use_in 4 (Nat.le_refl _) ha l fv sh sl ch cl w hs hn)
  · have e : (va && !du) = false := by cases va <;> cases du <;> simp_all
    unfold useC
    simp only [e, Bool.false_eq_true, if_false]
    obtain ⟨_, _, _, ao, cap, rfl, _, _⟩ := hs
    obtain ⟨m, hm⟩ : ∃ m, l.length = m := ⟨_, rfl⟩
    rw [hm]
    have hB5 : Below w.heap.size w (((((w.alloc (.cells #[.bool va, .int .u64 ha, .slice ao m cap, .bool du] 26)).alloc (.cells #[.int .u64 sh, .int .u64 sl] 34)).alloc (.cells #[.int .u64 ch, .int .u64 cl] 34)).alloc (.cells #[.int .u16 0] 35)).alloc (.cells #[.int .i64 0] 36)) := (((((Below.refl _ _).alloc (Nat.le_refl _) _).alloc (by simp) _).alloc (by simp; omega) _).alloc (by simp; omega) _).alloc (by simp; omega) _
    have hz5 : (((((w.alloc (.cells #[.bool va, .int .u64 ha, .slice ao m cap, .bool du] 26)).alloc (.cells #[.int .u64 sh, .int .u64 sl] 34)).alloc (.cells #[.int .u64 ch, .int .u64 cl] 34)).alloc (.cells #[.int .u16 0] 35)).alloc (.cells #[.int .i64 0] 36)).heap.size = w.heap.size + 5 := by simp
    have b3 := Blk.new (((w.alloc (.cells #[.bool va, .int .u64 ha, .slice ao m cap, .bool du] 26)).alloc (.cells #[.int .u64 sh, .int .u64 sl] 34)).alloc (.cells #[.int .u64 ch, .int .u64 cl] 34)) 35 [.int .u16 0]
    have b4 := Blk.new ((((w.alloc (.cells #[.bool va, .int .u64 ha, .slice ao m cap, .bool du] 26)).alloc (.cells #[.int .u64 sh, .int .u64 sl] 34)).alloc (.cells #[.int .u64 ch, .int .u64 cl] 34)).alloc (.cells #[.int .u16 0] 35)) 36 [.int .i64 0]
    simp only [World.size_alloc] at b3 b4
    have b3' := b3.below ((Below.refl _ _).alloc (Nat.le_refl _) (.cells #[.int .i64 0] 36))
    have B3 := Lib.hid b3'
    have B4 := Lib.hid b4
    have HZ5 := Lib.hid hz5
    have hcall := fun W => usable_any va du ha (.slice ao m cap) W
    simp only [e] at hcall
    have HCALL := Lib.hid hcall
    clear b3 b4 b3' hz5 hm hok e hcall
    go_enter Try.func16, Try.ntmps16
    go_wp2_with fail
    go_at_call 39
    refine (HCALL.out _).mono ?_
    rintro e wu ⟨rfl, hbu⟩
    have k3 := B3.out.below hbu
    have k4 := B4.out.below hbu
    have c3 := k3.cells.1
    have c4 := k4.cells.1
    have f3 := k3.frozen 0
    have f4 := k4.frozen 0
    have hzu : w.heap.size + 5 ≤ wu.heap.size := by have := hbu.size; have := HZ5.out; omega
    have hBu : Below w.heap.size w wu := hB5.trans (hbu.mono (by have := HZ5.out; omega))
    simp only [Nat.zero_add, Nat.add_zero] at c3 c4
    have K3 := Lib.hid k3
    have K4 := Lib.hid k4
    clear hbu hB5 HZ5 B3 B4 k3 k4
    go_wp2
    have k5 := ((K3.out.set (.int .u16 0)).other (B' := w.heap.size + 1 + 1 + 1 + 1) (by omega) (.int .i64 21)).cells.1
    have k6 := ((K4.out.other (B' := w.heap.size + 1 + 1 + 1) (by omega) (.int .u16 0)).set (.int .i64 21)).cells.1
    simp only [Nat.zero_add, Nat.add_zero] at k5 k6
    refine bodyPost_ret (v := .tuple #[.int .u16 0, .int .i64 21]) (by simp [results, Try.results16, go_sem, k5, k6]) rfl ?_
    exact ⟨rfl, (hBu.setCell (p := ⟨w.heap.size + 1 + 1 + 1, 0, none⟩) (by simp; omega) _).setCell (p := ⟨w.heap.size + 1 + 1 + 1 + 1, 0, none⟩) (by simp; omega) _⟩
end Go.Proofs.Yteblimdbkiiaaaa
