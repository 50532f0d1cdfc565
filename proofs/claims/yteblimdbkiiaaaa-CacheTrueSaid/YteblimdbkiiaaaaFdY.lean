/- cache: Config. -/
import Derived.Test.YteblimdbkiiaaaaFdX
import Derived.Test.YteblimdbkiiaaaaFdZ
namespace Go.Proofs.Yteblimdbkiiaaaa
open Go.RowKit Go.Shelf
attribute [local go_sem] Oper.semAt_some

theorem chs_before (l : List Fd) (p : Fd → Bool) (pre : List (Fin l.length)) (x : Fin l.length) (h : pre ++ [x] <+: chs l) (hn : ∀ c ∈ pre, p (l.getD c.val default) = false) :
    ∀ j, j < x.val → (chB (l.getD j default) && p (l.getD j default)) = false := by
  intro j hj
  by_cases hc : chB (l.getD j default) = true
  · have hjl : j < l.length := by omega
    have hjm : (⟨j, hjl⟩ : Fin l.length) ∈ chs l := by
      unfold chs chTo
      rw [List.mem_filter]
      exact ⟨by rw [List.take_of_length_le (by simp)]; exact List.mem_finRange _, by simpa using hc⟩
    have hsrt : (chs l).Pairwise (fun a b => a.val < b.val) := by
      unfold chs chTo
      refine List.Pairwise.filter _ (List.Pairwise.sublist (List.take_sublist _ _) ?_)
      rw [List.pairwise_iff_getElem]
      intro a b ha hb hab
      simpa using hab
    obtain ⟨r, hr⟩ := h
    rw [← hr] at hjm hsrt
    have hin : (⟨j, hjl⟩ : Fin l.length) ∈ pre := by
      rw [List.mem_append, List.mem_append] at hjm
      rcases hjm with (hm | hm) | hm
      · exact hm
      · have : (⟨j, hjl⟩ : Fin l.length) = x := by simpa using hm
        have := congrArg Fin.val this
        simp only at this
        omega
      · have := (List.pairwise_append.1 hsrt).2.2 x (by simp) _ hm
        simp at this
        omega
    rw [hn _ hin, Bool.and_false]
  · have : chB (l.getD j default) = false := by simpa using hc
    rw [this, Bool.false_and]
theorem chs_ch (l : List Fd) (pre : List (Fin l.length)) (x : Fin l.length) (h : pre ++ [x] <+: chs l) : chB (l.getD x.val default) = true := by
  have hmem : x ∈ chs l := h.subset (by simp)
  simpa using (List.mem_filter.1 hmem).2
theorem cfg_first (v : Int) (l : List Fd) (pre : List (Fin l.length)) (x : Fin l.length) (h : pre ++ [x] <+: chs l) (hn : ∀ c ∈ pre, ((l.getD c.val default).va == v) = false) (hx : ((l.getD x.val default).va == v) = true) : cfgL v l = cfgD (l.drop (x.val + 1)) :=
  cfg_hit v l x.val x.2 (chs_before l (fun y => y.va == v) pre x h hn) (by rw [chs_ch l pre x h, hx]; rfl)
theorem cfg_no (v : Int) (l : List Fd) (h : ∀ c ∈ chs l, ((l.getD c.val default).va == v) = false) : cfgL v l = (0, 6) := by
  refine cfg_none v l fun j hj => ?_
  by_cases hc : chB (l.getD j default) = true
  · have hm : (⟨j, hj⟩ : Fin l.length) ∈ chs l := by
      unfold chs chTo
      rw [List.mem_filter]
      exact ⟨by rw [List.take_of_length_le (by simp)]; exact List.mem_finRange _, by simpa using hc⟩
    have := h _ hm
    rw [this, Bool.and_false]
  · have : chB (l.getD j default) = false := by simpa using hc
    rw [this, Bool.false_and]
/-- what lies in Config's own memory -/
def VB (ha : Int) (fv : Value) (v0 : Int) (B : Nat) (r : Int) (e : Int) (W : World) : Prop :=
  Blk W B 26 [.bool true, .int .u64 ha, fv, .bool false] ∧ Blk W (B + 1) 35 [.int .u16 v0] ∧ Blk W (B + 1 + 1) 35 [.int .u16 r] ∧ Blk W (B + 1 + 1 + 1) 36 [.int .i64 e]
theorem VB.below {ha : Int} {fv : Value} {v0 : Int} {B : Nat} {r e : Int} {W W' : World} (h : VB ha fv v0 B r e W) (hb : Below W.heap.size W W') : VB ha fv v0 B r e W' := ⟨h.1.below hb, h.2.1.below hb, h.2.2.1.below hb, h.2.2.2.below hb⟩
theorem VB.own {β : Type} (ha : Int) (fv : Value) (v0 : Int) (B : Nat) (r e : β → Int) : Go.Own (fun s W => VB ha fv v0 B (r s) (e s) W) := fun _ X Y row hs hg hr =>
  ⟨Blk.own B _ (fun _ : Unit => _) () X Y row hs.1 hg hr, Blk.own (B + 1) _ (fun _ : Unit => _) () X Y row hs.2.1 hg hr, Blk.own (B + 1 + 1) _ (fun _ : Unit => _) () X Y row hs.2.2.1 hg hr, Blk.own (B + 1 + 1 + 1) _ (fun _ : Unit => _) () X Y row hs.2.2.2 hg hr⟩
theorem VB.set {ha : Int} {fv : Value} {v0 : Int} {B : Nat} {r e : Int} {W : World} (h : VB ha fv v0 B r e W) (r' e' : Int) : VB ha fv v0 B r' e' ((W.setCell ⟨B + 1 + 1, 0, none⟩ (.int .u16 r')).setCell ⟨B + 1 + 1 + 1, 0, none⟩ (.int .i64 e')) :=
  ⟨(h.1.other (by omega) _).other (by omega) _, (h.2.1.other (by omega) _).other (by omega) _, (h.2.2.1.set _).other (by omega) _, (h.2.2.2.other (by omega) _).set _⟩
set_option linter.unusedSimpArgs false in
set_option linter.unusedVariables false in
set_option maxRecDepth 100000 in
set_option maxHeartbeats 4000000 in
theorem cfg_in (n : Nat) (hn : 4 ≤ n) (ha : Int) (l : List Fd) (ao : Option Addr) (m cap : Nat) (v0 : Int) (w : World) (hs : SR w (.slice ao m cap) l.length 6 (fcells l)) (hcap : m ≤ cap) (hlen : l.length ≤ 1000000) :
    CallsIn Fence.wide n Try.prog 18 #[.agg #[.bool true, .int .u64 ha, .slice ao m cap, .bool false], .int .u16 v0] w fun e w' => e = .returned (.tuple #[.int .u16 (cfgL v0 l).1, .int .i64 (cfgL v0 l).2]) ∧ Below w.heap.size w w' := by
  have h1 : 1 ≤ n := by omega
  have hbl : 0 < l.length → ∀ b, (Value.slice ao m cap).ownBlock = some b → b < w.heap.size := fun h0 b hb => by
    obtain ⟨_, _, _, ao', cap', e, _, h4⟩ := hs
    obtain ⟨b', off, rfl, hlt, _⟩ := h4 h0
    cases e
    simp [Value.ownBlock] at hb
    omega
  have HSR := Lib.hid hs
  have hm : l.length = m := by
    obtain ⟨_, _, _, ao', cap', e, _, _⟩ := hs
    cases e
    rfl
  have HM := Lib.hid hm
  have HBL := Lib.hid hbl
  rw [hm] at hlen
  clear hs hm hbl
  have hB5 : Below w.heap.size w ((((w.alloc (.cells #[.bool true, .int .u64 ha, .slice ao m cap, .bool false] 26)).alloc (.cells #[.int .u16 v0] 35)).alloc (.cells #[.int .u16 0] 35)).alloc (.cells #[.int .i64 0] 36)) := ((((Below.refl _ _).alloc (Nat.le_refl _) _).alloc (by simp) _).alloc (by simp; omega) _).alloc (by simp; omega) _
  have hz5 : ((((w.alloc (.cells #[.bool true, .int .u64 ha, .slice ao m cap, .bool false] 26)).alloc (.cells #[.int .u16 v0] 35)).alloc (.cells #[.int .u16 0] 35)).alloc (.cells #[.int .i64 0] 36)).heap.size = w.heap.size + 4 := by simp
  have hU : VB ha (.slice ao m cap) v0 w.heap.size 0 0 ((((w.alloc (.cells #[.bool true, .int .u64 ha, .slice ao m cap, .bool false] 26)).alloc (.cells #[.int .u16 v0] 35)).alloc (.cells #[.int .u16 0] 35)).alloc (.cells #[.int .i64 0] 36)) := by
    have b0 := Blk.new w 26 [.bool true, .int .u64 ha, .slice ao m cap, .bool false]
    have b1 := Blk.new (w.alloc (.cells #[.bool true, .int .u64 ha, .slice ao m cap, .bool false] 26)) 35 [.int .u16 v0]
    have b2 := Blk.new ((w.alloc (.cells #[.bool true, .int .u64 ha, .slice ao m cap, .bool false] 26)).alloc (.cells #[.int .u16 v0] 35)) 35 [.int .u16 0]
    have b3 := Blk.new (((w.alloc (.cells #[.bool true, .int .u64 ha, .slice ao m cap, .bool false] 26)).alloc (.cells #[.int .u16 v0] 35)).alloc (.cells #[.int .u16 0] 35)) 36 [.int .i64 0]
    simp only [World.size_alloc] at b1 b2 b3
    have al : ∀ (W : World) (o : Obj), Below W.heap.size W (W.alloc o) := fun W o => (Below.refl _ _).alloc (Nat.le_refl _) _
    exact ⟨((b0.below (al _ _)).below (al _ _)).below (al _ _), (b1.below (al _ _)).below (al _ _), b2.below (al _ _), b3⟩
  have HU := Lib.hid hU
  have HZ5 := Lib.hid hz5
  clear hU hz5
  refine callsIn_of_wp_marks Try.func18 rfl trivial ?_ rfl
  simp only [Try.ntmps18, List.size_toArray, List.length_cons, List.length_nil, Nat.reduceAdd, Nat.reduceSub, Array.replicate_succ, Array.replicate_zero, List.push_toArray, List.append_toArray, List.nil_append, List.cons_append]
  gi_wp2_with fail
  refine ⟨trivial, ?_⟩
  gi_at_call 39
  refine (callsIn_wide.2 (usable_any true false ha _ _)).mono ?_
  rintro e wu ⟨rfl, hbu⟩
  have hUu := HU.out.below hbu
  have hzu : w.heap.size + 4 ≤ wu.heap.size := by have := hbu.size; have := HZ5.out; omega
  have hBu : Below w.heap.size w wu := hB5.trans (hbu.mono (by have := HZ5.out; omega))
  have HUu := Lib.hid hUu
  obtain ⟨c0, c1, c2, c3, _⟩ := hUu.1.cells
  clear hUu HU hbu HZ5 hB5
  simp only [Nat.zero_add, Nat.add_zero, Nat.reduceAdd, Bool.not_false, Bool.and_self] at c0 c1 c2 c3 ⊢
  gi_wp2_with (refine ⟨trivial, ?_⟩; gi_at_call 40; refine (chr_in (n - 1) _ _ _ _).mono ?_; rintro e w' ⟨rfl, rfl⟩)
  clear c0 c1 c2 c3
  have bM := Blk.new wu 24 [.slice ao m cap]
  obtain ⟨W0, hW0⟩ : ∃ W0, wu.alloc (.cells #[.slice ao m cap] 24) = W0 := ⟨_, rfl⟩
  have hB0 : Below w.heap.size w W0 := by rw [← hW0]; exact hBu.alloc hBu.size _
  have hU0 : VB ha (.slice ao m cap) v0 w.heap.size 0 0 W0 := by rw [← hW0]; exact HUu.out.below ((Below.refl _ _).alloc (Nat.le_refl _) _)
  have hz0 : wu.heap.size + 1 = W0.heap.size := by rw [← hW0]; simp
  have bM' : Blk W0 wu.heap.size 24 [.slice ao m cap] := by rw [← hW0]; exact bM
  rw [hW0]
  have hSR0 := HSR.out.below hB0
  have cM : W0.cell? ⟨wu.heap.size, 0, none⟩ = some (.slice ao m cap) := bM'.cells.1
  clear bM hW0 HUu hBu bM'
  refine wpIn_rangeFunc_ownH rfl h1 (gf := 56) (lb := #[.pointer (some ⟨wu.heap.size, 0, none⟩)]) rfl trivial (enters_of Try.func56 (by kernel_rfl) rfl)
    (chr_stops (n - 1) (by omega) wu.heap.size w.heap.size l (.slice ao m cap) (by rw [HM.out]; exact hlen) W0 (by omega) cM hSR0 HBL.out (by omega)) belowK_t (belowK_b (by omega)) (Below.refl _ _) (fun _ => rfl)
    (fun pre W => (Hid (∀ c ∈ pre, ((l.getD c.val default).va == v0) = false) ∧ VB ha (.slice ao m cap) v0 w.heap.size 0 0 W) ∧ Below w.heap.size w W)
    (fun c pre W => (∃ p x, pre = p ++ [x] ∧ Hid ((∀ c ∈ p, ((l.getD c.val default).va == v0) = false) ∧ ((l.getD x.val default).va == v0) = true) ∧ ((c = .ret ∧ ∃ h, Hid (cfgD (l.drop (x.val + 1)) = (h, 0)) ∧ VB ha (.slice ao m cap) v0 w.heap.size h 0 W) ∨ (c = .exit 0 ∧ Hid (cfgD (l.drop (x.val + 1)) = (0, 6)) ∧ VB ha (.slice ao m cap) v0 w.heap.size 0 0 W))) ∧ Below w.heap.size w W)
    ?hI ?hIx ⟨⟨Lib.hid (fun c hc => absurd hc (by simp)), hU0⟩, hB0⟩
    (fun x a' W => ∃ Bx, w.heap.size + 3 < Bx ∧ Blk W Bx 53 (fenc (l.getD x.val default)) ∧ a' = { tmps := #[.agg #[.bool true, .int .u64 ha, .slice ao m cap, .bool false], .int .u16 v0, .pointer (some ⟨w.heap.size, 0, none⟩), .pointer (some ⟨w.heap.size + 1, 0, none⟩), .pointer (some ⟨w.heap.size + 1 + 1, 0, none⟩), .pointer (some ⟨w.heap.size + 1 + 1 + 1, 0, none⟩), .int .i64 (x.val : Int), .pointer (some ⟨Bx, 0, none⟩), undef, undef, .agg #[.bool true, .int .u64 ha, .slice ao m cap, .bool false], .bool true, .bool false, .pointer (some ⟨w.heap.size, 2, none⟩), .slice ao m cap, .func (.func 56) #[] #[.pointer (some ⟨wu.heap.size, 0, none⟩)], .int .i64 (x.val : Int), (elF (l.getD x.val default)).val, undef, undef, undef, undef, undef, undef, undef, undef, undef, undef, undef, undef, undef, undef, undef, undef, undef, undef, undef, undef, undef, undef, undef, undef, undef, undef, undef, undef, undef], defers := [] })
    ?hAx ?assign ?body ?done ?stop
  case hI =>
    exact OwnFrom.and (OwnFrom.and (ownFrom_pure _ _) (Own.from (VB.own ha _ v0 w.heap.size (fun _ => 0) (fun _ => 0)) _)) (ownFrom_below (Nat.le_refl _) (by omega))
  case hIx =>
    exact fun c => OwnFrom.and (Own.from (fun s A B row hs hg hr => by
      obtain ⟨p, x, h2, h3, h4⟩ := hs
      rcases h4 with ⟨h5, h, h6, h7⟩ | ⟨h5, h6, h7⟩
      · exact ⟨p, x, h2, h3, .inl ⟨h5, h, h6, VB.own ha _ v0 w.heap.size (fun _ : Unit => _) (fun _ : Unit => _) () A B row h7 hg hr⟩⟩
      · exact ⟨p, x, h2, h3, .inr ⟨h5, h6, VB.own ha _ v0 w.heap.size (fun _ : Unit => _) (fun _ : Unit => _) () A B row h7 hg hr⟩⟩) _) (ownFrom_below (Nat.le_refl _) (by omega))
  case hAx =>
    exact fun x a' _ X Y row hs hg hr => by obtain ⟨Bx, h1, h2, h3⟩ := hs; exact ⟨Bx, h1, Blk.own Bx _ (fun (_ : Unit) => _) () X Y row h2 hg (fun r e => (hr r e).2), h3⟩
  case assign =>
    rintro k pre x W K ⟨⟨hp, hUW⟩, hBW⟩ hK
    have hzW : w.heap.size + 3 < W.heap.size := hUW.2.2.2.lt
    obtain ⟨⟨y0, y1, y2, y3, y4, y5⟩, hY⟩ : ∃ y, l.getD x.val default = y := ⟨_, rfl⟩
    rw [hY] at hK
    simp only [hY, El.val, elF]
    clear hY
    gi_wp2
    exact hK _ _ ((KeepsOthers.alloc _ _).from _) ((Below.refl _ W).alloc hBW.size _) ⟨⟨hp, hUW.below ((Below.refl _ W).alloc (Nat.le_refl _) _)⟩, hBW.alloc hBW.size _⟩ ⟨W.heap.size, hzW, Blk.new W _ (fenc ⟨y0, y1, y2, y3, y4, y5⟩), rfl⟩
  case body =>
    rintro k pre x a' W hl ⟨r, hr⟩ ⟨⟨hp, hUW⟩, hBW⟩ ⟨Bx, hBx, bX, rfl⟩ hlt
    have hn1 : 1 ≤ n - 1 - 1 := by omega
    have hmx : Try.prog.follows .mixedOrders = true := by kernel_rfl
    have hxl : x.val < m := by have := x.2; have := HM.out; omega
    obtain ⟨b, off, rfl, hb, hcell⟩ : ∃ b off, ao = some ⟨b, off, none⟩ ∧ b < w.heap.size ∧ ∀ j u, (fcells l)[j]? = some u → w.cell? ⟨b, off + j, none⟩ = some u := by
      obtain ⟨_, _, _, ao', cap', e, _, h4⟩ := HSR.out
      obtain ⟨b, off, h5, h6, h7⟩ := h4 (by have := x.2; omega)
      cases e
      exact ⟨b, off, h5, h6, h7⟩
    have key : ∀ (W : World), Below w.heap.size w W → ∀ (t : Nat) (ht : t < l.length) j, j < 6 → W.cell? ⟨b, off + t * 6 + j, none⟩ = (elF l[t]).cells[j]? := fun W hW t ht j hj => by
      have e := fcells_get l t ht hj
      obtain ⟨u, hu⟩ : ∃ u, (elF l[t]).cells[j]? = some u := ⟨_, List.getElem?_eq_getElem (show j < (elF l[t]).cells.length from hj)⟩
      rw [hu] at e ⊢
      have := kc (hcell _ _ e) hW
      rwa [← Nat.add_assoc] at this
    have KEY := Lib.hid key
    have HUW := Lib.hid hUW
    clear hcell key
    obtain ⟨⟨y0, y1, y2, y3, y4, y5⟩, hY⟩ : ∃ y, l.getD x.val default = y := ⟨_, rfl⟩
    rw [hY] at bX
    have HYY := Lib.hid hY
    simp only [hY, El.val, elF]
    obtain ⟨e2, he2⟩ : ∃ e, (y2 == v0) = e := ⟨_, rfl⟩
    have he2' : (y2 != v0) = !e2 := by rw [← he2]; rfl
    have HE2 : Hid (((l.getD x.val default).va == v0) = e2) := Lib.hid (by rw [hY]; exact he2)
    obtain ⟨c0, c1, c2, c3, _⟩ := hUW.1.cells
    have c4 := hUW.2.1.cells.1
    obtain ⟨x0, x1, x2, x3, x4, x5, _⟩ := bX.cells
    obtain ⟨xv, hxv⟩ : ∃ k, x.val = k := ⟨_, rfl⟩
    have HXV := Lib.hid hxv
    rw [hxv] at hxl ⊢
    have hzW := hUW.2.2.2.lt
    simp only [Nat.zero_add, Nat.add_zero, Nat.reduceAdd] at c0 c1 c2 c3 c4 x0 x1 x2 x3 x4 x5
    have HPP := Lib.hid hp
    clear hY hUW bX hxv hp
    cases e2
    · gi_wp2
      exact ⟨KeepsFrom.refl _ _, Below.refl _ _, ⟨Lib.hid (fun c hc => by
        rcases List.mem_append.1 hc with hc | hc
        · exact HPP.out c hc
        · obtain rfl : c = x := by simpa using hc
          exact HE2.out), HUW.out⟩, hBW⟩
    · have w1 : IntKind.i64.wrap ((xv : Int) + 1) = (xv : Int) + 1 := IntWalk.i64_in _ (by omega)
      have i0 : (0 : Int) ≤ (xv : Int) + 1 := by omega
      have i1 : (xv : Int) + 1 ≤ (m : Int) := by omega
      have e1 : ((xv : Int) + 1).toNat = xv + 1 := by omega
      by_cases hci : cap = xv + 1
      · have hmi : m = xv + 1 := by omega
        subst hmi
        subst hci
        have hend : cfgD (l.drop (xv + 1)) = (0, 6) := by have := cfgD_end l; rwa [HM.out] at this
        have HEND := Lib.hid hend
        have HB2 := Lib.hid (Below.refl W.heap.size W)
        clear hend
        gi_wp2
        gi_loopw [9, 28] (fun _ i wr => i = .int .i64 0 ∧ wr = W) (fun _ _ _ => 0)
        case atStart => exact ⟨by simp, rfl⟩
        case round =>
          obtain ⟨rfl, rfl⟩ := hrel
          gi_wp2
          exact ⟨(Below.others HB2.out).from _, ⟨pre, x, rfl, Lib.hid ⟨HPP.out, HE2.out⟩, .inr ⟨rfl, Lib.hid (by rw [HXV.out, HEND.out]), HUW.out.below HB2.out⟩⟩, hBW.trans (HB2.out.mono (by omega))⟩
      · obtain ⟨mm, hmm⟩ : ∃ mm, m - (xv + 1) = mm := ⟨_, rfl⟩
        have HMM := Lib.hid (show m = xv + 1 + mm by omega)
        have HB20 := Lib.hid (Below.refl W.heap.size W)
        gi_wp2
        clear c0 c1 c2 c3 c4 x0 x1 x2 x3 x4 x5 hmm
        gi_loopw [9, 28] (fun _ i wr => ∃ j : Nat, i = .int .i64 j ∧ j ≤ mm ∧ Hid (cfgD (l.drop (xv + 1)) = cfgD (l.drop (xv + 1 + j))) ∧ Below W.heap.size W wr) (fun _ i _ => mm - (intOf i).toNat)
        case atStart => exact ⟨0, by simp, Nat.zero_le _, Lib.hid rfl, HB20.out⟩
        case round =>
          obtain ⟨j, rfl, hj, hcf, hB2⟩ := hrel
          have HB2 := Lib.hid hB2
          by_cases hlt2 : j < mm
          · have g1 : decide (j < mm) = true := by simpa using hlt2
            have hjl : xv + 1 + j < l.length := by have := HMM.out; have := HM.out; omega
            have hgd := getD_lt hjl
            have hst := cfgD_step l _ hjl
            have q := KEY.out wr (hBW.trans (hB2.mono (by omega))) _ hjl
            obtain ⟨⟨b0, b1, b2, b3, b4, b5⟩, hb'⟩ : ∃ x, l[xv + 1 + j] = x := ⟨_, rfl⟩
            rw [hb'] at hgd
            simp only [hb'] at q
            simp only [hgd] at hst
            have eo : off + (xv + 1 + j) * 6 = off + (xv + 1) * 6 + j * 6 := by omega
            rw [eo] at q
            have d0 := q 0 (by decide)
            have d1 := q 1 (by decide)
            have d2 := q 2 (by decide)
            have d3 := q 3 (by decide)
            have d4 := q 4 (by decide)
            have d5 := q 5 (by decide)
            simp only [El.cells, elF, Nat.add_zero, List.getElem?_cons_zero, List.getElem?_cons_succ] at d0 d1 d2 d3 d4 d5
            obtain ⟨z1, hz1⟩ : ∃ y, (b1 == 0) = y := ⟨_, rfl⟩
            have hz1' : (b1 != 0) = !z1 := by rw [← hz1]; rfl
            obtain ⟨z2, hz2⟩ : ∃ y, (b2 == 0) = y := ⟨_, rfl⟩
            have hz2' : (b2 != 0) = !z2 := by rw [← hz2]; rfl
            obtain ⟨z3, hz3⟩ : ∃ y, (b4 == 45088566677504) = y := ⟨_, rfl⟩
            obtain ⟨z4, hz4⟩ : ∃ y, (b5 == 9223372588214596859) = y := ⟨_, rfl⟩
            simp only [hz1, hz2, hz3, hz4] at hst
            have HST := Lib.hid hst
            have w2 : IntKind.i64.wrap ((j : Int) + 1) = (j : Int) + 1 := IntWalk.i64_in _ (by have := HMM.out; omega)
            have i2 : (j : Int) < (mm : Int) := by omega
            have hb0 : Below W.heap.size W (wr.alloc (.cells #[.int .u16 b0, .int .u16 b1, .int .u16 b2, .int .i64 b3, .int .u64 b4, .int .u64 b5] 53)) := hB2.alloc hB2.size _
            have bD := Blk.new wr 53 [.int .u16 b0, .int .u16 b1, .int .u16 b2, .int .i64 b3, .int .u64 b4, .int .u64 b5]
            have BD := Lib.hid bD
            have HB0 := Lib.hid hb0
            clear hst hgd hb' q hB2 bD hb0
            cases z1
            · gi_wp2
              exact ⟨(Below.others HB0.out).from _, ⟨pre, x, rfl, Lib.hid ⟨HPP.out, HE2.out⟩, .inr ⟨rfl, Lib.hid (by rw [HXV.out, hcf.out, HST.out]; simp), HUW.out.below HB0.out⟩⟩, hBW.trans (HB0.out.mono (by omega))⟩
            · cases z2
              · gi_wp2
                exact ⟨(Below.others HB0.out).from _, ⟨pre, x, rfl, Lib.hid ⟨HPP.out, HE2.out⟩, .inr ⟨rfl, Lib.hid (by rw [HXV.out, hcf.out, HST.out]; simp), HUW.out.below HB0.out⟩⟩, hBW.trans (HB0.out.mono (by omega))⟩
              · cases z3
                · gi_wp2_with fail
                  clear d0 d1 d2 d3 d4 d5
                  obtain ⟨d0, d1, d2, d3, d4, d5, _⟩ := BD.out.cells
                  simp only [Nat.zero_add, Nat.add_zero, Nat.reduceAdd] at d0 d1 d2 d3 d4 d5
                  gi_region_with_o ((refine ⟨trivial, ?_⟩); gi_at_call 45; refine (CallsIn.inRound k (callsIn_wide.2 (short_c _))).mono ?_; rintro e w7 ⟨rfl, hB7⟩; have B7 := (BD.out).below (W' := w7) (by first | exact hB7 | exact ((Below.refl _ _).drew).trans hB7); obtain ⟨d0, d1, d2, d3, d4, d5, _⟩ := B7.cells; simp only [Nat.zero_add, Nat.add_zero, Nat.reduceAdd] at d0 d1 d2 d3 d4 d5)
                  all_goals
                    have hB7w := HB0.out.drew.trans (hB7.mono HB0.out.drew.size)
                    gi_wp2
                    refine ⟨⟨j + 1, by simp, hlt2, Lib.hid (by rw [hcf.out, HST.out, ← Nat.add_assoc]; simp), hB7w⟩, ?_⟩
                    simp [intOf]
                    omega
                · cases z4
                  · gi_wp2_with fail
                    clear d0 d1 d2 d3 d4 d5
                    obtain ⟨d0, d1, d2, d3, d4, d5, _⟩ := BD.out.cells
                    simp only [Nat.zero_add, Nat.add_zero, Nat.reduceAdd] at d0 d1 d2 d3 d4 d5
                    gi_region_with_o ((refine ⟨trivial, ?_⟩); gi_at_call 45; refine (CallsIn.inRound k (callsIn_wide.2 (short_c _))).mono ?_; rintro e w7 ⟨rfl, hB7⟩; have B7 := (BD.out).below (W' := w7) (by first | exact hB7 | exact ((Below.refl _ _).drew).trans hB7); obtain ⟨d0, d1, d2, d3, d4, d5, _⟩ := B7.cells; simp only [Nat.zero_add, Nat.add_zero, Nat.reduceAdd] at d0 d1 d2 d3 d4 d5)
                    all_goals
                      have hB7w := HB0.out.drew.trans (hB7.mono HB0.out.drew.size)
                      gi_wp2
                      refine ⟨⟨j + 1, by simp, hlt2, Lib.hid (by rw [hcf.out, HST.out, ← Nat.add_assoc]; simp), hB7w⟩, ?_⟩
                      simp [intOf]
                      omega
                  · gi_wp2_with fail
                    clear d0 d1 d2 d3 d4 d5
                    obtain ⟨d0, d1, d2, d3, d4, d5, _⟩ := BD.out.cells
                    simp only [Nat.zero_add, Nat.add_zero, Nat.reduceAdd] at d0 d1 d2 d3 d4 d5
                    gi_region_with_o ((refine ⟨trivial, ?_⟩); gi_at_call 45; refine (CallsIn.inRound k (callsIn_wide.2 (short_c _))).mono ?_; rintro e w7 ⟨rfl, hB7⟩; have B7 := (BD.out).below (W' := w7) (by first | exact hB7 | exact ((Below.refl _ _).drew).trans hB7); obtain ⟨d0, d1, d2, d3, d4, d5, _⟩ := B7.cells; simp only [Nat.zero_add, Nat.add_zero, Nat.reduceAdd] at d0 d1 d2 d3 d4 d5)
                    all_goals
                      have hB7w := HB0.out.drew.trans (hB7.mono HB0.out.drew.size)
                      have hU7 := HUW.out.below hB7w
                      have g2 := hU7.2.2.1.cells.1
                      have g3 := hU7.2.2.2.cells.1
                      have f2 := hU7.2.2.1.frozen 0
                      have f3 := hU7.2.2.2.frozen 0
                      obtain ⟨d0, d1, d2, d3, d4, d5, _⟩ := (BD.out.below (W' := w7) (by first | exact hB7 | exact ((Below.refl _ _).drew).trans hB7)).cells
                      simp only [Nat.zero_add, Nat.add_zero, Nat.reduceAdd] at g2 g3 d0 d1 d2 d3 d4 d5
                      have hz7 := hB7w.size
                      have HU7 := Lib.hid hU7
                      have HB7 := Lib.hid hB7w
                      clear hB7w hU7 hB7
                      gi_wp2
                      exact ⟨(((Below.others HB7.out).trans (KeepsOthers.setCell _ _ _)).trans (KeepsOthers.setCell _ _ _)).from _, ⟨pre, x, rfl, Lib.hid ⟨HPP.out, HE2.out⟩, .inl ⟨rfl, b0, Lib.hid (by rw [HXV.out, hcf.out, HST.out]; simp), HU7.out.set b0 0⟩⟩, ((hBW.trans (HB7.out.mono (by omega))).setCell (p := ⟨w.heap.size + 1 + 1, 0, none⟩) (by simp; omega) _).setCell (p := ⟨w.heap.size + 1 + 1 + 1, 0, none⟩) (by simp; omega) _⟩
          · have e2 : j = mm := by omega
            subst e2
            have g1 : decide (j < j) = false := by simp
            have hend : cfgD (l.drop (xv + 1 + j)) = (0, 6) := by have := cfgD_end l; rwa [HM.out, HMM.out] at this
            have HEND := Lib.hid hend
            clear hend hB2
            gi_wp2
            exact ⟨(Below.others HB2.out).from _, ⟨pre, x, rfl, Lib.hid ⟨HPP.out, HE2.out⟩, .inr ⟨rfl, Lib.hid (by rw [HXV.out, hcf.out, HEND.out]), HUW.out.below HB2.out⟩⟩, hBW.trans (HB2.out.mono (by omega))⟩
  case done =>
    rintro D ys W hD rfl ⟨⟨hp, hUW⟩, hBW⟩ hK
    have c3 := hUW.2.2.1.cells.1
    have c4 := hUW.2.2.2.cells.1
    have f3 := hUW.2.2.1.frozen 0
    have f4 := hUW.2.2.2.frozen 0
    have hn := Lib.hid (cfg_no v0 l hp.out)
    have HUW := Lib.hid hUW
    simp only [Nat.zero_add, Nat.add_zero, Nat.reduceAdd] at c3 c4
    clear hUW
    gi_wp2
    have hK' := ((KeepsOthers.setCell W ⟨w.heap.size + 1 + 1, 0, none⟩ (.int .u16 0)).trans (KeepsOthers.setCell _ ⟨w.heap.size + 1 + 1 + 1, 0, none⟩ (.int .i64 6))).same D _ hK rfl
    refine ⟨by simp, .inl ⟨_, _, rfl, run_takeDeferred hK', ?_⟩⟩
    have hU2 := VB.own ha _ v0 w.heap.size (fun _ : Unit => 0) (fun _ => 6) () _ _ _ (HUW.out.set 0 6) (grownBy_putObj' _ D (.deferred none)) (fun r e => by cases e; exact ⟨_, hK', rfl⟩)
    have c5 := hU2.2.2.1.cells.1
    have c6 := hU2.2.2.2.cells.1
    simp only [Nat.zero_add, Nat.add_zero] at c5 c6
    refine ⟨.tuple #[.int .u16 0, .int .i64 6], ?_, by rw [hn.out], ((hBW.setCell (p := ⟨w.heap.size + 1 + 1, 0, none⟩) (by simp; omega) _).setCell (p := ⟨w.heap.size + 1 + 1 + 1, 0, none⟩) (by simp; omega) _).trans (belowK_b (w := w) (Nat.le_refl _) _ D _ _ (by omega) hK' rfl rfl)⟩
    simp [results, Try.f18, go_sem, c5, c6]
  case stop =>
    rintro D c pre W hD hpre ⟨⟨p, x, rfl, hx, h4⟩, hBW⟩ hK
    have hn := Lib.hid (cfg_first v0 l p x hpre hx.out.1 hx.out.2)
    rcases h4 with ⟨rfl, h, h6, hUW⟩ | ⟨rfl, h6, hUW⟩
    · gi_wp2
      refine ⟨by simp, .inl ⟨_, _, rfl, run_takeDeferred hK, ?_⟩⟩
      have hU2 := VB.own ha _ v0 w.heap.size (fun _ : Unit => h) (fun _ => 0) () _ _ _ hUW (grownBy_putObj' _ D (.deferred none)) (fun r e => by cases e; exact ⟨_, hK, rfl⟩)
      have c5 := hU2.2.2.1.cells.1
      have c6 := hU2.2.2.2.cells.1
      simp only [Nat.zero_add, Nat.add_zero] at c5 c6
      refine ⟨.tuple #[.int .u16 h, .int .i64 0], ?_, by rw [hn.out, h6.out], hBW.trans (belowK_b (w := w) (Nat.le_refl _) W D _ _ (by omega) hK rfl rfl)⟩
      simp [results, Try.f18, go_sem, c5, c6]
    · have c3 := hUW.2.2.1.cells.1
      have c4 := hUW.2.2.2.cells.1
      have f3 := hUW.2.2.1.frozen 0
      have f4 := hUW.2.2.2.frozen 0
      have HUW := Lib.hid hUW
      simp only [Nat.zero_add, Nat.add_zero, Nat.reduceAdd] at c3 c4
      clear hUW
      gi_wp2
      have hK' := ((KeepsOthers.setCell W ⟨w.heap.size + 1 + 1, 0, none⟩ (.int .u16 0)).trans (KeepsOthers.setCell _ ⟨w.heap.size + 1 + 1 + 1, 0, none⟩ (.int .i64 6))).same D _ hK rfl
      refine ⟨by simp, .inl ⟨_, _, rfl, run_takeDeferred hK', ?_⟩⟩
      have hU2 := VB.own ha _ v0 w.heap.size (fun _ : Unit => 0) (fun _ => 6) () _ _ _ (HUW.out.set 0 6) (grownBy_putObj' _ D (.deferred none)) (fun r e => by cases e; exact ⟨_, hK', rfl⟩)
      have c5 := hU2.2.2.1.cells.1
      have c6 := hU2.2.2.2.cells.1
      simp only [Nat.zero_add, Nat.add_zero] at c5 c6
      refine ⟨.tuple #[.int .u16 0, .int .i64 6], ?_, by rw [hn.out, h6.out], ((hBW.setCell (p := ⟨w.heap.size + 1 + 1, 0, none⟩) (by simp; omega) _).setCell (p := ⟨w.heap.size + 1 + 1 + 1, 0, none⟩) (by simp; omega) _).trans (belowK_b (w := w) (Nat.le_refl _) _ D _ _ (by omega) hK' rfl rfl)⟩
      simp [results, Try.f18, go_sem, c5, c6]
set_option linter.unusedSimpArgs false in
set_option linter.unusedVariables false in
set_option maxRecDepth 100000 in
set_option maxHeartbeats 4000000 in
theorem cfg_any (v : Value) (c : Ca) (v0 : Int) (w : World) (hk : CaK w v c) (hn : c.l.length ≤ 1000000) :
    Calls Try.prog 18 #[v, .int .u16 v0] w fun e w' => e = .returned (.tuple #[.int .u16 (cfgC c v0).1, .int .i64 (cfgC c v0).2]) ∧ Below w.heap.size w w' := by
  obtain ⟨va, ha, l, du⟩ := c
  obtain ⟨⟨fv, rfl, hs⟩, x0, x1, a, m, cap, x3, hv, hcap⟩ := hk
  simp only [Value.agg.injEq, Array.mk.injEq, List.cons.injEq, and_true] at hv
  obtain ⟨rfl, rfl, rfl, rfl⟩ := hv
  simp only at hs hn ⊢
  by_cases hok : va = true ∧ du = false
  · obtain ⟨rfl, rfl⟩ := hok
    exact callsIn_wide.1 (cfg_in 4 (Nat.le_refl _) ha l a m cap v0 w hs hcap hn)
  · have e : (va && !du) = false := by cases va <;> cases du <;> simp_all
    unfold cfgC
    simp only [e, Bool.false_eq_true, if_false]
    have hB5 : Below w.heap.size w ((((w.alloc (.cells #[.bool va, .int .u64 ha, .slice a m cap, .bool du] 26)).alloc (.cells #[.int .u16 v0] 35)).alloc (.cells #[.int .u16 0] 35)).alloc (.cells #[.int .i64 0] 36)) := ((((Below.refl _ _).alloc (Nat.le_refl _) _).alloc (by simp) _).alloc (by simp; omega) _).alloc (by simp; omega) _
    have hz5 : ((((w.alloc (.cells #[.bool va, .int .u64 ha, .slice a m cap, .bool du] 26)).alloc (.cells #[.int .u16 v0] 35)).alloc (.cells #[.int .u16 0] 35)).alloc (.cells #[.int .i64 0] 36)).heap.size = w.heap.size + 4 := by simp
    have b3 := Blk.new ((w.alloc (.cells #[.bool va, .int .u64 ha, .slice a m cap, .bool du] 26)).alloc (.cells #[.int .u16 v0] 35)) 35 [.int .u16 0]
    have b4 := Blk.new (((w.alloc (.cells #[.bool va, .int .u64 ha, .slice a m cap, .bool du] 26)).alloc (.cells #[.int .u16 v0] 35)).alloc (.cells #[.int .u16 0] 35)) 36 [.int .i64 0]
    simp only [World.size_alloc] at b3 b4
    have b3' := b3.below ((Below.refl _ _).alloc (Nat.le_refl _) (.cells #[.int .i64 0] 36))
    have B3 := Lib.hid b3'
    have B4 := Lib.hid b4
    have HZ5 := Lib.hid hz5
    have hcall := fun W => usable_any va du ha (.slice a m cap) W
    simp only [e] at hcall
    have HCALL := Lib.hid hcall
    clear b3 b4 b3' hz5 hok e hcall hs
    go_enter Try.func18, Try.ntmps18
    go_wp2_with fail
    go_at_call 39
    refine (HCALL.out _).mono ?_
    rintro e wu ⟨rfl, hbu⟩
    have k3 := B3.out.below hbu
    have k4 := B4.out.below hbu
    have c3 := k3.cells.1
    have c4 := k4.cells.1
    have f3 := k3.frozen 0
    have f4 := k4.frozen 0
    have hzu : w.heap.size + 4 ≤ wu.heap.size := by have := hbu.size; have := HZ5.out; omega
    have hBu : Below w.heap.size w wu := hB5.trans (hbu.mono (by have := HZ5.out; omega))
    simp only [Nat.zero_add, Nat.add_zero] at c3 c4
    have K3 := Lib.hid k3
    have K4 := Lib.hid k4
    clear hbu hB5 HZ5 B3 B4 k3 k4
    go_wp2
    have k5 := ((K3.out.set (.int .u16 0)).other (B' := w.heap.size + 1 + 1 + 1) (by omega) (.int .i64 21)).cells.1
    have k6 := ((K4.out.other (B' := w.heap.size + 1 + 1) (by omega) (.int .u16 0)).set (.int .i64 21)).cells.1
    simp only [Nat.add_zero] at k5 k6
    refine bodyPost_ret (v := .tuple #[.int .u16 0, .int .i64 21]) (by simp [results, Try.results18, go_sem, k5, k6]) rfl ?_
    exact ⟨rfl, (hBu.setCell (p := ⟨w.heap.size + 1 + 1, 0, none⟩) (by simp; omega) _).setCell (p := ⟨w.heap.size + 1 + 1 + 1, 0, none⟩) (by simp; omega) _⟩
end Go.Proofs.Yteblimdbkiiaaaa
