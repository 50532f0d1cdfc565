/- client's reference: a client on values, in a block of a function's own. And what follows it. -/
import Derived.Test.YtldcihjddebciaaOClX
import Derived.StillTailTactics
set_option linter.unusedSimpArgs false
set_option linter.unusedVariables false
set_option maxRecDepth 100000
set_option maxHeartbeats 4000000
namespace Go.Proofs.Ytldcihjddebciaa
open Go.RowKit
/-- the values of a client -/
structure Cv where
  bv : Value
  fv : Value
  ab : Value
  ai : Value
  wv : Value
  qs : List (Tk × Value)
def Cv.cells (k : Cv) (c : Cl) : List Value := clc c k.bv k.fv k.ab k.ai k.wv
def capV : Value → Nat
  | .slice _ _ c => c
  | _ => 0
/-- they are read, apart from some blocks -/
structure Cr (w : World) (R : List (Option Nat)) (c : Cl) (k : Cv) : Prop where
  bv : BD w R k.bv c.tk.vs
  fv : FD w R k.fv c.tk.fo
  ab : BD w R k.ab c.ad.vs
  ai : SR w k.ai 0 5 []
  wv : SR w k.wv k.qs.length 8 (k.qs.flatMap wenc)
  wa : k.qs.length = 0 ∨ Apart R k.wv
  wt : k.qs.map (·.1) = c.wt
  wi : ∀ q ∈ k.qs, BD w R q.2 q.1.vs ∧ q.1.fo = []
  wc : k.qs.length ≤ capV k.wv
theorem apart_above {w : World} {v : Value} {n size : Nat} {cs : List Value} {R : List (Option Nat)} (h : SR w v n size cs) (hR : ∀ i, some i ∈ R → w.heap.size ≤ i) : n = 0 ∨ Apart R v := by
  rcases h.lies with h0 | ⟨b, hb, hlt⟩
  · exact .inl h0
  · refine .inr fun k hk hm => ?_
    rw [hb] at hk
    injection hk with hk
    have := hR k hm
    omega
theorem BV.bd {w : World} {v : Value} {bs : List Nat} {R : List (Option Nat)} (h : BV w v bs) (hR : ∀ i, some i ∈ R → w.heap.size ≤ i) : BD w R v bs := ⟨h, apart_above h.sr hR⟩
theorem FdV.fd {w : World} {v : Value} {l : List Fd} {R : List (Option Nat)} (h : FdV w v l) (hR : ∀ i, some i ∈ R → w.heap.size ≤ i) : FD w R v l := ⟨h, apart_above h hR⟩
theorem Cr.clv {w : World} {R : List (Option Nat)} {c : Cl} {k : Cv} (h : Cr w R c k) : ClV w (.agg (k.cells c).toArray) c :=
  ⟨_, _, _, _, _, rfl, h.bv.1, h.fv.1, h.ab.1, h.ai, k.qs, h.wt, h.wv, fun q hq => ⟨(h.wi q hq).1.1, (h.wi q hq).2⟩⟩
theorem Cr.turned {w w' : World} {R : List (Option Nat)} {c : Cl} {k : Cv} {r : Option Nat} (h : Cr w R c k) (hg : w.grownBy w' r) (hr : Turns w R r) : Cr w' R c k :=
  ⟨h.bv.turned hg hr, h.fv.turned hg hr, h.ab.turned hg hr, h.ai.empty, h.wv.turned h.wa hg hr, h.wa, h.wt, fun q hq => ⟨(h.wi q hq).1.turned hg hr, (h.wi q hq).2⟩, h.wc⟩
theorem Cr.below {w w' : World} {R : List (Option Nat)} {c : Cl} {k : Cv} (h : Cr w R c k) (hb : Below w.heap.size w w') : Cr w' R c k :=
  ⟨h.bv.below hb, h.fv.below hb, h.ab.below hb, h.ai.empty, h.wv.below hb, h.wa, h.wt, fun q hq => ⟨(h.wi q hq).1.below hb, (h.wi q hq).2⟩, h.wc⟩
theorem Cr.one {w : World} {R : List (Option Nat)} {c : Cl} {k : Cv} (h : Cr w R c k) : (k.cells c).toArray.all (·.oneCell') = true := by
  obtain ⟨a1, c1, e1⟩ := h.bv.1.form
  obtain ⟨a2, c2, e2⟩ := h.fv.1.form
  obtain ⟨a3, c3, e3⟩ := h.ab.1.form
  obtain ⟨a4, c4, e4⟩ := h.ai.form
  obtain ⟨a5, c5, e5⟩ := h.wv.form
  simp [Cv.cells, clc, e1, e2, e3, e4, e5, Value.oneCell']
/-- a client in a block of a function's own -/
structure Bx (w : World) (b : Nat) (R : List (Option Nat)) (c : Cl) (k : Cv) : Prop where
  blk : Blk w b 35 (k.cells c)
  cr : Cr w R c k
  mem : some b ∈ R
theorem Bx.below {w w' : World} {b : Nat} {R : List (Option Nat)} {c : Cl} {k : Cv} (h : Bx w b R c k) (hb : Below w.heap.size w w') : Bx w' b R c k := ⟨h.blk.below hb, h.cr.below hb, h.mem⟩
theorem Bx.drew {w : World} {b : Nat} {R : List (Option Nat)} {c : Cl} {k : Cv} (h : Bx w b R c k) : Bx w.drew b R c k := h.below (Below.refl _ _).drew
/-- another block of R has turned -/
theorem Bx.other {w w' : World} {b r : Nat} {R : List (Option Nat)} {c : Cl} {k : Cv} (h : Bx w b R c k) (hg : w.grownBy w' (some r)) (hne : b ≠ r) (hm : some r ∈ R) : Bx w' b R c k :=
  ⟨h.blk.kept hg (fun e => hne (by injection e)), h.cr.turned hg (fun k hk => .inl (by rw [← hk]; exact hm)), h.mem⟩
theorem Bx.self {w w' : World} {b : Nat} {R : List (Option Nat)} {c : Cl} {k : Cv} (h : Bx w b R c k) (hg : w.grownBy w' (some b)) : Cr w' R c k := h.cr.turned hg (fun k hk => .inl (by rw [← hk]; exact h.mem))
theorem b26_tk {W : World} {i : Nat} {t : TypeId} {x0 x1 x2 x3 x4 x5 x6 x7 x8 x9 x10 x11 x12 x13 x14 x15 x16 x17 x18 x19 x20 x21 x22 x23 x24 x25 y0 y1 y2 y3 y4 y5 y6 y7 : Value} (h : Blk W i t [x0, x1, x2, x3, x4, x5, x6, x7, x8, x9, x10, x11, x12, x13, x14, x15, x16, x17, x18, x19, x20, x21, x22, x23, x24, x25]) : Blk (W.setCells i 2 [y0, y1, y2, y3, y4, y5, y6, y7]) i t [x0, x1, y0, y1, y2, y3, y4, y5, y6, y7, x10, x11, x12, x13, x14, x15, x16, x17, x18, x19, x20, x21, x22, x23, x24, x25] := by
  have h1 := h.setCells (vs := [y0, y1, y2, y3, y4, y5, y6, y7]) (o := 2)
  simp only [over, List.set_cons_zero, List.set_cons_succ, Nat.reduceAdd] at h1
  exact h1
theorem b26_ad {W : World} {i : Nat} {t : TypeId} {x0 x1 x2 x3 x4 x5 x6 x7 x8 x9 x10 x11 x12 x13 x14 x15 x16 x17 x18 x19 x20 x21 x22 x23 x24 x25 y0 y1 y2 y3 y4 y5 y6 y7 y8 y9 y10 y11 : Value} (h : Blk W i t [x0, x1, x2, x3, x4, x5, x6, x7, x8, x9, x10, x11, x12, x13, x14, x15, x16, x17, x18, x19, x20, x21, x22, x23, x24, x25]) : Blk (W.setCells i 10 [y0, y1, y2, y3, y4, y5, y6, y7, y8, y9, y10, y11]) i t [x0, x1, x2, x3, x4, x5, x6, x7, x8, x9, y0, y1, y2, y3, y4, y5, y6, y7, y8, y9, y10, y11, x22, x23, x24, x25] := by
  have h1 := h.setCells (vs := [y0, y1, y2, y3, y4, y5, y6, y7, y8, y9, y10, y11]) (o := 10)
  simp only [over, List.set_cons_zero, List.set_cons_succ, Nat.reduceAdd] at h1
  exact h1
theorem b26_cl {W : World} {i : Nat} {t : TypeId} {x0 x1 x2 x3 x4 x5 x6 x7 x8 x9 x10 x11 x12 x13 x14 x15 x16 x17 x18 x19 x20 x21 x22 x23 x24 x25 y0 y1 y2 y3 y4 y5 y6 y7 y8 y9 y10 y11 y12 y13 y14 y15 y16 y17 y18 y19 y20 y21 y22 y23 y24 y25 : Value} (h : Blk W i t [x0, x1, x2, x3, x4, x5, x6, x7, x8, x9, x10, x11, x12, x13, x14, x15, x16, x17, x18, x19, x20, x21, x22, x23, x24, x25]) : Blk (W.setCells i 0 [y0, y1, y2, y3, y4, y5, y6, y7, y8, y9, y10, y11, y12, y13, y14, y15, y16, y17, y18, y19, y20, y21, y22, y23, y24, y25]) i t [y0, y1, y2, y3, y4, y5, y6, y7, y8, y9, y10, y11, y12, y13, y14, y15, y16, y17, y18, y19, y20, y21, y22, y23, y24, y25] := by
  have h1 := h.setCells (vs := [y0, y1, y2, y3, y4, y5, y6, y7, y8, y9, y10, y11, y12, y13, y14, y15, y16, y17, y18, y19, y20, y21, y22, y23, y24, y25]) (o := 0)
  simp only [over, List.set_cons_zero, List.set_cons_succ, Nat.reduceAdd] at h1
  exact h1
theorem Bx.put_mt {w : World} {b : Nat} {R : List (Option Nat)} {c : Cl} {k : Cv} (h : Bx w b R c k) (m : Int) : Bx (w.setCell ⟨b, 0, none⟩ (.int .i64 m)) b R { c with mt := m } k := by
  have h2 := h.self (set1 w ⟨b, 0, none⟩ (.int .i64 m))
  exact ⟨h.blk.setAt (j := 0) (.int .i64 m), { h2 with  }, h.mem⟩
theorem Bx.put_of {w : World} {b : Nat} {R : List (Option Nat)} {c : Cl} {k : Cv} (h : Bx w b R c k) (m : Int) : Bx (w.setCell ⟨b, 7, none⟩ (.int .i64 m)) b R { c with tk := { c.tk with of := m } } k := by
  have h2 := h.self (set1 w ⟨b, 7, none⟩ (.int .i64 m))
  exact ⟨h.blk.setAt (j := 7) (.int .i64 m), { h2 with  }, h.mem⟩
theorem Bx.put_bad {w : World} {b : Nat} {R : List (Option Nat)} {c : Cl} {k : Cv} (h : Bx w b R c k) (x : Bool) : Bx (w.setCell ⟨b, 9, none⟩ (.bool x)) b R { c with tk := { c.tk with bad := x } } k := by
  have h2 := h.self (set1 w ⟨b, 9, none⟩ (.bool x))
  exact ⟨h.blk.setAt (j := 9) (.bool x), { h2 with  }, h.mem⟩
theorem Bx.put_busy {w : World} {b : Nat} {R : List (Option Nat)} {c : Cl} {k : Cv} (h : Bx w b R c k) (x : Bool) : Bx (w.setCell ⟨b, 22, none⟩ (.bool x)) b R { c with busy := x } k := by
  have h2 := h.self (set1 w ⟨b, 22, none⟩ (.bool x))
  exact ⟨h.blk.setAt (j := 22) (.bool x), { h2 with  }, h.mem⟩
theorem Bx.put_since {w : World} {b : Nat} {R : List (Option Nat)} {c : Cl} {k : Cv} (h : Bx w b R c k) (m : Int) : Bx (w.setCell ⟨b, 23, none⟩ (.int .i64 m)) b R { c with since := m } k := by
  have h2 := h.self (set1 w ⟨b, 23, none⟩ (.int .i64 m))
  exact ⟨h.blk.setAt (j := 23) (.int .i64 m), { h2 with  }, h.mem⟩
theorem Bx.put_dead {w : World} {b : Nat} {R : List (Option Nat)} {c : Cl} {k : Cv} (h : Bx w b R c k) (x : Bool) : Bx (w.setCell ⟨b, 24, none⟩ (.bool x)) b R { c with dead := x } k := by
  have h2 := h.self (set1 w ⟨b, 24, none⟩ (.bool x))
  exact ⟨h.blk.setAt (j := 24) (.bool x), { h2 with  }, h.mem⟩
theorem Bx.put_bv {w : World} {b : Nat} {R : List (Option Nat)} {c : Cl} {k : Cv} (h : Bx w b R c k) {v : Value} {vs : List Nat} (hv : BD w R v vs) : Bx (w.setCell ⟨b, 6, none⟩ v) b R { c with tk := { c.tk with vs := vs } } { k with bv := v } := by
  have h2 := h.self (set1 w ⟨b, 6, none⟩ v)
  exact ⟨h.blk.setAt (j := 6) v, { h2 with bv := hv.turned (set1 w ⟨b, 6, none⟩ v) (fun _ hk => .inl (by rw [← hk]; exact h.mem)) }, h.mem⟩
theorem Bx.put_fo {w : World} {b : Nat} {R : List (Option Nat)} {c : Cl} {k : Cv} (h : Bx w b R c k) {v : Value} {l : List Fd} (hv : FD w R v l) : Bx (w.setCell ⟨b, 8, none⟩ v) b R { c with tk := { c.tk with fo := l } } { k with fv := v } := by
  have h2 := h.self (set1 w ⟨b, 8, none⟩ v)
  exact ⟨h.blk.setAt (j := 8) v, { h2 with fv := hv.turned (set1 w ⟨b, 8, none⟩ v) (fun _ hk => .inl (by rw [← hk]; exact h.mem)) }, h.mem⟩
theorem Bx.put_wt {w : World} {b : Nat} {R : List (Option Nat)} {c : Cl} {k : Cv} (h : Bx w b R c k) {v : Value} {qs : List (Tk × Value)} (h1 : SR w v qs.length 8 (qs.flatMap wenc)) (ha : qs.length = 0 ∨ Apart R v) (hi : ∀ q ∈ qs, BD w R q.2 q.1.vs ∧ q.1.fo = []) (hc : qs.length ≤ capV v) : Bx (w.setCell ⟨b, 25, none⟩ v) b R { c with wt := qs.map (·.1) } { k with wv := v, qs := qs } := by
  have h2 := h.self (set1 w ⟨b, 25, none⟩ v)
  exact ⟨h.blk.setAt (j := 25) v, { h2 with wv := h1.turned ha (set1 w ⟨b, 25, none⟩ v) (fun _ hk => .inl (by rw [← hk]; exact h.mem)), wc := hc, wa := ha, wt := rfl, wi := fun q hq => ⟨(hi q hq).1.turned (set1 w ⟨b, 25, none⟩ v) (fun _ hk => .inl (by rw [← hk]; exact h.mem)), (hi q hq).2⟩ }, h.mem⟩
theorem Bx.put_ad {w : World} {b : Nat} {R : List (Option Nat)} {c : Cl} {k : Cv} (h : Bx w b R c k) (p : Pd) {bv iv : Value} (hp : BD w R bv p.vs) (hi : SR w iv 0 5 []) : Bx (w.setCells b 10 (pdc p bv iv)) b R { c with ad := p } { k with ab := bv, ai := iv } := by
  have hg := setCells_grown b (pdc p bv iv) 10 w
  have h2 := h.self hg
  exact ⟨b26_ad h.blk, { h2 with ab := hp.turned hg (fun _ hk => .inl (by rw [← hk]; exact h.mem)), ai := hi.empty }, h.mem⟩
theorem Bx.put_tk {w : World} {b : Nat} {R : List (Option Nat)} {c : Cl} {k : Cv} (h : Bx w b R c k) (t : Tk) {bv fv : Value} (hp : BD w R bv t.vs) (hf : FD w R fv t.fo) : Bx (w.setCells b 2 (tkc t bv fv)) b R { c with tk := t } { k with bv := bv, fv := fv } := by
  have hg := setCells_grown b (tkc t bv fv) 2 w
  have h2 := h.self hg
  exact ⟨b26_tk h.blk, { h2 with bv := hp.turned hg (fun _ hk => .inl (by rw [← hk]; exact h.mem)), fv := hf.turned hg (fun _ hk => .inl (by rw [← hk]; exact h.mem)) }, h.mem⟩
theorem Bx.put_cl {w : World} {b : Nat} {R : List (Option Nat)} {c : Cl} {k : Cv} (h : Bx w b R c k) {c' : Cl} {k' : Cv} (hc : Cr w R c' k') : Bx (w.setCells b 0 (k'.cells c')) b R c' k' := by
  have hg := setCells_grown b (k'.cells c') 0 w
  have h2 := h.self hg
  exact ⟨b26_cl h.blk, hc.turned hg (fun _ hk => .inl (by rw [← hk]; exact h.mem)), h.mem⟩
theorem Bx.range {w : World} {b : Nat} {R : List (Option Nat)} {c : Cl} {k : Cv} (h : Bx w b R c k) : w.rangeAt b 0 (k.cells c) := h.blk.range 0 _ (fun j v hv => by rw [Nat.zero_add]; exact hv)
/-- requests, read apart from some blocks -/
def PsR (w : World) (R : List (Option Nat)) (v : Value) (ps : List Pd) : Prop := ∃ qs : List (Pd × Value × Value), qs.map (·.1) = ps ∧ SR w v qs.length 12 (qs.flatMap penc) ∧ (qs.length = 0 ∨ Apart R v) ∧ ∀ q ∈ qs, BD w R q.2.1 q.1.vs ∧ SR w q.2.2 0 5 []
theorem BD.more {w : World} {R R' : List (Option Nat)} {v : Value} {bs : List Nat} (h : BD w R v bs) (hR : ∀ i, some i ∈ R' → w.heap.size ≤ i) : BD w (R ++ R') v bs := ⟨h.1, by
  rcases h.2 with h0 | h0
  · exact .inl h0
  · rcases apart_above h.1.sr hR with h1 | h1
    · exact .inl h1
    · exact .inr fun k hk hm => (List.mem_append.1 hm).elim (h0 k hk) (h1 k hk)⟩
theorem FD.more {w : World} {R R' : List (Option Nat)} {v : Value} {l : List Fd} (h : FD w R v l) (hR : ∀ i, some i ∈ R' → w.heap.size ≤ i) : FD w (R ++ R') v l := ⟨h.1, by
  rcases h.2 with h0 | h0
  · exact .inl h0
  · rcases apart_above h.1 hR with h1 | h1
    · exact .inl h1
    · exact .inr fun k hk hm => (List.mem_append.1 hm).elim (h0 k hk) (h1 k hk)⟩
theorem Cr.more {w : World} {R R' : List (Option Nat)} {c : Cl} {k : Cv} (h : Cr w R c k) (hR : ∀ i, some i ∈ R' → w.heap.size ≤ i) : Cr w (R ++ R') c k :=
  ⟨h.bv.more hR, h.fv.more hR, h.ab.more hR, h.ai, h.wv, by
    rcases h.wa with h0 | h0
    · exact .inl h0
    · rcases apart_above h.wv hR with h1 | h1
      · exact .inl h1
      · exact .inr fun k hk hm => (List.mem_append.1 hm).elim (h0 k hk) (h1 k hk), h.wt, fun q hq => ⟨(h.wi q hq).1.more hR, (h.wi q hq).2⟩, h.wc⟩
theorem BD.less {w : World} {R R' : List (Option Nat)} {v : Value} {bs : List Nat} (h : BD w R v bs) (hs : ∀ r, r ∈ R' → r ∈ R) : BD w R' v bs := ⟨h.1, h.2.imp id fun h1 k hk hm => h1 k hk (hs _ hm)⟩
theorem FD.less {w : World} {R R' : List (Option Nat)} {v : Value} {l : List Fd} (h : FD w R v l) (hs : ∀ r, r ∈ R' → r ∈ R) : FD w R' v l := ⟨h.1, h.2.imp id fun h1 k hk hm => h1 k hk (hs _ hm)⟩
theorem Cr.less {w : World} {R R' : List (Option Nat)} {c : Cl} {k : Cv} (h : Cr w R c k) (hs : ∀ r, r ∈ R' → r ∈ R) : Cr w R' c k :=
  ⟨h.bv.less hs, h.fv.less hs, h.ab.less hs, h.ai, h.wv, h.wa.imp id fun h1 k hk hm => h1 k hk (hs _ hm), h.wt, fun q hq => ⟨(h.wi q hq).1.less hs, (h.wi q hq).2⟩, h.wc⟩
theorem psr_one {w : World} {b : Nat} {p : Pd} {bv iv : Value} {R : List (Option Nat)} (h : Blk w b 32 (pdc p bv iv)) (hb : BD w R bv p.vs) (hi : SR w iv 0 5 []) (hn : some b ∉ R) : PsR w R (.slice (some ⟨b, 0, none⟩) 1 1) [p] := by
  obtain ⟨a1, c1, e1⟩ := hb.1.form
  obtain ⟨a2, c2, e2⟩ := hi.form
  refine ⟨[(p, bv, iv)], rfl, ⟨by unfold maxLen; simp, rfl, fun u hu => ?_, some ⟨b, 0, none⟩, 1, rfl, fun h => (by cases h), fun _ => ⟨b, 0, rfl, h.lt, fun j u hj => ?_⟩⟩, .inr (fun k hk => by simp [Value.ownBlock] at hk; subst hk; exact hn), fun q hq => by rw [List.mem_singleton.1 hq]; exact ⟨hb, hi⟩⟩
  · simp only [List.flatMap_cons, List.flatMap_nil, List.append_nil, penc, pdc, e1, e2, List.mem_cons, List.not_mem_nil, or_false] at hu
    rcases hu with rfl | rfl | rfl | rfl | rfl | rfl | rfl | rfl | rfl | rfl | rfl | rfl <;> rfl
  · rw [Nat.zero_add]
    exact h.cell (by simpa [penc] using hj)
theorem rsend_any (c : Cl) (k : Cv) (R0 : List (Option Nat)) (p : Pd) (bv iv : Value) (now : Int) (w : World) (hC : Cr w R0 c k) (hp : BD w R0 bv p.vs) (hi : SR w iv 0 5 []) (hR0 : ∀ i, some i ∈ R0 → i < w.heap.size) :
    Calls Try.prog 77 #[.agg (k.cells c).toArray, .agg #[.int .i64 p.kd, .int .i64 p.ask, .int .u16 p.ha, .int .u16 p.la, .int .u64 p.hi, .int .u64 p.lo, .int .i64 p.of, .int .i64 p.mt, .int .i64 p.co, .bool p.cm, bv, iv], .int .i64 now] w fun e w' => ∃ k' o, e = .returned (.tuple #[.agg (k'.cells { c with ad := p, since := now, busy := true }).toArray, o]) ∧ Cr w' R0 { c with ad := p, since := now, busy := true } k' ∧ PsR w' R0 o [p] ∧ Below w.heap.size w w' := by
  obtain ⟨R, hR⟩ : ∃ R : List (Option Nat), R = R0 ++ [some w.heap.size, some (w.heap.size + 2)] := ⟨_, rfl⟩
  have hRs : ∀ r, r ∈ R0 → r ∈ R := fun r hr => by rw [hR]; simp [hr]
  have hm0 : some w.heap.size ∈ R := by rw [hR]; simp
  have hm2 : some (w.heap.size + 2) ∈ R := by rw [hR]; simp
  have hC : Cr w R c k := by rw [hR]; exact hC.more (fun i hi => by simp at hi; omega)
  have hP : BD w R bv p.vs := by rw [hR]; exact hp.more (fun i hi => by simp at hi; omega)
  obtain ⟨a, pc, rfl⟩ := hp.1.form
  obtain ⟨ia, ic, rfl⟩ := hi.form
  obtain ⟨L, hL⟩ : ∃ L, p.vs.length = L := ⟨_, rfl⟩
  rw [hL] at hP ⊢
  have bC0 := ((Blk.new w 35 (k.cells c)).alloc (.cells #[.int .i64 p.kd, .int .i64 p.ask, .int .u16 p.ha, .int .u16 p.la, .int .u64 p.hi, .int .u64 p.lo, .int .i64 p.of, .int .i64 p.mt, .int .i64 p.co, .bool p.cm, .slice a L pc, .slice ia 0 ic] 32)).alloc (.cells #[.int .i64 0, .int .i64 0, .int .i64 0, .int .u16 0, .int .u16 0, .int .u16 0, .slice none 0 0, .int .i64 0, .slice none 0 0, .bool false, .int .i64 0, .int .i64 0, .int .u16 0, .int .u16 0, .int .u64 0, .int .u64 0, .int .i64 0, .int .i64 0, .int .i64 0, .bool false, .slice none 0 0, .slice none 0 0, .bool false, .int .i64 0, .bool false, .slice none 0 0] 35)
  have bP0 := (Blk.new (w.alloc (.cells (k.cells c).toArray 35)) 32 [.int .i64 p.kd, .int .i64 p.ask, .int .u16 p.ha, .int .u16 p.la, .int .u64 p.hi, .int .u64 p.lo, .int .i64 p.of, .int .i64 p.mt, .int .i64 p.co, .bool p.cm, .slice a L pc, .slice ia 0 ic]).alloc (.cells #[.int .i64 0, .int .i64 0, .int .i64 0, .int .u16 0, .int .u16 0, .int .u16 0, .slice none 0 0, .int .i64 0, .slice none 0 0, .bool false, .int .i64 0, .int .i64 0, .int .u16 0, .int .u16 0, .int .u64 0, .int .u64 0, .int .i64 0, .int .i64 0, .int .i64 0, .bool false, .slice none 0 0, .slice none 0 0, .bool false, .int .i64 0, .bool false, .slice none 0 0] 35)
  have bR0 := Blk.new ((w.alloc (.cells (k.cells c).toArray 35)).alloc (.cells #[.int .i64 p.kd, .int .i64 p.ask, .int .u16 p.ha, .int .u16 p.la, .int .u64 p.hi, .int .u64 p.lo, .int .i64 p.of, .int .i64 p.mt, .int .i64 p.co, .bool p.cm, .slice a L pc, .slice ia 0 ic] 32)) 35 czl
  have hz0' : (w.alloc (.cells (k.cells c).toArray 35)).heap.size = w.heap.size + 1 := by simp
  have hz1' : ((w.alloc (.cells (k.cells c).toArray 35)).alloc (.cells #[.int .i64 p.kd, .int .i64 p.ask, .int .u16 p.ha, .int .u16 p.la, .int .u64 p.hi, .int .u64 p.lo, .int .i64 p.of, .int .i64 p.mt, .int .i64 p.co, .bool p.cm, .slice a L pc, .slice ia 0 ic] 32)).heap.size = w.heap.size + 2 := by simp
  have hB0 : Below w.heap.size w (((w.alloc (.cells (k.cells c).toArray 35)).alloc (.cells #[.int .i64 p.kd, .int .i64 p.ask, .int .u16 p.ha, .int .u16 p.la, .int .u64 p.hi, .int .u64 p.lo, .int .i64 p.of, .int .i64 p.mt, .int .i64 p.co, .bool p.cm, .slice a L pc, .slice ia 0 ic] 32)).alloc (.cells #[.int .i64 0, .int .i64 0, .int .i64 0, .int .u16 0, .int .u16 0, .int .u16 0, .slice none 0 0, .int .i64 0, .slice none 0 0, .bool false, .int .i64 0, .int .i64 0, .int .u16 0, .int .u16 0, .int .u64 0, .int .u64 0, .int .i64 0, .int .i64 0, .int .i64 0, .bool false, .slice none 0 0, .slice none 0 0, .bool false, .int .i64 0, .bool false, .slice none 0 0] 35)) := (((Below.refl _ _).alloc (Nat.le_refl _) _).alloc (by simp) _).alloc (by simp; omega) _
  rw [hz0'] at bP0
  rw [hz1'] at bR0
  unfold czl at bR0
  have HL := Lib.hid hL
  have HR := Lib.hid hR
  clear hz0' hz1' hp hL hR
  go_enter Try.func77, Try.ntmps77
  go_upto_region 1 with fail
  generalize hX : World.alloc (World.alloc (World.alloc w _) _) _ = V at bC0 bP0 bR0 hB0 ⊢
  clear hX
  have B0 : Bx V w.heap.size R c k := ⟨bC0, hC.below hB0, hm0⟩
  have hP0 := hP.below hB0
  have hI0 := hi.below hB0
  have hth := B0.blk.there 10 12 (by simp [Cv.cells, clc])
  have TB := bP0.cells
  have hOpen := TB
  simp only [Cells, blk, List.cons_append, List.nil_append, and_true, Nat.reduceAdd, Nat.add_zero, Nat.zero_add] at hOpen
  obtain ⟨q0, q1, q2, q3, q4, q5, q6, q7, q8, q9, q10, q11⟩ := hOpen
  go_upto_region 2 with (refine wpList_store_mid rfl 32 _ _ rfl w.heap.size 10 #[.int .i64 p.kd, .int .i64 p.ask, .int .u16 p.ha, .int .u16 p.la, .int .u64 p.hi, .int .u64 p.lo, .int .i64 p.of, .int .i64 p.mt, .int .i64 p.co, .bool p.cm, .slice a L pc, .slice ia 0 ic] rfl rfl hth (by kernel_rfl) (by simp [Value.oneCell']) ?_; simp only [Act.put])
  clear q0 q1 q2 q3 q4 q5 q6 q7 q8 q9 q10 q11 TB hth
  have B1 := B0.put_ad p hP0 hI0
  have bP1 := bP0.kept (setCells_grown w.heap.size (pdc p (.slice a L pc) (.slice ia 0 ic)) 10 V) (fun e => by injection e with e; omega)
  have bR1 := bR0.kept (setCells_grown w.heap.size (pdc p (.slice a L pc) (.slice ia 0 ic)) 10 V) (fun e => by injection e with e; omega)
  have hB1 := hB0.grown (setCells_grown w.heap.size (pdc p (.slice a L pc) (.slice ia 0 ic)) 10 V) hB0.size (fun k hk => by cases hk; exact Nat.le_refl _)
  generalize hW : World.setCells V w.heap.size 10 _ = w1
  have e1 : V.setCells w.heap.size 10 (pdc p (.slice a L pc) (.slice ia 0 ic)) = w1 := hW
  rw [e1] at B1 bP1 bR1 hB1
  clear hW e1 hP0 hI0 bC0 bP0 bR0 hB0 B0 hP hC
  have m23 := B1.blk.cell (j := 23) (v := .int .i64 c.since) rfl
  have z23 := B1.blk.frozen 23
  have B2 := B1.put_since now
  have m22 := B2.blk.cell (j := 22) (v := .bool c.busy) rfl
  have z22 := B2.blk.frozen 22
  have B3 := B2.put_busy true
  have hg2 := (set1 w1 ⟨w.heap.size, 23, none⟩ (.int .i64 now)).trans (set1 (w1.setCell ⟨w.heap.size, 23, none⟩ (.int .i64 now)) ⟨w.heap.size, 22, none⟩ (.bool true))
  have bP3 := bP1.kept hg2 (fun e => by injection e with e; simp only at e; omega)
  have bR3 := bR1.kept hg2 (fun e => by injection e with e; simp only at e; omega)
  have hB3 := hB1.grown hg2 hB1.size (fun k hk => by cases hk; exact Nat.le_refl _)
  go_upto_region 4 with fail
  generalize hW : World.setCell (World.setCell w1 _ _) _ _ = w3 at B3 bP3 bR3 hB3 ⊢
  clear hW m22 z22 m23 z23 hg2 B1 B2 bP1 bR1 hB1
  obtain ⟨c1, hc1⟩ : ∃ c1 : Cl, { c with ad := p, since := now, busy := true } = c1 := ⟨_, rfl⟩
  obtain ⟨k1, hk1⟩ : ∃ k1 : Cv, { k with ab := .slice a L pc, ai := .slice ia 0 ic } = k1 := ⟨_, rfl⟩
  have B3 : Bx w3 w.heap.size R c1 k1 := by rw [← hc1, ← hk1]; exact B3
  have HPV : BV w3 (.slice a L pc) p.vs := by have h := B3.cr.ab.1; rw [← hk1, ← hc1] at h; exact h
  have HIV : SR w3 (.slice ia 0 ic) 0 5 [] := by have h := B3.cr.ai; rw [← hk1] at h; exact h
  have HPA : BD w3 R (.slice a L pc) p.vs := by have h := B3.cr.ab; rw [← hk1, ← hc1] at h; exact h
  have HC1 := Lib.hid hc1
  clear hk1 hc1
  have HPA := HPA.below (Below.refl _ w3).drew
  have Bd := B3.drew
  have bPd := bP3.drew
  have bRd := bR3.drew
  have hBd := hB3.drew
  have TB := bPd.cells
  clear B3 bP3 bR3 hB3 HPV HIV
  refine wp_region_held_drew (S := (fun W' : World => Cells W' (blk (w.heap.size + 1) 0 0 [.int .i64 p.kd, .int .i64 p.ask, .int .u16 p.ha, .int .u16 p.la, .int .u64 p.hi, .int .u64 p.lo, .int .i64 p.of, .int .i64 p.mt, .int .i64 p.co, .bool p.cm, .slice a L pc, .slice ia 0 ic]))) (by kernel_rfl) (TB) (fun hHeld => ?_)
  generalize World.drew _ = wd at hHeld TB Bd bPd bRd hBd HPA ⊢
  repeat' first
    | refine tkU 1 ?_
    | refine tkU 4 ?_
    | (refine opn 0 fun K hK => ?_
       refine step_load_mid (by rfl) 35 _ (by rfl) w.heap.size 0 (by rfl) (k1.cells c1) _ Bd.range Try.underlying35 rfl (by kernel_rfl) ?_
       refine hK.out _ _ (TB) (fun h => ?_)
       replace hHeld := h
       clear hK K h
       try simp only [Act.put, List.setIfInBounds_toArray, List.set_cons_zero, List.set_cons_succ])
    | (refine opn 2 fun K hK => ?_
       go_simp
       have hltO := bRd.lt
       generalize hX : World.alloc _ (.cells _ 32) = w4
       obtain ⟨hnb, hB4, hz4⟩ := alloc_named hX
       have bO : Blk w4 _ 32 [.int .i64 p.kd, .int .i64 p.ask, .int .u16 p.ha, .int .u16 p.la, .int .u64 p.hi, .int .u64 p.lo, .int .i64 p.of, .int .i64 p.mt, .int .i64 p.co, .bool p.cm, .slice a L pc, .slice ia 0 ic] := hnb
       have Bd := Bd.below hB4
       have bPd := bPd.below hB4
       have bRd := bRd.below hB4
       have HPA := HPA.below hB4
       have hBd := hBd.trans (hB4.mono hBd.size)
       have TB := bPd.cells
       clear hX hnb hB4 hz4
       refine hK.out _ _ (TB) (fun h => ?_)
       replace hHeld := h
       clear hK K h
       try simp only [Act.put, List.setIfInBounds_toArray, List.set_cons_zero, List.set_cons_succ])
    | (refine opn 3 fun K hK => ?_
       refine step_store_mid (by rfl) 35 _ _ (by rfl) (w.heap.size + 2) 0 (k1.cells c1).toArray (by rfl) (by rfl) (bRd.there 0 26 (by simp)) (by kernel_rfl) Bd.cr.one ?_
       generalize hX : World.setCells _ (w.heap.size + 2) 0 _ = w9
       have bRd : Blk w9 (w.heap.size + 2) 35 (k1.cells c1) := hX ▸ Blk.putC bRd c1 k1.bv k1.fv k1.ab k1.ai k1.wv
       have hg9 := hX ▸ setCells_grown (w.heap.size + 2) (k1.cells c1) 0 _
       have Bd := Bd.other hg9 (by omega) hm2
       have HPA := HPA.turned hg9 (fun k hk => .inl (by rw [← hk]; exact hm2))
       have bPd := bPd.kept hg9 (fun e => by injection e with e; omega)
       try have bO := bO.kept hg9 (fun e => by injection e with e; omega)
       have hBd := hBd.grown hg9 hBd.size (fun k hk => by cases hk; omega)
       have TB := bPd.cells
       clear hX hg9
       refine hK.out _ _ (TB) (fun h => ?_)
       replace hHeld := h
       clear hK K h
       try simp only [Act.put, List.setIfInBounds_toArray, List.set_cons_zero, List.set_cons_succ])
    | refine rd2 0 2 ?_ ?_
    | refine rd2 2 3 ?_ ?_
    | refine rd1 3 ?_
    | refine rd1 2 ?_
    | refine rd1 0 ?_
    | (refine wpAnyH_done (by kernel_rfl) ?_ _
       go_wp2_with fail
       have hl := run_loadVar_row (P := Try.prog) _ (w.heap.size + 2) 35 35 _ (0, 0) _ bRd Try.underlying35 rfl (by kernel_rfl)
       refine bodyPost_ret (v := .tuple #[.agg (k1.cells c1).toArray, .slice (some ⟨_, 0, none⟩) 1 1]) (by rw [results_cell_tmp rfl]; simp [asAddr, hl] <;> rfl) rfl ⟨k1, _, by rw [HC1.out], by rw [HC1.out]; exact Bd.cr.less hRs, psr_one (p := p) bO (HPA.less hRs) hi.empty (fun hm => by have := hR0 _ hm; omega), hBd⟩)
end Go.Proofs.Ytldcihjddebciaa
