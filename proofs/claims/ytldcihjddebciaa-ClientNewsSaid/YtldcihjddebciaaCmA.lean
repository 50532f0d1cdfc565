/- client's reference: a client on values, in a block of a function's own. -/
import Derived.Test.YtldcihjddebciaaClX
namespace Go.Proofs.Ytldcihjddebciaa
open Go.RowKit

/-- the values of a client -/
structure Cv where
  bv : Value
  fv : Value
  ab : Value
  ai : Value
  wv : Value
  qs : List (Tk × Value)
def Cv.cells (k : Cv) (c : Cl) : List Value := clc c k.bv k.fv k.ab k.ai k.wv
def capV : Value → Nat
  | .slice _ _ c => c
  | _ => 0
/-- they are read, apart from some blocks -/
structure Cr (w : World) (R : List (Option Nat)) (c : Cl) (k : Cv) : Prop where
  bv : BD w R k.bv c.tk.vs
  fv : FD w R k.fv c.tk.fo
  ab : BD w R k.ab c.ad.vs
  ai : SR w k.ai 0 5 []
  wv : SR w k.wv k.qs.length 8 (k.qs.flatMap wenc)
  wa : k.qs.length = 0 ∨ Apart R k.wv
  wt : k.qs.map (·.1) = c.wt
  wi : ∀ q ∈ k.qs, BD w R q.2 q.1.vs ∧ q.1.fo = []
  wc : k.qs.length ≤ capV k.wv
theorem apart_above {w : World} {v : Value} {n size : Nat} {cs : List Value} {R : List (Option Nat)} (h : SR w v n size cs) (hR : ∀ i, some i ∈ R → w.heap.size ≤ i) : n = 0 ∨ Apart R v := by
  rcases h.lies with h0 | ⟨b, hb, hlt⟩
  · exact .inl h0
  · refine .inr fun k hk hm => ?_
    rw [hb] at hk
    injection hk with hk
    have := hR k hm
    omega
theorem BV.bd {w : World} {v : Value} {bs : List Nat} {R : List (Option Nat)} (h : BV w v bs) (hR : ∀ i, some i ∈ R → w.heap.size ≤ i) : BD w R v bs := ⟨h, apart_above h.sr hR⟩
theorem FdV.fd {w : World} {v : Value} {l : List Fd} {R : List (Option Nat)} (h : FdV w v l) (hR : ∀ i, some i ∈ R → w.heap.size ≤ i) : FD w R v l := ⟨h, apart_above h hR⟩
theorem Cr.clv {w : World} {R : List (Option Nat)} {c : Cl} {k : Cv} (h : Cr w R c k) : ClV w (.agg (k.cells c).toArray) c :=
  ⟨_, _, _, _, _, rfl, h.bv.1, h.fv.1, h.ab.1, h.ai, k.qs, h.wt, h.wv, fun q hq => ⟨(h.wi q hq).1.1, (h.wi q hq).2⟩⟩
theorem Cr.turned {w w' : World} {R : List (Option Nat)} {c : Cl} {k : Cv} {r : Option Nat} (h : Cr w R c k) (hg : w.grownBy w' r) (hr : Turns w R r) : Cr w' R c k :=
  ⟨h.bv.turned hg hr, h.fv.turned hg hr, h.ab.turned hg hr, h.ai.empty, h.wv.turned h.wa hg hr, h.wa, h.wt, fun q hq => ⟨(h.wi q hq).1.turned hg hr, (h.wi q hq).2⟩, h.wc⟩
theorem Cr.below {w w' : World} {R : List (Option Nat)} {c : Cl} {k : Cv} (h : Cr w R c k) (hb : Below w.heap.size w w') : Cr w' R c k :=
  ⟨h.bv.below hb, h.fv.below hb, h.ab.below hb, h.ai.empty, h.wv.below hb, h.wa, h.wt, fun q hq => ⟨(h.wi q hq).1.below hb, (h.wi q hq).2⟩, h.wc⟩
theorem Cr.one {w : World} {R : List (Option Nat)} {c : Cl} {k : Cv} (h : Cr w R c k) : (k.cells c).toArray.all (·.oneCell') = true := by
  obtain ⟨a1, c1, e1⟩ := h.bv.1.form
  obtain ⟨a2, c2, e2⟩ := h.fv.1.form
  obtain ⟨a3, c3, e3⟩ := h.ab.1.form
  obtain ⟨a4, c4, e4⟩ := h.ai.form
  obtain ⟨a5, c5, e5⟩ := h.wv.form
  simp [Cv.cells, clc, e1, e2, e3, e4, e5, Value.oneCell']
/-- a client in a block of a function's own -/
structure Bx (w : World) (b : Nat) (R : List (Option Nat)) (c : Cl) (k : Cv) : Prop where
  blk : Blk w b 35 (k.cells c)
  cr : Cr w R c k
  mem : some b ∈ R
theorem Bx.below {w w' : World} {b : Nat} {R : List (Option Nat)} {c : Cl} {k : Cv} (h : Bx w b R c k) (hb : Below w.heap.size w w') : Bx w' b R c k := ⟨h.blk.below hb, h.cr.below hb, h.mem⟩
theorem Bx.drew {w : World} {b : Nat} {R : List (Option Nat)} {c : Cl} {k : Cv} (h : Bx w b R c k) : Bx w.drew b R c k := h.below (Below.refl _ _).drew
/-- another block of R has turned -/
theorem Bx.other {w w' : World} {b r : Nat} {R : List (Option Nat)} {c : Cl} {k : Cv} (h : Bx w b R c k) (hg : w.grownBy w' (some r)) (hne : b ≠ r) (hm : some r ∈ R) : Bx w' b R c k :=
  ⟨h.blk.kept hg (fun e => hne (by injection e)), h.cr.turned hg (fun k hk => .inl (by rw [← hk]; exact hm)), h.mem⟩
theorem Bx.self {w w' : World} {b : Nat} {R : List (Option Nat)} {c : Cl} {k : Cv} (h : Bx w b R c k) (hg : w.grownBy w' (some b)) : Cr w' R c k := h.cr.turned hg (fun k hk => .inl (by rw [← hk]; exact h.mem))
set_option linter.unusedSimpArgs false in
set_option linter.unusedVariables false in
set_option maxRecDepth 100000 in
set_option maxHeartbeats 4000000 in
theorem b26_tk {W : World} {i : Nat} {t : TypeId} {x0 x1 x2 x3 x4 x5 x6 x7 x8 x9 x10 x11 x12 x13 x14 x15 x16 x17 x18 x19 x20 x21 x22 x23 x24 x25 y0 y1 y2 y3 y4 y5 y6 y7 : Value} (h : Blk W i t [x0, x1, x2, x3, x4, x5, x6, x7, x8, x9, x10, x11, x12, x13, x14, x15, x16, x17, x18, x19, x20, x21, x22, x23, x24, x25]) : Blk (W.setCells i 2 [y0, y1, y2, y3, y4, y5, y6, y7]) i t [x0, x1, y0, y1, y2, y3, y4, y5, y6, y7, x10, x11, x12, x13, x14, x15, x16, x17, x18, x19, x20, x21, x22, x23, x24, x25] := by
  have h1 := h.setCells (vs := [y0, y1, y2, y3, y4, y5, y6, y7]) (o := 2)
  simp only [over, List.set_cons_zero, List.set_cons_succ, Nat.reduceAdd] at h1
  exact h1
set_option linter.unusedSimpArgs false in
set_option linter.unusedVariables false in
set_option maxRecDepth 100000 in
set_option maxHeartbeats 4000000 in
theorem b26_ad {W : World} {i : Nat} {t : TypeId} {x0 x1 x2 x3 x4 x5 x6 x7 x8 x9 x10 x11 x12 x13 x14 x15 x16 x17 x18 x19 x20 x21 x22 x23 x24 x25 y0 y1 y2 y3 y4 y5 y6 y7 y8 y9 y10 y11 : Value} (h : Blk W i t [x0, x1, x2, x3, x4, x5, x6, x7, x8, x9, x10, x11, x12, x13, x14, x15, x16, x17, x18, x19, x20, x21, x22, x23, x24, x25]) : Blk (W.setCells i 10 [y0, y1, y2, y3, y4, y5, y6, y7, y8, y9, y10, y11]) i t [x0, x1, x2, x3, x4, x5, x6, x7, x8, x9, y0, y1, y2, y3, y4, y5, y6, y7, y8, y9, y10, y11, x22, x23, x24, x25] := by
  have h1 := h.setCells (vs := [y0, y1, y2, y3, y4, y5, y6, y7, y8, y9, y10, y11]) (o := 10)
  simp only [over, List.set_cons_zero, List.set_cons_succ, Nat.reduceAdd] at h1
  exact h1
set_option linter.unusedSimpArgs false in
set_option linter.unusedVariables false in
set_option maxRecDepth 100000 in
set_option maxHeartbeats 4000000 in
theorem b26_cl {W : World} {i : Nat} {t : TypeId} {x0 x1 x2 x3 x4 x5 x6 x7 x8 x9 x10 x11 x12 x13 x14 x15 x16 x17 x18 x19 x20 x21 x22 x23 x24 x25 y0 y1 y2 y3 y4 y5 y6 y7 y8 y9 y10 y11 y12 y13 y14 y15 y16 y17 y18 y19 y20 y21 y22 y23 y24 y25 : Value} (h : Blk W i t [x0, x1, x2, x3, x4, x5, x6, x7, x8, x9, x10, x11, x12, x13, x14, x15, x16, x17, x18, x19, x20, x21, x22, x23, x24, x25]) : Blk (W.setCells i 0 [y0, y1, y2, y3, y4, y5, y6, y7, y8, y9, y10, y11, y12, y13, y14, y15, y16, y17, y18, y19, y20, y21, y22, y23, y24, y25]) i t [y0, y1, y2, y3, y4, y5, y6, y7, y8, y9, y10, y11, y12, y13, y14, y15, y16, y17, y18, y19, y20, y21, y22, y23, y24, y25] := by
  have h1 := h.setCells (vs := [y0, y1, y2, y3, y4, y5, y6, y7, y8, y9, y10, y11, y12, y13, y14, y15, y16, y17, y18, y19, y20, y21, y22, y23, y24, y25]) (o := 0)
  simp only [over, List.set_cons_zero, List.set_cons_succ, Nat.reduceAdd] at h1
  exact h1
theorem Bx.put_mt {w : World} {b : Nat} {R : List (Option Nat)} {c : Cl} {k : Cv} (h : Bx w b R c k) (m : Int) : Bx (w.setCell ⟨b, 0, none⟩ (.int .i64 m)) b R { c with mt := m } k := by
  have h2 := h.self (set1 w ⟨b, 0, none⟩ (.int .i64 m))
  exact ⟨h.blk.setAt (j := 0) (.int .i64 m), { h2 with  }, h.mem⟩
theorem Bx.put_of {w : World} {b : Nat} {R : List (Option Nat)} {c : Cl} {k : Cv} (h : Bx w b R c k) (m : Int) : Bx (w.setCell ⟨b, 7, none⟩ (.int .i64 m)) b R { c with tk := { c.tk with of := m } } k := by
  have h2 := h.self (set1 w ⟨b, 7, none⟩ (.int .i64 m))
  exact ⟨h.blk.setAt (j := 7) (.int .i64 m), { h2 with  }, h.mem⟩
theorem Bx.put_bad {w : World} {b : Nat} {R : List (Option Nat)} {c : Cl} {k : Cv} (h : Bx w b R c k) (x : Bool) : Bx (w.setCell ⟨b, 9, none⟩ (.bool x)) b R { c with tk := { c.tk with bad := x } } k := by
  have h2 := h.self (set1 w ⟨b, 9, none⟩ (.bool x))
  exact ⟨h.blk.setAt (j := 9) (.bool x), { h2 with  }, h.mem⟩
theorem Bx.put_busy {w : World} {b : Nat} {R : List (Option Nat)} {c : Cl} {k : Cv} (h : Bx w b R c k) (x : Bool) : Bx (w.setCell ⟨b, 22, none⟩ (.bool x)) b R { c with busy := x } k := by
  have h2 := h.self (set1 w ⟨b, 22, none⟩ (.bool x))
  exact ⟨h.blk.setAt (j := 22) (.bool x), { h2 with  }, h.mem⟩
theorem Bx.put_since {w : World} {b : Nat} {R : List (Option Nat)} {c : Cl} {k : Cv} (h : Bx w b R c k) (m : Int) : Bx (w.setCell ⟨b, 23, none⟩ (.int .i64 m)) b R { c with since := m } k := by
  have h2 := h.self (set1 w ⟨b, 23, none⟩ (.int .i64 m))
  exact ⟨h.blk.setAt (j := 23) (.int .i64 m), { h2 with  }, h.mem⟩
theorem Bx.put_dead {w : World} {b : Nat} {R : List (Option Nat)} {c : Cl} {k : Cv} (h : Bx w b R c k) (x : Bool) : Bx (w.setCell ⟨b, 24, none⟩ (.bool x)) b R { c with dead := x } k := by
  have h2 := h.self (set1 w ⟨b, 24, none⟩ (.bool x))
  exact ⟨h.blk.setAt (j := 24) (.bool x), { h2 with  }, h.mem⟩
theorem Bx.put_bv {w : World} {b : Nat} {R : List (Option Nat)} {c : Cl} {k : Cv} (h : Bx w b R c k) {v : Value} {vs : List Nat} (hv : BD w R v vs) : Bx (w.setCell ⟨b, 6, none⟩ v) b R { c with tk := { c.tk with vs := vs } } { k with bv := v } := by
  have h2 := h.self (set1 w ⟨b, 6, none⟩ v)
  exact ⟨h.blk.setAt (j := 6) v, { h2 with bv := hv.turned (set1 w ⟨b, 6, none⟩ v) (fun _ hk => .inl (by rw [← hk]; exact h.mem)) }, h.mem⟩
theorem Bx.put_fo {w : World} {b : Nat} {R : List (Option Nat)} {c : Cl} {k : Cv} (h : Bx w b R c k) {v : Value} {l : List Fd} (hv : FD w R v l) : Bx (w.setCell ⟨b, 8, none⟩ v) b R { c with tk := { c.tk with fo := l } } { k with fv := v } := by
  have h2 := h.self (set1 w ⟨b, 8, none⟩ v)
  exact ⟨h.blk.setAt (j := 8) v, { h2 with fv := hv.turned (set1 w ⟨b, 8, none⟩ v) (fun _ hk => .inl (by rw [← hk]; exact h.mem)) }, h.mem⟩
theorem Bx.put_wt {w : World} {b : Nat} {R : List (Option Nat)} {c : Cl} {k : Cv} (h : Bx w b R c k) {v : Value} {qs : List (Tk × Value)} (h1 : SR w v qs.length 8 (qs.flatMap wenc)) (ha : qs.length = 0 ∨ Apart R v) (hi : ∀ q ∈ qs, BD w R q.2 q.1.vs ∧ q.1.fo = []) (hc : qs.length ≤ capV v) : Bx (w.setCell ⟨b, 25, none⟩ v) b R { c with wt := qs.map (·.1) } { k with wv := v, qs := qs } := by
  have h2 := h.self (set1 w ⟨b, 25, none⟩ v)
  exact ⟨h.blk.setAt (j := 25) v, { h2 with wv := h1.turned ha (set1 w ⟨b, 25, none⟩ v) (fun _ hk => .inl (by rw [← hk]; exact h.mem)), wc := hc, wa := ha, wt := rfl, wi := fun q hq => ⟨(hi q hq).1.turned (set1 w ⟨b, 25, none⟩ v) (fun _ hk => .inl (by rw [← hk]; exact h.mem)), (hi q hq).2⟩ }, h.mem⟩
theorem Bx.put_ad {w : World} {b : Nat} {R : List (Option Nat)} {c : Cl} {k : Cv} (h : Bx w b R c k) (p : Pd) {bv iv : Value} (hp : BD w R bv p.vs) (hi : SR w iv 0 5 []) : Bx (w.setCells b 10 (pdc p bv iv)) b R { c with ad := p } { k with ab := bv, ai := iv } := by
  have hg := setCells_grown b (pdc p bv iv) 10 w
  have h2 := h.self hg
  exact ⟨b26_ad h.blk, { h2 with ab := hp.turned hg (fun _ hk => .inl (by rw [← hk]; exact h.mem)), ai := hi.empty }, h.mem⟩
theorem Bx.put_tk {w : World} {b : Nat} {R : List (Option Nat)} {c : Cl} {k : Cv} (h : Bx w b R c k) (t : Tk) {bv fv : Value} (hp : BD w R bv t.vs) (hf : FD w R fv t.fo) : Bx (w.setCells b 2 (tkc t bv fv)) b R { c with tk := t } { k with bv := bv, fv := fv } := by
  have hg := setCells_grown b (tkc t bv fv) 2 w
  have h2 := h.self hg
  exact ⟨b26_tk h.blk, { h2 with bv := hp.turned hg (fun _ hk => .inl (by rw [← hk]; exact h.mem)), fv := hf.turned hg (fun _ hk => .inl (by rw [← hk]; exact h.mem)) }, h.mem⟩
theorem Bx.put_cl {w : World} {b : Nat} {R : List (Option Nat)} {c : Cl} {k : Cv} (h : Bx w b R c k) {c' : Cl} {k' : Cv} (hc : Cr w R c' k') : Bx (w.setCells b 0 (k'.cells c')) b R c' k' := by
  have hg := setCells_grown b (k'.cells c') 0 w
  have h2 := h.self hg
  exact ⟨b26_cl h.blk, hc.turned hg (fun _ hk => .inl (by rw [← hk]; exact h.mem)), h.mem⟩
theorem Bx.range {w : World} {b : Nat} {R : List (Option Nat)} {c : Cl} {k : Cv} (h : Bx w b R c k) : w.rangeAt b 0 (k.cells c) := h.blk.range 0 _ (fun j v hv => by rw [Nat.zero_add]; exact hv)
end Go.Proofs.Ytldcihjddebciaa
