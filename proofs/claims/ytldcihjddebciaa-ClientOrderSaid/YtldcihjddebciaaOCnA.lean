/- client: what lies apart from a block that holds a client or a PDU, by content: bytes, what was found. And what follows it. -/
import Derived.Test.YtldcihjddebciaaOClX
import Derived.Test.YtldcihjddebciaaOUuE
set_option linter.unusedSimpArgs false
set_option linter.unusedVariables false
set_option maxRecDepth 100000
set_option maxHeartbeats 4000000
namespace Go.Proofs.Ytldcihjddebciaa
open Go.RowKit
/-- cells among which no bytes lie, and nothing found -/
structure Nob (cs : List Value) : Prop where
  u8 : ∀ (off : Nat) (x : Int), cs[off]? ≠ some (Value.int .u8 x)
  fd : ∀ (off : Nat) (a b c d : Int), cs[off]? = some (Value.int .u16 a) → cs[off + 1]? = some (Value.int .u16 b) → cs[off + 2]? = some (Value.int .u16 c) → cs[off + 3]? = some (Value.int .i64 d) → False
/-- five slices -/
structure Five (bv fv ab ai wv : Value) : Prop where
  b : ∃ a n c, bv = .slice a n c
  f : ∃ a n c, fv = .slice a n c
  a : ∃ a n c, ab = .slice a n c
  i : ∃ a n c, ai = .slice a n c
  w : ∃ a n c, wv = .slice a n c
theorem clc_u8 {c : Cl} {bv fv ab ai wv : Value} (h : Five bv fv ab ai wv) (off : Nat) (x : Int) : (clc c bv fv ab ai wv)[off]? ≠ some (.int .u8 x) := by
  obtain ⟨⟨_, _, _, rfl⟩, ⟨_, _, _, rfl⟩, ⟨_, _, _, rfl⟩, ⟨_, _, _, rfl⟩, ⟨_, _, _, rfl⟩⟩ := h
  intro he
  have hm := List.mem_of_getElem? he
  simp [clc] at hm
theorem clc_fd {c : Cl} {bv fv ab ai wv : Value} (h : Five bv fv ab ai wv) (off : Nat) (a b c' d : Int) (h0 : (clc c bv fv ab ai wv)[off]? = some (.int .u16 a)) (h1 : (clc c bv fv ab ai wv)[off + 1]? = some (.int .u16 b)) (h2 : (clc c bv fv ab ai wv)[off + 2]? = some (.int .u16 c')) (h3 : (clc c bv fv ab ai wv)[off + 3]? = some (.int .i64 d)) : False := by
  obtain ⟨⟨_, _, _, rfl⟩, ⟨_, _, _, rfl⟩, ⟨_, _, _, rfl⟩, ⟨_, _, _, rfl⟩, ⟨_, _, _, rfl⟩⟩ := h
  have ho : off < 26 := (List.getElem?_eq_some_iff.1 h0).1
  match off, ho with
  | 0, _ => (first | (simp [clc] at h0; done) | (simp [clc] at h1; done) | (simp [clc] at h2; done) | (simp [clc] at h3; done))
  | 1, _ => (first | (simp [clc] at h0; done) | (simp [clc] at h1; done) | (simp [clc] at h2; done) | (simp [clc] at h3; done))
  | 2, _ => (first | (simp [clc] at h0; done) | (simp [clc] at h1; done) | (simp [clc] at h2; done) | (simp [clc] at h3; done))
  | 3, _ => (first | (simp [clc] at h0; done) | (simp [clc] at h1; done) | (simp [clc] at h2; done) | (simp [clc] at h3; done))
  | 4, _ => (first | (simp [clc] at h0; done) | (simp [clc] at h1; done) | (simp [clc] at h2; done) | (simp [clc] at h3; done))
  | 5, _ => (first | (simp [clc] at h0; done) | (simp [clc] at h1; done) | (simp [clc] at h2; done) | (simp [clc] at h3; done))
  | 6, _ => (first | (simp [clc] at h0; done) | (simp [clc] at h1; done) | (simp [clc] at h2; done) | (simp [clc] at h3; done))
  | 7, _ => (first | (simp [clc] at h0; done) | (simp [clc] at h1; done) | (simp [clc] at h2; done) | (simp [clc] at h3; done))
  | 8, _ => (first | (simp [clc] at h0; done) | (simp [clc] at h1; done) | (simp [clc] at h2; done) | (simp [clc] at h3; done))
  | 9, _ => (first | (simp [clc] at h0; done) | (simp [clc] at h1; done) | (simp [clc] at h2; done) | (simp [clc] at h3; done))
  | 10, _ => (first | (simp [clc] at h0; done) | (simp [clc] at h1; done) | (simp [clc] at h2; done) | (simp [clc] at h3; done))
  | 11, _ => (first | (simp [clc] at h0; done) | (simp [clc] at h1; done) | (simp [clc] at h2; done) | (simp [clc] at h3; done))
  | 12, _ => (first | (simp [clc] at h0; done) | (simp [clc] at h1; done) | (simp [clc] at h2; done) | (simp [clc] at h3; done))
  | 13, _ => (first | (simp [clc] at h0; done) | (simp [clc] at h1; done) | (simp [clc] at h2; done) | (simp [clc] at h3; done))
  | 14, _ => (first | (simp [clc] at h0; done) | (simp [clc] at h1; done) | (simp [clc] at h2; done) | (simp [clc] at h3; done))
  | 15, _ => (first | (simp [clc] at h0; done) | (simp [clc] at h1; done) | (simp [clc] at h2; done) | (simp [clc] at h3; done))
  | 16, _ => (first | (simp [clc] at h0; done) | (simp [clc] at h1; done) | (simp [clc] at h2; done) | (simp [clc] at h3; done))
  | 17, _ => (first | (simp [clc] at h0; done) | (simp [clc] at h1; done) | (simp [clc] at h2; done) | (simp [clc] at h3; done))
  | 18, _ => (first | (simp [clc] at h0; done) | (simp [clc] at h1; done) | (simp [clc] at h2; done) | (simp [clc] at h3; done))
  | 19, _ => (first | (simp [clc] at h0; done) | (simp [clc] at h1; done) | (simp [clc] at h2; done) | (simp [clc] at h3; done))
  | 20, _ => (first | (simp [clc] at h0; done) | (simp [clc] at h1; done) | (simp [clc] at h2; done) | (simp [clc] at h3; done))
  | 21, _ => (first | (simp [clc] at h0; done) | (simp [clc] at h1; done) | (simp [clc] at h2; done) | (simp [clc] at h3; done))
  | 22, _ => (first | (simp [clc] at h0; done) | (simp [clc] at h1; done) | (simp [clc] at h2; done) | (simp [clc] at h3; done))
  | 23, _ => (first | (simp [clc] at h0; done) | (simp [clc] at h1; done) | (simp [clc] at h2; done) | (simp [clc] at h3; done))
  | 24, _ => (first | (simp [clc] at h0; done) | (simp [clc] at h1; done) | (simp [clc] at h2; done) | (simp [clc] at h3; done))
  | 25, _ => (first | (simp [clc] at h0; done) | (simp [clc] at h1; done) | (simp [clc] at h2; done) | (simp [clc] at h3; done))
theorem nob_clc {c : Cl} {bv fv ab ai wv : Value} (h : Five bv fv ab ai wv) : Nob (clc c bv fv ab ai wv) := ⟨clc_u8 h, clc_fd h⟩
theorem nob_pdc {p : Pd} {av iv : Value} (h1 : ∃ a n c, av = .slice a n c) (h2 : ∃ a n c, iv = .slice a n c) : Nob (pdc p av iv) := by
  obtain ⟨_, _, _, rfl⟩ := h1
  obtain ⟨_, _, _, rfl⟩ := h2
  refine ⟨fun off x he => ?_, fun off a b c d h0 h1 h2 h3 => ?_⟩
  · have hm := List.mem_of_getElem? he
    simp [pdc] at hm
  · have ho : off < 12 := (List.getElem?_eq_some_iff.1 h0).1
    match off, ho with
    | 0, _ => (first | (simp [pdc] at h0; done) | (simp [pdc] at h1; done) | (simp [pdc] at h2; done) | (simp [pdc] at h3; done))
    | 1, _ => (first | (simp [pdc] at h0; done) | (simp [pdc] at h1; done) | (simp [pdc] at h2; done) | (simp [pdc] at h3; done))
    | 2, _ => (first | (simp [pdc] at h0; done) | (simp [pdc] at h1; done) | (simp [pdc] at h2; done) | (simp [pdc] at h3; done))
    | 3, _ => (first | (simp [pdc] at h0; done) | (simp [pdc] at h1; done) | (simp [pdc] at h2; done) | (simp [pdc] at h3; done))
    | 4, _ => (first | (simp [pdc] at h0; done) | (simp [pdc] at h1; done) | (simp [pdc] at h2; done) | (simp [pdc] at h3; done))
    | 5, _ => (first | (simp [pdc] at h0; done) | (simp [pdc] at h1; done) | (simp [pdc] at h2; done) | (simp [pdc] at h3; done))
    | 6, _ => (first | (simp [pdc] at h0; done) | (simp [pdc] at h1; done) | (simp [pdc] at h2; done) | (simp [pdc] at h3; done))
    | 7, _ => (first | (simp [pdc] at h0; done) | (simp [pdc] at h1; done) | (simp [pdc] at h2; done) | (simp [pdc] at h3; done))
    | 8, _ => (first | (simp [pdc] at h0; done) | (simp [pdc] at h1; done) | (simp [pdc] at h2; done) | (simp [pdc] at h3; done))
    | 9, _ => (first | (simp [pdc] at h0; done) | (simp [pdc] at h1; done) | (simp [pdc] at h2; done) | (simp [pdc] at h3; done))
    | 10, _ => (first | (simp [pdc] at h0; done) | (simp [pdc] at h1; done) | (simp [pdc] at h2; done) | (simp [pdc] at h3; done))
    | 11, _ => (first | (simp [pdc] at h0; done) | (simp [pdc] at h1; done) | (simp [pdc] at h2; done) | (simp [pdc] at h3; done))
theorem BV.notc {w w' : World} {v : Value} {bs : List Nat} {rb : Nat} {t : TypeId} {zs : List Value} (h : BV w v bs) (hn : Nob zs) (hz : Blk w rb t zs) (hg : w.grownBy w' (some rb)) : BV w' v bs := by
  by_cases h0 : bs.length = 0
  · refine h.with ?_
    have h1 := h.sr
    rw [h0] at h1 ⊢
    have e : bs = [] := List.eq_nil_of_length_eq_zero h0
    subst e
    exact h1.empty
  · refine h.with (h.sr.grown hg ?_)
    obtain ⟨_, _, _, ao, cap, rfl, _, h4⟩ := h.sr
    obtain ⟨b, off, rfl, _, hc⟩ := h4 (by omega)
    refine .inr ⟨b, rfl, fun e => ?_⟩
    injection e with e
    subst e
    cases bs with
    | nil => simp at h0
    | cons x r =>
      have h6 := hc 0 (.int .u8 (x : Int)) rfl
      rw [hz.at?] at h6
      exact hn.u8 _ _ h6
theorem FdV.notc {w w' : World} {v : Value} {l : List Fd} {rb : Nat} {t : TypeId} {zs : List Value} (h : FdV w v l) (hn : Nob zs) (hz : Blk w rb t zs) (hg : w.grownBy w' (some rb)) : FdV w' v l := by
  by_cases h0 : l.length = 0
  · have e : l = [] := List.eq_nil_of_length_eq_zero h0
    subst e
    exact SR.empty h
  · refine SR.grown h hg ?_
    obtain ⟨_, _, _, ao, cap, rfl, _, h4⟩ := h
    obtain ⟨b, off, rfl, _, hc⟩ := h4 (by omega)
    refine .inr ⟨b, rfl, fun e => ?_⟩
    injection e with e
    subst e
    cases l with
    | nil => simp at h0
    | cons x r =>
      have h5 := hc 0 (.int .u16 x.ha) rfl
      have h6 := hc 1 (.int .u16 x.la) rfl
      have h7 := hc 2 (.int .u16 x.va) rfl
      have h8 := hc 3 (.int .i64 x.pr) rfl
      rw [hz.at?] at h5 h6 h7 h8
      exact hn.fd _ _ _ _ _ h5 h6 h7 h8
theorem SR.off {w w' : World} {v : Value} {n size : Nat} {cs : List Value} {rb : Nat} (h : SR w v n size cs) (ho : n = 0 ∨ Off rb v) (hg : w.grownBy w' (some rb)) : SR w' v n size cs := by
  rcases ho with h0 | ho
  · subst h0
    exact h.empty
  · by_cases hn : n = 0
    · subst hn
      exact h.empty
    · rcases h.lies with h0 | ⟨b, hb, _⟩
      · exact absurd h0 hn
      · exact h.grown hg (.inr ⟨b, hb, fun e => ho b hb (by injection e with e; exact e.symm)⟩)
/-- a client stays as it is when a block is written among whose cells no bytes lie, if its waiting row lies elsewhere -/
theorem ClV.kept {w w' : World} {v : Value} {c : Cl} {rb : Nat} {t : TypeId} {zs : List Value} (h : ClV w v c) (hn : Nob zs) (hz : Blk w rb t zs) (hg : w.grownBy w' (some rb)) (ho : WOff rb v c) : ClV w' v c := by
  obtain ⟨b1, f1, a1, i1, w1, rfl, h1, h2, h3, h4, qs, h5, h6, h7⟩ := h
  have hl : qs.length = c.wt.length := by rw [← h5]; simp
  exact ⟨b1, f1, a1, i1, w1, rfl, h1.notc hn hz hg, h2.notc hn hz hg, h3.notc hn hz hg, h4.empty, qs, h5, h6.off (by rw [hl]; exact ho _ rfl w1 rfl) hg, fun q hq => ⟨(h7 q hq).1.notc hn hz hg, (h7 q hq).2⟩⟩
theorem PsV.kept {w w' : World} {v : Value} {ps : List Pd} {rb : Nat} {t : TypeId} {zs : List Value} (h : PsV w v ps) (hn : Nob zs) (hz : Blk w rb t zs) (hg : w.grownBy w' (some rb)) (ho : ps.length = 0 ∨ Off rb v) : PsV w' v ps := by
  obtain ⟨qs, h1, h2, h3⟩ := h
  have hl : qs.length = ps.length := by rw [← h1]; simp
  exact ⟨qs, h1, h2.off (by rw [hl]; exact ho) hg, fun q hq => ⟨(h3 q hq).1.notc hn hz hg, (h3 q hq).2.empty⟩⟩
theorem RsV.kept {w w' : World} {v : Value} {us : List Rs} {rb : Nat} {t : TypeId} {zs : List Value} (h : RsV w v us) (hn : Nob zs) (hz : Blk w rb t zs) (hg : w.grownBy w' (some rb)) (ho : us.length = 0 ∨ Off rb v) : RsV w' v us := by
  obtain ⟨qs, h1, h2, h3⟩ := h
  have hl : qs.length = us.length := by rw [← h1]; simp
  exact ⟨qs, h1, h2.off (by rw [hl]; exact ho) hg, fun q hq => ⟨(h3 q hq).1.notc hn hz hg, (h3 q hq).2.notc hn hz hg⟩⟩
/-- the cells of a client that is read -/
theorem ClV.nob {w : World} {cs : List Value} {c : Cl} (h : ClV w (.agg cs.toArray) c) : Nob cs ∧ cs.length = 26 := by
  obtain ⟨bv, fv, ab, ai, wv, e, h1, h2, h3, h4, qs, h5, h6, _⟩ := h
  simp only [Value.agg.injEq] at e
  have e' : cs = clc c bv fv ab ai wv := by simpa using congrArg Array.toList e
  subst e'
  obtain ⟨a1, c1, e1⟩ := h1.form
  obtain ⟨a2, c2, e2⟩ := h2.form
  obtain ⟨a3, c3, e3⟩ := h3.form
  obtain ⟨a4, c4, e4⟩ := h4.form
  obtain ⟨a5, c5, e5⟩ := h6.form
  exact ⟨nob_clc ⟨⟨_, _, _, e1⟩, ⟨_, _, _, e2⟩, ⟨_, _, _, e3⟩, ⟨_, _, _, e4⟩, ⟨_, _, _, e5⟩⟩, rfl⟩
theorem pro2c (w : World) (xs ys : List Value) (ta tb : TypeId) :
    Blk ((w.alloc (.cells xs.toArray ta)).alloc (.cells ys.toArray tb)) w.heap.size ta xs ∧ Blk ((w.alloc (.cells xs.toArray ta)).alloc (.cells ys.toArray tb)) (w.heap.size + 1) tb ys ∧ Below w.heap.size w ((w.alloc (.cells xs.toArray ta)).alloc (.cells ys.toArray tb)) := by
  have h1 : (w.alloc (.cells xs.toArray ta)).heap.size = w.heap.size + 1 := by simp
  have b1 := Blk.new (w.alloc (.cells xs.toArray ta)) tb ys
  rw [h1] at b1
  exact ⟨(Blk.new w ta xs).alloc _, b1, ((Below.refl _ _).alloc (Nat.le_refl _) _).alloc (by simp) _⟩
theorem sameFound_any (l : List Fd) (v1 v2 : Value) (w : World) (h1 : SR w v1 l.length 6 (fcells l)) (h2 : SR w v2 l.length 6 (fcells l)) (hn : l.length ≤ 1000000) :
    Calls Try.prog 39 #[v1, v2] w fun e w' => e = .returned (.bool true) ∧ Below w.heap.size w w' := by
  obtain ⟨_, _, _, ao1, c1, rfl, _, H1⟩ := h1
  obtain ⟨_, _, _, ao2, c2, rfl, _, H2⟩ := h2
  obtain ⟨n, hnn⟩ : ∃ n, l.length = n := ⟨_, rfl⟩
  have HN := Lib.hid hnn
  have HH1 := Lib.hid H1
  have HH2 := Lib.hid H2
  rw [hnn] at hn ⊢
  clear hnn H1 H2
  go_enter Try.func39, Try.ntmps39
  go_wp2
  go_loopw [5] (fun vi wr => ∃ k : Nat, vi = .int .i64 k ∧ k ≤ n ∧ Below w.heap.size w wr) (fun vi _ => n - (intOf vi).toNat)
  case atStart => exact ⟨0, by go_num, Nat.zero_le _, Below.refl _ _⟩
  case round =>
    obtain ⟨k, rfl, hk, hB⟩ := hrel
    by_cases hlt : k < n
    · have hkl : k < l.length := by rw [HN.out]; exact hlt
      obtain ⟨b1, o1, rfl, l1, x1⟩ := HH1.out (by omega)
      obtain ⟨b2, o2, rfl, l2, x2⟩ := HH2.out (by omega)
      have key : ∀ (b off : Nat), (∀ j u, (fcells l)[j]? = some u → w.cell? ⟨b, off + j, none⟩ = some u) → ∀ j, j < 6 → wr.cell? ⟨b, off + k * 6 + j, none⟩ = (fenc l[k])[j]? := fun b off hcell j hj => by
        have e : (fcells l)[k * 6 + j]? = (fenc l[k])[j]? := flat_get fenc 6 (fun _ => rfl) l k j hkl hj
        obtain ⟨u, hu⟩ : ∃ u, (fenc l[k])[j]? = some u := ⟨_, List.getElem?_eq_getElem (show j < (fenc l[k]).length from hj)⟩
        rw [hu] at e ⊢
        have := kc (hcell _ _ e) hB
        rwa [← Nat.add_assoc] at this
      have q1 := key b1 o1 x1
      have q2 := key b2 o2 x2
      obtain ⟨⟨a0, a1, a2, a3, a4, a5⟩, hx⟩ : ∃ x, l[k] = x := ⟨_, rfl⟩
      rw [hx] at q1 q2
      have T : Cells wr (blk b1 (o1 + k * 6) 0 [.int .u16 a0, .int .u16 a1, .int .u16 a2, .int .i64 a3, .int .u64 a4, .int .u64 a5] ++ blk b2 (o2 + k * 6) 0 [.int .u16 a0, .int .u16 a1, .int .u16 a2, .int .i64 a3, .int .u64 a4, .int .u64 a5]) :=
        (show Cells wr (blk b1 (o1 + k * 6) 0 [.int .u16 a0, .int .u16 a1, .int .u16 a2, .int .i64 a3, .int .u64 a4, .int .u64 a5]) from ⟨q1 0 (by decide), q1 1 (by decide), q1 2 (by decide), q1 3 (by decide), q1 4 (by decide), q1 5 (by decide), trivial⟩).app
        ⟨q2 0 (by decide), q2 1 (by decide), q2 2 (by decide), q2 3 (by decide), q2 4 (by decide), q2 5 (by decide), trivial⟩
      have i1 : (k : Int) < (n : Int) := by omega
      have g1 : decide (k < n) = true := by simpa using hlt
      have w1 : IntKind.i64.wrap ((k : Int) + 1) = (k : Int) + 1 := IntWalk.i64_in _ (by omega)
      have HBD := Lib.hid hB.drew
      clear x1 x2 key q1 q2 hx
      go_wp2_with fail
      refine wp_region_held_drew (S := (fun W' : World => Cells W' (blk b1 (o1 + k * 6) 0 [.int .u16 a0, .int .u16 a1, .int .u16 a2, .int .i64 a3, .int .u64 a4, .int .u64 a5] ++ blk b2 (o2 + k * 6) 0 [.int .u16 a0, .int .u16 a1, .int .u16 a2, .int .i64 a3, .int .u64 a4, .int .u64 a5]))) (by kernel_rfl) (T.drew) (fun hHeld => ?_)
      refine tkU 0 ?_
      refine tkU 1 ?_
      refine tkU 2 ?_
      refine tkU 3 ?_
      refine tkU 4 ?_
      refine tkU 5 ?_
      refine tkU 6 ?_
      refine tkU 7 ?_
      refine tkU 8 ?_
      refine wpAnyH_done (by kernel_rfl) ?_ _
      go_wp2
      refine ⟨⟨k + 1, by simp, hlt, HBD.out⟩, ?_⟩
      simp [intOf]
      omega
    · have g1 : decide (k < n) = false := by simpa using hlt
      go_wp2
      go_ret
      exact ⟨rfl, hB⟩
theorem sameItems0 (a1 a2 : Option Addr) (d1 d2 : Nat) (w : World) : Calls Try.prog 41 #[.slice a1 0 d1, .slice a2 0 d2] w fun e w' => e = .returned (.bool true) ∧ w = w' := by
  go_enter Try.func41, Try.ntmps41
  go_wp2
  go_loopw [5] (fun vi wr => vi = .int .i64 0 ∧ w = wr) (fun _ _ => 0)
  case atStart => exact ⟨rfl, rfl⟩
  case round =>
    obtain ⟨rfl, rfl⟩ := hrel
    go_wp2
    go_ret
    exact ⟨rfl, rfl⟩
theorem samePDU_eq (p : Pd) (bv1 bv2 iv1 iv2 : Value) (w : World) (h1 : BV w bv1 p.vs) (h2 : BV w bv2 p.vs) (i1 : SR w iv1 0 5 []) (i2 : SR w iv2 0 5 []) :
    Calls Try.prog 23 #[.agg (pdc p bv1 iv1).toArray, .agg (pdc p bv2 iv2).toArray] w fun e w' => e = .returned (.bool true) ∧ Below w.heap.size w w' := by
  obtain ⟨a, c1, rfl⟩ := h1.form
  obtain ⟨b, c2, rfl⟩ := h2.form
  obtain ⟨ia, ic, rfl⟩ := i1.form
  obtain ⟨ib, id, rfl⟩ := i2.form
  obtain ⟨n, hn⟩ : ∃ n, p.vs.length = n := ⟨_, rfl⟩
  rw [hn] at h1 h2 ⊢
  have hsm := fun W (hW : Below w.heap.size w W) => same_any _ _ p.vs p.vs W (h1.below hW).at (h2.below hW).at
  have HSM := Lib.hid hsm
  obtain ⟨bA, bB, hB⟩ := pro2c w (pdc p (.slice a n c1) (.slice ia 0 ic)) (pdc p (.slice b n c2) (.slice ib 0 id)) 32 32
  clear h1 h2 i1 i2 hsm hn
  go_enter Try.func23, Try.ntmps23
  go_upto_region 1 with fail
  generalize World.alloc (World.alloc w _) _ = V at bA bB hB ⊢
  have TA : Cells V (blk w.heap.size 0 0 [.int .i64 p.kd, .int .i64 p.ask, .int .u16 p.ha, .int .u16 p.la, .int .u64 p.hi, .int .u64 p.lo, .int .i64 p.of, .int .i64 p.mt, .int .i64 p.co, .bool p.cm, .slice a n c1, .slice ia 0 ic]) := bA.cells
  have TB : Cells V (blk (w.heap.size + 1) 0 0 [.int .i64 p.kd, .int .i64 p.ask, .int .u16 p.ha, .int .u16 p.la, .int .u64 p.hi, .int .u64 p.lo, .int .i64 p.of, .int .i64 p.mt, .int .i64 p.co, .bool p.cm, .slice b n c2, .slice ib 0 id]) := bB.cells
  have T := TA.app TB
  clear TA TB bA bB
  have hOpen := T
  simp only [Cells, blk, List.cons_append, List.nil_append, and_true, Nat.reduceAdd, Nat.add_zero, Nat.zero_add] at hOpen
  obtain ⟨x0, x1, x2, x3, x4, x5, x6, x7, x8, x9, xA, xB, y0, y1, y2, y3, y4, y5, y6, y7, y8, y9, yA, yB⟩ := hOpen
  clear T
  go_wp2_with fail
  refine (HSM.out _ hB).mono ?_
  rintro e w2 ⟨rfl, rfl⟩
  go_wp2_with fail
  refine (sameItems0 ia ib ic id _).mono ?_
  rintro e w3 ⟨rfl, rfl⟩
  go_wp2
  go_ret
  exact ⟨rfl, hB⟩
theorem sameTask_eq (t : Tk) (bv1 bv2 fv1 fv2 : Value) (w : World) (h1 : BV w bv1 t.vs) (h2 : BV w bv2 t.vs) (i1 : FdV w fv1 t.fo) (i2 : FdV w fv2 t.fo) (hm : t.fo.length ≤ 1000000) :
    Calls Try.prog 22 #[.agg (tkc t bv1 fv1).toArray, .agg (tkc t bv2 fv2).toArray] w fun e w' => e = .returned (.bool true) ∧ Below w.heap.size w w' := by
  have hsf := fun W (hW : Below w.heap.size w W) => sameFound_any t.fo fv1 fv2 W (i1.below hW) (i2.below hW) hm
  obtain ⟨a, c1, rfl⟩ := h1.form
  obtain ⟨b, c2, rfl⟩ := h2.form
  obtain ⟨fa, d1, rfl⟩ := i1.form
  obtain ⟨fb, d2, rfl⟩ := i2.form
  obtain ⟨n, hn⟩ : ∃ n, t.vs.length = n := ⟨_, rfl⟩
  obtain ⟨m, hmm⟩ : ∃ n, t.fo.length = n := ⟨_, rfl⟩
  rw [hn] at h1 h2 ⊢
  rw [hmm] at hsf ⊢
  have hsm := fun W (hW : Below w.heap.size w W) => same_any _ _ t.vs t.vs W (h1.below hW).at (h2.below hW).at
  have HSM := Lib.hid hsm
  have HSF := Lib.hid hsf
  obtain ⟨bA, bB, hB⟩ := pro2c w (tkc t (.slice a n c1) (.slice fa m d1)) (tkc t (.slice b n c2) (.slice fb m d2)) 26 26
  clear h1 h2 i1 i2 hsm hn hsf hmm hm
  go_enter Try.func22, Try.ntmps22
  go_upto_region 1 with fail
  generalize World.alloc (World.alloc w _) _ = V at bA bB hB ⊢
  have TA : Cells V (blk w.heap.size 0 0 [.int .i64 t.kd, .int .u16 t.fi, .int .u16 t.la, .int .u16 t.ha, .slice a n c1, .int .i64 t.of, .slice fa m d1, .bool t.bad]) := bA.cells
  have TB : Cells V (blk (w.heap.size + 1) 0 0 [.int .i64 t.kd, .int .u16 t.fi, .int .u16 t.la, .int .u16 t.ha, .slice b n c2, .int .i64 t.of, .slice fb m d2, .bool t.bad]) := bB.cells
  have T := TA.app TB
  clear TA TB bA bB
  have hOpen := T
  simp only [Cells, blk, List.cons_append, List.nil_append, and_true, Nat.reduceAdd, Nat.add_zero, Nat.zero_add] at hOpen
  obtain ⟨x0, x1, x2, x3, x4, x5, x6, x7, y0, y1, y2, y3, y4, y5, y6, y7⟩ := hOpen
  clear T
  go_wp2_with fail
  refine (HSM.out _ hB).mono ?_
  rintro e w2 ⟨rfl, rfl⟩
  go_wp2_with fail
  refine (HSF.out _ hB).mono ?_
  rintro e w3 ⟨rfl, hB3⟩
  clear x0 x1 x2 x3 x4 x5 x6 x7 y0 y1 y2 y3 y4 y5 y6 y7
  go_wp2
  go_ret
  exact ⟨rfl, hB.trans (hB3.mono hB.size)⟩
end Go.Proofs.Ytldcihjddebciaa
