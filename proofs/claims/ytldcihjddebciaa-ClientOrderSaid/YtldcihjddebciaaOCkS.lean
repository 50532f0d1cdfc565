/- client: the state of ClientOrder's play. And what follows it. -/
import Derived.Test.YtldcihjddebciaaOCnR
import Derived.Test.YtldcihjddebciaaOCnE
import Derived.Test.YtldcihjddebciaaOCkQ
import Derived.Test.YtldcihjddebciaaOCnB
import Derived.Test.YtldcihjddebciaaOUuA
set_option linter.unusedSimpArgs false
set_option linter.unusedVariables false
set_option maxRecDepth 100000
set_option maxHeartbeats 4000000
namespace Go.Proofs.Ytldcihjddebciaa
open Go.RowKit
/-- the kind of the open request -/
def OpnOk (o : Int) (c : Cl) : Prop := if c.busy = true then o = c.ad.kd else o = 0
/-- what was sent -/
def Snt (c : Cl) (o : Int) (ps : List Pd) : Prop := (ps = [] ∧ OpnOk o c) ∨ (ps = [c.ad] ∧ c.busy = true ∧ o = 0) ∨ (ps = [{ pd0 with kd := 30 }] ∧ OpnOk o c)
theorem rq_isReq {c : Cl} (h : Rq c) : isReq c.ad = true ∧ i64r c.ad.kd ∧ c.ad.kd ≠ 0 := by
  unfold isReq i64r ansI
  rcases h.kd with e | e | e | e | e | e | e | e | e <;> rw [e] <;> decide
theorem no_req : isReq { pd0 with kd := 30 } = false := by decide
theorem snt_at {n : Nat} {c : Cl} {o : Int} {ps : List Pd} (h : Snt c o ps) (hi : Inv n c) {j : Nat} {p : Pd} (hp : ps[j]? = some p) :
    j = 0 ∧ ps.length = 1 ∧ Okp p ∧ i64r p.kd ∧ (isReq p = true ∧ OpnOk p.kd c ∨ isReq p = false ∧ OpnOk o c) := by
  have one : ∀ q : Pd, ps = [q] → j = 0 ∧ ps.length = 1 ∧ p = q := fun q e => by
    rw [e] at hp ⊢
    match j, hp with
    | 0, hp =>
      injection hp with hp
      exact ⟨rfl, rfl, hp.symm⟩
  rcases h with ⟨e, _⟩ | ⟨e, hb, ho⟩ | ⟨e, ho⟩
  · rw [e] at hp
    cases hp
  · obtain ⟨h1, h2, rfl⟩ := one _ e
    have hr := rq_isReq (hi.rq hb)
    exact ⟨h1, h2, (hi.rq hb).ok, hr.2.1, .inl ⟨hr.1, by unfold OpnOk; rw [if_pos hb]⟩⟩
  · obtain ⟨h1, h2, rfl⟩ := one _ e
    exact ⟨h1, h2, okp_30, by unfold i64r; decide, .inr ⟨no_req, ho⟩⟩
theorem snt_req {n : Nat} {c : Cl} {o : Int} {ps : List Pd} (h : Snt c o ps) (hi : Inv n c) :
    (reqN ps = 0 ∧ c.busy = (o != 0)) ∨ (reqN ps = 1 ∧ c.busy = true ∧ o = 0) := by
  have op : OpnOk o c → c.busy = (o != 0) := fun ho => by
    unfold OpnOk at ho
    cases hb : c.busy with
    | true =>
      rw [if_pos hb] at ho
      have := (rq_isReq (hi.rq hb)).2.2
      rw [ho]
      simp [this]
    | false =>
      rw [if_neg (by rw [hb]; decide)] at ho
      simp [ho]
  rcases h with ⟨e, ho⟩ | ⟨e, hb, ho⟩ | ⟨e, ho⟩
  · exact .inl ⟨by rw [e]; rfl, op ho⟩
  · refine .inr ⟨?_, hb, ho⟩
    rw [e]
    simp [reqN, (rq_isReq (hi.rq hb)).1]
  · exact .inl ⟨by rw [e]; simp [reqN, no_req], op ho⟩
theorem snt_len {c : Cl} {o : Int} {ps : List Pd} (h : Snt c o ps) : ps.length ≤ 1 := by
  rcases h with ⟨e, _⟩ | ⟨e, _⟩ | ⟨e, _⟩ <;> rw [e] <;> simp
theorem snt_open {c : Cl} {o : Int} {ps : List Pd} (h : Snt c o ps) (h0 : ps.length = 0) : OpnOk o c := by
  rcases h with ⟨_, ho⟩ | ⟨e, _⟩ | ⟨_, ho⟩
  · exact ho
  · rw [e] at h0
    cases h0
  · exact ho
/-- after Start -/
theorem snt_start {n : Nat} {c : Cl} {o : Int} (h : Inv n c) (ho : OpnOk o c) (t : Tk) (now : Int) (hkd : (Lit.int .i64 t.kd).wf = true) (hla : t.la < 65536) (hha : t.ha < 65536) : Snt (startP c t now).1.c o (startP c t now).1.ps := by
  obtain ⟨_, _, h3⟩ := left_start h t now hkd hla hha
  unfold OpnOk at ho
  rcases h3 with ⟨e1, e2, e3⟩ | ⟨e1, e2, e3⟩
  · refine .inl ⟨e3, ?_⟩
    unfold OpnOk
    rw [e1, e2]
    exact ho
  · refine .inr (.inl ⟨e3, e2, ?_⟩)
    rw [if_neg (by rw [e1]; decide)] at ho
    exact ho
/-- the open request is answered or refused -/
def hits (o : Int) (p : Pd) : Bool := (o != 0) && ((p.kd == ansI o) || ((p.kd == 1) && (p.ask == o)))
theorem snt_handle {n : Nat} {c : Cl} {o : Int} (h : Inv n c) (hd : c.dead = false) (ho : OpnOk o c) (now : Int) {p : Pd} {l : List Im} (hp : AnsOk p l) : Snt (handleP c p l now).c (if hits o p then 0 else o) (handleP c p l now).ps := by
  obtain ⟨_, _, _, h4⟩ := left_handle h now hp
  have ho' := ho
  unfold OpnOk at ho
  have key : hits o p = true ↔ (c.dead = false ∧ c.busy = true ∧ (p.kd = 1 ∧ p.ask = c.ad.kd ∨ p.kd = ansI c.ad.kd)) := by
    unfold hits
    cases hb : c.busy with
    | true =>
      rw [if_pos hb] at ho
      have := (rq_isReq (h.rq hb)).2.2
      subst ho
      simp only [ne_eq, this, not_false_eq_true, bne_iff_ne, hd, Bool.and_eq_true, Bool.or_eq_true, beq_iff_eq, true_and]
      exact Or.comm
    | false =>
      rw [if_neg (by rw [hb]; decide)] at ho
      simp [ho]
  by_cases hh : hits o p = true
  · rw [if_pos (key.1 hh)] at h4
    rw [if_pos hh]
    rcases h4 with ⟨e1, e2⟩ | ⟨e1, e2⟩
    · exact .inl ⟨e2, by unfold OpnOk; rw [if_neg (by rw [e1]; decide)]⟩
    · exact .inr (.inl ⟨e2, e1, rfl⟩)
  · rw [if_neg (fun e => hh (key.2 e))] at h4
    rw [if_neg hh]
    obtain ⟨e1, e2 | e2⟩ := h4
    · exact .inl ⟨e2, by rw [e1]; exact ho'⟩
    · exact .inr (.inr ⟨e2, by rw [e1]; exact ho'⟩)
/-- the play's state: the client lies in block X5, the open request in X7 -/
structure OS (w0 wr : World) (X5 X7 n : Nat) (c : Cl) (k : Cv) (o : Pd) (av iv : Value) : Prop where
  cb : Blk wr X5 35 (k.cells c)
  cv : ClV wr (.agg (k.cells c).toArray) c
  one : (k.cells c).toArray.all (·.oneCell') = true
  ob : Blk wr X7 32 (pdc o av iv)
  oa : ∃ a n c, av = .slice a n c
  oi : ∃ a n c, iv = .slice a n c
  o5 : WOff X5 (.agg (k.cells c).toArray) c
  o7 : WOff X7 (.agg (k.cells c).toArray) c
  inv : Inv n c
  dead : c.dead = false
  low : Below w0.heap.size w0 wr
  h5 : w0.heap.size ≤ X5
  h7 : w0.heap.size ≤ X7
  ne : X5 ≠ X7
theorem OS.below {w0 w w' : World} {X5 X7 n : Nat} {c : Cl} {k : Cv} {o : Pd} {av iv : Value} (h : OS w0 w X5 X7 n c k o av iv) (hb : Below w.heap.size w w') : OS w0 w' X5 X7 n c k o av iv :=
  ⟨h.cb.below hb, h.cv.below hb, h.one, h.ob.below hb, h.oa, h.oi, h.o5, h.o7, h.inv, h.dead, h.low.trans (hb.mono h.low.size), h.h5, h.h7, h.ne⟩
theorem OS.more {w0 w : World} {X5 X7 n m : Nat} {c : Cl} {k : Cv} {o : Pd} {av iv : Value} (h : OS w0 w X5 X7 n c k o av iv) (hm : n ≤ m) : OS w0 w X5 X7 m c k o av iv :=
  ⟨h.cb, h.cv, h.one, h.ob, h.oa, h.oi, h.o5, h.o7, h.inv.more hm, h.dead, h.low, h.h5, h.h7, h.ne⟩
/-- another request lies in X7 -/
theorem OS.putO {w0 w w' : World} {X5 X7 n : Nat} {c : Cl} {k : Cv} {o p : Pd} {av iv av' iv' : Value} (h : OS w0 w X5 X7 n c k o av iv) (h1 : ∃ a n c, av' = .slice a n c) (h2 : ∃ a n c, iv' = .slice a n c) (hX : w.setCells X7 0 (pdc p av' iv') = w') :
    OS w0 w' X5 X7 n c k p av' iv' ∧ w.grownBy w' (some X7) := by
  obtain ⟨hg, hb⟩ := put_namedB h.ob hX rfl
  exact ⟨⟨h.cb.kept hg (fun e => h.ne (by injection e)), h.cv.kept (nob_pdc h.oa h.oi) h.ob hg h.o7, h.one, hb, h1, h2, h.o5, h.o7, h.inv, h.dead, h.low.grown hg h.low.size (fun j hj => by cases hj; exact h.h7), h.h5, h.h7, h.ne⟩, hg⟩
theorem OS.psO {w0 w w' : World} {X5 X7 n : Nat} {c : Cl} {k : Cv} {o : Pd} {av iv v : Value} {ps : List Pd} (h : OS w0 w X5 X7 n c k o av iv) (hg : w.grownBy w' (some X7)) (hp : PsV w v ps) (ho : Off X7 v) : PsV w' v ps :=
  hp.kept (nob_pdc h.oa h.oi) h.ob hg (.inr ho)
/-- another client lies in X5 -/
theorem OS.putC {w0 w w' : World} {X5 X7 n m : Nat} {c c2 : Cl} {k k2 : Cv} {o : Pd} {av iv : Value} (h : OS w0 w X5 X7 n c k o av iv) (h1 : ClV w (.agg (k2.cells c2).toArray) c2) (hw5 : WOff X5 (.agg (k2.cells c2).toArray) c2) (hw7 : WOff X7 (.agg (k2.cells c2).toArray) c2) (h1' : (k2.cells c2).toArray.all (·.oneCell') = true) (hi : Inv m c2) (hd : c2.dead = false) (hX : w.setCells X5 0 (k2.cells c2) = w') :
    OS w0 w' X5 X7 m c2 k2 o av iv ∧ w.grownBy w' (some X5) := by
  have hn := h.cv.nob
  have hn2 := h1.nob
  obtain ⟨hg, hb⟩ := put_namedB h.cb hX (hn.2.trans hn2.2.symm)
  exact ⟨⟨hb, h1.kept hn.1 h.cb hg hw5, h1', h.ob.kept hg (fun e => h.ne (by injection e with e; exact e.symm)), h.oa, h.oi, hw5, hw7, hi, hd, h.low.grown hg h.low.size (fun j hj => by cases hj; exact h.h5), h.h5, h.h7, h.ne⟩, hg⟩
theorem OS.psC {w0 w w' : World} {X5 X7 n : Nat} {c : Cl} {k : Cv} {o : Pd} {av iv v : Value} {ps : List Pd} (h : OS w0 w X5 X7 n c k o av iv) (hg : w.grownBy w' (some X5)) (hp : PsV w v ps) (ho : Off X5 v) : PsV w' v ps :=
  hp.kept h.cv.nob.1 h.cb hg (.inr ho)
/-- a request of a list, by itself -/
theorem psv_at {w : World} {b o c : Nat} {q : Pd × Value × Value} (h : w.rangeAt b o (penc q)) (h1 : BV w q.2.1 q.1.vs) (h2 : SR w q.2.2 0 5 []) : PsV w (.slice (some ⟨b, o, none⟩) 1 c) [q.1] := by
  have hlt := range_lt h rfl
  refine ⟨[q], rfl, ⟨by unfold maxLen; simp, by simp [penc, pdc], fun u hu => ?_, some ⟨b, o, none⟩, c, rfl, (fun e => by cases e), fun _ => ⟨b, o, rfl, hlt, fun j u hu => ?_⟩⟩, fun q' hq => by rw [List.mem_singleton.1 hq]; exact ⟨h1, h2⟩⟩
  · obtain ⟨a1, c1, e1⟩ := h1.form
    obtain ⟨a2, c2, e2⟩ := h2.form
    simp only [List.flatMap_cons, List.flatMap_nil, List.append_nil, penc, pdc, e1, e2, List.mem_cons, List.not_mem_nil, or_false] at hu
    rcases hu with rfl | rfl | rfl | rfl | rfl | rfl | rfl | rfl | rfl | rfl | rfl | rfl <;> rfl
  · exact h j u (by simpa using hu)
theorem small_any (ss : List Stp) (v : Value) (w : World) (h : SR w v ss.length 22 (ss.flatMap senc)) (hin : ∀ s ∈ ss, StpIn w s) :
    Calls Try.prog 10 #[v] w fun e w' => (∃ B : Bool, e = .returned (.bool B) ∧ (B = true → ss.length ≤ 100 ∧ ∀ s ∈ ss, s.t.vs.length ≤ 4096 ∧ s.p.vs.length ≤ 4096 ∧ s.qs.length ≤ 300)) ∧ Below w.heap.size w w' := by
  obtain ⟨N, hN⟩ : ∃ N, ss.length = N := ⟨_, rfl⟩
  obtain ⟨a, c, f⟩ := h.form
  rw [hN] at f
  subst f
  have HH := Lib.hid (And.intro h (And.intro hin hN))
  have hNm : N ≤ maxLen := by rw [← hN]; exact h.1
  unfold maxLen at hNm
  clear h hin hN
  go_enter Try.func10, Try.ntmps10
  go_wp2
  go_loopw [3, 4] (fun vn vi wr => ∃ kk n : Nat, vn = .int .i64 n ∧ vi = .int .i64 kk ∧ kk ≤ N ∧ kk ≤ 100 ∧ n ≤ 8192 * kk ∧ (∀ j s, j < kk → ss[j]? = some s → s.t.vs.length ≤ 4096 ∧ s.p.vs.length ≤ 4096 ∧ s.qs.length ≤ 300) ∧ Below w.heap.size w wr) (fun _ vi _ => N - (intOf vi).toNat)
  case atStart => exact ⟨0, 0, by simp, by simp, Nat.zero_le _, Nat.zero_le _, by omega, fun j s hj => absurd hj (Nat.not_lt_zero _), Below.refl _ _⟩
  case round =>
    obtain ⟨kk, n, rfl, rfl, hk, hk1, hn, hall, hB⟩ := hrel
    have HA := Lib.hid hall
    clear hall
    by_cases hlt : kk < N
    · have g1 : decide (kk < N) = true := by simpa using hlt
      by_cases hlt2 : kk < 100
      · have g2 : decide (kk < 100) = true := by simpa using hlt2
        have g2' : decide ((kk : Int) < 100) = true := by simp; omega
        have hn0 : (0 : Int) ≤ (kk : Int) := by omega
        have hn1 : (kk : Int) < (N : Int) := by omega
        have w1' : IntKind.i64.wrap ((kk : Int) + 1) = (kk : Int) + 1 := IntWalk.i64_in _ (by omega)
        obtain ⟨h, hin, hN⟩ := HH.out
        have hkl : kk < ss.length := by rw [hN]; exact hlt
        obtain ⟨s, hs⟩ : ∃ s, ss[kk]? = some s := ⟨_, List.getElem?_eq_getElem hkl⟩
        obtain ⟨b, o, d, e0, rows⟩ := sr_rows senc (fun _ => rfl) h (by omega)
        have hr := range_keep (rows kk s hs) hB
        have hsi := hin s (List.mem_of_getElem? hs)
        rw [hN] at e0
        cases e0
        obtain ⟨a1, c1, e1, _⟩ := hsi.tb
        obtain ⟨a2, c2, e2, _⟩ := hsi.pb
        obtain ⟨a3, c3, e3⟩ := hsi.iv.form
        have m5 := hr 5 _ rfl
        have m19 := hr 19 _ rfl
        have m20 := hr 20 _ rfl
        rw [e1] at m5
        rw [e2] at m19
        rw [e3] at m20
        have HS := Lib.hid hs
        obtain ⟨L1, hL1⟩ : ∃ x, s.t.vs.length = x := ⟨_, rfl⟩
        obtain ⟨L2, hL2⟩ : ∃ x, s.p.vs.length = x := ⟨_, rfl⟩
        obtain ⟨L3, hL3⟩ : ∃ x, s.qs.length = x := ⟨_, rfl⟩
        rw [hL1] at m5
        rw [hL2] at m19
        rw [hL3] at m20
        have HL := Lib.hid (And.intro hL1 (And.intro hL2 hL3))
        clear h hin hN rows hsi e1 e2 e3 hs hr hL1 hL2 hL3 hkl
        by_cases t1 : L1 ≤ 4096
        · have d1 : decide ((4096 : Int) < (L1 : Int)) = false := by simp; omega
          by_cases t2 : L2 ≤ 4096
          · have d2 : decide ((4096 : Int) < (L2 : Int)) = false := by simp; omega
            by_cases t3 : L3 ≤ 300
            · have d3 : decide ((300 : Int) < (L3 : Int)) = false := by simp; omega
              have w2' : IntKind.i64.wrap ((L1 : Int) + (L2 : Int)) = (L1 : Int) + (L2 : Int) := IntWalk.i64_in _ (by omega)
              have w3' : IntKind.i64.wrap ((n : Int) + ((L1 : Int) + (L2 : Int))) = (n : Int) + ((L1 : Int) + (L2 : Int)) := IntWalk.i64_in _ (by omega)
              go_upto_region 7 with fail
              refine wp_region_held_drew (S := (fun W' : World => Cells W' [(b, o + kk * 22 + 5, .slice a1 L1 c1), (b, o + kk * 22 + 19, .slice a2 L2 c2)])) (by kernel_rfl) (⟨kc m5 (Below.refl _ wr).drew, kc m19 (Below.refl _ wr).drew, trivial⟩) (fun hHeld => ?_)
              refine tkU 0 ?_
              refine tkU 1 ?_
              refine tkU 2 ?_
              refine tkU 3 ?_
              refine tkU 4 ?_
              refine tkU 5 ?_
              refine tkU 6 ?_
              refine tkU 7 ?_
              refine tkU 8 ?_
              refine tkU 9 ?_
              refine tkU 10 ?_
              refine tkU 11 ?_
              refine tkU 12 ?_
              refine tkU 13 ?_
              refine tkU 14 ?_
              refine tkU 15 ?_
              refine tkU 16 ?_
              refine tkU 17 ?_
              refine wpAnyH_done (by kernel_rfl) ?_ _
              have hBd := hB.drew
              clear hB m5 m19 m20
              go_wp2
              refine ⟨⟨kk + 1, n + (L1 + L2), by simp, by simp, hlt, hlt2, by omega, ?_, hBd⟩, ?_⟩
              · intro j s' hj hs'
                by_cases hjk : j < kk
                · exact HA.out j s' hjk hs'
                · obtain rfl : j = kk := by omega
                  rw [HS.out] at hs'
                  injection hs' with hs'
                  subst hs'
                  rw [HL.out.1, HL.out.2.1, HL.out.2.2]
                  exact ⟨t1, t2, t3⟩
              · simp [intOf]
                omega
            · have d3 : decide ((300 : Int) < (L3 : Int)) = true := by simp; omega
              go_wp2
              go_ret
              exact ⟨⟨false, rfl, by simp⟩, hB⟩
          · have d2 : decide ((4096 : Int) < (L2 : Int)) = true := by simp; omega
            go_wp2
            go_ret
            exact ⟨⟨false, rfl, by simp⟩, hB⟩
        · have d1 : decide ((4096 : Int) < (L1 : Int)) = true := by simp; omega
          go_wp2
          go_ret
          exact ⟨⟨false, rfl, by simp⟩, hB⟩
      · have g2 : decide (kk < 100) = false := by simpa using hlt2
        have g2' : decide ((kk : Int) < 100) = false := by simp; omega
        have d4 : decide ((N : Int) ≤ 100) = false := by simp; omega
        have d4' : decide (N ≤ 100) = false := by simp; omega
        go_wp2
        go_ret
        exact ⟨⟨false, rfl, by simp⟩, hB⟩
    · have g1 : decide (kk < N) = false := by simpa using hlt
      obtain rfl : N = kk := by omega
      have d4 : decide ((N : Int) ≤ 100) = true := by simp; omega
      have d4' : decide (N ≤ 100) = true := by simp; omega
      obtain ⟨B, hb⟩ : ∃ B, decide ((n : Int) ≤ 8192) = B := ⟨_, rfl⟩
      have hb' : decide (n ≤ 8192) = B := by rw [← hb]; congr 1; simp only [eq_iff_iff]; omega
      go_wp2
      go_ret
      refine ⟨⟨B, rfl, fun _ => ⟨by rw [HH.out.2.2]; exact hk1, fun s hs => ?_⟩⟩, hB⟩
      obtain ⟨j, hj, hjs⟩ := List.getElem_of_mem hs
      exact HA.out j s (by rw [← HH.out.2.2]; exact hj) (by rw [List.getElem?_eq_getElem hj, hjs])
end Go.Proofs.Ytldcihjddebciaa
