/- client's reference: frames of its functions. -/
import Derived.Test.YtldcihjddebciaaOCmB
set_option linter.unusedSimpArgs false
set_option linter.unusedVariables false
set_option maxRecDepth 100000
set_option maxHeartbeats 4000000
namespace Go.Proofs.Ytldcihjddebciaa
open Go.RowKit
/-- a load of a whole struct is taken -/
theorem tkM {P : Program} {ops : Array Oper} {Q : Exit → Act → World → Prop} {md : Region.Mode} {S : World → Prop} {fuel : Nat} {listed : Array Bool} {a : Act} {w : World} (i : Nat) {oi : Oper} (ty : TypeId) (b o : Nat) (cs : List Value) {x : Operand} {d : TypeDesc}
    (hR : ∀ w, S w → w.rangeAt b o cs) (hu : P.underlying ty = some d) (h : wpAnyH P md ops Q S fuel (listed.setIfInBounds i true) (a.put oi.dst (.agg cs.toArray)) w) (hi : ops[i]? = some oi := by rw [List.getElem?_toArray]; rfl)
    (ho : oi.op = .load ty x := by rfl) (hx : a.eval x = .pointer (some ⟨b, o, none⟩) := by rfl) (hd : d.isRow = true := by rfl) (hn : (P.info? ty).map (·.size) = some cs.length := by kernel_rfl)
    (hwt : Region.wanted oi (yielded ops a.tmps) = true := by rfl) (hs : Region.noSelect ops = true := by kernel_rfl) (hf : Region.free md ops listed i = true := by kernel_rfl) (hr : (Region.ready md ops listed).contains i = true := by kernel_rfl)
    (hQ : ∀ c a' w, Q (.panic c) (a'.put oi.dst (.agg cs.toArray)) w → Q (.panic c) a' w := by exact fun _ _ _ h => h) (hS : S w := by assumption) : wpAnyH P md ops Q S (fuel + 1) listed a w :=
  wpAnyH_take hi hs hf hr hQ (yieldsIf_load_mid hwt ty x ho b o hx cs d hR hu hd hn) hS h
theorem PsR.turned {w w' : World} {R : List (Option Nat)} {v : Value} {ps : List Pd} {r : Option Nat} (h : PsR w R v ps) (hg : w.grownBy w' r) (hr : Turns w R r) : PsR w' R v ps := by
  obtain ⟨qs, h1, h2, h3, h4⟩ := h
  exact ⟨qs, h1, h2.turned h3 hg hr, h3, fun q hq => ⟨(h4 q hq).1.turned hg hr, (h4 q hq).2.empty⟩⟩
theorem PsR.less {w : World} {R R' : List (Option Nat)} {v : Value} {ps : List Pd} (h : PsR w R v ps) (hs : ∀ r, r ∈ R' → r ∈ R) : PsR w R' v ps := by
  obtain ⟨qs, h1, h2, h3, h4⟩ := h
  exact ⟨qs, h1, h2, h3.imp id fun h5 k hk hm => h5 k hk (hs _ hm), fun q hq => ⟨(h4 q hq).1.less hs, (h4 q hq).2⟩⟩
theorem PsR.below {w w' : World} {R : List (Option Nat)} {v : Value} {ps : List Pd} (h : PsR w R v ps) (hb : Below w.heap.size w w') : PsR w' R v ps := by
  obtain ⟨qs, h1, h2, h3, h4⟩ := h
  exact ⟨qs, h1, h2.below hb, h3, fun q hq => ⟨(h4 q hq).1.below hb, (h4 q hq).2.empty⟩⟩
theorem PsR.form {w : World} {R : List (Option Nat)} {v : Value} {ps : List Pd} (h : PsR w R v ps) : ∃ a c, v = .slice a ps.length c := by
  obtain ⟨qs, h1, h2, _⟩ := h
  obtain ⟨a, c, e⟩ := h2.form
  exact ⟨a, c, by rw [e, ← h1]; simp⟩
theorem PsR.psv {w : World} {R : List (Option Nat)} {v : Value} {ps : List Pd} (h : PsR w R v ps) : PsV w v ps := by
  obtain ⟨qs, h1, h2, h3, h4⟩ := h
  exact ⟨qs, h1, h2, fun q hq => ⟨(h4 q hq).1.1, (h4 q hq).2⟩⟩
theorem psr_nil (w : World) (R : List (Option Nat)) : PsR w R (.slice none 0 0) [] := ⟨[], rfl, SR.nil w 12, .inl rfl, fun q hq => by cases hq⟩
/-- results, read apart from some blocks -/
def RsR (w : World) (R : List (Option Nat)) (v : Value) (us : List Rs) : Prop := ∃ qs : List (Rs × Value × Value), qs.map (·.1) = us ∧ SR w v qs.length 6 (qs.flatMap renc) ∧ (qs.length = 0 ∨ Apart R v) ∧ ∀ q ∈ qs, BD w R q.2.1 q.1.vs ∧ FD w R q.2.2 q.1.fo
theorem RsR.turned {w w' : World} {R : List (Option Nat)} {v : Value} {us : List Rs} {r : Option Nat} (h : RsR w R v us) (hg : w.grownBy w' r) (hr : Turns w R r) : RsR w' R v us := by
  obtain ⟨qs, h1, h2, h3, h4⟩ := h
  exact ⟨qs, h1, h2.turned h3 hg hr, h3, fun q hq => ⟨(h4 q hq).1.turned hg hr, (h4 q hq).2.turned hg hr⟩⟩
theorem RsR.less {w : World} {R R' : List (Option Nat)} {v : Value} {us : List Rs} (h : RsR w R v us) (hs : ∀ r, r ∈ R' → r ∈ R) : RsR w R' v us := by
  obtain ⟨qs, h1, h2, h3, h4⟩ := h
  exact ⟨qs, h1, h2, h3.imp id fun h5 k hk hm => h5 k hk (hs _ hm), fun q hq => ⟨(h4 q hq).1.less hs, (h4 q hq).2.less hs⟩⟩
theorem RsR.more {w : World} {R R' : List (Option Nat)} {v : Value} {us : List Rs} (h : RsR w R v us) (hR : ∀ i, some i ∈ R' → w.heap.size ≤ i) : RsR w (R ++ R') v us := by
  obtain ⟨qs, h1, h2, h3, h4⟩ := h
  refine ⟨qs, h1, h2, ?_, fun q hq => ⟨(h4 q hq).1.more hR, (h4 q hq).2.more hR⟩⟩
  rcases h3 with h0 | h0
  · exact .inl h0
  · rcases apart_above h2 hR with h1 | h1
    · exact .inl h1
    · exact .inr fun k hk hm => (List.mem_append.1 hm).elim (h0 k hk) (h1 k hk)
theorem RsR.below {w w' : World} {R : List (Option Nat)} {v : Value} {us : List Rs} (h : RsR w R v us) (hb : Below w.heap.size w w') : RsR w' R v us := by
  obtain ⟨qs, h1, h2, h3, h4⟩ := h
  exact ⟨qs, h1, h2.below hb, h3, fun q hq => ⟨(h4 q hq).1.below hb, (h4 q hq).2.below hb⟩⟩
theorem RsR.form {w : World} {R : List (Option Nat)} {v : Value} {us : List Rs} (h : RsR w R v us) : ∃ a c, v = .slice a us.length c := by
  obtain ⟨qs, h1, h2, _⟩ := h
  obtain ⟨a, c, e⟩ := h2.form
  exact ⟨a, c, by rw [e, ← h1]; simp⟩
theorem RsR.rsv {w : World} {R : List (Option Nat)} {v : Value} {us : List Rs} (h : RsR w R v us) : RsV w v us := by
  obtain ⟨qs, h1, h2, h3, h4⟩ := h
  exact ⟨qs, h1, h2, fun q hq => ⟨(h4 q hq).1.1, (h4 q hq).2.1⟩⟩
theorem rsr_nil (w : World) (R : List (Option Nat)) : RsR w R (.slice none 0 0) [] := ⟨[], rfl, SR.nil w 6, .inl rfl, fun q hq => by cases hq⟩
theorem rsr_one {w : World} {b : Nat} {r : Rs} {bv fv : Value} {R : List (Option Nat)} (h : Blk w b 64 (rsc r bv fv)) (hb : BD w R bv r.vs) (hf : FD w R fv r.fo) (hn : some b ∉ R) : RsR w R (.slice (some ⟨b, 0, none⟩) 1 1) [r] := by
  obtain ⟨a1, c1, e1⟩ := hb.1.form
  obtain ⟨a2, c2, e2⟩ := hf.1.form
  refine ⟨[(r, bv, fv)], rfl, ⟨by unfold maxLen; simp, rfl, fun u hu => ?_, some ⟨b, 0, none⟩, 1, rfl, fun h => (by cases h), fun _ => ⟨b, 0, rfl, h.lt, fun j u hj => ?_⟩⟩, .inr (fun k hk => by simp [Value.ownBlock] at hk; subst hk; exact hn), fun q hq => by rw [List.mem_singleton.1 hq]; exact ⟨hb, hf⟩⟩
  · simp only [List.flatMap_cons, List.flatMap_nil, List.append_nil, renc, rsc, e1, e2, List.mem_cons, List.not_mem_nil, or_false] at hu
    rcases hu with rfl | rfl | rfl | rfl | rfl | rfl <;> rfl
  · rw [Nat.zero_add]
    exact h.cell (by simpa [renc] using hj)
/-- the frame of a function that takes a client -/
theorem pro2 {w : World} {R0 : List (Option Nat)} {c : Cl} {k : Cv} (hC : Cr w R0 c k) (hR0 : ∀ i, some i ∈ R0 → i < w.heap.size) (zs : List Value) (t : TypeId) :
    ∃ R, (∀ r, r ∈ R0 → r ∈ R) ∧ some w.heap.size ∈ R ∧ some (w.heap.size + 1) ∈ R ∧ (∀ i, some i ∈ R → i < w.heap.size + 2) ∧ (∃ R1, R = R0 ++ R1 ∧ ∀ i, some i ∈ R1 → w.heap.size ≤ i) ∧
      Bx ((w.alloc (.cells (k.cells c).toArray 35)).alloc (.cells zs.toArray t)) w.heap.size R c k ∧ Blk ((w.alloc (.cells (k.cells c).toArray 35)).alloc (.cells zs.toArray t)) (w.heap.size + 1) t zs ∧
      Below w.heap.size w ((w.alloc (.cells (k.cells c).toArray 35)).alloc (.cells zs.toArray t)) ∧ ((w.alloc (.cells (k.cells c).toArray 35)).alloc (.cells zs.toArray t)).heap.size = w.heap.size + 2 := by
  have hB : Below w.heap.size w ((w.alloc (.cells (k.cells c).toArray 35)).alloc (.cells zs.toArray t)) := ((Below.refl _ _).alloc (Nat.le_refl _) _).alloc (by simp) _
  have hab : ∀ i, some i ∈ [some w.heap.size, some (w.heap.size + 1)] → w.heap.size ≤ i := fun i hi => by simp at hi; omega
  have hz : (w.alloc (.cells (k.cells c).toArray 35)).heap.size = w.heap.size + 1 := by simp
  refine ⟨R0 ++ [some w.heap.size, some (w.heap.size + 1)], fun r hr => List.mem_append_left _ hr, by simp, by simp, fun i hi => ?_, ⟨_, rfl, hab⟩, ⟨(Blk.new w _ _).alloc _, (hC.more hab).below hB, by simp⟩, ?_, hB, by simp⟩
  · rcases List.mem_append.1 hi with h | h
    · have := hR0 i h; omega
    · simp at h; omega
  · have := Blk.new (w.alloc (.cells (k.cells c).toArray 35)) t zs
    rw [hz] at this
    exact this
/-- the frame of a function that takes a client and something else in memory -/
theorem pro3 {w : World} {R0 : List (Option Nat)} {c : Cl} {k : Cv} (hC : Cr w R0 c k) (hR0 : ∀ i, some i ∈ R0 → i < w.heap.size) (xs : List Value) (s : TypeId) (zs : List Value) (t : TypeId) :
    ∃ R, (∀ r, r ∈ R0 → r ∈ R) ∧ some w.heap.size ∈ R ∧ some (w.heap.size + 1) ∈ R ∧ some (w.heap.size + 2) ∈ R ∧ (∀ i, some i ∈ R → i < w.heap.size + 3) ∧ (∃ R1, R = R0 ++ R1 ∧ ∀ i, some i ∈ R1 → w.heap.size ≤ i) ∧
      Bx (((w.alloc (.cells (k.cells c).toArray 35)).alloc (.cells xs.toArray s)).alloc (.cells zs.toArray t)) w.heap.size R c k ∧ Blk (((w.alloc (.cells (k.cells c).toArray 35)).alloc (.cells xs.toArray s)).alloc (.cells zs.toArray t)) (w.heap.size + 1) s xs ∧ Blk (((w.alloc (.cells (k.cells c).toArray 35)).alloc (.cells xs.toArray s)).alloc (.cells zs.toArray t)) (w.heap.size + 2) t zs ∧
      Below w.heap.size w (((w.alloc (.cells (k.cells c).toArray 35)).alloc (.cells xs.toArray s)).alloc (.cells zs.toArray t)) ∧ (((w.alloc (.cells (k.cells c).toArray 35)).alloc (.cells xs.toArray s)).alloc (.cells zs.toArray t)).heap.size = w.heap.size + 3 := by
  have hB : Below w.heap.size w (((w.alloc (.cells (k.cells c).toArray 35)).alloc (.cells xs.toArray s)).alloc (.cells zs.toArray t)) := (((Below.refl _ _).alloc (Nat.le_refl _) _).alloc (by simp) _).alloc (by simp; omega) _
  have hab : ∀ i, some i ∈ [some w.heap.size, some (w.heap.size + 1), some (w.heap.size + 2)] → w.heap.size ≤ i := fun i hi => by simp at hi; omega
  have hz : (w.alloc (.cells (k.cells c).toArray 35)).heap.size = w.heap.size + 1 := by simp
  have hz2 : ((w.alloc (.cells (k.cells c).toArray 35)).alloc (.cells xs.toArray s)).heap.size = w.heap.size + 2 := by simp
  refine ⟨R0 ++ [some w.heap.size, some (w.heap.size + 1), some (w.heap.size + 2)], fun r hr => List.mem_append_left _ hr, by simp, by simp, by simp, fun i hi => ?_, ⟨_, rfl, hab⟩, ⟨((Blk.new w _ _).alloc _).alloc _, (hC.more hab).below hB, by simp⟩, ?_, ?_, hB, by simp⟩
  · rcases List.mem_append.1 hi with h | h
    · have := hR0 i h; omega
    · simp at h; omega
  · have := (Blk.new (w.alloc (.cells (k.cells c).toArray 35)) s xs).alloc (.cells zs.toArray t)
    rw [hz] at this
    exact this
  · have := Blk.new ((w.alloc (.cells (k.cells c).toArray 35)).alloc (.cells xs.toArray s)) t zs
    rw [hz2] at this
    exact this
theorem BD.up {w V : World} {R0 R : List (Option Nat)} {v : Value} {bs : List Nat} (h : BD w R0 v bs) (hR : ∃ R1, R = R0 ++ R1 ∧ ∀ i, some i ∈ R1 → w.heap.size ≤ i) (hB : Below w.heap.size w V) : BD V R v bs := by
  obtain ⟨R1, rfl, h1⟩ := hR
  exact (h.more h1).below hB
theorem FD.up {w V : World} {R0 R : List (Option Nat)} {v : Value} {l : List Fd} (h : FD w R0 v l) (hR : ∃ R1, R = R0 ++ R1 ∧ ∀ i, some i ∈ R1 → w.heap.size ≤ i) (hB : Below w.heap.size w V) : FD V R v l := by
  obtain ⟨R1, rfl, h1⟩ := hR
  exact (h.more h1).below hB
theorem RsR.up {w V : World} {R0 R : List (Option Nat)} {v : Value} {l : List Rs} (h : RsR w R0 v l) (hR : ∃ R1, R = R0 ++ R1 ∧ ∀ i, some i ∈ R1 → w.heap.size ≤ i) (hB : Below w.heap.size w V) : RsR V R v l := by
  obtain ⟨R1, rfl, h1⟩ := hR
  exact (h.more h1).below hB
theorem over_pre : ∀ (vs pre zs : List Value), zs.length = vs.length → over pre.length vs (pre ++ zs) = pre ++ vs
  | [], pre, zs, h => by
    have h0 : zs = [] := List.eq_nil_of_length_eq_zero (by simpa using h)
    simp [over, h0]
  | v :: vs, pre, [], h => by simp at h
  | v :: vs, pre, z :: zs, h => by
    have h1 := over_pre vs (pre ++ [v]) zs (by simpa using h)
    simp only [List.length_append, List.length_cons, List.length_nil, Nat.zero_add, List.append_assoc, List.cons_append, List.nil_append] at h1
    simp only [over]
    rw [show (pre ++ z :: zs).set pre.length v = pre ++ v :: zs by simp]
    exact h1
/-- a whole block is written -/
theorem Blk.putAll {w : World} {b : Nat} {t : TypeId} {zs vs : List Value} (h : Blk w b t zs) (hl : zs.length = vs.length) : Blk (w.setCells b 0 vs) b t vs := by
  have h1 := h.setCells (vs := vs) (o := 0)
  have h2 := over_pre vs [] zs hl
  simp only [List.length_nil, List.nil_append] at h2
  rw [h2] at h1
  exact h1
/-- the end of a function: the block of the result is written -/
theorem fin26 {n b : Nat} {w w1 : World} {R R0 : List (Option Nat)} {c1 : Cl} {k1 : Cv} {o r : Value} {ps : List Pd} {us : List Rs} {zs : List Value} (hC : Cr w1 R c1 k1) (hp : PsR w1 R o ps) (hr : RsR w1 R r us) (hb : Blk w1 b 35 zs) (hz : zs.length = 26) (hm : some b ∈ R) (hs : ∀ r, r ∈ R0 → r ∈ R) (hl : Below n w w1) (hn : n ≤ b) :
    (Cr (w1.setCells b 0 (k1.cells c1)) R0 c1 k1 ∧ PsR (w1.setCells b 0 (k1.cells c1)) R0 o ps ∧ RsR (w1.setCells b 0 (k1.cells c1)) R0 r us ∧ Below n w (w1.setCells b 0 (k1.cells c1))) ∧ Blk (w1.setCells b 0 (k1.cells c1)) b 35 (k1.cells c1) := by
  have hg := setCells_grown b (k1.cells c1) 0 w1
  have ht : Turns w1 R (some b) := fun k hk => .inl (by rw [← hk]; exact hm)
  refine ⟨⟨(hC.turned hg ht).less hs, (hp.turned hg ht).less hs, (hr.turned hg ht).less hs, hl.grown hg (Nat.le_trans hn (Nat.le_of_lt hb.lt)) (fun k hk => by cases hk; exact hn)⟩, ?_⟩
  exact Blk.putAll hb (hz.trans rfl)
/-- what a function of the reference hands back -/
def Out2 (w' : World) (R0 : List (Option Nat)) (e : Ending) (x : Sp) : Prop := ∃ k' o, e = .returned (.tuple #[.agg (k'.cells x.c).toArray, o]) ∧ Cr w' R0 x.c k' ∧ PsR w' R0 o x.ps
def Out3 (w' : World) (R0 : List (Option Nat)) (e : Ending) (x : Sp) : Prop := ∃ k' o r, e = .returned (.tuple #[.agg (k'.cells x.c).toArray, o, r]) ∧ Cr w' R0 x.c k' ∧ PsR w' R0 o x.ps ∧ RsR w' R0 r x.us
theorem rsend2 (c : Cl) (k : Cv) (R0 : List (Option Nat)) (p : Pd) (bv iv : Value) (now : Int) (w : World) (hC : Cr w R0 c k) (hp : BD w R0 bv p.vs) (hi : SR w iv 0 5 []) (hR0 : ∀ i, some i ∈ R0 → i < w.heap.size) :
    Calls Try.prog 77 #[.agg (k.cells c).toArray, .agg (pdc p bv iv).toArray, .int .i64 now] w fun e w' => Out2 w' R0 e ((sp0 c now).send p) ∧ Below w.heap.size w w' := by
  refine (rsend_any c k R0 p bv iv now w hC hp hi hR0).mono ?_
  rintro e w1 ⟨k1, o, rfl, h1, h2, h3⟩
  exact ⟨⟨k1, o, rfl, h1, h2⟩, h3⟩
end Go.Proofs.Ytldcihjddebciaa
