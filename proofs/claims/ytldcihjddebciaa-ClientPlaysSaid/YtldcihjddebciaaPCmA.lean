/- client: the reference's Check of a PDU. And what follows it. -/
import Derived.Test.YtldcihjddebciaaPCkW
import Derived.Test.YtldcihjddebciaaPCkP
import Derived.Test.YtldcihjddebciaaPCnQ
import Derived.Test.YtldcihjddebciaaPClY
import Derived.Test.YtldcihjddebciaaPClX
set_option linter.unusedSimpArgs false
set_option linter.unusedVariables false
set_option maxRecDepth 100000
set_option maxHeartbeats 4000000
namespace Go.Proofs.Ytldcihjddebciaa
open Go.RowKit
theorem rchk_any (ki ak : Int) (ha la hi lo : Nat) (of mt co : Int) (cm : Bool) (a1 a2 : Option Addr) (n c m d : Nat) (its : List It) (w : World) (hits : Items w (.slice a2 m d) m its) (hm : m ≤ 1000) (hbn : ∀ t ∈ its,t.n ≤ BIGN) : Calls Try.prog 12 #[.agg #[.int .i64 ki,.int .i64 ak,.int .u16 ha,.int .u16 la,.int .u64 hi,.int .u64 lo,.int .i64 of,.int .i64 mt,.int .i64 co,.bool cm,.slice a1 n c,.slice a2 m d]] w fun e w' => e = .returned (.int .i64 (chkA ki ak ha la hi lo of mt co cm n m its)) ∧ Below w.heap.size w w' := by
 cases hk : fldC ki with
 |none =>
  rcases att_kinds ki with rfl | rfl | rfl | rfl | rfl | rfl | rfl | rfl | rfl | rfl | rfl | rfl | rfl | rfl | rfl | rfl | rfl | rfl | rfl | rfl | rfl | rfl | rfl | hne
  case' inr.inr.inr.inr.inr.inr.inr.inr.inr.inr.inr.inr.inr.inr.inr.inr.inr.inr.inr.inr.inr.inr.inr => exact rchkA_none ki hne ak ha la hi lo of mt co cm a1 a2 n c m d its w
  all_goals cases hk
 |some us =>
  obtain ⟨F,hF,hs | hs | hs | hs⟩ := fld_sets hk
  ·exact rchk_g1 ki hk hF hs ak ha la hi lo of mt co cm a1 a2 n c m d its w hits hm hbn
  ·exact rchk_g2 ki hk hF hs ak ha la hi lo of mt co cm a1 a2 n c m d its w hits hm hbn
  ·exact rchk_g3 ki hk hF hs ak ha la hi lo of mt co cm a1 a2 n c m d its w hits hm hbn
  ·exact rchk_g4 ki hk hF hs ak ha la hi lo of mt co cm a1 a2 n c m d its w hits hm hbn
theorem itb_of {w : World} {iv : Value} {qs : List (Im × Value)} (h : SR w iv qs.length 5 (qs.flatMap ienc)) (hin : ∀ q ∈ qs,ItIn w q) (hl : ∀ q ∈ qs,q.1.bs.length ≤ 255) : ItB w w.heap.size iv qs :=
 ⟨h,h.lies,fun q hq => ⟨(hin q hq).1,(hin q hq).1.sr.lies,by have := hl q hq; omega⟩,fun q hq => (hin q hq).2⟩
/-- what the check of a PDU says: 0, and it may be handled -/
theorem chk_ans {w : World} {p : Pd} {qs : List (Im × Value)} (hin : ∀ q ∈ qs,ItIn w q) (hl : qs.length ≤ 300) (h : chkA p.kd p.ask p.ha p.la p.hi p.lo p.of p.mt p.co p.cm p.vs.length qs.length (qs.map itOf) = 0) :
 AnsOk p (qs.map (·.1)) ∧ ∀ q ∈ qs,q.1.bs.length ≤ 255 := by
 obtain ⟨h1,h2⟩ := chk_zero (by simp) h
 refine ⟨⟨fun hk e => h1 (by omega) (by rw [List.map_eq_nil_iff] at e; subst e; rfl),fun i hi => ?_,by simpa using hl⟩,fun q hq => ?_⟩
 ·obtain ⟨q,hq,rfl⟩ := List.mem_map.1 hi
  exact ⟨(hin q hq).2.1,(hin q hq).2.2.1⟩
 ·rw [← (itOf_eq (hin q hq)).2.2]
  exact h2 _ (List.mem_map.2 ⟨q,hq,rfl⟩)
theorem itb_big {w : World} {q : Im × Value} (h : ItIn w q) : (itOf q).n ≤ BIGN := by
 rw [(itOf_eq h).2.2]
 obtain ⟨_,_,_,_,hb⟩ := h.1
 have := hb.2.1
 unfold reachBytes at this
 unfold BIGN
 exact this
/-- the check of a PDU that came in -/
theorem rchk_step {w : World} {p : Pd} {pb iv : Value} {qs : List (Im × Value)} (hb : BV w pb p.vs) (hi : SR w iv qs.length 5 (qs.flatMap ienc)) (hin : ∀ q ∈ qs,ItIn w q) (hl : qs.length ≤ 300) :
 Calls Try.prog 12 #[.agg (pdc p pb iv).toArray] w fun e w' => e = .returned (.int .i64 (chkA p.kd p.ask p.ha p.la p.hi p.lo p.of p.mt p.co p.cm p.vs.length qs.length (qs.map itOf))) ∧ Below w.heap.size w w' := by
 obtain ⟨a1,c1,rfl⟩ := hb.form
 obtain ⟨a2,c2,rfl⟩ := hi.form
 exact rchk_any p.kd p.ask p.ha p.la p.hi p.lo p.of p.mt p.co p.cm a1 a2 _ c1 _ c2 (qs.map itOf) w (items_of hi hin) (by omega) (fun t ht => by
  obtain ⟨q,hq,rfl⟩ := List.mem_map.1 ht
  exact itb_big (hin q hq))
/-- cells among which no bytes lie, and nothing found -/
structure Nob (cs : List Value) : Prop where
 u8 : ∀ (off : Nat) (x : Int),cs[off]? ≠ some (Value.int .u8 x)
 fd : ∀ (off : Nat) (a b c d : Int),cs[off]? = some (Value.int .u16 a) → cs[off + 1]? = some (Value.int .u16 b) → cs[off + 2]? = some (Value.int .u16 c) → cs[off + 3]? = some (Value.int .i64 d) → False
/-- five slices -/
structure Five (bv fv ab ai wv : Value) : Prop where
 b : ∃ a n c,bv = .slice a n c
 f : ∃ a n c,fv = .slice a n c
 a : ∃ a n c,ab = .slice a n c
 i : ∃ a n c,ai = .slice a n c
 w : ∃ a n c,wv = .slice a n c
theorem clc_u8 {c : Cl} {bv fv ab ai wv : Value} (h : Five bv fv ab ai wv) (off : Nat) (x : Int) : (clc c bv fv ab ai wv)[off]? ≠ some (.int .u8 x) := by
 obtain ⟨⟨_,_,_,rfl⟩,⟨_,_,_,rfl⟩,⟨_,_,_,rfl⟩,⟨_,_,_,rfl⟩,⟨_,_,_,rfl⟩⟩ := h
 intro he
 have hm := List.mem_of_getElem? he
 simp [clc] at hm
theorem clc_fd {c : Cl} {bv fv ab ai wv : Value} (h : Five bv fv ab ai wv) (off : Nat) (a b c' d : Int) (h0 : (clc c bv fv ab ai wv)[off]? = some (.int .u16 a)) (h1 : (clc c bv fv ab ai wv)[off + 1]? = some (.int .u16 b)) (h2 : (clc c bv fv ab ai wv)[off + 2]? = some (.int .u16 c')) (h3 : (clc c bv fv ab ai wv)[off + 3]? = some (.int .i64 d)) : False := by
 obtain ⟨⟨_,_,_,rfl⟩,⟨_,_,_,rfl⟩,⟨_,_,_,rfl⟩,⟨_,_,_,rfl⟩,⟨_,_,_,rfl⟩⟩ := h
 have ho : off < 26 := (List.getElem?_eq_some_iff.1 h0).1
 match off,ho with
 |0,_ => (first | (simp [clc] at h0; done) | (simp [clc] at h1; done) | (simp [clc] at h2; done) | (simp [clc] at h3; done))
 |1,_ => (first | (simp [clc] at h0; done) | (simp [clc] at h1; done) | (simp [clc] at h2; done) | (simp [clc] at h3; done))
 |2,_ => (first | (simp [clc] at h0; done) | (simp [clc] at h1; done) | (simp [clc] at h2; done) | (simp [clc] at h3; done))
 |3,_ => (first | (simp [clc] at h0; done) | (simp [clc] at h1; done) | (simp [clc] at h2; done) | (simp [clc] at h3; done))
 |4,_ => (first | (simp [clc] at h0; done) | (simp [clc] at h1; done) | (simp [clc] at h2; done) | (simp [clc] at h3; done))
 |5,_ => (first | (simp [clc] at h0; done) | (simp [clc] at h1; done) | (simp [clc] at h2; done) | (simp [clc] at h3; done))
 |6,_ => (first | (simp [clc] at h0; done) | (simp [clc] at h1; done) | (simp [clc] at h2; done) | (simp [clc] at h3; done))
 |7,_ => (first | (simp [clc] at h0; done) | (simp [clc] at h1; done) | (simp [clc] at h2; done) | (simp [clc] at h3; done))
 |8,_ => (first | (simp [clc] at h0; done) | (simp [clc] at h1; done) | (simp [clc] at h2; done) | (simp [clc] at h3; done))
 |9,_ => (first | (simp [clc] at h0; done) | (simp [clc] at h1; done) | (simp [clc] at h2; done) | (simp [clc] at h3; done))
 |10,_ => (first | (simp [clc] at h0; done) | (simp [clc] at h1; done) | (simp [clc] at h2; done) | (simp [clc] at h3; done))
 |11,_ => (first | (simp [clc] at h0; done) | (simp [clc] at h1; done) | (simp [clc] at h2; done) | (simp [clc] at h3; done))
 |12,_ => (first | (simp [clc] at h0; done) | (simp [clc] at h1; done) | (simp [clc] at h2; done) | (simp [clc] at h3; done))
 |13,_ => (first | (simp [clc] at h0; done) | (simp [clc] at h1; done) | (simp [clc] at h2; done) | (simp [clc] at h3; done))
 |14,_ => (first | (simp [clc] at h0; done) | (simp [clc] at h1; done) | (simp [clc] at h2; done) | (simp [clc] at h3; done))
 |15,_ => (first | (simp [clc] at h0; done) | (simp [clc] at h1; done) | (simp [clc] at h2; done) | (simp [clc] at h3; done))
 |16,_ => (first | (simp [clc] at h0; done) | (simp [clc] at h1; done) | (simp [clc] at h2; done) | (simp [clc] at h3; done))
 |17,_ => (first | (simp [clc] at h0; done) | (simp [clc] at h1; done) | (simp [clc] at h2; done) | (simp [clc] at h3; done))
 |18,_ => (first | (simp [clc] at h0; done) | (simp [clc] at h1; done) | (simp [clc] at h2; done) | (simp [clc] at h3; done))
 |19,_ => (first | (simp [clc] at h0; done) | (simp [clc] at h1; done) | (simp [clc] at h2; done) | (simp [clc] at h3; done))
 |20,_ => (first | (simp [clc] at h0; done) | (simp [clc] at h1; done) | (simp [clc] at h2; done) | (simp [clc] at h3; done))
 |21,_ => (first | (simp [clc] at h0; done) | (simp [clc] at h1; done) | (simp [clc] at h2; done) | (simp [clc] at h3; done))
 |22,_ => (first | (simp [clc] at h0; done) | (simp [clc] at h1; done) | (simp [clc] at h2; done) | (simp [clc] at h3; done))
 |23,_ => (first | (simp [clc] at h0; done) | (simp [clc] at h1; done) | (simp [clc] at h2; done) | (simp [clc] at h3; done))
 |24,_ => (first | (simp [clc] at h0; done) | (simp [clc] at h1; done) | (simp [clc] at h2; done) | (simp [clc] at h3; done))
 |25,_ => (first | (simp [clc] at h0; done) | (simp [clc] at h1; done) | (simp [clc] at h2; done) | (simp [clc] at h3; done))
theorem nob_clc {c : Cl} {bv fv ab ai wv : Value} (h : Five bv fv ab ai wv) : Nob (clc c bv fv ab ai wv) := ⟨clc_u8 h,clc_fd h⟩
theorem BV.notc {w w' : World} {v : Value} {bs : List Nat} {rb : Nat} {t : TypeId} {zs : List Value} (h : BV w v bs) (hn : Nob zs) (hz : Blk w rb t zs) (hg : w.grownBy w' (some rb)) : BV w' v bs := by
 by_cases h0 : bs.length = 0
 ·refine h.with ?_
  have h1 := h.sr
  rw [h0] at h1 ⊢
  have e : bs = [] := List.eq_nil_of_length_eq_zero h0
  subst e
  exact h1.empty
 ·refine h.with (h.sr.grown hg ?_)
  obtain ⟨_,_,_,ao,cap,rfl,_,h4⟩ := h.sr
  obtain ⟨b,off,rfl,_,hc⟩ := h4 (by omega)
  refine .inr ⟨b,rfl,fun e => ?_⟩
  injection e with e
  subst e
  cases bs with
  |nil => simp at h0
  |cons x r =>
   have h6 := hc 0 (.int .u8 (x : Int)) rfl
   rw [hz.at?] at h6
   exact hn.u8 _ _ h6
theorem FdV.notc {w w' : World} {v : Value} {l : List Fd} {rb : Nat} {t : TypeId} {zs : List Value} (h : FdV w v l) (hn : Nob zs) (hz : Blk w rb t zs) (hg : w.grownBy w' (some rb)) : FdV w' v l := by
 by_cases h0 : l.length = 0
 ·have e : l = [] := List.eq_nil_of_length_eq_zero h0
  subst e
  exact SR.empty h
 ·refine SR.grown h hg ?_
  obtain ⟨_,_,_,ao,cap,rfl,_,h4⟩ := h
  obtain ⟨b,off,rfl,_,hc⟩ := h4 (by omega)
  refine .inr ⟨b,rfl,fun e => ?_⟩
  injection e with e
  subst e
  cases l with
  |nil => simp at h0
  |cons x r =>
   have h5 := hc 0 (.int .u16 x.ha) rfl
   have h6 := hc 1 (.int .u16 x.la) rfl
   have h7 := hc 2 (.int .u16 x.va) rfl
   have h8 := hc 3 (.int .i64 x.pr) rfl
   rw [hz.at?] at h5 h6 h7 h8
   exact hn.fd _ _ _ _ _ h5 h6 h7 h8
theorem SR.off {w w' : World} {v : Value} {n size : Nat} {cs : List Value} {rb : Nat} (h : SR w v n size cs) (ho : n = 0 ∨ Off rb v) (hg : w.grownBy w' (some rb)) : SR w' v n size cs := by
 rcases ho with h0 | ho
 ·subst h0
  exact h.empty
 ·by_cases hn : n = 0
  ·subst hn
   exact h.empty
  ·rcases h.lies with h0 | ⟨b,hb,_⟩
   ·exact absurd h0 hn
   ·exact h.grown hg (.inr ⟨b,hb,fun e => ho b hb (by injection e with e; exact e.symm)⟩)
/-- a client stays as it is when a block is written among whose cells no bytes lie, if its waiting row lies elsewhere -/
theorem ClV.kept {w w' : World} {v : Value} {c : Cl} {rb : Nat} {t : TypeId} {zs : List Value} (h : ClV w v c) (hn : Nob zs) (hz : Blk w rb t zs) (hg : w.grownBy w' (some rb)) (ho : WOff rb v c) : ClV w' v c := by
 obtain ⟨b1,f1,a1,i1,w1,rfl,h1,h2,h3,h4,qs,h5,h6,h7⟩ := h
 have hl : qs.length = c.wt.length := by rw [← h5]; simp
 exact ⟨b1,f1,a1,i1,w1,rfl,h1.notc hn hz hg,h2.notc hn hz hg,h3.notc hn hz hg,h4.empty,qs,h5,h6.off (by rw [hl]; exact ho _ rfl w1 rfl) hg,fun q hq => ⟨(h7 q hq).1.notc hn hz hg,(h7 q hq).2⟩⟩
theorem PsV.kept {w w' : World} {v : Value} {ps : List Pd} {rb : Nat} {t : TypeId} {zs : List Value} (h : PsV w v ps) (hn : Nob zs) (hz : Blk w rb t zs) (hg : w.grownBy w' (some rb)) (ho : ps.length = 0 ∨ Off rb v) : PsV w' v ps := by
 obtain ⟨qs,h1,h2,h3⟩ := h
 have hl : qs.length = ps.length := by rw [← h1]; simp
 exact ⟨qs,h1,h2.off (by rw [hl]; exact ho) hg,fun q hq => ⟨(h3 q hq).1.notc hn hz hg,(h3 q hq).2.empty⟩⟩
theorem RsV.kept {w w' : World} {v : Value} {us : List Rs} {rb : Nat} {t : TypeId} {zs : List Value} (h : RsV w v us) (hn : Nob zs) (hz : Blk w rb t zs) (hg : w.grownBy w' (some rb)) (ho : us.length = 0 ∨ Off rb v) : RsV w' v us := by
 obtain ⟨qs,h1,h2,h3⟩ := h
 have hl : qs.length = us.length := by rw [← h1]; simp
 exact ⟨qs,h1,h2.off (by rw [hl]; exact ho) hg,fun q hq => ⟨(h3 q hq).1.notc hn hz hg,(h3 q hq).2.notc hn hz hg⟩⟩
/-- the cells of a client that is read -/
theorem ClV.nob {w : World} {cs : List Value} {c : Cl} (h : ClV w (.agg cs.toArray) c) : Nob cs ∧ cs.length = 26 := by
 obtain ⟨bv,fv,ab,ai,wv,e,h1,h2,h3,h4,qs,h5,h6,_⟩ := h
 simp only [Value.agg.injEq] at e
 have e' : cs = clc c bv fv ab ai wv := by simpa using congrArg Array.toList e
 subst e'
 obtain ⟨a1,c1,e1⟩ := h1.form
 obtain ⟨a2,c2,e2⟩ := h2.form
 obtain ⟨a3,c3,e3⟩ := h3.form
 obtain ⟨a4,c4,e4⟩ := h4.form
 obtain ⟨a5,c5,e5⟩ := h6.form
 exact ⟨nob_clc ⟨⟨_,_,_,e1⟩,⟨_,_,_,e2⟩,⟨_,_,_,e3⟩,⟨_,_,_,e4⟩,⟨_,_,_,e5⟩⟩,rfl⟩
/-- the values of a client -/
structure Cv where
 bv : Value
 fv : Value
 ab : Value
 ai : Value
 wv : Value
 qs : List (Tk × Value)
def Cv.cells (k : Cv) (c : Cl) : List Value := clc c k.bv k.fv k.ab k.ai k.wv
def capV : Value → Nat
 |.slice _ _ c => c
 |_ => 0
/-- they are read, apart from some blocks -/
structure Cr (w : World) (R : List (Option Nat)) (c : Cl) (k : Cv) : Prop where
 bv : BD w R k.bv c.tk.vs
 fv : FD w R k.fv c.tk.fo
 ab : BD w R k.ab c.ad.vs
 ai : SR w k.ai 0 5 []
 wv : SR w k.wv k.qs.length 8 (k.qs.flatMap wenc)
 wa : k.qs.length = 0 ∨ Apart R k.wv
 wt : k.qs.map (·.1) = c.wt
 wi : ∀ q ∈ k.qs,BD w R q.2 q.1.vs ∧ q.1.fo = []
 wc : k.qs.length ≤ capV k.wv
theorem apart_above {w : World} {v : Value} {n size : Nat} {cs : List Value} {R : List (Option Nat)} (h : SR w v n size cs) (hR : ∀ i,some i ∈ R → w.heap.size ≤ i) : n = 0 ∨ Apart R v := by
 rcases h.lies with h0 | ⟨b,hb,hlt⟩
 ·exact .inl h0
 ·refine .inr fun k hk hm => ?_
  rw [hb] at hk
  injection hk with hk
  have := hR k hm
  omega
theorem Cr.clv {w : World} {R : List (Option Nat)} {c : Cl} {k : Cv} (h : Cr w R c k) : ClV w (.agg (k.cells c).toArray) c :=
 ⟨_,_,_,_,_,rfl,h.bv.1,h.fv.1,h.ab.1,h.ai,k.qs,h.wt,h.wv,fun q hq => ⟨(h.wi q hq).1.1,(h.wi q hq).2⟩⟩
theorem Cr.turned {w w' : World} {R : List (Option Nat)} {c : Cl} {k : Cv} {r : Option Nat} (h : Cr w R c k) (hg : w.grownBy w' r) (hr : Turns w R r) : Cr w' R c k :=
 ⟨h.bv.turned hg hr,h.fv.turned hg hr,h.ab.turned hg hr,h.ai.empty,h.wv.turned h.wa hg hr,h.wa,h.wt,fun q hq => ⟨(h.wi q hq).1.turned hg hr,(h.wi q hq).2⟩,h.wc⟩
theorem Cr.below {w w' : World} {R : List (Option Nat)} {c : Cl} {k : Cv} (h : Cr w R c k) (hb : Below w.heap.size w w') : Cr w' R c k :=
 ⟨h.bv.below hb,h.fv.below hb,h.ab.below hb,h.ai.empty,h.wv.below hb,h.wa,h.wt,fun q hq => ⟨(h.wi q hq).1.below hb,(h.wi q hq).2⟩,h.wc⟩
theorem Cr.one {w : World} {R : List (Option Nat)} {c : Cl} {k : Cv} (h : Cr w R c k) : (k.cells c).toArray.all (·.oneCell') = true := by
 obtain ⟨a1,c1,e1⟩ := h.bv.1.form
 obtain ⟨a2,c2,e2⟩ := h.fv.1.form
 obtain ⟨a3,c3,e3⟩ := h.ab.1.form
 obtain ⟨a4,c4,e4⟩ := h.ai.form
 obtain ⟨a5,c5,e5⟩ := h.wv.form
 simp [Cv.cells,clc,e1,e2,e3,e4,e5,Value.oneCell']
/-- a client in a block of a function's own -/
structure Bx (w : World) (b : Nat) (R : List (Option Nat)) (c : Cl) (k : Cv) : Prop where
 blk : Blk w b 35 (k.cells c)
 cr : Cr w R c k
 mem : some b ∈ R
theorem Bx.below {w w' : World} {b : Nat} {R : List (Option Nat)} {c : Cl} {k : Cv} (h : Bx w b R c k) (hb : Below w.heap.size w w') : Bx w' b R c k := ⟨h.blk.below hb,h.cr.below hb,h.mem⟩
theorem Bx.drew {w : World} {b : Nat} {R : List (Option Nat)} {c : Cl} {k : Cv} (h : Bx w b R c k) : Bx w.drew b R c k := h.below (Below.refl _ _).drew
/-- another block of R has turned -/
theorem Bx.other {w w' : World} {b r : Nat} {R : List (Option Nat)} {c : Cl} {k : Cv} (h : Bx w b R c k) (hg : w.grownBy w' (some r)) (hne : b ≠ r) (hm : some r ∈ R) : Bx w' b R c k :=
 ⟨h.blk.kept hg (fun e => hne (by injection e)),h.cr.turned hg (fun k hk => .inl (by rw [← hk]; exact hm)),h.mem⟩
theorem Bx.self {w w' : World} {b : Nat} {R : List (Option Nat)} {c : Cl} {k : Cv} (h : Bx w b R c k) (hg : w.grownBy w' (some b)) : Cr w' R c k := h.cr.turned hg (fun k hk => .inl (by rw [← hk]; exact h.mem))
theorem b26_tk {W : World} {i : Nat} {t : TypeId} {x0 x1 x2 x3 x4 x5 x6 x7 x8 x9 x10 x11 x12 x13 x14 x15 x16 x17 x18 x19 x20 x21 x22 x23 x24 x25 y0 y1 y2 y3 y4 y5 y6 y7 : Value} (h : Blk W i t [x0,x1,x2,x3,x4,x5,x6,x7,x8,x9,x10,x11,x12,x13,x14,x15,x16,x17,x18,x19,x20,x21,x22,x23,x24,x25]) : Blk (W.setCells i 2 [y0,y1,y2,y3,y4,y5,y6,y7]) i t [x0,x1,y0,y1,y2,y3,y4,y5,y6,y7,x10,x11,x12,x13,x14,x15,x16,x17,x18,x19,x20,x21,x22,x23,x24,x25] := by
 have h1 := h.setCells (vs := [y0,y1,y2,y3,y4,y5,y6,y7]) (o := 2)
 simp only [over,List.set_cons_zero,List.set_cons_succ,Nat.reduceAdd] at h1
 exact h1
theorem b26_ad {W : World} {i : Nat} {t : TypeId} {x0 x1 x2 x3 x4 x5 x6 x7 x8 x9 x10 x11 x12 x13 x14 x15 x16 x17 x18 x19 x20 x21 x22 x23 x24 x25 y0 y1 y2 y3 y4 y5 y6 y7 y8 y9 y10 y11 : Value} (h : Blk W i t [x0,x1,x2,x3,x4,x5,x6,x7,x8,x9,x10,x11,x12,x13,x14,x15,x16,x17,x18,x19,x20,x21,x22,x23,x24,x25]) : Blk (W.setCells i 10 [y0,y1,y2,y3,y4,y5,y6,y7,y8,y9,y10,y11]) i t [x0,x1,x2,x3,x4,x5,x6,x7,x8,x9,y0,y1,y2,y3,y4,y5,y6,y7,y8,y9,y10,y11,x22,x23,x24,x25] := by
 have h1 := h.setCells (vs := [y0,y1,y2,y3,y4,y5,y6,y7,y8,y9,y10,y11]) (o := 10)
 simp only [over,List.set_cons_zero,List.set_cons_succ,Nat.reduceAdd] at h1
 exact h1
theorem b26_cl {W : World} {i : Nat} {t : TypeId} {x0 x1 x2 x3 x4 x5 x6 x7 x8 x9 x10 x11 x12 x13 x14 x15 x16 x17 x18 x19 x20 x21 x22 x23 x24 x25 y0 y1 y2 y3 y4 y5 y6 y7 y8 y9 y10 y11 y12 y13 y14 y15 y16 y17 y18 y19 y20 y21 y22 y23 y24 y25 : Value} (h : Blk W i t [x0,x1,x2,x3,x4,x5,x6,x7,x8,x9,x10,x11,x12,x13,x14,x15,x16,x17,x18,x19,x20,x21,x22,x23,x24,x25]) : Blk (W.setCells i 0 [y0,y1,y2,y3,y4,y5,y6,y7,y8,y9,y10,y11,y12,y13,y14,y15,y16,y17,y18,y19,y20,y21,y22,y23,y24,y25]) i t [y0,y1,y2,y3,y4,y5,y6,y7,y8,y9,y10,y11,y12,y13,y14,y15,y16,y17,y18,y19,y20,y21,y22,y23,y24,y25] := by
 have h1 := h.setCells (vs := [y0,y1,y2,y3,y4,y5,y6,y7,y8,y9,y10,y11,y12,y13,y14,y15,y16,y17,y18,y19,y20,y21,y22,y23,y24,y25]) (o := 0)
 simp only [over,List.set_cons_zero,List.set_cons_succ,Nat.reduceAdd] at h1
 exact h1
theorem Bx.put_mt {w : World} {b : Nat} {R : List (Option Nat)} {c : Cl} {k : Cv} (h : Bx w b R c k) (m : Int) : Bx (w.setCell ⟨b,0,none⟩ (.int .i64 m)) b R { c with mt := m } k := by
 have h2 := h.self (set1 w ⟨b,0,none⟩ (.int .i64 m))
 exact ⟨h.blk.setAt (j := 0) (.int .i64 m),{ h2 with  },h.mem⟩
theorem Bx.put_of {w : World} {b : Nat} {R : List (Option Nat)} {c : Cl} {k : Cv} (h : Bx w b R c k) (m : Int) : Bx (w.setCell ⟨b,7,none⟩ (.int .i64 m)) b R { c with tk := { c.tk with of := m } } k := by
 have h2 := h.self (set1 w ⟨b,7,none⟩ (.int .i64 m))
 exact ⟨h.blk.setAt (j := 7) (.int .i64 m),{ h2 with  },h.mem⟩
theorem Bx.put_bad {w : World} {b : Nat} {R : List (Option Nat)} {c : Cl} {k : Cv} (h : Bx w b R c k) (x : Bool) : Bx (w.setCell ⟨b,9,none⟩ (.bool x)) b R { c with tk := { c.tk with bad := x } } k := by
 have h2 := h.self (set1 w ⟨b,9,none⟩ (.bool x))
 exact ⟨h.blk.setAt (j := 9) (.bool x),{ h2 with  },h.mem⟩
theorem Bx.put_busy {w : World} {b : Nat} {R : List (Option Nat)} {c : Cl} {k : Cv} (h : Bx w b R c k) (x : Bool) : Bx (w.setCell ⟨b,22,none⟩ (.bool x)) b R { c with busy := x } k := by
 have h2 := h.self (set1 w ⟨b,22,none⟩ (.bool x))
 exact ⟨h.blk.setAt (j := 22) (.bool x),{ h2 with  },h.mem⟩
theorem Bx.put_since {w : World} {b : Nat} {R : List (Option Nat)} {c : Cl} {k : Cv} (h : Bx w b R c k) (m : Int) : Bx (w.setCell ⟨b,23,none⟩ (.int .i64 m)) b R { c with since := m } k := by
 have h2 := h.self (set1 w ⟨b,23,none⟩ (.int .i64 m))
 exact ⟨h.blk.setAt (j := 23) (.int .i64 m),{ h2 with  },h.mem⟩
theorem Bx.put_dead {w : World} {b : Nat} {R : List (Option Nat)} {c : Cl} {k : Cv} (h : Bx w b R c k) (x : Bool) : Bx (w.setCell ⟨b,24,none⟩ (.bool x)) b R { c with dead := x } k := by
 have h2 := h.self (set1 w ⟨b,24,none⟩ (.bool x))
 exact ⟨h.blk.setAt (j := 24) (.bool x),{ h2 with  },h.mem⟩
theorem Bx.put_bv {w : World} {b : Nat} {R : List (Option Nat)} {c : Cl} {k : Cv} (h : Bx w b R c k) {v : Value} {vs : List Nat} (hv : BD w R v vs) : Bx (w.setCell ⟨b,6,none⟩ v) b R { c with tk := { c.tk with vs := vs } } { k with bv := v } := by
 have h2 := h.self (set1 w ⟨b,6,none⟩ v)
 exact ⟨h.blk.setAt (j := 6) v,{ h2 with bv := hv.turned (set1 w ⟨b,6,none⟩ v) (fun _ hk => .inl (by rw [← hk]; exact h.mem)) },h.mem⟩
theorem Bx.put_fo {w : World} {b : Nat} {R : List (Option Nat)} {c : Cl} {k : Cv} (h : Bx w b R c k) {v : Value} {l : List Fd} (hv : FD w R v l) : Bx (w.setCell ⟨b,8,none⟩ v) b R { c with tk := { c.tk with fo := l } } { k with fv := v } := by
 have h2 := h.self (set1 w ⟨b,8,none⟩ v)
 exact ⟨h.blk.setAt (j := 8) v,{ h2 with fv := hv.turned (set1 w ⟨b,8,none⟩ v) (fun _ hk => .inl (by rw [← hk]; exact h.mem)) },h.mem⟩
theorem Bx.put_wt {w : World} {b : Nat} {R : List (Option Nat)} {c : Cl} {k : Cv} (h : Bx w b R c k) {v : Value} {qs : List (Tk × Value)} (h1 : SR w v qs.length 8 (qs.flatMap wenc)) (ha : qs.length = 0 ∨ Apart R v) (hi : ∀ q ∈ qs,BD w R q.2 q.1.vs ∧ q.1.fo = []) (hc : qs.length ≤ capV v) : Bx (w.setCell ⟨b,25,none⟩ v) b R { c with wt := qs.map (·.1) } { k with wv := v,qs := qs } := by
 have h2 := h.self (set1 w ⟨b,25,none⟩ v)
 exact ⟨h.blk.setAt (j := 25) v,{ h2 with wv := h1.turned ha (set1 w ⟨b,25,none⟩ v) (fun _ hk => .inl (by rw [← hk]; exact h.mem)),wc := hc,wa := ha,wt := rfl,wi := fun q hq => ⟨(hi q hq).1.turned (set1 w ⟨b,25,none⟩ v) (fun _ hk => .inl (by rw [← hk]; exact h.mem)),(hi q hq).2⟩ },h.mem⟩
theorem Bx.put_ad {w : World} {b : Nat} {R : List (Option Nat)} {c : Cl} {k : Cv} (h : Bx w b R c k) (p : Pd) {bv iv : Value} (hp : BD w R bv p.vs) (hi : SR w iv 0 5 []) : Bx (w.setCells b 10 (pdc p bv iv)) b R { c with ad := p } { k with ab := bv,ai := iv } := by
 have hg := setCells_grown b (pdc p bv iv) 10 w
 have h2 := h.self hg
 exact ⟨b26_ad h.blk,{ h2 with ab := hp.turned hg (fun _ hk => .inl (by rw [← hk]; exact h.mem)),ai := hi.empty },h.mem⟩
theorem Bx.put_tk {w : World} {b : Nat} {R : List (Option Nat)} {c : Cl} {k : Cv} (h : Bx w b R c k) (t : Tk) {bv fv : Value} (hp : BD w R bv t.vs) (hf : FD w R fv t.fo) : Bx (w.setCells b 2 (tkc t bv fv)) b R { c with tk := t } { k with bv := bv,fv := fv } := by
 have hg := setCells_grown b (tkc t bv fv) 2 w
 have h2 := h.self hg
 exact ⟨b26_tk h.blk,{ h2 with bv := hp.turned hg (fun _ hk => .inl (by rw [← hk]; exact h.mem)),fv := hf.turned hg (fun _ hk => .inl (by rw [← hk]; exact h.mem)) },h.mem⟩
theorem Bx.put_cl {w : World} {b : Nat} {R : List (Option Nat)} {c : Cl} {k : Cv} (h : Bx w b R c k) {c' : Cl} {k' : Cv} (hc : Cr w R c' k') : Bx (w.setCells b 0 (k'.cells c')) b R c' k' := by
 have hg := setCells_grown b (k'.cells c') 0 w
 have h2 := h.self hg
 exact ⟨b26_cl h.blk,hc.turned hg (fun _ hk => .inl (by rw [← hk]; exact h.mem)),h.mem⟩
theorem Bx.range {w : World} {b : Nat} {R : List (Option Nat)} {c : Cl} {k : Cv} (h : Bx w b R c k) : w.rangeAt b 0 (k.cells c) := h.blk.range 0 _ (fun j v hv => by rw [Nat.zero_add]; exact hv)
end Go.Proofs.Ytldcihjddebciaa
