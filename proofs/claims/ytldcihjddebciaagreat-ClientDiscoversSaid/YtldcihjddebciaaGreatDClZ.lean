/- client: Start. -/
import Derived.Test.YtldcihjddebciaaGreatDClY
import Derived.Shelf.Abstract
set_option linter.unusedSimpArgs false
set_option linter.unusedVariables false
set_option maxRecDepth 100000
set_option maxHeartbeats 20000000
namespace Go.Proofs.YtldcihjddebciaaGreat
open Go.RowKit
theorem blk_blk {w : World} {a b : Nat} {t t' : TypeId} {l l' : List Value} (h : Blk w a t l) (h' : Blk w b t' l') (hne : t ≠ t') : a ≠ b := by
 intro e
 subst e
 have h1 : w.heap[a]? = some (.cells l.toArray t (0,0)) := h
 have h2 : w.heap[a]? = some (.cells l'.toArray t' (0,0)) := h'
 rw [h1] at h2
 injection h2 with h2
 injection h2 with _ h2
 exact hne h2
/-- a waiting task is appended -/
theorem Sd.app_wait {w w' : World} {B X : Nat} {s : Sv} (h : Sd w B X s) (hg : w.grownBy w' s.wv.ownBlock) {v' : Value} {q : Tk × Value} (hv : w'.ownsRow B 46 8 v' (s.qs.length + 1) (s.qs.flatMap wenc ++ wenc q)) (_hor : v'.ownBlock = s.wv.ownBlock ∨ v'.ownBlock = some w.heap.size)
 (hq : BD w (s.rows X) q.2 q.1.vs ∧ q.1.fo = []) : Sq (w'.setCell ⟨X,25,none⟩ v') B X { s with c := { s.c with wt := s.c.wt ++ [q.1] },wv := v',qs := s.qs ++ [q] } ∧ Below B w (w'.setCell ⟨X,25,none⟩ v') := by
 have ht : Turns w (s.rows X) s.wv.ownBlock := fun k hk => .inl (by simp [Sv.rows,hk])
 have hf : Follows w (s.rows X) (({ s with c := { s.c with wt := s.c.wt ++ [q.1] },wv := v',qs := s.qs ++ [q] } : Sv).rw X) := fun k hk => by
  refine .inl ?_
  simp only [Sv.rw,Sv.rows,List.mem_cons,List.not_mem_nil,or_false,Option.some.injEq] at hk ⊢
  rcases hk with e | e | e | e <;> simp [e]
 have hneX : s.wv.ownBlock ≠ some X := blk_ne h.blk h.wv (by decide)
 have hb := h.blk.kept hg (fun e => hneX e.symm)
 have n1 : s.fv.ownBlock ≠ some X := blk_ne h.blk h.fv (by decide)
 have n2 : s.ov.ownBlock ≠ some X := blk_ne h.blk h.ov (by decide)
 have n3 : s.rv.ownBlock ≠ some X := blk_ne h.blk h.rv (by decide)
 have hwi : ∀ q' ∈ s.qs ++ [q],BD w (s.rows X) q'.2 q'.1.vs ∧ q'.1.fo = [] := fun q' hm => by
  rcases List.mem_append.1 hm with h1 | h1
  ·exact h.wi q' h1
  ·rw [List.mem_singleton.1 h1]
   exact hq
 have hfv' := own_none h.fv hg (fun i hi e => rows_ne h.fv h.wv (by decide) i hi e)
 have hov' := own_none h.ov hg (fun i hi e => rows_ne h.ov h.wv (by decide) i hi e)
 have hrv' := own_none h.rv hg (fun i hi e => rows_ne h.rv h.wv (by decide) i hi e)
 have hP : Pt w' B X { s with c := { s.c with wt := s.c.wt ++ [q.1] },wv := v',qs := s.qs ++ [q] } := by
  refine ⟨h.bv.both hg ht hf,hfv',h.ab.both hg ht hf,h.ai.empty,?_,?_,by simp [h.wt],fun q' hm => ⟨(hwi q' hm).1.both hg ht hf,(hwi q' hm).2⟩,hov',fun q hq => ⟨(h.oi q hq).1.both hg ht hf,(h.oi q hq).2.empty⟩,hrv',fun q hq => ⟨(h.ri q hq).1.both hg ht hf,(h.ri q hq).2.both hg ht hf⟩,hb.lt,?_,?_⟩
  ·have hv2 : w'.ownsRow B 46 8 v' (s.qs ++ [q]).length ((s.qs ++ [q]).flatMap wenc) := by simpa [List.flatMap_append] using hv
   refine SR.of_own hv2 (fun u hu => ?_) (own_max hv2)
   obtain ⟨q',hq',hu⟩ := List.mem_flatMap.1 hu
   exact tkc_one q'.1 (hwi q' hq').1 u hu
  ·refine .inr fun k hk hmm => ?_
   simp only [Sv.rw,List.mem_cons,List.not_mem_nil,or_false,Option.some.injEq] at hmm
   rcases hmm with e | e | e | e
   ·subst e
    exact blk_ne hb hv (by decide) hk
   ·exact rows_ne hv hfv' (by decide) k hk e.symm
   ·exact rows_ne hv hov' (by decide) k hk e.symm
   ·exact rows_ne hv hrv' (by decide) k hk e.symm
  ·intro a n c e
   rcases hv.2 with ⟨e1,e2⟩ | ⟨g,cap,cur,e1,_,_,hc,_⟩
   ·omega
   ·simp only at e
    rw [e1] at e
    injection e with _ e2 e3
    omega
  ·rcases hv.2 with ⟨_,e2⟩ | ⟨g,cap,cur,e1,hb,_⟩
   ·omega
   ·exact .inr ⟨g,by simp only; rw [e1]; rfl,hb⟩
 have hg2 := set1 w' ⟨X,25,none⟩ v'
 have hBl : Below B w w' := (Below.refl B w).grown hg (Nat.le_trans h.own (Nat.le_of_lt h.blk.lt)) (fun k hk => (h.wv.lt k hk).1)
 exact ⟨⟨hb.setAt (j := 25) v',h.own,hP.turnX hg2 n1 n2 n3⟩,hBl.grown hg2 (Nat.le_trans h.own (Nat.le_of_lt hb.lt)) (fun k hk => by cases hk; exact h.own)⟩
/-- the error of a task -/
def chkP (t : Tk) : Int := if t.kd = 3 ∨ t.kd = 4 then (if t.fi = 0 then 5 else if t.la < t.fi then 13 else 0) else if t.kd = 5 ∨ t.kd = 6 then (if t.ha = 0 then 5 else 0) else if t.kd = 7 ∨ t.kd = 8 then (if t.ha = 0 then 5 else if 512 < t.vs.length then 4 else 0) else 0
/-- the fields of a task's kind -/
def ownP (t : Tk) : Tk := if t.kd = 3 ∨ t.kd = 4 then { tk0 with kd := t.kd,fi := t.fi,la := t.la } else if t.kd = 5 ∨ t.kd = 6 then { tk0 with kd := t.kd,ha := t.ha } else if t.kd = 7 ∨ t.kd = 8 then { tk0 with kd := t.kd,ha := t.ha,vs := t.vs } else { tk0 with kd := t.kd }
def startP (c : Cl) (t : Tk) (now : Int) : Sp × Int :=
 if c.dead = true then (⟨c,now,[],[]⟩,9)
 else if ¬ (1 ≤ t.kd ∧ t.kd ≤ 9) then (⟨c,now,[],[]⟩,12)
 else if ¬ chkP t = 0 then (⟨c,now,[],[]⟩,chkP t)
 else if ¬ c.busy = true then ((⟨c,now,[],[]⟩ : Sp).begin (ownP t),0)
 else if 8 ≤ c.wt.length then (⟨c,now,[],[]⟩,8)
 else (⟨{ c with wt := c.wt ++ [ownP t] },now,[],[]⟩,0)
theorem stT_f (k : Int) (b2 b9 : Nat) {c0 c1 c2 : Value} (h : ((stT b2 b9).lookup k).getD stZ = .agg #[c0,c1,c2]) (hk : k = 1 ∨ k = 2 ∨ k = 9) : c0 = fnV 63 ∧ c1 = fnV 64 ∧ ((stT b2 b9).lookup k).isSome = true := by
 rcases hk with rfl | rfl | rfl <;>
 ·simp only [stT,List.lookup,Option.getD,Int.reduceBEq] at h
  injection h with h
  injection h with h
  injection h with h0 h
  injection h with h1 h
  exact ⟨h0.symm,h1.symm,rfl⟩
theorem stT_r (k : Int) (b2 b9 : Nat) {c0 c1 c2 : Value} (h : ((stT b2 b9).lookup k).getD stZ = .agg #[c0,c1,c2]) (hk : k = 3 ∨ k = 4) : c0 = fnV 66 ∧ c1 = fnV 67 ∧ ((stT b2 b9).lookup k).isSome = true := by
 rcases hk with rfl | rfl <;>
 ·simp only [stT,List.lookup,Option.getD,Int.reduceBEq] at h
  injection h with h
  injection h with h
  injection h with h0 h
  injection h with h1 h
  exact ⟨h0.symm,h1.symm,rfl⟩
theorem stT_h (k : Int) (b2 b9 : Nat) {c0 c1 c2 : Value} (h : ((stT b2 b9).lookup k).getD stZ = .agg #[c0,c1,c2]) (hk : k = 5 ∨ k = 6) : c0 = fnV 68 ∧ c1 = fnV 69 ∧ ((stT b2 b9).lookup k).isSome = true := by
 rcases hk with rfl | rfl <;>
 ·simp only [stT,List.lookup,Option.getD,Int.reduceBEq] at h
  injection h with h
  injection h with h
  injection h with h0 h
  injection h with h1 h
  exact ⟨h0.symm,h1.symm,rfl⟩
theorem stT_s (k : Int) (b2 b9 : Nat) {c0 c1 c2 : Value} (h : ((stT b2 b9).lookup k).getD stZ = .agg #[c0,c1,c2]) (hk : k = 7 ∨ k = 8) : c0 = fnV 71 ∧ c1 = fnV 72 ∧ ((stT b2 b9).lookup k).isSome = true := by
 rcases hk with rfl | rfl <;>
 ·simp only [stT,List.lookup,Option.getD,Int.reduceBEq] at h
  injection h with h
  injection h with h
  injection h with h0 h
  injection h with h1 h
  exact ⟨h0.symm,h1.symm,rfl⟩
theorem BD.new0 {w : World} {v : Value} {bs : List Nat} {R : List (Option Nat)} {n : Nat} (h : BV w v bs) (ho : bs.length = 0 ∨ Own n v) (hR : ∀ k,some k ∈ R → k < n) : BD w R v bs := ⟨h,ho.imp id fun h1 => apart_new h1 hR⟩
/-- the functions of a task's kind: its check, and what it keeps -/
theorem cls_any (t : Tk) (ta fa : Option Addr) (TL tc FN fc : Nat) (hk : 1 ≤ t.kd ∧ t.kd ≤ 9) (hm : t.vs.length ≤ 1000000) (hL : t.vs.length = TL) (hkd : (Lit.int .i64 t.kd).wf = true) {b2 b9 : Nat} {c0 c1 c2 : Value} (hlk : ((stT b2 b9).lookup t.kd).getD stZ = .agg #[c0,c1,c2]) :
 ∃ f0 f1 : Nat,c0 = fnV f0 ∧ c1 = fnV f1 ∧ ((stT b2 b9).lookup t.kd).isSome = true ∧ (∀ args W,(callFunc f0 args).run Tryz.prog W = .ok (.enter f0 args) W) ∧ (∀ args W,(callFunc f1 args).run Tryz.prog W = .ok (.enter f1 args) W) ∧
   (∀ W,Calls Tryz.prog f0 #[.agg #[.int .i64 t.kd,.int .u16 t.fi,.int .u16 t.la,.int .u16 t.ha,.slice ta TL tc,.int .i64 t.of,.slice fa FN fc,.bool t.bad]] W fun e w' => e = .returned (.int .i64 (chkP t)) ∧ Below W.heap.size W w') ∧
   (∀ W,BV W (.slice ta TL tc) t.vs → Calls Tryz.prog f1 #[.agg #[.int .i64 t.kd,.int .u16 t.fi,.int .u16 t.la,.int .u16 t.ha,.slice ta TL tc,.int .i64 t.of,.slice fa FN fc,.bool t.bad]] W fun e w' => ∃ ov,e = .returned (.agg #[.int .i64 (ownP t).kd,.int .u16 (ownP t).fi,.int .u16 (ownP t).la,.int .u16 (ownP t).ha,ov,.int .i64 (ownP t).of,.slice none 0 0,.bool (ownP t).bad]) ∧ BV w' ov (ownP t).vs ∧ ((ownP t).vs.length = 0 ∨ Own W.heap.size ov) ∧ Below W.heap.size W w') ∧ TkOk (ownP t) := by
 subst hL
 rcases (show (t.kd = 1 ∨ t.kd = 2 ∨ t.kd = 9) ∨ (t.kd = 3 ∨ t.kd = 4) ∨ (t.kd = 5 ∨ t.kd = 6) ∨ (t.kd = 7 ∨ t.kd = 8) by omega) with hk | hk | hk | hk
 ·obtain ⟨rfl,rfl,hs⟩ := stT_f t.kd b2 b9 hlk hk
  have ec : chkP t = 0 := by unfold chkP; rw [if_neg (by omega),if_neg (by omega),if_neg (by omega)]
  have eo : ownP t = { tk0 with kd := t.kd } := by unfold ownP; rw [if_neg (by omega),if_neg (by omega),if_neg (by omega)]
  rw [ec,eo]
  exact ⟨_,_,rfl,rfl,hs,fun args W => enters_of Tryz.func63 (by kernel_rfl) rfl args W,fun args W => enters_of Tryz.func64 (by kernel_rfl) rfl args W,fun W => fine_any t.kd t.fi t.la t.ha (.slice ta t.vs.length tc) t.of (.slice fa FN fc) t.bad W,fun W hb => (bare_any t.kd t.fi t.la t.ha (.slice ta t.vs.length tc) t.of (.slice fa FN fc) t.bad W).mono fun e w' h => ⟨.slice none 0 0,h.1,BV.nil w',.inl rfl,h.2⟩,⟨rfl,rfl,Nat.zero_le _,hkd⟩⟩
 ·obtain ⟨rfl,rfl,hs⟩ := stT_r t.kd b2 b9 hlk hk
  have ec : chkP t = (if t.fi = 0 then 5 else if t.la < t.fi then 13 else 0) := by unfold chkP; rw [if_pos (by omega)]
  have eo : ownP t = { tk0 with kd := t.kd,fi := t.fi,la := t.la } := by unfold ownP; rw [if_pos (by omega)]
  rw [ec,eo]
  exact ⟨_,_,rfl,rfl,hs,fun args W => enters_of Tryz.func66 (by kernel_rfl) rfl args W,fun args W => enters_of Tryz.func67 (by kernel_rfl) rfl args W,fun W => (ranged_any t.kd t.fi t.la t.ha (.slice ta t.vs.length tc) t.of (.slice fa FN fc) t.bad W).mono fun e w' h => ⟨by rw [h.1]; congr 2; repeat' (first | omega | split),h.2⟩,fun W hb => (bounds_any t.kd t.fi t.la t.ha (.slice ta t.vs.length tc) t.of (.slice fa FN fc) t.bad W).mono fun e w' h => ⟨.slice none 0 0,h.1,BV.nil w',.inl rfl,h.2⟩,⟨rfl,rfl,Nat.zero_le _,hkd⟩⟩
 ·obtain ⟨rfl,rfl,hs⟩ := stT_h t.kd b2 b9 hlk hk
  have ec : chkP t = (if t.ha = 0 then 5 else 0) := by unfold chkP; rw [if_neg (by omega),if_pos (by omega)]
  have eo : ownP t = { tk0 with kd := t.kd,ha := t.ha } := by unfold ownP; rw [if_neg (by omega),if_pos (by omega)]
  rw [ec,eo]
  exact ⟨_,_,rfl,rfl,hs,fun args W => enters_of Tryz.func68 (by kernel_rfl) rfl args W,fun args W => enters_of Tryz.func69 (by kernel_rfl) rfl args W,fun W => (handled_any t.kd t.fi t.la t.ha (.slice ta t.vs.length tc) t.of (.slice fa FN fc) t.bad W).mono fun e w' h => ⟨by rw [h.1]; congr 2; repeat' (first | omega | split),h.2⟩,fun W hb => (handle_any t.kd t.fi t.la t.ha (.slice ta t.vs.length tc) t.of (.slice fa FN fc) t.bad W).mono fun e w' h => ⟨.slice none 0 0,h.1,BV.nil w',.inl rfl,h.2⟩,⟨rfl,rfl,Nat.zero_le _,hkd⟩⟩
 ·obtain ⟨rfl,rfl,hs⟩ := stT_s t.kd b2 b9 hlk hk
  have ec : chkP t = (if t.ha = 0 then 5 else if 512 < t.vs.length then 4 else 0) := by unfold chkP; rw [if_neg (by omega),if_neg (by omega),if_pos (by omega)]
  have eo : ownP t = { tk0 with kd := t.kd,ha := t.ha,vs := t.vs } := by unfold ownP; rw [if_neg (by omega),if_neg (by omega),if_pos (by omega)]
  rw [ec,eo]
  exact ⟨_,_,rfl,rfl,hs,fun args W => enters_of Tryz.func71 (by kernel_rfl) rfl args W,fun args W => enters_of Tryz.func72 (by kernel_rfl) rfl args W,fun W => (short_task t.kd t.fi t.la t.ha ta t.vs.length tc t.of (.slice fa FN fc) t.bad W).mono fun e w' h => ⟨by rw [h.1]; congr 2; repeat' (first | omega | split),h.2⟩,fun W hb => (valued_any t.kd t.fi t.la t.ha (.slice ta t.vs.length tc) t.of (.slice fa FN fc) t.bad t.vs W hb hm).mono fun e w' ⟨vv,h1,h2,h3,h4⟩ => ⟨vv,h1,h2,.inr h3,h4⟩,⟨rfl,rfl,hm,hkd⟩⟩
theorem start_any (c : Cl) (v : Value) (t : Tk) (tb tf : Value) (now : Int) (w : World) (hv : ClV w v c) (hc : ClOk c) (hb : BV w tb t.vs) (hf : ∃ fa FN fc,tf = .slice fa FN fc) (hm : t.vs.length ≤ 1000000) (hkd : (Lit.int .i64 t.kd).wf = true) :
 Calls Tryz.prog 20 #[v,.agg #[.int .i64 t.kd,.int .u16 t.fi,.int .u16 t.la,.int .u16 t.ha,tb,.int .i64 t.of,tf,.bool t.bad],.int .i64 now] w fun e w' => ∃ v' o,e = .returned (.tuple #[v',o,.int .i64 (startP c t now).2]) ∧ ClVo w.heap.size w' v' (startP c t now).1.c ∧ PsVo w.heap.size w' o (startP c t now).1.ps ∧ Below w.heap.size w w' := by
 obtain ⟨i0,hi0,hz0,hz1,hz2⟩ := info_parts Tryz.info_Task
 have HV := Lib.hid hv
 obtain ⟨bv,fv,ab,ai,wv,rfl⟩ := hv.agg
 obtain ⟨ta,tc,rfl⟩ := hb.form
 obtain ⟨fa,FN,fc,rfl⟩ := hf
 obtain ⟨TL,hTL⟩ : ∃ L,t.vs.length = L := ⟨_,rfl⟩
 rw [hTL] at hb ⊢
 have HL := Lib.hid hTL
 have HM := Lib.hid hm
 have HKD := Lib.hid hkd
 clear hTL hm hkd
 have bC0 := ((Blk.new w 52 [.int .i64 c.mt,.int .i64 c.mx,.int .i64 c.tk.kd,.int .u16 c.tk.fi,.int .u16 c.tk.la,.int .u16 c.tk.ha,bv,.int .i64 c.tk.of,fv,.bool c.tk.bad,.int .i64 c.ad.kd,.int .i64 c.ad.ask,.int .u16 c.ad.ha,.int .u16 c.ad.la,.int .u64 c.ad.hi,.int .u64 c.ad.lo,.int .i64 c.ad.of,.int .i64 c.ad.mt,.int .i64 c.ad.co,.bool c.ad.cm,ab,ai,.bool c.busy,.int .i64 c.since,.bool c.dead,wv]).alloc (.cells #[.int .i64 t.kd,.int .u16 t.fi,.int .u16 t.la,.int .u16 t.ha,.slice ta TL tc,.int .i64 t.of,.slice fa FN fc,.bool t.bad] 46)).alloc (.cells #[.int .i64 0,.int .i64 0,.int .i64 0,.int .u16 0,.int .u16 0,.int .u16 0,.slice none 0 0,.int .i64 0,.slice none 0 0,.bool false,.int .i64 0,.int .i64 0,.int .u16 0,.int .u16 0,.int .u64 0,.int .u64 0,.int .i64 0,.int .i64 0,.int .i64 0,.bool false,.slice none 0 0,.slice none 0 0,.bool false,.int .i64 0,.bool false,.slice none 0 0] 52)
 have bT0 := (Blk.new (w.alloc (.cells #[.int .i64 c.mt,.int .i64 c.mx,.int .i64 c.tk.kd,.int .u16 c.tk.fi,.int .u16 c.tk.la,.int .u16 c.tk.ha,bv,.int .i64 c.tk.of,fv,.bool c.tk.bad,.int .i64 c.ad.kd,.int .i64 c.ad.ask,.int .u16 c.ad.ha,.int .u16 c.ad.la,.int .u64 c.ad.hi,.int .u64 c.ad.lo,.int .i64 c.ad.of,.int .i64 c.ad.mt,.int .i64 c.ad.co,.bool c.ad.cm,ab,ai,.bool c.busy,.int .i64 c.since,.bool c.dead,wv] 52)) 46 [.int .i64 t.kd,.int .u16 t.fi,.int .u16 t.la,.int .u16 t.ha,.slice ta TL tc,.int .i64 t.of,.slice fa FN fc,.bool t.bad]).alloc (.cells #[.int .i64 0,.int .i64 0,.int .i64 0,.int .u16 0,.int .u16 0,.int .u16 0,.slice none 0 0,.int .i64 0,.slice none 0 0,.bool false,.int .i64 0,.int .i64 0,.int .u16 0,.int .u16 0,.int .u64 0,.int .u64 0,.int .i64 0,.int .i64 0,.int .i64 0,.bool false,.slice none 0 0,.slice none 0 0,.bool false,.int .i64 0,.bool false,.slice none 0 0] 52)
 have bR0 := Blk.new ((w.alloc (.cells #[.int .i64 c.mt,.int .i64 c.mx,.int .i64 c.tk.kd,.int .u16 c.tk.fi,.int .u16 c.tk.la,.int .u16 c.tk.ha,bv,.int .i64 c.tk.of,fv,.bool c.tk.bad,.int .i64 c.ad.kd,.int .i64 c.ad.ask,.int .u16 c.ad.ha,.int .u16 c.ad.la,.int .u64 c.ad.hi,.int .u64 c.ad.lo,.int .i64 c.ad.of,.int .i64 c.ad.mt,.int .i64 c.ad.co,.bool c.ad.cm,ab,ai,.bool c.busy,.int .i64 c.since,.bool c.dead,wv] 52)).alloc (.cells #[.int .i64 t.kd,.int .u16 t.fi,.int .u16 t.la,.int .u16 t.ha,.slice ta TL tc,.int .i64 t.of,.slice fa FN fc,.bool t.bad] 46)) 52 czl
 have hz0' : (w.alloc (.cells #[.int .i64 c.mt,.int .i64 c.mx,.int .i64 c.tk.kd,.int .u16 c.tk.fi,.int .u16 c.tk.la,.int .u16 c.tk.ha,bv,.int .i64 c.tk.of,fv,.bool c.tk.bad,.int .i64 c.ad.kd,.int .i64 c.ad.ask,.int .u16 c.ad.ha,.int .u16 c.ad.la,.int .u64 c.ad.hi,.int .u64 c.ad.lo,.int .i64 c.ad.of,.int .i64 c.ad.mt,.int .i64 c.ad.co,.bool c.ad.cm,ab,ai,.bool c.busy,.int .i64 c.since,.bool c.dead,wv] 52)).heap.size = w.heap.size + 1 := by simp
 have hz1' : ((w.alloc (.cells #[.int .i64 c.mt,.int .i64 c.mx,.int .i64 c.tk.kd,.int .u16 c.tk.fi,.int .u16 c.tk.la,.int .u16 c.tk.ha,bv,.int .i64 c.tk.of,fv,.bool c.tk.bad,.int .i64 c.ad.kd,.int .i64 c.ad.ask,.int .u16 c.ad.ha,.int .u16 c.ad.la,.int .u64 c.ad.hi,.int .u64 c.ad.lo,.int .i64 c.ad.of,.int .i64 c.ad.mt,.int .i64 c.ad.co,.bool c.ad.cm,ab,ai,.bool c.busy,.int .i64 c.since,.bool c.dead,wv] 52)).alloc (.cells #[.int .i64 t.kd,.int .u16 t.fi,.int .u16 t.la,.int .u16 t.ha,.slice ta TL tc,.int .i64 t.of,.slice fa FN fc,.bool t.bad] 46)).heap.size = w.heap.size + 2 := by simp
 have hB0 : Below w.heap.size w (((w.alloc (.cells #[.int .i64 c.mt,.int .i64 c.mx,.int .i64 c.tk.kd,.int .u16 c.tk.fi,.int .u16 c.tk.la,.int .u16 c.tk.ha,bv,.int .i64 c.tk.of,fv,.bool c.tk.bad,.int .i64 c.ad.kd,.int .i64 c.ad.ask,.int .u16 c.ad.ha,.int .u16 c.ad.la,.int .u64 c.ad.hi,.int .u64 c.ad.lo,.int .i64 c.ad.of,.int .i64 c.ad.mt,.int .i64 c.ad.co,.bool c.ad.cm,ab,ai,.bool c.busy,.int .i64 c.since,.bool c.dead,wv] 52)).alloc (.cells #[.int .i64 t.kd,.int .u16 t.fi,.int .u16 t.la,.int .u16 t.ha,.slice ta TL tc,.int .i64 t.of,.slice fa FN fc,.bool t.bad] 46)).alloc (.cells #[.int .i64 0,.int .i64 0,.int .i64 0,.int .u16 0,.int .u16 0,.int .u16 0,.slice none 0 0,.int .i64 0,.slice none 0 0,.bool false,.int .i64 0,.int .i64 0,.int .u16 0,.int .u16 0,.int .u64 0,.int .u64 0,.int .i64 0,.int .i64 0,.int .i64 0,.bool false,.slice none 0 0,.slice none 0 0,.bool false,.int .i64 0,.bool false,.slice none 0 0] 52)) := (((Below.refl _ _).alloc (Nat.le_refl _) _).alloc (by simp) _).alloc (by simp; omega) _
 rw [hz0'] at bT0
 rw [hz1'] at bR0
 unfold czl at bR0
 clear hv hz0' hz1'
 go_enter Tryz.func20,Tryz.ntmps20
 go_upto_region 1 with fail
 generalize hX : World.alloc (World.alloc (World.alloc w _) _) _ = V at bC0 bT0 bR0 hB0 ⊢
 clear hX
 have hV := HV.out.below hB0
 have hbt : V.heap[w.heap.size]? = some (.cells #[.int .i64 c.mt,.int .i64 c.mx,.int .i64 c.tk.kd,.int .u16 c.tk.fi,.int .u16 c.tk.la,.int .u16 c.tk.ha,bv,.int .i64 c.tk.of,fv,.bool c.tk.bad,.int .i64 c.ad.kd,.int .i64 c.ad.ask,.int .u16 c.ad.ha,.int .u16 c.ad.la,.int .u64 c.ad.hi,.int .u64 c.ad.lo,.int .i64 c.ad.of,.int .i64 c.ad.mt,.int .i64 c.ad.co,.bool c.ad.cm,ab,ai,.bool c.busy,.int .i64 c.since,.bool c.dead,wv] 52 (0,0)) := bC0
 have hsz := bR0.lt
 go_wp2_with (refine wpList_load_row rfl 52 _ rfl w.heap.size rfl 52 _ (0,0) _ hbt Tryz.underlying52 rfl (by kernel_rfl) ?_)
 refine (of_clv hV hc now).mono ?_
 rintro e w1 ⟨X,s,rfl,hSd,e1,e2,e3,e4,hB1⟩
 have H1 := hSd.q hc e1
 have bR1 : Blk w1 (w.heap.size + 2) 52 czl := bR0.below hB1
 have bT1 := bT0.below hB1
 have hl1 : Below w.heap.size w w1 := hB0.trans (hB1.mono hB0.size)
 have hrb : w.heap.size + 2 < V.heap.size := hsz
 have hXl := H1.blk.lt
 have hXo := H1.own
 have HE1 := Lib.hid e1
 have HE2 := Lib.hid (And.intro e2 (And.intro e3 e4))
 have HSP : Hid (s.sp = ⟨c,now,[],[]⟩) := Lib.hid (by unfold Sv.sp; rw [e1,e2,e3,e4]; rfl)
 have hp1 : s.ps.length ≤ 1000 := by rw [e3]; simp
 obtain ⟨QN,hQN⟩ : ∃ n,s.qs.length = n := ⟨_,rfl⟩
 have hQW : c.wt.length = QN := by rw [← hQN,← e1,← hSd.wt]; simp
 obtain ⟨wa,wc,hwv⟩ := own_form hSd.wv
 rw [hQN] at hwv
 have HQS := Lib.hid hQN
 have HQN := Lib.hid hQW
 have HWV := Lib.hid hwv
 have HBT := Lib.hid (show ∀ W,Below w.heap.size w W → BV W (.slice ta TL tc) t.vs from fun W hW => hb.below hW)
 clear hbt bC0 bT0 bR0 hV hB1 hsz hB0 e2 e3 e4 hb hQN hQW
 go_upto_region 2 with fail
 go_cut [10,11] (fun v4 v5 wx => ∃ (bs : Nat) (c0 c1 c2 : Value) (ok : Bool) (b2 b9 : Nat),v4 = .pointer (some ⟨bs,0,none⟩) ∧ v5 = .bool ok ∧ ok = ((stT b2 b9).lookup t.kd).isSome ∧ ((stT b2 b9).lookup t.kd).getD stZ = .agg #[c0,c1,c2] ∧ Blk wx bs 98 [c0,c1,c2] ∧ St4 wx b2 b9 ∧ Below w1.heap.size w1 wx)
 case first =>
  have BX := bT1.cells
  have TB := BX.drew
  have hBA : Below w1.heap.size w1 w1.drew := (Below.refl _ _).drew
  clear H1 bT1 bR1 hSd e1 hwv
  refine wp_region_held_drew (S := (fun W' : World => Cells W' (blk (w.heap.size + 1) 0 0 [.int .i64 t.kd,.int .u16 t.fi,.int .u16 t.la,.int .u16 t.ha,.slice ta TL tc,.int .i64 t.of,.slice fa FN fc,.bool t.bad]))) (by kernel_rfl) (TB) (fun hHeld => ?_)
  generalize World.drew _ = wd at hHeld TB hBA ⊢
  repeat' first
   |refine tkU 1 ?_
   |refine tkU 2 ?_
   |refine tkU 4 ?_
   |refine tkU 5 ?_
   |refine tkU 6 ?_
   |refine tkU 9 ?_
   |(refine opn 0 fun K hK => ?_
     go_simp
     go_at_call 32
     refine (steps_any _).mono ?_
     rintro e w2 ⟨Bm,b2,b9,rfl,hst,hBm,hB2,hg2,hg9⟩
     obtain ⟨c0,c1,c2,hlk,o0,o1,o2⟩ := stT_form t.kd b2 b9
     have hlook := hst.map.look t.kd HKD.out
     rw [hlk] at hlook
     have h4 := hst.four
     have hlt4 := h4.lts
     have hBA := hBA.trans (hB2.mono (by have := hBA.size; omega))
     have TB : Cells _ (blk (w.heap.size + 1) 0 0 [.int .i64 t.kd,.int .u16 t.fi,.int .u16 t.la,.int .u16 t.ha,.slice ta TL tc,.int .i64 t.of,.slice fa FN fc,.bool t.bad]) := BX.keep hBA
     try have bSl := bS.lt
     try have bS := bS.below hB2
     clear hBm hB2
     refine hK.out _ _ (TB) (fun h => ?_)
     replace hHeld := h
     clear hK K h
     try simp only [Act.put,List.setIfInBounds_toArray,List.set_cons_zero,List.set_cons_succ])
   |(refine opn 3 fun K hK => ?_
     go_simp
     clear hlook
     refine hK.out _ _ (hHeld) (fun h => ?_)
     replace hHeld := h
     clear hK K h
     try simp only [Act.put,List.setIfInBounds_toArray,List.set_cons_zero,List.set_cons_succ])
   |(refine opn 7 fun K hK => ?_
     go_simp
     generalize hX : World.alloc _ (.cells _ 98) = w5
     obtain ⟨bS,hB5,hz5⟩ := alloc_named hX
     have bS : Blk w5 _ 98 [.nilFunc,.nilFunc,.nilFunc] := bS
     have hbA := hBA.size
     have hBA := hBA.trans (hB5.mono (by have := hBA.size; omega))
     have TB : Cells _ (blk (w.heap.size + 1) 0 0 [.int .i64 t.kd,.int .u16 t.fi,.int .u16 t.la,.int .u16 t.ha,.slice ta TL tc,.int .i64 t.of,.slice fa FN fc,.bool t.bad]) := BX.keep hBA
     have hz5 := Nat.le_of_eq hz5.symm
     try have hst := hst.below hB5
     try have h4 := h4.below hB5
     try have hlook := hst.map.look t.kd HKD.out
     try rw [hlk] at hlook
     clear hX hB5
     refine hK.out _ _ (TB) (fun h => ?_)
     replace hHeld := h
     clear hK K h
     try simp only [Act.put,List.setIfInBounds_toArray,List.set_cons_zero,List.set_cons_succ])
   |(refine opn 8 fun K hK => ?_
     refine step_store_mid (by rfl) 98 _ _ (by rfl) _ 0 #[c0,c1,c2] (by rfl) (by rfl) (bS.there 0 3 (by simp)) (by kernel_rfl) (by simp [o0,o1,o2]) ?_
     generalize hX : World.setCells _ _ 0 _ = w6
     obtain ⟨bS2,hgS⟩ := bS.put3 hX
     have h4 := h4.grown hgS (by omega)
     have hBA := hBA.grown hgS hBA.size (fun k hk => by cases hk; omega)
     have TB : Cells _ (blk (w.heap.size + 1) 0 0 [.int .i64 t.kd,.int .u16 t.fi,.int .u16 t.la,.int .u16 t.ha,.slice ta TL tc,.int .i64 t.of,.slice fa FN fc,.bool t.bad]) := BX.keep hBA
     clear hX hgS bS
     refine hK.out _ _ (TB) (fun h => ?_)
     replace hHeld := h
     clear hK K h
     try simp only [Act.put,List.setIfInBounds_toArray,List.set_cons_zero,List.set_cons_succ])
   |refine rd2 0 7 ?_ ?_
   |refine rd2 3 7 ?_ ?_
   |refine rd1 7 ?_
   |refine rd1 8 ?_
   |refine rd1 3 ?_
   |refine rd1 0 ?_
   |(refine wpAnyH_done (by kernel_rfl) ?_ _
     go_wp2_with fail
     go_meet
     exact ⟨_,c0,c1,c2,_,b2,b9,rfl,rfl,rfl,hlk,bS2,h4,hBA⟩)
 case rest =>
  obtain ⟨bs,c0,c1,c2,ok,b2,b9,rfl,rfl,hokv,hlk,bS,h4,hBA⟩ := hcut
  rename World => w2
  have H2 := H1.below hBA
  have HSd := hSd.below hBA
  have bR2 := bR1.below hBA
  have bT2 := bT1.below hBA
  have hl2 := hl1.trans (hBA.mono hl1.size)
  have x24 := H2.blk.cell (j := 24) (v := .bool s.c.dead) rfl
  have x22 := H2.blk.cell (j := 22) (v := .bool s.c.busy) rfl
  have x25 := H2.blk.cell (j := 25) (v := s.wv) rfl
  rw [e1] at x24 x22
  rw [hwv] at x25
  clear H1 hSd bR1 bT1 hl1 hBA e1 hwv
  rcases Bool.eq_false_or_eq_true c.dead with hd | hd
  ·rw [hd] at x24
   have HD := Lib.hid hd
   clear hd hlk hokv
   have hth := bR2.there 0 26 (by simp [czl])
   go_wp2_with (first | (refine wpList_load_mid rfl 52 _ rfl X 0 rfl (clc s.c s.bv s.fv s.ab s.ai s.wv) _ H2.range Tryz.underlying52 rfl (by kernel_rfl) ?_) | (refine wpList_store_mid rfl 52 _ _ rfl (w.heap.size + 2) 0 (clc s.c s.bv s.fv s.ab s.ai s.wv).toArray rfl rfl hth (by kernel_rfl) H2.one ?_; simp only [Act.put]))
   have hgR := setCells_grown (w.heap.size + 2) (clc s.c s.bv s.fv s.ab s.ai s.wv) 0 w2
   have bRR : Blk (w2.setCells (w.heap.size + 2) 0 (clc s.c s.bv s.fv s.ab s.ai s.wv)) (w.heap.size + 2) 52 (clc s.c s.bv s.fv s.ab s.ai s.wv) := bR2.putC s.c s.bv s.fv s.ab s.ai s.wv
   have hl := run_loadVar_row (P := Tryz.prog) _ (w.heap.size + 2) 52 52 _ (0,0) _ bRR Tryz.underlying52 rfl (by kernel_rfl)
   have HE := H2.endo2 (B' := w.heap.size) (by omega) bR2 hrb hgR
   have hst : startP c t now = (⟨c,now,[],[]⟩,9) := by unfold startP; rw [if_pos HD.out]
   refine bodyPost_ret (v := .tuple #[.agg (clc s.c s.bv s.fv s.ab s.ai s.wv).toArray,.slice none 0 0,.int .i64 9]) (by rw [results_cell_tmp2 rfl]; simp [asAddr,hl]) rfl ⟨_,_,by rw [hst],?_,?_,hl2.grown hgR hl2.size (fun k hk => by cases hk; omega)⟩
   ·rw [hst]
    show ClVo _ _ _ c
    rw [← HE1.out]
    exact HE.1
   ·rw [hst]
    exact PsVo.nil _ _
  ·rw [hd] at x24
   have HD := Lib.hid (show ¬ c.dead = true by rw [hd]; simp)
   clear hd
   by_cases hk9 : 1 ≤ t.kd ∧ t.kd ≤ 9
   ·obtain ⟨f0,f1,rfl,rfl,hsome,hE0,hE1,hck,how,hoo⟩ := cls_any t ta fa TL tc FN fc hk9 HM.out HL.out HKD.out hlk
    obtain rfl : ok = true := by rw [hokv,hsome]
    unfold fnV at bS
    have s0 := bS.cell (j := 0) rfl
    have s1 := bS.cell (j := 1) rfl
    obtain ⟨E,hEE⟩ : ∃ E,chkP t = E := ⟨_,rfl⟩
    obtain ⟨O,hO⟩ : ∃ O,ownP t = O := ⟨_,rfl⟩
    rw [hEE] at hck
    rw [hO] at how hoo
    have HCK := Lib.hid hck
    have HOW := Lib.hid how
    have HOO := Lib.hid hoo
    have HEE := Lib.hid hEE
    have HO := Lib.hid hO
    have HK9 := Lib.hid hk9
    clear hlk hokv hsome hck how hoo hEE hO hk9 h4
    have y0 := bT2.cell (j := 0) (v := .int .i64 t.kd) rfl
    have y1 := bT2.cell (j := 1) (v := .int .u16 t.fi) rfl
    have y2 := bT2.cell (j := 2) (v := .int .u16 t.la) rfl
    have y3 := bT2.cell (j := 3) (v := .int .u16 t.ha) rfl
    have y4 := bT2.cell (j := 4) (v := .slice ta TL tc) rfl
    have y5 := bT2.cell (j := 5) (v := .int .i64 t.of) rfl
    have y6 := bT2.cell (j := 6) (v := .slice fa FN fc) rfl
    have y7 := bT2.cell (j := 7) (v := .bool t.bad) rfl
    go_wp2_with fail
    clear y0 y1 y2 y3 y4 y5 y6 y7
    refine (HCK.out _).mono ?_
    rintro e w3 ⟨rfl,hB3⟩
    clear x24
    have H3 := H2.below hB3
    have HSd3 := HSd.below hB3
    have bR2 := bR2.below hB3
    have bT3 := bT2.below hB3
    have hl3 := hl2.trans (hB3.mono hl2.size)
    have s1 := kc s1 hB3
    have bS := bS.below hB3
    have x22 := kc x22 hB3
    have x25 := kc x25 hB3
    have y0 := bT3.cell (j := 0) (v := .int .i64 t.kd) rfl
    have y1 := bT3.cell (j := 1) (v := .int .u16 t.fi) rfl
    have y2 := bT3.cell (j := 2) (v := .int .u16 t.la) rfl
    have y3 := bT3.cell (j := 3) (v := .int .u16 t.ha) rfl
    have y4 := bT3.cell (j := 4) (v := .slice ta TL tc) rfl
    have y5 := bT3.cell (j := 5) (v := .int .i64 t.of) rfl
    have y6 := bT3.cell (j := 6) (v := .slice fa FN fc) rfl
    have y7 := bT3.cell (j := 7) (v := .bool t.bad) rfl
    clear s0 hB3 HSd H2 bT2 hl2 hE0
    by_cases e0 : E = 0
    ·have t0 : (E != 0) = false := by simp [e0]
     have HEZ := Lib.hid (HEE.out.trans e0)
     clear e0
     rcases Bool.eq_false_or_eq_true c.busy with hbz | hbz
     ·rw [hbz] at x22
      have HBU := Lib.hid (show ¬ ¬ c.busy = true by rw [hbz]; simp)
      clear hbz
      by_cases h8 : 8 ≤ QN
      ·have t8 : decide (8 ≤ QN) = true := by simpa using h8
       have t8' : decide ((8 : Int) ≤ (QN : Int)) = true := by simp; omega
       have H8 := Lib.hid h8
       clear h8 y0 y1 y2 y3 y4 y5 y6 y7 s1 hE1
       have hth := bR2.there 0 26 (by simp [czl])
       go_wp2_with (first | (refine wpList_load_mid rfl 52 _ rfl X 0 rfl (clc s.c s.bv s.fv s.ab s.ai s.wv) _ H3.range Tryz.underlying52 rfl (by kernel_rfl) ?_) | (refine wpList_store_mid rfl 52 _ _ rfl (w.heap.size + 2) 0 (clc s.c s.bv s.fv s.ab s.ai s.wv).toArray rfl rfl hth (by kernel_rfl) H3.one ?_; simp only [Act.put]))
       have hgR := setCells_grown (w.heap.size + 2) (clc s.c s.bv s.fv s.ab s.ai s.wv) 0 w3
       have bRR : Blk (w3.setCells (w.heap.size + 2) 0 (clc s.c s.bv s.fv s.ab s.ai s.wv)) (w.heap.size + 2) 52 (clc s.c s.bv s.fv s.ab s.ai s.wv) := bR2.putC s.c s.bv s.fv s.ab s.ai s.wv
       have hl := run_loadVar_row (P := Tryz.prog) _ (w.heap.size + 2) 52 52 _ (0,0) _ bRR Tryz.underlying52 rfl (by kernel_rfl)
       have HE := H3.endo2 (B' := w.heap.size) (by omega) bR2 hrb hgR
       have hst : startP c t now = (⟨c,now,[],[]⟩,8) := by unfold startP; rw [if_neg HD.out,if_neg (fun h => h HK9.out),if_neg (fun h => h HEZ.out),if_neg HBU.out,if_pos (by rw [HQN.out]; exact H8.out)]
       refine bodyPost_ret (v := .tuple #[.agg (clc s.c s.bv s.fv s.ab s.ai s.wv).toArray,.slice none 0 0,.int .i64 8]) (by rw [results_cell_tmp2 rfl]; simp [asAddr,hl]) rfl ⟨_,_,by rw [hst],?_,?_,hl3.grown hgR hl3.size (fun k hk => by cases hk; omega)⟩
       ·rw [hst]
        show ClVo _ _ _ c
        rw [← HE1.out]
        exact HE.1
       ·rw [hst]
        exact PsVo.nil _ _
      ·have t8 : decide (8 ≤ QN) = false := by simpa using h8
       have t8' : decide ((8 : Int) ≤ (QN : Int)) = false := by simp; omega
       have H8 := Lib.hid (show ¬ 8 ≤ c.wt.length by rw [HQN.out]; exact h8)
       have h8' : QN < 8 := by omega
       clear h8
       go_upto_block 1 with fail
       go_cut [] from 51 to 90 (fun wx => ∃ s2,Sq wx V.heap.size X s2 ∧ (s2.sp = (startP c t now).1 ∧ (startP c t now).2 = 0) ∧ Below V.heap.size w3 wx)
       case first =>
        go_upto_region 10 with fail
        have TB : Cells w3.drew (blk (w.heap.size + 1) 0 0 [.int .i64 t.kd,.int .u16 t.fi,.int .u16 t.la,.int .u16 t.ha,.slice ta TL tc,.int .i64 t.of,.slice fa FN fc,.bool t.bad] ++ [(bs,1,.func (.func f1) #[] #[])]) := (show Cells w3 (blk (w.heap.size + 1) 0 0 [.int .i64 t.kd,.int .u16 t.fi,.int .u16 t.la,.int .u16 t.ha,.slice ta TL tc,.int .i64 t.of,.slice fa FN fc,.bool t.bad] ++ [(bs,1,.func (.func f1) #[] #[])]) from bT3.cells.app ⟨s1,trivial⟩).drew
        have hV3 : V.heap.size ≤ w3.heap.size := Nat.le_trans HSd3.own (Nat.le_of_lt HSd3.blk.lt)
        have HSd4 := HSd3.drew
        have bS := bS.drew
        have hl4 : Below V.heap.size w3 w3.drew := (Below.refl _ _).drew
        have hlw : Below w.heap.size w w3.drew := hl3.drew
        have x25 : w3.drew.cell? ⟨X,25,none⟩ = some (.slice wa QN wc) := x25
        clear y0 y1 y2 y3 y4 y5 y6 y7 s1 x22 H3 HSd3 bR2 bT3 hl3
        refine wp_region_held_drew (S := (fun W' : World => Cells W' (blk (w.heap.size + 1) 0 0 [.int .i64 t.kd,.int .u16 t.fi,.int .u16 t.la,.int .u16 t.ha,.slice ta TL tc,.int .i64 t.of,.slice fa FN fc,.bool t.bad] ++ [(bs,1,.func (.func f1) #[] #[])]))) (by kernel_rfl) (TB) (fun hHeld => ?_)
        generalize World.drew _ = wd at hHeld TB HSd4 hl4 hlw x25 bS ⊢
        repeat' first
         |refine tkU 0 ?_
         |refine tkU 1 ?_
         |refine tkU 2 ?_
         |refine tkU 3 ?_
         |refine tkU 4 ?_
         |refine tkU 6 ?_
         |refine tkU 7 ?_
         |refine tkU 8 ?_
         |refine tkU 12 ?_
         |refine tkU 13 ?_
         |refine tkU 14 ?_
         |(refine opn 5 fun K hK => ?_
           go_simp
           refine hK.out _ _ (hHeld) (fun h => ?_)
           replace hHeld := h
           clear hK K h
           try simp only [Act.put,List.setIfInBounds_toArray,List.set_cons_zero,List.set_cons_succ])
         |(refine opn 9 fun K hK => ?_
           go_simp
           refine (HOW.out _ (HBT.out _ hlw)).mono ?_
           rintro e w4 ⟨ov,rfl,hvv,hov,hB4⟩
           have TB := TB.keep hB4
           have hbd := BD.new0 hvv hov HSd4.lts
           obtain ⟨va,vc,rfl⟩ := hvv.form
           clear hvv hov
           have HSd4 := HSd4.below hB4
           have hl4 := hl4.trans (hB4.mono (by have := hl4.size; omega))
           have hlw := hlw.trans (hB4.mono hlw.size)
           have x25 := kc x25 hB4
           have bS := bS.below hB4
           clear hB4
           refine hK.out _ _ (TB) (fun h => ?_)
           replace hHeld := h
           clear hK K h
           try simp only [Act.put,List.setIfInBounds_toArray,List.set_cons_zero,List.set_cons_succ])
         |(refine opn 10 fun K hK => ?_
           go_simp
           generalize hX : World.alloc _ (.cells _ 46) = w5
           obtain ⟨hnb,hB5,hz5⟩ := alloc_named hX
           have hnews : ∀ (j : Nat) (u : Value),([.int .i64 O.kd,.int .u16 O.fi,.int .u16 O.la,.int .u16 O.ha,.slice va O.vs.length vc,.int .i64 O.of,.slice none 0 0,.bool O.bad] : List Value)[j]? = some u → w5.cell? ((⟨w4.heap.size,0,none⟩ : Addr).add j) = some u := fun j u hj => by
            rw [addr_off,Nat.zero_add]
            exact Blk.cell (W := w5) (B := w4.heap.size) (t := 46) (cs := [.int .i64 O.kd,.int .u16 O.fi,.int .u16 O.la,.int .u16 O.ha,.slice va O.vs.length vc,.int .i64 O.of,.slice none 0 0,.bool O.bad]) hnb hj
           have TB := TB.keep hB5
           have hbd := hbd.below hB5
           have HSd4 := HSd4.below hB5
           have hl4 := hl4.trans (hB5.mono (by have := hl4.size; omega))
           have x25 := kc x25 hB5
           have bS := bS.below hB5
           clear hX hB5 hnb
           refine hK.out _ _ (TB) (fun h => ?_)
           replace hHeld := h
           clear hK K h
           try simp only [Act.put,List.setIfInBounds_toArray,List.set_cons_zero,List.set_cons_succ])
         |(refine opn 11 fun K hK => ?_
           refine step_append_own (by rfl) _ _ 50 (by rfl) V.heap.size 46 i0 _ 8 80 Tryz.underlying50 hi0 hz0 hz1 hz2 rfl (by decide) (.slice wa QN wc) QN (s.qs.flatMap wenc) (by rfl) (by rw [← HWV.out,← HQS.out]; exact HSd4.wv) ⟨w4.heap.size,0,none⟩ 1 1 [.int .i64 O.kd,.int .u16 O.fi,.int .u16 O.la,.int .u16 O.ha,.slice va O.vs.length vc,.int .i64 O.of,.slice none 0 0,.bool O.bad] (by rfl) (by rfl) hnews (by simp [Value.oneCell']) (by unfold maxLen; omega) (by omega) (by have := hl4.size; omega) ?_
           intro v6 w6 hown6 hg6 hor6
           rw [← HWV.out] at hg6 hor6
           have hneX : s.wv.ownBlock ≠ some X := blk_ne HSd4.blk HSd4.wv (by decide)
           have HAPP := Lib.hid (fun W' (e : World.setCell w6 ⟨X,25,none⟩ v6 = W') => e ▸ (HSd4.app_wait (q := (O,.slice va O.vs.length vc)) hg6 (by rw [HQS.out]; exact hown6) hor6 ⟨hbd,HOO.out.fo⟩))
           have x25 : w6.cell? ⟨X,25,none⟩ = some (.slice wa QN wc) := (World.cell?_of_block (a := ⟨X,25,none⟩) (hg6.block X HSd4.blk.lt (fun e => hneX e.symm))).trans x25
           have z25 : w6.frozen? ⟨X,25,none⟩ = false := (HSd4.blk.kept hg6 (fun e => hneX e.symm)).frozen 25
           have TB : Cells w6 (blk (w.heap.size + 1) 0 0 [.int .i64 t.kd,.int .u16 t.fi,.int .u16 t.la,.int .u16 t.ha,.slice ta TL tc,.int .i64 t.of,.slice fa FN fc,.bool t.bad] ++ [(bs,1,.func (.func f1) #[] #[])]) := TB.grownO hg6 (fun x hx e => by
            have h1 := (HSd4.wv.lt _ e).1
            rcases List.mem_append.1 hx with h | h
            ·rw [blk_fst h] at h1; omega
            ·rw [List.mem_singleton.1 h] at e; exact blk_ne bS HSd4.wv (by decide) e)
           have hbX : bs ≠ X := blk_blk bS HSd4.blk (by decide)
           obtain ⟨oa6,oc6,rfl⟩ := own_form hown6
           clear hnews hown6 hg6 hor6 HSd4 hneX hbd bS
           refine hK.out _ _ (TB) (fun h => ?_)
           replace hHeld := h
           clear hK K h
           try simp only [Act.put,List.setIfInBounds_toArray,List.set_cons_zero,List.set_cons_succ])
         |(refine opn 15 fun K hK => ?_
           go_simp
           generalize hX : World.setCell w6 _ _ = w7
           obtain ⟨H7,hl7⟩ := HAPP.out w7 hX
           have TB : Cells w7 (blk (w.heap.size + 1) 0 0 [.int .i64 t.kd,.int .u16 t.fi,.int .u16 t.la,.int .u16 t.ha,.slice ta TL tc,.int .i64 t.of,.slice fa FN fc,.bool t.bad] ++ [(bs,1,.func (.func f1) #[] #[])]) := hX ▸ TB.setCell _ (fun x hx => by
            rcases List.mem_append.1 hx with h | h
            ·rw [blk_fst h]; show w.heap.size + 1 ≠ X; omega
            ·rw [List.mem_singleton.1 h]; exact hbX)
           clear HAPP x25 z25 hX
           refine hK.out _ _ (TB) (fun h => ?_)
           replace hHeld := h
           clear hK K h
           try simp only [Act.put,List.setIfInBounds_toArray,List.set_cons_zero,List.set_cons_succ])
         |refine rd2 5 9 ?_ ?_
         |refine rd1 9 ?_
         |refine rd1 10 ?_
         |refine rd1 11 ?_
         |refine rd1 15 ?_
         |refine rd2 5 10 ?_ ?_
         |refine rd1 5 ?_
         |(refine wpAnyH_done (by kernel_rfl) ?_ _
           go_wp2_with fail
           go_meet
           have hst : startP c t now = (⟨{ c with wt := c.wt ++ [ownP t] },now,[],[]⟩,0) := by unfold startP; rw [if_neg HD.out,if_neg (fun h => h HK9.out),if_neg (fun h => h HEZ.out),if_neg HBU.out,if_neg H8.out]
           exact ⟨_,H7,by (
            rw [hst]
            refine ⟨?_,rfl⟩
            show (⟨{ s.c with wt := s.c.wt ++ [O] },s.now,s.ps.map (fun q : Pd × Value × Value => q.1),s.us.map (fun q : Rs × Value × Value => q.1)⟩ : Sp) = _
            rw [HE1.out,HE2.out.1,HE2.out.2.1,HE2.out.2.2,HO.out]
            rfl),hl4.trans hl7⟩)
       case rest =>
        obtain ⟨s2,H8s,hst2,hl8⟩ := hcut
        rename World => w8
        have BRW : Blk w8 (w.heap.size + 2) 52 czl := (hl8.block _ hrb).trans bR2
        have low8 := hl3.trans (hl8.mono (by omega))
        have HST := Lib.hid hst2
        clear hst2 bR2 hl3 hl8 y0 y1 y2 y3 y4 y5 y6 y7 s1 x22 x25 H3 HSd3 bT3 bS hE1
        obtain ⟨oa,oc,hov⟩ := own_form H8s.pt.ov
        have x27 := H8s.blk.cell (j := 27) (v := s2.ov) rfl
        rw [hov] at x27
        have TE : Cells w8.drew [(X,27,.slice oa s2.ps.length oc)] := ⟨x27,trivial⟩
        have H6 := H8s.drew
        have bRd := BRW.drew
        have hld := low8.drew
        have HOV := Lib.hid hov
        clear hov x27
        go_upto_region 15 with fail
        refine wp_region_held_drew (S := (fun W' : World => Cells W' [(X,27,.slice oa s2.ps.length oc)])) (by kernel_rfl) (TE) (fun hHeld => ?_)
        generalize World.drew _ = wd at hHeld TE H6 bRd hld ⊢
        refine tkU 0 ?_
        refine tkU 1 ?_
        refine tkU 2 ?_
        refine tkU 4 ?_
        refine tkU 5 ?_
        refine tkU 6 ?_
        refine tkU 7 ?_
        refine rd1 3 fun K hK => ?_
        refine step_load_mid (by rfl) 52 _ (by rfl) X 0 (by rfl) (clc s2.c s2.bv s2.fv s2.ab s2.ai s2.wv) _ H6.range Tryz.underlying52 rfl (by kernel_rfl) ?_
        clear hHeld
        refine hK.out _ _ (TE) (fun hHeld => ?_)
        clear hK K
        try simp only [Act.put,List.setIfInBounds_toArray,List.set_cons_zero,List.set_cons_succ]
        refine rd1 8 fun K hK => ?_
        refine step_store_mid (by rfl) 52 _ _ (by rfl) (w.heap.size + 2) 0 (clc s2.c s2.bv s2.fv s2.ab s2.ai s2.wv).toArray (by rfl) (by rfl) (bRd.there 0 26 (by simp [czl])) (by kernel_rfl) H6.one ?_
        generalize hX : World.setCells wd (w.heap.size + 2) 0 _ = w9
        have bR9 : Blk w9 (w.heap.size + 2) 52 (clc s2.c s2.bv s2.fv s2.ab s2.ai s2.wv) := hX ▸ bRd.putC s2.c s2.bv s2.fv s2.ab s2.ai s2.wv
        have hg9 : wd.grownBy w9 (some (w.heap.size + 2)) := hX ▸ setCells_grown (w.heap.size + 2) (clc s2.c s2.bv s2.fv s2.ab s2.ai s2.wv) 0 wd
        have TE9 : Cells w9 [(X,27,.slice oa s2.ps.length oc)] := TE.grown hg9 (by simp; omega)
        have HE9 := H6.endo2 (B' := w.heap.size) (by omega) bRd hrb hg9
        clear hX
        clear hHeld
        refine hK.out _ _ (TE9) (fun hHeld => ?_)
        clear hK K
        try simp only [Act.put,List.setIfInBounds_toArray,List.set_cons_zero,List.set_cons_succ]
        refine tkU 9 ?_
        refine tkU 10 ?_
        refine wpAnyH_done (by kernel_rfl) ?_ _
        go_wp2_with fail
        have hl := run_loadVar_row (P := Tryz.prog) _ (w.heap.size + 2) 52 52 _ (0,0) _ bR9 Tryz.underlying52 rfl (by kernel_rfl)
        refine bodyPost_ret (v := .tuple #[.agg (clc s2.c s2.bv s2.fv s2.ab s2.ai s2.wv).toArray,.slice oa s2.ps.length oc,.int .i64 0]) (by rw [results_cell_tmp2 rfl]; simp [asAddr,hl]) rfl ⟨_,_,by rw [show (startP c t now).2 = 0 from HST.out.2],?_,?_,hld.grown hg9 hld.size (fun k hk => by cases hk; omega)⟩
        ·rw [show (startP c t now).1.c = s2.c from congrArg Sp.c HST.out.1.symm]
         exact HE9.1
        ·rw [← HOV.out,show (startP c t now).1.ps = s2.ps.map (·.1) from congrArg Sp.ps HST.out.1.symm]
         exact HE9.2.1
     ·rw [hbz] at x22
      have HBU := Lib.hid (show ¬ c.busy = true by rw [hbz]; simp)
      clear hbz
      go_wp2_with fail
      refine (HOW.out _ (HBT.out _ hl3)).mono ?_
      rintro e w4 ⟨ov,rfl,hvv,hov,hB4⟩
      have hbd := BD.new0 hvv hov H3.lts
      obtain ⟨va,vc,rfl⟩ := hvv.form
      clear hvv hov
      have H4 := H3.below hB4
      have bR4 := bR2.below hB4
      have hl4 := hl3.trans (hB4.mono hl3.size)
      clear y0 y1 y2 y3 y4 y5 y6 y7 s1 x22 x25 H3 HSd3 bT3 bS bR2 hl3 hB4 hE1
      go_wp2_with fail
      refine (begin_any O (.slice va O.vs.length vc) w4 V.heap.size X s H4 hbd HOO.out hp1).mono ?_
      rintro e w5 ⟨rfl,s2,H5,hs5,hl5⟩
      have hst : startP c t now = ((⟨c,now,[],[]⟩ : Sp).begin (ownP t),0) := by unfold startP; rw [if_neg HD.out,if_neg (fun h => h HK9.out),if_neg (fun h => h HEZ.out),if_pos HBU.out]
      have BRW : Blk w5 (w.heap.size + 2) 52 czl := (hl5.block _ hrb).trans bR4
      have low8 := hl4.trans (hl5.mono (by omega))
      have HST : Hid (s2.sp = (startP c t now).1 ∧ (startP c t now).2 = 0) := Lib.hid (by rw [hst,hs5,HSP.out,HO.out]; exact ⟨rfl,rfl⟩)
      clear hst hs5 bR4 hl4 hl5 H4 hbd
      obtain ⟨oa,oc,hov⟩ := own_form H5.pt.ov
      have x27 := H5.blk.cell (j := 27) (v := s2.ov) rfl
      rw [hov] at x27
      have TE : Cells w5.drew [(X,27,.slice oa s2.ps.length oc)] := ⟨x27,trivial⟩
      have H6 := H5.drew
      have bRd := BRW.drew
      have hld := low8.drew
      have HOV := Lib.hid hov
      clear hov x27
      go_upto_region 15 with fail
      refine wp_region_held_drew (S := (fun W' : World => Cells W' [(X,27,.slice oa s2.ps.length oc)])) (by kernel_rfl) (TE) (fun hHeld => ?_)
      generalize World.drew _ = wd at hHeld TE H6 bRd hld ⊢
      refine tkU 0 ?_
      refine tkU 1 ?_
      refine tkU 2 ?_
      refine tkU 4 ?_
      refine tkU 5 ?_
      refine tkU 6 ?_
      refine tkU 7 ?_
      refine rd1 3 fun K hK => ?_
      refine step_load_mid (by rfl) 52 _ (by rfl) X 0 (by rfl) (clc s2.c s2.bv s2.fv s2.ab s2.ai s2.wv) _ H6.range Tryz.underlying52 rfl (by kernel_rfl) ?_
      clear hHeld
      refine hK.out _ _ (TE) (fun hHeld => ?_)
      clear hK K
      try simp only [Act.put,List.setIfInBounds_toArray,List.set_cons_zero,List.set_cons_succ]
      refine rd1 8 fun K hK => ?_
      refine step_store_mid (by rfl) 52 _ _ (by rfl) (w.heap.size + 2) 0 (clc s2.c s2.bv s2.fv s2.ab s2.ai s2.wv).toArray (by rfl) (by rfl) (bRd.there 0 26 (by simp [czl])) (by kernel_rfl) H6.one ?_
      generalize hX : World.setCells wd (w.heap.size + 2) 0 _ = w9
      have bR9 : Blk w9 (w.heap.size + 2) 52 (clc s2.c s2.bv s2.fv s2.ab s2.ai s2.wv) := hX ▸ bRd.putC s2.c s2.bv s2.fv s2.ab s2.ai s2.wv
      have hg9 : wd.grownBy w9 (some (w.heap.size + 2)) := hX ▸ setCells_grown (w.heap.size + 2) (clc s2.c s2.bv s2.fv s2.ab s2.ai s2.wv) 0 wd
      have TE9 : Cells w9 [(X,27,.slice oa s2.ps.length oc)] := TE.grown hg9 (by simp; omega)
      have HE9 := H6.endo2 (B' := w.heap.size) (by omega) bRd hrb hg9
      clear hX
      clear hHeld
      refine hK.out _ _ (TE9) (fun hHeld => ?_)
      clear hK K
      try simp only [Act.put,List.setIfInBounds_toArray,List.set_cons_zero,List.set_cons_succ]
      refine tkU 9 ?_
      refine tkU 10 ?_
      refine wpAnyH_done (by kernel_rfl) ?_ _
      go_wp2_with fail
      have hl := run_loadVar_row (P := Tryz.prog) _ (w.heap.size + 2) 52 52 _ (0,0) _ bR9 Tryz.underlying52 rfl (by kernel_rfl)
      refine bodyPost_ret (v := .tuple #[.agg (clc s2.c s2.bv s2.fv s2.ab s2.ai s2.wv).toArray,.slice oa s2.ps.length oc,.int .i64 0]) (by rw [results_cell_tmp2 rfl]; simp [asAddr,hl]) rfl ⟨_,_,by rw [show (startP c t now).2 = 0 from HST.out.2],?_,?_,hld.grown hg9 hld.size (fun k hk => by cases hk; omega)⟩
      ·rw [show (startP c t now).1.c = s2.c from congrArg Sp.c HST.out.1.symm]
       exact HE9.1
      ·rw [← HOV.out,show (startP c t now).1.ps = s2.ps.map (·.1) from congrArg Sp.ps HST.out.1.symm]
       exact HE9.2.1
    ·have t0 : (E != 0) = true := by simp [e0]
     have HEZ := Lib.hid (show ¬ chkP t = 0 by rw [HEE.out]; exact e0)
     clear e0 y0 y1 y2 y3 y4 y5 y6 y7 s1 hE1
     have hth := bR2.there 0 26 (by simp [czl])
     go_wp2_with (first | (refine wpList_load_mid rfl 52 _ rfl X 0 rfl (clc s.c s.bv s.fv s.ab s.ai s.wv) _ H3.range Tryz.underlying52 rfl (by kernel_rfl) ?_) | (refine wpList_store_mid rfl 52 _ _ rfl (w.heap.size + 2) 0 (clc s.c s.bv s.fv s.ab s.ai s.wv).toArray rfl rfl hth (by kernel_rfl) H3.one ?_; simp only [Act.put]))
     have hgR := setCells_grown (w.heap.size + 2) (clc s.c s.bv s.fv s.ab s.ai s.wv) 0 w3
     have bRR : Blk (w3.setCells (w.heap.size + 2) 0 (clc s.c s.bv s.fv s.ab s.ai s.wv)) (w.heap.size + 2) 52 (clc s.c s.bv s.fv s.ab s.ai s.wv) := bR2.putC s.c s.bv s.fv s.ab s.ai s.wv
     have hl := run_loadVar_row (P := Tryz.prog) _ (w.heap.size + 2) 52 52 _ (0,0) _ bRR Tryz.underlying52 rfl (by kernel_rfl)
     have HE := H3.endo2 (B' := w.heap.size) (by omega) bR2 hrb hgR
     have hst : startP c t now = (⟨c,now,[],[]⟩,E) := by unfold startP; rw [if_neg HD.out,if_neg (fun h => h HK9.out),if_pos HEZ.out,HEE.out]
     refine bodyPost_ret (v := .tuple #[.agg (clc s.c s.bv s.fv s.ab s.ai s.wv).toArray,.slice none 0 0,.int .i64 E]) (by rw [results_cell_tmp2 rfl]; simp [asAddr,hl]) rfl ⟨_,_,by rw [hst],?_,?_,hl3.grown hgR hl3.size (fun k hk => by cases hk; omega)⟩
     ·rw [hst]
      show ClVo _ _ _ c
      rw [← HE1.out]
      exact HE.1
     ·rw [hst]
      exact PsVo.nil _ _
   ·have hok : ok = false := by rw [hokv,stT_other _ _ _ hk9]; rfl
    subst hok
    have HK9 := Lib.hid hk9
    clear hk9 hlk hokv
    have hth := bR2.there 0 26 (by simp [czl])
    go_wp2_with (first | (refine wpList_load_mid rfl 52 _ rfl X 0 rfl (clc s.c s.bv s.fv s.ab s.ai s.wv) _ H2.range Tryz.underlying52 rfl (by kernel_rfl) ?_) | (refine wpList_store_mid rfl 52 _ _ rfl (w.heap.size + 2) 0 (clc s.c s.bv s.fv s.ab s.ai s.wv).toArray rfl rfl hth (by kernel_rfl) H2.one ?_; simp only [Act.put]))
    have hgR := setCells_grown (w.heap.size + 2) (clc s.c s.bv s.fv s.ab s.ai s.wv) 0 w2
    have bRR : Blk (w2.setCells (w.heap.size + 2) 0 (clc s.c s.bv s.fv s.ab s.ai s.wv)) (w.heap.size + 2) 52 (clc s.c s.bv s.fv s.ab s.ai s.wv) := bR2.putC s.c s.bv s.fv s.ab s.ai s.wv
    have hl := run_loadVar_row (P := Tryz.prog) _ (w.heap.size + 2) 52 52 _ (0,0) _ bRR Tryz.underlying52 rfl (by kernel_rfl)
    have HE := H2.endo2 (B' := w.heap.size) (by omega) bR2 hrb hgR
    have hst : startP c t now = (⟨c,now,[],[]⟩,12) := by unfold startP; rw [if_neg HD.out,if_pos HK9.out]
    refine bodyPost_ret (v := .tuple #[.agg (clc s.c s.bv s.fv s.ab s.ai s.wv).toArray,.slice none 0 0,.int .i64 12]) (by rw [results_cell_tmp2 rfl]; simp [asAddr,hl]) rfl ⟨_,_,by rw [hst],?_,?_,hl2.grown hgR hl2.size (fun k hk => by cases hk; omega)⟩
    ·rw [hst]
     show ClVo _ _ _ c
     rw [← HE1.out]
     exact HE.1
    ·rw [hst]
     exact PsVo.nil _ _
end Go.Proofs.YtldcihjddebciaaGreat
