/- client: close, end and what ends a task. And what follows it. -/
import Derived.Test.YtldcihjddebciaaGreatDClP
set_option linter.unusedSimpArgs false
set_option linter.unusedVariables false
set_option maxRecDepth 100000
set_option maxHeartbeats 4000000
namespace Go.Proofs.YtldcihjddebciaaGreat
open Go.RowKit
/-- x.Waiting[1:] -/
theorem sr_tail {w : World} {a : Option Addr} {n c : Nat} {cs : List Value} (h : SR w (.slice a (n + 1) c) (n + 1) 8 cs) (hc : n + 1 ≤ c) : ∃ a',SR w (.slice a' n (c - 1)) n 8 (cs.drop 8) ∧ (∀ W,(Instr.slice 50 (.slice a (n + 1) c) (some (.int .i64 1)) none none).run Tryz.prog W = .ok (.slice a' n (c - 1)) W) ∧
 ∀ k,(Value.slice a' n (c - 1)).ownBlock = some k → (Value.slice a (n + 1) c).ownBlock = some k := by
 obtain ⟨h1,h2,h3,ao,cap,e,hnil,hcell⟩ := h
 cases e
 obtain ⟨b,off,rfl,hb,hcs⟩ := hcell (by omega)
 have ha : ∀ x : Addr,∀ k : Nat,x.block = (x.add k).block := fun x k => by unfold Addr.add; split <;> rfl
 refine ⟨if c = 1 then some ⟨b,off,none⟩ else some ⟨b,off + 8,none⟩,⟨by omega,by simp [h2]; omega,fun u hu => h3 u (List.mem_of_mem_drop hu),_,_,rfl,?_,fun h0 => ?_⟩,fun W => ?_,?_⟩
 ·intro e
  split at e <;> cases e
 ·rw [if_neg (by omega)]
  refine ⟨b,off + 8,rfl,hb,fun j u hj => ?_⟩
  rw [List.getElem?_drop] at hj
  rw [Nat.add_assoc]
  exact hcs (8 + j) u hj
 ·have hu : Tryz.prog.underlying 50 = some (.slice (Tryz.prog.elem 50)) := by kernel_rfl
  rw [run_slice_l (ht := hu) (kl := .i64) (l := 1) (h0 := by omega) (h1 := by omega)]
  have hs : (sizeOf (Tryz.prog.elem 50)).run Tryz.prog W = .ok 8 W := by kernel_rfl
  rw [hs]
  simp [Result.andThen,sliced,addr_off]
 ·intro k hk
  split at hk <;> simpa [Value.ownBlock] using hk
theorem close_any (w : World) (B X : Nat) (s : Sv) (h : Sq w B X s) (hw : ∀ t ∈ s.c.wt,TkOk t) (hps : s.ps.length ≤ 1000) :
 Calls Tryz.prog 79 #[.pointer (some ⟨X,0,none⟩)] w fun e w' => e = .returned (.tuple #[]) ∧ ∃ s',Sq w' B X s' ∧ s'.sp = s.sp.close ∧ Below B w w' := by
 have hXw := h.blk.lt
 have hBX := h.own
 have m22 := h.blk.cell (j := 22) (v := .bool s.c.busy) rfl
 have z22 := h.blk.frozen 22
 obtain ⟨H1,l1⟩ := h.put_busy false
 have hth1 := H1.blk.there 2 8 (by simp [Sv.cells])
 obtain ⟨H2,l2⟩ := H1.put_tk tk0 (BD.nil _ _) rfl
 have hth2 := H2.blk.there 10 12 (by simp [Sv.cells])
 obtain ⟨H3,l3⟩ := H2.put_ad pd0 (BD.nil _ _) (SR.nil _ _)
 have HTH : Hid (∀ w2,(w.setCell ⟨X,22,none⟩ (.bool false)).setCells X 2 [.int .i64 0,.int .u16 0,.int .u16 0,.int .u16 0,.slice none 0 0,.int .i64 0,.slice none 0 0,.bool false] = w2 → w2.there X 10 12) := Lib.hid (fun w2 e => e ▸ hth2)
 have HALL : Hid (∀ w2 w3,(w.setCell ⟨X,22,none⟩ (.bool false)).setCells X 2 [.int .i64 0,.int .u16 0,.int .u16 0,.int .u16 0,.slice none 0 0,.int .i64 0,.slice none 0 0,.bool false] = w2 → w2.setCells X 10 [.int .i64 0,.int .i64 0,.int .u16 0,.int .u16 0,.int .u64 0,.int .u64 0,.int .i64 0,.int .i64 0,.int .i64 0,.bool false,.slice none 0 0,.slice none 0 0] = w3 → Sq w3 B X { s with c := { s.c with busy := false,tk := tk0,ad := pd0 },bv := .slice none 0 0,fv := .slice none 0 0,ab := .slice none 0 0,ai := .slice none 0 0 } ∧ Below B w w3) := Lib.hid (fun w2 w3 e2 e3 => by
  subst e2
  subst e3
  exact ⟨H3,(l1.trans l2).trans l3⟩)
 clear H1 H2 H3 l1 l2 l3 hth2
 go_enter Tryz.func79,Tryz.ntmps79
 go_upto_region 1 with (first | (refine wpList_store_mid rfl 46 _ _ rfl X 2 #[.int .i64 0,.int .u16 0,.int .u16 0,.int .u16 0,.slice none 0 0,.int .i64 0,.slice none 0 0,.bool false] rfl rfl hth1 (by kernel_rfl) (by simp [Value.oneCell']) ?_; simp only [Act.put]; generalize hW2 : World.setCells _ X 2 _ = w2; have hth2 := HTH.out w2 hW2; have HW2 := Lib.hid hW2; clear hW2) | (refine wpList_store_mid rfl 49 _ _ rfl X 10 #[.int .i64 0,.int .i64 0,.int .u16 0,.int .u16 0,.int .u64 0,.int .u64 0,.int .i64 0,.int .i64 0,.int .i64 0,.bool false,.slice none 0 0,.slice none 0 0] rfl rfl hth2 (by kernel_rfl) (by simp [Value.oneCell']) ?_; simp only [Act.put]))
 generalize hW : World.setCells _ X 10 _ = w3
 obtain ⟨H3,hlow⟩ := HALL.out _ _ HW2.out hW
 clear hW hth1 hth2 m22 z22 HALL HTH HW2
 obtain ⟨s3,hs3⟩ : ∃ s3 : Sv,{ s with c := { s.c with busy := false,tk := tk0,ad := pd0 },bv := .slice none 0 0,fv := .slice none 0 0,ab := .slice none 0 0,ai := .slice none 0 0 } = s3 := ⟨_,rfl⟩
 have H3 : Sq w3 B X s3 := by rw [← hs3]; exact H3
 have hp3 : s3.ps.length ≤ 1000 := by rw [← hs3]; exact hps
 have hw3 : ∀ t ∈ s3.c.wt,TkOk t := by rw [← hs3]; exact hw
 have HS := Lib.hid hs3
 clear hs3 h hw hps
 have m25 := H3.blk.cell (j := 25) (v := s3.wv) rfl
 have z25 := H3.blk.frozen 25
 obtain ⟨wa,wc,hwv⟩ := H3.pt.wv.form
 rw [hwv] at m25
 cases hq : s3.qs with
 |nil =>
  rw [hq] at m25
  simp only [List.length_nil] at m25
  go_wp2_with fail
  refine bodyPost_end (results_none rfl _ _ _) rfl ⟨rfl,s3,H3,?_,hlow⟩
  have e1 : s3.c.wt = [] := by rw [← H3.pt.wt,hq]; rfl
  have e2 : s.c.wt = [] := by rw [← HS.out] at e1; exact e1
  rw [← HS.out]
  simp [Sp.close,Sv.sp,e2]
 |cons q l =>
  obtain ⟨tq,vq⟩ := q
  have hwr := H3.pt.wv
  have hwa := H3.pt.wa
  have hwi := H3.pt.wi
  have hwt := H3.pt.wt
  have hwl := H3.pt.wl _ _ _ hwv
  rw [hwv,hq] at hwr hwa
  rw [hq] at hwi hwt hwl m25
  simp only [List.length_cons] at hwr hwa hwl m25
  obtain ⟨n,hn⟩ : ∃ n,l.length = n := ⟨_,rfl⟩
  rw [hn] at hwr hwa hwl m25
  obtain ⟨a',htl,hsl,hob⟩ := sr_tail hwr hwl
  have HWL := Lib.hid hwl
  obtain ⟨_,_,_,ao,cap,e,_,hcell⟩ := hwr
  cases e
  obtain ⟨b,off,rfl,hb,hcs⟩ := hcell (by omega)
  obtain ⟨hqb,hqf⟩ := hwi (tq,vq) (by simp)
  simp only at hqb hqf
  obtain ⟨va,vc,rfl⟩ := hqb.1.form
  obtain ⟨M,hM⟩ : ∃ M,tq.vs.length = M := ⟨_,rfl⟩
  rw [hM] at hqb
  have hra : w3.rangeAt b off [.int .i64 tq.kd,.int .u16 tq.fi,.int .u16 tq.la,.int .u16 tq.ha,.slice va M vc,.int .i64 tq.of,.slice none 0 0,.bool tq.bad] := fun j v hv => hcs j v (by
   have hj : j < 8 := by
    have h := (List.getElem?_eq_some_iff.1 hv).1
    simpa using h
   rw [List.flatMap_cons,List.getElem?_append_left (by simpa [wenc,tkc] using hj)]
   simp only [wenc,hM]
   exact hv)
  have f0 := hra 0 _ rfl
  have f1 := hra 1 _ rfl
  have f2 := hra 2 _ rfl
  have f3 := hra 3 _ rfl
  have f4 := hra 4 _ rfl
  have f5 := hra 5 _ rfl
  have f6 := hra 6 _ rfl
  have f7 := hra 7 _ rfl
  simp only [Nat.add_zero] at f0
  have hT : TkOk tq := hw3 tq (by rw [← hwt]; simp)
  have g1 : decide (0 < n + 1) = true := by simp
  have i1 : (0 : Int) < ((n + 1 : Nat) : Int) := by omega
  obtain ⟨N,hN⟩ : ∃ N,n + 1 = N := ⟨_,rfl⟩
  rw [hN] at hsl m25 g1 i1
  have hwv' : s3.wv = .slice (some ⟨b,off,none⟩) N wc := by rw [hwv,hq,List.length_cons,hn,hN]
  have HWV := Lib.hid hwv'
  have HT := Lib.hid hT
  have HX := Lib.hid (And.intro H3 (And.intro hlow (And.intro hp3 hwt)))
  have HQ := Lib.hid hqb
  have HQS := Lib.hid hq
  have HTLL := Lib.hid (And.intro htl (And.intro hwa (And.intro hob hwi)))
  have HN := Lib.hid hn
  have HM := Lib.hid hM
  clear hcs hcell hwa hwi hwt htl hob hra hwl hqb hT hw3 H3 hlow hn hq hp3 hM hwv hwv'
  go_upto_region 3 with fail
  generalize hX : World.alloc w3 _ = w4
  obtain ⟨hnb,hB4,hz4⟩ := alloc_named hX
  have bT : Blk w4 w3.heap.size 46 [.int .i64 tq.kd,.int .u16 tq.fi,.int .u16 tq.la,.int .u16 tq.ha,.slice va M vc,.int .i64 tq.of,.slice none 0 0,.bool tq.bad] := hnb
  clear hX hnb hz4 f0 f1 f2 f3 f4 f5 f6 f7 m25 z25
  have H4 := HX.out.1.below hB4
  have m25 := H4.blk.cell (j := 25) (v := s3.wv) rfl
  have z25 := H4.blk.frozen 25
  have hQ4 := HQ.out.below hB4
  have hlow4 := HX.out.2.1.trans (hB4.mono (by have := HX.out.1.blk.lt; omega))
  rw [HWV.out] at m25
  have H5 := H4.put_wt (wv := .slice a' n (wc - 1)) (qs := l) (by rw [HN.out]; simpa [List.flatMap_cons,wenc,tkc] using HTLL.out.1.below hB4) (by
   rcases HTLL.out.2.1 with h0 | h0
   ·omega
   ·exact .inr fun k hk => h0 k (HTLL.out.2.2.1 k hk)) (fun q hm => ⟨((HTLL.out.2.2.2 q (by simp [hm])).1).below hB4,(HTLL.out.2.2.2 q (by simp [hm])).2⟩) (fun a n' c e => by injection e with _ e1 e2; have := HWL.out; omega) (by
   rcases HTLL.out.1.lies with h0 | ⟨b1,h1,_⟩
   ·exact .inl (by rw [HN.out]; exact h0)
   ·rcases HX.out.1.pt.wb with h2 | ⟨k2,h2,h3⟩
    ·rw [HQS.out] at h2
     simp at h2
    ·have h4 := HTLL.out.2.2.1 b1 h1
     rw [HWV.out] at h2
     simp only [Value.ownBlock,Option.some.injEq] at h2 h4
     exact .inr ⟨b1,h1,by omega⟩)
  have bT5 := bT.kept (set1 w4 ⟨X,25,none⟩ (.slice a' n (wc - 1))) (fun e => by injection e with e; have := HX.out.1.blk.lt; simp only at e; omega)
  have hQ5 : BD (w4.setCell ⟨X,25,none⟩ (.slice a' n (wc - 1))) (s3.rw X) (.slice va M vc) tq.vs := hQ4.both (set1 w4 ⟨X,25,none⟩ (.slice a' n (wc - 1))) turns_x (follows_refl _ _)
  go_upto_region 4 with fail
  generalize hW : World.setCell w4 _ _ = w5 at H5 bT5 hQ5 ⊢
  clear hW m25 z25
  obtain ⟨H5,hl5⟩ := H5
  have TB := bT5.cells
  have hOpen := TB
  simp only [Cells,blk,List.cons_append,List.nil_append,and_true,Nat.reduceAdd,Nat.add_zero,Nat.zero_add] at hOpen
  obtain ⟨q0,q1,q2,q3,q4,q5,q6,q7⟩ := hOpen
  go_wp2_with fail
  refine (begin_any tq (.slice va M vc) _ B X _ H5 hQ5 HT.out HX.out.2.2.1).mono ?_
  rintro e w6 ⟨rfl,s6,H6,hs6,hl6⟩
  go_wp2_with fail
  refine bodyPost_end (results_none rfl _ _ _) rfl ⟨rfl,s6,H6,?_,(hlow4.trans hl5).trans hl6⟩
  have e1 : s3.c.wt = tq :: l.map (·.1) := by rw [← HX.out.2.2.2]; rfl
  have e2 : s.c.wt = tq :: l.map (·.1) := by rw [← HS.out] at e1; exact e1
  rw [hs6,← HS.out]
  simp [Sp.close,Sv.sp,e2]
theorem end_any (r : Rs) (bv fv : Value) (w : World) (B X : Nat) (s : Sv) (h : Sq w B X s) (hw : ∀ t ∈ s.c.wt,TkOk t) (hps : s.ps.length ≤ 1000) (hus : s.us.length ≤ 1000) (hp : BD w (s.rw X) bv r.vs) (hf : FD w (s.rw X) fv r.fo) :
 Calls Tryz.prog 81 #[.pointer (some ⟨X,0,none⟩),.agg #[.int .i64 r.kd,.int .i64 r.tk,.int .u16 r.ha,bv,fv,.int .i64 r.co]] w fun e w' => e = .returned (.tuple #[]) ∧ ∃ s',Sq w' B X s' ∧ s'.sp = s.sp.endd r ∧ Below B w w' := by
 have hBw := Nat.le_trans h.own (Nat.le_of_lt h.blk.lt)
 obtain ⟨a,c,rfl⟩ := hp.1.form
 obtain ⟨fa,fc,rfl⟩ := hf.1.form
 obtain ⟨L,hL⟩ : ∃ L,r.vs.length = L := ⟨_,rfl⟩
 obtain ⟨N,hN⟩ : ∃ L,r.fo.length = L := ⟨_,rfl⟩
 rw [hL] at hp ⊢
 rw [hN] at hf ⊢
 have HL := Lib.hid hL
 have HN := Lib.hid hN
 clear hL hN
 by_cases hz : r.ha = 0
 ·have HZ := Lib.hid hz
  have bR0 := Blk.new w 43 [.int .i64 r.kd,.int .i64 r.tk,.int .u16 s.c.tk.ha,.slice a L c,.slice fa N fc,.int .i64 r.co]
  have hB0 : Below w.heap.size w (w.alloc (.cells #[.int .i64 r.kd,.int .i64 r.tk,.int .u16 s.c.tk.ha,.slice a L c,.slice fa N fc,.int .i64 r.co] 43)) := (Below.refl _ _).alloc (Nat.le_refl _) _
  have H0 := h.below hB0
  have hP0 := hp.below hB0
  have hF0 := hf.below hB0
  have g0 : ((r.ha : Int) == 0) = true := by simp [hz]
  have m5 := H0.blk.cell (j := 5) (v := .int .u16 s.c.tk.ha) rfl
  have y5 : ∀ x,World.cell? (w.alloc x) ⟨X,5,none⟩ = some (.int .u16 s.c.tk.ha) := fun x => kc (h.blk.cell (j := 5) (v := .int .u16 s.c.tk.ha) rfl) ((Below.refl _ _).alloc (Nat.le_refl _) _)
  go_enter Tryz.func81,Tryz.ntmps81
  go_wp2_with fail
  refine (report_any { r with ha := s.c.tk.ha } (.slice a L c) (.slice fa N fc) _ B X s H0 hP0 hF0 hus).mono ?_
  rintro e w1 ⟨rfl,s1,H1,hs1,hl1⟩
  have e1 : s1.c = s.c := by have h := congrArg Sp.c hs1; exact h
  have e2 : s1.ps.length = s.ps.length := by have h := congrArg (List.length ∘ Sp.ps) hs1; simpa [Sv.sp,Sp.report] using h
  go_wp2_with fail
  refine (close_any w1 B X s1 H1 (by rw [e1]; exact hw) (by rw [e2]; exact hps)).mono ?_
  rintro e w2 ⟨rfl,s2,H2,hs2,hl2⟩
  go_wp2_with fail
  refine bodyPost_end (results_none rfl _ _ _) rfl ⟨rfl,s2,H2,?_,((hB0.mono hBw).trans hl1).trans hl2⟩
  rw [hs2,hs1]
  simp [Sp.endd,hz,Sv.sp]
 ·have HZ := Lib.hid hz
  have bR0 := Blk.new w 43 [.int .i64 r.kd,.int .i64 r.tk,.int .u16 r.ha,.slice a L c,.slice fa N fc,.int .i64 r.co]
  have hB0 : Below w.heap.size w (w.alloc (.cells #[.int .i64 r.kd,.int .i64 r.tk,.int .u16 r.ha,.slice a L c,.slice fa N fc,.int .i64 r.co] 43)) := (Below.refl _ _).alloc (Nat.le_refl _) _
  have H0 := h.below hB0
  have hP0 := hp.below hB0
  have hF0 := hf.below hB0
  have g0 : ((r.ha : Int) == 0) = false := by simp; omega
  go_enter Tryz.func81,Tryz.ntmps81
  go_wp2_with fail
  refine (report_any r (.slice a L c) (.slice fa N fc) _ B X s H0 hP0 hF0 hus).mono ?_
  rintro e w1 ⟨rfl,s1,H1,hs1,hl1⟩
  have e1 : s1.c = s.c := by have h := congrArg Sp.c hs1; exact h
  have e2 : s1.ps.length = s.ps.length := by have h := congrArg (List.length ∘ Sp.ps) hs1; simpa [Sv.sp,Sp.report] using h
  go_wp2_with fail
  refine (close_any w1 B X s1 H1 (by rw [e1]; exact hw) (by rw [e2]; exact hps)).mono ?_
  rintro e w2 ⟨rfl,s2,H2,hs2,hl2⟩
  go_wp2_with fail
  refine bodyPost_end (results_none rfl _ _ _) rfl ⟨rfl,s2,H2,?_,((hB0.mono hBw).trans hl1).trans hl2⟩
  rw [hs2,hs1]
  simp [Sp.endd,hz,Sv.sp]
theorem fail_any (code : Int) (w : World) (B X : Nat) (s : Sv) (h : Sq w B X s) (hw : ∀ t ∈ s.c.wt,TkOk t) (hps : s.ps.length ≤ 1000) (hus : s.us.length ≤ 1000) :
 Calls Tryz.prog 80 #[.pointer (some ⟨X,0,none⟩),.int .i64 code] w fun e w' => e = .returned (.tuple #[]) ∧ ∃ s',Sq w' B X s' ∧ s'.sp = s.sp.fail code ∧ Below B w w' := by
 go_enter Tryz.func80,Tryz.ntmps80
 go_wp2_with fail
 refine (end_any ⟨5,0,0,[],[],code⟩ (.slice none 0 0) (.slice none 0 0) w B X s h hw hps hus (BD.nil _ _) (FD.nil _ _)).mono ?_
 rintro e w2 ⟨rfl,s2,H2,hs2,hl2⟩
 go_wp2_with fail
 exact bodyPost_end (results_none rfl _ _ _) rfl ⟨rfl,s2,H2,hs2,hl2⟩
theorem found_any (w : World) (B X : Nat) (s : Sv) (h : Sq w B X s) (hw : ∀ t ∈ s.c.wt,TkOk t) (hps : s.ps.length ≤ 1000) (hus : s.us.length ≤ 1000) (hfo : s.c.tk.fo.length ≤ 1000000) :
 Calls Tryz.prog 76 #[.pointer (some ⟨X,0,none⟩)] w fun e w' => e = .returned (.tuple #[]) ∧ ∃ s',Sq w' B X s' ∧ s'.sp = s.sp.found ∧ Below B w w' := by
 have hBw := Nat.le_trans h.own (Nat.le_of_lt h.blk.lt)
 have m8 := h.blk.cell (j := 8) (v := s.fv) rfl
 obtain ⟨oa,oc,hov⟩ := own_form h.pt.fv
 rw [hov] at m8
 obtain ⟨N,hN⟩ : ∃ N,s.c.tk.fo.length = N := ⟨_,rfl⟩
 rw [hN] at hov m8
 have HOV := Lib.hid hov
 have HN := Lib.hid hN
 clear hov hN
 go_enter Tryz.func76,Tryz.ntmps76
 go_wp2_with fail
 refine (clone_Found (.slice oa N oc) _ _ w (by have h := FdO.fdv h.pt.fv (by omega); rw [HOV.out] at h; unfold FdV at h; rw [HN.out] at h; exact h) (by rw [← HN.out]; exact hfo)).mono ?_
 rintro e w1 ⟨fv',rfl,hfv,hB1,_⟩
 have hfo' : FdO w.heap.size w1 fv' s.c.tk.fo := by unfold FdO; rw [HN.out]; exact hfv
 have hfd : FD w1 (s.rw X) fv' s.c.tk.fo := FD.new (FdO.fdv hfo' (by omega)) (fun k hk => (hfv.lt k hk).1) h.lts
 clear m8
 obtain ⟨fa,fc,rfl⟩ := hfd.1.form
 rw [HN.out] at hfd ⊢
 go_wp2_with fail
 refine (end_any ⟨2,0,0,[],s.c.tk.fo,0⟩ (.slice none 0 0) (.slice fa N fc) w1 B X s (h.below hB1) hw hps hus (BD.nil _ _) hfd).mono ?_
 rintro e w2 ⟨rfl,s2,H2,hs2,hl2⟩
 go_wp2_with fail
 exact bodyPost_end (results_none rfl _ _ _) rfl ⟨rfl,s2,H2,hs2,(hB1.mono hBw).trans hl2⟩
theorem value_any (w : World) (B X : Nat) (s : Sv) (h : Sq w B X s) (hw : ∀ t ∈ s.c.wt,TkOk t) (hps : s.ps.length ≤ 1000) (hus : s.us.length ≤ 1000) (hvs : s.c.tk.vs.length ≤ 1000000) :
 Calls Tryz.prog 77 #[.pointer (some ⟨X,0,none⟩)] w fun e w' => e = .returned (.tuple #[]) ∧ ∃ s',Sq w' B X s' ∧ s'.sp = s.sp.value ∧ Below B w w' := by
 have hBw := Nat.le_trans h.own (Nat.le_of_lt h.blk.lt)
 have m6 := h.blk.cell (j := 6) (v := s.bv) rfl
 obtain ⟨a,c,hbv⟩ := h.pt.bv.1.form
 rw [hbv] at m6
 obtain ⟨L,hL⟩ : ∃ L,s.c.tk.vs.length = L := ⟨_,rfl⟩
 rw [hL] at hbv m6
 have hpb := h.pt.bv.1
 rw [hbv] at hpb
 have HL := Lib.hid hL
 clear hL hbv
 have hB0 : Below w.heap.size w (w.alloc (.cells #[.slice a L c] 27)) := (Below.refl _ _).alloc (Nat.le_refl _) _
 go_enter Tryz.func77,Tryz.ntmps77
 go_wp2_with fail
 generalize hX : World.alloc w _ = V
 obtain ⟨hsl,hBV,hz⟩ := alloc_named hX
 clear hX hz hB0 m6
 refine (join_one _ _ _ _ _ hsl (hpb.below hBV) hvs).mono ?_
 rintro e w1 ⟨vv,rfl,hvv,hov,hB1⟩
 have H1 := (h.below hBV).below hB1
 have hbd : BD w1 (s.rw X) vv s.c.tk.vs := BD.new hvv hov (h.below hBV).lts
 obtain ⟨va,vc,rfl⟩ := hvv.form
 have hl1 := (hBV.mono hBw).trans (hB1.mono (by have := hBV.size; omega))
 rw [HL.out] at hbd ⊢
 clear hvv hov hsl hpb
 go_wp2_with fail
 refine (end_any ⟨3,0,0,s.c.tk.vs,[],0⟩ (.slice va L vc) (.slice none 0 0) w1 B X s H1 hw hps hus hbd (FD.nil _ _)).mono ?_
 rintro e w2 ⟨rfl,s2,H2,hs2,hl2⟩
 go_wp2_with fail
 exact bodyPost_end (results_none rfl _ _ _) rfl ⟨rfl,s2,H2,hs2,hl1.trans hl2⟩
theorem cancel_any (code : Int) (w : World) (B X : Nat) (s : Sv) (h : Sq w B X s) (hw : ∀ t ∈ s.c.wt,TkOk t) (hps : s.ps.length ≤ 1000) (hus : s.us.length ≤ 1000) :
 Calls Tryz.prog 78 #[.pointer (some ⟨X,0,none⟩),.int .i64 code] w fun e w' => e = .returned (.tuple #[]) ∧ ∃ s',Sq w' B X s' ∧ s'.sp = s.sp.cancel code ∧ Below B w w' := by
 have m5 := h.blk.cell (j := 5) (v := .int .u16 s.c.tk.ha) rfl
 go_enter Tryz.func78,Tryz.ntmps78
 go_wp2_with fail
 refine (report_any ⟨5,0,s.c.tk.ha,[],[],code⟩ (.slice none 0 0) (.slice none 0 0) w B X s h (BD.nil _ _) (FD.nil _ _) hus).mono ?_
 rintro e w1 ⟨rfl,s1,H1,hs1,hl1⟩
 have e1 : s1.c = s.c := by have h := congrArg Sp.c hs1; exact h
 have e2 : s1.ps.length = s.ps.length := by have h := congrArg (List.length ∘ Sp.ps) hs1; simpa [Sv.sp,Sp.report] using h
 clear m5
 have m9 := H1.blk.cell (j := 9) (v := .bool s1.c.tk.bad) rfl
 have z9 := H1.blk.frozen 9
 obtain ⟨H2,hl2⟩ := H1.put_bad true
 go_wp2_with fail
 generalize hW : World.setCell w1 _ _ = w2 at H2 hl2 ⊢
 clear m9 z9
 refine (send_any ⟨24,0,0,0,0,0,0,0,0,false,[]⟩ (.slice none 0 0) (.slice none 0 0) w2 B X _ H2 (BD.nil _ _) (SR.nil _ _) (by simp) (by simp only; omega)).mono ?_
 rintro e w3 ⟨rfl,s3,H3,hs3,hl3⟩
 go_wp2_with fail
 refine bodyPost_end (results_none rfl _ _ _) rfl ⟨rfl,s3,H3,?_,(hl1.trans hl2).trans hl3⟩
 have hs1' : (⟨s1.c,s1.now,s1.ps.map (·.1),s1.us.map (·.1)⟩ : Sp) = _ := hs1
 rw [hs3]
 simp only [Sv.sp,Sp.report] at hs1
 injection hs1 with q1 q2 q3 q4
 simp [Sv.sp,Sp.cancel,Sp.report,pd0,q1,q2,q3,q4]
theorem further_any (fr : Nat) (w : World) (B X : Nat) (s : Sv) (h : Sq w B X s) (hps : s.ps.length ≤ 1000) (ha : s.c.ad.vs.length ≤ 1000000) :
 Calls Tryz.prog 107 #[.pointer (some ⟨X,0,none⟩),.int .u16 fr] w fun e w' => e = .returned (.tuple #[]) ∧ ∃ s',Sq w' B X s' ∧ s'.sp = s.sp.send { s.c.ad with ha := fr } ∧ Below B w w' := by
 have m10 := h.blk.cell (j := 10) (v := .int .i64 s.c.ad.kd) rfl
 have m11 := h.blk.cell (j := 11) (v := .int .i64 s.c.ad.ask) rfl
 have m12 := h.blk.cell (j := 12) (v := .int .u16 s.c.ad.ha) rfl
 have m13 := h.blk.cell (j := 13) (v := .int .u16 s.c.ad.la) rfl
 have m14 := h.blk.cell (j := 14) (v := .int .u64 s.c.ad.hi) rfl
 have m15 := h.blk.cell (j := 15) (v := .int .u64 s.c.ad.lo) rfl
 have m16 := h.blk.cell (j := 16) (v := .int .i64 s.c.ad.of) rfl
 have m17 := h.blk.cell (j := 17) (v := .int .i64 s.c.ad.mt) rfl
 have m18 := h.blk.cell (j := 18) (v := .int .i64 s.c.ad.co) rfl
 have m19 := h.blk.cell (j := 19) (v := .bool s.c.ad.cm) rfl
 have m20 := h.blk.cell (j := 20) (v := s.ab) rfl
 have m21 := h.blk.cell (j := 21) (v := s.ai) rfl
 have hBw := Nat.le_trans h.own (Nat.le_of_lt h.blk.lt)
 obtain ⟨a,c,hab⟩ := h.pt.ab.1.form
 obtain ⟨ia,ic,hai⟩ := h.pt.ai.form
 obtain ⟨L,hL⟩ : ∃ L,s.c.ad.vs.length = L := ⟨_,rfl⟩
 rw [hL] at hab
 rw [hab] at m20
 rw [hai] at m21
 have hpa := h.pt.ab
 rw [hab] at hpa
 have hpi := h.pt.ai
 rw [hai] at hpi
 have hB0 : Below w.heap.size w (w.alloc (.cells #[.int .i64 s.c.ad.kd,.int .i64 s.c.ad.ask,.int .u16 fr,.int .u16 s.c.ad.la,.int .u64 s.c.ad.hi,.int .u64 s.c.ad.lo,.int .i64 s.c.ad.of,.int .i64 s.c.ad.mt,.int .i64 s.c.ad.co,.bool s.c.ad.cm,.slice a L c,.slice ia 0 ic] 49)) := (Below.refl _ _).alloc (Nat.le_refl _) _
 have H0 := h.below hB0
 have hpa0 := hpa.below hB0
 have hpi0 := hpi.below hB0
 have HL := Lib.hid hL
 clear hL hab hai
 go_enter Tryz.func107,Tryz.ntmps107
 go_wp2_with fail
 generalize hX : World.alloc w _ = V at H0 hpa0 hpi0 hB0 ⊢
 clear hX m10 m11 m12 m13 m14 m15 m16 m17 m18 m19 m20 m21
 refine (send_any { s.c.ad with ha := fr } (.slice a L c) (.slice ia 0 ic) V B X s H0 hpa0 hpi0 ha hps).mono ?_
 rintro e w2 ⟨rfl,s2,H2,hs2,hl2⟩
 go_wp2_with fail
 exact bodyPost_end (results_none rfl _ _ _) rfl ⟨rfl,s2,H2,hs2,(hB0.mono hBw).trans hl2⟩
def Sp.refused (x : Sp) (code : Int) : Sp :=
 if (x.c.tk.kd = 2 ∨ x.c.tk.kd = 3 ∨ x.c.tk.kd = 4) ∧ code = 10 then x.found
 else if x.c.tk.kd = 6 ∧ code = 7 ∧ x.c.ad.kd = 12 then x.value
 else if x.c.ad.kd = 22 ∧ ¬ x.c.tk.of = 0 then x.cancel code
 else if x.c.ad.kd = 24 ∧ x.c.tk.bad = true ∧ ¬ code = 18 then x.close
 else x.fail code
theorem Sp.refused_0 (x : Sp) (code : Int) (h0 : true = (decide (x.c.tk.kd = 2 ∨ x.c.tk.kd = 3 ∨ x.c.tk.kd = 4) && decide (code = 10))) : x.refused code = x.found := by
 unfold Sp.refused
 rw [if_pos (by simpa using h0.symm)]
theorem Sp.refused_1 (x : Sp) (code : Int) (h0 : false = (decide (x.c.tk.kd = 2 ∨ x.c.tk.kd = 3 ∨ x.c.tk.kd = 4) && decide (code = 10))) (h1 : true = (decide (x.c.tk.kd = 6) && (decide (code = 7) && decide (x.c.ad.kd = 12)))) : x.refused code = x.value := by
 unfold Sp.refused
 rw [if_neg (by have q := h0.symm; simp at q ⊢; exact q)]
 rw [if_pos (by simpa using h1.symm)]
theorem Sp.refused_2 (x : Sp) (code : Int) (h0 : false = (decide (x.c.tk.kd = 2 ∨ x.c.tk.kd = 3 ∨ x.c.tk.kd = 4) && decide (code = 10))) (h1 : false = (decide (x.c.tk.kd = 6) && (decide (code = 7) && decide (x.c.ad.kd = 12)))) (h2 : true = (decide (x.c.ad.kd = 22) && !decide (x.c.tk.of = 0))) : x.refused code = x.cancel code := by
 unfold Sp.refused
 rw [if_neg (by have q := h0.symm; simp at q ⊢; exact q)]
 rw [if_neg (by have q := h1.symm; simp at q ⊢; exact q)]
 rw [if_pos (by simpa using h2.symm)]
theorem Sp.refused_3 (x : Sp) (code : Int) (h0 : false = (decide (x.c.tk.kd = 2 ∨ x.c.tk.kd = 3 ∨ x.c.tk.kd = 4) && decide (code = 10))) (h1 : false = (decide (x.c.tk.kd = 6) && (decide (code = 7) && decide (x.c.ad.kd = 12)))) (h2 : false = (decide (x.c.ad.kd = 22) && !decide (x.c.tk.of = 0))) (h3 : true = (decide (x.c.ad.kd = 24) && (x.c.tk.bad && !decide (code = 18)))) : x.refused code = x.close := by
 unfold Sp.refused
 rw [if_neg (by have q := h0.symm; simp at q ⊢; exact q)]
 rw [if_neg (by have q := h1.symm; simp at q ⊢; exact q)]
 rw [if_neg (by have q := h2.symm; simp at q ⊢; exact q)]
 rw [if_pos (by simpa using h3.symm)]
theorem Sp.refused_4 (x : Sp) (code : Int) (h0 : false = (decide (x.c.tk.kd = 2 ∨ x.c.tk.kd = 3 ∨ x.c.tk.kd = 4) && decide (code = 10))) (h1 : false = (decide (x.c.tk.kd = 6) && (decide (code = 7) && decide (x.c.ad.kd = 12)))) (h2 : false = (decide (x.c.ad.kd = 22) && !decide (x.c.tk.of = 0))) (h3 : false = (decide (x.c.ad.kd = 24) && (x.c.tk.bad && !decide (code = 18)))) : x.refused code = x.fail code := by
 unfold Sp.refused
 rw [if_neg (by have q := h0.symm; simp at q ⊢; exact q)]
 rw [if_neg (by have q := h1.symm; simp at q ⊢; exact q)]
 rw [if_neg (by have q := h2.symm; simp at q ⊢; exact q)]
 rw [if_neg (by have q := h3.symm; simp at q ⊢; exact q)]
theorem refused_any (code : Int) (w : World) (B X : Nat) (s : Sv) (h : Sq w B X s) (hw : ∀ t ∈ s.c.wt,TkOk t) (hps : s.ps.length ≤ 1000) (hus : s.us.length ≤ 1000) (hfo : s.c.tk.fo.length ≤ 1000000) (hvs : s.c.tk.vs.length ≤ 1000000) :
 Calls Tryz.prog 35 #[.pointer (some ⟨X,0,none⟩),.int .i64 code] w fun e w' => e = .returned (.tuple #[]) ∧ ∃ s',Sq w' B X s' ∧ s'.sp = s.sp.refused code ∧ Below B w w' := by
 have m2 := h.blk.cell (j := 2) (v := .int .i64 s.c.tk.kd) rfl
 have m10 := h.blk.cell (j := 10) (v := .int .i64 s.c.ad.kd) rfl
 have m7 := h.blk.cell (j := 7) (v := .int .i64 s.c.tk.of) rfl
 have m9 := h.blk.cell (j := 9) (v := .bool s.c.tk.bad) rfl
 go_enter Tryz.func35,Tryz.ntmps35
 go_upto_region 0 with fail
 go_cut [4] (fun v wx => ∃ d : Bool,v = .bool d ∧ d = decide (s.c.tk.kd = 2 ∨ s.c.tk.kd = 3 ∨ s.c.tk.kd = 4) ∧ w = wx)
 case first =>
  by_cases e1 : s.c.tk.kd = 2
  ·have t1 : (s.c.tk.kd == 2) = true := by simp [e1]
   have E1 := Lib.hid e1
   clear e1
   go_wp2_with fail
   go_meet
   have e1 := E1.out
   exact ⟨_,rfl,by simp [e1],rfl⟩
  ·have t1 : (s.c.tk.kd == 2) = false := by simp [e1]
   have E1 := Lib.hid e1
   clear e1
   by_cases e2 : s.c.tk.kd = 3
   ·have t2 : (s.c.tk.kd == 3) = true := by simp [e2]
    have E2 := Lib.hid e2
    clear e2
    go_wp2_with fail
    go_meet
    have e1 := E1.out
    have e2 := E2.out
    exact ⟨_,rfl,by simp [e1,e2],rfl⟩
   ·have t2 : (s.c.tk.kd == 3) = false := by simp [e2]
    have E2 := Lib.hid e2
    clear e2
    by_cases e3 : s.c.tk.kd = 4
    ·have t3 : (s.c.tk.kd == 4) = true := by simp [e3]
     have E3 := Lib.hid e3
     clear e3
     go_wp2_with fail
     go_meet
     have e1 := E1.out
     have e2 := E2.out
     have e3 := E3.out
     exact ⟨_,rfl,by simp [e1,e2,e3],rfl⟩
    ·have t3 : (s.c.tk.kd == 4) = false := by simp [e3]
     have E3 := Lib.hid e3
     clear e3
     go_wp2_with fail
     go_meet
     have e1 := E1.out
     have e2 := E2.out
     have e3 := E3.out
     exact ⟨_,rfl,by simp [e1,e2,e3],rfl⟩
 case rest =>
  obtain ⟨d4,rfl,h4,rfl⟩ := hcut
  have H4 := Lib.hid h4
  clear h4
  go_upto_region 2 with fail
  go_cut [33] (fun v wx => ∃ d : Bool,v = .bool d ∧ d = (d4 && decide (code = 10)) ∧ w = wx)
  case first =>
   cases d4 with
   |false =>
    go_wp2_with fail
    go_meet
    exact ⟨_,rfl,by simp,rfl⟩
   |true =>
    by_cases e1 : code = 10
    ·have t1 : (code == 10) = true := by simp [e1]
     have E1 := Lib.hid e1
     clear e1
     go_wp2_with fail
     go_meet
     have e1 := E1.out
     exact ⟨_,rfl,by simp [e1],rfl⟩
    ·have t1 : (code == 10) = false := by simp [e1]
     have E1 := Lib.hid e1
     clear e1
     go_wp2_with fail
     go_meet
     have e1 := E1.out
     exact ⟨_,rfl,by simp [e1],rfl⟩
  case rest =>
   obtain ⟨d33,rfl,h33,rfl⟩ := hcut
   have H33 := Lib.hid h33
   clear h33
   cases d33 with
   |true =>
    clear m2 m7 m9 m10
    go_wp2_with fail
    refine (found_any w B X s h hw hps hus hfo).mono ?_
    rintro e w2 ⟨rfl,s2,H2,hs2,hl2⟩
    go_wp2_with fail
    refine bodyPost_end (results_none rfl _ _ _) rfl ⟨rfl,s2,H2,?_,hl2⟩
    refine hs2.trans (Eq.symm ?_)
    have h33 := H33.out
    rw [H4.out] at h33
    exact Sp.refused_0 s.sp code h33
   |false =>
    go_upto_region 4 with fail
    go_cut [41] (fun v wx => ∃ d : Bool,v = .bool d ∧ d = (decide (s.c.tk.kd = 6) && (decide (code = 7) && decide (s.c.ad.kd = 12))) ∧ w = wx)
    case first =>
     by_cases e1 : s.c.tk.kd = 6
     ·have t1 : (s.c.tk.kd == 6) = true := by simp [e1]
      have E1 := Lib.hid e1
      clear e1
      by_cases e2 : code = 7
      ·have t2 : (code == 7) = true := by simp [e2]
       have E2 := Lib.hid e2
       clear e2
       by_cases e3 : s.c.ad.kd = 12
       ·have t3 : (s.c.ad.kd == 12) = true := by simp [e3]
        have E3 := Lib.hid e3
        clear e3
        go_wp2_with fail
        go_meet
        have e1 := E1.out
        have e2 := E2.out
        have e3 := E3.out
        exact ⟨_,rfl,by simp [e1,e2,e3],rfl⟩
       ·have t3 : (s.c.ad.kd == 12) = false := by simp [e3]
        have E3 := Lib.hid e3
        clear e3
        go_wp2_with fail
        go_meet
        have e1 := E1.out
        have e2 := E2.out
        have e3 := E3.out
        exact ⟨_,rfl,by simp [e1,e2,e3],rfl⟩
      ·have t2 : (code == 7) = false := by simp [e2]
       have E2 := Lib.hid e2
       clear e2
       go_wp2_with fail
       go_meet
       have e1 := E1.out
       have e2 := E2.out
       exact ⟨_,rfl,by simp [e1,e2],rfl⟩
     ·have t1 : (s.c.tk.kd == 6) = false := by simp [e1]
      have E1 := Lib.hid e1
      clear e1
      go_wp2_with fail
      go_meet
      have e1 := E1.out
      exact ⟨_,rfl,by simp [e1],rfl⟩
    case rest =>
     obtain ⟨d41,rfl,h41,rfl⟩ := hcut
     have H41 := Lib.hid h41
     clear h41
     cases d41 with
     |true =>
      clear m2 m7 m9 m10
      go_wp2_with fail
      refine (value_any w B X s h hw hps hus hvs).mono ?_
      rintro e w2 ⟨rfl,s2,H2,hs2,hl2⟩
      go_wp2_with fail
      refine bodyPost_end (results_none rfl _ _ _) rfl ⟨rfl,s2,H2,?_,hl2⟩
      refine hs2.trans (Eq.symm ?_)
      have h33 := H33.out
      rw [H4.out] at h33
      exact Sp.refused_1 s.sp code h33 H41.out
     |false =>
      go_upto_region 6 with fail
      go_cut [64] (fun v wx => ∃ d : Bool,v = .bool d ∧ d = (decide (s.c.ad.kd = 22) && !decide (s.c.tk.of = 0)) ∧ w = wx)
      case first =>
       by_cases e1 : s.c.ad.kd = 22
       ·have t1 : (s.c.ad.kd == 22) = true := by simp [e1]
        have E1 := Lib.hid e1
        clear e1
        by_cases e2 : s.c.tk.of = 0
        ·have t2 : (s.c.tk.of != 0) = false := by simp [e2]
         have E2 := Lib.hid e2
         clear e2
         go_wp2_with fail
         go_meet
         have e1 := E1.out
         have e2 := E2.out
         exact ⟨_,rfl,by simp [e1,e2],rfl⟩
        ·have t2 : (s.c.tk.of != 0) = true := by simp [e2]
         have E2 := Lib.hid e2
         clear e2
         go_wp2_with fail
         go_meet
         have e1 := E1.out
         have e2 := E2.out
         exact ⟨_,rfl,by simp [e1,e2],rfl⟩
       ·have t1 : (s.c.ad.kd == 22) = false := by simp [e1]
        have E1 := Lib.hid e1
        clear e1
        go_wp2_with fail
        go_meet
        have e1 := E1.out
        exact ⟨_,rfl,by simp [e1],rfl⟩
      case rest =>
       obtain ⟨d64,rfl,h64,rfl⟩ := hcut
       have H64 := Lib.hid h64
       clear h64
       cases d64 with
       |true =>
        clear m2 m7 m9 m10
        go_wp2_with fail
        refine (cancel_any code w B X s h hw hps hus).mono ?_
        rintro e w2 ⟨rfl,s2,H2,hs2,hl2⟩
        go_wp2_with fail
        refine bodyPost_end (results_none rfl _ _ _) rfl ⟨rfl,s2,H2,?_,hl2⟩
        refine hs2.trans (Eq.symm ?_)
        have h33 := H33.out
        rw [H4.out] at h33
        exact Sp.refused_2 s.sp code h33 H41.out H64.out
       |false =>
        go_upto_region 8 with fail
        go_cut [84] (fun v wx => ∃ d : Bool,v = .bool d ∧ d = (decide (s.c.ad.kd = 24) && (s.c.tk.bad && !decide (code = 18))) ∧ w = wx)
        case first =>
         by_cases e1 : s.c.ad.kd = 24
         ·have t1 : (s.c.ad.kd == 24) = true := by simp [e1]
          have E1 := Lib.hid e1
          clear e1
          cases hb : s.c.tk.bad with
          |false =>
           rw [hb] at m9
           have HBB := Lib.hid hb
           clear hb
           go_wp2_with fail
           go_meet
           exact ⟨_,rfl,by simp [HBB.out],rfl⟩
          |true =>
           rw [hb] at m9
           have HBB := Lib.hid hb
           clear hb
           by_cases e2 : code = 18
           ·have t2 : (code != 18) = false := by simp [HBB.out,e2]
            have E2 := Lib.hid e2
            clear e2
            go_wp2_with fail
            go_meet
            have e1 := E1.out
            have e2 := E2.out
            exact ⟨_,rfl,by simp [HBB.out,e1,e2],rfl⟩
           ·have t2 : (code != 18) = true := by simp [HBB.out,e2]
            have E2 := Lib.hid e2
            clear e2
            go_wp2_with fail
            go_meet
            have e1 := E1.out
            have e2 := E2.out
            exact ⟨_,rfl,by simp [HBB.out,e1,e2],rfl⟩
         ·have t1 : (s.c.ad.kd == 24) = false := by simp [e1]
          have E1 := Lib.hid e1
          clear e1
          go_wp2_with fail
          go_meet
          have e1 := E1.out
          exact ⟨_,rfl,by simp [e1],rfl⟩
        case rest =>
         obtain ⟨d84,rfl,h84,rfl⟩ := hcut
         have H84 := Lib.hid h84
         clear h84
         cases d84 with
         |true =>
          clear m2 m7 m9 m10
          go_wp2_with fail
          refine (close_any w B X s h hw hps).mono ?_
          rintro e w2 ⟨rfl,s2,H2,hs2,hl2⟩
          go_wp2_with fail
          refine bodyPost_end (results_none rfl _ _ _) rfl ⟨rfl,s2,H2,?_,hl2⟩
          refine hs2.trans (Eq.symm ?_)
          have h33 := H33.out
          rw [H4.out] at h33
          exact Sp.refused_3 s.sp code h33 H41.out H64.out H84.out
         |false =>
          clear m2 m7 m9 m10
          go_wp2_with fail
          refine (fail_any code w B X s h hw hps hus).mono ?_
          rintro e w2 ⟨rfl,s2,H2,hs2,hl2⟩
          go_wp2_with fail
          refine bodyPost_end (results_none rfl _ _ _) rfl ⟨rfl,s2,H2,?_,hl2⟩
          refine hs2.trans (Eq.symm ?_)
          have h33 := H33.out
          rw [H4.out] at h33
          exact Sp.refused_4 s.sp code h33 H41.out H64.out H84.out
end Go.Proofs.YtldcihjddebciaaGreat
