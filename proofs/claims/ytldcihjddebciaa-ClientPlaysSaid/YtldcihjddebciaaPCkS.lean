/- client: the state of ClientPlays' play. And what follows it. -/
import Derived.Test.YtldcihjddebciaaPCmA
import Derived.Test.YtldcihjddebciaaPCnA
import Derived.Test.YtldcihjddebciaaPCnE
import Derived.Test.YtldcihjddebciaaPCkP
import Derived.Test.YtldcihjddebciaaPCnB
import Derived.Test.YtldcihjddebciaaPUuA
set_option linter.unusedSimpArgs false
set_option linter.unusedVariables false
set_option maxRecDepth 100000
set_option maxHeartbeats 4000000
namespace Go.Proofs.Ytldcihjddebciaa
open Go.RowKit
/-- since when -/
theorem since_begin (x : Sp) (t : Tk) : (x.begin t).c.since = x.c.since ∨ (x.begin t).c.since = x.now := by
 unfold Sp.begin
 split
 ·exact .inr rfl
 ·exact .inl rfl
theorem since_close (x : Sp) : x.close.c.since = x.c.since ∨ x.close.c.since = x.now := by
 unfold Sp.close
 split
 ·exact .inl rfl
 ·exact since_begin _ _
theorem since_end (x : Sp) (r : Rs) : (x.endd r).c.since = x.c.since ∨ (x.endd r).c.since = x.now := since_close _
theorem since_listed (x : Sp) (r : Option (List Fd)) (a b : Nat) : (x.listed r a b).c.since = x.c.since ∨ (x.listed r a b).c.since = x.now := by
 unfold Sp.listed
 split
 ·exact since_end _ _
 ·split
  ·exact since_end _ _
  ·exact .inr rfl
theorem since_refused (x : Sp) (code : Int) : (x.refused code).c.since = x.c.since ∨ (x.refused code).c.since = x.now := by
 unfold Sp.refused
 repeat' (first | exact .inl rfl | exact .inr rfl | exact since_end _ _ | exact since_close _ | split)
theorem since_answered (x : Sp) (p : Pd) (l : List Im) : (x.answered p l).c.since = x.c.since ∨ (x.answered p l).c.since = x.now := by
 unfold Sp.answered Sp.hash Sp.read Sp.prepared
 repeat' (first | exact .inl rfl | exact .inr rfl | exact since_end _ _ | exact since_close _ | exact since_listed _ _ _ _ | split)
theorem since_start (c : Cl) (t : Tk) (now : Int) : (startP c t now).1.c.since = c.since ∨ (startP c t now).1.c.since = now := by
 unfold startP
 repeat' (first | exact .inl rfl | exact since_begin _ _ | split)
theorem since_handle (c : Cl) (p : Pd) (l : List Im) (now : Int) : (handleP c p l now).c.since = c.since ∨ (handleP c p l now).c.since = now := by
 unfold handleP
 repeat' (first | exact .inl rfl | exact since_refused _ _ | exact since_answered _ _ _ | split)
theorem since_expire (c : Cl) (now : Int) : (expireP c now).c.since = c.since := by
 unfold expireP
 split <;> rfl
theorem PsR.nil (w : World) (R : List (Option Nat)) : PsR w R (.slice none 0 0) [] := ⟨[],rfl,SR.nil _ _,.inl rfl,by simp⟩
theorem RsR.nil0 (w : World) (R : List (Option Nat)) : RsR w R (.slice none 0 0) [] := ⟨[],rfl,SR.nil _ _,.inl rfl,by simp⟩
/-- a round's state behind both calls: blocks X5 and X7 are to be overwritten -/
structure PT (w0 w : World) (X5 X7 X13 X16 : Nat) (z5 z7 : List Value) (c : Cl) (k k' : Cv) (l l' r r' : Value) (ps : List Pd) (us : List Rs) : Prop where
 b5 : Blk w X5 35 z5
 n5 : Nob z5 ∧ z5.length = 26
 b7 : Blk w X7 35 z7
 n7 : Nob z7 ∧ z7.length = 26
 cv : ClV w (.agg (k.cells c).toArray) c
 one : (k.cells c).toArray.all (·.oneCell') = true
 o5 : WOff X5 (.agg (k.cells c).toArray) c
 o7 : WOff X7 (.agg (k.cells c).toArray) c
 cr : Cr w [some X5,some X7] c k'
 low : Below w0.heap.size w0 w
 h5 : w0.heap.size ≤ X5
 h7 : w0.heap.size ≤ X7
 ne : X5 ≠ X7
 pv : PsV w l ps
 p5 : Off X5 l
 p7 : Off X7 l
 pr : PsR w [some X5,some X7] l' ps
 rv : RsV w r us
 r5 : Off X5 r
 r7 : Off X7 r
 rr : RsR w [some X5,some X7] r' us
 g13 : w.rangeAt X13 0 (k.cells c)
 d13 : X13 ≠ X5 ∧ X13 ≠ X7
 g16 : w.rangeAt X16 0 (k'.cells c)
 d16 : X16 ≠ X5 ∧ X16 ≠ X7
theorem PT.below {w0 w w' : World} {X5 X7 X13 X16 : Nat} {z5 z7 : List Value} {c : Cl} {k k' : Cv} {l l' r r' : Value} {ps : List Pd} {us : List Rs} (h : PT w0 w X5 X7 X13 X16 z5 z7 c k k' l l' r r' ps us) (hb : Below w.heap.size w w') : PT w0 w' X5 X7 X13 X16 z5 z7 c k k' l l' r r' ps us :=
 ⟨h.b5.below hb,h.n5,h.b7.below hb,h.n7,h.cv.below hb,h.one,h.o5,h.o7,h.cr.below hb,h.low.trans (hb.mono h.low.size),h.h5,h.h7,h.ne,h.pv.below hb,h.p5,h.p7,h.pr.below hb,h.rv.below hb,h.r5,h.r7,h.rr.below hb,range_keep h.g13 hb,h.d13,range_keep h.g16 hb,h.d16⟩
theorem PT.put5 {w0 w w' : World} {X5 X7 X13 X16 : Nat} {z5 z7 : List Value} {c : Cl} {k k' : Cv} {l l' r r' : Value} {ps : List Pd} {us : List Rs} (h : PT w0 w X5 X7 X13 X16 z5 z7 c k k' l l' r r' ps us) (hX : w.setCells X5 0 (k.cells c) = w') :
 PT w0 w' X5 X7 X13 X16 (k.cells c) z7 c k k' l l' r r' ps us ∧ w.grownBy w' (some X5) := by
 have hn := h.cv.nob
 obtain ⟨hg,hb⟩ := put_namedB h.b5 hX (h.n5.2.trans hn.2.symm)
 have ht : Turns w [some X5,some X7] (some X5) := fun j hj => .inl (by cases hj; simp)
 exact ⟨⟨hb,hn,h.b7.kept hg (fun e => h.ne (by injection e with e; exact e.symm)),h.n7,h.cv.kept h.n5.1 h.b5 hg h.o5,h.one,h.o5,h.o7,h.cr.turned hg ht,h.low.grown hg h.low.size (fun j hj => by cases hj; exact h.h5),h.h5,h.h7,h.ne,h.pv.kept h.n5.1 h.b5 hg (.inr h.p5),h.p5,h.p7,h.pr.turned hg ht,h.rv.kept h.n5.1 h.b5 hg (.inr h.r5),h.r5,h.r7,h.rr.turned hg ht,range_put h.g13 h.d13.1 hg,h.d13,range_put h.g16 h.d16.1 hg,h.d16⟩,hg⟩
theorem PT.put7 {w0 w w' : World} {X5 X7 X13 X16 : Nat} {z5 z7 : List Value} {c : Cl} {k k' : Cv} {l l' r r' : Value} {ps : List Pd} {us : List Rs} (h : PT w0 w X5 X7 X13 X16 z5 z7 c k k' l l' r r' ps us) (hX : w.setCells X7 0 (k'.cells c) = w') :
 PT w0 w' X5 X7 X13 X16 z5 (k'.cells c) c k k' l l' r r' ps us ∧ w.grownBy w' (some X7) := by
 have hn := h.cr.clv.nob
 obtain ⟨hg,hb⟩ := put_namedB h.b7 hX (h.n7.2.trans hn.2.symm)
 have ht : Turns w [some X5,some X7] (some X7) := fun j hj => .inl (by cases hj; simp)
 exact ⟨⟨h.b5.kept hg (fun e => h.ne (by injection e)),h.n5,hb,hn,h.cv.kept h.n7.1 h.b7 hg h.o7,h.one,h.o5,h.o7,h.cr.turned hg ht,h.low.grown hg h.low.size (fun j hj => by cases hj; exact h.h7),h.h5,h.h7,h.ne,h.pv.kept h.n7.1 h.b7 hg (.inr h.p7),h.p5,h.p7,h.pr.turned hg ht,h.rv.kept h.n7.1 h.b7 hg (.inr h.r7),h.r5,h.r7,h.rr.turned hg ht,range_put h.g13 h.d13.2 hg,h.d13,range_put h.g16 h.d16.2 hg,h.d16⟩,hg⟩
/-- the state at the loop's head: the code's client lies in X5, the reference's in X7 -/
structure PS (w0 w : World) (X5 X7 n : Nat) (c : Cl) (k k' : Cv) (nw : Int) : Prop where
 b5 : Blk w X5 35 (k.cells c)
 b7 : Blk w X7 35 (k'.cells c)
 cv : ClV w (.agg (k.cells c).toArray) c
 one : (k.cells c).toArray.all (·.oneCell') = true
 o5 : WOff X5 (.agg (k.cells c).toArray) c
 o7 : WOff X7 (.agg (k.cells c).toArray) c
 cr : Cr w [some X5,some X7] c k'
 low : Below w0.heap.size w0 w
 h5 : w0.heap.size ≤ X5
 h7 : w0.heap.size ≤ X7
 ne : X5 ≠ X7
 inv : Inv n c
 n0 : 0 ≤ nw
 nm : nw ≤ (n : Int) * 4294967295
 s0 : 0 ≤ c.since
 sm : c.since ≤ (n : Int) * 4294967295
theorem PS.below {w0 w w' : World} {X5 X7 n : Nat} {c : Cl} {k k' : Cv} {nw : Int} (h : PS w0 w X5 X7 n c k k' nw) (hb : Below w.heap.size w w') : PS w0 w' X5 X7 n c k k' nw :=
 ⟨h.b5.below hb,h.b7.below hb,h.cv.below hb,h.one,h.o5,h.o7,h.cr.below hb,h.low.trans (hb.mono h.low.size),h.h5,h.h7,h.ne,h.inv,h.n0,h.nm,h.s0,h.sm⟩
theorem PS.on {w0 w : World} {X5 X7 n : Nat} {c : Cl} {k k' : Cv} {nw nw' : Int} (h : PS w0 w X5 X7 n c k k' nw) (h0 : 0 ≤ nw') (hm : nw' ≤ ((n + 1 : Nat) : Int) * 4294967295) : PS w0 w X5 X7 (n + 1) c k k' nw' :=
 ⟨h.b5,h.b7,h.cv,h.one,h.o5,h.o7,h.cr,h.low,h.h5,h.h7,h.ne,h.inv.more (Nat.le_succ n),h0,hm,h.s0,by have := h.sm; omega⟩
theorem PT.ps {w0 w : World} {X5 X7 X13 X16 n : Nat} {c : Cl} {k k' : Cv} {l l' r r' : Value} {ps : List Pd} {us : List Rs} {nw : Int} (h : PT w0 w X5 X7 X13 X16 (k.cells c) (k'.cells c) c k k' l l' r r' ps us) (hi : Inv n c) (h0 : 0 ≤ nw) (hm : nw ≤ (n : Int) * 4294967295) (s0 : 0 ≤ c.since) (sm : c.since ≤ (n : Int) * 4294967295) : PS w0 w X5 X7 n c k k' nw :=
 ⟨h.b5,h.b7,h.cv,h.one,h.o5,h.o7,h.cr,h.low,h.h5,h.h7,h.ne,hi,h0,hm,s0,sm⟩
theorem inv_new (mx : Int) (h1 : 23 ≤ mx) (h2 : mx ≤ 517) : Inv 0 (cN mx) :=
 ⟨⟨by simp [cN],by simp [cN],by simp [cN,tk0],by simp [cN,tk0],by simp [cN,pd0],⟨0,rfl,Nat.zero_le _⟩,by simp [cN,tk0],⟨h1,h2⟩⟩,fun h => by simp [cN] at h,fun _ => rfl⟩
def kv0 : Cv := ⟨.slice none 0 0,.slice none 0 0,.slice none 0 0,.slice none 0 0,.slice none 0 0,[]⟩
theorem kv0_one (mx : Int) : (kv0.cells (cN mx)).toArray.all (·.oneCell') = true := by simp [kv0,Cv.cells,clc,Value.oneCell']
theorem plays_new (mx : Int) (h1 : 23 ≤ mx) (h2 : mx ≤ 517) (w : World) : Calls Try.prog 6 #[.int .i64 mx] w fun e w' => e = .returned (.tuple #[.agg (kv0.cells (cN mx)).toArray,.int .i64 0]) ∧ Below w.heap.size w w' := new_ok mx w h1 h2
theorem plays_rnew (mx : Int) (h1 : 23 ≤ mx) (h2 : mx ≤ 517) (w : World) : Calls Try.prog 7 #[.int .i64 mx] w fun e w' => e = .returned (.tuple #[.agg (kv0.cells (cN mx)).toArray,.int .i64 0]) ∧ Below w.heap.size w w' := rnew_ok mx w h1 h2
theorem cr_new (mx : Int) (w : World) (R : List (Option Nat)) : Cr w R (cN mx) kv0 := ⟨BD.nil _ _,FD.nil _ _,BD.nil _ _,SR.nil _ _,SR.nil _ _,.inl rfl,rfl,by simp [kv0],Nat.zero_le _⟩
theorem woff_cN (mx : Int) (rb : Nat) (v : Value) : WOff rb v (cN mx) := fun _ _ _ _ => .inl rfl
/-- the cells of a step that came in -/
theorem senc_arr {w : World} {s : Stp} (h : StpIn w s) : (senc s).toArray.all (·.oneCell') = true := by
 obtain ⟨a1,c1,e1,_⟩ := h.tb
 obtain ⟨a2,n2,c2,e2⟩ := h.tf
 obtain ⟨a3,c3,e3,_⟩ := h.pb
 obtain ⟨a4,c4,e4⟩ := h.iv.form
 simp [senc,tkc,pdc,e1,e2,e3,e4,Value.oneCell']
theorem step_task {w : World} {b o : Nat} {s : Stp} (h : w.rangeAt b o (senc s)) : w.rangeAt b (o + 1) (tkc s.t s.tb s.tf) := fun j v hv => by
 have hj : j < 8 := (List.getElem?_eq_some_iff.1 hv).1
 have := h (1 + j) v (by rw [Nat.add_comm 1 j]; show (tkc s.t s.tb s.tf ++ _)[j]? = some v; rw [List.getElem?_append_left hj]; exact hv)
 rw [← Nat.add_assoc] at this
 exact this
theorem step_pdu {w : World} {b o : Nat} {s : Stp} (h : w.rangeAt b o (senc s)) : w.rangeAt b (o + 9) (pdc s.p s.pb s.iv) := fun j v hv => by
 have hj : j < 12 := (List.getElem?_eq_some_iff.1 hv).1
 have := h (9 + j) v (by
  rw [Nat.add_comm 9 j]
  show (tkc s.t s.tb s.tf ++ (pdc s.p s.pb s.iv ++ [.int .u32 s.pause]))[j + 8]? = some v
  rw [List.getElem?_append_right (by simp [tkc]),show j + 8 - (tkc s.t s.tb s.tf).length = j by simp [tkc],List.getElem?_append_left hj]
  exact hv)
 rw [← Nat.add_assoc] at this
 exact this
theorem small_any (ss : List Stp) (v : Value) (w : World) (h : SR w v ss.length 22 (ss.flatMap senc)) (hin : ∀ s ∈ ss,StpIn w s) :
 Calls Try.prog 10 #[v] w fun e w' => (∃ B : Bool,e = .returned (.bool B) ∧ (B = true → ss.length ≤ 100 ∧ ∀ s ∈ ss,s.t.vs.length ≤ 4096 ∧ s.p.vs.length ≤ 4096 ∧ s.qs.length ≤ 300)) ∧ Below w.heap.size w w' := by
 obtain ⟨N,hN⟩ : ∃ N,ss.length = N := ⟨_,rfl⟩
 obtain ⟨a,c,f⟩ := h.form
 rw [hN] at f
 subst f
 have HH := Lib.hid (And.intro h (And.intro hin hN))
 have hNm : N ≤ maxLen := by rw [← hN]; exact h.1
 unfold maxLen at hNm
 clear h hin hN
 go_enter Try.func10,Try.ntmps10
 go_wp2
 go_loopw [3,4] (fun vn vi wr => ∃ kk n : Nat,vn = .int .i64 n ∧ vi = .int .i64 kk ∧ kk ≤ N ∧ kk ≤ 100 ∧ n ≤ 8192 * kk ∧ (∀ j s,j < kk → ss[j]? = some s → s.t.vs.length ≤ 4096 ∧ s.p.vs.length ≤ 4096 ∧ s.qs.length ≤ 300) ∧ Below w.heap.size w wr) (fun _ vi _ => N - (intOf vi).toNat)
 case atStart => exact ⟨0,0,by simp,by simp,Nat.zero_le _,Nat.zero_le _,by omega,fun j s hj => absurd hj (Nat.not_lt_zero _),Below.refl _ _⟩
 case round =>
  obtain ⟨kk,n,rfl,rfl,hk,hk1,hn,hall,hB⟩ := hrel
  have HA := Lib.hid hall
  clear hall
  by_cases hlt : kk < N
  ·have g1 : decide (kk < N) = true := by simpa using hlt
   by_cases hlt2 : kk < 100
   ·have g2 : decide (kk < 100) = true := by simpa using hlt2
    have g2' : decide ((kk : Int) < 100) = true := by simp; omega
    have hn0 : (0 : Int) ≤ (kk : Int) := by omega
    have hn1 : (kk : Int) < (N : Int) := by omega
    have w1' : IntKind.i64.wrap ((kk : Int) + 1) = (kk : Int) + 1 := IntWalk.i64_in _ (by omega)
    obtain ⟨h,hin,hN⟩ := HH.out
    have hkl : kk < ss.length := by rw [hN]; exact hlt
    obtain ⟨s,hs⟩ : ∃ s,ss[kk]? = some s := ⟨_,List.getElem?_eq_getElem hkl⟩
    obtain ⟨b,o,d,e0,rows⟩ := sr_rows senc (fun _ => rfl) h (by omega)
    have hr := range_keep (rows kk s hs) hB
    have hsi := hin s (List.mem_of_getElem? hs)
    rw [hN] at e0
    cases e0
    obtain ⟨a1,c1,e1,_⟩ := hsi.tb
    obtain ⟨a2,c2,e2,_⟩ := hsi.pb
    obtain ⟨a3,c3,e3⟩ := hsi.iv.form
    have m5 := hr 5 _ rfl
    have m19 := hr 19 _ rfl
    have m20 := hr 20 _ rfl
    rw [e1] at m5
    rw [e2] at m19
    rw [e3] at m20
    have HS := Lib.hid hs
    obtain ⟨L1,hL1⟩ : ∃ x,s.t.vs.length = x := ⟨_,rfl⟩
    obtain ⟨L2,hL2⟩ : ∃ x,s.p.vs.length = x := ⟨_,rfl⟩
    obtain ⟨L3,hL3⟩ : ∃ x,s.qs.length = x := ⟨_,rfl⟩
    rw [hL1] at m5
    rw [hL2] at m19
    rw [hL3] at m20
    have HL := Lib.hid (And.intro hL1 (And.intro hL2 hL3))
    clear h hin hN rows hsi e1 e2 e3 hs hr hL1 hL2 hL3 hkl
    by_cases t1 : L1 ≤ 4096
    ·have d1 : decide ((4096 : Int) < (L1 : Int)) = false := by simp; omega
     by_cases t2 : L2 ≤ 4096
     ·have d2 : decide ((4096 : Int) < (L2 : Int)) = false := by simp; omega
      by_cases t3 : L3 ≤ 300
      ·have d3 : decide ((300 : Int) < (L3 : Int)) = false := by simp; omega
       have w2' : IntKind.i64.wrap ((L1 : Int) + (L2 : Int)) = (L1 : Int) + (L2 : Int) := IntWalk.i64_in _ (by omega)
       have w3' : IntKind.i64.wrap ((n : Int) + ((L1 : Int) + (L2 : Int))) = (n : Int) + ((L1 : Int) + (L2 : Int)) := IntWalk.i64_in _ (by omega)
       go_upto_region 7 with fail
       refine wp_region_held_drew (S := (fun W' : World => Cells W' [(b,o + kk * 22 + 5,.slice a1 L1 c1),(b,o + kk * 22 + 19,.slice a2 L2 c2)])) (by kernel_rfl) (⟨kc m5 (Below.refl _ wr).drew,kc m19 (Below.refl _ wr).drew,trivial⟩) (fun hHeld => ?_)
       refine tkU 0 ?_
       refine tkU 1 ?_
       refine tkU 2 ?_
       refine tkU 3 ?_
       refine tkU 4 ?_
       refine tkU 5 ?_
       refine tkU 6 ?_
       refine tkU 7 ?_
       refine tkU 8 ?_
       refine tkU 9 ?_
       refine tkU 10 ?_
       refine tkU 11 ?_
       refine tkU 12 ?_
       refine tkU 13 ?_
       refine tkU 14 ?_
       refine tkU 15 ?_
       refine tkU 16 ?_
       refine tkU 17 ?_
       refine wpAnyH_done (by kernel_rfl) ?_ _
       have hBd := hB.drew
       clear hB m5 m19 m20
       go_wp2
       refine ⟨⟨kk + 1,n + (L1 + L2),by simp,by simp,hlt,hlt2,by omega,?_,hBd⟩,?_⟩
       ·intro j s' hj hs'
        by_cases hjk : j < kk
        ·exact HA.out j s' hjk hs'
        ·obtain rfl : j = kk := by omega
         rw [HS.out] at hs'
         injection hs' with hs'
         subst hs'
         rw [HL.out.1,HL.out.2.1,HL.out.2.2]
         exact ⟨t1,t2,t3⟩
       ·simp [intOf]
        omega
      ·have d3 : decide ((300 : Int) < (L3 : Int)) = true := by simp; omega
       go_wp2
       go_ret
       exact ⟨⟨false,rfl,by simp⟩,hB⟩
     ·have d2 : decide ((4096 : Int) < (L2 : Int)) = true := by simp; omega
      go_wp2
      go_ret
      exact ⟨⟨false,rfl,by simp⟩,hB⟩
    ·have d1 : decide ((4096 : Int) < (L1 : Int)) = true := by simp; omega
     go_wp2
     go_ret
     exact ⟨⟨false,rfl,by simp⟩,hB⟩
   ·have g2 : decide (kk < 100) = false := by simpa using hlt2
    have g2' : decide ((kk : Int) < 100) = false := by simp; omega
    have d4 : decide ((N : Int) ≤ 100) = false := by simp; omega
    have d4' : decide (N ≤ 100) = false := by simp; omega
    go_wp2
    go_ret
    exact ⟨⟨false,rfl,by simp⟩,hB⟩
  ·have g1 : decide (kk < N) = false := by simpa using hlt
   obtain rfl : N = kk := by omega
   have d4 : decide ((N : Int) ≤ 100) = true := by simp; omega
   have d4' : decide (N ≤ 100) = true := by simp; omega
   obtain ⟨B,hb⟩ : ∃ B,decide ((n : Int) ≤ 8192) = B := ⟨_,rfl⟩
   have hb' : decide (n ≤ 8192) = B := by rw [← hb]; congr 1; simp only [eq_iff_iff]; omega
   go_wp2
   go_ret
   refine ⟨⟨B,rfl,fun _ => ⟨by rw [HH.out.2.2]; exact hk1,fun s hs => ?_⟩⟩,hB⟩
   obtain ⟨j,hj,hjs⟩ := List.getElem_of_mem hs
   exact HA.out j s (by rw [← HH.out.2.2]; exact hj) (by rw [List.getElem?_eq_getElem hj,hjs])
end Go.Proofs.Ytldcihjddebciaa
