/- client: the plain law: what is kept by every call of the code; what it sends is valid. -/
import Derived.Test.YtldcihjddebciaaPClZ
import Derived.Test.YtldcihjddebciaaPCkA
set_option linter.unusedSimpArgs false
set_option linter.unusedVariables false
set_option linter.unusedSimpArgs false
namespace Go.Proofs.Ytldcihjddebciaa
open Go.RowKit
/-- a PDU without a list that passes the check -/
def Okp (p : Pd) : Prop := chkA p.kd p.ask p.ha p.la p.hi p.lo p.of p.mt p.co p.cm p.vs.length 0 [] = 0
theorem okp_2 (m : Int) (h : 23 ≤ m ∧ m ≤ 517) : Okp { pd0 with kd := 2,mt := m } := by
 simp [Okp,pd0,chkA,fldC,anyC,errC,zB,cI,le,leF,unlessI,h]
theorem okp_4 (a b : Nat) (h : a ≠ 0) (h2 : a ≤ b) : Okp { pd0 with kd := 4,ha := a,la := b } := by
 simp [Okp,pd0,chkA,fldC,anyC,errC,zB,cI,le,leF,unlessI,h,h2]
theorem okp_8 (a b hi lo : Nat) (h : a ≠ 0) (h2 : a ≤ b) : Okp { pd0 with kd := 8,ha := a,la := b,hi := hi,lo := lo } := by
 simp [Okp,pd0,chkA,fldC,anyC,errC,zB,cI,le,leF,unlessI,h,h2]
theorem okp_16 (a b hi lo : Nat) (h : a ≠ 0) (h2 : a ≤ b) : Okp { pd0 with kd := 16,ha := a,la := b,hi := hi,lo := lo } := by
 simp [Okp,pd0,chkA,fldC,anyC,errC,zB,cI,le,leF,unlessI,h,h2]
theorem okp_10 (a : Nat) (h : a ≠ 0) : Okp { pd0 with kd := 10,ha := a } := by
 simp [Okp,pd0,chkA,fldC,anyC,errC,zB,cI,le,leF,unlessI,h]
theorem okp_12 (a : Nat) (o : Int) (h : a ≠ 0) (h1 : 0 ≤ o) (h2 : o ≤ 65535) : Okp { pd0 with kd := 12,ha := a,of := o } := by
 simp [Okp,pd0,chkA,fldC,anyC,errC,zB,cI,le,leF,unlessI,h,h1,h2]
theorem okp_18 (a : Nat) (bs : List Nat) (h : a ≠ 0) (h1 : bs.length ≤ 512) : Okp { pd0 with kd := 18,ha := a,vs := bs } := by
 have h1' : (bs.length : Int) ≤ 512 := by omega
 simp [Okp,pd0,chkA,fldC,anyC,errC,zB,cI,le,leF,unlessI,h,h1']
theorem okp_22 (a : Nat) (o : Int) (bs : List Nat) (h : a ≠ 0) (h0 : 0 ≤ o) (h2 : o ≤ 65535) (h1 : bs.length ≤ 512) : Okp { pd0 with kd := 22,ha := a,of := o,vs := bs } := by
 have h1' : (bs.length : Int) ≤ 512 := by omega
 simp [Okp,pd0,chkA,fldC,anyC,errC,zB,cI,le,leF,unlessI,h,h0,h2,h1']
theorem okp_24 (b : Bool) : Okp { pd0 with kd := 24,cm := b } := by
 cases b <;> simp [Okp,pd0,chkA,fldC,anyC,errC,zB,cI,le,leF,unlessI]
theorem okp_next {p : Pd} (hk : p.kd = 4 ∨ p.kd = 8 ∨ p.kd = 16) (h : Okp p) {a : Nat} (h0 : a ≠ 0) (h1 : a ≤ p.la) : Okp { p with ha := a } := by
 obtain ⟨kd,ask,ha,la,hi,lo,of,mt,co,cm,vs⟩ := p
 simp only at hk h1
 unfold Okp at h ⊢
 simp only at h ⊢
 rcases hk with rfl | rfl | rfl <;>
 ·simp [chkA,fldC,anyC,errC,zB,cI,le,leF,unlessI] at h ⊢
  simp [h0,h1]
  split at h
  ·simp at h
  ·rename_i hh
   simpa using hh
theorem okp_piece (mt : Int) (t : Tk) (O : Nat) (hO : t.of = (O : Int)) (h : O ≤ 512) (hz : t.ha ≠ 0) : Okp (pieceP mt t) := by
 refine okp_22 t.ha t.of _ hz (by omega) (by omega) ?_
 have : roomN 22 mt ≤ 512 := by
  unfold roomN roomI
  simp
  omega
 simp only [List.length_take]
 omega
/-- a task that may wait -/
structure Tv (t : Tk) : Prop where
 ok : TkOk t
 kd : 1 ≤ t.kd ∧ t.kd ≤ 9
 vs : t.vs.length ≤ 512
 la : t.la < 65536
 fi : t.kd = 3 ∨ t.kd = 4 → t.fi ≠ 0 ∧ t.fi ≤ t.la
 ha : 5 ≤ t.kd ∧ t.kd ≤ 8 → t.ha ≠ 0
 hb : t.ha < 65536
 bad : t.bad = false
/-- a request that is open, and the task that it belongs to -/
structure Rq (c : Cl) : Prop where
 kd : c.ad.kd = 2 ∨ c.ad.kd = 4 ∨ c.ad.kd = 8 ∨ c.ad.kd = 10 ∨ c.ad.kd = 12 ∨ c.ad.kd = 16 ∨ c.ad.kd = 18 ∨ c.ad.kd = 22 ∨ c.ad.kd = 24
 k16 : c.ad.kd = 16 → c.ad.la = 65535
 la : c.ad.kd = 4 ∨ (c.ad.kd = 8 ∧ ¬ c.tk.kd = 9) → c.ad.la = c.tk.la
 bad : c.ad.kd = 18 → c.tk.bad = false
 hz : c.ad.kd = 10 ∨ c.ad.kd = 12 ∨ c.ad.kd = 22 → c.tk.ha ≠ 0
 ok : Okp c.ad
 of : c.ad.kd = 22 → c.tk.of + (c.ad.vs.length : Int) ≤ (c.tk.vs.length : Int)
/-- sizes -/
structure Inv0 (n : Nat) (c : Cl) : Prop where
 wt : ∀ t ∈ c.wt,Tv t
 wl : c.wt.length ≤ 8
 vs : c.tk.vs.length ≤ 512
 fo : c.tk.fo.length ≤ 300 * n
 ad : c.ad.vs.length ≤ 512
 of : ∃ O : Nat,c.tk.of = (O : Int) ∧ O ≤ c.tk.vs.length
 la : c.tk.la < 65536
 mx : 23 ≤ c.mx ∧ c.mx ≤ 517
/-- what is kept by every call, of which there were n -/
structure Inv (n : Nat) (c : Cl) : Prop extends Inv0 n c where
 rq : c.busy = true → Rq c
 nb : c.busy = false → c.ad.kd = 0
theorem Inv0.more {n m : Nat} {c : Cl} (h : Inv0 n c) (hm : n ≤ m) : Inv0 m c := ⟨h.wt,h.wl,h.vs,Nat.le_trans h.fo (Nat.mul_le_mul_left 300 hm),h.ad,h.of,h.la,h.mx⟩
theorem Inv.more {n m : Nat} {c : Cl} (h : Inv n c) (hm : n ≤ m) : Inv m c := ⟨h.toInv0.more hm,h.rq,h.nb⟩
theorem Inv0.ok {n : Nat} {c : Cl} (h : Inv0 n c) (hn : n ≤ 150) : ClOk c := by
 obtain ⟨O,h1,h2⟩ := h.of
 have := h.vs
 have := h.fo
 exact ⟨fun t ht => (h.wt t ht).ok,by have := h.wl; omega,by omega,by omega,by have := h.ad; omega,⟨O,h1,by omega⟩,h.la⟩
theorem Inv0.wk {n : Nat} {c : Cl} (h : Inv0 n c) : ∀ t ∈ c.wt,TkOk t ∧ 1 ≤ t.kd ∧ t.kd ≤ 9 := fun t ht => ⟨(h.wt t ht).ok,(h.wt t ht).kd⟩
theorem piece_len (mt : Int) (t : Tk) (O : Nat) (hO : t.of = (O : Int)) (hOl : O ≤ t.vs.length) : (pieceP mt t).vs.length ≤ t.vs.length ∧ t.of + ((pieceP mt t).vs.length : Int) ≤ (t.vs.length : Int) := by
 unfold pieceP
 simp only [hO,Int.toNat_natCast,List.length_take,List.length_drop]
 constructor <;> omega
/-- a task that begins -/
theorem inv_begin {n : Nat} {c : Cl} (h : Inv0 n c) (now : Int) {t : Tk} (ht : Tv t) : Inv n ((sp0 c now).begin t).c ∧ ((sp0 c now).begin t).c.busy = true ∧ ((sp0 c now).begin t).ps = [((sp0 c now).begin t).c.ad] ∧ ((sp0 c now).begin t).us = [] := by
 have hof := ht.ok.of
 have hfo := ht.ok.fo
 have hkd := ht.kd
 have key : ∀ p : Pd,firstP c t = some p → p.vs.length ≤ 512 → Rq { c with tk := t,ad := p,since := now,busy := true } → Inv n ((sp0 c now).begin t).c ∧ ((sp0 c now).begin t).c.busy = true ∧ ((sp0 c now).begin t).ps = [((sp0 c now).begin t).c.ad] ∧ ((sp0 c now).begin t).us = [] := fun p hp hl hr => by
  unfold Sp.begin
  simp only [sp0,hp,Sp.send,List.nil_append]
  refine ⟨⟨⟨h.wt,h.wl,ht.vs,by rw [hfo]; exact Nat.zero_le _,hl,⟨0,hof,Nat.zero_le _⟩,ht.la,h.mx⟩,fun _ => hr,fun hb => by cases hb⟩,?_,?_,?_⟩ <;> first | rfl | trivial | simp
 have hpl := piece_len c.mt t 0 hof (Nat.zero_le _)
 have h9 : t.kd = 1 ∨ t.kd = 2 ∨ t.kd = 3 ∨ t.kd = 4 ∨ t.kd = 5 ∨ t.kd = 6 ∨ t.kd = 7 ∨ t.kd = 8 ∨ t.kd = 9 := by omega
 have hpk : (pieceP c.mt t).kd = 22 := rfl
 have hvs := ht.vs
 rcases h9 with e | e | e | e | e | e | e | e | e
 ·exact key { pd0 with kd := 2,mt := c.mx } (by simp [firstP,e]) (by simp [pd0]) ⟨by simp,by simp [pd0],by simp [pd0],by simp [pd0],by simp [pd0],okp_2 _ h.mx,by simp [pd0]⟩
 ·exact key { pd0 with kd := 16,ha := 1,la := 65535,hi := 43980465115136,lo := 9223372588214596859 } (by simp [firstP,e]) (by simp [pd0]) ⟨by simp,by simp,by simp,by simp,by simp,okp_16 1 65535 _ _ (by omega) (by omega),by simp⟩
 ·exact key { pd0 with kd := 8,ha := t.fi,la := t.la,hi := 43993350017024,lo := 9223372588214596859 } (by simp [firstP,e]) (by simp [pd0]) ⟨by simp,by simp,by simp,by simp,by simp,okp_8 _ _ _ _ (by have := ht.fi (by omega); omega) (by have := ht.fi (by omega); omega),by simp⟩
 ·exact key { pd0 with kd := 4,ha := t.fi,la := t.la } (by simp [firstP,e]) (by simp [pd0]) ⟨by simp,by simp,by simp,by simp,by simp,okp_4 _ _ (by have := ht.fi (by omega); omega) (by have := ht.fi (by omega); omega),by simp⟩
 ·exact key { pd0 with kd := 10,ha := t.ha } (by simp [firstP,e]) (by simp [pd0]) ⟨by simp,by simp,by simp,by simp,fun _ => ht.ha (by omega),okp_10 _ (ht.ha (by omega)),by simp⟩
 ·exact key { pd0 with kd := 10,ha := t.ha } (by simp [firstP,e]) (by simp [pd0]) ⟨by simp,by simp,by simp,by simp,fun _ => ht.ha (by omega),okp_10 _ (ht.ha (by omega)),by simp⟩
 ·by_cases hr : (t.vs.length : Int) ≤ roomI 18 c.mt
  ·exact key { pd0 with kd := 18,ha := t.ha,vs := t.vs } (by simp [firstP,e,hr]) (by simpa using hvs) ⟨by simp,by simp,by simp,fun _ => ht.bad,by simp,okp_18 _ _ (ht.ha (by omega)) hvs,by simp⟩
  ·exact key (pieceP c.mt t) (by simp [firstP,e,hr]) (by omega) ⟨by simp [hpk],by simp [hpk],by simp [hpk],by simp [hpk],fun _ => ht.ha (by omega),okp_piece c.mt t 0 hof (by omega) (ht.ha (by omega)),fun _ => hpl.2⟩
 ·exact key (pieceP c.mt t) (by simp [firstP,e]) (by omega) ⟨by simp [hpk],by simp [hpk],by simp [hpk],by simp [hpk],fun _ => ht.ha (by omega),okp_piece c.mt t 0 hof (by omega) (ht.ha (by omega)),fun _ => hpl.2⟩
 ·exact key { pd0 with kd := 8,ha := 1,la := 65535,hi := 47459388624896,lo := 9223372588214596859 } (by simp [firstP,e]) (by simp [pd0]) ⟨by simp,by simp,by simp [e],by simp,by simp,okp_8 1 65535 _ _ (by omega) (by omega),by simp⟩
/-- the task is closed -/
theorem inv_close {n : Nat} {c : Cl} (h : Inv0 n c) (now : Int) (us : List Rs) : Inv n ((⟨c,now,[],us⟩ : Sp).close).c ∧ ((⟨c,now,[],us⟩ : Sp).close).us = us ∧ (((⟨c,now,[],us⟩ : Sp).close).c.busy = false ∧ ((⟨c,now,[],us⟩ : Sp).close).ps = [] ∨ ((⟨c,now,[],us⟩ : Sp).close).c.busy = true ∧ ((⟨c,now,[],us⟩ : Sp).close).ps = [((⟨c,now,[],us⟩ : Sp).close).c.ad]) := by
 cases hw : c.wt with
 |nil =>
  simp only [Sp.close,hw]
  exact ⟨⟨⟨by simp [hw],by simp [hw],by simp [tk0],by simp [tk0],by simp [pd0],⟨0,rfl,Nat.zero_le _⟩,by simp [tk0],h.mx⟩,fun hb => by simp at hb,fun _ => rfl⟩,trivial,.inl ⟨trivial,trivial⟩⟩
 |cons t l =>
  have h0 : Inv0 n { c with busy := false,tk := tk0,ad := pd0,wt := l } := ⟨fun t' ht' => h.wt t' (by rw [hw]; simp [ht']),by have := h.wl; rw [hw] at this; simp at this ⊢; omega,by simp [tk0],by simp [tk0],by simp [pd0],⟨0,rfl,Nat.zero_le _⟩,by simp [tk0],h.mx⟩
  have hb := inv_begin h0 now (h.wt t (by rw [hw]; simp))
  have e : (⟨c,now,[],us⟩ : Sp).close = { (sp0 { c with busy := false,tk := tk0,ad := pd0,wt := l } now).begin t with us := us } := by
   rw [← Sp.begin_us]
   simp [Sp.close,hw]
  rw [e]
  exact ⟨hb.1,rfl,.inr ⟨hb.2.1,hb.2.2.1⟩⟩
/-- what a call leaves: the client's state is kept; a request goes out if and only if the client has begun one -/
def Left (n : Nat) (x : Sp) : Prop := Inv n x.c ∧ (x.c.busy = false ∧ x.ps = [] ∨ x.c.busy = true ∧ x.ps = [x.c.ad]) ∧ x.us.length ≤ 1 ∧ ∀ r ∈ x.us,r.fo.length ≤ 300 * n
theorem left_end {n : Nat} {c : Cl} (h : Inv0 n c) (now : Int) (r : Rs) (hr : r.fo.length ≤ 300 * n) : Left n ((sp0 c now).endd r) := by
 unfold Sp.endd Sp.report sp0
 simp only [List.nil_append]
 have hc := inv_close h now [{ (if r.ha = 0 then { r with ha := c.tk.ha } else r) with tk := c.tk.kd }]
 refine ⟨hc.1,hc.2.2,by rw [hc.2.1]; simp,fun r' hr' => ?_⟩
 rw [hc.2.1] at hr'
 simp only [List.mem_singleton] at hr'
 subst hr'
 split <;> exact hr
theorem left_close {n : Nat} {c : Cl} (h : Inv0 n c) (now : Int) : Left n ((sp0 c now).close) := by
 have hc := inv_close h now []
 exact ⟨hc.1,hc.2.2,by rw [show (sp0 c now).close.us = [] from hc.2.1]; simp,fun r' hr' => by rw [show (sp0 c now).close.us = [] from hc.2.1] at hr'; simp at hr'⟩
theorem left_send {n : Nat} {c : Cl} (h : Inv0 n c) (now : Int) (p : Pd) (hp : p.vs.length ≤ 512) (hr : Rq { c with ad := p,since := now,busy := true }) : Left n ((sp0 c now).send p) :=
 ⟨⟨⟨h.wt,h.wl,h.vs,h.fo,hp,h.of,h.la,h.mx⟩,fun _ => hr,fun hb => by cases hb⟩,.inr ⟨rfl,rfl⟩,by simp [Sp.send,sp0],by simp [Sp.send,sp0]⟩
theorem left_cancel {n : Nat} {c : Cl} (h : Inv0 n c) (now code : Int) : Left n ((sp0 c now).cancel code) := by
 have e : (sp0 c now).cancel code = { (sp0 { c with tk := { c.tk with bad := true } } now).send { pd0 with kd := 24 } with us := [⟨5,c.tk.kd,c.tk.ha,[],[],code⟩] } := by simp [Sp.cancel,Sp.send,Sp.report,sp0]
 rw [e]
 have h1 : Inv0 n { c with tk := { c.tk with bad := true } } := ⟨h.wt,h.wl,h.vs,h.fo,h.ad,h.of,h.la,h.mx⟩
 have := left_send h1 now { pd0 with kd := 24 } (by simp [pd0]) ⟨by simp,by simp,by simp,by simp,by simp,okp_24 false,by simp⟩
 exact ⟨this.1,this.2.1,by simp,by simp⟩
/-- an element of an answer -/
structure ImOk (i : Im) : Prop where
 ha : i.ha < 65536
 la : i.la < 65536
/-- what an answer must be -/
structure AnsOk (p : Pd) (l : List Im) : Prop where
 ne : p.kd = 17 ∨ p.kd = 5 ∨ p.kd = 9 → l ≠ []
 im : ∀ i ∈ l,ImOk i
 len : l.length ≤ 300
theorem ans_kd {n : Nat} {c : Cl} (h : Inv n c) (hb : c.busy = true) {k : Int} (hk : k = ansI c.ad.kd) : (c.ad.kd = 2 ∧ k = 3) ∨ (c.ad.kd = 4 ∧ k = 5) ∨ (c.ad.kd = 8 ∧ k = 9) ∨ (c.ad.kd = 10 ∧ k = 11) ∨ (c.ad.kd = 12 ∧ k = 13) ∨ (c.ad.kd = 16 ∧ k = 17) ∨ (c.ad.kd = 18 ∧ k = 19) ∨ (c.ad.kd = 22 ∧ k = 23) ∨ (c.ad.kd = 24 ∧ k = 25) := by
 rcases (h.rq hb).kd with e | e | e | e | e | e | e | e | e <;> (rw [e] at hk; simp [ansI] at hk; simp [e,hk])
theorem lastI_lt (d : Nat) (h : Im → Nat) {l : List Im} (B : Nat) (hd : d ≤ B) (hl : ∀ i ∈ l,h i ≤ B) : lastI d h l ≤ B := by
 unfold lastI
 cases hq : l.getLast? with
 |none => simpa using hd
 |some i => simpa using hl i (List.mem_of_getLast? hq)
theorem Inv.adk {n : Nat} {c : Cl} (h : Inv n c) : -9223372036854775808 ≤ c.ad.kd ∧ c.ad.kd ≤ 9223372036854775807 := by
 cases hb : c.busy with
 |true => rcases (h.rq hb).kd with e | e | e | e | e | e | e | e | e <;> rw [e] <;> decide
 |false =>
  rw [h.nb hb]
  decide
theorem Inv.al {n : Nat} {c : Cl} (h : Inv n c) (p : Pd) : c.busy = true → p.kd = ansI c.ad.kd → (p.kd = 5 ∨ (p.kd = 9 ∧ ¬ c.tk.kd = 9)) → c.ad.la = c.tk.la := fun hb hk h5 => by
 have hr := h.rq hb
 rcases ans_kd h hb hk with ⟨e,k⟩ | ⟨e,k⟩ | ⟨e,k⟩ | ⟨e,k⟩ | ⟨e,k⟩ | ⟨e,k⟩ | ⟨e,k⟩ | ⟨e,k⟩ | ⟨e,k⟩
 case' inr.inl => exact hr.la (.inl e)
 case' inr.inr.inl => exact hr.la (.inr ⟨e,h5.elim (fun h9 => by omega) (fun h9 => h9.2)⟩)
 all_goals omega
theorem own_tv {t : Tk} (hk : 1 ≤ t.kd ∧ t.kd ≤ 9) (hc : chkP t = 0) (hkd : (Lit.int .i64 t.kd).wf = true) (hla : t.la < 65536) (hha : t.ha < 65536) : Tv (ownP t) := by
 have hm : t.kd = 7 ∨ t.kd = 8 → t.vs.length ≤ 512 := fun h => by
  unfold chkP at hc
  rw [if_neg (by omega),if_neg (by omega),if_pos h] at hc
  split at hc
  ·omega
  ·split at hc
   ·omega
   ·omega
 have hk2 := own_kd t
 refine ⟨?_,by rw [hk2]; exact hk,?_,?_,?_,?_,?_,?_⟩
 ·unfold ownP
  split
  ·exact ⟨rfl,rfl,Nat.zero_le _,hkd⟩
  ·split
   ·exact ⟨rfl,rfl,Nat.zero_le _,hkd⟩
   ·split
    ·exact ⟨rfl,rfl,by have := hm (by assumption); simp only; omega,hkd⟩
    ·exact ⟨rfl,rfl,Nat.zero_le _,hkd⟩
 ·unfold ownP
  split
  ·simp [tk0]
  ·split
   ·simp [tk0]
   ·split
    ·exact hm (by assumption)
    ·simp [tk0]
 ·unfold ownP
  split
  ·exact hla
  ·split
   ·simp [tk0]
   ·split <;> simp [tk0]
 ·intro h
  rw [hk2] at h
  unfold chkP at hc
  unfold ownP
  rw [if_pos h] at hc
  rw [if_pos h]
  split at hc
  ·omega
  ·split at hc
   ·omega
   ·simp only
    omega
 ·intro h
  rw [hk2] at h
  unfold chkP at hc
  unfold ownP
  rw [if_neg (by omega)] at hc
  rw [if_neg (by omega)]
  by_cases h5 : t.kd = 5 ∨ t.kd = 6
  ·rw [if_pos h5] at hc
   rw [if_pos h5]
   split at hc
   ·omega
   ·assumption
  ·rw [if_neg h5,if_pos (by omega)] at hc
   rw [if_neg h5,if_pos (by omega)]
   split at hc
   ·omega
   ·assumption
 ·unfold ownP
  split
  ·simp [tk0]
  ·split
   ·exact hha
   ·split
    ·exact hha
    ·simp [tk0]
 ·unfold ownP
  split
  ·rfl
  ·split
   ·rfl
   ·split <;> rfl
/-- Start: what it leaves -/
theorem left_start {n : Nat} {c : Cl} (h : Inv n c) (t : Tk) (now : Int) (hkd : (Lit.int .i64 t.kd).wf = true) (hla : t.la < 65536) (hha : t.ha < 65536) :
 Inv n (startP c t now).1.c ∧ (startP c t now).1.us = [] ∧ ((startP c t now).1.c.busy = c.busy ∧ (startP c t now).1.c.ad = c.ad ∧ (startP c t now).1.ps = [] ∨ c.busy = false ∧ (startP c t now).1.c.busy = true ∧ (startP c t now).1.ps = [(startP c t now).1.c.ad]) := by
 unfold startP
 by_cases hd : c.dead = true
 ·rw [if_pos hd]
  exact ⟨h,rfl,.inl ⟨rfl,rfl,rfl⟩⟩
 rw [if_neg hd]
 by_cases hk : 1 ≤ t.kd ∧ t.kd ≤ 9
 ·rw [if_neg (fun hh => hh hk)]
  by_cases hc : chkP t = 0
  ·rw [if_neg (fun hh => hh hc)]
   have hv := own_tv hk hc hkd hla hha
   by_cases hb : c.busy = true
   ·rw [if_neg (fun hh => hh hb)]
    by_cases h8 : 8 ≤ c.wt.length
    ·rw [if_pos h8]
     exact ⟨h,rfl,.inl ⟨rfl,rfl,rfl⟩⟩
    ·rw [if_neg h8]
     refine ⟨⟨⟨fun t' ht' => ?_,by simp; omega,h.vs,h.fo,h.ad,h.of,h.la,h.mx⟩,fun hb' => ?_,h.nb⟩,rfl,.inl ⟨rfl,rfl,rfl⟩⟩
     ·rcases List.mem_append.1 ht' with h1 | h1
      ·exact h.wt t' h1
      ·rw [List.mem_singleton.1 h1]
       exact hv
     ·obtain ⟨q1,q2,q3,q4,q5,q6,q7⟩ := h.rq hb'
      exact ⟨q1,q2,q3,q4,q5,q6,q7⟩
   ·rw [if_pos hb]
    have hb2 := inv_begin h.toInv0 now hv
    exact ⟨hb2.1,hb2.2.2.2,.inr ⟨by simpa using hb,hb2.2.1,hb2.2.2.1⟩⟩
  ·rw [if_pos hc]
   exact ⟨h,rfl,.inl ⟨rfl,rfl,rfl⟩⟩
 ·rw [if_pos hk]
  exact ⟨h,rfl,.inl ⟨rfl,rfl,rfl⟩⟩
/-- Expire: what it leaves -/
theorem left_expire {n : Nat} {c : Cl} (h : Inv n c) (now : Int) : Inv n (expireP c now).c ∧ (expireP c now).us.length ≤ 1 ∧ ∀ r ∈ (expireP c now).us,r.fo = [] := by
 unfold expireP
 split
 ·exact ⟨h,Nat.zero_le _,fun r hr => by cases hr⟩
 ·refine ⟨⟨⟨by simp,by simp,by simp [tk0],by simp [tk0],by simp [pd0],⟨0,rfl,Nat.zero_le _⟩,by simp [tk0],h.mx⟩,fun hb => by simp at hb,fun _ => rfl⟩,by simp,fun r hr => ?_⟩
  rw [List.mem_singleton.1 hr]
theorem left_refused {n : Nat} {c : Cl} (h : Inv n c) (now code : Int) : Left n ((sp0 c now).refused code) := by
 unfold Sp.refused
 split
 ·exact left_end h.toInv0 now _ h.fo
 ·split
  ·exact left_end h.toInv0 now _ (Nat.zero_le _)
  ·split
   ·exact left_cancel h.toInv0 now code
   ·split
    ·exact left_close h.toInv0 now
    ·exact left_end h.toInv0 now _ (Nat.zero_le _)
theorem Left.more {n m : Nat} {x : Sp} (h : Left n x) (hm : n ≤ m) : Left m x := ⟨h.1.more hm,h.2.1,h.2.2.1,fun r hr => Nat.le_trans (h.2.2.2 r hr) (Nat.mul_le_mul_left 300 hm)⟩
theorem left_listed {n : Nat} {c : Cl} (h : Inv n c) (hb : c.busy = true) (now : Int) (g : Im → Option Fd) (l : List Im) (last stop : Nat) (hl : l.length ≤ 300) (hk : c.ad.kd = 4 ∨ c.ad.kd = 8 ∨ c.ad.kd = 16) (hle : ∀ fs,gets g l = some fs → last ≤ stop) (hs : stop ≤ c.ad.la) : Left (n + 1) ((sp0 c now).listed (gets g l) last stop) := by
 cases hq : gets g l with
 |none => exact (left_end h.toInv0 now _ (Nat.zero_le _)).more (Nat.le_succ n)
 |some fs =>
  have hlen := gets_len g l fs hq
  have h0 : Inv0 (n + 1) { c with tk := { c.tk with fo := c.tk.fo ++ fs } } := ⟨h.wt,h.wl,h.vs,by simp only [List.length_append]; have := h.fo; omega,h.ad,h.of,h.la,h.mx⟩
  simp only [Sp.listed]
  split
  ·exact left_end h0 now _ h0.fo
  ·rename_i hne
   have hl2 := hle fs hq
   obtain ⟨q1,q2,q3,q4,q5,q6,q7⟩ := h.rq hb
   refine left_send h0 now _ h.ad ⟨q1,q2,q3,fun hh => ?_,fun hh => ?_,okp_next hk q6 (by omega) (show last + 1 ≤ c.ad.la by omega),fun hh => ?_⟩
   ·have : c.ad.kd = 18 := hh
    omega
   ·have : c.ad.kd = 10 ∨ c.ad.kd = 12 ∨ c.ad.kd = 22 := hh
    omega
   ·have : c.ad.kd = 22 := hh
    omega
theorem left_answered {n : Nat} {c : Cl} (h : Inv n c) (hb : c.busy = true) (now : Int) {p : Pd} {l : List Im} (hp : AnsOk p l) (hk : p.kd = ansI c.ad.kd) : Left (n + 1) ((sp0 c now).answered p l) := by
 have hrq := h.rq hb
 have hn := Nat.le_succ n
 obtain ⟨O,hO,hOl⟩ := h.of
 unfold Sp.answered
 rcases ans_kd h hb hk with ⟨e,k⟩ | ⟨e,k⟩ | ⟨e,k⟩ | ⟨e,k⟩ | ⟨e,k⟩ | ⟨e,k⟩ | ⟨e,k⟩ | ⟨e,k⟩ | ⟨e,k⟩
 ·rw [if_pos k]
  have h0 : Inv0 n { c with mt := min p.mt c.mx } := ⟨h.wt,h.wl,h.vs,h.fo,h.ad,h.of,h.la,h.mx⟩
  exact (left_end h0 now _ (Nat.zero_le _)).more hn
 ·rw [if_neg (by omega),if_neg (by omega),if_neg (by omega),if_pos k]
  have hla := hrq.la (.inl e)
  exact left_listed h hb now _ l _ _ hp.len (.inl e) (fun fs hf => by
   have := last_le _ _ _ c.tk.la hf (by show c.tk.la ≤ c.ad.la; omega)
   have h2 : (sp0 c now).c.ad.la = c.ad.la := rfl
   show lastI c.tk.la Im.ha l ≤ c.tk.la
   omega) (by show c.tk.la ≤ c.ad.la; omega)
 ·rw [if_neg (by omega),if_neg (by omega),if_pos k]
  split
  ·unfold Sp.hash
   split
   ·exact (left_end h.toInv0 now _ (Nat.zero_le _)).more hn
   ·split
    ·exact (left_end h.toInv0 now _ (Nat.zero_le _)).more hn
    ·exact (left_end h.toInv0 now _ (Nat.zero_le _)).more hn
  ·rename_i hn9
   have hla := hrq.la (.inr ⟨e,hn9⟩)
   exact left_listed h hb now _ l _ _ hp.len (.inr (.inl e)) (fun fs hf => by
    have := last_le _ _ _ c.tk.la hf (by show c.tk.la ≤ c.ad.la; omega)
    have h2 : (sp0 c now).c.ad.la = c.ad.la := rfl
    show lastI c.tk.la Im.ha l ≤ c.tk.la
    omega) (by show c.tk.la ≤ c.ad.la; omega)
 ·rw [if_neg (by omega),if_neg (by omega),if_neg (by omega),if_neg (by omega),if_pos (by omega)]
  have h0 : Inv0 (n + 1) { c with tk := { c.tk with vs := (c.tk.vs ++ p.vs).take 512 } } := ⟨h.wt,h.wl,by simp only [List.length_take]; omega,by have := h.fo; simp only; omega,h.ad,⟨O,hO,by have := h.vs; simp only [List.length_take,List.length_append]; omega⟩,h.la,h.mx⟩
  unfold Sp.read
  split
  ·exact left_send h0 now _ (by simp [pd0]) ⟨by simp,by simp,by simp,by simp,fun _ => hrq.hz (by omega),okp_12 _ _ (hrq.hz (by omega)) (by omega) (by simp only [List.length_take]; omega),by simp⟩
  ·exact left_end h0 now _ (Nat.zero_le _)
 ·rw [if_neg (by omega),if_neg (by omega),if_neg (by omega),if_neg (by omega),if_pos (by omega)]
  have h0 : Inv0 (n + 1) { c with tk := { c.tk with vs := (c.tk.vs ++ p.vs).take 512 } } := ⟨h.wt,h.wl,by simp only [List.length_take]; omega,by have := h.fo; simp only; omega,h.ad,⟨O,hO,by have := h.vs; simp only [List.length_take,List.length_append]; omega⟩,h.la,h.mx⟩
  unfold Sp.read
  split
  ·exact left_send h0 now _ (by simp [pd0]) ⟨by simp,by simp,by simp,by simp,fun _ => hrq.hz (by omega),okp_12 _ _ (hrq.hz (by omega)) (by omega) (by simp only [List.length_take]; omega),by simp⟩
  ·exact left_end h0 now _ (Nat.zero_le _)
 ·rw [if_neg (by omega),if_pos k]
  exact left_listed h hb now _ l _ _ hp.len (.inr (.inr e)) (fun fs _ => lastI_lt 65535 Im.la 65535 (Nat.le_refl _) (fun i hi => by have := (hp.im i hi).la; omega)) (by rw [hrq.k16 e]; exact Nat.le_refl _)
 ·rw [if_neg (by omega),if_neg (by omega),if_neg (by omega),if_neg (by omega),if_neg (by omega),if_neg (by omega),if_neg (by omega),if_pos k]
  exact (left_end h.toInv0 now _ (Nat.zero_le _)).more hn
 ·rw [if_neg (by omega),if_neg (by omega),if_neg (by omega),if_neg (by omega),if_neg (by omega),if_pos k]
  unfold Sp.prepared
  split
  ·rename_i hd
   have hpv : p.vs = c.ad.vs := hd.2.2
   have hle := hrq.of e
   have h0 : Inv0 (n + 1) { c with tk := { c.tk with of := c.tk.of + p.vs.length } } := ⟨h.wt,h.wl,h.vs,by have := h.fo; simp only; omega,h.ad,⟨O + p.vs.length,by simp only [hO]; omega,by simp only; rw [hpv]; omega⟩,h.la,h.mx⟩
   have hpl := piece_len c.mt { c.tk with of := c.tk.of + p.vs.length } (O + p.vs.length) (by simp only [hO]; omega) (by simp only; rw [hpv]; omega)
   split
   ·exact left_send h0 now _ (Nat.le_trans hpl.1 h.vs) ⟨by simp [sp0,pieceP,pd0],by simp [sp0,pieceP,pd0],by simp [sp0,pieceP,pd0],by simp [sp0,pieceP,pd0],fun _ => hrq.hz (by omega),okp_piece c.mt { c.tk with of := c.tk.of + p.vs.length } (O + p.vs.length) (by simp only [hO]; omega) (by have h8 := h.vs; rw [hpv]; omega) (hrq.hz (by omega)),fun _ => hpl.2⟩
   ·exact left_send h0 now _ (by simp [pd0]) ⟨by simp,by simp,by simp,by simp,by simp,okp_24 true,by simp⟩
  ·exact (left_cancel h.toInv0 now 4).more hn
 ·rw [if_neg (by omega),if_neg (by omega),if_neg (by omega),if_neg (by omega),if_neg (by omega),if_neg (by omega),if_pos k]
  split
  ·exact (left_close h.toInv0 now).more hn
  ·exact (left_end h.toInv0 now _ (Nat.zero_le _)).more hn
/-- Handle: what it leaves -/
theorem left_handle {n : Nat} {c : Cl} (h : Inv n c) (now : Int) {p : Pd} {l : List Im} (hp : AnsOk p l) :
 Inv (n + 1) (handleP c p l now).c ∧ (handleP c p l now).us.length ≤ 1 ∧ (∀ r ∈ (handleP c p l now).us,r.fo.length ≤ 300 * (n + 1)) ∧
  (if c.dead = false ∧ c.busy = true ∧ (p.kd = 1 ∧ p.ask = c.ad.kd ∨ p.kd = ansI c.ad.kd) then ((handleP c p l now).c.busy = false ∧ (handleP c p l now).ps = [] ∨ (handleP c p l now).c.busy = true ∧ (handleP c p l now).ps = [(handleP c p l now).c.ad])
   else (handleP c p l now).c = c ∧ ((handleP c p l now).ps = [] ∨ (handleP c p l now).ps = [{ pd0 with kd := 30 }])) := by
 unfold handleP
 by_cases hd : c.dead = true
 ·rw [if_pos hd,if_neg (fun hh => by rw [hd] at hh; exact absurd hh.1 (by decide))]
  exact ⟨h.more (Nat.le_succ n),Nat.zero_le _,(fun r hr => by cases hr),rfl,.inl rfl⟩
 rw [if_neg hd]
 have hd' : c.dead = false := by simpa using hd
 have hns : p.kd = 27 ∨ p.kd = 29 → ¬ (c.dead = false ∧ c.busy = true ∧ (p.kd = 1 ∧ p.ask = c.ad.kd ∨ p.kd = ansI c.ad.kd)) := fun hk hh => by
  rcases hh.2.2 with h1 | h1
  ·omega
  ·rcases ans_kd h hh.2.1 h1 with e | e | e | e | e | e | e | e | e <;> omega
 by_cases h27 : p.kd = 27
 ·rw [if_pos h27,if_neg (hns (.inl h27))]
  exact ⟨h.more (Nat.le_succ n),by simp,(fun r hr => by rw [List.mem_singleton.1 hr]; simp),rfl,.inl rfl⟩
 rw [if_neg h27]
 by_cases h29 : p.kd = 29
 ·rw [if_pos h29,if_neg (hns (.inr h29))]
  exact ⟨h.more (Nat.le_succ n),by simp,(fun r hr => by rw [List.mem_singleton.1 hr]; simp),rfl,.inr rfl⟩
 rw [if_neg h29]
 by_cases h1 : c.busy = true ∧ p.kd = 1 ∧ p.ask = c.ad.kd
 ·rw [if_pos h1,if_pos ⟨hd',h1.1,.inl h1.2⟩]
  have hl := (left_refused h now p.co).more (Nat.le_succ n)
  exact ⟨hl.1,hl.2.2.1,hl.2.2.2,hl.2.1⟩
 rw [if_neg h1]
 by_cases h2 : c.busy = true ∧ p.kd = ansI c.ad.kd
 ·rw [if_pos h2,if_pos ⟨hd',h2.1,.inr h2.2⟩]
  have hl := left_answered h h2.1 now hp h2.2
  exact ⟨hl.1,hl.2.2.1,hl.2.2.2,hl.2.1⟩
 ·rw [if_neg h2,if_neg (fun hh => hh.2.2.elim (fun h3 => h1 ⟨hh.2.1,h3⟩) (fun h3 => h2 ⟨hh.2.1,h3⟩))]
  exact ⟨h.more (Nat.le_succ n),Nat.zero_le _,(fun r hr => by cases hr),rfl,.inl rfl⟩
end Go.Proofs.Ytldcihjddebciaa
