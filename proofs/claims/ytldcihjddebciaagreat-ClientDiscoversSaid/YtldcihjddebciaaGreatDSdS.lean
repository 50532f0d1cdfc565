/- client with a server: plain: services, characteristics, attributes and the hash are found. And what follows it. -/
import Derived.Test.YtldcihjddebciaaGreatDSeQ
import Derived.Test.YtldcihjddebciaaGreatDSvE
import Derived.Test.YtldcihjddebciaaGreatDSdG
import Derived.Test.YtldcihjddebciaaGreatDCells
set_option linter.unusedSimpArgs false
set_option linter.unusedVariables false
set_option maxRecDepth 100000
namespace Go.Proofs.YtldcihjddebciaaGreat
open Go.RowKit
theorem Gdb.pw {db : List At} (h : Gdb db) : db.Pairwise (fun a b => a.ha < b.ha) := List.pairwise_iff_getElem.2 (fun i j hi hj hij => by
 rw [atI_get hi,atI_get hj]
 exact h.lt j hij hj)
theorem pw_drop {L : List At} (h : L.Pairwise (fun a b => a.ha < b.ha)) {k : Nat} (hk0 : 0 < k) (hk : k ≤ L.length) : L.filter (fun x => decide ((atI L (k - 1)).ha < x.ha)) = L.drop k := by
 have hp := List.pairwise_iff_getElem.1 h
 have h1 : (L.take k).filter (fun x => decide ((atI L (k - 1)).ha < x.ha)) = [] := List.filter_eq_nil_iff.2 fun x hx => by
  obtain ⟨j,hj,e⟩ := List.getElem_of_mem hx
  rw [List.length_take] at hj
  rw [List.getElem_take] at e
  rw [← e,← atI_get (show k - 1 < L.length by omega)]
  by_cases c : j = k - 1
  ·subst c
   simp
  ·have := hp j (k - 1) (by omega) (by omega) (by omega)
   simp
   omega
 have h2 : (L.drop k).filter (fun x => decide ((atI L (k - 1)).ha < x.ha)) = L.drop k := List.filter_eq_self.2 fun x hx => by
  obtain ⟨j,hj,e⟩ := List.getElem_of_mem hx
  rw [List.length_drop] at hj
  rw [List.getElem_drop] at e
  rw [← e,← atI_get (show k - 1 < L.length by omega)]
  have := hp (k - 1) (k + j) (by omega) (by omega) (by omega)
  simpa using this
 have h3 := List.filter_append (p := fun x => decide ((atI L (k - 1)).ha < x.ha)) (L.take k) (L.drop k)
 rw [List.take_append_drop,h1,h2,List.nil_append] at h3
 exact h3
def inP (P : At → Bool) (A B : Int) (x : At) : Bool := inB A B x && P x
theorem rng_next {db : List At} (h : Gdb db) (P : At → Bool) (A B : Int) {k : Nat} (hk0 : 0 < k) (hk : k ≤ (db.filter (inP P A B)).length) :
 db.filter (inP P ((atI (db.filter (inP P A B)) (k - 1)).ha + 1) B) = (db.filter (inP P A B)).drop k := by
 have hpw : (db.filter (inP P A B)).Pairwise (fun a b => a.ha < b.ha) := h.pw.filter _
 rw [← pw_drop hpw hk0 hk,List.filter_filter]
 have hm : inP P A B (atI (db.filter (inP P A B)) (k - 1)) = true := by
  rw [← atI_get (by omega)]
  exact (List.mem_filter.1 (List.getElem_mem (show k - 1 < (db.filter (inP P A B)).length by omega))).2
 generalize (atI (db.filter (inP P A B)) (k - 1)) = y at hm
 unfold inP inB at hm
 simp only [Bool.and_eq_true,decide_eq_true_eq] at hm
 refine List.filter_congr fun x _ => ?_
 unfold inP inB
 rw [Bool.eq_iff_iff]
 simp only [Bool.and_eq_true,decide_eq_true_eq]
 constructor
 ·rintro ⟨⟨h1,h2⟩,h3⟩
  exact ⟨by omega,⟨by omega,h2⟩,h3⟩
 ·rintro ⟨h1,⟨h2,h4⟩,h3⟩
  exact ⟨⟨by omega,h4⟩,h3⟩
theorem at_mem {L : List At} {k : Nat} (h : k < L.length) : atI L k ∈ L := by rw [← atI_get h]; exact List.getElem_mem h
theorem gets_map (g : Im → Option Fd) (im : At → Im) (tof : At → Fd) : ∀ l : List At,(∀ x ∈ l,g (im x) = some (tof x)) → gets g (l.map im) = some (l.map tof)
 |[],_ => rfl
 |x :: l,h => by
  rw [List.map_cons,gets,h x (by simp),gets_map g im tof l (fun y hy => h y (by simp [hy]))]
  rfl
theorem lastI_map (d : Nat) (h : Im → Nat) (im : At → Im) (L : List At) {k : Nat} (hk0 : 0 < k) (hk : k ≤ L.length) : lastI d h ((L.take k).map im) = h (im (atI L (k - 1))) := by
 obtain ⟨j,rfl⟩ : ∃ j,k = j + 1 := ⟨k - 1,by omega⟩
 rw [List.map_take]
 refine lastI_snoc d h (L.map im) j (im (atI L (j + 1 - 1))) ?_
 rw [List.getElem?_map,List.getElem?_eq_getElem (show j < L.length by omega),Nat.add_sub_cancel,← atI_get (show j < L.length by omega)]
 rfl
theorem last_full {db : List At} (h : Gdb db) (P : At → Bool) (A B : Int) {k : Nat} (hk0 : 0 < k) (hk : k ≤ (db.filter (inP P A B)).length) (hl : ∀ y ∈ db,P y = true → (atI (db.filter (inP P A B)) (k - 1)).ha < y.ha → B < y.ha) : k = (db.filter (inP P A B)).length := by
 by_cases c : k = (db.filter (inP P A B)).length
 ·exact c
 ·have h1 := at_mem (L := db.filter (inP P A B)) (k := k) (by omega)
  obtain ⟨h2,h3⟩ := List.mem_filter.1 h1
  have hpw : (db.filter (inP P A B)).Pairwise (fun a b => a.ha < b.ha) := h.pw.filter _
  have h4 := List.pairwise_iff_getElem.1 hpw (k - 1) k (by omega) (by omega) (by omega)
  rw [atI_get (by omega),atI_get (by omega)] at h4
  obtain ⟨y,hy⟩ : ∃ y,atI (db.filter (inP P A B)) k = y := ⟨_,rfl⟩
  rw [hy] at h2 h3 h4
  unfold inP inB at h3
  simp only [Bool.and_eq_true,decide_eq_true_eq] at h3
  have h5 := hl _ h2 h3.2 h4
  omega
/-- what is found: an attribute, a characteristic, a service -/
def tofD (x : At) : Fd := ⟨x.ha,0,0,0,x.hi,x.lo⟩
def tofC (x : At) : Fd := ⟨x.ha,0,(chP x.bs).2.1,(chP x.bs).1,(chP x.bs).2.2.1,(chP x.bs).2.2.2.1⟩
def tofS (db : List At) (x : At) : Fd := ⟨x.ha,grLast db x.ha,0,0,((decR x.bs).1 : Nat),((decR x.bs).2.1 : Nat)⟩
theorem room_5 {mx : Int} (_h : 23 ≤ mx) : 21 ≤ roomI 5 mx ∧ 21 ≤ roomI 9 mx ∧ 21 ≤ roomI 17 mx := by
 have h2 : mtuI mx = max 23 (min mx 517) := rfl
 have h3 : roomI 5 mx = mtuI mx - 2 := rfl
 have h4 : roomI 9 mx = mtuI mx - 2 := rfl
 have h5 : roomI 17 mx = mtuI mx - 2 := rfl
 omega
theorem findS_nil (s : Ss) (p : Pd) (h : rangeL s.db p.ha p.la = []) : findS s p = (errP p p.ha 10,[]) := if_pos h
theorem findS_ne (s : Ss) (p : Pd) (h : ¬ rangeL s.db p.ha p.la = []) : findS s p = ({ pd0 with kd := 5 },((rangeL s.db p.ha p.la).take (firstNo (fdC s.mt (rangeL s.db p.ha p.la)) (rangeL s.db p.ha p.la).length)).map itF) := if_neg h
def rqF (a b : Nat) : Pd := { pd0 with kd := 4,ha := a,la := b }
theorem rangeL_inP (db : List At) (A B : Int) : rangeL db A B = db.filter (inP (fun _ => true) A B) := by
 unfold rangeL
 refine List.filter_congr fun x _ => ?_
 simp [inP]
theorem run_descs (HF : List At → Nat) (db : List At) (mx : Int) (hg : Gdb db) (hw : DbW db) (hmx : 23 ≤ mx ∧ mx ≤ 517) (F La : Nat) (hF : F ≠ 0) (hFL : F ≤ La) (hLa : La < 65536) :
 ∃ c1 q,(startP (idle mx mx 0) { tk0 with kd := 4,fi := F,la := La } 0).2 = 0 ∧ (startP (idle mx mx 0) { tk0 with kd := 4,fi := F,la := La } 0).1.c = c1 ∧ (startP (idle mx mx 0) { tk0 with kd := 4,fi := F,la := La } 0).1.ps = [q] ∧ PlayG (stD HF) GoodD 3000 c1 ⟨db,mx,mx,[]⟩ q ⟨2,4,0,[],(rangeL db F La).map tofD,0⟩ (idle mx mx 0) ⟨db,mx,mx,[]⟩ := by
 have hs := start_own mx { tk0 with kd := 4,fi := F,la := La } (rqF F La) (by simp) (by simp [chkP,hF]; omega) (by simp [firstP,ownP,rqF])
 refine ⟨_,_,hs.1,hs.2.1,hs.2.2,?_⟩
 have hlen : ∀ a : Nat,(rangeL db a La).length ≤ 1000 := fun a => Nat.le_trans (List.length_filter_le _ _) hg.big
 have h := play_disc (HF := HF) ⟨db,mx,mx,[]⟩ mx { tk0 with kd := 4,fi := F,la := La } (fun a => rqF a La) (fun a => rangeL db a La) tofD itF (.inr (.inr rfl)) rfl (fun a => .inl rfl) (fun a b => rfl)
  (fun a fo hfo => ⟨ok_actD _ _ _ rfl (by show fo.length ≤ 50000; omega) rfl rfl hLa,rfl,rfl,.inr (.inl rfl),hg,hw,by show 0 ≤ mx ∧ mx ≤ 100000; omega,fun _ => rfl,fun hk => (by have hk : (4 : Int) = 8 := hk; omega),fun hk => (by have hk : (4 : Int) = 16 := hk; omega)⟩)
  (fun a ha => by
   show ((⟨db,mx,mx,[]⟩ : Ss),findS ⟨db,mx,mx,[]⟩ (rqF a La)) = _
   rw [findS_nil ⟨db,mx,mx,[]⟩ (rqF a La) ha]
   rfl)
  (fun a ha => by
   obtain ⟨L,hL⟩ : ∃ L,rangeL db a La = L := ⟨_,rfl⟩
   simp only [hL] at ha ⊢
   have hl0 : 0 < L.length := List.length_pos_iff.2 ha
   have hc0 : fdC mx L 0 = true := by
    unfold fdC
    have := (room_5 hmx.1).1
    simp only [beq_self_eq_true,Bool.true_and,decide_eq_true_eq]
    split <;> omega
   have hk0 := firstNo_pos hl0 hc0
   have hkl := firstNo_le (fdC mx L) L.length
   have hlast := lastI_map La Im.ha itF L hk0 hkl
   have hmem : ∀ x ∈ L,x ∈ db ∧ (a : Int) ≤ x.ha ∧ x.ha ≤ (La : Int) := fun x hx => by
    rw [← hL] at hx
    obtain ⟨h1,h2⟩ := List.mem_filter.1 hx
    unfold inB at h2
    simp only [Bool.and_eq_true,decide_eq_true_eq] at h2
    exact ⟨h1,h2⟩
   refine ⟨firstNo (fdC mx L) L.length,lastI La Im.ha ((L.take (firstNo (fdC mx L) L.length)).map itF),La,hk0,hkl,?_,fun fo => ?_,?_⟩
   ·show ((⟨db,mx,mx,[]⟩ : Ss),findS ⟨db,mx,mx,[]⟩ (rqF a La)) = _
    rw [findS_ne ⟨db,mx,mx,[]⟩ (rqF a La) (by show ¬ rangeL db a La = []; rw [hL]; exact ha),show rangeL (⟨db,mx,mx,[]⟩ : Ss).db ((rqF a La).ha : Int) ((rqF a La).la : Int) = L from hL]
    rfl
   ·have hgt := gets_map (elF (fun i => some (descF i)) a La) itF tofD (L.take (firstNo (fdC mx L) L.length)) (fun x hx => by
     obtain ⟨h1,h2,h3⟩ := hmem x (List.mem_of_mem_take hx)
     have h4 := mem_wd hw h1
     unfold elF
     rw [if_pos (by simp only [itF]; omega)]
     simp only [descF,itF,tofD,Option.some.injEq,Fd.mk.injEq,and_true,true_and]
     omega)
    exact congrArg (fun r => (⟨act mx mx 0 { tk0 with kd := 4,fi := F,la := La,fo := fo } (rqF a La),0,[],[]⟩ : Sp).listed r (lastI La Im.ha ((L.take (firstNo (fdC mx L) L.length)).map itF)) La) hgt
   ·have hx := hmem _ (at_mem (L := L) (k := firstNo (fdC mx L) L.length - 1) (by omega))
    have hw1 := mem_wd hw hx.1
    rw [hlast]
    have hL2 : L = db.filter (inP (fun _ => true) a La) := by rw [← hL,rangeL_inP]
    by_cases c : (itF (atI L (firstNo (fdC mx L) L.length - 1))).ha = La
    ·refine .inl ⟨c,?_⟩
     simp only [itF] at c
     rw [hL2] at hk0 hkl c ⊢
     exact last_full hg (fun _ => true) a La hk0 hkl (fun y _ _ hy => by omega)
    ·refine .inr ⟨c,?_⟩
     simp only [itF] at c ⊢
     rw [rangeL_inP]
     have hn := rng_next hg (fun _ => true) a La (k := firstNo (fdC mx L) L.length) hk0 (by rw [← hL2]; exact hkl)
     rw [← hL2] at hn
     rw [← hn]
     congr 2
     omega)
  1000 F [] (hlen F) (by have := hlen F; simp only [List.length_nil]; omega)
 exact h.mono (by omega)
theorem candL_inP (db : List At) (A B hi lo : Int) : candL db A B hi lo = db.filter (inP (fun x => x.hi == hi && x.lo == lo) A B) := rfl
theorem decR_len {bs : List Nat} (h : (decR bs).2.2 = 0) : bs.length = 2 ∨ bs.length = 16 := by
 unfold decR at h
 split at h
 ·exact .inl (by assumption)
 ·split at h
  ·cases h
  ·split at h
   ·cases h
   ·exact .inr (by omega)
theorem cand_mem {db : List At} {A B hi lo : Int} {x : At} (hx : x ∈ candL db A B hi lo) : x ∈ db ∧ (A ≤ x.ha ∧ x.ha ≤ B) ∧ x.hi = hi ∧ x.lo = lo := by
 obtain ⟨h1,h2⟩ := List.mem_filter.1 hx
 unfold inT inB at h2
 simp only [Bool.and_eq_true,decide_eq_true_eq,beq_iff_eq] at h2
 exact ⟨h1,h2.1,h2.2⟩
theorem ch_mem {db : List At} (hg : Gdb db) {x : At} (hx : x ∈ db) (hc : chU x.hi x.lo = true) : (chP x.bs).2.2.2.2 = true ∧ 0 < (chP x.bs).2.1 := by
 obtain ⟨j,hj,e⟩ := List.getElem_of_mem hx
 rw [atI_get hj] at e
 have h := hg.chr j hj (by unfold chA; rw [e]; exact hc)
 rw [e] at h
 exact ⟨h.2.2.2.2.2,by rw [← h.2.1]; exact hg.pos (j + 1) h.1⟩
theorem charF_ok {bs : List Nat} (h : (chP bs).2.2.2.2 = true) (h0 : 0 < (chP bs).2.1) (ha la hi lo : Nat) : charF ⟨ha,la,hi,lo,bs⟩ = some ⟨ha,0,(chP bs).2.1,(chP bs).1,(chP bs).2.2.1,(chP bs).2.2.2.1⟩ ∧ bs.length ≤ 19 := by
 match bs,h,h0 with
 |[],h,_ => simp [chP] at h
 |[_],h,_ => simp [chP] at h
 |[_,_],h,_ => simp [chP] at h
 |x0 :: x1 :: x2 :: r,h,h0 =>
  have e : chP (x0 :: x1 :: x2 :: r) = ((x0 : Int),((vnum [x1,x2] : Nat) : Int),(((decR r).1 : Nat) : Int),(((decR r).2.1 : Nat) : Int),(decR r).2.2 == 0) := by
   unfold chP
   rw [if_neg (by simp only [List.length_cons]; omega)]
   rfl
  rw [e] at h h0 ⊢
  simp only [beq_iff_eq] at h h0 ⊢
  have hv : vnum [x1,x2] = x2 * 256 + x1 := by simp [vnum]
  rw [hv] at h0 ⊢
  have hl := decR_len h
  refine ⟨?_,by simp only [List.length_cons]; omega⟩
  unfold charF
  simp only
  rw [if_pos ⟨by omega,h⟩]
def rqT (hi lo a b : Nat) : Pd := { pd0 with kd := 8,ha := a,la := b,hi := hi,lo := lo }
theorem typeS_nil (HF : List At → Nat) (s : Ss) (p : Pd) (h : candL s.db p.ha p.la p.hi p.lo = []) : typeS HF s p = (errP p p.ha 10,[]) := by
 unfold typeS typeL
 rw [h]
 rfl
theorem typeS_ne (HF : List At → Nat) (s : Ss) (p : Pd) (hc : tyC HF s (candL s.db p.ha p.la p.hi p.lo) 0 = true) (h : ¬ candL s.db p.ha p.la p.hi p.lo = []) : typeS HF s p = ({ pd0 with kd := 9 },((candL s.db p.ha p.la p.hi p.lo).take (firstNo (tyC HF s (candL s.db p.ha p.la p.hi p.lo)) (candL s.db p.ha p.la p.hi p.lo).length)).map (itT HF s)) := by
 have hl0 : 0 < (candL s.db p.ha p.la p.hi p.lo).length := List.length_pos_iff.2 h
 have h1 := firstNo_pos hl0 hc
 unfold typeS
 rw [if_neg]
 ·rfl
 ·unfold typeL
  intro e
  have := congrArg List.length e
  rw [List.length_map,List.length_take] at this
  simp only [List.length_nil] at this
  omega
theorem run_chars (HF : List At → Nat) (db : List At) (mx : Int) (hg : Gdb db) (hw : DbW db) (hmx : 23 ≤ mx ∧ mx ≤ 517) (hrd : ∀ x ∈ db,chU x.hi x.lo = true → rdB x = true) (F La : Nat) (hF : F ≠ 0) (hFL : F ≤ La) (hLa : La < 65536) :
 ∃ c1 q,(startP (idle mx mx 0) { tk0 with kd := 3,fi := F,la := La } 0).2 = 0 ∧ (startP (idle mx mx 0) { tk0 with kd := 3,fi := F,la := La } 0).1.c = c1 ∧ (startP (idle mx mx 0) { tk0 with kd := 3,fi := F,la := La } 0).1.ps = [q] ∧ PlayG (stD HF) GoodD 3000 c1 ⟨db,mx,mx,[]⟩ q ⟨2,3,0,[],(candL db F La 43993350017024 9223372588214596859).map tofC,0⟩ (idle mx mx 0) ⟨db,mx,mx,[]⟩ := by
 have hs := start_own mx { tk0 with kd := 3,fi := F,la := La } (rqT 43993350017024 9223372588214596859 F La) (by simp) (by simp [chkP,hF]; omega) (by simp [firstP,ownP,rqT])
 refine ⟨_,_,hs.1,hs.2.1,hs.2.2,?_⟩
 have hlen : ∀ a : Nat,(candL db a La 43993350017024 9223372588214596859).length ≤ 1000 := fun a => Nat.le_trans (List.length_filter_le _ _) hg.big
 have hch : ∀ x : At,x.hi = 43993350017024 ∧ x.lo = 9223372588214596859 → chU x.hi x.lo = true := fun x h => by rw [h.1,h.2]; rfl
 have h := play_disc (HF := HF) ⟨db,mx,mx,[]⟩ mx { tk0 with kd := 3,fi := F,la := La } (fun a => rqT 43993350017024 9223372588214596859 a La) (fun a => candL db a La 43993350017024 9223372588214596859) tofC (itT HF ⟨db,mx,mx,[]⟩) (.inr (.inl rfl)) rfl (fun a => .inr (.inl rfl)) (fun a b => rfl)
  (fun a fo hfo => ⟨ok_actD _ _ _ rfl (by show fo.length ≤ 50000; omega) rfl rfl hLa,rfl,rfl,.inr (.inr (.inl rfl)),hg,hw,by show 0 ≤ mx ∧ mx ≤ 100000; omega,fun _ => rfl,fun _ i hi hin => (by
   have hin' : inT (a : Int) (La : Int) 43993350017024 9223372588214596859 (atI db i) = true := hin
   have hx := cand_mem (x := atI db i) (List.mem_filter.2 ⟨at_mem hi,hin'⟩)
   refine ⟨hrd _ hx.1 (hch _ hx.2.2),.inr ⟨fun h => ?_,fun h => ?_⟩⟩ <;> (rw [hx.2.2.1] at h; exact absurd h.1 (by decide))),fun hk => (by have hk : (8 : Int) = 16 := hk; omega)⟩)
  (fun a ha => by
   show ((⟨db,mx,mx,[]⟩ : Ss),typeS HF ⟨db,mx,mx,[]⟩ (rqT 43993350017024 9223372588214596859 a La)) = _
   rw [typeS_nil HF ⟨db,mx,mx,[]⟩ (rqT 43993350017024 9223372588214596859 a La) ha]
   rfl)
  (fun a ha => by
   obtain ⟨L,hL⟩ : ∃ L,candL db a La 43993350017024 9223372588214596859 = L := ⟨_,rfl⟩
   simp only [hL] at ha ⊢
   have hl0 : 0 < L.length := List.length_pos_iff.2 ha
   have hmem : ∀ x ∈ L,x ∈ db ∧ ((a : Int) ≤ x.ha ∧ x.ha ≤ (La : Int)) ∧ x.hi = 43993350017024 ∧ x.lo = 9223372588214596859 := fun x hx => cand_mem (by rw [hL]; exact hx)
   have hcv : ∀ x ∈ L,cutV HF ⟨db,mx,mx,[]⟩ x = x.bs ∧ x.bs.length ≤ 19 := fun x hx => by
    obtain ⟨h1,h2,h3⟩ := hmem x hx
    obtain ⟨h4,h5⟩ := ch_mem hg h1 (hch x h3)
    have h6 := (charF_ok h4 h5 0 0 0 0).2
    refine ⟨?_,h6⟩
    unfold cutV shV
    rw [if_neg (by rw [h3.1]; unfold isU; simp)]
    exact List.take_of_length_le (by show x.bs.length ≤ (min (mx - 4) 253).toNat; omega)
   have hc0 : tyC HF ⟨db,mx,mx,[]⟩ L 0 = true := by
    unfold tyC
    have h1 := (room_5 hmx.1).2.1
    obtain ⟨h2,h3⟩ := hcv _ (at_mem hl0)
    rw [h2]
    simp only [beq_self_eq_true,Bool.true_and,decide_eq_true_eq]
    omega
   have hk0 := firstNo_pos hl0 hc0
   have hkl := firstNo_le (tyC HF ⟨db,mx,mx,[]⟩ L) L.length
   have hlast := lastI_map La Im.ha (itT HF ⟨db,mx,mx,[]⟩) L hk0 hkl
   refine ⟨firstNo (tyC HF ⟨db,mx,mx,[]⟩ L) L.length,lastI La Im.ha ((L.take (firstNo (tyC HF ⟨db,mx,mx,[]⟩ L) L.length)).map (itT HF ⟨db,mx,mx,[]⟩)),La,hk0,hkl,?_,fun fo => ?_,?_⟩
   ·show ((⟨db,mx,mx,[]⟩ : Ss),typeS HF ⟨db,mx,mx,[]⟩ (rqT 43993350017024 9223372588214596859 a La)) = _
    rw [typeS_ne HF ⟨db,mx,mx,[]⟩ (rqT 43993350017024 9223372588214596859 a La) (by show tyC HF ⟨db,mx,mx,[]⟩ (candL db a La 43993350017024 9223372588214596859) 0 = true; rw [hL]; exact hc0) (by show ¬ candL db a La 43993350017024 9223372588214596859 = []; rw [hL]; exact ha),show candL (⟨db,mx,mx,[]⟩ : Ss).db ((rqT 43993350017024 9223372588214596859 a La).ha : Int) ((rqT 43993350017024 9223372588214596859 a La).la : Int) ((rqT 43993350017024 9223372588214596859 a La).hi : Int) ((rqT 43993350017024 9223372588214596859 a La).lo : Int) = L from hL]
    rfl
   ·have hgt := gets_map (elF charF a La) (itT HF ⟨db,mx,mx,[]⟩) tofC (L.take (firstNo (tyC HF ⟨db,mx,mx,[]⟩ L) L.length)) (fun x hx => by
     have hx := List.mem_of_mem_take hx
     obtain ⟨h1,h2,h3⟩ := hmem x hx
     have h4 := mem_wd hw h1
     obtain ⟨h5,h6⟩ := ch_mem hg h1 (hch x h3)
     unfold elF
     rw [if_pos (by simp only [itT]; omega)]
     unfold itT
     rw [(hcv x hx).1,(charF_ok h5 h6 _ _ _ _).1]
     simp only [tofC,Option.some.injEq,Fd.mk.injEq,and_true]
     omega)
    exact congrArg (fun r => (⟨act mx mx 0 { tk0 with kd := 3,fi := F,la := La,fo := fo } (rqT 43993350017024 9223372588214596859 a La),0,[],[]⟩ : Sp).listed r (lastI La Im.ha ((L.take (firstNo (tyC HF ⟨db,mx,mx,[]⟩ L) L.length)).map (itT HF ⟨db,mx,mx,[]⟩))) La) hgt
   ·have hx := hmem _ (at_mem (L := L) (k := firstNo (tyC HF ⟨db,mx,mx,[]⟩ L) L.length - 1) (by omega))
    have hw1 := mem_wd hw hx.1
    rw [hlast]
    have hL2 : L = db.filter (inP (fun x => x.hi == 43993350017024 && x.lo == 9223372588214596859) a La) := by rw [← hL,candL_inP]
    generalize firstNo (tyC HF ⟨db,mx,mx,[]⟩ L) L.length = k at hk0 hkl hx hw1 ⊢
    by_cases c : (itT HF ⟨db,mx,mx,[]⟩ (atI L (k - 1))).ha = La
    ·refine .inl ⟨c,?_⟩
     simp only [itT] at c
     rw [hL2] at hkl c ⊢
     exact last_full hg _ a La hk0 hkl (fun y _ _ hy => by omega)
    ·refine .inr ⟨c,?_⟩
     simp only [itT] at c ⊢
     rw [candL_inP]
     have hn := rng_next hg (fun x => x.hi == 43993350017024 && x.lo == 9223372588214596859) a La (k := k) hk0 (by rw [← hL2]; exact hkl)
     rw [← hL2] at hn
     rw [← hn]
     congr 2
     omega)
  1000 F [] (hlen F) (by have := hlen F; simp only [List.length_nil]; omega)
 exact h.mono (by omega)
/-- the last handle of a group lies ahead of the next service -/
theorem lastOf_lt : ∀ (l : List At) (h : Int) (y : At),l.Pairwise (fun a b => a.ha < b.ha) → (∀ x ∈ l,h < x.ha) → y ∈ l → svU y.hi y.lo = true → lastOf h l < y.ha
 |[],_,_,_,_,hy,_ => by cases hy
 |b :: r,h,y,hp,hh,hy,hs => by
  unfold lastOf
  by_cases hb : svU b.hi b.lo = true
  ·rw [if_pos hb]
   exact hh y hy
  ·rw [if_neg hb]
   rcases List.mem_cons.1 hy with e | e
   ·rw [e] at hs
    exact absurd hs hb
   ·exact lastOf_lt r b.ha y (List.pairwise_cons.1 hp).2 (fun x hx => (List.pairwise_cons.1 hp).1 x hx) e hs
theorem grLast_spec {db : List At} (hg : Gdb db) {x : At} (hx : x ∈ db) : x.ha ≤ grLast db x.ha ∧ ∀ y ∈ db,svU y.hi y.lo = true → x.ha < y.ha → grLast db x.ha < y.ha := by
 obtain ⟨i,hi,e⟩ := List.getElem_of_mem hx
 rw [atI_get hi] at e
 have hf := findN_at hg hi
 rw [e] at hf
 unfold grLast
 rw [hf]
 have hgt : ∀ z ∈ db.drop (i + 1),x.ha < z.ha := fun z hz => by
  obtain ⟨j,hj,e2⟩ := List.getElem_of_mem hz
  rw [List.length_drop] at hj
  rw [List.getElem_drop,atI_get (by omega)] at e2
  rw [← e,← e2]
  exact hg.lt _ (by omega) (by omega)
 refine ⟨lastOf_rg (fun z => x.ha ≤ z) _ _ (Int.le_refl _) (fun z hz => Int.le_of_lt (hgt z hz)),fun y hy hs hlt => ?_⟩
 refine lastOf_lt _ _ y (hg.pw.sublist (List.drop_sublist _ _)) hgt ?_ hs
 obtain ⟨j,hj,e2⟩ := List.getElem_of_mem hy
 rw [atI_get hj] at e2
 have hij : i < j := by
  by_cases c : i < j
  ·exact c
  ·by_cases c2 : i = j
   ·rw [← c2,e] at e2
    rw [e2] at hlt
    omega
   ·have := hg.lt (i := j) i (by omega) hi
    rw [e,e2] at this
    omega
 rw [← e2,← atI_get hj,show db[j] = (db.drop (i + 1))[j - (i + 1)]'(by rw [List.length_drop]; omega) by rw [List.getElem_drop]; congr 1; omega]
 exact List.getElem_mem _
def rqG (a : Nat) : Pd := { pd0 with kd := 16,ha := a,la := 65535,hi := 43980465115136,lo := 9223372588214596859 }
theorem groupS_nil (s : Ss) (p : Pd) (h : candL s.db p.ha p.la p.hi p.lo = []) : groupS s p = (errP p p.ha 10,[]) := by
 unfold groupS groupL
 rw [h]
 rfl
theorem groupS_ne (s : Ss) (p : Pd) (hc : grC s (candL s.db p.ha p.la p.hi p.lo) 0 = true) (h : ¬ candL s.db p.ha p.la p.hi p.lo = []) : groupS s p = ({ pd0 with kd := 17 },((candL s.db p.ha p.la p.hi p.lo).take (firstNo (grC s (candL s.db p.ha p.la p.hi p.lo)) (candL s.db p.ha p.la p.hi p.lo).length)).map (itG s.db)) := by
 have hl0 : 0 < (candL s.db p.ha p.la p.hi p.lo).length := List.length_pos_iff.2 h
 have h1 := firstNo_pos hl0 hc
 unfold groupS
 rw [if_neg]
 ·rfl
 ·unfold groupL
  intro e
  have := congrArg List.length e
  rw [List.length_map,List.length_take] at this
  simp only [List.length_nil] at this
  omega
theorem run_services (HF : List At → Nat) (db : List At) (mx : Int) (hg : Gdb db) (hw : DbW db) (hmx : 23 ≤ mx ∧ mx ≤ 517) :
 ∃ c1 q,(startP (idle mx mx 0) { tk0 with kd := 2 } 0).2 = 0 ∧ (startP (idle mx mx 0) { tk0 with kd := 2 } 0).1.c = c1 ∧ (startP (idle mx mx 0) { tk0 with kd := 2 } 0).1.ps = [q] ∧ PlayG (stD HF) GoodD 3000 c1 ⟨db,mx,mx,[]⟩ q ⟨2,2,0,[],(candL db 1 65535 43980465115136 9223372588214596859).map (tofS db),0⟩ (idle mx mx 0) ⟨db,mx,mx,[]⟩ := by
 have hs := start_own mx { tk0 with kd := 2 } (rqG 1) (by simp) (by simp [chkP]) (by simp [firstP,ownP,rqG])
 refine ⟨_,_,hs.1,hs.2.1,hs.2.2,?_⟩
 have hlen : ∀ a : Nat,(candL db a 65535 43980465115136 9223372588214596859).length ≤ 1000 := fun a => Nat.le_trans (List.length_filter_le _ _) hg.big
 have hsv : ∀ x : At,x.hi = 43980465115136 ∧ x.lo = 9223372588214596859 → svU x.hi x.lo = true := fun x h => by rw [h.1,h.2]; rfl
 have h := play_disc (HF := HF) ⟨db,mx,mx,[]⟩ mx { tk0 with kd := 2 } (fun a => rqG a) (fun a => candL db a 65535 43980465115136 9223372588214596859) (tofS db) (itG db) (.inl rfl) rfl (fun a => .inr (.inr rfl)) (fun a b => rfl)
  (fun a fo hfo => ⟨ok_actD _ _ _ rfl (by show fo.length ≤ 50000; omega) rfl rfl (by show (0 : Nat) < 65536; omega),rfl,rfl,.inr (.inr (.inr rfl)),hg,hw,by show 0 ≤ mx ∧ mx ≤ 100000; omega,fun hk => hk.elim (fun h => absurd (show (16 : Int) = 4 from h) (by decide)) (fun h => absurd (show (16 : Int) = 8 from h.1) (by decide)),fun hk => (by have hk : (16 : Int) = 8 := hk; omega),fun _ => ⟨rfl,rfl⟩⟩)
  (fun a ha => by
   show ((⟨db,mx,mx,[]⟩ : Ss),groupS ⟨db,mx,mx,[]⟩ (rqG a)) = _
   rw [groupS_nil ⟨db,mx,mx,[]⟩ (rqG a) ha]
   rfl)
  (fun a ha => by
   obtain ⟨L,hL⟩ : ∃ L,candL db a 65535 43980465115136 9223372588214596859 = L := ⟨_,rfl⟩
   simp only [hL] at ha ⊢
   have hl0 : 0 < L.length := List.length_pos_iff.2 ha
   have hmem : ∀ x ∈ L,x ∈ db ∧ ((a : Int) ≤ x.ha ∧ x.ha ≤ (65535 : Int)) ∧ x.hi = 43980465115136 ∧ x.lo = 9223372588214596859 := fun x hx => cand_mem (by rw [hL]; exact hx)
   have hdc : ∀ x ∈ L,(decR x.bs).2.2 = 0 := fun x hx => by
    obtain ⟨h1,h2,h3⟩ := hmem x hx
    obtain ⟨j,hj,e⟩ := List.getElem_of_mem h1
    rw [atI_get hj] at e
    have := hg.svd j hj (by unfold svA; rw [e]; exact hsv x h3)
    rwa [e] at this
   have hc0 : grC ⟨db,mx,mx,[]⟩ L 0 = true := by
    unfold grC
    have h1 := (room_5 hmx.1).2.2
    have h2 := decR_len (hdc _ (at_mem hl0))
    simp only [beq_self_eq_true,Bool.true_and,decide_eq_true_eq]
    omega
   have hk0 := firstNo_pos hl0 hc0
   have hkl := firstNo_le (grC ⟨db,mx,mx,[]⟩ L) L.length
   have hlast := lastI_map 65535 Im.la (itG db) L hk0 hkl
   refine ⟨firstNo (grC ⟨db,mx,mx,[]⟩ L) L.length,lastI 65535 Im.la ((L.take (firstNo (grC ⟨db,mx,mx,[]⟩ L) L.length)).map (itG db)),65535,hk0,hkl,?_,fun fo => ?_,?_⟩
   ·show ((⟨db,mx,mx,[]⟩ : Ss),groupS ⟨db,mx,mx,[]⟩ (rqG a)) = _
    rw [groupS_ne ⟨db,mx,mx,[]⟩ (rqG a) (by show grC ⟨db,mx,mx,[]⟩ (candL db a 65535 43980465115136 9223372588214596859) 0 = true; rw [hL]; exact hc0) (by show ¬ candL db a 65535 43980465115136 9223372588214596859 = []; rw [hL]; exact ha),show candL (⟨db,mx,mx,[]⟩ : Ss).db ((rqG a).ha : Int) ((rqG a).la : Int) ((rqG a).hi : Int) ((rqG a).lo : Int) = L from hL]
    rfl
   ·have hgt := gets_map (svcF a) (itG db) (tofS db) (L.take (firstNo (grC ⟨db,mx,mx,[]⟩ L) L.length)) (fun x hx => by
     have hx := List.mem_of_mem_take hx
     obtain ⟨h1,h2,h3⟩ := hmem x hx
     have h4 := mem_wd hw h1
     have h5 := (grLast_spec hg h1).1
     unfold svcF
     rw [if_pos ⟨by simp only [itG]; omega,hdc x hx⟩]
     simp only [tofS,itG,Option.some.injEq,Fd.mk.injEq,and_true,true_and]
     omega)
    exact congrArg (fun r => (⟨act mx mx 0 { tk0 with kd := 2,fo := fo } (rqG a),0,[],[]⟩ : Sp).listed r (lastI 65535 Im.la ((L.take (firstNo (grC ⟨db,mx,mx,[]⟩ L) L.length)).map (itG db))) 65535) hgt
   ·have hx := hmem _ (at_mem (L := L) (k := firstNo (grC ⟨db,mx,mx,[]⟩ L) L.length - 1) (by omega))
    have hw1 := mem_wd hw hx.1
    rw [hlast]
    have hL2 : L = db.filter (inP (fun x => x.hi == 43980465115136 && x.lo == 9223372588214596859) a 65535) := by rw [← hL,candL_inP]
    generalize firstNo (grC ⟨db,mx,mx,[]⟩ L) L.length = k at hk0 hkl hx hw1 ⊢
    obtain ⟨hg1,hg2⟩ := grLast_spec hg hx.1
    have hgl := grLast_lt hw hx.1
    have hP : ∀ y : At,(y.hi == 43980465115136 && y.lo == 9223372588214596859) = true → svU y.hi y.lo = true := fun y h => by
     simp only [Bool.and_eq_true,beq_iff_eq] at h
     exact hsv y h
    by_cases c : (itG db (atI L (k - 1))).la = 65535
    ·refine .inl ⟨c,?_⟩
     simp only [itG] at c
     have hl := fun y (hy : y ∈ db) (hpy : (y.hi == 43980465115136 && y.lo == 9223372588214596859) = true) (hlt : (atI L (k - 1)).ha < y.ha) => hg2 y hy (hP y hpy) hlt
     rw [hL2] at hkl c hl ⊢
     exact last_full hg _ a 65535 hk0 hkl (fun y hy hpy hlt => by have := hl y hy hpy hlt; omega)
    ·refine .inr ⟨c,?_⟩
     simp only [itG] at c ⊢
     rw [candL_inP]
     have hn := rng_next hg (fun x => x.hi == 43980465115136 && x.lo == 9223372588214596859) a 65535 (k := k) hk0 (by rw [← hL2]; exact hkl)
     rw [← hL2] at hn
     rw [← hn]
     refine List.filter_congr fun y hy => ?_
     unfold inP inB
     by_cases hpy : (y.hi == 43980465115136 && y.lo == 9223372588214596859) = true
     ·simp only [hpy,Bool.and_true]
      have h7 := hg2 y hy (hP y hpy)
      rw [Bool.eq_iff_iff]
      simp only [Bool.and_eq_true,decide_eq_true_eq]
      constructor
      ·rintro ⟨h8,h9⟩
       exact ⟨by omega,h9⟩
      ·rintro ⟨h8,h9⟩
       have := h7 (by omega)
       exact ⟨by omega,h9⟩
     ·rw [Bool.not_eq_true] at hpy
      simp only [hpy,Bool.and_false])
  1000 1 [] (hlen 1) (by have := hlen 1; simp only [List.length_nil]; omega)
 exact h.mono (by omega)
theorem Sp.hash_cons (x : Sp) (i : Im) (l : List Im) (h : i.bs.length = 8) : x.hash (i :: l) = x.endd ⟨3,0,i.ha,i.bs,[],0⟩ := if_pos h
/-- the hash, if there is one -/
theorem run_hash (HF : List At → Nat) (db : List At) (mx : Int) (hg : Gdb db) (hw : DbW db) (hmx : 23 ≤ mx ∧ mx ≤ 517) (hrd : ∀ x ∈ db,isU 47459388624896 x.hi x.lo = true → rdB x = true) :
 ∃ c1 q r,(startP (idle mx mx 0) { tk0 with kd := 9 } 0).2 = 0 ∧ (startP (idle mx mx 0) { tk0 with kd := 9 } 0).1.c = c1 ∧ (startP (idle mx mx 0) { tk0 with kd := 9 } 0).1.ps = [q] ∧ PlayG (stD HF) GoodD 3000 c1 ⟨db,mx,mx,[]⟩ q r (idle mx mx 0) ⟨db,mx,mx,[]⟩ ∧
   (candL db 1 65535 47459388624896 9223372588214596859 = [] → r = ⟨5,9,0,[],[],10⟩) ∧ (∀ x l,candL db 1 65535 47459388624896 9223372588214596859 = x :: l → r = ⟨3,9,x.ha.toNat,putB (HF db) 8,[],0⟩) := by
 have hs := start_own mx { tk0 with kd := 9 } (rqT 47459388624896 9223372588214596859 1 65535) (by simp) (by simp [chkP]) (by simp [firstP,ownP,rqT])
 have hg0 : GoodD (act mx mx 0 { tk0 with kd := 9 } (rqT 47459388624896 9223372588214596859 1 65535)) ⟨db,mx,mx,[]⟩ (rqT 47459388624896 9223372588214596859 1 65535) := ⟨ok_actD _ _ _ rfl (by show (0 : Nat) ≤ 50000; omega) rfl rfl (by show (0 : Nat) < 65536; omega),rfl,rfl,.inr (.inr (.inl rfl)),hg,hw,by show 0 ≤ mx ∧ mx ≤ 100000; omega,fun hk => (by rcases hk with hk | hk <;> (first | exact absurd hk (by decide) | exact absurd rfl hk.2)),fun _ i hi hin => (by
  have hin' : inT 1 65535 47459388624896 9223372588214596859 (atI db i) = true := hin
  have hx := cand_mem (x := atI db i) (List.mem_filter.2 ⟨at_mem hi,hin'⟩)
  have hu : isU 47459388624896 (atI db i).hi (atI db i).lo = true := by rw [hx.2.2.1,hx.2.2.2]; rfl
  exact ⟨hrd _ hx.1 hu,.inl hu⟩),fun hk => (by have hk : (8 : Int) = 16 := hk; omega)⟩
 obtain ⟨L,hL⟩ : ∃ L,candL db 1 65535 47459388624896 9223372588214596859 = L := ⟨_,rfl⟩
 rw [hL]
 have hst : stD HF ⟨db,mx,mx,[]⟩ (rqT 47459388624896 9223372588214596859 1 65535) = ((⟨db,mx,mx,[]⟩ : Ss),typeS HF ⟨db,mx,mx,[]⟩ (rqT 47459388624896 9223372588214596859 1 65535)) := rfl
 cases L with
 |nil =>
  rw [typeS_nil HF ⟨db,mx,mx,[]⟩ (rqT 47459388624896 9223372588214596859 1 65535) hL] at hst
  have hh : handleP (act mx mx 0 { tk0 with kd := 9 } (rqT 47459388624896 9223372588214596859 1 65535)) (errP (rqT 47459388624896 9223372588214596859 1 65535) 1 10) [] 0 = ⟨idle mx mx 0,0,[],[⟨5,9,0,[],[],10⟩]⟩ := rfl
  refine ⟨_,_,⟨5,9,0,[],[],10⟩,hs.1,hs.2.1,hs.2.2,?_,fun _ => rfl,fun x l e => (by cases e)⟩
  have hd := PlayG.done (st := stD HF) (G := GoodD) (n := 2999) (r := ⟨5,9,0,[],[],10⟩) hg0 (by rw [hst]; exact congrArg Sp.us hh)
  rw [hst] at hd
  simp only at hd
  have hh3 : handleP (act mx mx 0 { tk0 with kd := 9 } (rqT 47459388624896 9223372588214596859 1 65535)) (errP (rqT 47459388624896 9223372588214596859 1 65535) (rqT 47459388624896 9223372588214596859 1 65535).ha 10) [] 0 = _ := hh
  rw [hh3] at hd
  exact hd
 |cons x l =>
  have hxm := cand_mem (db := db) (x := x) (A := 1) (B := 65535) (hi := 47459388624896) (lo := 9223372588214596859) (by rw [hL]; simp)
  have hcv : ∀ y ∈ x :: l,cutV HF ⟨db,mx,mx,[]⟩ y = putB (HF db) 8 := fun y hy => by
   have hy := cand_mem (db := db) (x := y) (A := 1) (B := 65535) (hi := 47459388624896) (lo := 9223372588214596859) (by rw [hL]; exact hy)
   unfold cutV shV
   rw [if_pos (by rw [hy.2.2.1,hy.2.2.2]; rfl)]
   exact List.take_of_length_le (by rw [putB_len]; show 8 ≤ (min (mx - 4) 253).toNat; omega)
  have hc0 : tyC HF ⟨db,mx,mx,[]⟩ (x :: l) 0 = true := by
   unfold tyC
   have h1 := (room_5 hmx.1).2.1
   rw [show atI (x :: l) 0 = x from rfl,hcv x (by simp),putB_len]
   simp only [beq_self_eq_true,Bool.true_and,decide_eq_true_eq]
   omega
  have hk0 := firstNo_pos (c := tyC HF ⟨db,mx,mx,[]⟩ (x :: l)) (n := (x :: l).length) (by simp) hc0
  rw [typeS_ne HF ⟨db,mx,mx,[]⟩ (rqT 47459388624896 9223372588214596859 1 65535) (by show tyC HF ⟨db,mx,mx,[]⟩ (candL db 1 65535 47459388624896 9223372588214596859) 0 = true; rw [hL]; exact hc0) (by show ¬ candL db 1 65535 47459388624896 9223372588214596859 = []; rw [hL]; simp),show candL (⟨db,mx,mx,[]⟩ : Ss).db ((rqT 47459388624896 9223372588214596859 1 65535).ha : Int) ((rqT 47459388624896 9223372588214596859 1 65535).la : Int) ((rqT 47459388624896 9223372588214596859 1 65535).hi : Int) ((rqT 47459388624896 9223372588214596859 1 65535).lo : Int) = x :: l from hL] at hst
  obtain ⟨k,hk⟩ : ∃ k,firstNo (tyC HF ⟨db,mx,mx,[]⟩ (x :: l)) (x :: l).length = k + 1 := ⟨_,(Nat.succ_pred_eq_of_pos hk0).symm⟩
  rw [show firstNo (tyC HF (⟨db,mx,mx,[]⟩ : Ss) (x :: l)) (x :: l).length = k + 1 from hk,List.take_succ_cons,List.map_cons] at hst
  have hh : ∀ r,handleP (act mx mx 0 { tk0 with kd := 9 } (rqT 47459388624896 9223372588214596859 1 65535)) { pd0 with kd := 9 } (itT HF ⟨db,mx,mx,[]⟩ x :: r) 0 = ⟨idle mx mx 0,0,[],[⟨3,9,x.ha.toNat,putB (HF db) 8,[],0⟩]⟩ := fun r => by
   have h1 : handleP (act mx mx 0 { tk0 with kd := 9 } (rqT 47459388624896 9223372588214596859 1 65535)) { pd0 with kd := 9 } (itT HF ⟨db,mx,mx,[]⟩ x :: r) 0 = (⟨act mx mx 0 { tk0 with kd := 9 } (rqT 47459388624896 9223372588214596859 1 65535),0,[],[]⟩ : Sp).hash (itT HF ⟨db,mx,mx,[]⟩ x :: r) := rfl
   rw [h1,Sp.hash_cons _ _ _ (by show (cutV HF ⟨db,mx,mx,[]⟩ x).length = 8; rw [hcv x (by simp)]; exact putB_len _ _)]
   simp only [itT]
   rw [hcv x (by simp)]
   have h0 : ¬ x.ha.toNat = 0 := by omega
   simp [Sp.endd,Sp.report,Sp.close,act,idle,h0,tk0]
  refine ⟨_,_,⟨3,9,x.ha.toNat,putB (HF db) 8,[],0⟩,hs.1,hs.2.1,hs.2.2,?_,fun e => (by cases e),fun y l' e => (by cases e; rfl)⟩
  have hd := PlayG.done (st := stD HF) (G := GoodD) (n := 2999) (r := ⟨3,9,x.ha.toNat,putB (HF db) 8,[],0⟩) hg0 (by rw [hst]; exact congrArg Sp.us (hh _))
  rw [hst] at hd
  simp only at hd
  rw [hh] at hd
  exact hd
theorem Tryz.cells_u8 : Tryz.prog.cellsOf 5 = 1 := by kernel_rfl
theorem Tryz.cells_u16 : Tryz.prog.cellsOf 23 = 1 := by kernel_rfl
theorem Tryz.cells_u64 : Tryz.prog.cellsOf 24 = 1 := by kernel_rfl
theorem Tryz.cells_int : Tryz.prog.cellsOf 3 = 1 := by kernel_rfl
theorem Tryz.cells_uuid : Tryz.prog.cellsOf 26 = 2 := by kernel_rfl
theorem in_cap {P : Program} {w : World} {e : TypeId} {v : Value} (h : SlIn P w e v) : ∃ a n c,v = .slice a n c ∧ n ≤ c := by
 rcases h with rfl | ⟨a,len,cap,rfl,hle,_⟩
 ·exact ⟨_,_,_,rfl,Nat.le_refl _⟩
 ·exact ⟨_,_,_,rfl,hle⟩
theorem Tryz.cells_at : Tryz.prog.cellsOf 29 = 5 := by kernel_rfl
theorem Tryz.bytes_at : Tryz.prog.bytesOf 29 = 56 := by kernel_rfl
theorem Tryz.cells_bts : Tryz.prog.cellsOf 27 = 1 := by kernel_rfl
theorem Tryz.bytes_u8 : Tryz.prog.bytesOf 5 = 1 := by kernel_rfl
theorem rd_bts {w : World} {v : Value} (h : Rd Tryz.prog w 27 [v]) : ∃ bs a n c,v = .slice a n c ∧ n ≤ c ∧ bs.length = n ∧ BytesAt w (.slice a n c) bs := by
 obtain ⟨u,e,hs⟩ := h.slIn Tryz.underlying27
 simp only [List.cons.injEq,and_true] at e
 subst e
 obtain ⟨bs,hb⟩ := bytes_of_in Tryz.underlying5 Tryz.cells_u8 Tryz.bytes_u8 hs
 obtain ⟨a,n,c,rfl,hc⟩ := in_cap hs
 obtain ⟨a',c',e⟩ := hb.1.val
 cases e
 exact ⟨bs,_,_,_,rfl,hc,rfl,hb⟩
end Go.Proofs.YtldcihjddebciaaGreat
