/- client with a server: plain: the server's answers for reading and writing, and the play of a task. And what follows it. -/
import Derived.Test.YtldcihjddebciaaGreatVClZ
set_option linter.unusedSimpArgs false
set_option linter.unusedVariables false
namespace Go.Proofs.YtldcihjddebciaaGreat
open Go.RowKit
/-- an attribute -/
structure At where
 ha : Int
 hi : Int
 lo : Int
 pe : Int
 bs : List Nat
instance : Inhabited At := ⟨⟨0,0,0,0,[]⟩⟩
/-- a prepared piece -/
structure Pq where
 ha : Nat
 of : Int
 vs : List Nat
instance : Inhabited Pq := ⟨⟨0,0,[]⟩⟩
/-- a server: its attributes, MTU, greatest MTU, queue -/
structure Ss where
 db : List At
 mt : Int
 mx : Int
 qu : List Pq
def atI (db : List At) (i : Nat) : At := db.getD i default
def findN (db : List At) (h : Int) : Nat := db.findIdx fun a => a.ha == h
def rdB (a : At) : Bool := a.pe % 2 == 1
def wrB (a : At) : Bool := a.pe / 2 % 2 == 1
def errP (p : Pd) (ha : Nat) (co : Int) : Pd := { pd0 with kd := 1,ask := p.kd,ha := ha,co := co }
/-- an attribute's value is put -/
def putA (db : List At) (i : Nat) (v : List Nat) : List At := db.set i { atI db i with bs := v }
/-- a value is read -/
def readS (s : Ss) (p : Pd) : Pd :=
 if findN s.db p.ha < s.db.length then
  (if rdB (atI s.db (findN s.db p.ha)) = true then
   (if ((atI s.db (findN s.db p.ha)).bs.length : Int) < p.of then errP p p.ha 7
    else { pd0 with kd := p.kd + 1,vs := ((atI s.db (findN s.db p.ha)).bs.drop p.of.toNat).take (roomN (p.kd + 1) s.mt) })
   else errP p p.ha 2)
 else errP p p.ha 1
/-- a value is written -/
def writeS (s : Ss) (p : Pd) : Ss × Pd :=
 if findN s.db p.ha < s.db.length then
  (if wrB (atI s.db (findN s.db p.ha)) = true then ({ s with db := putA s.db (findN s.db p.ha) p.vs },{ pd0 with kd := 19 }) else (s,errP p p.ha 3))
 else (s,errP p p.ha 1)
/-- a piece is prepared -/
def prepS (s : Ss) (p : Pd) : Ss × Pd :=
 if findN s.db p.ha < s.db.length then
  (if wrB (atI s.db (findN s.db p.ha)) = true then
   (if 16 ≤ s.qu.length then (s,errP p p.ha 9) else ({ s with qu := s.qu ++ [⟨p.ha,p.of,p.vs⟩] },{ pd0 with kd := 23,ha := p.ha,of := p.of,vs := p.vs }))
   else (s,errP p p.ha 3))
 else (s,errP p p.ha 1)
/-- the pieces are carried out: the attributes, or the handle and the code of a refusal -/
def execD (db : List At) : List Pq → List At ⊕ (Nat × Int)
 |[] => .inl db
 |x :: l =>
  if findN db x.ha < db.length then
   (if ((atI db (findN db x.ha)).bs.length : Int) < x.of then .inr (x.ha,7)
    else if 512 < x.of + x.vs.length then .inr (x.ha,13)
    else execD (putA db (findN db x.ha) ((atI db (findN db x.ha)).bs.take x.of.toNat ++ x.vs)) l)
  else .inr (x.ha,1)
def execS (s : Ss) (p : Pd) : Ss × Pd :=
 if p.cm = true then (match execD s.db s.qu with
  |.inl db => ({ s with db := db,qu := [] },{ pd0 with kd := 25 })
  |.inr (ha,co) => ({ s with qu := [] },errP p ha co))
 else ({ s with qu := [] },{ pd0 with kd := 25 })
/-- what the server answers -/
def stepS (s : Ss) (p : Pd) : Ss × Pd :=
 if p.kd = 2 then ({ s with mt := min p.mt s.mx },{ pd0 with kd := 3,mt := s.mx })
 else if p.kd = 10 ∨ p.kd = 12 then (s,readS s p)
 else if p.kd = 18 then writeS s p
 else if p.kd = 22 then prepS s p
 else execS s p
/-- the handle is that of an attribute which is no hash and no configuration, or of none -/
def plainA (a : At) : Prop := ¬ (a.hi = 47459388624896 ∧ a.lo = 9223372588214596859) ∧ ¬ (a.hi = 45088566677504 ∧ a.lo = 9223372588214596859)
structure Good (c : Cl) (s : Ss) (q : Pd) : Prop where
 ok : ClOk c
 busy : c.busy = true
 ad : q = c.ad
 kd : q.kd = 2 ∨ q.kd = 10 ∨ q.kd = 12 ∨ q.kd = 18 ∨ q.kd = 22 ∨ q.kd = 24
 of : 0 ≤ q.of ∧ q.of ≤ 65535
 vs : q.vs.length ≤ 512
 qu : s.qu.length ≤ 16
 qo : ∀ x ∈ s.qu,0 ≤ x.of ∧ x.of ≤ 65535 ∧ x.vs.length ≤ 512
 pl : q.kd = 10 ∨ q.kd = 12 ∨ q.kd = 18 ∨ q.kd = 22 → findN s.db q.ha < s.db.length → plainA (atI s.db (findN s.db q.ha))
/-- a play of at most n exchanges, from an open request to a result -/
inductive Play : Nat → Cl → Ss → Pd → Rs → Cl → Ss → Prop
 |done {n : Nat} {c : Cl} {s : Ss} {q : Pd} {r : Rs} (hg : Good c s q) (hu : (handleP c (stepS s q).2 [] 0).us = [r]) : Play (n + 1) c s q r (handleP c (stepS s q).2 [] 0).c (stepS s q).1
 |more {n : Nat} {c c2 : Cl} {s s2 : Ss} {q q2 : Pd} {r : Rs} (hg : Good c s q) (hu : (handleP c (stepS s q).2 [] 0).us = []) (hp : (handleP c (stepS s q).2 [] 0).ps = [q2]) (h : Play n (handleP c (stepS s q).2 [] 0).c (stepS s q).1 q2 r c2 s2) : Play (n + 1) c s q r c2 s2
theorem Play.mono {n m : Nat} {c c2 : Cl} {s s2 : Ss} {q : Pd} {r : Rs} (h : Play n c s q r c2 s2) (hm : n ≤ m) : Play m c s q r c2 s2 := by
 induction h generalizing m with
 |done hg hu =>
  obtain ⟨k,rfl⟩ : ∃ k,m = k + 1 := ⟨m - 1,by omega⟩
  exact .done hg hu
 |more hg hu hp _ ih =>
  obtain ⟨k,rfl⟩ : ∃ k,m = k + 1 := ⟨m - 1,by omega⟩
  exact .more hg hu hp (ih (by omega))
/-- a client that waits for nothing -/
def idle (mt mx : Int) (now : Int) : Cl := ⟨mt,mx,tk0,pd0,false,now,false,[]⟩
theorem ok_idle (mt mx now : Int) : ClOk (idle mt mx now) := ⟨by simp [idle],by simp [idle],by simp [idle,tk0],by simp [idle,tk0],by simp [idle,pd0],⟨0,rfl,by omega⟩,by simp [idle,tk0]⟩
/-- a client with a task -/
def act (mt mx now : Int) (t : Tk) (p : Pd) : Cl := ⟨mt,mx,t,p,true,now,false,[]⟩
theorem ok_act (mt mx now : Int) {t : Tk} {p : Pd} (h1 : t.vs.length ≤ 512) (h2 : t.fo = []) (h3 : p.vs.length ≤ 512) (h4 : ∃ O : Nat,t.of = (O : Int) ∧ O ≤ 512) (h5 : t.la < 65536) : ClOk (act mt mx now t p) := by
 obtain ⟨O,h6,h7⟩ := h4
 have a1 : (act mt mx now t p).tk.vs.length ≤ 1000000 := by show t.vs.length ≤ _; omega
 have a2 : (act mt mx now t p).tk.fo.length ≤ 50000 := by show t.fo.length ≤ _; rw [h2]; exact Nat.zero_le _
 have a3 : (act mt mx now t p).ad.vs.length ≤ 1000000 := by show p.vs.length ≤ _; omega
 exact ⟨(fun _ ht => by cases ht),Nat.zero_le _,a1,a2,a3,⟨O,h6,by omega⟩,h5⟩
/-- the MTUs are exchanged -/
theorem play_mtu (s : Ss) (m0 : Int) (h : s.qu = []) : (startP (idle m0 s.mx 0) { tk0 with kd := 1 } 0).2 = 0 ∧ ∃ c1 q,(startP (idle m0 s.mx 0) { tk0 with kd := 1 } 0).1.c = c1 ∧ (startP (idle m0 s.mx 0) { tk0 with kd := 1 } 0).1.ps = [q] ∧ Play 1 c1 s q ⟨1,1,0,[],[],0⟩ (idle s.mx s.mx 0) { s with mt := s.mx } := by
 refine ⟨rfl,_,_,rfl,rfl,?_⟩
 have hg : Good (startP (idle m0 s.mx 0) { tk0 with kd := 1 } 0).1.c s { pd0 with kd := 2,mt := s.mx } :=
  ⟨ok_act m0 s.mx 0 (Nat.zero_le _) rfl (Nat.zero_le _) ⟨0,rfl,Nat.zero_le _⟩ (by show (0 : Nat) < 65536; omega),rfl,rfl,.inl rfl,⟨Int.le_refl 0,by show (0 : Int) ≤ 65535; omega⟩,Nat.zero_le _,by simp [h],by simp [h],fun hk => by rcases hk with hk | hk | hk | hk <;> cases hk⟩
 have := Play.done (n := 0) (r := ⟨1,1,0,[],[],0⟩) hg (by rfl)
 have e1 : (handleP (startP (idle m0 s.mx 0) { tk0 with kd := 1 } 0).1.c (stepS s { pd0 with kd := 2,mt := s.mx }).2 [] 0).c = idle s.mx s.mx 0 := by
  show (⟨min s.mx s.mx,s.mx,tk0,pd0,false,0,false,[]⟩ : Cl) = _
  rw [Int.min_self]
  rfl
 have e2 : (stepS s { pd0 with kd := 2,mt := s.mx }).1 = { s with mt := s.mx } := by
  show ({ s with mt := min s.mx s.mx } : Ss) = _
  rw [Int.min_self]
 rw [e1,e2] at this
 exact this
theorem room_pos (mt : Int) : 22 ≤ roomI 11 mt ∧ roomI 11 mt ≤ 512 := by
 have h : roomI 11 mt = min 512 (mtuI mt - 1) := rfl
 have h2 : mtuI mt = max 23 (min mt 517) := rfl
 omega
theorem room_int (mt : Int) : ((roomN 11 mt : Nat) : Int) = roomI 11 mt := by
 unfold roomN
 have := (room_pos mt).1
 omega
theorem Sp.value_idle (mt mx : Int) (t : Tk) (p : Pd) : (⟨act mt mx 0 t p,0,[],[]⟩ : Sp).value = ⟨idle mt mx 0,0,[],[⟨3,t.kd,t.ha,t.vs,[],0⟩]⟩ := by
 simp [Sp.value,Sp.endd,Sp.report,Sp.close,act,idle]
/-- a task that reads a long value -/
def tkL (ha : Nat) (vs : List Nat) : Tk := { tk0 with kd := 6,ha := ha,vs := vs }
def rqL (ha k : Nat) : Pd := if k = 0 then { pd0 with kd := 10,ha := ha } else { pd0 with kd := 12,ha := ha,of := k }
theorem read_more (mt mx : Int) (ha k : Nat) (q : Pd) {V : List Nat} (h : k + roomN 11 mt ≤ V.length) (h5 : k + roomN 11 mt < 512) :
 (⟨act mt mx 0 (tkL ha (V.take k)) q,0,[],[]⟩ : Sp).read ((V.drop k).take (roomN 11 mt)) = ⟨act mt mx 0 (tkL ha (V.take (k + roomN 11 mt))) { pd0 with kd := 12,ha := ha,of := ((k + roomN 11 mt : Nat) : Int) },0,[{ pd0 with kd := 12,ha := ha,of := ((k + roomN 11 mt : Nat) : Int) }],[]⟩ := by
 have e : (V.take k ++ (V.drop k).take (roomN 11 mt)).take 512 = V.take (k + roomN 11 mt) := by
  rw [← List.take_add,List.take_take]
  congr 1
  omega
 have hl : (V.take (k + roomN 11 mt)).length = k + roomN 11 mt := by rw [List.length_take]; omega
 have hb : (((V.drop k).take (roomN 11 mt)).length : Int) = roomI 11 mt := by rw [← room_int,List.length_take,List.length_drop]; omega
 unfold Sp.read
 simp only [act,tkL]
 rw [e,hl,if_pos ⟨trivial,hb,h5⟩]
 rfl
theorem read_done (mt mx : Int) (ha k : Nat) (q : Pd) {V : List Nat} (hV : V.length ≤ 512) (hk : k ≤ V.length) (h : ¬ (k + roomN 11 mt ≤ V.length ∧ k + roomN 11 mt < 512)) :
 (⟨act mt mx 0 (tkL ha (V.take k)) q,0,[],[]⟩ : Sp).read ((V.drop k).take (roomN 11 mt)) = ⟨idle mt mx 0,0,[],[⟨3,6,ha,V,[],0⟩]⟩ := by
 have hr := (room_pos mt).1
 have hi := room_int mt
 have e : (V.take k ++ (V.drop k).take (roomN 11 mt)).take 512 = V := by
  rw [← List.take_add,List.take_take]
  exact List.take_of_length_le (by omega)
 have hb : ¬ ((((V.drop k).take (roomN 11 mt)).length : Int) = roomI 11 mt ∧ V.length < 512) := by
  rw [← hi,List.length_take,List.length_drop]
  omega
 unfold Sp.read
 simp only [act,tkL]
 rw [e,if_neg (fun hh => hb hh.2)]
 exact Sp.value_idle mt mx { tk0 with kd := 6,ha := ha,vs := V } q
theorem handle_read (mt mx : Int) (t : Tk) (q : Pd) (vs : List Nat) (hq : q.kd = 10 ∨ q.kd = 12) : handleP (act mt mx 0 t q) { pd0 with kd := q.kd + 1,vs := vs } [] 0 = (⟨act mt mx 0 t q,0,[],[]⟩ : Sp).read vs := by
 have hk : (act mt mx 0 t q).ad.kd = q.kd := rfl
 unfold handleP
 rw [if_neg (show ¬ (act mt mx 0 t q).dead = true from by simp [act]),if_neg (by show ¬ q.kd + 1 = 27; omega),if_neg (by show ¬ q.kd + 1 = 29; omega),if_neg (fun h => by have := h.2.1; have : q.kd + 1 = 1 := this; omega)]
 have ha : q.kd + 1 = ansI q.kd := by rcases hq with h | h <;> rw [h] <;> rfl
 rw [if_pos ⟨rfl,ha⟩]
 unfold Sp.answered
 rcases hq with h | h <;> simp [h]
theorem play_long (s : Ss) (mx : Int) (ha : Nat) (hi : findN s.db ha < s.db.length) (hr : rdB (atI s.db (findN s.db ha)) = true) (hp : plainA (atI s.db (findN s.db ha))) (hV : (atI s.db (findN s.db ha)).bs.length ≤ 512) (hq : s.qu = []) :
 ∀ (n k : Nat),k ≤ (atI s.db (findN s.db ha)).bs.length → (atI s.db (findN s.db ha)).bs.length ≤ k + n →
   Play (n + 1) (act s.mt mx 0 (tkL ha ((atI s.db (findN s.db ha)).bs.take k)) (rqL ha k)) s (rqL ha k) ⟨3,6,ha,(atI s.db (findN s.db ha)).bs,[],0⟩ (idle s.mt mx 0) s := by
 obtain ⟨V,hVe⟩ : ∃ V,(atI s.db (findN s.db ha)).bs = V := ⟨_,rfl⟩
 rw [hVe] at hV ⊢
 intro n
 induction n with
 |zero =>
  intro k hk hn
  exact step hi hr hp hV hq hVe hk 0 (fun h => by have := (room_pos s.mt).1; have := room_int s.mt; omega)
 |succ n ih =>
  intro k hk hn
  exact step hi hr hp hV hq hVe hk (n + 1) (fun h => by
   have h1 := (room_pos s.mt).1
   have h2 := room_int s.mt
   have := ih (k + roomN 11 s.mt) h.1 (by omega)
   rw [show rqL ha (k + roomN 11 s.mt) = { pd0 with kd := 12,ha := ha,of := ((k + roomN 11 s.mt : Nat) : Int) } from if_neg (by omega)] at this
   exact this)
 where
 step {s : Ss} {mx : Int} {ha : Nat} {V : List Nat} (hi : findN s.db ha < s.db.length) (hr : rdB (atI s.db (findN s.db ha)) = true) (hp : plainA (atI s.db (findN s.db ha))) (hV : V.length ≤ 512) (hq : s.qu = []) (hVe : (atI s.db (findN s.db ha)).bs = V) {k : Nat} (hk : k ≤ V.length) (n : Nat)
  (hm : k + roomN 11 s.mt ≤ V.length ∧ k + roomN 11 s.mt < 512 → Play n (act s.mt mx 0 (tkL ha (V.take (k + roomN 11 s.mt))) { pd0 with kd := 12,ha := ha,of := ((k + roomN 11 s.mt : Nat) : Int) }) s { pd0 with kd := 12,ha := ha,of := ((k + roomN 11 s.mt : Nat) : Int) } ⟨3,6,ha,V,[],0⟩ (idle s.mt mx 0) s) :
  Play (n + 1) (act s.mt mx 0 (tkL ha (V.take k)) (rqL ha k)) s (rqL ha k) ⟨3,6,ha,V,[],0⟩ (idle s.mt mx 0) s := by
  have hkd : (rqL ha k).kd = 10 ∨ (rqL ha k).kd = 12 := by unfold rqL; split <;> simp
  have hha : (rqL ha k).ha = ha := by unfold rqL; split <;> rfl
  have hof : (rqL ha k).of = (k : Int) := by
   unfold rqL
   split
   ·rename_i h0
    rw [h0]
    rfl
   ·rfl
  have hvs : (rqL ha k).vs = [] := by unfold rqL; split <;> rfl
  have hst : stepS s (rqL ha k) = (s,{ pd0 with kd := (rqL ha k).kd + 1,vs := (V.drop k).take (roomN 11 s.mt) }) := by
   unfold stepS
   rw [if_neg (by omega),if_pos hkd]
   unfold readS
   rw [hha,if_pos hi,if_pos hr,hVe,hof,if_neg (by omega),Int.toNat_natCast]
   have : roomN ((rqL ha k).kd + 1) s.mt = roomN 11 s.mt := by rcases hkd with h | h <;> rw [h] <;> rfl
   rw [this]
  have hg : Good (act s.mt mx 0 (tkL ha (V.take k)) (rqL ha k)) s (rqL ha k) :=
   ⟨ok_act _ _ _ (by show (V.take k).length ≤ 512; rw [List.length_take]; omega) rfl (by rw [hvs]; exact Nat.zero_le _) ⟨0,rfl,Nat.zero_le _⟩ (by show (0 : Nat) < 65536; omega),rfl,rfl,by omega,by rw [hof]; omega,by rw [hvs]; exact Nat.zero_le _,by rw [hq]; exact Nat.zero_le _,by rw [hq]; simp,fun _ _ => by rw [hha]; exact hp⟩
  have hh := handle_read s.mt mx (tkL ha (V.take k)) (rqL ha k) ((V.drop k).take (roomN 11 s.mt)) hkd
  by_cases hc : k + roomN 11 s.mt ≤ V.length ∧ k + roomN 11 s.mt < 512
  ·rw [read_more s.mt mx ha k (rqL ha k) hc.1 hc.2] at hh
   refine Play.more hg (by rw [hst]; simp only; rw [hh]) (by rw [hst]; simp only; rw [hh]) ?_
   rw [hst]
   simp only
   rw [hh]
   exact hm hc
  ·rw [read_done s.mt mx ha k (rqL ha k) hV hk hc] at hh
   have hd := Play.done (n := n) (r := ⟨3,6,ha,V,[],0⟩) hg (by rw [hst]; simp only; rw [hh])
   rw [hst] at hd
   simp only at hd
   rw [hh] at hd
   exact hd
theorem atI_set {db : List At} {i : Nat} (h : i < db.length) (a : At) : atI (db.set i a) i = a := by
 unfold atI
 rw [List.getD_eq_getElem?_getD,List.getElem?_set_self h]
 rfl
theorem putA_len (db : List At) (i : Nat) (v : List Nat) : (putA db i v).length = db.length := by simp [putA]
theorem putA_at {db : List At} {i : Nat} (h : i < db.length) (v : List Nat) : atI (putA db i v) i = { atI db i with bs := v } := atI_set h _
theorem putA_putA {db : List At} {i : Nat} (h : i < db.length) (v v' : List Nat) : putA (putA db i v) i v' = putA db i v' := by
 unfold putA
 rw [atI_set h,List.set_set]
theorem putA_find {db : List At} {h : Int} (hi : findN db h < db.length) (v : List Nat) : findN (putA db (findN db h) v) h = findN db h := by
 have key : ∀ (l : List At) (i : Nat) (a : At),i = l.findIdx (fun a => a.ha == h) → i < l.length → a.ha = (l.getD i default).ha → (l.set i a).findIdx (fun a => a.ha == h) = i := by
  intro l
  induction l with
  |nil => intro i a _ hl; exact absurd hl (Nat.not_lt_zero _)
  |cons x r ih =>
   intro i a he hl ha
   rw [List.findIdx_cons] at he
   cases hx : (x.ha == h) with
   |true =>
    rw [hx] at he
    simp only [cond_true] at he
    subst he
    simp only [List.set_cons_zero,List.findIdx_cons]
    have : (a.ha == h) = true := by rw [ha]; exact hx
    rw [this]
    rfl
   |false =>
    rw [hx] at he
    simp only [cond_false] at he
    subst he
    simp only [List.set_cons_succ,List.findIdx_cons,hx,cond_false]
    rw [ih _ a rfl (by simpa using hl) (by simpa using ha)]
 exact key db (findN db h) _ rfl hi rfl
theorem room_22 (mt : Int) : 18 ≤ roomI 22 mt ∧ roomI 22 mt ≤ 512 ∧ ((roomN 22 mt : Nat) : Int) = roomI 22 mt := by
 have h : roomI 22 mt = min 512 (mtuI mt - 5) := rfl
 have h2 : mtuI mt = max 23 (min mt 517) := rfl
 unfold roomN
 omega
theorem execD_snoc (x : Pq) : ∀ (l : List Pq) (db : List At),execD db (l ++ [x]) = (match execD db l with | .inl d => execD d [x] | .inr e => .inr e)
 |[],db => rfl
 |y :: l,db => by
  rw [List.cons_append]
  unfold execD
  split
  ·split
   ·rfl
   ·split
    ·rfl
    ·exact execD_snoc x l _
  ·rfl
/-- a task that writes -/
def tkW (kd : Int) (ha : Nat) (vs : List Nat) (k : Nat) : Tk := { tk0 with kd := kd,ha := ha,vs := vs,of := k }
def rqP (ha k R : Nat) (vs : List Nat) : Pd := { pd0 with kd := 22,ha := ha,of := (k : Int),vs := (vs.drop k).take R }
theorem piece_rq (mt kd : Int) (ha k : Nat) (vs : List Nat) : pieceP mt (tkW kd ha vs k) = rqP ha k (roomN 22 mt) vs := by
 unfold pieceP rqP tkW
 simp
theorem handle_ans (mt mx : Int) (t : Tk) (q a : Pd) (h1 : ¬ a.kd = 27) (h2 : ¬ a.kd = 29) (h3 : ¬ a.kd = 1) (h4 : a.kd = ansI q.kd) : handleP (act mt mx 0 t q) a [] 0 = (⟨act mt mx 0 t q,0,[],[]⟩ : Sp).answered a [] := by
 unfold handleP
 rw [if_neg (show ¬ (act mt mx 0 t q).dead = true from by simp [act]),if_neg h1,if_neg h2,if_neg (fun h => h3 h.2.1),if_pos ⟨rfl,h4⟩]
theorem end_idle (mt mx : Int) (t : Tk) (p : Pd) (kd co : Int) : (⟨act mt mx 0 t p,0,[],[]⟩ : Sp).endd ⟨kd,0,0,[],[],co⟩ = ⟨idle mt mx 0,0,[],[⟨kd,t.kd,t.ha,[],[],co⟩]⟩ := by
 simp [Sp.endd,Sp.report,Sp.close,act,idle]
/-- a write in one piece -/
theorem play_write (s : Ss) (mx : Int) (ha : Nat) (vs : List Nat) (hi : findN s.db ha < s.db.length) (hw : wrB (atI s.db (findN s.db ha)) = true) (hp : plainA (atI s.db (findN s.db ha))) (hV : vs.length ≤ 512) (hq : s.qu = []) :
 Play 1 (act s.mt mx 0 (tkW 7 ha vs 0) { pd0 with kd := 18,ha := ha,vs := vs }) s { pd0 with kd := 18,ha := ha,vs := vs } ⟨4,7,ha,[],[],0⟩ (idle s.mt mx 0) { s with db := putA s.db (findN s.db ha) vs } := by
 have hst : stepS s { pd0 with kd := 18,ha := ha,vs := vs } = ({ s with db := putA s.db (findN s.db ha) vs },{ pd0 with kd := 19 }) := by
  unfold stepS
  rw [if_neg (by simp),if_neg (by simp),if_pos rfl]
  unfold writeS
  rw [if_pos hi,if_pos hw]
 have hg : Good (act s.mt mx 0 (tkW 7 ha vs 0) { pd0 with kd := 18,ha := ha,vs := vs }) s { pd0 with kd := 18,ha := ha,vs := vs } :=
  ⟨ok_act _ _ _ hV rfl hV ⟨0,rfl,Nat.zero_le _⟩ (by show (0 : Nat) < 65536; omega),rfl,rfl,by simp,⟨Int.le_refl 0,by show (0 : Int) ≤ 65535; omega⟩,hV,by rw [hq]; exact Nat.zero_le _,by rw [hq]; simp,fun _ _ => hp⟩
 have hh : handleP (act s.mt mx 0 (tkW 7 ha vs 0) { pd0 with kd := 18,ha := ha,vs := vs }) { pd0 with kd := 19 } [] 0 = ⟨idle s.mt mx 0,0,[],[⟨4,7,ha,[],[],0⟩]⟩ := by
  rw [handle_ans _ _ _ _ _ (by decide) (by decide) (by decide) rfl]
  exact end_idle s.mt mx (tkW 7 ha vs 0) _ 4 0
 have hd := Play.done (n := 0) (r := ⟨4,7,ha,[],[],0⟩) hg (by rw [hst]; simp only; rw [hh])
 rw [hst] at hd
 simp only at hd
 rw [hh] at hd
 exact hd
/-- a write that is refused -/
theorem play_refused (s : Ss) (mx : Int) (ha : Nat) (vs : List Nat) (kd : Int) (hkd : kd = 7 ∨ kd = 8) (q : Pd) (hqk : q.kd = 18 ∨ q.kd = 22) (hqh : q.ha = ha) (hqo : q.of = 0) (hqv : q.vs.length ≤ 512) (hi : findN s.db ha < s.db.length) (hw : wrB (atI s.db (findN s.db ha)) = false) (hp : plainA (atI s.db (findN s.db ha))) (hV : vs.length ≤ 512) (hq : s.qu = []) :
 Play 1 (act s.mt mx 0 (tkW kd ha vs 0) q) s q ⟨5,kd,ha,[],[],3⟩ (idle s.mt mx 0) s := by
 have hst : stepS s q = (s,errP q ha 3) := by
  unfold stepS
  rw [if_neg (by omega),if_neg (by omega)]
  rcases hqk with h | h
  ·rw [if_pos h]
   unfold writeS
   rw [hqh,if_pos hi,if_neg (by rw [hw]; decide)]
  ·rw [if_neg (by omega),if_pos h]
   unfold prepS
   rw [hqh,if_pos hi,if_neg (by rw [hw]; decide)]
 have hg : Good (act s.mt mx 0 (tkW kd ha vs 0) q) s q :=
  ⟨ok_act _ _ _ hV rfl hqv ⟨0,rfl,Nat.zero_le _⟩ (by show (0 : Nat) < 65536; omega),rfl,rfl,by omega,by rw [hqo]; omega,hqv,by rw [hq]; exact Nat.zero_le _,by rw [hq]; simp,fun _ _ => by rw [hqh]; exact hp⟩
 have hh : handleP (act s.mt mx 0 (tkW kd ha vs 0) q) (errP q ha 3) [] 0 = ⟨idle s.mt mx 0,0,[],[⟨5,kd,ha,[],[],3⟩]⟩ := by
  unfold handleP
  rw [if_neg (show ¬ (act s.mt mx 0 (tkW kd ha vs 0) q).dead = true from by simp [act]),if_neg (by simp [errP]),if_neg (by simp [errP]),if_pos ⟨rfl,rfl,rfl⟩]
  unfold Sp.refused
  have h1 : (act s.mt mx 0 (tkW kd ha vs 0) q).tk.kd = kd := rfl
  have h2 : (act s.mt mx 0 (tkW kd ha vs 0) q).tk.of = 0 := rfl
  have h3 : (act s.mt mx 0 (tkW kd ha vs 0) q).ad.kd = q.kd := rfl
  rw [if_neg (fun h => by have := h.1; simp only [h1] at this; omega),if_neg (fun h => by have := h.1; simp only [h1] at this; omega),if_neg (fun h => h.2 h2),if_neg (fun h => by have := h.1; simp only [h3] at this; omega)]
  exact end_idle s.mt mx (tkW kd ha vs 0) q 5 3
 have hd := Play.done (n := 0) (r := ⟨5,kd,ha,[],[],3⟩) hg (by rw [hst]; simp only; rw [hh])
 rw [hst] at hd
 simp only at hd
 rw [hh] at hd
 exact hd
/-- the pieces are carried out -/
theorem play_exec (s : Ss) (mx : Int) (ha : Nat) (vs : List Nat) (kd : Int) (k : Nat) (db : List At) (hV : vs.length ≤ 512) (hk : k ≤ 512) (hx : execD s.db s.qu = .inl db) (hq : s.qu.length ≤ 16) (hqo : ∀ x ∈ s.qu,0 ≤ x.of ∧ x.of ≤ 65535 ∧ x.vs.length ≤ 512) :
 Play 1 (act s.mt mx 0 (tkW kd ha vs k) { pd0 with kd := 24,cm := true }) s { pd0 with kd := 24,cm := true } ⟨4,kd,ha,[],[],0⟩ (idle s.mt mx 0) { s with db := db,qu := [] } := by
 have hst : stepS s { pd0 with kd := 24,cm := true } = ({ s with db := db,qu := [] },{ pd0 with kd := 25 }) := by
  unfold stepS
  rw [if_neg (by decide),if_neg (by decide),if_neg (by decide),if_neg (by decide)]
  unfold execS
  rw [if_pos rfl,hx]
 have hg : Good (act s.mt mx 0 (tkW kd ha vs k) { pd0 with kd := 24,cm := true }) s { pd0 with kd := 24,cm := true } :=
  ⟨ok_act _ _ _ hV rfl (Nat.zero_le _) ⟨k,rfl,hk⟩ (by show (0 : Nat) < 65536; omega),rfl,rfl,by simp,⟨Int.le_refl 0,by show (0 : Int) ≤ 65535; omega⟩,Nat.zero_le _,hq,hqo,fun h => by simp at h⟩
 have hh : handleP (act s.mt mx 0 (tkW kd ha vs k) { pd0 with kd := 24,cm := true }) { pd0 with kd := 25 } [] 0 = ⟨idle s.mt mx 0,0,[],[⟨4,kd,ha,[],[],0⟩]⟩ := by
  rw [handle_ans _ _ _ _ _ (by decide) (by decide) (by decide) rfl]
  exact end_idle s.mt mx (tkW kd ha vs k) _ 4 0
 have hd := Play.done (n := 0) (r := ⟨4,kd,ha,[],[],0⟩) hg (by rw [hst]; simp only; rw [hh])
 rw [hst] at hd
 simp only at hd
 rw [hh] at hd
 exact hd
/-- a write in pieces -/
theorem play_prep (mt mx smx : Int) (ha : Nat) (vs : List Nat) (kd : Int) (db : List At) (hi : findN db ha < db.length) (hw : wrB (atI db (findN db ha)) = true) (hp : plainA (atI db (findN db ha))) (hV : vs.length ≤ 512) (hR : vs.length ≤ 16 * roomN 22 mt) :
 ∀ (n j : Nat) (qu : List Pq),qu.length = j → j + n = 16 → (j = 0 ∨ j * roomN 22 mt < vs.length) → (∀ x ∈ qu,0 ≤ x.of ∧ x.of ≤ 65535 ∧ x.vs.length ≤ 512) →
   execD db qu = .inl (if j = 0 then db else putA db (findN db ha) (vs.take (j * roomN 22 mt))) →
   Play (n + 2) (act mt mx 0 (tkW kd ha vs (j * roomN 22 mt)) (rqP ha (j * roomN 22 mt) (roomN 22 mt) vs)) ⟨db,mt,smx,qu⟩ (rqP ha (j * roomN 22 mt) (roomN 22 mt) vs) ⟨4,kd,ha,[],[],0⟩ (idle mt mx 0) ⟨putA db (findN db ha) vs,mt,smx,[]⟩ := by
 have hr1 := room_22 mt
 obtain ⟨R,hRR⟩ : ∃ R,roomN 22 mt = R := ⟨_,rfl⟩
 rw [hRR] at hR hr1 ⊢
 intro n
 induction n with
 |zero =>
  intro j qu hl hj h0 _ _
  have : j = 16 := by omega
  subst this
  omega
 |succ n ih =>
  intro j qu hl hj h0 hqo hex
  obtain ⟨k,hk⟩ : ∃ k,j * R = k := ⟨_,rfl⟩
  have hk1 : (j + 1) * R = k + R := by rw [Nat.add_mul,hk,Nat.one_mul]
  rw [hk] at h0 hex ⊢
  have hkl : k ≤ vs.length := by
   rcases h0 with h | h
   ·subst h
    omega
   ·omega
  have hcl : ((vs.drop k).take R).length ≤ 512 := by rw [List.length_take,List.length_drop]; omega
  have hst : stepS ⟨db,mt,smx,qu⟩ (rqP ha k R vs) = (⟨db,mt,smx,qu ++ [⟨ha,k,(vs.drop k).take R⟩]⟩,{ pd0 with kd := 23,ha := ha,of := (k : Int),vs := (vs.drop k).take R }) := by
   unfold stepS
   have hkd : (rqP ha k R vs).kd = 22 := rfl
   rw [if_neg (by rw [hkd]; decide),if_neg (by rw [hkd]; decide),if_neg (by rw [hkd]; decide),if_pos hkd]
   unfold prepS
   rw [if_pos (show findN db (rqP ha k R vs).ha < db.length from hi),if_pos (show wrB (atI db (findN db (rqP ha k R vs).ha)) = true from hw),if_neg (by show ¬ 16 ≤ qu.length; omega)]
   rfl
  have hg : Good (act mt mx 0 (tkW kd ha vs k) (rqP ha k R vs)) ⟨db,mt,smx,qu⟩ (rqP ha k R vs) :=
   ⟨ok_act _ _ _ hV rfl hcl ⟨k,rfl,by omega⟩ (by show (0 : Nat) < 65536; omega),rfl,rfl,.inr (.inr (.inr (.inr (.inl rfl)))),⟨by show (0 : Int) ≤ (k : Int); omega,by show (k : Int) ≤ 65535; omega⟩,hcl,by show qu.length ≤ 16; omega,hqo,fun _ _ => hp⟩
  have hqo2 : ∀ x ∈ qu ++ [(⟨ha,k,(vs.drop k).take R⟩ : Pq)],0 ≤ x.of ∧ x.of ≤ 65535 ∧ x.vs.length ≤ 512 := fun x hx => by
   rcases List.mem_append.1 hx with h | h
   ·exact hqo x h
   ·rw [List.mem_singleton.1 h]
    exact ⟨by show (0 : Int) ≤ (k : Int); omega,by show (k : Int) ≤ 65535; omega,hcl⟩
  have hex2 : execD db (qu ++ [⟨ha,k,(vs.drop k).take R⟩]) = .inl (putA db (findN db ha) (vs.take (k + R))) := by
   rw [execD_snoc,hex]
   simp only
   by_cases hj0 : j = 0
   ·rw [if_pos hj0]
    have hk0 : k = 0 := by rw [← hk,hj0,Nat.zero_mul]
    subst hk0
    unfold execD
    simp only
    rw [if_pos hi,if_neg (by omega),if_neg (by simp only [List.drop_zero,List.length_take]; omega)]
    unfold execD
    simp
   ·rw [if_neg hj0]
    have hl2 : (vs.take k).length = k := by rw [List.length_take]; omega
    unfold execD
    simp only
    rw [putA_find hi,putA_len,if_pos hi,putA_at hi,hl2,if_neg (by omega),if_neg (by rw [List.length_take,List.length_drop]; omega),putA_putA hi,Int.toNat_natCast,List.take_of_length_le (by omega : (vs.take k).length ≤ k),← List.take_add]
    unfold execD
    rfl
  have hh : handleP (act mt mx 0 (tkW kd ha vs k) (rqP ha k R vs)) { pd0 with kd := 23,ha := ha,of := (k : Int),vs := (vs.drop k).take R } [] 0 =
   (if k + R < vs.length then ⟨act mt mx 0 (tkW kd ha vs (k + R)) (rqP ha (k + R) R vs),0,[rqP ha (k + R) R vs],[]⟩ else ⟨act mt mx 0 (tkW kd ha vs (k + ((vs.drop k).take R).length)) { pd0 with kd := 24,cm := true },0,[{ pd0 with kd := 24,cm := true }],[]⟩) := by
   rw [handle_ans _ _ _ _ _ (by simp) (by simp) (by simp) rfl]
   unfold Sp.answered
   rw [if_neg (show ¬ (23 : Int) = 3 by decide),if_neg (show ¬ (23 : Int) = 17 by decide),if_neg (show ¬ (23 : Int) = 9 by decide),if_neg (show ¬ (23 : Int) = 5 by decide),if_neg (show ¬ ((23 : Int) = 11 ∨ (23 : Int) = 13) by decide),if_pos rfl]
   unfold Sp.prepared
   rw [if_pos ⟨rfl,rfl,rfl⟩]
   have hn : ((vs.drop k).take R).length = min R (vs.length - k) := by rw [List.length_take,List.length_drop]
   have hof : (act mt mx 0 (tkW kd ha vs k) (rqP ha k R vs)).tk.of = (k : Int) := rfl
   have htv : (act mt mx 0 (tkW kd ha vs k) (rqP ha k R vs)).tk.vs = vs := rfl
   simp only [hof,htv]
   by_cases hc : k + R < vs.length
   ·have hn2 : ((vs.drop k).take R).length = R := by omega
    rw [if_pos hc,if_pos (by rw [hn2]; omega),hn2]
    have hpr := piece_rq mt kd ha (k + R) vs
    rw [hRR] at hpr
    rw [← hpr]
    rfl
   ·rw [if_neg hc,if_neg (by rw [hn]; omega)]
    rfl
  by_cases hc : k + R < vs.length
  ·rw [if_pos hc] at hh
   refine Play.more hg (by rw [hst]; simp only; rw [hh]) (by rw [hst]; simp only; rw [hh]) ?_
   rw [hst]
   simp only
   rw [hh]
   have := ih (j + 1) (qu ++ [⟨ha,k,(vs.drop k).take R⟩]) (by simp [hl]) (by omega) (.inr (by rw [hk1]; exact hc)) hqo2 (by rw [hex2,if_neg (by omega),hk1])
   rw [hk1] at this
   exact this
  ·rw [if_neg hc] at hh
   refine Play.more hg (by rw [hst]; simp only; rw [hh]) (by rw [hst]; simp only; rw [hh]) ?_
   rw [hst]
   simp only
   rw [hh]
   have hb : vs.take (k + R) = vs := List.take_of_length_le (by omega)
   rw [hb] at hex2
   have := play_exec ⟨db,mt,smx,qu ++ [⟨ha,k,(vs.drop k).take R⟩]⟩ mx ha vs kd (k + ((vs.drop k).take R).length) _ hV (by rw [List.length_take,List.length_drop]; omega) hex2 (by simp [hl]; omega) hqo2
   exact this.mono (by omega)
end Go.Proofs.YtldcihjddebciaaGreat
