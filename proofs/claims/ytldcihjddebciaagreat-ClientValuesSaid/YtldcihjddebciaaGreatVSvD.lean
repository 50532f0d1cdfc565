/- client with a server: plain: a play over any server; the server keeps attributes of the permitted size. -/
import Derived.Test.YtldcihjddebciaaGreatVSvC
import Derived.Test.YtldcihjddebciaaGreatVSdM
set_option linter.unusedSimpArgs false
set_option linter.unusedVariables false
namespace Go.Proofs.YtldcihjddebciaaGreat
open Go.RowKit
/-- a play of at most n exchanges over a server that answers by st, from an open request to a result -/
inductive PlayG (st : Ss → Pd → Ss × Pd × List Im) (G : Cl → Ss → Pd → Prop) : Nat → Cl → Ss → Pd → Rs → Cl → Ss → Prop
 |done {n : Nat} {c : Cl} {s : Ss} {q : Pd} {r : Rs} (hg : G c s q) (hu : (handleP c (st s q).2.1 (st s q).2.2 0).us = [r]) : PlayG st G (n + 1) c s q r (handleP c (st s q).2.1 (st s q).2.2 0).c (st s q).1
 |more {n : Nat} {c c2 : Cl} {s s2 : Ss} {q q2 : Pd} {r : Rs} (hg : G c s q) (hu : (handleP c (st s q).2.1 (st s q).2.2 0).us = []) (hp : (handleP c (st s q).2.1 (st s q).2.2 0).ps = [q2]) (h : PlayG st G n (handleP c (st s q).2.1 (st s q).2.2 0).c (st s q).1 q2 r c2 s2) : PlayG st G (n + 1) c s q r c2 s2
theorem PlayG.mono {st : Ss → Pd → Ss × Pd × List Im} {G : Cl → Ss → Pd → Prop} {n m : Nat} {c c2 : Cl} {s s2 : Ss} {q : Pd} {r : Rs} (h : PlayG st G n c s q r c2 s2) (hm : n ≤ m) : PlayG st G m c s q r c2 s2 := by
 induction h generalizing m with
 |done hg hu =>
  obtain ⟨k,rfl⟩ : ∃ k,m = k + 1 := ⟨m - 1,by omega⟩
  exact .done hg hu
 |more hg hu hp _ ih =>
  obtain ⟨k,rfl⟩ : ∃ k,m = k + 1 := ⟨m - 1,by omega⟩
  exact .more hg hu hp (ih (by omega))
def stV (s : Ss) (q : Pd) : Ss × Pd × List Im := ((stepS s q).1,(stepS s q).2,[])
def GV (c : Cl) (s : Ss) (q : Pd) : Prop := Good c s q ∧ DbOk s.db
theorem execD_ok : ∀ (l : List Pq) (db d : List At),(∀ x ∈ l,0 ≤ x.of) → DbOk db → execD db l = .inl d → DbOk d
 |[],db,d,_,h,e => by
  simp only [execD,Sum.inl.injEq] at e
  exact e ▸ h
 |x :: l,db,d,hq,h,e => by
  by_cases h1 : findN db x.ha < db.length
  ·by_cases h2 : ((atI db (findN db x.ha)).bs.length : Int) < x.of
   ·simp only [execD,if_pos h1,if_pos h2] at e
    cases e
   ·by_cases h3 : 512 < x.of + x.vs.length
    ·simp only [execD,if_pos h1,if_neg h2,if_pos h3] at e
     cases e
    ·simp only [execD,if_pos h1,if_neg h2,if_neg h3] at e
     have h0 := hq x (by simp)
     refine execD_ok l _ _ (fun y hy => hq y (by simp [hy])) (h.put h1 ?_) e
     rw [List.length_append,List.length_take]
     omega
  ·simp only [execD,if_neg h1] at e
   cases e
theorem step_ok {c : Cl} {s : Ss} {q : Pd} (hg : Good c s q) (h : DbOk s.db) : DbOk (stepS s q).1.db := by
 unfold stepS
 by_cases h1 : q.kd = 2
 ·rw [if_pos h1]; exact h
 rw [if_neg h1]
 by_cases h2 : q.kd = 10 ∨ q.kd = 12
 ·rw [if_pos h2]; exact h
 rw [if_neg h2]
 by_cases h3 : q.kd = 18
 ·rw [if_pos h3]
  unfold writeS
  split
  ·rename_i hi
   split
   ·exact h.put hi hg.vs
   ·exact h
  ·exact h
 rw [if_neg h3]
 by_cases h4 : q.kd = 22
 ·rw [if_pos h4]
  unfold prepS
  split
  ·split
   ·split
    ·exact h
    ·exact h
   ·exact h
  ·exact h
 rw [if_neg h4]
 unfold execS
 split
 ·split
  ·rename_i db he
   exact execD_ok _ _ _ (fun x hx => (hg.qo x hx).1) h he
  ·exact h
 ·exact h
theorem Play.gen {n : Nat} {c c2 : Cl} {s s2 : Ss} {q : Pd} {r : Rs} (h : Play n c s q r c2 s2) : DbOk s.db → PlayG stV GV n c s q r c2 s2 := by
 induction h with
 |done hg hu => exact fun hd => PlayG.done (st := stV) ⟨hg,hd⟩ hu
 |more hg hu hp _ ih => exact fun hd => PlayG.more (st := stV) ⟨hg,hd⟩ hu hp (ih (step_ok hg hd))
theorem Play.dbok {n : Nat} {c c2 : Cl} {s s2 : Ss} {q : Pd} {r : Rs} (h : Play n c s q r c2 s2) : DbOk s.db → DbOk s2.db := by
 induction h with
 |done hg hu => exact fun hd => step_ok hg hd
 |more hg hu hp _ ih => exact fun hd => ih (step_ok hg hd)
end Go.Proofs.YtldcihjddebciaaGreat
