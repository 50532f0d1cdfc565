/- server: lists of elements that are made; cut; candidates. -/
import Derived.Test.YtldcihjddebciaaGreatDSeJ
set_option linter.unusedSimpArgs false
set_option linter.unusedVariables false
set_option maxRecDepth 100000
set_option maxHeartbeats 4000000
namespace Go.Proofs.YtldcihjddebciaaGreat
open Go.RowKit
/-- bytes of one's own -/
def OwB (B : Nat) (w : World) (v : Value) (bs : List Nat) : Prop := w.ownsRow B 5 1 v bs.length (bcells bs) ∧ (∀ x ∈ bs,x < 256) ∧ bs.length ≤ 1000000
theorem OwB.bv {B : Nat} {w : World} {v : Value} {bs : List Nat} (h : OwB B w v bs) : BV w v bs := by
 obtain ⟨a,c,rfl,hc⟩ := own_cap h.1
 exact ⟨a,c,rfl,hc,SR.of_own h.1 (bcells_one _) (by have := h.2.2; unfold maxLen; omega),by have := h.2.2; unfold reachBytes; omega,h.2.1⟩
theorem OwB.below {B : Nat} {w w' : World} {v : Value} {bs : List Nat} (h : OwB B w v bs) (hb : Below w.heap.size w w') : OwB B w' v bs := ⟨own_below h.1 hb,h.2⟩
theorem own_ne {B rb : Nat} {w : World} {e k n : Nat} {v : Value} {cs : List Value} (h : w.ownsRow B e k v n cs) (hr : rb < B) : v.ownBlock = none ∨ v.ownBlock ≠ some rb := by
 cases hx : v.ownBlock with
 |none => exact .inl rfl
 |some i => exact .inr (fun e => by injection e with e; have := (h.lt i hx).1; omega)
theorem OwB.kept {B rb : Nat} {w w' : World} {v : Value} {bs : List Nat} (h : OwB B w v bs) (hg : w.grownBy w' (some rb)) (hr : rb < B) : OwB B w' v bs := ⟨h.1.kept hg (own_ne h.1 hr),h.2⟩
/-- elements in a row of one's own, with bytes of one's own -/
def ItO (B : Nat) (w : World) (v : Value) (l : List Im) : Prop := ∃ qs : List (Im × Value),qs.map (·.1) = l ∧ w.ownsRow B 142 5 v l.length (qs.flatMap ienc) ∧ ∀ q ∈ qs,OwB B w q.2 q.1.bs
theorem ItO.nil (B : Nat) (w : World) : ItO B w (.slice none 0 0) [] := ⟨[],rfl,⟨rfl,.inl ⟨rfl,rfl⟩⟩,fun q hq => by cases hq⟩
theorem ItO.below {B : Nat} {w w' : World} {v : Value} {l : List Im} (h : ItO B w v l) (hb : Below w.heap.size w w') : ItO B w' v l := by
 obtain ⟨qs,h1,h2,h3⟩ := h
 exact ⟨qs,h1,own_below h2 hb,fun q hq => (h3 q hq).below hb⟩
theorem ItO.kept {B rb : Nat} {w w' : World} {v : Value} {l : List Im} (h : ItO B w v l) (hg : w.grownBy w' (some rb)) (hr : rb < B) : ItO B w' v l := by
 obtain ⟨qs,h1,h2,h3⟩ := h
 exact ⟨qs,h1,h2.kept hg (own_ne h2 hr),fun q hq => (h3 q hq).kept hg hr⟩
theorem ItO.form {B : Nat} {w : World} {v : Value} {l : List Im} (h : ItO B w v l) : ∃ a c,v = .slice a l.length c := by
 obtain ⟨qs,h1,h2,h3⟩ := h
 exact own_form h2
theorem ItO.lt {B : Nat} {w : World} {v : Value} {l : List Im} (h : ItO B w v l) : ∀ j,v.ownBlock = some j → j < w.heap.size := fun j hj => by
 obtain ⟨qs,_,h2,_⟩ := h
 exact (h2.lt j hj).2
theorem ItO.add {B : Nat} {w w' : World} {v v' : Value} {l : List Im} {i : Im} {bv : Value} (h : ∃ qs : List (Im × Value),qs.map (·.1) = l ∧ w.ownsRow B 142 5 v l.length (qs.flatMap ienc) ∧ (∀ q ∈ qs,OwB B w q.2 q.1.bs) ∧ w'.ownsRow B 142 5 v' (l.length + 1) (qs.flatMap ienc ++ ienc (i,bv))) (hg : w.grownBy w' v.ownBlock) (hb : OwB B w bv i.bs) : ItO B w' v' (l ++ [i]) := by
 obtain ⟨qs,h1,h2,h3,h4⟩ := h
 have hk : ∀ (x : Value) (bs : List Nat),OwB B w x bs → OwB B w' x bs := fun x bs hx => ⟨hx.1.kept hg (by
  cases hy : x.ownBlock with
  |none => exact .inl rfl
  |some j => exact .inr (fun e => rows_ne hx.1 h2 (by decide) j hy e.symm)),hx.2⟩
 refine ⟨qs ++ [(i,bv)],by rw [List.map_append,h1]; rfl,?_,fun q hq => ?_⟩
 ·rw [List.length_append,List.flatMap_append]
  simpa using h4
 ·rcases List.mem_append.1 hq with h | h
  ·exact hk _ _ (h3 q h)
  ·rw [List.mem_singleton.1 h]
   exact hk _ _ hb
theorem ienc_one {B : Nat} {w : World} {qs : List (Im × Value)} (h : ∀ q ∈ qs,OwB B w q.2 q.1.bs) : ∀ u ∈ qs.flatMap ienc,u.oneCell' = true := fun u hu => by
 obtain ⟨q,hq,hu⟩ := List.mem_flatMap.1 hu
 obtain ⟨a,c,e⟩ := (h q hq).bv.form
 simp [ienc] at hu
 rcases hu with rfl | rfl | rfl | rfl | rfl <;> first | rfl | (rw [e]; rfl)
theorem ItO.first {B : Nat} {w : World} {v : Value} {l : List Im} (h : ItO B w v l) (hl : 0 < l.length) (hm : l.length ≤ 1000) : ∃ g cap fa fc,v = .slice (some ⟨g,0,none⟩) l.length cap ∧ w.cell? ⟨g,4,none⟩ = some (.slice fa (l.getD 0 default).bs.length fc) := by
 obtain ⟨qs,h1,h2,h3⟩ := h
 have hq : 0 < qs.length := by rw [← h1,List.length_map] at hl; exact hl
 have hs := SR.of_own h2 (ienc_one h3) (by unfold maxLen; omega)
 have hlq : l.length = qs.length := by rw [← h1,List.length_map]
 rcases h2.2 with ⟨_,h5⟩ | ⟨g,cap,cur,hv,_⟩
 ·omega
 ·rw [hlq] at hs
  obtain ⟨b,off,cap',e,hx⟩ := sr_rows ienc ienc_len hs hq
  rw [hv] at e
  simp only [Value.slice.injEq,Option.some.injEq,Addr.mk.injEq] at e
  obtain ⟨⟨rfl,rfl,-⟩,-,-⟩ := e
  obtain ⟨fa,fc,e2⟩ := (h3 qs[0] (List.getElem_mem hq)).bv.form
  refine ⟨g,cap,fa,fc,hv,?_⟩
  have := hx 0 qs[0] (List.getElem?_eq_getElem hq) 4 qs[0].2 rfl
  have e3 : l.getD 0 default = qs[0].1 := by rw [← h1]; simp [List.getD_eq_getElem?_getD,List.getElem?_eq_getElem hq]
  rw [e3,← e2]
  simpa using this
theorem ItO.ans {B : Nat} {w : World} {v : Value} {l : List Im} (h : ItO B w v l) (hm : l.length ≤ 1000) : ∃ qs : List (Im × Value),qs.map (·.1) = l ∧ SR w v qs.length 5 (qs.flatMap ienc) ∧ ∀ q ∈ qs,BV w q.2 q.1.bs := by
 obtain ⟨qs,h1,h2,h3⟩ := h
 have hlq : l.length = qs.length := by rw [← h1,List.length_map]
 exact ⟨qs,h1,by rw [← hlq]; exact SR.of_own h2 (ienc_one h3) (by unfold maxLen; omega),fun q hq => (h3 q hq).bv⟩
theorem cutO_any (a : Option Addr) (L c : Nat) (bs : List Nat) (n : Int) (w : World) (h : BV w (.slice a L c) bs) (hL : bs.length = L) (hm : L ≤ 1000000) : Calls Tryz.prog 98 #[.slice a L c,.int .i64 n] w fun e w' => ∃ v,e = .returned v ∧ OwB w.heap.size w' v (bs.take n.toNat) ∧ Below w.heap.size w w' := by
 obtain ⟨i0,hi0,hi1,hi2,hi3⟩ := info_parts Tryz.info_u8
 obtain ⟨M,hM⟩ : ∃ M : Nat,(M : Int) = max n 0 := ⟨n.toNat,by omega⟩
 have x1 : max n 0 = (M : Int) := hM.symm
 have x2 : (if n < 0 then 0 else n) = (M : Int) := by rw [hM]; split <;> omega
 obtain ⟨K,hK⟩ : ∃ K : Nat,min M L = K := ⟨_,rfl⟩
 have y1 : min (M : Int) (L : Int) = (K : Int) := by omega
 have y2 : (if (L : Int) < (M : Int) then (L : Int) else (M : Int)) = (K : Int) := by split <;> omega
 have y3 : (if L < M then (L : Int) else (M : Int)) = (K : Int) := by split <;> omega
 have y4 : (if M < L then (M : Int) else (L : Int)) = (K : Int) := by split <;> omega
 have y5 : (if (M : Int) < (L : Int) then (M : Int) else (L : Int)) = (K : Int) := by split <;> omega
 have et : bs.take n.toNat = bs.take K := by
  rw [show n.toNat = M by omega]
  by_cases hml : M ≤ L
  ·rw [show K = M by omega]
  ·rw [List.take_of_length_le (by omega),List.take_of_length_le (by omega)]
 rw [et]
 obtain ⟨_,_,e,hc,hby⟩ := h
 rw [hL] at e hc hby
 cases e
 obtain ⟨a',hby',hrun⟩ := bytes_to w a L c K bs hby hL hc (by omega)
 have hKl : (bs.take K).length = K := by rw [List.length_take]; omega
 have hlt : ∀ x ∈ bs.take K,x < 256 := fun x hx => hby.2.2 x (List.mem_of_mem_take hx)
 have hA := (Below.refl w.heap.size w).alloc (Nat.le_refl _) (.cells #[] 5)
 have hsr : SR (w.alloc (.cells #[] 5)) (.slice a' K c) K 1 (bcells (bs.take K)) := by
  have h := hby'.1
  rw [hKl] at h
  exact h.below hA
 have HF := Lib.hid (And.intro hKl hlt)
 have hKb : K * 1 ≤ 140737488355328 := by omega
 have HKM : Hid (K ≤ 1000000) := Lib.hid (by omega)
 clear hM hK et hby hby' hL hc hm hKl hlt
 go_enter Tryz.func98,Tryz.ntmps98
 have hoz := own_zero w 5 1 w.heap.size (Nat.le_refl _)
 go_wp2_with (refine wpList_app_own0 rfl _ _ 27 rfl w.heap.size 5 i0 _ 1 1 Tryz.underlying27 hi0 hi1 hi2 hi3 rfl (by decide) _ rfl hoz (.slice a' K c) K (bcells (bs.take K)) rfl hsr hKb (by simp) ?_; intro v5 w5 hown5 hg5)
 go_ret
 exact ⟨_,rfl,⟨by rw [HF.out.1]; exact hown5,HF.out.2,by rw [HF.out.1]; exact HKM.out⟩,hA.trans (own_low hoz hg5 (by simp))⟩
/-- the candidates among the first attributes -/
def candK (db : List At) (A B hi lo : Int) (k : Nat) : List At := candL (db.take k) A B hi lo
theorem candK_succ (db : List At) (A B hi lo : Int) (k : Nat) (h : k < db.length) : candK db A B hi lo (k + 1) = candK db A B hi lo k ++ (if inT A B hi lo (atI db k) = true then [atI db k] else []) := by
 unfold candK candL
 rw [List.take_succ_eq_append_getElem h,List.filter_append,atI_get h]
 congr 1
 cases hx : inT A B hi lo (atI db k) <;> simp [hx]
theorem candK_le (db : List At) (A B hi lo : Int) (k : Nat) : (candK db A B hi lo k).length ≤ k := Nat.le_trans (List.length_filter_le _ _) (by rw [List.length_take]; omega)
theorem candK_pre (db : List At) (A B hi lo : Int) (k : Nat) : candL db A B hi lo = candK db A B hi lo k ++ candL (db.drop k) A B hi lo := by
 unfold candK candL
 rw [← List.filter_append,List.take_append_drop]
theorem candK_take (db : List At) (A B hi lo : Int) (k : Nat) : candK db A B hi lo k = (candL db A B hi lo).take (candK db A B hi lo k).length := by
 rw [candK_pre db A B hi lo k]
 simp
theorem candK_all (db : List At) (A B hi lo : Int) : candK db A B hi lo db.length = candL db A B hi lo := by
 unfold candK
 rw [List.take_of_length_le (Nat.le_refl _)]
theorem candK_at (db : List At) (A B hi lo : Int) (k : Nat) (h : k < db.length) (ht : inT A B hi lo (atI db k) = true) : atI (candL db A B hi lo) (candK db A B hi lo k).length = atI db k ∧ (candK db A B hi lo k).length < (candL db A B hi lo).length := by
 have e := candK_pre db A B hi lo (k + 1)
 rw [candK_succ db A B hi lo k h,if_pos ht] at e
 rw [e]
 constructor
 ·unfold atI
  rw [List.getD_eq_getElem?_getD,List.append_assoc,List.getElem?_append_right (Nat.le_refl _),Nat.sub_self]
  rfl
 ·simp
theorem candK_get (db : List At) (A B hi lo : Int) (k i : Nat) (h : i < (candK db A B hi lo k).length) : atI (candK db A B hi lo k) i = atI (candL db A B hi lo) i := by
 rw [candK_pre db A B hi lo k]
 unfold atI
 rw [List.getD_eq_getElem?_getD,List.getD_eq_getElem?_getD,List.getElem?_append_left h]
end Go.Proofs.YtldcihjddebciaaGreat
