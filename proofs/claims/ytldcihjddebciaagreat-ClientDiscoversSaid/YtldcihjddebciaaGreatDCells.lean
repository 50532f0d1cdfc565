/- Small lemmas for the walks of this seat. And what follows it. -/
import Derived.Test.YtldcihjddebciaaGreatRows
import Derived.WalkKit
import Derived.WalkLawsBesides
import Derived.Lib.Hide
import Derived.WalkSpells
import Derived.Laws.AppendOwnNone
import Derived.Laws.CopyOwn
import Derived.ProofKit
import Derived.OpenShut
import Derived.ShutString
import Derived.ChangeOld
import Derived.Below
import Derived.Deep.Slices
import Derived.SizedLaws
import Derived.Laws.BytesArg
import Derived.Deep.QuietTactic
import Derived.BigQuiet
import Derived.WalkSmall
import Derived.Deep.RegionHeld3
set_option linter.unusedSimpArgs false
set_option linter.unusedVariables false
namespace Go.Proofs.YtldcihjddebciaaGreat
open Go.RowKit
theorem ret_eq {k : IntKind} {a b : Int} (h : a = b) : Ending.returned (.int k a) = .returned (.int k b) := by rw [h]
theorem ret_bool {a b : Bool} (h : a = b) : Ending.returned (.bool a) = .returned (.bool b) := by rw [h]
theorem or64 {x y : Int} {X Y : Nat} (hx : x = X) (hy : y = Y) (h1 : X < 18446744073709551616) (h2 : Y < 18446744073709551616) : bits .or .u64 x y = ((X ||| Y : Nat) : Int) := by
 subst hx hy
 exact u64_or_nat _ _ h1 h2
/-- a cell of a new block -/
theorem cellNew (w : World) (cs : Array Value) (t : TypeId) (j : Nat) (v : Value) (h : cs[j]? = some v) : (w.alloc (.cells cs t)).cell? ⟨w.heap.size,j,none⟩ = some v := by
 have e := heap_alloc_new w (Obj.cells cs t)
 unfold World.cell?
 simp only [e]
 exact h
/-- v is a slice of n elements of 'size' cells each, which read cs -/
def SR (w : World) (v : Value) (n size : Nat) (cs : List Value) : Prop :=
 n ≤ maxLen ∧ cs.length = n * size ∧ (∀ u ∈ cs,u.oneCell' = true) ∧ ∃ (ao : Option Addr) (cap : Nat),v = .slice ao n cap ∧ (ao = none → n = 0 ∧ cap = 0) ∧
   (0 < n → ∃ b off,ao = some ⟨b,off,none⟩ ∧ b < w.heap.size ∧ ∀ j u,cs[j]? = some u → w.cell? ⟨b,off + j,none⟩ = some u)
theorem SR.below {w w' : World} {v : Value} {n size : Nat} {cs : List Value} (h : SR w v n size cs) (hb : Below w.heap.size w w') : SR w' v n size cs := by
 obtain ⟨h1,h2,h3,ao,cap,rfl,hn,h4⟩ := h
 refine ⟨h1,h2,h3,ao,cap,rfl,hn,fun h0 => ?_⟩
 obtain ⟨b,off,rfl,hlt,hc⟩ := h4 h0
 exact ⟨b,off,rfl,Nat.lt_of_lt_of_le hlt hb.size,fun j u hj => (hb.cell (p := ⟨b,off + j,none⟩) hlt).trans (hc j u hj)⟩
theorem SR.of_own {w : World} {base e : Nat} {size : Nat} {v : Value} {n : Nat} {cs : List Value} (h : w.ownsRow base e size v n cs) (h1 : ∀ u ∈ cs,u.oneCell' = true) (hm : n ≤ maxLen) : SR w v n size cs := by
 refine ⟨hm,h.1,h1,?_⟩
 rcases h.2 with ⟨rfl,rfl⟩ | ⟨g,cap,cur,rfl,hb,hg,hc⟩
 ·exact ⟨none,0,rfl,fun _ => ⟨rfl,rfl⟩,fun h => (by omega)⟩
 ·refine ⟨_,cap,rfl,fun h => (by cases h),fun _ => ⟨g,0,rfl,(Array.getElem?_eq_some_iff.1 hg).1,fun j u hj => ?_⟩⟩
  have := h.cellAt j (by rw [← h.1]; exact (List.getElem?_eq_some_iff.1 hj).1)
  simpa [this] using hj
/-- what is owned stays owned while nothing below the heap's end is turned -/
theorem own_below {w w' : World} {base e size : Nat} {v : Value} {n : Nat} {xs : List Value} (h : w.ownsRow base e size v n xs) (hb : Below w.heap.size w w') : w'.ownsRow base e size v n xs := by
 refine ⟨h.1,?_⟩
 rcases h.2 with h0 | ⟨g,cap,cur,rfl,hbg,hg,r⟩
 ·exact .inl h0
 ·exact .inr ⟨g,cap,cur,rfl,hbg,by rw [hb.block g (Array.getElem?_eq_some_iff.1 hg).1]; exact hg,r⟩
theorem own_base {w : World} {base base' e size : Nat} {v : Value} {n : Nat} {xs : List Value} (h : w.ownsRow base e size v n xs) (hb : base' ≤ base) : w.ownsRow base' e size v n xs := by
 refine ⟨h.1,?_⟩
 rcases h.2 with h0 | ⟨g,cap,cur,rfl,hbg,r⟩
 ·exact .inl h0
 ·exact .inr ⟨g,cap,cur,rfl,by omega,r⟩
end Go.Proofs.YtldcihjddebciaaGreat
namespace Go.Proofs.YtldcihjddebciaaGreat
open Go.ChangeShapes Go.WideShapes Go.ChangeAt Go.RowKit
/-- the cells cs can be read as a value of type t -/
def Rd (P : Program) (w : World) (t : TypeId) (cs : List Value) : Prop :=
 ∃ (H : Type) (enc : TypeId × Value → H) (fuel : Nat) (x : DataW H × List MemPlace),DataW.trod enc P w 0 (fun _ => true) true fuel t cs = some x ∧ ∀ n ∈ x.1.weights P t,n ≤ reachBytes
/-- an argument: of its type's form, and readable -/
def Arg (P : Program) (w : World) (t : TypeId) (v : Value) : Prop := (∃ base,Value.okWide P w .any base t v) ∧ Rd P w t v.cells.toList
theorem Arg.of {H : Type} {enc : TypeId × Value → H} {P : Program} {w : World} {base : Nat} {t : TypeId} {v : Value} {d : DataW H} {p : List MemPlace}
 (hv : Value.okWide P w .any base t v) (h : DataW.Trod enc P w 0 (fun _ => true) true t v d p) (hr : ∀ n ∈ d.weights P t,n ≤ reachBytes) : Arg P w t v :=
 ⟨⟨base,hv⟩,by obtain ⟨m,hm⟩ := h; exact ⟨H,enc,m,_,hm,hr⟩⟩
theorem weights_mem_all {H : Type} {P : Program} {e : TypeId} : ∀ {ds : List (DataW H)} {d : DataW H},d ∈ ds → ∀ n ∈ d.weights P e,n ∈ DataW.weightsAll P e ds
 |d0 :: ds,d,hd,n,hn => by
  simp only [DataW.weightsAll,List.mem_append]
  rcases List.mem_cons.1 hd with rfl | h
  ·exact .inl hn
  ·exact .inr (weights_mem_all h n hn)
theorem sized_each {H : Type} {P : Program} {ts : List TypeId} {ds : List (DataW H)} (h : (DataW.weightsEach P ts ds).all (· ≤ reachBytes) = true) {j : Nat} {t : TypeId} {d : DataW H} (ht : ts[j]? = some t) (hd : ds[j]? = some d) : ∀ n ∈ d.weights P t,n ≤ reachBytes := fun n hn => by
 simpa using List.all_eq_true.1 h n (DataW.weights_mem_each ht hd n hn)
theorem wf_u {k : IntKind} {n : Int} (h : (Lit.int k n).wf = true) : k.min ≤ n ∧ n ≤ k.max := by
 simpa [Lit.wf] using h
theorem Rd.int {P : Program} {w : World} {t : TypeId} {k : IntKind} {cs : List Value} (ht : P.underlying t = some (.int k)) (h : Rd P w t cs) : ∃ n,cs = [.int k n] ∧ k.min ≤ n ∧ n ≤ k.max := by
 obtain ⟨H,enc,fuel,x,h,hw⟩ := h
 obtain ⟨n,e1,e2,e3⟩ := DataW.trod_int ht h
 exact ⟨n,e1,wf_u e3⟩
theorem Rd.u8 {P : Program} {w : World} {t : TypeId} {cs : List Value} (ht : P.underlying t = some (.int .u8)) (h : Rd P w t cs) : ∃ n : Nat,cs = [.int .u8 n] ∧ n < 256 := by
 obtain ⟨n,rfl,h1,h2⟩ := Rd.int ht h
 simp [IntKind.min,IntKind.max,IntKind.signed,IntKind.bits] at h1 h2
 obtain ⟨m,rfl⟩ := Int.eq_ofNat_of_zero_le h1
 exact ⟨m,rfl,by omega⟩
theorem Rd.u16 {P : Program} {w : World} {t : TypeId} {cs : List Value} (ht : P.underlying t = some (.int .u16)) (h : Rd P w t cs) : ∃ n : Nat,cs = [.int .u16 n] ∧ n < 65536 := by
 obtain ⟨n,rfl,h1,h2⟩ := Rd.int ht h
 simp [IntKind.min,IntKind.max,IntKind.signed,IntKind.bits] at h1 h2
 obtain ⟨m,rfl⟩ := Int.eq_ofNat_of_zero_le h1
 exact ⟨m,rfl,by omega⟩
theorem Rd.u64 {P : Program} {w : World} {t : TypeId} {cs : List Value} (ht : P.underlying t = some (.int .u64)) (h : Rd P w t cs) : ∃ n : Nat,cs = [.int .u64 n] ∧ n < 18446744073709551616 := by
 obtain ⟨n,rfl,h1,h2⟩ := Rd.int ht h
 simp [IntKind.min,IntKind.max,IntKind.signed,IntKind.bits] at h1 h2
 obtain ⟨m,rfl⟩ := Int.eq_ofNat_of_zero_le h1
 exact ⟨m,rfl,by omega⟩
theorem Rd.i64 {P : Program} {w : World} {t : TypeId} {cs : List Value} (ht : P.underlying t = some (.int .i64)) (h : Rd P w t cs) : ∃ n : Int,cs = [.int .i64 n] ∧ -9223372036854775808 ≤ n ∧ n ≤ 9223372036854775807 := by
 obtain ⟨n,rfl,h1,h2⟩ := Rd.int ht h
 simp [IntKind.min,IntKind.max,IntKind.signed,IntKind.bits] at h1 h2
 exact ⟨n,rfl,by omega,by omega⟩
theorem Rd.struct {P : Program} {w : World} {t : TypeId} {fs : Array Field} {cs : List Value} (ht : P.underlying t = some (.struct fs)) (h : Rd P w t cs) :
 cs.length = P.cellsOf t ∧ ∀ (i : Nat) (f : Field),fs[i]? = some f → Rd P w f.type ((cs.drop f.offset).take (P.cellsOf f.type)) := by
 obtain ⟨H,enc,fuel,x,h,hw⟩ := h
 obtain ⟨xs,n,_,rfl,hl,hlen,hf⟩ := DataW.trod_struct ht h
 refine ⟨hl,fun i f hi => ?_⟩
 have hlt : i < xs.length := by rw [hlen]; exact (Array.getElem?_eq_some_iff.1 hi).1
 refine ⟨H,enc,n,xs[i],by rw [hf i f hi]; simp [hlt],fun k hk => hw k ?_⟩
 have : (DataW.agg (xs.map (·.1))).weights P t = DataW.weightsEach P (fs.toList.map (·.type)) (xs.map (·.1)) := by rw [DataW.weights,ht]
 rw [this]
 exact DataW.weights_mem_each (j := i) (t := f.type) (d := xs[i].1) (by rw [List.getElem?_map]; simp [hi]) (by simp [hlt]) k hk
/-- a slice: nil, or a row of cap elements, each readable -/
theorem Rd.slice {P : Program} {w : World} {t e : TypeId} {cs : List Value} (ht : P.underlying t = some (.slice e)) (h : Rd P w t cs) :
 cs = [.slice none 0 0] ∨ ∃ (a : Addr) (len cap : Nat),cs = [.slice (some a) len cap] ∧ len ≤ cap ∧ cap ≤ maxLen ∧ cap * P.bytesOf e ≤ reachBytes ∧
  ∀ i,i < cap → ∃ cs',w.cells? 0 (a.add (i * P.cellsOf e)) (P.cellsOf e) = some cs' ∧ Rd P w e cs' := by
 obtain ⟨H,enc,fuel,x,h,hw⟩ := h
 rcases Deep.open_slice ht h with ⟨h0,_⟩ | ⟨a,len,cap,m,n,D,Pl,h1,_,h2,h3,h4,rfl,h5⟩
 ·exact .inl h0
 ·simp only [if_true] at h4
  subst h4
  rw [DataW.weights,ht] at hw
  refine .inr ⟨a,len,m,h1,h2,h3,?_,fun i hi => ?_⟩
  ·have := hw _ List.mem_cons_self
   simp only [List.length_map,List.length_range] at this
   rwa [show len + (m - len) = m by omega] at this
  ·obtain ⟨cs',e1,e2⟩ := h5 i hi
   refine ⟨cs',e1,H,enc,n,_,e2,fun k hk => hw k (List.mem_cons_of_mem _ (List.mem_append.2 ?_))⟩
   by_cases hl : i < len
   ·exact .inl (weights_mem_all (List.mem_map.2 ⟨i,List.mem_range.2 hl,rfl⟩) k hk)
   ·exact .inr (weights_mem_all (List.mem_map.2 ⟨i - len,List.mem_range.2 (by omega),by rw [show len + (i - len) = i by omega]⟩) k hk)
theorem Arg.u16 {P : Program} {w : World} {t : TypeId} {v : Value} (ht : P.underlying t = some (.int .u16)) (h : Arg P w t v) : ∃ n : Nat,v = .int .u16 n ∧ n < 65536 := by
 obtain ⟨⟨b,hv⟩,hr⟩ := h
 obtain ⟨n,rfl⟩ := okWide_int ht hv
 obtain ⟨m,e,h⟩ := Rd.u16 ht hr
 simp [Value.cells] at e
 exact ⟨m,by rw [e],h⟩
theorem Arg.i64 {P : Program} {w : World} {t : TypeId} {v : Value} (ht : P.underlying t = some (.int .i64)) (h : Arg P w t v) : ∃ n : Int,v = .int .i64 n ∧ -9223372036854775808 ≤ n ∧ n ≤ 9223372036854775807 := by
 obtain ⟨⟨b,hv⟩,hr⟩ := h
 obtain ⟨n,rfl⟩ := okWide_int ht hv
 obtain ⟨m,e,h⟩ := Rd.i64 ht hr
 simp [Value.cells] at e
 exact ⟨m,by rw [e],h⟩
theorem Arg.slice {P : Program} {w : World} {t e : TypeId} {v : Value} (ht : P.underlying t = some (.slice e)) (h : Arg P w t v) :
 v = .slice none 0 0 ∨ ∃ (a : Addr) (len cap : Nat),v = .slice (some a) len cap ∧ len ≤ cap ∧ cap ≤ maxLen ∧ cap * P.bytesOf e ≤ reachBytes ∧
   ∀ i,i < cap → ∃ cs',w.cells? 0 (a.add (i * P.cellsOf e)) (P.cellsOf e) = some cs' ∧ Rd P w e cs' := by
 obtain ⟨⟨b,hv⟩,hr⟩ := h
 obtain ⟨a0,len,cap,rfl⟩ := okWide_slice ht hv
 rcases Rd.slice ht hr with h0 | ⟨a,l,c,h1,h2⟩
 ·left
  simpa [Value.cells] using h0
 ·right
  simp [Value.cells] at h1
  obtain ⟨rfl,rfl,rfl⟩ := h1
  exact ⟨a,_,_,rfl,h2⟩
theorem Tryz.own : ownKnob Tryz.prog.godebug = none := by kernel_rfl
theorem Tryz.laid : laidOutB Tryz.prog = true := by kernel_rfl
theorem addr_add (b off j : Nat) : (⟨b,off,none⟩ : Addr).add j = ⟨b,off + j,none⟩ := by unfold Addr.add; split <;> simp_all
theorem flat_get {α : Type} (enc : α → List Value) (size : Nat) (hsz : ∀ x,(enc x).length = size) : ∀ (l : List α) (i j : Nat) (hi : i < l.length),j < size → (l.flatMap enc)[i * size + j]? = (enc l[i])[j]?
 |x :: l,0,j,_,hj => by
  simp only [List.flatMap_cons,Nat.zero_mul,Nat.zero_add,List.getElem_cons_zero]
  rw [List.getElem?_append_left (by rw [hsz]; exact hj)]
 |x :: l,i+1,j,hi,hj => by
  have := flat_get enc size hsz l i j (by simpa using hi) hj
  simp only [List.flatMap_cons,List.getElem_cons_succ]
  rw [List.getElem?_append_right (by rw [hsz,Nat.add_mul]; omega),hsz,show (i + 1) * size + j - size = i * size + j by rw [Nat.add_mul]; omega]
  exact this
theorem flat_len {α : Type} (enc : α → List Value) (size : Nat) (hsz : ∀ x,(enc x).length = size) : ∀ l : List α,(l.flatMap enc).length = l.length * size
 |[] => by simp
 |x :: l => by simp [List.flatMap_cons,hsz,flat_len enc size hsz l,Nat.add_mul]; omega
/-- what is known of a slice value that came in -/
def SlIn (P : Program) (w : World) (e : TypeId) (v : Value) : Prop :=
 v = .slice none 0 0 ∨ ∃ (a : Addr) (len cap : Nat),v = .slice (some a) len cap ∧ len ≤ cap ∧ cap ≤ maxLen ∧ cap * P.bytesOf e ≤ reachBytes ∧
   ∀ i,i < cap → ∃ cs',w.cells? 0 (a.add (i * P.cellsOf e)) (P.cellsOf e) = some cs' ∧ Rd P w e cs'
theorem Rd.slIn {P : Program} {w : World} {t e : TypeId} {cs : List Value} (ht : P.underlying t = some (.slice e)) (h : Rd P w t cs) : ∃ v,cs = [v] ∧ SlIn P w e v := by
 rcases h.slice ht with rfl | ⟨a,len,cap,rfl,r⟩
 ·exact ⟨_,rfl,.inl rfl⟩
 ·exact ⟨_,rfl,.inr ⟨a,len,cap,rfl,r⟩⟩
theorem Arg.slIn {P : Program} {w : World} {t e : TypeId} {v : Value} (ht : P.underlying t = some (.slice e)) (h : Arg P w t v) : SlIn P w e v := h.slice ht
theorem sr_of_in {α : Type} [Inhabited α] {P : Program} {w : World} {e : TypeId} {v : Value} (enc : α → List Value) (Good : α → Prop) (size bytes : Nat) (hsz : ∀ x,(enc x).length = size) (h1 : ∀ x,Good x → ∀ u ∈ enc x,u.oneCell' = true) (h0 : 0 < size)
 (hc : P.cellsOf e = size) (hby : P.bytesOf e = bytes) (hdec : ∀ cs,Rd P w e cs → ∃ x,cs = enc x ∧ Good x) (h : SlIn P w e v) :
 ∃ l : List α,SR w v l.length size (l.flatMap enc) ∧ l.length * bytes ≤ reachBytes ∧ ∀ x ∈ l,Good x := by
 rcases h with rfl | ⟨a,len,cap,rfl,hle,hm,hr,hel⟩
 ·exact ⟨[],⟨Nat.zero_le _,by simp,by simp,none,0,rfl,fun _ => ⟨rfl,rfl⟩,fun h => absurd h (by simp)⟩,by simp,by simp⟩
 ·rw [hc] at hel
  rw [hby] at hr
  obtain ⟨f,hf⟩ := Deep.choose_lt (n := len) (p := fun i x => w.cells? 0 (a.add (i * size)) size = some (enc x) ∧ Good x) (fun i hi => by
   obtain ⟨cs,e1,e2⟩ := hel i (by omega)
   obtain ⟨x,rfl,hg⟩ := hdec cs e2
   exact ⟨x,e1,hg⟩)
  have hlen : ((List.range len).map f).length = len := by simp
  have hgood : ∀ x ∈ (List.range len).map f,Good x := fun x hx => by
   obtain ⟨i,hi,rfl⟩ := List.mem_map.1 hx
   exact (hf i (List.mem_range.1 hi)).2
  have hone : ∀ u ∈ ((List.range len).map f).flatMap enc,u.oneCell' = true := fun u hu => by
   obtain ⟨x,hx0,hx⟩ := List.mem_flatMap.1 hu
   exact h1 x (hgood x hx0) u hx
  refine ⟨(List.range len).map f,⟨by rw [hlen]; omega,flat_len enc size hsz _,hone,some a,cap,by rw [hlen],fun h => (by cases h),fun hp => ?_⟩,by rw [hlen]; exact Nat.le_trans (Nat.mul_le_mul_right _ hle) hr,hgood⟩
  rw [hlen] at hp
  obtain ⟨_,hl0,hc0⟩ := World.cells?_some (hf 0 hp).1
  have hcell := hc0 0 h0
  obtain ⟨b,off,spot⟩ := a
  have hg : (enc (f 0))[0]? = some ((enc (f 0))[0]'(by rw [hsz]; exact h0)) := List.getElem?_eq_getElem _
  rw [hg] at hcell
  have hspot : spot = none := by simpa [Addr.add] using World.cell?_spot hcell
  subst hspot
  refine ⟨b,off,rfl,by simpa [addr_add] using World.block_lt_of_cell? w _ hcell,fun j u hj => ?_⟩
  have hjl : j < len * size := by
   have := (List.getElem?_eq_some_iff.1 hj).1
   rw [flat_len enc size hsz,hlen] at this
   exact this
  have hq : j / size < len := Nat.div_lt_of_lt_mul (by rw [Nat.mul_comm]; exact hjl)
  have hr2 : j % size < size := Nat.mod_lt _ h0
  have hjj : j = (j / size) * size + j % size := by rw [Nat.mul_comm]; exact (Nat.div_add_mod j size).symm
  obtain ⟨_,_,hcj⟩ := World.cells?_some (hf (j / size) hq).1
  have h2 := hcj (j % size) hr2
  rw [hjj,flat_get enc size hsz _ _ _ (by rw [hlen]; exact hq) hr2] at hj
  simp only [List.getElem_map,List.getElem_range] at hj
  rw [← hj,← h2,addr_add,addr_add,Nat.add_assoc,← hjj]
theorem list2 {α : Type} (l : List α) (h : l.length = 2) : ∃ a b,l = [a,b] := by
 match l,h with
 |[a,b],_ => exact ⟨a,b,rfl⟩
/-- bytes that are read -/
def bcells (bs : List Nat) : List Value := bs.map fun x : Nat => .int .u8 (x : Int)
theorem bcells_flat (bs : List Nat) : bs.flatMap (fun x : Nat => [Value.int .u8 (x : Int)]) = bcells bs := by
 induction bs with
 |nil => rfl
 |cons x l ih => rw [List.flatMap_cons,ih]; rfl
theorem bcells_one (bs : List Nat) : ∀ u ∈ bcells bs,u.oneCell' = true := by
 intro u hu
 obtain ⟨x,_,rfl⟩ := List.mem_map.1 hu
 rfl
def BytesAt (w : World) (v : Value) (bs : List Nat) : Prop := SR w v bs.length 1 (bcells bs) ∧ bs.length ≤ reachBytes ∧ ∀ x ∈ bs,x < 256
theorem BytesAt.below {w w' : World} {v : Value} {bs : List Nat} (h : BytesAt w v bs) (hb : Below w.heap.size w w') : BytesAt w' v bs := ⟨h.1.below hb,h.2⟩
theorem bytes_of_in {P : Program} {w : World} {e : TypeId} {v : Value} (he : P.underlying e = some (.int .u8)) (hc : P.cellsOf e = 1) (hby : P.bytesOf e = 1) (h : SlIn P w e v) : ∃ bs,BytesAt w v bs := by
 obtain ⟨l,h1,h2,h3⟩ := sr_of_in (α := Nat) (fun x => [Value.int .u8 (x : Int)]) (fun x => x < 256) 1 1 (fun _ => rfl) (fun x _ u hu => by simp at hu; subst hu; rfl) (by decide) hc hby
  (fun cs h => by
   obtain ⟨n,e1,e2⟩ := h.u8 he
   exact ⟨n,e1,e2⟩) h
 rw [bcells_flat] at h1
 exact ⟨l,h1,by simpa using h2,h3⟩
theorem SR.val {w : World} {v : Value} {n size : Nat} {cs : List Value} (h : SR w v n size cs) : ∃ ao cap,v = .slice ao n cap := by
 obtain ⟨_,_,_,ao,cap,rfl,_,_⟩ := h
 exact ⟨ao,cap,rfl⟩
/-- the slice is the call's own: what it lies in is block B or above -/
def Own (B : Nat) (v : Value) : Prop := ∀ k,v.ownBlock = some k → B ≤ k
theorem Own.mono {B B' : Nat} {v : Value} (h : Own B v) (hb : B' ≤ B) : Own B' v := fun k hk => Nat.le_trans hb (h k hk)
theorem storeCells_no {P : Program} (w : World) (a : Addr) : (storeCells a []).run P w = .ok () w := by
 simp [storeCells]
/-- the string of bytes -/
def strB (bs : List Nat) : ByteArray := strOfNums (bs.map Int.ofNat)
theorem strB_inj (xs bs : List Nat) (ha : ∀ x ∈ xs,x < 256) (hb : ∀ x ∈ bs,x < 256) (h : strB xs = strB bs) : xs = bs := by
 have h1 : (strB xs).data.toList = (strB bs).data.toList := by rw [h]
 unfold strB at h1
 rw [strOfNums_data,strOfNums_data,List.map_map,List.map_map] at h1
 clear h
 induction xs generalizing bs with
 |nil => cases bs <;> simp at h1 ⊢
 |cons x xs ih =>
  cases bs with
  |nil => simp at h1
  |cons y bs =>
   simp only [List.map_cons,List.cons.injEq,Function.comp] at h1
   have hx := ha x (by simp)
   have hy := hb y (by simp)
   have e : x = y := by
    have h2 := congrArg UInt8.toNat h1.1
    simp at h2
    omega
   rw [e,ih bs (fun z hz => ha z (by simp [hz])) (fun z hz => hb z (by simp [hz])) h1.2]
theorem strB_beqL (xs bs : List Nat) (ha : ∀ x ∈ xs,x < 256) (hb : ∀ x ∈ bs,x < 256) : ((strB xs).toList == (strB bs).toList) = decide (xs = bs) := by
 by_cases h : xs = bs
 ·subst h
  simp
 ·rw [decide_eq_false h]
  refine beq_eq_false_iff_ne.2 (fun e => h (strB_inj xs bs ha hb ?_))
  rw [ByteArray.toList_eq,ByteArray.toList_eq] at e
  exact ByteArray.ext (by simpa using congrArg List.toArray e)
theorem strB_beq (xs bs : List Nat) (ha : ∀ x ∈ xs,x < 256) (hb : ∀ x ∈ bs,x < 256) : (strB xs == strB bs) = decide (xs = bs) := by
 rw [beq_toListBytes,strB_beqL xs bs ha hb]
theorem run_convert_b {P : Program} {w : World} {v : Value} {bs : List Nat} (h : BytesAt w v bs) (src e dst : TypeId) (hs : P.underlying src = some (.slice e)) (he : P.underlying e = some (.int .u8)) (hd : P.underlying dst = some .string) :
 (convert src dst v).run P w = .ok (.string (strB bs)) w := by
 obtain ⟨⟨h1,h2,h3,ao,cap,rfl,hn,h4⟩,_,hlt⟩ := h
 by_cases h0 : bs.length = 0
 ·have hbs : bs = [] := List.eq_nil_of_length_eq_zero h0
  subst hbs
  cases ao with
  |none => exact run_convert_bytes_nil w src e hs he _ _ dst hd
  |some ad =>
   have hld : (loadCells ad 0).run P w = .ok #[] w := by simpa using run_loadCells_list (P := P) w ad [] (by simp)
   rw [run_convert_bytes_string w src dst e _ _ cap hs he hd,run_bytesToString w _ _ cap [] (by simpa using hld)]
   rfl
 ·obtain ⟨b,off,rfl,_,hc⟩ := h4 (by omega)
  refine run_convert_bytes_arg w src e hs he b off _ cap (bs.map Int.ofNat) (by simp) (fun i hi => ?_) dst hd
  have := hc i (.int .u8 (bs[i] : Nat)) (by simp [bcells,hi])
  rw [this]
  simp [hi]
theorem kc {W W' : World} {b j : Nat} {x : Value} (h : W.cell? ⟨b,j,none⟩ = some x) (hb : Below W.heap.size W W') : W'.cell? ⟨b,j,none⟩ = some x :=
 (hb.cell (p := ⟨b,j,none⟩) (World.block_lt_of_cell? W _ h)).trans h
/-- facts of cells, in a list -/
def Cells (W : World) : List (Nat × Nat × Value) → Prop
 |[] => True
 |(b,o,v) :: l => W.cell? ⟨b,o,none⟩ = some v ∧ Cells W l
def blk (b o : Nat) : Nat → List Value → List (Nat × Nat × Value)
 |_,[] => []
 |j,x :: l => (b,o + j,x) :: blk b o (j + 1) l
theorem Cells.keep {W W' : World} : ∀ {l : List (Nat × Nat × Value)},Cells W l → Below W.heap.size W W' → Cells W' l
 |[],_,_ => trivial
 |(_,_,_) :: _,h,hb => ⟨kc h.1 hb,Cells.keep h.2 hb⟩
theorem Cells.app {W : World} : ∀ {l l' : List (Nat × Nat × Value)},Cells W l → Cells W l' → Cells W (l ++ l')
 |[],_,_,h' => h'
 |(_,_,_) :: _,_,h,h' => ⟨h.1,Cells.app h.2 h'⟩
theorem Cells.drew {W : World} : ∀ {l : List (Nat × Nat × Value)},Cells W l → Cells W.drew l
 |[],_ => trivial
 |(_,_,_) :: _,h => ⟨h.1,Cells.drew h.2⟩
theorem cells_from (w : World) (xs : List Value) (t : TypeId) : ∀ (j : Nat) (l : List Value),(∀ i x,l[i]? = some x → xs[j + i]? = some x) → Cells (w.alloc (.cells xs.toArray t)) (blk w.heap.size 0 j l)
 |_,[],_ => trivial
 |j,x :: l,h => by
  refine ⟨cellNew w xs.toArray t (0 + j) x (by have := h 0 x rfl; simpa using this),cells_from w xs t (j + 1) l fun i y hy => ?_⟩
  have := h (i + 1) y (by simpa using hy)
  rwa [show j + 1 + i = j + (i + 1) by omega]
theorem cells_new (w : World) (xs : List Value) (t : TypeId) : Cells (w.alloc (.cells xs.toArray t)) (blk w.heap.size 0 0 xs) := cells_from w xs t 0 xs fun i x h => by simpa using h
end Go.Proofs.YtldcihjddebciaaGreat
