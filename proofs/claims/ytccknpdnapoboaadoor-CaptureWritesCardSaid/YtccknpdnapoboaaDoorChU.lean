/- Blocks, bytes of a number, strings of bytes. -/
import Derived.Test.YtccknpdnapoboaaDoorCells
import Derived.Test.YtccknpdnapoboaaDoorSlArg2
import Derived.Test.YtccknpdnapoboaaDoorStr
import Derived.IntWalk
import Derived.Deep.DeepCutAuto
import Derived.Deep.CutBlock
import Derived.RangeFuncBox
namespace Go.Proofs.YtccknpdnapoboaaDoor
open Go.RowKit

/-- block B holds cells -/
def Blk (W : World) (B : Nat) (t : TypeId) (cs : List Value) : Prop := W.heap[B]? = some (.cells cs.toArray t (0, 0))
theorem Blk.lt {W : World} {B : Nat} {t : TypeId} {cs : List Value} (h : Blk W B t cs) : B < W.heap.size := (Array.getElem?_eq_some_iff.1 h).1
theorem Blk.new (W : World) (t : TypeId) (cs : List Value) : Blk (W.alloc (.cells cs.toArray t)) W.heap.size t cs := World.alloc_heap_new W _
theorem Blk.below {W W' : World} {B : Nat} {t : TypeId} {cs : List Value} (h : Blk W B t cs) (hb : Below W.heap.size W W') : Blk W' B t cs := (hb.block B h.lt).trans h
theorem Blk.kept {W W' : World} {row : Option Nat} {B : Nat} {t : TypeId} {cs : List Value} (h : Blk W B t cs) (hg : W.grownBy W' row) (hne : some B ≠ row) : Blk W' B t cs := (hg.block B h.lt hne).trans h
theorem Blk.alloc {W : World} {B : Nat} {t : TypeId} {cs : List Value} (h : Blk W B t cs) (o : Obj) : Blk (W.alloc o) B t cs := h.kept (World.grownBy_alloc W o none) (by simp)
theorem Blk.other {W : World} {B B' o : Nat} {t : TypeId} {cs : List Value} (h : Blk W B t cs) (hne : B ≠ B') (u : Value) : Blk (W.setCell ⟨B', o, none⟩ u) B t cs := (Below.heap_setCell W ⟨B', o, none⟩ u B hne).trans h
theorem Blk.drew {W : World} {B : Nat} {t : TypeId} {cs : List Value} (h : Blk W B t cs) : Blk W.drew B t cs := h
theorem cells_of_arr {W : World} {B : Nat} {t : TypeId} {A : Array Value} (h : W.heap[B]? = some (.cells A t (0, 0))) : ∀ (l : List Value) (j : Nat), (∀ i x, l[i]? = some x → A[j + i]? = some x) → Cells W (blk B 0 j l)
  | [], _, _ => trivial
  | x :: l, j, hx => ⟨by
      have := hx 0 x rfl
      simp only [World.cell?, h, Nat.zero_add]
      simpa using this, cells_of_arr h l (j + 1) fun i y hy => by
      have := hx (i + 1) y (by simpa using hy)
      rwa [show j + 1 + i = j + (i + 1) by omega]⟩
theorem Blk.cells {W : World} {B : Nat} {t : TypeId} {cs : List Value} (h : Blk W B t cs) : Cells W (blk B 0 0 cs) := cells_of_arr h cs 0 fun i x hx => by simpa using hx
theorem Blk.cell {W : World} {B j : Nat} {t : TypeId} {cs : List Value} {v : Value} (h : Blk W B t cs) (hj : cs[j]? = some v) : W.cell? ⟨B, j, none⟩ = some v := by
  simp [World.cell?, show W.heap[B]? = _ from h, hj]
theorem Blk.frozen {W : World} {B : Nat} {t : TypeId} {cs : List Value} (h : Blk W B t cs) (o : Nat) : W.frozen? ⟨B, o, none⟩ = false := by simp [World.frozen?, show W.heap[B]? = _ from h]
theorem Blk.setAt {W : World} {B j : Nat} {t : TypeId} {cs : List Value} (h : Blk W B t cs) (v : Value) : Blk (W.setCell ⟨B, j, none⟩ v) B t (cs.set j v) := by
  obtain ⟨hlt, hk⟩ := Array.getElem?_eq_some_iff.1 h
  show (W.heap.modify B _)[B]? = _
  rw [Array.getElem?_eq_getElem (by rw [Array.size_modify]; exact hlt), Array.getElem_modify_self, hk]
  simp

/-- a byte of a number -/
def byt (x i : Nat) : Nat := x / 256 ^ i % 256
theorem byt_lt (x i : Nat) : byt x i < 256 := Nat.mod_lt _ (by decide)
theorem byt_wrap (x k : Nat) : IntKind.u8.wrap ((x : Int) / 2 ^ (8 * (k : Int)).toNat) = ((byt x k : Nat) : Int) := by
  have e : (8 * (k : Int)).toNat = 8 * k := by omega
  rw [e]
  unfold byt
  have e2 : (256 : Nat) ^ k = 2 ^ (8 * k) := by rw [Nat.pow_mul]
  rw [e2]
  have e3 : ((x : Int) / 2 ^ (8 * k)) = ((x / 2 ^ (8 * k) : Nat) : Int) := by simp
  rw [e3]
  simp only [IntKind.wrap, IntKind.signed, IntKind.bits]
  simp
theorem strB_app (a b : List Nat) : strB a ++ strB b = strB (a ++ b) := by
  apply ByteArray.ext
  rw [← Array.toList_inj]
  unfold strB
  simp [strOfNums_data]
theorem strB_get (ss : List Nat) (hb : ∀ x ∈ ss, x < 256) (i : Nat) (h : i < ss.length) (hq : i < (strB ss).size) : ((strB ss)[i]'hq).toNat = ss[i] := by
  have e : (strB ss).data.toList[i]? = some (UInt8.ofNat ss[i]) := by
    unfold strB
    rw [strOfNums_data]
    simp [List.getElem?_eq_getElem h]
  have : (strB ss)[i]'hq = UInt8.ofNat ss[i] := by
    have h2 : i < (strB ss).data.toList.length := by simpa using hq
    rw [List.getElem?_eq_getElem h2] at e
    have e3 : (strB ss).data[i]'(by simpa using h2) = UInt8.ofNat ss[i] := by simpa using e
    exact e3
  rw [this]
  have := hb _ (List.getElem_mem h)
  simp
  omega
theorem run_idx_str (ss : List Nat) (hb : ∀ x ∈ ss, x < 256) (i : Nat) (h : i < ss.length) (W : World) : (Instr.index 9 (.string (strB ss)) (.int .i64 (i : Int))).run Tryd.prog W = .ok (.int .u8 (ss[i] : Nat)) W := by
  have hs := strB_size ss
  have hg := strB_get ss hb i h (by rw [hs]; exact h)
  go_simp
theorem strB_ext (bs : List Nat) (a b : Nat) : (strB bs).extract a b = strB ((bs.drop a).take (b - a)) := by
  apply ByteArray.ext
  rw [← Array.toList_inj]
  simp only [ByteArray.data_extract, Array.toList_extract]
  unfold strB
  rw [strOfNums_data, strOfNums_data]
  simp [List.extract, List.map_drop, List.map_take]
theorem step_append_at {P : Program} {w : World} {ops : Array Oper} {o : Oper} {a : Act} {K : Act → World → Prop} {Q : Exit → Act → World → Prop} {E : Prop} (hgd : o.guard = none) (s x : Operand) (t : TypeId)
    (ho : o.op = .call { callee := .builtin .append, args := #[s, x], argTypes := #[t, t] })
    (base : Nat) (e : TypeId) (i : TypeInfo) (z : Value) (size bytes : Nat) (ht : P.underlying t = some (.slice e)) (hi : P.info? e = some i) (hz : i.zero = some z)
    (hsize : i.size = size) (hby : i.bytes = bytes) (hzs : z.cells.size = size) (hsz : 0 < size)
    (v : Value) (n : Nat) (xs : List Value) (hs : a.eval s = v) (hown : w.ownsRow base e size v n xs)
    (ad : Addr) (m c : Nat) (news : List Value) (hx : a.eval x = .slice (some ad) m c) (hl : news.length = m * size) (hnews : ∀ j u, news[j]? = some u → w.cell? (ad.add j) = some u) (h1 : ∀ u ∈ news, u.oneCell' = true)
    (h63 : n + m ≤ maxLen) (hbytes : (n + m) * bytes ≤ 140737488355328) (hbase : base ≤ w.heap.size)
    (h : ∀ v' w', w'.ownsRow base e size v' (n + m) (xs ++ news) → w.grownBy w' v.ownBlock → (v' = .slice none 0 0 → v = .slice none 0 0) → K (a.put o.dst v') w') :
    if Region.wanted o (yielded ops a.tmps) = true then Oper.wp P o a w K Q else E := by
  have hw : Region.wanted o (yielded ops a.tmps) = true := by simp [Region.wanted, hgd]
  rw [if_pos hw]
  obtain ⟨v', w', hr, h2, h3, h4, _⟩ := run_append_own_at (P := P) w base t o.type e i z size bytes ht hi hz hsize hby hzs hsz v n xs hown ad m c news hl hnews h1 h63 hbytes hbase
  unfold Oper.wp execOp
  simp only [ho, resolve, invoke, builtin, Sem.run_bind, Sem.run_pure, Result.andThen_ok, List.map_toArray, List.map_cons, List.map_nil, hs, hx, hr]
  exact h v' w' h2 h3 (fun e => (h4.1 e).1)
theorem own_news {w : World} {base e n cap : Nat} {g : Nat} {xs : List Value} (h : w.ownsRow base e 1 (.slice (some ⟨g, 0, none⟩) n cap) n xs) (o : Nat) : ∀ j u, (xs.drop o)[j]? = some u → w.cell? ((⟨g, o, none⟩ : Addr).add j) = some u := by
  intro j u hj
  have ha : (⟨g, o, none⟩ : Addr).add j = ⟨g, o + j, none⟩ := by unfold Addr.add; split <;> simp_all
  rw [List.getElem?_drop] at hj
  have hl := (List.getElem?_eq_some_iff.1 hj).1
  rw [h.1] at hl
  rw [ha, h.cellAt (o + j) (by omega), hj]

theorem bytesAt_of_own {w : World} {base n : Nat} {v : Value} {bs : List Nat} (h : w.ownsRow base 5 1 v n (bcells bs)) (hl : bs.length = n) (hb : ∀ x ∈ bs, x < 256) (hm : n ≤ 140737488351232) : BytesAt w v bs := by
  subst hl
  exact ⟨SR.of_own h (bcells_one bs) (by unfold maxLen; omega), by unfold reachBytes; omega, hb⟩
theorem bytesAt_of_blk {w : World} {B n cap : Nat} {t : TypeId} {bs : List Nat} (h : Blk w B t (bcells bs)) (hl : bs.length = n) (hb : ∀ x ∈ bs, x < 256) (hm : n ≤ 140737488351232) : BytesAt w (.slice (some ⟨B, 0, none⟩) n cap) bs := by
  subst hl
  refine ⟨⟨by unfold maxLen; omega, by simp [bcells], bcells_one bs, some ⟨B, 0, none⟩, cap, rfl, fun h => (by cases h), fun _ => ⟨B, 0, rfl, h.lt, fun j u hj => ?_⟩⟩, by unfold reachBytes; omega, hb⟩
  rw [Nat.zero_add]
  exact h.cell hj
end Go.Proofs.YtccknpdnapoboaaDoor
