/- capture: plain parts of air's Check; transmissions that are read. -/
import Derived.Test.YtccknpdnapoboaaDoorCqJ
import Derived.Deep.QuietTactic
import Derived.BigQuiet
import Derived.WalkSmall
import Derived.Deep.RegionHeld3
namespace Go.Proofs.YtccknpdnapoboaaDoor
open Go.RowKit

/-- the cells of pairs -/
def tcells : List (Int × Int) → List Value
  | [] => []
  | t :: l => .int .i64 t.1 :: .int .i64 t.2 :: tcells l
theorem tcells_len : ∀ l, (tcells l).length = l.length * 2
  | [] => rfl
  | _ :: l => by simp [tcells, tcells_len l]; omega
theorem tcells_one (l : List (Int × Int)) : ∀ u ∈ tcells l, u.oneCell' = true := by
  induction l with
  | nil => simp [tcells]
  | cons t l ih => intro u hu; simp [tcells] at hu; rcases hu with rfl | rfl | hu; rfl; rfl; exact ih u hu
theorem tcells_get : ∀ (l : List (Int × Int)) (k : Nat) (h : k < l.length), (tcells l)[k * 2]? = some (.int .i64 l[k].1) ∧ (tcells l)[k * 2 + 1]? = some (.int .i64 l[k].2)
  | t :: l, 0, _ => by simp [tcells]
  | t :: l, k+1, h => by
    have := tcells_get l k (by simpa using h)
    rw [show (k + 1) * 2 = k * 2 + 1 + 1 by omega]
    simpa [tcells] using this
def cmpI (a b : Int) : Int := if a < b then -1 else if b < a then 1 else 0
theorem cmp_cases (a b : Int) : (a < b ∧ cmpI a b = -1) ∨ (b < a ∧ cmpI a b = 1) ∨ (a = b ∧ cmpI a b = 0) := by
  unfold cmpI
  by_cases h : a < b
  · exact .inl ⟨h, by rw [if_pos h]⟩
  · by_cases h2 : b < a
    · exact .inr (.inl ⟨h2, by rw [if_neg h, if_pos h2]⟩)
    · exact .inr (.inr ⟨by omega, by rw [if_neg h, if_neg h2]⟩)
/-- the first that is not zero -/
def orL : List Int → Int
  | [] => 0
  | x :: l => if x = 0 then orL l else x
theorem orL_take (l : List Int) (k : Nat) (h : k < l.length) (h0 : ∀ x ∈ l.take k, x = 0) (hk : l[k] ≠ 0) : orL l = l[k] := by
  induction l generalizing k with
  | nil => simp at h
  | cons x l ih =>
    cases k with
    | zero => simp at hk; simp [orL, hk]
    | succ k =>
      have hx : x = 0 := h0 x (by simp)
      simp only [orL, hx, if_true, List.getElem_cons_succ]
      exact ih k (by simpa using h) (fun y hy => h0 y (by simp [hy])) (by simpa using hk)
theorem orL_zero (l : List Int) (h : ∀ x ∈ l, x = 0) : orL l = 0 := by
  induction l with
  | nil => rfl
  | cons x l ih => simp only [orL, h x (by simp), if_true]; exact ih fun y hy => h y (by simp [hy])
/-- the first error among many -/
def firstE (f : Nat → Int) : Nat → Int
  | 0 => 0
  | k+1 => if firstE f k = 0 then f k else firstE f k
theorem firstE_stop (f : Nat → Int) (k : Nat) (h0 : firstE f k = 0) (hk : f k ≠ 0) : ∀ n, k < n → firstE f n = f k
  | 0, h => by omega
  | n+1, h => by
    by_cases hn : k < n
    · have := firstE_stop f k h0 hk n hn
      simp only [firstE, this, hk, if_false]
    · have : n = k := by omega
      subst this
      simp only [firstE, h0, if_true]
theorem firstE_next (f : Nat → Int) (k : Nat) (h0 : firstE f k = 0) (hk : f k = 0) : firstE f (k + 1) = 0 := by
  simp only [firstE, h0, if_true, hk]
/-- the cells of jams -/
def jenc (t : Int × Int × Int) : List Value := [.int .i64 t.1, .int .i64 t.2.1, .int .i64 t.2.2]
def jcells (l : List (Int × Int × Int)) : List Value := l.flatMap jenc
theorem jcells_get (l : List (Int × Int × Int)) (k : Nat) (h : k < l.length) : (jcells l)[k * 3]? = some (.int .i64 l[k].1) ∧ (jcells l)[k * 3 + 1]? = some (.int .i64 l[k].2.1) ∧ (jcells l)[k * 3 + 2]? = some (.int .i64 l[k].2.2) := by
  have h0 := flat_get jenc 3 (fun _ => rfl) l k 0 h (by decide)
  have h1 := flat_get jenc 3 (fun _ => rfl) l k 1 h (by decide)
  have h2 := flat_get jenc 3 (fun _ => rfl) l k 2 h (by decide)
  exact ⟨h0, h1, h2⟩
/-- what is wrong with a link -/
def linkB (d : Int) (p : Int × Int) : Bool := decide (p.1 < 0) || decide (p.2 ≤ p.1) || decide (d ≤ p.2)
def ordB (q p : Int × Int) : Bool := decide (p.1 < q.1) || (decide (p.1 = q.1) && decide (p.2 ≤ q.2))
def linkV (d : Int) (l : List (Int × Int)) (k : Nat) : Int :=
  if linkB d (l.getD k (0, 0)) = true then 5 else if 0 < k ∧ ordB (l.getD (k - 1) (0, 0)) (l.getD k (0, 0)) = true then 13 else 0
def jamB (t : Int × Int × Int) : Bool := decide (t.1 < -1) || decide (39 < t.1) || decide (t.2.1 < 0) || decide (t.2.2 < t.2.1) || decide (1099511627776 < t.2.2)
def jamV (l : List (Int × Int × Int)) (k : Nat) : Int := if jamB (l.getD k (0, 0, 0)) = true then 5 else 0
def lossB (d : Int) (t : Int × Int) : Bool := decide (t.2 < 0) || decide (d ≤ t.2)
def lossV (d : Int) (l : List (Int × Int)) (k : Nat) : Int := if lossB d (l.getD k (0, 0)) = true then 5 else 0
theorem getD_at {α : Type} (l : List α) (k : Nat) (x : α) (h : k < l.length) : l.getD k x = l[k] := by simp [h]
/-- the comparison of two pairs -/
theorem ord_or (q p : Int × Int) : decide (0 ≤ orL [cmpI q.1 p.1, cmpI q.2 p.2]) = ordB q p := by
  unfold ordB orL orL orL cmpI
  by_cases h1 : q.1 < p.1
  · simp [h1]; omega
  · by_cases h2 : p.1 < q.1
    · simp [h1, h2]
    · have h3 : p.1 = q.1 := by omega
      by_cases h4 : q.2 < p.2
      · simp [h3, h4]; try omega
      · by_cases h5 : p.2 < q.2
        · simp [h3, h4, h5]; try omega
        · simp [h3, h4, h5]; try omega
/-- what is wrong with a medium -/
def mediumE (d : Int) (ls : List (Int × Int)) (js : List (Int × Int × Int)) (ss : List (Int × Int)) : Int :=
  orL [firstE (linkV d ls) ls.length, firstE (jamV js) js.length, firstE (lossV d ss) ss.length]
/-- a transmission -/
structure Tr where
  id : Int
  fr : Int
  ch : Int
  st : Int
  bs : List Nat
instance : Inhabited Tr := ⟨⟨0, 0, 0, 0, []⟩⟩
/-- number k of a row of transmissions -/
def TxAt (w : World) (b off k : Nat) (t : Tr) : Prop := ∃ a c, w.cell? ⟨b, off + k * 5, none⟩ = some (.int .i64 t.id) ∧ w.cell? ⟨b, off + k * 5 + 1, none⟩ = some (.int .i64 t.fr) ∧ w.cell? ⟨b, off + k * 5 + 2, none⟩ = some (.int .i64 t.ch) ∧
  w.cell? ⟨b, off + k * 5 + 3, none⟩ = some (.int .i64 t.st) ∧ w.cell? ⟨b, off + k * 5 + 4, none⟩ = some (.slice a t.bs.length c) ∧ BytesAt w (.slice a t.bs.length c) t.bs
def Txs (w : World) (v : Value) (ts : List Tr) : Prop := ts.length ≤ maxLen ∧ ∃ (ao : Option Addr) (cap : Nat), v = .slice ao ts.length cap ∧
  (0 < ts.length → ∃ b off, ao = some ⟨b, off, none⟩ ∧ b < w.heap.size ∧ ∀ k (h : k < ts.length), TxAt w b off k ts[k])
theorem TxAt.below {w w' : World} {b off k : Nat} {t : Tr} (h : TxAt w b off k t) (hb : Below w.heap.size w w') : TxAt w' b off k t := by
  obtain ⟨a, c, h0, h1, h2, h3, h4, h5⟩ := h
  exact ⟨a, c, kc h0 hb, kc h1 hb, kc h2 hb, kc h3 hb, kc h4 hb, h5.below hb⟩
theorem Txs.below {w w' : World} {v : Value} {ts : List Tr} (h : Txs w v ts) (hb : Below w.heap.size w w') : Txs w' v ts := by
  obtain ⟨h1, ao, cap, rfl, h2⟩ := h
  refine ⟨h1, ao, cap, rfl, fun h0 => ?_⟩
  obtain ⟨b, off, rfl, hlt, hc⟩ := h2 h0
  exact ⟨b, off, rfl, Nat.lt_of_lt_of_le hlt hb.size, fun k h => (hc k h).below hb⟩
/-- what is wrong with a transmission -/
def sentB (d : Int) (t : Tr) : Bool := decide (t.fr < 0) || decide (d ≤ t.fr) || decide (t.ch < 0) || decide (39 < t.ch) || decide (t.st < 0) || decide (1099511627776 < t.st)
def sentV (d : Int) (ts : List Tr) (k : Nat) : Int :=
  if 0 < k ∧ (ts.getD k default).id ≤ (ts.getD (k - 1) default).id then 13 else if sentB d (ts.getD k default) = true then 5 else if 260 < (ts.getD k default).bs.length then 4 else 0
/-- what is wrong -/
def checkE (d : Int) (ls : List (Int × Int)) (js : List (Int × Int × Int)) (ss : List (Int × Int)) (ts : List Tr) : Int :=
  if d < 0 ∨ 8 < d then 5 else if 1000 < js.length ∨ 1000 < ss.length ∨ 1000 < ts.length then 4 else orL [mediumE d ls js ss, firstE (sentV d ts) ts.length]
end Go.Proofs.YtccknpdnapoboaaDoor
