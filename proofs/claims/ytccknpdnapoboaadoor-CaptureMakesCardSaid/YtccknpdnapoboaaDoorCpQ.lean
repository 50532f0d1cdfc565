/- capture: the bytes of a record and of a file; what is wrong with records; what is read of bytes. Plain. -/
import Derived.Test.YtccknpdnapoboaaDoorCpA
import Derived.Test.YtccknpdnapoboaaDoorCpP
import Derived.Test.YtccknpdnapoboaaDoorCpV
namespace Go.Proofs.YtccknpdnapoboaaDoor
open Go.RowKit

/-- what is wrong with a record on its own -/
def cpE (r : Cp) : Int := if r.t < 0 ∨ 1099511627776 < r.t ∨ r.c < 0 ∨ 39 < r.c ∨ r.f < 0 ∨ 7 < r.f ∨ r.k < 0 ∨ 4 < r.k then 5 else if 260 < r.bs.length then 4 else 0
/-- what is wrong with record number k -/
def cpV (l : List Cp) (k : Nat) : Int := if cpE (l.getD k default) ≠ 0 then cpE (l.getD k default) else if 0 < k ∧ (l.getD k default).t < (l.getD (k - 1) default).t then 13 else 0
/-- what is wrong with the first k records -/
def cpW (l : List Cp) : Nat → Int
  | 0 => 0
  | k+1 => if cpW l k ≠ 0 then cpW l k else cpV l k
/-- the bytes of a record, without the sum -/
def recD (r : Cp) : List Nat := putB r.t.toNat 8 ++ (putB r.c.toNat 1 ++ (putB r.f.toNat 1 ++ (putB r.k.toNat 1 ++ (putB r.bs.length 2 ++ r.bs))))
def recB (r : Cp) : List Nat := recD r ++ putB (sumF 0 (recD r)) 3
def mag : List Nat := [65, 73, 82, 49]
/-- the file of the first k records -/
def wrB (l : List Cp) (k : Nat) : List Nat := mag ++ (l.take k).flatMap recB
theorem recD_len (r : Cp) : (recD r).length = 13 + r.bs.length := by
  unfold recD
  simp only [List.length_append, putB_len]
  omega
theorem recB_len (r : Cp) : (recB r).length = 16 + r.bs.length := by
  unfold recB
  simp only [List.length_append, putB_len, recD_len]
  omega
theorem cpE_ok {r : Cp} (h : cpE r = 0) : (0 ≤ r.t ∧ r.t ≤ 1099511627776) ∧ (0 ≤ r.c ∧ r.c ≤ 39) ∧ (0 ≤ r.f ∧ r.f ≤ 7) ∧ (0 ≤ r.k ∧ r.k ≤ 4) ∧ r.bs.length ≤ 260 := by
  unfold cpE at h
  split at h
  · cases h
  · split at h
    · cases h
    · omega
theorem wrB_succ (l : List Cp) (k : Nat) (h : k < l.length) : wrB l (k + 1) = wrB l k ++ recB l[k] := by
  unfold wrB
  rw [List.take_succ_eq_append_getElem h, List.flatMap_append, List.append_assoc]
  simp
theorem cpW_zero (l : List Cp) (k j : Nat) (h : cpW l k = 0) (hj : j ≤ k) : cpW l j = 0 := by
  induction k with
  | zero => obtain rfl : j = 0 := by omega
            exact h
  | succ k ih =>
    have hk : cpW l k = 0 := by
      by_cases e : cpW l k = 0
      · exact e
      · rw [cpW, if_pos e] at h; exact h
    by_cases e : j = k + 1
    · rw [e]; exact h
    · exact ih hk (by omega)
theorem cpW_step (l : List Cp) (k : Nat) (h : cpW l k = 0) : cpW l (k + 1) = cpV l k := by
  rw [cpW, if_neg (by simpa using h)]
theorem cpW_stop (l : List Cp) (k n : Nat) (h : cpW l k = 0) (hv : cpV l k ≠ 0) (hn : k < n) : cpW l n = cpV l k := by
  induction n with
  | zero => omega
  | succ n ih =>
    by_cases e : n = k
    · rw [e]; exact cpW_step l k h
    · have := ih (by omega)
      rw [cpW, if_pos (by rw [this]; exact hv), this]

/-! ### reading -/
/-- the length that a record states -/
def r1L (b : List Nat) : Nat := vnum ((b.drop 11).take 2)
/-- the record at the beginning -/
def r1R (b : List Nat) : Cp := ⟨vnum (b.take 8), (b.getD 8 0 : Nat), (b.getD 9 0 : Nat), (b.getD 10 0 : Nat), (b.drop 13).take (r1L b)⟩
/-- what is wrong at the beginning -/
def r1E (b : List Nat) (last : Int) : Int :=
  if b.length < 13 then 3 else if 260 < r1L b then 4 else if b.length < 16 + r1L b then 3 else
  if vnum ((b.drop (r1L b + 13)).take 3) ≠ sumF 0 (b.take (r1L b + 13)) then 10 else if cpE (r1R b) ≠ 0 then 5 else if (r1R b).t < last then 13 else 0
/-- what is read: the records, the number of their bytes, the error -/
def rdF : Nat → List Nat → Int → List Cp × Nat × Int
  | 0, _, _ => ([], 0, 0)
  | f+1, b, last => if b = [] then ([], 0, 0) else if r1E b last ≠ 0 then ([], 0, r1E b last) else
      (r1R b :: (rdF f (b.drop (16 + r1L b)) (r1R b).t).1, 16 + r1L b + (rdF f (b.drop (16 + r1L b)) (r1R b).t).2.1, (rdF f (b.drop (16 + r1L b)) (r1R b).t).2.2)
/-- what Read hands back -/
def rdA (b : List Nat) : List Cp × Nat × Int :=
  if b.length < 4 then ([], 0, 3) else if b.take 4 ≠ mag then ([], 0, 2) else ((rdF b.length (b.drop 4) 0).1, 4 + (rdF b.length (b.drop 4) 0).2.1, (rdF b.length (b.drop 4) 0).2.2)
end Go.Proofs.YtccknpdnapoboaaDoor
