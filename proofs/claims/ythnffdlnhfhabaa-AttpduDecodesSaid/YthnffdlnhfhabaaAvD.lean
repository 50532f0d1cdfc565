/- attpdu: the reference: what taken hands back. -/
import Derived.Test.YthnffdlnhfhabaaAtR
import Derived.Test.YthnffdlnhfhabaaAtB
import Derived.Test.YthnffdlnhfhabaaAtS
namespace Go.Proofs.Ythnffdlnhfhabaa
open Go.RowKit

theorem lps_rest' (c : Nat) (s : Nm) (b : List Nat) (hc : ¬ ix c < 7) : lps [c] s b = (0, s, c, b) := by rw [lps, if_neg hc]
/-- the data of a PDU -/
def pdP (ki ak : Int) (ha la hi lo : Nat) (of mt co : Int) (cm : Bool) (bs : List Nat) (its : List It) : Pd := ⟨ki, ⟨ak, ha, la, of, mt, co, cm⟩, hi, lo, bs, its.map dat⟩
theorem chkD_pdP (ki ak : Int) (ha la hi lo : Nat) (of mt co : Int) (cm : Bool) (n m : Nat) (bs : List Nat) (its : List It) (hn : bs.length = n) (hm : its.length = m) (hl : ∀ t ∈ its, t.bs.length = t.n) : chkD (pdP ki ak ha la hi lo of mt co cm bs its) = chkP ki ak ha la hi lo of mt co cm n m its := by
  unfold chkD pdP
  simp only
  rw [chkP_of ki ak ha la hi lo of mt co cm n m its hl, hn, List.length_map, hm, List.map_map]
  rfl
/-- what taken hands back -/
def TakPost (w : World) (x : Nat) (s : Nm) (c : Nat) (rest : List Nat) (E : Int) (e : Ending) (w' : World) : Prop := ∃ (hi lo : Nat) (av : Option Addr) (nv cv : Nat) (bsv : List Nat) (al : Option Addr) (m d : Nat) (its : List It),
  e = .returned (.tuple #[.agg #[.int .i64 x, .int .i64 s.ak, .int .u16 s.ha, .int .u16 s.la, .int .u64 hi, .int .u64 lo, .int .i64 s.of, .int .i64 s.mt, .int .i64 s.co, .bool s.cm, .slice av nv cv, .slice al m d], .int .i64 E]) ∧ Below w.heap.size w w' ∧
  (E = 0 → pdOf x s c rest = ⟨x, s, hi, lo, bsv, its.map dat⟩ ∧ w'.ownsRow w.heap.size 5 1 (.slice av nv cv) nv (bcells bsv) ∧ bsv.length = nv ∧ nv ≤ 1000 ∧ (∀ z ∈ bsv, z < 256) ∧ w'.ownsRow w.heap.size 46 5 (.slice al m d) m (its.flatMap itc) ∧ (∀ t ∈ its, ItOwn w' w.heap.size t) ∧ its.length = m ∧ m ≤ 1000 ∧ ∀ t ∈ its, t.n ≤ 1000000)
theorem nil_u8 (w : World) (b : Nat) : w.ownsRow b 5 1 (.slice none 0 0) 0 (bcells []) := by simpa [bcells] using World.ownsRow_nil w b 5 1
theorem nil_items (w : World) (b : Nat) : w.ownsRow b 46 5 (.slice none 0 0) 0 (([] : List It).flatMap itc) := by simpa using World.ownsRow_nil w b 46 5
theorem byte_at {w : World} {a : Option Addr} {n c : Nat} {b : List Nat} (h : BytesAt w (.slice a n c) b) (hn : b.length = n) (p : Nat) (hp : p < n) : ∃ bb off, a = some ⟨bb, off, none⟩ ∧ w.cell? ⟨bb, off + p, none⟩ = some (.int .u8 (vnum ((b.drop p).take 1) : Nat)) ∧ vnum ((b.drop p).take 1) < 256 := by
  obtain ⟨⟨_, _, _, ao, cap, e0, _, hc⟩, _, hlt⟩ := h
  rw [hn] at e0
  cases e0
  obtain ⟨bb, off, rfl, _, hcs⟩ := hc (by omega)
  have hp' : p < b.length := by omega
  have hv : vnum ((b.drop p).take 1) = b[p] := by rw [List.drop_eq_getElem_cons hp', List.take_succ_cons, List.take_zero]; simp only [vnum]; omega
  rw [hv]
  exact ⟨bb, off, rfl, hcs p _ (by simp [bcells, List.getElem?_eq_getElem hp']), hlt _ (List.getElem_mem hp')⟩
end Go.Proofs.Ythnffdlnhfhabaa
