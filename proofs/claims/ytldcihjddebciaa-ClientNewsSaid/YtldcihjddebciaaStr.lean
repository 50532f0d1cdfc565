/- A slice of bytes that is read, as a string. -/
import Derived.Test.YtldcihjddebciaaFresh
import Derived.Laws.BytesArg
namespace Go.Proofs.Ytldcihjddebciaa
open Go.RowKit

/-- the string of bytes -/
def strB (bs : List Nat) : ByteArray := strOfNums (bs.map Int.ofNat)
theorem strB_inj (xs bs : List Nat) (ha : ∀ x ∈ xs, x < 256) (hb : ∀ x ∈ bs, x < 256) (h : strB xs = strB bs) : xs = bs := by
  have h1 : (strB xs).data.toList = (strB bs).data.toList := by rw [h]
  unfold strB at h1
  rw [strOfNums_data, strOfNums_data, List.map_map, List.map_map] at h1
  clear h
  induction xs generalizing bs with
  | nil => cases bs <;> simp at h1 ⊢
  | cons x xs ih =>
    cases bs with
    | nil => simp at h1
    | cons y bs =>
      simp only [List.map_cons, List.cons.injEq, Function.comp] at h1
      have hx := ha x (by simp)
      have hy := hb y (by simp)
      have e : x = y := by
        have h2 := congrArg UInt8.toNat h1.1
        simp at h2
        omega
      rw [e, ih bs (fun z hz => ha z (by simp [hz])) (fun z hz => hb z (by simp [hz])) h1.2]
theorem strB_beqL (xs bs : List Nat) (ha : ∀ x ∈ xs, x < 256) (hb : ∀ x ∈ bs, x < 256) : ((strB xs).toList == (strB bs).toList) = decide (xs = bs) := by
  by_cases h : xs = bs
  · subst h
    simp
  · rw [decide_eq_false h]
    refine beq_eq_false_iff_ne.2 (fun e => h (strB_inj xs bs ha hb ?_))
    rw [ByteArray.toList_eq, ByteArray.toList_eq] at e
    exact ByteArray.ext (by simpa using congrArg List.toArray e)
theorem strB_beq (xs bs : List Nat) (ha : ∀ x ∈ xs, x < 256) (hb : ∀ x ∈ bs, x < 256) : (strB xs == strB bs) = decide (xs = bs) := by
  rw [beq_toListBytes, strB_beqL xs bs ha hb]
theorem strB_size (bs : List Nat) : (strB bs).size = bs.length := by unfold strB; rw [strOfNums_size]; simp
theorem run_convert_b {P : Program} {w : World} {v : Value} {bs : List Nat} (h : BytesAt w v bs) (src e dst : TypeId) (hs : P.underlying src = some (.slice e)) (he : P.underlying e = some (.int .u8)) (hd : P.underlying dst = some .string) :
    (convert src dst v).run P w = .ok (.string (strB bs)) w := by
  obtain ⟨⟨h1, h2, h3, ao, cap, rfl, hn, h4⟩, _, hlt⟩ := h
  by_cases h0 : bs.length = 0
  · have hbs : bs = [] := List.eq_nil_of_length_eq_zero h0
    subst hbs
    cases ao with
    | none => exact run_convert_bytes_nil w src e hs he _ _ dst hd
    | some ad =>
      have hld : (loadCells ad 0).run P w = .ok #[] w := by simpa using run_loadCells_list (P := P) w ad [] (by simp)
      rw [run_convert_bytes_string w src dst e _ _ cap hs he hd, run_bytesToString w _ _ cap [] (by simpa using hld)]
      rfl
  · obtain ⟨b, off, rfl, _, hc⟩ := h4 (by omega)
    refine run_convert_bytes_arg w src e hs he b off _ cap (bs.map Int.ofNat) (by simp) (fun i hi => ?_) dst hd
    have := hc i (.int .u8 (bs[i] : Nat)) (by simp [bcells, hi])
    rw [this]
    simp [hi]
end Go.Proofs.Ytldcihjddebciaa
