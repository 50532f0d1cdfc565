/- What a walk is told of arguments that came in: readings of values, without the data, each within the form's reach. -/
import Derived.Test.YtldcihjddebciaaRows
import Derived.WalkKit
import Derived.ProofKit
import Derived.OpenShut
import Derived.ShutString
import Derived.ChangeOld
import Derived.Below
import Derived.Deep.Slices
import Derived.SizedLaws
namespace Go.Proofs.Ytldcihjddebciaa
open Go.ChangeShapes Go.WideShapes Go.ChangeAt Go.RowKit

/-- the cells cs can be read as a value of type t -/
def Rd (P : Program) (w : World) (t : TypeId) (cs : List Value) : Prop :=
  ∃ (H : Type) (enc : TypeId × Value → H) (fuel : Nat) (x : DataW H × List MemPlace), DataW.trod enc P w 0 (fun _ => true) true fuel t cs = some x ∧ ∀ n ∈ x.1.weights P t, n ≤ reachBytes
/-- an argument: of its type's form, and readable -/
def Arg (P : Program) (w : World) (t : TypeId) (v : Value) : Prop := (∃ base, Value.okWide P w .any base t v) ∧ Rd P w t v.cells.toList

theorem Arg.of {H : Type} {enc : TypeId × Value → H} {P : Program} {w : World} {base : Nat} {t : TypeId} {v : Value} {d : DataW H} {p : List MemPlace}
    (hv : Value.okWide P w .any base t v) (h : DataW.Trod enc P w 0 (fun _ => true) true t v d p) (hr : ∀ n ∈ d.weights P t, n ≤ reachBytes) : Arg P w t v :=
  ⟨⟨base, hv⟩, by obtain ⟨m, hm⟩ := h; exact ⟨H, enc, m, _, hm, hr⟩⟩

theorem weights_mem_all {H : Type} {P : Program} {e : TypeId} : ∀ {ds : List (DataW H)} {d : DataW H}, d ∈ ds → ∀ n ∈ d.weights P e, n ∈ DataW.weightsAll P e ds
  | d0 :: ds, d, hd, n, hn => by
    simp only [DataW.weightsAll, List.mem_append]
    rcases List.mem_cons.1 hd with rfl | h
    · exact .inl hn
    · exact .inr (weights_mem_all h n hn)
theorem sized_each {H : Type} {P : Program} {ts : List TypeId} {ds : List (DataW H)} (h : (DataW.weightsEach P ts ds).all (· ≤ reachBytes) = true) {j : Nat} {t : TypeId} {d : DataW H} (ht : ts[j]? = some t) (hd : ds[j]? = some d) : ∀ n ∈ d.weights P t, n ≤ reachBytes := fun n hn => by
  simpa using List.all_eq_true.1 h n (DataW.weights_mem_each ht hd n hn)

theorem wf_u {k : IntKind} {n : Int} (h : (Lit.int k n).wf = true) : k.min ≤ n ∧ n ≤ k.max := by
  simpa [Lit.wf] using h
theorem Rd.int {P : Program} {w : World} {t : TypeId} {k : IntKind} {cs : List Value} (ht : P.underlying t = some (.int k)) (h : Rd P w t cs) : ∃ n, cs = [.int k n] ∧ k.min ≤ n ∧ n ≤ k.max := by
  obtain ⟨H, enc, fuel, x, h, hw⟩ := h
  obtain ⟨n, e1, e2, e3⟩ := DataW.trod_int ht h
  exact ⟨n, e1, wf_u e3⟩
theorem Rd.u8 {P : Program} {w : World} {t : TypeId} {cs : List Value} (ht : P.underlying t = some (.int .u8)) (h : Rd P w t cs) : ∃ n : Nat, cs = [.int .u8 n] ∧ n < 256 := by
  obtain ⟨n, rfl, h1, h2⟩ := Rd.int ht h
  simp [IntKind.min, IntKind.max, IntKind.signed, IntKind.bits] at h1 h2
  obtain ⟨m, rfl⟩ := Int.eq_ofNat_of_zero_le h1
  exact ⟨m, rfl, by omega⟩
theorem Rd.u16 {P : Program} {w : World} {t : TypeId} {cs : List Value} (ht : P.underlying t = some (.int .u16)) (h : Rd P w t cs) : ∃ n : Nat, cs = [.int .u16 n] ∧ n < 65536 := by
  obtain ⟨n, rfl, h1, h2⟩ := Rd.int ht h
  simp [IntKind.min, IntKind.max, IntKind.signed, IntKind.bits] at h1 h2
  obtain ⟨m, rfl⟩ := Int.eq_ofNat_of_zero_le h1
  exact ⟨m, rfl, by omega⟩
theorem Rd.u32 {P : Program} {w : World} {t : TypeId} {cs : List Value} (ht : P.underlying t = some (.int .u32)) (h : Rd P w t cs) : ∃ n : Nat, cs = [.int .u32 n] ∧ n < 4294967296 := by
  obtain ⟨n, rfl, h1, h2⟩ := Rd.int ht h
  simp [IntKind.min, IntKind.max, IntKind.signed, IntKind.bits] at h1 h2
  obtain ⟨m, rfl⟩ := Int.eq_ofNat_of_zero_le h1
  exact ⟨m, rfl, by omega⟩
theorem Rd.u64 {P : Program} {w : World} {t : TypeId} {cs : List Value} (ht : P.underlying t = some (.int .u64)) (h : Rd P w t cs) : ∃ n : Nat, cs = [.int .u64 n] ∧ n < 18446744073709551616 := by
  obtain ⟨n, rfl, h1, h2⟩ := Rd.int ht h
  simp [IntKind.min, IntKind.max, IntKind.signed, IntKind.bits] at h1 h2
  obtain ⟨m, rfl⟩ := Int.eq_ofNat_of_zero_le h1
  exact ⟨m, rfl, by omega⟩
theorem Rd.i64 {P : Program} {w : World} {t : TypeId} {cs : List Value} (ht : P.underlying t = some (.int .i64)) (h : Rd P w t cs) : ∃ n : Int, cs = [.int .i64 n] ∧ -9223372036854775808 ≤ n ∧ n ≤ 9223372036854775807 := by
  obtain ⟨n, rfl, h1, h2⟩ := Rd.int ht h
  simp [IntKind.min, IntKind.max, IntKind.signed, IntKind.bits] at h1 h2
  exact ⟨n, rfl, by omega, by omega⟩
theorem Rd.bool {P : Program} {w : World} {t : TypeId} {cs : List Value} (ht : P.underlying t = some .bool) (h : Rd P w t cs) : ∃ b, cs = [.bool b] := by
  obtain ⟨H, enc, fuel, x, h, hw⟩ := h
  obtain ⟨b, e1, _⟩ := DataW.trod_bool ht h
  exact ⟨b, e1⟩
theorem Rd.string {P : Program} {w : World} {t : TypeId} {cs : List Value} (ht : P.underlying t = some .string) (h : Rd P w t cs) : ∃ s, cs = [.string s] ∧ s.size ≤ maxLen ∧ s.size ≤ reachBytes := by
  obtain ⟨H, enc, fuel, x, h, hw⟩ := h
  obtain ⟨s, e1, rfl, e3⟩ := DataW.trod_string ht h
  exact ⟨s, e1, e3, by simpa using hw s.data.toList.length (by simp [DataW.weights])⟩
theorem Rd.struct {P : Program} {w : World} {t : TypeId} {fs : Array Field} {cs : List Value} (ht : P.underlying t = some (.struct fs)) (h : Rd P w t cs) :
    cs.length = P.cellsOf t ∧ ∀ (i : Nat) (f : Field), fs[i]? = some f → Rd P w f.type ((cs.drop f.offset).take (P.cellsOf f.type)) := by
  obtain ⟨H, enc, fuel, x, h, hw⟩ := h
  obtain ⟨xs, n, _, rfl, hl, hlen, hf⟩ := DataW.trod_struct ht h
  refine ⟨hl, fun i f hi => ?_⟩
  have hlt : i < xs.length := by rw [hlen]; exact (Array.getElem?_eq_some_iff.1 hi).1
  refine ⟨H, enc, n, xs[i], by rw [hf i f hi]; simp [hlt], fun k hk => hw k ?_⟩
  have : (DataW.agg (xs.map (·.1))).weights P t = DataW.weightsEach P (fs.toList.map (·.type)) (xs.map (·.1)) := by rw [DataW.weights, ht]
  rw [this]
  exact DataW.weights_mem_each (j := i) (t := f.type) (d := xs[i].1) (by rw [List.getElem?_map]; simp [hi]) (by simp [hlt]) k hk
/-- a slice: nil, or a row of cap elements, each readable -/
theorem Rd.slice {P : Program} {w : World} {t e : TypeId} {cs : List Value} (ht : P.underlying t = some (.slice e)) (h : Rd P w t cs) :
    cs = [.slice none 0 0] ∨ ∃ (a : Addr) (len cap : Nat), cs = [.slice (some a) len cap] ∧ len ≤ cap ∧ cap ≤ maxLen ∧ cap * P.bytesOf e ≤ reachBytes ∧
      ∀ i, i < cap → ∃ cs', w.cells? 0 (a.add (i * P.cellsOf e)) (P.cellsOf e) = some cs' ∧ Rd P w e cs' := by
  obtain ⟨H, enc, fuel, x, h, hw⟩ := h
  rcases Deep.open_slice ht h with ⟨h0, _⟩ | ⟨a, len, cap, m, n, D, Pl, h1, _, h2, h3, h4, rfl, h5⟩
  · exact .inl h0
  · simp only [if_true] at h4
    subst h4
    rw [DataW.weights, ht] at hw
    refine .inr ⟨a, len, m, h1, h2, h3, ?_, fun i hi => ?_⟩
    · have := hw _ List.mem_cons_self
      simp only [List.length_map, List.length_range] at this
      rwa [show len + (m - len) = m by omega] at this
    · obtain ⟨cs', e1, e2⟩ := h5 i hi
      refine ⟨cs', e1, H, enc, n, _, e2, fun k hk => hw k (List.mem_cons_of_mem _ (List.mem_append.2 ?_))⟩
      by_cases hl : i < len
      · exact .inl (weights_mem_all (List.mem_map.2 ⟨i, List.mem_range.2 hl, rfl⟩) k hk)
      · exact .inr (weights_mem_all (List.mem_map.2 ⟨i - len, List.mem_range.2 (by omega), by rw [show len + (i - len) = i by omega]⟩) k hk)

theorem Arg.u8 {P : Program} {w : World} {t : TypeId} {v : Value} (ht : P.underlying t = some (.int .u8)) (h : Arg P w t v) : ∃ n : Nat, v = .int .u8 n ∧ n < 256 := by
  obtain ⟨⟨b, hv⟩, hr⟩ := h
  obtain ⟨n, rfl⟩ := okWide_int ht hv
  obtain ⟨m, e, h⟩ := Rd.u8 ht hr
  simp [Value.cells] at e
  exact ⟨m, by rw [e], h⟩
theorem Arg.u16 {P : Program} {w : World} {t : TypeId} {v : Value} (ht : P.underlying t = some (.int .u16)) (h : Arg P w t v) : ∃ n : Nat, v = .int .u16 n ∧ n < 65536 := by
  obtain ⟨⟨b, hv⟩, hr⟩ := h
  obtain ⟨n, rfl⟩ := okWide_int ht hv
  obtain ⟨m, e, h⟩ := Rd.u16 ht hr
  simp [Value.cells] at e
  exact ⟨m, by rw [e], h⟩
theorem Arg.u32 {P : Program} {w : World} {t : TypeId} {v : Value} (ht : P.underlying t = some (.int .u32)) (h : Arg P w t v) : ∃ n : Nat, v = .int .u32 n ∧ n < 4294967296 := by
  obtain ⟨⟨b, hv⟩, hr⟩ := h
  obtain ⟨n, rfl⟩ := okWide_int ht hv
  obtain ⟨m, e, h⟩ := Rd.u32 ht hr
  simp [Value.cells] at e
  exact ⟨m, by rw [e], h⟩
theorem Arg.u64 {P : Program} {w : World} {t : TypeId} {v : Value} (ht : P.underlying t = some (.int .u64)) (h : Arg P w t v) : ∃ n : Nat, v = .int .u64 n ∧ n < 18446744073709551616 := by
  obtain ⟨⟨b, hv⟩, hr⟩ := h
  obtain ⟨n, rfl⟩ := okWide_int ht hv
  obtain ⟨m, e, h⟩ := Rd.u64 ht hr
  simp [Value.cells] at e
  exact ⟨m, by rw [e], h⟩
theorem Arg.i64 {P : Program} {w : World} {t : TypeId} {v : Value} (ht : P.underlying t = some (.int .i64)) (h : Arg P w t v) : ∃ n : Int, v = .int .i64 n ∧ -9223372036854775808 ≤ n ∧ n ≤ 9223372036854775807 := by
  obtain ⟨⟨b, hv⟩, hr⟩ := h
  obtain ⟨n, rfl⟩ := okWide_int ht hv
  obtain ⟨m, e, h⟩ := Rd.i64 ht hr
  simp [Value.cells] at e
  exact ⟨m, by rw [e], h⟩
theorem Arg.bool {P : Program} {w : World} {t : TypeId} {v : Value} (ht : P.underlying t = some .bool) (h : Arg P w t v) : ∃ b, v = .bool b := by
  obtain ⟨⟨b, hv⟩, hr⟩ := h
  exact okWide_bool ht hv
theorem Arg.struct {P : Program} {w : World} {t : TypeId} {fs : Array Field} {v : Value} (ht : P.underlying t = some (.struct fs)) (h : Arg P w t v) :
    ∃ cs : List Value, v = .agg cs.toArray ∧ cs.length = P.cellsOf t ∧ ∀ (i : Nat) (f : Field), fs[i]? = some f → Rd P w f.type ((cs.drop f.offset).take (P.cellsOf f.type)) := by
  obtain ⟨⟨b, hv⟩, hr⟩ := h
  obtain ⟨cs, rfl, hsz⟩ := okWide_struct ht hv
  have e : (Value.agg cs).cells.toList = cs.toList := by simp [Value.cells]
  rw [e] at hr
  obtain ⟨h1, h2⟩ := Rd.struct ht hr
  exact ⟨cs.toList, by simp, h1, h2⟩
theorem Arg.slice {P : Program} {w : World} {t e : TypeId} {v : Value} (ht : P.underlying t = some (.slice e)) (h : Arg P w t v) :
    v = .slice none 0 0 ∨ ∃ (a : Addr) (len cap : Nat), v = .slice (some a) len cap ∧ len ≤ cap ∧ cap ≤ maxLen ∧ cap * P.bytesOf e ≤ reachBytes ∧
      ∀ i, i < cap → ∃ cs', w.cells? 0 (a.add (i * P.cellsOf e)) (P.cellsOf e) = some cs' ∧ Rd P w e cs' := by
  obtain ⟨⟨b, hv⟩, hr⟩ := h
  obtain ⟨a0, len, cap, rfl⟩ := okWide_slice ht hv
  rcases Rd.slice ht hr with h0 | ⟨a, l, c, h1, h2⟩
  · left
    simpa [Value.cells] using h0
  · right
    simp [Value.cells] at h1
    obtain ⟨rfl, rfl, rfl⟩ := h1
    exact ⟨a, _, _, rfl, h2⟩

theorem Try.own : ownKnob Try.prog.godebug = none := by kernel_rfl
theorem Try.laid : laidOutB Try.prog = true := by kernel_rfl
end Go.Proofs.Ytldcihjddebciaa
