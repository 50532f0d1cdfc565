/- octets.Join: the parts, one after the other. -/
import Derived.Test.YtldcihjddebciaaUuE
namespace Go.Proofs.Ytldcihjddebciaa
open Go.RowKit

def jn (ps : List (Value × List Nat)) (k : Nat) : List Nat := (ps.take k).flatMap (·.2)
theorem jn_succ (ps : List (Value × List Nat)) (k : Nat) (h : k < ps.length) : jn ps (k + 1) = jn ps k ++ (ps[k]).2 := by
  unfold jn
  rw [List.take_succ_eq_append_getElem h, List.flatMap_append]
  simp
theorem jn_all (ps : List (Value × List Nat)) : jn ps ps.length = ps.flatMap (·.2) := by unfold jn; rw [List.take_of_length_le (Nat.le_refl _)]
theorem jn_le (ps : List (Value × List Nat)) (k : Nat) : (jn ps k).length ≤ (ps.flatMap (·.2)).length := by
  have : ps.flatMap (·.2) = jn ps k ++ (ps.drop k).flatMap (·.2) := by unfold jn; rw [← List.flatMap_append, List.take_append_drop]
  rw [this, List.length_append]
  omega
set_option linter.unusedSimpArgs false in
set_option linter.unusedVariables false in
set_option maxRecDepth 100000 in
set_option maxHeartbeats 2000000 in
theorem join_any (v : Value) (ps : List (Value × List Nat)) (w : World) (h : SR w v ps.length 1 (ps.map (·.1))) (hp : ∀ p ∈ ps, BytesAt w p.1 p.2) (hn : (ps.flatMap (·.2)).length ≤ 1099511627776) (hc : ps.length ≤ 1099511627776) :
    Calls Try.prog 31 #[v] w fun e w' => ∃ v', e = .returned v' ∧ w'.ownsRow w.heap.size 5 1 v' (ps.flatMap (·.2)).length (bcells (ps.flatMap (·.2))) ∧ Below w.heap.size w w' := by
  obtain ⟨i0, hi, hz0, hz1, hz2⟩ := info_parts Try.info_u8
  obtain ⟨_, _, _, ao, cap, rfl, _, hcell⟩ := h
  obtain ⟨n, hnn⟩ : ∃ n, ps.length = n := ⟨_, rfl⟩
  have HN := Lib.hid hnn
  have HC := Lib.hid hcell
  have HP := Lib.hid hp
  have HL := Lib.hid hn
  rw [hnn] at hc ⊢
  clear hcell hp hnn hn
  go_enter Try.func31, Try.ntmps31
  go_wp2
  go_loopw [3, 5, 8] (fun v _ i wr => ∃ k : Nat, i = .int .i64 k ∧ k ≤ n ∧ wr.ownsRow w.heap.size 5 1 v (jn ps k).length (bcells (jn ps k)) ∧ Below w.heap.size w wr) (fun _ _ i _ => n - (intOf i).toNat)
  case atStart => exact ⟨0, by simp, Nat.zero_le _, World.ownsRow_nil _ _ _ _, Below.refl _ _⟩
  case round =>
    obtain ⟨k, rfl, hk, hown, hB⟩ := hrel
    by_cases hlt : k < n
    · have g1 : decide (k < n) = true := by simpa using hlt
      have hkl : k < ps.length := by rw [HN.out]; exact hlt
      obtain ⟨b, off, rfl, hb, hcell⟩ := HC.out (by omega)
      have hst := jn_succ ps k hkl
      have hle := jn_le ps (k + 1)
      have hll := HL.out
      obtain ⟨⟨pv, pl⟩, hx⟩ : ∃ p, ps[k] = p := ⟨_, rfl⟩
      have hpb := HP.out _ (List.getElem_mem hkl)
      have hcl := hcell k pv (by simp [List.getElem?_eq_getElem hkl, hx])
      rw [hx] at hst hpb
      simp only at hst hpb
      obtain ⟨⟨_, hpl, hp1, pa, pc, rfl, hpn, hpc⟩, _, _⟩ := hpb.below hB
      have hcl2 := kc hcl hB
      obtain ⟨J, hJ⟩ : ∃ J, jn ps k = J := ⟨_, rfl⟩
      obtain ⟨m, hm⟩ : ∃ m, J.length = m := ⟨_, rfl⟩
      rw [hJ] at hst hown
      rw [hst, List.length_append, hm] at hle
      rw [hm] at hown
      have HST := Lib.hid hst
      have HM := Lib.hid hm
      obtain ⟨pn, hpn'⟩ : ∃ q, pl.length = q := ⟨_, rfl⟩
      have HPN := Lib.hid hpn'
      rw [hpn'] at hpl hpn hpc hle hcl2
      have hle2 : m + pn ≤ 1099511627776 := by omega
      have i1 : (k : Int) < (n : Int) := by omega
      have w1 : IntKind.i64.wrap ((k : Int) + 1) = (k : Int) + 1 := IntWalk.i64_in _ (by omega)
      have HR : Hid (∀ (v2 : Value) (w2 : World), w2.ownsRow w.heap.size 5 1 v2 (m + pn) (bcells J ++ bcells pl) → Below w.heap.size w w2 → ∃ k2 : Nat, Value.int .i64 ((k : Int) + 1) = .int .i64 k2 ∧ k2 ≤ n ∧ w2.ownsRow w.heap.size 5 1 v2 (jn ps k2).length (bcells (jn ps k2)) ∧ Below w.heap.size w w2) :=
        Lib.hid fun v2 w2 h2 hb2 => ⟨k + 1, by simp, hlt, by rw [HST.out, List.length_append, HM.out, HPN.out]; simpa [bcells] using h2, hb2⟩
      clear hcell hst hll hpb hx hcl hJ hm hpn'
      cases pa with
      | none =>
        obtain ⟨rfl, rfl⟩ := hpn rfl
        have hpl0 : pl = [] := List.eq_nil_of_length_eq_zero HPN.out
        clear hpn hpc hpl
        go_wp2_with (at_builtin; refine wpList_append_own_none rfl _ _ 23 rfl w.heap.size 5 i0 1 Try.underlying23 hi _ _ _ rfl hown rfl ?_)
        refine ⟨HR.out _ _ (by rw [hpl0]; simpa [bcells] using hown) hB, ?_⟩
        simp [intOf]
        omega
      | some ad =>
        have hnew : ∀ j u, (bcells pl)[j]? = some u → wr.cell? (ad.add j) = some u := fun j u hj => by
          have hlt := (List.getElem?_eq_some_iff.1 hj).1
          rw [hpl] at hlt
          obtain ⟨b', off', e, hb1, hc1⟩ := hpc (by omega)
          simp only [Option.some.injEq] at e
          subst e
          rw [addr_add]
          exact hc1 j u hj
        have HNEW := Lib.hid hnew
        have HP1 := Lib.hid hp1
        have HPL := Lib.hid hpl
        clear hnew hpc hp1 hpn hpl
        go_wp2_with (at_builtin; refine wpList_append_own_at _ rfl _ _ 23 rfl w.heap.size 5 i0 _ 1 1 Try.underlying23 hi hz0 hz1 hz2 rfl (by decide) _ _ _ rfl hown ad pn pc (bcells pl) rfl HPL.out HNEW.out HP1.out (by unfold maxLen; omega) (by omega) hB.size ?_)
        intro v' w2 hown' hg _ _
        have hB2 := hB.grown hg hB.size (fun q hq => (hown.lt q hq).1)
        have HR2 := Lib.hid (HR.out _ _ hown' hB2)
        clear hown hown' hg hB hB2
        go_wp2
        refine ⟨HR2.out, ?_⟩
        simp [intOf]
        omega
    · have g1 : decide (k < n) = false := by simpa using hlt
      obtain rfl : k = n := by omega
      go_wp2
      go_ret
      refine ⟨_, rfl, ?_, hB⟩
      rw [← jn_all, HN.out]
      exact hown
end Go.Proofs.Ytldcihjddebciaa
