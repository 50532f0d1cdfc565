/- attpdu: AttpduUnique. -/
import Derived.Test.YthnffdlnhfhabaaAuG
import Derived.Test.YthnffdlnhfhabaaAuE
import Derived.Test.YthnffdlnhfhabaaAuR
namespace Go.Proofs.Ythnffdlnhfhabaa
open Go.RowKit

set_option linter.unusedSimpArgs false in
set_option linter.unusedVariables false in
set_option maxRecDepth 100000 in
set_option maxHeartbeats 4000000 in
theorem attpduUnique_walk (v0 : Value) (w : World) (a0 : Arg Try.prog w 26 v0) :
    Calls Try.prog 7 #[v0] w fun e w' => e = .returned (.bool true) ∧ Below w.heap.size w w' := by
  obtain ⟨a, n, c, bs, rfl, hval, hlen, hc⟩ := arg_bytes_cap a0
  have hb := hval.2.2
  have hnb : n ≤ 140737488355328 := by have := hval.2.1; unfold reachBytes at this; omega
  have hd := fun W (hW : Below w.heap.size w W) => adecode_any a n c bs W (hval.below hW) hlen hc
  have HD := Lib.hid hd
  have HVAL := Lib.hid hval
  have HLEN := Lib.hid hlen
  have HBS := Lib.hid hb
  clear a0 hval hlen hb hd
  by_cases hl : 1000 < n
  · have g1 : decide (1000 < n) = true := by simpa using hl
    have g1' : decide ((1000 : Int) < (n : Int)) = true := by simp; omega
    go_enter Try.func7, Try.ntmps7
    go_wp2_with fail
    refine (example_any _).mono ?_
    rintro e w2 ⟨rfl, hB2⟩
    go_wp2
    go_ret
    exact ⟨rfl, hB2⟩
  have g1 : decide (1000 < n) = false := by simpa using hl
  have g1' : decide ((1000 : Int) < (n : Int)) = false := by simp; omega
  obtain ⟨⟨E, P⟩, hEP⟩ : ∃ P, decP bs = P := ⟨_, rfl⟩
  have herr := decP_err bs
  have hz := build_pdu
  rw [hEP] at herr
  simp only at herr
  have HEP := Lib.hid hEP
  by_cases hE : E = 0
  rotate_left
  · obtain rfl : P = pd0 := herr hE
    have t1 : (E != 0) = true := by simpa using hE
    clear hE herr hEP
    go_enter Try.func7, Try.ntmps7
    go_wp2_with fail
    refine (HD.out _ (Below.refl _ _)).mono ?_
    rintro e w2 ⟨av, nv, cv, al, m, d, its, he, hbv, hnv, hits, hdt, hB2⟩
    rw [HEP.out] at he hbv hnv hdt
    simp only [pd0, nm0] at he hbv hnv hdt
    obtain rfl : 0 = nv := hnv
    have hits0 : its = [] := by cases its with
      | nil => rfl
      | cons x l => cases hdt
    subst hits0
    obtain rfl : 0 = m := hits.1
    subst he
    have hal := (Below.refl w2.heap.size w2).alloc (Nat.le_refl _) (.cells #[.int .i64 0, .int .i64 0, .int .u16 0, .int .u16 0, .int .u64 0, .int .u64 0, .int .i64 0, .int .i64 0, .int .i64 0, .bool false, .slice av 0 cv, .slice al 0 d] 29)
    have HB3 := Lib.hid (hB2.alloc hB2.size (.cells #[.int .i64 0, .int .i64 0, .int .u16 0, .int .u16 0, .int .u64 0, .int .u64 0, .int .i64 0, .int .i64 0, .int .i64 0, .bool false, .slice av 0 cv, .slice al 0 d] 29))
    have T := cells_new w2 [.int .i64 0, .int .i64 0, .int .u16 0, .int .u16 0, .int .u64 0, .int .u64 0, .int .i64 0, .int .i64 0, .int .i64 0, .bool false, .slice av 0 cv, .slice al 0 d] 29
    have HX := Lib.hid (And.intro (hbv.below hal) (hits.below hal))
    clear hbv hits hdt hB2 hal HD HEP
    go_upto_region 4 with fail
    generalize World.alloc _ _ = Y at HB3 T HX ⊢
    have hOpen := T
    simp only [Cells, blk, List.cons_append, List.nil_append, and_true, Nat.reduceAdd, Nat.add_zero, Nat.zero_add] at hOpen
    obtain ⟨y0, y1, y2, y3, y4, y5, y6, y7, y8, y9, yA, yB⟩ := hOpen
    clear T
    go_wp2_with fail
    have hs := samePDU_any 0 0 0 0 0 0 0 0 0 false av al none none 0 cv 0 0 d 0 [] [] [] Y HX.out.1 (bytesAt_nil _) HX.out.2 (items_nil _) rfl
    refine hs.mono ?_
    clear hs
    rintro e w5 ⟨rfl, hB5⟩
    have HB5 := Lib.hid (HB3.out.trans (hB5.mono HB3.out.size))
    clear hB5 y0 y1 y2 y3 y4 y5 y6 y7 y8 y9 yA yB HX HB3
    go_wp2_with fail
    refine (example_any _).mono ?_
    rintro e w6 ⟨rfl, hB6⟩
    have hBf := HB5.out.trans (hB6.mono HB5.out.size)
    clear hB6
    go_wp2
    go_ret
    exact ⟨rfl, hBf⟩
  · subst hE
    obtain ⟨hchk, henc⟩ := uniq_any bs HBS.out P hEP
    obtain ⟨l1, l2, l3, l4, l5, l6, l7⟩ := decP_lim bs HBS.out P hEP
    rw [HLEN.out] at l5 l6 l7
    have HCH := Lib.hid hchk
    have HEC := Lib.hid henc
    obtain ⟨ki, ⟨ak, ha, la, of, mt, co, cm⟩, hi, lo, pb, pits⟩ := P
    simp only at l1 l2 l3 l4 l5 l6 l7
    have HL7 := Lib.hid l7
    clear herr hEP hchk henc l7
    go_enter Try.func7, Try.ntmps7
    go_wp2_with fail
    refine (HD.out _ (Below.refl _ _)).mono ?_
    rintro e w2 ⟨av, nv, cv, al, m, d, its, he, hbv, hnv, hits, hdt, hB2⟩
    rw [HEP.out] at he hbv hnv hdt
    simp only at he hbv hnv hdt
    subst he
    have hml : m ≤ 1000 := by
      have := congrArg List.length hdt
      rw [List.length_map, hits.1] at this
      omega
    have hbs : ∀ t ∈ its, t.bs.length = t.n := fun t ht => (hits.2.2 t ht).2.2.2.2.1
    have htn : ∀ t ∈ its, t.n ≤ 1000000 := fun t ht => by
      have h1 : dat t ∈ pits := by rw [← hdt]; exact List.mem_map_of_mem ht
      have h2 := HL7.out _ h1
      have h3 := hbs t ht
      have h4 : (dat t).bs.length = t.bs.length := rfl
      omega
    have hchk : chkP ki ak ha la hi lo of mt co cm nv m its = 0 := by
      have := HCH.out
      unfold chkD at this
      rw [chkP_of ki ak ha la hi lo of mt co cm nv m its hbs]
      have e1 : its.map (fun t => itOf (dat t)) = pits.map itOf := by rw [← hdt, List.map_map]; rfl
      rw [e1]
      simp only [hnv] at this
      have e2 : pits.length = m := by rw [← hdt, List.length_map]; exact hits.1
      rwa [e2] at this
    have henc : encP ki ak ha la hi lo of mt co cm pb its = bs := by
      have := HEC.out
      rw [encP_of ki ak ha la hi lo of mt co cm pb its hbs]
      have e1 : its.map (fun t => itOf (dat t)) = pits.map itOf := by rw [← hdt, List.map_map]; rfl
      rwa [e1]
    have hal := (Below.refl w2.heap.size w2).alloc (Nat.le_refl _) (.cells #[.int .i64 ki, .int .i64 ak, .int .u16 ha, .int .u16 la, .int .u64 hi, .int .u64 lo, .int .i64 of, .int .i64 mt, .int .i64 co, .bool cm, .slice av nv cv, .slice al m d] 29)
    have HB3 := Lib.hid (hB2.alloc hB2.size (.cells #[.int .i64 ki, .int .i64 ak, .int .u16 ha, .int .u16 la, .int .u64 hi, .int .u64 lo, .int .i64 of, .int .i64 mt, .int .i64 co, .bool cm, .slice av nv cv, .slice al m d] 29))
    have T := cells_new w2 [.int .i64 ki, .int .i64 ak, .int .u16 ha, .int .u16 la, .int .u64 hi, .int .u64 lo, .int .i64 of, .int .i64 mt, .int .i64 co, .bool cm, .slice av nv cv, .slice al m d] 29
    have hen := aencode_any ki ak ha la hi lo of mt co cm av al nv cv m d pb its _ (hbv.below hal) hnv (hits.below hal) hml htn l1 l2 l3 l4
    simp only [hchk, if_true, henc] at hen
    have HEN := Lib.hid hen
    clear hbv hits hdt hB2 hal HD HEP hen hchk henc hbs htn hml HCH HEC HL7 l1 l2 l3 l4 l5 l6
    go_upto_region 4 with fail
    generalize World.alloc _ _ = Y at HB3 T HEN ⊢
    have hOpen := T
    simp only [Cells, blk, List.cons_append, List.nil_append, and_true, Nat.reduceAdd, Nat.add_zero, Nat.zero_add] at hOpen
    obtain ⟨y0, y1, y2, y3, y4, y5, y6, y7, y8, y9, yA, yB⟩ := hOpen
    clear T
    go_wp2_with fail
    refine HEN.out.mono ?_
    rintro e w5 ⟨v5, rfl, hv5, hB5⟩
    have HB5 := Lib.hid (HB3.out.trans (hB5.mono HB3.out.size))
    have HV5 := Lib.hid hv5
    clear hB5 hv5 y0 y1 y2 y3 y4 y5 y6 y7 y8 y9 yA yB HEN HB3
    go_wp2_with fail
    refine (same_refl _ _ bs _ (HVAL.out.below HB5.out) HV5.out).mono ?_
    rintro e w6 ⟨rfl, rfl⟩
    go_wp2_with fail
    refine (example_any _).mono ?_
    rintro e w7 ⟨rfl, hB6⟩
    have hBf := HB5.out.trans (hB6.mono HB5.out.size)
    clear hB6
    go_wp2
    go_ret
    exact ⟨rfl, hBf⟩
end Go.Proofs.Ythnffdlnhfhabaa
