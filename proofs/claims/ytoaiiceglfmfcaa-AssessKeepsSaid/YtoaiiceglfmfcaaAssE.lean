/- Walks of assess: the worst bad channel of a map. -/
import Derived.Test.YtoaiiceglfmfcaaAssD
import Derived.Test.YtoaiiceglfmfcaaChanL
namespace Go.Proofs.Ytoaiiceglfmfcaa
open Go.RowKit

/-- the tally of a channel -/
def tal (l : List (Int × Int)) (c : Nat) : Int × Int := l.getD c (0, 0)
def badL (l : List (Int × Int)) (c : Nat) : Bool := badI (tal l c).1 (tal l c).2
def rateL (l : List (Int × Int)) (c : Nat) : Int := rateI (tal l c).1 (tal l c).2
theorem tal_in (l : List (Int × Int)) (c : Nat) (h : c < l.length) : tal l c = l[c] := by simp [tal, h]
theorem tal_out (l : List (Int × Int)) (c : Nat) (h : l.length ≤ c) : tal l c = (0, 0) := by simp [tal, h]
theorem bad_zero : badI 0 0 = false := by decide
theorem badL_out (l : List (Int × Int)) (c : Nat) (h : l.length ≤ c) : badL l c = false := by unfold badL; rw [tal_out l c h]; exact bad_zero
/-- the worst bad one so far -/
def candStep (l : List (Int × Int)) (fo : Option Nat) (c : Nat) : Option Nat :=
  if badL l c = true then (match fo with | none => some c | some f => if rateL l f < rateL l c then some c else some f) else fo
def candL (l : List (Int × Int)) (L : List Nat) : Option Nat := L.foldl (candStep l) none
def foI : Option Nat → Int
  | none => -1
  | some f => f
theorem candL_snoc (l : List (Int × Int)) (L : List Nat) (c : Nat) : candL l (L ++ [c]) = candStep l (candL l L) c := by simp [candL]
/-- what is found is in the list and has a tally -/
theorem candL_lt (l : List (Int × Int)) (L : List Nat) : ∀ f, candL l L = some f → f < l.length ∧ f ∈ L ∧ badL l f = true := by
  have H : ∀ (L' : List Nat) (fo : Option Nat) (pre : List Nat), (∀ f, fo = some f → f < l.length ∧ f ∈ pre ∧ badL l f = true) → ∀ f, L'.foldl (candStep l) fo = some f → f < l.length ∧ f ∈ pre ++ L' ∧ badL l f = true := by
    intro L'
    induction L' with
    | nil => intro fo pre h f hf; simpa using h f hf
    | cons c L' ih =>
      intro fo pre h f hf
      rw [List.foldl_cons] at hf
      have := ih (candStep l fo c) (pre ++ [c]) (fun f hf => by
        unfold candStep at hf
        split at hf
        · rename_i hb
          have hc : c < l.length := by
            rcases Nat.lt_or_ge c l.length with h | h
            · exact h
            · rw [badL_out l c h] at hb; cases hb
          cases fo with
          | none => simp at hf; subst hf; exact ⟨hc, by simp, hb⟩
          | some g =>
            simp only at hf
            split at hf
            · simp at hf; subst hf; exact ⟨hc, by simp, hb⟩
            · obtain ⟨h1, h2, h3⟩ := h g rfl
              simp at hf; subst hf
              exact ⟨h1, by simp [h2], h3⟩
        · obtain ⟨h1, h2, h3⟩ := h f hf
          exact ⟨h1, by simp [h2], h3⟩) f hf
      simpa using this
  intro f hf
  have := H L none [] (by simp) f hf
  simpa using this

/-- the channels of a map, as numbers -/
def nats (L : List (Fin 37)) : List Nat := L.map (·.val)
theorem nats_len (L : List (Fin 37)) : (nats L).length = L.length := by simp [nats]
theorem nats_take (L : List (Fin 37)) (k : Nat) (h : k < L.length) : nats (L.take (k + 1)) = nats (L.take k) ++ [L[k].val] := by
  rw [List.take_succ_eq_append_getElem h]; simp only [nats, List.map_append, List.map_cons, List.map_nil]

set_option maxHeartbeats 2000000 in
theorem cand_any (v : Value) (l : List (Int × Int)) (hl : l.length ≤ 1000) (m : Nat) (hm : m < 18446744073709551616) (w : World) (h : SR w v l.length 2 (tcells l)) :
    Calls Try.prog 58 #[v, .int .u64 m] w fun e w' => e = .returned (.int .i64 (foI (candL l (nats (lst m))))) ∧ Below w.heap.size w w' := by
  obtain ⟨L, hL⟩ : ∃ L, lst m = L := ⟨_, rfl⟩
  have hcl := list_any m hm w
  rw [hL] at hcl ⊢
  have HCL := Lib.hid hcl
  obtain ⟨n, hn⟩ : ∃ n, l.length = n := ⟨_, rfl⟩
  have HN := Lib.hid hn
  obtain ⟨_, _, _, ao, cap, rfl, _, hcell⟩ := h
  rw [hn] at hl hcell ⊢
  obtain ⟨N, hN⟩ : ∃ N, L.length = N := ⟨_, rfl⟩
  have hN37 : N ≤ 37 := by rw [← hN, ← hL]; exact lstTo_len m 37
  have HLN := Lib.hid hN
  clear hn hcl hL hN
  go_enter Try.func58, Try.ntmps58
  go_wp2_with fail
  refine HCL.out.mono ?_
  rw [HLN.out]
  rintro e w1 ⟨v0, rfl, hown0, hB0⟩
  rcases hown0.2 with ⟨rfl, h0⟩ | ⟨g, lc, cur, rfl, _⟩
  · subst h0
    have e : L = [] := List.eq_nil_of_length_eq_zero HLN.out
    subst e
    clear hown0 hcell
    go_wp2
    refine wp_loop_rounds 1 ?_
    rw [rounds_succ]
    go_wp2
    go_ret
    exact ⟨rfl, hB0⟩
  · go_wp2
    go_loopw [5, 11] (fun fo i wr => ∃ (k : Nat) (f : Option Nat), k ≤ N ∧ i = .int .i64 k ∧ fo = .int .i64 (foI f) ∧ Hid (f = candL l (nats (L.take k))) ∧ Below w1.heap.size w1 wr) (fun _ i _ => N - (intOf i).toNat)
    case atStart => exact ⟨0, none, by omega, rfl, rfl, rfl, Below.refl _ _⟩
    case round =>
      obtain ⟨k, f, hk, rfl, rfl, hf, hB⟩ := hrel
      by_cases hlt : k < N
      · have hkL : k < L.length := by rw [HLN.out]; exact hlt
        have hgl : g < w1.heap.size := (hown0.lt g rfl).2
        have hc0 : wr.cell? ⟨g, k, none⟩ = some (.int .i64 (L[k].val : Int)) := by
          rw [hB.cell (p := ⟨g, k, none⟩) hgl, hown0.cellAt k (by omega)]
          simp [chs, hkL]
        have htk := nats_take L k hkL
        obtain ⟨c, hc⟩ : ∃ c, L[k].val = c := ⟨_, rfl⟩
        have hc37 : c < 37 := by rw [← hc]; exact Fin.isLt _
        rw [hc] at hc0 htk
        have hstep : candL l (nats (L.take (k + 1))) = candStep l f c := by rw [htk, candL_snoc, hf.out]
        have HS := Lib.hid hstep
        clear hstep htk hc
        by_cases hcn : n ≤ c
        · have hno : candStep l f c = f := by unfold candStep; rw [badL_out l c (by rw [HN.out]; exact hcn)]; simp
          have HNO := Lib.hid hno
          clear hno hcell
          go_wp2
          go_roundw
          case rel => exact ⟨k + 1, f, by omega, by go_num, rfl, by unfold Hid; rw [HS.out, HNO.out], hB⟩
          case measure => simp [intOf]; omega
        · have hcn' : c < n := by omega
          have hcl : c < l.length := by rw [HN.out]; exact hcn'
          obtain ⟨b, off, rfl, hb, hx⟩ := hcell (by omega)
          have hb1 : b < w1.heap.size := Nat.lt_of_lt_of_le hb hB0.size
          have hbr : b < wr.heap.size := Nat.lt_of_lt_of_le hb1 hB.size
          obtain ⟨p1, p2⟩ := tcells_get l c hcl
          have d1 := ((hB.cell (p := ⟨b, off + c * 2, none⟩) hb1).trans (hB0.cell (p := ⟨b, off + c * 2, none⟩) hb)).trans (hx _ _ p1)
          have d2 := ((hB.cell (p := ⟨b, off + c * 2 + 1, none⟩) hb1).trans (hB0.cell (p := ⟨b, off + c * 2 + 1, none⟩) hb)).trans (hx _ _ p2)
          have ht := tal_in l c hcl
          obtain ⟨⟨x, y⟩, he⟩ : ∃ t, l[c] = t := ⟨_, rfl⟩
          rw [he] at d1 d2 ht
          simp only at d1 d2
          have hbad : badL l c = badI x y := by unfold badL; rw [ht]
          have hrate : rateL l c = rateI x y := by unfold rateL; rw [ht]
          have cb := bad_any x y
          have cr := rate_any x y
          obtain ⟨B, hBd⟩ : ∃ B, badI x y = B := ⟨_, rfl⟩
          obtain ⟨R, hR⟩ : ∃ R, rateI x y = R := ⟨_, rfl⟩
          rw [hBd] at cb hbad
          rw [hR] at cr hrate
          have CB := Lib.hid cb
          have CR := Lib.hid cr
          have hi0 : (0 : Int) ≤ (c : Int) := by omega
          have hi1 : (c : Int) < (n : Int) := by omega
          have hg1 : decide ((n : Int) ≤ (c : Int)) = false := by simp; omega
          clear p1 p2 he cb cr hBd hR ht
          cases B
          · have hno : candStep l f c = f := by unfold candStep; rw [hbad]; simp
            have HNO := Lib.hid hno
            clear hno hcell hbad hrate hx
            go_wp2_with (go_at_call 37; refine (CB.out _).mono ?_; rintro e w2 ⟨rfl, hB2⟩; have hB2' := hB.trans (hB2.mono hB.size); have cL := (hB2.cell (p := ⟨b, off + c * 2, none⟩) hbr).trans d1; have cL2 := (hB2.cell (p := ⟨b, off + c * 2 + 1, none⟩) hbr).trans d2)
            go_roundw
            case rel => exact ⟨k + 1, f, by omega, by go_num, rfl, by unfold Hid; rw [HS.out, HNO.out], hB2'⟩
            case measure => simp [intOf]; omega
          · cases f with
            | none =>
              have hno : candStep l none c = some c := by unfold candStep; rw [hbad]; simp
              have HNO := Lib.hid hno
              clear hno hcell hbad hrate hx
              have hneg : decide ((foI none) < 0) = true := by decide
              unfold foI at hneg ⊢
              go_wp2_with (go_at_call 37; refine (CB.out _).mono ?_; rintro e w2 ⟨rfl, hB2⟩; have hB2' := hB.trans (hB2.mono hB.size); have cL := (hB2.cell (p := ⟨b, off + c * 2, none⟩) hbr).trans d1; have cL2 := (hB2.cell (p := ⟨b, off + c * 2 + 1, none⟩) hbr).trans d2)
              go_quiet (fail)
              go_wp2
              go_roundw
              case rel => exact ⟨k + 1, some c, by omega, by go_num, rfl, by unfold Hid; rw [HS.out, HNO.out], below_drewN hB2' _⟩
              case measure => simp [intOf]; omega
            | some f0 =>
              obtain ⟨hf1, _, _⟩ := candL_lt l _ f0 hf.out.symm
              obtain ⟨p1, p2⟩ := tcells_get l f0 hf1
              have g1 := ((hB.cell (p := ⟨b, off + f0 * 2, none⟩) hb1).trans (hB0.cell (p := ⟨b, off + f0 * 2, none⟩) hb)).trans (hx _ _ p1)
              have g2 := ((hB.cell (p := ⟨b, off + f0 * 2 + 1, none⟩) hb1).trans (hB0.cell (p := ⟨b, off + f0 * 2 + 1, none⟩) hb)).trans (hx _ _ p2)
              have ht0 := tal_in l f0 hf1
              obtain ⟨⟨x0, y0⟩, he0⟩ : ∃ t, l[f0] = t := ⟨_, rfl⟩
              rw [he0] at g1 g2 ht0
              simp only at g1 g2
              have hrate0 : rateL l f0 = rateI x0 y0 := by unfold rateL; rw [ht0]
              have cr0 := rate_any x0 y0
              obtain ⟨R0, hR0⟩ : ∃ R, rateI x0 y0 = R := ⟨_, rfl⟩
              rw [hR0] at cr0 hrate0
              have CR0 := Lib.hid cr0
              have hfn : f0 < n := by rw [← HN.out]; exact hf1
              have hj0 : (0 : Int) ≤ (f0 : Int) := by omega
              have hj1 : (f0 : Int) < (n : Int) := by omega
              have hneg : decide ((f0 : Int) < 0) = false := by simp
              have hst : candStep l (some f0) c = if R0 < R then some c else some f0 := by unfold candStep; rw [hbad]; simp only [if_true, hrate, hrate0]
              have HST := Lib.hid hst
              clear p1 p2 he0 cr0 hR0 ht0 hst hcell hbad hrate hrate0 hx
              show Code.wp _ _ _ _ _
              simp only [foI]
              by_cases hr : R0 < R
              · go_wp2_with (go_at_call 37; refine (CB.out _).mono ?_; rintro e w2 ⟨rfl, hB2⟩; have hB2' := hB.trans (hB2.mono hB.size); have cL := (hB2.cell (p := ⟨b, off + c * 2, none⟩) hbr).trans d1; have cL2 := (hB2.cell (p := ⟨b, off + c * 2 + 1, none⟩) hbr).trans d2)
                have hz2 : b < w2.heap.size := Nat.lt_of_lt_of_le hbr hB2.size
                have e1 := (hB2.cell (p := ⟨b, off + f0 * 2, none⟩) hbr).trans g1
                have e2 := (hB2.cell (p := ⟨b, off + f0 * 2 + 1, none⟩) hbr).trans g2
                go_region_held3 (fun W' => W'.cell? ⟨b, off + c * 2, none⟩ = some (.int .i64 x) ∧ W'.cell? ⟨b, off + c * 2 + 1, none⟩ = some (.int .i64 y) ∧ W'.cell? ⟨b, off + f0 * 2, none⟩ = some (.int .i64 x0) ∧ W'.cell? ⟨b, off + f0 * 2 + 1, none⟩ = some (.int .i64 y0)) (go_keep) (first | (go_at_call 35; first | ((with_reducible refine (CR.out _).mono ?_); rintro e w3 ⟨rfl, hB3⟩; have k1 := (hB3.cell (p := ⟨b, off + c * 2, none⟩) (by simpa using hz2)).trans (by simpa using cL); have k2 := (hB3.cell (p := ⟨b, off + c * 2 + 1, none⟩) (by simpa using hz2)).trans (by simpa using cL2); have k3 := (hB3.cell (p := ⟨b, off + f0 * 2, none⟩) (by simpa using hz2)).trans (by simpa using e1); have k4 := (hB3.cell (p := ⟨b, off + f0 * 2 + 1, none⟩) (by simpa using hz2)).trans (by simpa using e2)) | ((with_reducible refine (CR0.out _).mono ?_); rintro e w4 ⟨rfl, hB4⟩; have j1 := (hB4.cell (p := ⟨b, off + c * 2, none⟩) (Nat.lt_of_lt_of_le (by simpa using hz2) hB3.size)).trans k1; have j2 := (hB4.cell (p := ⟨b, off + c * 2 + 1, none⟩) (Nat.lt_of_lt_of_le (by simpa using hz2) hB3.size)).trans k2; have j3 := (hB4.cell (p := ⟨b, off + f0 * 2, none⟩) (Nat.lt_of_lt_of_le (by simpa using hz2) hB3.size)).trans k3; have j4 := (hB4.cell (p := ⟨b, off + f0 * 2 + 1, none⟩) (Nat.lt_of_lt_of_le (by simpa using hz2) hB3.size)).trans k4)))
                have hB4' : Below w1.heap.size w1 w4 := (hB2'.drew.trans (hB3.mono (by simpa using hB2'.size))).trans (hB4.mono (Nat.le_trans (by simpa using hB2'.size) hB3.size))
                go_wp2
                go_roundw
                case rel => exact ⟨k + 1, some c, by omega, by go_num, rfl, by unfold Hid; rw [HS.out, HST.out, if_pos hr], hB4'⟩
                case measure => simp [intOf]; omega
              · go_wp2_with (go_at_call 37; refine (CB.out _).mono ?_; rintro e w2 ⟨rfl, hB2⟩; have hB2' := hB.trans (hB2.mono hB.size); have cL := (hB2.cell (p := ⟨b, off + c * 2, none⟩) hbr).trans d1; have cL2 := (hB2.cell (p := ⟨b, off + c * 2 + 1, none⟩) hbr).trans d2)
                have hz2 : b < w2.heap.size := Nat.lt_of_lt_of_le hbr hB2.size
                have e1 := (hB2.cell (p := ⟨b, off + f0 * 2, none⟩) hbr).trans g1
                have e2 := (hB2.cell (p := ⟨b, off + f0 * 2 + 1, none⟩) hbr).trans g2
                go_region_held3 (fun W' => W'.cell? ⟨b, off + c * 2, none⟩ = some (.int .i64 x) ∧ W'.cell? ⟨b, off + c * 2 + 1, none⟩ = some (.int .i64 y) ∧ W'.cell? ⟨b, off + f0 * 2, none⟩ = some (.int .i64 x0) ∧ W'.cell? ⟨b, off + f0 * 2 + 1, none⟩ = some (.int .i64 y0)) (go_keep) (first | (go_at_call 35; first | ((with_reducible refine (CR.out _).mono ?_); rintro e w3 ⟨rfl, hB3⟩; have k1 := (hB3.cell (p := ⟨b, off + c * 2, none⟩) (by simpa using hz2)).trans (by simpa using cL); have k2 := (hB3.cell (p := ⟨b, off + c * 2 + 1, none⟩) (by simpa using hz2)).trans (by simpa using cL2); have k3 := (hB3.cell (p := ⟨b, off + f0 * 2, none⟩) (by simpa using hz2)).trans (by simpa using e1); have k4 := (hB3.cell (p := ⟨b, off + f0 * 2 + 1, none⟩) (by simpa using hz2)).trans (by simpa using e2)) | ((with_reducible refine (CR0.out _).mono ?_); rintro e w4 ⟨rfl, hB4⟩; have j1 := (hB4.cell (p := ⟨b, off + c * 2, none⟩) (Nat.lt_of_lt_of_le (by simpa using hz2) hB3.size)).trans k1; have j2 := (hB4.cell (p := ⟨b, off + c * 2 + 1, none⟩) (Nat.lt_of_lt_of_le (by simpa using hz2) hB3.size)).trans k2; have j3 := (hB4.cell (p := ⟨b, off + f0 * 2, none⟩) (Nat.lt_of_lt_of_le (by simpa using hz2) hB3.size)).trans k3; have j4 := (hB4.cell (p := ⟨b, off + f0 * 2 + 1, none⟩) (Nat.lt_of_lt_of_le (by simpa using hz2) hB3.size)).trans k4)))
                have hB4' : Below w1.heap.size w1 w4 := (hB2'.drew.trans (hB3.mono (by simpa using hB2'.size))).trans (hB4.mono (Nat.le_trans (by simpa using hB2'.size) hB3.size))
                go_wp2
                go_roundw
                case rel => exact ⟨k + 1, some f0, by omega, by go_num, rfl, by unfold Hid; rw [HS.out, HST.out, if_neg (by omega)], hB4'⟩
                case measure => simp [intOf]; omega
      · have hkN : k = N := by omega
        subst hkN
        have hfe := hf.out
        rw [List.take_of_length_le (by rw [HLN.out]; omega)] at hfe
        have HF := Lib.hid hfe
        clear hcell hfe
        go_wp2
        go_ret
        exact ⟨ret_eq (by rw [HF.out]), hB0.trans (hB.mono hB0.size)⟩
end Go.Proofs.Ytoaiiceglfmfcaa
