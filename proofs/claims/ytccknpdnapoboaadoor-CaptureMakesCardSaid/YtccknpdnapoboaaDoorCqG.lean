/- capture: the listed tables; CaptureReads. -/
import Derived.Test.YtccknpdnapoboaaDoorCqB
import Derived.Test.YtccknpdnapoboaaDoorCqC
import Derived.Test.YtccknpdnapoboaaDoorCqF
import Derived.Lib.LaidTab
namespace Go.Proofs.YtccknpdnapoboaaDoor
open Go.RowKit

theorem sums_of {w : World} (h : Lib.TabIs Tryd.prog w "wireless/crc.sums" .u32 [0, 1788928, 3577856, 3003392, 7155712, 7764992, 6006784, 4252672, 14311424, 12659712, 15529984, 16233472, 12013568, 11279360, 8505344, 10126336]) : Sums w := fun i hi => by
  rw [h.cell (g := 0) (by kernel_rfl) i hi]
  have hall : ∀ i, i < 16 → ([0, 1788928, 3577856, 3003392, 7155712, 7764992, 6006784, 4252672, 14311424, 12659712, 15529984, 16233472, 12013568, 11279360, 8505344, 10126336] : List Int).getD i 0 = (tabL.getD i 0 : Nat) := by decide
  rw [hall i hi]
theorem pow10_of {w : World} (h : Lib.TabIs Tryd.prog w "internal/strconv.uint64pow10" .u64 [1, 10, 100, 1000, 10000, 100000, 1000000, 10000000, 100000000, 1000000000, 10000000000, 100000000000, 1000000000000, 10000000000000, 100000000000000, 1000000000000000, 10000000000000000, 100000000000000000, 1000000000000000000, 10000000000000000000]) : Pow10 w := Lib.tabBelow_of_tabIs (show Lib.TabIs Tryd.prog w "internal/strconv.uint64pow10" .u64 Lib.pow10Tab from h)
/-- an argument of bytes -/
theorem arg_bytes {w : World} {v : Value} (h : Arg Tryd.prog w 25 v) : ∃ a c bs, v = .slice a (bs : List Nat).length c ∧ bs.length ≤ c ∧ BytesAt w v bs := by
  have h1 := h.slIn Tryd.underlying25
  obtain ⟨bs, hby⟩ := bytes_of_in Tryd.underlying5 (by kernel_rfl) (by kernel_rfl) h1
  rcases h1 with rfl | ⟨a, len, cap, rfl, hle, _⟩
  · have h2 := hby
    obtain ⟨⟨_, _, _, ao, cp, e, _, _⟩, _⟩ := h2
    cases hl : bs.length with
    | zero => exact ⟨none, 0, bs, by rw [hl], by rw [hl]; exact Nat.le_refl _, hby⟩
    | succ n => rw [hl] at e; cases e
  · have h2 := hby
    obtain ⟨⟨_, _, _, ao, cp, e, _, _⟩, _⟩ := h2
    cases e
    exact ⟨a, cap, bs, rfl, hle, hby⟩
/-- 'append([]byte{}, b...)' -/
theorem made0 (w : World) : (w.alloc (.cells #[] 5)).ownsRow w.heap.size 5 1 (.slice (some ⟨w.heap.size, 0, none⟩) 0 0) 0 [] :=
  World.ownsRow_made (base := w.heap.size) (e := 5) (size := 1) w #[] 0 (Nat.le_refl _) (by unfold maxLen; omega) rfl
set_option linter.unusedSimpArgs false in
set_option linter.unusedVariables false in
set_option maxRecDepth 100000 in
set_option maxHeartbeats 4000000 in
theorem captureReads_walk (v0 : Value) (w : World) (a0 : Arg Tryd.prog w 25 v0) (hs : Sums w) (hp : Pow10 w) :
    Calls Tryd.prog 4 #[v0] w fun e w' => e = .returned (.bool true) ∧ Below w.heap.size w w' := by
  obtain ⟨i0, hi, hz0, hz1, hz2⟩ := info_parts Tryd.info_u8
  obtain ⟨a, c, bs, rfl, hc, hby⟩ := arg_bytes a0
  clear a0
  have HLV := Lib.hid (lives_any w hs hp)
  have HS := Lib.hid hs
  obtain ⟨n, hn⟩ : ∃ n, bs.length = n := ⟨_, rfl⟩
  rw [hn] at hc hby ⊢
  have HBY := Lib.hid hby
  have HN := Lib.hid hn
  clear hs hp hby hn
  by_cases hbig : 16384 < n
  · have t1 : decide (16384 < n) = true := by simpa using hbig
    have t1' : decide ((16384 : Int) < (n : Int)) = true := by simp; omega
    go_enter Tryd.func4, Tryd.ntmps4
    go_wp2_with fail
    refine HLV.out.mono ?_
    rintro e w1 ⟨rfl, hB1⟩
    have HB1 := Lib.hid hB1
    clear hB1 HLV
    go_wp2
    go_ret
    exact ⟨rfl, HB1.out⟩
  have t1 : decide (16384 < n) = false := by simpa using hbig
  have t1' : decide ((16384 : Int) < (n : Int)) = false := by simp; omega
  go_enter Tryd.func4, Tryd.ntmps4
  go_wp2_with fail
  refine HLV.out.mono ?_
  rintro e w1 ⟨rfl, hB1⟩
  have hown1 := made0 w1
  have ha1 : Below w1.heap.size w1 (w1.alloc (.cells #[] 5)) := (Below.refl _ _).alloc (Nat.le_refl _) _
  have hB2 := hB1.trans (ha1.mono hB1.size)
  have hsr := (HBY.out.below hB2).1
  rw [HN.out] at hsr
  have HB1 := Lib.hid hB1
  have HB2 := Lib.hid hB2
  clear hB1 hB2 HLV
  go_wp2_with (at_builtin; refine wpList_append_all rfl _ _ 25 rfl w1.heap.size 5 i0 (.int .u8 0) 1 1 Tryd.underlying25 hi hz0 hz1 hz2 rfl (by decide) _ 0 _ rfl hown1 _ n (bcells bs) rfl hsr (by unfold maxLen; omega) (by omega) ha1.size ?_)
  intro v5 w5 hown5 hg5 _
  have hb5 := bytesC_of_own hown5 (by simpa using HN.out) HBY.out.2.2 (by omega)
  obtain ⟨hb5, a5, c5, hv5, hc5⟩ := hb5
  rw [HN.out] at hv5 hc5
  subst hv5
  have hB5 := HB2.out.grown hg5 HB2.out.size (fun q hq => by simp [Value.ownBlock] at hq; subst hq; exact HB1.out.size)
  have hrd := read_any a5 n c5 bs w5 (HS.out.keep hB5) hb5 HN.out hc5 (by omega)
  have HRD := Lib.hid hrd
  have HB5 := Lib.hid hB5
  clear hown1 ha1 hsr HB1 HB2 hown5 hg5 hb5 hrd hB5 hc5
  go_wp2_with fail
  refine HRD.out.mono ?_
  rintro e w6 ⟨v6, rfl, hcp6, hB6⟩
  have HB6 := Lib.hid (HB5.out.trans (hB6.mono HB5.out.size))
  have hrr := rread_any a n c bs w6 (HBY.out.below HB6.out) HN.out hc (by omega)
  have HRR := Lib.hid hrr
  have HC6 := Lib.hid hcp6.1
  clear hB6 HB5 HRD hrr hcp6
  go_wp2_with fail
  refine HRR.out.mono ?_
  rintro e w7 ⟨v7, rfl, hcp7, hB7⟩
  have HB7 := Lib.hid (HB6.out.trans (hB7.mono HB6.out.size))
  have hsm := same_any v6 v7 _ _ w7 (HC6.out.below hB7) hcp7.1
  have HSM := Lib.hid hsm
  obtain ⟨E, hE⟩ : ∃ E, (rdA bs).2.2 = E := ⟨_, rfl⟩
  obtain ⟨N, hN⟩ : ∃ N, (rdA bs).2.1 = N := ⟨_, rfl⟩
  rw [hE, hN]
  clear hB7 HB6 HRR hsm hcp7 HC6 hE hN
  go_wp2_with fail
  refine HSM.out.mono ?_
  rintro e w8 ⟨D, rfl, hD, hB8⟩
  obtain rfl : D = true := by first | exact hD.2 rfl | exact hD.2 trivial
  have HB8 := Lib.hid (HB7.out.trans (hB8.mono HB7.out.size))
  clear hB8 HB7 HSM hD
  go_wp2
  go_ret
  exact ⟨rfl, HB8.out⟩
end Go.Proofs.YtccknpdnapoboaaDoor
