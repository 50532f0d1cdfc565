/- capture: lives. -/
import Derived.Test.YtccknpdnapoboaaDoorCqA
import Derived.Test.YtccknpdnapoboaaDoorCpX
import Derived.Test.YtccknpdnapoboaaDoorCpF
namespace Go.Proofs.YtccknpdnapoboaaDoor
open Go.RowKit

def cp0 : Cp := ⟨7, 37, 0, 1, [10, 255]⟩
def c22 : List Nat := wrB [cp0] 1
theorem c22_err : cpW [cp0] 1 = 0 := by kernel_rfl
theorem c22_read : rdA c22 = ([cp0], 22, 0) := by kernel_rfl
theorem c22_len : c22.length = 22 := by kernel_rfl
theorem itoa_one (n : Nat) (h : n < 10) : Lib.itoa (n : Int) = [UInt8.ofNat (48 + n)] := by
  rw [Lib.itoa_nonneg, Lib.decDigits, dif_pos h]
theorem itoa_two (n : Nat) (h : ¬ n < 10) (h2 : n < 100) : Lib.itoa (n : Int) = [UInt8.ofNat (48 + n / 10), UInt8.ofNat (48 + n % 10)] := by
  rw [Lib.itoa_nonneg, Lib.decDigits, dif_neg h, Lib.decDigits, dif_pos (by omega)]
  rfl
theorem line0 : (lineS 7 37 0 1 [10, 255]).toList = [55, 32, 51, 55, 32, 48, 32, 103, 111, 111, 100, 32, 48, 97, 102, 102] := by
  unfold lineS
  rw [show (7 : Int) = ((7 : Nat) : Int) from rfl, show (37 : Int) = ((37 : Nat) : Int) from rfl, show (0 : Int) = ((0 : Nat) : Int) from rfl, itoa_one 7 (by decide), itoa_one 0 (by decide), itoa_two 37 (by decide) (by decide), ByteArray.toList_eq]
  rfl
theorem cps_nil (w : World) : Cps w (.slice none 0 0) [] := ⟨Nat.zero_le _, none, 0, rfl, fun h => absurd h (by simp)⟩
theorem cps_one {W : World} {i : Nat} {t : Cp} {a : Option Addr} {c : Nat} {ty : TypeId} (h : W.heap[i]? = some (.cells #[.int .i64 t.t, .int .i64 t.c, .int .i64 t.f, .int .i64 t.k, .slice a t.bs.length c] ty (0, 0)))
    (hb : BytesAt W (.slice a t.bs.length c) t.bs) : Cps W (.slice (some ⟨i, 0, none⟩) 1 1) [t] := by
  refine ⟨by unfold maxLen; simp, some ⟨i, 0, none⟩, 1, rfl, fun _ => ⟨i, 0, rfl, (Array.getElem?_eq_some_iff.1 h).1, fun k hk => ?_⟩⟩
  simp at hk
  subst hk
  exact ⟨a, c, cell_of_row _ _ 0 _ _ _ h, cell_of_row _ _ 1 _ _ _ h, cell_of_row _ _ 2 _ _ _ h, cell_of_row _ _ 3 _ _ _ h, cell_of_row _ _ 4 _ _ _ h, hb⟩
theorem write0 (v : Value) (w : World) (hs : Sums w) (h : Cps w v [cp0]) : Calls Tryd.prog 11 #[v] w fun e w' => ∃ a c, e = .returned (.tuple #[.slice a 22 c, .int .i64 0]) ∧ BytesC w' (.slice a 22 c) c22 ∧ Below w.heap.size w w' := by
  refine (write_any v [cp0] w hs h (by simp)).mono ?_
  rintro e w' ⟨v', rfl, hB, hok, _⟩
  have hb := hok c22_err
  obtain ⟨hb1, a, c, hv, _⟩ := hb
  change v' = .slice a c22.length c at hv
  rw [c22_len] at hv
  subst hv
  exact ⟨a, c, by rw [show cpW [cp0] [cp0].length = 0 from c22_err], ⟨hb1, a, c, by rw [c22_len], by rw [c22_len]; assumption⟩, hB⟩
theorem writeN (w : World) (hs : Sums w) : Calls Tryd.prog 11 #[.slice none 0 0] w fun e w' => ∃ v, e = .returned (.tuple #[v, .int .i64 0]) ∧ BytesAt w' v mag ∧ Below w.heap.size w w' := by
  refine (write_any _ [] w hs (cps_nil w) (by simp)).mono ?_
  rintro e w' ⟨v', rfl, hB, hok, _⟩
  exact ⟨v', rfl, (hok rfl).1, hB⟩
theorem read0 (a : Option Addr) (c : Nat) (w : World) (hs : Sums w) (h : BytesAt w (.slice a 22 c) c22) (hc : 22 ≤ c) : Calls Tryd.prog 14 #[.slice a 22 c] w fun e w' => ∃ b off cap xa xc, e = .returned (.tuple #[.slice (some ⟨b, off, none⟩) 1 cap, .int .i64 22, .int .i64 0]) ∧ b < w'.heap.size ∧
    Cells w' (blk b off 0 [.int .i64 7, .int .i64 37, .int .i64 0, .int .i64 1, .slice xa 2 xc]) ∧ BytesAt w' (.slice xa 2 xc) [10, 255] ∧ Below w.heap.size w w' := by
  refine (read_any a 22 c c22 w hs h c22_len hc (by decide)).mono ?_
  rw [c22_read]
  rintro e w' ⟨v, rfl, ⟨⟨_, ao, cap, rfl, hx⟩, _⟩, hB⟩
  obtain ⟨b, off, rfl, hb, hk⟩ := hx (by simp)
  obtain ⟨xa, xc, q0, q1, q2, q3, q4, hby⟩ := hk 0 (by simp)
  exact ⟨b, off, cap, xa, xc, rfl, hb, ⟨by simpa [cp0] using q0, by simpa [cp0] using q1, by simpa [cp0] using q2, by simpa [cp0] using q3, by simpa [cp0] using q4, trivial⟩, hby, hB⟩
theorem Pow10.keep {w w' : World} (h : Pow10 w) (hb : Below w.heap.size w w') : Pow10 w' := fun w2 h2 => h w2 (hb.trans (h2.mono hb.size))
theorem strB22 : (strB mag).toList = [65, 73, 82, 49] := strMag
set_option linter.unusedSimpArgs false in
set_option linter.unusedVariables false in
set_option maxRecDepth 100000 in
set_option maxHeartbeats 4000000 in
theorem lives_any (w : World) (hs : Sums w) (hp : Pow10 w) : Calls Tryd.prog 9 #[] w fun e w' => e = .returned (.bool true) ∧ Below w.heap.size w w' := by
  obtain ⟨i0, hi, hz0, hz1, hz2⟩ := info_parts Tryd.info_u8
  have HS := Lib.hid hs
  have HP := Lib.hid hp
  have hc10 : Below w.heap.size w w := Below.refl _ _
  clear hs hp
  go_enter Tryd.func9, Tryd.ntmps9
  go_wp2_with fail
  refine (writeN w HS.out).mono ?_
  rintro e w1 ⟨v1, rfl, hb1, hB1⟩
  have HB1 := Lib.hid hB1
  have HM1 := Lib.hid hb1
  clear hB1 hb1 hc10
  have hn1 := heap_alloc_new w1 (.cells #[.int .u8 10, .int .u8 255] 5)
  have ha1 : Below w1.heap.size w1 (w1.alloc (.cells #[.int .u8 10, .int .u8 255] 5)) := (Below.refl _ _).alloc (Nat.le_refl _) _
  have hby1 : BytesAt (w1.alloc (.cells #[.int .u8 10, .int .u8 255] 5)) (.slice (some ⟨w1.heap.size, 0, none⟩) 2 2) [10, 255] :=
    ⟨⟨by unfold maxLen; simp, by simp [bcells], bcells_one _, some ⟨w1.heap.size, 0, none⟩, 2, rfl, fun h => (by cases h), fun _ => ⟨w1.heap.size, 0, rfl, by simp, fun j u hj => by
      rw [Nat.zero_add]
      exact cellNew w1 _ _ j u (by simpa [bcells] using hj)⟩⟩, by decide, by decide⟩
  obtain ⟨w2, hw2⟩ : ∃ w2, w1.alloc (.cells #[.int .u8 10, .int .u8 255] 5) = w2 := ⟨_, rfl⟩
  have hs2 : w2.heap.size = w1.heap.size + 1 := by rw [← hw2]; simp
  rw [hw2] at ha1 hby1
  have hn2 := heap_alloc_new w2 (.cells #[.int .i64 7, .int .i64 37, .int .i64 0, .int .i64 1, .slice (some ⟨w1.heap.size, 0, none⟩) 2 2] 35)
  have ha2 : Below w2.heap.size w2 (w2.alloc (.cells #[.int .i64 7, .int .i64 37, .int .i64 0, .int .i64 1, .slice (some ⟨w1.heap.size, 0, none⟩) 2 2] 35)) := (Below.refl _ _).alloc (Nat.le_refl _) _
  have hcp := cps_one (t := cp0) hn2 (hby1.below ha2)
  rw [hs2] at hcp
  have hB2 := HB1.out.trans (ha1.mono HB1.out.size)
  have hB3 := hB2.trans (ha2.mono hB2.size)
  rw [← hw2] at hcp hB3
  have hwr := write0 _ _ (HS.out.keep hB3) hcp
  have HWR := Lib.hid hwr
  have hm3 := (HM1.out.below ha1).below ha2
  rw [← hw2] at hm3
  have HM3 := Lib.hid hm3
  have HB3 := Lib.hid hB3
  clear hn1 ha1 hby1 hw2 hs2 hn2 ha2 hcp hB2 hB3 hwr hm3 HM1
  go_wp2_with fail
  refine HWR.out.mono ?_
  rintro e w4 ⟨a4, c4, rfl, hb4, hB4⟩
  have HM4 := Lib.hid (HM3.out.below hB4)
  have HB4 := Lib.hid (HB3.out.trans (hB4.mono HB3.out.size))
  have hown4 := World.ownsRow_made (base := w4.heap.size) (e := 5) (size := 1) w4 #[] 0 (Nat.le_refl _) (by unfold maxLen; omega) rfl
  have ha4 : Below w4.heap.size w4 (w4.alloc (.cells #[] 5)) := (Below.refl _ _).alloc (Nat.le_refl _) _
  have hsr4 := (hb4.1.below ha4).1
  rw [c22_len] at hsr4
  have hB5 := HB4.out.trans (ha4.mono HB4.out.size)
  have HB5 := Lib.hid hB5
  have hl4 := hb4.1.2.2
  have HL4 := Lib.hid hl4
  clear hB4 HB3 HWR hb4 hB5 hl4
  go_wp2_with (at_builtin; refine wpList_append_all rfl _ _ 25 rfl w4.heap.size 5 i0 (.int .u8 0) 1 1 Tryd.underlying25 hi hz0 hz1 hz2 rfl (by decide) _ 0 _ rfl hown4 _ 22 (bcells c22) rfl hsr4 (by unfold maxLen; omega) (by omega) ha4.size ?_)
  intro v5 w5 hown5 hg5 _
  have hb5 := bytesC_of_own hown5 c22_len HL4.out (by omega)
  obtain ⟨hb5, a5, c5, hv5, hc5⟩ := hb5
  rw [c22_len] at hv5 hc5
  subst hv5
  have hB6 := HB5.out.grown hg5 HB5.out.size (fun q hq => by simp [Value.ownBlock] at hq; subst hq; exact HB4.out.size)
  have hm5 := (HM4.out.below ha4).grown hg5 (by
    intro e
    rcases HM4.out.nil_or with h | ⟨b, e1, e2⟩
    · cases h
    · rw [e1] at e; simp [Value.ownBlock] at e; omega)
  have HM5 := Lib.hid hm5
  have hrd := read0 a5 c5 w5 (HS.out.keep hB6) hb5 hc5
  have HB6 := Lib.hid hB6
  have HRD := Lib.hid hrd
  clear hm5 HM4 hown4 ha4 hsr4 HB5 HL4 hown5 hg5 hb5 hB6 hrd
  go_wp2_with fail
  refine HRD.out.mono ?_
  rintro e w7 ⟨b, off, cap, xa, xc, rfl, hbl, hcells, hby7, hB7⟩
  have HB7 := Lib.hid (HB6.out.trans (hB7.mono HB6.out.size))
  have hm7 := HM5.out.below hB7
  have hcv := run_convert_b hm7 25 5 9 Tryd.underlying25 Tryd.underlying5 Tryd.underlying9
  have hqL := strMag
  have hmS : ((strB mag).toList == [65, 73, 82, 49]) = true := by rw [strMag]; rfl
  obtain ⟨f0, f1, f2, f3, f4, _⟩ := hcells
  simp only [Nat.add_zero] at f0 f1 f2 f3 f4
  have hli := line_any 7 37 0 1 xa 2 xc [10, 255] w7 (HP.out.keep HB7.out) hby7 (by decide) (by unfold i64b; decide) (by unfold i64b; decide) (by unfold i64b; decide)
  obtain ⟨LL, hLL⟩ : ∃ x, lineS 7 37 0 1 [10, 255] = x := ⟨_, rfl⟩
  have hl0 := line0
  rw [hLL] at hli hl0
  have hl1 : (LL.toList == [55, 32, 51, 55, 32, 48, 32, 103, 111, 111, 100, 32, 48, 97, 102, 102]) = true := by rw [hl0]; rfl
  have HLI := Lib.hid hli
  clear hB7 hm7 hqL hli hLL hl0 HRD HM5 HB6 hby7
  go_wp2_with fail
  refine HLI.out.mono ?_
  rintro e w8 ⟨rfl, hB8⟩
  have HB8 := Lib.hid (HB7.out.trans (hB8.mono HB7.out.size))
  clear hB8 HB7 HLI HM3 hcv f0 f1 f2 f3 f4
  go_wp2
  go_ret
  exact ⟨rfl, HB8.out⟩
end Go.Proofs.YtccknpdnapoboaaDoor
