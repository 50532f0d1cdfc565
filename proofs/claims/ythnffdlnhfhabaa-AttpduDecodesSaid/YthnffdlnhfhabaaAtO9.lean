/- attpdu: a list out of bytes: kind 9. -/
import Derived.Test.YthnffdlnhfhabaaAtO
namespace Go.Proofs.Ythnffdlnhfhabaa
open Go.RowKit

set_option linter.unusedSimpArgs false in
set_option linter.unusedVariables false in
set_option maxRecDepth 100000 in
set_option maxHeartbeats 4000000 in
theorem items_9 (W0 : World) (B : Nat) (ak : Int) (ha la hi lo : Nat) (of mt co : Int) (cm : Bool) (a1 : Option Addr) (n1 c1 : Nat) (a : Option Addr) (n c : Nat) (bs : List Nat) (w : World) (hW : Below W0.heap.size W0 w) (hB : W0.heap.size ≤ B) (hb : Blk w B 29 [.int .i64 9, .int .i64 ak, .int .u16 ha, .int .u16 la, .int .u64 hi, .int .u64 lo, .int .i64 of, .int .i64 mt, .int .i64 co, .bool cm, .slice a1 n1 c1, .slice none 0 0]) (h : BytesAt W0 (.slice a n c) bs) (hn : bs.length = n) (hc : n ≤ c) (hm : n ≤ 1000) :
    Calls Try.prog 60 #[.pointer (some ⟨B, 0, none⟩), .slice a n c] w fun e w' => ∃ (E : Int) (m : Nat) (L : Value) (its : List It), e = .returned (.int .i64 E) ∧ Below W0.heap.size W0 w' ∧ E = lsE 9 bs ∧ (E = 0 → its.map dat = lsL 9 bs) ∧
      Blk w' B 29 [.int .i64 9, .int .i64 ak, .int .u16 ha, .int .u16 la, .int .u64 hi, .int .u64 lo, .int .i64 of, .int .i64 mt, .int .i64 co, .bool cm, .slice a1 n1 c1, L] ∧ its.length = m ∧ m ≤ 1000 ∧ w'.ownsRow W0.heap.size 46 5 L m (its.flatMap itc) ∧ ∀ t ∈ its, ItOwn w' W0.heap.size t := by
  obtain ⟨i0, hi0, hz0, hz1, hz2⟩ := info_parts Try.info_item
  have hnil : w.ownsRow W0.heap.size 46 5 (.slice none 0 0) 0 ([].flatMap itc) := by simpa using World.ownsRow_nil w W0.heap.size 46 5
  have TO := hb.cells
  have hOpen := TO
  simp only [Cells, blk, List.cons_append, List.nil_append, and_true, Nat.reduceAdd, Nat.add_zero, Nat.zero_add] at hOpen
  obtain ⟨y0, y1, y2, y3, y4, y5, y6, y7, y8, y9, yA, yB⟩ := hOpen
  clear TO
  cases bs with
  | nil =>
    obtain rfl : 0 = n := hn
    go_enter Try.func60, Try.ntmps60
    go_wp2
    go_ret
    exact ⟨3, 0, _, [], rfl, hW, rfl, fun h => (by cases h), hb, rfl, Nat.zero_le _, hnil, by simp⟩
  | cons x r =>
    have hnp : 0 < n := by rw [← hn]; simp
    have g0 : ((n : Int) == 0) = false := by simp; omega
    obtain ⟨hsr, _, hlt⟩ := h
    have HBY := Lib.hid (show BytesAt W0 (.slice a n c) (x :: r) from ⟨hsr, by assumption, hlt⟩)
    obtain ⟨_, _, _, ao, cap, e0, _, hcell⟩ := hsr
    rw [hn] at e0
    cases e0
    obtain ⟨b, off, rfl, hbl, hcs⟩ := hcell (by simp)
    have hx := hlt x (by simp)
    have k0 := (hW.cell (p := ⟨b, off, none⟩) hbl).trans (by have := hcs 0 (.int .u8 (x : Int)) rfl; simpa using this)
    have hrl : r.length = n - 1 := by simp at hn; omega
    obtain ⟨a2, c2, hby2, hc2, hr1⟩ := bytes_from W0 _ n c 1 _ HBY.out hn hc (by omega)
    simp only [List.drop_succ_cons, List.drop_zero] at hby2
    have hr1' : ∀ W, (Instr.slice 26 (.slice (some ⟨b, off, none⟩) n c) (some (.int .i64 1)) none none).run Try.prog W = .ok (.slice a2 (n - 1) c2) W := hr1
    obtain ⟨n2, hn2⟩ : ∃ n2, n - 1 = n2 := ⟨_, rfl⟩
    simp only [hn2] at hby2 hc2 hr1' hrl
    have i0' : (0 : Int) < (n : Int) := by omega
    have i1 : (0 : Int) ≤ (x : Int) := by omega
    have i2 : (x : Int) < 256 := by omega
    have i3 : IntKind.i64.wrap (x : Int) = (x : Int) := IntWalk.i64_in _ (by omega)
    have HLT := Lib.hid (fun y (hy : y ∈ r) => hlt y (by simp [hy]))
    have HBY2 := Lib.hid hby2
    have HRL := Lib.hid hrl
    clear hcell hcs hr1 hlt hby2 hrl hn
    by_cases hbad : x < 2
    · have g1 : decide ((x : Int) < 2) = true := by simp; omega
      have g1' : decide (x < 2) = true := by simpa using hbad
      have hls : lsN 9 x = none := by simp [lsN, hbad]
      go_enter Try.func60, Try.ntmps60
      go_wp2
      go_ret
      exact ⟨2, 0, _, [], rfl, hW, by simp [lsE, hls], fun h => (by cases h), hb, rfl, Nat.zero_le _, hnil, by simp⟩
    · have g1 : decide ((x : Int) < 2) = false := by simp; omega
      have g1' : decide (x < 2) = false := by simpa using hbad
      have hls : lsN 9 x = some x := by simp [lsN, hbad]
      cases r with
      | nil =>
        obtain rfl : 0 = n2 := HRL.out
        go_enter Try.func60, Try.ntmps60
        go_wp2
        go_ret
        exact ⟨3, 0, _, [], rfl, hW, by simp [lsE, hls], fun h => (by cases h), hb, rfl, Nat.zero_le _, hnil, by simp⟩
      | cons z zs =>
        have hn20 : 0 < n2 := by rw [← HRL.out]; simp
        have g2 : ((n2 : Int) == 0) = false := by simp; omega
        have g3 : ((x : Int) == 0) = false := by first | rfl | (simp; omega)
        obtain ⟨r, hr⟩ : ∃ r, z :: zs = r := ⟨_, rfl⟩
        have hrne : r ≠ [] := by rw [← hr]; simp
        rw [hr] at HLT HBY2 HRL ⊢
        clear hr
        by_cases hmod : n2 % x = 0
        · have g4 : (((n2 % x : Nat) : Int) != 0) = false := by rw [hmod]; rfl
          have g4n : (((n2 : Int) % (x : Int)) != 0) = false := g4
          have hlse : lsE 9 (x :: r) = erL 9 x r 0 (r.length / x) := by simp [lsE, hls, hrne, HRL.out, hmod]
          have hlsl : lsL 9 (x :: r) = (List.range (r.length / x)).map fun j => dtD 9 (chn x r j) := by simp [lsL, hls, hrne, HRL.out, hmod]
          have hsm : 2 ≤ x ∧ x ≤ 255 ∧ 2 ≤ x := by omega
          obtain ⟨hs2, hs255, hs4⟩ := hsm
          obtain ⟨N, hN⟩ : ∃ N, r.length / x = N := ⟨_, rfl⟩
          rw [hN] at hlse hlsl
          have hNs : n2 = N * x := by rw [← hN, HRL.out]; exact (Nat.div_mul_cancel (Nat.dvd_of_mod_eq_zero hmod)).symm
          have hNb : N ≤ 1000 := by rw [← hN, HRL.out]; exact Nat.le_trans (Nat.div_le_self _ _) (by omega)
          have HN := Lib.hid hN
          have HNS := Lib.hid hNs
          have HLSE := Lib.hid hlse
          have HLSL := Lib.hid hlsl
          have HB := Lib.hid hb
          have HNIL := Lib.hid hnil
          have HW := Lib.hid hW
          clear hN hNs hlse hlsl hb hnil hW
          go_enter Try.func60, Try.ntmps60
          go_wp2
          try simp only [g1]
          try simp only [g4n]
          clear y0 y1 y2 y3 y4 y5 y6 y7 y8 y9 yA yB
          go_loopw [1, 6, 7] (fun b _ _ wr => ∃ (j : Nat) (a' : Option Addr) (n' c' : Nat) (L : Value) (its : List It), b = .slice a' n' c' ∧ j ≤ N ∧ Hid (n' = (N - j) * x) ∧ n' ≤ c' ∧ n' ≤ 1000 ∧ Hid (BytesAt W0 (.slice a' n' c') (r.drop (j * x))) ∧ its.length = j ∧ Hid (erL 9 x r 0 N = erL 9 x r j (N - j)) ∧ Hid (its.map dat = (List.range j).map fun j => dtD 9 (chn x r j)) ∧ Blk wr B 29 [.int .i64 9, .int .i64 ak, .int .u16 ha, .int .u16 la, .int .u64 hi, .int .u64 lo, .int .i64 of, .int .i64 mt, .int .i64 co, .bool cm, .slice a1 n1 c1, L] ∧ wr.ownsRow W0.heap.size 46 5 L j (its.flatMap itc) ∧ Hid (∀ t ∈ its, ItOwn wr W0.heap.size t) ∧ Below W0.heap.size W0 wr) (fun b _ _ _ => slen b)
          case atStart => exact ⟨0, a2, n2, c2, .slice none 0 0, [], rfl, Nat.zero_le _, Lib.hid (by rw [HNS.out]; simp), hc2, by omega, Lib.hid (by simpa using HBY2.out), rfl, Lib.hid rfl, Lib.hid rfl, HB.out, HNIL.out, Lib.hid (by simp), HW.out⟩
          case round =>
            obtain ⟨j, a', n', c', L, its, rfl, hj, hn', hc', hm', hby, hjl, herl, hmap, bP, hown, hio, hBr⟩ := hrel
            by_cases hlt : j < N
            · have hn0 : n' = (N - j) * x := hn'.out
              have hn1 : x ≤ n' := by rw [hn0]; exact Nat.le_mul_of_pos_left _ (by omega)
              have hn2' : n' - x = (N - (j + 1)) * x := by rw [hn0, show N - j = (N - (j + 1)) + 1 by omega, Nat.succ_mul]; omega
              have q1 : decide ((0 : Int) < (n' : Int)) = true := by simp; omega
              have q1' : decide (0 < n') = true := by simp; omega
              have hjs : r.length = N * x := by rw [HRL.out, HNS.out]
              have hjN : j * x + x ≤ N * x := by rw [← Nat.succ_mul]; exact Nat.mul_le_mul_right _ hlt
              have hdl : (r.drop (j * x)).length = n' := by rw [List.length_drop, hjs, hn0, Nat.sub_mul]
              obtain ⟨hch, hru⟩ := bytes_upto W0 a' n' c' x _ hby.out hdl hc' hn1
              replace hru : ∀ W, (Instr.slice 26 (.slice a' n' c') none (some (.int .i64 x)) none).run Try.prog W = .ok (.slice a' x c') W := hru
              obtain ⟨a5, c5, hby5, hc5, hr5⟩ := bytes_from W0 a' n' c' x _ hby.out hdl hc' hn1
              rw [List.drop_drop, show j * x + x = (j + 1) * x by rw [Nat.succ_mul]] at hby5
              have hchl : (chn x r j).length = x := chn_len x r j (by rw [hjs]; exact hjN)
              have hit := fun W (hW : Below W0.heap.size W0 W) => item_any 9 a' x c' (chn x r j) W (hch.below hW) hchl (by omega) hs2 (fun h => absurd h (by decide)) (by omega)
              have hst := erL_step 9 x r j N hlt
              obtain ⟨ER, hER⟩ : ∃ E, erD 9 (chn x r j) = E := ⟨_, rfl⟩
              simp only [hER] at hit hst
              have hit2 : ∀ W, Below W0.heap.size W0 W → Calls Try.prog 95 #[.int .i64 9, .slice a' x c'] W fun e w' => ∃ t : It, dat t = dtD 9 (chn x r j) ∧ e = .returned (.tuple #[.agg #[.int .u16 t.ha, .int .u16 t.la, .int .u64 t.hi, .int .u64 t.lo, .slice t.a t.n t.c], .int .i64 ER]) ∧ ItOwn w' W.heap.size t ∧ Below W.heap.size W w' := fun W hW => (hit W hW).mono fun e w' ⟨a6, c6, h1, h2, h3⟩ => ⟨itD 9 (chn x r j) a6 c6, rfl, h1, h2, h3⟩
              replace hr5 : ∀ W, (Instr.slice 26 (.slice a' n' c') (some (.int .i64 x)) none none).run Try.prog W = .ok (.slice a5 (n' - x) c5) W := hr5
              obtain ⟨n5, hn5⟩ : ∃ n5, n' - x = n5 := ⟨_, rfl⟩
              rw [hn5] at hn2' hby5 hc5 hr5
              have HIT := Lib.hid hit2
              have HST := Lib.hid hst
              have HBY5 := Lib.hid hby5
              have HN5 := Lib.hid hn2'
              have hn5' : n5 ≤ 1000 := by omega
              have hn5m : n5 < n' := by omega
              have HBr := Lib.hid hBr
              have HBP := Lib.hid bP
              have HOWN := Lib.hid hown
              have hsize : (x : Int) ≤ (n' : Int) := by omega
              have hlB := bP.lt
              have kd := bP.cell (j := 0) rfl
              clear hit hit2 hst hby5 hn2' hn0 hjs hjN hdl hch hchl hER hby hn' hBr hown bP hn5
              go_upto_region 20 with fail
              refine wp_region_held_drew (S := (fun W' : World => Below wr.heap.size wr W' ∧ wr.heap.size ≤ W'.heap.size ∧ Cells W' (blk B 0 0 [.int .i64 9]))) (by kernel_rfl) (⟨(Below.refl _ _).drew, Nat.le_refl _, ⟨kd, trivial⟩⟩) (fun hHeld => ?_)
              generalize World.drew _ = wd at hHeld ⊢
              have hz := hHeld.2.1
              refine wpAnyH_take (i := 0) (oi := _) (v := ?_) (by rw [List.getElem?_toArray]; rfl) (by kernel_rfl) (by kernel_rfl) (by kernel_rfl) (by exact fun _ _ _ h => h) (Or.inl ⟨by rfl, ?_⟩) (by assumption) ?_
              rotate_left
              · intro w hSw
                try simp only [Cells, blk, List.cons_append, List.nil_append, and_true, Nat.reduceAdd, Nat.add_zero, Nat.zero_add] at hSw
                go_simp
                try with_reducible rfl
              simp only [Act.put, List.setIfInBounds_toArray, List.set_cons_zero, List.set_cons_succ]
              refine wpAnyH_take (i := 1) (oi := _) (v := ?_) (by rw [List.getElem?_toArray]; rfl) (by kernel_rfl) (by kernel_rfl) (by kernel_rfl) (by exact fun _ _ _ h => h) (Or.inl ⟨by rfl, ?_⟩) (by assumption) ?_
              rotate_left
              · intro w hSw
                try simp only [Cells, blk, List.cons_append, List.nil_append, and_true, Nat.reduceAdd, Nat.add_zero, Nat.zero_add] at hSw
                go_simp
                try with_reducible rfl
              simp only [Act.put, List.setIfInBounds_toArray, List.set_cons_zero, List.set_cons_succ]
              refine wpAnyH_take (i := 2) (oi := _) (v := ?_) (by rw [List.getElem?_toArray]; rfl) (by kernel_rfl) (by kernel_rfl) (by kernel_rfl) (by exact fun _ _ _ h => h) (Or.inl ⟨by rfl, ?_⟩) (by assumption) ?_
              rotate_left
              · intro w hSw
                try simp only [Cells, blk, List.cons_append, List.nil_append, and_true, Nat.reduceAdd, Nat.add_zero, Nat.zero_add] at hSw
                go_simp
                try with_reducible rfl
              simp only [Act.put, List.setIfInBounds_toArray, List.set_cons_zero, List.set_cons_succ]
              refine wpAnyH_take (i := 3) (oi := _) (v := ?_) (by rw [List.getElem?_toArray]; rfl) (by kernel_rfl) (by kernel_rfl) (by kernel_rfl) (by exact fun _ _ _ h => h) (Or.inl ⟨by rfl, ?_⟩) (by assumption) ?_
              rotate_left
              · intro w hSw
                try simp only [Cells, blk, List.cons_append, List.nil_append, and_true, Nat.reduceAdd, Nat.add_zero, Nat.zero_add] at hSw
                go_simp
                try with_reducible rfl
              simp only [Act.put, List.setIfInBounds_toArray, List.set_cons_zero, List.set_cons_succ]
              refine wpAnyH_take (i := 4) (oi := _) (v := ?_) (by rw [List.getElem?_toArray]; rfl) (by kernel_rfl) (by kernel_rfl) (by kernel_rfl) (by exact fun _ _ _ h => h) (Or.inl ⟨by rfl, ?_⟩) (by assumption) ?_
              rotate_left
              · intro w hSw
                try simp only [Cells, blk, List.cons_append, List.nil_append, and_true, Nat.reduceAdd, Nat.add_zero, Nat.zero_add] at hSw
                go_simp
                try with_reducible rfl
              simp only [Act.put, List.setIfInBounds_toArray, List.set_cons_zero, List.set_cons_succ]
              refine wpAnyH_take (i := 5) (oi := _) (v := ?_) (by rw [List.getElem?_toArray]; rfl) (by kernel_rfl) (by kernel_rfl) (by kernel_rfl) (by exact fun _ _ _ h => h) (Or.inl ⟨by rfl, ?_⟩) (by assumption) ?_
              rotate_left
              · intro w hSw
                try simp only [Cells, blk, List.cons_append, List.nil_append, and_true, Nat.reduceAdd, Nat.add_zero, Nat.zero_add] at hSw
                go_simp
                try with_reducible rfl
              simp only [Act.put, List.setIfInBounds_toArray, List.set_cons_zero, List.set_cons_succ]
              refine wpAnyH_take (i := 6) (oi := _) (v := ?_) (by rw [List.getElem?_toArray]; rfl) (by kernel_rfl) (by kernel_rfl) (by kernel_rfl) (by exact fun _ _ _ h => h) (Or.inl ⟨by rfl, ?_⟩) (by assumption) ?_
              rotate_left
              · intro w hSw
                try simp only [Cells, blk, List.cons_append, List.nil_append, and_true, Nat.reduceAdd, Nat.add_zero, Nat.zero_add] at hSw
                go_simp
                try with_reducible rfl
              simp only [Act.put, List.setIfInBounds_toArray, List.set_cons_zero, List.set_cons_succ]
              refine wpAnyH_ready (rs := [7, 11]) (by kernel_rfl) (by simp) (AllReadyH.cons (o := _) (by rw [List.getElem?_toArray]; rfl) (fun K hK => ?_) (AllReadyH.cons (o := _) (by rw [List.getElem?_toArray]; rfl) (fun K hK => ?_) AllReadyH.nil))
              · go_simp
                go_at_call 95
                refine (HIT.out _ (HBr.out.trans (hHeld.1.mono HBr.out.size))).mono ?_
                rintro e wb ⟨⟨tha, tla, thi, tlo, ta, tn, tc, tbs⟩, hdat, rfl, hto, hBb⟩
                have hto := hto.base (Nat.le_trans HBr.out.size hHeld.2.1)
                try replace bA := bA.below hBb
                refine hK.out _ _ (⟨hHeld.1.trans (hBb.mono hHeld.2.1), Nat.le_trans hHeld.2.1 hBb.size, hHeld.2.2.keep hBb⟩) (fun hHeld2 => ?_)
                replace hHeld := hHeld2
                clear hK K hHeld2
                try simp only [Act.put, List.setIfInBounds_toArray, List.set_cons_zero, List.set_cons_succ]
                refine wpAnyH_take (i := 8) (oi := _) (v := ?_) (by rw [List.getElem?_toArray]; rfl) (by kernel_rfl) (by kernel_rfl) (by kernel_rfl) (by exact fun _ _ _ h => h) (Or.inl ⟨by rfl, ?_⟩) (by assumption) ?_
                rotate_left
                · intro w hSw
                  try simp only [Cells, blk, List.cons_append, List.nil_append, and_true, Nat.reduceAdd, Nat.add_zero, Nat.zero_add] at hSw
                  go_simp
                  try with_reducible rfl
                simp only [Act.put, List.setIfInBounds_toArray, List.set_cons_zero, List.set_cons_succ]
                refine wpAnyH_take (i := 9) (oi := _) (v := ?_) (by rw [List.getElem?_toArray]; rfl) (by kernel_rfl) (by kernel_rfl) (by kernel_rfl) (by exact fun _ _ _ h => h) (Or.inl ⟨by rfl, ?_⟩) (by assumption) ?_
                rotate_left
                · intro w hSw
                  try simp only [Cells, blk, List.cons_append, List.nil_append, and_true, Nat.reduceAdd, Nat.add_zero, Nat.zero_add] at hSw
                  go_simp
                  try with_reducible rfl
                simp only [Act.put, List.setIfInBounds_toArray, List.set_cons_zero, List.set_cons_succ]
                refine wpAnyH_take (i := 10) (oi := _) (v := ?_) (by rw [List.getElem?_toArray]; rfl) (by kernel_rfl) (by kernel_rfl) (by kernel_rfl) (by exact fun _ _ _ h => h) (Or.inl ⟨by rfl, ?_⟩) (by assumption) ?_
                rotate_left
                · intro w hSw
                  try simp only [Cells, blk, List.cons_append, List.nil_append, and_true, Nat.reduceAdd, Nat.add_zero, Nat.zero_add] at hSw
                  go_simp
                  try with_reducible rfl
                simp only [Act.put, List.setIfInBounds_toArray, List.set_cons_zero, List.set_cons_succ]
                refine wpAnyH_ready (rs := [11]) (by kernel_rfl) (by simp) (AllReadyH.cons (o := _) (by rw [List.getElem?_toArray]; rfl) (fun K hK => ?_) AllReadyH.nil)
                go_simp
                generalize hX : World.alloc _ _ = X2
                have bA := blk_of_alloc hX
                have hBX := below_of_alloc hX
                have hIl := hHeld.2.1
                try replace hto := hto.below hBX
                clear hX
                refine hK.out _ _ (⟨hHeld.1.trans (hBX.mono hHeld.2.1), Nat.le_trans hHeld.2.1 hBX.size, hHeld.2.2.keep hBX⟩) (fun hHeld2 => ?_)
                replace hHeld := hHeld2
                clear hK K hHeld2
                try simp only [Act.put, List.setIfInBounds_toArray, List.set_cons_zero, List.set_cons_succ]
                clear hBX
                refine wpAnyH_ready (rs := [12]) (by kernel_rfl) (by simp) (AllReadyH.cons (o := _) (by rw [List.getElem?_toArray]; rfl) (fun K hK => ?_) AllReadyH.nil)
                refine step_id ?_
                obtain ⟨u0, u1, u2, u3, u4, _⟩ := bA.cells
                simp only [Nat.zero_add, Nat.add_zero] at u0 u1 u2 u3 u4
                have g5 := bA.frozen 0
                have g6 := bA.frozen 1
                have g7 := bA.frozen 2
                have g8 := bA.frozen 3
                have g9 := bA.frozen 4
                go_simp
                obtain ⟨bI, hS1, hS2⟩ := set5 bA (.int .u16 tha) (.int .u16 tla) (.int .u64 thi) (.int .u64 tlo) (.slice ta tn tc)
                have hto := hS1 _ _ (by decide) hto
                have hBY := hS2 _ _ hIl hHeld.1
                generalize hY : World.setCell _ _ _ = Y at bI hto hBY ⊢
                clear hY hS1 hS2 u0 u1 u2 u3 u4 g5 g6 g7 g8 g9
                refine hK.out _ _ (⟨hBY, hBY.size, ⟨(hBY.cell (p := ⟨B, 0, none⟩) hlB).trans kd, trivial⟩⟩) (fun hHeld2 => ?_)
                replace hHeld := hHeld2
                clear hK K hHeld2
                try simp only [Act.put, List.setIfInBounds_toArray, List.set_cons_zero, List.set_cons_succ]
                refine wpAnyH_take (i := 13) (oi := _) (v := ?_) (by rw [List.getElem?_toArray]; rfl) (by kernel_rfl) (by kernel_rfl) (by kernel_rfl) (by exact fun _ _ _ h => h) (Or.inl ⟨by rfl, ?_⟩) (by assumption) ?_
                rotate_left
                · intro w hSw
                  try simp only [Cells, blk, List.cons_append, List.nil_append, and_true, Nat.reduceAdd, Nat.add_zero, Nat.zero_add] at hSw
                  go_simp
                  try with_reducible rfl
                simp only [Act.put, List.setIfInBounds_toArray, List.set_cons_zero, List.set_cons_succ]
                refine wpAnyH_done (by kernel_rfl) ?_ _
                have bP := HBP.out.below hBY
                have hown := own_below HOWN.out hBY
                have hioY := fun t ht => (hio.out t ht).below hBY
                have hB5 := HBr.out.trans (hBY.mono HBr.out.size)
                have hBl := bP.lt
                clear hHeld hBY HBP HOWN HBr kd hlB hz bA hBb hIl
                by_cases hE : ER = 0
                · subst hE
                  rw [if_pos rfl] at HST
                  have TO := bP.cells
                  have hOpen := TO
                  simp only [Cells, blk, List.cons_append, List.nil_append, and_true, Nat.reduceAdd, Nat.add_zero, Nat.zero_add] at hOpen
                  obtain ⟨y0, y1, y2, y3, y4, y5, y6, y7, y8, y9, yA, yB⟩ := hOpen
                  have TI := bI.cells
                  have hOpen := TI
                  simp only [Cells, blk, List.cons_append, List.nil_append, and_true, Nat.reduceAdd, Nat.add_zero, Nat.zero_add] at hOpen
                  obtain ⟨u0, u1, u2, u3, u4⟩ := hOpen
                  have f11 := bP.frozen 11
                  clear TO TI
                  go_upto_region 23 with fail
                  have hYs := hB5.size
                  have hnews : ∀ (q : Nat) (u : Value), (itc ⟨tha, tla, thi, tlo, ta, tn, tc, tbs⟩)[q]? = some u → (Y.alloc (.cells #[.int .u16 tha, .int .u16 tla, .int .u64 thi, .int .u64 tlo, .slice ta tn tc] 46)).cell? ((⟨Y.heap.size, 0, none⟩ : Addr).add q) = some u := fun q u hq => by rw [addr_add, Nat.zero_add]; exact cellNew _ _ _ q u (by simpa [itc] using hq)
                  have bPD := (bP.alloc (.cells #[.int .u16 tha, .int .u16 tla, .int .u64 thi, .int .u64 tlo, .slice ta tn tc] 46)).drew
                  have hownD : (Y.alloc (.cells #[.int .u16 tha, .int .u16 tla, .int .u64 thi, .int .u64 tlo, .slice ta tn tc] 46)).drew.ownsRow W0.heap.size 46 5 L j (its.flatMap itc) := hown.alloc _
                  have hBD : Below Y.heap.size Y (Y.alloc (.cells #[.int .u16 tha, .int .u16 tla, .int .u64 thi, .int .u64 tlo, .slice ta tn tc] 46)).drew := ((Below.refl _ _).alloc (Nat.le_refl _) _).drew
                  generalize hYD : (Y.alloc (.cells #[.int .u16 tha, .int .u16 tla, .int .u64 thi, .int .u64 tlo, .slice ta tn tc] 46)).drew = YD at bPD hownD hBD
                  have hAft : ∀ w6, YD.grownBy w6 L.ownBlock → w6.cell? ⟨B, 11, none⟩ = some L ∧ w6.frozen? ⟨B, 11, none⟩ = false := fun w6 hg => by
                    have b6 := bPD.kept hg (bPD.not_row (by decide) hownD)
                    exact ⟨b6.cell (j := 11) rfl, b6.frozen 11⟩
                  have hnewsD : ∀ (q : Nat) (u : Value), (itc ⟨tha, tla, thi, tlo, ta, tn, tc, tbs⟩)[q]? = some u → YD.cell? ((⟨Y.heap.size, 0, none⟩ : Addr).add q) = some u := fun q u hq => by rw [← hYD]; exact hnews q u hq
                  have hYDs : W0.heap.size ≤ YD.heap.size := Nat.le_trans hYs hBD.size
                  have HFIN : Hid (∀ (w6 : World) (a7 : Option Addr) (C7 : Nat), YD.grownBy w6 L.ownBlock → w6.ownsRow W0.heap.size 46 5 (.slice a7 (j + 1) C7) (j + 1) (its.flatMap itc ++ itc ⟨tha, tla, thi, tlo, ta, tn, tc, tbs⟩) → ∀ wz, w6.setCell ⟨B, 11, none⟩ (.slice a7 (j + 1) C7) = wz →
                      ∃ (j' : Nat) (a' : Option Addr) (n' c' : Nat) (L : Value) (its : List It), Value.slice a5 n5 c5 = .slice a' n' c' ∧ j' ≤ N ∧ Hid (n' = (N - j') * x) ∧ n' ≤ c' ∧ n' ≤ 1000 ∧ Hid (BytesAt W0 (.slice a' n' c') (r.drop (j' * x))) ∧ its.length = j' ∧ Hid (erL 9 x r 0 N = erL 9 x r j' (N - j')) ∧ Hid (its.map dat = (List.range j').map fun j => dtD 9 (chn x r j)) ∧ Blk wz B 29 [.int .i64 9, .int .i64 ak, .int .u16 ha, .int .u16 la, .int .u64 hi, .int .u64 lo, .int .i64 of, .int .i64 mt, .int .i64 co, .bool cm, .slice a1 n1 c1, L] ∧ wz.ownsRow W0.heap.size 46 5 L j' (its.flatMap itc) ∧ Hid (∀ t ∈ its, ItOwn wz W0.heap.size t) ∧ Below W0.heap.size W0 wz) := Lib.hid (by
                    intro w6 a7 C7 hg hown6 wz hwz
                    have b6 := bPD.kept hg (bPD.not_row (by decide) hownD)
                    have hB6 : Below W0.heap.size W0 w6 := (hB5.trans (hBD.mono hYs)).grown hg hYDs (fun q hq => (hownD.lt q hq).1)
                    refine ⟨j + 1, a5, n5, c5, .slice a7 (j + 1) C7, its ++ [⟨tha, tla, thi, tlo, ta, tn, tc, tbs⟩], rfl, hlt, HN5, hc5, hn5', HBY5, by simp [hjl], Lib.hid (by rw [herl.out, HST.out]), Lib.hid (by rw [List.map_append, hmap.out, List.range_succ, List.map_append]; simp [hdat]), ?_, ?_, Lib.hid ?_, ?_⟩
                    · rw [← hwz]
                      have := b6.setAt (j := 11) (.slice a7 (j + 1) C7)
                      simpa only [List.set_cons_zero, List.set_cons_succ] using this
                    · rw [← hwz, List.flatMap_append]
                      have := own_set hown6 b6 (by decide) 11 (.slice a7 (j + 1) C7)
                      simpa using this
                    · intro t ht
                      rw [← hwz]
                      rcases List.mem_append.1 ht with ht | ht
                      · exact (((hioY t ht).below hBD).grow hownD (by decide) hg).set b6 (by decide) 11 _
                      · simp only [List.mem_singleton] at ht
                        subst ht
                        exact ((hto.below hBD).grow hownD (by decide) hg).set b6 (by decide) 11 _
                    · rw [← hwz]
                      exact hB6.setCell (p := ⟨B, 11, none⟩) hB _)
                  have yYD := bPD.cell (j := 11) rfl
                  obtain ⟨k0', k1', k2', k3', k4', _⟩ := (bI.below hBD).cells
                  simp only [Nat.zero_add, Nat.add_zero] at k0' k1' k2' k3' k4'
                  go_region_law (refine step_append_at (by rfl) _ _ 27 (by rfl) W0.heap.size 46 i0 _ 5 48 Try.underlying27 hi0 hz0 hz1 hz2 rfl (by decide) L j (its.flatMap itc) (by rfl) hownD ⟨Y.heap.size, 0, none⟩ 1 1 (itc ⟨tha, tla, thi, tlo, ta, tn, tc, tbs⟩) (by rfl) rfl hnewsD (by simp [itc, Value.oneCell']) (by unfold maxLen; omega) (by omega) hYDs ?_; intro v6 w6 hown6 hgrow6 _; obtain ⟨y66, f66⟩ := hAft w6 hgrow6; obtain ⟨a7, C7, rfl⟩ := own_slice hown6)
                  all_goals
                    have HF := Lib.hid (HFIN.out w6 a7 C7 hgrow6 hown6 _ rfl)
                    clear HFIN hgrow6 hown6 y0 y1 y2 y3 y4 y5 y6 y7 y8 y9 yA yB u0 u1 u2 u3 u4
                    go_wp2
                    refine ⟨HF.out, ?_⟩
                    simp [slen]
                    omega
                · rw [if_neg hE] at HST
                  have gE : (ER != 0) = true := by simpa using hE
                  have hfin := And.intro hioY hB5
                  have HF := Lib.hid (And.intro bP (And.intro hown hfin))
                  clear bP hown hioY hB5 hfin hto bI
                  go_wp2
                  go_ret
                  exact ⟨ER, j, L, its, rfl, HF.out.2.2.2, by rw [HLSE.out, herl.out, HST.out], fun h => absurd h hE, HF.out.1, hjl, by omega, HF.out.2.1, HF.out.2.2.1⟩
              · go_simp
                generalize hX : World.alloc _ _ = X2
                have bA := blk_of_alloc hX
                have hBX := below_of_alloc hX
                have hIl := hHeld.2.1
                try replace hto := hto.below hBX
                clear hX
                refine hK.out _ _ (⟨hHeld.1.trans (hBX.mono hHeld.2.1), Nat.le_trans hHeld.2.1 hBX.size, hHeld.2.2.keep hBX⟩) (fun hHeld2 => ?_)
                replace hHeld := hHeld2
                clear hK K hHeld2
                try simp only [Act.put, List.setIfInBounds_toArray, List.set_cons_zero, List.set_cons_succ]
                clear hBX
                refine wpAnyH_ready (rs := [7]) (by kernel_rfl) (by simp) (AllReadyH.cons (o := _) (by rw [List.getElem?_toArray]; rfl) (fun K hK => ?_) AllReadyH.nil)
                go_simp
                go_at_call 95
                refine (HIT.out _ (HBr.out.trans (hHeld.1.mono HBr.out.size))).mono ?_
                rintro e wb ⟨⟨tha, tla, thi, tlo, ta, tn, tc, tbs⟩, hdat, rfl, hto, hBb⟩
                have hto := hto.base (Nat.le_trans HBr.out.size hHeld.2.1)
                try replace bA := bA.below hBb
                refine hK.out _ _ (⟨hHeld.1.trans (hBb.mono hHeld.2.1), Nat.le_trans hHeld.2.1 hBb.size, hHeld.2.2.keep hBb⟩) (fun hHeld2 => ?_)
                replace hHeld := hHeld2
                clear hK K hHeld2
                try simp only [Act.put, List.setIfInBounds_toArray, List.set_cons_zero, List.set_cons_succ]
                refine wpAnyH_take (i := 8) (oi := _) (v := ?_) (by rw [List.getElem?_toArray]; rfl) (by kernel_rfl) (by kernel_rfl) (by kernel_rfl) (by exact fun _ _ _ h => h) (Or.inl ⟨by rfl, ?_⟩) (by assumption) ?_
                rotate_left
                · intro w hSw
                  try simp only [Cells, blk, List.cons_append, List.nil_append, and_true, Nat.reduceAdd, Nat.add_zero, Nat.zero_add] at hSw
                  go_simp
                  try with_reducible rfl
                simp only [Act.put, List.setIfInBounds_toArray, List.set_cons_zero, List.set_cons_succ]
                refine wpAnyH_take (i := 9) (oi := _) (v := ?_) (by rw [List.getElem?_toArray]; rfl) (by kernel_rfl) (by kernel_rfl) (by kernel_rfl) (by exact fun _ _ _ h => h) (Or.inl ⟨by rfl, ?_⟩) (by assumption) ?_
                rotate_left
                · intro w hSw
                  try simp only [Cells, blk, List.cons_append, List.nil_append, and_true, Nat.reduceAdd, Nat.add_zero, Nat.zero_add] at hSw
                  go_simp
                  try with_reducible rfl
                simp only [Act.put, List.setIfInBounds_toArray, List.set_cons_zero, List.set_cons_succ]
                refine wpAnyH_take (i := 10) (oi := _) (v := ?_) (by rw [List.getElem?_toArray]; rfl) (by kernel_rfl) (by kernel_rfl) (by kernel_rfl) (by exact fun _ _ _ h => h) (Or.inl ⟨by rfl, ?_⟩) (by assumption) ?_
                rotate_left
                · intro w hSw
                  try simp only [Cells, blk, List.cons_append, List.nil_append, and_true, Nat.reduceAdd, Nat.add_zero, Nat.zero_add] at hSw
                  go_simp
                  try with_reducible rfl
                simp only [Act.put, List.setIfInBounds_toArray, List.set_cons_zero, List.set_cons_succ]
                refine wpAnyH_ready (rs := [12]) (by kernel_rfl) (by simp) (AllReadyH.cons (o := _) (by rw [List.getElem?_toArray]; rfl) (fun K hK => ?_) AllReadyH.nil)
                refine step_id ?_
                obtain ⟨u0, u1, u2, u3, u4, _⟩ := bA.cells
                simp only [Nat.zero_add, Nat.add_zero] at u0 u1 u2 u3 u4
                have g5 := bA.frozen 0
                have g6 := bA.frozen 1
                have g7 := bA.frozen 2
                have g8 := bA.frozen 3
                have g9 := bA.frozen 4
                go_simp
                obtain ⟨bI, hS1, hS2⟩ := set5 bA (.int .u16 tha) (.int .u16 tla) (.int .u64 thi) (.int .u64 tlo) (.slice ta tn tc)
                have hto := hS1 _ _ (by decide) hto
                have hBY := hS2 _ _ hIl hHeld.1
                generalize hY : World.setCell _ _ _ = Y at bI hto hBY ⊢
                clear hY hS1 hS2 u0 u1 u2 u3 u4 g5 g6 g7 g8 g9
                refine hK.out _ _ (⟨hBY, hBY.size, ⟨(hBY.cell (p := ⟨B, 0, none⟩) hlB).trans kd, trivial⟩⟩) (fun hHeld2 => ?_)
                replace hHeld := hHeld2
                clear hK K hHeld2
                try simp only [Act.put, List.setIfInBounds_toArray, List.set_cons_zero, List.set_cons_succ]
                refine wpAnyH_take (i := 13) (oi := _) (v := ?_) (by rw [List.getElem?_toArray]; rfl) (by kernel_rfl) (by kernel_rfl) (by kernel_rfl) (by exact fun _ _ _ h => h) (Or.inl ⟨by rfl, ?_⟩) (by assumption) ?_
                rotate_left
                · intro w hSw
                  try simp only [Cells, blk, List.cons_append, List.nil_append, and_true, Nat.reduceAdd, Nat.add_zero, Nat.zero_add] at hSw
                  go_simp
                  try with_reducible rfl
                simp only [Act.put, List.setIfInBounds_toArray, List.set_cons_zero, List.set_cons_succ]
                refine wpAnyH_done (by kernel_rfl) ?_ _
                have bP := HBP.out.below hBY
                have hown := own_below HOWN.out hBY
                have hioY := fun t ht => (hio.out t ht).below hBY
                have hB5 := HBr.out.trans (hBY.mono HBr.out.size)
                have hBl := bP.lt
                clear hHeld hBY HBP HOWN HBr kd hlB hz bA hBb hIl
                by_cases hE : ER = 0
                · subst hE
                  rw [if_pos rfl] at HST
                  have TO := bP.cells
                  have hOpen := TO
                  simp only [Cells, blk, List.cons_append, List.nil_append, and_true, Nat.reduceAdd, Nat.add_zero, Nat.zero_add] at hOpen
                  obtain ⟨y0, y1, y2, y3, y4, y5, y6, y7, y8, y9, yA, yB⟩ := hOpen
                  have TI := bI.cells
                  have hOpen := TI
                  simp only [Cells, blk, List.cons_append, List.nil_append, and_true, Nat.reduceAdd, Nat.add_zero, Nat.zero_add] at hOpen
                  obtain ⟨u0, u1, u2, u3, u4⟩ := hOpen
                  have f11 := bP.frozen 11
                  clear TO TI
                  go_upto_region 23 with fail
                  have hYs := hB5.size
                  have hnews : ∀ (q : Nat) (u : Value), (itc ⟨tha, tla, thi, tlo, ta, tn, tc, tbs⟩)[q]? = some u → (Y.alloc (.cells #[.int .u16 tha, .int .u16 tla, .int .u64 thi, .int .u64 tlo, .slice ta tn tc] 46)).cell? ((⟨Y.heap.size, 0, none⟩ : Addr).add q) = some u := fun q u hq => by rw [addr_add, Nat.zero_add]; exact cellNew _ _ _ q u (by simpa [itc] using hq)
                  have bPD := (bP.alloc (.cells #[.int .u16 tha, .int .u16 tla, .int .u64 thi, .int .u64 tlo, .slice ta tn tc] 46)).drew
                  have hownD : (Y.alloc (.cells #[.int .u16 tha, .int .u16 tla, .int .u64 thi, .int .u64 tlo, .slice ta tn tc] 46)).drew.ownsRow W0.heap.size 46 5 L j (its.flatMap itc) := hown.alloc _
                  have hBD : Below Y.heap.size Y (Y.alloc (.cells #[.int .u16 tha, .int .u16 tla, .int .u64 thi, .int .u64 tlo, .slice ta tn tc] 46)).drew := ((Below.refl _ _).alloc (Nat.le_refl _) _).drew
                  generalize hYD : (Y.alloc (.cells #[.int .u16 tha, .int .u16 tla, .int .u64 thi, .int .u64 tlo, .slice ta tn tc] 46)).drew = YD at bPD hownD hBD
                  have hAft : ∀ w6, YD.grownBy w6 L.ownBlock → w6.cell? ⟨B, 11, none⟩ = some L ∧ w6.frozen? ⟨B, 11, none⟩ = false := fun w6 hg => by
                    have b6 := bPD.kept hg (bPD.not_row (by decide) hownD)
                    exact ⟨b6.cell (j := 11) rfl, b6.frozen 11⟩
                  have hnewsD : ∀ (q : Nat) (u : Value), (itc ⟨tha, tla, thi, tlo, ta, tn, tc, tbs⟩)[q]? = some u → YD.cell? ((⟨Y.heap.size, 0, none⟩ : Addr).add q) = some u := fun q u hq => by rw [← hYD]; exact hnews q u hq
                  have hYDs : W0.heap.size ≤ YD.heap.size := Nat.le_trans hYs hBD.size
                  have HFIN : Hid (∀ (w6 : World) (a7 : Option Addr) (C7 : Nat), YD.grownBy w6 L.ownBlock → w6.ownsRow W0.heap.size 46 5 (.slice a7 (j + 1) C7) (j + 1) (its.flatMap itc ++ itc ⟨tha, tla, thi, tlo, ta, tn, tc, tbs⟩) → ∀ wz, w6.setCell ⟨B, 11, none⟩ (.slice a7 (j + 1) C7) = wz →
                      ∃ (j' : Nat) (a' : Option Addr) (n' c' : Nat) (L : Value) (its : List It), Value.slice a5 n5 c5 = .slice a' n' c' ∧ j' ≤ N ∧ Hid (n' = (N - j') * x) ∧ n' ≤ c' ∧ n' ≤ 1000 ∧ Hid (BytesAt W0 (.slice a' n' c') (r.drop (j' * x))) ∧ its.length = j' ∧ Hid (erL 9 x r 0 N = erL 9 x r j' (N - j')) ∧ Hid (its.map dat = (List.range j').map fun j => dtD 9 (chn x r j)) ∧ Blk wz B 29 [.int .i64 9, .int .i64 ak, .int .u16 ha, .int .u16 la, .int .u64 hi, .int .u64 lo, .int .i64 of, .int .i64 mt, .int .i64 co, .bool cm, .slice a1 n1 c1, L] ∧ wz.ownsRow W0.heap.size 46 5 L j' (its.flatMap itc) ∧ Hid (∀ t ∈ its, ItOwn wz W0.heap.size t) ∧ Below W0.heap.size W0 wz) := Lib.hid (by
                    intro w6 a7 C7 hg hown6 wz hwz
                    have b6 := bPD.kept hg (bPD.not_row (by decide) hownD)
                    have hB6 : Below W0.heap.size W0 w6 := (hB5.trans (hBD.mono hYs)).grown hg hYDs (fun q hq => (hownD.lt q hq).1)
                    refine ⟨j + 1, a5, n5, c5, .slice a7 (j + 1) C7, its ++ [⟨tha, tla, thi, tlo, ta, tn, tc, tbs⟩], rfl, hlt, HN5, hc5, hn5', HBY5, by simp [hjl], Lib.hid (by rw [herl.out, HST.out]), Lib.hid (by rw [List.map_append, hmap.out, List.range_succ, List.map_append]; simp [hdat]), ?_, ?_, Lib.hid ?_, ?_⟩
                    · rw [← hwz]
                      have := b6.setAt (j := 11) (.slice a7 (j + 1) C7)
                      simpa only [List.set_cons_zero, List.set_cons_succ] using this
                    · rw [← hwz, List.flatMap_append]
                      have := own_set hown6 b6 (by decide) 11 (.slice a7 (j + 1) C7)
                      simpa using this
                    · intro t ht
                      rw [← hwz]
                      rcases List.mem_append.1 ht with ht | ht
                      · exact (((hioY t ht).below hBD).grow hownD (by decide) hg).set b6 (by decide) 11 _
                      · simp only [List.mem_singleton] at ht
                        subst ht
                        exact ((hto.below hBD).grow hownD (by decide) hg).set b6 (by decide) 11 _
                    · rw [← hwz]
                      exact hB6.setCell (p := ⟨B, 11, none⟩) hB _)
                  have yYD := bPD.cell (j := 11) rfl
                  obtain ⟨k0', k1', k2', k3', k4', _⟩ := (bI.below hBD).cells
                  simp only [Nat.zero_add, Nat.add_zero] at k0' k1' k2' k3' k4'
                  go_region_law (refine step_append_at (by rfl) _ _ 27 (by rfl) W0.heap.size 46 i0 _ 5 48 Try.underlying27 hi0 hz0 hz1 hz2 rfl (by decide) L j (its.flatMap itc) (by rfl) hownD ⟨Y.heap.size, 0, none⟩ 1 1 (itc ⟨tha, tla, thi, tlo, ta, tn, tc, tbs⟩) (by rfl) rfl hnewsD (by simp [itc, Value.oneCell']) (by unfold maxLen; omega) (by omega) hYDs ?_; intro v6 w6 hown6 hgrow6 _; obtain ⟨y66, f66⟩ := hAft w6 hgrow6; obtain ⟨a7, C7, rfl⟩ := own_slice hown6)
                  all_goals
                    have HF := Lib.hid (HFIN.out w6 a7 C7 hgrow6 hown6 _ rfl)
                    clear HFIN hgrow6 hown6 y0 y1 y2 y3 y4 y5 y6 y7 y8 y9 yA yB u0 u1 u2 u3 u4
                    go_wp2
                    refine ⟨HF.out, ?_⟩
                    simp [slen]
                    omega
                · rw [if_neg hE] at HST
                  have gE : (ER != 0) = true := by simpa using hE
                  have hfin := And.intro hioY hB5
                  have HF := Lib.hid (And.intro bP (And.intro hown hfin))
                  clear bP hown hioY hB5 hfin hto bI
                  go_wp2
                  go_ret
                  exact ⟨ER, j, L, its, rfl, HF.out.2.2.2, by rw [HLSE.out, herl.out, HST.out], fun h => absurd h hE, HF.out.1, hjl, by omega, HF.out.2.1, HF.out.2.2.1⟩
            · obtain rfl : j = N := by omega
              have hn0 : n' = 0 := by rw [hn'.out]; simp
              subst hn0
              have hfin := And.intro bP (And.intro hown (And.intro hio.out hBr))
              have HF := Lib.hid hfin
              clear bP hown hBr hfin
              go_wp2
              go_ret
              exact ⟨0, j, L, its, rfl, HF.out.2.2.2, by rw [HLSE.out, herl.out]; simp [erL], fun _ => by rw [hmap.out, HLSL.out], HF.out.1, hjl, hNb, HF.out.2.1, HF.out.2.2.1⟩
        · have g4 : (((n2 % x : Nat) : Int) != 0) = true := by generalize n2 % x = q at hmod; rw [bne_iff_ne]; omega
          have hmod' : r.length % x ≠ 0 := by rw [HRL.out]; exact hmod
          go_enter Try.func60, Try.ntmps60
          go_wp2
          go_ret
          exact ⟨3, 0, _, [], rfl, hW, by simp [lsE, hls, hrne, hmod'], fun h => (by cases h), hb, rfl, Nat.zero_le _, hnil, by simp⟩
end Go.Proofs.Ythnffdlnhfhabaa
