/- Walks of assess: the reference's Propose. -/
import Derived.Test.YtoaiiceglfmfcaaAssP
import Derived.Maps.AppendAt
namespace Go.Proofs.Ytoaiiceglfmfcaa
open Go.RowKit

/-- append at a step of a region that draws, whatever is appended -/
theorem step_append_at {P : Program} {w : World} {ops : Array Oper} {o : Oper} {a : Act} {K : Act → World → Prop} {Q : Exit → Act → World → Prop} {E : Prop} (hgd : o.guard = none) (s x : Operand) (t : TypeId)
    (ho : o.op = .call { callee := .builtin .append, args := #[s, x], argTypes := #[t, t] })
    (base : Nat) (e : TypeId) (i : TypeInfo) (z : Value) (size bytes : Nat) (ht : P.underlying t = some (.slice e)) (hi : P.info? e = some i) (hz : i.zero = some z)
    (hsize : i.size = size) (hby : i.bytes = bytes) (hzs : z.cells.size = size) (hsz : 0 < size)
    (v : Value) (n : Nat) (xs : List Value) (hs : a.eval s = v) (hown : w.ownsRow base e size v n xs)
    (ad : Addr) (m c : Nat) (news : List Value) (hx : a.eval x = .slice (some ad) m c) (hl : news.length = m * size) (hnews : ∀ j u, news[j]? = some u → w.cell? (ad.add j) = some u) (h1 : ∀ u ∈ news, u.oneCell' = true)
    (h63 : n + m ≤ maxLen) (hbytes : (n + m) * bytes ≤ 140737488355328) (hbase : base ≤ w.heap.size)
    (h : ∀ v' w', w'.ownsRow base e size v' (n + m) (xs ++ news) → w.grownBy w' v.ownBlock → (v' = .slice none 0 0 → v = .slice none 0 0) → K (a.put o.dst v') w') :
    if Region.wanted o (yielded ops a.tmps) = true then Oper.wp P o a w K Q else E := by
  have hw : Region.wanted o (yielded ops a.tmps) = true := by simp [Region.wanted, hgd]
  rw [if_pos hw]
  obtain ⟨v', w', hr, h2, h3, h4, _⟩ := run_append_own_at (P := P) w base t o.type e i z size bytes ht hi hz hsize hby hzs hsz v n xs hown ad m c news hl hnews h1 h63 hbytes hbase
  unfold Oper.wp execOp
  simp only [ho, resolve, invoke, builtin, Sem.run_bind, Sem.run_pure, Result.andThen_ok, List.map_toArray, List.map_cons, List.map_nil, hs, hx, hr]
  exact h v' w' h2 h3 (fun e => (h4.1 e).1)
/-- a part of a slice that is read, as news -/
theorem own_news {w : World} {base e n cap : Nat} {g : Nat} {xs : List Value} (h : w.ownsRow base e 1 (.slice (some ⟨g, 0, none⟩) n cap) n xs) (o : Nat) : ∀ j u, (xs.drop o)[j]? = some u → w.cell? ((⟨g, o, none⟩ : Addr).add j) = some u := by
  intro j u hj
  have ha : (⟨g, o, none⟩ : Addr).add j = ⟨g, o + j, none⟩ := by unfold Addr.add; split <;> simp_all
  rw [List.getElem?_drop] at hj
  have hl := (List.getElem?_eq_some_iff.1 hj).1
  rw [h.1] at hl
  rw [ha, h.cellAt (o + j) (by omega), hj]

theorem own_news_take {w : World} {base e n cap : Nat} {g : Nat} {xs : List Value} (h : w.ownsRow base e 1 (.slice (some ⟨g, 0, none⟩) n cap) n xs) (o m : Nat) : ∀ j u, ((xs.drop o).take m)[j]? = some u → w.cell? ((⟨g, o, none⟩ : Addr).add j) = some u := by
  intro j u hj
  rw [List.getElem?_take] at hj
  split at hj
  · exact own_news h o j u hj
  · cases hj
theorem news_grown {w w' : World} {g o : Nat} {news : List Value} {row : Option Nat} (h : ∀ j u, news[j]? = some u → w.cell? ((⟨g, o, none⟩ : Addr).add j) = some u) (hg : w.grownBy w' row) (hlt : g < w.heap.size) (hne : some g ≠ row) : ∀ j u, news[j]? = some u → w'.cell? ((⟨g, o, none⟩ : Addr).add j) = some u := by
  intro j u hj
  have ha : (⟨g, o, none⟩ : Addr).add j = ⟨g, o + j, none⟩ := by unfold Addr.add; split <;> simp_all
  have := h j u hj
  rw [ha] at this ⊢
  exact (World.cell?_of_block (a := ⟨g, o + j, none⟩) (hg.block g hlt hne)).trans this

theorem news_ite {w : World} {g a c : Nat} {news : List Value} (hc : c = a + 1 → news = []) (h : ∀ j u, news[j]? = some u → w.cell? ((⟨g, a + 1, none⟩ : Addr).add j) = some u) : ∀ j u, news[j]? = some u → w.cell? ((if c = a + 1 then ⟨g, 0, none⟩ else ⟨g, a + 1, none⟩ : Addr).add j) = some u := by
  intro j u hj
  by_cases h1 : c = a + 1
  · rw [hc h1] at hj; simp at hj
  · rw [if_neg h1]; exact h j u hj
theorem chs_one (L : List (Fin 37)) : ∀ u ∈ chs L, u.oneCell' = true := by
  intro u hu
  obtain ⟨x, _, rfl⟩ := List.mem_map.1 hu
  rfl
theorem chs_len (L : List (Fin 37)) : (chs L).length = L.length := by simp [chs]
/-- one index less is one channel less -/
theorem erase_filter (L : List (Fin 37)) (hn : L.Nodup) (a : Nat) (h : a < L.length) (c : Nat) (hc : L[a].val = c) : L.take a ++ L.drop (a + 1) = L.filter (fun x => decide (x.val ≠ c)) := by
  have e : L = L.take a ++ L[a] :: L.drop (a + 1) := by rw [List.getElem_cons_drop, List.take_append_drop]
  have hn2 := hn
  rw [e, List.nodup_append] at hn2
  obtain ⟨_, h2, h3⟩ := hn2
  rw [List.nodup_cons] at h2
  conv => rhs; rw [e]
  rw [List.filter_append, List.filter_cons]
  have k1 : (L.take a).filter (fun x => decide (x.val ≠ c)) = L.take a := by
    rw [List.filter_eq_self]
    intro x hx
    have := h3 x hx L[a] List.mem_cons_self
    simp only [decide_eq_true_eq]
    intro e
    exact this (Fin.ext (by omega))
  have k2 : (L.drop (a + 1)).filter (fun x => decide (x.val ≠ c)) = L.drop (a + 1) := by
    rw [List.filter_eq_self]
    intro x hx
    simp only [decide_eq_true_eq]
    intro e
    exact h2.1 (by have : x = L[a] := Fin.ext (by omega); rw [← this]; exact hx)
  rw [k1, k2]
  simp [hc]
theorem lst_nodup (m : Nat) : (lst m).Nodup := by
  unfold lst lstTo
  rw [List.take_of_length_le (by simp)]
  exact (List.nodup_finRange 37).filter _
theorem ofN_sub {A B : List Nat} (h : A.Sublist B) : ofN A ≤ ofN B := by
  induction h with
  | slnil => exact Nat.le_refl _
  | cons a _ ih => exact Nat.le_trans ih (Nat.le_add_left _ _)
  | cons_cons a _ ih => exact Nat.add_le_add_left ih _
theorem ofN_lst_lt (m : Nat) (L : List (Fin 37)) (h : L.Sublist (lst m)) : ofN (nats L) < 137438953472 := by
  have h1 := ofN_sub (h.map (·.val))
  have h2 := ofN_lstTo m 37 (Nat.le_refl _)
  have h3 : m % 2^37 < 2^37 := Nat.mod_lt _ (by decide)
  unfold nats at *
  unfold lst at h1
  omega

theorem own_some {w : World} {base e size : Nat} {v : Value} {n : Nat} {xs : List Value} (h : w.ownsRow base e size v n xs) (hn : v ≠ .slice none 0 0) : ∃ g c, v = .slice (some ⟨g, 0, none⟩) n c := by
  rcases h.2 with ⟨h', _⟩ | ⟨g', cap', cur, h', _⟩
  · exact absurd h' hn
  · exact ⟨g', cap', h'⟩
theorem rof_of (w : World) {base : Nat} (g n c : Nat) (L : List (Fin 37)) (m : Nat) (hown : w.ownsRow base 3 1 (.slice (some ⟨g, 0, none⟩) n c) n (chs L)) (hl : L.length = n) (hs : L.Sublist (lst m)) :
    Calls Try.prog 27 #[.slice (some ⟨g, 0, none⟩) n c] w fun e w' => e = .returned (.int .u64 (ofN (nats L))) ∧ w = w' := by
  have h37 : (lst m).length ≤ 37 := lstTo_len m 37
  have hn := hs.length_le
  have ho := ofN_lst_lt m L hs
  refine rof_any g 0 n c (nats L) (by rw [nats_len]; exact hl) (fun x hx => ?_) (by omega) (by omega) w (fun j h => ?_)
  · obtain ⟨y, _, rfl⟩ := List.mem_map.1 hx
    exact y.isLt
  · rw [nats_len] at h
    rw [Nat.zero_add, hown.cellAt j (by omega)]
    simp [chs, nats, h]

set_option maxHeartbeats 1000000 in
theorem rpropose_any (v : Value) (l : List (Int × Int)) (m : Nat) (hm : m < 18446744073709551616) (least : Int) (w : World) (h : SR w v l.length 2 (tcells l)) :
    Calls Try.prog 42 #[v, .int .u64 m, .int .i64 least] w fun e w' => e = .returned (.int .u64 (propN l m least)) ∧ Below w.heap.size w w' := by
  obtain ⟨i0, hi, hz0, hz1, hz2⟩ := info_parts Try.info_int
  obtain ⟨ls, hls⟩ : ∃ ls, lsI least = ls := ⟨_, rfl⟩
  have hlb := lsI_bd least
  have hcase := ls_cases least
  unfold propN
  rw [hls] at hlb hcase ⊢
  clear hls
  obtain ⟨R, hR⟩ : ∃ R, propL l ls 37 (lst m) = R := ⟨_, rfl⟩
  rw [hR]
  obtain ⟨Gt, hgt1, hgt2⟩ : ∃ Gt : Nat → Prop, (∀ P, Gt P → ls < (P : Int)) ∧ (∀ P, ¬ Gt P → ¬ ls < (P : Int)) := ⟨fun P => ls < (P : Int), fun _ h => h, fun _ h => h⟩
  obtain ⟨G, hG0, hGs, hGn, hGe⟩ : ∃ G : Nat → List (Fin 37) → Prop, G 0 (lst m) ∧
      (∀ j L c, j < 37 → G j L → Gt L.length → candL l (nats L) = some c → G (j + 1) (L.filter (fun x => decide (x.val ≠ c)))) ∧
      (∀ j L, j < 37 → G j L → Gt L.length → candL l (nats L) = none → L = R) ∧ (∀ j L, j ≤ 37 → G j L → ¬ Gt L.length → L = R) := by
    refine ⟨fun j L => propL l ls (37 - j) L = R, hR, fun j L c hj h h1 h2 => ?_, fun j L hj h h1 h2 => ?_, fun j L hj h h1 => ?_⟩
    · dsimp only at h ⊢
      rw [show 37 - j = (37 - (j + 1)) + 1 by omega, propL, if_pos (hgt1 _ h1), h2] at h
      exact h
    · dsimp only at h
      rw [show 37 - j = (37 - (j + 1)) + 1 by omega, propL, if_pos (hgt1 _ h1), h2] at h
      exact h
    · dsimp only at h
      rcases Nat.lt_or_ge j 37 with hj' | hj'
      · rw [show 37 - j = (37 - (j + 1)) + 1 by omega, propL, if_neg (hgt2 _ h1)] at h
        exact h
      · rw [show 37 - j = 0 by omega] at h
        exact h
  have HGs := Lib.hid hGs
  have HGn := Lib.hid hGn
  have HGe := Lib.hid hGe
  have HSR := Lib.hid h
  have H1 := Lib.hid hgt1
  have H2 := Lib.hid hgt2
  have hlen0 : (lst m).length ≤ 37 := lstTo_len m 37
  clear hR h hGs hGn hGe hgt1 hgt2
  rcases hcase with ⟨hc, rfl⟩ | ⟨rfl, rfl⟩ | ⟨hc, rfl⟩ | ⟨rfl, rfl⟩ | ⟨hc, rfl⟩
  all_goals
    go_enter Try.func42, Try.ntmps42
    go_wp2_with fail
    refine (rlist_any m hm _).mono ?_
    rintro e w1 ⟨g1, c1, rfl, hown1, hB1⟩
    go_wp2
    go_loopw [7, 8] (fun lv _ wr => ∃ (j : Nat) (L : List (Fin 37)) (n g c : Nat), n + j ≤ 37 ∧ Hid (L.length = n ∧ L.Sublist (lst m) ∧ G j L) ∧ lv = .slice (some ⟨g, 0, none⟩) n c ∧ wr.ownsRow w.heap.size 3 1 (.slice (some ⟨g, 0, none⟩) n c) n (chs L) ∧ Below w.heap.size w wr) (fun lv _ _ => match lv with | .slice _ n _ => n | _ => 0)
    case atStart => exact ⟨0, lst m, _, g1, c1, by omega, ⟨rfl, List.Sublist.refl _, hG0⟩, rfl, hown1, hB1⟩
    case round =>
      obtain ⟨j, L, n, g, c, hj, HL, rfl, hown, hB⟩ := hrel
      have hg1 : g < wr.heap.size := (hown.lt g rfl).2
      have hg0 : w.heap.size ≤ g := (hown.lt g rfl).1
      have hcc : n ≤ c := by
        rcases hown.2 with ⟨h', _⟩ | ⟨g', cap', cur, h', _, _, hnc, _⟩
        · simp at h'
        · simp only [Value.slice.injEq, Option.some.injEq, Addr.mk.injEq, and_true, true_and] at h'
          omega
      have cw := worst_any v l g n c L HL.out.1 (by omega) wr (HSR.out.below hB) hg1 (fun j h => by
        have := HL.out.1
        rw [hown.cellAt j (by omega)]
        simp [chs, h])
      have CW := Lib.hid cw
      clear cw hown1 hB1
      by_cases hgt : Gt n
      · have hgl := H1.out n hgt
        have hgt' : Gt L.length := by rw [HL.out.1]; exact hgt
        have hj37 : j < 37 := by omega
        have gs := fun c h2 => HGs.out j L c hj37 HL.out.2.2 hgt' h2
        have gn := fun h2 => HGn.out j L hj37 HL.out.2.2 hgt' h2
        have GS := Lib.hid gs
        have GN := Lib.hid gn
        clear gs gn hgt hgt'
        go_wp2_with fail
        refine CW.out.mono ?_
        rintro e w2 ⟨z, rfl, hz, hB2⟩
        have hB2' := hB.trans (hB2.mono hB.size)
        have hown2 := own_below hown hB2
        clear hown
        obtain ⟨fo, hfo⟩ : ∃ fo, candL l (nats L) = fo := ⟨_, rfl⟩
        rw [hfo] at hz
        cases fo with
        | none =>
          have hz1 : z = -1 := hz
          subst hz1
          have e := GN.out hfo
          subst e
          have cof := rof_of w2 g n c L m hown2 HL.out.1 HL.out.2.1
          have COF := Lib.hid cof
          clear cof hown2 CW
          go_wp2_with fail
          refine COF.out.mono ?_
          rintro e w3 ⟨rfl, rfl⟩
          go_wp2
          go_ret
          exact ⟨rfl, hB2'⟩
        | some f =>
          obtain ⟨a, haL, rfl, ha⟩ := hz
          have hG' := GS.out f hfo
          have haN : a < n := by rw [← HL.out.1]; exact haL
          have hj0 : (0 : Int) ≤ (a : Int) := by omega
          have hj1 : (a : Int) < (n : Int) := by omega
          have hj2 : (a : Int) ≤ (c : Int) := by omega
          have hj3 : (a : Int) + 1 ≤ (n : Int) := by omega
          have hneg : decide ((a : Int) < 0) = false := by simp
          have HA := Lib.hid (And.intro ha hfo)
          clear ha hfo
          have hw1 : IntKind.i64.wrap ((a : Int) + 1) = (a : Int) + 1 := IntWalk.i64_in _ (by omega)
          have hj4 : (0 : Int) ≤ (a : Int) + 1 := by omega
          have om := (World.ownsRow_made (e := 3) (size := 1) w2 #[] 0 (Nat.le_refl _) (by unfold maxLen; omega) rfl).drew
          have n1 := own_news_take ((hown2.alloc (.cells #[] 3)).drew) 0 a
          have n2 := own_news ((hown2.alloc (.cells #[] 3)).drew) (a + 1)
          have hg2 : g < w2.heap.size := Nat.lt_of_lt_of_le hg1 hB2.size
          go_wp2_with fail
          go_region_held3 (fun _ => True) (trivial) (first | (refine step_append_at (by rfl) _ _ 44 (by rfl) w2.heap.size 3 i0 (.int .i64 0) 1 8 Try.underlying44 hi hz0 hz1 hz2 rfl (by decide) _ 0 [] (by rfl) om ⟨g, 0, none⟩ a c ((chs L).take a) (by rfl) (by rw [List.length_take, chs_len, HL.out.1]; omega) n1 (fun u hu => chs_one L u (List.mem_of_mem_take hu)) (by unfold maxLen; omega) (by omega) (by simp) ?_; intro v3 w3 hown3 hgrow3 hne3) | (refine step_append_at (by rfl) _ _ 44 (by rfl) w2.heap.size 3 i0 (.int .i64 0) 1 8 Try.underlying44 hi hz0 hz1 hz2 rfl (by decide) v3 (0 + a) _ (by rfl) hown3 (if c = a + 1 then ⟨g, 0, none⟩ else ⟨g, a + 1, none⟩) (n - (a + 1)) (c - (a + 1)) ((chs L).drop (a + 1)) (by show Value.slice (if c = a + 1 then some (⟨g, 0, none⟩ : Addr) else some ⟨g, a + 1, none⟩) (n - (a + 1)) (c - (a + 1)) = _; split <;> rfl) (by rw [List.length_drop, chs_len, HL.out.1]; omega) (news_ite (fun h => List.drop_eq_nil_of_le (by rw [chs_len, HL.out.1]; omega)) (news_grown n2 hgrow3 (by simp; omega) (by simp [Value.ownBlock]; omega))) (fun u hu => chs_one L u (List.mem_of_mem_drop hu)) (by unfold maxLen; omega) (by omega) (Nat.le_trans (by simp) hgrow3.size) ?_; intro v4 w4 hown4 hgrow4 hne4))
          go_wp2
          obtain ⟨g', c', hv4⟩ := own_some hown4 (fun h => by cases hne3 (hne4 h))
          subst hv4
          have hB3 := (hB2'.alloc hB2'.size (.cells #[] 3)).drew.grown hgrow3 (by have := hB2'.size; simp; omega) (fun j hj => by simp [Value.ownBlock] at hj; have := hB2'.size; omega)
          have hB4 := hB3.grown hgrow4 hB3.size (fun j hj => Nat.le_trans hB2'.size (hown3.lt j hj).1)
          have he := erase_filter L (HL.out.2.1.nodup (lst_nodup m)) a haL f HA.out.1
          have hce : chs (L.filter (fun x => decide (x.val ≠ f))) = ([] ++ (chs L).take a) ++ (chs L).drop (a + 1) := by
            rw [← he]
            simp only [chs, List.map_append, List.map_take, List.map_drop, List.nil_append]
          have hle : (L.filter (fun x => decide (x.val ≠ f))).length = 0 + a + (n - (a + 1)) := by
            rw [← he, List.length_append, List.length_take, List.length_drop, HL.out.1]
            omega
          rw [← hce] at hown4
          go_roundw
          case rel => exact ⟨j + 1, _, 0 + a + (n - (a + 1)), g', c', by omega, ⟨hle, List.filter_sublist.trans HL.out.2.1, hG'⟩, rfl, own_base hown4 hB2'.size, hB4⟩
          case measure => simp; omega
      · have hgl := H2.out n hgt
        have hgt' : ¬ Gt L.length := by rw [HL.out.1]; exact hgt
        have e := HGe.out j L (by omega) HL.out.2.2 hgt'
        subst e
        have cof := rof_of wr g n c L m hown HL.out.1 HL.out.2.1
        have COF := Lib.hid cof
        clear cof hgt hgt' hown CW
        go_wp2_with fail
        refine COF.out.mono ?_
        rintro e w3 ⟨rfl, rfl⟩
        go_wp2
        go_ret
        exact ⟨rfl, hB⟩
end Go.Proofs.Ytoaiiceglfmfcaa
