/- attpdu: the reference: Decode at any bytes; AttpduDecodes. AttpduDecodes holds: for every input the law returns true, and each argument reads afterwards as before. No conditions. The walk is 'attpduDecodes_walk'; this text lays the frame of the row. -/
import Derived.Test.YthnffdlnhfhabaaAvGa
import Derived.Test.YthnffdlnhfhabaaAvEa
import Derived.Test.YthnffdlnhfhabaaAvFa
import Derived.Test.YthnffdlnhfhabaaAuG
import Derived.Test.YthnffdlnhfhabaaAuE
import Derived.Test.YthnffdlnhfhabaaFrame2
namespace Go.Proofs.Ythnffdlnhfhabaa
open Go.RowKit

theorem rdec_AHC (x : Nat) (hk : fldC (x : Int) = some [65, 72, 67]) (a : Option Addr) (n c : Nat) (b r : List Nat) (w : World) (h : BytesAt w (.slice a n c) b) (hn : b.length = n) (hc : n ≤ c) (hb : b = x :: r) : Calls Try.prog 18 #[.slice a n c] w (DecPost w b) := by
  have hx : vnum (b.take 1) = x := by rw [hb]; simp [vnum]
  have h0 : 0 < n := by rw [← hn, hb]; simp
  exact rdec_gen x _ hk a n c b w h hn h0 hx 5 (by decide) true true false false false false true false false false rfl fix_AHC (fun q => by rw [hb]; exact decP_big x r _ hk (by rw [hb, List.length_cons] at hn; omega)) (fun q1 q2 => dshort_AHC x b r hb hk (by omega) (by omega)) (fun q1 q2 _ _ _ => dlong_AHC x b r hb hk (by omega) (by omega)) ⟨((vnum ((b.drop 1).take 1) : Nat) : Int), vnum ((b.drop 2).take 2), 0, 0, 0, ((vnum ((b.drop 4).take 1) : Nat) : Int), false⟩ 0 (b.drop 5) 0 (vnum2_lt (b.drop 2) (fun y hy => h.2.2 y (List.mem_of_mem_drop hy))) (show (0 : Nat) < 65536 by decide) (fun q1 q2 _ W hW => tak_AHC x hk a n c b W (h.below hW) hn hc (by omega) (by omega)) (fun q1 q2 q3 => dfull_AHC x b r hb hk (by omega) (by omega) (by rcases q3 with e | e | e | e; (· omega); (· cases e); (· cases e); (· cases e)))
theorem rdec_M (x : Nat) (hk : fldC (x : Int) = some [77]) (a : Option Addr) (n c : Nat) (b r : List Nat) (w : World) (h : BytesAt w (.slice a n c) b) (hn : b.length = n) (hc : n ≤ c) (hb : b = x :: r) : Calls Try.prog 18 #[.slice a n c] w (DecPost w b) := by
  have hx : vnum (b.take 1) = x := by rw [hb]; simp [vnum]
  have h0 : 0 < n := by rw [← hn, hb]; simp
  exact rdec_gen x _ hk a n c b w h hn h0 hx 3 (by decide) false false false false false true false false false false rfl fix_M (fun q => by rw [hb]; exact decP_big x r _ hk (by rw [hb, List.length_cons] at hn; omega)) (fun q1 q2 => dshort_M x b r hb hk (by omega) (by omega)) (fun q1 q2 _ _ _ => dlong_M x b r hb hk (by omega) (by omega)) ⟨0, 0, 0, 0, ((vnum ((b.drop 1).take 2) : Nat) : Int), 0, false⟩ 0 (b.drop 3) 0 (show (0 : Nat) < 65536 by decide) (show (0 : Nat) < 65536 by decide) (fun q1 q2 _ W hW => tak_M x hk a n c b W (h.below hW) hn hc (by omega) (by omega)) (fun q1 q2 q3 => dfull_M x b r hb hk (by omega) (by omega) (by rcases q3 with e | e | e | e; (· omega); (· cases e); (· cases e); (· cases e)))
theorem rdec_HL (x : Nat) (hk : fldC (x : Int) = some [72, 76]) (a : Option Addr) (n c : Nat) (b r : List Nat) (w : World) (h : BytesAt w (.slice a n c) b) (hn : b.length = n) (hc : n ≤ c) (hb : b = x :: r) : Calls Try.prog 18 #[.slice a n c] w (DecPost w b) := by
  have hx : vnum (b.take 1) = x := by rw [hb]; simp [vnum]
  have h0 : 0 < n := by rw [← hn, hb]; simp
  exact rdec_gen x _ hk a n c b w h hn h0 hx 5 (by decide) false true true false false false false false false false rfl fix_HL (fun q => by rw [hb]; exact decP_big x r _ hk (by rw [hb, List.length_cons] at hn; omega)) (fun q1 q2 => dshort_HL x b r hb hk (by omega) (by omega)) (fun q1 q2 _ _ _ => dlong_HL x b r hb hk (by omega) (by omega)) ⟨0, vnum ((b.drop 1).take 2), vnum ((b.drop 3).take 2), 0, 0, 0, false⟩ 0 (b.drop 5) 0 (vnum2_lt (b.drop 1) (fun y hy => h.2.2 y (List.mem_of_mem_drop hy))) (vnum2_lt (b.drop 3) (fun y hy => h.2.2 y (List.mem_of_mem_drop hy))) (fun q1 q2 _ W hW => tak_HL x hk a n c b W (h.below hW) hn hc (by omega) (by omega)) (fun q1 q2 q3 => dfull_HL x b r hb hk (by omega) (by omega) (by rcases q3 with e | e | e | e; (· omega); (· cases e); (· cases e); (· cases e)))
theorem rdec_HLT (x : Nat) (hk : fldC (x : Int) = some [72, 76, 84]) (a : Option Addr) (n c : Nat) (b r : List Nat) (w : World) (h : BytesAt w (.slice a n c) b) (hn : b.length = n) (hc : n ≤ c) (hb : b = x :: r) : Calls Try.prog 18 #[.slice a n c] w (DecPost w b) := by
  have hx : vnum (b.take 1) = x := by rw [hb]; simp [vnum]
  have h0 : 0 < n := by rw [← hn, hb]; simp
  exact rdec_gen x _ hk a n c b w h hn h0 hx 5 (by decide) false true true true false false false false false false rfl fix_HLT (fun q => by rw [hb]; exact decP_big x r _ hk (by rw [hb, List.length_cons] at hn; omega)) (fun q1 q2 => dshort_HLT x b r hb hk (by omega) (by omega)) (fun _ _ h4 h9 h10 => by first | exact absurd h4 (by decide) | exact absurd h9 (by decide) | exact absurd h10 (by decide)) ⟨0, vnum ((b.drop 1).take 2), vnum ((b.drop 3).take 2), 0, 0, 0, false⟩ 84 (b.drop 5) (remE x 84 (b.drop 5)) (vnum2_lt (b.drop 1) (fun y hy => h.2.2 y (List.mem_of_mem_drop hy))) (vnum2_lt (b.drop 3) (fun y hy => h.2.2 y (List.mem_of_mem_drop hy))) (fun q1 q2 _ W hW => tak_HLT x hk a n c b W (h.below hW) hn hc (by omega) (by omega)) (fun q1 q2 q3 => dfull_HLT x b r hb hk (by omega) (by omega))
theorem rdec_H (x : Nat) (hk : fldC (x : Int) = some [72]) (a : Option Addr) (n c : Nat) (b r : List Nat) (w : World) (h : BytesAt w (.slice a n c) b) (hn : b.length = n) (hc : n ≤ c) (hb : b = x :: r) : Calls Try.prog 18 #[.slice a n c] w (DecPost w b) := by
  have hx : vnum (b.take 1) = x := by rw [hb]; simp [vnum]
  have h0 : 0 < n := by rw [← hn, hb]; simp
  exact rdec_gen x _ hk a n c b w h hn h0 hx 3 (by decide) false true false false false false false false false false rfl fix_H (fun q => by rw [hb]; exact decP_big x r _ hk (by rw [hb, List.length_cons] at hn; omega)) (fun q1 q2 => dshort_H x b r hb hk (by omega) (by omega)) (fun q1 q2 _ _ _ => dlong_H x b r hb hk (by omega) (by omega)) ⟨0, vnum ((b.drop 1).take 2), 0, 0, 0, 0, false⟩ 0 (b.drop 3) 0 (vnum2_lt (b.drop 1) (fun y hy => h.2.2 y (List.mem_of_mem_drop hy))) (show (0 : Nat) < 65536 by decide) (fun q1 q2 _ W hW => tak_H x hk a n c b W (h.below hW) hn hc (by omega) (by omega)) (fun q1 q2 q3 => dfull_H x b r hb hk (by omega) (by omega) (by rcases q3 with e | e | e | e; (· omega); (· cases e); (· cases e); (· cases e)))
theorem rdec_HO (x : Nat) (hk : fldC (x : Int) = some [72, 79]) (a : Option Addr) (n c : Nat) (b r : List Nat) (w : World) (h : BytesAt w (.slice a n c) b) (hn : b.length = n) (hc : n ≤ c) (hb : b = x :: r) : Calls Try.prog 18 #[.slice a n c] w (DecPost w b) := by
  have hx : vnum (b.take 1) = x := by rw [hb]; simp [vnum]
  have h0 : 0 < n := by rw [← hn, hb]; simp
  exact rdec_gen x _ hk a n c b w h hn h0 hx 5 (by decide) false true false false true false false false false false rfl fix_HO (fun q => by rw [hb]; exact decP_big x r _ hk (by rw [hb, List.length_cons] at hn; omega)) (fun q1 q2 => dshort_HO x b r hb hk (by omega) (by omega)) (fun q1 q2 _ _ _ => dlong_HO x b r hb hk (by omega) (by omega)) ⟨0, vnum ((b.drop 1).take 2), 0, ((vnum ((b.drop 3).take 2) : Nat) : Int), 0, 0, false⟩ 0 (b.drop 5) 0 (vnum2_lt (b.drop 1) (fun y hy => h.2.2 y (List.mem_of_mem_drop hy))) (show (0 : Nat) < 65536 by decide) (fun q1 q2 _ W hW => tak_HO x hk a n c b W (h.below hW) hn hc (by omega) (by omega)) (fun q1 q2 q3 => dfull_HO x b r hb hk (by omega) (by omega) (by rcases q3 with e | e | e | e; (· omega); (· cases e); (· cases e); (· cases e)))
theorem rdec_V (x : Nat) (hk : fldC (x : Int) = some [86]) (a : Option Addr) (n c : Nat) (b r : List Nat) (w : World) (h : BytesAt w (.slice a n c) b) (hn : b.length = n) (hc : n ≤ c) (hb : b = x :: r) : Calls Try.prog 18 #[.slice a n c] w (DecPost w b) := by
  have hx : vnum (b.take 1) = x := by rw [hb]; simp [vnum]
  have h0 : 0 < n := by rw [← hn, hb]; simp
  exact rdec_gen x _ hk a n c b w h hn h0 hx 1 (by decide) false false false false false false false false true false rfl fix_V (fun q => by rw [hb]; exact decP_big x r _ hk (by rw [hb, List.length_cons] at hn; omega)) (fun _ q2 => by omega) (fun _ _ h4 h9 h10 => by first | exact absurd h4 (by decide) | exact absurd h9 (by decide) | exact absurd h10 (by decide)) ⟨0, 0, 0, 0, 0, 0, false⟩ 86 (b.drop 1) (remE x 86 (b.drop 1)) (show (0 : Nat) < 65536 by decide) (show (0 : Nat) < 65536 by decide) (fun q1 q2 _ W hW => tak_V x hk a n c b W (h.below hW) hn hc (by omega) (by omega)) (fun q1 q2 q3 => dfull_V x b r hb hk (by omega) (by omega))
theorem rdec_HV (x : Nat) (hk : fldC (x : Int) = some [72, 86]) (a : Option Addr) (n c : Nat) (b r : List Nat) (w : World) (h : BytesAt w (.slice a n c) b) (hn : b.length = n) (hc : n ≤ c) (hb : b = x :: r) : Calls Try.prog 18 #[.slice a n c] w (DecPost w b) := by
  have hx : vnum (b.take 1) = x := by rw [hb]; simp [vnum]
  have h0 : 0 < n := by rw [← hn, hb]; simp
  exact rdec_gen x _ hk a n c b w h hn h0 hx 3 (by decide) false true false false false false false false true false rfl fix_HV (fun q => by rw [hb]; exact decP_big x r _ hk (by rw [hb, List.length_cons] at hn; omega)) (fun q1 q2 => dshort_HV x b r hb hk (by omega) (by omega)) (fun _ _ h4 h9 h10 => by first | exact absurd h4 (by decide) | exact absurd h9 (by decide) | exact absurd h10 (by decide)) ⟨0, vnum ((b.drop 1).take 2), 0, 0, 0, 0, false⟩ 86 (b.drop 3) (remE x 86 (b.drop 3)) (vnum2_lt (b.drop 1) (fun y hy => h.2.2 y (List.mem_of_mem_drop hy))) (show (0 : Nat) < 65536 by decide) (fun q1 q2 _ W hW => tak_HV x hk a n c b W (h.below hW) hn hc (by omega) (by omega)) (fun q1 q2 q3 => dfull_HV x b r hb hk (by omega) (by omega))
theorem rdec_HOV (x : Nat) (hk : fldC (x : Int) = some [72, 79, 86]) (a : Option Addr) (n c : Nat) (b r : List Nat) (w : World) (h : BytesAt w (.slice a n c) b) (hn : b.length = n) (hc : n ≤ c) (hb : b = x :: r) : Calls Try.prog 18 #[.slice a n c] w (DecPost w b) := by
  have hx : vnum (b.take 1) = x := by rw [hb]; simp [vnum]
  have h0 : 0 < n := by rw [← hn, hb]; simp
  exact rdec_gen x _ hk a n c b w h hn h0 hx 5 (by decide) false true false false true false false false true false rfl fix_HOV (fun q => by rw [hb]; exact decP_big x r _ hk (by rw [hb, List.length_cons] at hn; omega)) (fun q1 q2 => dshort_HOV x b r hb hk (by omega) (by omega)) (fun _ _ h4 h9 h10 => by first | exact absurd h4 (by decide) | exact absurd h9 (by decide) | exact absurd h10 (by decide)) ⟨0, vnum ((b.drop 1).take 2), 0, ((vnum ((b.drop 3).take 2) : Nat) : Int), 0, 0, false⟩ 86 (b.drop 5) (remE x 86 (b.drop 5)) (vnum2_lt (b.drop 1) (fun y hy => h.2.2 y (List.mem_of_mem_drop hy))) (show (0 : Nat) < 65536 by decide) (fun q1 q2 _ W hW => tak_HOV x hk a n c b W (h.below hW) hn hc (by omega) (by omega)) (fun q1 q2 q3 => dfull_HOV x b r hb hk (by omega) (by omega))
theorem rdec_X (x : Nat) (hk : fldC (x : Int) = some [88]) (a : Option Addr) (n c : Nat) (b r : List Nat) (w : World) (h : BytesAt w (.slice a n c) b) (hn : b.length = n) (hc : n ≤ c) (hb : b = x :: r) : Calls Try.prog 18 #[.slice a n c] w (DecPost w b) := by
  have hx : vnum (b.take 1) = x := by rw [hb]; simp [vnum]
  have h0 : 0 < n := by rw [← hn, hb]; simp
  exact rdec_gen x _ hk a n c b w h hn h0 hx 2 (by decide) false false false false false false false true false false rfl fix_X (fun q => by rw [hb]; exact decP_big x r _ hk (by rw [hb, List.length_cons] at hn; omega)) (fun q1 q2 => dshort_X x b r hb hk (by omega) (by omega)) (fun q1 q2 _ _ _ => dlong_X x b r hb hk (by omega) (by omega)) ⟨0, 0, 0, 0, 0, 0, (((vnum ((b.drop 1).take 1) : Nat) : Int) == 1)⟩ 0 (b.drop 2) (if 1 < vnum ((b.drop 1).take 1) then (2 : Int) else 0) (show (0 : Nat) < 65536 by decide) (show (0 : Nat) < 65536 by decide) (fun q1 q2 _ W hW => tak_X x hk a n c b W (h.below hW) hn hc (by omega) (by omega)) (fun q1 q2 q3 => dfull_X x b r hb hk (by omega) (by omega) (by rcases q3 with e | e | e | e; (· omega); (· cases e); (· cases e); (· cases e)))
theorem rdec_n (x : Nat) (hk : fldC (x : Int) = some []) (a : Option Addr) (n c : Nat) (b r : List Nat) (w : World) (h : BytesAt w (.slice a n c) b) (hn : b.length = n) (hc : n ≤ c) (hb : b = x :: r) : Calls Try.prog 18 #[.slice a n c] w (DecPost w b) := by
  have hx : vnum (b.take 1) = x := by rw [hb]; simp [vnum]
  have h0 : 0 < n := by rw [← hn, hb]; simp
  exact rdec_gen x _ hk a n c b w h hn h0 hx 1 (by decide) false false false false false false false false false false rfl fix_n (fun q => by rw [hb]; exact decP_big x r _ hk (by rw [hb, List.length_cons] at hn; omega)) (fun _ q2 => by omega) (fun q1 q2 _ _ _ => dlong_n x b r hb hk (by omega) (by omega)) ⟨0, 0, 0, 0, 0, 0, false⟩ 0 (b.drop 1) 0 (show (0 : Nat) < 65536 by decide) (show (0 : Nat) < 65536 by decide) (fun q1 q2 _ W hW => tak_n x hk a n c b W (h.below hW) hn hc (by omega) (by omega)) (fun q1 q2 q3 => dfull_n x b r hb hk (by omega) (by omega) (by rcases q3 with e | e | e | e; (· omega); (· cases e); (· cases e); (· cases e)))
theorem rdec_I (x : Nat) (hk : fldC (x : Int) = some [73]) (a : Option Addr) (n c : Nat) (b r : List Nat) (w : World) (h : BytesAt w (.slice a n c) b) (hn : b.length = n) (_hc : n ≤ c) (hb : b = x :: r)
    (hlist : ∀ W, Below w.heap.size w W → 2 ≤ n → n ≤ 1000 → Calls Try.prog 61 #[.agg #[.int .i64 x, .int .i64 0, .int .u16 0, .int .u16 0, .int .u64 0, .int .u64 0, .int .i64 0, .int .i64 0, .int .i64 0, .bool false, .slice none 0 0, .slice none 0 0], .slice a n c] W (TakPost W x nm0 73 (b.drop 1) (remE x 73 (b.drop 1)))) : Calls Try.prog 18 #[.slice a n c] w (DecPost w b) := by
  have hx : vnum (b.take 1) = x := by rw [hb]; simp [vnum]
  have h0 : 0 < n := by rw [← hn, hb]; simp
  exact rdec_gen x _ hk a n c b w h hn h0 hx 2 (by decide) false false false false false false false false false true rfl fix_I (fun q => by rw [hb]; exact decP_big x r _ hk (by rw [hb, List.length_cons] at hn; omega)) (fun q1 q2 => dshort_I x b r hb hk (by omega) (by omega)) (fun _ _ h4 h9 h10 => by first | exact absurd h4 (by decide) | exact absurd h9 (by decide) | exact absurd h10 (by decide)) nm0 73 (b.drop 1) (remE x 73 (b.drop 1)) (show (0 : Nat) < 65536 by decide) (show (0 : Nat) < 65536 by decide) (fun q1 q2 _ W hW => tak_I x hk a n c W _ _ (fun W' hW' => hlist W' (hW.trans (hW'.mono hW.size)) (by omega) (by omega))) (fun q1 q2 q3 => dfull_I x b r hb hk (by omega) (by omega))
theorem rdecode_pdu (a : Option Addr) (n c : Nat) (b : List Nat) (w : World) (h : BytesAt w (.slice a n c) b) (hn : b.length = n) (hc : n ≤ c) : Calls Try.prog 18 #[.slice a n c] w (DecPost w b) := by
  cases b with
  | nil =>
    obtain rfl : 0 = n := hn
    exact rdec_empty a c w
  | cons x r =>
    rcases att_kinds (x : Int) with hx1 | hx1 | hx1 | hx1 | hx1 | hx1 | hx1 | hx1 | hx1 | hx1 | hx1 | hx1 | hx1 | hx1 | hx1 | hx1 | hx1 | hx1 | hx1 | hx1 | hx1 | hx1 | hx1 | hne
    · obtain rfl : x = 1 := by omega
      exact rdec_AHC 1 rfl a n c _ r w h hn hc rfl
    · obtain rfl : x = 2 := by omega
      exact rdec_M 2 rfl a n c _ r w h hn hc rfl
    · obtain rfl : x = 3 := by omega
      exact rdec_M 3 rfl a n c _ r w h hn hc rfl
    · obtain rfl : x = 4 := by omega
      exact rdec_HL 4 rfl a n c _ r w h hn hc rfl
    · obtain rfl : x = 5 := by omega
      exact rdec_I 5 rfl a n c _ r w h hn hc rfl (fun W hW q1 q2 => listed_5 a n c _ W (h.below hW) hn hc q1 q2)
    · obtain rfl : x = 8 := by omega
      exact rdec_HLT 8 rfl a n c _ r w h hn hc rfl
    · obtain rfl : x = 9 := by omega
      exact rdec_I 9 rfl a n c _ r w h hn hc rfl (fun W hW q1 q2 => listed_9 a n c _ W (h.below hW) hn hc q1 q2)
    · obtain rfl : x = 10 := by omega
      exact rdec_H 10 rfl a n c _ r w h hn hc rfl
    · obtain rfl : x = 11 := by omega
      exact rdec_V 11 rfl a n c _ r w h hn hc rfl
    · obtain rfl : x = 12 := by omega
      exact rdec_HO 12 rfl a n c _ r w h hn hc rfl
    · obtain rfl : x = 13 := by omega
      exact rdec_V 13 rfl a n c _ r w h hn hc rfl
    · obtain rfl : x = 16 := by omega
      exact rdec_HLT 16 rfl a n c _ r w h hn hc rfl
    · obtain rfl : x = 17 := by omega
      exact rdec_I 17 rfl a n c _ r w h hn hc rfl (fun W hW q1 q2 => listed_17 a n c _ W (h.below hW) hn hc q1 q2)
    · obtain rfl : x = 18 := by omega
      exact rdec_HV 18 rfl a n c _ r w h hn hc rfl
    · obtain rfl : x = 19 := by omega
      exact rdec_n 19 rfl a n c _ r w h hn hc rfl
    · obtain rfl : x = 22 := by omega
      exact rdec_HOV 22 rfl a n c _ r w h hn hc rfl
    · obtain rfl : x = 23 := by omega
      exact rdec_HOV 23 rfl a n c _ r w h hn hc rfl
    · obtain rfl : x = 24 := by omega
      exact rdec_X 24 rfl a n c _ r w h hn hc rfl
    · obtain rfl : x = 25 := by omega
      exact rdec_n 25 rfl a n c _ r w h hn hc rfl
    · obtain rfl : x = 27 := by omega
      exact rdec_HV 27 rfl a n c _ r w h hn hc rfl
    · obtain rfl : x = 29 := by omega
      exact rdec_HV 29 rfl a n c _ r w h hn hc rfl
    · obtain rfl : x = 30 := by omega
      exact rdec_n 30 rfl a n c _ r w h hn hc rfl
    · obtain rfl : x = 82 := by omega
      exact rdec_HV 82 rfl a n c _ r w h hn hc rfl
    · have hk := fldC_none (x : Int) hne
      exact rdec_none x hk a n c _ w h hn (by rw [← hn]; simp) (by simp [vnum]) (decP_unk x r hk)
set_option linter.unusedSimpArgs false in
set_option linter.unusedVariables false in
set_option maxRecDepth 100000 in
set_option maxHeartbeats 4000000 in
theorem attpduDecodes_walk (v0 : Value) (w : World) (a0 : Arg Try.prog w 26 v0) :
    Calls Try.prog 5 #[v0] w fun e w' => e = .returned (.bool true) ∧ Below w.heap.size w w' := by
  obtain ⟨a, n, c, bs, rfl, hval, hlen, hc⟩ := arg_bytes_cap a0
  have hb := hval.2.2
  have hnb : n ≤ 140737488355328 := by have := hval.2.1; unfold reachBytes at this; omega
  have hd := fun W (hW : Below w.heap.size w W) => adecode_any a n c bs W (hval.below hW) hlen hc
  have HD := Lib.hid hd
  have HVAL := Lib.hid hval
  have HLEN := Lib.hid hlen
  have HBS := Lib.hid hb
  clear a0 hval hlen hb hd
  by_cases hl : 1000 < n
  · have g1 : decide (1000 < n) = true := by simpa using hl
    have g1' : decide ((1000 : Int) < (n : Int)) = true := by simp; omega
    go_enter Try.func5, Try.ntmps5
    go_wp2_with fail
    refine (example_any _).mono ?_
    rintro e w2 ⟨rfl, hB2⟩
    go_wp2
    go_ret
    exact ⟨rfl, hB2⟩
  have g1 : decide (1000 < n) = false := by simpa using hl
  have g1' : decide ((1000 : Int) < (n : Int)) = false := by simp; omega
  have hr := fun W (hW : Below w.heap.size w W) => rdecode_pdu a n c bs W (HVAL.out.below hW) HLEN.out hc
  have HRD := Lib.hid hr
  clear hr
  obtain ⟨⟨E, P⟩, hEP⟩ : ∃ P, decP bs = P := ⟨_, rfl⟩
  obtain ⟨ki, ⟨ak, ha, la, of, mt, co, cm⟩, hi, lo, pb, pits⟩ := P
  have HEP := Lib.hid hEP
  clear hEP
  go_enter Try.func5, Try.ntmps5
  go_wp2_with fail
  refine (HD.out _ (Below.refl _ _)).mono ?_
  rintro e w2 ⟨av, nv, cv, al, m, d, its, he, hbv, hnv, hits, hdt, hB2⟩
  rw [HEP.out] at he hbv hnv hdt
  simp only at he hbv hnv hdt
  subst he
  have hal := (Below.refl w2.heap.size w2).alloc (Nat.le_refl _) (.cells #[.int .i64 ki, .int .i64 ak, .int .u16 ha, .int .u16 la, .int .u64 hi, .int .u64 lo, .int .i64 of, .int .i64 mt, .int .i64 co, .bool cm, .slice av nv cv, .slice al m d] 29)
  have HX := Lib.hid (And.intro (hB2.alloc hB2.size (.cells #[.int .i64 ki, .int .i64 ak, .int .u16 ha, .int .u16 la, .int .u64 hi, .int .u64 lo, .int .i64 of, .int .i64 mt, .int .i64 co, .bool cm, .slice av nv cv, .slice al m d] 29)) (And.intro (Blk.new w2 29 [.int .i64 ki, .int .i64 ak, .int .u16 ha, .int .u16 la, .int .u64 hi, .int .u64 lo, .int .i64 of, .int .i64 mt, .int .i64 co, .bool cm, .slice av nv cv, .slice al m d]) (And.intro (hbv.below hal) (hits.below hal))))
  have HDT := Lib.hid hdt
  have HNV := Lib.hid hnv
  clear hB2 hal hbv hits hdt hnv HD
  go_upto_region 4 with fail
  generalize World.alloc _ _ = Y at HX ⊢
  go_wp2_with fail
  refine (HRD.out _ HX.out.1).mono ?_
  rintro e w3 ⟨bv, nv2, dv, bl, m2, e', its2, he, hbv, hnv, hits, hdt, hB3⟩
  rw [HEP.out] at he hbv hnv hdt
  simp only at he hbv hnv hdt
  subst he
  obtain rfl : nv2 = nv := by have := HNV.out; omega
  obtain rfl : m2 = m := by
    have h1 := congrArg List.length hdt
    have h2 := congrArg List.length HDT.out
    rw [List.length_map, hits.1] at h1
    rw [List.length_map, HX.out.2.2.2.1] at h2
    omega
  have hal := (Below.refl w3.heap.size w3).alloc (Nat.le_refl _) (.cells #[.int .i64 ki, .int .i64 ak, .int .u16 ha, .int .u16 la, .int .u64 hi, .int .u64 lo, .int .i64 of, .int .i64 mt, .int .i64 co, .bool cm, .slice bv nv2 dv, .slice bl m2 e'] 29)
  have hb3 := HX.out.1.trans (hB3.mono HX.out.1.size)
  have HY := Lib.hid (And.intro (hb3.alloc hb3.size (.cells #[.int .i64 ki, .int .i64 ak, .int .u16 ha, .int .u16 la, .int .u64 hi, .int .u64 lo, .int .i64 of, .int .i64 mt, .int .i64 co, .bool cm, .slice bv nv2 dv, .slice bl m2 e'] 29)) (And.intro (((HX.out.2.1.below hB3).below hal).cells.app (Blk.new w3 29 [.int .i64 ki, .int .i64 ak, .int .u16 ha, .int .u16 la, .int .u64 hi, .int .u64 lo, .int .i64 of, .int .i64 mt, .int .i64 co, .bool cm, .slice bv nv2 dv, .slice bl m2 e']).cells) (And.intro ((HX.out.2.2.1.below hB3).below hal) (And.intro ((HX.out.2.2.2.below hB3).below hal) (And.intro (hbv.below hal) (hits.below hal))))))
  have HDT2 := Lib.hid (HDT.out.trans hdt.symm)
  clear hal hb3 hB3 hbv hits hdt hnv HX HRD
  go_upto_region 5 with fail
  generalize World.alloc _ _ = Y2 at HY ⊢
  have TT := HY.out.2.1
  have hOpen := TT
  simp only [Cells, blk, List.cons_append, List.nil_append, and_true, Nat.reduceAdd, Nat.add_zero, Nat.zero_add] at hOpen
  obtain ⟨y0, y1, y2, y3, y4, y5, y6, y7, y8, y9, yA, yB, z0, z1, z2, z3, z4, z5, z6, z7, z8, z9, zA, zB⟩ := hOpen
  clear TT
  go_wp2_with fail
  refine (samePDU_any ki ak ha la hi lo of mt co cm av al bv bl nv2 cv dv m2 d e' pb its its2 _ HY.out.2.2.1 HY.out.2.2.2.2.1 HY.out.2.2.2.1 HY.out.2.2.2.2.2 HDT2.out).mono ?_
  rintro e w5 ⟨rfl, hB5⟩
  have HB5 := Lib.hid (HY.out.1.trans (hB5.mono HY.out.1.size))
  clear hB5 y0 y1 y2 y3 y4 y5 y6 y7 y8 y9 yA yB z0 z1 z2 z3 z4 z5 z6 z7 z8 z9 zA zB HY
  go_wp2_with fail
  refine (example_any _).mono ?_
  rintro e w6 ⟨rfl, hB6⟩
  have hBf := HB5.out.trans (hB6.mono HB5.out.size)
  clear hB6
  go_wp2
  go_ret
  exact ⟨rfl, hBf⟩
end Go.Proofs.Ythnffdlnhfhabaa
namespace Go.Proofs.Ythnffdlnhfhabaa
open Go.ChangeShapes Go.WideShapes Go.ChangeAt Go.RowKit
namespace attpduDecodes

set_option maxRecDepth 100000 in
theorem lifted (os : Os) (started : os.Started) (H : Type) (enc : TypeId × Value → H) :
    ReturnsInHanded {} Try.checked os 5 .any (Rows.attpduDecodesSpec.pre6 enc Try.prog Try.f5 Rows.attpduDecodesRow.domain false) (Rows.attpduDecodesSpec.post enc Try.prog Try.f5 false true false false) := by
  refine returnsInHanded_of_change_sized (C := Try.checked) Try.own started (by kernel_rfl) Try.func5
    (ChangeSpec.witness6 (enc := enc) (C := Try.checked) false ⟨#[], #[.slice none 0 0], []⟩ 8 (by kernel_rfl) (by kernel_rfl) (by kernel_rfl) (by kernel_rfl)) ?_
  intro W base args ds gs before hval0 hW hcnd hsz _
  have hval : ∀ (j : Nat) t v, Try.f5.params[j]? = some t → args[j]? = some v → Value.okWide Try.prog W .any base t v := hval0
  have hW' := hW
  obtain ⟨p, q, hA0, hV, rfl, hfz, hnd⟩ := hW
  have hA : DataW.TrodAll enc Try.prog W 0 (fun _ => true) true Try.f5.params.toList args.toList ds p := hA0
  rw [Try.params5] at hA hval hsz
  obtain ⟨v0, vs0, d0, ds0, p0, q0, hargs, rfl, rfl, h0, r0⟩ := trodAll_cons hA
  obtain ⟨rfl, rfl, rfl⟩ := trodAll_nil r0
  obtain rfl : args = #[v0] := by cases args; simp_all
  obtain ⟨rfl, rfl⟩ := trodVars_none hV
  have a0 : Arg Try.prog W 26 v0 := Arg.of (hval 0 26 v0 rfl rfl) h0 (sized_each hsz (j := 0) rfl rfl)
  have lt0 : ∀ x ∈ p0, x.block < W.heap.size := by obtain ⟨m, hm⟩ := h0; exact DataW.trod_lt m _ _ _ hm
  clear hA0 hval0
  refine (attpduDecodes_walk v0 W a0).mono fun e W' ⟨he, bel⟩ => ?_
  subst he
  exact ⟨_, rfl, _, _, _, [], _, [], hW', trodAll_mk1 (shut_bool Try.underlying4 _), (trodAll_cons_mk (Below.trod Try.laid (by kernel_rfl) (of_decide_eq_true (by kernel_rfl)) h0 bel lt0) trodAll_mk0), rfl, bel.frame _, fun h => by cases h⟩

theorem over : Rows.attpduDecodesRow.holds Try.pinned (OpenSpec.ofChange Rows.attpduDecodesSpec) :=
  OpenClaim.holds_of_wide 5 Try.f5 rfl rfl rfl rfl rfl rfl rfl ⟨rfl, rfl, rfl, rfl, rfl⟩ rfl rfl rfl rfl rfl (by kernel_rfl) Try.func5 (by kernel_rfl)
    (of_decide_eq_true (by kernel_rfl)) (by unfold Func.isWrapper; first | (rw [if_pos (by decide +kernel)]; kernel_rfl) | (rw [if_neg (by decide +kernel)]; exact ⟨rfl, rfl⟩))
    (fun os started H enc _ => lifted os started H enc)
end attpduDecodes

/-- the statement -/
theorem attpduDecodes_proved : Rows.AttpduDecodesSaid := attpduDecodes.over
#print axioms attpduDecodes_proved
end Go.Proofs.Ythnffdlnhfhabaa
