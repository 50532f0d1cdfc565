/- attpdu: the reference: Encode: small laws. -/
import Derived.Test.YthnffdlnhfhabaaAtWa
namespace Go.Proofs.Ythnffdlnhfhabaa
open Go.RowKit

theorem own_len {W : World} {base e sz : Nat} {v : Value} {n n' : Nat} {xs : List Value} (h : W.ownsRow base e sz v n xs) (hn : n = n') : W.ownsRow base e sz v n' xs := hn ▸ h
theorem own_len' {W : World} {base e sz : Nat} {v : Value} {n n' : Nat} {xs : List Value} (h : W.ownsRow base e sz v (n + n') xs) : W.ownsRow base e sz v (n + n') xs := h
theorem fldC_nat (ki : Int) {u : List Nat} (hk : fldC ki = some u) : ∃ K : Nat, ki = K := ⟨ki.toNat, by
  rcases att_kinds ki with rfl | rfl | rfl | rfl | rfl | rfl | rfl | rfl | rfl | rfl | rfl | rfl | rfl | rfl | rfl | rfl | rfl | rfl | rfl | rfl | rfl | rfl | rfl | hne
  case' inr.inr.inr.inr.inr.inr.inr.inr.inr.inr.inr.inr.inr.inr.inr.inr.inr.inr.inr.inr.inr.inr.inr => rw [fldC_none ki hne] at hk; cases hk
  all_goals rfl⟩
set_option maxHeartbeats 1000000 in
theorem rchk_any (ki ak : Int) (ha la hi lo : Nat) (of mt co : Int) (cm : Bool) (a1 a2 : Option Addr) (n c m d : Nat) (its : List It) (w : World) (hits : Items w (.slice a2 m d) m its) (hm : m ≤ 1000) (hbn : ∀ t ∈ its, t.n ≤ 1000000) : Calls Try.prog 13 #[.agg #[.int .i64 ki, .int .i64 ak, .int .u16 ha, .int .u16 la, .int .u64 hi, .int .u64 lo, .int .i64 of, .int .i64 mt, .int .i64 co, .bool cm, .slice a1 n c, .slice a2 m d]] w fun e w' => e = .returned (.int .i64 (chkP ki ak ha la hi lo of mt co cm n m its)) ∧ Below w.heap.size w w' := by
  rcases att_kinds ki with rfl | rfl | rfl | rfl | rfl | rfl | rfl | rfl | rfl | rfl | rfl | rfl | rfl | rfl | rfl | rfl | rfl | rfl | rfl | rfl | rfl | rfl | rfl | hne
  case' inr.inr.inr.inr.inr.inr.inr.inr.inr.inr.inr.inr.inr.inr.inr.inr.inr.inr.inr.inr.inr.inr.inr => exact rchk_none ki hne ak ha la hi lo of mt co cm a1 a2 n c m d its w
  all_goals first
    | exact rchk_AHC _ rfl rfl ak ha la hi lo of mt co cm a1 a2 n c m d its w hits hm hbn
    | exact rchk_M _ rfl rfl ak ha la hi lo of mt co cm a1 a2 n c m d its w hits hm hbn
    | exact rchk_HL _ rfl rfl ak ha la hi lo of mt co cm a1 a2 n c m d its w hits hm hbn
    | exact rchk_HLT _ rfl rfl ak ha la hi lo of mt co cm a1 a2 n c m d its w hits hm hbn
    | exact rchk_H _ rfl rfl ak ha la hi lo of mt co cm a1 a2 n c m d its w hits hm hbn
    | exact rchk_HO _ rfl rfl ak ha la hi lo of mt co cm a1 a2 n c m d its w hits hm hbn
    | exact rchk_V _ rfl rfl ak ha la hi lo of mt co cm a1 a2 n c m d its w hits hm hbn
    | exact rchk_HV _ rfl rfl ak ha la hi lo of mt co cm a1 a2 n c m d its w hits hm hbn
    | exact rchk_HOV _ rfl rfl ak ha la hi lo of mt co cm a1 a2 n c m d its w hits hm hbn
    | exact rchk_X _ rfl rfl ak ha la hi lo of mt co cm a1 a2 n c m d its w hits hm hbn
    | exact rchk_n _ rfl rfl ak ha la hi lo of mt co cm a1 a2 n c m d its w hits hm hbn
    | exact rchk_I _ rfl rfl ak ha la hi lo of mt co cm a1 a2 n c m d its w hits hm hbn
end Go.Proofs.Ythnffdlnhfhabaa
