/- attpdu: AttpduKinds. -/
import Derived.Test.YthnffdlnhfhabaaAuC
import Derived.Test.YthnffdlnhfhabaaAuB
import Derived.Test.YthnffdlnhfhabaaAuE
namespace Go.Proofs.Ythnffdlnhfhabaa
open Go.RowKit

set_option linter.unusedSimpArgs false in
set_option linter.unusedVariables false in
set_option maxRecDepth 100000 in
set_option maxHeartbeats 2000000 in
theorem attpduKinds_walk (v0 v1 : Value) (w : World) (a0 : Arg Try.prog w 3 v0) (a1 : Arg Try.prog w 3 v1) :
    Calls Try.prog 9 #[v0, v1] w fun e w' => e = .returned (.bool true) ∧ Below w.heap.size w w' := by
  obtain ⟨k, rfl, hk⟩ := arg_int a0
  obtain ⟨m, rfl, _⟩ := arg_int a1
  have h1 := fun W => answer_any k hk W
  have h2 := fun W => ranswer_any k hk W
  have h3 := fun W => room_any k m W
  have h4 := fun W => rroom_any k m W
  generalize ansI k = A at h1 h2
  generalize roomI k m = R at h3 h4
  have H1 := Lib.hid h1
  have H2 := Lib.hid h2
  have H3 := Lib.hid h3
  have H4 := Lib.hid h4
  clear a0 a1 h1 h2 h3 h4 hk
  go_enter Try.func9, Try.ntmps9
  go_wp2_with (first | (go_at_call 21; refine (H1.out _).mono ?_; rintro e w' ⟨rfl, rfl⟩) | (go_at_call 22; refine (H2.out _).mono ?_; rintro e w' ⟨rfl, rfl⟩) | (go_at_call 20; refine (H3.out _).mono ?_; rintro e w' ⟨rfl, rfl⟩) | (go_at_call 23; refine (H4.out _).mono ?_; rintro e w' ⟨rfl, rfl⟩) | (go_at_call 11; refine (example_any _).mono ?_; rintro e w' ⟨rfl, hB⟩))
  go_ret
  exact ⟨rfl, hB⟩
end Go.Proofs.Ythnffdlnhfhabaa
