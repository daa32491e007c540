/- Walks of the laws FnExactConstants, FnExactIsWord, FnExactMappingOk and FnExactClamp. -/
import Derived.Test.YtamlfjkkpgmjiaaNumW
namespace Go.Proofs.Ytamlfjkkpgmjiaa
open Go.RowKit

theorem impl_isWord (x : Int) (w : World) : Calls Try.prog 47 #[.int .i64 x] w fun e w' => e = .returned (.bool (btw x 0 4294967295)) ∧ w = w' := by
  go_enter Try.func47, Try.ntmps47
  go_wp2_with (go_at_call 35; refine (impl_between _ _ _ _).mono ?_; rintro e w' ⟨rfl, rfl⟩)
  go_ret
  exact ⟨rfl, rfl⟩

theorem spec_isWord (x : Int) (w : World) : Calls Try.prog 49 #[.int .i64 x] w fun e w' => e = .returned (.bool (btw x 0 4294967295)) ∧ w = w' := by
  go_enter Try.func49, Try.ntmps49
  go_wp2_with (go_at_call 29; refine (spec_in _ _ _ _).mono ?_; rintro e w' ⟨rfl, rfl⟩)
  go_ret
  exact ⟨rfl, rfl⟩









end Go.Proofs.Ytamlfjkkpgmjiaa
