/- Walks of the laws FnExactConstants, FnExactIsWord, FnExactMappingOk and FnExactClamp. -/
import Derived.Test.YtamlfjkkpgmjiaaDoorNumW
namespace Go.Proofs.YtamlfjkkpgmjiaaDoor
open Go.RowKit

theorem impl_isWord (x : Int) (w : World) : Calls Tryd.prog 56 #[.int .i64 x] w fun e w' => e = .returned (.bool (btw x 0 4294967295)) ∧ w = w' := by
  go_enter Tryd.func56, Tryd.ntmps56
  go_wp2_with (go_at_call 42; refine (impl_between _ _ _ _).mono ?_; rintro e w' ⟨rfl, rfl⟩)
  go_ret
  exact ⟨rfl, rfl⟩

theorem spec_isWord (x : Int) (w : World) : Calls Tryd.prog 58 #[.int .i64 x] w fun e w' => e = .returned (.bool (btw x 0 4294967295)) ∧ w = w' := by
  go_enter Tryd.func58, Tryd.ntmps58
  go_wp2_with (go_at_call 40; refine (spec_in _ _ _ _).mono ?_; rintro e w' ⟨rfl, rfl⟩)
  go_ret
  exact ⟨rfl, rfl⟩









end Go.Proofs.YtamlfjkkpgmjiaaDoor
