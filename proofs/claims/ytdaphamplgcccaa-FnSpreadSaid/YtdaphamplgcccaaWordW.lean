/- Walks of the laws FnExactConstants, FnExactIsWord, FnExactMappingOk and FnExactClamp. -/
import Derived.Test.YtdaphamplgcccaaNumW
namespace Go.Proofs.Ytdaphamplgcccaa
open Go.RowKit









theorem impl_mappingOk (o : Int) (h : Bool) (w : World) : Calls Try.prog 41 #[.agg #[.int .i64 o, .bool h]] w fun e w' => e = .returned (.bool (btw o 0 2)) ∧ Ext w w' := by
  go_enter Try.func41, Try.ntmps41
  go_wp2_with (go_at_call 49; refine (impl_between _ _ _ _).mono ?_; rintro e w' ⟨rfl, rfl⟩)
  go_ret
  exact ⟨rfl, (Ext.refl _).alloc _⟩

theorem spec_mappingOk (o : Int) (h : Bool) (w : World) : Calls Try.prog 50 #[.agg #[.int .i64 o, .bool h]] w fun e w' => e = .returned (.bool (btw o 0 2)) ∧ Ext w w' := by
  go_enter Try.func50, Try.ntmps50
  go_wp2_with (go_at_call 48; refine (spec_in _ _ _ _).mono ?_; rintro e w' ⟨rfl, rfl⟩)
  go_ret
  exact ⟨rfl, (Ext.refl _).alloc _⟩

end Go.Proofs.Ytdaphamplgcccaa
