/- Contracts of the functions of geometry, and the walk of FnExactGeometryOk where the seat has it. -/
import Derived.Test.YtamlfjkkpgmjiaaDoorNumW
namespace Go.Proofs.YtamlfjkkpgmjiaaDoor
open Go.RowKit


theorem impl_geometryOk (a b c d : Int) (w : World) : Calls Tryd.prog 37 #[.agg #[.int .i64 a, .int .i64 b, .int .i64 c, .int .i64 d]] w fun e w' => e = .returned (.bool (geoB a b c d)) ∧ Ext w w' := by
  go_enter Tryd.func37, Tryd.ntmps37
  go_wp2_with (go_at_call 42; refine (impl_between _ _ _ _).mono ?_; rintro e w' ⟨rfl, rfl⟩)
  all_goals (go_ret; exact ⟨by simp [geoB, *], (Ext.refl _).alloc _⟩)

theorem spec_geometryOk (a b c d : Int) (w : World) : Calls Tryd.prog 64 #[.agg #[.int .i64 a, .int .i64 b, .int .i64 c, .int .i64 d]] w fun e w' => e = .returned (.bool (geoB a b c d)) ∧ Ext w w' := by
  go_enter Tryd.func64, Tryd.ntmps64
  go_wp2_with (go_at_call 40; refine (spec_in _ _ _ _).mono ?_; rintro e w' ⟨rfl, rfl⟩)
  all_goals (go_ret; exact ⟨by simp [geoB, *], (Ext.refl _).alloc _⟩)


end Go.Proofs.YtamlfjkkpgmjiaaDoor
