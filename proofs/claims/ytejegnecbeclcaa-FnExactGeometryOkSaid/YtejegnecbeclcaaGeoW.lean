/- Contracts of the functions of geometry, and the walk of FnExactGeometryOk where the seat has it. -/
import Derived.Test.YtejegnecbeclcaaNumW
namespace Go.Proofs.Ytejegnecbeclcaa
open Go.RowKit

theorem to_geometry (a b c d : Int) (w : World) : Calls Try.prog 23 #[.agg #[.int .i64 a, .int .i64 b, .int .i64 c, .int .i64 d]] w fun e w' => e = .returned (.agg #[.int .i64 a, .int .i64 b, .int .i64 c, .int .i64 d]) ∧ Ext w w' := by
  go_enter Try.func23, Try.ntmps23
  go_wp2
  exact bodyPost_ret (v := .agg #[.int .i64 a, .int .i64 b, .int .i64 c, .int .i64 d]) (by simp [results, Try.results23, go_sem]) rfl ⟨rfl, (((Ext.refl _).alloc _).alloc _).alloc _⟩

theorem impl_geometryOk (a b c d : Int) (w : World) : Calls Try.prog 24 #[.agg #[.int .i64 a, .int .i64 b, .int .i64 c, .int .i64 d]] w fun e w' => e = .returned (.bool (geoB a b c d)) ∧ Ext w w' := by
  go_enter Try.func24, Try.ntmps24
  go_wp2_with (go_at_call 39; refine (impl_between _ _ _ _).mono ?_; rintro e w' ⟨rfl, rfl⟩)
  all_goals (go_ret; exact ⟨by simp [geoB, *], (Ext.refl _).alloc _⟩)

theorem spec_geometryOk (a b c d : Int) (w : World) : Calls Try.prog 22 #[.agg #[.int .i64 a, .int .i64 b, .int .i64 c, .int .i64 d]] w fun e w' => e = .returned (.bool (geoB a b c d)) ∧ Ext w w' := by
  go_enter Try.func22, Try.ntmps22
  go_wp2_with (go_at_call 38; refine (spec_in _ _ _ _).mono ?_; rintro e w' ⟨rfl, rfl⟩)
  all_goals (go_ret; exact ⟨by simp [geoB, *], (Ext.refl _).alloc _⟩)

theorem law_FnExactGeometryOk (w : World) (z0 : List Int) (l0 : z0.length = 4) (_ : ∀ z ∈ z0, (Lit.int .i64 z).wf = true) : Calls Try.prog 7 #[.agg (intCells z0)] w fun e w' => e = .returned (.bool true) ∧ Ext w w' := by
  obtain ⟨a, b, c, d, rfl⟩ := list4 l0
  show Calls _ _ #[.agg #[.int .i64 a, .int .i64 b, .int .i64 c, .int .i64 d]] _ _
  go_enter Try.func7, Try.ntmps7
  go_wp2_with fail
  refine (to_geometry _ _ _ _ _).mono ?_
  rintro e w1 ⟨rfl, x1⟩
  have b0 := (Box.new w _ _).ext x1
  obtain ⟨q100, q101, q102, q103⟩ := b0.cell4
  go_wp2_with fail
  refine (spec_geometryOk _ _ _ _ _).mono ?_
  rintro e w2 ⟨rfl, x2⟩
  have b0 := b0.ext x2
  obtain ⟨q200, q201, q202, q203⟩ := b0.cell4
  go_wp2_with fail
  refine (to_geometry _ _ _ _ _).mono ?_
  rintro e w3 ⟨rfl, x3⟩
  have b0 := b0.ext x3
  obtain ⟨q300, q301, q302, q303⟩ := b0.cell4
  go_wp2_with fail
  refine (impl_geometryOk _ _ _ _ _).mono ?_
  rintro e w4 ⟨rfl, x4⟩
  go_wp2
  go_ret
  exact ⟨rfl, (by repeat (first | exact Ext.refl _ | assumption | refine Ext.alloc ?_ _ | refine Ext.drew ?_ | refine Ext.drewN ?_ _ | (apply Ext.trans; rotate_left; assumption)))⟩
end Go.Proofs.Ytejegnecbeclcaa
