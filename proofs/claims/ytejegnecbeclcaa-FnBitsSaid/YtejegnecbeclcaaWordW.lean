/- Walks of the laws FnExactConstants, FnExactIsWord, FnExactMappingOk and FnExactClamp. -/
import Derived.Test.YtejegnecbeclcaaNumW
namespace Go.Proofs.Ytejegnecbeclcaa
open Go.RowKit

theorem impl_isWord (x : Int) (w : World) : Calls Try.prog 16 #[.int .i64 x] w fun e w' => e = .returned (.bool (btw x 0 4294967295)) ∧ w = w' := by
  go_enter Try.func16, Try.ntmps16
  go_wp2_with (go_at_call 39; refine (impl_between _ _ _ _).mono ?_; rintro e w' ⟨rfl, rfl⟩)
  go_ret
  exact ⟨rfl, rfl⟩

theorem spec_isWord (x : Int) (w : World) : Calls Try.prog 15 #[.int .i64 x] w fun e w' => e = .returned (.bool (btw x 0 4294967295)) ∧ w = w' := by
  go_enter Try.func15, Try.ntmps15
  go_wp2_with (go_at_call 38; refine (spec_in _ _ _ _).mono ?_; rintro e w' ⟨rfl, rfl⟩)
  go_ret
  exact ⟨rfl, rfl⟩

theorem law_FnExactConstants (w : World) : Calls Try.prog 3 #[] w fun e w' => e = .returned (.bool true) ∧ Ext w w' := by
  go_enter Try.func3, Try.ntmps3
  go_wp2
  go_ret
  exact ⟨rfl, Ext.refl _⟩

theorem law_FnExactIsWord (w : World) (a0 : Int) (_ : (Lit.int .i64 a0).wf = true) : Calls Try.prog 4 #[.int .i64 a0] w fun e w' => e = .returned (.bool true) ∧ Ext w w' := by
  go_enter Try.func4, Try.ntmps4
  go_wp2_with (first
    | (go_at_call 15; refine (spec_isWord _ _).mono ?_; rintro e w' ⟨rfl, rfl⟩)
    | (go_at_call 16; refine (impl_isWord _ _).mono ?_; rintro e w' ⟨rfl, rfl⟩))
  go_ret
  exact ⟨rfl, Ext.refl _⟩

theorem law_FnExactClamp (w : World) (a0 : Int) (_ : (Lit.int .i64 a0).wf = true) (a1 : Int) (_ : (Lit.int .i64 a1).wf = true) (a2 : Int) (_ : (Lit.int .i64 a2).wf = true) : Calls Try.prog 6 #[.int .i64 a0, .int .i64 a1, .int .i64 a2] w fun e w' => e = .returned (.bool true) ∧ Ext w w' := by
  by_cases h1 : a2 < a1
  · by_cases h2 : a0 < a1
    · go_enter Try.func6, Try.ntmps6
      go_wp2
      go_ret
      exact ⟨rfl, Ext.refl _⟩
    · go_enter Try.func6, Try.ntmps6
      go_wp2
      go_ret
      exact ⟨rfl, Ext.refl _⟩
  · by_cases h2 : a0 < a1
    · go_enter Try.func6, Try.ntmps6
      go_wp2
      go_ret
      exact ⟨rfl, Ext.refl _⟩
    · by_cases h3 : a2 < a0
      · go_enter Try.func6, Try.ntmps6
        go_wp2
        go_ret
        exact ⟨rfl, Ext.refl _⟩
      · go_enter Try.func6, Try.ntmps6
        go_wp2
        go_ret
        exact ⟨rfl, Ext.refl _⟩

theorem impl_mappingOk (o : Int) (h : Bool) (w : World) : Calls Try.prog 19 #[.agg #[.int .i64 o, .bool h]] w fun e w' => e = .returned (.bool (btw o 0 2)) ∧ Ext w w' := by
  go_enter Try.func19, Try.ntmps19
  go_wp2_with (go_at_call 39; refine (impl_between _ _ _ _).mono ?_; rintro e w' ⟨rfl, rfl⟩)
  go_ret
  exact ⟨rfl, (Ext.refl _).alloc _⟩

theorem spec_mappingOk (o : Int) (h : Bool) (w : World) : Calls Try.prog 17 #[.agg #[.int .i64 o, .bool h]] w fun e w' => e = .returned (.bool (btw o 0 2)) ∧ Ext w w' := by
  go_enter Try.func17, Try.ntmps17
  go_wp2_with (go_at_call 38; refine (spec_in _ _ _ _).mono ?_; rintro e w' ⟨rfl, rfl⟩)
  go_ret
  exact ⟨rfl, (Ext.refl _).alloc _⟩

end Go.Proofs.Ytejegnecbeclcaa
