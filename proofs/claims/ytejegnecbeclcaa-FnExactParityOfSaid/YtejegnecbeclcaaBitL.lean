/- Walks of the laws on bits: FnExactBitOf, FnExactWithBit, FnExactMix, FnExactCountBits, FnExactParityOf; and of FnExactMappingOk. -/
import Derived.Test.YtejegnecbeclcaaBitW
namespace Go.Proofs.Ytejegnecbeclcaa
open Go.RowKit

theorem law_FnExactBitOf (w : World) (a0 : Int) (_ : (Lit.int .i64 a0).wf = true) (a1 : Int) (_ : (Lit.int .i64 a1).wf = true) : Calls Try.prog 8 #[.int .i64 a0, .int .i64 a1] w fun e w' => e = .returned (.bool true) ∧ Ext w w' := by
  go_enter Try.func8, Try.ntmps8
  go_wp2_with (first
    | (go_at_call 25; refine (spec_bitOf _ _ _).mono ?_; rintro e w' ⟨rfl, rfl⟩)
    | (go_at_call 26; refine (impl_bitOf _ _ _).mono ?_; rintro e w' ⟨rfl, rfl⟩))
  go_ret
  exact ⟨rfl, (by repeat (first | exact Ext.refl _ | assumption | refine Ext.alloc ?_ _ | refine Ext.drew ?_ | refine Ext.drewN ?_ _ | (apply Ext.trans; rotate_left; assumption)))⟩

theorem law_FnExactWithBit (w : World) (a0 : Int) (_ : (Lit.int .i64 a0).wf = true) (a1 : Int) (_ : (Lit.int .i64 a1).wf = true) (a2 : Int) (_ : (Lit.int .i64 a2).wf = true) : Calls Try.prog 9 #[.int .i64 a0, .int .i64 a1, .int .i64 a2] w fun e w' => e = .returned (.bool true) ∧ Ext w w' := by
  go_enter Try.func9, Try.ntmps9
  go_wp2_with (first
    | (go_at_call 27; refine (spec_withBit _ _ _ _).mono ?_; rintro e w' ⟨rfl, rfl⟩)
    | (go_at_call 28; refine (impl_withBit _ _ _ _).mono ?_; rintro e w1 ⟨rfl, x1⟩))
  go_ret
  exact ⟨rfl, (by repeat (first | exact Ext.refl _ | assumption | refine Ext.alloc ?_ _ | refine Ext.drew ?_ | refine Ext.drewN ?_ _ | (apply Ext.trans; rotate_left; assumption)))⟩

theorem law_FnExactMix (w : World) (a0 : Int) (_ : (Lit.int .i64 a0).wf = true) : Calls Try.prog 10 #[.int .i64 a0] w fun e w' => e = .returned (.bool true) ∧ Ext w w' := by
  go_enter Try.func10, Try.ntmps10
  go_wp2_with (first
    | (go_at_call 29; refine (spec_mix _ _).mono ?_; rintro e w' ⟨rfl, rfl⟩)
    | (go_at_call 30; refine (impl_mix _ _).mono ?_; rintro e w' ⟨rfl, rfl⟩))
  go_ret
  exact ⟨rfl, (by repeat (first | exact Ext.refl _ | assumption | refine Ext.alloc ?_ _ | refine Ext.drew ?_ | refine Ext.drewN ?_ _ | (apply Ext.trans; rotate_left; assumption)))⟩

theorem law_FnExactCountBits (w : World) (a0 : Int) (_ : (Lit.int .i64 a0).wf = true) : Calls Try.prog 11 #[.int .i64 a0] w fun e w' => e = .returned (.bool true) ∧ Ext w w' := by
  go_enter Try.func11, Try.ntmps11
  go_wp2_with (first
    | (go_at_call 31; refine (spec_countBits _ _).mono ?_; rintro e w' ⟨rfl, rfl⟩)
    | (go_at_call 32; refine (impl_countBits _ _).mono ?_; rintro e w' ⟨rfl, rfl⟩))
  go_ret
  exact ⟨rfl, (by repeat (first | exact Ext.refl _ | assumption | refine Ext.alloc ?_ _ | refine Ext.drew ?_ | refine Ext.drewN ?_ _ | (apply Ext.trans; rotate_left; assumption)))⟩

theorem law_FnExactParityOf (w : World) (a0 : Int) (_ : (Lit.int .i64 a0).wf = true) : Calls Try.prog 12 #[.int .i64 a0] w fun e w' => e = .returned (.bool true) ∧ Ext w w' := by
  go_enter Try.func12, Try.ntmps12
  go_wp2_with (first
    | (go_at_call 33; refine (spec_parityOf _ _).mono ?_; rintro e w' ⟨rfl, rfl⟩)
    | (go_at_call 34; refine (impl_parityOf _ _).mono ?_; rintro e w' ⟨rfl, rfl⟩))
  go_ret
  exact ⟨rfl, (by repeat (first | exact Ext.refl _ | assumption | refine Ext.alloc ?_ _ | refine Ext.drew ?_ | refine Ext.drewN ?_ _ | (apply Ext.trans; rotate_left; assumption)))⟩

theorem to_mapping (o : Int) (h : Bool) (w : World) : Calls Try.prog 18 #[.agg #[.int .i64 o, .bool h]] w fun e w' => e = .returned (.agg #[.int .i64 o, .bool h]) ∧ Ext w w' := by
  go_enter Try.func18, Try.ntmps18
  go_wp2
  exact bodyPost_ret (v := .agg #[.int .i64 o, .bool h]) (by simp [results, Try.results18, go_sem]) rfl ⟨rfl, (((Ext.refl _).alloc _).alloc _).alloc _⟩

theorem law_FnExactMappingOk (w : World) (o : Int) (h : Bool) (_ : (Lit.int .i64 o).wf = true) : Calls Try.prog 5 #[.agg #[.int .i64 o, .bool h]] w fun e w' => e = .returned (.bool true) ∧ Ext w w' := by
  go_enter Try.func5, Try.ntmps5
  go_wp2_with fail
  refine (to_mapping _ _ _).mono ?_
  rintro e w1 ⟨rfl, x1⟩
  have b0 := (Box.new w _ _).ext x1
  obtain ⟨q100, q101⟩ := b0.cell2
  go_wp2_with fail
  refine (spec_mappingOk _ _ _).mono ?_
  rintro e w2 ⟨rfl, x2⟩
  have b0 := b0.ext x2
  obtain ⟨q200, q201⟩ := b0.cell2
  go_wp2_with fail
  refine (to_mapping _ _ _).mono ?_
  rintro e w3 ⟨rfl, x3⟩
  have b0 := b0.ext x3
  obtain ⟨q300, q301⟩ := b0.cell2
  go_wp2_with fail
  refine (impl_mappingOk _ _ _).mono ?_
  rintro e w4 ⟨rfl, x4⟩
  go_wp2
  go_ret
  exact ⟨rfl, (by repeat (first | exact Ext.refl _ | assumption | refine Ext.alloc ?_ _ | refine Ext.drew ?_ | refine Ext.drewN ?_ _ | (apply Ext.trans; rotate_left; assumption)))⟩

end Go.Proofs.Ytejegnecbeclcaa