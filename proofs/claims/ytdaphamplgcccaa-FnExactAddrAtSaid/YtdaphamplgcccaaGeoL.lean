/- Walks of the laws FnExactBankCount, FnExactLineCount, FnExactGroupOf, FnExactAddrOk, FnExactAddrIndex, FnExactAddrAt. -/
import Derived.Test.YtdaphamplgcccaaGeoF
namespace Go.Proofs.Ytdaphamplgcccaa
open Go.RowKit

theorem law_FnExactBankCount (w : World) (z0 : List Int) (l0 : z0.length = 4) (_ : ∀ z ∈ z0, (Lit.int .i64 z).wf = true) : Calls Try.prog 3 #[.agg (intCells z0)] w fun e w' => e = .returned (.bool true) ∧ Ext w w' := by
  obtain ⟨a, b, c, d, rfl⟩ := list4 l0
  show Calls _ _ #[.agg #[.int .i64 a, .int .i64 b, .int .i64 c, .int .i64 d]] _ _
  go_enter Try.func3, Try.ntmps3
  go_wp2_with fail
  refine (to_geometry _ _ _ _ _).mono ?_
  rintro e w1 ⟨rfl, x1⟩
  have b0 := (Box.new w _ _).ext x1
  have l10 := b0.lt
  obtain ⟨q100, q101, q102, q103⟩ := b0.cell4
  go_wp2_with fail
  refine (spec_bankCount _ _ _ _ _).mono ?_
  rintro e w2 ⟨rfl, x2⟩
  have b0 := b0.ext x2
  have l20 := b0.lt
  obtain ⟨q200, q201, q202, q203⟩ := b0.cell4
  go_wp2_with fail
  refine (to_geometry _ _ _ _ _).mono ?_
  rintro e w3 ⟨rfl, x3⟩
  have b0 := b0.ext x3
  have l30 := b0.lt
  obtain ⟨q300, q301, q302, q303⟩ := b0.cell4
  go_wp2_with fail
  refine (impl_bankCount _ _ _ _ _).mono ?_
  rintro e w4 ⟨rfl, x4⟩
  go_wp2
  go_ret
  exact ⟨rfl, (by repeat (first | exact Ext.refl _ | assumption | refine Ext.alloc ?_ _ | refine Ext.drew ?_ | refine Ext.drewN ?_ _ | refine Ext.setCell ?_ (by first | exact Nat.le_refl _ | (simp; done) | (simp; omega) | omega) _ | (apply Ext.trans; rotate_left; assumption)))⟩

theorem law_FnExactLineCount (w : World) (z0 : List Int) (l0 : z0.length = 4) (_ : ∀ z ∈ z0, (Lit.int .i64 z).wf = true) : Calls Try.prog 4 #[.agg (intCells z0)] w fun e w' => e = .returned (.bool true) ∧ Ext w w' := by
  obtain ⟨a, b, c, d, rfl⟩ := list4 l0
  show Calls _ _ #[.agg #[.int .i64 a, .int .i64 b, .int .i64 c, .int .i64 d]] _ _
  go_enter Try.func4, Try.ntmps4
  go_wp2_with fail
  refine (to_geometry _ _ _ _ _).mono ?_
  rintro e w1 ⟨rfl, x1⟩
  have b0 := (Box.new w _ _).ext x1
  have l10 := b0.lt
  obtain ⟨q100, q101, q102, q103⟩ := b0.cell4
  go_wp2_with fail
  refine (spec_lineCount _ _ _ _ _).mono ?_
  rintro e w2 ⟨rfl, x2⟩
  have b0 := b0.ext x2
  have l20 := b0.lt
  obtain ⟨q200, q201, q202, q203⟩ := b0.cell4
  go_wp2_with fail
  refine (to_geometry _ _ _ _ _).mono ?_
  rintro e w3 ⟨rfl, x3⟩
  have b0 := b0.ext x3
  have l30 := b0.lt
  obtain ⟨q300, q301, q302, q303⟩ := b0.cell4
  go_wp2_with fail
  refine (impl_lineCount _ _ _ _ _).mono ?_
  rintro e w4 ⟨rfl, x4⟩
  go_wp2
  go_ret
  exact ⟨rfl, (by repeat (first | exact Ext.refl _ | assumption | refine Ext.alloc ?_ _ | refine Ext.drew ?_ | refine Ext.drewN ?_ _ | refine Ext.setCell ?_ (by first | exact Nat.le_refl _ | (simp; done) | (simp; omega) | omega) _ | (apply Ext.trans; rotate_left; assumption)))⟩

theorem law_FnExactGroupOf (w : World) (z0 : List Int) (l0 : z0.length = 4) (_ : ∀ z ∈ z0, (Lit.int .i64 z).wf = true) (a1 : Int) (_ : (Lit.int .i64 a1).wf = true) : Calls Try.prog 5 #[.agg (intCells z0), .int .i64 a1] w fun e w' => e = .returned (.bool true) ∧ Ext w w' := by
  obtain ⟨a, b, c, d, rfl⟩ := list4 l0
  show Calls _ _ #[.agg #[.int .i64 a, .int .i64 b, .int .i64 c, .int .i64 d], .int .i64 a1] _ _
  go_enter Try.func5, Try.ntmps5
  go_wp2_with fail
  refine (to_geometry _ _ _ _ _).mono ?_
  rintro e w1 ⟨rfl, x1⟩
  have b0 := (Box.new w _ _).ext x1
  have l10 := b0.lt
  obtain ⟨q100, q101, q102, q103⟩ := b0.cell4
  go_wp2_with fail
  refine (spec_groupOf _ _ _ _ _ _).mono ?_
  rintro e w2 ⟨rfl, x2⟩
  have b0 := b0.ext x2
  have l20 := b0.lt
  obtain ⟨q200, q201, q202, q203⟩ := b0.cell4
  go_wp2_with fail
  refine (to_geometry _ _ _ _ _).mono ?_
  rintro e w3 ⟨rfl, x3⟩
  have b0 := b0.ext x3
  have l30 := b0.lt
  obtain ⟨q300, q301, q302, q303⟩ := b0.cell4
  go_wp2_with fail
  refine (impl_groupOf _ _ _ _ _ _).mono ?_
  rintro e w4 ⟨rfl, x4⟩
  go_wp2
  go_ret
  exact ⟨rfl, (by repeat (first | exact Ext.refl _ | assumption | refine Ext.alloc ?_ _ | refine Ext.drew ?_ | refine Ext.drewN ?_ _ | refine Ext.setCell ?_ (by first | exact Nat.le_refl _ | (simp; done) | (simp; omega) | omega) _ | (apply Ext.trans; rotate_left; assumption)))⟩

theorem law_FnExactAddrOk (w : World) (z0 : List Int) (l0 : z0.length = 4) (_ : ∀ z ∈ z0, (Lit.int .i64 z).wf = true) (z1 : List Int) (l1 : z1.length = 3) (_ : ∀ z ∈ z1, (Lit.int .i64 z).wf = true) : Calls Try.prog 6 #[.agg (intCells z0), .agg (intCells z1)] w fun e w' => e = .returned (.bool true) ∧ Ext w w' := by
  obtain ⟨a, b, c, d, rfl⟩ := list4 l0
  obtain ⟨x, y, z, rfl⟩ := list3 l1
  show Calls _ _ #[.agg #[.int .i64 a, .int .i64 b, .int .i64 c, .int .i64 d], .agg #[.int .i64 x, .int .i64 y, .int .i64 z]] _ _
  have b0 := (Box.new w 23 #[.int .i64 a, .int .i64 b, .int .i64 c, .int .i64 d]).alloc (.cells #[.int .i64 x, .int .i64 y, .int .i64 z] 31)
  have b1 := Box.new_at (w.alloc (.cells #[.int .i64 a, .int .i64 b, .int .i64 c, .int .i64 d] 23)) 31 #[.int .i64 x, .int .i64 y, .int .i64 z] (w.heap.size + 1) (by simp)
  have gq0 := Later.cells (b0) 0
  have gq1 := Later.cells (b0) 1
  have gq2 := Later.cells (b0) 2
  have gq3 := Later.cells (b0) 3
  simp only [List.getElem?_toArray, List.getElem?_cons_zero, List.getElem?_cons_succ] at gq0 gq1 gq2 gq3
  have aq0 := Later.cells (b1) 0
  have aq1 := Later.cells (b1) 1
  have aq2 := Later.cells (b1) 2
  simp only [List.getElem?_toArray, List.getElem?_cons_zero, List.getElem?_cons_succ] at aq0 aq1 aq2
  go_enter Try.func6, Try.ntmps6
  go_wp2_with fail
  refine wp_region_later (by kernel_rfl) (by kernel_rfl) ?_
  repeat (go_big_quiet_step ((first | (go_at_call 17; exact Later.of _ (to_geometry _ _ _ _ _)) | (go_at_call 24; exact Later.of _ (to_addr _ _ _ _)) | (go_at_call 23; exact Later.of _ (spec_addrOk _ _ _ _ _ _ _ _)))))
  refine wpQuiet_nil ?_
  rintro _ ⟨x1, rfl⟩
  have x1e := x1.ext
  go_wp2_with fail
  have gr0 := Later.cells (b0.ext x1e) 0
  have gr1 := Later.cells (b0.ext x1e) 1
  have gr2 := Later.cells (b0.ext x1e) 2
  have gr3 := Later.cells (b0.ext x1e) 3
  simp only [List.getElem?_toArray, List.getElem?_cons_zero, List.getElem?_cons_succ] at gr0 gr1 gr2 gr3
  have ar0 := Later.cells (b1.ext x1e) 0
  have ar1 := Later.cells (b1.ext x1e) 1
  have ar2 := Later.cells (b1.ext x1e) 2
  simp only [List.getElem?_toArray, List.getElem?_cons_zero, List.getElem?_cons_succ] at ar0 ar1 ar2
  refine wp_region_later (by kernel_rfl) (by kernel_rfl) ?_
  repeat (go_big_quiet_step ((first | (go_at_call 17; exact Later.of _ (to_geometry _ _ _ _ _)) | (go_at_call 24; exact Later.of _ (to_addr _ _ _ _)) | (go_at_call 25; exact Later.of _ (impl_addrOk _ _ _ _ _ _ _ _)))))
  refine wpQuiet_nil ?_
  rintro _ ⟨x2, rfl⟩
  have x2e := x2.ext
  go_wp2
  go_ret
  exact ⟨rfl, (by repeat (first | exact Ext.refl _ | assumption | refine Ext.alloc ?_ _ | refine Ext.drew ?_ | refine Ext.drewN ?_ _ | refine Ext.setCell ?_ (by first | exact Nat.le_refl _ | (simp; done) | (simp; omega) | omega) _ | (apply Ext.trans; rotate_left; assumption)))⟩

theorem law_FnExactAddrIndex (w : World) (z0 : List Int) (l0 : z0.length = 4) (_ : ∀ z ∈ z0, (Lit.int .i64 z).wf = true) (z1 : List Int) (l1 : z1.length = 3) (_ : ∀ z ∈ z1, (Lit.int .i64 z).wf = true) : Calls Try.prog 7 #[.agg (intCells z0), .agg (intCells z1)] w fun e w' => e = .returned (.bool true) ∧ Ext w w' := by
  obtain ⟨a, b, c, d, rfl⟩ := list4 l0
  obtain ⟨x, y, z, rfl⟩ := list3 l1
  show Calls _ _ #[.agg #[.int .i64 a, .int .i64 b, .int .i64 c, .int .i64 d], .agg #[.int .i64 x, .int .i64 y, .int .i64 z]] _ _
  have b0 := (Box.new w 23 #[.int .i64 a, .int .i64 b, .int .i64 c, .int .i64 d]).alloc (.cells #[.int .i64 x, .int .i64 y, .int .i64 z] 31)
  have b1 := Box.new_at (w.alloc (.cells #[.int .i64 a, .int .i64 b, .int .i64 c, .int .i64 d] 23)) 31 #[.int .i64 x, .int .i64 y, .int .i64 z] (w.heap.size + 1) (by simp)
  have gq0 := Later.cells (b0) 0
  have gq1 := Later.cells (b0) 1
  have gq2 := Later.cells (b0) 2
  have gq3 := Later.cells (b0) 3
  simp only [List.getElem?_toArray, List.getElem?_cons_zero, List.getElem?_cons_succ] at gq0 gq1 gq2 gq3
  have aq0 := Later.cells (b1) 0
  have aq1 := Later.cells (b1) 1
  have aq2 := Later.cells (b1) 2
  simp only [List.getElem?_toArray, List.getElem?_cons_zero, List.getElem?_cons_succ] at aq0 aq1 aq2
  go_enter Try.func7, Try.ntmps7
  go_wp2_with fail
  refine wp_region_later (by kernel_rfl) (by kernel_rfl) ?_
  repeat (go_big_quiet_step ((first | (go_at_call 17; exact Later.of _ (to_geometry _ _ _ _ _)) | (go_at_call 24; exact Later.of _ (to_addr _ _ _ _)) | (go_at_call 26; exact Later.of _ (spec_addrIndex _ _ _ _ _ _ _ _)))))
  refine wpQuiet_nil ?_
  rintro _ ⟨x1, rfl⟩
  have x1e := x1.ext
  go_wp2_with fail
  have gr0 := Later.cells (b0.ext x1e) 0
  have gr1 := Later.cells (b0.ext x1e) 1
  have gr2 := Later.cells (b0.ext x1e) 2
  have gr3 := Later.cells (b0.ext x1e) 3
  simp only [List.getElem?_toArray, List.getElem?_cons_zero, List.getElem?_cons_succ] at gr0 gr1 gr2 gr3
  have ar0 := Later.cells (b1.ext x1e) 0
  have ar1 := Later.cells (b1.ext x1e) 1
  have ar2 := Later.cells (b1.ext x1e) 2
  simp only [List.getElem?_toArray, List.getElem?_cons_zero, List.getElem?_cons_succ] at ar0 ar1 ar2
  refine wp_region_later (by kernel_rfl) (by kernel_rfl) ?_
  repeat (go_big_quiet_step ((first | (go_at_call 17; exact Later.of _ (to_geometry _ _ _ _ _)) | (go_at_call 24; exact Later.of _ (to_addr _ _ _ _)) | (go_at_call 27; exact Later.of _ (impl_addrIndex _ _ _ _ _ _ _ _)))))
  refine wpQuiet_nil ?_
  rintro _ ⟨x2, rfl⟩
  have x2e := x2.ext
  go_wp2
  go_ret
  exact ⟨rfl, (by repeat (first | exact Ext.refl _ | assumption | refine Ext.alloc ?_ _ | refine Ext.drew ?_ | refine Ext.drewN ?_ _ | refine Ext.setCell ?_ (by first | exact Nat.le_refl _ | (simp; done) | (simp; omega) | omega) _ | (apply Ext.trans; rotate_left; assumption)))⟩

theorem law_FnExactAddrAt (w : World) (z0 : List Int) (l0 : z0.length = 4) (_ : ∀ z ∈ z0, (Lit.int .i64 z).wf = true) (n : Int) (_ : (Lit.int .i64 n).wf = true) : Calls Try.prog 8 #[.agg (intCells z0), .int .i64 n] w fun e w' => e = .returned (.bool true) ∧ Ext w w' := by
  obtain ⟨a, b, c, d, rfl⟩ := list4 l0
  show Calls _ _ #[.agg #[.int .i64 a, .int .i64 b, .int .i64 c, .int .i64 d], .int .i64 n] _ _
  cases hB : atB a b c d n with
  | true =>
    go_enter Try.func8, Try.ntmps8
    go_wp2_with fail
    refine (to_geometry _ _ _ _ _).mono ?_
    rintro e w1 ⟨rfl, x1⟩
    have b0 := (Box.new w _ _).ext x1
    have l10 := b0.lt
    obtain ⟨q100, q101, q102, q103⟩ := b0.cell4
    go_wp2_with fail
    refine (spec_addrAt_yes _ _ _ _ _ hB _).mono ?_
    rintro e w2 ⟨rfl, x2⟩
    have b0 := b0.ext x2
    have l20 := b0.lt
    obtain ⟨q200, q201, q202, q203⟩ := b0.cell4
    have b1 := Box.new w2 33 #[.int .i64 (n / d / c), .int .i64 (n / d % c), .int .i64 (n % d)]
    have b0 := b0.alloc (.cells #[.int .i64 (n / d / c), .int .i64 (n / d % c), .int .i64 (n % d)] 33)
    go_wp2_with fail
    refine (to_geometry _ _ _ _ _).mono ?_
    rintro e w3 ⟨rfl, x3⟩
    have b0 := b0.ext x3
    have l30 := b0.lt
    obtain ⟨q300, q301, q302, q303⟩ := b0.cell4
    have b1 := b1.ext x3
    have l31 := b1.lt
    obtain ⟨q310, q311, q312⟩ := b1.cell3
    go_wp2_with fail
    refine (impl_addrAt_yes _ _ _ _ _ hB _).mono ?_
    rintro e w4 ⟨rfl, x4⟩
    have b1 := b1.ext x4
    have l41 := b1.lt
    obtain ⟨q410, q411, q412⟩ := b1.cell3
    go_wp2_with fail
    refine (eq_addr _ _ _ _).mono ?_
    rintro e w5 ⟨rfl, x5⟩
    go_wp2
    go_ret
    exact ⟨rfl, (by repeat (first | exact Ext.refl _ | assumption | refine Ext.alloc ?_ _ | refine Ext.drew ?_ | refine Ext.drewN ?_ _ | refine Ext.setCell ?_ (by first | exact Nat.le_refl _ | (simp; done) | (simp; omega) | omega) _ | (apply Ext.trans; rotate_left; assumption)))⟩
  | false =>
    go_enter Try.func8, Try.ntmps8
    go_wp2_with fail
    refine (to_geometry _ _ _ _ _).mono ?_
    rintro e w1 ⟨rfl, x1⟩
    have b0 := (Box.new w _ _).ext x1
    have l10 := b0.lt
    obtain ⟨q100, q101, q102, q103⟩ := b0.cell4
    go_wp2_with fail
    refine (spec_addrAt_no _ _ _ _ _ hB _).mono ?_
    rintro e w2 ⟨rfl, x2⟩
    have b0 := b0.ext x2
    have l20 := b0.lt
    obtain ⟨q200, q201, q202, q203⟩ := b0.cell4
    have b1 := Box.new w2 33 #[.int .i64 0, .int .i64 0, .int .i64 0]
    have b0 := b0.alloc (.cells #[.int .i64 0, .int .i64 0, .int .i64 0] 33)
    go_wp2_with fail
    refine (to_geometry _ _ _ _ _).mono ?_
    rintro e w3 ⟨rfl, x3⟩
    have b0 := b0.ext x3
    have l30 := b0.lt
    obtain ⟨q300, q301, q302, q303⟩ := b0.cell4
    have b1 := b1.ext x3
    have l31 := b1.lt
    obtain ⟨q310, q311, q312⟩ := b1.cell3
    go_wp2_with fail
    refine (impl_addrAt_no _ _ _ _ _ hB _).mono ?_
    rintro e w4 ⟨rfl, x4⟩
    have b1 := b1.ext x4
    have l41 := b1.lt
    obtain ⟨q410, q411, q412⟩ := b1.cell3
    go_wp2_with fail
    refine (eq_addr _ _ _ _).mono ?_
    rintro e w5 ⟨rfl, x5⟩
    go_wp2
    go_ret
    exact ⟨rfl, (by repeat (first | exact Ext.refl _ | assumption | refine Ext.alloc ?_ _ | refine Ext.drew ?_ | refine Ext.drewN ?_ _ | refine Ext.setCell ?_ (by first | exact Nat.le_refl _ | (simp; done) | (simp; omega) | omega) _ | (apply Ext.trans; rotate_left; assumption)))⟩

end Go.Proofs.Ytdaphamplgcccaa