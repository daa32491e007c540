/- Walk of the law FnExactLineOf. -/
import Derived.Test.YtdaphamplgcccaaMapW
namespace Go.Proofs.Ytdaphamplgcccaa
open Go.RowKit

theorem to_mapping (o : Int) (h : Bool) (w : World) : Calls Try.prog 32 #[.agg #[.int .i64 o, .bool h]] w fun e w' => e = .returned (.agg #[.int .i64 o, .bool h]) ∧ Ext w w' := by
  go_enter Try.func32, Try.ntmps32
  go_wp2
  exact bodyPost_ret (v := .agg #[.int .i64 o, .bool h]) (by simp [results, Try.results32, go_sem]) rfl ⟨rfl, (((Ext.refl _).alloc _).alloc _).alloc _⟩

theorem law_FnExactLineOf (w : World) (z0 : List Int) (l0 : z0.length = 4) (_ : ∀ z ∈ z0, (Lit.int .i64 z).wf = true) (o : Int) (h : Bool) (_ : (Lit.int .i64 o).wf = true) (z1 : List Int) (l1 : z1.length = 3) (_ : ∀ z ∈ z1, (Lit.int .i64 z).wf = true) : Calls Try.prog 10 #[.agg (intCells z0), .agg #[.int .i64 o, .bool h], .agg (intCells z1)] w fun e w' => e = .returned (.bool true) ∧ Ext w w' := by
  obtain ⟨a, b, c, d, rfl⟩ := list4 l0
  obtain ⟨x, y, z, rfl⟩ := list3 l1
  show Calls _ _ #[.agg #[.int .i64 a, .int .i64 b, .int .i64 c, .int .i64 d], .agg #[.int .i64 o, .bool h], .agg #[.int .i64 x, .int .i64 y, .int .i64 z]] _ _
  have b0 := ((Box.new w 23 #[.int .i64 a, .int .i64 b, .int .i64 c, .int .i64 d]).alloc (.cells #[.int .i64 o, .bool h] 41)).alloc (.cells #[.int .i64 x, .int .i64 y, .int .i64 z] 31)
  have b1 := (Box.new_at (w.alloc (.cells #[.int .i64 a, .int .i64 b, .int .i64 c, .int .i64 d] 23)) 41 #[.int .i64 o, .bool h] (w.heap.size + 1) (by simp)).alloc (.cells #[.int .i64 x, .int .i64 y, .int .i64 z] 31)
  have b2 := Box.new_at ((w.alloc (.cells #[.int .i64 a, .int .i64 b, .int .i64 c, .int .i64 d] 23)).alloc (.cells #[.int .i64 o, .bool h] 41)) 31 #[.int .i64 x, .int .i64 y, .int .i64 z] (w.heap.size + 1 + 1) (by simp)
  have gq0 := Later.cells (b0) 0
  have gq1 := Later.cells (b0) 1
  have gq2 := Later.cells (b0) 2
  have gq3 := Later.cells (b0) 3
  simp only [List.getElem?_toArray, List.getElem?_cons_zero, List.getElem?_cons_succ] at gq0 gq1 gq2 gq3
  have mq0 := Later.cells (b1) 0
  have mq1 := Later.cells (b1) 1
  simp only [List.getElem?_toArray, List.getElem?_cons_zero, List.getElem?_cons_succ] at mq0 mq1
  have aq0 := Later.cells (b2) 0
  have aq1 := Later.cells (b2) 1
  have aq2 := Later.cells (b2) 2
  simp only [List.getElem?_toArray, List.getElem?_cons_zero, List.getElem?_cons_succ] at aq0 aq1 aq2
  go_enter Try.func10, Try.ntmps10
  go_wp2_with fail
  refine wp_region_later (by kernel_rfl) (by kernel_rfl) ?_
  repeat (go_big_quiet_step ((first | (go_at_call 17; exact Later.of _ (to_geometry _ _ _ _ _)) | (go_at_call 32; exact Later.of _ (to_mapping _ _ _)) | (go_at_call 24; exact Later.of _ (to_addr _ _ _ _)) | (go_at_call 34; exact Later.of _ (spec_lineOf _ _ _ _ _ _ _ _ _ _)))))
  refine wpQuiet_nil ?_
  rintro _ ⟨x1, rfl⟩
  have x1e := x1.ext
  go_wp2_with fail
  have gr0 := Later.cells (b0.ext x1e) 0
  have gr1 := Later.cells (b0.ext x1e) 1
  have gr2 := Later.cells (b0.ext x1e) 2
  have gr3 := Later.cells (b0.ext x1e) 3
  simp only [List.getElem?_toArray, List.getElem?_cons_zero, List.getElem?_cons_succ] at gr0 gr1 gr2 gr3
  have mr0 := Later.cells (b1.ext x1e) 0
  have mr1 := Later.cells (b1.ext x1e) 1
  simp only [List.getElem?_toArray, List.getElem?_cons_zero, List.getElem?_cons_succ] at mr0 mr1
  have ar0 := Later.cells (b2.ext x1e) 0
  have ar1 := Later.cells (b2.ext x1e) 1
  have ar2 := Later.cells (b2.ext x1e) 2
  simp only [List.getElem?_toArray, List.getElem?_cons_zero, List.getElem?_cons_succ] at ar0 ar1 ar2
  refine wp_region_later (by kernel_rfl) (by kernel_rfl) ?_
  repeat (go_big_quiet_step ((first | (go_at_call 17; exact Later.of _ (to_geometry _ _ _ _ _)) | (go_at_call 32; exact Later.of _ (to_mapping _ _ _)) | (go_at_call 24; exact Later.of _ (to_addr _ _ _ _)) | (go_at_call 35; exact Later.of _ (impl_lineOf _ _ _ _ _ _ _ _ _ _)))))
  refine wpQuiet_nil ?_
  rintro _ ⟨x2, rfl⟩
  have x2e := x2.ext
  go_wp2
  go_ret
  exact ⟨rfl, (by repeat (first | exact Ext.refl _ | assumption | refine Ext.alloc ?_ _ | refine Ext.drew ?_ | refine Ext.drewN ?_ _ | refine Ext.setCell ?_ (by first | exact Nat.le_refl _ | (simp; done) | (simp; omega) | omega) _ | (apply Ext.trans; rotate_left; assumption)))⟩

end Go.Proofs.Ytdaphamplgcccaa