/- The walks of FnExactFastTiming and FnFour. -/
import Derived.Test.YtlchejnjeeilpaaFastW
import Derived.Test.YtlchejnjeeilpaaFawW
import Derived.Deep.DeepCutAuto
namespace Go.Proofs.Ytlchejnjeeilpaa
open Go.RowKit

/-- a new variable of a timing, filled with the cells of t -/
theorem timing_stored (W : World) (t : Nat → Int) :
    (storeCells ⟨W.heap.size, 0, none⟩ (timC t).toList).run Try.prog (W.alloc (.cells (outC0 t) 25)) = .ok () ((W.alloc (.cells (outC0 t) 25)).setRow W.heap.size (timC t)) := by
  have hst := run_storeCells_from (P := Try.prog) W.heap.size 25 (timC t).toList 0 (outC0 t) _ (Box.new W 25 (outC0 t)) rfl (fun v hv => (Array.all_eq_true_iff_forall_mem.1 (timC_one t)) v (by simpa using hv))
  rw [show (List.take 0 (outC0 t).toList ++ (timC t).toList).toArray = timC t from rfl] at hst
  exact hst
theorem timing_var (W : World) (t : Nat → Int) : Box ((W.alloc (.cells (outC0 t) 25)).setRow W.heap.size (timC t)) W.heap.size 25 (timC t) := Box.row (Box.new W _ _) _
theorem timing_ext (W : World) (t : Nat → Int) : Ext W ((W.alloc (.cells (outC0 t) 25)).setRow W.heap.size (timC t)) := ((Ext.refl W).alloc _).setRow (Nat.le_refl _) _

theorem law_FnExactFastTiming (w : World) : Calls Try.prog 4 #[] w fun e w' => e = .returned (.bool true) ∧ Ext w w' := by
  go_enter Try.func4, Try.ntmps4
  go_wp2_with fail
  refine (spec_fast _).mono ?_
  rintro e w1 ⟨rfl, x1⟩
  have hs1 := timing_stored w1 fastT
  have bA := timing_var w1 fastT
  have xA := timing_ext w1 fastT
  unfold outC0 at hs1 bA xA
  go_wp2_with fail
  clear hs1
  refine (impl_fast _).mono ?_
  rintro e w2 ⟨rfl, x2⟩
  have b2 := bA.ext x2
  have hs2 := timing_stored w2 fastT
  have bB := timing_var w2 fastT
  have xB := timing_ext w2 fastT
  unfold outC0 at hs2 bB xB
  have b3 := b2.ext xB
  have y := ((x1.trans xA).trans x2).trans xB
  clear bA xA x2 b2 x1 xB
  go_wp2_with (first
    | (refine wpList_load_row rfl 25 (.tmp 2) rfl w2.heap.size (by rfl) 25 (timC fastT) (0, 0) _ bB Try.underlying25 rfl info_timing ?_)
    | (refine wpList_load_row rfl 25 (.tmp 1) rfl w1.heap.size (by rfl) 25 (timC fastT) (0, 0) _ b3 Try.underlying25 rfl info_timing ?_))
  refine (eq_timing _ _).mono ?_
  rintro e w4 ⟨rfl, x4⟩
  go_wp2
  go_ret
  exact ⟨rfl, y.trans x4⟩

end Go.Proofs.Ytlchejnjeeilpaa
