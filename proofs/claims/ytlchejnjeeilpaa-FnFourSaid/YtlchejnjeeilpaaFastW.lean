/- FastTiming of both sides, eqTiming; the walk of FnExactFastTiming. -/
import Derived.Test.YtlchejnjeeilpaaTimC
namespace Go.Proofs.Ytlchejnjeeilpaa
open Go.RowKit

def fastT (i : Nat) : Int := [3, 3, 7, 2, 3, 10, 2, 3, 3, 6, 4, 5, 4, 12, 3, 4, 16].getD i 0
theorem fast_lit : timC fastT = #[.int .i64 3, .int .i64 3, .int .i64 7, .int .i64 2, .int .i64 3, .int .i64 10, .int .i64 2, .int .i64 3, .int .i64 3, .int .i64 6, .int .i64 4, .int .i64 5, .int .i64 4, .int .i64 12, .int .i64 3, .int .i64 4, .int .i64 16] := rfl

theorem spec_fast (w : World) : Calls Try.prog 18 #[] w fun e w' => e = .returned (.agg (timC fastT)) ∧ Ext w w' := by
  rw [fast_lit]
  go_enter Try.func18, Try.ntmps18
  go_wp2
  exact bodyPost_ret (v := .agg #[.int .i64 3, .int .i64 3, .int .i64 7, .int .i64 2, .int .i64 3, .int .i64 10, .int .i64 2, .int .i64 3, .int .i64 3, .int .i64 6, .int .i64 4, .int .i64 5, .int .i64 4, .int .i64 12, .int .i64 3, .int .i64 4, .int .i64 16]) (by simp [results, Try.results18, go_sem]) rfl ⟨rfl, (Ext.refl _).alloc _⟩

theorem impl_fast (w : World) : Calls Try.prog 19 #[] w fun e w' => e = .returned (.agg (timC fastT)) ∧ Ext w w' := by
  rw [fast_lit]
  go_enter Try.func19, Try.ntmps19
  go_wp2
  exact bodyPost_ret (v := .agg #[.int .i64 3, .int .i64 3, .int .i64 7, .int .i64 2, .int .i64 3, .int .i64 10, .int .i64 2, .int .i64 3, .int .i64 3, .int .i64 6, .int .i64 4, .int .i64 5, .int .i64 4, .int .i64 12, .int .i64 3, .int .i64 4, .int .i64 16]) (by simp [results, Try.results19, go_sem]) rfl ⟨rfl, (Ext.refl _).alloc _⟩

theorem eq_timing (t : Nat → Int) (w : World) : Calls Try.prog 20 #[.agg (timC t), .agg (timC t)] w fun e w' => e = .returned (.bool true) ∧ Ext w w' := by
  have bp := (Box.new w 25 (timC t)).alloc (.cells (timC t) 25)
  have bq := Box.new_at (w.alloc (.cells (timC t) 25)) 25 (timC t) (w.heap.size + 1) (by simp)
  have x0 : Ext w ((w.alloc (.cells (timC t) 25)).alloc (.cells (timC t) 25)) := ((Ext.refl w).alloc _).alloc _
  have p0 := (bp.cell 0).trans (timC_at t 0 (by omega))
  have q0 := (bq.cell 0).trans (timC_at t 0 (by omega))
  have p1 := (bp.cell 1).trans (timC_at t 1 (by omega))
  have q1 := (bq.cell 1).trans (timC_at t 1 (by omega))
  have p2 := (bp.cell 2).trans (timC_at t 2 (by omega))
  have q2 := (bq.cell 2).trans (timC_at t 2 (by omega))
  have p3 := (bp.cell 3).trans (timC_at t 3 (by omega))
  have q3 := (bq.cell 3).trans (timC_at t 3 (by omega))
  have p4 := (bp.cell 4).trans (timC_at t 4 (by omega))
  have q4 := (bq.cell 4).trans (timC_at t 4 (by omega))
  have p5 := (bp.cell 5).trans (timC_at t 5 (by omega))
  have q5 := (bq.cell 5).trans (timC_at t 5 (by omega))
  have p6 := (bp.cell 6).trans (timC_at t 6 (by omega))
  have q6 := (bq.cell 6).trans (timC_at t 6 (by omega))
  have p7 := (bp.cell 7).trans (timC_at t 7 (by omega))
  have q7 := (bq.cell 7).trans (timC_at t 7 (by omega))
  have p8 := (bp.cell 8).trans (timC_at t 8 (by omega))
  have q8 := (bq.cell 8).trans (timC_at t 8 (by omega))
  have p9 := (bp.cell 9).trans (timC_at t 9 (by omega))
  have q9 := (bq.cell 9).trans (timC_at t 9 (by omega))
  have p10 := (bp.cell 10).trans (timC_at t 10 (by omega))
  have q10 := (bq.cell 10).trans (timC_at t 10 (by omega))
  have p11 := (bp.cell 11).trans (timC_at t 11 (by omega))
  have q11 := (bq.cell 11).trans (timC_at t 11 (by omega))
  have p12 := (bp.cell 12).trans (timC_at t 12 (by omega))
  have q12 := (bq.cell 12).trans (timC_at t 12 (by omega))
  have p13 := (bp.cell 13).trans (timC_at t 13 (by omega))
  have q13 := (bq.cell 13).trans (timC_at t 13 (by omega))
  have p14 := (bp.cell 14).trans (timC_at t 14 (by omega))
  have q14 := (bq.cell 14).trans (timC_at t 14 (by omega))
  have p15 := (bp.cell 15).trans (timC_at t 15 (by omega))
  have q15 := (bq.cell 15).trans (timC_at t 15 (by omega))
  have p16 := (bp.cell 16).trans (timC_at t 16 (by omega))
  have q16 := (bq.cell 16).trans (timC_at t 16 (by omega))
  clear bp bq
  go_enter Try.func20, Try.ntmps20
  go_wp2
  go_ret
  exact ⟨rfl, x0⟩

end Go.Proofs.Ytlchejnjeeilpaa
