/- The laws' own toTiming: seventeen fields copied; each copy is cut off from the next. -/
import Derived.Test.YtlchejnjeeilpaaNumW
import Derived.Deep.DeepCutAuto
import Derived.OwnWalk
namespace Go.Proofs.Ytlchejnjeeilpaa
open Go.RowKit

/-- the cells of a timing -/
def timC (t : Nat → Int) : Array Value := #[.int .i64 (t 0), .int .i64 (t 1), .int .i64 (t 2), .int .i64 (t 3), .int .i64 (t 4), .int .i64 (t 5), .int .i64 (t 6), .int .i64 (t 7), .int .i64 (t 8), .int .i64 (t 9), .int .i64 (t 10), .int .i64 (t 11), .int .i64 (t 12), .int .i64 (t 13), .int .i64 (t 14), .int .i64 (t 15), .int .i64 (t 16)]
theorem timC_at (t : Nat → Int) : ∀ k, k < 17 → (timC t)[k]? = some (.int .i64 (t k)) := by
  intro k hk
  rcases k with _ | _ | _ | _ | _ | _ | _ | _ | _ | _ | _ | _ | _ | _ | _ | _ | _ | k
  all_goals first | rfl | omega

def outC0 (t : Nat → Int) : Array Value := #[.int .i64 0, .int .i64 0, .int .i64 0, .int .i64 0, .int .i64 0, .int .i64 0, .int .i64 0, .int .i64 0, .int .i64 0, .int .i64 0, .int .i64 0, .int .i64 0, .int .i64 0, .int .i64 0, .int .i64 0, .int .i64 0, .int .i64 0]
def outC1 (t : Nat → Int) : Array Value := #[.int .i64 (t 0), .int .i64 0, .int .i64 0, .int .i64 0, .int .i64 0, .int .i64 0, .int .i64 0, .int .i64 0, .int .i64 0, .int .i64 0, .int .i64 0, .int .i64 0, .int .i64 0, .int .i64 0, .int .i64 0, .int .i64 0, .int .i64 0]
def outC2 (t : Nat → Int) : Array Value := #[.int .i64 (t 0), .int .i64 (t 1), .int .i64 0, .int .i64 0, .int .i64 0, .int .i64 0, .int .i64 0, .int .i64 0, .int .i64 0, .int .i64 0, .int .i64 0, .int .i64 0, .int .i64 0, .int .i64 0, .int .i64 0, .int .i64 0, .int .i64 0]
def outC3 (t : Nat → Int) : Array Value := #[.int .i64 (t 0), .int .i64 (t 1), .int .i64 (t 2), .int .i64 0, .int .i64 0, .int .i64 0, .int .i64 0, .int .i64 0, .int .i64 0, .int .i64 0, .int .i64 0, .int .i64 0, .int .i64 0, .int .i64 0, .int .i64 0, .int .i64 0, .int .i64 0]
def outC4 (t : Nat → Int) : Array Value := #[.int .i64 (t 0), .int .i64 (t 1), .int .i64 (t 2), .int .i64 (t 3), .int .i64 0, .int .i64 0, .int .i64 0, .int .i64 0, .int .i64 0, .int .i64 0, .int .i64 0, .int .i64 0, .int .i64 0, .int .i64 0, .int .i64 0, .int .i64 0, .int .i64 0]
def outC5 (t : Nat → Int) : Array Value := #[.int .i64 (t 0), .int .i64 (t 1), .int .i64 (t 2), .int .i64 (t 3), .int .i64 (t 4), .int .i64 0, .int .i64 0, .int .i64 0, .int .i64 0, .int .i64 0, .int .i64 0, .int .i64 0, .int .i64 0, .int .i64 0, .int .i64 0, .int .i64 0, .int .i64 0]
def outC6 (t : Nat → Int) : Array Value := #[.int .i64 (t 0), .int .i64 (t 1), .int .i64 (t 2), .int .i64 (t 3), .int .i64 (t 4), .int .i64 (t 5), .int .i64 0, .int .i64 0, .int .i64 0, .int .i64 0, .int .i64 0, .int .i64 0, .int .i64 0, .int .i64 0, .int .i64 0, .int .i64 0, .int .i64 0]
def outC7 (t : Nat → Int) : Array Value := #[.int .i64 (t 0), .int .i64 (t 1), .int .i64 (t 2), .int .i64 (t 3), .int .i64 (t 4), .int .i64 (t 5), .int .i64 (t 6), .int .i64 0, .int .i64 0, .int .i64 0, .int .i64 0, .int .i64 0, .int .i64 0, .int .i64 0, .int .i64 0, .int .i64 0, .int .i64 0]
def outC8 (t : Nat → Int) : Array Value := #[.int .i64 (t 0), .int .i64 (t 1), .int .i64 (t 2), .int .i64 (t 3), .int .i64 (t 4), .int .i64 (t 5), .int .i64 (t 6), .int .i64 (t 7), .int .i64 0, .int .i64 0, .int .i64 0, .int .i64 0, .int .i64 0, .int .i64 0, .int .i64 0, .int .i64 0, .int .i64 0]
def outC9 (t : Nat → Int) : Array Value := #[.int .i64 (t 0), .int .i64 (t 1), .int .i64 (t 2), .int .i64 (t 3), .int .i64 (t 4), .int .i64 (t 5), .int .i64 (t 6), .int .i64 (t 7), .int .i64 (t 8), .int .i64 0, .int .i64 0, .int .i64 0, .int .i64 0, .int .i64 0, .int .i64 0, .int .i64 0, .int .i64 0]
def outC10 (t : Nat → Int) : Array Value := #[.int .i64 (t 0), .int .i64 (t 1), .int .i64 (t 2), .int .i64 (t 3), .int .i64 (t 4), .int .i64 (t 5), .int .i64 (t 6), .int .i64 (t 7), .int .i64 (t 8), .int .i64 (t 9), .int .i64 0, .int .i64 0, .int .i64 0, .int .i64 0, .int .i64 0, .int .i64 0, .int .i64 0]
def outC11 (t : Nat → Int) : Array Value := #[.int .i64 (t 0), .int .i64 (t 1), .int .i64 (t 2), .int .i64 (t 3), .int .i64 (t 4), .int .i64 (t 5), .int .i64 (t 6), .int .i64 (t 7), .int .i64 (t 8), .int .i64 (t 9), .int .i64 (t 10), .int .i64 0, .int .i64 0, .int .i64 0, .int .i64 0, .int .i64 0, .int .i64 0]
def outC12 (t : Nat → Int) : Array Value := #[.int .i64 (t 0), .int .i64 (t 1), .int .i64 (t 2), .int .i64 (t 3), .int .i64 (t 4), .int .i64 (t 5), .int .i64 (t 6), .int .i64 (t 7), .int .i64 (t 8), .int .i64 (t 9), .int .i64 (t 10), .int .i64 (t 11), .int .i64 0, .int .i64 0, .int .i64 0, .int .i64 0, .int .i64 0]
def outC13 (t : Nat → Int) : Array Value := #[.int .i64 (t 0), .int .i64 (t 1), .int .i64 (t 2), .int .i64 (t 3), .int .i64 (t 4), .int .i64 (t 5), .int .i64 (t 6), .int .i64 (t 7), .int .i64 (t 8), .int .i64 (t 9), .int .i64 (t 10), .int .i64 (t 11), .int .i64 (t 12), .int .i64 0, .int .i64 0, .int .i64 0, .int .i64 0]
def outC14 (t : Nat → Int) : Array Value := #[.int .i64 (t 0), .int .i64 (t 1), .int .i64 (t 2), .int .i64 (t 3), .int .i64 (t 4), .int .i64 (t 5), .int .i64 (t 6), .int .i64 (t 7), .int .i64 (t 8), .int .i64 (t 9), .int .i64 (t 10), .int .i64 (t 11), .int .i64 (t 12), .int .i64 (t 13), .int .i64 0, .int .i64 0, .int .i64 0]
def outC15 (t : Nat → Int) : Array Value := #[.int .i64 (t 0), .int .i64 (t 1), .int .i64 (t 2), .int .i64 (t 3), .int .i64 (t 4), .int .i64 (t 5), .int .i64 (t 6), .int .i64 (t 7), .int .i64 (t 8), .int .i64 (t 9), .int .i64 (t 10), .int .i64 (t 11), .int .i64 (t 12), .int .i64 (t 13), .int .i64 (t 14), .int .i64 0, .int .i64 0]
def outC16 (t : Nat → Int) : Array Value := #[.int .i64 (t 0), .int .i64 (t 1), .int .i64 (t 2), .int .i64 (t 3), .int .i64 (t 4), .int .i64 (t 5), .int .i64 (t 6), .int .i64 (t 7), .int .i64 (t 8), .int .i64 (t 9), .int .i64 (t 10), .int .i64 (t 11), .int .i64 (t 12), .int .i64 (t 13), .int .i64 (t 14), .int .i64 (t 15), .int .i64 0]
def outC17 (t : Nat → Int) : Array Value := #[.int .i64 (t 0), .int .i64 (t 1), .int .i64 (t 2), .int .i64 (t 3), .int .i64 (t 4), .int .i64 (t 5), .int .i64 (t 6), .int .i64 (t 7), .int .i64 (t 8), .int .i64 (t 9), .int .i64 (t 10), .int .i64 (t 11), .int .i64 (t 12), .int .i64 (t 13), .int .i64 (t 14), .int .i64 (t 15), .int .i64 (t 16)]
theorem outC0_set (t : Nat → Int) : (outC0 t).setIfInBounds 0 (.int .i64 (t 0)) = outC1 t := rfl
theorem outC1_set (t : Nat → Int) : (outC1 t).setIfInBounds 1 (.int .i64 (t 1)) = outC2 t := rfl
theorem outC2_set (t : Nat → Int) : (outC2 t).setIfInBounds 2 (.int .i64 (t 2)) = outC3 t := rfl
theorem outC3_set (t : Nat → Int) : (outC3 t).setIfInBounds 3 (.int .i64 (t 3)) = outC4 t := rfl
theorem outC4_set (t : Nat → Int) : (outC4 t).setIfInBounds 4 (.int .i64 (t 4)) = outC5 t := rfl
theorem outC5_set (t : Nat → Int) : (outC5 t).setIfInBounds 5 (.int .i64 (t 5)) = outC6 t := rfl
theorem outC6_set (t : Nat → Int) : (outC6 t).setIfInBounds 6 (.int .i64 (t 6)) = outC7 t := rfl
theorem outC7_set (t : Nat → Int) : (outC7 t).setIfInBounds 7 (.int .i64 (t 7)) = outC8 t := rfl
theorem outC8_set (t : Nat → Int) : (outC8 t).setIfInBounds 8 (.int .i64 (t 8)) = outC9 t := rfl
theorem outC9_set (t : Nat → Int) : (outC9 t).setIfInBounds 9 (.int .i64 (t 9)) = outC10 t := rfl
theorem outC10_set (t : Nat → Int) : (outC10 t).setIfInBounds 10 (.int .i64 (t 10)) = outC11 t := rfl
theorem outC11_set (t : Nat → Int) : (outC11 t).setIfInBounds 11 (.int .i64 (t 11)) = outC12 t := rfl
theorem outC12_set (t : Nat → Int) : (outC12 t).setIfInBounds 12 (.int .i64 (t 12)) = outC13 t := rfl
theorem outC13_set (t : Nat → Int) : (outC13 t).setIfInBounds 13 (.int .i64 (t 13)) = outC14 t := rfl
theorem outC14_set (t : Nat → Int) : (outC14 t).setIfInBounds 14 (.int .i64 (t 14)) = outC15 t := rfl
theorem outC15_set (t : Nat → Int) : (outC15 t).setIfInBounds 15 (.int .i64 (t 15)) = outC16 t := rfl
theorem outC16_set (t : Nat → Int) : (outC16 t).setIfInBounds 16 (.int .i64 (t 16)) = outC17 t := rfl

theorem info_timing : (Try.prog.info? 25).map (·.size) = some 17 := by kernel_rfl
theorem Ext.setRow {a b : World} (h : Ext a b) {g : Nat} (hg : a.heap.size ≤ g) (cs : Array Value) : Ext a (b.setRow g cs) :=
  ⟨(Below.os h : b.os = a.os), (Below.tape h : b.tape = a.tape), (Below.output h : b.output = a.output), by simpa [World.setRow] using h.le, fun i hi => (setRow_other b g i cs (by omega)).trans (Below.block h i hi)⟩
theorem Box.row {w : World} {g : Nat} {t : TypeId} {cs : Array Value} (h : Box w g t cs) (cs' : Array Value) : (w.setRow g cs').heap[g]? = some (.cells cs' t (0, 0)) := setRow_heap w g cs cs' t _ h

theorem timC_size (t : Nat → Int) : (outC0 t).size = (timC t).size := rfl
theorem timC_one (t : Nat → Int) : (timC t).all (·.oneCell') = true := by simp [timC, Value.oneCell']
/-- what stands behind k copies -/
structure CopyAt (w : World) (g0 g1 : Nat) (t : Nat → Int) (c : Array Value) (wx : World) : Prop where
  src : Box wx g0 23 (timC t)
  dst : Box wx g1 25 c
  res : Box wx (w.heap.size + 1) 25 (outC0 t)
  ext : Ext w wx
theorem CopyAt.step {w : World} {g0 g1 : Nat} {t : Nat → Int} {c : Array Value} {wx : World} (h : CopyAt w g0 g1 t c wx) (hne : g0 ≠ g1) (hg : w.heap.size ≤ g1) (hr : w.heap.size + 1 ≠ g1) (k : Nat) (v : Value) : CopyAt w g0 g1 t (c.setIfInBounds k v) (wx.setCell ⟨g1, k, none⟩ v) :=
  ⟨h.src.other hne v, h.dst.set k v, h.res.other hr v, h.ext.setCell hg v⟩

set_option maxHeartbeats 2000000 in
theorem to_timing (t : Nat → Int) (w : World) : Calls Try.prog 16 #[.agg (timC t)] w fun e w' => e = .returned (.agg (timC t)) ∧ Ext w w' := by
  go_enter Try.func16, Try.ntmps16
  go_upto_region 2 with (fail)
  have hC : CopyAt w w.heap.size (w.heap.size + 1 + 1) t (outC0 t) (((w.alloc (.cells (timC t) 23)).alloc (.cells #[.int .i64 0, .int .i64 0, .int .i64 0, .int .i64 0, .int .i64 0, .int .i64 0, .int .i64 0, .int .i64 0, .int .i64 0, .int .i64 0, .int .i64 0, .int .i64 0, .int .i64 0, .int .i64 0, .int .i64 0, .int .i64 0, .int .i64 0] 25)).alloc (.cells #[.int .i64 0, .int .i64 0, .int .i64 0, .int .i64 0, .int .i64 0, .int .i64 0, .int .i64 0, .int .i64 0, .int .i64 0, .int .i64 0, .int .i64 0, .int .i64 0, .int .i64 0, .int .i64 0, .int .i64 0, .int .i64 0, .int .i64 0] 25)) :=
    ⟨((Box.new w _ _).alloc _).alloc _, Box.new_at _ _ _ _ (by simp), (Box.new_at _ _ _ _ (by simp)).alloc _, (((Ext.refl w).alloc _).alloc _).alloc _⟩
  generalize (((w.alloc (.cells (timC t) 23)).alloc (.cells #[.int .i64 0, .int .i64 0, .int .i64 0, .int .i64 0, .int .i64 0, .int .i64 0, .int .i64 0, .int .i64 0, .int .i64 0, .int .i64 0, .int .i64 0, .int .i64 0, .int .i64 0, .int .i64 0, .int .i64 0, .int .i64 0, .int .i64 0] 25)).alloc (.cells #[.int .i64 0, .int .i64 0, .int .i64 0, .int .i64 0, .int .i64 0, .int .i64 0, .int .i64 0, .int .i64 0, .int .i64 0, .int .i64 0, .int .i64 0, .int .i64 0, .int .i64 0, .int .i64 0, .int .i64 0, .int .i64 0, .int .i64 0] 25)) = W0 at hC ⊢
  go_cut [] (fun wx => CopyAt w w.heap.size (w.heap.size + 1 + 1) t (outC1 t) wx)
  case first =>
    have q := (hC.src.cell 0).trans (timC_at t 0 (by omega))
    have d : _ = some (Value.int .i64 0) := hC.dst.cell 0
    have f := hC.dst.free 0
    have hC2 := hC.step (by omega) (by omega) (by omega) 0 (.int .i64 (t 0))
    rw [outC0_set] at hC2
    clear hC
    go_wp2_with fail
    go_meet
    exact hC2
  clear hC
  have hC := hcut
  clear hcut
  go_upto_region 3 with (fail)
  go_cut [] (fun wx => CopyAt w w.heap.size (w.heap.size + 1 + 1) t (outC2 t) wx)
  case first =>
    have q := (hC.src.cell 1).trans (timC_at t 1 (by omega))
    have d : _ = some (Value.int .i64 0) := hC.dst.cell 1
    have f := hC.dst.free 1
    have hC2 := hC.step (by omega) (by omega) (by omega) 1 (.int .i64 (t 1))
    rw [outC1_set] at hC2
    clear hC
    go_wp2_with fail
    go_meet
    exact hC2
  clear hC
  have hC := hcut
  clear hcut
  go_upto_region 4 with (fail)
  go_cut [] (fun wx => CopyAt w w.heap.size (w.heap.size + 1 + 1) t (outC3 t) wx)
  case first =>
    have q := (hC.src.cell 2).trans (timC_at t 2 (by omega))
    have d : _ = some (Value.int .i64 0) := hC.dst.cell 2
    have f := hC.dst.free 2
    have hC2 := hC.step (by omega) (by omega) (by omega) 2 (.int .i64 (t 2))
    rw [outC2_set] at hC2
    clear hC
    go_wp2_with fail
    go_meet
    exact hC2
  clear hC
  have hC := hcut
  clear hcut
  go_upto_region 5 with (fail)
  go_cut [] (fun wx => CopyAt w w.heap.size (w.heap.size + 1 + 1) t (outC4 t) wx)
  case first =>
    have q := (hC.src.cell 3).trans (timC_at t 3 (by omega))
    have d : _ = some (Value.int .i64 0) := hC.dst.cell 3
    have f := hC.dst.free 3
    have hC2 := hC.step (by omega) (by omega) (by omega) 3 (.int .i64 (t 3))
    rw [outC3_set] at hC2
    clear hC
    go_wp2_with fail
    go_meet
    exact hC2
  clear hC
  have hC := hcut
  clear hcut
  go_upto_region 6 with (fail)
  go_cut [] (fun wx => CopyAt w w.heap.size (w.heap.size + 1 + 1) t (outC5 t) wx)
  case first =>
    have q := (hC.src.cell 4).trans (timC_at t 4 (by omega))
    have d : _ = some (Value.int .i64 0) := hC.dst.cell 4
    have f := hC.dst.free 4
    have hC2 := hC.step (by omega) (by omega) (by omega) 4 (.int .i64 (t 4))
    rw [outC4_set] at hC2
    clear hC
    go_wp2_with fail
    go_meet
    exact hC2
  clear hC
  have hC := hcut
  clear hcut
  go_upto_region 7 with (fail)
  go_cut [] (fun wx => CopyAt w w.heap.size (w.heap.size + 1 + 1) t (outC6 t) wx)
  case first =>
    have q := (hC.src.cell 5).trans (timC_at t 5 (by omega))
    have d : _ = some (Value.int .i64 0) := hC.dst.cell 5
    have f := hC.dst.free 5
    have hC2 := hC.step (by omega) (by omega) (by omega) 5 (.int .i64 (t 5))
    rw [outC5_set] at hC2
    clear hC
    go_wp2_with fail
    go_meet
    exact hC2
  clear hC
  have hC := hcut
  clear hcut
  go_upto_region 8 with (fail)
  go_cut [] (fun wx => CopyAt w w.heap.size (w.heap.size + 1 + 1) t (outC7 t) wx)
  case first =>
    have q := (hC.src.cell 6).trans (timC_at t 6 (by omega))
    have d : _ = some (Value.int .i64 0) := hC.dst.cell 6
    have f := hC.dst.free 6
    have hC2 := hC.step (by omega) (by omega) (by omega) 6 (.int .i64 (t 6))
    rw [outC6_set] at hC2
    clear hC
    go_wp2_with fail
    go_meet
    exact hC2
  clear hC
  have hC := hcut
  clear hcut
  go_upto_region 9 with (fail)
  go_cut [] (fun wx => CopyAt w w.heap.size (w.heap.size + 1 + 1) t (outC8 t) wx)
  case first =>
    have q := (hC.src.cell 7).trans (timC_at t 7 (by omega))
    have d : _ = some (Value.int .i64 0) := hC.dst.cell 7
    have f := hC.dst.free 7
    have hC2 := hC.step (by omega) (by omega) (by omega) 7 (.int .i64 (t 7))
    rw [outC7_set] at hC2
    clear hC
    go_wp2_with fail
    go_meet
    exact hC2
  clear hC
  have hC := hcut
  clear hcut
  go_upto_region 10 with (fail)
  go_cut [] (fun wx => CopyAt w w.heap.size (w.heap.size + 1 + 1) t (outC9 t) wx)
  case first =>
    have q := (hC.src.cell 8).trans (timC_at t 8 (by omega))
    have d : _ = some (Value.int .i64 0) := hC.dst.cell 8
    have f := hC.dst.free 8
    have hC2 := hC.step (by omega) (by omega) (by omega) 8 (.int .i64 (t 8))
    rw [outC8_set] at hC2
    clear hC
    go_wp2_with fail
    go_meet
    exact hC2
  clear hC
  have hC := hcut
  clear hcut
  go_upto_region 11 with (fail)
  go_cut [] (fun wx => CopyAt w w.heap.size (w.heap.size + 1 + 1) t (outC10 t) wx)
  case first =>
    have q := (hC.src.cell 9).trans (timC_at t 9 (by omega))
    have d : _ = some (Value.int .i64 0) := hC.dst.cell 9
    have f := hC.dst.free 9
    have hC2 := hC.step (by omega) (by omega) (by omega) 9 (.int .i64 (t 9))
    rw [outC9_set] at hC2
    clear hC
    go_wp2_with fail
    go_meet
    exact hC2
  clear hC
  have hC := hcut
  clear hcut
  go_upto_region 12 with (fail)
  go_cut [] (fun wx => CopyAt w w.heap.size (w.heap.size + 1 + 1) t (outC11 t) wx)
  case first =>
    have q := (hC.src.cell 10).trans (timC_at t 10 (by omega))
    have d : _ = some (Value.int .i64 0) := hC.dst.cell 10
    have f := hC.dst.free 10
    have hC2 := hC.step (by omega) (by omega) (by omega) 10 (.int .i64 (t 10))
    rw [outC10_set] at hC2
    clear hC
    go_wp2_with fail
    go_meet
    exact hC2
  clear hC
  have hC := hcut
  clear hcut
  go_upto_region 13 with (fail)
  go_cut [] (fun wx => CopyAt w w.heap.size (w.heap.size + 1 + 1) t (outC12 t) wx)
  case first =>
    have q := (hC.src.cell 11).trans (timC_at t 11 (by omega))
    have d : _ = some (Value.int .i64 0) := hC.dst.cell 11
    have f := hC.dst.free 11
    have hC2 := hC.step (by omega) (by omega) (by omega) 11 (.int .i64 (t 11))
    rw [outC11_set] at hC2
    clear hC
    go_wp2_with fail
    go_meet
    exact hC2
  clear hC
  have hC := hcut
  clear hcut
  go_upto_region 14 with (fail)
  go_cut [] (fun wx => CopyAt w w.heap.size (w.heap.size + 1 + 1) t (outC13 t) wx)
  case first =>
    have q := (hC.src.cell 12).trans (timC_at t 12 (by omega))
    have d : _ = some (Value.int .i64 0) := hC.dst.cell 12
    have f := hC.dst.free 12
    have hC2 := hC.step (by omega) (by omega) (by omega) 12 (.int .i64 (t 12))
    rw [outC12_set] at hC2
    clear hC
    go_wp2_with fail
    go_meet
    exact hC2
  clear hC
  have hC := hcut
  clear hcut
  go_upto_region 15 with (fail)
  go_cut [] (fun wx => CopyAt w w.heap.size (w.heap.size + 1 + 1) t (outC14 t) wx)
  case first =>
    have q := (hC.src.cell 13).trans (timC_at t 13 (by omega))
    have d : _ = some (Value.int .i64 0) := hC.dst.cell 13
    have f := hC.dst.free 13
    have hC2 := hC.step (by omega) (by omega) (by omega) 13 (.int .i64 (t 13))
    rw [outC13_set] at hC2
    clear hC
    go_wp2_with fail
    go_meet
    exact hC2
  clear hC
  have hC := hcut
  clear hcut
  go_upto_region 16 with (fail)
  go_cut [] (fun wx => CopyAt w w.heap.size (w.heap.size + 1 + 1) t (outC15 t) wx)
  case first =>
    have q := (hC.src.cell 14).trans (timC_at t 14 (by omega))
    have d : _ = some (Value.int .i64 0) := hC.dst.cell 14
    have f := hC.dst.free 14
    have hC2 := hC.step (by omega) (by omega) (by omega) 14 (.int .i64 (t 14))
    rw [outC14_set] at hC2
    clear hC
    go_wp2_with fail
    go_meet
    exact hC2
  clear hC
  have hC := hcut
  clear hcut
  go_upto_region 17 with (fail)
  go_cut [] (fun wx => CopyAt w w.heap.size (w.heap.size + 1 + 1) t (outC16 t) wx)
  case first =>
    have q := (hC.src.cell 15).trans (timC_at t 15 (by omega))
    have d : _ = some (Value.int .i64 0) := hC.dst.cell 15
    have f := hC.dst.free 15
    have hC2 := hC.step (by omega) (by omega) (by omega) 15 (.int .i64 (t 15))
    rw [outC15_set] at hC2
    clear hC
    go_wp2_with fail
    go_meet
    exact hC2
  clear hC
  have hC := hcut
  clear hcut
  go_upto_region 18 with (fail)
  go_cut [] (fun wx => CopyAt w w.heap.size (w.heap.size + 1 + 1) t (outC17 t) wx)
  case first =>
    have q := (hC.src.cell 16).trans (timC_at t 16 (by omega))
    have d : _ = some (Value.int .i64 0) := hC.dst.cell 16
    have f := hC.dst.free 16
    have hC2 := hC.step (by omega) (by omega) (by omega) 16 (.int .i64 (t 16))
    rw [outC16_set] at hC2
    clear hC
    go_wp2_with fail
    go_meet
    exact hC2
  clear hC
  have hC := hcut
  clear hcut
  rw [show outC17 t = timC t from rfl] at hC
  have hst := run_storeCells_from (P := Try.prog) (w.heap.size + 1) 25 (timC t).toList 0 (outC0 t) _ hC.res rfl (fun v hv => (Array.all_eq_true_iff_forall_mem.1 (timC_one t)) v (by simpa using hv))
  rw [show (List.take 0 (outC0 t).toList ++ (timC t).toList).toArray = timC t from rfl] at hst
  go_wp2_with (refine wpList_load_row rfl 25 (.tmp 3) rfl (w.heap.size + 1 + 1) (by rfl) 25 (timC t) (0, 0) _ hC.dst Try.underlying25 rfl info_timing ?_)
  refine bodyPost_ret (v := .agg (timC t)) (results_cell_row Try.results16 _ _ (w.heap.size + 1) 25 (timC t) (0, 0) _ ?_ ?_ Try.underlying25 rfl info_timing) ?_ ?_
  · rfl
  · exact hC.res.row _
  · rfl
  · exact ⟨rfl, hC.ext.setRow (by omega) _⟩

end Go.Proofs.Ytlchejnjeeilpaa
