/- The reference's l01Long and l01Text: strings of a known length. -/
import Derived.Test.YtmokjebcjmphkaaDrawP
import Derived.Test.YtmokjebcjmphkaaHexW
namespace Go.Proofs.Ytmokjebcjmphkaa
open Go.RowKit

def DrawnS (B g : Nat) (w : World) (R : ByteArray → Prop) : Ending → World → Prop := fun e w' => ∃ s, R s ∧ e = .returned (.string s) ∧ Cur B g w' ∧ But g w w'
theorem strOf_size (l : List UInt8) : (strOf l).size = l.length := by simp [strOf, ByteArray.size]
theorem cellsB_set (l : List UInt8) (k : Nat) (x : UInt8) : (cellsB l).set k (.int .u8 x.toNat) = cellsB (l.set k x) := by
  rw [cellsB, cellsB, List.map_set]

theorem But.grown {g : Nat} {a b c : World} {row : Option Nat} (x : But g a b) (hg : b.grownBy c row) (hr : ∀ k, row = some k → a.heap.size ≤ k) : But g a c :=
  ⟨hg.os.trans x.os, hg.tape.trans x.tape, hg.output.trans x.output, Nat.le_trans x.size hg.size, fun i hi hne => (hg.block i (Nat.lt_of_lt_of_le hi x.size) (fun e => by have := hr i e.symm; omega)).trans (x.block i hi hne)⟩

/-- a string of length m, new blocks besides -/
def LongStr (m : Nat) (w : World) : Ending → World → Prop := fun e w' => ∃ l : List UInt8, l.length = m ∧ e = .returned (.string (strOf l)) ∧ Ext w w'
theorem long_any (m : Nat) (x : UInt8) (v : Int) (hv : v = (x.toNat : Int)) (hm : m ≤ 30000) (w : World) : Calls Try.prog 35 #[.int .i64 m, .int .u8 v] w (LongStr m w) := by
  subst hv
  obtain ⟨i0, hi, hz0, hz1, hz2⟩ := info_parts u8_info
  go_enter Try.func35, Try.ntmps35
  go_wp2_with (at_make; refine wpList_make_full _ rfl _ _ 32 rfl w.heap.size 5 i0 (.int .u8 0) 1 Try.underlying32 hi hz0 hz1 _ _ _ _ m rfl rfl rfl rfl (by rw [hz2]; omega) (by unfold maxLen; omega) (Nat.le_refl _) ?_)
  intro w1 hown1 hgrow1
  have x1 := (Ext.refl w).grown hgrow1 (fun _ e => by cases e)
  have hown : w1.ownsRow w.heap.size 5 1 (.slice (some ⟨w.heap.size, 0, none⟩) m m) m (cellsB (List.replicate m 0)) := by
    rw [cellsB, List.map_replicate]
    simpa [toList_madeCells_one] using hown1
  have hb1 : w.heap.size < w1.heap.size ∨ m = 0 := by
    rcases Nat.eq_zero_or_pos m with h | h
    · exact .inr h
    · exact .inl (World.ownsRow.lt hown1 w.heap.size rfl).2
  clear hown1 hgrow1
  go_wp2
  go_loopw [6] (fun i wr => ∃ (k : Nat) (l : List UInt8), k ≤ m ∧ i = .int .i64 k ∧ Hid (l.length = m) ∧ wr.ownsRow w.heap.size 5 1 (.slice (some ⟨w.heap.size, 0, none⟩) m m) m (cellsB l) ∧ Ext w wr) (fun i _ => m - (intOf i).toNat)
  case atStart => exact ⟨0, _, Nat.zero_le _, rfl, (by simp : (List.replicate m (0 : UInt8)).length = m), hown, x1⟩
  case round =>
    obtain ⟨k, l, hk, rfl, hl, ho, xr⟩ := hrel
    clear hown x1 hb1
    by_cases hlt : k < m
    · have f1 := World.ownsRow.frozenAt ho k
      have q1 : wr.cell? ⟨w.heap.size, k, none⟩ = some (.int .u8 (l.getD k 0).toNat) := by
        rw [World.ownsRow.cellAt ho k (by omega), cellsB, List.getElem?_map, List.getElem?_eq_getElem (by rw [hl.out]; exact hlt), List.getD_eq_getElem?_getD, List.getElem?_eq_getElem (by rw [hl.out]; exact hlt)]
        rfl
      have hst := (World.ownsRow.stored ho k (.int .u8 x.toNat)).1
      rw [cellsB_set] at hst
      have x2 : Ext w (wr.setCell ⟨w.heap.size, k, none⟩ (.int .u8 x.toNat)) := xr.setCell (Nat.le_refl _) _
      have hl2 : Hid ((l.set k x).length = m) := by have := hl.out; exact (List.length_set).trans this
      generalize (l.getD k 0).toNat = y at *
      clear ho
      go_wp2
      go_roundw
      case rel => exact ⟨k + 1, _, by omega, by go_num, hl2, hst, x2⟩
      case measure => simp [intOf]; omega
    · obtain rfl : k = m := by omega
      have HC := conv_own (by rw [hl.out]; exact ho)
      go_wp2
      go_ret
      exact ⟨l, hl.out, rfl, xr⟩

theorem byte_at (z : Int) (h0 : 0 ≤ z) (h : z ≤ 255) : ((UInt8.ofNat z.toNat).toNat : Int) = z := by simp; omega



end Go.Proofs.Ytmokjebcjmphkaa
