/- The reference's l01Long and l01Text: strings of a known length. -/
import Derived.Test.YtmokjebcjmphkaaDoorDrawP
import Derived.Test.YtmokjebcjmphkaaDoorHexW
namespace Go.Proofs.YtmokjebcjmphkaaDoor
open Go.RowKit

def DrawnS (B g : Nat) (w : World) (R : ByteArray → Prop) : Ending → World → Prop := fun e w' => ∃ s, R s ∧ e = .returned (.string s) ∧ Cur B g w' ∧ But g w w'
theorem strOf_size (l : List UInt8) : (strOf l).size = l.length := by simp [strOf, ByteArray.size]
theorem cellsB_set (l : List UInt8) (k : Nat) (x : UInt8) : (cellsB l).set k (.int .u8 x.toNat) = cellsB (l.set k x) := by
  rw [cellsB, cellsB, List.map_set]

theorem But.grown {g : Nat} {a b c : World} {row : Option Nat} (x : But g a b) (hg : b.grownBy c row) (hr : ∀ k, row = some k → a.heap.size ≤ k) : But g a c :=
  ⟨hg.os.trans x.os, hg.tape.trans x.tape, hg.output.trans x.output, Nat.le_trans x.size hg.size, fun i hi hne => (hg.block i (Nat.lt_of_lt_of_le hi x.size) (fun e => by have := hr i e.symm; omega)).trans (x.block i hi hne)⟩

/-- a string of length m, new blocks besides -/
def LongStr (m : Nat) (w : World) : Ending → World → Prop := fun e w' => ∃ l : List UInt8, l.length = m ∧ e = .returned (.string (strOf l)) ∧ Ext w w'
theorem long_any (m : Nat) (x : UInt8) (v : Int) (hv : v = (x.toNat : Int)) (hm : m ≤ 30000) (w : World) : Calls Tryd.prog 20 #[.int .i64 m, .int .u8 v] w (LongStr m w) := by
  subst hv
  obtain ⟨i0, hi, hz0, hz1, hz2⟩ := info_parts u8_info
  go_enter Tryd.func20, Tryd.ntmps20
  go_wp2_with (at_make; refine wpList_make_full _ rfl _ _ 24 rfl w.heap.size 5 i0 (.int .u8 0) 1 Tryd.underlying24 hi hz0 hz1 _ _ _ _ m rfl rfl rfl rfl (by rw [hz2]; omega) (by unfold maxLen; omega) (Nat.le_refl _) ?_)
  intro w1 hown1 hgrow1
  have x1 := (Ext.refl w).grown hgrow1 (fun _ e => by cases e)
  have hown : w1.ownsRow w.heap.size 5 1 (.slice (some ⟨w.heap.size, 0, none⟩) m m) m (cellsB (List.replicate m 0)) := by
    rw [cellsB, List.map_replicate]
    simpa [toList_madeCells_one] using hown1
  have hb1 : w.heap.size < w1.heap.size ∨ m = 0 := by
    rcases Nat.eq_zero_or_pos m with h | h
    · exact .inr h
    · exact .inl (World.ownsRow.lt hown1 w.heap.size rfl).2
  clear hown1 hgrow1
  go_wp2
  go_loopw [6] (fun i wr => ∃ (k : Nat) (l : List UInt8), k ≤ m ∧ i = .int .i64 k ∧ Hid (l.length = m) ∧ wr.ownsRow w.heap.size 5 1 (.slice (some ⟨w.heap.size, 0, none⟩) m m) m (cellsB l) ∧ Ext w wr) (fun i _ => m - (intOf i).toNat)
  case atStart => exact ⟨0, _, Nat.zero_le _, rfl, (by simp : (List.replicate m (0 : UInt8)).length = m), hown, x1⟩
  case round =>
    obtain ⟨k, l, hk, rfl, hl, ho, xr⟩ := hrel
    clear hown x1 hb1
    by_cases hlt : k < m
    · have f1 := World.ownsRow.frozenAt ho k
      have q1 : wr.cell? ⟨w.heap.size, k, none⟩ = some (.int .u8 (l.getD k 0).toNat) := by
        rw [World.ownsRow.cellAt ho k (by omega), cellsB, List.getElem?_map, List.getElem?_eq_getElem (by rw [hl.out]; exact hlt), List.getD_eq_getElem?_getD, List.getElem?_eq_getElem (by rw [hl.out]; exact hlt)]
        rfl
      have hst := (World.ownsRow.stored ho k (.int .u8 x.toNat)).1
      rw [cellsB_set] at hst
      have x2 : Ext w (wr.setCell ⟨w.heap.size, k, none⟩ (.int .u8 x.toNat)) := xr.setCell (Nat.le_refl _) _
      have hl2 : Hid ((l.set k x).length = m) := by have := hl.out; exact (List.length_set).trans this
      generalize (l.getD k 0).toNat = y at *
      clear ho
      go_wp2
      go_roundw
      case rel => exact ⟨k + 1, _, by omega, by go_num, hl2, hst, x2⟩
      case measure => simp [intOf]; omega
    · obtain rfl : k = m := by omega
      have HC := conv_own (by rw [hl.out]; exact ho)
      go_wp2
      go_ret
      exact ⟨l, hl.out, rfl, xr⟩

theorem byte_at (z : Int) (h0 : 0 ≤ z) (h : z ≤ 255) : ((UInt8.ofNat z.toNat).toNat : Int) = z := by simp; omega

theorem text_any (B g m : Nat) (hm : m ≤ 5000) (w : World) (h : Cur B g w) : Calls Tryd.prog 21 #[.pointer (some ⟨g, 0, none⟩), .int .i64 m] w (DrawnS B g w (fun s => s.size = m)) := by
  obtain ⟨i0, hi, hz0, hz1, hz2⟩ := info_parts u8_info
  have hgl := h.lt
  go_enter Tryd.func21, Tryd.ntmps21
  go_wp2
  go_loopw [5, 6] (fun v i wr => ∃ (k : Nat) (l : List UInt8), k ≤ m ∧ i = .int .i64 k ∧ Hid (l.length = k) ∧ wr.ownsRow w.heap.size 5 1 v k (cellsB l) ∧ Cur B g wr ∧ w.heap.size ≤ wr.heap.size ∧ But g w wr)
    (fun _ i _ => m - (intOf i).toNat)
  case atStart => exact ⟨0, [], Nat.zero_le _, rfl, rfl, World.ownsRow_made w #[] 0 (Nat.le_refl _) (by simp [maxLen]) rfl, h.ext ((Ext.refl _).alloc _), by simp, (But.refl g w).alloc _⟩
  case round =>
    obtain ⟨k, l, hk, rfl, hl, hown, hcr, hsz, xr⟩ := hrel
    clear h
    by_cases hlt : k < m
    · go_wp2_with fail
      refine (byte_any B g _ hcr).mono ?_
      rintro e w2 ⟨r, ⟨r0, r1⟩, rfl, hc2, hb2⟩
      have hown2 := own_but hown hb2 hgl
      have hs2 := hb2.size
      have HB := Lib.hid (byte_at r r0 r1)
      go_wp2_with (at_builtin; refine wpList_append_own _ rfl (.tmp 15) (.tmp 19) 24 rfl w.heap.size 5 i0 (.int .u8 0) 1 1 Tryd.underlying24 hi hz0 hz1 hz2 rfl (by decide) _ _ _ rfl (hown2.alloc _) ⟨w2.heap.size, 0, none⟩ 1 1 [.int .u8 r] rfl rfl (cell_one_new _ _ _) ?c2 ?c3 ?c4 ?c5 ?_)
      case c2 => intro u hu; simp at hu; subst hu; rfl
      case c3 => unfold maxLen; omega
      case c4 => omega
      case c5 => simp; omega
      intro v' w3 hown3 hgrow _
      have hlo := fun j hj => (hown2.lt j hj).1
      have hBg : B ≤ w.heap.size := by obtain ⟨hB, _⟩ := hc2; omega
      have hc3 := (hc2.ext ((Ext.refl _).alloc _)).grown hgrow (fun e => by have := hlo g e; omega) (fun j hj => by have := hlo j hj; omega)
      have x3 := (xr.trans (hb2.alloc _)).grown hgrow (fun j hj => by have := hlo j hj; omega)
      have hs3 := hgrow.size
      have hown4 : w3.ownsRow w.heap.size 5 1 v' (k + 1) (cellsB (l ++ [UInt8.ofNat r.toNat])) := by
        rw [cellsB, List.map_append, List.map_cons, List.map_nil, HB.out]
        exact hown3
      clear hown hown2 hcr hc2 hgrow hlo hown3
      go_wp2
      go_roundw
      case rel => exact ⟨k + 1, _, by omega, by go_num, (by have := hl.out; exact (List.length_append).trans (by simp [this])), hown4, hc3, (by simp at hs3; omega), x3⟩
      case measure => simp [intOf]; omega
    · obtain rfl : k = m := by omega
      have HC := conv_own (by rw [hl.out]; exact hown)
      go_wp2
      go_ret
      exact ⟨_, (strOf_size l).trans hl.out, rfl, hcr, xr⟩

end Go.Proofs.YtmokjebcjmphkaaDoor
