/- The contract of the reference's draw of any geometry. -/
import Derived.Test.YtlchejnjeeilpaaGeoD
import Derived.Test.YtlchejnjeeilpaaDrawP
import Derived.Deep.RegionHeld3
import Derived.Deep.DeepCutAuto
namespace Go.Proofs.Ytlchejnjeeilpaa
open Go.RowKit


def DrawnAny (B g : Nat) (w : World) : Ending → World → Prop := fun e w' => ∃ a b c d : Int, e = .returned (.agg #[.int .i64 a, .int .i64 b, .int .i64 c, .int .i64 d]) ∧ Cur B g w' ∧ But g w w'

set_option maxHeartbeats 4000000 in
theorem geo_all (B g : Nat) (w : World) (h : Cur B g w) : Calls Try.prog 69 #[.pointer (some ⟨g, 0, none⟩)] w (DrawnAny B g w) := by
  have hgl := h.lt
  have hBw : B ≤ w.heap.size := by obtain ⟨hB, _⟩ := h; omega
  have b0 := Box.new w 47 #[.int .i64 0, .int .i64 0, .int .i64 0, .int .i64 0]
  have h0 := h.ext ((Ext.refl w).alloc (.cells #[.int .i64 0, .int .i64 0, .int .i64 0, .int .i64 0] 47))
  have y0 := (But.refl g w).alloc (.cells #[.int .i64 0, .int .i64 0, .int .i64 0, .int .i64 0] 47)
  clear h
  go_enter Try.func69, Try.ntmps69
  go_wp2_with fail
  refine (geo_any B g _ h0).mono ?_
  rintro e w1 ⟨a, b, c, d, -, rfl, h1, hb1⟩
  have l1 := hb1.size
  simp at l1
  have br1 := (But.box hb1 b0 (by omega)).alloc (.cells #[.int .i64 a, .int .i64 b, .int .i64 c, .int .i64 d] 47)
  have bt1 := Box.new w1 47 #[.int .i64 a, .int .i64 b, .int .i64 c, .int .i64 d]
  have h1' := h1.ext ((Ext.refl w1).alloc (.cells #[.int .i64 a, .int .i64 b, .int .i64 c, .int .i64 d] 47))
  have y1 := (y0.trans hb1).alloc (.cells #[.int .i64 a, .int .i64 b, .int .i64 c, .int .i64 d] 47)
  clear b0 h0 y0 h1 hb1
  go_wp2_with fail
  refine (below_small B g 16 (by omega) (by omega) _ h1').mono ?_
  rintro e w2 ⟨r, ⟨r0, r1⟩, rfl, c2, hb2⟩
  have br := But.box hb2 br1 (by omega)
  have bt := But.box hb2 bt1 (by omega)
  have y2 := y1.trans hb2
  have l2 := hb2.size
  simp at l2
  have hr : r = 0 ∨ r = 1 ∨ r = 2 ∨ r = 3 ∨ (4 ≤ r ∧ r < 16) := by omega
  clear br1 bt1 h1' y1 hb2 r0 r1
  have XS : Hid (∀ (x : World) (i : Nat) (u : Value), Box x w.heap.size 47 #[.int .i64 0, .int .i64 0, .int .i64 0, .int .i64 0] → Box (x.setCell ⟨w1.heap.size, i, none⟩ u) w.heap.size 47 #[.int .i64 0, .int .i64 0, .int .i64 0, .int .i64 0]) := fun x i u hb => hb.other (by simp; omega) _
  have CS : Hid (∀ (x : World) (i : Nat) (u : Value), Cur B g x → Cur B g (x.setCell ⟨w1.heap.size, i, none⟩ u)) := fun x i u hb => hb.set (by simp; omega) (by simp; omega) _
  have CR : Hid (∀ (x : World) (i : Nat) (u : Value), Cur B g x → Cur B g (x.setCell ⟨w.heap.size, i, none⟩ u)) := fun x i u hb => hb.set (by simp; omega) (by simp; omega) _
  have YS : Hid (∀ (x : World) (i : Nat) (u : Value), But g w x → But g w (x.setCell ⟨w1.heap.size, i, none⟩ u)) := fun x i u hb => hb.set (.inr (by simp; omega)) _
  have YR : Hid (∀ (x : World) (i : Nat) (u : Value), But g w x → But g w (x.setCell ⟨w.heap.size, i, none⟩ u)) := fun x i u hb => hb.set (.inr (by simp)) _
  rcases hr with rfl | rfl | rfl | rfl | ⟨r4, r5⟩
  · have bx := Box.new w2 3 #[.int .i64 0, .int .i64 3, .int .i64 (-1)]
    have c2' := c2.ext ((Ext.refl w2).alloc (.cells #[.int .i64 0, .int .i64 3, .int .i64 (-1)] 3))
    have br' := br.alloc (.cells #[.int .i64 0, .int .i64 3, .int .i64 (-1)] 3)
    have bt' := bt.alloc (.cells #[.int .i64 0, .int .i64 3, .int .i64 (-1)] 3)
    have y2' := y2.alloc (.cells #[.int .i64 0, .int .i64 3, .int .i64 (-1)] 3)
    have hgw := c2.lt
    clear c2 br bt y2
    go_wp2_with fail
    refine (pick_any B g w2.heap.size 3 3 [0, 3, -1] rfl (by omega) (by omega) _ c2' (by omega) bx.lt (fun i hi => (bx.cell i).trans (by match i, hi with | 0, _ => rfl | 1, _ => rfl | 2, _ => rfl))).mono ?_
    rintro e w3 ⟨z, -, rfl, c3, hb3⟩
    have br3 := But.box hb3 br' (by omega)
    have bt3 := But.box hb3 bt' (by omega)
    have C3 := Lib.hid c3
    have Y3 := Lib.hid (y2'.trans hb3)
    have f3 := br3.free
    have g3 := bt3.free
    obtain ⟨i0, i1, i2, i3⟩ := br3.cell4
    obtain ⟨j0, j1, j2, j3⟩ := bt3.cell4
    have l3 := br3.lt
    have l4 := bt3.lt
    have R3 := Lib.hid br3
    clear bx c2' br' bt' y2' c3 hb3 br3 bt3
    go_wp2
    refine bodyPost_ret (v := .agg #[.int .i64 z, .int .i64 b, .int .i64 c, .int .i64 d]) (results_cell_row Try.results69 _ _ w.heap.size 47 #[.int .i64 z, .int .i64 b, .int .i64 c, .int .i64 d] (0, 0) _ ?_ ?_ Try.underlying47 rfl info_geo) ?_ ?_
    · rfl
    · exact Box.put4 (XS.out _ _ _ R3.out) _ _ _ _
    · rfl
    · exact ⟨z, b, c, d, rfl, (CR.out _ _ _ (CR.out _ _ _ (CR.out _ _ _ (CR.out _ _ _ (CS.out _ _ _ C3.out))))), (YR.out _ _ _ (YR.out _ _ _ (YR.out _ _ _ (YR.out _ _ _ (YS.out _ _ _ Y3.out)))))⟩
  · have bx := Box.new w2 3 #[.int .i64 0, .int .i64 5, .int .i64 9223372036854775807]
    have c2' := c2.ext ((Ext.refl w2).alloc (.cells #[.int .i64 0, .int .i64 5, .int .i64 9223372036854775807] 3))
    have br' := br.alloc (.cells #[.int .i64 0, .int .i64 5, .int .i64 9223372036854775807] 3)
    have bt' := bt.alloc (.cells #[.int .i64 0, .int .i64 5, .int .i64 9223372036854775807] 3)
    have y2' := y2.alloc (.cells #[.int .i64 0, .int .i64 5, .int .i64 9223372036854775807] 3)
    have hgw := c2.lt
    clear c2 br bt y2
    go_wp2_with fail
    refine (pick_any B g w2.heap.size 3 3 [0, 5, 9223372036854775807] rfl (by omega) (by omega) _ c2' (by omega) bx.lt (fun i hi => (bx.cell i).trans (by match i, hi with | 0, _ => rfl | 1, _ => rfl | 2, _ => rfl))).mono ?_
    rintro e w3 ⟨z, -, rfl, c3, hb3⟩
    have br3 := But.box hb3 br' (by omega)
    have bt3 := But.box hb3 bt' (by omega)
    have C3 := Lib.hid c3
    have Y3 := Lib.hid (y2'.trans hb3)
    have f3 := br3.free
    have g3 := bt3.free
    obtain ⟨i0, i1, i2, i3⟩ := br3.cell4
    obtain ⟨j0, j1, j2, j3⟩ := bt3.cell4
    have l3 := br3.lt
    have l4 := bt3.lt
    have R3 := Lib.hid br3
    clear bx c2' br' bt' y2' c3 hb3 br3 bt3
    go_wp2
    refine bodyPost_ret (v := .agg #[.int .i64 a, .int .i64 z, .int .i64 c, .int .i64 d]) (results_cell_row Try.results69 _ _ w.heap.size 47 #[.int .i64 a, .int .i64 z, .int .i64 c, .int .i64 d] (0, 0) _ ?_ ?_ Try.underlying47 rfl info_geo) ?_ ?_
    · rfl
    · exact Box.put4 (XS.out _ _ _ R3.out) _ _ _ _
    · rfl
    · exact ⟨a, z, c, d, rfl, (CR.out _ _ _ (CR.out _ _ _ (CR.out _ _ _ (CR.out _ _ _ (CS.out _ _ _ C3.out))))), (YR.out _ _ _ (YR.out _ _ _ (YR.out _ _ _ (YR.out _ _ _ (YS.out _ _ _ Y3.out)))))⟩
  · have bx := Box.new w2 3 #[.int .i64 1, .int .i64 16, .int .i64 17]
    have c2' := c2.ext ((Ext.refl w2).alloc (.cells #[.int .i64 1, .int .i64 16, .int .i64 17] 3))
    have br' := br.alloc (.cells #[.int .i64 1, .int .i64 16, .int .i64 17] 3)
    have bt' := bt.alloc (.cells #[.int .i64 1, .int .i64 16, .int .i64 17] 3)
    have y2' := y2.alloc (.cells #[.int .i64 1, .int .i64 16, .int .i64 17] 3)
    have hgw := c2.lt
    clear c2 br bt y2
    go_wp2_with fail
    refine (pick_any B g w2.heap.size 3 3 [1, 16, 17] rfl (by omega) (by omega) _ c2' (by omega) bx.lt (fun i hi => (bx.cell i).trans (by match i, hi with | 0, _ => rfl | 1, _ => rfl | 2, _ => rfl))).mono ?_
    rintro e w3 ⟨z, -, rfl, c3, hb3⟩
    have br3 := But.box hb3 br' (by omega)
    have bt3 := But.box hb3 bt' (by omega)
    have C3 := Lib.hid c3
    have Y3 := Lib.hid (y2'.trans hb3)
    have f3 := br3.free
    have g3 := bt3.free
    obtain ⟨i0, i1, i2, i3⟩ := br3.cell4
    obtain ⟨j0, j1, j2, j3⟩ := bt3.cell4
    have l3 := br3.lt
    have l4 := bt3.lt
    have R3 := Lib.hid br3
    clear bx c2' br' bt' y2' c3 hb3 br3 bt3
    go_wp2
    refine bodyPost_ret (v := .agg #[.int .i64 a, .int .i64 b, .int .i64 z, .int .i64 d]) (results_cell_row Try.results69 _ _ w.heap.size 47 #[.int .i64 a, .int .i64 b, .int .i64 z, .int .i64 d] (0, 0) _ ?_ ?_ Try.underlying47 rfl info_geo) ?_ ?_
    · rfl
    · exact Box.put4 (XS.out _ _ _ R3.out) _ _ _ _
    · rfl
    · exact ⟨a, b, z, d, rfl, (CR.out _ _ _ (CR.out _ _ _ (CR.out _ _ _ (CR.out _ _ _ (CS.out _ _ _ C3.out))))), (YR.out _ _ _ (YR.out _ _ _ (YR.out _ _ _ (YR.out _ _ _ (YS.out _ _ _ Y3.out)))))⟩
  · have bx := Box.new w2 3 #[.int .i64 0, .int .i64 8, .int .i64 9]
    have c2' := c2.ext ((Ext.refl w2).alloc (.cells #[.int .i64 0, .int .i64 8, .int .i64 9] 3))
    have br' := br.alloc (.cells #[.int .i64 0, .int .i64 8, .int .i64 9] 3)
    have bt' := bt.alloc (.cells #[.int .i64 0, .int .i64 8, .int .i64 9] 3)
    have y2' := y2.alloc (.cells #[.int .i64 0, .int .i64 8, .int .i64 9] 3)
    have hgw := c2.lt
    clear c2 br bt y2
    go_wp2_with fail
    refine (pick_any B g w2.heap.size 3 3 [0, 8, 9] rfl (by omega) (by omega) _ c2' (by omega) bx.lt (fun i hi => (bx.cell i).trans (by match i, hi with | 0, _ => rfl | 1, _ => rfl | 2, _ => rfl))).mono ?_
    rintro e w3 ⟨z, -, rfl, c3, hb3⟩
    have br3 := But.box hb3 br' (by omega)
    have bt3 := But.box hb3 bt' (by omega)
    have C3 := Lib.hid c3
    have Y3 := Lib.hid (y2'.trans hb3)
    have f3 := br3.free
    have g3 := bt3.free
    obtain ⟨i0, i1, i2, i3⟩ := br3.cell4
    obtain ⟨j0, j1, j2, j3⟩ := bt3.cell4
    have l3 := br3.lt
    have l4 := bt3.lt
    have R3 := Lib.hid br3
    clear bx c2' br' bt' y2' c3 hb3 br3 bt3
    go_wp2
    refine bodyPost_ret (v := .agg #[.int .i64 a, .int .i64 b, .int .i64 c, .int .i64 z]) (results_cell_row Try.results69 _ _ w.heap.size 47 #[.int .i64 a, .int .i64 b, .int .i64 c, .int .i64 z] (0, 0) _ ?_ ?_ Try.underlying47 rfl info_geo) ?_ ?_
    · rfl
    · exact Box.put4 (XS.out _ _ _ R3.out) _ _ _ _
    · rfl
    · exact ⟨a, b, c, z, rfl, (CR.out _ _ _ (CR.out _ _ _ (CR.out _ _ _ (CR.out _ _ _ (CS.out _ _ _ C3.out))))), (YR.out _ _ _ (YR.out _ _ _ (YR.out _ _ _ (YR.out _ _ _ (YS.out _ _ _ Y3.out)))))⟩
  · have e0 : (r == 0) = false := by rw [beq_eq_false_iff_ne]; omega
    have e1 : (r == 1) = false := by rw [beq_eq_false_iff_ne]; omega
    have e2 : (r == 2) = false := by rw [beq_eq_false_iff_ne]; omega
    have e3 : (r == 3) = false := by rw [beq_eq_false_iff_ne]; omega
    have f3 := br.free
    obtain ⟨i0, i1, i2, i3⟩ := br.cell4
    obtain ⟨j0, j1, j2, j3⟩ := bt.cell4
    have l3 := br.lt
    have R3 := Lib.hid br
    have C3 := Lib.hid c2
    have Y3 := Lib.hid y2
    clear r4 r5 br bt c2 y2
    go_wp2
    refine bodyPost_ret (v := .agg #[.int .i64 a, .int .i64 b, .int .i64 c, .int .i64 d]) (results_cell_row Try.results69 _ _ w.heap.size 47 #[.int .i64 a, .int .i64 b, .int .i64 c, .int .i64 d] (0, 0) _ ?_ ?_ Try.underlying47 rfl info_geo) ?_ ?_
    · rfl
    · exact Box.put4 R3.out _ _ _ _
    · rfl
    · exact ⟨a, b, c, d, rfl, (CR.out _ _ _ (CR.out _ _ _ (CR.out _ _ _ (CR.out _ _ _ C3.out)))), (YR.out _ _ _ (YR.out _ _ _ (YR.out _ _ _ (YR.out _ _ _ Y3.out))))⟩

end Go.Proofs.Ytlchejnjeeilpaa
