/- The contract of the reference's draw of a command. -/
import Derived.Test.YtamlfjkkpgmjiaaDoorCmdD
namespace Go.Proofs.YtamlfjkkpgmjiaaDoor
open Go.RowKit
attribute [local go_sem ↓] Go.wp_at_zero Go.wp_at_succ

set_option maxHeartbeats 8000000 in
theorem cmd_any (B g : Nat) (a b c d : Int) (hG : GeoIn a b c d) (w : World) (h : Cur B g w) : Calls Tryd.prog 35 #[.pointer (some ⟨g, 0, none⟩), .agg #[.int .i64 a, .int .i64 b, .int .i64 c, .int .i64 d]] w (DrawnCmd B g a b c d w) := by
  have hgl := h.lt
  have hBw : B ≤ w.heap.size := by obtain ⟨hB, _⟩ := h; omega
  have b0 := (Box.new w 35 #[.int .i64 a, .int .i64 b, .int .i64 c, .int .i64 d]).alloc (.cells #[.int .i64 0, .int .i64 0, .int .i64 0, .int .i64 0] 25)
  have bR := Box.new_at (w.alloc (.cells #[.int .i64 a, .int .i64 b, .int .i64 c, .int .i64 d] 35)) 25 #[.int .i64 0, .int .i64 0, .int .i64 0, .int .i64 0] (w.heap.size + 1) (by simp)
  have x0 : Ext w ((w.alloc (.cells #[.int .i64 a, .int .i64 b, .int .i64 c, .int .i64 d] 35)).alloc (.cells #[.int .i64 0, .int .i64 0, .int .i64 0, .int .i64 0] 25)) := ((Ext.refl w).alloc _).alloc _
  have h0 := h.ext x0
  clear h
  go_enter Tryd.func35, Tryd.ntmps35
  go_wp2_with fail
  refine (below_small B g 9 (by omega) (by omega) _ h0).mono ?_
  rintro e u1 ⟨r, ⟨r0, r1⟩, rfl, c1, v1⟩
  have y1 := (But.ext (g := g) x0).trans v1
  have g1 := (But.box v1 b0 (by simp; omega)).alloc (.cells #[.int .i64 (1 + r), .int .i64 0, .int .i64 0, .int .i64 0] 25)
  have R1 := (But.box v1 bR (by simp; omega)).alloc (.cells #[.int .i64 (1 + r), .int .i64 0, .int .i64 0, .int .i64 0] 25)
  have X1 := Box.new u1 25 #[.int .i64 (1 + r), .int .i64 0, .int .i64 0, .int .i64 0]
  have c1' := c1.ext ((Ext.refl u1).alloc (.cells #[.int .i64 (1 + r), .int .i64 0, .int .i64 0, .int .i64 0] 25))
  have y1' := y1.alloc (.cells #[.int .i64 (1 + r), .int .i64 0, .int .i64 0, .int .i64 0] 25)
  have l1 := v1.size
  simp at l1
  obtain ⟨q0, q1, q2, q3⟩ := g1.cell4
  clear b0 bR x0 h0 c1 v1 y1
  go_wp2_with fail
  refine (addr_any B g a b c d hG _ c1').mono ?_
  rintro e u2 ⟨x, y, z, hxyz, rfl, c2, v2⟩
  have l2 := v2.size
  simp at l2
  have X2 := (But.box v2 X1 (by simp; omega)).alloc (.cells #[.int .i64 x, .int .i64 y, .int .i64 z] 70)
  have R2 := (But.box v2 R1 (by simp; omega)).alloc (.cells #[.int .i64 x, .int .i64 y, .int .i64 z] 70)
  have A2 := Box.new u2 70 #[.int .i64 x, .int .i64 y, .int .i64 z]
  have c3 := c2.ext ((Ext.refl u2).alloc (.cells #[.int .i64 x, .int .i64 y, .int .i64 z] 70))
  have y3 := (y1'.trans v2).alloc (.cells #[.int .i64 x, .int .i64 y, .int .i64 z] 70)
  clear q0 q1 q2 q3 g1 R1 X1 c1' y1' c2 v2
  go_upto_region 3 with (fail)
  generalize hW : u2.alloc (.cells #[.int .i64 x, .int .i64 y, .int .i64 z] 70) = W at X2 R2 A2 c3 y3 ⊢
  clear hW
  have hr : r = 0 ∨ r = 1 ∨ r = 2 ∨ r = 3 ∨ r = 4 ∨ r = 5 ∨ r = 6 ∨ r = 7 ∨ r = 8 := by omega
  clear r0 r1
  have fX := X2.free
  have fR := R2.free
  obtain ⟨a0, a1, a2⟩ := A2.cell3
  have HX := Lib.hid X2
  have HR := Lib.hid R2
  have HP := Lib.hid hxyz
  have hsz := X2.lt
  have hszR := R2.lt
  obtain ⟨r0, r1, r2, r3⟩ := R2.cell4
  have xs : ∀ (b : World) (i : Nat) (u : Value), Box b (w.heap.size + 1) 25 #[.int .i64 0, .int .i64 0, .int .i64 0, .int .i64 0] → Box (b.setCell ⟨u1.heap.size, i, none⟩ u) (w.heap.size + 1) 25 #[.int .i64 0, .int .i64 0, .int .i64 0, .int .i64 0] := fun b i u hb => hb.other (by simp; omega) _
  have cs : ∀ (b : World) (i : Nat) (u : Value), Cur B g b → Cur B g (b.setCell ⟨u1.heap.size, i, none⟩ u) := fun b i u hb => hb.set (by simp; omega) (by simp; omega) _
  have cr : ∀ (b : World) (i : Nat) (u : Value), Cur B g b → Cur B g (b.setCell ⟨w.heap.size + 1, i, none⟩ u) := fun b i u hb => hb.set (by simp; omega) (by simp; omega) _
  have ys : ∀ (b : World) (i : Nat) (u : Value), But g w b → But g w (b.setCell ⟨u1.heap.size, i, none⟩ u) := fun b i u hb => hb.set (.inr (by simp; omega)) _
  have yr : ∀ (b : World) (i : Nat) (u : Value), But g w b → But g w (b.setCell ⟨w.heap.size + 1, i, none⟩ u) := fun b i u hb => hb.set (.inr (by simp)) _
  have XS := Lib.hid xs
  have CS := Lib.hid cs
  have CR := Lib.hid cr
  have YS := Lib.hid ys
  have YR := Lib.hid yr
  clear xs cs cr ys yr
  have C3 := Lib.hid c3
  have Y3 := Lib.hid y3
  clear c3 y3
  rcases hr with rfl | rfl | rfl | rfl | rfl | rfl | rfl | rfl | rfl
  · obtain ⟨p0, p1, p2, p3⟩ := X2.cell4
    clear X2 R2 A2
    go_wp2_with fail
    refine (uses1 _).mono ?_
    rintro e w' ⟨rfl, rfl⟩
    go_wp2
    refine bodyPost_ret (v := .agg #[.int .i64 1, .int .i64 x, .int .i64 y, .int .i64 0]) (results_cell_row Tryd.results35 _ _ (w.heap.size + 1) 25 #[.int .i64 1, .int .i64 x, .int .i64 y, .int .i64 0] (0, 0) _ ?_ ?_ Tryd.underlying25 rfl info_cmd) ?_ ?_
    · rfl
    · exact Box.put4 (XS.out _ _ _ (XS.out _ _ _ HR.out)) _ _ _ _
    · rfl
    · refine ⟨1, x, y, 0, ?_, rfl, (CR.out _ _ _ (CR.out _ _ _ (CR.out _ _ _ (CR.out _ _ _ (CS.out _ _ _ (CS.out _ _ _ C3.out)))))), (YR.out _ _ _ (YR.out _ _ _ (YR.out _ _ _ (YR.out _ _ _ (YS.out _ _ _ (YS.out _ _ _ Y3.out))))))⟩
      have hx := HP.out
      unfold CmdIn
      refine ⟨by omega, ?_, ?_, ?_⟩ <;> simp <;> omega
  · obtain ⟨p0, p1, p2, p3⟩ := X2.cell4
    clear X2 R2 A2
    go_wp2_with fail
    refine (uses2 _).mono ?_
    rintro e w' ⟨rfl, rfl⟩
    go_wp2
    refine bodyPost_ret (v := .agg #[.int .i64 2, .int .i64 x, .int .i64 0, .int .i64 z]) (results_cell_row Tryd.results35 _ _ (w.heap.size + 1) 25 #[.int .i64 2, .int .i64 x, .int .i64 0, .int .i64 z] (0, 0) _ ?_ ?_ Tryd.underlying25 rfl info_cmd) ?_ ?_
    · rfl
    · exact Box.put4 (XS.out _ _ _ (XS.out _ _ _ HR.out)) _ _ _ _
    · rfl
    · refine ⟨2, x, 0, z, ?_, rfl, (CR.out _ _ _ (CR.out _ _ _ (CR.out _ _ _ (CR.out _ _ _ (CS.out _ _ _ (CS.out _ _ _ C3.out)))))), (YR.out _ _ _ (YR.out _ _ _ (YR.out _ _ _ (YR.out _ _ _ (YS.out _ _ _ (YS.out _ _ _ Y3.out))))))⟩
      have hx := HP.out
      unfold CmdIn
      refine ⟨by omega, ?_, ?_, ?_⟩ <;> simp <;> omega
  · obtain ⟨p0, p1, p2, p3⟩ := X2.cell4
    clear X2 R2 A2
    go_wp2_with fail
    refine (uses3 _).mono ?_
    rintro e w' ⟨rfl, rfl⟩
    go_wp2
    refine bodyPost_ret (v := .agg #[.int .i64 3, .int .i64 x, .int .i64 0, .int .i64 z]) (results_cell_row Tryd.results35 _ _ (w.heap.size + 1) 25 #[.int .i64 3, .int .i64 x, .int .i64 0, .int .i64 z] (0, 0) _ ?_ ?_ Tryd.underlying25 rfl info_cmd) ?_ ?_
    · rfl
    · exact Box.put4 (XS.out _ _ _ (XS.out _ _ _ HR.out)) _ _ _ _
    · rfl
    · refine ⟨3, x, 0, z, ?_, rfl, (CR.out _ _ _ (CR.out _ _ _ (CR.out _ _ _ (CR.out _ _ _ (CS.out _ _ _ (CS.out _ _ _ C3.out)))))), (YR.out _ _ _ (YR.out _ _ _ (YR.out _ _ _ (YR.out _ _ _ (YS.out _ _ _ (YS.out _ _ _ Y3.out))))))⟩
      have hx := HP.out
      unfold CmdIn
      refine ⟨by omega, ?_, ?_, ?_⟩ <;> simp <;> omega
  · obtain ⟨p0, p1, p2, p3⟩ := X2.cell4
    clear X2 R2 A2
    go_wp2_with fail
    refine (uses4 _).mono ?_
    rintro e w' ⟨rfl, rfl⟩
    go_wp2
    refine bodyPost_ret (v := .agg #[.int .i64 4, .int .i64 x, .int .i64 0, .int .i64 0]) (results_cell_row Tryd.results35 _ _ (w.heap.size + 1) 25 #[.int .i64 4, .int .i64 x, .int .i64 0, .int .i64 0] (0, 0) _ ?_ ?_ Tryd.underlying25 rfl info_cmd) ?_ ?_
    · rfl
    · exact Box.put4 (XS.out _ _ _ HR.out) _ _ _ _
    · rfl
    · refine ⟨4, x, 0, 0, ?_, rfl, (CR.out _ _ _ (CR.out _ _ _ (CR.out _ _ _ (CR.out _ _ _ (CS.out _ _ _ C3.out))))), (YR.out _ _ _ (YR.out _ _ _ (YR.out _ _ _ (YR.out _ _ _ (YS.out _ _ _ Y3.out)))))⟩
      have hx := HP.out
      unfold CmdIn
      refine ⟨by omega, ?_, ?_, ?_⟩ <;> simp <;> omega
  · obtain ⟨p0, p1, p2, p3⟩ := X2.cell4
    clear X2 R2 A2
    go_wp2_with fail
    refine (uses5 _).mono ?_
    rintro e w' ⟨rfl, rfl⟩
    go_wp2
    refine bodyPost_ret (v := .agg #[.int .i64 5, .int .i64 x, .int .i64 0, .int .i64 0]) (results_cell_row Tryd.results35 _ _ (w.heap.size + 1) 25 #[.int .i64 5, .int .i64 x, .int .i64 0, .int .i64 0] (0, 0) _ ?_ ?_ Tryd.underlying25 rfl info_cmd) ?_ ?_
    · rfl
    · exact Box.put4 (XS.out _ _ _ HR.out) _ _ _ _
    · rfl
    · refine ⟨5, x, 0, 0, ?_, rfl, (CR.out _ _ _ (CR.out _ _ _ (CR.out _ _ _ (CR.out _ _ _ (CS.out _ _ _ C3.out))))), (YR.out _ _ _ (YR.out _ _ _ (YR.out _ _ _ (YR.out _ _ _ (YS.out _ _ _ Y3.out)))))⟩
      have hx := HP.out
      unfold CmdIn
      refine ⟨by omega, ?_, ?_, ?_⟩ <;> simp <;> omega
  · obtain ⟨p0, p1, p2, p3⟩ := X2.cell4
    clear X2 R2 A2
    go_wp2_with fail
    refine (uses6 _).mono ?_
    rintro e w' ⟨rfl, rfl⟩
    go_wp2
    refine bodyPost_ret (v := .agg #[.int .i64 6, .int .i64 0, .int .i64 0, .int .i64 0]) (results_cell_row Tryd.results35 _ _ (w.heap.size + 1) 25 #[.int .i64 6, .int .i64 0, .int .i64 0, .int .i64 0] (0, 0) _ ?_ ?_ Tryd.underlying25 rfl info_cmd) ?_ ?_
    · rfl
    · exact Box.put4 HR.out _ _ _ _
    · rfl
    · refine ⟨6, 0, 0, 0, ?_, rfl, (CR.out _ _ _ (CR.out _ _ _ (CR.out _ _ _ (CR.out _ _ _ C3.out)))), (YR.out _ _ _ (YR.out _ _ _ (YR.out _ _ _ (YR.out _ _ _ Y3.out))))⟩
      have hx := HP.out
      unfold CmdIn
      refine ⟨by omega, ?_, ?_, ?_⟩ <;> simp <;> omega
  · obtain ⟨p0, p1, p2, p3⟩ := X2.cell4
    clear X2 R2 A2
    go_wp2_with fail
    refine (uses7 _).mono ?_
    rintro e w' ⟨rfl, rfl⟩
    go_wp2
    refine bodyPost_ret (v := .agg #[.int .i64 7, .int .i64 0, .int .i64 0, .int .i64 0]) (results_cell_row Tryd.results35 _ _ (w.heap.size + 1) 25 #[.int .i64 7, .int .i64 0, .int .i64 0, .int .i64 0] (0, 0) _ ?_ ?_ Tryd.underlying25 rfl info_cmd) ?_ ?_
    · rfl
    · exact Box.put4 HR.out _ _ _ _
    · rfl
    · refine ⟨7, 0, 0, 0, ?_, rfl, (CR.out _ _ _ (CR.out _ _ _ (CR.out _ _ _ (CR.out _ _ _ C3.out)))), (YR.out _ _ _ (YR.out _ _ _ (YR.out _ _ _ (YR.out _ _ _ Y3.out))))⟩
      have hx := HP.out
      unfold CmdIn
      refine ⟨by omega, ?_, ?_, ?_⟩ <;> simp <;> omega
  · obtain ⟨p0, p1, p2, p3⟩ := X2.cell4
    clear X2 R2 A2
    go_wp2_with fail
    refine (uses8 _).mono ?_
    rintro e w' ⟨rfl, rfl⟩
    go_wp2
    refine bodyPost_ret (v := .agg #[.int .i64 8, .int .i64 0, .int .i64 0, .int .i64 0]) (results_cell_row Tryd.results35 _ _ (w.heap.size + 1) 25 #[.int .i64 8, .int .i64 0, .int .i64 0, .int .i64 0] (0, 0) _ ?_ ?_ Tryd.underlying25 rfl info_cmd) ?_ ?_
    · rfl
    · exact Box.put4 HR.out _ _ _ _
    · rfl
    · refine ⟨8, 0, 0, 0, ?_, rfl, (CR.out _ _ _ (CR.out _ _ _ (CR.out _ _ _ (CR.out _ _ _ C3.out)))), (YR.out _ _ _ (YR.out _ _ _ (YR.out _ _ _ (YR.out _ _ _ Y3.out))))⟩
      have hx := HP.out
      unfold CmdIn
      refine ⟨by omega, ?_, ?_, ?_⟩ <;> simp <;> omega
  · obtain ⟨p0, p1, p2, p3⟩ := X2.cell4
    clear X2 R2 A2
    go_wp2_with fail
    refine (uses9 _).mono ?_
    rintro e w' ⟨rfl, rfl⟩
    go_wp2
    refine bodyPost_ret (v := .agg #[.int .i64 9, .int .i64 0, .int .i64 0, .int .i64 0]) (results_cell_row Tryd.results35 _ _ (w.heap.size + 1) 25 #[.int .i64 9, .int .i64 0, .int .i64 0, .int .i64 0] (0, 0) _ ?_ ?_ Tryd.underlying25 rfl info_cmd) ?_ ?_
    · rfl
    · exact Box.put4 HR.out _ _ _ _
    · rfl
    · refine ⟨9, 0, 0, 0, ?_, rfl, (CR.out _ _ _ (CR.out _ _ _ (CR.out _ _ _ (CR.out _ _ _ C3.out)))), (YR.out _ _ _ (YR.out _ _ _ (YR.out _ _ _ (YR.out _ _ _ Y3.out))))⟩
      have hx := HP.out
      unfold CmdIn
      refine ⟨by omega, ?_, ?_, ?_⟩ <;> simp <;> omega

end Go.Proofs.YtamlfjkkpgmjiaaDoor
