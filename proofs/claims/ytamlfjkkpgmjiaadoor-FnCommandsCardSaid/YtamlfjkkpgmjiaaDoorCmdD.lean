/- Contracts of the reference's draws of an address and of a command. -/
import Derived.Test.YtamlfjkkpgmjiaaDoorGeoD
import Derived.Test.YtamlfjkkpgmjiaaDoorGeoF
import Derived.Test.YtamlfjkkpgmjiaaDoorCmdW
import Derived.Deep.RegionHeld3
import Derived.Deep.DeepCutAuto
import Derived.Deep.DrawnRows
namespace Go.Proofs.YtamlfjkkpgmjiaaDoor
open Go.RowKit
attribute [local go_sem ↓] Go.wp_at_zero Go.wp_at_succ

theorem info_addr : (Tryd.prog.info? 70).map (·.size) = some 3 := by kernel_rfl
theorem put3d {w : World} {g : Nat} {t : TypeId} {x y z : Value} (h : Box w g t #[x, y, z]) (u v s : Value) : Box (((w.setCell ⟨g, 0, none⟩ u).setCell ⟨g, 1, none⟩ v).setCell ⟨g, 2, none⟩ s) g t #[u, v, s] := ((h.set 0 u).set 1 v).set 2 s
def DrawnAddr (B g : Nat) (a b c d : Int) (w : World) : Ending → World → Prop := fun e w' => ∃ x y z : Int, ((0 ≤ x ∧ x < a * b) ∧ (0 ≤ y ∧ y < c) ∧ (0 ≤ z ∧ z < d)) ∧ e = .returned (.agg #[.int .i64 x, .int .i64 y, .int .i64 z]) ∧ Cur B g w' ∧ But g w w'

set_option maxHeartbeats 4000000 in
theorem addr_any (B g : Nat) (a b c d : Int) (hG : GeoIn a b c d) (w : World) (h : Cur B g w) : Calls Tryd.prog 47 #[.pointer (some ⟨g, 0, none⟩), .agg #[.int .i64 a, .int .i64 b, .int .i64 c, .int .i64 d]] w (DrawnAddr B g a b c d w) := by
  have hgl := h.lt
  have hBw : B ≤ w.heap.size := by obtain ⟨hB, _⟩ := h; omega
  have hK := bank_range hG.ok
  have HBC := Lib.hid (fun w => spec_bankCount a b c d w)
  rw [bankF_yes hG.ok] at HBC
  unfold GeoIn at hG
  have b0 := (Box.new w 35 #[.int .i64 a, .int .i64 b, .int .i64 c, .int .i64 d]).alloc (.cells #[.int .i64 0, .int .i64 0, .int .i64 0] 70)
  have b1 := Box.new_at (w.alloc (.cells #[.int .i64 a, .int .i64 b, .int .i64 c, .int .i64 d] 35)) 70 #[.int .i64 0, .int .i64 0, .int .i64 0] (w.heap.size + 1) (by simp)
  have x0 : Ext w ((w.alloc (.cells #[.int .i64 a, .int .i64 b, .int .i64 c, .int .i64 d] 35)).alloc (.cells #[.int .i64 0, .int .i64 0, .int .i64 0] 70)) := ((Ext.refl w).alloc _).alloc _
  have h0 := h.ext x0
  generalize hab : a * b = K at *
  have HK := Lib.hid hab
  clear h hab
  go_enter Tryd.func47, Tryd.ntmps47
  go_upto_region 1 with (fail)
  generalize (w.alloc (.cells #[.int .i64 a, .int .i64 b, .int .i64 c, .int .i64 d] 35)).alloc (.cells #[.int .i64 0, .int .i64 0, .int .i64 0] 70) = W0 at b0 b1 x0 h0 ⊢
  have HQ : Hid (∀ x, Box x w.heap.size 35 #[.int .i64 a, .int .i64 b, .int .i64 c, .int .i64 d] → x.cell? ⟨w.heap.size, 0, none⟩ = some (.int .i64 a) ∧ x.cell? ⟨w.heap.size, 1, none⟩ = some (.int .i64 b) ∧ x.cell? ⟨w.heap.size, 2, none⟩ = some (.int .i64 c) ∧ x.cell? ⟨w.heap.size, 3, none⟩ = some (.int .i64 d)) := fun x hx => hx.cell4
  have B0 := Lib.hid b0
  have HW := Lib.hid (But.ext (g := g) x0)
  have B1 := Lib.hid b1
  clear b0 b1 x0
  have C0 := h0.ext ((Ext.refl W0).drew)
  have Y0 : But g W0 W0.drew := (But.refl g W0).drew
  go_region_held3 (fun x => x.cell? ⟨w.heap.size, 0, none⟩ = some (.int .i64 a) ∧ x.cell? ⟨w.heap.size, 1, none⟩ = some (.int .i64 b) ∧ x.cell? ⟨w.heap.size, 2, none⟩ = some (.int .i64 c) ∧ x.cell? ⟨w.heap.size, 3, none⟩ = some (.int .i64 d))
    (first
      | (exact HQ.out _ (But.box (by assumption : But g W0 _) B0.out (by omega)))
      | (exact HQ.out _ (((bg3.other (by simp) _).other (by simp) _).other (by simp) _)))
    (first
      | (go_at_call 55; refine (HBC.out _).mono ?_; rintro e u0 ⟨rfl, v0⟩; have c0 := C0.ext v0; have y0 : But g W0 u0 := Y0.trans (But.ext v0))
      | (go_at_call 46; ((with_reducible refine (below_any B g K (by omega) _ c0).mono ?_); rintro e u1 ⟨r, ⟨r0, r1⟩, rfl, c1, v1⟩; have y1 := y0.trans v1))
      | (go_at_call 46; ((with_reducible refine (below_any B g c (by omega) _ c1).mono ?_); rintro e u2 ⟨s, ⟨s0, s1⟩, rfl, c2, v2⟩; have y2 := y1.trans v2))
      | (go_at_call 46; ((with_reducible refine (below_any B g d (by omega) _ c2).mono ?_); rintro e u3 ⟨t, ⟨t0, t1⟩, rfl, c3, v3⟩; have y3 := y2.trans v3; have bz := But.box y3 B1.out (by simp; omega); have fz := bz.free; obtain ⟨qz0, qz1, qz2⟩ := bz.cell3; have lz := bz.lt; have bg3 := But.box y3 B0.out (by omega))))
  all_goals
    go_wp2
    refine bodyPost_ret (v := .agg #[.int .i64 r, .int .i64 s, .int .i64 t]) (results_cell_row Tryd.results47 _ _ (w.heap.size + 1) 70 #[.int .i64 r, .int .i64 s, .int .i64 t] (0, 0) _ ?_ ?_ Tryd.underlying70 rfl info_addr) ?_ ?_
    · rfl
    · exact put3d bz _ _ _
    · rfl
    · exact ⟨r, s, t, ⟨⟨r0, by rw [HK.out]; exact r1⟩, ⟨s0, s1⟩, ⟨t0, t1⟩⟩, rfl, ((c3.set (by simp; omega) (by simp; omega) _).set (by simp; omega) (by simp; omega) _).set (by simp; omega) (by simp; omega) _,
        ((((HW.out).trans y3).set (.inr (by simp)) _).set (.inr (by simp)) _).set (.inr (by simp)) _⟩

theorem info_cmd : (Tryd.prog.info? 25).map (·.size) = some 4 := by kernel_rfl
/-- a drawn command -/
def CmdIn (a b c d k p q r : Int) : Prop := (1 ≤ k ∧ k ≤ 9) ∧ (if k ≤ 5 then 0 ≤ p ∧ p < a * b else p = 0) ∧ (if k = 1 then 0 ≤ q ∧ q < c else q = 0) ∧ (if k = 2 ∨ k = 3 then 0 ≤ r ∧ r < d else r = 0)
def DrawnCmd (B g : Nat) (a b c d : Int) (w : World) : Ending → World → Prop := fun e w' => ∃ k p q r : Int, CmdIn a b c d k p q r ∧ e = .returned (.agg #[.int .i64 k, .int .i64 p, .int .i64 q, .int .i64 r]) ∧ Cur B g w' ∧ But g w w'

theorem uses1 (w : World) : Calls Tryd.prog 21 #[.int .i64 1] w fun e w' => e = .returned (.tuple #[.bool true, .bool true, .bool false]) ∧ w = w' := spec_uses 1 true true false rfl rfl rfl w
theorem uses2 (w : World) : Calls Tryd.prog 21 #[.int .i64 2] w fun e w' => e = .returned (.tuple #[.bool true, .bool false, .bool true]) ∧ w = w' := spec_uses 2 true false true rfl rfl rfl w
theorem uses3 (w : World) : Calls Tryd.prog 21 #[.int .i64 3] w fun e w' => e = .returned (.tuple #[.bool true, .bool false, .bool true]) ∧ w = w' := spec_uses 3 true false true rfl rfl rfl w
theorem uses4 (w : World) : Calls Tryd.prog 21 #[.int .i64 4] w fun e w' => e = .returned (.tuple #[.bool true, .bool false, .bool false]) ∧ w = w' := spec_uses 4 true false false rfl rfl rfl w
theorem uses5 (w : World) : Calls Tryd.prog 21 #[.int .i64 5] w fun e w' => e = .returned (.tuple #[.bool true, .bool false, .bool false]) ∧ w = w' := spec_uses 5 true false false rfl rfl rfl w
theorem uses6 (w : World) : Calls Tryd.prog 21 #[.int .i64 6] w fun e w' => e = .returned (.tuple #[.bool false, .bool false, .bool false]) ∧ w = w' := spec_uses 6 false false false rfl rfl rfl w
theorem uses7 (w : World) : Calls Tryd.prog 21 #[.int .i64 7] w fun e w' => e = .returned (.tuple #[.bool false, .bool false, .bool false]) ∧ w = w' := spec_uses 7 false false false rfl rfl rfl w
theorem uses8 (w : World) : Calls Tryd.prog 21 #[.int .i64 8] w fun e w' => e = .returned (.tuple #[.bool false, .bool false, .bool false]) ∧ w = w' := spec_uses 8 false false false rfl rfl rfl w
theorem uses9 (w : World) : Calls Tryd.prog 21 #[.int .i64 9] w fun e w' => e = .returned (.tuple #[.bool false, .bool false, .bool false]) ∧ w = w' := spec_uses 9 false false false rfl rfl rfl w

end Go.Proofs.YtamlfjkkpgmjiaaDoor
