/- Walk of the law FnExactMapLine. -/
import Derived.Test.YtdaphamplgcccaaMapV
import Derived.Test.YtdaphamplgcccaaLineL
import Derived.Deep.RegionHeld3
import Derived.Deep.DeepCutAuto
import Derived.Deep.DrawnRows
namespace Go.Proofs.Ytdaphamplgcccaa
open Go.RowKit
attribute [local go_sem ↓] Go.wp_at_zero Go.wp_at_succ

theorem Box.put3 {w : World} {g : Nat} {t : TypeId} {x y z : Value} (h : Box w g t #[x, y, z]) (u v s : Value) : Box (((w.setCell ⟨g, 0, none⟩ u).setCell ⟨g, 1, none⟩ v).setCell ⟨g, 2, none⟩ s) g t #[u, v, s] := ((h.set 0 u).set 1 v).set 2 s

set_option maxHeartbeats 4000000 in
theorem law_map_core (w : World) (a b c d o l X Y Z : Int) (h R : Bool)
    (hS : ∀ w, Calls Try.prog 31 #[.agg #[.int .i64 a, .int .i64 b, .int .i64 c, .int .i64 d], .agg #[.int .i64 o, .bool h], .int .i64 l] w fun e w' => e = .returned (.tuple #[.agg #[.int .i64 X, .int .i64 Y, .int .i64 Z], .bool R]) ∧ Ext w w')
    (hI : ∀ w, Calls Try.prog 33 #[.agg #[.int .i64 a, .int .i64 b, .int .i64 c, .int .i64 d], .agg #[.int .i64 o, .bool h], .int .i64 l] w fun e w' => e = .returned (.tuple #[.agg #[.int .i64 X, .int .i64 Y, .int .i64 Z], .bool R]) ∧ Ext w w') :
    Calls Try.prog 9 #[.agg #[.int .i64 a, .int .i64 b, .int .i64 c, .int .i64 d], .agg #[.int .i64 o, .bool h], .int .i64 l] w fun e w' => e = .returned (.bool true) ∧ Ext w w' := by
  have b0 := (Box.new w 23 #[.int .i64 a, .int .i64 b, .int .i64 c, .int .i64 d]).alloc (.cells #[.int .i64 o, .bool h] 41)
  have b1 := Box.new_at (w.alloc (.cells #[.int .i64 a, .int .i64 b, .int .i64 c, .int .i64 d] 23)) 41 #[.int .i64 o, .bool h] (w.heap.size + 1) (by simp)
  have x0 : Ext w ((w.alloc (.cells #[.int .i64 a, .int .i64 b, .int .i64 c, .int .i64 d] 23)).alloc (.cells #[.int .i64 o, .bool h] 41)) := (by repeat (first | exact Ext.refl _ | assumption | refine Ext.alloc ?_ _ | refine Ext.drew ?_ | refine Ext.drewN ?_ _ | refine Ext.setCell ?_ (by first | exact Nat.le_refl _ | (simp; done) | (simp; omega) | omega) _ | (apply Ext.trans; rotate_left; assumption)))
  go_enter Try.func9, Try.ntmps9
  go_upto_region 1 with (fail)
  generalize ((w.alloc (.cells #[.int .i64 a, .int .i64 b, .int .i64 c, .int .i64 d] 23)).alloc (.cells #[.int .i64 o, .bool h] 41)) = W0 at b0 b1 x0 ⊢
  have HB : Hid (∀ x, Ext W0 x → x.cell? ⟨w.heap.size, 0, none⟩ = some (.int .i64 a) ∧ x.cell? ⟨w.heap.size, 1, none⟩ = some (.int .i64 b) ∧ x.cell? ⟨w.heap.size, 2, none⟩ = some (.int .i64 c) ∧ x.cell? ⟨w.heap.size, 3, none⟩ = some (.int .i64 d) ∧ x.cell? ⟨w.heap.size + 1, 0, none⟩ = some (.int .i64 o) ∧ x.cell? ⟨w.heap.size + 1, 1, none⟩ = some (.bool h) ∧ Ext W0 x) := fun x hx =>
    ⟨(b0.ext hx).cell 0, (b0.ext hx).cell 1, (b0.ext hx).cell 2, (b0.ext hx).cell 3, (b1.ext hx).cell 0, (b1.ext hx).cell 1, hx⟩
  have HS := Lib.hid hS
  have HI := Lib.hid hI
  clear hS hI b0 b1
  go_cut [7, 8] (fun s7 s8 wx => ∃ g : Nat, s7 = .pointer (some ⟨g, 0, none⟩) ∧ s8 = .bool R ∧ Box wx g 33 #[.int .i64 X, .int .i64 Y, .int .i64 Z] ∧ Ext W0 wx)
  case first =>
    go_region_held3 (fun x => x.cell? ⟨w.heap.size, 0, none⟩ = some (.int .i64 a) ∧ x.cell? ⟨w.heap.size, 1, none⟩ = some (.int .i64 b) ∧ x.cell? ⟨w.heap.size, 2, none⟩ = some (.int .i64 c) ∧ x.cell? ⟨w.heap.size, 3, none⟩ = some (.int .i64 d) ∧ x.cell? ⟨w.heap.size + 1, 0, none⟩ = some (.int .i64 o) ∧ x.cell? ⟨w.heap.size + 1, 1, none⟩ = some (.bool h) ∧ Ext W0 x)
      (exact HB.out _ (by repeat (first | exact Ext.refl _ | assumption | refine Ext.alloc ?_ _ | refine Ext.drew ?_ | refine Ext.drewN ?_ _ | refine Ext.setCell ?_ (by first | exact Nat.le_refl _ | (simp; done) | (simp; omega) | omega) _ | (apply Ext.trans; rotate_left; assumption))))
      (first
        | (go_at_call 17; refine (to_geometry _ _ _ _ _).mono ?_; rintro e w1 ⟨rfl, x1⟩; have l1 := x1.le; (try simp at l1); try (have bz1 := @Box.ext _ w1 _ 33 #[.int .i64 0, .int .i64 0, .int .i64 0] (by first | assumption | exact Box.new _ _ _ | (refine Box.new_at _ _ _ _ ?_; simp; done)) x1; have fz1 := bz1.free; obtain ⟨qz10, qz11, qz12⟩ := bz1.cell3))
        | (go_at_call 32; refine (to_mapping _ _ _).mono ?_; rintro e w2 ⟨rfl, x2⟩; have l2 := x2.le; (try simp at l2); try (have bz2 := @Box.ext _ w2 _ 33 #[.int .i64 0, .int .i64 0, .int .i64 0] (by first | assumption | exact Box.new _ _ _ | (refine Box.new_at _ _ _ _ ?_; simp; done)) x2; have fz2 := bz2.free; obtain ⟨qz20, qz21, qz22⟩ := bz2.cell3))
        | (go_at_call 31; refine (HS.out _).mono ?_; rintro e w3 ⟨rfl, x3⟩; have l3 := x3.le; (try simp at l3); try (have bz3 := @Box.ext _ w3 _ 33 #[.int .i64 0, .int .i64 0, .int .i64 0] (by first | assumption | exact Box.new _ _ _ | (refine Box.new_at _ _ _ _ ?_; simp; done)) x3; have fz3 := bz3.free; obtain ⟨qz30, qz31, qz32⟩ := bz3.cell3)))
    all_goals
      go_wp2_with fail
      go_meet
      exact ⟨_, rfl, rfl, (by repeat (first | (with_reducible assumption) | (with_reducible refine Box.put3 (x := .int .i64 0) (y := .int .i64 0) (z := .int .i64 0) ?_ _ _ _) | (with_reducible exact Box.new _ _ _) | ((with_reducible refine Box.new_at _ _ _ _ ?_); simp; done) | (with_reducible refine Box.drewN ?_ _) | (with_reducible refine Box.drew ?_) | (with_reducible refine Box.alloc ?_ _) | (with_reducible refine Box.ext ?_ (by with_reducible assumption)))), (by repeat (first | exact Ext.refl _ | assumption | refine Ext.alloc ?_ _ | refine Ext.drew ?_ | refine Ext.drewN ?_ _ | refine Ext.setCell ?_ (by first | exact Nat.le_refl _ | (simp; done) | (simp; omega) | omega) _ | (apply Ext.trans; rotate_left; assumption)))⟩
  obtain ⟨g, rfl, rfl, bg, y1⟩ := hcut
  obtain ⟨W1, rfl⟩ : ∃ x : World, x = wc := ⟨_, rfl⟩
  have HB2 : Hid (∀ x, Ext W1 x → x.cell? ⟨w.heap.size, 0, none⟩ = some (.int .i64 a) ∧ x.cell? ⟨w.heap.size, 1, none⟩ = some (.int .i64 b) ∧ x.cell? ⟨w.heap.size, 2, none⟩ = some (.int .i64 c) ∧ x.cell? ⟨w.heap.size, 3, none⟩ = some (.int .i64 d) ∧ x.cell? ⟨w.heap.size + 1, 0, none⟩ = some (.int .i64 o) ∧ x.cell? ⟨w.heap.size + 1, 1, none⟩ = some (.bool h) ∧ Ext W1 x) := fun x hx => by
    obtain ⟨q0, q1, q2, q3, q4, q5, _⟩ := HB.out x (y1.trans hx)
    exact ⟨q0, q1, q2, q3, q4, q5, hx⟩
  have BG := Lib.hid bg
  have Y1 := Lib.hid y1
  have X0 := Lib.hid x0
  clear bg y1 HB x0
  go_upto_region 2 with (fail)
  go_cut [9, 10] (fun s9 s10 wx => ∃ g : Nat, s9 = .pointer (some ⟨g, 0, none⟩) ∧ s10 = .bool R ∧ Box wx g 33 #[.int .i64 X, .int .i64 Y, .int .i64 Z] ∧ Ext W1 wx)
  case first =>
    go_region_held3 (fun x => x.cell? ⟨w.heap.size, 0, none⟩ = some (.int .i64 a) ∧ x.cell? ⟨w.heap.size, 1, none⟩ = some (.int .i64 b) ∧ x.cell? ⟨w.heap.size, 2, none⟩ = some (.int .i64 c) ∧ x.cell? ⟨w.heap.size, 3, none⟩ = some (.int .i64 d) ∧ x.cell? ⟨w.heap.size + 1, 0, none⟩ = some (.int .i64 o) ∧ x.cell? ⟨w.heap.size + 1, 1, none⟩ = some (.bool h) ∧ Ext W1 x)
      (exact HB2.out _ (by repeat (first | exact Ext.refl _ | assumption | refine Ext.alloc ?_ _ | refine Ext.drew ?_ | refine Ext.drewN ?_ _ | refine Ext.setCell ?_ (by first | exact Nat.le_refl _ | (simp; done) | (simp; omega) | omega) _ | (apply Ext.trans; rotate_left; assumption))))
      (first
        | (go_at_call 17; refine (to_geometry _ _ _ _ _).mono ?_; rintro e w1 ⟨rfl, x1⟩; have l1 := x1.le; (try simp at l1); try (have bz1 := @Box.ext _ w1 _ 33 #[.int .i64 0, .int .i64 0, .int .i64 0] (by first | assumption | exact Box.new _ _ _ | (refine Box.new_at _ _ _ _ ?_; simp; done)) x1; have fz1 := bz1.free; obtain ⟨qz10, qz11, qz12⟩ := bz1.cell3))
        | (go_at_call 32; refine (to_mapping _ _ _).mono ?_; rintro e w2 ⟨rfl, x2⟩; have l2 := x2.le; (try simp at l2); try (have bz2 := @Box.ext _ w2 _ 33 #[.int .i64 0, .int .i64 0, .int .i64 0] (by first | assumption | exact Box.new _ _ _ | (refine Box.new_at _ _ _ _ ?_; simp; done)) x2; have fz2 := bz2.free; obtain ⟨qz20, qz21, qz22⟩ := bz2.cell3))
        | (go_at_call 33; refine (HI.out _).mono ?_; rintro e w3 ⟨rfl, x3⟩; have l3 := x3.le; (try simp at l3); try (have bz3 := @Box.ext _ w3 _ 33 #[.int .i64 0, .int .i64 0, .int .i64 0] (by first | assumption | exact Box.new _ _ _ | (refine Box.new_at _ _ _ _ ?_; simp; done)) x3; have fz3 := bz3.free; obtain ⟨qz30, qz31, qz32⟩ := bz3.cell3)))
    all_goals
      go_wp2_with fail
      go_meet
      exact ⟨_, rfl, rfl, (by repeat (first | (with_reducible assumption) | (with_reducible refine Box.put3 (x := .int .i64 0) (y := .int .i64 0) (z := .int .i64 0) ?_ _ _ _) | (with_reducible exact Box.new _ _ _) | ((with_reducible refine Box.new_at _ _ _ _ ?_); simp; done) | (with_reducible refine Box.drewN ?_ _) | (with_reducible refine Box.drew ?_) | (with_reducible refine Box.alloc ?_ _) | (with_reducible refine Box.ext ?_ (by with_reducible assumption)))), (by repeat (first | exact Ext.refl _ | assumption | refine Ext.alloc ?_ _ | refine Ext.drew ?_ | refine Ext.drewN ?_ _ | refine Ext.setCell ?_ (by first | exact Nat.le_refl _ | (simp; done) | (simp; omega) | omega) _ | (apply Ext.trans; rotate_left; assumption)))⟩
  obtain ⟨g2, rfl, rfl, bg2, y2⟩ := hcut
  obtain ⟨p0, p1, p2⟩ := (BG.out.ext y2).cell3
  obtain ⟨p3, p4, p5⟩ := bg2.cell3
  have y3 := (X0.out.trans Y1.out).trans y2
  clear BG bg2 y2
  go_wp2_with (go_at_call 30; refine (eq_addr _ _ _ _).mono ?_; rintro e w4 ⟨rfl, x4⟩)
  go_ret
  exact ⟨rfl, y3.trans x4⟩

theorem law_FnExactMapLine (w : World) (z0 : List Int) (l0 : z0.length = 4) (_ : ∀ z ∈ z0, (Lit.int .i64 z).wf = true) (o : Int) (h : Bool) (_ : (Lit.int .i64 o).wf = true) (l : Int) (_ : (Lit.int .i64 l).wf = true) : Calls Try.prog 9 #[.agg (intCells z0), .agg #[.int .i64 o, .bool h], .int .i64 l] w fun e w' => e = .returned (.bool true) ∧ Ext w w' := by
  obtain ⟨a, b, c, d, rfl⟩ := list4 l0
  cases hB : mapB a b c d o l with
  | true => exact law_map_core w a b c d o l _ _ _ h true (fun w => spec_mapLine_yes a b c d o l h hB w) (fun w => impl_mapLine_yes a b c d o l h hB w)
  | false => exact law_map_core w a b c d o l _ _ _ h false (fun w => spec_mapLine_no a b c d o l h hB w) (fun w => impl_mapLine_no a b c d o l h hB w)

end Go.Proofs.Ytdaphamplgcccaa
