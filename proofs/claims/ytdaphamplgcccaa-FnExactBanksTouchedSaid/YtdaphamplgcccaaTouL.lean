/- The walk of FnExactBanksTouched. -/
import Derived.Test.YtdaphamplgcccaaTouR
set_option maxRecDepth 20000
namespace Go.Proofs.Ytdaphamplgcccaa
open Go.RowKit
attribute [local go_sem ↓] Go.wp_at_zero Go.wp_at_succ

theorem Own.less {w : World} {base base' : Nat} {a : Option Addr} {n cap : Nat} {zs : List Int} (h : Own w base a n cap zs) (hb : base' ≤ base) : Own w base' a n cap zs := own_less h hb
theorem Own.far {w : World} {base : Nat} {a : Option Addr} {n cap : Nat} {zs : List Int} (h : Own w base a n cap zs) : ∀ g o s, a = some ⟨g, o, s⟩ → base ≤ g := by
  intro g o s e
  subst e
  exact (World.ownsRow.lt h g rfl).1
def NewM (m : Nat) (zs : List Int) (w : World) : Ending → World → Prop := fun e w' => ∃ a cap, e = .returned (.slice a m cap) ∧ Own w' w.heap.size a m cap zs ∧ Ext w w'

set_option maxHeartbeats 4000000 in
theorem law_tou_core (w : World) (a b c d o fr l : Int) (h : Bool) (m : Nat) (L : List Int) (hm : m ≤ 8)
    (hS : ∀ w, Calls Try.prog 42 #[.agg #[.int .i64 a, .int .i64 b, .int .i64 c, .int .i64 d], .agg #[.int .i64 o, .bool h], .int .i64 fr, .int .i64 l] w (NewM m L w))
    (hI : ∀ w, Calls Try.prog 43 #[.agg #[.int .i64 a, .int .i64 b, .int .i64 c, .int .i64 d], .agg #[.int .i64 o, .bool h], .int .i64 fr, .int .i64 l] w (NewM m L w)) :
    Calls Try.prog 14 #[.agg #[.int .i64 a, .int .i64 b, .int .i64 c, .int .i64 d], .agg #[.int .i64 o, .bool h], .int .i64 fr, .int .i64 l] w fun e w' => e = .returned (.bool true) ∧ Ext w w' := by
  have b0 := (Box.new w 23 #[.int .i64 a, .int .i64 b, .int .i64 c, .int .i64 d]).alloc (.cells #[.int .i64 o, .bool h] 41)
  have b1 := Box.new_at (w.alloc (.cells #[.int .i64 a, .int .i64 b, .int .i64 c, .int .i64 d] 23)) 41 #[.int .i64 o, .bool h] (w.heap.size + 1) (by simp)
  have x0 : Ext w ((w.alloc (.cells #[.int .i64 a, .int .i64 b, .int .i64 c, .int .i64 d] 23)).alloc (.cells #[.int .i64 o, .bool h] 41)) := (by repeat (first | exact Ext.refl _ | assumption | refine Ext.alloc ?_ _ | refine Ext.drew ?_ | refine Ext.drewN ?_ _ | refine Ext.setCell ?_ (by first | exact Nat.le_refl _ | (simp; done) | (simp; omega) | omega) _ | (apply Ext.trans; rotate_left; assumption)))
  have hm' : m ≤ maxLen := by unfold maxLen; omega
  go_enter Try.func14, Try.ntmps14
  go_upto_region 1 with (fail)
  generalize ((w.alloc (.cells #[.int .i64 a, .int .i64 b, .int .i64 c, .int .i64 d] 23)).alloc (.cells #[.int .i64 o, .bool h] 41)) = W0 at b0 b1 x0 ⊢
  have HB : Hid (∀ W1, Ext W0 W1 → ∀ x, Ext W1 x → x.cell? ⟨w.heap.size, 0, none⟩ = some (.int .i64 a) ∧ x.cell? ⟨w.heap.size, 1, none⟩ = some (.int .i64 b) ∧ x.cell? ⟨w.heap.size, 2, none⟩ = some (.int .i64 c) ∧ x.cell? ⟨w.heap.size, 3, none⟩ = some (.int .i64 d) ∧ x.cell? ⟨w.heap.size + 1, 0, none⟩ = some (.int .i64 o) ∧ x.cell? ⟨w.heap.size + 1, 1, none⟩ = some (.bool h) ∧ Ext W1 x) := fun W1 h1 x hx =>
    ⟨(b0.ext (h1.trans hx)).cell 0, (b0.ext (h1.trans hx)).cell 1, (b0.ext (h1.trans hx)).cell 2, (b0.ext (h1.trans hx)).cell 3, (b1.ext (h1.trans hx)).cell 0, (b1.ext (h1.trans hx)).cell 1, hx⟩
  have HS := Lib.hid hS
  have HI := Lib.hid hI
  have X0 := Lib.hid x0
  clear hS hI b0 b1 x0
  have H0 := Lib.hid (HB.out W0 (Ext.refl W0))
  go_cut [9] (fun s9 wx => ∃ (p : Option Addr) (q : Nat), s9 = .slice p m q ∧ Own wx W0.heap.size p m q L ∧ Ext W0 wx)
  case first =>
    go_region_held3 (fun x => x.cell? ⟨w.heap.size, 0, none⟩ = some (.int .i64 a) ∧ x.cell? ⟨w.heap.size, 1, none⟩ = some (.int .i64 b) ∧ x.cell? ⟨w.heap.size, 2, none⟩ = some (.int .i64 c) ∧ x.cell? ⟨w.heap.size, 3, none⟩ = some (.int .i64 d) ∧ x.cell? ⟨w.heap.size + 1, 0, none⟩ = some (.int .i64 o) ∧ x.cell? ⟨w.heap.size + 1, 1, none⟩ = some (.bool h) ∧ Ext W0 x)
      (exact H0.out _ (by repeat (first | exact Ext.refl _ | assumption | refine Ext.alloc ?_ _ | refine Ext.drew ?_ | refine Ext.drewN ?_ _ | refine Ext.setCell ?_ (by first | exact Nat.le_refl _ | (simp; done) | (simp; omega) | omega) _ | (apply Ext.trans; rotate_left; assumption))))
      (first
        | (go_at_call 17; refine (to_geometry _ _ _ _ _).mono ?_; rintro e u1 ⟨rfl, v1⟩)
        | (go_at_call 32; refine (to_mapping _ _ _).mono ?_; rintro e u2 ⟨rfl, v2⟩)
        | (go_at_call 42; refine (HS.out _).mono ?_; rintro e u3 ⟨p3, q3, rfl, o3, v3⟩))
    all_goals
      go_wp2_with fail
      go_meet
      exact ⟨_, _, rfl, o3.less (Ext.le (by repeat (first | exact Ext.refl _ | assumption | refine Ext.alloc ?_ _ | refine Ext.drew ?_ | refine Ext.drewN ?_ _ | refine Ext.setCell ?_ (by first | exact Nat.le_refl _ | (simp; done) | (simp; omega) | omega) _ | (apply Ext.trans; rotate_left; assumption)))), (by repeat (first | exact Ext.refl _ | assumption | refine Ext.alloc ?_ _ | refine Ext.drew ?_ | refine Ext.drewN ?_ _ | refine Ext.setCell ?_ (by first | exact Nat.le_refl _ | (simp; done) | (simp; omega) | omega) _ | (apply Ext.trans; rotate_left; assumption)))⟩
  obtain ⟨p1, c1, rfl, o1, y1⟩ := hcut
  obtain ⟨W1, rfl⟩ : ∃ x : World, x = wc := ⟨_, rfl⟩
  have H1 := Lib.hid (HB.out W1 y1)
  have O1 := Lib.hid o1
  have Y1 := Lib.hid y1
  clear o1 y1 H0
  go_upto_region 2 with (fail)
  go_cut [10] (fun s9 wx => ∃ (p : Option Addr) (q : Nat), s9 = .slice p m q ∧ Own wx W1.heap.size p m q L ∧ Ext W1 wx)
  case first =>
    go_region_held3 (fun x => x.cell? ⟨w.heap.size, 0, none⟩ = some (.int .i64 a) ∧ x.cell? ⟨w.heap.size, 1, none⟩ = some (.int .i64 b) ∧ x.cell? ⟨w.heap.size, 2, none⟩ = some (.int .i64 c) ∧ x.cell? ⟨w.heap.size, 3, none⟩ = some (.int .i64 d) ∧ x.cell? ⟨w.heap.size + 1, 0, none⟩ = some (.int .i64 o) ∧ x.cell? ⟨w.heap.size + 1, 1, none⟩ = some (.bool h) ∧ Ext W1 x)
      (exact H1.out _ (by repeat (first | exact Ext.refl _ | assumption | refine Ext.alloc ?_ _ | refine Ext.drew ?_ | refine Ext.drewN ?_ _ | refine Ext.setCell ?_ (by first | exact Nat.le_refl _ | (simp; done) | (simp; omega) | omega) _ | (apply Ext.trans; rotate_left; assumption))))
      (first
        | (go_at_call 17; refine (to_geometry _ _ _ _ _).mono ?_; rintro e u1 ⟨rfl, v1⟩)
        | (go_at_call 32; refine (to_mapping _ _ _).mono ?_; rintro e u2 ⟨rfl, v2⟩)
        | (go_at_call 43; refine (HI.out _).mono ?_; rintro e u3 ⟨p3, q3, rfl, o3, v3⟩))
    all_goals
      go_wp2_with fail
      go_meet
      exact ⟨_, _, rfl, o3.less (Ext.le (by repeat (first | exact Ext.refl _ | assumption | refine Ext.alloc ?_ _ | refine Ext.drew ?_ | refine Ext.drewN ?_ _ | refine Ext.setCell ?_ (by first | exact Nat.le_refl _ | (simp; done) | (simp; omega) | omega) _ | (apply Ext.trans; rotate_left; assumption)))), (by repeat (first | exact Ext.refl _ | assumption | refine Ext.alloc ?_ _ | refine Ext.drew ?_ | refine Ext.drewN ?_ _ | refine Ext.setCell ?_ (by first | exact Nat.le_refl _ | (simp; done) | (simp; omega) | omega) _ | (apply Ext.trans; rotate_left; assumption)))⟩
  obtain ⟨p2, c2, rfl, o2, y2⟩ := hcut
  obtain ⟨W2, rfl⟩ : ∃ x : World, x = wc := ⟨_, rfl⟩
  clear H1
  go_wp2_with fail
  refine (eq_ints p2 p1 m c2 c1 L _ _ _ o2.reads (O1.out.ext y2).reads hm').mono ?_
  rintro e w3 ⟨rfl, y3⟩
  go_wp2_with fail
  refine (mark_ints p2 m c2 W1.heap.size 1 L _ (o2.ext y3) hm' (by omega) (by omega)).mono ?_
  rintro e w4 ⟨rfl, o4, t4⟩
  have z4 : Ext W1 w4 := Touch.toExt (y2.trans y3) t4 (fun g o s e => o2.far g o s e)
  clear t4 o2 y2 y3
  go_wp2_with fail
  refine (held_ints p2 m c2 1 _ _ o4.reads hm' (by omega) (by omega)).mono ?_
  rintro e w' ⟨rfl, rfl⟩
  have H4 := Lib.hid (HB.out w4 (Y1.out.trans z4))
  have O4 := Lib.hid o4
  have Z4 := Lib.hid z4
  clear o4 z4
  go_upto_region 13 with (fail)
  go_cut [13] (fun s9 wx => ∃ (p : Option Addr) (q : Nat), s9 = .slice p m q ∧ Own wx w4.heap.size p m q L ∧ Ext w4 wx)
  case first =>
    go_region_held3 (fun x => x.cell? ⟨w.heap.size, 0, none⟩ = some (.int .i64 a) ∧ x.cell? ⟨w.heap.size, 1, none⟩ = some (.int .i64 b) ∧ x.cell? ⟨w.heap.size, 2, none⟩ = some (.int .i64 c) ∧ x.cell? ⟨w.heap.size, 3, none⟩ = some (.int .i64 d) ∧ x.cell? ⟨w.heap.size + 1, 0, none⟩ = some (.int .i64 o) ∧ x.cell? ⟨w.heap.size + 1, 1, none⟩ = some (.bool h) ∧ Ext w4 x)
      (exact H4.out _ (by repeat (first | exact Ext.refl _ | assumption | refine Ext.alloc ?_ _ | refine Ext.drew ?_ | refine Ext.drewN ?_ _ | refine Ext.setCell ?_ (by first | exact Nat.le_refl _ | (simp; done) | (simp; omega) | omega) _ | (apply Ext.trans; rotate_left; assumption))))
      (first
        | (go_at_call 17; refine (to_geometry _ _ _ _ _).mono ?_; rintro e u1 ⟨rfl, v1⟩)
        | (go_at_call 32; refine (to_mapping _ _ _).mono ?_; rintro e u2 ⟨rfl, v2⟩)
        | (go_at_call 43; refine (HI.out _).mono ?_; rintro e u3 ⟨p3, q3, rfl, o3, v3⟩))
    all_goals
      go_wp2_with fail
      go_meet
      exact ⟨_, _, rfl, o3.less (Ext.le (by repeat (first | exact Ext.refl _ | assumption | refine Ext.alloc ?_ _ | refine Ext.drew ?_ | refine Ext.drewN ?_ _ | refine Ext.setCell ?_ (by first | exact Nat.le_refl _ | (simp; done) | (simp; omega) | omega) _ | (apply Ext.trans; rotate_left; assumption)))), (by repeat (first | exact Ext.refl _ | assumption | refine Ext.alloc ?_ _ | refine Ext.drew ?_ | refine Ext.drewN ?_ _ | refine Ext.setCell ?_ (by first | exact Nat.le_refl _ | (simp; done) | (simp; omega) | omega) _ | (apply Ext.trans; rotate_left; assumption)))⟩
  obtain ⟨p5, c5, rfl, o5, y5⟩ := hcut
  obtain ⟨W5, rfl⟩ : ∃ x : World, x = wc := ⟨_, rfl⟩
  go_wp2_with fail
  refine (eq_ints p5 p1 m c5 c1 L _ _ _ o5.reads (O1.out.ext (Z4.out.trans y5)).reads hm').mono ?_
  rintro e w6 ⟨rfl, y6⟩
  go_wp2_with fail
  refine (held_ints p2 m c2 1 _ _ (O4.out.ext (y5.trans y6)).reads hm' (by omega) (by omega)).mono ?_
  rintro e w' ⟨rfl, rfl⟩
  go_wp2
  go_ret
  exact ⟨rfl, (((X0.out.trans Y1.out).trans Z4.out).trans y5).trans y6⟩

theorem law_FnExactBanksTouched (w : World) (z0 : List Int) (l0 : z0.length = 4) (_ : ∀ z ∈ z0, (Lit.int .i64 z).wf = true) (o : Int) (h : Bool) (_ : (Lit.int .i64 o).wf = true) (fr : Int) (hf : (Lit.int .i64 fr).wf = true) (m : Int) (hm : (Lit.int .i64 m).wf = true) : Calls Try.prog 14 #[.agg (intCells z0), .agg #[.int .i64 o, .bool h], .int .i64 fr, .int .i64 m] w fun e w' => e = .returned (.bool true) ∧ Ext w w' := by
  obtain ⟨a, b, c, d, rfl⟩ := list4 l0
  have h1 : -9223372036854775808 ≤ fr ∧ fr ≤ 9223372036854775807 := bounds_i64 hf
  have h2 : -9223372036854775808 ≤ m ∧ m ≤ 9223372036854775807 := bounds_i64 hm
  exact law_tou_core w a b c d o fr m h _ _ (touF_len a b c d o h fr m) (fun w => spec_tou a b c d o fr m h h2.1 h2.2 w) (fun w => impl_tou a b c d o fr m h h1.1 h1.2 w)

end Go.Proofs.Ytdaphamplgcccaa
