/- The walk of FnExactTenantAddr. -/
import Derived.Test.YtlchejnjeeilpaaPartA
import Derived.Test.YtlchejnjeeilpaaPartO
namespace Go.Proofs.Ytlchejnjeeilpaa
open Go.RowKit
attribute [local go_sem ↓] Go.wp_at_zero Go.wp_at_succ

theorem putx3 {w : World} {g : Nat} {t : TypeId} {x y z : Value} (h : Box w g t #[x, y, z]) (u v s : Value) : Box (((w.setCell ⟨g, 0, none⟩ u).setCell ⟨g, 1, none⟩ v).setCell ⟨g, 2, none⟩ s) g t #[u, v, s] := ((h.set 0 u).set 1 v).set 2 s

set_option maxHeartbeats 4000000 in
theorem law_ten_core (w : World) (a b c d X Y Z : Int) (R : Bool) (s : Option Addr) (n cp : Nat) (zs : List Int) (hr : RD w s n zs) (hm : n ≤ maxLen) (t l : Int) (hS : ∀ (s' : Option Addr) (cp' : Nat) (w : World), RD w s' n zs → Calls Try.prog 42 #[.agg #[.int .i64 a, .int .i64 b, .int .i64 c, .int .i64 d], .agg #[.slice s' n cp'], .int .i64 t, .int .i64 l] w fun e w' => e = .returned (.tuple #[.agg #[.int .i64 X, .int .i64 Y, .int .i64 Z], .bool R]) ∧ Ext w w') (hI : ∀ (s' : Option Addr) (cp' : Nat) (w : World), RD w s' n zs → Calls Try.prog 43 #[.agg #[.int .i64 a, .int .i64 b, .int .i64 c, .int .i64 d], .agg #[.slice s' n cp'], .int .i64 t, .int .i64 l] w fun e w' => e = .returned (.tuple #[.agg #[.int .i64 X, .int .i64 Y, .int .i64 Z], .bool R]) ∧ Ext w w') : Calls Try.prog 11 #[.agg #[.int .i64 a, .int .i64 b, .int .i64 c, .int .i64 d], .agg #[.slice s n cp], .int .i64 t, .int .i64 l] w fun e w' => e = .returned (.bool true) ∧ Ext w w' := by
  have hm' := hm
  unfold maxLen at hm'
  have b0 := (Box.new w 42 #[.int .i64 a, .int .i64 b, .int .i64 c, .int .i64 d]).alloc (.cells #[.slice s n cp] 44)
  have b1 := Box.new_at (w.alloc (.cells #[.int .i64 a, .int .i64 b, .int .i64 c, .int .i64 d] 42)) 44 #[.slice s n cp] (w.heap.size + 1) (by simp)
  have p0 : ((w.alloc (.cells #[.int .i64 a, .int .i64 b, .int .i64 c, .int .i64 d] 42)).alloc (.cells #[.slice s n cp] 44)).cell? ⟨w.heap.size + 1, 0, none⟩ = some (.slice s n cp) := b1.cell 0
  have y0 : Ext w ((w.alloc (.cells #[.int .i64 a, .int .i64 b, .int .i64 c, .int .i64 d] 42)).alloc (.cells #[.slice s n cp] 44)) := ((Ext.refl w).alloc _).alloc _
  by_cases hbig : (1048576 : Int) < (n : Int)
  · have hz := fun w => sz_partition s n cp 1048576 (by omega) (by omega) hm w
    rw [if_pos hbig] at hz
    go_enter Try.func11, Try.ntmps11
    go_wp2_with fail
    refine (hz _).mono ?_
    rintro e w1 ⟨rfl, x1⟩
    go_wp2
    go_ret
    exact ⟨rfl, y0.trans x1⟩
  · have hn : n ≤ 1048576 := by omega
    have hz := fun w => sz_partition s n cp 1048576 (by omega) (by omega) hm w
    rw [if_neg hbig] at hz
    have HS := Lib.hid hS
    have HI := Lib.hid hI
    clear hS hI
    go_enter Try.func11, Try.ntmps11
    go_wp2_with fail
    refine (hz _).mono ?_
    rintro e w1 ⟨rfl, x1⟩
    have B0 := Lib.hid (b0.ext x1)
    have B1 := Lib.hid (b1.ext x1)
    have Y1 := Lib.hid (y0.trans x1)
    have R1 := Lib.hid (hr.ext (y0.trans x1))
    have HB : Hid (∀ x, Ext w1 x → x.cell? ⟨w.heap.size, 0, none⟩ = some (.int .i64 a) ∧ x.cell? ⟨w.heap.size, 1, none⟩ = some (.int .i64 b) ∧ x.cell? ⟨w.heap.size, 2, none⟩ = some (.int .i64 c) ∧ x.cell? ⟨w.heap.size, 3, none⟩ = some (.int .i64 d) ∧ x.cell? ⟨w.heap.size + 1, 0, none⟩ = some (.slice s n cp) ∧ Ext w1 x) := fun x hx => ⟨(B0.out.ext hx).cell 0, (B0.out.ext hx).cell 1, (B0.out.ext hx).cell 2, (B0.out.ext hx).cell 3, (B1.out.ext hx).cell 0, hx⟩
    clear hz p0 b0 b1 x1 y0 hr
    go_upto_region 5 with (fail)
    go_cut [10, 11] (fun s10 s11 wx => ∃ g : Nat, s10 = .pointer (some ⟨g, 0, none⟩) ∧ s11 = .bool R ∧ Box wx g 60 #[.int .i64 X, .int .i64 Y, .int .i64 Z] ∧ Ext w1 wx)
    case first =>
      go_region_held3 (fun x => x.cell? ⟨w.heap.size, 0, none⟩ = some (.int .i64 a) ∧ x.cell? ⟨w.heap.size, 1, none⟩ = some (.int .i64 b) ∧ x.cell? ⟨w.heap.size, 2, none⟩ = some (.int .i64 c) ∧ x.cell? ⟨w.heap.size, 3, none⟩ = some (.int .i64 d) ∧ x.cell? ⟨w.heap.size + 1, 0, none⟩ = some (.slice s n cp) ∧ Ext w1 x)
        (exact HB.out _ (by repeat (first | exact Ext.refl _ | assumption | refine Ext.alloc ?_ _ | refine Ext.drew ?_ | refine Ext.drewN ?_ _ | refine Ext.setCell ?_ (by first | exact Nat.le_refl _ | (simp; done) | (simp; omega) | omega) _ | (apply Ext.trans; rotate_left; assumption))))
        (first
          | (go_at_call 31; refine (to_geometry _ _ _ _ _).mono ?_; rintro e u1 ⟨rfl, v1⟩; have l1 := v1.le; (try simp at l1); try (have bz1 := @Box.ext _ u1 _ 60 #[.int .i64 0, .int .i64 0, .int .i64 0] (by first | assumption | exact Box.new _ _ _ | (refine Box.new_at _ _ _ _ ?_; simp; done)) v1; have fz1 := bz1.free; obtain ⟨qz10, qz11, qz12⟩ := bz1.cell3))
          | (go_at_call 32; refine (to_partition s n cp zs _ (R1.out.ext (by repeat (first | exact Ext.refl _ | assumption | refine Ext.alloc ?_ _ | refine Ext.drew ?_ | refine Ext.drewN ?_ _ | refine Ext.setCell ?_ (by first | exact Nat.le_refl _ | (simp; done) | (simp; omega) | omega) _ | (apply Ext.trans; rotate_left; assumption)))) hn).mono ?_; rintro e u2 ⟨g2, cp2, rfl, hg2, o2, v2⟩; have l2 := v2.le; (try simp at l2); try (have bz2 := @Box.ext _ u2 _ 60 #[.int .i64 0, .int .i64 0, .int .i64 0] (by first | assumption | exact Box.new _ _ _ | (refine Box.new_at _ _ _ _ ?_; simp; done)) v2; have fz2 := bz2.free; obtain ⟨qz20, qz21, qz22⟩ := bz2.cell3))
          | (go_at_call 42; refine (HS.out _ cp2 _ (by first | exact o2.rd | exact (o2.ext (by repeat (first | exact Ext.refl _ | assumption | refine Ext.alloc ?_ _ | refine Ext.drew ?_ | refine Ext.drewN ?_ _ | refine Ext.setCell ?_ (by first | exact Nat.le_refl _ | (simp; done) | (simp; omega) | omega) _ | (apply Ext.trans; rotate_left; assumption)))).rd)).mono ?_; rintro e u3 ⟨rfl, v3⟩; have l3 := v3.le; (try simp at l3); try (have bz3 := @Box.ext _ u3 _ 60 #[.int .i64 0, .int .i64 0, .int .i64 0] (by first | assumption | exact Box.new _ _ _ | (refine Box.new_at _ _ _ _ ?_; simp; done)) v3; have fz3 := bz3.free; obtain ⟨qz30, qz31, qz32⟩ := bz3.cell3)))
      all_goals
        go_wp2_with fail
        go_meet
        refine ⟨_, rfl, rfl, ?_, (by repeat (first | exact Ext.refl _ | assumption | refine Ext.alloc ?_ _ | refine Ext.drew ?_ | refine Ext.drewN ?_ _ | refine Ext.setCell ?_ (by first | exact Nat.le_refl _ | (simp; done) | (simp; omega) | omega) _ | (apply Ext.trans; rotate_left; assumption)))⟩
        first | exact putx3 bz3 _ _ _ | exact putx3 bz2 _ _ _ | exact putx3 bz1 _ _ _ | exact (by repeat (first | (with_reducible assumption) | (with_reducible refine Box.put3 (x := .int .i64 0) (y := .int .i64 0) (z := .int .i64 0) ?_ _ _ _) | (with_reducible exact Box.new _ _ _) | ((with_reducible refine Box.new_at _ _ _ _ ?_); simp; done) | (with_reducible refine Box.drewN ?_ _) | (with_reducible refine Box.drew ?_) | (with_reducible refine Box.alloc ?_ _) | (with_reducible refine Box.ext ?_ (by with_reducible assumption))))
    obtain ⟨g, rfl, rfl, bg, x2⟩ := hcut
    obtain ⟨W2, rfl⟩ : ∃ x : World, x = wc := ⟨_, rfl⟩
    have p2 : W2.cell? ⟨w.heap.size + 1, 0, none⟩ = some (.slice s n cp) := (B1.out.ext x2).cell 0
    have BG2 := Lib.hid bg
    clear bg
    go_wp2_with fail
    refine (to_partition s n cp zs _ (R1.out.ext x2) hn).mono ?_
    rintro e w4 ⟨g4, cp4, rfl, hg4, o4, x4⟩
    have bX := Box.new w4 49 #[.slice (some ⟨g4, 0, none⟩) n cp4]
    have z4' := x4.alloc (.cells #[.slice (some ⟨g4, 0, none⟩) n cp4] 49)
    have BG4 := Lib.hid (BG2.out.ext z4')
    have z4 := x2.trans z4'
    have o5 := o4.ext ((Ext.refl w4).alloc (.cells #[.slice (some ⟨g4, 0, none⟩) n cp4] 49))
    have BX := Lib.hid bX
    have O5 := Lib.hid o5.rd
    have B5 := Lib.hid (B0.out.ext z4)
    have C5 := Lib.hid (B1.out.ext z4)
    have R5 := Lib.hid (R1.out.ext z4)
    have Z4 := Lib.hid z4
    clear p2 x2 x4 hg4 o4 o5 bX z4 z4' B0 B1 R1 BG2 HB
    go_upto_region 7 with (fail)
    generalize hW4 : w4.alloc (.cells #[.slice (some ⟨g4, 0, none⟩) n cp4] 49) = W4 at BG4 BX O5 B5 C5 R5 Z4 ⊢
    clear hW4
    have HC : Hid (∀ x, Ext W4 x → x.cell? ⟨w.heap.size, 0, none⟩ = some (.int .i64 a) ∧ x.cell? ⟨w.heap.size, 1, none⟩ = some (.int .i64 b) ∧ x.cell? ⟨w.heap.size, 2, none⟩ = some (.int .i64 c) ∧ x.cell? ⟨w.heap.size, 3, none⟩ = some (.int .i64 d) ∧ x.cell? ⟨w4.heap.size, 0, none⟩ = some (.slice (some ⟨g4, 0, none⟩) n cp4) ∧ Ext W4 x) := fun x hx => ⟨(B5.out.ext hx).cell 0, (B5.out.ext hx).cell 1, (B5.out.ext hx).cell 2, (B5.out.ext hx).cell 3, (BX.out.ext hx).cell 0, hx⟩
    go_cut [13, 14] (fun s13 s14 wx => ∃ g : Nat, s13 = .pointer (some ⟨g, 0, none⟩) ∧ s14 = .bool R ∧ Box wx g 60 #[.int .i64 X, .int .i64 Y, .int .i64 Z] ∧ Ext W4 wx)
    case first =>
      go_region_held3 (fun x => x.cell? ⟨w.heap.size, 0, none⟩ = some (.int .i64 a) ∧ x.cell? ⟨w.heap.size, 1, none⟩ = some (.int .i64 b) ∧ x.cell? ⟨w.heap.size, 2, none⟩ = some (.int .i64 c) ∧ x.cell? ⟨w.heap.size, 3, none⟩ = some (.int .i64 d) ∧ x.cell? ⟨w4.heap.size, 0, none⟩ = some (.slice (some ⟨g4, 0, none⟩) n cp4) ∧ Ext W4 x)
        (exact HC.out _ (by repeat (first | exact Ext.refl _ | assumption | refine Ext.alloc ?_ _ | refine Ext.drew ?_ | refine Ext.drewN ?_ _ | refine Ext.setCell ?_ (by first | exact Nat.le_refl _ | (simp; done) | (simp; omega) | omega) _ | (apply Ext.trans; rotate_left; assumption))))
        (first
          | (go_at_call 31; refine (to_geometry _ _ _ _ _).mono ?_; rintro e u1 ⟨rfl, v1⟩; have l1 := v1.le; (try simp at l1); try (have bz1 := @Box.ext _ u1 _ 60 #[.int .i64 0, .int .i64 0, .int .i64 0] (by first | assumption | exact Box.new _ _ _ | (refine Box.new_at _ _ _ _ ?_; simp; done)) v1; have fz1 := bz1.free; obtain ⟨qz10, qz11, qz12⟩ := bz1.cell3))
          | (go_at_call 43; refine (HI.out _ cp4 _ (O5.out.ext (by repeat (first | exact Ext.refl _ | assumption | refine Ext.alloc ?_ _ | refine Ext.drew ?_ | refine Ext.drewN ?_ _ | refine Ext.setCell ?_ (by first | exact Nat.le_refl _ | (simp; done) | (simp; omega) | omega) _ | (apply Ext.trans; rotate_left; assumption))))).mono ?_; rintro e u3 ⟨rfl, v3⟩; have l3 := v3.le; (try simp at l3); try (have bz3 := @Box.ext _ u3 _ 60 #[.int .i64 0, .int .i64 0, .int .i64 0] (by first | assumption | exact Box.new _ _ _ | (refine Box.new_at _ _ _ _ ?_; simp; done)) v3; have fz3 := bz3.free; obtain ⟨qz30, qz31, qz32⟩ := bz3.cell3)))
      all_goals
        go_wp2_with fail
        go_meet
        refine ⟨_, rfl, rfl, ?_, (by repeat (first | exact Ext.refl _ | assumption | refine Ext.alloc ?_ _ | refine Ext.drew ?_ | refine Ext.drewN ?_ _ | refine Ext.setCell ?_ (by first | exact Nat.le_refl _ | (simp; done) | (simp; omega) | omega) _ | (apply Ext.trans; rotate_left; assumption)))⟩
        first | exact putx3 bz3 _ _ _ | exact putx3 bz2 _ _ _ | exact putx3 bz1 _ _ _ | exact (by repeat (first | (with_reducible assumption) | (with_reducible refine Box.put3 (x := .int .i64 0) (y := .int .i64 0) (z := .int .i64 0) ?_ _ _ _) | (with_reducible exact Box.new _ _ _) | ((with_reducible refine Box.new_at _ _ _ _ ?_); simp; done) | (with_reducible refine Box.drewN ?_ _) | (with_reducible refine Box.drew ?_) | (with_reducible refine Box.alloc ?_ _) | (with_reducible refine Box.ext ?_ (by with_reducible assumption))))
    obtain ⟨g6, rfl, rfl, bg6, x6⟩ := hcut
    obtain ⟨W6, rfl⟩ : ∃ x : World, x = wc := ⟨_, rfl⟩
    obtain ⟨q0, q1, q2⟩ := (BG4.out.ext x6).cell3
    obtain ⟨q3, q4, q5⟩ := bg6.cell3
    have BX6 := Lib.hid (BX.out.ext x6)
    have C6 := Lib.hid (C5.out.ext x6)
    have R6 := Lib.hid (R5.out.ext x6)
    have O6 := Lib.hid (O5.out.ext x6)
    have Z6 := Lib.hid (Z4.out.trans x6)
    clear HC BG4 BX C5 R5 O5 Z4 bg6 x6 B5
    go_wp2_with fail
    refine (eq_addr _ _ _ _).mono ?_
    rintro e W7 ⟨rfl, x7⟩
    have BX7 := Lib.hid (BX6.out.ext x7)
    have C7 := Lib.hid (C6.out.ext x7)
    have R7 := Lib.hid (R6.out.ext x7)
    have O7 := Lib.hid (O6.out.ext x7)
    have Z7 := Lib.hid (Z6.out.trans x7)
    clear BX6 C6 R6 O6 Z6 q0 q1 q2 q3 q4 q5 x7
    go_upto_region 10 with (fail)
    have HD : Hid (∀ x, Ext W7 x → x.cell? ⟨w4.heap.size, 0, none⟩ = some (.slice (some ⟨g4, 0, none⟩) n cp4) ∧ x.cell? ⟨w.heap.size + 1, 0, none⟩ = some (.slice s n cp) ∧ Ext W7 x) := fun x hx => ⟨(BX7.out.ext hx).cell 0, (C7.out.ext hx).cell 0, hx⟩
    go_cut [54] (fun s54 wx => s54 = .bool false ∧ Ext W7 wx)
    case first =>
      go_region_held3 (fun x => x.cell? ⟨w4.heap.size, 0, none⟩ = some (.slice (some ⟨g4, 0, none⟩) n cp4) ∧ x.cell? ⟨w.heap.size + 1, 0, none⟩ = some (.slice s n cp) ∧ Ext W7 x)
        (exact HD.out _ (by repeat (first | exact Ext.refl _ | assumption | refine Ext.alloc ?_ _ | refine Ext.drew ?_ | refine Ext.drewN ?_ _ | refine Ext.setCell ?_ (by first | exact Nat.le_refl _ | (simp; done) | (simp; omega) | omega) _ | (apply Ext.trans; rotate_left; assumption))))
        (first
          | (go_at_call 32; refine (to_partition s n cp zs _ (R7.out.ext (by repeat (first | exact Ext.refl _ | assumption | refine Ext.alloc ?_ _ | refine Ext.drew ?_ | refine Ext.drewN ?_ _ | refine Ext.setCell ?_ (by first | exact Nat.le_refl _ | (simp; done) | (simp; omega) | omega) _ | (apply Ext.trans; rotate_left; assumption)))) hn).mono ?_; rintro e u1 ⟨g7, cp7, rfl, hg7, o7, v1⟩)
          | (go_at_call 34; refine (eq_partition _ _ n cp4 cp7 zs _ (O7.out.ext (by repeat (first | exact Ext.refl _ | assumption | refine Ext.alloc ?_ _ | refine Ext.drew ?_ | refine Ext.drewN ?_ _ | refine Ext.setCell ?_ (by first | exact Nat.le_refl _ | (simp; done) | (simp; omega) | omega) _ | (apply Ext.trans; rotate_left; assumption)))) o7.rd hm).mono ?_; rintro e u2 ⟨rfl, v2⟩))
      all_goals
        go_wp2_with fail
        go_meet
        exact ⟨rfl, (by repeat (first | exact Ext.refl _ | assumption | refine Ext.alloc ?_ _ | refine Ext.drew ?_ | refine Ext.drewN ?_ _ | refine Ext.setCell ?_ (by first | exact Nat.le_refl _ | (simp; done) | (simp; omega) | omega) _ | (apply Ext.trans; rotate_left; assumption)))⟩
    obtain ⟨rfl, x8⟩ := hcut
    go_wp2
    go_ret
    exact ⟨rfl, (Y1.out.trans Z7.out).trans x8⟩

theorem law_FnExactTenantAddr (w : World) (z0 : List Int) (l0 : z0.length = 4) (_ : ∀ z ∈ z0, (Lit.int .i64 z).wf = true) (s : Option Addr) (n cp : Nat) (zs : List Int) (h0 : RowIs .i64 w w.heap.size s n zs) (hm : n ≤ maxLen) (t : Int) (_ : (Lit.int .i64 t).wf = true) (l : Int) (_ : (Lit.int .i64 l).wf = true) : Calls Try.prog 11 #[.agg (intCells z0), .agg #[.slice s n cp], .int .i64 t, .int .i64 l] w fun e w' => e = .returned (.bool true) ∧ Ext w w' := by
  obtain ⟨a, b, c, d, rfl⟩ := list4 l0
  cases hB : tenB a b c d zs t l with
  | true => exact law_ten_core w a b c d _ _ _ true s n cp zs h0.rd hm t l (fun s' cp' w h => spec_tenAddr_yes a b c d t l s' n cp' zs w h hm hB) (fun s' cp' w h => impl_tenAddr_yes a b c d t l s' n cp' zs w h hm hB)
  | false => exact law_ten_core w a b c d _ _ _ false s n cp zs h0.rd hm t l (fun s' cp' w h => spec_tenAddr_no a b c d t l s' n cp' zs w h hm hB) (fun s' cp' w h => impl_tenAddr_no a b c d t l s' n cp' zs w h hm hB)

end Go.Proofs.Ytlchejnjeeilpaa
