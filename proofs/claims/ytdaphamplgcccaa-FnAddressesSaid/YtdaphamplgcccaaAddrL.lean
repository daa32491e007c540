/- The walk of the law FnAddresses. -/
import Derived.Test.YtdaphamplgcccaaGeoF
import Derived.Test.YtdaphamplgcccaaGeoD
import Derived.Deep.RegionHeld3
import Derived.Deep.DeepCutAuto
import Derived.Deep.DrawnRows
namespace Go.Proofs.Ytdaphamplgcccaa
open Go.RowKit
attribute [local go_sem ↓] Go.wp_at_zero Go.wp_at_succ


theorem Box.put3' {w : World} {g : Nat} {t : TypeId} {x y z : Value} (h : Box w g t #[x, y, z]) (u v s : Value) : Box (((w.setCell ⟨g, 0, none⟩ u).setCell ⟨g, 1, none⟩ v).setCell ⟨g, 2, none⟩ s) g t #[u, v, s] := ((h.set 0 u).set 1 v).set 2 s

/-- what the law asks of an address that is found -/
theorem found_facts {a b c d m : Int} (hG : GeoIn a b c d) (m0 : 0 ≤ m) (m1 : m < lineF a b c d) :
    atB a b c d m = true ∧ addrB a b c d (m / d / c) (m / d % c) (m % d) = true ∧ addrIdxF a b c d (m / d / c) (m / d % c) (m % d) = m ∧ groupF a b c d (m / d / c) = m / d / c / b ∧ (0 ≤ m / d / c ∧ m / d / c ≤ 8) := by
  have hg := hG.ok
  unfold GeoIn at hG
  have hL := lineF_yes hg
  have hb := bank_range hg
  have hF := bankF_yes hg
  rw [hL] at m1
  have q1 := quot_lt (p := a * b * c) (q := d) m0 m1 (by omega)
  have q2 := quot_lt (p := a * b) (q := c) q1.1 q1.2 (by omega)
  have q3 := rem_lt (n := m / d) (q := c) (by omega)
  have q4 := rem_lt (n := m) (q := d) (by omega)
  have hA : addrB a b c d (m / d / c) (m / d % c) (m % d) = true := addrB_iff.2 ⟨hg, by omega, by omega, by omega⟩
  refine ⟨btw_true m0 (by rw [hL]; omega), hA, ?_, ?_, by omega⟩
  · rw [addrIdxF, if_pos hA, div_join, div_join]
  · rw [groupF, if_pos (btw_true (by omega) (by rw [hF]; omega))]

set_option maxHeartbeats 8000000 in
theorem law_FnAddresses (w : World) (a0 : Option Addr) (n0 c0 : Nat) (z0 : List Int) (r0 : RowIs .u8 w w.heap.size a0 n0 z0) (m0 : n0 ≤ maxLen) : Calls Try.prog 12 #[.slice a0 n0 c0] w fun e w' => e = .returned (.bool true) ∧ Ext w w' := by
  have m1 := m0
  unfold maxLen at m1
  by_cases hbig : (1048576 : Int) < (n0 : Int)
  · go_enter Try.func12, Try.ntmps12
    go_wp2
    go_ret
    exact ⟨rfl, (by repeat (first | exact Ext.refl _ | assumption | refine Ext.alloc ?_ _ | refine Ext.drew ?_ | refine Ext.drewN ?_ _ | refine Ext.setCell ?_ (by first | exact Nat.le_refl _ | (simp; done) | (simp; omega) | omega) _ | (apply Ext.trans; rotate_left; assumption)))⟩
  · go_enter Try.func12, Try.ntmps12
    go_wp2_with (first | (go_at_call 36; go_in))
    refine (draw_geometry a0 n0 c0 z0 _ r0 m0).mono ?_
    rintro e w1 ⟨a, b, c, d, hG, rfl, x1⟩
    have b1 := Box.new w1 25 #[.int .i64 a, .int .i64 b, .int .i64 c, .int .i64 d]
    have y1 := x1.alloc (.cells #[.int .i64 a, .int .i64 b, .int .i64 c, .int .i64 d] 25)
    have r1 := (y1.row r0 (Nat.le_refl _)).more y1.le
    go_wp2_with fail
    refine (draw_places a0 n0 c0 z0 _ r1 m0).mono ?_
    rintro e w2 ⟨g, cp, zs, hz, hzr, rfl, hcell, hg, hgl, x2⟩
    have b2 := b1.ext x2
    have y2 := y1.trans x2
    have hp := hzr (zs.getD 0 0) (by rw [List.getD_eq_getElem?_getD, List.getElem?_eq_getElem (by omega)]; exact List.getElem_mem _)
    have p0 : ∀ x : Later w2, x.w.cell? ⟨g, 0, none⟩ = some (.int .i64 (zs.getD 0 0)) := fun x => (x.ext.cell hgl 0).trans (hcell 0 (by omega))
    generalize zs.getD 0 0 = p at hp p0
    clear hz hzr hcell r0 r1 b1 y1 x1 x2
    have hgg := hG.ok
    have hS1 := fun w => spec_lineCount a b c d w
    have hI1 := fun w => impl_lineCount a b c d w
    have hI2 := fun w => impl_bankCount a b c d w
    have hI3 := fun w => impl_geometryOk a b c d w
    have hLr := line_range hgg
    have hNo := impl_addrAt_no a b c d (lineF a b c d) (btw_false (by omega))
    have hFF := fun m0 m1 => found_facts (m := p % lineF a b c d) hG m0 m1
    have hKF := bank_range hgg
    rw [← lineF_yes hgg] at hLr
    have hprod : a * b * c * d = lineF a b c d := (lineF_yes hgg).symm
    have hmid : 0 ≤ a * b * c ∧ a * b * c ≤ 128 := by have := bankrow_range hgg; omega
    rw [bankF_yes hgg] at hI2
    rw [hgg] at hI3
    generalize lineF a b c d = L at *
    obtain ⟨L0, L1⟩ := hLr
    have hm0 : 0 ≤ p % L := Int.emod_nonneg _ (by omega)
    have hm1 : p % L < L := Int.emod_lt_of_pos _ (by omega)
    obtain ⟨f1, f2, f3, f4, f5, f6⟩ := hFF hm0 hm1
    have ET : p.tmod L = p % L := Int.tmod_eq_emod_of_nonneg hp.1
    generalize p % L = m at *
    have hAt := fun w => impl_addrAt_yes a b c d m f1 w
    have hIx := fun w => impl_addrIndex a b c d (m / d / c) (m / d % c) (m % d) w
    have hOk := fun w => impl_addrOk a b c d (m / d / c) (m / d % c) (m % d) w
    have hGr := fun w => impl_groupOf a b c d (m / d / c) w
    rw [f3] at hIx
    rw [f2] at hOk
    rw [f4] at hGr
    clear f1 f2 f3 f4 hFF
    generalize m / d / c = X at *
    generalize m / d % c = Y at *
    generalize m % d = Z at *
    have EQ : X.tdiv b = X / b := Int.tdiv_eq_ediv_of_nonneg f5
    have hq0 : 0 ≤ X / b := Int.ediv_nonneg f5 (by unfold GeoIn at hG; omega)
    have hq1 : X / b ≤ X := Int.ediv_le_self _ f5
    have EW : IntKind.i64.wrap (X / b) = X / b := by rw [IntKind.wrap_i64]; omega
    generalize hq : X / b = Q at *
    generalize a * b = K at *
    have E4 : IntKind.i64.wrap (K * c) = K * c := by rw [IntKind.wrap_i64]; omega
    generalize hKc : K * c = M at *
    have E5 : IntKind.i64.wrap (M * d) = L := by rw [IntKind.wrap_i64]; omega
    have E7 : IntKind.i64.wrap m = m := by rw [IntKind.wrap_i64]; omega
    have H1 := Lib.hid hS1
    have H2 := Lib.hid hI1
    have H3 := Lib.hid hI2
    have H4 := Lib.hid hI3
    have H5 := Lib.hid hNo
    have H6 := Lib.hid hAt
    have H7 := Lib.hid hIx
    have H8 := Lib.hid hOk
    have H9 := Lib.hid hGr
    have HH := Lib.hid (show b ≠ 0 by unfold GeoIn at hG; omega)
    have hb0 : 1 ≤ b := by unfold GeoIn at hG; omega
    clear hS1 hI1 hI2 hI3 hNo hAt hIx hOk hGr hG
    have K1 := Lib.hid hq
    have K2 := Lib.hid hKc
    have K3 := Lib.hid hprod
    clear hq hKc hprod
    have C1 := Lib.hid E4
    have C2 := Lib.hid E5
    have C3 := Lib.hid EQ
    clear E4 E5 EQ hgg
    have gq0 := Later.cells (b2) 0
    have gq1 := Later.cells (b2) 1
    have gq2 := Later.cells (b2) 2
    have gq3 := Later.cells (b2) 3
    simp only [List.getElem?_toArray, List.getElem?_cons_zero, List.getElem?_cons_succ] at gq0 gq1 gq2 gq3
    go_wp2_with fail
    refine wp_region_later (by kernel_rfl) (by kernel_rfl) ?_
    repeat (go_big_quiet_step ((first | (go_at_call 19; exact Later.of _ (H1.out _)))))
    refine wpQuiet_nil ?_
    rintro _ ⟨x, rfl⟩
    have xe := x.ext
    clear p0 gq0 gq1 gq2 gq3
    have b3 := b2.ext xe
    have y3 := y2.trans xe
    obtain ⟨g0, g1, g2, g3⟩ := b3.cell4
    go_wp2_with fail
    refine (H6.out _).mono ?_
    rintro e w4 ⟨rfl, x4⟩
    clear g0 g1 g2 g3
    have b4 := b3.ext x4
    have a4 := Box.new w4 33 #[.int .i64 X, .int .i64 Y, .int .i64 Z]
    have b5 := b4.alloc (.cells #[.int .i64 X, .int .i64 Y, .int .i64 Z] 33)
    have y5 := (y3.trans x4).alloc (.cells #[.int .i64 X, .int .i64 Y, .int .i64 Z] 33)
    go_upto_region 7 with (fail)
    generalize w4.alloc (.cells #[.int .i64 X, .int .i64 Y, .int .i64 Z] 33) = W1 at a4 b5 y5 ⊢
    have HB : Hid (∀ x, Ext W1 x → x.cell? ⟨w1.heap.size, 0, none⟩ = some (.int .i64 a) ∧ x.cell? ⟨w1.heap.size, 1, none⟩ = some (.int .i64 b) ∧ x.cell? ⟨w1.heap.size, 2, none⟩ = some (.int .i64 c) ∧ x.cell? ⟨w1.heap.size, 3, none⟩ = some (.int .i64 d) ∧ Ext W1 x) := fun x hx => ⟨(b5.ext hx).cell 0, (b5.ext hx).cell 1, (b5.ext hx).cell 2, (b5.ext hx).cell 3, hx⟩
    have A4 := Lib.hid a4
    have B5 := Lib.hid b5
    have Y5 := Lib.hid y5
    clear a4 b5 y5 b4 x4 b3 y3 b2 y2
    go_cut [9] (fun s9 wx => s9 = .bool false ∧ Ext W1 wx)
    case first =>
      go_region_held3 (fun x => x.cell? ⟨w1.heap.size, 0, none⟩ = some (.int .i64 a) ∧ x.cell? ⟨w1.heap.size, 1, none⟩ = some (.int .i64 b) ∧ x.cell? ⟨w1.heap.size, 2, none⟩ = some (.int .i64 c) ∧ x.cell? ⟨w1.heap.size, 3, none⟩ = some (.int .i64 d) ∧ Ext W1 x)
        (exact HB.out _ (by repeat (first | exact Ext.refl _ | assumption | refine Ext.alloc ?_ _ | refine Ext.drew ?_ | refine Ext.drewN ?_ _ | refine Ext.setCell ?_ (by first | exact Nat.le_refl _ | (simp; done) | (simp; omega) | omega) _ | (apply Ext.trans; rotate_left; assumption))))
        (first
          | (go_at_call 19; refine (H1.out _).mono ?_; rintro e u1 ⟨rfl, v1⟩; have l1 := v1.le; (try simp at l1); try (have bz1 := @Box.ext _ u1 _ 33 #[.int .i64 0, .int .i64 0, .int .i64 0] (by first | assumption | exact Box.new _ _ _ | (refine Box.new_at _ _ _ _ ?_; simp; done)) v1; have fz1 := bz1.free; obtain ⟨qz10, qz11, qz12⟩ := bz1.cell3))
          | (go_at_call 29; refine (H5.out _).mono ?_; rintro e u2 ⟨rfl, v2⟩; have l2 := v2.le; (try simp at l2); try (have bz2 := @Box.ext _ u2 _ 33 #[.int .i64 0, .int .i64 0, .int .i64 0] (by first | assumption | exact Box.new _ _ _ | (refine Box.new_at _ _ _ _ ?_; simp; done)) v2; have fz2 := bz2.free; obtain ⟨qz20, qz21, qz22⟩ := bz2.cell3)))
      all_goals
        go_wp2_with fail
        go_meet
        exact ⟨rfl, (by repeat (first | exact Ext.refl _ | assumption | refine Ext.alloc ?_ _ | refine Ext.drew ?_ | refine Ext.drewN ?_ _ | refine Ext.setCell ?_ (by first | exact Nat.le_refl _ | (simp; done) | (simp; omega) | omega) _ | (apply Ext.trans; rotate_left; assumption)))⟩
    obtain ⟨rfl, x6⟩ := hcut
    have b6 := B5.out.ext x6
    have a6 := A4.out.ext x6
    have y6 := Y5.out.trans x6
    have E4 := C1.out
    have E5 := C2.out
    have EQ := C3.out
    have hq0 := Later.cells (b6) 0
    have hq1 := Later.cells (b6) 1
    have hq2 := Later.cells (b6) 2
    have hq3 := Later.cells (b6) 3
    simp only [List.getElem?_toArray, List.getElem?_cons_zero, List.getElem?_cons_succ] at hq0 hq1 hq2 hq3
    have ha0 := Later.cells (a6) 0
    have ha1 := Later.cells (a6) 1
    have ha2 := Later.cells (a6) 2
    simp only [List.getElem?_toArray, List.getElem?_cons_zero, List.getElem?_cons_succ] at ha0 ha1 ha2
    go_wp2_with fail
    refine wp_region_later (by kernel_rfl) (by kernel_rfl) ?_
    repeat (go_big_quiet_step ((first | (go_at_call 27; exact Later.of _ (H7.out _)) | (go_at_call 25; exact Later.of _ (H8.out _)) | (go_at_call 39; exact Later.of _ (H4.out _)) | (go_at_call 22; exact Later.of _ (H9.out _)) | (go_at_call 20; exact Later.of _ (H2.out _)) | (go_at_call 18; exact Later.of _ (H3.out _)))))
    refine wpQuiet_nil ?_
    rintro _ ⟨z, rfl⟩
    have ze := z.ext
    go_wp2
    go_ret
    refine ⟨congrArg (fun q => Ending.returned (.bool q)) (show (L == wrap64 (wrap64 (K * c) * d)) = true from ?_), y6.trans ze⟩
    rw [K2.out, IntWalk.wrap64_in M (by omega), K3.out, IntWalk.wrap64_in L (by omega)]
    simp

end Go.Proofs.Ytdaphamplgcccaa
