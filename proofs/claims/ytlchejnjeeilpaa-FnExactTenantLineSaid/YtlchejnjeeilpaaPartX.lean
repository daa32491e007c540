/- The walk of FnExactTenantLine. -/
import Derived.Test.YtlchejnjeeilpaaPartB
import Derived.Test.YtlchejnjeeilpaaPartO
namespace Go.Proofs.Ytlchejnjeeilpaa
open Go.RowKit
attribute [local go_sem ↓] Go.wp_at_zero Go.wp_at_succ

set_option maxHeartbeats 4000000 in
theorem law_line_core (w : World) (a b c d x y z X Y : Int) (R : Bool) (s : Option Addr) (n cp : Nat) (zs : List Int) (hr : RD w s n zs) (hm : n ≤ maxLen) (hS : ∀ (s' : Option Addr) (cp' : Nat) (w : World), RD w s' n zs → Calls Try.prog 45 #[.agg #[.int .i64 a, .int .i64 b, .int .i64 c, .int .i64 d], .agg #[.slice s' n cp'], .agg #[.int .i64 x, .int .i64 y, .int .i64 z]] w fun e w' => e = .returned (.tuple #[.int .i64 X, .int .i64 Y, .bool R]) ∧ Ext w w') (hI : ∀ (s' : Option Addr) (cp' : Nat) (w : World), RD w s' n zs → Calls Try.prog 47 #[.agg #[.int .i64 a, .int .i64 b, .int .i64 c, .int .i64 d], .agg #[.slice s' n cp'], .agg #[.int .i64 x, .int .i64 y, .int .i64 z]] w fun e w' => e = .returned (.tuple #[.int .i64 X, .int .i64 Y, .bool R]) ∧ Ext w w') : Calls Try.prog 12 #[.agg #[.int .i64 a, .int .i64 b, .int .i64 c, .int .i64 d], .agg #[.slice s n cp], .agg #[.int .i64 x, .int .i64 y, .int .i64 z]] w fun e w' => e = .returned (.bool true) ∧ Ext w w' := by
  have hm' := hm
  unfold maxLen at hm'
  have b0 := ((Box.new w 42 #[.int .i64 a, .int .i64 b, .int .i64 c, .int .i64 d]).alloc (.cells #[.slice s n cp] 44)).alloc (.cells #[.int .i64 x, .int .i64 y, .int .i64 z] 65)
  have b1 := (Box.new_at (w.alloc (.cells #[.int .i64 a, .int .i64 b, .int .i64 c, .int .i64 d] 42)) 44 #[.slice s n cp] (w.heap.size + 1) (by simp)).alloc (.cells #[.int .i64 x, .int .i64 y, .int .i64 z] 65)
  have b2 := Box.new_at ((w.alloc (.cells #[.int .i64 a, .int .i64 b, .int .i64 c, .int .i64 d] 42)).alloc (.cells #[.slice s n cp] 44)) 65 #[.int .i64 x, .int .i64 y, .int .i64 z] (w.heap.size + 1 + 1) (by simp)
  have p0 : (((w.alloc (.cells #[.int .i64 a, .int .i64 b, .int .i64 c, .int .i64 d] 42)).alloc (.cells #[.slice s n cp] 44)).alloc (.cells #[.int .i64 x, .int .i64 y, .int .i64 z] 65)).cell? ⟨w.heap.size + 1, 0, none⟩ = some (.slice s n cp) := b1.cell 0
  have y0 : Ext w (((w.alloc (.cells #[.int .i64 a, .int .i64 b, .int .i64 c, .int .i64 d] 42)).alloc (.cells #[.slice s n cp] 44)).alloc (.cells #[.int .i64 x, .int .i64 y, .int .i64 z] 65)) := (((Ext.refl w).alloc _).alloc _).alloc _
  by_cases hbig : (1048576 : Int) < (n : Int)
  · have hz := fun w => sz_partition s n cp 1048576 (by omega) (by omega) hm w
    rw [if_pos hbig] at hz
    go_enter Try.func12, Try.ntmps12
    go_wp2_with fail
    refine (hz _).mono ?_
    rintro e w1 ⟨rfl, x1⟩
    go_wp2
    go_ret
    exact ⟨rfl, y0.trans x1⟩
  · have hn : n ≤ 1048576 := by omega
    have hz := fun w => sz_partition s n cp 1048576 (by omega) (by omega) hm w
    rw [if_neg hbig] at hz
    have HS := Lib.hid hS
    have HI := Lib.hid hI
    clear hS hI
    go_enter Try.func12, Try.ntmps12
    go_wp2_with fail
    refine (hz _).mono ?_
    rintro e w1 ⟨rfl, x1⟩
    have B0 := Lib.hid (b0.ext x1)
    have B1 := Lib.hid (b1.ext x1)
    have B2 := Lib.hid (b2.ext x1)
    have Y1 := Lib.hid (y0.trans x1)
    have R1 := Lib.hid (hr.ext (y0.trans x1))
    have HB : Hid (∀ v, Ext w1 v → v.cell? ⟨w.heap.size, 0, none⟩ = some (.int .i64 a) ∧ v.cell? ⟨w.heap.size, 1, none⟩ = some (.int .i64 b) ∧ v.cell? ⟨w.heap.size, 2, none⟩ = some (.int .i64 c) ∧ v.cell? ⟨w.heap.size, 3, none⟩ = some (.int .i64 d) ∧ v.cell? ⟨w.heap.size + 1, 0, none⟩ = some (.slice s n cp) ∧ v.cell? ⟨w.heap.size + 1 + 1, 0, none⟩ = some (.int .i64 x) ∧ v.cell? ⟨w.heap.size + 1 + 1, 1, none⟩ = some (.int .i64 y) ∧ v.cell? ⟨w.heap.size + 1 + 1, 2, none⟩ = some (.int .i64 z) ∧ Ext w1 v) := fun v hx => ⟨(B0.out.ext hx).cell 0, (B0.out.ext hx).cell 1, (B0.out.ext hx).cell 2, (B0.out.ext hx).cell 3, (B1.out.ext hx).cell 0, (B2.out.ext hx).cell 0, (B2.out.ext hx).cell 1, (B2.out.ext hx).cell 2, hx⟩
    clear hz p0 b0 b1 b2 x1 y0 hr
    go_upto_region 5 with (fail)
    go_cut [8, 9, 10] (fun s8 s9 s10 wx => s8 = .int .i64 X ∧ s9 = .int .i64 Y ∧ s10 = .bool R ∧ Ext w1 wx)
    case first =>
      go_region_held3 (fun v => v.cell? ⟨w.heap.size, 0, none⟩ = some (.int .i64 a) ∧ v.cell? ⟨w.heap.size, 1, none⟩ = some (.int .i64 b) ∧ v.cell? ⟨w.heap.size, 2, none⟩ = some (.int .i64 c) ∧ v.cell? ⟨w.heap.size, 3, none⟩ = some (.int .i64 d) ∧ v.cell? ⟨w.heap.size + 1, 0, none⟩ = some (.slice s n cp) ∧ v.cell? ⟨w.heap.size + 1 + 1, 0, none⟩ = some (.int .i64 x) ∧ v.cell? ⟨w.heap.size + 1 + 1, 1, none⟩ = some (.int .i64 y) ∧ v.cell? ⟨w.heap.size + 1 + 1, 2, none⟩ = some (.int .i64 z) ∧ Ext w1 v)
        (exact HB.out _ (by repeat (first | exact Ext.refl _ | assumption | refine Ext.alloc ?_ _ | refine Ext.drew ?_ | refine Ext.drewN ?_ _ | refine Ext.setCell ?_ (by first | exact Nat.le_refl _ | (simp; done) | (simp; omega) | omega) _ | (apply Ext.trans; rotate_left; assumption))))
        (first
          | (go_at_call 31; refine (to_geometry _ _ _ _ _).mono ?_; rintro e u1 ⟨rfl, v1⟩)
          | (go_at_call 32; refine (to_partition s n cp zs _ (R1.out.ext (by repeat (first | exact Ext.refl _ | assumption | refine Ext.alloc ?_ _ | refine Ext.drew ?_ | refine Ext.drewN ?_ _ | refine Ext.setCell ?_ (by first | exact Nat.le_refl _ | (simp; done) | (simp; omega) | omega) _ | (apply Ext.trans; rotate_left; assumption)))) hn).mono ?_; rintro e u2 ⟨g2, cp2, rfl, hg2, o2, v2⟩)
          | (go_at_call 46; refine (to_addr _ _ _ _).mono ?_; rintro e u4 ⟨rfl, v4⟩)
          | (go_at_call 45; refine (HS.out _ cp2 _ (by first | exact o2.rd | exact (o2.ext (by assumption)).rd | exact (o2.ext (by repeat (first | exact Ext.refl _ | assumption | refine Ext.alloc ?_ _ | refine Ext.drew ?_ | refine Ext.drewN ?_ _ | refine Ext.setCell ?_ (by first | exact Nat.le_refl _ | (simp; done) | (simp; omega) | omega) _ | (apply Ext.trans; rotate_left; assumption)))).rd)).mono ?_; rintro e u3 ⟨rfl, v3⟩))
      all_goals
        go_wp2_with fail
        go_meet
        exact ⟨rfl, rfl, rfl, (by repeat (first | exact Ext.refl _ | assumption | refine Ext.alloc ?_ _ | refine Ext.drew ?_ | refine Ext.drewN ?_ _ | refine Ext.setCell ?_ (by first | exact Nat.le_refl _ | (simp; done) | (simp; omega) | omega) _ | (apply Ext.trans; rotate_left; assumption)))⟩
    obtain ⟨rfl, rfl, rfl, x2⟩ := hcut
    obtain ⟨W2, rfl⟩ : ∃ v : World, v = wc := ⟨_, rfl⟩
    have p2 : W2.cell? ⟨w.heap.size + 1, 0, none⟩ = some (.slice s n cp) := (B1.out.ext x2).cell 0
    go_wp2_with fail
    refine (to_partition s n cp zs _ (R1.out.ext x2) hn).mono ?_
    rintro e w4 ⟨g4, cp4, rfl, hg4, o4, x4⟩
    have bX := Box.new w4 49 #[.slice (some ⟨g4, 0, none⟩) n cp4]
    have z4 := (x2.trans x4).alloc (.cells #[.slice (some ⟨g4, 0, none⟩) n cp4] 49)
    have o5 := o4.ext ((Ext.refl w4).alloc (.cells #[.slice (some ⟨g4, 0, none⟩) n cp4] 49))
    have O5 := Lib.hid o5.rd
    have q7 : ∀ x : Later (w4.alloc (.cells #[.slice (some ⟨g4, 0, none⟩) n cp4] 49)), x.w.cell? ⟨w4.heap.size, 0, none⟩ = some (.slice (some ⟨g4, 0, none⟩) n cp4) := fun x => (bX.ext x.ext).cell 0
    have b5 := B0.out.ext z4
    have c5 := B2.out.ext z4
    have gq0 := Later.cells (b5) 0
    have gq1 := Later.cells (b5) 1
    have gq2 := Later.cells (b5) 2
    have gq3 := Later.cells (b5) 3
    simp only [List.getElem?_toArray, List.getElem?_cons_zero, List.getElem?_cons_succ] at gq0 gq1 gq2 gq3
    have ga0 := Later.cells (c5) 0
    have ga1 := Later.cells (c5) 1
    have ga2 := Later.cells (c5) 2
    simp only [List.getElem?_toArray, List.getElem?_cons_zero, List.getElem?_cons_succ] at ga0 ga1 ga2
    clear p2 x2 x4 b5 c5 hg4 o4 o5
    go_wp2_with fail
    refine wp_region_later (by kernel_rfl) (by kernel_rfl) ?_
    repeat (go_big_quiet_step ((first | (go_at_call 31; exact Later.of _ (to_geometry _ _ _ _ _)) | (go_at_call 46; exact Later.of _ (to_addr _ _ _ _)) | (go_at_call 47; exact Later.of _ (HI.out _ cp4 _ (O5.out.ext (Later.ext _)))))))
    refine wpQuiet_nil ?_
    rintro _ ⟨x, rfl⟩
    have xe := x.ext
    have z5 := z4.trans xe
    have b6 := bX.ext xe
    have R6 := Lib.hid (O5.out.ext xe)
    have RA := Lib.hid (R1.out.ext z5)
    have Z5 := Lib.hid z5
    have B6 := Lib.hid b6
    have C1 := Lib.hid (B1.out.ext z5)
    generalize x.w = W5 at *
    clear q7 gq0 gq1 gq2 gq3 ga0 ga1 ga2 xe z4 bX z5 b6
    go_upto_region 10 with (fail)
    have HC : Hid (∀ v, Ext W5 v → v.cell? ⟨w4.heap.size, 0, none⟩ = some (.slice (some ⟨g4, 0, none⟩) n cp4) ∧ v.cell? ⟨w.heap.size + 1, 0, none⟩ = some (.slice s n cp) ∧ Ext W5 v) := fun v hx => ⟨(B6.out.ext hx).cell 0, (C1.out.ext hx).cell 0, hx⟩
    go_cut [60] (fun s60 wx => s60 = .bool false ∧ Ext W5 wx)
    case first =>
      go_region_held3 (fun v => v.cell? ⟨w4.heap.size, 0, none⟩ = some (.slice (some ⟨g4, 0, none⟩) n cp4) ∧ v.cell? ⟨w.heap.size + 1, 0, none⟩ = some (.slice s n cp) ∧ Ext W5 v)
        (exact HC.out _ (by repeat (first | exact Ext.refl _ | assumption | refine Ext.alloc ?_ _ | refine Ext.drew ?_ | refine Ext.drewN ?_ _ | refine Ext.setCell ?_ (by first | exact Nat.le_refl _ | (simp; done) | (simp; omega) | omega) _ | (apply Ext.trans; rotate_left; assumption))))
        (first
          | (go_at_call 32; refine (to_partition s n cp zs _ (RA.out.ext (by repeat (first | exact Ext.refl _ | assumption | refine Ext.alloc ?_ _ | refine Ext.drew ?_ | refine Ext.drewN ?_ _ | refine Ext.setCell ?_ (by first | exact Nat.le_refl _ | (simp; done) | (simp; omega) | omega) _ | (apply Ext.trans; rotate_left; assumption)))) hn).mono ?_; rintro e u1 ⟨g7, cp7, rfl, hg7, o7, v1⟩)
          | (go_at_call 34; refine (eq_partition _ _ n cp4 cp7 zs _ (R6.out.ext (by repeat (first | exact Ext.refl _ | assumption | refine Ext.alloc ?_ _ | refine Ext.drew ?_ | refine Ext.drewN ?_ _ | refine Ext.setCell ?_ (by first | exact Nat.le_refl _ | (simp; done) | (simp; omega) | omega) _ | (apply Ext.trans; rotate_left; assumption)))) o7.rd hm).mono ?_; rintro e u2 ⟨rfl, v2⟩))
      all_goals
        go_wp2_with fail
        go_meet
        exact ⟨rfl, (by repeat (first | exact Ext.refl _ | assumption | refine Ext.alloc ?_ _ | refine Ext.drew ?_ | refine Ext.drewN ?_ _ | refine Ext.setCell ?_ (by first | exact Nat.le_refl _ | (simp; done) | (simp; omega) | omega) _ | (apply Ext.trans; rotate_left; assumption)))⟩
    obtain ⟨rfl, x7⟩ := hcut
    go_wp2
    go_ret
    exact ⟨rfl, (Y1.out.trans Z5.out).trans x7⟩

theorem law_FnExactTenantLine (w : World) (z0 : List Int) (l0 : z0.length = 4) (_ : ∀ z ∈ z0, (Lit.int .i64 z).wf = true) (s : Option Addr) (n cp : Nat) (zs : List Int) (h0 : RowIs .i64 w w.heap.size s n zs) (hm : n ≤ maxLen) (z2 : List Int) (l2 : z2.length = 3) (_ : ∀ z ∈ z2, (Lit.int .i64 z).wf = true) : Calls Try.prog 12 #[.agg (intCells z0), .agg #[.slice s n cp], .agg (intCells z2)] w fun e w' => e = .returned (.bool true) ∧ Ext w w' := by
  obtain ⟨a, b, c, d, rfl⟩ := list4 l0
  obtain ⟨x, y, z, rfl⟩ := list3 l2
  cases hB : tlB a b c d zs x y z with
  | true => exact law_line_core w a b c d x y z _ _ true s n cp zs h0.rd hm (fun s' cp' w h => spec_tenLine_yes a b c d x y z s' n cp' zs w h hm hB) (fun s' cp' w h => impl_tenLine_yes a b c d x y z s' n cp' zs w h hm hB)
  | false => exact law_line_core w a b c d x y z _ _ false s n cp zs h0.rd hm (fun s' cp' w h => spec_tenLine_no a b c d x y z s' n cp' zs w h hm hB) (fun s' cp' w h => impl_tenLine_no a b c d x y z s' n cp' zs w h hm hB)

end Go.Proofs.Ytlchejnjeeilpaa
