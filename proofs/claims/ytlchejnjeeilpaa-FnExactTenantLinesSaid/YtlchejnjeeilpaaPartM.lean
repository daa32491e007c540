/- The walks of FnExactPartitionOk and FnExactTenantLines. -/
import Derived.Test.YtlchejnjeeilpaaPartT
import Derived.Test.YtlchejnjeeilpaaPartO
namespace Go.Proofs.Ytlchejnjeeilpaa
open Go.RowKit
attribute [local go_sem ↓] Go.wp_at_zero Go.wp_at_succ

set_option maxHeartbeats 4000000 in
theorem law_FnExactPartitionOk (w : World) (z0 : List Int) (l0 : z0.length = 4) (_ : ∀ z ∈ z0, (Lit.int .i64 z).wf = true) (s : Option Addr) (n cp : Nat) (zs : List Int) (h0 : RowIs .i64 w w.heap.size s n zs) (hm : n ≤ maxLen) : Calls Try.prog 8 #[.agg (intCells z0), .agg #[.slice s n cp]] w fun e w' => e = .returned (.bool true) ∧ Ext w w' := by
  obtain ⟨a, b, c, d, rfl⟩ := list4 l0
  show Calls _ _ #[.agg #[.int .i64 a, .int .i64 b, .int .i64 c, .int .i64 d], .agg #[.slice s n cp]] _ _
  have hr := h0.rd
  have hm' := hm
  unfold maxLen at hm'
  have b0 := (Box.new w 42 #[.int .i64 a, .int .i64 b, .int .i64 c, .int .i64 d]).alloc (.cells #[.slice s n cp] 44)
  have b1 := Box.new_at (w.alloc (.cells #[.int .i64 a, .int .i64 b, .int .i64 c, .int .i64 d] 42)) 44 #[.slice s n cp] (w.heap.size + 1) (by simp)
  have p0 : ((w.alloc (.cells #[.int .i64 a, .int .i64 b, .int .i64 c, .int .i64 d] 42)).alloc (.cells #[.slice s n cp] 44)).cell? ⟨w.heap.size + 1, 0, none⟩ = some (.slice s n cp) := b1.cell 0
  have y0 : Ext w ((w.alloc (.cells #[.int .i64 a, .int .i64 b, .int .i64 c, .int .i64 d] 42)).alloc (.cells #[.slice s n cp] 44)) := ((Ext.refl w).alloc _).alloc _
  by_cases hbig : (1048576 : Int) < (n : Int)
  · have hz := fun w => sz_partition s n cp 1048576 (by omega) (by omega) hm w
    rw [if_pos hbig] at hz
    go_enter Try.func8, Try.ntmps8
    go_wp2_with fail
    refine (hz _).mono ?_
    rintro e w1 ⟨rfl, x1⟩
    go_wp2
    go_ret
    exact ⟨rfl, y0.trans x1⟩
  · have hn : n ≤ 1048576 := by omega
    have hz := fun w => sz_partition s n cp 1048576 (by omega) (by omega) hm w
    rw [if_neg hbig] at hz
    have HS := Lib.hid (fun (s' : Option Addr) (cp' : Nat) (w : World) (h : RD w s' n zs) => spec_partitionOk a b c d s' n cp' zs w h hm)
    have HI := Lib.hid (fun (s' : Option Addr) (cp' : Nat) (w : World) (h : RD w s' n zs) => impl_partitionOk a b c d s' n cp' zs w h hm)
    generalize hV : partB a b c d zs = V at *
    clear hV
    go_enter Try.func8, Try.ntmps8
    go_wp2_with fail
    refine (hz _).mono ?_
    rintro e w1 ⟨rfl, x1⟩
    have B0 := Lib.hid (b0.ext x1)
    have B1 := Lib.hid (b1.ext x1)
    have Y1 := Lib.hid (y0.trans x1)
    have R1 := Lib.hid (hr.ext (y0.trans x1))
    have HB : Hid (∀ x, Ext w1 x → x.cell? ⟨w.heap.size, 0, none⟩ = some (.int .i64 a) ∧ x.cell? ⟨w.heap.size, 1, none⟩ = some (.int .i64 b) ∧ x.cell? ⟨w.heap.size, 2, none⟩ = some (.int .i64 c) ∧ x.cell? ⟨w.heap.size, 3, none⟩ = some (.int .i64 d) ∧ x.cell? ⟨w.heap.size + 1, 0, none⟩ = some (.slice s n cp) ∧ Ext w1 x) := fun x hx => ⟨(B0.out.ext hx).cell 0, (B0.out.ext hx).cell 1, (B0.out.ext hx).cell 2, (B0.out.ext hx).cell 3, (B1.out.ext hx).cell 0, hx⟩
    clear hz p0 b0 b1 x1 y0 hr h0
    go_upto_region 5 with (fail)
    go_cut [6] (fun s5 wx => s5 = .bool V ∧ Ext w1 wx)
    case first =>
      go_region_held3 (fun x => x.cell? ⟨w.heap.size, 0, none⟩ = some (.int .i64 a) ∧ x.cell? ⟨w.heap.size, 1, none⟩ = some (.int .i64 b) ∧ x.cell? ⟨w.heap.size, 2, none⟩ = some (.int .i64 c) ∧ x.cell? ⟨w.heap.size, 3, none⟩ = some (.int .i64 d) ∧ x.cell? ⟨w.heap.size + 1, 0, none⟩ = some (.slice s n cp) ∧ Ext w1 x)
        (exact HB.out _ (by repeat (first | exact Ext.refl _ | assumption | refine Ext.alloc ?_ _ | refine Ext.drew ?_ | refine Ext.drewN ?_ _ | refine Ext.setCell ?_ (by first | exact Nat.le_refl _ | (simp; done) | (simp; omega) | omega) _ | (apply Ext.trans; rotate_left; assumption))))
        (first
          | (go_at_call 31; refine (to_geometry _ _ _ _ _).mono ?_; rintro e u1 ⟨rfl, v1⟩)
          | (go_at_call 32; refine (to_partition s n cp zs _ (R1.out.ext (by repeat (first | exact Ext.refl _ | assumption | refine Ext.alloc ?_ _ | refine Ext.drew ?_ | refine Ext.drewN ?_ _ | refine Ext.setCell ?_ (by first | exact Nat.le_refl _ | (simp; done) | (simp; omega) | omega) _ | (apply Ext.trans; rotate_left; assumption)))) hn).mono ?_; rintro e u2 ⟨g2, cp2, rfl, hg2, o2, v2⟩)
          | (go_at_call 30; refine (HS.out _ cp2 _ (by first | exact o2.rd | exact (o2.ext (by assumption)).rd)).mono ?_; rintro e u3 ⟨rfl, v3⟩))
      all_goals
        go_wp2_with fail
        go_meet
        exact ⟨rfl, (by repeat (first | exact Ext.refl _ | assumption | refine Ext.alloc ?_ _ | refine Ext.drew ?_ | refine Ext.drewN ?_ _ | refine Ext.setCell ?_ (by first | exact Nat.le_refl _ | (simp; done) | (simp; omega) | omega) _ | (apply Ext.trans; rotate_left; assumption)))⟩
    obtain ⟨rfl, x2⟩ := hcut
    obtain ⟨W2, rfl⟩ : ∃ x : World, x = wc := ⟨_, rfl⟩
    have p2 : W2.cell? ⟨w.heap.size + 1, 0, none⟩ = some (.slice s n cp) := (B1.out.ext x2).cell 0
    go_wp2_with fail
    refine (to_partition s n cp zs _ (R1.out.ext x2) hn).mono ?_
    rintro e w4 ⟨g4, cp4, rfl, hg4, o4, x4⟩
    have bX := Box.new w4 49 #[.slice (some ⟨g4, 0, none⟩) n cp4]
    have z4 := (x2.trans x4).alloc (.cells #[.slice (some ⟨g4, 0, none⟩) n cp4] 49)
    have o5 := o4.ext ((Ext.refl w4).alloc (.cells #[.slice (some ⟨g4, 0, none⟩) n cp4] 49))
    have O5 := Lib.hid o5.rd
    have q7 : ∀ x : Later (w4.alloc (.cells #[.slice (some ⟨g4, 0, none⟩) n cp4] 49)), x.w.cell? ⟨w4.heap.size, 0, none⟩ = some (.slice (some ⟨g4, 0, none⟩) n cp4) := fun x => (bX.ext x.ext).cell 0
    have b5 := B0.out.ext z4
    have gq0 := Later.cells (b5) 0
    have gq1 := Later.cells (b5) 1
    have gq2 := Later.cells (b5) 2
    have gq3 := Later.cells (b5) 3
    simp only [List.getElem?_toArray, List.getElem?_cons_zero, List.getElem?_cons_succ] at gq0 gq1 gq2 gq3
    clear p2 x2 x4 b5 hg4 o4 o5
    go_wp2_with fail
    refine wp_region_later (by kernel_rfl) (by kernel_rfl) ?_
    repeat (go_big_quiet_step ((first | (go_at_call 31; exact Later.of _ (to_geometry _ _ _ _ _)) | (go_at_call 33; exact Later.of _ (HI.out _ cp4 _ (O5.out.ext (Later.ext _)))))))
    refine wpQuiet_nil ?_
    rintro _ ⟨x, rfl⟩
    have xe := x.ext
    have w5e := xe
    have z5 := z4.trans xe
    have b6 := bX.ext xe
    have R6 := Lib.hid (O5.out.ext xe)
    have RA := Lib.hid (R1.out.ext z5)
    have Z5 := Lib.hid z5
    have B6 := Lib.hid b6
    have C1 := Lib.hid (B1.out.ext z5)
    generalize x.w = W5 at *
    clear q7 gq0 gq1 gq2 gq3 xe z4 bX w5e z5 b6
    go_upto_region 10 with (fail)
    have HC : Hid (∀ x, Ext W5 x → x.cell? ⟨w4.heap.size, 0, none⟩ = some (.slice (some ⟨g4, 0, none⟩) n cp4) ∧ x.cell? ⟨w.heap.size + 1, 0, none⟩ = some (.slice s n cp) ∧ Ext W5 x) := fun x hx => ⟨(B6.out.ext hx).cell 0, (C1.out.ext hx).cell 0, hx⟩
    go_cut [32] (fun s10 wx => s10 = .bool false ∧ Ext W5 wx)
    case first =>
      go_region_held3 (fun x => x.cell? ⟨w4.heap.size, 0, none⟩ = some (.slice (some ⟨g4, 0, none⟩) n cp4) ∧ x.cell? ⟨w.heap.size + 1, 0, none⟩ = some (.slice s n cp) ∧ Ext W5 x)
        (exact HC.out _ (by repeat (first | exact Ext.refl _ | assumption | refine Ext.alloc ?_ _ | refine Ext.drew ?_ | refine Ext.drewN ?_ _ | refine Ext.setCell ?_ (by first | exact Nat.le_refl _ | (simp; done) | (simp; omega) | omega) _ | (apply Ext.trans; rotate_left; assumption))))
        (first
          | (go_at_call 32; refine (to_partition s n cp zs _ (RA.out.ext (by repeat (first | exact Ext.refl _ | assumption | refine Ext.alloc ?_ _ | refine Ext.drew ?_ | refine Ext.drewN ?_ _ | refine Ext.setCell ?_ (by first | exact Nat.le_refl _ | (simp; done) | (simp; omega) | omega) _ | (apply Ext.trans; rotate_left; assumption)))) hn).mono ?_; rintro e u1 ⟨g7, cp7, rfl, hg7, o7, v1⟩)
          | (go_at_call 34; refine (eq_partition _ _ n cp4 cp7 zs _ (R6.out.ext (by repeat (first | exact Ext.refl _ | assumption | refine Ext.alloc ?_ _ | refine Ext.drew ?_ | refine Ext.drewN ?_ _ | refine Ext.setCell ?_ (by first | exact Nat.le_refl _ | (simp; done) | (simp; omega) | omega) _ | (apply Ext.trans; rotate_left; assumption)))) o7.rd hm).mono ?_; rintro e u2 ⟨rfl, v2⟩))
      all_goals
        go_wp2_with fail
        go_meet
        exact ⟨rfl, (by repeat (first | exact Ext.refl _ | assumption | refine Ext.alloc ?_ _ | refine Ext.drew ?_ | refine Ext.drewN ?_ _ | refine Ext.setCell ?_ (by first | exact Nat.le_refl _ | (simp; done) | (simp; omega) | omega) _ | (apply Ext.trans; rotate_left; assumption)))⟩
    obtain ⟨rfl, x7⟩ := hcut
    go_wp2
    go_ret
    exact ⟨rfl, (Y1.out.trans Z5.out).trans x7⟩

set_option maxHeartbeats 4000000 in
theorem law_FnExactTenantLines (w : World) (z0 : List Int) (l0 : z0.length = 4) (_ : ∀ z ∈ z0, (Lit.int .i64 z).wf = true) (s : Option Addr) (n cp : Nat) (zs : List Int) (h0 : RowIs .i64 w w.heap.size s n zs) (hm : n ≤ maxLen) (t : Int) (_ : (Lit.int .i64 t).wf = true) : Calls Try.prog 10 #[.agg (intCells z0), .agg #[.slice s n cp], .int .i64 t] w fun e w' => e = .returned (.bool true) ∧ Ext w w' := by
  obtain ⟨a, b, c, d, rfl⟩ := list4 l0
  show Calls _ _ #[.agg #[.int .i64 a, .int .i64 b, .int .i64 c, .int .i64 d], .agg #[.slice s n cp], .int .i64 t] _ _
  have hr := h0.rd
  have hm' := hm
  unfold maxLen at hm'
  have b0 := (Box.new w 42 #[.int .i64 a, .int .i64 b, .int .i64 c, .int .i64 d]).alloc (.cells #[.slice s n cp] 44)
  have b1 := Box.new_at (w.alloc (.cells #[.int .i64 a, .int .i64 b, .int .i64 c, .int .i64 d] 42)) 44 #[.slice s n cp] (w.heap.size + 1) (by simp)
  have p0 : ((w.alloc (.cells #[.int .i64 a, .int .i64 b, .int .i64 c, .int .i64 d] 42)).alloc (.cells #[.slice s n cp] 44)).cell? ⟨w.heap.size + 1, 0, none⟩ = some (.slice s n cp) := b1.cell 0
  have y0 : Ext w ((w.alloc (.cells #[.int .i64 a, .int .i64 b, .int .i64 c, .int .i64 d] 42)).alloc (.cells #[.slice s n cp] 44)) := ((Ext.refl w).alloc _).alloc _
  by_cases hbig : (1048576 : Int) < (n : Int)
  · have hz := fun w => sz_partition s n cp 1048576 (by omega) (by omega) hm w
    rw [if_pos hbig] at hz
    go_enter Try.func10, Try.ntmps10
    go_wp2_with fail
    refine (hz _).mono ?_
    rintro e w1 ⟨rfl, x1⟩
    go_wp2
    go_ret
    exact ⟨rfl, y0.trans x1⟩
  · have hn : n ≤ 1048576 := by omega
    have hz := fun w => sz_partition s n cp 1048576 (by omega) (by omega) hm w
    rw [if_neg hbig] at hz
    have HS := Lib.hid (fun (s' : Option Addr) (cp' : Nat) (w : World) (h : RD w s' n zs) => spec_tenLines a b c d t s' n cp' zs w h hm)
    have HI := Lib.hid (fun (s' : Option Addr) (cp' : Nat) (w : World) (h : RD w s' n zs) => impl_tenLines a b c d t s' n cp' zs w h hm)
    generalize hV : tenF a b c d zs t = V at *
    clear hV
    go_enter Try.func10, Try.ntmps10
    go_wp2_with fail
    refine (hz _).mono ?_
    rintro e w1 ⟨rfl, x1⟩
    have B0 := Lib.hid (b0.ext x1)
    have B1 := Lib.hid (b1.ext x1)
    have Y1 := Lib.hid (y0.trans x1)
    have R1 := Lib.hid (hr.ext (y0.trans x1))
    have HB : Hid (∀ x, Ext w1 x → x.cell? ⟨w.heap.size, 0, none⟩ = some (.int .i64 a) ∧ x.cell? ⟨w.heap.size, 1, none⟩ = some (.int .i64 b) ∧ x.cell? ⟨w.heap.size, 2, none⟩ = some (.int .i64 c) ∧ x.cell? ⟨w.heap.size, 3, none⟩ = some (.int .i64 d) ∧ x.cell? ⟨w.heap.size + 1, 0, none⟩ = some (.slice s n cp) ∧ Ext w1 x) := fun x hx => ⟨(B0.out.ext hx).cell 0, (B0.out.ext hx).cell 1, (B0.out.ext hx).cell 2, (B0.out.ext hx).cell 3, (B1.out.ext hx).cell 0, hx⟩
    clear hz p0 b0 b1 x1 y0 hr h0
    go_upto_region 5 with (fail)
    go_cut [8] (fun s5 wx => s5 = .int .i64 V ∧ Ext w1 wx)
    case first =>
      go_region_held3 (fun x => x.cell? ⟨w.heap.size, 0, none⟩ = some (.int .i64 a) ∧ x.cell? ⟨w.heap.size, 1, none⟩ = some (.int .i64 b) ∧ x.cell? ⟨w.heap.size, 2, none⟩ = some (.int .i64 c) ∧ x.cell? ⟨w.heap.size, 3, none⟩ = some (.int .i64 d) ∧ x.cell? ⟨w.heap.size + 1, 0, none⟩ = some (.slice s n cp) ∧ Ext w1 x)
        (exact HB.out _ (by repeat (first | exact Ext.refl _ | assumption | refine Ext.alloc ?_ _ | refine Ext.drew ?_ | refine Ext.drewN ?_ _ | refine Ext.setCell ?_ (by first | exact Nat.le_refl _ | (simp; done) | (simp; omega) | omega) _ | (apply Ext.trans; rotate_left; assumption))))
        (first
          | (go_at_call 31; refine (to_geometry _ _ _ _ _).mono ?_; rintro e u1 ⟨rfl, v1⟩)
          | (go_at_call 32; refine (to_partition s n cp zs _ (R1.out.ext (by repeat (first | exact Ext.refl _ | assumption | refine Ext.alloc ?_ _ | refine Ext.drew ?_ | refine Ext.drewN ?_ _ | refine Ext.setCell ?_ (by first | exact Nat.le_refl _ | (simp; done) | (simp; omega) | omega) _ | (apply Ext.trans; rotate_left; assumption)))) hn).mono ?_; rintro e u2 ⟨g2, cp2, rfl, hg2, o2, v2⟩)
          | (go_at_call 40; refine (HS.out _ cp2 _ (by first | exact o2.rd | exact (o2.ext (by assumption)).rd)).mono ?_; rintro e u3 ⟨rfl, v3⟩))
      all_goals
        go_wp2_with fail
        go_meet
        exact ⟨rfl, (by repeat (first | exact Ext.refl _ | assumption | refine Ext.alloc ?_ _ | refine Ext.drew ?_ | refine Ext.drewN ?_ _ | refine Ext.setCell ?_ (by first | exact Nat.le_refl _ | (simp; done) | (simp; omega) | omega) _ | (apply Ext.trans; rotate_left; assumption)))⟩
    obtain ⟨rfl, x2⟩ := hcut
    obtain ⟨W2, rfl⟩ : ∃ x : World, x = wc := ⟨_, rfl⟩
    have p2 : W2.cell? ⟨w.heap.size + 1, 0, none⟩ = some (.slice s n cp) := (B1.out.ext x2).cell 0
    go_wp2_with fail
    refine (to_partition s n cp zs _ (R1.out.ext x2) hn).mono ?_
    rintro e w4 ⟨g4, cp4, rfl, hg4, o4, x4⟩
    have bX := Box.new w4 49 #[.slice (some ⟨g4, 0, none⟩) n cp4]
    have z4 := (x2.trans x4).alloc (.cells #[.slice (some ⟨g4, 0, none⟩) n cp4] 49)
    have o5 := o4.ext ((Ext.refl w4).alloc (.cells #[.slice (some ⟨g4, 0, none⟩) n cp4] 49))
    have O5 := Lib.hid o5.rd
    have q7 : ∀ x : Later (w4.alloc (.cells #[.slice (some ⟨g4, 0, none⟩) n cp4] 49)), x.w.cell? ⟨w4.heap.size, 0, none⟩ = some (.slice (some ⟨g4, 0, none⟩) n cp4) := fun x => (bX.ext x.ext).cell 0
    have b5 := B0.out.ext z4
    have gq0 := Later.cells (b5) 0
    have gq1 := Later.cells (b5) 1
    have gq2 := Later.cells (b5) 2
    have gq3 := Later.cells (b5) 3
    simp only [List.getElem?_toArray, List.getElem?_cons_zero, List.getElem?_cons_succ] at gq0 gq1 gq2 gq3
    clear p2 x2 x4 b5 hg4 o4 o5
    go_wp2_with fail
    refine wp_region_later (by kernel_rfl) (by kernel_rfl) ?_
    repeat (go_big_quiet_step ((first | (go_at_call 31; exact Later.of _ (to_geometry _ _ _ _ _)) | (go_at_call 41; exact Later.of _ (HI.out _ cp4 _ (O5.out.ext (Later.ext _)))))))
    refine wpQuiet_nil ?_
    rintro _ ⟨x, rfl⟩
    have xe := x.ext
    have w5e := xe
    have z5 := z4.trans xe
    have b6 := bX.ext xe
    have R6 := Lib.hid (O5.out.ext xe)
    have RA := Lib.hid (R1.out.ext z5)
    have Z5 := Lib.hid z5
    have B6 := Lib.hid b6
    have C1 := Lib.hid (B1.out.ext z5)
    generalize x.w = W5 at *
    clear q7 gq0 gq1 gq2 gq3 xe z4 bX w5e z5 b6
    go_upto_region 10 with (fail)
    have HC : Hid (∀ x, Ext W5 x → x.cell? ⟨w4.heap.size, 0, none⟩ = some (.slice (some ⟨g4, 0, none⟩) n cp4) ∧ x.cell? ⟨w.heap.size + 1, 0, none⟩ = some (.slice s n cp) ∧ Ext W5 x) := fun x hx => ⟨(B6.out.ext hx).cell 0, (C1.out.ext hx).cell 0, hx⟩
    go_cut [36] (fun s10 wx => s10 = .bool false ∧ Ext W5 wx)
    case first =>
      go_region_held3 (fun x => x.cell? ⟨w4.heap.size, 0, none⟩ = some (.slice (some ⟨g4, 0, none⟩) n cp4) ∧ x.cell? ⟨w.heap.size + 1, 0, none⟩ = some (.slice s n cp) ∧ Ext W5 x)
        (exact HC.out _ (by repeat (first | exact Ext.refl _ | assumption | refine Ext.alloc ?_ _ | refine Ext.drew ?_ | refine Ext.drewN ?_ _ | refine Ext.setCell ?_ (by first | exact Nat.le_refl _ | (simp; done) | (simp; omega) | omega) _ | (apply Ext.trans; rotate_left; assumption))))
        (first
          | (go_at_call 32; refine (to_partition s n cp zs _ (RA.out.ext (by repeat (first | exact Ext.refl _ | assumption | refine Ext.alloc ?_ _ | refine Ext.drew ?_ | refine Ext.drewN ?_ _ | refine Ext.setCell ?_ (by first | exact Nat.le_refl _ | (simp; done) | (simp; omega) | omega) _ | (apply Ext.trans; rotate_left; assumption)))) hn).mono ?_; rintro e u1 ⟨g7, cp7, rfl, hg7, o7, v1⟩)
          | (go_at_call 34; refine (eq_partition _ _ n cp4 cp7 zs _ (R6.out.ext (by repeat (first | exact Ext.refl _ | assumption | refine Ext.alloc ?_ _ | refine Ext.drew ?_ | refine Ext.drewN ?_ _ | refine Ext.setCell ?_ (by first | exact Nat.le_refl _ | (simp; done) | (simp; omega) | omega) _ | (apply Ext.trans; rotate_left; assumption)))) o7.rd hm).mono ?_; rintro e u2 ⟨rfl, v2⟩))
      all_goals
        go_wp2_with fail
        go_meet
        exact ⟨rfl, (by repeat (first | exact Ext.refl _ | assumption | refine Ext.alloc ?_ _ | refine Ext.drew ?_ | refine Ext.drewN ?_ _ | refine Ext.setCell ?_ (by first | exact Nat.le_refl _ | (simp; done) | (simp; omega) | omega) _ | (apply Ext.trans; rotate_left; assumption)))⟩
    obtain ⟨rfl, x7⟩ := hcut
    go_wp2
    go_ret
    exact ⟨rfl, (Y1.out.trans Z5.out).trans x7⟩

end Go.Proofs.Ytlchejnjeeilpaa
