/- Contracts of TenantLines, TenantAddr and TenantLine of both sides. -/
import Derived.Test.YtlchejnjeeilpaaPartV
import Derived.BigRegion
namespace Go.Proofs.Ytlchejnjeeilpaa
open Go.RowKit
attribute [local go_sem ↓] Go.wp_at_zero Go.wp_at_succ

theorem Own.lt {w : World} {base : Nat} {g o : Nat} {n cap : Nat} {zs : List Int} (h : Own w base (some ⟨g, o, none⟩) n cap zs) : base ≤ g ∧ g < w.heap.size := World.ownsRow.lt h g rfl
theorem info_addr : (Try.prog.info? 60).map (·.size) = some 3 := by kernel_rfl
theorem put3c {w : World} {g : Nat} {t : TypeId} {x y z : Value} (h : Box w g t #[x, y, z]) (u v s : Value) : Box (((w.setCell ⟨g, 0, none⟩ u).setCell ⟨g, 1, none⟩ v).setCell ⟨g, 2, none⟩ s) g t #[u, v, s] := ((h.set 0 u).set 1 v).set 2 s

theorem spec_tenLines_no (a b c d t : Int) (s : Option Addr) (n cp : Nat) (zs : List Int) (w : World) (hr : RD w s n zs) (hm : n ≤ maxLen) (hP : partB a b c d zs = false) : Calls Try.prog 40 #[.agg #[.int .i64 a, .int .i64 b, .int .i64 c, .int .i64 d], .agg #[.slice s n cp], .int .i64 t] w fun e w' => e = .returned (.int .i64 (tenF a b c d zs t)) ∧ Ext w w' := by
  rw [tenF_no hP]
  have x0 : Ext w ((w.alloc (.cells #[.int .i64 a, .int .i64 b, .int .i64 c, .int .i64 d] 47)).alloc (.cells #[.slice s n cp] 49)) := ((Ext.refl w).alloc _).alloc _
  have hc := fun w hr => spec_partitionOk a b c d s n cp zs w hr hm
  rw [hP] at hc
  have r0 := hr.ext x0
  go_enter Try.func40, Try.ntmps40
  go_wp2_with fail
  refine (hc _ r0).mono ?_
  rintro e w1 ⟨rfl, x1⟩
  go_wp2
  go_ret
  exact ⟨rfl, x0.trans x1⟩

set_option maxHeartbeats 2000000 in
theorem spec_tenLines_yes (a b c d t : Int) (s : Option Addr) (n cp : Nat) (zs : List Int) (w : World) (hr : RD w s n zs) (hP : partB a b c d zs = true) : Calls Try.prog 40 #[.agg #[.int .i64 a, .int .i64 b, .int .i64 c, .int .i64 d], .agg #[.slice s n cp], .int .i64 t] w fun e w' => e = .returned (.int .i64 (tenF a b c d zs t)) ∧ Ext w w' := by
  have hn8 := part_len hP
  have hl := hr.1
  have hc := fun w hr => spec_partitionOk a b c d s n cp zs w hr (by unfold maxLen; omega)
  rw [hP] at hc
  have hT := tenF_yes (t := t) hP
  have hg := geoB_iff.1 (partB_iff.1 hP).2.1
  have hk := banksL_len zs t n
  rw [hl] at hT
  have HB := Lib.hid (fun (w : World) (h : RD w s n zs) => spec_banksOf s n cp zs t w h (by omega))
  have x0 : Ext w ((w.alloc (.cells #[.int .i64 a, .int .i64 b, .int .i64 c, .int .i64 d] 47)).alloc (.cells #[.slice s n cp] 49)) := ((Ext.refl w).alloc _).alloc _
  have b0 := (Box.new w 47 #[.int .i64 a, .int .i64 b, .int .i64 c, .int .i64 d]).alloc (.cells #[.slice s n cp] 49)
  have b1 := Box.new_at (w.alloc (.cells #[.int .i64 a, .int .i64 b, .int .i64 c, .int .i64 d] 47)) 49 #[.slice s n cp] (w.heap.size + 1) (by simp)
  have r0 := hr.ext x0
  rw [hT]
  generalize hL : banksL zs t n = L at *
  generalize hM : L.length = m at *
  have hpr := prod_range (k := (m : Int)) (by omega) (by omega) hg.2.2.1.1 hg.2.2.1.2 hg.2.2.2.1 hg.2.2.2.2
  have HM := Lib.hid hM
  have HC := Lib.hid hc
  clear hT hL hM hc hP hg hn8 hl
  obtain ⟨e1, e2, e3, e4⟩ := hpr
  have E1 : IntKind.i64.wrap ((m : Int) * c) = (m : Int) * c := by rw [IntKind.wrap_i64]; omega
  have E2 : IntKind.i64.wrap ((m : Int) * c * d) = (m : Int) * c * d := by rw [IntKind.wrap_i64]; omega
  go_enter Try.func40, Try.ntmps40
  go_wp2_with fail
  refine (HC.out _ r0).mono ?_
  rintro e w1 ⟨rfl, x1⟩
  have y1 := x0.trans x1
  go_upto_region 3 with (fail)
  have HQ : Hid (∀ x, Ext w1 x → x.cell? ⟨w.heap.size, 2, none⟩ = some (.int .i64 c) ∧ x.cell? ⟨w.heap.size, 3, none⟩ = some (.int .i64 d) ∧ x.cell? ⟨w.heap.size + 1, 0, none⟩ = some (.slice s n cp) ∧ Ext w1 x) := fun x hx => ⟨((b0.ext x1).ext hx).cell 2, ((b0.ext x1).ext hx).cell 3, ((b1.ext x1).ext hx).cell 0, hx⟩
  have R1 := Lib.hid (r0.ext x1)
  have Y1 := Lib.hid y1
  clear y1 x0 x1 b0 b1 r0 hr
  go_cut [6] (fun s6 wx => s6 = .int .i64 ((m : Int) * c * d) ∧ Ext w1 wx)
  case first =>
    go_region_held3 (fun x => x.cell? ⟨w.heap.size, 2, none⟩ = some (.int .i64 c) ∧ x.cell? ⟨w.heap.size, 3, none⟩ = some (.int .i64 d) ∧ x.cell? ⟨w.heap.size + 1, 0, none⟩ = some (.slice s n cp) ∧ Ext w1 x)
      (exact HQ.out _ (by repeat (first | exact Ext.refl _ | assumption | refine Ext.alloc ?_ _ | refine Ext.drew ?_ | refine Ext.drewN ?_ _ | refine Ext.setCell ?_ (by first | exact Nat.le_refl _ | (simp; done) | (simp; omega) | omega) _ | (apply Ext.trans; rotate_left; assumption))))
      (first | (go_at_call 35; refine (HB.out _ (R1.out.ext (by repeat (first | exact Ext.refl _ | assumption | refine Ext.alloc ?_ _ | refine Ext.drew ?_ | refine Ext.drewN ?_ _ | refine Ext.setCell ?_ (by first | exact Nat.le_refl _ | (simp; done) | (simp; omega) | omega) _ | (apply Ext.trans; rotate_left; assumption))))).mono ?_; rintro e w3 ⟨a3, c3, rfl, o3, x3⟩; rw [HM.out]))
    all_goals
      go_wp2_with fail
      go_meet
      exact ⟨rfl, (by repeat (first | exact Ext.refl _ | assumption | refine Ext.alloc ?_ _ | refine Ext.drew ?_ | refine Ext.drewN ?_ _ | refine Ext.setCell ?_ (by first | exact Nat.le_refl _ | (simp; done) | (simp; omega) | omega) _ | (apply Ext.trans; rotate_left; assumption)))⟩
  obtain ⟨rfl, x4⟩ := hcut
  go_wp2
  go_ret
  exact ⟨rfl, Y1.out.trans x4⟩

theorem spec_tenLines (a b c d t : Int) (s : Option Addr) (n cp : Nat) (zs : List Int) (w : World) (hr : RD w s n zs) (hm : n ≤ maxLen) : Calls Try.prog 40 #[.agg #[.int .i64 a, .int .i64 b, .int .i64 c, .int .i64 d], .agg #[.slice s n cp], .int .i64 t] w fun e w' => e = .returned (.int .i64 (tenF a b c d zs t)) ∧ Ext w w' := by
  cases hP : partB a b c d zs with
  | true => exact spec_tenLines_yes a b c d t s n cp zs w hr hP
  | false => exact spec_tenLines_no a b c d t s n cp zs w hr hm hP

theorem impl_tenLines_no (a b c d t : Int) (s : Option Addr) (n cp : Nat) (zs : List Int) (w : World) (hr : RD w s n zs) (hm : n ≤ maxLen) (hP : partB a b c d zs = false) : Calls Try.prog 41 #[.agg #[.int .i64 a, .int .i64 b, .int .i64 c, .int .i64 d], .agg #[.slice s n cp], .int .i64 t] w fun e w' => e = .returned (.int .i64 (tenF a b c d zs t)) ∧ Ext w w' := by
  rw [tenF_no hP]
  have x0 : Ext w ((w.alloc (.cells #[.int .i64 a, .int .i64 b, .int .i64 c, .int .i64 d] 47)).alloc (.cells #[.slice s n cp] 49)) := ((Ext.refl w).alloc _).alloc _
  have hc := fun w hr => impl_partitionOk a b c d s n cp zs w hr hm
  rw [hP] at hc
  have r0 := hr.ext x0
  go_enter Try.func41, Try.ntmps41
  go_wp2_with fail
  refine (hc _ r0).mono ?_
  rintro e w1 ⟨rfl, x1⟩
  go_wp2
  go_ret
  exact ⟨rfl, x0.trans x1⟩

set_option maxHeartbeats 2000000 in
theorem impl_tenLines_yes (a b c d t : Int) (s : Option Addr) (n cp : Nat) (zs : List Int) (w : World) (hr : RD w s n zs) (hP : partB a b c d zs = true) : Calls Try.prog 41 #[.agg #[.int .i64 a, .int .i64 b, .int .i64 c, .int .i64 d], .agg #[.slice s n cp], .int .i64 t] w fun e w' => e = .returned (.int .i64 (tenF a b c d zs t)) ∧ Ext w w' := by
  have hn8 := part_len hP
  have hl := hr.1
  have hc := fun w hr => impl_partitionOk a b c d s n cp zs w hr (by unfold maxLen; omega)
  rw [hP] at hc
  have hT := tenF_yes (t := t) hP
  have hg := geoB_iff.1 (partB_iff.1 hP).2.1
  have hk := banksL_len zs t n
  rw [hl] at hT
  have HB := Lib.hid (fun (w : World) (h : RD w s n zs) => impl_banksOf s n cp zs t w h (by omega))
  have x0 : Ext w ((w.alloc (.cells #[.int .i64 a, .int .i64 b, .int .i64 c, .int .i64 d] 47)).alloc (.cells #[.slice s n cp] 49)) := ((Ext.refl w).alloc _).alloc _
  have b0 := (Box.new w 47 #[.int .i64 a, .int .i64 b, .int .i64 c, .int .i64 d]).alloc (.cells #[.slice s n cp] 49)
  have b1 := Box.new_at (w.alloc (.cells #[.int .i64 a, .int .i64 b, .int .i64 c, .int .i64 d] 47)) 49 #[.slice s n cp] (w.heap.size + 1) (by simp)
  have r0 := hr.ext x0
  rw [hT]
  generalize hL : banksL zs t n = L at *
  generalize hM : L.length = m at *
  have hpr := prod_range (k := (m : Int)) (by omega) (by omega) hg.2.2.1.1 hg.2.2.1.2 hg.2.2.2.1 hg.2.2.2.2
  have HM := Lib.hid hM
  have HC := Lib.hid hc
  clear hT hL hM hc hP hg hn8 hl
  obtain ⟨e1, e2, e3, e4⟩ := hpr
  have E1 : IntKind.i64.wrap ((m : Int) * c) = (m : Int) * c := by rw [IntKind.wrap_i64]; omega
  have E2 : IntKind.i64.wrap ((m : Int) * c * d) = (m : Int) * c * d := by rw [IntKind.wrap_i64]; omega
  go_enter Try.func41, Try.ntmps41
  go_wp2_with fail
  refine (HC.out _ r0).mono ?_
  rintro e w1 ⟨rfl, x1⟩
  have y1 := x0.trans x1
  go_upto_region 3 with (fail)
  have HQ : Hid (∀ x, Ext w1 x → x.cell? ⟨w.heap.size, 2, none⟩ = some (.int .i64 c) ∧ x.cell? ⟨w.heap.size, 3, none⟩ = some (.int .i64 d) ∧ x.cell? ⟨w.heap.size + 1, 0, none⟩ = some (.slice s n cp) ∧ Ext w1 x) := fun x hx => ⟨((b0.ext x1).ext hx).cell 2, ((b0.ext x1).ext hx).cell 3, ((b1.ext x1).ext hx).cell 0, hx⟩
  have R1 := Lib.hid (r0.ext x1)
  have Y1 := Lib.hid y1
  clear y1 x0 x1 b0 b1 r0 hr
  go_cut [6] (fun s6 wx => s6 = .int .i64 ((m : Int) * c * d) ∧ Ext w1 wx)
  case first =>
    go_region_held3 (fun x => x.cell? ⟨w.heap.size, 2, none⟩ = some (.int .i64 c) ∧ x.cell? ⟨w.heap.size, 3, none⟩ = some (.int .i64 d) ∧ x.cell? ⟨w.heap.size + 1, 0, none⟩ = some (.slice s n cp) ∧ Ext w1 x)
      (exact HQ.out _ (by repeat (first | exact Ext.refl _ | assumption | refine Ext.alloc ?_ _ | refine Ext.drew ?_ | refine Ext.drewN ?_ _ | refine Ext.setCell ?_ (by first | exact Nat.le_refl _ | (simp; done) | (simp; omega) | omega) _ | (apply Ext.trans; rotate_left; assumption))))
      (first | (go_at_call 36; refine (HB.out _ (R1.out.ext (by repeat (first | exact Ext.refl _ | assumption | refine Ext.alloc ?_ _ | refine Ext.drew ?_ | refine Ext.drewN ?_ _ | refine Ext.setCell ?_ (by first | exact Nat.le_refl _ | (simp; done) | (simp; omega) | omega) _ | (apply Ext.trans; rotate_left; assumption))))).mono ?_; rintro e w3 ⟨a3, c3, rfl, o3, x3⟩; rw [HM.out]))
    all_goals
      go_wp2_with fail
      go_meet
      exact ⟨rfl, (by repeat (first | exact Ext.refl _ | assumption | refine Ext.alloc ?_ _ | refine Ext.drew ?_ | refine Ext.drewN ?_ _ | refine Ext.setCell ?_ (by first | exact Nat.le_refl _ | (simp; done) | (simp; omega) | omega) _ | (apply Ext.trans; rotate_left; assumption)))⟩
  obtain ⟨rfl, x4⟩ := hcut
  go_wp2
  go_ret
  exact ⟨rfl, Y1.out.trans x4⟩

theorem impl_tenLines (a b c d t : Int) (s : Option Addr) (n cp : Nat) (zs : List Int) (w : World) (hr : RD w s n zs) (hm : n ≤ maxLen) : Calls Try.prog 41 #[.agg #[.int .i64 a, .int .i64 b, .int .i64 c, .int .i64 d], .agg #[.slice s n cp], .int .i64 t] w fun e w' => e = .returned (.int .i64 (tenF a b c d zs t)) ∧ Ext w w' := by
  cases hP : partB a b c d zs with
  | true => exact impl_tenLines_yes a b c d t s n cp zs w hr hP
  | false => exact impl_tenLines_no a b c d t s n cp zs w hr hm hP

end Go.Proofs.Ytlchejnjeeilpaa
