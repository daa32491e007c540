/- Contracts of TenantAddr of both sides. -/
import Derived.Test.YtlchejnjeeilpaaPartT
namespace Go.Proofs.Ytlchejnjeeilpaa
open Go.RowKit
attribute [local go_sem ↓] Go.wp_at_zero Go.wp_at_succ

def tenB (a b c d : Int) (zs : List Int) (t l : Int) : Bool := btw l 0 (tenF a b c d zs t - 1)
/-- bank, row and column of line l of tenant t -/
def tenX (zs : List Int) (t l : Int) : Int := (banksL zs t zs.length).getD (l % (banksL zs t zs.length).length).toNat 0
def tenY (d : Int) (zs : List Int) (t l : Int) : Int := l / (banksL zs t zs.length).length / d
def tenZ (d : Int) (zs : List Int) (t l : Int) : Int := l / (banksL zs t zs.length).length % d

theorem spec_tenAddr_no (a b c d t l : Int) (s : Option Addr) (n cp : Nat) (zs : List Int) (w : World) (hr : RD w s n zs) (hm : n ≤ maxLen) (hB : tenB a b c d zs t l = false) : Calls Try.prog 42 #[.agg #[.int .i64 a, .int .i64 b, .int .i64 c, .int .i64 d], .agg #[.slice s n cp], .int .i64 t, .int .i64 l] w fun e w' => e = .returned (.tuple #[.agg #[.int .i64 0, .int .i64 0, .int .i64 0], .bool false]) ∧ Ext w w' := by
  have x0 : Ext w (((w.alloc (.cells #[.int .i64 a, .int .i64 b, .int .i64 c, .int .i64 d] 47)).alloc (.cells #[.slice s n cp] 49)).alloc (.cells #[.int .i64 0, .int .i64 0, .int .i64 0] 60)) := (((Ext.refl w).alloc _).alloc _).alloc _
  have b0 := ((Box.new w 47 #[.int .i64 a, .int .i64 b, .int .i64 c, .int .i64 d]).alloc (.cells #[.slice s n cp] 49)).alloc (.cells #[.int .i64 0, .int .i64 0, .int .i64 0] 60)
  have b1 := (Box.new_at (w.alloc (.cells #[.int .i64 a, .int .i64 b, .int .i64 c, .int .i64 d] 47)) 49 #[.slice s n cp] (w.heap.size + 1) (by simp)).alloc (.cells #[.int .i64 0, .int .i64 0, .int .i64 0] 60)
  have b2 := Box.new_at ((w.alloc (.cells #[.int .i64 a, .int .i64 b, .int .i64 c, .int .i64 d] 47)).alloc (.cells #[.slice s n cp] 49)) 60 #[.int .i64 0, .int .i64 0, .int .i64 0] (w.heap.size + 1 + 1) (by simp)
  have r0 := hr.ext x0
  have HT := Lib.hid (fun w h => spec_tenLines a b c d t s n cp zs w h hm)
  have htr := ten_range (a := a) (b := b) (c := c) (d := d) (zs := zs) t
  unfold tenB at hB
  generalize tenF a b c d zs t = T at *
  go_enter Try.func42, Try.ntmps42
  go_wp2_with fail
  refine (HT.out _ r0).mono ?_
  rintro e w1 ⟨rfl, x1⟩
  have b3 := b2.ext x1
  have f3 := b3.free
  obtain ⟨q0, q1, q2⟩ := b3.cell3
  have y1 := x0.trans x1
  have HB3 := Lib.hid b3
  clear x0 b0 b1 b2 r0 x1 b3
  go_wp2_with (go_at_call 52; refine (spec_in _ _ _ _).mono ?_; rintro e w' ⟨rfl, rfl⟩)
  exact bodyPost_ret (v := .tuple #[.agg #[.int .i64 0, .int .i64 0, .int .i64 0], .bool false]) (by simp [results, Try.results42, go_sem, q0, q1, q2]) rfl ⟨rfl, by repeat (first | assumption | (refine Ext.setCell ?_ (by simp; omega) _))⟩

set_option maxHeartbeats 4000000 in
theorem spec_tenAddr_yes (a b c d t l : Int) (s : Option Addr) (n cp : Nat) (zs : List Int) (w : World) (hr : RD w s n zs) (hm : n ≤ maxLen) (hB : tenB a b c d zs t l = true) : Calls Try.prog 42 #[.agg #[.int .i64 a, .int .i64 b, .int .i64 c, .int .i64 d], .agg #[.slice s n cp], .int .i64 t, .int .i64 l] w fun e w' => e = .returned (.tuple #[.agg #[.int .i64 (tenX zs t l), .int .i64 (tenY d zs t l), .int .i64 (tenZ d zs t l)], .bool true]) ∧ Ext w w' := by
  have HT := Lib.hid (fun w h => spec_tenLines a b c d t s n cp zs w h hm)
  have htr := ten_range (a := a) (b := b) (c := c) (d := d) (zs := zs) t
  unfold tenB at hB
  have hb2 := btw_iff.1 hB
  obtain ⟨hP, hk0⟩ := ten_pos (a := a) (b := b) (c := c) (d := d) (zs := zs) (t := t) (by omega)
  have hn8 := part_len hP
  have hl := hr.1
  have hd := (geoB_iff.1 (partB_iff.1 hP).2.1).2.2.2
  have hlen := banksL_len zs t n
  have HL := Lib.hid (fun (w : World) (h : RD w s n zs) => spec_banksOf s n cp zs t w h (by omega))
  rw [show tenX zs t l = (banksL zs t n).getD (l % ((banksL zs t n).length : Int)).toNat 0 by rw [tenX, hl], show tenY d zs t l = l / ((banksL zs t n).length : Int) / d by rw [tenY, hl], show tenZ d zs t l = l / ((banksL zs t n).length : Int) % d by rw [tenZ, hl]]
  rw [hl] at hk0 hn8
  generalize hLL : banksL zs t n = L at *
  generalize hM : L.length = m at *
  generalize tenF a b c d zs t = T at *
  have HM := Lib.hid hM
  obtain ⟨l0, l1⟩ := hb2
  have T1 : l.tmod (m : Int) = l % (m : Int) := Int.tmod_eq_emod_of_nonneg l0
  have T2 : l.tdiv (m : Int) = l / (m : Int) := Int.tdiv_eq_ediv_of_nonneg l0
  have j0 : 0 ≤ l % (m : Int) := Int.emod_nonneg _ (by omega)
  have j1 : l % (m : Int) < m := Int.emod_lt_of_pos _ (by omega)
  have q0 : 0 ≤ l / (m : Int) := Int.ediv_nonneg l0 (by omega)
  have q1 : l / (m : Int) ≤ l := Int.ediv_le_self _ l0
  obtain ⟨j, hj⟩ := Int.eq_ofNat_of_zero_le j0
  rw [hj] at T1 j1 ⊢
  rw [Int.toNat_natCast]
  obtain ⟨X, hX⟩ : ∃ X, L.getD j 0 = X := ⟨_, rfl⟩
  rw [hX]
  generalize l / (m : Int) = q at *
  have T3 : q.tmod d = q % d := Int.tmod_eq_emod_of_nonneg q0
  have T4 : q.tdiv d = q / d := Int.tdiv_eq_ediv_of_nonneg q0
  have y0' : 0 ≤ q % d := Int.emod_nonneg _ (by omega)
  have y1' : q % d < d := Int.emod_lt_of_pos _ (by omega)
  have z0' : 0 ≤ q / d := Int.ediv_nonneg q0 (by omega)
  have z1' : q / d ≤ q := Int.ediv_le_self _ q0
  have W1 : IntKind.i64.wrap (j : Int) = (j : Int) := by rw [IntKind.wrap_i64]; omega
  have W2 : IntKind.i64.wrap q = q := by rw [IntKind.wrap_i64]; omega
  generalize hy : q % d = y at *
  generalize hz : q / d = z at *
  have W3 : IntKind.i64.wrap y = y := by rw [IntKind.wrap_i64]; omega
  have W4 : IntKind.i64.wrap z = z := by rw [IntKind.wrap_i64]; omega
  have hm0 : (m : Int) ≠ 0 := by omega
  have hmz : ((m : Int) == 0) = false := by rw [beq_eq_false_iff_ne]; exact hm0
  have hdz : (d == 0) = false := by rw [beq_eq_false_iff_ne]; omega
  have A1 := Lib.hid (And.intro T1 (And.intro T2 (And.intro T3 T4)))
  have A2 := Lib.hid (And.intro W1 (And.intro W2 (And.intro W3 W4)))
  have A3 := Lib.hid hj
  have A4 := Lib.hid (And.intro hy hz)
  clear T1 T2 T3 T4 W1 W2 W3 W4 hj hy hz hM hLL hl
  have x0 : Ext w (((w.alloc (.cells #[.int .i64 a, .int .i64 b, .int .i64 c, .int .i64 d] 47)).alloc (.cells #[.slice s n cp] 49)).alloc (.cells #[.int .i64 0, .int .i64 0, .int .i64 0] 60)) := (((Ext.refl w).alloc _).alloc _).alloc _
  have b0 := ((Box.new w 47 #[.int .i64 a, .int .i64 b, .int .i64 c, .int .i64 d]).alloc (.cells #[.slice s n cp] 49)).alloc (.cells #[.int .i64 0, .int .i64 0, .int .i64 0] 60)
  have b1 := (Box.new_at (w.alloc (.cells #[.int .i64 a, .int .i64 b, .int .i64 c, .int .i64 d] 47)) 49 #[.slice s n cp] (w.heap.size + 1) (by simp)).alloc (.cells #[.int .i64 0, .int .i64 0, .int .i64 0] 60)
  have b2 := Box.new_at ((w.alloc (.cells #[.int .i64 a, .int .i64 b, .int .i64 c, .int .i64 d] 47)).alloc (.cells #[.slice s n cp] 49)) 60 #[.int .i64 0, .int .i64 0, .int .i64 0] (w.heap.size + 1 + 1) (by simp)
  have r0 := hr.ext x0
  go_enter Try.func42, Try.ntmps42
  go_wp2_with fail
  refine (HT.out _ r0).mono ?_
  rintro e w1 ⟨rfl, x1⟩
  have B0 := Lib.hid (b0.ext x1)
  have B2 := Lib.hid (b2.ext x1)
  have p1 : w1.cell? ⟨w.heap.size + 1, 0, none⟩ = some (.slice s n cp) := (b1.ext x1).cell 0
  have y1 := x0.trans x1
  have R1 := r0.ext x1
  clear x0 b0 b1 b2 r0 x1
  go_wp2_with (first | (go_at_call 52; refine (spec_in _ _ _ _).mono ?_; rintro e w' ⟨rfl, rfl⟩))
  refine (HL.out _ R1).mono ?_
  rintro e w3 ⟨a3, c3, rfl, o3, x3⟩
  rw [HM.out] at o3 ⊢
  obtain ⟨g, rfl, hg0, hg1⟩ := o3.form hk0
  have hjm : j < m := by omega
  have p3 := o3.at hjm
  rw [hX] at p3
  have y3 := y1.trans x3
  have hs := B2.out.lt
  have b3 := B0.out.ext x3
  have d3 : w3.cell? ⟨w.heap.size, 3, none⟩ = some (.int .i64 d) := b3.cell 3
  have c2 := B2.out.ext x3
  have f2 := c2.free
  obtain ⟨e0, e1, e2⟩ := c2.cell3
  have hne : g ≠ w.heap.size + 1 + 1 := by omega
  obtain ⟨T1, T2, T3, T4⟩ := A1.out
  obtain ⟨W1, W2, W3, W4⟩ := A2.out
  have hj := A3.out
  obtain ⟨hy, hz⟩ := A4.out
  clear p1 y1 R1 x3 o3 b3
  go_wp2
  go_region
  go_wp2
  exact bodyPost_ret (v := .tuple #[.agg #[.int .i64 X, .int .i64 z, .int .i64 y], .bool true]) (by simp [results, Try.results42, go_sem, c2.put30, c2.put31, c2.put32]) rfl ⟨rfl, (by repeat (first | exact Ext.refl _ | assumption | refine Ext.alloc ?_ _ | refine Ext.drew ?_ | refine Ext.drewN ?_ _ | refine Ext.setCell ?_ (by first | exact Nat.le_refl _ | (simp; done) | (simp; omega) | omega) _ | (apply Ext.trans; rotate_left; assumption)))⟩

set_option maxHeartbeats 4000000 in
theorem impl_tenAddr_yes (a b c d t l : Int) (s : Option Addr) (n cp : Nat) (zs : List Int) (w : World) (hr : RD w s n zs) (hm : n ≤ maxLen) (hB : tenB a b c d zs t l = true) : Calls Try.prog 43 #[.agg #[.int .i64 a, .int .i64 b, .int .i64 c, .int .i64 d], .agg #[.slice s n cp], .int .i64 t, .int .i64 l] w fun e w' => e = .returned (.tuple #[.agg #[.int .i64 (tenX zs t l), .int .i64 (tenY d zs t l), .int .i64 (tenZ d zs t l)], .bool true]) ∧ Ext w w' := by
  have HT := Lib.hid (fun w h => impl_tenLines a b c d t s n cp zs w h hm)
  have htr := ten_range (a := a) (b := b) (c := c) (d := d) (zs := zs) t
  unfold tenB at hB
  have hb2 := btw_iff.1 hB
  obtain ⟨hP, hk0⟩ := ten_pos (a := a) (b := b) (c := c) (d := d) (zs := zs) (t := t) (by omega)
  have hn8 := part_len hP
  have hl := hr.1
  have hd := (geoB_iff.1 (partB_iff.1 hP).2.1).2.2.2
  have hlen := banksL_len zs t n
  have HL := Lib.hid (fun (w : World) (h : RD w s n zs) => impl_banksOf s n cp zs t w h (by omega))
  rw [show tenX zs t l = (banksL zs t n).getD (l % ((banksL zs t n).length : Int)).toNat 0 by rw [tenX, hl], show tenY d zs t l = l / ((banksL zs t n).length : Int) / d by rw [tenY, hl], show tenZ d zs t l = l / ((banksL zs t n).length : Int) % d by rw [tenZ, hl]]
  rw [hl] at hk0 hn8
  generalize hLL : banksL zs t n = L at *
  generalize hM : L.length = m at *
  generalize tenF a b c d zs t = T at *
  have HM := Lib.hid hM
  obtain ⟨l0, l1⟩ := hb2
  have T1 : l.tmod (m : Int) = l % (m : Int) := Int.tmod_eq_emod_of_nonneg l0
  have T2 : l.tdiv (m : Int) = l / (m : Int) := Int.tdiv_eq_ediv_of_nonneg l0
  have j0 : 0 ≤ l % (m : Int) := Int.emod_nonneg _ (by omega)
  have j1 : l % (m : Int) < m := Int.emod_lt_of_pos _ (by omega)
  have q0 : 0 ≤ l / (m : Int) := Int.ediv_nonneg l0 (by omega)
  have q1 : l / (m : Int) ≤ l := Int.ediv_le_self _ l0
  obtain ⟨j, hj⟩ := Int.eq_ofNat_of_zero_le j0
  rw [hj] at T1 j1 ⊢
  rw [Int.toNat_natCast]
  obtain ⟨X, hX⟩ : ∃ X, L.getD j 0 = X := ⟨_, rfl⟩
  rw [hX]
  generalize l / (m : Int) = q at *
  have T3 : q.tmod d = q % d := Int.tmod_eq_emod_of_nonneg q0
  have T4 : q.tdiv d = q / d := Int.tdiv_eq_ediv_of_nonneg q0
  have y0' : 0 ≤ q % d := Int.emod_nonneg _ (by omega)
  have y1' : q % d < d := Int.emod_lt_of_pos _ (by omega)
  have z0' : 0 ≤ q / d := Int.ediv_nonneg q0 (by omega)
  have z1' : q / d ≤ q := Int.ediv_le_self _ q0
  have W1 : IntKind.i64.wrap (j : Int) = (j : Int) := by rw [IntKind.wrap_i64]; omega
  have W2 : IntKind.i64.wrap q = q := by rw [IntKind.wrap_i64]; omega
  generalize hy : q % d = y at *
  generalize hz : q / d = z at *
  have W3 : IntKind.i64.wrap y = y := by rw [IntKind.wrap_i64]; omega
  have W4 : IntKind.i64.wrap z = z := by rw [IntKind.wrap_i64]; omega
  have hm0 : (m : Int) ≠ 0 := by omega
  have hmz : ((m : Int) == 0) = false := by rw [beq_eq_false_iff_ne]; exact hm0
  have hdz : (d == 0) = false := by rw [beq_eq_false_iff_ne]; omega
  have A1 := Lib.hid (And.intro T1 (And.intro T2 (And.intro T3 T4)))
  have A2 := Lib.hid (And.intro W1 (And.intro W2 (And.intro W3 W4)))
  have A3 := Lib.hid hj
  have A4 := Lib.hid (And.intro hy hz)
  clear T1 T2 T3 T4 W1 W2 W3 W4 hj hy hz hM hLL hl
  have x0 : Ext w (((w.alloc (.cells #[.int .i64 a, .int .i64 b, .int .i64 c, .int .i64 d] 47)).alloc (.cells #[.slice s n cp] 49)).alloc (.cells #[.int .i64 0, .int .i64 0, .int .i64 0] 60)) := (((Ext.refl w).alloc _).alloc _).alloc _
  have b0 := ((Box.new w 47 #[.int .i64 a, .int .i64 b, .int .i64 c, .int .i64 d]).alloc (.cells #[.slice s n cp] 49)).alloc (.cells #[.int .i64 0, .int .i64 0, .int .i64 0] 60)
  have b1 := (Box.new_at (w.alloc (.cells #[.int .i64 a, .int .i64 b, .int .i64 c, .int .i64 d] 47)) 49 #[.slice s n cp] (w.heap.size + 1) (by simp)).alloc (.cells #[.int .i64 0, .int .i64 0, .int .i64 0] 60)
  have b2 := Box.new_at ((w.alloc (.cells #[.int .i64 a, .int .i64 b, .int .i64 c, .int .i64 d] 47)).alloc (.cells #[.slice s n cp] 49)) 60 #[.int .i64 0, .int .i64 0, .int .i64 0] (w.heap.size + 1 + 1) (by simp)
  have r0 := hr.ext x0
  have RP := Lib.hid (fun w h => impl_partitionOk a b c d s n cp zs w h hm)
  rw [hP] at RP
  go_enter Try.func43, Try.ntmps43
  go_wp2_with fail
  refine (RP.out _ r0).mono ?_
  rintro e u1 ⟨rfl, v1⟩
  have b0 := b0.ext v1
  have b1 := b1.ext v1
  have b2 := b2.ext v1
  have r0 := r0.ext v1
  have x0 := x0.trans v1
  have p1 := b1.cell 0
  obtain ⟨g0, g1, g2, g3⟩ := b0.cell4
  go_wp2_with fail
  refine (HT.out _ r0).mono ?_
  rintro e w1 ⟨rfl, x1⟩
  clear p1 g0 g1 g2 g3 v1
  have B0 := Lib.hid (b0.ext x1)
  have B2 := Lib.hid (b2.ext x1)
  have p1 : w1.cell? ⟨w.heap.size + 1, 0, none⟩ = some (.slice s n cp) := (b1.ext x1).cell 0
  have y1 := x0.trans x1
  have R1 := r0.ext x1
  clear x0 b0 b1 b2 r0 x1
  go_wp2_with (first | (go_at_call 53; refine (impl_between _ _ _ _).mono ?_; rintro e w' ⟨rfl, rfl⟩))
  refine (HL.out _ R1).mono ?_
  rintro e w3 ⟨a3, c3, rfl, o3, x3⟩
  rw [HM.out] at o3 ⊢
  obtain ⟨g, rfl, hg0, hg1⟩ := o3.form hk0
  have hjm : j < m := by omega
  have p3 := o3.at hjm
  rw [hX] at p3
  have y3 := y1.trans x3
  have hs := B2.out.lt
  have b3 := B0.out.ext x3
  have d3 : w3.cell? ⟨w.heap.size, 3, none⟩ = some (.int .i64 d) := b3.cell 3
  have c2 := B2.out.ext x3
  have f2 := c2.free
  obtain ⟨e0, e1, e2⟩ := c2.cell3
  have hne : g ≠ w.heap.size + 1 + 1 := by omega
  obtain ⟨T1, T2, T3, T4⟩ := A1.out
  obtain ⟨W1, W2, W3, W4⟩ := A2.out
  have hj := A3.out
  obtain ⟨hy, hz⟩ := A4.out
  clear p1 y1 R1 x3 o3 b3
  go_wp2
  go_region
  go_wp2
  exact bodyPost_ret (v := .tuple #[.agg #[.int .i64 X, .int .i64 z, .int .i64 y], .bool true]) (by simp [results, Try.results43, go_sem, c2.put30, c2.put31, c2.put32]) rfl ⟨rfl, (by repeat (first | exact Ext.refl _ | assumption | refine Ext.alloc ?_ _ | refine Ext.drew ?_ | refine Ext.drewN ?_ _ | refine Ext.setCell ?_ (by first | exact Nat.le_refl _ | (simp; done) | (simp; omega) | omega) _ | (apply Ext.trans; rotate_left; assumption)))⟩

theorem impl_tenAddr_no (a b c d t l : Int) (s : Option Addr) (n cp : Nat) (zs : List Int) (w : World) (hr : RD w s n zs) (hm : n ≤ maxLen) (hB : tenB a b c d zs t l = false) : Calls Try.prog 43 #[.agg #[.int .i64 a, .int .i64 b, .int .i64 c, .int .i64 d], .agg #[.slice s n cp], .int .i64 t, .int .i64 l] w fun e w' => e = .returned (.tuple #[.agg #[.int .i64 0, .int .i64 0, .int .i64 0], .bool false]) ∧ Ext w w' := by
  have x0 : Ext w (((w.alloc (.cells #[.int .i64 a, .int .i64 b, .int .i64 c, .int .i64 d] 47)).alloc (.cells #[.slice s n cp] 49)).alloc (.cells #[.int .i64 0, .int .i64 0, .int .i64 0] 60)) := (((Ext.refl w).alloc _).alloc _).alloc _
  have b0 := ((Box.new w 47 #[.int .i64 a, .int .i64 b, .int .i64 c, .int .i64 d]).alloc (.cells #[.slice s n cp] 49)).alloc (.cells #[.int .i64 0, .int .i64 0, .int .i64 0] 60)
  have b1 := (Box.new_at (w.alloc (.cells #[.int .i64 a, .int .i64 b, .int .i64 c, .int .i64 d] 47)) 49 #[.slice s n cp] (w.heap.size + 1) (by simp)).alloc (.cells #[.int .i64 0, .int .i64 0, .int .i64 0] 60)
  have b2 := Box.new_at ((w.alloc (.cells #[.int .i64 a, .int .i64 b, .int .i64 c, .int .i64 d] 47)).alloc (.cells #[.slice s n cp] 49)) 60 #[.int .i64 0, .int .i64 0, .int .i64 0] (w.heap.size + 1 + 1) (by simp)
  have r0 := hr.ext x0
  have RP := Lib.hid (fun w h => impl_partitionOk a b c d s n cp zs w h hm)
  have HT := Lib.hid (fun w h => impl_tenLines a b c d t s n cp zs w h hm)
  have htr := ten_range (a := a) (b := b) (c := c) (d := d) (zs := zs) t
  unfold tenB at hB
  cases hP : partB a b c d zs with
  | false =>
    rw [hP] at RP
    clear HT hB htr
    go_enter Try.func43, Try.ntmps43
    go_wp2_with fail
    refine (RP.out _ r0).mono ?_
    rintro e u1 ⟨rfl, v1⟩
    have b3 := b2.ext v1
    have f3 := b3.free
    obtain ⟨q0, q1, q2⟩ := b3.cell3
    have x3 := x0.trans v1
    clear b3 b0 b1 b2 r0 x0 v1
    go_wp2
    exact bodyPost_ret (v := .tuple #[.agg #[.int .i64 0, .int .i64 0, .int .i64 0], .bool false]) (by simp [results, Try.results43, go_sem, q0, q1, q2]) rfl ⟨rfl, (by repeat (first | exact Ext.refl _ | assumption | refine Ext.alloc ?_ _ | refine Ext.drew ?_ | refine Ext.drewN ?_ _ | refine Ext.setCell ?_ (by first | exact Nat.le_refl _ | (simp; done) | (simp; omega) | omega) _ | (apply Ext.trans; rotate_left; assumption)))⟩
  | true =>
    rw [hP] at RP
    generalize tenF a b c d zs t = T at *
    go_enter Try.func43, Try.ntmps43
    go_wp2_with fail
    refine (RP.out _ r0).mono ?_
    rintro e u1 ⟨rfl, v1⟩
    have b0 := b0.ext v1
    have b1 := b1.ext v1
    have b2 := b2.ext v1
    have r0 := r0.ext v1
    have x0 := x0.trans v1
    have p1 := b1.cell 0
    obtain ⟨g0, g1, g2, g3⟩ := b0.cell4
    go_wp2_with fail
    refine (HT.out _ r0).mono ?_
    rintro e w1 ⟨rfl, x1⟩
    have b3 := b2.ext x1
    have f3 := b3.free
    obtain ⟨q0, q1, q2⟩ := b3.cell3
    have y1 := x0.trans x1
    have HB3 := Lib.hid b3
    clear b3 p1 g0 g1 g2 g3 v1 b0 b1 b2 r0 x0 x1
    go_wp2_with (go_at_call 53; refine (impl_between _ _ _ _).mono ?_; rintro e w' ⟨rfl, rfl⟩)
    exact bodyPost_ret (v := .tuple #[.agg #[.int .i64 0, .int .i64 0, .int .i64 0], .bool false]) (by simp [results, Try.results43, go_sem, q0, q1, q2]) rfl ⟨rfl, (by repeat (first | exact Ext.refl _ | assumption | refine Ext.alloc ?_ _ | refine Ext.drew ?_ | refine Ext.drewN ?_ _ | refine Ext.setCell ?_ (by first | exact Nat.le_refl _ | (simp; done) | (simp; omega) | omega) _ | (apply Ext.trans; rotate_left; assumption)))⟩

end Go.Proofs.Ytlchejnjeeilpaa
