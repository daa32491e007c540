/- Contracts of MapLine of both sides; the laws FnExactMapLine and FnExactLineOf. -/
import Derived.Test.YtdaphamplgcccaaMapW
namespace Go.Proofs.Ytdaphamplgcccaa
open Go.RowKit

theorem put3o0 {w : World} {g : Nat} {t : TypeId} {a b c : Value} (h : Box w g t #[a, b, c]) (u v x : Value) (o : Obj) : ((((w.setCell ⟨g, 0, none⟩ u).setCell ⟨g, 1, none⟩ v).setCell ⟨g, 2, none⟩ x).alloc o).cell? ⟨g, 0, none⟩ = some u := ((((h.set 0 u).set 1 v).set 2 x).alloc o).cell 0
theorem put3o1 {w : World} {g : Nat} {t : TypeId} {a b c : Value} (h : Box w g t #[a, b, c]) (u v x : Value) (o : Obj) : ((((w.setCell ⟨g, 0, none⟩ u).setCell ⟨g, 1, none⟩ v).setCell ⟨g, 2, none⟩ x).alloc o).cell? ⟨g, 1, none⟩ = some v := ((((h.set 0 u).set 1 v).set 2 x).alloc o).cell 1
theorem put3o2 {w : World} {g : Nat} {t : TypeId} {a b c : Value} (h : Box w g t #[a, b, c]) (u v x : Value) (o : Obj) : ((((w.setCell ⟨g, 0, none⟩ u).setCell ⟨g, 1, none⟩ v).setCell ⟨g, 2, none⟩ x).alloc o).cell? ⟨g, 2, none⟩ = some x := ((((h.set 0 u).set 1 v).set 2 x).alloc o).cell 2

def mapB (a b c d o l : Int) : Bool := btw o 0 2 && btw l 0 (lineF a b c d - 1)
def mapV (x : Int × Int × Int) : Value := .tuple #[.agg #[.int .i64 x.1, .int .i64 x.2.1, .int .i64 x.2.2], .bool true]

theorem impl_mapLine_t0 (a b c d l : Int) (hL : btw l 0 (lineF a b c d - 1) = true) (w : World) : Calls Try.prog 33 #[.agg #[.int .i64 a, .int .i64 b, .int .i64 c, .int .i64 d], .agg #[.int .i64 0, .bool true], .int .i64 l] w fun e w' => e = .returned (.tuple #[.agg #[.int .i64 ((l / d % (a * b) + l / d / (a * b)) % (a * b)), .int .i64 (l / d / (a * b)), .int .i64 (l % d)], .bool true]) ∧ Ext w w' := by
  have hr := lineF_range a b c d
  have l0 := (btw_iff.1 hL).1
  have l1 := (btw_iff.1 hL).2
  have hgg := lineF_pos (a := a) (b := b) (c := c) (d := d) (by omega)
  have hN := bank_range hgg
  have hF := bankF_yes hgg
  obtain ⟨_, _, ⟨c0, c1⟩, ⟨d0, d1⟩⟩ := geoB_iff.1 hgg
  have hO : btw 0 0 2 = true := btw_true (by omega) (by omega)
  have q0 : 0 ≤ l / d := Int.ediv_nonneg l0 (by omega)
  have q1 : l / d ≤ l := Int.ediv_le_self _ l0
  have r0 : 0 ≤ l / d / (a * b) := Int.ediv_nonneg q0 (by omega)
  have r1 : l / d / (a * b) ≤ 1024 := by have := Int.ediv_le_self (a * b) q0; omega
  have s0 : 0 ≤ l / d % (a * b) := Int.emod_nonneg _ (by omega)
  have s1 : l / d % (a * b) ≤ 1024 := by have := Int.emod_lt_of_pos (l / d) (b := (a * b)) (by omega); omega
  go_enter Try.func33, Try.ntmps33
  go_wp2_with fail
  refine (impl_geometryOk _ _ _ _ _).mono ?_
  rintro e w1 ⟨rfl, x1⟩
  have b0 := (((Box.new w _ _).alloc _).alloc _).ext x1
  have l10 := b0.lt
  obtain ⟨q100, q101, q102, q103⟩ := b0.cell4
  have b1 := ((Box.new_at (w.alloc _) _ _ (w.heap.size + 1) (by simp)).alloc _).ext x1
  have l11 := b1.lt
  obtain ⟨q110, q111⟩ := b1.cell2
  have b2 := (Box.new_at ((w.alloc _).alloc _) _ _ (w.heap.size + 1 + 1) (by simp)).ext x1
  have l12 := b2.lt
  obtain ⟨q120, q121, q122⟩ := b2.cell3
  go_wp2_with fail
  refine (impl_mappingOk _ _ _).mono ?_
  rintro e w2 ⟨rfl, x2⟩
  have b0 := b0.ext x2
  have l20 := b0.lt
  obtain ⟨q200, q201, q202, q203⟩ := b0.cell4
  have b1 := b1.ext x2
  have l21 := b1.lt
  obtain ⟨q210, q211⟩ := b1.cell2
  have b2 := b2.ext x2
  have l22 := b2.lt
  obtain ⟨q220, q221, q222⟩ := b2.cell3
  go_wp2_with fail
  refine (impl_lineCount _ _ _ _ _).mono ?_
  rintro e w3 ⟨rfl, x3⟩
  have b0 := b0.ext x3
  have l30 := b0.lt
  obtain ⟨q300, q301, q302, q303⟩ := b0.cell4
  have b1 := b1.ext x3
  have l31 := b1.lt
  obtain ⟨q310, q311⟩ := b1.cell2
  have b2 := b2.ext x3
  have l32 := b2.lt
  obtain ⟨q320, q321, q322⟩ := b2.cell3
  go_wp2_with (go_at_call 49; refine (impl_between _ _ _ _).mono ?_; rintro e w' ⟨rfl, rfl⟩)
  go_wp2_with fail
  refine (impl_bankCount _ _ _ _ _).mono ?_
  rintro e w4 ⟨rfl, x4⟩
  have b0 := b0.ext x4
  obtain ⟨u0, u1, u2, u3⟩ := b0.cell4
  have b1 := b1.ext x4
  obtain ⟨u4, u5⟩ := b1.cell2
  have b2 := b2.ext x4
  obtain ⟨u6, u7, u8⟩ := b2.cell3
  have t0 := b0.lt
  have t1 := b1.lt
  have t2 := b2.lt
  have f2 := b2.free
  have h0 : w4.heap.size ≠ w.heap.size + 1 + 1 := by omega
  clear hgg hL
  go_wp2
  go_region
  go_wp2
  exact bodyPost_ret (v := .tuple #[.agg #[.int .i64 ((l / d % (a * b) + l / d / (a * b)) % (a * b)), .int .i64 (l / d / (a * b)), .int .i64 (l % d)], .bool true]) (by simp [results, Try.results33, go_sem, put3o0 b2, put3o1 b2, put3o2 b2]) rfl ⟨rfl, (by repeat (first | exact Ext.refl _ | assumption | refine Ext.alloc ?_ _ | refine Ext.drew ?_ | refine Ext.drewN ?_ _ | refine Ext.setCell ?_ (by first | exact Nat.le_refl _ | (simp; done) | (simp; omega) | omega) _ | (apply Ext.trans; rotate_left; assumption)))⟩

theorem impl_mapLine_t1 (a b c d l : Int) (hL : btw l 0 (lineF a b c d - 1) = true) (w : World) : Calls Try.prog 33 #[.agg #[.int .i64 a, .int .i64 b, .int .i64 c, .int .i64 d], .agg #[.int .i64 1, .bool true], .int .i64 l] w fun e w' => e = .returned (.tuple #[.agg #[.int .i64 ((l % (a * b) + l / (a * b) / d) % (a * b)), .int .i64 (l / (a * b) / d), .int .i64 (l / (a * b) % d)], .bool true]) ∧ Ext w w' := by
  have hr := lineF_range a b c d
  have l0 := (btw_iff.1 hL).1
  have l1 := (btw_iff.1 hL).2
  have hgg := lineF_pos (a := a) (b := b) (c := c) (d := d) (by omega)
  have hN := bank_range hgg
  have hF := bankF_yes hgg
  obtain ⟨_, _, ⟨c0, c1⟩, ⟨d0, d1⟩⟩ := geoB_iff.1 hgg
  have hO : btw 1 0 2 = true := btw_true (by omega) (by omega)
  have q0 : 0 ≤ l / (a * b) := Int.ediv_nonneg l0 (by omega)
  have q1 : l / (a * b) ≤ l := Int.ediv_le_self _ l0
  have r0 : 0 ≤ l / (a * b) / d := Int.ediv_nonneg q0 (by omega)
  have r1 : l / (a * b) / d ≤ 1024 := by have := Int.ediv_le_self d q0; omega
  have s0 : 0 ≤ l % (a * b) := Int.emod_nonneg _ (by omega)
  have s1 : l % (a * b) ≤ 1024 := by have := Int.emod_lt_of_pos (l) (b := (a * b)) (by omega); omega
  go_enter Try.func33, Try.ntmps33
  go_wp2_with fail
  refine (impl_geometryOk _ _ _ _ _).mono ?_
  rintro e w1 ⟨rfl, x1⟩
  have b0 := (((Box.new w _ _).alloc _).alloc _).ext x1
  have l10 := b0.lt
  obtain ⟨q100, q101, q102, q103⟩ := b0.cell4
  have b1 := ((Box.new_at (w.alloc _) _ _ (w.heap.size + 1) (by simp)).alloc _).ext x1
  have l11 := b1.lt
  obtain ⟨q110, q111⟩ := b1.cell2
  have b2 := (Box.new_at ((w.alloc _).alloc _) _ _ (w.heap.size + 1 + 1) (by simp)).ext x1
  have l12 := b2.lt
  obtain ⟨q120, q121, q122⟩ := b2.cell3
  go_wp2_with fail
  refine (impl_mappingOk _ _ _).mono ?_
  rintro e w2 ⟨rfl, x2⟩
  have b0 := b0.ext x2
  have l20 := b0.lt
  obtain ⟨q200, q201, q202, q203⟩ := b0.cell4
  have b1 := b1.ext x2
  have l21 := b1.lt
  obtain ⟨q210, q211⟩ := b1.cell2
  have b2 := b2.ext x2
  have l22 := b2.lt
  obtain ⟨q220, q221, q222⟩ := b2.cell3
  go_wp2_with fail
  refine (impl_lineCount _ _ _ _ _).mono ?_
  rintro e w3 ⟨rfl, x3⟩
  have b0 := b0.ext x3
  have l30 := b0.lt
  obtain ⟨q300, q301, q302, q303⟩ := b0.cell4
  have b1 := b1.ext x3
  have l31 := b1.lt
  obtain ⟨q310, q311⟩ := b1.cell2
  have b2 := b2.ext x3
  have l32 := b2.lt
  obtain ⟨q320, q321, q322⟩ := b2.cell3
  go_wp2_with (go_at_call 49; refine (impl_between _ _ _ _).mono ?_; rintro e w' ⟨rfl, rfl⟩)
  go_wp2_with fail
  refine (impl_bankCount _ _ _ _ _).mono ?_
  rintro e w4 ⟨rfl, x4⟩
  have b0 := b0.ext x4
  obtain ⟨u0, u1, u2, u3⟩ := b0.cell4
  have b1 := b1.ext x4
  obtain ⟨u4, u5⟩ := b1.cell2
  have b2 := b2.ext x4
  obtain ⟨u6, u7, u8⟩ := b2.cell3
  have t0 := b0.lt
  have t1 := b1.lt
  have t2 := b2.lt
  have f2 := b2.free
  have h0 : w4.heap.size ≠ w.heap.size + 1 + 1 := by omega
  clear hgg hL
  go_wp2
  go_region
  go_wp2
  exact bodyPost_ret (v := .tuple #[.agg #[.int .i64 ((l % (a * b) + l / (a * b) / d) % (a * b)), .int .i64 (l / (a * b) / d), .int .i64 (l / (a * b) % d)], .bool true]) (by simp [results, Try.results33, go_sem, put3o0 b2, put3o1 b2, put3o2 b2]) rfl ⟨rfl, (by repeat (first | exact Ext.refl _ | assumption | refine Ext.alloc ?_ _ | refine Ext.drew ?_ | refine Ext.drewN ?_ _ | refine Ext.setCell ?_ (by first | exact Nat.le_refl _ | (simp; done) | (simp; omega) | omega) _ | (apply Ext.trans; rotate_left; assumption)))⟩

theorem impl_mapLine_t2 (a b c d l : Int) (hL : btw l 0 (lineF a b c d - 1) = true) (w : World) : Calls Try.prog 33 #[.agg #[.int .i64 a, .int .i64 b, .int .i64 c, .int .i64 d], .agg #[.int .i64 2, .bool true], .int .i64 l] w fun e w' => e = .returned (.tuple #[.agg #[.int .i64 ((l / d / c + l / d % c) % (a * b)), .int .i64 (l / d % c), .int .i64 (l % d)], .bool true]) ∧ Ext w w' := by
  have hr := lineF_range a b c d
  have l0 := (btw_iff.1 hL).1
  have l1 := (btw_iff.1 hL).2
  have hgg := lineF_pos (a := a) (b := b) (c := c) (d := d) (by omega)
  have hN := bank_range hgg
  have hF := bankF_yes hgg
  obtain ⟨_, _, ⟨c0, c1⟩, ⟨d0, d1⟩⟩ := geoB_iff.1 hgg
  have hO : btw 2 0 2 = true := btw_true (by omega) (by omega)
  have q0 : 0 ≤ l / d := Int.ediv_nonneg l0 (by omega)
  have q1 : l / d ≤ l := Int.ediv_le_self _ l0
  have r0 : 0 ≤ l / d % c := Int.emod_nonneg _ (by omega)
  have r1 : l / d % c ≤ 1024 := by have := Int.emod_lt_of_pos (l / d) (b := c) (by omega); omega
  have s0 : 0 ≤ l / d / c := Int.ediv_nonneg q0 (by omega)
  have s1 : l / d / c ≤ 1024 := by have := Int.ediv_le_self c q0; omega
  go_enter Try.func33, Try.ntmps33
  go_wp2_with fail
  refine (impl_geometryOk _ _ _ _ _).mono ?_
  rintro e w1 ⟨rfl, x1⟩
  have b0 := (((Box.new w _ _).alloc _).alloc _).ext x1
  have l10 := b0.lt
  obtain ⟨q100, q101, q102, q103⟩ := b0.cell4
  have b1 := ((Box.new_at (w.alloc _) _ _ (w.heap.size + 1) (by simp)).alloc _).ext x1
  have l11 := b1.lt
  obtain ⟨q110, q111⟩ := b1.cell2
  have b2 := (Box.new_at ((w.alloc _).alloc _) _ _ (w.heap.size + 1 + 1) (by simp)).ext x1
  have l12 := b2.lt
  obtain ⟨q120, q121, q122⟩ := b2.cell3
  go_wp2_with fail
  refine (impl_mappingOk _ _ _).mono ?_
  rintro e w2 ⟨rfl, x2⟩
  have b0 := b0.ext x2
  have l20 := b0.lt
  obtain ⟨q200, q201, q202, q203⟩ := b0.cell4
  have b1 := b1.ext x2
  have l21 := b1.lt
  obtain ⟨q210, q211⟩ := b1.cell2
  have b2 := b2.ext x2
  have l22 := b2.lt
  obtain ⟨q220, q221, q222⟩ := b2.cell3
  go_wp2_with fail
  refine (impl_lineCount _ _ _ _ _).mono ?_
  rintro e w3 ⟨rfl, x3⟩
  have b0 := b0.ext x3
  have l30 := b0.lt
  obtain ⟨q300, q301, q302, q303⟩ := b0.cell4
  have b1 := b1.ext x3
  have l31 := b1.lt
  obtain ⟨q310, q311⟩ := b1.cell2
  have b2 := b2.ext x3
  have l32 := b2.lt
  obtain ⟨q320, q321, q322⟩ := b2.cell3
  go_wp2_with (go_at_call 49; refine (impl_between _ _ _ _).mono ?_; rintro e w' ⟨rfl, rfl⟩)
  go_wp2_with fail
  refine (impl_bankCount _ _ _ _ _).mono ?_
  rintro e w4 ⟨rfl, x4⟩
  have b0 := b0.ext x4
  obtain ⟨u0, u1, u2, u3⟩ := b0.cell4
  have b1 := b1.ext x4
  obtain ⟨u4, u5⟩ := b1.cell2
  have b2 := b2.ext x4
  obtain ⟨u6, u7, u8⟩ := b2.cell3
  have t0 := b0.lt
  have t1 := b1.lt
  have t2 := b2.lt
  have f2 := b2.free
  have h0 : w4.heap.size ≠ w.heap.size + 1 + 1 := by omega
  clear hgg hL
  go_wp2
  go_region
  go_wp2
  exact bodyPost_ret (v := .tuple #[.agg #[.int .i64 ((l / d / c + l / d % c) % (a * b)), .int .i64 (l / d % c), .int .i64 (l % d)], .bool true]) (by simp [results, Try.results33, go_sem, put3o0 b2, put3o1 b2, put3o2 b2]) rfl ⟨rfl, (by repeat (first | exact Ext.refl _ | assumption | refine Ext.alloc ?_ _ | refine Ext.drew ?_ | refine Ext.drewN ?_ _ | refine Ext.setCell ?_ (by first | exact Nat.le_refl _ | (simp; done) | (simp; omega) | omega) _ | (apply Ext.trans; rotate_left; assumption)))⟩

theorem impl_mapLine_f0 (a b c d l : Int) (hL : btw l 0 (lineF a b c d - 1) = true) (w : World) : Calls Try.prog 33 #[.agg #[.int .i64 a, .int .i64 b, .int .i64 c, .int .i64 d], .agg #[.int .i64 0, .bool false], .int .i64 l] w fun e w' => e = .returned (.tuple #[.agg #[.int .i64 (l / d % (a * b)), .int .i64 (l / d / (a * b)), .int .i64 (l % d)], .bool true]) ∧ Ext w w' := by
  have hr := lineF_range a b c d
  have l0 := (btw_iff.1 hL).1
  have l1 := (btw_iff.1 hL).2
  have hgg := lineF_pos (a := a) (b := b) (c := c) (d := d) (by omega)
  have hN := bank_range hgg
  have hF := bankF_yes hgg
  obtain ⟨_, _, ⟨c0, c1⟩, ⟨d0, d1⟩⟩ := geoB_iff.1 hgg
  have hO : btw 0 0 2 = true := btw_true (by omega) (by omega)
  have q0 : 0 ≤ l / d := Int.ediv_nonneg l0 (by omega)
  have q1 : l / d ≤ l := Int.ediv_le_self _ l0
  have r0 : 0 ≤ l / d / (a * b) := Int.ediv_nonneg q0 (by omega)
  have r1 : l / d / (a * b) ≤ 1024 := by have := Int.ediv_le_self (a * b) q0; omega
  have s0 : 0 ≤ l / d % (a * b) := Int.emod_nonneg _ (by omega)
  have s1 : l / d % (a * b) ≤ 1024 := by have := Int.emod_lt_of_pos (l / d) (b := (a * b)) (by omega); omega
  go_enter Try.func33, Try.ntmps33
  go_wp2_with fail
  refine (impl_geometryOk _ _ _ _ _).mono ?_
  rintro e w1 ⟨rfl, x1⟩
  have b0 := (((Box.new w _ _).alloc _).alloc _).ext x1
  have l10 := b0.lt
  obtain ⟨q100, q101, q102, q103⟩ := b0.cell4
  have b1 := ((Box.new_at (w.alloc _) _ _ (w.heap.size + 1) (by simp)).alloc _).ext x1
  have l11 := b1.lt
  obtain ⟨q110, q111⟩ := b1.cell2
  have b2 := (Box.new_at ((w.alloc _).alloc _) _ _ (w.heap.size + 1 + 1) (by simp)).ext x1
  have l12 := b2.lt
  obtain ⟨q120, q121, q122⟩ := b2.cell3
  go_wp2_with fail
  refine (impl_mappingOk _ _ _).mono ?_
  rintro e w2 ⟨rfl, x2⟩
  have b0 := b0.ext x2
  have l20 := b0.lt
  obtain ⟨q200, q201, q202, q203⟩ := b0.cell4
  have b1 := b1.ext x2
  have l21 := b1.lt
  obtain ⟨q210, q211⟩ := b1.cell2
  have b2 := b2.ext x2
  have l22 := b2.lt
  obtain ⟨q220, q221, q222⟩ := b2.cell3
  go_wp2_with fail
  refine (impl_lineCount _ _ _ _ _).mono ?_
  rintro e w3 ⟨rfl, x3⟩
  have b0 := b0.ext x3
  have l30 := b0.lt
  obtain ⟨q300, q301, q302, q303⟩ := b0.cell4
  have b1 := b1.ext x3
  have l31 := b1.lt
  obtain ⟨q310, q311⟩ := b1.cell2
  have b2 := b2.ext x3
  have l32 := b2.lt
  obtain ⟨q320, q321, q322⟩ := b2.cell3
  go_wp2_with (go_at_call 49; refine (impl_between _ _ _ _).mono ?_; rintro e w' ⟨rfl, rfl⟩)
  go_wp2_with fail
  refine (impl_bankCount _ _ _ _ _).mono ?_
  rintro e w4 ⟨rfl, x4⟩
  have b0 := b0.ext x4
  obtain ⟨u0, u1, u2, u3⟩ := b0.cell4
  have b1 := b1.ext x4
  obtain ⟨u4, u5⟩ := b1.cell2
  have b2 := b2.ext x4
  obtain ⟨u6, u7, u8⟩ := b2.cell3
  have t0 := b0.lt
  have t1 := b1.lt
  have t2 := b2.lt
  have f2 := b2.free
  have h0 : w4.heap.size ≠ w.heap.size + 1 + 1 := by omega
  clear hgg hL
  go_wp2
  go_region
  go_wp2
  exact bodyPost_ret (v := .tuple #[.agg #[.int .i64 (l / d % (a * b)), .int .i64 (l / d / (a * b)), .int .i64 (l % d)], .bool true]) (by simp [results, Try.results33, go_sem, put3o0 b2, put3o1 b2, put3o2 b2]) rfl ⟨rfl, (by repeat (first | exact Ext.refl _ | assumption | refine Ext.alloc ?_ _ | refine Ext.drew ?_ | refine Ext.drewN ?_ _ | refine Ext.setCell ?_ (by first | exact Nat.le_refl _ | (simp; done) | (simp; omega) | omega) _ | (apply Ext.trans; rotate_left; assumption)))⟩

theorem impl_mapLine_f1 (a b c d l : Int) (hL : btw l 0 (lineF a b c d - 1) = true) (w : World) : Calls Try.prog 33 #[.agg #[.int .i64 a, .int .i64 b, .int .i64 c, .int .i64 d], .agg #[.int .i64 1, .bool false], .int .i64 l] w fun e w' => e = .returned (.tuple #[.agg #[.int .i64 (l % (a * b)), .int .i64 (l / (a * b) / d), .int .i64 (l / (a * b) % d)], .bool true]) ∧ Ext w w' := by
  have hr := lineF_range a b c d
  have l0 := (btw_iff.1 hL).1
  have l1 := (btw_iff.1 hL).2
  have hgg := lineF_pos (a := a) (b := b) (c := c) (d := d) (by omega)
  have hN := bank_range hgg
  have hF := bankF_yes hgg
  obtain ⟨_, _, ⟨c0, c1⟩, ⟨d0, d1⟩⟩ := geoB_iff.1 hgg
  have hO : btw 1 0 2 = true := btw_true (by omega) (by omega)
  have q0 : 0 ≤ l / (a * b) := Int.ediv_nonneg l0 (by omega)
  have q1 : l / (a * b) ≤ l := Int.ediv_le_self _ l0
  have r0 : 0 ≤ l / (a * b) / d := Int.ediv_nonneg q0 (by omega)
  have r1 : l / (a * b) / d ≤ 1024 := by have := Int.ediv_le_self d q0; omega
  have s0 : 0 ≤ l % (a * b) := Int.emod_nonneg _ (by omega)
  have s1 : l % (a * b) ≤ 1024 := by have := Int.emod_lt_of_pos (l) (b := (a * b)) (by omega); omega
  go_enter Try.func33, Try.ntmps33
  go_wp2_with fail
  refine (impl_geometryOk _ _ _ _ _).mono ?_
  rintro e w1 ⟨rfl, x1⟩
  have b0 := (((Box.new w _ _).alloc _).alloc _).ext x1
  have l10 := b0.lt
  obtain ⟨q100, q101, q102, q103⟩ := b0.cell4
  have b1 := ((Box.new_at (w.alloc _) _ _ (w.heap.size + 1) (by simp)).alloc _).ext x1
  have l11 := b1.lt
  obtain ⟨q110, q111⟩ := b1.cell2
  have b2 := (Box.new_at ((w.alloc _).alloc _) _ _ (w.heap.size + 1 + 1) (by simp)).ext x1
  have l12 := b2.lt
  obtain ⟨q120, q121, q122⟩ := b2.cell3
  go_wp2_with fail
  refine (impl_mappingOk _ _ _).mono ?_
  rintro e w2 ⟨rfl, x2⟩
  have b0 := b0.ext x2
  have l20 := b0.lt
  obtain ⟨q200, q201, q202, q203⟩ := b0.cell4
  have b1 := b1.ext x2
  have l21 := b1.lt
  obtain ⟨q210, q211⟩ := b1.cell2
  have b2 := b2.ext x2
  have l22 := b2.lt
  obtain ⟨q220, q221, q222⟩ := b2.cell3
  go_wp2_with fail
  refine (impl_lineCount _ _ _ _ _).mono ?_
  rintro e w3 ⟨rfl, x3⟩
  have b0 := b0.ext x3
  have l30 := b0.lt
  obtain ⟨q300, q301, q302, q303⟩ := b0.cell4
  have b1 := b1.ext x3
  have l31 := b1.lt
  obtain ⟨q310, q311⟩ := b1.cell2
  have b2 := b2.ext x3
  have l32 := b2.lt
  obtain ⟨q320, q321, q322⟩ := b2.cell3
  go_wp2_with (go_at_call 49; refine (impl_between _ _ _ _).mono ?_; rintro e w' ⟨rfl, rfl⟩)
  go_wp2_with fail
  refine (impl_bankCount _ _ _ _ _).mono ?_
  rintro e w4 ⟨rfl, x4⟩
  have b0 := b0.ext x4
  obtain ⟨u0, u1, u2, u3⟩ := b0.cell4
  have b1 := b1.ext x4
  obtain ⟨u4, u5⟩ := b1.cell2
  have b2 := b2.ext x4
  obtain ⟨u6, u7, u8⟩ := b2.cell3
  have t0 := b0.lt
  have t1 := b1.lt
  have t2 := b2.lt
  have f2 := b2.free
  have h0 : w4.heap.size ≠ w.heap.size + 1 + 1 := by omega
  clear hgg hL
  go_wp2
  go_region
  go_wp2
  exact bodyPost_ret (v := .tuple #[.agg #[.int .i64 (l % (a * b)), .int .i64 (l / (a * b) / d), .int .i64 (l / (a * b) % d)], .bool true]) (by simp [results, Try.results33, go_sem, put3o0 b2, put3o1 b2, put3o2 b2]) rfl ⟨rfl, (by repeat (first | exact Ext.refl _ | assumption | refine Ext.alloc ?_ _ | refine Ext.drew ?_ | refine Ext.drewN ?_ _ | refine Ext.setCell ?_ (by first | exact Nat.le_refl _ | (simp; done) | (simp; omega) | omega) _ | (apply Ext.trans; rotate_left; assumption)))⟩

theorem impl_mapLine_f2 (a b c d l : Int) (hL : btw l 0 (lineF a b c d - 1) = true) (w : World) : Calls Try.prog 33 #[.agg #[.int .i64 a, .int .i64 b, .int .i64 c, .int .i64 d], .agg #[.int .i64 2, .bool false], .int .i64 l] w fun e w' => e = .returned (.tuple #[.agg #[.int .i64 (l / d / c), .int .i64 (l / d % c), .int .i64 (l % d)], .bool true]) ∧ Ext w w' := by
  have hr := lineF_range a b c d
  have l0 := (btw_iff.1 hL).1
  have l1 := (btw_iff.1 hL).2
  have hgg := lineF_pos (a := a) (b := b) (c := c) (d := d) (by omega)
  have hN := bank_range hgg
  have hF := bankF_yes hgg
  obtain ⟨_, _, ⟨c0, c1⟩, ⟨d0, d1⟩⟩ := geoB_iff.1 hgg
  have hO : btw 2 0 2 = true := btw_true (by omega) (by omega)
  have q0 : 0 ≤ l / d := Int.ediv_nonneg l0 (by omega)
  have q1 : l / d ≤ l := Int.ediv_le_self _ l0
  have r0 : 0 ≤ l / d % c := Int.emod_nonneg _ (by omega)
  have r1 : l / d % c ≤ 1024 := by have := Int.emod_lt_of_pos (l / d) (b := c) (by omega); omega
  have s0 : 0 ≤ l / d / c := Int.ediv_nonneg q0 (by omega)
  have s1 : l / d / c ≤ 1024 := by have := Int.ediv_le_self c q0; omega
  go_enter Try.func33, Try.ntmps33
  go_wp2_with fail
  refine (impl_geometryOk _ _ _ _ _).mono ?_
  rintro e w1 ⟨rfl, x1⟩
  have b0 := (((Box.new w _ _).alloc _).alloc _).ext x1
  have l10 := b0.lt
  obtain ⟨q100, q101, q102, q103⟩ := b0.cell4
  have b1 := ((Box.new_at (w.alloc _) _ _ (w.heap.size + 1) (by simp)).alloc _).ext x1
  have l11 := b1.lt
  obtain ⟨q110, q111⟩ := b1.cell2
  have b2 := (Box.new_at ((w.alloc _).alloc _) _ _ (w.heap.size + 1 + 1) (by simp)).ext x1
  have l12 := b2.lt
  obtain ⟨q120, q121, q122⟩ := b2.cell3
  go_wp2_with fail
  refine (impl_mappingOk _ _ _).mono ?_
  rintro e w2 ⟨rfl, x2⟩
  have b0 := b0.ext x2
  have l20 := b0.lt
  obtain ⟨q200, q201, q202, q203⟩ := b0.cell4
  have b1 := b1.ext x2
  have l21 := b1.lt
  obtain ⟨q210, q211⟩ := b1.cell2
  have b2 := b2.ext x2
  have l22 := b2.lt
  obtain ⟨q220, q221, q222⟩ := b2.cell3
  go_wp2_with fail
  refine (impl_lineCount _ _ _ _ _).mono ?_
  rintro e w3 ⟨rfl, x3⟩
  have b0 := b0.ext x3
  have l30 := b0.lt
  obtain ⟨q300, q301, q302, q303⟩ := b0.cell4
  have b1 := b1.ext x3
  have l31 := b1.lt
  obtain ⟨q310, q311⟩ := b1.cell2
  have b2 := b2.ext x3
  have l32 := b2.lt
  obtain ⟨q320, q321, q322⟩ := b2.cell3
  go_wp2_with (go_at_call 49; refine (impl_between _ _ _ _).mono ?_; rintro e w' ⟨rfl, rfl⟩)
  go_wp2_with fail
  refine (impl_bankCount _ _ _ _ _).mono ?_
  rintro e w4 ⟨rfl, x4⟩
  have b0 := b0.ext x4
  obtain ⟨u0, u1, u2, u3⟩ := b0.cell4
  have b1 := b1.ext x4
  obtain ⟨u4, u5⟩ := b1.cell2
  have b2 := b2.ext x4
  obtain ⟨u6, u7, u8⟩ := b2.cell3
  have t0 := b0.lt
  have t1 := b1.lt
  have t2 := b2.lt
  have f2 := b2.free
  have h0 : w4.heap.size ≠ w.heap.size + 1 + 1 := by omega
  clear hgg hL
  go_wp2
  go_region
  go_wp2
  exact bodyPost_ret (v := .tuple #[.agg #[.int .i64 (l / d / c), .int .i64 (l / d % c), .int .i64 (l % d)], .bool true]) (by simp [results, Try.results33, go_sem, put3o0 b2, put3o1 b2, put3o2 b2]) rfl ⟨rfl, (by repeat (first | exact Ext.refl _ | assumption | refine Ext.alloc ?_ _ | refine Ext.drew ?_ | refine Ext.drewN ?_ _ | refine Ext.setCell ?_ (by first | exact Nat.le_refl _ | (simp; done) | (simp; omega) | omega) _ | (apply Ext.trans; rotate_left; assumption)))⟩

theorem spec_mapLine_t0 (a b c d l : Int) (hL : btw l 0 (lineF a b c d - 1) = true) (w : World) : Calls Try.prog 31 #[.agg #[.int .i64 a, .int .i64 b, .int .i64 c, .int .i64 d], .agg #[.int .i64 0, .bool true], .int .i64 l] w fun e w' => e = .returned (.tuple #[.agg #[.int .i64 ((l / d % (a * b) + l / d / (a * b)) % (a * b)), .int .i64 (l / d / (a * b)), .int .i64 (l % d)], .bool true]) ∧ Ext w w' := by
  have hr := lineF_range a b c d
  have l0 := (btw_iff.1 hL).1
  have l1 := (btw_iff.1 hL).2
  have hgg := lineF_pos (a := a) (b := b) (c := c) (d := d) (by omega)
  have hN := bank_range hgg
  have hF := bankF_yes hgg
  obtain ⟨_, _, ⟨c0, c1⟩, ⟨d0, d1⟩⟩ := geoB_iff.1 hgg
  have hO : btw 0 0 2 = true := btw_true (by omega) (by omega)
  have q0 : 0 ≤ l / d := Int.ediv_nonneg l0 (by omega)
  have q1 : l / d ≤ l := Int.ediv_le_self _ l0
  have r0 : 0 ≤ l / d / (a * b) := Int.ediv_nonneg q0 (by omega)
  have r1 : l / d / (a * b) ≤ 1024 := by have := Int.ediv_le_self (a * b) q0; omega
  have s0 : 0 ≤ l / d % (a * b) := Int.emod_nonneg _ (by omega)
  have s1 : l / d % (a * b) ≤ 1024 := by have := Int.emod_lt_of_pos (l / d) (b := (a * b)) (by omega); omega
  go_enter Try.func31, Try.ntmps31
  go_wp2_with fail
  refine (spec_mappingOk _ _ _).mono ?_
  rintro e w2 ⟨rfl, x2⟩
  have b0 := (((Box.new w _ _).alloc _).alloc _).ext x2
  have l20 := b0.lt
  obtain ⟨q200, q201, q202, q203⟩ := b0.cell4
  have b1 := ((Box.new_at (w.alloc _) _ _ (w.heap.size + 1) (by simp)).alloc _).ext x2
  have l21 := b1.lt
  obtain ⟨q210, q211⟩ := b1.cell2
  have b2 := (Box.new_at ((w.alloc _).alloc _) _ _ (w.heap.size + 1 + 1) (by simp)).ext x2
  have l22 := b2.lt
  obtain ⟨q220, q221, q222⟩ := b2.cell3
  go_wp2_with fail
  refine (spec_lineCount _ _ _ _ _).mono ?_
  rintro e w3 ⟨rfl, x3⟩
  have b0 := b0.ext x3
  have l30 := b0.lt
  obtain ⟨q300, q301, q302, q303⟩ := b0.cell4
  have b1 := b1.ext x3
  have l31 := b1.lt
  obtain ⟨q310, q311⟩ := b1.cell2
  have b2 := b2.ext x3
  have l32 := b2.lt
  obtain ⟨q320, q321, q322⟩ := b2.cell3
  go_wp2_with (go_at_call 48; refine (spec_in _ _ _ _).mono ?_; rintro e w' ⟨rfl, rfl⟩)
  go_wp2_with fail
  refine (spec_bankCount _ _ _ _ _).mono ?_
  rintro e w4 ⟨rfl, x4⟩
  have b0 := b0.ext x4
  obtain ⟨u0, u1, u2, u3⟩ := b0.cell4
  have b1 := b1.ext x4
  obtain ⟨u4, u5⟩ := b1.cell2
  have b2 := b2.ext x4
  obtain ⟨u6, u7, u8⟩ := b2.cell3
  have t0 := b0.lt
  have t1 := b1.lt
  have t2 := b2.lt
  have f2 := b2.free
  have h0 : w4.heap.size ≠ w.heap.size + 1 + 1 := by omega
  clear hgg hL
  go_wp2
  go_region
  go_wp2
  exact bodyPost_ret (v := .tuple #[.agg #[.int .i64 ((l / d % (a * b) + l / d / (a * b)) % (a * b)), .int .i64 (l / d / (a * b)), .int .i64 (l % d)], .bool true]) (by simp [results, Try.results31, go_sem, put3o0 b2, put3o1 b2, put3o2 b2]) rfl ⟨rfl, (by repeat (first | exact Ext.refl _ | assumption | refine Ext.alloc ?_ _ | refine Ext.drew ?_ | refine Ext.drewN ?_ _ | refine Ext.setCell ?_ (by first | exact Nat.le_refl _ | (simp; done) | (simp; omega) | omega) _ | (apply Ext.trans; rotate_left; assumption)))⟩

theorem spec_mapLine_t1 (a b c d l : Int) (hL : btw l 0 (lineF a b c d - 1) = true) (w : World) : Calls Try.prog 31 #[.agg #[.int .i64 a, .int .i64 b, .int .i64 c, .int .i64 d], .agg #[.int .i64 1, .bool true], .int .i64 l] w fun e w' => e = .returned (.tuple #[.agg #[.int .i64 ((l % (a * b) + l / (a * b) / d) % (a * b)), .int .i64 (l / (a * b) / d), .int .i64 (l / (a * b) % d)], .bool true]) ∧ Ext w w' := by
  have hr := lineF_range a b c d
  have l0 := (btw_iff.1 hL).1
  have l1 := (btw_iff.1 hL).2
  have hgg := lineF_pos (a := a) (b := b) (c := c) (d := d) (by omega)
  have hN := bank_range hgg
  have hF := bankF_yes hgg
  obtain ⟨_, _, ⟨c0, c1⟩, ⟨d0, d1⟩⟩ := geoB_iff.1 hgg
  have hO : btw 1 0 2 = true := btw_true (by omega) (by omega)
  have q0 : 0 ≤ l / (a * b) := Int.ediv_nonneg l0 (by omega)
  have q1 : l / (a * b) ≤ l := Int.ediv_le_self _ l0
  have r0 : 0 ≤ l / (a * b) / d := Int.ediv_nonneg q0 (by omega)
  have r1 : l / (a * b) / d ≤ 1024 := by have := Int.ediv_le_self d q0; omega
  have s0 : 0 ≤ l % (a * b) := Int.emod_nonneg _ (by omega)
  have s1 : l % (a * b) ≤ 1024 := by have := Int.emod_lt_of_pos (l) (b := (a * b)) (by omega); omega
  go_enter Try.func31, Try.ntmps31
  go_wp2_with fail
  refine (spec_mappingOk _ _ _).mono ?_
  rintro e w2 ⟨rfl, x2⟩
  have b0 := (((Box.new w _ _).alloc _).alloc _).ext x2
  have l20 := b0.lt
  obtain ⟨q200, q201, q202, q203⟩ := b0.cell4
  have b1 := ((Box.new_at (w.alloc _) _ _ (w.heap.size + 1) (by simp)).alloc _).ext x2
  have l21 := b1.lt
  obtain ⟨q210, q211⟩ := b1.cell2
  have b2 := (Box.new_at ((w.alloc _).alloc _) _ _ (w.heap.size + 1 + 1) (by simp)).ext x2
  have l22 := b2.lt
  obtain ⟨q220, q221, q222⟩ := b2.cell3
  go_wp2_with fail
  refine (spec_lineCount _ _ _ _ _).mono ?_
  rintro e w3 ⟨rfl, x3⟩
  have b0 := b0.ext x3
  have l30 := b0.lt
  obtain ⟨q300, q301, q302, q303⟩ := b0.cell4
  have b1 := b1.ext x3
  have l31 := b1.lt
  obtain ⟨q310, q311⟩ := b1.cell2
  have b2 := b2.ext x3
  have l32 := b2.lt
  obtain ⟨q320, q321, q322⟩ := b2.cell3
  go_wp2_with (go_at_call 48; refine (spec_in _ _ _ _).mono ?_; rintro e w' ⟨rfl, rfl⟩)
  go_wp2_with fail
  refine (spec_bankCount _ _ _ _ _).mono ?_
  rintro e w4 ⟨rfl, x4⟩
  have b0 := b0.ext x4
  obtain ⟨u0, u1, u2, u3⟩ := b0.cell4
  have b1 := b1.ext x4
  obtain ⟨u4, u5⟩ := b1.cell2
  have b2 := b2.ext x4
  obtain ⟨u6, u7, u8⟩ := b2.cell3
  have t0 := b0.lt
  have t1 := b1.lt
  have t2 := b2.lt
  have f2 := b2.free
  have h0 : w4.heap.size ≠ w.heap.size + 1 + 1 := by omega
  clear hgg hL
  go_wp2
  go_region
  go_wp2
  exact bodyPost_ret (v := .tuple #[.agg #[.int .i64 ((l % (a * b) + l / (a * b) / d) % (a * b)), .int .i64 (l / (a * b) / d), .int .i64 (l / (a * b) % d)], .bool true]) (by simp [results, Try.results31, go_sem, put3o0 b2, put3o1 b2, put3o2 b2]) rfl ⟨rfl, (by repeat (first | exact Ext.refl _ | assumption | refine Ext.alloc ?_ _ | refine Ext.drew ?_ | refine Ext.drewN ?_ _ | refine Ext.setCell ?_ (by first | exact Nat.le_refl _ | (simp; done) | (simp; omega) | omega) _ | (apply Ext.trans; rotate_left; assumption)))⟩

theorem spec_mapLine_t2 (a b c d l : Int) (hL : btw l 0 (lineF a b c d - 1) = true) (w : World) : Calls Try.prog 31 #[.agg #[.int .i64 a, .int .i64 b, .int .i64 c, .int .i64 d], .agg #[.int .i64 2, .bool true], .int .i64 l] w fun e w' => e = .returned (.tuple #[.agg #[.int .i64 ((l / d / c + l / d % c) % (a * b)), .int .i64 (l / d % c), .int .i64 (l % d)], .bool true]) ∧ Ext w w' := by
  have hr := lineF_range a b c d
  have l0 := (btw_iff.1 hL).1
  have l1 := (btw_iff.1 hL).2
  have hgg := lineF_pos (a := a) (b := b) (c := c) (d := d) (by omega)
  have hN := bank_range hgg
  have hF := bankF_yes hgg
  obtain ⟨_, _, ⟨c0, c1⟩, ⟨d0, d1⟩⟩ := geoB_iff.1 hgg
  have hO : btw 2 0 2 = true := btw_true (by omega) (by omega)
  have q0 : 0 ≤ l / d := Int.ediv_nonneg l0 (by omega)
  have q1 : l / d ≤ l := Int.ediv_le_self _ l0
  have r0 : 0 ≤ l / d % c := Int.emod_nonneg _ (by omega)
  have r1 : l / d % c ≤ 1024 := by have := Int.emod_lt_of_pos (l / d) (b := c) (by omega); omega
  have s0 : 0 ≤ l / d / c := Int.ediv_nonneg q0 (by omega)
  have s1 : l / d / c ≤ 1024 := by have := Int.ediv_le_self c q0; omega
  go_enter Try.func31, Try.ntmps31
  go_wp2_with fail
  refine (spec_mappingOk _ _ _).mono ?_
  rintro e w2 ⟨rfl, x2⟩
  have b0 := (((Box.new w _ _).alloc _).alloc _).ext x2
  have l20 := b0.lt
  obtain ⟨q200, q201, q202, q203⟩ := b0.cell4
  have b1 := ((Box.new_at (w.alloc _) _ _ (w.heap.size + 1) (by simp)).alloc _).ext x2
  have l21 := b1.lt
  obtain ⟨q210, q211⟩ := b1.cell2
  have b2 := (Box.new_at ((w.alloc _).alloc _) _ _ (w.heap.size + 1 + 1) (by simp)).ext x2
  have l22 := b2.lt
  obtain ⟨q220, q221, q222⟩ := b2.cell3
  go_wp2_with fail
  refine (spec_lineCount _ _ _ _ _).mono ?_
  rintro e w3 ⟨rfl, x3⟩
  have b0 := b0.ext x3
  have l30 := b0.lt
  obtain ⟨q300, q301, q302, q303⟩ := b0.cell4
  have b1 := b1.ext x3
  have l31 := b1.lt
  obtain ⟨q310, q311⟩ := b1.cell2
  have b2 := b2.ext x3
  have l32 := b2.lt
  obtain ⟨q320, q321, q322⟩ := b2.cell3
  go_wp2_with (go_at_call 48; refine (spec_in _ _ _ _).mono ?_; rintro e w' ⟨rfl, rfl⟩)
  go_wp2_with fail
  refine (spec_bankCount _ _ _ _ _).mono ?_
  rintro e w4 ⟨rfl, x4⟩
  have b0 := b0.ext x4
  obtain ⟨u0, u1, u2, u3⟩ := b0.cell4
  have b1 := b1.ext x4
  obtain ⟨u4, u5⟩ := b1.cell2
  have b2 := b2.ext x4
  obtain ⟨u6, u7, u8⟩ := b2.cell3
  have t0 := b0.lt
  have t1 := b1.lt
  have t2 := b2.lt
  have f2 := b2.free
  have h0 : w4.heap.size ≠ w.heap.size + 1 + 1 := by omega
  clear hgg hL
  go_wp2
  go_region
  go_wp2
  exact bodyPost_ret (v := .tuple #[.agg #[.int .i64 ((l / d / c + l / d % c) % (a * b)), .int .i64 (l / d % c), .int .i64 (l % d)], .bool true]) (by simp [results, Try.results31, go_sem, put3o0 b2, put3o1 b2, put3o2 b2]) rfl ⟨rfl, (by repeat (first | exact Ext.refl _ | assumption | refine Ext.alloc ?_ _ | refine Ext.drew ?_ | refine Ext.drewN ?_ _ | refine Ext.setCell ?_ (by first | exact Nat.le_refl _ | (simp; done) | (simp; omega) | omega) _ | (apply Ext.trans; rotate_left; assumption)))⟩

theorem spec_mapLine_f0 (a b c d l : Int) (hL : btw l 0 (lineF a b c d - 1) = true) (w : World) : Calls Try.prog 31 #[.agg #[.int .i64 a, .int .i64 b, .int .i64 c, .int .i64 d], .agg #[.int .i64 0, .bool false], .int .i64 l] w fun e w' => e = .returned (.tuple #[.agg #[.int .i64 (l / d % (a * b)), .int .i64 (l / d / (a * b)), .int .i64 (l % d)], .bool true]) ∧ Ext w w' := by
  have hr := lineF_range a b c d
  have l0 := (btw_iff.1 hL).1
  have l1 := (btw_iff.1 hL).2
  have hgg := lineF_pos (a := a) (b := b) (c := c) (d := d) (by omega)
  have hN := bank_range hgg
  have hF := bankF_yes hgg
  obtain ⟨_, _, ⟨c0, c1⟩, ⟨d0, d1⟩⟩ := geoB_iff.1 hgg
  have hO : btw 0 0 2 = true := btw_true (by omega) (by omega)
  have q0 : 0 ≤ l / d := Int.ediv_nonneg l0 (by omega)
  have q1 : l / d ≤ l := Int.ediv_le_self _ l0
  have r0 : 0 ≤ l / d / (a * b) := Int.ediv_nonneg q0 (by omega)
  have r1 : l / d / (a * b) ≤ 1024 := by have := Int.ediv_le_self (a * b) q0; omega
  have s0 : 0 ≤ l / d % (a * b) := Int.emod_nonneg _ (by omega)
  have s1 : l / d % (a * b) ≤ 1024 := by have := Int.emod_lt_of_pos (l / d) (b := (a * b)) (by omega); omega
  go_enter Try.func31, Try.ntmps31
  go_wp2_with fail
  refine (spec_mappingOk _ _ _).mono ?_
  rintro e w2 ⟨rfl, x2⟩
  have b0 := (((Box.new w _ _).alloc _).alloc _).ext x2
  have l20 := b0.lt
  obtain ⟨q200, q201, q202, q203⟩ := b0.cell4
  have b1 := ((Box.new_at (w.alloc _) _ _ (w.heap.size + 1) (by simp)).alloc _).ext x2
  have l21 := b1.lt
  obtain ⟨q210, q211⟩ := b1.cell2
  have b2 := (Box.new_at ((w.alloc _).alloc _) _ _ (w.heap.size + 1 + 1) (by simp)).ext x2
  have l22 := b2.lt
  obtain ⟨q220, q221, q222⟩ := b2.cell3
  go_wp2_with fail
  refine (spec_lineCount _ _ _ _ _).mono ?_
  rintro e w3 ⟨rfl, x3⟩
  have b0 := b0.ext x3
  have l30 := b0.lt
  obtain ⟨q300, q301, q302, q303⟩ := b0.cell4
  have b1 := b1.ext x3
  have l31 := b1.lt
  obtain ⟨q310, q311⟩ := b1.cell2
  have b2 := b2.ext x3
  have l32 := b2.lt
  obtain ⟨q320, q321, q322⟩ := b2.cell3
  go_wp2_with (go_at_call 48; refine (spec_in _ _ _ _).mono ?_; rintro e w' ⟨rfl, rfl⟩)
  go_wp2_with fail
  refine (spec_bankCount _ _ _ _ _).mono ?_
  rintro e w4 ⟨rfl, x4⟩
  have b0 := b0.ext x4
  obtain ⟨u0, u1, u2, u3⟩ := b0.cell4
  have b1 := b1.ext x4
  obtain ⟨u4, u5⟩ := b1.cell2
  have b2 := b2.ext x4
  obtain ⟨u6, u7, u8⟩ := b2.cell3
  have t0 := b0.lt
  have t1 := b1.lt
  have t2 := b2.lt
  have f2 := b2.free
  have h0 : w4.heap.size ≠ w.heap.size + 1 + 1 := by omega
  clear hgg hL
  go_wp2
  go_region
  go_wp2
  exact bodyPost_ret (v := .tuple #[.agg #[.int .i64 (l / d % (a * b)), .int .i64 (l / d / (a * b)), .int .i64 (l % d)], .bool true]) (by simp [results, Try.results31, go_sem, put3o0 b2, put3o1 b2, put3o2 b2]) rfl ⟨rfl, (by repeat (first | exact Ext.refl _ | assumption | refine Ext.alloc ?_ _ | refine Ext.drew ?_ | refine Ext.drewN ?_ _ | refine Ext.setCell ?_ (by first | exact Nat.le_refl _ | (simp; done) | (simp; omega) | omega) _ | (apply Ext.trans; rotate_left; assumption)))⟩

theorem spec_mapLine_f1 (a b c d l : Int) (hL : btw l 0 (lineF a b c d - 1) = true) (w : World) : Calls Try.prog 31 #[.agg #[.int .i64 a, .int .i64 b, .int .i64 c, .int .i64 d], .agg #[.int .i64 1, .bool false], .int .i64 l] w fun e w' => e = .returned (.tuple #[.agg #[.int .i64 (l % (a * b)), .int .i64 (l / (a * b) / d), .int .i64 (l / (a * b) % d)], .bool true]) ∧ Ext w w' := by
  have hr := lineF_range a b c d
  have l0 := (btw_iff.1 hL).1
  have l1 := (btw_iff.1 hL).2
  have hgg := lineF_pos (a := a) (b := b) (c := c) (d := d) (by omega)
  have hN := bank_range hgg
  have hF := bankF_yes hgg
  obtain ⟨_, _, ⟨c0, c1⟩, ⟨d0, d1⟩⟩ := geoB_iff.1 hgg
  have hO : btw 1 0 2 = true := btw_true (by omega) (by omega)
  have q0 : 0 ≤ l / (a * b) := Int.ediv_nonneg l0 (by omega)
  have q1 : l / (a * b) ≤ l := Int.ediv_le_self _ l0
  have r0 : 0 ≤ l / (a * b) / d := Int.ediv_nonneg q0 (by omega)
  have r1 : l / (a * b) / d ≤ 1024 := by have := Int.ediv_le_self d q0; omega
  have s0 : 0 ≤ l % (a * b) := Int.emod_nonneg _ (by omega)
  have s1 : l % (a * b) ≤ 1024 := by have := Int.emod_lt_of_pos (l) (b := (a * b)) (by omega); omega
  go_enter Try.func31, Try.ntmps31
  go_wp2_with fail
  refine (spec_mappingOk _ _ _).mono ?_
  rintro e w2 ⟨rfl, x2⟩
  have b0 := (((Box.new w _ _).alloc _).alloc _).ext x2
  have l20 := b0.lt
  obtain ⟨q200, q201, q202, q203⟩ := b0.cell4
  have b1 := ((Box.new_at (w.alloc _) _ _ (w.heap.size + 1) (by simp)).alloc _).ext x2
  have l21 := b1.lt
  obtain ⟨q210, q211⟩ := b1.cell2
  have b2 := (Box.new_at ((w.alloc _).alloc _) _ _ (w.heap.size + 1 + 1) (by simp)).ext x2
  have l22 := b2.lt
  obtain ⟨q220, q221, q222⟩ := b2.cell3
  go_wp2_with fail
  refine (spec_lineCount _ _ _ _ _).mono ?_
  rintro e w3 ⟨rfl, x3⟩
  have b0 := b0.ext x3
  have l30 := b0.lt
  obtain ⟨q300, q301, q302, q303⟩ := b0.cell4
  have b1 := b1.ext x3
  have l31 := b1.lt
  obtain ⟨q310, q311⟩ := b1.cell2
  have b2 := b2.ext x3
  have l32 := b2.lt
  obtain ⟨q320, q321, q322⟩ := b2.cell3
  go_wp2_with (go_at_call 48; refine (spec_in _ _ _ _).mono ?_; rintro e w' ⟨rfl, rfl⟩)
  go_wp2_with fail
  refine (spec_bankCount _ _ _ _ _).mono ?_
  rintro e w4 ⟨rfl, x4⟩
  have b0 := b0.ext x4
  obtain ⟨u0, u1, u2, u3⟩ := b0.cell4
  have b1 := b1.ext x4
  obtain ⟨u4, u5⟩ := b1.cell2
  have b2 := b2.ext x4
  obtain ⟨u6, u7, u8⟩ := b2.cell3
  have t0 := b0.lt
  have t1 := b1.lt
  have t2 := b2.lt
  have f2 := b2.free
  have h0 : w4.heap.size ≠ w.heap.size + 1 + 1 := by omega
  clear hgg hL
  go_wp2
  go_region
  go_wp2
  exact bodyPost_ret (v := .tuple #[.agg #[.int .i64 (l % (a * b)), .int .i64 (l / (a * b) / d), .int .i64 (l / (a * b) % d)], .bool true]) (by simp [results, Try.results31, go_sem, put3o0 b2, put3o1 b2, put3o2 b2]) rfl ⟨rfl, (by repeat (first | exact Ext.refl _ | assumption | refine Ext.alloc ?_ _ | refine Ext.drew ?_ | refine Ext.drewN ?_ _ | refine Ext.setCell ?_ (by first | exact Nat.le_refl _ | (simp; done) | (simp; omega) | omega) _ | (apply Ext.trans; rotate_left; assumption)))⟩

theorem spec_mapLine_f2 (a b c d l : Int) (hL : btw l 0 (lineF a b c d - 1) = true) (w : World) : Calls Try.prog 31 #[.agg #[.int .i64 a, .int .i64 b, .int .i64 c, .int .i64 d], .agg #[.int .i64 2, .bool false], .int .i64 l] w fun e w' => e = .returned (.tuple #[.agg #[.int .i64 (l / d / c), .int .i64 (l / d % c), .int .i64 (l % d)], .bool true]) ∧ Ext w w' := by
  have hr := lineF_range a b c d
  have l0 := (btw_iff.1 hL).1
  have l1 := (btw_iff.1 hL).2
  have hgg := lineF_pos (a := a) (b := b) (c := c) (d := d) (by omega)
  have hN := bank_range hgg
  have hF := bankF_yes hgg
  obtain ⟨_, _, ⟨c0, c1⟩, ⟨d0, d1⟩⟩ := geoB_iff.1 hgg
  have hO : btw 2 0 2 = true := btw_true (by omega) (by omega)
  have q0 : 0 ≤ l / d := Int.ediv_nonneg l0 (by omega)
  have q1 : l / d ≤ l := Int.ediv_le_self _ l0
  have r0 : 0 ≤ l / d % c := Int.emod_nonneg _ (by omega)
  have r1 : l / d % c ≤ 1024 := by have := Int.emod_lt_of_pos (l / d) (b := c) (by omega); omega
  have s0 : 0 ≤ l / d / c := Int.ediv_nonneg q0 (by omega)
  have s1 : l / d / c ≤ 1024 := by have := Int.ediv_le_self c q0; omega
  go_enter Try.func31, Try.ntmps31
  go_wp2_with fail
  refine (spec_mappingOk _ _ _).mono ?_
  rintro e w2 ⟨rfl, x2⟩
  have b0 := (((Box.new w _ _).alloc _).alloc _).ext x2
  have l20 := b0.lt
  obtain ⟨q200, q201, q202, q203⟩ := b0.cell4
  have b1 := ((Box.new_at (w.alloc _) _ _ (w.heap.size + 1) (by simp)).alloc _).ext x2
  have l21 := b1.lt
  obtain ⟨q210, q211⟩ := b1.cell2
  have b2 := (Box.new_at ((w.alloc _).alloc _) _ _ (w.heap.size + 1 + 1) (by simp)).ext x2
  have l22 := b2.lt
  obtain ⟨q220, q221, q222⟩ := b2.cell3
  go_wp2_with fail
  refine (spec_lineCount _ _ _ _ _).mono ?_
  rintro e w3 ⟨rfl, x3⟩
  have b0 := b0.ext x3
  have l30 := b0.lt
  obtain ⟨q300, q301, q302, q303⟩ := b0.cell4
  have b1 := b1.ext x3
  have l31 := b1.lt
  obtain ⟨q310, q311⟩ := b1.cell2
  have b2 := b2.ext x3
  have l32 := b2.lt
  obtain ⟨q320, q321, q322⟩ := b2.cell3
  go_wp2_with (go_at_call 48; refine (spec_in _ _ _ _).mono ?_; rintro e w' ⟨rfl, rfl⟩)
  go_wp2_with fail
  refine (spec_bankCount _ _ _ _ _).mono ?_
  rintro e w4 ⟨rfl, x4⟩
  have b0 := b0.ext x4
  obtain ⟨u0, u1, u2, u3⟩ := b0.cell4
  have b1 := b1.ext x4
  obtain ⟨u4, u5⟩ := b1.cell2
  have b2 := b2.ext x4
  obtain ⟨u6, u7, u8⟩ := b2.cell3
  have t0 := b0.lt
  have t1 := b1.lt
  have t2 := b2.lt
  have f2 := b2.free
  have h0 : w4.heap.size ≠ w.heap.size + 1 + 1 := by omega
  clear hgg hL
  go_wp2
  go_region
  go_wp2
  exact bodyPost_ret (v := .tuple #[.agg #[.int .i64 (l / d / c), .int .i64 (l / d % c), .int .i64 (l % d)], .bool true]) (by simp [results, Try.results31, go_sem, put3o0 b2, put3o1 b2, put3o2 b2]) rfl ⟨rfl, (by repeat (first | exact Ext.refl _ | assumption | refine Ext.alloc ?_ _ | refine Ext.drew ?_ | refine Ext.drewN ?_ _ | refine Ext.setCell ?_ (by first | exact Nat.le_refl _ | (simp; done) | (simp; omega) | omega) _ | (apply Ext.trans; rotate_left; assumption)))⟩

theorem impl_mapLine_nog (a b c d o l : Int) (h : Bool) (hg : geoB a b c d = false) (w : World) : Calls Try.prog 33 #[.agg #[.int .i64 a, .int .i64 b, .int .i64 c, .int .i64 d], .agg #[.int .i64 o, .bool h], .int .i64 l] w fun e w' => e = .returned (.tuple #[.agg #[.int .i64 0, .int .i64 0, .int .i64 0], .bool false]) ∧ Ext w w' := by
  have hr := lineF_range a b c d
  go_enter Try.func33, Try.ntmps33
  go_wp2_with fail
  refine (impl_geometryOk _ _ _ _ _).mono ?_
  rintro e w1 ⟨rfl, x1⟩
  have b0 := (((Box.new w _ _).alloc _).alloc _).ext x1
  have l10 := b0.lt
  obtain ⟨q100, q101, q102, q103⟩ := b0.cell4
  have b1 := ((Box.new_at (w.alloc _) _ _ (w.heap.size + 1) (by simp)).alloc _).ext x1
  have l11 := b1.lt
  obtain ⟨q110, q111⟩ := b1.cell2
  have b2 := (Box.new_at ((w.alloc _).alloc _) _ _ (w.heap.size + 1 + 1) (by simp)).ext x1
  have l12 := b2.lt
  obtain ⟨q120, q121, q122⟩ := b2.cell3
  have f2 := b2.free
  go_wp2_with (go_at_call 49; refine (impl_between _ _ _ _).mono ?_; rintro e w' ⟨rfl, rfl⟩)
  exact bodyPost_ret (v := .tuple #[.agg #[.int .i64 0, .int .i64 0, .int .i64 0], .bool false]) (by simp [results, Try.results33, go_sem, b2.put30, b2.put31, b2.put32]) rfl ⟨rfl, (by repeat (first | exact Ext.refl _ | assumption | refine Ext.alloc ?_ _ | refine Ext.drew ?_ | refine Ext.drewN ?_ _ | refine Ext.setCell ?_ (by first | exact Nat.le_refl _ | (simp; done) | (simp; omega) | omega) _ | (apply Ext.trans; rotate_left; assumption)))⟩

theorem impl_mapLine_noo (a b c d o l : Int) (h : Bool) (hg : geoB a b c d = true) (hO : btw o 0 2 = false) (w : World) : Calls Try.prog 33 #[.agg #[.int .i64 a, .int .i64 b, .int .i64 c, .int .i64 d], .agg #[.int .i64 o, .bool h], .int .i64 l] w fun e w' => e = .returned (.tuple #[.agg #[.int .i64 0, .int .i64 0, .int .i64 0], .bool false]) ∧ Ext w w' := by
  have hr := lineF_range a b c d
  go_enter Try.func33, Try.ntmps33
  go_wp2_with fail
  refine (impl_geometryOk _ _ _ _ _).mono ?_
  rintro e w1 ⟨rfl, x1⟩
  have b0 := (((Box.new w _ _).alloc _).alloc _).ext x1
  have l10 := b0.lt
  obtain ⟨q100, q101, q102, q103⟩ := b0.cell4
  have b1 := ((Box.new_at (w.alloc _) _ _ (w.heap.size + 1) (by simp)).alloc _).ext x1
  have l11 := b1.lt
  obtain ⟨q110, q111⟩ := b1.cell2
  have b2 := (Box.new_at ((w.alloc _).alloc _) _ _ (w.heap.size + 1 + 1) (by simp)).ext x1
  have l12 := b2.lt
  obtain ⟨q120, q121, q122⟩ := b2.cell3
  go_wp2_with fail
  refine (impl_mappingOk _ _ _).mono ?_
  rintro e w2 ⟨rfl, x2⟩
  have b0 := b0.ext x2
  have l20 := b0.lt
  obtain ⟨q200, q201, q202, q203⟩ := b0.cell4
  have b1 := b1.ext x2
  have l21 := b1.lt
  obtain ⟨q210, q211⟩ := b1.cell2
  have b2 := b2.ext x2
  have l22 := b2.lt
  obtain ⟨q220, q221, q222⟩ := b2.cell3
  have f2 := b2.free
  go_wp2_with (go_at_call 49; refine (impl_between _ _ _ _).mono ?_; rintro e w' ⟨rfl, rfl⟩)
  exact bodyPost_ret (v := .tuple #[.agg #[.int .i64 0, .int .i64 0, .int .i64 0], .bool false]) (by simp [results, Try.results33, go_sem, b2.put30, b2.put31, b2.put32]) rfl ⟨rfl, (by repeat (first | exact Ext.refl _ | assumption | refine Ext.alloc ?_ _ | refine Ext.drew ?_ | refine Ext.drewN ?_ _ | refine Ext.setCell ?_ (by first | exact Nat.le_refl _ | (simp; done) | (simp; omega) | omega) _ | (apply Ext.trans; rotate_left; assumption)))⟩

theorem impl_mapLine_nol (a b c d o l : Int) (h : Bool) (hg : geoB a b c d = true) (hO : btw o 0 2 = true) (hL : btw l 0 (lineF a b c d - 1) = false) (w : World) : Calls Try.prog 33 #[.agg #[.int .i64 a, .int .i64 b, .int .i64 c, .int .i64 d], .agg #[.int .i64 o, .bool h], .int .i64 l] w fun e w' => e = .returned (.tuple #[.agg #[.int .i64 0, .int .i64 0, .int .i64 0], .bool false]) ∧ Ext w w' := by
  have hr := lineF_range a b c d
  go_enter Try.func33, Try.ntmps33
  go_wp2_with fail
  refine (impl_geometryOk _ _ _ _ _).mono ?_
  rintro e w1 ⟨rfl, x1⟩
  have b0 := (((Box.new w _ _).alloc _).alloc _).ext x1
  have l10 := b0.lt
  obtain ⟨q100, q101, q102, q103⟩ := b0.cell4
  have b1 := ((Box.new_at (w.alloc _) _ _ (w.heap.size + 1) (by simp)).alloc _).ext x1
  have l11 := b1.lt
  obtain ⟨q110, q111⟩ := b1.cell2
  have b2 := (Box.new_at ((w.alloc _).alloc _) _ _ (w.heap.size + 1 + 1) (by simp)).ext x1
  have l12 := b2.lt
  obtain ⟨q120, q121, q122⟩ := b2.cell3
  go_wp2_with fail
  refine (impl_mappingOk _ _ _).mono ?_
  rintro e w2 ⟨rfl, x2⟩
  have b0 := b0.ext x2
  have l20 := b0.lt
  obtain ⟨q200, q201, q202, q203⟩ := b0.cell4
  have b1 := b1.ext x2
  have l21 := b1.lt
  obtain ⟨q210, q211⟩ := b1.cell2
  have b2 := b2.ext x2
  have l22 := b2.lt
  obtain ⟨q220, q221, q222⟩ := b2.cell3
  go_wp2_with fail
  refine (impl_lineCount _ _ _ _ _).mono ?_
  rintro e w3 ⟨rfl, x3⟩
  have b0 := b0.ext x3
  have l30 := b0.lt
  obtain ⟨q300, q301, q302, q303⟩ := b0.cell4
  have b1 := b1.ext x3
  have l31 := b1.lt
  obtain ⟨q310, q311⟩ := b1.cell2
  have b2 := b2.ext x3
  have l32 := b2.lt
  obtain ⟨q320, q321, q322⟩ := b2.cell3
  have f2 := b2.free
  go_wp2_with (go_at_call 49; refine (impl_between _ _ _ _).mono ?_; rintro e w' ⟨rfl, rfl⟩)
  exact bodyPost_ret (v := .tuple #[.agg #[.int .i64 0, .int .i64 0, .int .i64 0], .bool false]) (by simp [results, Try.results33, go_sem, b2.put30, b2.put31, b2.put32]) rfl ⟨rfl, (by repeat (first | exact Ext.refl _ | assumption | refine Ext.alloc ?_ _ | refine Ext.drew ?_ | refine Ext.drewN ?_ _ | refine Ext.setCell ?_ (by first | exact Nat.le_refl _ | (simp; done) | (simp; omega) | omega) _ | (apply Ext.trans; rotate_left; assumption)))⟩

theorem spec_mapLine_noo (a b c d o l : Int) (h : Bool) (hO : btw o 0 2 = false) (w : World) : Calls Try.prog 31 #[.agg #[.int .i64 a, .int .i64 b, .int .i64 c, .int .i64 d], .agg #[.int .i64 o, .bool h], .int .i64 l] w fun e w' => e = .returned (.tuple #[.agg #[.int .i64 0, .int .i64 0, .int .i64 0], .bool false]) ∧ Ext w w' := by
  have hr := lineF_range a b c d
  go_enter Try.func31, Try.ntmps31
  go_wp2_with fail
  refine (spec_mappingOk _ _ _).mono ?_
  rintro e w2 ⟨rfl, x2⟩
  have b0 := (((Box.new w _ _).alloc _).alloc _).ext x2
  have l20 := b0.lt
  obtain ⟨q200, q201, q202, q203⟩ := b0.cell4
  have b1 := ((Box.new_at (w.alloc _) _ _ (w.heap.size + 1) (by simp)).alloc _).ext x2
  have l21 := b1.lt
  obtain ⟨q210, q211⟩ := b1.cell2
  have b2 := (Box.new_at ((w.alloc _).alloc _) _ _ (w.heap.size + 1 + 1) (by simp)).ext x2
  have l22 := b2.lt
  obtain ⟨q220, q221, q222⟩ := b2.cell3
  have f2 := b2.free
  go_wp2_with (go_at_call 48; refine (spec_in _ _ _ _).mono ?_; rintro e w' ⟨rfl, rfl⟩)
  exact bodyPost_ret (v := .tuple #[.agg #[.int .i64 0, .int .i64 0, .int .i64 0], .bool false]) (by simp [results, Try.results31, go_sem, b2.put30, b2.put31, b2.put32]) rfl ⟨rfl, (by repeat (first | exact Ext.refl _ | assumption | refine Ext.alloc ?_ _ | refine Ext.drew ?_ | refine Ext.drewN ?_ _ | refine Ext.setCell ?_ (by first | exact Nat.le_refl _ | (simp; done) | (simp; omega) | omega) _ | (apply Ext.trans; rotate_left; assumption)))⟩

theorem spec_mapLine_nol (a b c d o l : Int) (h : Bool) (hO : btw o 0 2 = true) (hL : btw l 0 (lineF a b c d - 1) = false) (w : World) : Calls Try.prog 31 #[.agg #[.int .i64 a, .int .i64 b, .int .i64 c, .int .i64 d], .agg #[.int .i64 o, .bool h], .int .i64 l] w fun e w' => e = .returned (.tuple #[.agg #[.int .i64 0, .int .i64 0, .int .i64 0], .bool false]) ∧ Ext w w' := by
  have hr := lineF_range a b c d
  go_enter Try.func31, Try.ntmps31
  go_wp2_with fail
  refine (spec_mappingOk _ _ _).mono ?_
  rintro e w2 ⟨rfl, x2⟩
  have b0 := (((Box.new w _ _).alloc _).alloc _).ext x2
  have l20 := b0.lt
  obtain ⟨q200, q201, q202, q203⟩ := b0.cell4
  have b1 := ((Box.new_at (w.alloc _) _ _ (w.heap.size + 1) (by simp)).alloc _).ext x2
  have l21 := b1.lt
  obtain ⟨q210, q211⟩ := b1.cell2
  have b2 := (Box.new_at ((w.alloc _).alloc _) _ _ (w.heap.size + 1 + 1) (by simp)).ext x2
  have l22 := b2.lt
  obtain ⟨q220, q221, q222⟩ := b2.cell3
  go_wp2_with fail
  refine (spec_lineCount _ _ _ _ _).mono ?_
  rintro e w3 ⟨rfl, x3⟩
  have b0 := b0.ext x3
  have l30 := b0.lt
  obtain ⟨q300, q301, q302, q303⟩ := b0.cell4
  have b1 := b1.ext x3
  have l31 := b1.lt
  obtain ⟨q310, q311⟩ := b1.cell2
  have b2 := b2.ext x3
  have l32 := b2.lt
  obtain ⟨q320, q321, q322⟩ := b2.cell3
  have f2 := b2.free
  go_wp2_with (go_at_call 48; refine (spec_in _ _ _ _).mono ?_; rintro e w' ⟨rfl, rfl⟩)
  exact bodyPost_ret (v := .tuple #[.agg #[.int .i64 0, .int .i64 0, .int .i64 0], .bool false]) (by simp [results, Try.results31, go_sem, b2.put30, b2.put31, b2.put32]) rfl ⟨rfl, (by repeat (first | exact Ext.refl _ | assumption | refine Ext.alloc ?_ _ | refine Ext.drew ?_ | refine Ext.drewN ?_ _ | refine Ext.setCell ?_ (by first | exact Nat.le_refl _ | (simp; done) | (simp; omega) | omega) _ | (apply Ext.trans; rotate_left; assumption)))⟩

theorem impl_mapLine_no (a b c d o l : Int) (h : Bool) (hB : mapB a b c d o l = false) (w : World) : Calls Try.prog 33 #[.agg #[.int .i64 a, .int .i64 b, .int .i64 c, .int .i64 d], .agg #[.int .i64 o, .bool h], .int .i64 l] w fun e w' => e = .returned (.tuple #[.agg #[.int .i64 0, .int .i64 0, .int .i64 0], .bool false]) ∧ Ext w w' := by
  unfold mapB at hB
  cases hg : geoB a b c d with
  | false => exact impl_mapLine_nog a b c d o l h hg w
  | true =>
    cases hO : btw o 0 2 with
    | false => exact impl_mapLine_noo a b c d o l h hg hO w
    | true =>
      rw [hO, Bool.true_and] at hB
      exact impl_mapLine_nol a b c d o l h hg hO hB w

theorem spec_mapLine_no (a b c d o l : Int) (h : Bool) (hB : mapB a b c d o l = false) (w : World) : Calls Try.prog 31 #[.agg #[.int .i64 a, .int .i64 b, .int .i64 c, .int .i64 d], .agg #[.int .i64 o, .bool h], .int .i64 l] w fun e w' => e = .returned (.tuple #[.agg #[.int .i64 0, .int .i64 0, .int .i64 0], .bool false]) ∧ Ext w w' := by
  unfold mapB at hB
  cases hO : btw o 0 2 with
  | false => exact spec_mapLine_noo a b c d o l h hO w
  | true =>
    rw [hO, Bool.true_and] at hB
    exact spec_mapLine_nol a b c d o l h hO hB w

theorem impl_mapLine_yes (a b c d o l : Int) (h : Bool) (hB : mapB a b c d o l = true) (w : World) : Calls Try.prog 33 #[.agg #[.int .i64 a, .int .i64 b, .int .i64 c, .int .i64 d], .agg #[.int .i64 o, .bool h], .int .i64 l] w fun e w' => e = .returned (.tuple #[.agg #[.int .i64 (mapM (a * b) c d o h l).1, .int .i64 (mapM (a * b) c d o h l).2.1, .int .i64 (mapM (a * b) c d o h l).2.2], .bool true]) ∧ Ext w w' := by
  unfold mapB at hB
  obtain ⟨hO, hL⟩ := Bool.and_eq_true_iff.1 hB
  cases h with
  | false =>
    rcases order_cases hO with rfl | rfl | rfl
    · exact impl_mapLine_f0 a b c d l hL w
    · exact impl_mapLine_f1 a b c d l hL w
    · exact impl_mapLine_f2 a b c d l hL w
  | true =>
    rcases order_cases hO with rfl | rfl | rfl
    · exact impl_mapLine_t0 a b c d l hL w
    · exact impl_mapLine_t1 a b c d l hL w
    · exact impl_mapLine_t2 a b c d l hL w

theorem spec_mapLine_yes (a b c d o l : Int) (h : Bool) (hB : mapB a b c d o l = true) (w : World) : Calls Try.prog 31 #[.agg #[.int .i64 a, .int .i64 b, .int .i64 c, .int .i64 d], .agg #[.int .i64 o, .bool h], .int .i64 l] w fun e w' => e = .returned (.tuple #[.agg #[.int .i64 (mapM (a * b) c d o h l).1, .int .i64 (mapM (a * b) c d o h l).2.1, .int .i64 (mapM (a * b) c d o h l).2.2], .bool true]) ∧ Ext w w' := by
  unfold mapB at hB
  obtain ⟨hO, hL⟩ := Bool.and_eq_true_iff.1 hB
  cases h with
  | false =>
    rcases order_cases hO with rfl | rfl | rfl
    · exact spec_mapLine_f0 a b c d l hL w
    · exact spec_mapLine_f1 a b c d l hL w
    · exact spec_mapLine_f2 a b c d l hL w
  | true =>
    rcases order_cases hO with rfl | rfl | rfl
    · exact spec_mapLine_t0 a b c d l hL w
    · exact spec_mapLine_t1 a b c d l hL w
    · exact spec_mapLine_t2 a b c d l hL w

end Go.Proofs.Ytdaphamplgcccaa