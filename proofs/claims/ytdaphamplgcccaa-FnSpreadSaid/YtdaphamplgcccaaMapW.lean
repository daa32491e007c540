/- Contracts of LineOf and MapLine of both sides. -/
import Derived.Test.YtdaphamplgcccaaGeoF
import Derived.Test.YtdaphamplgcccaaMapP
import Derived.BigRegion
namespace Go.Proofs.Ytdaphamplgcccaa
open Go.RowKit

theorem modulo_any (x n : Int) (h1 : 1 ≤ n) (h2 : n ≤ 8) (h3 : -1000 ≤ x) (h4 : x ≤ 1000) (w : World) : Calls Try.prog 51 #[.int .i64 x, .int .i64 n] w fun e w' => e = .returned (.int .i64 (x % n)) ∧ w = w' := by
  have r0 := Int.emod_nonneg x (b := n) (by omega)
  have r1 := Int.emod_lt_of_pos x (b := n) (by omega)
  by_cases hx : 0 ≤ x
  · go_enter Try.func51, Try.ntmps51
    go_wp2
    go_ret
    exact ⟨rfl, rfl⟩
  · have ht := Int.tmod_eq_emod (a := x) (b := n)
    by_cases hd : n ∣ x
    · rw [if_pos (.inr hd), Int.emod_eq_zero_of_dvd hd] at ht
      have ht' : x.tmod n = 0 := by omega
      have hz : x % n = 0 := Int.emod_eq_zero_of_dvd hd
      rw [hz]
      clear r0 r1 hz ht hd
      go_enter Try.func51, Try.ntmps51
      go_wp2
      go_ret
      exact ⟨rfl, rfl⟩
    · rw [if_neg (by simp [hx, hd])] at ht
      have hnz : x % n ≠ 0 := fun e => hd (Int.dvd_of_emod_eq_zero e)
      have ht' : x.tmod n = x % n - n := by omega
      have hs : x % n - n + n = x % n := by omega
      clear ht hd hnz
      go_enter Try.func51, Try.ntmps51
      go_wp2
      go_ret
      exact ⟨rfl, rfl⟩

theorem join_facts {x y p q K : Int} (h0 : 0 ≤ x) (h1 : x < p) (h2 : 0 ≤ y) (h3 : y < q) (hK : p * q ≤ K) : (0 ≤ x * q ∧ x * q ≤ K) ∧ (0 ≤ x * q + y ∧ x * q + y < p * q) := by
  have h4 := join_lt (p := p) (q := q) h0 h1 h2 h3
  have h5 : 0 ≤ x * q := Int.mul_nonneg h0 (by omega)
  omega
theorem cn_range {a b c d : Int} (h : geoB a b c d = true) : c * (a * b) ≤ 128 ∧ c * (a * b) * d ≤ 1024 ∧ c * d ≤ 128 ∧ c * d * (a * b) ≤ 1024 ∧ a * b * c ≤ 128 ∧ a * b * c * d ≤ 1024 := by
  have h1 := bankrow_range h
  have h2 := line_range h
  obtain ⟨_, _, ⟨c0, c1⟩, ⟨d0, d1⟩⟩ := geoB_iff.1 h
  have h3 : c * d ≤ 16 * 8 := Int.mul_le_mul c1 d1 (by omega) (by omega)
  have e1 : c * (a * b) = a * b * c := Int.mul_comm _ _
  have e2 : c * (a * b) * d = a * b * c * d := by rw [e1]
  have e3 : c * d * (a * b) = a * b * c * d := by rw [Int.mul_comm, ← Int.mul_assoc]
  omega

def lineOfF (a b c d o : Int) (h : Bool) (x y z : Int) : Int := if addrB a b c d x y z && btw o 0 2 then lineM (a * b) c d o h (x, y, z) else -1
theorem order_cases {o : Int} (h : btw o 0 2 = true) : o = 0 ∨ o = 1 ∨ o = 2 := by have := btw_iff.1 h; omega

theorem impl_lineOf_t0 (a b c d x y z : Int) (hA : addrB a b c d x y z = true) (w : World) : Calls Try.prog 35 #[.agg #[.int .i64 a, .int .i64 b, .int .i64 c, .int .i64 d], .agg #[.int .i64 0, .bool true], .agg #[.int .i64 x, .int .i64 y, .int .i64 z]] w fun e w' => e = .returned (.int .i64 ((y * (a * b) + ((x - y) % (a * b))) * d + z)) ∧ Ext w w' := by
  obtain ⟨hg, ⟨x0, x1⟩, ⟨y0, y1⟩, ⟨z0, z1⟩⟩ := addrB_iff.1 hA
  have hg' := Lib.hid hg
  clear hg
  have cn := cn_range hg'.out
  have hr := bank_range hg'.out
  have hF := bankF_yes hg'.out
  have hO : btw 0 0 2 = true := btw_true (by omega) (by omega)
  obtain ⟨_, _, ⟨c0, c1⟩, ⟨d0, d1⟩⟩ := geoB_iff.1 hg'.out
  have k0 : 0 ≤ ((x - y) % (a * b)) := Int.emod_nonneg _ (by omega)
  have k1 : ((x - y) % (a * b)) < a * b := Int.emod_lt_of_pos _ (by omega)
  have j1 := join_facts (x := y) (y := ((x - y) % (a * b))) (p := c) (q := a * b) y0 (by omega) k0 k1 cn.1
  have j2 := join_facts (x := y * (a * b) + ((x - y) % (a * b))) (y := z) (p := c * (a * b)) (q := d) j1.2.1 j1.2.2 z0 (by omega) cn.2.1
  go_enter Try.func35, Try.ntmps35
  go_wp2_with fail
  refine (impl_addrOk _ _ _ _ _ _ _ _).mono ?_
  rintro e w1 ⟨rfl, x1⟩
  have b0 := (((Box.new w _ _).alloc _).alloc _).ext x1
  have l10 := b0.lt
  obtain ⟨q100, q101, q102, q103⟩ := b0.cell4
  have b1 := ((Box.new_at (w.alloc _) _ _ (w.heap.size + 1) (by simp)).alloc _).ext x1
  have l11 := b1.lt
  obtain ⟨q110, q111⟩ := b1.cell2
  have b2 := (Box.new_at ((w.alloc _).alloc _) _ _ (w.heap.size + 1 + 1) (by simp)).ext x1
  have l12 := b2.lt
  obtain ⟨q120, q121, q122⟩ := b2.cell3
  go_wp2_with fail
  refine (impl_mappingOk _ _ _).mono ?_
  rintro e w2 ⟨rfl, x2⟩
  have b0 := b0.ext x2
  have l20 := b0.lt
  obtain ⟨q200, q201, q202, q203⟩ := b0.cell4
  have b1 := b1.ext x2
  have l21 := b1.lt
  obtain ⟨q210, q211⟩ := b1.cell2
  have b2 := b2.ext x2
  have l22 := b2.lt
  obtain ⟨q220, q221, q222⟩ := b2.cell3
  go_wp2_with fail
  refine (impl_bankCount _ _ _ _ _).mono ?_
  rintro e w3 ⟨rfl, x3⟩
  have b0 := b0.ext x3
  have l30 := b0.lt
  obtain ⟨q300, q301, q302, q303⟩ := b0.cell4
  have b1 := b1.ext x3
  have l31 := b1.lt
  obtain ⟨q310, q311⟩ := b1.cell2
  have b2 := b2.ext x3
  have l32 := b2.lt
  obtain ⟨q320, q321, q322⟩ := b2.cell3
  have s0 := b2.put30
  have fr := b2.free
  go_wp2_with fail
  refine (modulo_any _ _ (by omega) (by omega) (by omega) (by omega) _).mono ?_
  rintro e w' ⟨rfl, rfl⟩
  go_wp2
  go_ret
  exact ⟨rfl, (by repeat (first | exact Ext.refl _ | assumption | refine Ext.alloc ?_ _ | refine Ext.drew ?_ | refine Ext.drewN ?_ _ | refine Ext.setCell ?_ (by first | exact Nat.le_refl _ | (simp; done) | (simp; omega) | omega) _ | (apply Ext.trans; rotate_left; assumption)))⟩

theorem impl_lineOf_t1 (a b c d x y z : Int) (hA : addrB a b c d x y z = true) (w : World) : Calls Try.prog 35 #[.agg #[.int .i64 a, .int .i64 b, .int .i64 c, .int .i64 d], .agg #[.int .i64 1, .bool true], .agg #[.int .i64 x, .int .i64 y, .int .i64 z]] w fun e w' => e = .returned (.int .i64 ((y * d + z) * (a * b) + ((x - y) % (a * b)))) ∧ Ext w w' := by
  obtain ⟨hg, ⟨x0, x1⟩, ⟨y0, y1⟩, ⟨z0, z1⟩⟩ := addrB_iff.1 hA
  have hg' := Lib.hid hg
  clear hg
  have cn := cn_range hg'.out
  have hr := bank_range hg'.out
  have hF := bankF_yes hg'.out
  have hO : btw 1 0 2 = true := btw_true (by omega) (by omega)
  obtain ⟨_, _, ⟨c0, c1⟩, ⟨d0, d1⟩⟩ := geoB_iff.1 hg'.out
  have k0 : 0 ≤ ((x - y) % (a * b)) := Int.emod_nonneg _ (by omega)
  have k1 : ((x - y) % (a * b)) < a * b := Int.emod_lt_of_pos _ (by omega)
  have j1 := join_facts (x := y) (y := z) (p := c) (q := d) y0 (by omega) z0 (by omega) cn.2.2.1
  have j2 := join_facts (x := y * d + z) (y := ((x - y) % (a * b))) (p := c * d) (q := a * b) j1.2.1 j1.2.2 k0 k1 cn.2.2.2.1
  go_enter Try.func35, Try.ntmps35
  go_wp2_with fail
  refine (impl_addrOk _ _ _ _ _ _ _ _).mono ?_
  rintro e w1 ⟨rfl, x1⟩
  have b0 := (((Box.new w _ _).alloc _).alloc _).ext x1
  have l10 := b0.lt
  obtain ⟨q100, q101, q102, q103⟩ := b0.cell4
  have b1 := ((Box.new_at (w.alloc _) _ _ (w.heap.size + 1) (by simp)).alloc _).ext x1
  have l11 := b1.lt
  obtain ⟨q110, q111⟩ := b1.cell2
  have b2 := (Box.new_at ((w.alloc _).alloc _) _ _ (w.heap.size + 1 + 1) (by simp)).ext x1
  have l12 := b2.lt
  obtain ⟨q120, q121, q122⟩ := b2.cell3
  go_wp2_with fail
  refine (impl_mappingOk _ _ _).mono ?_
  rintro e w2 ⟨rfl, x2⟩
  have b0 := b0.ext x2
  have l20 := b0.lt
  obtain ⟨q200, q201, q202, q203⟩ := b0.cell4
  have b1 := b1.ext x2
  have l21 := b1.lt
  obtain ⟨q210, q211⟩ := b1.cell2
  have b2 := b2.ext x2
  have l22 := b2.lt
  obtain ⟨q220, q221, q222⟩ := b2.cell3
  go_wp2_with fail
  refine (impl_bankCount _ _ _ _ _).mono ?_
  rintro e w3 ⟨rfl, x3⟩
  have b0 := b0.ext x3
  have l30 := b0.lt
  obtain ⟨q300, q301, q302, q303⟩ := b0.cell4
  have b1 := b1.ext x3
  have l31 := b1.lt
  obtain ⟨q310, q311⟩ := b1.cell2
  have b2 := b2.ext x3
  have l32 := b2.lt
  obtain ⟨q320, q321, q322⟩ := b2.cell3
  have s0 := b2.put30
  have fr := b2.free
  go_wp2_with fail
  refine (modulo_any _ _ (by omega) (by omega) (by omega) (by omega) _).mono ?_
  rintro e w' ⟨rfl, rfl⟩
  go_wp2
  go_ret
  exact ⟨rfl, (by repeat (first | exact Ext.refl _ | assumption | refine Ext.alloc ?_ _ | refine Ext.drew ?_ | refine Ext.drewN ?_ _ | refine Ext.setCell ?_ (by first | exact Nat.le_refl _ | (simp; done) | (simp; omega) | omega) _ | (apply Ext.trans; rotate_left; assumption)))⟩

theorem impl_lineOf_t2 (a b c d x y z : Int) (hA : addrB a b c d x y z = true) (w : World) : Calls Try.prog 35 #[.agg #[.int .i64 a, .int .i64 b, .int .i64 c, .int .i64 d], .agg #[.int .i64 2, .bool true], .agg #[.int .i64 x, .int .i64 y, .int .i64 z]] w fun e w' => e = .returned (.int .i64 ((((x - y) % (a * b)) * c + y) * d + z)) ∧ Ext w w' := by
  obtain ⟨hg, ⟨x0, x1⟩, ⟨y0, y1⟩, ⟨z0, z1⟩⟩ := addrB_iff.1 hA
  have hg' := Lib.hid hg
  clear hg
  have cn := cn_range hg'.out
  have hr := bank_range hg'.out
  have hF := bankF_yes hg'.out
  have hO : btw 2 0 2 = true := btw_true (by omega) (by omega)
  obtain ⟨_, _, ⟨c0, c1⟩, ⟨d0, d1⟩⟩ := geoB_iff.1 hg'.out
  have k0 : 0 ≤ ((x - y) % (a * b)) := Int.emod_nonneg _ (by omega)
  have k1 : ((x - y) % (a * b)) < a * b := Int.emod_lt_of_pos _ (by omega)
  have j1 := join_facts (x := ((x - y) % (a * b))) (y := y) (p := a * b) (q := c) k0 k1 y0 (by omega) cn.2.2.2.2.1
  have j2 := join_facts (x := ((x - y) % (a * b)) * c + y) (y := z) (p := a * b * c) (q := d) j1.2.1 j1.2.2 z0 (by omega) cn.2.2.2.2.2
  go_enter Try.func35, Try.ntmps35
  go_wp2_with fail
  refine (impl_addrOk _ _ _ _ _ _ _ _).mono ?_
  rintro e w1 ⟨rfl, x1⟩
  have b0 := (((Box.new w _ _).alloc _).alloc _).ext x1
  have l10 := b0.lt
  obtain ⟨q100, q101, q102, q103⟩ := b0.cell4
  have b1 := ((Box.new_at (w.alloc _) _ _ (w.heap.size + 1) (by simp)).alloc _).ext x1
  have l11 := b1.lt
  obtain ⟨q110, q111⟩ := b1.cell2
  have b2 := (Box.new_at ((w.alloc _).alloc _) _ _ (w.heap.size + 1 + 1) (by simp)).ext x1
  have l12 := b2.lt
  obtain ⟨q120, q121, q122⟩ := b2.cell3
  go_wp2_with fail
  refine (impl_mappingOk _ _ _).mono ?_
  rintro e w2 ⟨rfl, x2⟩
  have b0 := b0.ext x2
  have l20 := b0.lt
  obtain ⟨q200, q201, q202, q203⟩ := b0.cell4
  have b1 := b1.ext x2
  have l21 := b1.lt
  obtain ⟨q210, q211⟩ := b1.cell2
  have b2 := b2.ext x2
  have l22 := b2.lt
  obtain ⟨q220, q221, q222⟩ := b2.cell3
  go_wp2_with fail
  refine (impl_bankCount _ _ _ _ _).mono ?_
  rintro e w3 ⟨rfl, x3⟩
  have b0 := b0.ext x3
  have l30 := b0.lt
  obtain ⟨q300, q301, q302, q303⟩ := b0.cell4
  have b1 := b1.ext x3
  have l31 := b1.lt
  obtain ⟨q310, q311⟩ := b1.cell2
  have b2 := b2.ext x3
  have l32 := b2.lt
  obtain ⟨q320, q321, q322⟩ := b2.cell3
  have s0 := b2.put30
  have fr := b2.free
  go_wp2_with fail
  refine (modulo_any _ _ (by omega) (by omega) (by omega) (by omega) _).mono ?_
  rintro e w' ⟨rfl, rfl⟩
  go_wp2
  go_ret
  exact ⟨rfl, (by repeat (first | exact Ext.refl _ | assumption | refine Ext.alloc ?_ _ | refine Ext.drew ?_ | refine Ext.drewN ?_ _ | refine Ext.setCell ?_ (by first | exact Nat.le_refl _ | (simp; done) | (simp; omega) | omega) _ | (apply Ext.trans; rotate_left; assumption)))⟩

theorem impl_lineOf_f0 (a b c d x y z : Int) (hA : addrB a b c d x y z = true) (w : World) : Calls Try.prog 35 #[.agg #[.int .i64 a, .int .i64 b, .int .i64 c, .int .i64 d], .agg #[.int .i64 0, .bool false], .agg #[.int .i64 x, .int .i64 y, .int .i64 z]] w fun e w' => e = .returned (.int .i64 ((y * (a * b) + x) * d + z)) ∧ Ext w w' := by
  obtain ⟨hg, ⟨x0, x1⟩, ⟨y0, y1⟩, ⟨z0, z1⟩⟩ := addrB_iff.1 hA
  have hg' := Lib.hid hg
  clear hg
  have cn := cn_range hg'.out
  have hr := bank_range hg'.out
  have hF := bankF_yes hg'.out
  have hO : btw 0 0 2 = true := btw_true (by omega) (by omega)
  obtain ⟨_, _, ⟨c0, c1⟩, ⟨d0, d1⟩⟩ := geoB_iff.1 hg'.out
  have k0 : 0 ≤ x := x0
  have k1 : x < a * b := by omega
  have j1 := join_facts (x := y) (y := x) (p := c) (q := a * b) y0 (by omega) k0 k1 cn.1
  have j2 := join_facts (x := y * (a * b) + x) (y := z) (p := c * (a * b)) (q := d) j1.2.1 j1.2.2 z0 (by omega) cn.2.1
  go_enter Try.func35, Try.ntmps35
  go_wp2_with fail
  refine (impl_addrOk _ _ _ _ _ _ _ _).mono ?_
  rintro e w1 ⟨rfl, x1⟩
  have b0 := (((Box.new w _ _).alloc _).alloc _).ext x1
  have l10 := b0.lt
  obtain ⟨q100, q101, q102, q103⟩ := b0.cell4
  have b1 := ((Box.new_at (w.alloc _) _ _ (w.heap.size + 1) (by simp)).alloc _).ext x1
  have l11 := b1.lt
  obtain ⟨q110, q111⟩ := b1.cell2
  have b2 := (Box.new_at ((w.alloc _).alloc _) _ _ (w.heap.size + 1 + 1) (by simp)).ext x1
  have l12 := b2.lt
  obtain ⟨q120, q121, q122⟩ := b2.cell3
  go_wp2_with fail
  refine (impl_mappingOk _ _ _).mono ?_
  rintro e w2 ⟨rfl, x2⟩
  have b0 := b0.ext x2
  have l20 := b0.lt
  obtain ⟨q200, q201, q202, q203⟩ := b0.cell4
  have b1 := b1.ext x2
  have l21 := b1.lt
  obtain ⟨q210, q211⟩ := b1.cell2
  have b2 := b2.ext x2
  have l22 := b2.lt
  obtain ⟨q220, q221, q222⟩ := b2.cell3
  go_wp2_with fail
  refine (impl_bankCount _ _ _ _ _).mono ?_
  rintro e w3 ⟨rfl, x3⟩
  have b0 := b0.ext x3
  have l30 := b0.lt
  obtain ⟨q300, q301, q302, q303⟩ := b0.cell4
  have b1 := b1.ext x3
  have l31 := b1.lt
  obtain ⟨q310, q311⟩ := b1.cell2
  have b2 := b2.ext x3
  have l32 := b2.lt
  obtain ⟨q320, q321, q322⟩ := b2.cell3
  go_wp2
  go_ret
  exact ⟨rfl, (by repeat (first | exact Ext.refl _ | assumption | refine Ext.alloc ?_ _ | refine Ext.drew ?_ | refine Ext.drewN ?_ _ | refine Ext.setCell ?_ (by first | exact Nat.le_refl _ | (simp; done) | (simp; omega) | omega) _ | (apply Ext.trans; rotate_left; assumption)))⟩

theorem impl_lineOf_f1 (a b c d x y z : Int) (hA : addrB a b c d x y z = true) (w : World) : Calls Try.prog 35 #[.agg #[.int .i64 a, .int .i64 b, .int .i64 c, .int .i64 d], .agg #[.int .i64 1, .bool false], .agg #[.int .i64 x, .int .i64 y, .int .i64 z]] w fun e w' => e = .returned (.int .i64 ((y * d + z) * (a * b) + x)) ∧ Ext w w' := by
  obtain ⟨hg, ⟨x0, x1⟩, ⟨y0, y1⟩, ⟨z0, z1⟩⟩ := addrB_iff.1 hA
  have hg' := Lib.hid hg
  clear hg
  have cn := cn_range hg'.out
  have hr := bank_range hg'.out
  have hF := bankF_yes hg'.out
  have hO : btw 1 0 2 = true := btw_true (by omega) (by omega)
  obtain ⟨_, _, ⟨c0, c1⟩, ⟨d0, d1⟩⟩ := geoB_iff.1 hg'.out
  have k0 : 0 ≤ x := x0
  have k1 : x < a * b := by omega
  have j1 := join_facts (x := y) (y := z) (p := c) (q := d) y0 (by omega) z0 (by omega) cn.2.2.1
  have j2 := join_facts (x := y * d + z) (y := x) (p := c * d) (q := a * b) j1.2.1 j1.2.2 k0 k1 cn.2.2.2.1
  go_enter Try.func35, Try.ntmps35
  go_wp2_with fail
  refine (impl_addrOk _ _ _ _ _ _ _ _).mono ?_
  rintro e w1 ⟨rfl, x1⟩
  have b0 := (((Box.new w _ _).alloc _).alloc _).ext x1
  have l10 := b0.lt
  obtain ⟨q100, q101, q102, q103⟩ := b0.cell4
  have b1 := ((Box.new_at (w.alloc _) _ _ (w.heap.size + 1) (by simp)).alloc _).ext x1
  have l11 := b1.lt
  obtain ⟨q110, q111⟩ := b1.cell2
  have b2 := (Box.new_at ((w.alloc _).alloc _) _ _ (w.heap.size + 1 + 1) (by simp)).ext x1
  have l12 := b2.lt
  obtain ⟨q120, q121, q122⟩ := b2.cell3
  go_wp2_with fail
  refine (impl_mappingOk _ _ _).mono ?_
  rintro e w2 ⟨rfl, x2⟩
  have b0 := b0.ext x2
  have l20 := b0.lt
  obtain ⟨q200, q201, q202, q203⟩ := b0.cell4
  have b1 := b1.ext x2
  have l21 := b1.lt
  obtain ⟨q210, q211⟩ := b1.cell2
  have b2 := b2.ext x2
  have l22 := b2.lt
  obtain ⟨q220, q221, q222⟩ := b2.cell3
  go_wp2_with fail
  refine (impl_bankCount _ _ _ _ _).mono ?_
  rintro e w3 ⟨rfl, x3⟩
  have b0 := b0.ext x3
  have l30 := b0.lt
  obtain ⟨q300, q301, q302, q303⟩ := b0.cell4
  have b1 := b1.ext x3
  have l31 := b1.lt
  obtain ⟨q310, q311⟩ := b1.cell2
  have b2 := b2.ext x3
  have l32 := b2.lt
  obtain ⟨q320, q321, q322⟩ := b2.cell3
  go_wp2
  go_ret
  exact ⟨rfl, (by repeat (first | exact Ext.refl _ | assumption | refine Ext.alloc ?_ _ | refine Ext.drew ?_ | refine Ext.drewN ?_ _ | refine Ext.setCell ?_ (by first | exact Nat.le_refl _ | (simp; done) | (simp; omega) | omega) _ | (apply Ext.trans; rotate_left; assumption)))⟩

theorem impl_lineOf_f2 (a b c d x y z : Int) (hA : addrB a b c d x y z = true) (w : World) : Calls Try.prog 35 #[.agg #[.int .i64 a, .int .i64 b, .int .i64 c, .int .i64 d], .agg #[.int .i64 2, .bool false], .agg #[.int .i64 x, .int .i64 y, .int .i64 z]] w fun e w' => e = .returned (.int .i64 ((x * c + y) * d + z)) ∧ Ext w w' := by
  obtain ⟨hg, ⟨x0, x1⟩, ⟨y0, y1⟩, ⟨z0, z1⟩⟩ := addrB_iff.1 hA
  have hg' := Lib.hid hg
  clear hg
  have cn := cn_range hg'.out
  have hr := bank_range hg'.out
  have hF := bankF_yes hg'.out
  have hO : btw 2 0 2 = true := btw_true (by omega) (by omega)
  obtain ⟨_, _, ⟨c0, c1⟩, ⟨d0, d1⟩⟩ := geoB_iff.1 hg'.out
  have k0 : 0 ≤ x := x0
  have k1 : x < a * b := by omega
  have j1 := join_facts (x := x) (y := y) (p := a * b) (q := c) k0 k1 y0 (by omega) cn.2.2.2.2.1
  have j2 := join_facts (x := x * c + y) (y := z) (p := a * b * c) (q := d) j1.2.1 j1.2.2 z0 (by omega) cn.2.2.2.2.2
  go_enter Try.func35, Try.ntmps35
  go_wp2_with fail
  refine (impl_addrOk _ _ _ _ _ _ _ _).mono ?_
  rintro e w1 ⟨rfl, x1⟩
  have b0 := (((Box.new w _ _).alloc _).alloc _).ext x1
  have l10 := b0.lt
  obtain ⟨q100, q101, q102, q103⟩ := b0.cell4
  have b1 := ((Box.new_at (w.alloc _) _ _ (w.heap.size + 1) (by simp)).alloc _).ext x1
  have l11 := b1.lt
  obtain ⟨q110, q111⟩ := b1.cell2
  have b2 := (Box.new_at ((w.alloc _).alloc _) _ _ (w.heap.size + 1 + 1) (by simp)).ext x1
  have l12 := b2.lt
  obtain ⟨q120, q121, q122⟩ := b2.cell3
  go_wp2_with fail
  refine (impl_mappingOk _ _ _).mono ?_
  rintro e w2 ⟨rfl, x2⟩
  have b0 := b0.ext x2
  have l20 := b0.lt
  obtain ⟨q200, q201, q202, q203⟩ := b0.cell4
  have b1 := b1.ext x2
  have l21 := b1.lt
  obtain ⟨q210, q211⟩ := b1.cell2
  have b2 := b2.ext x2
  have l22 := b2.lt
  obtain ⟨q220, q221, q222⟩ := b2.cell3
  go_wp2_with fail
  refine (impl_bankCount _ _ _ _ _).mono ?_
  rintro e w3 ⟨rfl, x3⟩
  have b0 := b0.ext x3
  have l30 := b0.lt
  obtain ⟨q300, q301, q302, q303⟩ := b0.cell4
  have b1 := b1.ext x3
  have l31 := b1.lt
  obtain ⟨q310, q311⟩ := b1.cell2
  have b2 := b2.ext x3
  have l32 := b2.lt
  obtain ⟨q320, q321, q322⟩ := b2.cell3
  go_wp2
  go_ret
  exact ⟨rfl, (by repeat (first | exact Ext.refl _ | assumption | refine Ext.alloc ?_ _ | refine Ext.drew ?_ | refine Ext.drewN ?_ _ | refine Ext.setCell ?_ (by first | exact Nat.le_refl _ | (simp; done) | (simp; omega) | omega) _ | (apply Ext.trans; rotate_left; assumption)))⟩

theorem impl_lineOf_noa (a b c d o : Int) (h : Bool) (x y z : Int) (hA : addrB a b c d x y z = false) (w : World) : Calls Try.prog 35 #[.agg #[.int .i64 a, .int .i64 b, .int .i64 c, .int .i64 d], .agg #[.int .i64 o, .bool h], .agg #[.int .i64 x, .int .i64 y, .int .i64 z]] w fun e w' => e = .returned (.int .i64 (-1)) ∧ Ext w w' := by
  go_enter Try.func35, Try.ntmps35
  go_wp2_with fail
  refine (impl_addrOk _ _ _ _ _ _ _ _).mono ?_
  rintro e w1 ⟨rfl, x1⟩
  have b0 := (((Box.new w _ _).alloc _).alloc _).ext x1
  have l10 := b0.lt
  obtain ⟨q100, q101, q102, q103⟩ := b0.cell4
  have b1 := ((Box.new_at (w.alloc _) _ _ (w.heap.size + 1) (by simp)).alloc _).ext x1
  have l11 := b1.lt
  obtain ⟨q110, q111⟩ := b1.cell2
  have b2 := (Box.new_at ((w.alloc _).alloc _) _ _ (w.heap.size + 1 + 1) (by simp)).ext x1
  have l12 := b2.lt
  obtain ⟨q120, q121, q122⟩ := b2.cell3
  go_wp2
  go_ret
  exact ⟨rfl, (by repeat (first | exact Ext.refl _ | assumption | refine Ext.alloc ?_ _ | refine Ext.drew ?_ | refine Ext.drewN ?_ _ | refine Ext.setCell ?_ (by first | exact Nat.le_refl _ | (simp; done) | (simp; omega) | omega) _ | (apply Ext.trans; rotate_left; assumption)))⟩

theorem impl_lineOf_nom (a b c d o : Int) (h : Bool) (x y z : Int) (hA : addrB a b c d x y z = true) (hO : btw o 0 2 = false) (w : World) : Calls Try.prog 35 #[.agg #[.int .i64 a, .int .i64 b, .int .i64 c, .int .i64 d], .agg #[.int .i64 o, .bool h], .agg #[.int .i64 x, .int .i64 y, .int .i64 z]] w fun e w' => e = .returned (.int .i64 (-1)) ∧ Ext w w' := by
  go_enter Try.func35, Try.ntmps35
  go_wp2_with fail
  refine (impl_addrOk _ _ _ _ _ _ _ _).mono ?_
  rintro e w1 ⟨rfl, x1⟩
  have b0 := (((Box.new w _ _).alloc _).alloc _).ext x1
  have l10 := b0.lt
  obtain ⟨q100, q101, q102, q103⟩ := b0.cell4
  have b1 := ((Box.new_at (w.alloc _) _ _ (w.heap.size + 1) (by simp)).alloc _).ext x1
  have l11 := b1.lt
  obtain ⟨q110, q111⟩ := b1.cell2
  have b2 := (Box.new_at ((w.alloc _).alloc _) _ _ (w.heap.size + 1 + 1) (by simp)).ext x1
  have l12 := b2.lt
  obtain ⟨q120, q121, q122⟩ := b2.cell3
  go_wp2_with fail
  refine (impl_mappingOk _ _ _).mono ?_
  rintro e w2 ⟨rfl, x2⟩
  have b0 := b0.ext x2
  have l20 := b0.lt
  obtain ⟨q200, q201, q202, q203⟩ := b0.cell4
  have b1 := b1.ext x2
  have l21 := b1.lt
  obtain ⟨q210, q211⟩ := b1.cell2
  have b2 := b2.ext x2
  have l22 := b2.lt
  obtain ⟨q220, q221, q222⟩ := b2.cell3
  go_wp2
  go_ret
  exact ⟨rfl, (by repeat (first | exact Ext.refl _ | assumption | refine Ext.alloc ?_ _ | refine Ext.drew ?_ | refine Ext.drewN ?_ _ | refine Ext.setCell ?_ (by first | exact Nat.le_refl _ | (simp; done) | (simp; omega) | omega) _ | (apply Ext.trans; rotate_left; assumption)))⟩

theorem impl_lineOf (a b c d o : Int) (h : Bool) (x y z : Int) (w : World) : Calls Try.prog 35 #[.agg #[.int .i64 a, .int .i64 b, .int .i64 c, .int .i64 d], .agg #[.int .i64 o, .bool h], .agg #[.int .i64 x, .int .i64 y, .int .i64 z]] w fun e w' => e = .returned (.int .i64 (lineOfF a b c d o h x y z)) ∧ Ext w w' := by
  unfold lineOfF
  cases hO : btw o 0 2 with
  | false =>
    rw [Bool.and_false, if_neg Bool.false_ne_true]
    cases hA : addrB a b c d x y z with
    | false => exact impl_lineOf_noa a b c d o h x y z hA w
    | true => exact impl_lineOf_nom a b c d o h x y z hA hO w
  | true =>
    cases hA : addrB a b c d x y z with
    | false =>
      rw [Bool.false_and, if_neg Bool.false_ne_true]
      exact impl_lineOf_noa a b c d o h x y z hA w
    | true =>
      rw [Bool.and_self, if_pos rfl]
      cases h with
      | false =>
        rcases order_cases hO with rfl | rfl | rfl
        · exact impl_lineOf_f0 a b c d x y z hA w
        · exact impl_lineOf_f1 a b c d x y z hA w
        · exact impl_lineOf_f2 a b c d x y z hA w
      | true =>
        rcases order_cases hO with rfl | rfl | rfl
        · exact impl_lineOf_t0 a b c d x y z hA w
        · exact impl_lineOf_t1 a b c d x y z hA w
        · exact impl_lineOf_t2 a b c d x y z hA w

theorem spec_lineOf_t0 (a b c d x y z : Int) (hA : addrB a b c d x y z = true) (w : World) : Calls Try.prog 34 #[.agg #[.int .i64 a, .int .i64 b, .int .i64 c, .int .i64 d], .agg #[.int .i64 0, .bool true], .agg #[.int .i64 x, .int .i64 y, .int .i64 z]] w fun e w' => e = .returned (.int .i64 ((y * (a * b) + ((x - y) % (a * b))) * d + z)) ∧ Ext w w' := by
  obtain ⟨hg, ⟨x0, x1⟩, ⟨y0, y1⟩, ⟨z0, z1⟩⟩ := addrB_iff.1 hA
  have hg' := Lib.hid hg
  clear hg
  have cn := cn_range hg'.out
  have hr := bank_range hg'.out
  have hF := bankF_yes hg'.out
  have hO : btw 0 0 2 = true := btw_true (by omega) (by omega)
  obtain ⟨_, _, ⟨c0, c1⟩, ⟨d0, d1⟩⟩ := geoB_iff.1 hg'.out
  have k0 : 0 ≤ ((x - y) % (a * b)) := Int.emod_nonneg _ (by omega)
  have k1 : ((x - y) % (a * b)) < a * b := Int.emod_lt_of_pos _ (by omega)
  have j1 := join_facts (x := y) (y := ((x - y) % (a * b))) (p := c) (q := a * b) y0 (by omega) k0 k1 cn.1
  have j2 := join_facts (x := y * (a * b) + ((x - y) % (a * b))) (y := z) (p := c * (a * b)) (q := d) j1.2.1 j1.2.2 z0 (by omega) cn.2.1
  have m0 : 0 ≤ y % (a * b) := Int.emod_nonneg _ (by omega)
  have m1 : y % (a * b) < a * b := Int.emod_lt_of_pos _ (by omega)
  have m2 := unhash_two (n := a * b) (b := x) (r := y) (by omega) y0
  go_enter Try.func34, Try.ntmps34
  go_wp2_with fail
  refine (spec_mappingOk _ _ _).mono ?_
  rintro e w1 ⟨rfl, x1⟩
  have b0 := (((Box.new w _ _).alloc _).alloc _).ext x1
  have l10 := b0.lt
  obtain ⟨q100, q101, q102, q103⟩ := b0.cell4
  have b1 := ((Box.new_at (w.alloc _) _ _ (w.heap.size + 1) (by simp)).alloc _).ext x1
  have l11 := b1.lt
  obtain ⟨q110, q111⟩ := b1.cell2
  have b2 := (Box.new_at ((w.alloc _).alloc _) _ _ (w.heap.size + 1 + 1) (by simp)).ext x1
  have l12 := b2.lt
  obtain ⟨q120, q121, q122⟩ := b2.cell3
  go_wp2_with fail
  refine (spec_addrOk _ _ _ _ _ _ _ _).mono ?_
  rintro e w2 ⟨rfl, x2⟩
  have b0 := b0.ext x2
  have l20 := b0.lt
  obtain ⟨q200, q201, q202, q203⟩ := b0.cell4
  have b1 := b1.ext x2
  have l21 := b1.lt
  obtain ⟨q210, q211⟩ := b1.cell2
  have b2 := b2.ext x2
  have l22 := b2.lt
  obtain ⟨q220, q221, q222⟩ := b2.cell3
  go_wp2_with fail
  refine (spec_bankCount _ _ _ _ _).mono ?_
  rintro e w3 ⟨rfl, x3⟩
  have b0 := b0.ext x3
  have l30 := b0.lt
  obtain ⟨q300, q301, q302, q303⟩ := b0.cell4
  have b1 := b1.ext x3
  have l31 := b1.lt
  obtain ⟨q310, q311⟩ := b1.cell2
  have b2 := b2.ext x3
  have l32 := b2.lt
  obtain ⟨q320, q321, q322⟩ := b2.cell3
  have s0 := b2.put30
  have fr := b2.free
  go_wp2_with fail
  go_region
  go_wp2
  go_ret
  exact ⟨rfl, (by repeat (first | exact Ext.refl _ | assumption | refine Ext.alloc ?_ _ | refine Ext.drew ?_ | refine Ext.drewN ?_ _ | refine Ext.setCell ?_ (by first | exact Nat.le_refl _ | (simp; done) | (simp; omega) | omega) _ | (apply Ext.trans; rotate_left; assumption)))⟩

theorem spec_lineOf_t1 (a b c d x y z : Int) (hA : addrB a b c d x y z = true) (w : World) : Calls Try.prog 34 #[.agg #[.int .i64 a, .int .i64 b, .int .i64 c, .int .i64 d], .agg #[.int .i64 1, .bool true], .agg #[.int .i64 x, .int .i64 y, .int .i64 z]] w fun e w' => e = .returned (.int .i64 ((y * d + z) * (a * b) + ((x - y) % (a * b)))) ∧ Ext w w' := by
  obtain ⟨hg, ⟨x0, x1⟩, ⟨y0, y1⟩, ⟨z0, z1⟩⟩ := addrB_iff.1 hA
  have hg' := Lib.hid hg
  clear hg
  have cn := cn_range hg'.out
  have hr := bank_range hg'.out
  have hF := bankF_yes hg'.out
  have hO : btw 1 0 2 = true := btw_true (by omega) (by omega)
  obtain ⟨_, _, ⟨c0, c1⟩, ⟨d0, d1⟩⟩ := geoB_iff.1 hg'.out
  have k0 : 0 ≤ ((x - y) % (a * b)) := Int.emod_nonneg _ (by omega)
  have k1 : ((x - y) % (a * b)) < a * b := Int.emod_lt_of_pos _ (by omega)
  have j1 := join_facts (x := y) (y := z) (p := c) (q := d) y0 (by omega) z0 (by omega) cn.2.2.1
  have j2 := join_facts (x := y * d + z) (y := ((x - y) % (a * b))) (p := c * d) (q := a * b) j1.2.1 j1.2.2 k0 k1 cn.2.2.2.1
  have m0 : 0 ≤ y % (a * b) := Int.emod_nonneg _ (by omega)
  have m1 : y % (a * b) < a * b := Int.emod_lt_of_pos _ (by omega)
  have m2 := unhash_two (n := a * b) (b := x) (r := y) (by omega) y0
  go_enter Try.func34, Try.ntmps34
  go_wp2_with fail
  refine (spec_mappingOk _ _ _).mono ?_
  rintro e w1 ⟨rfl, x1⟩
  have b0 := (((Box.new w _ _).alloc _).alloc _).ext x1
  have l10 := b0.lt
  obtain ⟨q100, q101, q102, q103⟩ := b0.cell4
  have b1 := ((Box.new_at (w.alloc _) _ _ (w.heap.size + 1) (by simp)).alloc _).ext x1
  have l11 := b1.lt
  obtain ⟨q110, q111⟩ := b1.cell2
  have b2 := (Box.new_at ((w.alloc _).alloc _) _ _ (w.heap.size + 1 + 1) (by simp)).ext x1
  have l12 := b2.lt
  obtain ⟨q120, q121, q122⟩ := b2.cell3
  go_wp2_with fail
  refine (spec_addrOk _ _ _ _ _ _ _ _).mono ?_
  rintro e w2 ⟨rfl, x2⟩
  have b0 := b0.ext x2
  have l20 := b0.lt
  obtain ⟨q200, q201, q202, q203⟩ := b0.cell4
  have b1 := b1.ext x2
  have l21 := b1.lt
  obtain ⟨q210, q211⟩ := b1.cell2
  have b2 := b2.ext x2
  have l22 := b2.lt
  obtain ⟨q220, q221, q222⟩ := b2.cell3
  go_wp2_with fail
  refine (spec_bankCount _ _ _ _ _).mono ?_
  rintro e w3 ⟨rfl, x3⟩
  have b0 := b0.ext x3
  have l30 := b0.lt
  obtain ⟨q300, q301, q302, q303⟩ := b0.cell4
  have b1 := b1.ext x3
  have l31 := b1.lt
  obtain ⟨q310, q311⟩ := b1.cell2
  have b2 := b2.ext x3
  have l32 := b2.lt
  obtain ⟨q320, q321, q322⟩ := b2.cell3
  have s0 := b2.put30
  have fr := b2.free
  go_wp2_with fail
  go_region
  go_wp2
  go_ret
  exact ⟨rfl, (by repeat (first | exact Ext.refl _ | assumption | refine Ext.alloc ?_ _ | refine Ext.drew ?_ | refine Ext.drewN ?_ _ | refine Ext.setCell ?_ (by first | exact Nat.le_refl _ | (simp; done) | (simp; omega) | omega) _ | (apply Ext.trans; rotate_left; assumption)))⟩

theorem spec_lineOf_t2 (a b c d x y z : Int) (hA : addrB a b c d x y z = true) (w : World) : Calls Try.prog 34 #[.agg #[.int .i64 a, .int .i64 b, .int .i64 c, .int .i64 d], .agg #[.int .i64 2, .bool true], .agg #[.int .i64 x, .int .i64 y, .int .i64 z]] w fun e w' => e = .returned (.int .i64 ((((x - y) % (a * b)) * c + y) * d + z)) ∧ Ext w w' := by
  obtain ⟨hg, ⟨x0, x1⟩, ⟨y0, y1⟩, ⟨z0, z1⟩⟩ := addrB_iff.1 hA
  have hg' := Lib.hid hg
  clear hg
  have cn := cn_range hg'.out
  have hr := bank_range hg'.out
  have hF := bankF_yes hg'.out
  have hO : btw 2 0 2 = true := btw_true (by omega) (by omega)
  obtain ⟨_, _, ⟨c0, c1⟩, ⟨d0, d1⟩⟩ := geoB_iff.1 hg'.out
  have k0 : 0 ≤ ((x - y) % (a * b)) := Int.emod_nonneg _ (by omega)
  have k1 : ((x - y) % (a * b)) < a * b := Int.emod_lt_of_pos _ (by omega)
  have j1 := join_facts (x := ((x - y) % (a * b))) (y := y) (p := a * b) (q := c) k0 k1 y0 (by omega) cn.2.2.2.2.1
  have j2 := join_facts (x := ((x - y) % (a * b)) * c + y) (y := z) (p := a * b * c) (q := d) j1.2.1 j1.2.2 z0 (by omega) cn.2.2.2.2.2
  have m0 : 0 ≤ y % (a * b) := Int.emod_nonneg _ (by omega)
  have m1 : y % (a * b) < a * b := Int.emod_lt_of_pos _ (by omega)
  have m2 := unhash_two (n := a * b) (b := x) (r := y) (by omega) y0
  go_enter Try.func34, Try.ntmps34
  go_wp2_with fail
  refine (spec_mappingOk _ _ _).mono ?_
  rintro e w1 ⟨rfl, x1⟩
  have b0 := (((Box.new w _ _).alloc _).alloc _).ext x1
  have l10 := b0.lt
  obtain ⟨q100, q101, q102, q103⟩ := b0.cell4
  have b1 := ((Box.new_at (w.alloc _) _ _ (w.heap.size + 1) (by simp)).alloc _).ext x1
  have l11 := b1.lt
  obtain ⟨q110, q111⟩ := b1.cell2
  have b2 := (Box.new_at ((w.alloc _).alloc _) _ _ (w.heap.size + 1 + 1) (by simp)).ext x1
  have l12 := b2.lt
  obtain ⟨q120, q121, q122⟩ := b2.cell3
  go_wp2_with fail
  refine (spec_addrOk _ _ _ _ _ _ _ _).mono ?_
  rintro e w2 ⟨rfl, x2⟩
  have b0 := b0.ext x2
  have l20 := b0.lt
  obtain ⟨q200, q201, q202, q203⟩ := b0.cell4
  have b1 := b1.ext x2
  have l21 := b1.lt
  obtain ⟨q210, q211⟩ := b1.cell2
  have b2 := b2.ext x2
  have l22 := b2.lt
  obtain ⟨q220, q221, q222⟩ := b2.cell3
  go_wp2_with fail
  refine (spec_bankCount _ _ _ _ _).mono ?_
  rintro e w3 ⟨rfl, x3⟩
  have b0 := b0.ext x3
  have l30 := b0.lt
  obtain ⟨q300, q301, q302, q303⟩ := b0.cell4
  have b1 := b1.ext x3
  have l31 := b1.lt
  obtain ⟨q310, q311⟩ := b1.cell2
  have b2 := b2.ext x3
  have l32 := b2.lt
  obtain ⟨q320, q321, q322⟩ := b2.cell3
  have s0 := b2.put30
  have fr := b2.free
  go_wp2_with fail
  go_region
  go_wp2
  go_ret
  exact ⟨rfl, (by repeat (first | exact Ext.refl _ | assumption | refine Ext.alloc ?_ _ | refine Ext.drew ?_ | refine Ext.drewN ?_ _ | refine Ext.setCell ?_ (by first | exact Nat.le_refl _ | (simp; done) | (simp; omega) | omega) _ | (apply Ext.trans; rotate_left; assumption)))⟩

theorem spec_lineOf_f0 (a b c d x y z : Int) (hA : addrB a b c d x y z = true) (w : World) : Calls Try.prog 34 #[.agg #[.int .i64 a, .int .i64 b, .int .i64 c, .int .i64 d], .agg #[.int .i64 0, .bool false], .agg #[.int .i64 x, .int .i64 y, .int .i64 z]] w fun e w' => e = .returned (.int .i64 ((y * (a * b) + x) * d + z)) ∧ Ext w w' := by
  obtain ⟨hg, ⟨x0, x1⟩, ⟨y0, y1⟩, ⟨z0, z1⟩⟩ := addrB_iff.1 hA
  have hg' := Lib.hid hg
  clear hg
  have cn := cn_range hg'.out
  have hr := bank_range hg'.out
  have hF := bankF_yes hg'.out
  have hO : btw 0 0 2 = true := btw_true (by omega) (by omega)
  obtain ⟨_, _, ⟨c0, c1⟩, ⟨d0, d1⟩⟩ := geoB_iff.1 hg'.out
  have k0 : 0 ≤ x := x0
  have k1 : x < a * b := by omega
  have j1 := join_facts (x := y) (y := x) (p := c) (q := a * b) y0 (by omega) k0 k1 cn.1
  have j2 := join_facts (x := y * (a * b) + x) (y := z) (p := c * (a * b)) (q := d) j1.2.1 j1.2.2 z0 (by omega) cn.2.1
  go_enter Try.func34, Try.ntmps34
  go_wp2_with fail
  refine (spec_mappingOk _ _ _).mono ?_
  rintro e w1 ⟨rfl, x1⟩
  have b0 := (((Box.new w _ _).alloc _).alloc _).ext x1
  have l10 := b0.lt
  obtain ⟨q100, q101, q102, q103⟩ := b0.cell4
  have b1 := ((Box.new_at (w.alloc _) _ _ (w.heap.size + 1) (by simp)).alloc _).ext x1
  have l11 := b1.lt
  obtain ⟨q110, q111⟩ := b1.cell2
  have b2 := (Box.new_at ((w.alloc _).alloc _) _ _ (w.heap.size + 1 + 1) (by simp)).ext x1
  have l12 := b2.lt
  obtain ⟨q120, q121, q122⟩ := b2.cell3
  go_wp2_with fail
  refine (spec_addrOk _ _ _ _ _ _ _ _).mono ?_
  rintro e w2 ⟨rfl, x2⟩
  have b0 := b0.ext x2
  have l20 := b0.lt
  obtain ⟨q200, q201, q202, q203⟩ := b0.cell4
  have b1 := b1.ext x2
  have l21 := b1.lt
  obtain ⟨q210, q211⟩ := b1.cell2
  have b2 := b2.ext x2
  have l22 := b2.lt
  obtain ⟨q220, q221, q222⟩ := b2.cell3
  go_wp2_with fail
  refine (spec_bankCount _ _ _ _ _).mono ?_
  rintro e w3 ⟨rfl, x3⟩
  have b0 := b0.ext x3
  have l30 := b0.lt
  obtain ⟨q300, q301, q302, q303⟩ := b0.cell4
  have b1 := b1.ext x3
  have l31 := b1.lt
  obtain ⟨q310, q311⟩ := b1.cell2
  have b2 := b2.ext x3
  have l32 := b2.lt
  obtain ⟨q320, q321, q322⟩ := b2.cell3
  go_wp2
  go_ret
  exact ⟨rfl, (by repeat (first | exact Ext.refl _ | assumption | refine Ext.alloc ?_ _ | refine Ext.drew ?_ | refine Ext.drewN ?_ _ | refine Ext.setCell ?_ (by first | exact Nat.le_refl _ | (simp; done) | (simp; omega) | omega) _ | (apply Ext.trans; rotate_left; assumption)))⟩

theorem spec_lineOf_f1 (a b c d x y z : Int) (hA : addrB a b c d x y z = true) (w : World) : Calls Try.prog 34 #[.agg #[.int .i64 a, .int .i64 b, .int .i64 c, .int .i64 d], .agg #[.int .i64 1, .bool false], .agg #[.int .i64 x, .int .i64 y, .int .i64 z]] w fun e w' => e = .returned (.int .i64 ((y * d + z) * (a * b) + x)) ∧ Ext w w' := by
  obtain ⟨hg, ⟨x0, x1⟩, ⟨y0, y1⟩, ⟨z0, z1⟩⟩ := addrB_iff.1 hA
  have hg' := Lib.hid hg
  clear hg
  have cn := cn_range hg'.out
  have hr := bank_range hg'.out
  have hF := bankF_yes hg'.out
  have hO : btw 1 0 2 = true := btw_true (by omega) (by omega)
  obtain ⟨_, _, ⟨c0, c1⟩, ⟨d0, d1⟩⟩ := geoB_iff.1 hg'.out
  have k0 : 0 ≤ x := x0
  have k1 : x < a * b := by omega
  have j1 := join_facts (x := y) (y := z) (p := c) (q := d) y0 (by omega) z0 (by omega) cn.2.2.1
  have j2 := join_facts (x := y * d + z) (y := x) (p := c * d) (q := a * b) j1.2.1 j1.2.2 k0 k1 cn.2.2.2.1
  go_enter Try.func34, Try.ntmps34
  go_wp2_with fail
  refine (spec_mappingOk _ _ _).mono ?_
  rintro e w1 ⟨rfl, x1⟩
  have b0 := (((Box.new w _ _).alloc _).alloc _).ext x1
  have l10 := b0.lt
  obtain ⟨q100, q101, q102, q103⟩ := b0.cell4
  have b1 := ((Box.new_at (w.alloc _) _ _ (w.heap.size + 1) (by simp)).alloc _).ext x1
  have l11 := b1.lt
  obtain ⟨q110, q111⟩ := b1.cell2
  have b2 := (Box.new_at ((w.alloc _).alloc _) _ _ (w.heap.size + 1 + 1) (by simp)).ext x1
  have l12 := b2.lt
  obtain ⟨q120, q121, q122⟩ := b2.cell3
  go_wp2_with fail
  refine (spec_addrOk _ _ _ _ _ _ _ _).mono ?_
  rintro e w2 ⟨rfl, x2⟩
  have b0 := b0.ext x2
  have l20 := b0.lt
  obtain ⟨q200, q201, q202, q203⟩ := b0.cell4
  have b1 := b1.ext x2
  have l21 := b1.lt
  obtain ⟨q210, q211⟩ := b1.cell2
  have b2 := b2.ext x2
  have l22 := b2.lt
  obtain ⟨q220, q221, q222⟩ := b2.cell3
  go_wp2_with fail
  refine (spec_bankCount _ _ _ _ _).mono ?_
  rintro e w3 ⟨rfl, x3⟩
  have b0 := b0.ext x3
  have l30 := b0.lt
  obtain ⟨q300, q301, q302, q303⟩ := b0.cell4
  have b1 := b1.ext x3
  have l31 := b1.lt
  obtain ⟨q310, q311⟩ := b1.cell2
  have b2 := b2.ext x3
  have l32 := b2.lt
  obtain ⟨q320, q321, q322⟩ := b2.cell3
  go_wp2
  go_ret
  exact ⟨rfl, (by repeat (first | exact Ext.refl _ | assumption | refine Ext.alloc ?_ _ | refine Ext.drew ?_ | refine Ext.drewN ?_ _ | refine Ext.setCell ?_ (by first | exact Nat.le_refl _ | (simp; done) | (simp; omega) | omega) _ | (apply Ext.trans; rotate_left; assumption)))⟩

theorem spec_lineOf_f2 (a b c d x y z : Int) (hA : addrB a b c d x y z = true) (w : World) : Calls Try.prog 34 #[.agg #[.int .i64 a, .int .i64 b, .int .i64 c, .int .i64 d], .agg #[.int .i64 2, .bool false], .agg #[.int .i64 x, .int .i64 y, .int .i64 z]] w fun e w' => e = .returned (.int .i64 ((x * c + y) * d + z)) ∧ Ext w w' := by
  obtain ⟨hg, ⟨x0, x1⟩, ⟨y0, y1⟩, ⟨z0, z1⟩⟩ := addrB_iff.1 hA
  have hg' := Lib.hid hg
  clear hg
  have cn := cn_range hg'.out
  have hr := bank_range hg'.out
  have hF := bankF_yes hg'.out
  have hO : btw 2 0 2 = true := btw_true (by omega) (by omega)
  obtain ⟨_, _, ⟨c0, c1⟩, ⟨d0, d1⟩⟩ := geoB_iff.1 hg'.out
  have k0 : 0 ≤ x := x0
  have k1 : x < a * b := by omega
  have j1 := join_facts (x := x) (y := y) (p := a * b) (q := c) k0 k1 y0 (by omega) cn.2.2.2.2.1
  have j2 := join_facts (x := x * c + y) (y := z) (p := a * b * c) (q := d) j1.2.1 j1.2.2 z0 (by omega) cn.2.2.2.2.2
  go_enter Try.func34, Try.ntmps34
  go_wp2_with fail
  refine (spec_mappingOk _ _ _).mono ?_
  rintro e w1 ⟨rfl, x1⟩
  have b0 := (((Box.new w _ _).alloc _).alloc _).ext x1
  have l10 := b0.lt
  obtain ⟨q100, q101, q102, q103⟩ := b0.cell4
  have b1 := ((Box.new_at (w.alloc _) _ _ (w.heap.size + 1) (by simp)).alloc _).ext x1
  have l11 := b1.lt
  obtain ⟨q110, q111⟩ := b1.cell2
  have b2 := (Box.new_at ((w.alloc _).alloc _) _ _ (w.heap.size + 1 + 1) (by simp)).ext x1
  have l12 := b2.lt
  obtain ⟨q120, q121, q122⟩ := b2.cell3
  go_wp2_with fail
  refine (spec_addrOk _ _ _ _ _ _ _ _).mono ?_
  rintro e w2 ⟨rfl, x2⟩
  have b0 := b0.ext x2
  have l20 := b0.lt
  obtain ⟨q200, q201, q202, q203⟩ := b0.cell4
  have b1 := b1.ext x2
  have l21 := b1.lt
  obtain ⟨q210, q211⟩ := b1.cell2
  have b2 := b2.ext x2
  have l22 := b2.lt
  obtain ⟨q220, q221, q222⟩ := b2.cell3
  go_wp2_with fail
  refine (spec_bankCount _ _ _ _ _).mono ?_
  rintro e w3 ⟨rfl, x3⟩
  have b0 := b0.ext x3
  have l30 := b0.lt
  obtain ⟨q300, q301, q302, q303⟩ := b0.cell4
  have b1 := b1.ext x3
  have l31 := b1.lt
  obtain ⟨q310, q311⟩ := b1.cell2
  have b2 := b2.ext x3
  have l32 := b2.lt
  obtain ⟨q320, q321, q322⟩ := b2.cell3
  go_wp2
  go_ret
  exact ⟨rfl, (by repeat (first | exact Ext.refl _ | assumption | refine Ext.alloc ?_ _ | refine Ext.drew ?_ | refine Ext.drewN ?_ _ | refine Ext.setCell ?_ (by first | exact Nat.le_refl _ | (simp; done) | (simp; omega) | omega) _ | (apply Ext.trans; rotate_left; assumption)))⟩

theorem spec_lineOf_noa (a b c d o : Int) (h : Bool) (x y z : Int) (hO : btw o 0 2 = true) (hA : addrB a b c d x y z = false) (w : World) : Calls Try.prog 34 #[.agg #[.int .i64 a, .int .i64 b, .int .i64 c, .int .i64 d], .agg #[.int .i64 o, .bool h], .agg #[.int .i64 x, .int .i64 y, .int .i64 z]] w fun e w' => e = .returned (.int .i64 (-1)) ∧ Ext w w' := by
  go_enter Try.func34, Try.ntmps34
  go_wp2_with fail
  refine (spec_mappingOk _ _ _).mono ?_
  rintro e w1 ⟨rfl, x1⟩
  have b0 := (((Box.new w _ _).alloc _).alloc _).ext x1
  have l10 := b0.lt
  obtain ⟨q100, q101, q102, q103⟩ := b0.cell4
  have b1 := ((Box.new_at (w.alloc _) _ _ (w.heap.size + 1) (by simp)).alloc _).ext x1
  have l11 := b1.lt
  obtain ⟨q110, q111⟩ := b1.cell2
  have b2 := (Box.new_at ((w.alloc _).alloc _) _ _ (w.heap.size + 1 + 1) (by simp)).ext x1
  have l12 := b2.lt
  obtain ⟨q120, q121, q122⟩ := b2.cell3
  go_wp2_with fail
  refine (spec_addrOk _ _ _ _ _ _ _ _).mono ?_
  rintro e w2 ⟨rfl, x2⟩
  have b0 := b0.ext x2
  have l20 := b0.lt
  obtain ⟨q200, q201, q202, q203⟩ := b0.cell4
  have b1 := b1.ext x2
  have l21 := b1.lt
  obtain ⟨q210, q211⟩ := b1.cell2
  have b2 := b2.ext x2
  have l22 := b2.lt
  obtain ⟨q220, q221, q222⟩ := b2.cell3
  go_wp2
  go_ret
  exact ⟨rfl, (by repeat (first | exact Ext.refl _ | assumption | refine Ext.alloc ?_ _ | refine Ext.drew ?_ | refine Ext.drewN ?_ _ | refine Ext.setCell ?_ (by first | exact Nat.le_refl _ | (simp; done) | (simp; omega) | omega) _ | (apply Ext.trans; rotate_left; assumption)))⟩

theorem spec_lineOf_nom (a b c d o : Int) (h : Bool) (x y z : Int) (hO : btw o 0 2 = false) (w : World) : Calls Try.prog 34 #[.agg #[.int .i64 a, .int .i64 b, .int .i64 c, .int .i64 d], .agg #[.int .i64 o, .bool h], .agg #[.int .i64 x, .int .i64 y, .int .i64 z]] w fun e w' => e = .returned (.int .i64 (-1)) ∧ Ext w w' := by
  go_enter Try.func34, Try.ntmps34
  go_wp2_with fail
  refine (spec_mappingOk _ _ _).mono ?_
  rintro e w1 ⟨rfl, x1⟩
  have b0 := (((Box.new w _ _).alloc _).alloc _).ext x1
  have l10 := b0.lt
  obtain ⟨q100, q101, q102, q103⟩ := b0.cell4
  have b1 := ((Box.new_at (w.alloc _) _ _ (w.heap.size + 1) (by simp)).alloc _).ext x1
  have l11 := b1.lt
  obtain ⟨q110, q111⟩ := b1.cell2
  have b2 := (Box.new_at ((w.alloc _).alloc _) _ _ (w.heap.size + 1 + 1) (by simp)).ext x1
  have l12 := b2.lt
  obtain ⟨q120, q121, q122⟩ := b2.cell3
  go_wp2
  go_ret
  exact ⟨rfl, (by repeat (first | exact Ext.refl _ | assumption | refine Ext.alloc ?_ _ | refine Ext.drew ?_ | refine Ext.drewN ?_ _ | refine Ext.setCell ?_ (by first | exact Nat.le_refl _ | (simp; done) | (simp; omega) | omega) _ | (apply Ext.trans; rotate_left; assumption)))⟩

theorem spec_lineOf (a b c d o : Int) (h : Bool) (x y z : Int) (w : World) : Calls Try.prog 34 #[.agg #[.int .i64 a, .int .i64 b, .int .i64 c, .int .i64 d], .agg #[.int .i64 o, .bool h], .agg #[.int .i64 x, .int .i64 y, .int .i64 z]] w fun e w' => e = .returned (.int .i64 (lineOfF a b c d o h x y z)) ∧ Ext w w' := by
  unfold lineOfF
  cases hO : btw o 0 2 with
  | false =>
    rw [Bool.and_false, if_neg Bool.false_ne_true]
    exact spec_lineOf_nom a b c d o h x y z hO w
  | true =>
    cases hA : addrB a b c d x y z with
    | false =>
      rw [Bool.false_and, if_neg Bool.false_ne_true]
      exact spec_lineOf_noa a b c d o h x y z hO hA w
    | true =>
      rw [Bool.and_self, if_pos rfl]
      cases h with
      | false =>
        rcases order_cases hO with rfl | rfl | rfl
        · exact spec_lineOf_f0 a b c d x y z hA w
        · exact spec_lineOf_f1 a b c d x y z hA w
        · exact spec_lineOf_f2 a b c d x y z hA w
      | true =>
        rcases order_cases hO with rfl | rfl | rfl
        · exact spec_lineOf_t0 a b c d x y z hA w
        · exact spec_lineOf_t1 a b c d x y z hA w
        · exact spec_lineOf_t2 a b c d x y z hA w

end Go.Proofs.Ytdaphamplgcccaa