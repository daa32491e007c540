/- Contracts of BankCount, LineCount, GroupOf, AddrOk, AddrIndex and AddrAt, of the program and of the reference. -/
import Derived.Test.YtamlfjkkpgmjiaaDoorGeoW
import Derived.Test.YtamlfjkkpgmjiaaDoorWordW
namespace Go.Proofs.YtamlfjkkpgmjiaaDoor
open Go.RowKit

def groupF (a b c d n : Int) : Int := if btw n 0 (bankF a b c d - 1) then n / b else -1
def addrB (a b c d x y z : Int) : Bool := geoB a b c d && (btw x 0 (a * b - 1) && (btw y 0 (c - 1) && btw z 0 (d - 1)))
theorem addrB_iff {a b c d x y z : Int} : addrB a b c d x y z = true ↔ geoB a b c d = true ∧ (0 ≤ x ∧ x ≤ a * b - 1) ∧ (0 ≤ y ∧ y ≤ c - 1) ∧ (0 ≤ z ∧ z ≤ d - 1) := by
  simp only [addrB, Bool.and_eq_true, btw_iff]
def addrIdxF (a b c d x y z : Int) : Int := if addrB a b c d x y z then (x * c + y) * d + z else -1
def atB (a b c d n : Int) : Bool := btw n 0 (lineF a b c d - 1)
theorem idx_facts {a b c d x y z : Int} (h : addrB a b c d x y z = true) : (0 ≤ x * c ∧ x * c ≤ 128) ∧ (0 ≤ x * c + y ∧ x * c + y ≤ 127) ∧ (0 ≤ (x * c + y) * d ∧ (x * c + y) * d ≤ 1024) ∧ (0 ≤ (x * c + y) * d + z ∧ (x * c + y) * d + z ≤ 1023) := by
  obtain ⟨hg, ⟨x0, x1⟩, ⟨y0, y1⟩, ⟨z0, z1⟩⟩ := addrB_iff.1 h
  obtain ⟨_, _, ⟨c0, c1⟩, ⟨d0, d1⟩⟩ := geoB_iff.1 hg
  have h1 := join_lt (p := a * b) (q := c) x0 (by omega) y0 (by omega)
  have h2 := join_lt (p := a * b * c) (q := d) h1.1 h1.2 z0 (by omega)
  have h3 := bankrow_range hg
  have h4 := line_range hg
  have h5 : 0 ≤ x * c := Int.mul_nonneg x0 (by omega)
  have h6 : 0 ≤ (x * c + y) * d := Int.mul_nonneg h1.1 (by omega)
  omega

theorem impl_bankCount (a b c d : Int) (w : World) : Calls Tryd.prog 38 #[.agg #[.int .i64 a, .int .i64 b, .int .i64 c, .int .i64 d]] w fun e w' => e = .returned (.int .i64 (bankF a b c d)) ∧ Ext w w' := by
  cases hg : geoB a b c d with
  | true =>
    have hr := bank_range hg
    rw [bankF_yes hg]
    go_enter Tryd.func38, Tryd.ntmps38
    go_wp2_with fail
    refine (impl_geometryOk _ _ _ _ _).mono ?_
    rintro e w1 ⟨rfl, x1⟩
    have b0 := (Box.new w _ _).ext x1
    have l10 := b0.lt
    obtain ⟨q100, q101, q102, q103⟩ := b0.cell4
    go_wp2
    go_ret
    exact ⟨rfl, (by repeat (first | exact Ext.refl _ | assumption | refine Ext.alloc ?_ _ | refine Ext.drew ?_ | refine Ext.drewN ?_ _ | refine Ext.setCell ?_ (by first | exact Nat.le_refl _ | (simp; done) | (simp; omega) | omega) _ | (apply Ext.trans; rotate_left; assumption)))⟩
  | false =>
    rw [bankF_no hg]
    go_enter Tryd.func38, Tryd.ntmps38
    go_wp2_with fail
    refine (impl_geometryOk _ _ _ _ _).mono ?_
    rintro e w1 ⟨rfl, x1⟩
    have b0 := (Box.new w _ _).ext x1
    have l10 := b0.lt
    obtain ⟨q100, q101, q102, q103⟩ := b0.cell4
    go_wp2
    go_ret
    exact ⟨rfl, (by repeat (first | exact Ext.refl _ | assumption | refine Ext.alloc ?_ _ | refine Ext.drew ?_ | refine Ext.drewN ?_ _ | refine Ext.setCell ?_ (by first | exact Nat.le_refl _ | (simp; done) | (simp; omega) | omega) _ | (apply Ext.trans; rotate_left; assumption)))⟩










theorem spec_bankCount (a b c d : Int) (w : World) : Calls Tryd.prog 55 #[.agg #[.int .i64 a, .int .i64 b, .int .i64 c, .int .i64 d]] w fun e w' => e = .returned (.int .i64 (bankF a b c d)) ∧ Ext w w' := by
  cases hg : geoB a b c d with
  | true =>
    have hr := bank_range hg
    rw [bankF_yes hg]
    go_enter Tryd.func55, Tryd.ntmps55
    go_wp2_with fail
    refine (spec_geometryOk _ _ _ _ _).mono ?_
    rintro e w1 ⟨rfl, x1⟩
    have b0 := (Box.new w _ _).ext x1
    have l10 := b0.lt
    obtain ⟨q100, q101, q102, q103⟩ := b0.cell4
    go_wp2
    go_ret
    exact ⟨rfl, (by repeat (first | exact Ext.refl _ | assumption | refine Ext.alloc ?_ _ | refine Ext.drew ?_ | refine Ext.drewN ?_ _ | refine Ext.setCell ?_ (by first | exact Nat.le_refl _ | (simp; done) | (simp; omega) | omega) _ | (apply Ext.trans; rotate_left; assumption)))⟩
  | false =>
    rw [bankF_no hg]
    go_enter Tryd.func55, Tryd.ntmps55
    go_wp2_with fail
    refine (spec_geometryOk _ _ _ _ _).mono ?_
    rintro e w1 ⟨rfl, x1⟩
    have b0 := (Box.new w _ _).ext x1
    have l10 := b0.lt
    obtain ⟨q100, q101, q102, q103⟩ := b0.cell4
    go_wp2
    go_ret
    exact ⟨rfl, (by repeat (first | exact Ext.refl _ | assumption | refine Ext.alloc ?_ _ | refine Ext.drew ?_ | refine Ext.drewN ?_ _ | refine Ext.setCell ?_ (by first | exact Nat.le_refl _ | (simp; done) | (simp; omega) | omega) _ | (apply Ext.trans; rotate_left; assumption)))⟩












end Go.Proofs.YtamlfjkkpgmjiaaDoor