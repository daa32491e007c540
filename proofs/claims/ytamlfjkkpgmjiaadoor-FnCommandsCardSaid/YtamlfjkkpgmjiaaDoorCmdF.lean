/- Contracts of PackCommand, FrameCommand, ReadFrame and CommandOk, of both sides. -/
import Derived.Test.YtamlfjkkpgmjiaaDoorCmdW
import Derived.Test.YtamlfjkkpgmjiaaDoorGeoF
namespace Go.Proofs.YtamlfjkkpgmjiaaDoor
open Go.RowKit

def frameN (k b r c : Int) : Int := packN k b r c + 16384 * (popF (packN k b r c) % 2)
def frameF (k b r c : Int) : Int := if formB k b r c then frameN k b r c else -1
theorem frameN_range {k b r c : Int} (h : formB k b r c = true) : 1 ≤ frameN k b r c ∧ frameN k b r c ≤ 32767 := by
  have := packN_range h
  have := popF_range (packN k b r c)
  unfold frameN
  omega
theorem frameF_le (k b r c : Int) : frameF k b r c ≤ 32767 := by
  unfold frameF
  cases h : formB k b r c with
  | true => simpa using (frameN_range h).2
  | false => simp
def kindOf (w : Int) : Int := w % 16
def bankOf (w : Int) : Int := w / 16 % 8
def rowOf (w : Int) : Int := w / 128 % 16
def colOf (w : Int) : Int := w / 2048 % 8
def readB (w : Int) : Bool := btw w 0 32767 && frameF (kindOf w) (bankOf w) (rowOf w) (colOf w) == w
theorem and_mask (w m : Int) (k : Nat) (hw : 0 ≤ w) (hw2 : w ≤ 9223372036854775807) (hk : k < 62) (hm : m = ((2 ^ k - 1 : Nat) : Int)) : bits .and .i64 w m = w % ((2 ^ k : Nat) : Int) := by
  obtain ⟨n, rfl⟩ := Int.eq_ofNat_of_zero_le hw
  have hp : 2 ^ k < 2 ^ 62 := Nat.pow_lt_pow_right (by omega) hk
  rw [hm, i64_and_nat _ _ (by omega) (by omega), Nat.and_two_pow_sub_one_eq_mod]
  rfl

theorem impl_pack (k b r c : Int) (w : World) : Calls Tryd.prog 18 #[.agg #[.int .i64 k, .int .i64 b, .int .i64 r, .int .i64 c]] w fun e w' => e = .returned (.int .i64 (packF k b r c)) ∧ Ext w w' := by
  cases hf : formB k b r c with
  | true =>
    obtain ⟨hk, hb, hr, hc⟩ := formB_range hf
    rw [packF, if_pos hf]
    unfold packN
    have hW : wfB k b r c 8 16 8 = true := hf
    go_enter Tryd.func18, Tryd.ntmps18
    go_wp2_with fail
    refine (well_formed _ _ _ _ 8 16 8 (by omega) (by omega) (by omega) _).mono ?_
    rintro e w1 ⟨rfl, x1⟩
    have b0 := (Box.new w _ _).ext x1
    have l10 := b0.lt
    obtain ⟨q100, q101, q102, q103⟩ := b0.cell4
    go_wp2
    go_ret
    exact ⟨rfl, (by repeat (first | exact Ext.refl _ | assumption | refine Ext.alloc ?_ _ | refine Ext.drew ?_ | refine Ext.drewN ?_ _ | refine Ext.setCell ?_ (by first | exact Nat.le_refl _ | (simp; done) | (simp; omega) | omega) _ | (apply Ext.trans; rotate_left; assumption)))⟩
  | false =>
    rw [packF, if_neg (by simp [hf])]
    have hW : wfB k b r c 8 16 8 = false := hf
    go_enter Tryd.func18, Tryd.ntmps18
    go_wp2_with fail
    refine (well_formed _ _ _ _ 8 16 8 (by omega) (by omega) (by omega) _).mono ?_
    rintro e w1 ⟨rfl, x1⟩
    have b0 := (Box.new w _ _).ext x1
    have l10 := b0.lt
    obtain ⟨q100, q101, q102, q103⟩ := b0.cell4
    go_wp2
    go_ret
    exact ⟨rfl, (by repeat (first | exact Ext.refl _ | assumption | refine Ext.alloc ?_ _ | refine Ext.drew ?_ | refine Ext.drewN ?_ _ | refine Ext.setCell ?_ (by first | exact Nat.le_refl _ | (simp; done) | (simp; omega) | omega) _ | (apply Ext.trans; rotate_left; assumption)))⟩

theorem impl_frame (k b r c : Int) (w : World) : Calls Tryd.prog 14 #[.agg #[.int .i64 k, .int .i64 b, .int .i64 r, .int .i64 c]] w fun e w' => e = .returned (.int .i64 (frameF k b r c)) ∧ Ext w w' := by
  cases hf : formB k b r c with
  | true =>
    have hp := packN_range hf
    have hq := popF_range (packN k b r c)
    have hP : packF k b r c = packN k b r c := by rw [packF, if_pos hf]
    rw [frameF, if_pos hf]
    unfold frameN
    clear hf
    go_enter Tryd.func14, Tryd.ntmps14
    go_wp2_with fail
    refine (impl_pack _ _ _ _ _).mono ?_
    rintro e w1 ⟨rfl, x1⟩
    go_wp2_with fail
    refine (impl_parityOf _ _).mono ?_
    rintro e w' ⟨rfl, rfl⟩
    go_wp2
    go_ret
    exact ⟨rfl, (by repeat (first | exact Ext.refl _ | assumption | refine Ext.alloc ?_ _ | refine Ext.drew ?_ | refine Ext.drewN ?_ _ | refine Ext.setCell ?_ (by first | exact Nat.le_refl _ | (simp; done) | (simp; omega) | omega) _ | (apply Ext.trans; rotate_left; assumption)))⟩
  | false =>
    have hP : packF k b r c = -1 := by rw [packF, if_neg (by simp [hf])]
    rw [frameF, if_neg (by simp [hf])]
    clear hf
    go_enter Tryd.func14, Tryd.ntmps14
    go_wp2_with fail
    refine (impl_pack _ _ _ _ _).mono ?_
    rintro e w1 ⟨rfl, x1⟩
    go_wp2
    go_ret
    exact ⟨rfl, (by repeat (first | exact Ext.refl _ | assumption | refine Ext.alloc ?_ _ | refine Ext.drew ?_ | refine Ext.drewN ?_ _ | refine Ext.setCell ?_ (by first | exact Nat.le_refl _ | (simp; done) | (simp; omega) | omega) _ | (apply Ext.trans; rotate_left; assumption)))⟩





theorem to_command (k b r c : Int) (w : World) : Calls Tryd.prog 7 #[.agg #[.int .i64 k, .int .i64 b, .int .i64 r, .int .i64 c]] w fun e w' => e = .returned (.agg #[.int .i64 k, .int .i64 b, .int .i64 r, .int .i64 c]) ∧ Ext w w' := by
  go_enter Tryd.func7, Tryd.ntmps7
  go_wp2
  exact bodyPost_ret (v := .agg #[.int .i64 k, .int .i64 b, .int .i64 r, .int .i64 c]) (by simp [results, Tryd.results7, go_sem]) rfl ⟨rfl, (((Ext.refl _).alloc _).alloc _).alloc _⟩

theorem eq_command (k b r c : Int) (w : World) : Calls Tryd.prog 11 #[.agg #[.int .i64 k, .int .i64 b, .int .i64 r, .int .i64 c], .agg #[.int .i64 k, .int .i64 b, .int .i64 r, .int .i64 c]] w fun e w' => e = .returned (.bool true) ∧ Ext w w' := by
  go_enter Tryd.func11, Tryd.ntmps11
  go_wp2
  go_ret
  exact ⟨rfl, (by repeat (first | exact Ext.refl _ | assumption | refine Ext.alloc ?_ _ | refine Ext.drew ?_ | refine Ext.drewN ?_ _ | refine Ext.setCell ?_ (by first | exact Nat.le_refl _ | (simp; done) | (simp; omega) | omega) _ | (apply Ext.trans; rotate_left; assumption)))⟩





end Go.Proofs.YtamlfjkkpgmjiaaDoor