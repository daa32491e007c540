/- Contracts of BankCount, LineCount, GroupOf, AddrOk, AddrIndex and AddrAt, of the program and of the reference. -/
import Derived.Test.YtdaphamplgcccaaGeoW
import Derived.Test.YtdaphamplgcccaaWordW
namespace Go.Proofs.Ytdaphamplgcccaa
open Go.RowKit

def groupF (a b c d n : Int) : Int := if btw n 0 (bankF a b c d - 1) then n / b else -1
def addrB (a b c d x y z : Int) : Bool := geoB a b c d && (btw x 0 (a * b - 1) && (btw y 0 (c - 1) && btw z 0 (d - 1)))
theorem addrB_iff {a b c d x y z : Int} : addrB a b c d x y z = true ↔ geoB a b c d = true ∧ (0 ≤ x ∧ x ≤ a * b - 1) ∧ (0 ≤ y ∧ y ≤ c - 1) ∧ (0 ≤ z ∧ z ≤ d - 1) := by
  simp only [addrB, Bool.and_eq_true, btw_iff]
def addrIdxF (a b c d x y z : Int) : Int := if addrB a b c d x y z then (x * c + y) * d + z else -1
def atB (a b c d n : Int) : Bool := btw n 0 (lineF a b c d - 1)
theorem idx_facts {a b c d x y z : Int} (h : addrB a b c d x y z = true) : (0 ≤ x * c ∧ x * c ≤ 128) ∧ (0 ≤ x * c + y ∧ x * c + y ≤ 127) ∧ (0 ≤ (x * c + y) * d ∧ (x * c + y) * d ≤ 1024) ∧ (0 ≤ (x * c + y) * d + z ∧ (x * c + y) * d + z ≤ 1023) := by
  obtain ⟨hg, ⟨x0, x1⟩, ⟨y0, y1⟩, ⟨z0, z1⟩⟩ := addrB_iff.1 h
  obtain ⟨_, _, ⟨c0, c1⟩, ⟨d0, d1⟩⟩ := geoB_iff.1 hg
  have h1 := join_lt (p := a * b) (q := c) x0 (by omega) y0 (by omega)
  have h2 := join_lt (p := a * b * c) (q := d) h1.1 h1.2 z0 (by omega)
  have h3 := bankrow_range hg
  have h4 := line_range hg
  have h5 : 0 ≤ x * c := Int.mul_nonneg x0 (by omega)
  have h6 : 0 ≤ (x * c + y) * d := Int.mul_nonneg h1.1 (by omega)
  omega

theorem impl_bankCount (a b c d : Int) (w : World) : Calls Try.prog 18 #[.agg #[.int .i64 a, .int .i64 b, .int .i64 c, .int .i64 d]] w fun e w' => e = .returned (.int .i64 (bankF a b c d)) ∧ Ext w w' := by
  cases hg : geoB a b c d with
  | true =>
    have hr := bank_range hg
    rw [bankF_yes hg]
    go_enter Try.func18, Try.ntmps18
    go_wp2_with fail
    refine (impl_geometryOk _ _ _ _ _).mono ?_
    rintro e w1 ⟨rfl, x1⟩
    have b0 := (Box.new w _ _).ext x1
    have l10 := b0.lt
    obtain ⟨q100, q101, q102, q103⟩ := b0.cell4
    go_wp2
    go_ret
    exact ⟨rfl, (by repeat (first | exact Ext.refl _ | assumption | refine Ext.alloc ?_ _ | refine Ext.drew ?_ | refine Ext.drewN ?_ _ | refine Ext.setCell ?_ (by first | exact Nat.le_refl _ | (simp; done) | (simp; omega) | omega) _ | (apply Ext.trans; rotate_left; assumption)))⟩
  | false =>
    rw [bankF_no hg]
    go_enter Try.func18, Try.ntmps18
    go_wp2_with fail
    refine (impl_geometryOk _ _ _ _ _).mono ?_
    rintro e w1 ⟨rfl, x1⟩
    have b0 := (Box.new w _ _).ext x1
    have l10 := b0.lt
    obtain ⟨q100, q101, q102, q103⟩ := b0.cell4
    go_wp2
    go_ret
    exact ⟨rfl, (by repeat (first | exact Ext.refl _ | assumption | refine Ext.alloc ?_ _ | refine Ext.drew ?_ | refine Ext.drewN ?_ _ | refine Ext.setCell ?_ (by first | exact Nat.le_refl _ | (simp; done) | (simp; omega) | omega) _ | (apply Ext.trans; rotate_left; assumption)))⟩

theorem impl_lineCount (a b c d : Int) (w : World) : Calls Try.prog 20 #[.agg #[.int .i64 a, .int .i64 b, .int .i64 c, .int .i64 d]] w fun e w' => e = .returned (.int .i64 (lineF a b c d)) ∧ Ext w w' := by
  cases hg : geoB a b c d with
  | true =>
    have hr2 := bankrow_range hg
    have hr3 := line_range hg
    have hF := bankF_yes hg
    have e1 : IntKind.i64.wrap (a * b * c) = a * b * c := IntWalk.i64_in _ (by omega)
    have e2 : IntKind.i64.wrap (a * b * c * d) = a * b * c * d := IntWalk.i64_in _ (by omega)
    rw [lineF_yes hg]
    go_enter Try.func20, Try.ntmps20
    go_wp2_with fail
    go_region_held3 (fun w' => w'.cell? ⟨w.heap.size, 0, none⟩ = some (.int .i64 a) ∧ w'.cell? ⟨w.heap.size, 1, none⟩ = some (.int .i64 b) ∧ w'.cell? ⟨w.heap.size, 2, none⟩ = some (.int .i64 c) ∧ w'.cell? ⟨w.heap.size, 3, none⟩ = some (.int .i64 d)) (go_keep) (first | (go_at_call 18; refine (impl_bankCount _ _ _ _ _).mono ?_; rintro e w1 ⟨rfl, x1⟩; have b0 := (Box.new w _ _).drew.ext x1; obtain ⟨q0, q1, q2, q3⟩ := b0.cell4))
    go_wp2
    go_ret
    exact ⟨rfl, (by repeat (first | exact Ext.refl _ | assumption | refine Ext.alloc ?_ _ | refine Ext.drew ?_ | refine Ext.drewN ?_ _ | refine Ext.setCell ?_ (by first | exact Nat.le_refl _ | (simp; done) | (simp; omega) | omega) _ | (apply Ext.trans; rotate_left; assumption)))⟩
  | false =>
    have hF := bankF_no hg
    rw [lineF_no hg]
    go_enter Try.func20, Try.ntmps20
    go_wp2_with fail
    go_region_held3 (fun w' => w'.cell? ⟨w.heap.size, 0, none⟩ = some (.int .i64 a) ∧ w'.cell? ⟨w.heap.size, 1, none⟩ = some (.int .i64 b) ∧ w'.cell? ⟨w.heap.size, 2, none⟩ = some (.int .i64 c) ∧ w'.cell? ⟨w.heap.size, 3, none⟩ = some (.int .i64 d)) (go_keep) (first | (go_at_call 18; refine (impl_bankCount _ _ _ _ _).mono ?_; rintro e w1 ⟨rfl, x1⟩; have b0 := (Box.new w _ _).drew.ext x1; obtain ⟨q0, q1, q2, q3⟩ := b0.cell4))
    go_wp2
    go_ret
    exact ⟨ret_int (by simp [IntKind.wrap_i64]), (by repeat (first | exact Ext.refl _ | assumption | refine Ext.alloc ?_ _ | refine Ext.drew ?_ | refine Ext.drewN ?_ _ | refine Ext.setCell ?_ (by first | exact Nat.le_refl _ | (simp; done) | (simp; omega) | omega) _ | (apply Ext.trans; rotate_left; assumption)))⟩

theorem impl_groupOf (a b c d n : Int) (w : World) : Calls Try.prog 22 #[.agg #[.int .i64 a, .int .i64 b, .int .i64 c, .int .i64 d], .int .i64 n] w fun e w' => e = .returned (.int .i64 (groupF a b c d n)) ∧ Ext w w' := by
  have hr := bankF_range a b c d
  cases hb : btw n 0 (bankF a b c d - 1) with
  | true =>
    have h1 := (btw_iff.1 hb).1
    have h2 := (btw_iff.1 hb).2
    have hg := Lib.hid (bankF_pos (a := a) (b := b) (c := c) (d := d) (by have := (btw_iff.1 hb).2; omega))
    have hbb := (geoB_iff.1 hg.out).2.1
    rw [groupF, if_pos hb]
    go_enter Try.func22, Try.ntmps22
    go_wp2_with fail
    refine (impl_bankCount _ _ _ _ _).mono ?_
    rintro e w1 ⟨rfl, x1⟩
    have b0 := (Box.new w _ _).ext x1
    have l10 := b0.lt
    obtain ⟨q100, q101, q102, q103⟩ := b0.cell4
    go_wp2_with (go_at_call 49; refine (impl_between _ _ _ _).mono ?_; rintro e w' ⟨rfl, rfl⟩)
    go_ret
    exact ⟨rfl, (by repeat (first | exact Ext.refl _ | assumption | refine Ext.alloc ?_ _ | refine Ext.drew ?_ | refine Ext.drewN ?_ _ | refine Ext.setCell ?_ (by first | exact Nat.le_refl _ | (simp; done) | (simp; omega) | omega) _ | (apply Ext.trans; rotate_left; assumption)))⟩
  | false =>
    rw [groupF, if_neg (by simp [hb])]
    go_enter Try.func22, Try.ntmps22
    go_wp2_with fail
    refine (impl_bankCount _ _ _ _ _).mono ?_
    rintro e w1 ⟨rfl, x1⟩
    have b0 := (Box.new w _ _).ext x1
    have l10 := b0.lt
    obtain ⟨q100, q101, q102, q103⟩ := b0.cell4
    go_wp2_with (go_at_call 49; refine (impl_between _ _ _ _).mono ?_; rintro e w' ⟨rfl, rfl⟩)
    go_ret
    exact ⟨rfl, (by repeat (first | exact Ext.refl _ | assumption | refine Ext.alloc ?_ _ | refine Ext.drew ?_ | refine Ext.drewN ?_ _ | refine Ext.setCell ?_ (by first | exact Nat.le_refl _ | (simp; done) | (simp; omega) | omega) _ | (apply Ext.trans; rotate_left; assumption)))⟩

theorem impl_addrOk_f0 (a b c d x y z : Int) (w : World) (hg : geoB a b c d = false) : Calls Try.prog 25 #[.agg #[.int .i64 a, .int .i64 b, .int .i64 c, .int .i64 d], .agg #[.int .i64 x, .int .i64 y, .int .i64 z]] w fun e w' => e = .returned (.bool false) ∧ Ext w w' := by
  have hF := bankF_no hg
  have hx : btw x 0 (-1) = false := btw_false (by omega)
  have gq0 := Later.cells ((Box.new w 25 #[.int .i64 a, .int .i64 b, .int .i64 c, .int .i64 d]).alloc (.cells #[.int .i64 x, .int .i64 y, .int .i64 z] 33)) 0
  have gq1 := Later.cells ((Box.new w 25 #[.int .i64 a, .int .i64 b, .int .i64 c, .int .i64 d]).alloc (.cells #[.int .i64 x, .int .i64 y, .int .i64 z] 33)) 1
  have gq2 := Later.cells ((Box.new w 25 #[.int .i64 a, .int .i64 b, .int .i64 c, .int .i64 d]).alloc (.cells #[.int .i64 x, .int .i64 y, .int .i64 z] 33)) 2
  have gq3 := Later.cells ((Box.new w 25 #[.int .i64 a, .int .i64 b, .int .i64 c, .int .i64 d]).alloc (.cells #[.int .i64 x, .int .i64 y, .int .i64 z] 33)) 3
  simp only [List.getElem?_toArray, List.getElem?_cons_zero, List.getElem?_cons_succ] at gq0 gq1 gq2 gq3
  have aq0 := Later.cells (Box.new_at (w.alloc (.cells #[.int .i64 a, .int .i64 b, .int .i64 c, .int .i64 d] 25)) 33 #[.int .i64 x, .int .i64 y, .int .i64 z] (w.heap.size + 1) (by simp)) 0
  have aq1 := Later.cells (Box.new_at (w.alloc (.cells #[.int .i64 a, .int .i64 b, .int .i64 c, .int .i64 d] 25)) 33 #[.int .i64 x, .int .i64 y, .int .i64 z] (w.heap.size + 1) (by simp)) 1
  have aq2 := Later.cells (Box.new_at (w.alloc (.cells #[.int .i64 a, .int .i64 b, .int .i64 c, .int .i64 d] 25)) 33 #[.int .i64 x, .int .i64 y, .int .i64 z] (w.heap.size + 1) (by simp)) 2
  simp only [List.getElem?_toArray, List.getElem?_cons_zero, List.getElem?_cons_succ] at aq0 aq1 aq2
  go_enter Try.func25, Try.ntmps25
  go_wp2_with fail
  refine wp_region_later (by kernel_rfl) (by kernel_rfl) ?_
  repeat (go_big_quiet_step ((first | (go_at_call 39; exact Later.ofB _ (impl_geometryOk _ _ _ _ _) hg) | (go_at_call 18; exact Later.ofI _ (impl_bankCount _ _ _ _ _) hF) | (go_at_call 49; first | exact Later.sameB _ (impl_between _ _ _ _) (by assumption) | exact Later.same _ (impl_between _ _ _ _)))))
  refine wpQuiet_nil ?_
  rintro _ ⟨xx, rfl⟩
  have xxe := xx.ext
  go_wp2
  go_ret
  exact ⟨rfl, (by repeat (first | exact Ext.refl _ | assumption | refine Ext.alloc ?_ _ | refine Ext.drew ?_ | refine Ext.drewN ?_ _ | refine Ext.setCell ?_ (by first | exact Nat.le_refl _ | (simp; done) | (simp; omega) | omega) _ | (apply Ext.trans; rotate_left; assumption)))⟩

theorem impl_addrOk_f1 (a b c d x y z : Int) (w : World) (hg : geoB a b c d = true) (hx : btw x 0 (a * b - 1) = false) : Calls Try.prog 25 #[.agg #[.int .i64 a, .int .i64 b, .int .i64 c, .int .i64 d], .agg #[.int .i64 x, .int .i64 y, .int .i64 z]] w fun e w' => e = .returned (.bool false) ∧ Ext w w' := by
  have hr := bank_range hg
  have hF := bankF_yes hg
  obtain ⟨_, _, ⟨c0, c1⟩, ⟨d0, d1⟩⟩ := geoB_iff.1 hg
  have gq0 := Later.cells ((Box.new w 25 #[.int .i64 a, .int .i64 b, .int .i64 c, .int .i64 d]).alloc (.cells #[.int .i64 x, .int .i64 y, .int .i64 z] 33)) 0
  have gq1 := Later.cells ((Box.new w 25 #[.int .i64 a, .int .i64 b, .int .i64 c, .int .i64 d]).alloc (.cells #[.int .i64 x, .int .i64 y, .int .i64 z] 33)) 1
  have gq2 := Later.cells ((Box.new w 25 #[.int .i64 a, .int .i64 b, .int .i64 c, .int .i64 d]).alloc (.cells #[.int .i64 x, .int .i64 y, .int .i64 z] 33)) 2
  have gq3 := Later.cells ((Box.new w 25 #[.int .i64 a, .int .i64 b, .int .i64 c, .int .i64 d]).alloc (.cells #[.int .i64 x, .int .i64 y, .int .i64 z] 33)) 3
  simp only [List.getElem?_toArray, List.getElem?_cons_zero, List.getElem?_cons_succ] at gq0 gq1 gq2 gq3
  have aq0 := Later.cells (Box.new_at (w.alloc (.cells #[.int .i64 a, .int .i64 b, .int .i64 c, .int .i64 d] 25)) 33 #[.int .i64 x, .int .i64 y, .int .i64 z] (w.heap.size + 1) (by simp)) 0
  have aq1 := Later.cells (Box.new_at (w.alloc (.cells #[.int .i64 a, .int .i64 b, .int .i64 c, .int .i64 d] 25)) 33 #[.int .i64 x, .int .i64 y, .int .i64 z] (w.heap.size + 1) (by simp)) 1
  have aq2 := Later.cells (Box.new_at (w.alloc (.cells #[.int .i64 a, .int .i64 b, .int .i64 c, .int .i64 d] 25)) 33 #[.int .i64 x, .int .i64 y, .int .i64 z] (w.heap.size + 1) (by simp)) 2
  simp only [List.getElem?_toArray, List.getElem?_cons_zero, List.getElem?_cons_succ] at aq0 aq1 aq2
  go_enter Try.func25, Try.ntmps25
  go_wp2_with fail
  refine wp_region_later (by kernel_rfl) (by kernel_rfl) ?_
  repeat (go_big_quiet_step ((first | (go_at_call 39; exact Later.ofB _ (impl_geometryOk _ _ _ _ _) hg) | (go_at_call 18; exact Later.ofI _ (impl_bankCount _ _ _ _ _) hF) | (go_at_call 49; first | exact Later.sameB _ (impl_between _ _ _ _) (by assumption) | exact Later.same _ (impl_between _ _ _ _)))))
  refine wpQuiet_nil ?_
  rintro _ ⟨xx, rfl⟩
  have xxe := xx.ext
  go_wp2
  go_ret
  exact ⟨rfl, (by repeat (first | exact Ext.refl _ | assumption | refine Ext.alloc ?_ _ | refine Ext.drew ?_ | refine Ext.drewN ?_ _ | refine Ext.setCell ?_ (by first | exact Nat.le_refl _ | (simp; done) | (simp; omega) | omega) _ | (apply Ext.trans; rotate_left; assumption)))⟩

theorem impl_addrOk_f2 (a b c d x y z : Int) (w : World) (hg : geoB a b c d = true) (hx : btw x 0 (a * b - 1) = true) (hy : btw y 0 (c - 1) = false) : Calls Try.prog 25 #[.agg #[.int .i64 a, .int .i64 b, .int .i64 c, .int .i64 d], .agg #[.int .i64 x, .int .i64 y, .int .i64 z]] w fun e w' => e = .returned (.bool false) ∧ Ext w w' := by
  have hr := bank_range hg
  have hF := bankF_yes hg
  obtain ⟨_, _, ⟨c0, c1⟩, ⟨d0, d1⟩⟩ := geoB_iff.1 hg
  have gq0 := Later.cells ((Box.new w 25 #[.int .i64 a, .int .i64 b, .int .i64 c, .int .i64 d]).alloc (.cells #[.int .i64 x, .int .i64 y, .int .i64 z] 33)) 0
  have gq1 := Later.cells ((Box.new w 25 #[.int .i64 a, .int .i64 b, .int .i64 c, .int .i64 d]).alloc (.cells #[.int .i64 x, .int .i64 y, .int .i64 z] 33)) 1
  have gq2 := Later.cells ((Box.new w 25 #[.int .i64 a, .int .i64 b, .int .i64 c, .int .i64 d]).alloc (.cells #[.int .i64 x, .int .i64 y, .int .i64 z] 33)) 2
  have gq3 := Later.cells ((Box.new w 25 #[.int .i64 a, .int .i64 b, .int .i64 c, .int .i64 d]).alloc (.cells #[.int .i64 x, .int .i64 y, .int .i64 z] 33)) 3
  simp only [List.getElem?_toArray, List.getElem?_cons_zero, List.getElem?_cons_succ] at gq0 gq1 gq2 gq3
  have aq0 := Later.cells (Box.new_at (w.alloc (.cells #[.int .i64 a, .int .i64 b, .int .i64 c, .int .i64 d] 25)) 33 #[.int .i64 x, .int .i64 y, .int .i64 z] (w.heap.size + 1) (by simp)) 0
  have aq1 := Later.cells (Box.new_at (w.alloc (.cells #[.int .i64 a, .int .i64 b, .int .i64 c, .int .i64 d] 25)) 33 #[.int .i64 x, .int .i64 y, .int .i64 z] (w.heap.size + 1) (by simp)) 1
  have aq2 := Later.cells (Box.new_at (w.alloc (.cells #[.int .i64 a, .int .i64 b, .int .i64 c, .int .i64 d] 25)) 33 #[.int .i64 x, .int .i64 y, .int .i64 z] (w.heap.size + 1) (by simp)) 2
  simp only [List.getElem?_toArray, List.getElem?_cons_zero, List.getElem?_cons_succ] at aq0 aq1 aq2
  go_enter Try.func25, Try.ntmps25
  go_wp2_with fail
  refine wp_region_later (by kernel_rfl) (by kernel_rfl) ?_
  repeat (go_big_quiet_step ((first | (go_at_call 39; exact Later.ofB _ (impl_geometryOk _ _ _ _ _) hg) | (go_at_call 18; exact Later.ofI _ (impl_bankCount _ _ _ _ _) hF) | (go_at_call 49; first | exact Later.sameB _ (impl_between _ _ _ _) (by assumption) | exact Later.same _ (impl_between _ _ _ _)))))
  refine wpQuiet_nil ?_
  rintro _ ⟨xx, rfl⟩
  have xxe := xx.ext
  go_wp2
  go_ret
  exact ⟨rfl, (by repeat (first | exact Ext.refl _ | assumption | refine Ext.alloc ?_ _ | refine Ext.drew ?_ | refine Ext.drewN ?_ _ | refine Ext.setCell ?_ (by first | exact Nat.le_refl _ | (simp; done) | (simp; omega) | omega) _ | (apply Ext.trans; rotate_left; assumption)))⟩

theorem impl_addrOk_t (a b c d x y z : Int) (w : World) (hg : geoB a b c d = true) (hx : btw x 0 (a * b - 1) = true) (hy : btw y 0 (c - 1) = true) : Calls Try.prog 25 #[.agg #[.int .i64 a, .int .i64 b, .int .i64 c, .int .i64 d], .agg #[.int .i64 x, .int .i64 y, .int .i64 z]] w fun e w' => e = .returned (.bool (btw z 0 (d - 1))) ∧ Ext w w' := by
  have hr := bank_range hg
  have hF := bankF_yes hg
  obtain ⟨_, _, ⟨c0, c1⟩, ⟨d0, d1⟩⟩ := geoB_iff.1 hg
  have gq0 := Later.cells ((Box.new w 25 #[.int .i64 a, .int .i64 b, .int .i64 c, .int .i64 d]).alloc (.cells #[.int .i64 x, .int .i64 y, .int .i64 z] 33)) 0
  have gq1 := Later.cells ((Box.new w 25 #[.int .i64 a, .int .i64 b, .int .i64 c, .int .i64 d]).alloc (.cells #[.int .i64 x, .int .i64 y, .int .i64 z] 33)) 1
  have gq2 := Later.cells ((Box.new w 25 #[.int .i64 a, .int .i64 b, .int .i64 c, .int .i64 d]).alloc (.cells #[.int .i64 x, .int .i64 y, .int .i64 z] 33)) 2
  have gq3 := Later.cells ((Box.new w 25 #[.int .i64 a, .int .i64 b, .int .i64 c, .int .i64 d]).alloc (.cells #[.int .i64 x, .int .i64 y, .int .i64 z] 33)) 3
  simp only [List.getElem?_toArray, List.getElem?_cons_zero, List.getElem?_cons_succ] at gq0 gq1 gq2 gq3
  have aq0 := Later.cells (Box.new_at (w.alloc (.cells #[.int .i64 a, .int .i64 b, .int .i64 c, .int .i64 d] 25)) 33 #[.int .i64 x, .int .i64 y, .int .i64 z] (w.heap.size + 1) (by simp)) 0
  have aq1 := Later.cells (Box.new_at (w.alloc (.cells #[.int .i64 a, .int .i64 b, .int .i64 c, .int .i64 d] 25)) 33 #[.int .i64 x, .int .i64 y, .int .i64 z] (w.heap.size + 1) (by simp)) 1
  have aq2 := Later.cells (Box.new_at (w.alloc (.cells #[.int .i64 a, .int .i64 b, .int .i64 c, .int .i64 d] 25)) 33 #[.int .i64 x, .int .i64 y, .int .i64 z] (w.heap.size + 1) (by simp)) 2
  simp only [List.getElem?_toArray, List.getElem?_cons_zero, List.getElem?_cons_succ] at aq0 aq1 aq2
  go_enter Try.func25, Try.ntmps25
  go_wp2_with fail
  refine wp_region_later (by kernel_rfl) (by kernel_rfl) ?_
  repeat (go_big_quiet_step ((first | (go_at_call 39; exact Later.ofB _ (impl_geometryOk _ _ _ _ _) hg) | (go_at_call 18; exact Later.ofI _ (impl_bankCount _ _ _ _ _) hF) | (go_at_call 49; first | exact Later.sameB _ (impl_between _ _ _ _) (by assumption) | exact Later.same _ (impl_between _ _ _ _)))))
  refine wpQuiet_nil ?_
  rintro _ ⟨xx, rfl⟩
  have xxe := xx.ext
  go_wp2
  go_ret
  exact ⟨rfl, (by repeat (first | exact Ext.refl _ | assumption | refine Ext.alloc ?_ _ | refine Ext.drew ?_ | refine Ext.drewN ?_ _ | refine Ext.setCell ?_ (by first | exact Nat.le_refl _ | (simp; done) | (simp; omega) | omega) _ | (apply Ext.trans; rotate_left; assumption)))⟩

theorem impl_addrOk (a b c d x y z : Int) (w : World) : Calls Try.prog 25 #[.agg #[.int .i64 a, .int .i64 b, .int .i64 c, .int .i64 d], .agg #[.int .i64 x, .int .i64 y, .int .i64 z]] w fun e w' => e = .returned (.bool (addrB a b c d x y z)) ∧ Ext w w' := by
  unfold addrB
  cases hg : geoB a b c d with
  | false => exact impl_addrOk_f0 a b c d x y z w hg
  | true =>
    cases hx : btw x 0 (a * b - 1) with
    | false => exact impl_addrOk_f1 a b c d x y z w hg hx
    | true =>
      cases hy : btw y 0 (c - 1) with
      | false => exact impl_addrOk_f2 a b c d x y z w hg hx hy
      | true => exact impl_addrOk_t a b c d x y z w hg hx hy

theorem impl_addrIndex (a b c d x y z : Int) (w : World) : Calls Try.prog 27 #[.agg #[.int .i64 a, .int .i64 b, .int .i64 c, .int .i64 d], .agg #[.int .i64 x, .int .i64 y, .int .i64 z]] w fun e w' => e = .returned (.int .i64 (addrIdxF a b c d x y z)) ∧ Ext w w' := by
  cases hA : addrB a b c d x y z with
  | true =>
    obtain ⟨⟨i1, i2⟩, ⟨i3, i4⟩, ⟨i5, i6⟩, ⟨i7, i8⟩⟩ := idx_facts hA
    rw [addrIdxF, if_pos hA]
    go_enter Try.func27, Try.ntmps27
    go_wp2_with fail
    refine (impl_addrOk _ _ _ _ _ _ _ _).mono ?_
    rintro e w1 ⟨rfl, x1⟩
    have b0 := ((Box.new w _ _).alloc _).ext x1
    have l10 := b0.lt
    obtain ⟨q100, q101, q102, q103⟩ := b0.cell4
    have b1 := (Box.new_at (w.alloc _) _ _ (w.heap.size + 1) (by simp)).ext x1
    have l11 := b1.lt
    obtain ⟨q110, q111, q112⟩ := b1.cell3
    go_wp2
    go_ret
    exact ⟨rfl, (by repeat (first | exact Ext.refl _ | assumption | refine Ext.alloc ?_ _ | refine Ext.drew ?_ | refine Ext.drewN ?_ _ | refine Ext.setCell ?_ (by first | exact Nat.le_refl _ | (simp; done) | (simp; omega) | omega) _ | (apply Ext.trans; rotate_left; assumption)))⟩
  | false =>
    rw [addrIdxF, if_neg (by simp [hA])]
    go_enter Try.func27, Try.ntmps27
    go_wp2_with fail
    refine (impl_addrOk _ _ _ _ _ _ _ _).mono ?_
    rintro e w1 ⟨rfl, x1⟩
    have b0 := ((Box.new w _ _).alloc _).ext x1
    have l10 := b0.lt
    obtain ⟨q100, q101, q102, q103⟩ := b0.cell4
    have b1 := (Box.new_at (w.alloc _) _ _ (w.heap.size + 1) (by simp)).ext x1
    have l11 := b1.lt
    obtain ⟨q110, q111, q112⟩ := b1.cell3
    go_wp2
    go_ret
    exact ⟨rfl, (by repeat (first | exact Ext.refl _ | assumption | refine Ext.alloc ?_ _ | refine Ext.drew ?_ | refine Ext.drewN ?_ _ | refine Ext.setCell ?_ (by first | exact Nat.le_refl _ | (simp; done) | (simp; omega) | omega) _ | (apply Ext.trans; rotate_left; assumption)))⟩

theorem impl_addrAt_yes (a b c d n : Int) (hB : atB a b c d n = true) (w : World) : Calls Try.prog 29 #[.agg #[.int .i64 a, .int .i64 b, .int .i64 c, .int .i64 d], .int .i64 n] w fun e w' => e = .returned (.tuple #[.agg #[.int .i64 (n / d / c), .int .i64 (n / d % c), .int .i64 (n % d)], .bool true]) ∧ Ext w w' := by
  have hr := lineF_range a b c d
  have h1 := (btw_iff.1 hB).1
  have h3 := (btw_iff.1 hB).2
  have hg := Lib.hid (lineF_pos (a := a) (b := b) (c := c) (d := d) (by omega))
  obtain ⟨_, _, ⟨c0, c1⟩, ⟨d0, d1⟩⟩ := geoB_iff.1 hg.out
  have h2 : 0 ≤ n / d := Int.ediv_nonneg h1 (by omega)
  have h4 : n / d ≤ n := Int.ediv_le_self _ h1
  unfold atB at hB
  go_enter Try.func29, Try.ntmps29
  go_wp2_with fail
  refine (impl_lineCount _ _ _ _ _).mono ?_
  rintro e w1 ⟨rfl, x1⟩
  have b0 := ((Box.new w _ _).alloc _).ext x1
  have l10 := b0.lt
  obtain ⟨q100, q101, q102, q103⟩ := b0.cell4
  have b1 := (Box.new_at (w.alloc _) _ _ (w.heap.size + 1) (by simp)).ext x1
  have l11 := b1.lt
  obtain ⟨q110, q111, q112⟩ := b1.cell3
  have f1 := b1.free
  go_wp2_with (go_at_call 49; refine (impl_between _ _ _ _).mono ?_; rintro e w' ⟨rfl, rfl⟩)
  go_region
  go_wp2
  exact bodyPost_ret (v := .tuple #[.agg #[.int .i64 (n / d / c), .int .i64 (n / d % c), .int .i64 (n % d)], .bool true]) (by simp [results, Try.results29, go_sem, b1.put30, b1.put31, b1.put32]) rfl ⟨rfl, (by repeat (first | exact Ext.refl _ | assumption | refine Ext.alloc ?_ _ | refine Ext.drew ?_ | refine Ext.drewN ?_ _ | refine Ext.setCell ?_ (by first | exact Nat.le_refl _ | (simp; done) | (simp; omega) | omega) _ | (apply Ext.trans; rotate_left; assumption)))⟩

theorem impl_addrAt_no (a b c d n : Int) (hB : atB a b c d n = false) (w : World) : Calls Try.prog 29 #[.agg #[.int .i64 a, .int .i64 b, .int .i64 c, .int .i64 d], .int .i64 n] w fun e w' => e = .returned (.tuple #[.agg #[.int .i64 0, .int .i64 0, .int .i64 0], .bool false]) ∧ Ext w w' := by
  have hr := lineF_range a b c d
  unfold atB at hB
  go_enter Try.func29, Try.ntmps29
  go_wp2_with fail
  refine (impl_lineCount _ _ _ _ _).mono ?_
  rintro e w1 ⟨rfl, x1⟩
  have b0 := ((Box.new w _ _).alloc _).ext x1
  have l10 := b0.lt
  obtain ⟨q100, q101, q102, q103⟩ := b0.cell4
  have b1 := (Box.new_at (w.alloc _) _ _ (w.heap.size + 1) (by simp)).ext x1
  have l11 := b1.lt
  obtain ⟨q110, q111, q112⟩ := b1.cell3
  have f1 := b1.free
  go_wp2_with (go_at_call 49; refine (impl_between _ _ _ _).mono ?_; rintro e w' ⟨rfl, rfl⟩)
  exact bodyPost_ret (v := .tuple #[.agg #[.int .i64 0, .int .i64 0, .int .i64 0], .bool false]) (by simp [results, Try.results29, go_sem, b1.put30, b1.put31, b1.put32]) rfl ⟨rfl, (by repeat (first | exact Ext.refl _ | assumption | refine Ext.alloc ?_ _ | refine Ext.drew ?_ | refine Ext.drewN ?_ _ | refine Ext.setCell ?_ (by first | exact Nat.le_refl _ | (simp; done) | (simp; omega) | omega) _ | (apply Ext.trans; rotate_left; assumption)))⟩

theorem spec_bankCount (a b c d : Int) (w : World) : Calls Try.prog 16 #[.agg #[.int .i64 a, .int .i64 b, .int .i64 c, .int .i64 d]] w fun e w' => e = .returned (.int .i64 (bankF a b c d)) ∧ Ext w w' := by
  cases hg : geoB a b c d with
  | true =>
    have hr := bank_range hg
    rw [bankF_yes hg]
    go_enter Try.func16, Try.ntmps16
    go_wp2_with fail
    refine (spec_geometryOk _ _ _ _ _).mono ?_
    rintro e w1 ⟨rfl, x1⟩
    have b0 := (Box.new w _ _).ext x1
    have l10 := b0.lt
    obtain ⟨q100, q101, q102, q103⟩ := b0.cell4
    go_wp2
    go_ret
    exact ⟨rfl, (by repeat (first | exact Ext.refl _ | assumption | refine Ext.alloc ?_ _ | refine Ext.drew ?_ | refine Ext.drewN ?_ _ | refine Ext.setCell ?_ (by first | exact Nat.le_refl _ | (simp; done) | (simp; omega) | omega) _ | (apply Ext.trans; rotate_left; assumption)))⟩
  | false =>
    rw [bankF_no hg]
    go_enter Try.func16, Try.ntmps16
    go_wp2_with fail
    refine (spec_geometryOk _ _ _ _ _).mono ?_
    rintro e w1 ⟨rfl, x1⟩
    have b0 := (Box.new w _ _).ext x1
    have l10 := b0.lt
    obtain ⟨q100, q101, q102, q103⟩ := b0.cell4
    go_wp2
    go_ret
    exact ⟨rfl, (by repeat (first | exact Ext.refl _ | assumption | refine Ext.alloc ?_ _ | refine Ext.drew ?_ | refine Ext.drewN ?_ _ | refine Ext.setCell ?_ (by first | exact Nat.le_refl _ | (simp; done) | (simp; omega) | omega) _ | (apply Ext.trans; rotate_left; assumption)))⟩

theorem spec_lineCount (a b c d : Int) (w : World) : Calls Try.prog 19 #[.agg #[.int .i64 a, .int .i64 b, .int .i64 c, .int .i64 d]] w fun e w' => e = .returned (.int .i64 (lineF a b c d)) ∧ Ext w w' := by
  cases hg : geoB a b c d with
  | true =>
    have hr := bank_range hg
    have hr2 := bankrow_range hg
    have hr3 := line_range hg
    have hF := bankF_yes hg
    have e1 : IntKind.i64.wrap (a * b * c) = a * b * c := IntWalk.i64_in _ (by omega)
    have e2 : IntKind.i64.wrap (a * b * c * d) = a * b * c * d := IntWalk.i64_in _ (by omega)
    rw [lineF_yes hg]
    go_enter Try.func19, Try.ntmps19
    go_wp2_with fail
    refine (spec_geometryOk _ _ _ _ _).mono ?_
    rintro e w1 ⟨rfl, x1⟩
    have b0 := (Box.new w _ _).ext x1
    have l10 := b0.lt
    obtain ⟨q100, q101, q102, q103⟩ := b0.cell4
    have gq0 := Later.cells (b0) 0
    have gq1 := Later.cells (b0) 1
    have gq2 := Later.cells (b0) 2
    have gq3 := Later.cells (b0) 3
    simp only [List.getElem?_toArray, List.getElem?_cons_zero, List.getElem?_cons_succ] at gq0 gq1 gq2 gq3
    go_wp2_with fail
    refine wp_region_later (by kernel_rfl) (by kernel_rfl) ?_
    repeat (go_big_quiet_step ((first | (go_at_call 16; exact Later.ofI _ (spec_bankCount _ _ _ _ _) hF))))
    refine wpQuiet_nil ?_
    rintro _ ⟨xx, rfl⟩
    have xxe := xx.ext
    go_wp2
    go_ret
    exact ⟨rfl, (by repeat (first | exact Ext.refl _ | assumption | refine Ext.alloc ?_ _ | refine Ext.drew ?_ | refine Ext.drewN ?_ _ | refine Ext.setCell ?_ (by first | exact Nat.le_refl _ | (simp; done) | (simp; omega) | omega) _ | (apply Ext.trans; rotate_left; assumption)))⟩
  | false =>
    rw [lineF_no hg]
    go_enter Try.func19, Try.ntmps19
    go_wp2_with fail
    refine (spec_geometryOk _ _ _ _ _).mono ?_
    rintro e w1 ⟨rfl, x1⟩
    have b0 := (Box.new w _ _).ext x1
    have l10 := b0.lt
    obtain ⟨q100, q101, q102, q103⟩ := b0.cell4
    go_wp2
    go_ret
    exact ⟨rfl, (by repeat (first | exact Ext.refl _ | assumption | refine Ext.alloc ?_ _ | refine Ext.drew ?_ | refine Ext.drewN ?_ _ | refine Ext.setCell ?_ (by first | exact Nat.le_refl _ | (simp; done) | (simp; omega) | omega) _ | (apply Ext.trans; rotate_left; assumption)))⟩

theorem spec_groupOf (a b c d n : Int) (w : World) : Calls Try.prog 21 #[.agg #[.int .i64 a, .int .i64 b, .int .i64 c, .int .i64 d], .int .i64 n] w fun e w' => e = .returned (.int .i64 (groupF a b c d n)) ∧ Ext w w' := by
  have hr := bankF_range a b c d
  cases hb : btw n 0 (bankF a b c d - 1) with
  | true =>
    have h1 := (btw_iff.1 hb).1
    have h2 := (btw_iff.1 hb).2
    have hg := Lib.hid (bankF_pos (a := a) (b := b) (c := c) (d := d) (by have := (btw_iff.1 hb).2; omega))
    have hbb := (geoB_iff.1 hg.out).2.1
    rw [groupF, if_pos hb]
    go_enter Try.func21, Try.ntmps21
    go_wp2_with fail
    refine (spec_bankCount _ _ _ _ _).mono ?_
    rintro e w1 ⟨rfl, x1⟩
    have b0 := (Box.new w _ _).ext x1
    have l10 := b0.lt
    obtain ⟨q100, q101, q102, q103⟩ := b0.cell4
    go_wp2_with (go_at_call 48; refine (spec_in _ _ _ _).mono ?_; rintro e w' ⟨rfl, rfl⟩)
    go_ret
    exact ⟨rfl, (by repeat (first | exact Ext.refl _ | assumption | refine Ext.alloc ?_ _ | refine Ext.drew ?_ | refine Ext.drewN ?_ _ | refine Ext.setCell ?_ (by first | exact Nat.le_refl _ | (simp; done) | (simp; omega) | omega) _ | (apply Ext.trans; rotate_left; assumption)))⟩
  | false =>
    rw [groupF, if_neg (by simp [hb])]
    go_enter Try.func21, Try.ntmps21
    go_wp2_with fail
    refine (spec_bankCount _ _ _ _ _).mono ?_
    rintro e w1 ⟨rfl, x1⟩
    have b0 := (Box.new w _ _).ext x1
    have l10 := b0.lt
    obtain ⟨q100, q101, q102, q103⟩ := b0.cell4
    go_wp2_with (go_at_call 48; refine (spec_in _ _ _ _).mono ?_; rintro e w' ⟨rfl, rfl⟩)
    go_ret
    exact ⟨rfl, (by repeat (first | exact Ext.refl _ | assumption | refine Ext.alloc ?_ _ | refine Ext.drew ?_ | refine Ext.drewN ?_ _ | refine Ext.setCell ?_ (by first | exact Nat.le_refl _ | (simp; done) | (simp; omega) | omega) _ | (apply Ext.trans; rotate_left; assumption)))⟩

theorem spec_addrOk_f0 (a b c d x y z : Int) (w : World) (hg : geoB a b c d = false) : Calls Try.prog 23 #[.agg #[.int .i64 a, .int .i64 b, .int .i64 c, .int .i64 d], .agg #[.int .i64 x, .int .i64 y, .int .i64 z]] w fun e w' => e = .returned (.bool false) ∧ Ext w w' := by
  have hF := bankF_no hg
  have hx : btw x 0 (-1) = false := btw_false (by omega)
  have gq0 := Later.cells ((Box.new w 25 #[.int .i64 a, .int .i64 b, .int .i64 c, .int .i64 d]).alloc (.cells #[.int .i64 x, .int .i64 y, .int .i64 z] 33)) 0
  have gq1 := Later.cells ((Box.new w 25 #[.int .i64 a, .int .i64 b, .int .i64 c, .int .i64 d]).alloc (.cells #[.int .i64 x, .int .i64 y, .int .i64 z] 33)) 1
  have gq2 := Later.cells ((Box.new w 25 #[.int .i64 a, .int .i64 b, .int .i64 c, .int .i64 d]).alloc (.cells #[.int .i64 x, .int .i64 y, .int .i64 z] 33)) 2
  have gq3 := Later.cells ((Box.new w 25 #[.int .i64 a, .int .i64 b, .int .i64 c, .int .i64 d]).alloc (.cells #[.int .i64 x, .int .i64 y, .int .i64 z] 33)) 3
  simp only [List.getElem?_toArray, List.getElem?_cons_zero, List.getElem?_cons_succ] at gq0 gq1 gq2 gq3
  have aq0 := Later.cells (Box.new_at (w.alloc (.cells #[.int .i64 a, .int .i64 b, .int .i64 c, .int .i64 d] 25)) 33 #[.int .i64 x, .int .i64 y, .int .i64 z] (w.heap.size + 1) (by simp)) 0
  have aq1 := Later.cells (Box.new_at (w.alloc (.cells #[.int .i64 a, .int .i64 b, .int .i64 c, .int .i64 d] 25)) 33 #[.int .i64 x, .int .i64 y, .int .i64 z] (w.heap.size + 1) (by simp)) 1
  have aq2 := Later.cells (Box.new_at (w.alloc (.cells #[.int .i64 a, .int .i64 b, .int .i64 c, .int .i64 d] 25)) 33 #[.int .i64 x, .int .i64 y, .int .i64 z] (w.heap.size + 1) (by simp)) 2
  simp only [List.getElem?_toArray, List.getElem?_cons_zero, List.getElem?_cons_succ] at aq0 aq1 aq2
  go_enter Try.func23, Try.ntmps23
  go_wp2_with fail
  refine wp_region_later (by kernel_rfl) (by kernel_rfl) ?_
  repeat (go_big_quiet_step ((first | (go_at_call 16; exact Later.ofI _ (spec_bankCount _ _ _ _ _) hF) | (go_at_call 48; first | exact Later.sameB _ (spec_in _ _ _ _) (by assumption) | exact Later.same _ (spec_in _ _ _ _)))))
  refine wpQuiet_nil ?_
  rintro _ ⟨xx, rfl⟩
  have xxe := xx.ext
  go_wp2
  go_ret
  exact ⟨rfl, (by repeat (first | exact Ext.refl _ | assumption | refine Ext.alloc ?_ _ | refine Ext.drew ?_ | refine Ext.drewN ?_ _ | refine Ext.setCell ?_ (by first | exact Nat.le_refl _ | (simp; done) | (simp; omega) | omega) _ | (apply Ext.trans; rotate_left; assumption)))⟩

theorem spec_addrOk_f1 (a b c d x y z : Int) (w : World) (hg : geoB a b c d = true) (hx : btw x 0 (a * b - 1) = false) : Calls Try.prog 23 #[.agg #[.int .i64 a, .int .i64 b, .int .i64 c, .int .i64 d], .agg #[.int .i64 x, .int .i64 y, .int .i64 z]] w fun e w' => e = .returned (.bool false) ∧ Ext w w' := by
  have hr := bank_range hg
  have hF := bankF_yes hg
  obtain ⟨_, _, ⟨c0, c1⟩, ⟨d0, d1⟩⟩ := geoB_iff.1 hg
  have gq0 := Later.cells ((Box.new w 25 #[.int .i64 a, .int .i64 b, .int .i64 c, .int .i64 d]).alloc (.cells #[.int .i64 x, .int .i64 y, .int .i64 z] 33)) 0
  have gq1 := Later.cells ((Box.new w 25 #[.int .i64 a, .int .i64 b, .int .i64 c, .int .i64 d]).alloc (.cells #[.int .i64 x, .int .i64 y, .int .i64 z] 33)) 1
  have gq2 := Later.cells ((Box.new w 25 #[.int .i64 a, .int .i64 b, .int .i64 c, .int .i64 d]).alloc (.cells #[.int .i64 x, .int .i64 y, .int .i64 z] 33)) 2
  have gq3 := Later.cells ((Box.new w 25 #[.int .i64 a, .int .i64 b, .int .i64 c, .int .i64 d]).alloc (.cells #[.int .i64 x, .int .i64 y, .int .i64 z] 33)) 3
  simp only [List.getElem?_toArray, List.getElem?_cons_zero, List.getElem?_cons_succ] at gq0 gq1 gq2 gq3
  have aq0 := Later.cells (Box.new_at (w.alloc (.cells #[.int .i64 a, .int .i64 b, .int .i64 c, .int .i64 d] 25)) 33 #[.int .i64 x, .int .i64 y, .int .i64 z] (w.heap.size + 1) (by simp)) 0
  have aq1 := Later.cells (Box.new_at (w.alloc (.cells #[.int .i64 a, .int .i64 b, .int .i64 c, .int .i64 d] 25)) 33 #[.int .i64 x, .int .i64 y, .int .i64 z] (w.heap.size + 1) (by simp)) 1
  have aq2 := Later.cells (Box.new_at (w.alloc (.cells #[.int .i64 a, .int .i64 b, .int .i64 c, .int .i64 d] 25)) 33 #[.int .i64 x, .int .i64 y, .int .i64 z] (w.heap.size + 1) (by simp)) 2
  simp only [List.getElem?_toArray, List.getElem?_cons_zero, List.getElem?_cons_succ] at aq0 aq1 aq2
  go_enter Try.func23, Try.ntmps23
  go_wp2_with fail
  refine wp_region_later (by kernel_rfl) (by kernel_rfl) ?_
  repeat (go_big_quiet_step ((first | (go_at_call 16; exact Later.ofI _ (spec_bankCount _ _ _ _ _) hF) | (go_at_call 48; first | exact Later.sameB _ (spec_in _ _ _ _) (by assumption) | exact Later.same _ (spec_in _ _ _ _)))))
  refine wpQuiet_nil ?_
  rintro _ ⟨xx, rfl⟩
  have xxe := xx.ext
  go_wp2
  go_ret
  exact ⟨rfl, (by repeat (first | exact Ext.refl _ | assumption | refine Ext.alloc ?_ _ | refine Ext.drew ?_ | refine Ext.drewN ?_ _ | refine Ext.setCell ?_ (by first | exact Nat.le_refl _ | (simp; done) | (simp; omega) | omega) _ | (apply Ext.trans; rotate_left; assumption)))⟩

theorem spec_addrOk_f2 (a b c d x y z : Int) (w : World) (hg : geoB a b c d = true) (hx : btw x 0 (a * b - 1) = true) (hy : btw y 0 (c - 1) = false) : Calls Try.prog 23 #[.agg #[.int .i64 a, .int .i64 b, .int .i64 c, .int .i64 d], .agg #[.int .i64 x, .int .i64 y, .int .i64 z]] w fun e w' => e = .returned (.bool false) ∧ Ext w w' := by
  have hr := bank_range hg
  have hF := bankF_yes hg
  obtain ⟨_, _, ⟨c0, c1⟩, ⟨d0, d1⟩⟩ := geoB_iff.1 hg
  have gq0 := Later.cells ((Box.new w 25 #[.int .i64 a, .int .i64 b, .int .i64 c, .int .i64 d]).alloc (.cells #[.int .i64 x, .int .i64 y, .int .i64 z] 33)) 0
  have gq1 := Later.cells ((Box.new w 25 #[.int .i64 a, .int .i64 b, .int .i64 c, .int .i64 d]).alloc (.cells #[.int .i64 x, .int .i64 y, .int .i64 z] 33)) 1
  have gq2 := Later.cells ((Box.new w 25 #[.int .i64 a, .int .i64 b, .int .i64 c, .int .i64 d]).alloc (.cells #[.int .i64 x, .int .i64 y, .int .i64 z] 33)) 2
  have gq3 := Later.cells ((Box.new w 25 #[.int .i64 a, .int .i64 b, .int .i64 c, .int .i64 d]).alloc (.cells #[.int .i64 x, .int .i64 y, .int .i64 z] 33)) 3
  simp only [List.getElem?_toArray, List.getElem?_cons_zero, List.getElem?_cons_succ] at gq0 gq1 gq2 gq3
  have aq0 := Later.cells (Box.new_at (w.alloc (.cells #[.int .i64 a, .int .i64 b, .int .i64 c, .int .i64 d] 25)) 33 #[.int .i64 x, .int .i64 y, .int .i64 z] (w.heap.size + 1) (by simp)) 0
  have aq1 := Later.cells (Box.new_at (w.alloc (.cells #[.int .i64 a, .int .i64 b, .int .i64 c, .int .i64 d] 25)) 33 #[.int .i64 x, .int .i64 y, .int .i64 z] (w.heap.size + 1) (by simp)) 1
  have aq2 := Later.cells (Box.new_at (w.alloc (.cells #[.int .i64 a, .int .i64 b, .int .i64 c, .int .i64 d] 25)) 33 #[.int .i64 x, .int .i64 y, .int .i64 z] (w.heap.size + 1) (by simp)) 2
  simp only [List.getElem?_toArray, List.getElem?_cons_zero, List.getElem?_cons_succ] at aq0 aq1 aq2
  go_enter Try.func23, Try.ntmps23
  go_wp2_with fail
  refine wp_region_later (by kernel_rfl) (by kernel_rfl) ?_
  repeat (go_big_quiet_step ((first | (go_at_call 16; exact Later.ofI _ (spec_bankCount _ _ _ _ _) hF) | (go_at_call 48; first | exact Later.sameB _ (spec_in _ _ _ _) (by assumption) | exact Later.same _ (spec_in _ _ _ _)))))
  refine wpQuiet_nil ?_
  rintro _ ⟨xx, rfl⟩
  have xxe := xx.ext
  go_wp2
  go_ret
  exact ⟨rfl, (by repeat (first | exact Ext.refl _ | assumption | refine Ext.alloc ?_ _ | refine Ext.drew ?_ | refine Ext.drewN ?_ _ | refine Ext.setCell ?_ (by first | exact Nat.le_refl _ | (simp; done) | (simp; omega) | omega) _ | (apply Ext.trans; rotate_left; assumption)))⟩

theorem spec_addrOk_t (a b c d x y z : Int) (w : World) (hg : geoB a b c d = true) (hx : btw x 0 (a * b - 1) = true) (hy : btw y 0 (c - 1) = true) : Calls Try.prog 23 #[.agg #[.int .i64 a, .int .i64 b, .int .i64 c, .int .i64 d], .agg #[.int .i64 x, .int .i64 y, .int .i64 z]] w fun e w' => e = .returned (.bool (btw z 0 (d - 1))) ∧ Ext w w' := by
  have hr := bank_range hg
  have hF := bankF_yes hg
  obtain ⟨_, _, ⟨c0, c1⟩, ⟨d0, d1⟩⟩ := geoB_iff.1 hg
  have gq0 := Later.cells ((Box.new w 25 #[.int .i64 a, .int .i64 b, .int .i64 c, .int .i64 d]).alloc (.cells #[.int .i64 x, .int .i64 y, .int .i64 z] 33)) 0
  have gq1 := Later.cells ((Box.new w 25 #[.int .i64 a, .int .i64 b, .int .i64 c, .int .i64 d]).alloc (.cells #[.int .i64 x, .int .i64 y, .int .i64 z] 33)) 1
  have gq2 := Later.cells ((Box.new w 25 #[.int .i64 a, .int .i64 b, .int .i64 c, .int .i64 d]).alloc (.cells #[.int .i64 x, .int .i64 y, .int .i64 z] 33)) 2
  have gq3 := Later.cells ((Box.new w 25 #[.int .i64 a, .int .i64 b, .int .i64 c, .int .i64 d]).alloc (.cells #[.int .i64 x, .int .i64 y, .int .i64 z] 33)) 3
  simp only [List.getElem?_toArray, List.getElem?_cons_zero, List.getElem?_cons_succ] at gq0 gq1 gq2 gq3
  have aq0 := Later.cells (Box.new_at (w.alloc (.cells #[.int .i64 a, .int .i64 b, .int .i64 c, .int .i64 d] 25)) 33 #[.int .i64 x, .int .i64 y, .int .i64 z] (w.heap.size + 1) (by simp)) 0
  have aq1 := Later.cells (Box.new_at (w.alloc (.cells #[.int .i64 a, .int .i64 b, .int .i64 c, .int .i64 d] 25)) 33 #[.int .i64 x, .int .i64 y, .int .i64 z] (w.heap.size + 1) (by simp)) 1
  have aq2 := Later.cells (Box.new_at (w.alloc (.cells #[.int .i64 a, .int .i64 b, .int .i64 c, .int .i64 d] 25)) 33 #[.int .i64 x, .int .i64 y, .int .i64 z] (w.heap.size + 1) (by simp)) 2
  simp only [List.getElem?_toArray, List.getElem?_cons_zero, List.getElem?_cons_succ] at aq0 aq1 aq2
  go_enter Try.func23, Try.ntmps23
  go_wp2_with fail
  refine wp_region_later (by kernel_rfl) (by kernel_rfl) ?_
  repeat (go_big_quiet_step ((first | (go_at_call 16; exact Later.ofI _ (spec_bankCount _ _ _ _ _) hF) | (go_at_call 48; first | exact Later.sameB _ (spec_in _ _ _ _) (by assumption) | exact Later.same _ (spec_in _ _ _ _)))))
  refine wpQuiet_nil ?_
  rintro _ ⟨xx, rfl⟩
  have xxe := xx.ext
  go_wp2
  go_ret
  exact ⟨rfl, (by repeat (first | exact Ext.refl _ | assumption | refine Ext.alloc ?_ _ | refine Ext.drew ?_ | refine Ext.drewN ?_ _ | refine Ext.setCell ?_ (by first | exact Nat.le_refl _ | (simp; done) | (simp; omega) | omega) _ | (apply Ext.trans; rotate_left; assumption)))⟩

theorem spec_addrOk (a b c d x y z : Int) (w : World) : Calls Try.prog 23 #[.agg #[.int .i64 a, .int .i64 b, .int .i64 c, .int .i64 d], .agg #[.int .i64 x, .int .i64 y, .int .i64 z]] w fun e w' => e = .returned (.bool (addrB a b c d x y z)) ∧ Ext w w' := by
  unfold addrB
  cases hg : geoB a b c d with
  | false => exact spec_addrOk_f0 a b c d x y z w hg
  | true =>
    cases hx : btw x 0 (a * b - 1) with
    | false => exact spec_addrOk_f1 a b c d x y z w hg hx
    | true =>
      cases hy : btw y 0 (c - 1) with
      | false => exact spec_addrOk_f2 a b c d x y z w hg hx hy
      | true => exact spec_addrOk_t a b c d x y z w hg hx hy

theorem spec_addrIndex (a b c d x y z : Int) (w : World) : Calls Try.prog 26 #[.agg #[.int .i64 a, .int .i64 b, .int .i64 c, .int .i64 d], .agg #[.int .i64 x, .int .i64 y, .int .i64 z]] w fun e w' => e = .returned (.int .i64 (addrIdxF a b c d x y z)) ∧ Ext w w' := by
  cases hA : addrB a b c d x y z with
  | true =>
    obtain ⟨⟨i1, i2⟩, ⟨i3, i4⟩, ⟨i5, i6⟩, ⟨i7, i8⟩⟩ := idx_facts hA
    rw [addrIdxF, if_pos hA]
    go_enter Try.func26, Try.ntmps26
    go_wp2_with fail
    refine (spec_addrOk _ _ _ _ _ _ _ _).mono ?_
    rintro e w1 ⟨rfl, x1⟩
    have b0 := ((Box.new w _ _).alloc _).ext x1
    have l10 := b0.lt
    obtain ⟨q100, q101, q102, q103⟩ := b0.cell4
    have b1 := (Box.new_at (w.alloc _) _ _ (w.heap.size + 1) (by simp)).ext x1
    have l11 := b1.lt
    obtain ⟨q110, q111, q112⟩ := b1.cell3
    go_wp2
    go_ret
    exact ⟨rfl, (by repeat (first | exact Ext.refl _ | assumption | refine Ext.alloc ?_ _ | refine Ext.drew ?_ | refine Ext.drewN ?_ _ | refine Ext.setCell ?_ (by first | exact Nat.le_refl _ | (simp; done) | (simp; omega) | omega) _ | (apply Ext.trans; rotate_left; assumption)))⟩
  | false =>
    rw [addrIdxF, if_neg (by simp [hA])]
    go_enter Try.func26, Try.ntmps26
    go_wp2_with fail
    refine (spec_addrOk _ _ _ _ _ _ _ _).mono ?_
    rintro e w1 ⟨rfl, x1⟩
    have b0 := ((Box.new w _ _).alloc _).ext x1
    have l10 := b0.lt
    obtain ⟨q100, q101, q102, q103⟩ := b0.cell4
    have b1 := (Box.new_at (w.alloc _) _ _ (w.heap.size + 1) (by simp)).ext x1
    have l11 := b1.lt
    obtain ⟨q110, q111, q112⟩ := b1.cell3
    go_wp2
    go_ret
    exact ⟨rfl, (by repeat (first | exact Ext.refl _ | assumption | refine Ext.alloc ?_ _ | refine Ext.drew ?_ | refine Ext.drewN ?_ _ | refine Ext.setCell ?_ (by first | exact Nat.le_refl _ | (simp; done) | (simp; omega) | omega) _ | (apply Ext.trans; rotate_left; assumption)))⟩

theorem spec_addrAt_yes (a b c d n : Int) (hB : atB a b c d n = true) (w : World) : Calls Try.prog 28 #[.agg #[.int .i64 a, .int .i64 b, .int .i64 c, .int .i64 d], .int .i64 n] w fun e w' => e = .returned (.tuple #[.agg #[.int .i64 (n / d / c), .int .i64 (n / d % c), .int .i64 (n % d)], .bool true]) ∧ Ext w w' := by
  have hr := lineF_range a b c d
  have h1 := (btw_iff.1 hB).1
  have h3 := (btw_iff.1 hB).2
  have hg := Lib.hid (lineF_pos (a := a) (b := b) (c := c) (d := d) (by omega))
  obtain ⟨_, _, ⟨c0, c1⟩, ⟨d0, d1⟩⟩ := geoB_iff.1 hg.out
  have h2 : 0 ≤ n / d := Int.ediv_nonneg h1 (by omega)
  have h4 : n / d ≤ n := Int.ediv_le_self _ h1
  unfold atB at hB
  go_enter Try.func28, Try.ntmps28
  go_wp2_with fail
  refine (spec_lineCount _ _ _ _ _).mono ?_
  rintro e w1 ⟨rfl, x1⟩
  have b0 := ((Box.new w _ _).alloc _).ext x1
  have l10 := b0.lt
  obtain ⟨q100, q101, q102, q103⟩ := b0.cell4
  have b1 := (Box.new_at (w.alloc _) _ _ (w.heap.size + 1) (by simp)).ext x1
  have l11 := b1.lt
  obtain ⟨q110, q111, q112⟩ := b1.cell3
  have f1 := b1.free
  go_wp2_with (go_at_call 48; refine (spec_in _ _ _ _).mono ?_; rintro e w' ⟨rfl, rfl⟩)
  go_region
  go_wp2
  exact bodyPost_ret (v := .tuple #[.agg #[.int .i64 (n / d / c), .int .i64 (n / d % c), .int .i64 (n % d)], .bool true]) (by simp [results, Try.results28, go_sem, b1.put30, b1.put31, b1.put32]) rfl ⟨rfl, (by repeat (first | exact Ext.refl _ | assumption | refine Ext.alloc ?_ _ | refine Ext.drew ?_ | refine Ext.drewN ?_ _ | refine Ext.setCell ?_ (by first | exact Nat.le_refl _ | (simp; done) | (simp; omega) | omega) _ | (apply Ext.trans; rotate_left; assumption)))⟩

theorem spec_addrAt_no (a b c d n : Int) (hB : atB a b c d n = false) (w : World) : Calls Try.prog 28 #[.agg #[.int .i64 a, .int .i64 b, .int .i64 c, .int .i64 d], .int .i64 n] w fun e w' => e = .returned (.tuple #[.agg #[.int .i64 0, .int .i64 0, .int .i64 0], .bool false]) ∧ Ext w w' := by
  have hr := lineF_range a b c d
  unfold atB at hB
  go_enter Try.func28, Try.ntmps28
  go_wp2_with fail
  refine (spec_lineCount _ _ _ _ _).mono ?_
  rintro e w1 ⟨rfl, x1⟩
  have b0 := ((Box.new w _ _).alloc _).ext x1
  have l10 := b0.lt
  obtain ⟨q100, q101, q102, q103⟩ := b0.cell4
  have b1 := (Box.new_at (w.alloc _) _ _ (w.heap.size + 1) (by simp)).ext x1
  have l11 := b1.lt
  obtain ⟨q110, q111, q112⟩ := b1.cell3
  have f1 := b1.free
  go_wp2_with (go_at_call 48; refine (spec_in _ _ _ _).mono ?_; rintro e w' ⟨rfl, rfl⟩)
  exact bodyPost_ret (v := .tuple #[.agg #[.int .i64 0, .int .i64 0, .int .i64 0], .bool false]) (by simp [results, Try.results28, go_sem, b1.put30, b1.put31, b1.put32]) rfl ⟨rfl, (by repeat (first | exact Ext.refl _ | assumption | refine Ext.alloc ?_ _ | refine Ext.drew ?_ | refine Ext.drewN ?_ _ | refine Ext.setCell ?_ (by first | exact Nat.le_refl _ | (simp; done) | (simp; omega) | omega) _ | (apply Ext.trans; rotate_left; assumption)))⟩

theorem to_addr (x y z : Int) (w : World) : Calls Try.prog 24 #[.agg #[.int .i64 x, .int .i64 y, .int .i64 z]] w fun e w' => e = .returned (.agg #[.int .i64 x, .int .i64 y, .int .i64 z]) ∧ Ext w w' := by
  go_enter Try.func24, Try.ntmps24
  go_wp2
  exact bodyPost_ret (v := .agg #[.int .i64 x, .int .i64 y, .int .i64 z]) (by simp [results, Try.results24, go_sem]) rfl ⟨rfl, (((Ext.refl _).alloc _).alloc _).alloc _⟩

theorem eq_addr (x y z : Int) (w : World) : Calls Try.prog 30 #[.agg #[.int .i64 x, .int .i64 y, .int .i64 z], .agg #[.int .i64 x, .int .i64 y, .int .i64 z]] w fun e w' => e = .returned (.bool true) ∧ Ext w w' := by
  go_enter Try.func30, Try.ntmps30
  go_wp2
  go_ret
  exact ⟨rfl, (by repeat (first | exact Ext.refl _ | assumption | refine Ext.alloc ?_ _ | refine Ext.drew ?_ | refine Ext.drewN ?_ _ | refine Ext.setCell ?_ (by first | exact Nat.le_refl _ | (simp; done) | (simp; omega) | omega) _ | (apply Ext.trans; rotate_left; assumption)))⟩

end Go.Proofs.Ytdaphamplgcccaa