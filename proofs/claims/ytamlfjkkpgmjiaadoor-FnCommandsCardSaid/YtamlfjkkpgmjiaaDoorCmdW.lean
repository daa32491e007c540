/- Contracts of the functions of commands: which fields a kind uses, well-formed commands, PackCommand, FrameCommand; both sides. -/
import Derived.Test.YtamlfjkkpgmjiaaDoorNumW
import Derived.Test.YtamlfjkkpgmjiaaDoorCmdP
import Derived.Test.YtamlfjkkpgmjiaaDoorBitW
namespace Go.Proofs.YtamlfjkkpgmjiaaDoor
open Go.RowKit

theorem uses_bank (k : Int) (w : World) : Calls Tryd.prog 25 #[.int .i64 k] w fun e w' => e = .returned (.bool (useB k)) ∧ w = w' := by
  go_enter Tryd.func25, Tryd.ntmps25
  go_wp2_with (go_at_call 42; refine (impl_between _ _ _ _).mono ?_; rintro e w' ⟨rfl, rfl⟩)
  go_ret
  exact ⟨rfl, rfl⟩

theorem uses_row (k : Int) (w : World) : Calls Tryd.prog 27 #[.int .i64 k] w fun e w' => e = .returned (.bool (useR k)) ∧ w = w' := by
  go_enter Tryd.func27, Tryd.ntmps27
  go_wp2
  go_ret
  exact ⟨rfl, rfl⟩

theorem uses_col (k : Int) (w : World) : Calls Tryd.prog 28 #[.int .i64 k] w fun e w' => e = .returned (.bool (useC k)) ∧ w = w' := by
  unfold useC
  cases h : k == 2 with
  | true =>
    go_enter Tryd.func28, Tryd.ntmps28
    go_wp2
    go_ret
    exact ⟨rfl, rfl⟩
  | false =>
    go_enter Tryd.func28, Tryd.ntmps28
    go_wp2
    go_ret
    exact ⟨by simp, rfl⟩

theorem field_ok (n : Int) (u : Bool) (m : Int) (h1 : 0 ≤ m) (h2 : m ≤ 1000) (w : World) : Calls Tryd.prog 43 #[.int .i64 n, .bool u, .int .i64 m] w fun e w' => e = .returned (.bool (fieldB n u m)) ∧ w = w' := by
  cases u with
  | true =>
    go_enter Tryd.func43, Tryd.ntmps43
    go_wp2_with (go_at_call 42; refine (impl_between _ _ _ _).mono ?_; rintro e w' ⟨rfl, rfl⟩)
    go_ret
    exact ⟨by simp [fieldB], rfl⟩
  | false =>
    go_enter Tryd.func43, Tryd.ntmps43
    go_wp2
    go_ret
    exact ⟨by simp [fieldB], rfl⟩

theorem well_formed_0 (k b r c lb lr lc : Int) (hb : 0 ≤ lb ∧ lb ≤ 1000) (hr : 0 ≤ lr ∧ lr ≤ 1000) (hc : 0 ≤ lc ∧ lc ≤ 1000) (h1 : btw k 1 9 = false) (w : World) : Calls Tryd.prog 23 #[.agg #[.int .i64 k, .int .i64 b, .int .i64 r, .int .i64 c], .int .i64 lb, .int .i64 lr, .int .i64 lc] w fun e w' => e = .returned (.bool false) ∧ Ext w w' := by
  have gq0 := Later.cells (Box.new w 25 #[.int .i64 k, .int .i64 b, .int .i64 r, .int .i64 c]) 0
  have gq1 := Later.cells (Box.new w 25 #[.int .i64 k, .int .i64 b, .int .i64 r, .int .i64 c]) 1
  have gq2 := Later.cells (Box.new w 25 #[.int .i64 k, .int .i64 b, .int .i64 r, .int .i64 c]) 2
  have gq3 := Later.cells (Box.new w 25 #[.int .i64 k, .int .i64 b, .int .i64 r, .int .i64 c]) 3
  simp only [List.getElem?_toArray, List.getElem?_cons_zero, List.getElem?_cons_succ] at gq0 gq1 gq2 gq3
  go_enter Tryd.func23, Tryd.ntmps23
  go_wp2_with fail
  refine wp_region_later (by kernel_rfl) (by kernel_rfl) ?_
  repeat (go_big_quiet_step ((first | (go_at_call 42; first | exact Later.sameB _ (impl_between _ _ _ _) (by assumption) | exact Later.same _ (impl_between _ _ _ _)) | (go_at_call 25; exact Later.same _ (uses_bank _ _)) | (go_at_call 27; exact Later.same _ (uses_row _ _)) | (go_at_call 28; exact Later.same _ (uses_col _ _)) | (go_at_call 43; first | exact Later.sameB _ (field_ok _ _ _ (by omega) (by omega) _) (by assumption) | exact Later.same _ (field_ok _ _ _ (by omega) (by omega) _)))))
  refine wpQuiet_nil ?_
  rintro _ ⟨xx, rfl⟩
  have xxe := xx.ext
  go_wp2
  go_ret
  exact ⟨rfl, (by repeat (first | exact Ext.refl _ | assumption | refine Ext.alloc ?_ _ | refine Ext.drew ?_ | refine Ext.drewN ?_ _ | refine Ext.setCell ?_ (by first | exact Nat.le_refl _ | (simp; done) | (simp; omega) | omega) _ | (apply Ext.trans; rotate_left; assumption)))⟩

theorem well_formed_1 (k b r c lb lr lc : Int) (hb : 0 ≤ lb ∧ lb ≤ 1000) (hr : 0 ≤ lr ∧ lr ≤ 1000) (hc : 0 ≤ lc ∧ lc ≤ 1000) (h1 : btw k 1 9 = true) (h2 : fieldB b (useB k) lb = false) (w : World) : Calls Tryd.prog 23 #[.agg #[.int .i64 k, .int .i64 b, .int .i64 r, .int .i64 c], .int .i64 lb, .int .i64 lr, .int .i64 lc] w fun e w' => e = .returned (.bool false) ∧ Ext w w' := by
  have gq0 := Later.cells (Box.new w 25 #[.int .i64 k, .int .i64 b, .int .i64 r, .int .i64 c]) 0
  have gq1 := Later.cells (Box.new w 25 #[.int .i64 k, .int .i64 b, .int .i64 r, .int .i64 c]) 1
  have gq2 := Later.cells (Box.new w 25 #[.int .i64 k, .int .i64 b, .int .i64 r, .int .i64 c]) 2
  have gq3 := Later.cells (Box.new w 25 #[.int .i64 k, .int .i64 b, .int .i64 r, .int .i64 c]) 3
  simp only [List.getElem?_toArray, List.getElem?_cons_zero, List.getElem?_cons_succ] at gq0 gq1 gq2 gq3
  go_enter Tryd.func23, Tryd.ntmps23
  go_wp2_with fail
  refine wp_region_later (by kernel_rfl) (by kernel_rfl) ?_
  repeat (go_big_quiet_step ((first | (go_at_call 42; first | exact Later.sameB _ (impl_between _ _ _ _) (by assumption) | exact Later.same _ (impl_between _ _ _ _)) | (go_at_call 25; exact Later.same _ (uses_bank _ _)) | (go_at_call 27; exact Later.same _ (uses_row _ _)) | (go_at_call 28; exact Later.same _ (uses_col _ _)) | (go_at_call 43; first | exact Later.sameB _ (field_ok _ _ _ (by omega) (by omega) _) (by assumption) | exact Later.same _ (field_ok _ _ _ (by omega) (by omega) _)))))
  refine wpQuiet_nil ?_
  rintro _ ⟨xx, rfl⟩
  have xxe := xx.ext
  go_wp2
  go_ret
  exact ⟨rfl, (by repeat (first | exact Ext.refl _ | assumption | refine Ext.alloc ?_ _ | refine Ext.drew ?_ | refine Ext.drewN ?_ _ | refine Ext.setCell ?_ (by first | exact Nat.le_refl _ | (simp; done) | (simp; omega) | omega) _ | (apply Ext.trans; rotate_left; assumption)))⟩

theorem well_formed_2 (k b r c lb lr lc : Int) (hb : 0 ≤ lb ∧ lb ≤ 1000) (hr : 0 ≤ lr ∧ lr ≤ 1000) (hc : 0 ≤ lc ∧ lc ≤ 1000) (h1 : btw k 1 9 = true) (h2 : fieldB b (useB k) lb = true) (h3 : fieldB r (useR k) lr = false) (w : World) : Calls Tryd.prog 23 #[.agg #[.int .i64 k, .int .i64 b, .int .i64 r, .int .i64 c], .int .i64 lb, .int .i64 lr, .int .i64 lc] w fun e w' => e = .returned (.bool false) ∧ Ext w w' := by
  have gq0 := Later.cells (Box.new w 25 #[.int .i64 k, .int .i64 b, .int .i64 r, .int .i64 c]) 0
  have gq1 := Later.cells (Box.new w 25 #[.int .i64 k, .int .i64 b, .int .i64 r, .int .i64 c]) 1
  have gq2 := Later.cells (Box.new w 25 #[.int .i64 k, .int .i64 b, .int .i64 r, .int .i64 c]) 2
  have gq3 := Later.cells (Box.new w 25 #[.int .i64 k, .int .i64 b, .int .i64 r, .int .i64 c]) 3
  simp only [List.getElem?_toArray, List.getElem?_cons_zero, List.getElem?_cons_succ] at gq0 gq1 gq2 gq3
  go_enter Tryd.func23, Tryd.ntmps23
  go_wp2_with fail
  refine wp_region_later (by kernel_rfl) (by kernel_rfl) ?_
  repeat (go_big_quiet_step ((first | (go_at_call 42; first | exact Later.sameB _ (impl_between _ _ _ _) (by assumption) | exact Later.same _ (impl_between _ _ _ _)) | (go_at_call 25; exact Later.same _ (uses_bank _ _)) | (go_at_call 27; exact Later.same _ (uses_row _ _)) | (go_at_call 28; exact Later.same _ (uses_col _ _)) | (go_at_call 43; first | exact Later.sameB _ (field_ok _ _ _ (by omega) (by omega) _) (by assumption) | exact Later.same _ (field_ok _ _ _ (by omega) (by omega) _)))))
  refine wpQuiet_nil ?_
  rintro _ ⟨xx, rfl⟩
  have xxe := xx.ext
  go_wp2
  go_ret
  exact ⟨rfl, (by repeat (first | exact Ext.refl _ | assumption | refine Ext.alloc ?_ _ | refine Ext.drew ?_ | refine Ext.drewN ?_ _ | refine Ext.setCell ?_ (by first | exact Nat.le_refl _ | (simp; done) | (simp; omega) | omega) _ | (apply Ext.trans; rotate_left; assumption)))⟩

theorem well_formed_3 (k b r c lb lr lc : Int) (hb : 0 ≤ lb ∧ lb ≤ 1000) (hr : 0 ≤ lr ∧ lr ≤ 1000) (hc : 0 ≤ lc ∧ lc ≤ 1000) (h1 : btw k 1 9 = true) (h2 : fieldB b (useB k) lb = true) (h3 : fieldB r (useR k) lr = true) (w : World) : Calls Tryd.prog 23 #[.agg #[.int .i64 k, .int .i64 b, .int .i64 r, .int .i64 c], .int .i64 lb, .int .i64 lr, .int .i64 lc] w fun e w' => e = .returned (.bool (fieldB c (useC k) lc)) ∧ Ext w w' := by
  have gq0 := Later.cells (Box.new w 25 #[.int .i64 k, .int .i64 b, .int .i64 r, .int .i64 c]) 0
  have gq1 := Later.cells (Box.new w 25 #[.int .i64 k, .int .i64 b, .int .i64 r, .int .i64 c]) 1
  have gq2 := Later.cells (Box.new w 25 #[.int .i64 k, .int .i64 b, .int .i64 r, .int .i64 c]) 2
  have gq3 := Later.cells (Box.new w 25 #[.int .i64 k, .int .i64 b, .int .i64 r, .int .i64 c]) 3
  simp only [List.getElem?_toArray, List.getElem?_cons_zero, List.getElem?_cons_succ] at gq0 gq1 gq2 gq3
  go_enter Tryd.func23, Tryd.ntmps23
  go_wp2_with fail
  refine wp_region_later (by kernel_rfl) (by kernel_rfl) ?_
  repeat (go_big_quiet_step ((first | (go_at_call 42; first | exact Later.sameB _ (impl_between _ _ _ _) (by assumption) | exact Later.same _ (impl_between _ _ _ _)) | (go_at_call 25; exact Later.same _ (uses_bank _ _)) | (go_at_call 27; exact Later.same _ (uses_row _ _)) | (go_at_call 28; exact Later.same _ (uses_col _ _)) | (go_at_call 43; first | exact Later.sameB _ (field_ok _ _ _ (by omega) (by omega) _) (by assumption) | exact Later.same _ (field_ok _ _ _ (by omega) (by omega) _)))))
  refine wpQuiet_nil ?_
  rintro _ ⟨xx, rfl⟩
  have xxe := xx.ext
  go_wp2
  go_ret
  exact ⟨rfl, (by repeat (first | exact Ext.refl _ | assumption | refine Ext.alloc ?_ _ | refine Ext.drew ?_ | refine Ext.drewN ?_ _ | refine Ext.setCell ?_ (by first | exact Nat.le_refl _ | (simp; done) | (simp; omega) | omega) _ | (apply Ext.trans; rotate_left; assumption)))⟩

theorem well_formed (k b r c lb lr lc : Int) (hb : 0 ≤ lb ∧ lb ≤ 1000) (hr : 0 ≤ lr ∧ lr ≤ 1000) (hc : 0 ≤ lc ∧ lc ≤ 1000) (w : World) : Calls Tryd.prog 23 #[.agg #[.int .i64 k, .int .i64 b, .int .i64 r, .int .i64 c], .int .i64 lb, .int .i64 lr, .int .i64 lc] w fun e w' => e = .returned (.bool (wfB k b r c lb lr lc)) ∧ Ext w w' := by
  unfold wfB
  cases h1 : btw k 1 9 with
  | false => exact well_formed_0 k b r c lb lr lc hb hr hc h1 w
  | true =>
    cases h2 : fieldB b (useB k) lb with
    | false => exact well_formed_1 k b r c lb lr lc hb hr hc h1 h2 w
    | true =>
      cases h3 : fieldB r (useR k) lr with
      | false => exact well_formed_2 k b r c lb lr lc hb hr hc h1 h2 h3 w
      | true => exact well_formed_3 k b r c lb lr lc hb hr hc h1 h2 h3 w

theorem spec_uses (k : Int) (u1 u2 u3 : Bool) (h1 : Hid (useB k = u1)) (h2 : Hid (useR k = u2)) (h3 : Hid (useC k = u3)) (w : World) : Calls Tryd.prog 21 #[.int .i64 k] w fun e w' => e = .returned (.tuple #[.bool u1, .bool u2, .bool u3]) ∧ w = w' := by
  rw [← h1.out, ← h2.out, ← h3.out]
  unfold useC
  cases h : k == 2 with
  | true =>
    go_enter Tryd.func21, Tryd.ntmps21
    go_wp2_with (go_at_call 40; refine (spec_in _ _ _ _).mono ?_; rintro e w' ⟨rfl, rfl⟩)
    go_ret3
    exact ⟨rfl, rfl⟩
  | false =>
    go_enter Tryd.func21, Tryd.ntmps21
    go_wp2_with (go_at_call 40; refine (spec_in _ _ _ _).mono ?_; rintro e w' ⟨rfl, rfl⟩)
    go_ret3
    exact ⟨by simp [useB, useR], rfl⟩

set_option maxHeartbeats 2000000 in
theorem spec_form (k b r c : Int) (w : World) : Calls Tryd.prog 19 #[.agg #[.int .i64 k, .int .i64 b, .int .i64 r, .int .i64 c]] w fun e w' => e = .returned (.bool (formB k b r c)) ∧ Ext w w' := by
  obtain ⟨u1, h1⟩ : ∃ u, Hid (useB k = u) := ⟨_, rfl⟩
  obtain ⟨u2, h2⟩ : ∃ u, Hid (useR k = u) := ⟨_, rfl⟩
  obtain ⟨u3, h3⟩ : ∃ u, Hid (useC k = u) := ⟨_, rfl⟩
  have hf := formB_alt k b r c
  rw [h1.out, h2.out, h3.out] at hf
  obtain ⟨f, hF⟩ : ∃ f, f = formB k b r c := ⟨_, rfl⟩
  rw [← hF] at hf ⊢
  have HF := Lib.hid hf
  clear hf hF
  cases u1 <;> cases u2 <;> cases u3
  all_goals
    go_enter Tryd.func19, Tryd.ntmps19
    go_wp2_with (first | (go_at_call 21; refine (spec_uses k _ _ _ h1 h2 h3 _).mono ?_; rintro e w' ⟨rfl, rfl⟩) | (go_at_call 40; refine (spec_in _ _ _ _).mono ?_; rintro e w' ⟨rfl, rfl⟩))
    all_goals (go_ret; refine ⟨?_, (by repeat (first | exact Ext.refl _ | assumption | refine Ext.alloc ?_ _ | refine Ext.drew ?_ | refine Ext.drewN ?_ _ | refine Ext.setCell ?_ (by first | exact Nat.le_refl _ | (simp; done) | (simp; omega) | omega) _ | (apply Ext.trans; rotate_left; assumption)))⟩; rw [HF.out]; clear HF h1 h2 h3; first | (simp [*]; done) | (simp_all; done) | (simp only [bne_eq_false_iff_eq, bne_iff_ne] at *; simp [*]; done))

end Go.Proofs.YtamlfjkkpgmjiaaDoor