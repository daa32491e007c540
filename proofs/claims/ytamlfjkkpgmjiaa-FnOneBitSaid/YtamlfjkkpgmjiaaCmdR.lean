/- Contracts of ReadFrame and CommandOk of both sides; the laws FnExactReadFrame and FnExactCommandOk. -/
import Derived.Test.YtamlfjkkpgmjiaaCmdF
namespace Go.Proofs.Ytamlfjkkpgmjiaa
open Go.RowKit

theorem put40 {w : World} {g : Nat} {t : TypeId} {a b c d : Value} (h : Box w g t #[a, b, c, d]) (u : Value) : (w.setCell ⟨g, 0, none⟩ u).cell? ⟨g, 0, none⟩ = some u := (h.set 0 u).cell 0
theorem put41 {w : World} {g : Nat} {t : TypeId} {a b c d : Value} (h : Box w g t #[a, b, c, d]) (u v : Value) : ((w.setCell ⟨g, 0, none⟩ u).setCell ⟨g, 1, none⟩ v).cell? ⟨g, 1, none⟩ = some v := ((h.set 0 u).set 1 v).cell 1
theorem put42 {w : World} {g : Nat} {t : TypeId} {a b c d : Value} (h : Box w g t #[a, b, c, d]) (u v x : Value) : (((w.setCell ⟨g, 0, none⟩ u).setCell ⟨g, 1, none⟩ v).setCell ⟨g, 2, none⟩ x).cell? ⟨g, 2, none⟩ = some x := (((h.set 0 u).set 1 v).set 2 x).cell 2
theorem put43 {w : World} {g : Nat} {t : TypeId} {a b c d : Value} (h : Box w g t #[a, b, c, d]) (u v x y : Value) : ((((w.setCell ⟨g, 0, none⟩ u).setCell ⟨g, 1, none⟩ v).setCell ⟨g, 2, none⟩ x).setCell ⟨g, 3, none⟩ y).cell? ⟨g, 3, none⟩ = some y := ((((h.set 0 u).set 1 v).set 2 x).set 3 y).cell 3

def readOk (w0 : Int) : Bool := btw w0 0 32767 && frameF (w0 % 16) (w0 / 16 % 8) (w0 / 128 % 16) (w0 / 2048 % 8) == w0
theorem readOk_no {w0 : Int} (h : readOk w0 = false) (h0 : 0 ≤ w0) : (frameF (w0 % 16) (w0 / 16 % 8) (w0 / 128 % 16) (w0 / 2048 % 8) == w0) = false := by
  unfold readOk at h
  rw [Bool.and_eq_false_iff] at h
  rcases h with h | h
  · have h1 := frameF_le (w0 % 16) (w0 / 16 % 8) (w0 / 128 % 16) (w0 / 2048 % 8)
    rw [beq_eq_false_iff_ne]
    intro e
    exact btw_not.1 h ⟨h0, by omega⟩
  · exact h

set_option maxHeartbeats 2000000 in
theorem impl_read_yes (w0 : Int) (hR : readOk w0 = true) (w : World) : Calls Try.prog 17 #[.int .i64 w0] w fun e w' => e = .returned (.tuple #[.agg #[.int .i64 (w0 % 16), .int .i64 (w0 / 16 % 8), .int .i64 (w0 / 128 % 16), .int .i64 (w0 / 2048 % 8)], .bool true]) ∧ Ext w w' := by
  unfold readOk at hR
  obtain ⟨hr, he⟩ := Bool.and_eq_true_iff.1 hR
  have h0 : 0 ≤ w0 := (btw_iff.1 hr).1
  have h1 : w0 ≤ 32767 := (btw_iff.1 hr).2
  have hn : (frameF (w0 % 16) (w0 / 16 % 8) (w0 / 128 % 16) (w0 / 2048 % 8) != w0) = false := by simpa using he
  have HE := Lib.hid he
  clear he hR
  go_enter Try.func17, Try.ntmps17
  go_wp2_with fail
  refine (impl_frame _ _ _ _ _).mono ?_
  rintro e w1 ⟨rfl, x1⟩
  have b0 := ((Box.new w _ _).alloc _).ext x1
  have l10 := b0.lt
  obtain ⟨q100, q101, q102, q103⟩ := b0.cell4
  have b1 := (Box.new_at (w.alloc _) _ _ (w.heap.size + 1) (by simp)).ext x1
  have l11 := b1.lt
  obtain ⟨q110, q111, q112, q113⟩ := b1.cell4
  have f0 := b0.free
  go_wp2
  exact bodyPost_ret (v := .tuple #[.agg #[.int .i64 (w0 % 16), .int .i64 (w0 / 16 % 8), .int .i64 (w0 / 128 % 16), .int .i64 (w0 / 2048 % 8)], .bool true]) (by simp [results, Try.results17, go_sem, put40 b0, put41 b0, put42 b0, put43 b0]) rfl ⟨rfl, (by repeat (first | exact Ext.refl _ | assumption | refine Ext.alloc ?_ _ | refine Ext.drew ?_ | refine Ext.drewN ?_ _ | refine Ext.setCell ?_ (by first | exact Nat.le_refl _ | (simp; done) | (simp; omega) | omega) _ | (apply Ext.trans; rotate_left; assumption)))⟩

set_option maxHeartbeats 2000000 in
theorem impl_read_no (w0 : Int) (wl : w0 ≤ 9223372036854775807) (hR : readOk w0 = false) (w : World) : Calls Try.prog 17 #[.int .i64 w0] w fun e w' => e = .returned (.tuple #[.agg #[.int .i64 0, .int .i64 0, .int .i64 0, .int .i64 0], .bool false]) ∧ Ext w w' := by
  by_cases h0 : 0 ≤ w0
  · have he := readOk_no hR h0
    have hn : (frameF (w0 % 16) (w0 / 16 % 8) (w0 / 128 % 16) (w0 / 2048 % 8) != w0) = true := by simpa using he
    have HE := Lib.hid he
    clear he hR
    go_enter Try.func17, Try.ntmps17
    go_wp2_with fail
    refine (impl_frame _ _ _ _ _).mono ?_
    rintro e w1 ⟨rfl, x1⟩
    have b0 := ((Box.new w _ _).alloc _).ext x1
    have l10 := b0.lt
    obtain ⟨q100, q101, q102, q103⟩ := b0.cell4
    have b1 := (Box.new_at (w.alloc _) _ _ (w.heap.size + 1) (by simp)).ext x1
    have l11 := b1.lt
    obtain ⟨q110, q111, q112, q113⟩ := b1.cell4
    have f0 := b0.free
    go_wp2
    exact bodyPost_ret (v := .tuple #[.agg #[.int .i64 0, .int .i64 0, .int .i64 0, .int .i64 0], .bool false]) (by simp [results, Try.results17, go_sem, put40 b0, put41 b0, put42 b0, put43 b0]) rfl ⟨rfl, (by repeat (first | exact Ext.refl _ | assumption | refine Ext.alloc ?_ _ | refine Ext.drew ?_ | refine Ext.drewN ?_ _ | refine Ext.setCell ?_ (by first | exact Nat.le_refl _ | (simp; done) | (simp; omega) | omega) _ | (apply Ext.trans; rotate_left; assumption)))⟩
  · have h0' : w0 < 0 := by omega
    clear hR h0
    go_enter Try.func17, Try.ntmps17
    go_wp2
    exact bodyPost_ret (v := .tuple #[.agg #[.int .i64 0, .int .i64 0, .int .i64 0, .int .i64 0], .bool false]) (by simp [results, Try.results17, go_sem]) rfl ⟨rfl, (by repeat (first | exact Ext.refl _ | assumption | refine Ext.alloc ?_ _ | refine Ext.drew ?_ | refine Ext.drewN ?_ _ | refine Ext.setCell ?_ (by first | exact Nat.le_refl _ | (simp; done) | (simp; omega) | omega) _ | (apply Ext.trans; rotate_left; assumption)))⟩

set_option maxHeartbeats 2000000 in
theorem spec_read_yes (w0 : Int) (hR : readOk w0 = true) (w : World) : Calls Try.prog 16 #[.int .i64 w0] w fun e w' => e = .returned (.tuple #[.agg #[.int .i64 (w0 % 16), .int .i64 (w0 / 16 % 8), .int .i64 (w0 / 128 % 16), .int .i64 (w0 / 2048 % 8)], .bool true]) ∧ Ext w w' := by
  unfold readOk at hR
  obtain ⟨hr, he⟩ := Bool.and_eq_true_iff.1 hR
  have h0 : 0 ≤ w0 := (btw_iff.1 hr).1
  have h1 : w0 ≤ 32767 := (btw_iff.1 hr).2
  have e1 : bits .and .i64 w0 15 = w0 % 16 := by simpa using and_mask w0 15 4 h0 (by omega) (by omega) rfl
  have e2 : bits .and .i64 (w0 / 16) 7 = w0 / 16 % 8 := by simpa using and_mask (w0 / 16) 7 3 (by omega) (by omega) (by omega) rfl
  have e3 : bits .and .i64 (w0 / 128) 15 = w0 / 128 % 16 := by simpa using and_mask (w0 / 128) 15 4 (by omega) (by omega) (by omega) rfl
  have e4 : bits .and .i64 (w0 / 2048) 7 = w0 / 2048 % 8 := by simpa using and_mask (w0 / 2048) 7 3 (by omega) (by omega) (by omega) rfl
  have hn : (frameF (w0 % 16) (w0 / 16 % 8) (w0 / 128 % 16) (w0 / 2048 % 8) != w0) = false := by simpa using he
  have HE := Lib.hid he
  clear he hR
  go_enter Try.func16, Try.ntmps16
  go_wp2_with fail
  refine (spec_in _ _ _ _).mono ?_
  rintro e w' ⟨rfl, rfl⟩
  go_wp2_with fail
  refine (spec_frame _ _ _ _ _).mono ?_
  rintro e w1 ⟨rfl, x1⟩
  have b0 := ((Box.new w _ _).alloc _).ext x1
  have l10 := b0.lt
  obtain ⟨q100, q101, q102, q103⟩ := b0.cell4
  have b1 := (Box.new_at (w.alloc _) _ _ (w.heap.size + 1) (by simp)).ext x1
  have l11 := b1.lt
  obtain ⟨q110, q111, q112, q113⟩ := b1.cell4
  have f0 := b0.free
  go_wp2
  exact bodyPost_ret (v := .tuple #[.agg #[.int .i64 (w0 % 16), .int .i64 (w0 / 16 % 8), .int .i64 (w0 / 128 % 16), .int .i64 (w0 / 2048 % 8)], .bool true]) (by simp [results, Try.results16, go_sem, put40 b0, put41 b0, put42 b0, put43 b0]) rfl ⟨rfl, (by repeat (first | exact Ext.refl _ | assumption | refine Ext.alloc ?_ _ | refine Ext.drew ?_ | refine Ext.drewN ?_ _ | refine Ext.setCell ?_ (by first | exact Nat.le_refl _ | (simp; done) | (simp; omega) | omega) _ | (apply Ext.trans; rotate_left; assumption)))⟩

set_option maxHeartbeats 2000000 in
theorem spec_read_no (w0 : Int) (hR : readOk w0 = false) (w : World) : Calls Try.prog 16 #[.int .i64 w0] w fun e w' => e = .returned (.tuple #[.agg #[.int .i64 0, .int .i64 0, .int .i64 0, .int .i64 0], .bool false]) ∧ Ext w w' := by
  cases hr : btw w0 0 32767 with
  | true =>
    have h0 : 0 ≤ w0 := (btw_iff.1 hr).1
    have h1 : w0 ≤ 32767 := (btw_iff.1 hr).2
    have e1 : bits .and .i64 w0 15 = w0 % 16 := by simpa using and_mask w0 15 4 h0 (by omega) (by omega) rfl
    have e2 : bits .and .i64 (w0 / 16) 7 = w0 / 16 % 8 := by simpa using and_mask (w0 / 16) 7 3 (by omega) (by omega) (by omega) rfl
    have e3 : bits .and .i64 (w0 / 128) 15 = w0 / 128 % 16 := by simpa using and_mask (w0 / 128) 15 4 (by omega) (by omega) (by omega) rfl
    have e4 : bits .and .i64 (w0 / 2048) 7 = w0 / 2048 % 8 := by simpa using and_mask (w0 / 2048) 7 3 (by omega) (by omega) (by omega) rfl
    have he := readOk_no hR h0
    have hn : (frameF (w0 % 16) (w0 / 16 % 8) (w0 / 128 % 16) (w0 / 2048 % 8) != w0) = true := by simpa using he
    have HE := Lib.hid he
    clear he hR
    go_enter Try.func16, Try.ntmps16
    go_wp2_with fail
    refine (spec_in _ _ _ _).mono ?_
    rintro e w' ⟨rfl, rfl⟩
    go_wp2_with fail
    refine (spec_frame _ _ _ _ _).mono ?_
    rintro e w1 ⟨rfl, x1⟩
    have b0 := ((Box.new w _ _).alloc _).ext x1
    have l10 := b0.lt
    obtain ⟨q100, q101, q102, q103⟩ := b0.cell4
    have b1 := (Box.new_at (w.alloc _) _ _ (w.heap.size + 1) (by simp)).ext x1
    have l11 := b1.lt
    obtain ⟨q110, q111, q112, q113⟩ := b1.cell4
    have f0 := b0.free
    go_wp2
    exact bodyPost_ret (v := .tuple #[.agg #[.int .i64 0, .int .i64 0, .int .i64 0, .int .i64 0], .bool false]) (by simp [results, Try.results16, go_sem, put40 b0, put41 b0, put42 b0, put43 b0]) rfl ⟨rfl, (by repeat (first | exact Ext.refl _ | assumption | refine Ext.alloc ?_ _ | refine Ext.drew ?_ | refine Ext.drewN ?_ _ | refine Ext.setCell ?_ (by first | exact Nat.le_refl _ | (simp; done) | (simp; omega) | omega) _ | (apply Ext.trans; rotate_left; assumption)))⟩
  | false =>
    clear hR
    go_enter Try.func16, Try.ntmps16
    go_wp2_with fail
    refine (spec_in _ _ _ _).mono ?_
    rintro e w' ⟨rfl, rfl⟩
    go_wp2
    exact bodyPost_ret (v := .tuple #[.agg #[.int .i64 0, .int .i64 0, .int .i64 0, .int .i64 0], .bool false]) (by simp [results, Try.results16, go_sem]) rfl ⟨rfl, (by repeat (first | exact Ext.refl _ | assumption | refine Ext.alloc ?_ _ | refine Ext.drew ?_ | refine Ext.drewN ?_ _ | refine Ext.setCell ?_ (by first | exact Nat.le_refl _ | (simp; done) | (simp; omega) | omega) _ | (apply Ext.trans; rotate_left; assumption)))⟩

theorem law_FnExactReadFrame (w : World) (w0 : Int) (hw : (Lit.int .i64 w0).wf = true) : Calls Try.prog 6 #[.int .i64 w0] w fun e w' => e = .returned (.bool true) ∧ Ext w w' := by
  have wl : w0 ≤ 9223372036854775807 := (bounds_i64 hw).2
  cases hB : readOk w0 with
  | true =>
    go_enter Try.func6, Try.ntmps6
    go_wp2_with fail
    refine (spec_read_yes _ hB _).mono ?_
    rintro e w1 ⟨rfl, x1⟩
    have b1 := Box.new w1 25 #[.int .i64 (w0 % 16), .int .i64 (w0 / 16 % 8), .int .i64 (w0 / 128 % 16), .int .i64 (w0 / 2048 % 8)]
    go_wp2_with fail
    refine (impl_read_yes _ hB _).mono ?_
    rintro e w2 ⟨rfl, x2⟩
    have b1 := b1.ext x2
    have l21 := b1.lt
    obtain ⟨q210, q211, q212, q213⟩ := b1.cell4
    go_wp2_with fail
    refine (eq_command _ _ _ _ _).mono ?_
    rintro e w3 ⟨rfl, x3⟩
    go_wp2
    go_ret
    exact ⟨rfl, (by repeat (first | exact Ext.refl _ | assumption | refine Ext.alloc ?_ _ | refine Ext.drew ?_ | refine Ext.drewN ?_ _ | refine Ext.setCell ?_ (by first | exact Nat.le_refl _ | (simp; done) | (simp; omega) | omega) _ | (apply Ext.trans; rotate_left; assumption)))⟩
  | false =>
    go_enter Try.func6, Try.ntmps6
    go_wp2_with fail
    refine (spec_read_no _ hB _).mono ?_
    rintro e w1 ⟨rfl, x1⟩
    have b1 := Box.new w1 25 #[.int .i64 0, .int .i64 0, .int .i64 0, .int .i64 0]
    go_wp2_with fail
    refine (impl_read_no _ wl hB _).mono ?_
    rintro e w2 ⟨rfl, x2⟩
    have b1 := b1.ext x2
    have l21 := b1.lt
    obtain ⟨q210, q211, q212, q213⟩ := b1.cell4
    go_wp2_with fail
    refine (eq_command _ _ _ _ _).mono ?_
    rintro e w3 ⟨rfl, x3⟩
    go_wp2
    go_ret
    exact ⟨rfl, (by repeat (first | exact Ext.refl _ | assumption | refine Ext.alloc ?_ _ | refine Ext.drew ?_ | refine Ext.drewN ?_ _ | refine Ext.setCell ?_ (by first | exact Nat.le_refl _ | (simp; done) | (simp; omega) | omega) _ | (apply Ext.trans; rotate_left; assumption)))⟩

theorem impl_commandOk (ga gb gc gd k b r c : Int) (w : World) : Calls Try.prog 13 #[.agg #[.int .i64 ga, .int .i64 gb, .int .i64 gc, .int .i64 gd], .agg #[.int .i64 k, .int .i64 b, .int .i64 r, .int .i64 c]] w fun e w' => e = .returned (.bool (cmdB ga gb gc gd k b r c)) ∧ Ext w w' := by
  have gq0 := Later.cells ((Box.new w 31 #[.int .i64 ga, .int .i64 gb, .int .i64 gc, .int .i64 gd]).alloc (.cells #[.int .i64 k, .int .i64 b, .int .i64 r, .int .i64 c] 25)) 0
  have gq1 := Later.cells ((Box.new w 31 #[.int .i64 ga, .int .i64 gb, .int .i64 gc, .int .i64 gd]).alloc (.cells #[.int .i64 k, .int .i64 b, .int .i64 r, .int .i64 c] 25)) 1
  have gq2 := Later.cells ((Box.new w 31 #[.int .i64 ga, .int .i64 gb, .int .i64 gc, .int .i64 gd]).alloc (.cells #[.int .i64 k, .int .i64 b, .int .i64 r, .int .i64 c] 25)) 2
  have gq3 := Later.cells ((Box.new w 31 #[.int .i64 ga, .int .i64 gb, .int .i64 gc, .int .i64 gd]).alloc (.cells #[.int .i64 k, .int .i64 b, .int .i64 r, .int .i64 c] 25)) 3
  simp only [List.getElem?_toArray, List.getElem?_cons_zero, List.getElem?_cons_succ] at gq0 gq1 gq2 gq3
  have cq0 := Later.cells (Box.new_at (w.alloc (.cells #[.int .i64 ga, .int .i64 gb, .int .i64 gc, .int .i64 gd] 31)) 25 #[.int .i64 k, .int .i64 b, .int .i64 r, .int .i64 c] (w.heap.size + 1) (by simp)) 0
  have cq1 := Later.cells (Box.new_at (w.alloc (.cells #[.int .i64 ga, .int .i64 gb, .int .i64 gc, .int .i64 gd] 31)) 25 #[.int .i64 k, .int .i64 b, .int .i64 r, .int .i64 c] (w.heap.size + 1) (by simp)) 1
  have cq2 := Later.cells (Box.new_at (w.alloc (.cells #[.int .i64 ga, .int .i64 gb, .int .i64 gc, .int .i64 gd] 31)) 25 #[.int .i64 k, .int .i64 b, .int .i64 r, .int .i64 c] (w.heap.size + 1) (by simp)) 2
  have cq3 := Later.cells (Box.new_at (w.alloc (.cells #[.int .i64 ga, .int .i64 gb, .int .i64 gc, .int .i64 gd] 31)) 25 #[.int .i64 k, .int .i64 b, .int .i64 r, .int .i64 c] (w.heap.size + 1) (by simp)) 3
  simp only [List.getElem?_toArray, List.getElem?_cons_zero, List.getElem?_cons_succ] at cq0 cq1 cq2 cq3
  unfold cmdB
  cases hg : geoB ga gb gc gd with
  | false =>
    go_enter Try.func13, Try.ntmps13
    go_wp2_with fail
    refine wp_region_later (by kernel_rfl) (by kernel_rfl) ?_
    repeat (go_big_quiet_step ((first | (go_at_call 25; exact Later.ofB _ (impl_geometryOk _ _ _ _ _) hg))))
    refine wpQuiet_nil ?_
    rintro _ ⟨xx, rfl⟩
    have xxe := xx.ext
    go_wp2
    go_ret
    exact ⟨rfl, (by repeat (first | exact Ext.refl _ | assumption | refine Ext.alloc ?_ _ | refine Ext.drew ?_ | refine Ext.drewN ?_ _ | refine Ext.setCell ?_ (by first | exact Nat.le_refl _ | (simp; done) | (simp; omega) | omega) _ | (apply Ext.trans; rotate_left; assumption)))⟩
  | true =>
    have hN := bank_range hg
    have hF := bankF_yes hg
    obtain ⟨_, _, ⟨c0, c1⟩, ⟨d0, d1⟩⟩ := geoB_iff.1 hg
    go_enter Try.func13, Try.ntmps13
    go_wp2_with fail
    refine wp_region_later (by kernel_rfl) (by kernel_rfl) ?_
    repeat (go_big_quiet_step ((first | (go_at_call 25; exact Later.ofB _ (impl_geometryOk _ _ _ _ _) hg) | (go_at_call 26; exact Later.ofI _ (impl_bankCount _ _ _ _ _) hF) | (go_at_call 23; exact Later.of _ (well_formed _ _ _ _ _ _ _ (by omega) (by omega) (by omega) _)))))
    refine wpQuiet_nil ?_
    rintro _ ⟨xx, rfl⟩
    have xxe := xx.ext
    go_wp2
    go_ret
    exact ⟨by simp, (by repeat (first | exact Ext.refl _ | assumption | refine Ext.alloc ?_ _ | refine Ext.drew ?_ | refine Ext.drewN ?_ _ | refine Ext.setCell ?_ (by first | exact Nat.le_refl _ | (simp; done) | (simp; omega) | omega) _ | (apply Ext.trans; rotate_left; assumption)))⟩

theorem spec_commandOk (ga gb gc gd k b r c : Int) (w : World) : Calls Try.prog 11 #[.agg #[.int .i64 ga, .int .i64 gb, .int .i64 gc, .int .i64 gd], .agg #[.int .i64 k, .int .i64 b, .int .i64 r, .int .i64 c]] w fun e w' => e = .returned (.bool (cmdB ga gb gc gd k b r c)) ∧ Ext w w' := by
  have hE : (formB k b r c && addrB ga gb gc gd b r c) = cmdB ga gb gc gd k b r c := cmd_eq ga gb gc gd k b r c
  rw [← hE]
  clear hE
  cases hf : formB k b r c with
  | false =>
    go_enter Try.func11, Try.ntmps11
    go_wp2_with fail
    refine (spec_form _ _ _ _ _).mono ?_
    rintro e w1 ⟨rfl, x1⟩
    have b0 := ((Box.new w _ _).alloc _).ext x1
    have l10 := b0.lt
    obtain ⟨q100, q101, q102, q103⟩ := b0.cell4
    have b1 := (Box.new_at (w.alloc _) _ _ (w.heap.size + 1) (by simp)).ext x1
    have l11 := b1.lt
    obtain ⟨q110, q111, q112, q113⟩ := b1.cell4
    go_wp2
    go_ret
    exact ⟨rfl, (by repeat (first | exact Ext.refl _ | assumption | refine Ext.alloc ?_ _ | refine Ext.drew ?_ | refine Ext.drewN ?_ _ | refine Ext.setCell ?_ (by first | exact Nat.le_refl _ | (simp; done) | (simp; omega) | omega) _ | (apply Ext.trans; rotate_left; assumption)))⟩
  | true =>
    go_enter Try.func11, Try.ntmps11
    go_wp2_with fail
    refine (spec_form _ _ _ _ _).mono ?_
    rintro e w1 ⟨rfl, x1⟩
    have b0 := ((Box.new w _ _).alloc _).ext x1
    have l10 := b0.lt
    obtain ⟨q100, q101, q102, q103⟩ := b0.cell4
    have b1 := (Box.new_at (w.alloc _) _ _ (w.heap.size + 1) (by simp)).ext x1
    have l11 := b1.lt
    obtain ⟨q110, q111, q112, q113⟩ := b1.cell4
    go_wp2_with fail
    refine (spec_addrOk _ _ _ _ _ _ _ _).mono ?_
    rintro e w2 ⟨rfl, x2⟩
    go_wp2
    go_ret
    exact ⟨by simp, (by repeat (first | exact Ext.refl _ | assumption | refine Ext.alloc ?_ _ | refine Ext.drew ?_ | refine Ext.drewN ?_ _ | refine Ext.setCell ?_ (by first | exact Nat.le_refl _ | (simp; done) | (simp; omega) | omega) _ | (apply Ext.trans; rotate_left; assumption)))⟩

theorem law_FnExactCommandOk (w : World) (z0 : List Int) (l0 : z0.length = 4) (_ : ∀ z ∈ z0, (Lit.int .i64 z).wf = true) (z1 : List Int) (l1 : z1.length = 4) (_ : ∀ z ∈ z1, (Lit.int .i64 z).wf = true) : Calls Try.prog 4 #[.agg (intCells z0), .agg (intCells z1)] w fun e w' => e = .returned (.bool true) ∧ Ext w w' := by
  obtain ⟨ga, gb, gc, gd, rfl⟩ := list4 l0
  obtain ⟨k, b, r, c, rfl⟩ := list4 l1
  show Calls _ _ #[.agg #[.int .i64 ga, .int .i64 gb, .int .i64 gc, .int .i64 gd], .agg #[.int .i64 k, .int .i64 b, .int .i64 r, .int .i64 c]] _ _
  have b0 := (Box.new w 29 #[.int .i64 ga, .int .i64 gb, .int .i64 gc, .int .i64 gd]).alloc (.cells #[.int .i64 k, .int .i64 b, .int .i64 r, .int .i64 c] 23)
  have b1 := Box.new_at (w.alloc (.cells #[.int .i64 ga, .int .i64 gb, .int .i64 gc, .int .i64 gd] 29)) 23 #[.int .i64 k, .int .i64 b, .int .i64 r, .int .i64 c] (w.heap.size + 1) (by simp)
  have gq0 := Later.cells (b0) 0
  have gq1 := Later.cells (b0) 1
  have gq2 := Later.cells (b0) 2
  have gq3 := Later.cells (b0) 3
  simp only [List.getElem?_toArray, List.getElem?_cons_zero, List.getElem?_cons_succ] at gq0 gq1 gq2 gq3
  have aq0 := Later.cells (b1) 0
  have aq1 := Later.cells (b1) 1
  have aq2 := Later.cells (b1) 2
  have aq3 := Later.cells (b1) 3
  simp only [List.getElem?_toArray, List.getElem?_cons_zero, List.getElem?_cons_succ] at aq0 aq1 aq2 aq3
  go_enter Try.func4, Try.ntmps4
  go_wp2_with fail
  refine wp_region_later (by kernel_rfl) (by kernel_rfl) ?_
  repeat (go_big_quiet_step ((first | (go_at_call 12; exact Later.of _ (to_geometry _ _ _ _ _)) | (go_at_call 9; exact Later.of _ (to_command _ _ _ _ _)) | (go_at_call 11; exact Later.of _ (spec_commandOk _ _ _ _ _ _ _ _ _)))))
  refine wpQuiet_nil ?_
  rintro _ ⟨x1, rfl⟩
  have x1e := x1.ext
  go_wp2_with fail
  have gr0 := Later.cells (b0.ext x1e) 0
  have gr1 := Later.cells (b0.ext x1e) 1
  have gr2 := Later.cells (b0.ext x1e) 2
  have gr3 := Later.cells (b0.ext x1e) 3
  simp only [List.getElem?_toArray, List.getElem?_cons_zero, List.getElem?_cons_succ] at gr0 gr1 gr2 gr3
  have ar0 := Later.cells (b1.ext x1e) 0
  have ar1 := Later.cells (b1.ext x1e) 1
  have ar2 := Later.cells (b1.ext x1e) 2
  have ar3 := Later.cells (b1.ext x1e) 3
  simp only [List.getElem?_toArray, List.getElem?_cons_zero, List.getElem?_cons_succ] at ar0 ar1 ar2 ar3
  refine wp_region_later (by kernel_rfl) (by kernel_rfl) ?_
  repeat (go_big_quiet_step ((first | (go_at_call 12; exact Later.of _ (to_geometry _ _ _ _ _)) | (go_at_call 9; exact Later.of _ (to_command _ _ _ _ _)) | (go_at_call 13; exact Later.of _ (impl_commandOk _ _ _ _ _ _ _ _ _)))))
  refine wpQuiet_nil ?_
  rintro _ ⟨x2, rfl⟩
  have x2e := x2.ext
  go_wp2
  go_ret
  exact ⟨rfl, (by repeat (first | exact Ext.refl _ | assumption | refine Ext.alloc ?_ _ | refine Ext.drew ?_ | refine Ext.drewN ?_ _ | refine Ext.setCell ?_ (by first | exact Nat.le_refl _ | (simp; done) | (simp; omega) | omega) _ | (apply Ext.trans; rotate_left; assumption)))⟩

end Go.Proofs.Ytamlfjkkpgmjiaa