/- Contracts of ReadFrame and CommandOk of both sides; the laws FnExactReadFrame and FnExactCommandOk. -/
import Derived.Test.YtamlfjkkpgmjiaaDoorCmdF
namespace Go.Proofs.YtamlfjkkpgmjiaaDoor
open Go.RowKit

theorem put40 {w : World} {g : Nat} {t : TypeId} {a b c d : Value} (h : Box w g t #[a, b, c, d]) (u : Value) : (w.setCell ⟨g, 0, none⟩ u).cell? ⟨g, 0, none⟩ = some u := (h.set 0 u).cell 0
theorem put41 {w : World} {g : Nat} {t : TypeId} {a b c d : Value} (h : Box w g t #[a, b, c, d]) (u v : Value) : ((w.setCell ⟨g, 0, none⟩ u).setCell ⟨g, 1, none⟩ v).cell? ⟨g, 1, none⟩ = some v := ((h.set 0 u).set 1 v).cell 1
theorem put42 {w : World} {g : Nat} {t : TypeId} {a b c d : Value} (h : Box w g t #[a, b, c, d]) (u v x : Value) : (((w.setCell ⟨g, 0, none⟩ u).setCell ⟨g, 1, none⟩ v).setCell ⟨g, 2, none⟩ x).cell? ⟨g, 2, none⟩ = some x := (((h.set 0 u).set 1 v).set 2 x).cell 2
theorem put43 {w : World} {g : Nat} {t : TypeId} {a b c d : Value} (h : Box w g t #[a, b, c, d]) (u v x y : Value) : ((((w.setCell ⟨g, 0, none⟩ u).setCell ⟨g, 1, none⟩ v).setCell ⟨g, 2, none⟩ x).setCell ⟨g, 3, none⟩ y).cell? ⟨g, 3, none⟩ = some y := ((((h.set 0 u).set 1 v).set 2 x).set 3 y).cell 3

def readOk (w0 : Int) : Bool := btw w0 0 32767 && frameF (w0 % 16) (w0 / 16 % 8) (w0 / 128 % 16) (w0 / 2048 % 8) == w0
theorem readOk_no {w0 : Int} (h : readOk w0 = false) (h0 : 0 ≤ w0) : (frameF (w0 % 16) (w0 / 16 % 8) (w0 / 128 % 16) (w0 / 2048 % 8) == w0) = false := by
  unfold readOk at h
  rw [Bool.and_eq_false_iff] at h
  rcases h with h | h
  · have h1 := frameF_le (w0 % 16) (w0 / 16 % 8) (w0 / 128 % 16) (w0 / 2048 % 8)
    rw [beq_eq_false_iff_ne]
    intro e
    exact btw_not.1 h ⟨h0, by omega⟩
  · exact h

set_option maxHeartbeats 2000000 in
theorem impl_read_yes (w0 : Int) (hR : readOk w0 = true) (w : World) : Calls Tryd.prog 15 #[.int .i64 w0] w fun e w' => e = .returned (.tuple #[.agg #[.int .i64 (w0 % 16), .int .i64 (w0 / 16 % 8), .int .i64 (w0 / 128 % 16), .int .i64 (w0 / 2048 % 8)], .bool true]) ∧ Ext w w' := by
  unfold readOk at hR
  obtain ⟨hr, he⟩ := Bool.and_eq_true_iff.1 hR
  have h0 : 0 ≤ w0 := (btw_iff.1 hr).1
  have h1 : w0 ≤ 32767 := (btw_iff.1 hr).2
  have hn : (frameF (w0 % 16) (w0 / 16 % 8) (w0 / 128 % 16) (w0 / 2048 % 8) != w0) = false := by simpa using he
  have HE := Lib.hid he
  clear he hR
  go_enter Tryd.func15, Tryd.ntmps15
  go_wp2_with fail
  refine (impl_frame _ _ _ _ _).mono ?_
  rintro e w1 ⟨rfl, x1⟩
  have b0 := ((Box.new w _ _).alloc _).ext x1
  have l10 := b0.lt
  obtain ⟨q100, q101, q102, q103⟩ := b0.cell4
  have b1 := (Box.new_at (w.alloc _) _ _ (w.heap.size + 1) (by simp)).ext x1
  have l11 := b1.lt
  obtain ⟨q110, q111, q112, q113⟩ := b1.cell4
  have f0 := b0.free
  go_wp2
  exact bodyPost_ret (v := .tuple #[.agg #[.int .i64 (w0 % 16), .int .i64 (w0 / 16 % 8), .int .i64 (w0 / 128 % 16), .int .i64 (w0 / 2048 % 8)], .bool true]) (by simp [results, Tryd.results15, go_sem, put40 b0, put41 b0, put42 b0, put43 b0]) rfl ⟨rfl, (by repeat (first | exact Ext.refl _ | assumption | refine Ext.alloc ?_ _ | refine Ext.drew ?_ | refine Ext.drewN ?_ _ | refine Ext.setCell ?_ (by first | exact Nat.le_refl _ | (simp; done) | (simp; omega) | omega) _ | (apply Ext.trans; rotate_left; assumption)))⟩

set_option maxHeartbeats 2000000 in
theorem impl_read_no (w0 : Int) (wl : w0 ≤ 9223372036854775807) (hR : readOk w0 = false) (w : World) : Calls Tryd.prog 15 #[.int .i64 w0] w fun e w' => e = .returned (.tuple #[.agg #[.int .i64 0, .int .i64 0, .int .i64 0, .int .i64 0], .bool false]) ∧ Ext w w' := by
  by_cases h0 : 0 ≤ w0
  · have he := readOk_no hR h0
    have hn : (frameF (w0 % 16) (w0 / 16 % 8) (w0 / 128 % 16) (w0 / 2048 % 8) != w0) = true := by simpa using he
    have HE := Lib.hid he
    clear he hR
    go_enter Tryd.func15, Tryd.ntmps15
    go_wp2_with fail
    refine (impl_frame _ _ _ _ _).mono ?_
    rintro e w1 ⟨rfl, x1⟩
    have b0 := ((Box.new w _ _).alloc _).ext x1
    have l10 := b0.lt
    obtain ⟨q100, q101, q102, q103⟩ := b0.cell4
    have b1 := (Box.new_at (w.alloc _) _ _ (w.heap.size + 1) (by simp)).ext x1
    have l11 := b1.lt
    obtain ⟨q110, q111, q112, q113⟩ := b1.cell4
    have f0 := b0.free
    go_wp2
    exact bodyPost_ret (v := .tuple #[.agg #[.int .i64 0, .int .i64 0, .int .i64 0, .int .i64 0], .bool false]) (by simp [results, Tryd.results15, go_sem, put40 b0, put41 b0, put42 b0, put43 b0]) rfl ⟨rfl, (by repeat (first | exact Ext.refl _ | assumption | refine Ext.alloc ?_ _ | refine Ext.drew ?_ | refine Ext.drewN ?_ _ | refine Ext.setCell ?_ (by first | exact Nat.le_refl _ | (simp; done) | (simp; omega) | omega) _ | (apply Ext.trans; rotate_left; assumption)))⟩
  · have h0' : w0 < 0 := by omega
    clear hR h0
    go_enter Tryd.func15, Tryd.ntmps15
    go_wp2
    exact bodyPost_ret (v := .tuple #[.agg #[.int .i64 0, .int .i64 0, .int .i64 0, .int .i64 0], .bool false]) (by simp [results, Tryd.results15, go_sem]) rfl ⟨rfl, (by repeat (first | exact Ext.refl _ | assumption | refine Ext.alloc ?_ _ | refine Ext.drew ?_ | refine Ext.drewN ?_ _ | refine Ext.setCell ?_ (by first | exact Nat.le_refl _ | (simp; done) | (simp; omega) | omega) _ | (apply Ext.trans; rotate_left; assumption)))⟩







theorem impl_commandOk (ga gb gc gd k b r c : Int) (w : World) : Calls Tryd.prog 16 #[.agg #[.int .i64 ga, .int .i64 gb, .int .i64 gc, .int .i64 gd], .agg #[.int .i64 k, .int .i64 b, .int .i64 r, .int .i64 c]] w fun e w' => e = .returned (.bool (cmdB ga gb gc gd k b r c)) ∧ Ext w w' := by
  have gq0 := Later.cells ((Box.new w 35 #[.int .i64 ga, .int .i64 gb, .int .i64 gc, .int .i64 gd]).alloc (.cells #[.int .i64 k, .int .i64 b, .int .i64 r, .int .i64 c] 25)) 0
  have gq1 := Later.cells ((Box.new w 35 #[.int .i64 ga, .int .i64 gb, .int .i64 gc, .int .i64 gd]).alloc (.cells #[.int .i64 k, .int .i64 b, .int .i64 r, .int .i64 c] 25)) 1
  have gq2 := Later.cells ((Box.new w 35 #[.int .i64 ga, .int .i64 gb, .int .i64 gc, .int .i64 gd]).alloc (.cells #[.int .i64 k, .int .i64 b, .int .i64 r, .int .i64 c] 25)) 2
  have gq3 := Later.cells ((Box.new w 35 #[.int .i64 ga, .int .i64 gb, .int .i64 gc, .int .i64 gd]).alloc (.cells #[.int .i64 k, .int .i64 b, .int .i64 r, .int .i64 c] 25)) 3
  simp only [List.getElem?_toArray, List.getElem?_cons_zero, List.getElem?_cons_succ] at gq0 gq1 gq2 gq3
  have cq0 := Later.cells (Box.new_at (w.alloc (.cells #[.int .i64 ga, .int .i64 gb, .int .i64 gc, .int .i64 gd] 35)) 25 #[.int .i64 k, .int .i64 b, .int .i64 r, .int .i64 c] (w.heap.size + 1) (by simp)) 0
  have cq1 := Later.cells (Box.new_at (w.alloc (.cells #[.int .i64 ga, .int .i64 gb, .int .i64 gc, .int .i64 gd] 35)) 25 #[.int .i64 k, .int .i64 b, .int .i64 r, .int .i64 c] (w.heap.size + 1) (by simp)) 1
  have cq2 := Later.cells (Box.new_at (w.alloc (.cells #[.int .i64 ga, .int .i64 gb, .int .i64 gc, .int .i64 gd] 35)) 25 #[.int .i64 k, .int .i64 b, .int .i64 r, .int .i64 c] (w.heap.size + 1) (by simp)) 2
  have cq3 := Later.cells (Box.new_at (w.alloc (.cells #[.int .i64 ga, .int .i64 gb, .int .i64 gc, .int .i64 gd] 35)) 25 #[.int .i64 k, .int .i64 b, .int .i64 r, .int .i64 c] (w.heap.size + 1) (by simp)) 3
  simp only [List.getElem?_toArray, List.getElem?_cons_zero, List.getElem?_cons_succ] at cq0 cq1 cq2 cq3
  unfold cmdB
  cases hg : geoB ga gb gc gd with
  | false =>
    go_enter Tryd.func16, Tryd.ntmps16
    go_wp2_with fail
    refine wp_region_later (by kernel_rfl) (by kernel_rfl) ?_
    repeat (go_big_quiet_step ((first | (go_at_call 37; exact Later.ofB _ (impl_geometryOk _ _ _ _ _) hg))))
    refine wpQuiet_nil ?_
    rintro _ ⟨xx, rfl⟩
    have xxe := xx.ext
    go_wp2
    go_ret
    exact ⟨rfl, (by repeat (first | exact Ext.refl _ | assumption | refine Ext.alloc ?_ _ | refine Ext.drew ?_ | refine Ext.drewN ?_ _ | refine Ext.setCell ?_ (by first | exact Nat.le_refl _ | (simp; done) | (simp; omega) | omega) _ | (apply Ext.trans; rotate_left; assumption)))⟩
  | true =>
    have hN := bank_range hg
    have hF := bankF_yes hg
    obtain ⟨_, _, ⟨c0, c1⟩, ⟨d0, d1⟩⟩ := geoB_iff.1 hg
    go_enter Tryd.func16, Tryd.ntmps16
    go_wp2_with fail
    refine wp_region_later (by kernel_rfl) (by kernel_rfl) ?_
    repeat (go_big_quiet_step ((first | (go_at_call 37; exact Later.ofB _ (impl_geometryOk _ _ _ _ _) hg) | (go_at_call 38; exact Later.ofI _ (impl_bankCount _ _ _ _ _) hF) | (go_at_call 23; exact Later.of _ (well_formed _ _ _ _ _ _ _ (by omega) (by omega) (by omega) _)))))
    refine wpQuiet_nil ?_
    rintro _ ⟨xx, rfl⟩
    have xxe := xx.ext
    go_wp2
    go_ret
    exact ⟨by simp, (by repeat (first | exact Ext.refl _ | assumption | refine Ext.alloc ?_ _ | refine Ext.drew ?_ | refine Ext.drewN ?_ _ | refine Ext.setCell ?_ (by first | exact Nat.le_refl _ | (simp; done) | (simp; omega) | omega) _ | (apply Ext.trans; rotate_left; assumption)))⟩





end Go.Proofs.YtamlfjkkpgmjiaaDoor