/- The walk of the law FnGroups. -/
import Derived.Test.YtdaphamplgcccaaGeoF
import Derived.Test.YtdaphamplgcccaaGeoD
import Derived.Test.YtdaphamplgcccaaIntW
namespace Go.Proofs.Ytdaphamplgcccaa
open Go.RowKit

/-- how many of the first k banks lie in group i, B banks a group -/
def cntF (B k i : Nat) : Int := if k < i * B then 0 else if k < i * B + B then (k - i * B : Nat) else B
def cntL (A B k : Nat) : List Int := (List.range A).map (cntF B k)
theorem cntL_length (A B k : Nat) : (cntL A B k).length = A := by simp [cntL]
theorem cntL_get {A B k i : Nat} (h : i < A) : (cntL A B k).getD i 0 = cntF B k i := by
  rw [cntL, List.getD_eq_getElem?_getD, List.getElem?_map, List.getElem?_range h]
  rfl
theorem cntL_zero (A B : Nat) : cntL A B 0 = List.replicate A 0 := by
  apply List.ext_getElem?
  intro i
  by_cases h : i < A
  · simp [cntL, h, cntF]
  · simp [cntL, h]
theorem cntF_other {B k i q : Nat} (h1 : q * B ≤ k) (h2 : k < q * B + B) (hne : i ≠ q) : cntF B (k + 1) i = cntF B k i := by
  unfold cntF
  rcases Nat.lt_or_gt_of_ne hne with h | h
  · have : i * B + B ≤ q * B := by have := Nat.mul_le_mul_right B (show i + 1 ≤ q by omega); rw [Nat.add_mul, Nat.one_mul] at this; exact this
    rw [if_neg (by omega), if_neg (by omega), if_neg (by omega), if_neg (by omega)]
  · have : q * B + B ≤ i * B := by have := Nat.mul_le_mul_right B (show q + 1 ≤ i by omega); rw [Nat.add_mul, Nat.one_mul] at this; exact this
    by_cases h3 : k + 1 < i * B
    · rw [if_pos h3, if_pos (by omega)]
    · rw [if_neg h3, if_pos (show k < i * B by omega), show k + 1 - i * B = 0 by omega]
      split
      · rfl
      · omega
theorem cntF_here {B k q : Nat} (h1 : q * B ≤ k) (h2 : k < q * B + B) : cntF B k q = (k - q * B : Nat) ∧ cntF B (k + 1) q = (k - q * B : Nat) + 1 := by
  unfold cntF
  refine ⟨by rw [if_neg (by omega), if_pos h2], ?_⟩
  rw [if_neg (by omega)]
  split <;> omega
theorem cntL_step {A B k q : Nat} (hq : q < A) (h1 : q * B ≤ k) (h2 : k < q * B + B) : (cntL A B k).set q (cntF B k q + 1) = cntL A B (k + 1) := by
  apply List.ext_getElem
  · simp [cntL]
  · intro i hi1 hi2
    rw [List.getElem_set]
    by_cases h : q = i
    · subst h
      rw [if_pos rfl]
      simp [cntL, (cntF_here h1 h2).1, (cntF_here h1 h2).2]
    · rw [if_neg h]
      simp [cntL, cntF_other h1 h2 (Ne.symm h)]
theorem cntF_full {A B i : Nat} (h : i < A) : cntF B (A * B) i = B := by
  have : i * B + B ≤ A * B := by have := Nat.mul_le_mul_right B (show i + 1 ≤ A by omega); rw [Nat.add_mul, Nat.one_mul] at this; exact this
  unfold cntF
  rw [if_neg (by omega), if_neg (by omega)]
theorem quot_place {k A B : Nat} (hB : 0 < B) (h : k < A * B) : k / B < A ∧ k / B * B ≤ k ∧ k < k / B * B + B := by
  have h1 := Nat.div_add_mod k B
  have h2 := Nat.mod_lt k hB
  rw [Nat.mul_comm] at h1
  exact ⟨Nat.div_lt_of_lt_mul (by rw [Nat.mul_comm]; exact h), by omega, by omega⟩

set_option maxHeartbeats 4000000 in
theorem law_FnGroups (w : World) (a0 : Option Addr) (n0 c0 : Nat) (z0 : List Int) (r0 : RowIs .u8 w w.heap.size a0 n0 z0) (m0 : n0 ≤ maxLen) : Calls Try.prog 11 #[.slice a0 n0 c0] w fun e w' => e = .returned (.bool true) ∧ Ext w w' := by
  have m1 := m0
  unfold maxLen at m1
  obtain ⟨i0, hi, hz0, hz1, hz2⟩ := info_parts int_info
  by_cases hbig : (1048576 : Int) < (n0 : Int)
  · go_enter Try.func11, Try.ntmps11
    go_wp2
    go_ret
    exact ⟨rfl, (by repeat (first | exact Ext.refl _ | assumption | refine Ext.alloc ?_ _ | refine Ext.drew ?_ | refine Ext.drewN ?_ _ | refine Ext.setCell ?_ (by first | exact Nat.le_refl _ | (simp; done) | (simp; omega) | omega) _ | (apply Ext.trans; rotate_left; assumption)))⟩
  · go_enter Try.func11, Try.ntmps11
    go_wp2_with (first | (go_at_call 36; go_in))
    refine (draw_geometry a0 n0 c0 z0 _ r0 m0).mono ?_
    rintro e w1 ⟨a, b, c, d, hG, rfl, x1⟩
    have hgg := hG.ok
    have hBC := Lib.hid (fun w => impl_bankCount a b c d w)
    rw [bankF_yes hgg] at hBC
    unfold GeoIn at hG
    obtain ⟨A, rfl⟩ := Int.eq_ofNat_of_zero_le (show 0 ≤ a by omega)
    obtain ⟨B, rfl⟩ := Int.eq_ofNat_of_zero_le (show 0 ≤ b by omega)
    have hAB : (A : Int) * (B : Int) = ((A * B : Nat) : Int) := by simp
    have hGr : Hid (∀ (k : Nat), k < A * B → ∀ w, Calls Try.prog 22 #[.agg #[.int .i64 (A : Int), .int .i64 (B : Int), .int .i64 c, .int .i64 d], .int .i64 (k : Int)] w fun e w' => e = .returned (.int .i64 ((k / B : Nat) : Int)) ∧ Ext w w') := fun k hk w => by
      have h := impl_groupOf (A : Int) (B : Int) c d (k : Int) w
      rw [groupF, if_pos (btw_true (by omega) (by rw [bankF_yes hgg, hAB]; omega)), ← Int.natCast_ediv] at h
      exact h
    have hGn : Hid (∀ w, Calls Try.prog 22 #[.agg #[.int .i64 (A : Int), .int .i64 (B : Int), .int .i64 c, .int .i64 d], .int .i64 ((A * B : Nat) : Int)] w fun e w' => e = .returned (.int .i64 (-1)) ∧ Ext w w') := fun w => by
      have h := impl_groupOf (A : Int) (B : Int) c d ((A * B : Nat) : Int) w
      rw [groupF, if_neg (by rw [btw_false (by rw [bankF_yes hgg, hAB]; omega)]; simp)] at h
      exact h
    rw [hAB] at hBC
    have b1 := Box.new w1 25 #[.int .i64 (A : Int), .int .i64 (B : Int), .int .i64 c, .int .i64 d]
    have y1 := x1.alloc (.cells #[.int .i64 (A : Int), .int .i64 (B : Int), .int .i64 c, .int .i64 d] 25)
    have hA : 1 ≤ A ∧ A ≤ 2 := by omega
    have hB : 1 ≤ B ∧ B ≤ 4 := by omega
    have hK : A * B ≤ 8 := by have := Nat.mul_le_mul hA.2 hB.2; omega
    clear hgg hG hAB
    obtain ⟨q0, q1, q2, q3⟩ := b1.cell4
    go_wp2_with (at_make; refine wpList_make_full _ rfl _ _ 51 rfl (w1.heap.size + 1) 3 i0 (.int .i64 0) 1 Try.underlying51 hi hz0 hz1 _ _ _ _ A rfl rfl rfl rfl (by rw [hz2]; omega) (by unfold maxLen; omega) (by simp) ?_)
    intro w2 hown1 hgrow1
    have x2 := (Ext.refl _).grown hgrow1 (fun _ e => by cases e)
    have b2 := b1.ext x2
    have y2 := y1.trans x2
    have hown : Own w2 (w1.heap.size + 1) (some ⟨w1.heap.size + 1, 0, none⟩) A A (cntL A B 0) := by
      rw [cntL_zero]
      unfold Own
      rw [List.map_replicate]
      simpa [toList_madeCells_one] using hown1
    have hsz1 := x1.le
    clear hown1 hgrow1 q0 q1 q2 q3 b1 y1 x2 x1
    go_wp2
    go_loopw [5] (fun i wr => ∃ k : Nat, k ≤ A * B ∧ i = .int .i64 k ∧ Own wr (w1.heap.size + 1) (some ⟨w1.heap.size + 1, 0, none⟩) A A (cntL A B k) ∧ Box wr w1.heap.size 25 #[.int .i64 (A : Int), .int .i64 (B : Int), .int .i64 c, .int .i64 d] ∧ Ext w wr) (fun i _ => A * B - (intOf i).toNat)
    case atStart => exact ⟨0, Nat.zero_le _, rfl, hown, b2, y2⟩
    case round =>
      obtain ⟨k, hk, rfl, ho, hb, xr⟩ := hrel
      clear hown b2 y2
      obtain ⟨q0, q1, q2, q3⟩ := hb.cell4
      go_wp2_with fail
      refine (hBC.out _).mono ?_
      rintro e u1 ⟨rfl, v1⟩
      replace hb := hb.ext v1
      replace ho := ho.ext v1
      replace xr := xr.trans v1
      clear q0 q1 q2 q3 v1
      obtain ⟨q0, q1, q2, q3⟩ := hb.cell4
      by_cases hlt : k < A * B
      · have hltI : (k : Int) < ((A * B : Nat) : Int) := by omega
        go_wp2_with fail
        refine (hGr.out k hlt _).mono ?_
        rintro e u2 ⟨rfl, v2⟩
        replace hb := hb.ext v2
        replace ho := ho.ext v2
        replace xr := xr.trans v2
        clear q0 q1 q2 q3 v2
        obtain ⟨q0, q1, q2, q3⟩ := hb.cell4
        obtain ⟨h1, h2, h3⟩ := quot_place (by omega) hlt
        generalize k / B = q at *
        have f1 := World.ownsRow.frozenAt ho q
        have p1 := ho.at h1
        rw [cntL_get h1] at p1
        have hst := World.ownsRow.stored ho q (.int .i64 (cntF B k q + 1))
        have hy := (cntF_here h2 h3).1
        have hy0 : 0 ≤ cntF B k q ∧ cntF B k q ≤ 4 := by rw [hy]; omega
        have ho2 : Own (u2.setCell ⟨w1.heap.size + 1, q, none⟩ (.int .i64 (cntF B k q + 1))) (w1.heap.size + 1) (some ⟨w1.heap.size + 1, 0, none⟩) A A (cntL A B (k + 1)) := by
          have h4 := hst.1
          rw [← List.map_set, cntL_step h1 h2 h3] at h4
          exact h4
        have hb2 := hb.other (p := ⟨w1.heap.size + 1, q, none⟩) (by simp) (.int .i64 (cntF B k q + 1))
        have x3 := xr.setCell (p := ⟨w1.heap.size + 1, q, none⟩) (by simp; omega) (.int .i64 (cntF B k q + 1))
        generalize cntF B k q = y at *
        have hqI : (q : Int) < (A : Int) := by omega
        clear hst hy ho h2 h3 hltI
        go_wp2
        go_roundw
        case rel => exact ⟨k + 1, by omega, by go_num, ho2, hb2, x3⟩
        case measure => simp [intOf]; omega
      · obtain rfl : k = A * B := by omega
        obtain ⟨Wo, rfl⟩ : ∃ x : World, x = u1 := ⟨_, rfl⟩
        go_wp2
        clear q0 q1 q2 q3
        go_loopw [7] (fun i wr => ∃ j : Nat, j ≤ A ∧ i = .int .i64 j ∧ Own wr (w1.heap.size + 1) (some ⟨w1.heap.size + 1, 0, none⟩) A A (cntL A B (A * B)) ∧ Box wr w1.heap.size 25 #[.int .i64 (A : Int), .int .i64 (B : Int), .int .i64 c, .int .i64 d] ∧ Ext w wr) (fun i _ => A - (intOf i).toNat)
        case atStart => exact ⟨0, Nat.zero_le _, rfl, ho, hb, xr⟩
        case round =>
          clear ho hb xr
          obtain ⟨j, hj, rfl, ho, hb, xr⟩ := hrel
          obtain ⟨q0, q1, q2, q3⟩ := hb.cell4
          by_cases hjl : j < A
          · have p1 := ho.at hjl
            rw [cntL_get hjl, cntF_full hjl] at p1
            have hjI : (j : Int) < (A : Int) := by omega
            go_wp2
            go_quiet (fail)
            go_wp2
            go_roundw
            case rel => exact ⟨j + 1, by omega, by go_num, ho.ext ((Ext.refl _).drewN _), hb.drewN _, xr.drewN _⟩
            case measure => simp [intOf]; omega
          · have hjI : ¬ (j : Int) < (A : Int) := by omega
            have hq0 := Later.cells (hb) 0
            have hq1 := Later.cells (hb) 1
            have hq2 := Later.cells (hb) 2
            have hq3 := Later.cells (hb) 3
            simp only [List.getElem?_toArray, List.getElem?_cons_zero, List.getElem?_cons_succ] at hq0 hq1 hq2 hq3
            go_wp2_with fail
            refine wp_region_later (by kernel_rfl) (by kernel_rfl) ?_
            repeat (go_big_quiet_step ((first | (go_at_call 18; exact Later.of _ (hBC.out _)) | (go_at_call 22; exact Later.of _ (hGn.out _)))))
            refine wpQuiet_nil ?_
            rintro _ ⟨z, rfl⟩
            have ze := z.ext
            go_wp2
            go_ret
            exact ⟨rfl, xr.trans ze⟩

end Go.Proofs.Ytdaphamplgcccaa
