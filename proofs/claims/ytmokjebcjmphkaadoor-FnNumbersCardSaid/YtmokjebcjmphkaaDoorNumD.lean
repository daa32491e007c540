/- The reference's DrawFormatInt, and the walks of the laws FnExactFormatInt and FnNumbers. -/
import Derived.Test.YtmokjebcjmphkaaDoorFmtD
import Derived.Test.YtmokjebcjmphkaaDoorDrawP
import Derived.Test.YtmokjebcjmphkaaDoorParW
namespace Go.Proofs.YtmokjebcjmphkaaDoor
open Go.RowKit
open Go.Lib (decDigits itoa)

/-- a number of an int -/
def InInt (r : Int) : Prop := -9223372036854775808 ≤ r ∧ r ≤ 9223372036854775807
theorem number_in (B g : Nat) (w : World) (h : Cur B g w) : Calls Tryd.prog 19 #[.pointer (some ⟨g, 0, none⟩)] w (Drawn B g w InInt) := by
  go_enter Tryd.func19, Tryd.ntmps19
  go_wp2_with fail
  refine (below_small B g 4 (by omega) (by omega) _ h).mono ?_
  rintro e w1 ⟨r, ⟨r0, r1⟩, rfl, hc1, hb1⟩
  by_cases h0 : r = 0
  · subst h0
    go_wp2_with fail
    have bx := Box.new w1 3 #[.int .i64 (-1), .int .i64 0, .int .i64 127, .int .i64 128, .int .i64 16383, .int .i64 16384, .int .i64 1000000000, .int .i64 1000000001, .int .i64 9223372036854775807, .int .i64 (-9223372036854775808)]
    refine (pick_any B g w1.heap.size 10 10 [-1, 0, 127, 128, 16383, 16384, 1000000000, 1000000001, 9223372036854775807, -9223372036854775808] rfl (by omega) (by omega) _ (hc1.ext ((Ext.refl _).alloc _)) (by have := hc1.lt; omega) bx.lt (fun i hi => (bx.cell i).trans ?_)).mono ?_
    · rcases i with _ | _ | _ | _ | _ | _ | _ | _ | _ | _ | i
      all_goals first | rfl | omega
    rintro e w2 ⟨r, hr, rfl, hc2, hb2⟩
    have hR : InInt r := by
      simp only [List.mem_cons, List.not_mem_nil, or_false] at hr
      unfold InInt
      omega
    clear hr
    go_wp2
    go_ret
    exact ⟨r, hR, rfl, hc2, (hb1.alloc _).trans hb2⟩
  · by_cases h1 : r = 1
    · subst h1
      go_wp2_with fail
      refine (below_any B g 1000000000 (by omega) _ hc1).mono ?_
      rintro e w2 ⟨r, ⟨s0, s1⟩, rfl, hc2, hb2⟩
      go_wp2
      go_ret
      exact ⟨r, ⟨by omega, by omega⟩, rfl, hc2, hb1.trans hb2⟩
    · go_wp2_with fail
      refine (below_any B g 400 (by omega) _ hc1).mono ?_
      rintro e w2 ⟨r, ⟨s0, s1⟩, rfl, hc2, hb2⟩
      go_wp2
      go_ret
      exact ⟨r, ⟨by omega, by omega⟩, rfl, hc2, hb1.trans hb2⟩

theorem draw_format (a : Option Addr) (n c : Nat) (zs : List Int) (w : World) (h : RowIs .u8 w w.heap.size a n zs) (hm : n ≤ maxLen) : Calls Tryd.prog 9 #[.slice a n c] w (DrewInt w InInt) := by
  go_enter Tryd.func9, Tryd.ntmps9
  go_wp2_with fail
  refine (new_any a n c zs _ h hm).mono ?_
  rintro e w1 ⟨g, rfl, hg, hc1, x1⟩
  go_wp2_with (first | (go_at_call 17; go_in))
  refine (below_small _ g 3 (by omega) (by omega) _ hc1).mono ?_
  rintro e w2 ⟨r, ⟨r0, r1⟩, rfl, hc2, hb2⟩
  by_cases h0 : r = 0
  · subst h0
    go_wp2_with fail
    refine (below_any _ g 1000000 (by omega) _ hc2).mono ?_
    rintro e w3 ⟨s, ⟨s0, s1⟩, rfl, hc3, hb3⟩
    go_wp2_with fail
    refine (below_any _ g 2000000 (by omega) _ hc3).mono ?_
    rintro e w4 ⟨t, ⟨t0, t1⟩, rfl, hc4, hb4⟩
    have hp : -1000000000000 ≤ s * (t - 1000000) ∧ s * (t - 1000000) ≤ 1000000000000 := by
      have h1 : s * (t - 1000000) ≤ s * 1000000 := Int.mul_le_mul_of_nonneg_left (by omega) s0
      have h2 : s * (-1000000) ≤ s * (t - 1000000) := Int.mul_le_mul_of_nonneg_left (by omega) s0
      omega
    go_wp2
    go_ret
    exact ⟨_, ⟨by omega, by omega⟩, rfl, But.toExt x1 hg ((hb2.trans hb3).trans hb4)⟩
  · go_wp2_with fail
    refine (number_in _ g _ hc2).mono ?_
    rintro e w3 ⟨r, hr, rfl, hc3, hb3⟩
    go_wp2
    go_ret
    exact ⟨r, hr, rfl, But.toExt x1 hg (hb2.trans hb3)⟩

theorem itoa_ne (n : Int) : itoa n ≠ [] := by
  unfold itoa
  split
  · simp
  · exact dec_ne _

theorem law_FnExactFormatInt (w : World) (hT : Tab w) (a0 : Int) (w0 : (Lit.int .i64 a0).wf = true) : Calls Tryd.prog 3 #[.int .i64 a0] w fun e w' => e = .returned (.bool true) ∧ Ext w w' := by
  have hr : -9223372036854775808 ≤ a0 ∧ a0 ≤ 9223372036854775807 := bounds_i64 w0
  clear w0
  obtain ⟨r0, r1⟩ := hr
  generalize hL : strOf (itoa a0) = L
  go_enter Tryd.func3, Tryd.ntmps3
  go_wp2_with fail
  refine (spec_itoa a0 r0 r1 _).mono ?_
  rintro e w1 ⟨rfl, x1⟩
  rw [hL]
  go_wp2_with fail
  refine (impl_itoa a0 r0 r1 _ (hT.ext x1)).mono ?_
  rintro e w2 ⟨rfl, x2⟩
  rw [hL]
  go_wp2
  go_ret
  exact ⟨rfl, x1.trans x2⟩

theorem law_FnNumbers (w : World) (hT : Tab w) (a0 : Option Addr) (n0 c0 : Nat) (z0 : List Int) (r0 : RowIs .u8 w w.heap.size a0 n0 z0) (m0 : n0 ≤ maxLen) : Calls Tryd.prog 4 #[.slice a0 n0 c0] w fun e w' => e = .returned (.bool true) ∧ Ext w w' := by
  have m1 := m0
  unfold maxLen at m1
  by_cases hbig : (1048576 : Int) < (n0 : Int)
  · go_enter Tryd.func4, Tryd.ntmps4
    go_wp2
    go_ret
    exact ⟨rfl, (by repeat (first | exact Ext.refl _ | assumption | refine Ext.alloc ?_ _ | refine Ext.drew ?_ | refine Ext.drewN ?_ _ | refine Ext.setCell ?_ (by first | exact Nat.le_refl _ | (simp; done) | (simp; omega) | omega) _ | (apply Ext.trans; rotate_left; assumption)))⟩
  · go_enter Tryd.func4, Tryd.ntmps4
    go_wp2_with (first | (go_at_call 8; go_in))
    refine (draw_format a0 n0 c0 z0 _ r0 m0).mono ?_
    rintro e w1 ⟨r, ⟨r0, r1⟩, rfl, x1⟩
    go_wp2_with fail
    refine (impl_itoa r r0 r1 _ (hT.ext x1)).mono ?_
    rintro e w2 ⟨rfl, x2⟩
    have hP := fun w => impl_parse_any (strOf (itoa r)) w
    have hl : (strOf (itoa r)).data.toList = itoa r := by simp [strOf]
    rw [hl] at hP
    have hne : (strOf (itoa r)).toList.isEmpty = false := by rw [ByteArray.toList_eq, hl]; exact List.isEmpty_eq_false_iff.2 (itoa_ne r)
    generalize strOf (itoa r) = L at *
    clear hl
    by_cases h1 : r < 0
    · have hv : parseU (itoa r) = none := by unfold itoa; rw [if_pos h1]; exact parseU_minus _
      rw [hv] at hP
      clear hv
      go_wp2_with fail
      refine (hP _).mono ?_
      rintro e w3 ⟨rfl, x3⟩
      go_wp2
      go_ret
      exact ⟨rfl, (x1.trans x2).trans x3⟩
    · by_cases h2 : 1000000000 < r
      · have hv : parseU (itoa r) = none := by unfold itoa; rw [if_neg h1]; exact parseU_big _ (by omega)
        rw [hv] at hP
        clear hv
        go_wp2_with fail
        refine (hP _).mono ?_
        rintro e w3 ⟨rfl, x3⟩
        go_wp2
        go_ret
        exact ⟨rfl, (x1.trans x2).trans x3⟩
      · obtain ⟨m, rfl⟩ := Int.eq_ofNat_of_zero_le (show 0 ≤ r by omega)
        have hv : parseU (itoa (m : Int)) = some m := by unfold itoa; rw [if_neg h1, Int.toNat_natCast]; exact parseU_dec _ (by omega)
        rw [hv] at hP
        clear hv
        go_wp2_with fail
        refine (hP _).mono ?_
        rintro e w3 ⟨rfl, x3⟩
        go_wp2
        go_ret
        exact ⟨rfl, (x1.trans x2).trans x3⟩

end Go.Proofs.YtmokjebcjmphkaaDoor
