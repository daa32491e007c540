/- The reference's DrawClamp, and the walk of the law FnClamped. -/
import Derived.Test.YtmokjebcjmphkaaDrawP
namespace Go.Proofs.Ytmokjebcjmphkaa
open Go.RowKit



def clampI (n a b : Int) : Int := if n < a ∨ b < a then a else if b < n then b else n
theorem impl_clamp (n a b : Int) (w : World) : Calls Try.prog 22 #[.int .i64 n, .int .i64 a, .int .i64 b] w fun e w' => e = .returned (.int .i64 (clampI n a b)) ∧ w = w' := by
  by_cases h1 : n < a
  · rw [show clampI n a b = a from if_pos (.inl h1)]
    go_enter Try.func22, Try.ntmps22
    go_wp2
    go_ret
    exact ⟨rfl, rfl⟩
  · by_cases h2 : b < a
    · rw [show clampI n a b = a from if_pos (.inr h2)]
      go_enter Try.func22, Try.ntmps22
      go_wp2
      go_ret
      exact ⟨rfl, rfl⟩
    · by_cases h3 : b < n
      · rw [show clampI n a b = b by unfold clampI; rw [if_neg (by omega), if_pos h3]]
        go_enter Try.func22, Try.ntmps22
        go_wp2
        go_ret
        exact ⟨rfl, rfl⟩
      · rw [show clampI n a b = n by unfold clampI; rw [if_neg (by omega), if_neg h3]]
        go_enter Try.func22, Try.ntmps22
        go_wp2
        go_ret
        exact ⟨rfl, rfl⟩

/-- a number of any size -/
theorem number_any (B g : Nat) (w : World) (h : Cur B g w) : Calls Try.prog 33 #[.pointer (some ⟨g, 0, none⟩)] w (Drawn B g w (fun _ => True)) := by
  go_enter Try.func33, Try.ntmps33
  go_wp2_with fail
  refine (below_small B g 4 (by omega) (by omega) _ h).mono ?_
  rintro e w1 ⟨r, ⟨r0, r1⟩, rfl, hc1, hb1⟩
  by_cases h0 : r = 0
  · subst h0
    go_wp2_with fail
    have bx := Box.new w1 3 #[.int .i64 (-1), .int .i64 0, .int .i64 127, .int .i64 128, .int .i64 16383, .int .i64 16384, .int .i64 1000000000, .int .i64 1000000001, .int .i64 9223372036854775807, .int .i64 (-9223372036854775808)]
    refine (pick_any B g w1.heap.size 10 10 [-1, 0, 127, 128, 16383, 16384, 1000000000, 1000000001, 9223372036854775807, -9223372036854775808] rfl (by omega) (by omega) _ (hc1.ext ((Ext.refl _).alloc _)) (by have := hc1.lt; omega) bx.lt (fun i hi => (bx.cell i).trans ?_)).mono ?_
    · rcases i with _ | _ | _ | _ | _ | _ | _ | _ | _ | _ | i
      all_goals first | rfl | omega
    rintro e w2 ⟨r, hr, rfl, hc2, hb2⟩
    clear hr
    go_wp2
    go_ret
    exact ⟨r, trivial, rfl, hc2, (hb1.alloc _).trans hb2⟩
  · by_cases h1 : r = 1
    · subst h1
      go_wp2_with fail
      refine (below_any B g 1000000000 (by omega) _ hc1).mono ?_
      rintro e w2 ⟨r, ⟨s0, s1⟩, rfl, hc2, hb2⟩
      go_wp2
      go_ret
      exact ⟨r, trivial, rfl, hc2, hb1.trans hb2⟩
    · go_wp2_with fail
      refine (below_any B g 400 (by omega) _ hc1).mono ?_
      rintro e w2 ⟨r, ⟨s0, s1⟩, rfl, hc2, hb2⟩
      go_wp2
      go_ret
      exact ⟨r, trivial, rfl, hc2, hb1.trans hb2⟩

/-- three numbers of any size -/
def Three (w : World) : Ending → World → Prop := fun e w' => ∃ x y z : Int, e = .returned (.tuple #[.int .i64 x, .int .i64 y, .int .i64 z]) ∧ Ext w w'
theorem draw_clamp (a : Option Addr) (n c : Nat) (zs : List Int) (w : World) (h : RowIs .u8 w w.heap.size a n zs) (hm : n ≤ maxLen) : Calls Try.prog 21 #[.slice a n c] w (Three w) := by
  go_enter Try.func21, Try.ntmps21
  go_wp2_with fail
  refine (new_any a n c zs _ h hm).mono ?_
  rintro e w1 ⟨g, rfl, hg, hc1, x1⟩
  go_wp2_with (first | (go_at_call 32; go_in))
  refine (below_small _ g 4 (by omega) (by omega) _ hc1).mono ?_
  rintro e w2 ⟨r, ⟨r0, r1⟩, rfl, hc2, hb2⟩
  by_cases h0 : r = 0
  · subst h0
    go_wp2_with fail
    refine (number_any _ g _ hc2).mono ?_
    rintro e w3 ⟨r, -, rfl, hc3, hb3⟩
    go_wp2_with fail
    refine (number_any _ g _ hc3).mono ?_
    rintro e w4 ⟨s, -, rfl, hc4, hb4⟩
    go_wp2_with fail
    refine (number_any _ g _ hc4).mono ?_
    rintro e w5 ⟨t, -, rfl, hc5, hb5⟩
    go_wp2
    go_ret3
    exact ⟨r, s, t, rfl, But.toExt x1 hg (((hb2.trans hb3).trans hb4).trans hb5)⟩
  · go_wp2_with fail
    refine (below_small _ g 40 (by omega) (by omega) _ hc2).mono ?_
    rintro e w3 ⟨r, ⟨r0, r1⟩, rfl, hc3, hb3⟩
    go_wp2_with fail
    refine (below_small _ g 80 (by omega) (by omega) _ hc3).mono ?_
    rintro e w4 ⟨s, ⟨s0, s1⟩, rfl, hc4, hb4⟩
    go_wp2_with fail
    refine (below_small _ g 30 (by omega) (by omega) _ hc4).mono ?_
    rintro e w5 ⟨t, ⟨t0, t1⟩, rfl, hc5, hb5⟩
    go_wp2
    go_ret3
    exact ⟨_, _, _, rfl, But.toExt x1 hg (((hb2.trans hb3).trans hb4).trans hb5)⟩

theorem clamp_facts (n a b : Int) (h : a ≤ b) : a ≤ clampI n a b ∧ clampI n a b ≤ b ∧ clampI (clampI n a b) a b = clampI n a b ∧ (¬n < a → ¬b < n → clampI n a b = n) := by
  unfold clampI
  refine ⟨?_, ?_, ?_, ?_⟩
  · split <;> (try split) <;> omega
  · split <;> (try split) <;> omega
  · split <;> (try split) <;> (try split) <;> (try split) <;> omega
  · intro h1 h2; rw [if_neg (by omega), if_neg h2]

theorem law_FnClamped (w : World) (a0 : Option Addr) (n0 c0 : Nat) (z0 : List Int) (r0 : RowIs .u8 w w.heap.size a0 n0 z0) (m0 : n0 ≤ maxLen) : Calls Try.prog 7 #[.slice a0 n0 c0] w fun e w' => e = .returned (.bool true) ∧ Ext w w' := by
  have m1 := m0
  unfold maxLen at m1
  by_cases hbig : (1048576 : Int) < (n0 : Int)
  · go_enter Try.func7, Try.ntmps7
    go_wp2
    go_ret
    exact ⟨rfl, (by repeat (first | exact Ext.refl _ | assumption | refine Ext.alloc ?_ _ | refine Ext.drew ?_ | refine Ext.drewN ?_ _ | refine Ext.setCell ?_ (by first | exact Nat.le_refl _ | (simp; done) | (simp; omega) | omega) _ | (apply Ext.trans; rotate_left; assumption)))⟩
  · go_enter Try.func7, Try.ntmps7
    go_wp2_with (first | (go_at_call 20; go_in))
    refine (draw_clamp a0 n0 c0 z0 _ r0 m0).mono ?_
    rintro e w1 ⟨n, a, b, rfl, y1⟩
    go_wp2_with fail
    refine (impl_clamp n a b _).mono ?_
    rintro e w' ⟨rfl, rfl⟩
    by_cases hba : b < a
    · have hx : clampI n a b = a := if_pos (.inr hba)
      rw [hx]
      go_wp2_with (first
        | (go_at_call 22; refine (impl_clamp _ _ _ _).mono ?_; rintro e w' ⟨rfl, rfl⟩))
      go_ret
      exact ⟨rfl, (by repeat (first | exact Ext.refl _ | assumption | refine Ext.alloc ?_ _ | refine Ext.drew ?_ | refine Ext.drewN ?_ _ | refine Ext.setCell ?_ (by first | exact Nat.le_refl _ | (simp; done) | (simp; omega) | omega) _ | (apply Ext.trans; rotate_left; assumption)))⟩
    · obtain ⟨f1, f2, f3, f4⟩ := clamp_facts n a b (by omega)
      generalize hx : clampI n a b = x at *
      have F4 := Lib.hid f4
      clear f4
      by_cases hna : n < a
      · go_wp2_with (first
          | (go_at_call 22; refine (impl_clamp _ _ _ _).mono ?_; rintro e w' ⟨rfl, rfl⟩))
        go_ret
        exact ⟨rfl, (by repeat (first | exact Ext.refl _ | assumption | refine Ext.alloc ?_ _ | refine Ext.drew ?_ | refine Ext.drewN ?_ _ | refine Ext.setCell ?_ (by first | exact Nat.le_refl _ | (simp; done) | (simp; omega) | omega) _ | (apply Ext.trans; rotate_left; assumption)))⟩
      · by_cases hnb : b < n
        · go_wp2_with (first
            | (go_at_call 22; refine (impl_clamp _ _ _ _).mono ?_; rintro e w' ⟨rfl, rfl⟩))
          go_ret
          exact ⟨rfl, (by repeat (first | exact Ext.refl _ | assumption | refine Ext.alloc ?_ _ | refine Ext.drew ?_ | refine Ext.drewN ?_ _ | refine Ext.setCell ?_ (by first | exact Nat.le_refl _ | (simp; done) | (simp; omega) | omega) _ | (apply Ext.trans; rotate_left; assumption)))⟩
        · obtain rfl := (id F4 : ¬n < a → ¬b < n → x = n) hna hnb
          go_wp2_with (first
            | (go_at_call 22; refine (impl_clamp _ _ _ _).mono ?_; rintro e w' ⟨rfl, rfl⟩))
          go_ret
          exact ⟨rfl, (by repeat (first | exact Ext.refl _ | assumption | refine Ext.alloc ?_ _ | refine Ext.drew ?_ | refine Ext.drewN ?_ _ | refine Ext.setCell ?_ (by first | exact Nat.le_refl _ | (simp; done) | (simp; omega) | omega) _ | (apply Ext.trans; rotate_left; assumption)))⟩

end Go.Proofs.Ytmokjebcjmphkaa
