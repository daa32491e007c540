/- The walk of FnOneBit. -/
import Derived.Test.YtamlfjkkpgmjiaaCmdG
import Derived.Test.YtamlfjkkpgmjiaaCmdR
import Derived.Test.YtamlfjkkpgmjiaaOneP
import Derived.Test.YtamlfjkkpgmjiaaDrawP
namespace Go.Proofs.Ytamlfjkkpgmjiaa
open Go.RowKit
attribute [local go_sem ↓] Go.wp_at_zero Go.wp_at_succ

theorem readOk_frame {k b r c : Int} (h : formB k b r c = true) : readOk (frameN k b r c) = true ∧ frameN k b r c % 16 = k ∧ frameN k b r c / 16 % 8 = b ∧ frameN k b r c / 128 % 16 = r ∧ frameN k b r c / 2048 % 8 = c := by
  have hr := formB_range h
  have hN := frameN_range h
  have e : frameN k b r c % 16 = k ∧ frameN k b r c / 16 % 8 = b ∧ frameN k b r c / 128 % 16 = r ∧ frameN k b r c / 2048 % 8 = c := by
    unfold frameN packN
    generalize popF (k + 16 * b + 128 * r + 2048 * c) % 2 = t
    omega
  refine ⟨?_, e⟩
  unfold readOk
  rw [e.1, e.2.1, e.2.2.1, e.2.2.2, frameF, if_pos h, btw_true (by omega) (by omega)]
  simp
theorem readOk_even {w : Int} (h : readOk w = true) : popN w.toNat 15 % 2 = 0 := by
  unfold readOk at h
  rw [Bool.and_eq_true] at h
  obtain ⟨h1, h2⟩ := h
  have h2 := eq_of_beq h2
  have h1 := btw_iff.1 h1
  cases hf : formB (w % 16) (w / 16 % 8) (w / 128 % 16) (w / 2048 % 8) with
  | false => rw [frameF, if_neg (by simp [hf])] at h2; omega
  | true =>
    rw [frameF, if_pos hf] at h2
    have := frame_even hf
    rw [h2] at this
    exact this
theorem flip_bad {k b r c : Int} (h : formB k b r c = true) (N : Nat) (hN : frameN k b r c = (N : Int)) (j : Nat) (hj : j < 15) : bits .xor .i64 (N : Int) ((2 ^ j : Nat) : Int) = ((N ^^^ 2 ^ j : Nat) : Int) ∧ N ^^^ 2 ^ j < 32768 ∧ readOk ((N ^^^ 2 ^ j : Nat) : Int) = false := by
  have hr := frameN_range h
  have hp : 2 ^ j < 2 ^ 15 := Nat.pow_lt_pow_right (by omega) hj
  refine ⟨i64_xor_nat _ _ (by omega) (by omega), Nat.xor_lt_two_pow (n := 15) (by omega) hp, ?_⟩
  cases hR : readOk ((N ^^^ 2 ^ j : Nat) : Int) with
  | false => rfl
  | true =>
    have h1 := readOk_even hR
    have h2 := frame_even h
    rw [hN] at h2
    rw [Int.toNat_natCast] at h1 h2
    have := popN_flip N j 15 hj
    omega

set_option maxHeartbeats 4000000 in
theorem law_FnOneBit (w : World) (a0 : Option Addr) (n0 c0 : Nat) (z0 : List Int) (r0 : RowIs .u8 w w.heap.size a0 n0 z0) (m0 : n0 ≤ maxLen) : Calls Try.prog 7 #[.slice a0 n0 c0] w fun e w' => e = .returned (.bool true) ∧ Ext w w' := by
  have m1 := m0
  unfold maxLen at m1
  by_cases hbig : (1048576 : Int) < (n0 : Int)
  · go_enter Try.func7, Try.ntmps7
    go_wp2
    go_ret
    exact ⟨rfl, (by repeat (first | exact Ext.refl _ | assumption | refine Ext.alloc ?_ _ | refine Ext.drew ?_ | refine Ext.drewN ?_ _ | refine Ext.setCell ?_ (by first | exact Nat.le_refl _ | (simp; done) | (simp; omega) | omega) _ | (apply Ext.trans; rotate_left; assumption)))⟩
  · go_enter Try.func7, Try.ntmps7
    go_wp2_with (first | (go_at_call 19; go_in))
    refine (draw_command a0 n0 c0 z0 _ r0 m0).mono ?_
    rintro e w1 ⟨a, b, c, d, k, p, q, r, hF, -, rfl, y1⟩
    have bc := Box.new_at (w1.alloc (.cells #[.int .i64 a, .int .i64 b, .int .i64 c, .int .i64 d] 31)) 25 #[.int .i64 k, .int .i64 p, .int .i64 q, .int .i64 r] (w1.heap.size + 1) (by simp)
    have y2 : Ext w ((w1.alloc (.cells #[.int .i64 a, .int .i64 b, .int .i64 c, .int .i64 d] 31)).alloc (.cells #[.int .i64 k, .int .i64 p, .int .i64 q, .int .i64 r] 25)) := (y1.alloc _).alloc _
    have BC := Lib.hid bc
    clear bc
    go_wp2_with fail
    refine (draw_places a0 n0 c0 z0 _ ((y2.row r0 (Nat.le_refl _)).more y2.le) m0).mono ?_
    rintro e w2 ⟨g, cc, ps, hl, hr, rfl, hc, hg1, hg2, y3⟩
    have p0 := hc 0 (by omega)
    have q0 : 0 ≤ ps.getD 0 0 ∧ ps.getD 0 0 < 10000 := hr _ (by rw [List.getD_eq_getElem?_getD, List.getElem?_eq_getElem (by omega)]; exact List.getElem_mem _)
    generalize ps.getD 0 0 = P at *
    clear hc hr hl
    have b3 := BC.out.ext y3
    obtain ⟨u0, u1, u2, u3⟩ := b3.cell4
    have B3 := Lib.hid b3
    have y4 := y2.trans y3
    clear BC b3 y1 y2 y3
    go_wp2_with fail
    refine (spec_frame _ _ _ _ _).mono ?_
    rintro e w3 ⟨rfl, y5⟩
    have b4 := B3.out.ext y5
    have p1 := (y5.cell hg2 0).trans p0
    have hg3 : g < w3.heap.size := Nat.lt_of_lt_of_le hg2 y5.le
    rw [frameF, if_pos hF]
    obtain ⟨hk0, hk1, hk2, hk3, hk4⟩ := readOk_frame hF
    have hNr := frameN_range hF
    have hfl := fun N hN j hj => flip_bad hF N hN j hj
    obtain ⟨N, hN⟩ := Int.eq_ofNat_of_zero_le (show 0 ≤ frameN k p q r by omega)
    obtain ⟨j, hj⟩ := Int.eq_ofNat_of_zero_le (show 0 ≤ P % 15 by omega)
    have hj15 : j < 15 := by omega
    obtain ⟨f1, f2, f3⟩ := hfl N hN j hj15
    rw [hN] at hk0 hk1 hk2 hk3 hk4 hNr ⊢
    have T1 : P.tmod 15 = (j : Int) := by rw [Int.tmod_eq_emod_of_nonneg q0.1]; exact hj
    have y6 := y4.trans y5
    have B4 := Lib.hid b4
    have WJ : wrap64 (2 ^ j) = ((2 ^ j : Nat) : Int) := by
      have hp : 2 ^ j < 2 ^ 15 := Nat.pow_lt_pow_right (by omega) hj15
      have e : (2 : Int) ^ j = ((2 ^ j : Nat) : Int) := by simp
      rw [e]
      generalize 2 ^ j = m at hp ⊢
      unfold wrap64
      omega
    rw [← WJ] at f1
    generalize hM : N ^^^ 2 ^ j = M at f1 f2 f3
    have F := Lib.hid (And.intro f1 (And.intro f2 f3))
    have KK := Lib.hid (And.intro hk1 (And.intro hk2 (And.intro hk3 hk4)))
    clear hM WJ hfl f1 f2 f3 u0 u1 u2 u3 B3 p0 y4 y5 hk1 hk2 hk3 hk4 b4 hN
    go_wp2_with fail
    rw [F.out.1]
    refine (impl_read_no (M : Int) (by have := F.out.2.1; omega) F.out.2.2 _).mono ?_
    rintro e w4 ⟨rfl, y7⟩
    have y8 := (y6.trans y7).alloc (.cells #[.int .i64 0, .int .i64 0, .int .i64 0, .int .i64 0] 25)
    have B5 := Lib.hid ((B4.out.ext y7).alloc (.cells #[.int .i64 0, .int .i64 0, .int .i64 0, .int .i64 0] 25))
    clear p1 y6 y7
    go_wp2_with fail
    refine (impl_read_yes (N : Int) hk0 _).mono ?_
    rintro e w5 ⟨rfl, y9⟩
    obtain ⟨e1, e2, e3, e4⟩ := KK.out
    rw [e1, e2, e3, e4]
    have b6 := Box.new w5 25 #[.int .i64 k, .int .i64 p, .int .i64 q, .int .i64 r]
    have c6 := (B5.out.ext y9).alloc (.cells #[.int .i64 k, .int .i64 p, .int .i64 q, .int .i64 r] 25)
    obtain ⟨i0, i1, i2, i3⟩ := b6.cell4
    obtain ⟨j0, j1, j2, j3⟩ := c6.cell4
    have y10 := (y8.trans y9).alloc (.cells #[.int .i64 k, .int .i64 p, .int .i64 q, .int .i64 r] 25)
    clear b6 c6 e1 e2 e3 e4
    go_wp2
    go_ret
    exact ⟨rfl, y10⟩

end Go.Proofs.Ytamlfjkkpgmjiaa
