/- The walk of FnSpread. -/
import Derived.Test.YtdaphamplgcccaaBatD
import Derived.Test.YtdaphamplgcccaaSprP
import Derived.Test.YtdaphamplgcccaaTouR
import Derived.Test.YtdaphamplgcccaaDrawP
import Derived.BigRegion
set_option maxRecDepth 20000
namespace Go.Proofs.Ytdaphamplgcccaa
open Go.RowKit
attribute [local go_sem ↓] Go.wp_at_zero Go.wp_at_succ

set_option maxHeartbeats 8000000 in
theorem law_FnSpread (w : World) (a0 : Option Addr) (n0 c0 : Nat) (z0 : List Int) (r0 : RowIs .u8 w w.heap.size a0 n0 z0) (m0 : n0 ≤ maxLen) : Calls Try.prog 15 #[.slice a0 n0 c0] w fun e w' => e = .returned (.bool true) ∧ Ext w w' := by
  have m1 := m0
  unfold maxLen at m1
  by_cases hbig : (1048576 : Int) < (n0 : Int)
  · go_enter Try.func15, Try.ntmps15
    go_wp2
    go_ret
    exact ⟨rfl, (by repeat (first | exact Ext.refl _ | assumption | refine Ext.alloc ?_ _ | refine Ext.drew ?_ | refine Ext.drewN ?_ _ | refine Ext.setCell ?_ (by first | exact Nat.le_refl _ | (simp; done) | (simp; omega) | omega) _ | (apply Ext.trans; rotate_left; assumption)))⟩
  · go_enter Try.func15, Try.ntmps15
    go_wp2_with (first | (go_at_call 36; go_in))
    refine (draw_batch a0 n0 c0 z0 _ r0 m0).mono ?_
    rintro e w1 ⟨a, b, c, d, o, hb, s, n, cp, l, q, m, cq, hG, ho, rfl, y1⟩
    have bg := ((Box.new w1 25 #[.int .i64 a, .int .i64 b, .int .i64 c, .int .i64 d]).alloc (.cells #[.int .i64 o, .bool hb] 43)).alloc (.cells #[.slice s n cp, .int .i64 l] 55)
    have bm := (Box.new_at (w1.alloc (.cells #[.int .i64 a, .int .i64 b, .int .i64 c, .int .i64 d] 25)) 43 #[.int .i64 o, .bool hb] (w1.heap.size + 1) (by simp)).alloc (.cells #[.slice s n cp, .int .i64 l] 55)
    have y2 : Ext w (((w1.alloc (.cells #[.int .i64 a, .int .i64 b, .int .i64 c, .int .i64 d] 25)).alloc (.cells #[.int .i64 o, .bool hb] 43)).alloc (.cells #[.slice s n cp, .int .i64 l] 55)) := ((y1.alloc _).alloc _).alloc _
    have fm := bm.free
    obtain ⟨q4, q5⟩ := bm.cell2
    have bg' := ((Box.new w1 25 #[.int .i64 a, .int .i64 b, .int .i64 c, .int .i64 d]).alloc (.cells #[.int .i64 1, .bool hb] 43)).alloc (.cells #[.slice s n cp, .int .i64 l] 55)
    have bm' := (Box.new_at (w1.alloc (.cells #[.int .i64 a, .int .i64 b, .int .i64 c, .int .i64 d] 25)) 43 #[.int .i64 1, .bool hb] (w1.heap.size + 1) (by simp)).alloc (.cells #[.slice s n cp, .int .i64 l] 55)
    have y2' : Ext w (((w1.alloc (.cells #[.int .i64 a, .int .i64 b, .int .i64 c, .int .i64 d] 25)).alloc (.cells #[.int .i64 1, .bool hb] 43)).alloc (.cells #[.slice s n cp, .int .i64 l] 55)) := ((y1.alloc _).alloc _).alloc _
    obtain ⟨q0, q1, q2, q3⟩ := bg'.cell4
    have BG := Lib.hid bg'
    have BM := Lib.hid bm'
    have Y2 := Lib.hid y2'
    have R0 := Lib.hid r0
    have hg := hG.ok
    have hKr := bank_range hg
    have HBC := Lib.hid (fun w => spec_bankCount a b c d w)
    rw [bankF_yes hg] at HBC
    have HIT := Lib.hid (fun fr m w h0 h1 => impl_tou a b c d 1 fr m hb h0 h1 w)
    have HSA := Lib.hid (fun k k0 k1 => spread_all (h := hb) (k := k) hg k0 k1)
    have HSO := Lib.hid (fun k k0 k1 => spread_one (h := hb) (k := k) hg k0 k1)
    have hcd : 1 ≤ c * d ∧ c * d ≤ 128 := by
      obtain ⟨_, _, ⟨c0, c1⟩, ⟨d0, d1⟩⟩ := geoB_iff.1 hg
      exact mul_range (by omega) c1 d0 d1
    clear bg bm y2 bg' bm' y2' y1 r0 hG hg
    go_wp2_with fail
    refine (HBC.out _).mono ?_
    rintro e w2 ⟨rfl, x2⟩
    have y3 := Y2.out.trans x2
    clear q0 q1 q2 q3 q4 q5 fm
    go_wp2_with fail
    refine (draw_places a0 n0 c0 z0 _ ((y3.row R0.out (Nat.le_refl _)).more y3.le) m0).mono ?_
    rintro e w3 ⟨gp, cpp, ps, hpl, hpr, rfl, hpc, -, hgp, x3⟩
    have p0 := hpc 0 (by omega)
    have r0 : 0 ≤ ps.getD 0 0 ∧ ps.getD 0 0 < 10000 := hpr _ (by rw [List.getD_eq_getElem?_getD, List.getElem?_eq_getElem (by omega)]; exact List.getElem_mem _)
    generalize ps.getD 0 0 = P0 at *
    have bg3 := BG.out.ext (x2.trans x3)
    have bm3 := BM.out.ext (x2.trans x3)
    obtain ⟨q0, q1, q2, q3⟩ := bg3.cell4
    have HQ : Hid (∀ x, Ext w3 x → (x.cell? ⟨w1.heap.size, 0, none⟩ = some (.int .i64 a) ∧ x.cell? ⟨w1.heap.size, 1, none⟩ = some (.int .i64 b) ∧ x.cell? ⟨w1.heap.size, 2, none⟩ = some (.int .i64 c) ∧ x.cell? ⟨w1.heap.size, 3, none⟩ = some (.int .i64 d)) ∧ (x.cell? ⟨w1.heap.size + 1, 0, none⟩ = some (.int .i64 1) ∧ x.cell? ⟨w1.heap.size + 1, 1, none⟩ = some (.bool hb))) := fun x hx =>
      ⟨(bg3.ext hx).cell4, (bm3.ext hx).cell2⟩
    have Y3 := Lib.hid (y3.trans x3)
    clear hpl hpr hpc hgp x2 x3 y3 R0 BG BM Y2 bg3 bm3
    have u0 : 0 ≤ P0 % (c * d) := Int.emod_nonneg _ (by omega)
    have u1 : P0 % (c * d) < c * d := Int.emod_lt_of_pos _ (by omega)
    have hSA := HSA.out _ u0 u1
    have hSO := HSO.out _ u0 u1
    have hfr : 0 ≤ a * b * (P0 % (c * d)) ∧ a * b * (P0 % (c * d)) ≤ 1024 := by
      have h1 : a * b * (P0 % (c * d)) ≤ 8 * 128 := Int.mul_le_mul hKr.2 (by omega) u0 (by omega)
      have h2 : 0 ≤ a * b * (P0 % (c * d)) := Int.mul_nonneg (by omega) u0
      omega
    have HT1 := Lib.hid (fun w => HIT.out (a * b * (P0 % (c * d))) (a * b) w (by omega) (by omega))
    have HT2 := Lib.hid (fun w => HIT.out (a * b * (P0 % (c * d))) 1 w (by omega) (by omega))
    have E0 : IntKind.i64.wrap (c * d) = c * d := by rw [IntKind.wrap_i64]; omega
    have T0 : P0.tmod (c * d) = P0 % (c * d) := Int.tmod_eq_emod_of_nonneg r0.1
    have E1 : IntKind.i64.wrap (P0 % (c * d)) = P0 % (c * d) := by rw [IntKind.wrap_i64]; omega
    have E2 : IntKind.i64.wrap (a * b * (P0 % (c * d))) = a * b * (P0 % (c * d)) := by rw [IntKind.wrap_i64]; omega
    have hcd0 : ¬ c * d = 0 := by omega
    have hcdb : (c * d == 0) = false := beq_eq_false_iff_ne.2 hcd0
    generalize touF a b c d 1 hb (a * b * (P0 % (c * d))) (a * b) = L1 at *
    generalize touF a b c d 1 hb (a * b * (P0 % (c * d))) 1 = L2 at *
    go_upto_region 7 with (fail)
    go_cut [9] (fun s9 wx => s9 = .int .i64 (a * b * (P0 % (c * d))) ∧ Ext w3 wx)
    case first =>
      go_region
      all_goals
        go_wp2_with fail
        go_meet
        exact ⟨rfl, (Ext.refl w3).drew⟩
    obtain ⟨rfl, x4⟩ := hcut
    obtain ⟨W4, rfl⟩ : ∃ x : World, x = wc := ⟨_, rfl⟩
    clear q0 q1 q2 q3 E0 E1 E2 T0
    generalize hL1 : L1.length = N1 at *
    generalize hL2 : L2.length = N2 at *
    have HL1 := Lib.hid hL1
    have HL2 := Lib.hid hL2
    clear hL1 hL2
    generalize a * b * (P0 % (c * d)) = FR at *
    generalize a * b = K at *
    subst hSO
    subst hSA
    obtain ⟨⟨q0, q1, q2, q3⟩, ⟨q4, q5⟩⟩ := HQ.out _ x4
    go_wp2_with fail
    refine (HT1.out _).mono ?_
    rintro e w5 ⟨s5, c5, rfl, -, x5⟩
    rw [HL1.out]
    have y5 := x4.trans x5
    clear q0 q1 q2 q3 q4 q5 x4 x5
    obtain ⟨⟨q0, q1, q2, q3⟩, ⟨q4, q5⟩⟩ := HQ.out _ y5
    go_wp2_with fail
    refine (HT2.out _).mono ?_
    rintro e w6 ⟨s6, c6, rfl, -, x6⟩
    rw [HL2.out]
    go_wp2
    go_ret
    exact ⟨rfl, (Y3.out.trans y5).trans x6⟩

end Go.Proofs.Ytdaphamplgcccaa
