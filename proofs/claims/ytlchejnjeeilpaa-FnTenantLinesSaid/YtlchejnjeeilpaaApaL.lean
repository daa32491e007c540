/- The walk of FnApart. -/
import Derived.Test.YtlchejnjeeilpaaPartF
import Derived.Test.YtlchejnjeeilpaaApaP
set_option maxRecDepth 20000
namespace Go.Proofs.Ytlchejnjeeilpaa
open Go.RowKit
attribute [local go_sem ↓] Go.wp_at_zero Go.wp_at_succ

theorem banks_two (t : Int) (h : t = 0 ∨ t = 1) : (banksL [1, 0] t 2).length = 1 := by
  rcases h with rfl | rfl <;> rfl
/-- BanksOf of the partition of two banks -/
theorem banks_pair (t : Int) (h : t = 0 ∨ t = 1) (w : World) : Calls Try.prog 36 #[.agg #[.slice (some ⟨w.heap.size, 0, none⟩) 2 2], .int .i64 t] (w.alloc (.cells #[.int .i64 1, .int .i64 0] 3)) fun e w' => ∃ a cap, e = .returned (.slice a 1 cap) ∧ Ext w w' := by
  have b := Box.new w 3 #[.int .i64 1, .int .i64 0]
  have hr : RD (w.alloc (.cells #[.int .i64 1, .int .i64 0] 3)) (some ⟨w.heap.size, 0, none⟩) 2 [1, 0] := ⟨rfl, fun _ => ⟨w.heap.size, 0, rfl, b.lt, fun i hi => (by
    have e : 0 + i = i := by omega
    rw [e, b.cell i]
    match i, hi with
    | 0, _ => rfl
    | 1, _ => rfl)⟩⟩
  refine (impl_banksOf _ 2 2 [1, 0] t _ hr (by omega)).mono ?_
  rintro e w' ⟨a, cap, rfl, _, x⟩
  rw [banks_two t h]
  exact ⟨a, cap, rfl, ((Ext.refl w).alloc _).trans x⟩

set_option maxHeartbeats 4000000 in
theorem law_FnApart (w : World) (a0 : Option Addr) (n0 c0 : Nat) (z0 : List Int) (r0 : RowIs .u8 w w.heap.size a0 n0 z0) (m0 : n0 ≤ maxLen) : Calls Try.prog 13 #[.slice a0 n0 c0] w fun e w' => e = .returned (.bool true) ∧ Ext w w' := by
  have m1 := m0
  unfold maxLen at m1
  by_cases hbig : (1048576 : Int) < (n0 : Int)
  · go_enter Try.func13, Try.ntmps13
    go_wp2
    go_ret
    exact ⟨rfl, (by repeat (first | exact Ext.refl _ | assumption | refine Ext.alloc ?_ _ | refine Ext.drew ?_ | refine Ext.drewN ?_ _ | refine Ext.setCell ?_ (by first | exact Nat.le_refl _ | (simp; done) | (simp; omega) | omega) _ | (apply Ext.trans; rotate_left; assumption)))⟩
  · go_enter Try.func13, Try.ntmps13
    go_wp2_with (first | (go_at_call 27; go_in))
    refine (draw_part a0 n0 c0 z0 _ r0 m0).mono ?_
    rintro e w1 ⟨a, b, c, d, s, n, cp, zs, hn, rfl, hr, y1⟩
    have hm : n ≤ maxLen := by unfold maxLen; omega
    have bg := (Box.new w1 47 #[.int .i64 a, .int .i64 b, .int .i64 c, .int .i64 d]).alloc (.cells #[.slice s n cp] 49)
    have bp := Box.new_at (w1.alloc (.cells #[.int .i64 a, .int .i64 b, .int .i64 c, .int .i64 d] 47)) 49 #[.slice s n cp] (w1.heap.size + 1) (by simp)
    have x1 : Ext w1 ((w1.alloc (.cells #[.int .i64 a, .int .i64 b, .int .i64 c, .int .i64 d] 47)).alloc (.cells #[.slice s n cp] 49)) := ((Ext.refl w1).alloc _).alloc _
    have hr1 := hr.ext x1
    have y2 := y1.trans x1
    obtain ⟨q0, q1, q2, q3⟩ := bg.cell4
    have q4 : ((w1.alloc (.cells #[.int .i64 a, .int .i64 b, .int .i64 c, .int .i64 d] 47)).alloc (.cells #[.slice s n cp] 49)).cell? ⟨w1.heap.size + 1, 0, none⟩ = some (.slice s n cp) := bp.cell 0
    have HSP := Lib.hid (fun w h => spec_partitionOk a b c d s n cp zs w h hm)
    have HIP := Lib.hid (fun w h => impl_partitionOk a b c d s n cp zs w h hm)
    have HBG := Lib.hid bg
    have HBP := Lib.hid bp
    have HR1 := Lib.hid hr1
    have Y2 := Lib.hid y2
    have hl := hr.1
    clear hr hr1 y1 y2 x1 bg bp
    go_wp2_with fail
    refine (HSP.out _ HR1.out).mono ?_
    rintro e w2 ⟨rfl, x2⟩
    clear q0 q1 q2 q3 q4
    have HQ : Hid (∀ x, Ext w2 x → x.cell? ⟨w1.heap.size, 0, none⟩ = some (.int .i64 a) ∧ x.cell? ⟨w1.heap.size, 1, none⟩ = some (.int .i64 b) ∧ x.cell? ⟨w1.heap.size, 2, none⟩ = some (.int .i64 c) ∧ x.cell? ⟨w1.heap.size, 3, none⟩ = some (.int .i64 d) ∧ x.cell? ⟨w1.heap.size + 1, 0, none⟩ = some (.slice s n cp)) := fun x hx =>
      ⟨(HBG.out.ext (x2.trans hx)).cell 0, (HBG.out.ext (x2.trans hx)).cell 1, (HBG.out.ext (x2.trans hx)).cell 2, (HBG.out.ext (x2.trans hx)).cell 3, (HBP.out.ext (x2.trans hx)).cell 0⟩
    have HR2 : Hid (∀ x, Ext w2 x → RD x s n zs) := fun x hx => HR1.out.ext (x2.trans hx)
    have Y3 := Lib.hid (Y2.out.trans x2)
    clear x2 HBG HBP HR1 Y2 HSP
    cases hP : partB a b c d zs with
    | false =>
      rw [hP] at HIP
      obtain ⟨q0, q1, q2, q3, q4⟩ := HQ.out _ (Ext.refl w2)
      clear hP
      go_wp2_with fail
      refine (HIP.out _ (HR2.out _ (Ext.refl w2))).mono ?_
      rintro e w3 ⟨rfl, x3⟩
      clear q0 q1 q2 q3 q4
      go_wp2_with fail
      refine (banks_pair 1 (.inr rfl) _).mono ?_
      rintro e w4 ⟨p4, c4, rfl, x4⟩
      go_wp2
      go_ret
      exact ⟨rfl, (Y3.out.trans x3).trans x4⟩
    | true =>
      have hlen := part_len hP
      have hpos : 1 ≤ n := by
        obtain ⟨_, hg, he⟩ := partB_iff.1 hP
        have := bank_range hg
        rw [bankF_yes hg] at he
        omega
      have HT := Lib.hid (fun t w h => spec_tenLines a b c d t s n cp zs w h hm)
      have HA := Lib.hid (fun t l w h hB => impl_tenAddr_yes a b c d t l s n cp zs w h hm hB)
      have HBK := Lib.hid (fun t w h => impl_banksOf s n cp zs t w h (by omega))
      have HTB := Lib.hid (fun t l (hB : tenB a b c d zs t l = true) => ten_back hB)
      have HAR := Lib.hid (fun k => apaN_range hP k)
      have HAL := Lib.hid (apaN_all hP)
      have HBL := Lib.hid (fun t => banksL_len zs t n)
      clear hP HIP
      go_wp2
      go_loopw [5, 6] (fun u i wr => ∃ k : Nat, k ≤ 4 ∧ i = .int .i64 k ∧ u = .int .i64 (apaN a b c d zs k) ∧ Ext w2 wr) (fun _ i _ => 4 - (intOf i).toNat)
      case atStart => exact ⟨0, by omega, rfl, rfl, Ext.refl _⟩
      case round =>
        obtain ⟨k, hk, rfl, rfl, xr⟩ := hrel
        by_cases hlt : k < 4
        · have hltI : (k : Int) < 4 := by omega
          have hA0 := HAR.out k
          have hT0 := ten_range (a := a) (b := b) (c := c) (d := d) (zs := zs) (k : Int)
          have hN0 := HBL.out (k : Int)
          have HNX : Hid (apaN a b c d zs (k + 1) = apaN a b c d zs k + min (tenF a b c d zs k) 8 + ((banksL zs k zs.length).length : Int)) := rfl
          have HTk := Lib.hid (HT.out (k : Int))
          have HAk := Lib.hid (fun l w h (hB : tenB a b c d zs (k : Int) l = true) => HA.out (k : Int) l w h hB)
          have HTBk := Lib.hid (fun l (hB : tenB a b c d zs (k : Int) l = true) => HTB.out (k : Int) l hB)
          have HBk := Lib.hid (HBK.out (k : Int))
          have HtB : Hid (∀ l : Int, 0 ≤ l → l < tenF a b c d zs k → tenB a b c d zs k l = true) := fun l h0 h1 => tenB_iff.2 ⟨h0, by omega⟩
          rw [hl] at HNX
          generalize apaN a b c d zs k = A at *
          generalize tenF a b c d zs k = T at *
          generalize hL : (banksL zs k n) = L at *
          clear hL
          generalize hLL : L.length = m at *
          have HLL := Lib.hid hLL
          clear hLL
          obtain ⟨W3, rfl⟩ : ∃ x : World, x = wr := ⟨_, rfl⟩
          go_wp2
          go_loopw [5, 7] (fun u i wr => ∃ j : Nat, (j : Int) ≤ T ∧ j ≤ 8 ∧ i = .int .i64 j ∧ u = .int .i64 (A + j) ∧ Ext w2 wr) (fun _ i _ => 8 - (intOf i).toNat)
          case atStart => exact ⟨0, by omega, by omega, rfl, by go_num, xr⟩
          case round =>
            obtain ⟨j, hjT, hj8, rfl, rfl, xj⟩ := hrel
            obtain ⟨q0, q1, q2, q3, q4⟩ := HQ.out _ xj
            go_wp2_with fail
            refine (HTk.out _ (HR2.out _ xj)).mono ?_
            rintro e w4 ⟨rfl, x4⟩
            have y4 := xj.trans x4
            clear q0 q1 q2 q3 q4 x4 xj
            by_cases hin : (j : Int) < T ∧ j < 8
            · obtain ⟨hin1, hin2⟩ := hin
              have hin3 : (j : Int) < 8 := by omega
              have hB := HtB.out j (by omega) hin1
              obtain ⟨-, -, hz, -, hx0, hx1⟩ := HTBk.out j hB
              obtain ⟨q0, q1, q2, q3, q4⟩ := HQ.out _ y4
              go_wp2_with fail
              refine (HAk.out (j : Int) _ (HR2.out _ y4) hB).mono ?_
              rintro e w5 ⟨rfl, x5⟩
              generalize tenX zs k j = X at *
              generalize tenY d zs k j = Y at *
              generalize tenZ d zs k j = Z at *
              obtain ⟨N, rfl⟩ := Int.eq_ofNat_of_zero_le hx0
              rw [hl] at hx1
              have hNn : N < n := by omega
              rw [Int.toNat_natCast] at hz
              have ba := Box.new w5 60 #[.int .i64 N, .int .i64 Y, .int .i64 Z]
              have ya := (y4.trans x5).alloc (.cells #[.int .i64 N, .int .i64 Y, .int .i64 Z] 60)
              obtain ⟨bs, os, rfl, hbs, hcs⟩ := (HR2.out _ ya).2 (by omega)
              have hc := hcs N hNn
              rw [hz] at hc
              have p0 : (w5.alloc (.cells #[.int .i64 N, .int .i64 Y, .int .i64 Z] 60)).cell? ⟨w5.heap.size, 0, none⟩ = some (.int .i64 N) := ba.cell 0
              have p4 := (HQ.out _ ya).2.2.2.2
              have hNI : (N : Int) < (n : Int) := by omega
              have hNn2 : ¬ (n : Int) ≤ (N : Int) := by omega
              clear q0 q1 q2 q3 q4 hcs ba y4 x5 hB hz hbs
              go_wp2
              go_roundw
              case rel => exact ⟨j + 1, by omega, by omega, by go_num, by go_num, ya⟩
              case measure => simp [intOf]; omega
            · have hmin : min T 8 = (j : Int) := by omega
              have HM := Lib.hid hmin
              obtain ⟨q0, q1, q2, q3, q4⟩ := HQ.out _ y4
              have hcase : ¬ (j : Int) < T ∨ ((j : Int) < T ∧ ¬ (j : Int) < 8) := by omega
              clear hmin hin
              rcases hcase with h1 | ⟨h1, h2⟩
              · go_wp2_with fail
                refine (HBk.out _ (HR2.out _ y4)).mono ?_
                rintro e w5 ⟨p5, c5, rfl, -, x5⟩
                rw [HLL.out]
                go_wp2
                go_roundw
                case rel => exact ⟨k + 1, by omega, by go_num, by rw [HNX.out, HM.out], y4.trans x5⟩
                case measure => simp [intOf]; omega
              · go_wp2_with fail
                refine (HBk.out _ (HR2.out _ y4)).mono ?_
                rintro e w5 ⟨p5, c5, rfl, -, x5⟩
                rw [HLL.out]
                go_wp2
                go_roundw
                case rel => exact ⟨k + 1, by omega, by go_num, by rw [HNX.out, HM.out], y4.trans x5⟩
                case measure => simp [intOf]; omega
        · obtain rfl : k = 4 := by omega
          have q4 := (HQ.out _ xr).2.2.2.2
          have hA := HAL.out
          rw [hl] at hA
          generalize apaN a b c d zs 4 = A at *
          go_wp2
          go_ret
          exact ⟨rfl, Y3.out.trans xr⟩

end Go.Proofs.Ytlchejnjeeilpaa
