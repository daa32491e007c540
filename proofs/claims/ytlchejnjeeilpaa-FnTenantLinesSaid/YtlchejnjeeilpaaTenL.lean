/- The walk of FnTenantLines. -/
import Derived.Test.YtlchejnjeeilpaaApaL
import Derived.Test.YtlchejnjeeilpaaDrawP
set_option maxRecDepth 20000
namespace Go.Proofs.Ytlchejnjeeilpaa
open Go.RowKit
attribute [local go_sem ↓] Go.wp_at_zero Go.wp_at_succ

set_option maxHeartbeats 4000000 in
theorem law_FnTenantLines (w : World) (a0 : Option Addr) (n0 c0 : Nat) (z0 : List Int) (r0 : RowIs .u8 w w.heap.size a0 n0 z0) (m0 : n0 ≤ maxLen) : Calls Try.prog 14 #[.slice a0 n0 c0] w fun e w' => e = .returned (.bool true) ∧ Ext w w' := by
  have m1 := m0
  unfold maxLen at m1
  by_cases hbig : (1048576 : Int) < (n0 : Int)
  · go_enter Try.func14, Try.ntmps14
    go_wp2
    go_ret
    exact ⟨rfl, (by repeat (first | exact Ext.refl _ | assumption | refine Ext.alloc ?_ _ | refine Ext.drew ?_ | refine Ext.drewN ?_ _ | refine Ext.setCell ?_ (by first | exact Nat.le_refl _ | (simp; done) | (simp; omega) | omega) _ | (apply Ext.trans; rotate_left; assumption)))⟩
  · go_enter Try.func14, Try.ntmps14
    go_wp2_with (first | (go_at_call 27; go_in))
    refine (draw_part a0 n0 c0 z0 _ r0 m0).mono ?_
    rintro e w1 ⟨a, b, c, d, s, n, cp, zs, hn, rfl, hr, y1⟩
    have hm : n ≤ maxLen := by unfold maxLen; omega
    have bg := (Box.new w1 47 #[.int .i64 a, .int .i64 b, .int .i64 c, .int .i64 d]).alloc (.cells #[.slice s n cp] 49)
    have bp := Box.new_at (w1.alloc (.cells #[.int .i64 a, .int .i64 b, .int .i64 c, .int .i64 d] 47)) 49 #[.slice s n cp] (w1.heap.size + 1) (by simp)
    have x1 : Ext w1 ((w1.alloc (.cells #[.int .i64 a, .int .i64 b, .int .i64 c, .int .i64 d] 47)).alloc (.cells #[.slice s n cp] 49)) := ((Ext.refl w1).alloc _).alloc _
    have hr1 := hr.ext x1
    have y2 := y1.trans x1
    obtain ⟨q0, q1, q2, q3⟩ := bg.cell4
    have q4 : ((w1.alloc (.cells #[.int .i64 a, .int .i64 b, .int .i64 c, .int .i64 d] 47)).alloc (.cells #[.slice s n cp] 49)).cell? ⟨w1.heap.size + 1, 0, none⟩ = some (.slice s n cp) := bp.cell 0
    have HSP := Lib.hid (fun w h => spec_partitionOk a b c d s n cp zs w h hm)
    have HIP := Lib.hid (fun w h => impl_partitionOk a b c d s n cp zs w h hm)
    have HBG := Lib.hid bg
    have HBP := Lib.hid bp
    have HR1 := Lib.hid hr1
    have Y2 := Lib.hid y2
    have R0 := Lib.hid r0
    have hl := hr.1
    clear hr hr1 y1 y2 x1 bg bp r0
    go_wp2_with fail
    refine (HSP.out _ HR1.out).mono ?_
    rintro e w2 ⟨rfl, x2⟩
    clear q0 q1 q2 q3 q4
    have HQ : Hid (∀ x, Ext w2 x → x.cell? ⟨w1.heap.size, 0, none⟩ = some (.int .i64 a) ∧ x.cell? ⟨w1.heap.size, 1, none⟩ = some (.int .i64 b) ∧ x.cell? ⟨w1.heap.size, 2, none⟩ = some (.int .i64 c) ∧ x.cell? ⟨w1.heap.size, 3, none⟩ = some (.int .i64 d) ∧ x.cell? ⟨w1.heap.size + 1, 0, none⟩ = some (.slice s n cp)) := fun x hx =>
      ⟨(HBG.out.ext (x2.trans hx)).cell 0, (HBG.out.ext (x2.trans hx)).cell 1, (HBG.out.ext (x2.trans hx)).cell 2, (HBG.out.ext (x2.trans hx)).cell 3, (HBP.out.ext (x2.trans hx)).cell 0⟩
    have HR2 : Hid (∀ x, Ext w2 x → RD x s n zs) := fun x hx => HR1.out.ext (x2.trans hx)
    have Y3 := Lib.hid (Y2.out.trans x2)
    have HIT := Lib.hid (fun t w h => impl_tenLines a b c d t s n cp zs w h hm)
    clear x2 HBG HBP HR1 Y2 HSP
    cases hP : partB a b c d zs with
    | false =>
      rw [hP] at HIP
      have HIT0 := Lib.hid (HIT.out 0)
      rw [tenF_no hP] at HIT0
      obtain ⟨q0, q1, q2, q3, q4⟩ := HQ.out _ (Ext.refl w2)
      clear hP
      go_wp2_with fail
      refine (HIP.out _ (HR2.out _ (Ext.refl w2))).mono ?_
      rintro e w3 ⟨rfl, x3⟩
      clear q0 q1 q2 q3 q4
      obtain ⟨q0, q1, q2, q3, q4⟩ := HQ.out _ x3
      go_wp2_with fail
      refine (HIT0.out _ (HR2.out _ x3)).mono ?_
      rintro e w4 ⟨rfl, x4⟩
      clear q0 q1 q2 q3 q4
      go_wp2_with fail
      refine (banks_pair 0 (.inl rfl) _).mono ?_
      rintro e w5 ⟨p4, c4, rfl, x5⟩
      go_wp2
      go_ret
      exact ⟨rfl, ((Y3.out.trans x3).trans x4).trans x5⟩
    | true =>
      have hlen := part_len hP
      have hpos : 1 ≤ n := by
        obtain ⟨_, hg, he⟩ := partB_iff.1 hP
        have := bank_range hg
        rw [bankF_yes hg] at he
        omega
      have HT := Lib.hid (fun t w h => spec_tenLines a b c d t s n cp zs w h hm)
      have HA := Lib.hid (fun t l w h hB => impl_tenAddr_yes a b c d t l s n cp zs w h hm hB)
      have HTL := Lib.hid (fun x y z w h hB => impl_tenLine_yes a b c d x y z s n cp zs w h hm hB)
      have HTB := Lib.hid (fun t l (hB : tenB a b c d zs t l = true) => ten_back hB)
      have HAR := Lib.hid (fun k => sumN_range a b c d zs k)
      have HAL := Lib.hid (sumN_all hP)
      have HLC := Lib.hid (fun w => spec_lineCount a b c d w)
      have HAO := Lib.hid (fun x y z w => spec_addrOk a b c d x y z w)
      have hLC := lineF_range a b c d
      rw [hP] at HIP
      clear hP
      go_wp2_with fail
      refine (draw_places a0 n0 c0 z0 _ ((Y3.out.row R0.out (Nat.le_refl _)).more Y3.out.le) m0).mono ?_
      rintro e w3 ⟨gq, cq, ps, hpl, hpr, rfl, hpc, -, hgq, x3⟩
      have HPS : Hid (∀ x, Ext w3 x → ∀ i, i < 12 → x.cell? ⟨gq, i, none⟩ = some (.int .i64 (ps.getD i 0)) ∧ 0 ≤ ps.getD i 0 ∧ ps.getD i 0 < 10000) := fun x hx i hi =>
        ⟨(hx.cell hgq i).trans (hpc i hi), hpr _ (by rw [List.getD_eq_getElem?_getD, List.getElem?_eq_getElem (by omega)]; exact List.getElem_mem _)⟩
      have X3 := Lib.hid x3
      clear hpl hpr hpc R0 hgq x3
      go_wp2
      go_loopw [5, 7] (fun u i wr => ∃ k : Nat, k ≤ 4 ∧ i = .int .i64 k ∧ u = .int .i64 (sumN a b c d zs k) ∧ Ext w3 wr) (fun _ i _ => 4 - (intOf i).toNat)
      case atStart => exact ⟨0, by omega, rfl, rfl, Ext.refl _⟩
      case round =>
        obtain ⟨k, hk, rfl, rfl, xr⟩ := hrel
        by_cases hlt : k < 4
        · have hltI : (k : Int) < 4 := by omega
          have hA0 := HAR.out k
          have hT0 := ten_range (a := a) (b := b) (c := c) (d := d) (zs := zs) (k : Int)
          have HNX : Hid (sumN a b c d zs (k + 1) = sumN a b c d zs k + tenF a b c d zs k) := rfl
          have HTk := Lib.hid (HT.out (k : Int))
          have HIk := Lib.hid (HIT.out (k : Int))
          have HAk := Lib.hid (fun l w h (hB : tenB a b c d zs (k : Int) l = true) => HA.out (k : Int) l w h hB)
          have HTBk := Lib.hid (fun l (hB : tenB a b c d zs (k : Int) l = true) => HTB.out (k : Int) l hB)
          have HtB : Hid (∀ l : Int, 0 ≤ l → l < tenF a b c d zs k → tenB a b c d zs k l = true) := fun l h0 h1 => tenB_iff.2 ⟨h0, by omega⟩
          generalize sumN a b c d zs k = A at *
          generalize tenF a b c d zs k = T at *
          obtain ⟨W3, rfl⟩ : ∃ x : World, x = wr := ⟨_, rfl⟩
          have yr := X3.out.trans xr
          obtain ⟨q0, q1, q2, q3, q4⟩ := HQ.out _ yr
          go_wp2_with fail
          refine (HIk.out _ (HR2.out _ yr)).mono ?_
          rintro e w4 ⟨rfl, x4⟩
          have z4 := xr.trans x4
          have y4 := X3.out.trans z4
          clear q0 q1 q2 q3 q4 x4 xr yr
          obtain ⟨q0, q1, q2, q3, q4⟩ := HQ.out _ y4
          go_wp2_with fail
          refine (HTk.out _ (HR2.out _ y4)).mono ?_
          rintro e w5 ⟨rfl, x5⟩
          have z5 := z4.trans x5
          have y5 := X3.out.trans z5
          clear q0 q1 q2 q3 q4 x5 z4 y4
          by_cases hT : T = 0
          · subst hT
            go_wp2
            go_roundw
            case rel => exact ⟨k + 1, by omega, by go_num, by rw [HNX.out]; try go_num, z5⟩
            case measure => simp [intOf]; omega
          · have hTb : (T == 0) = false := beq_eq_false_iff_ne.2 hT
            have hT1 : 0 < T := by omega
            obtain ⟨cq0, ps0, ps1⟩ := HPS.out _ z5 k (by omega)
            generalize ps.getD k 0 = Q at *
            have hmod : Q.tmod T = Q % T := Int.tmod_eq_emod_of_nonneg ps0
            have hl0 : 0 ≤ Q % T := Int.emod_nonneg _ hT
            have hl1 : Q % T < T := Int.emod_lt_of_pos _ hT1
            have hB := HtB.out (Q % T) hl0 hl1
            obtain ⟨hao, hpa, hz, hbk, hx0, hx1⟩ := HTBk.out (Q % T) hB
            have hQl : Q % T ≤ 1024 := by omega
            have HA1 := Lib.hid (fun w h => HAk.out (Q % T) w h hB)
            have HTL1 := Lib.hid (fun w h => HTL.out (tenX zs k (Q % T)) (tenY d zs k (Q % T)) (tenZ d zs k (Q % T)) w h (by rw [tlB, hpa, hao]; rfl))
            rw [hz, hbk] at HTL1
            have HAO1 := Lib.hid (HAO.out (tenX zs k (Q % T)) (tenY d zs k (Q % T)) (tenZ d zs k (Q % T)))
            rw [hao] at HAO1
            generalize tenX zs k (Q % T) = X at *
            generalize tenY d zs k (Q % T) = Y at *
            generalize tenZ d zs k (Q % T) = Z at *
            generalize Q % T = l at *
            obtain ⟨q0, q1, q2, q3, q4⟩ := HQ.out _ y5
            clear hB hao hpa hbk
            go_wp2_with fail
            refine (HA1.out _ (HR2.out _ y5)).mono ?_
            rintro e w6 ⟨rfl, x6⟩
            obtain ⟨N, rfl⟩ := Int.eq_ofNat_of_zero_le hx0
            rw [hl] at hx1
            have hNn : N < n := by omega
            have hNI : (N : Int) < (n : Int) := by omega
            rw [Int.toNat_natCast] at hz
            have ba := Box.new w6 60 #[.int .i64 N, .int .i64 Y, .int .i64 Z]
            have za := (z5.trans x6).alloc (.cells #[.int .i64 N, .int .i64 Y, .int .i64 Z] 60)
            have ya := X3.out.trans za
            have BA := Lib.hid ba
            obtain ⟨p0, p1, p2⟩ := ba.cell3
            clear q0 q1 q2 q3 q4 ba x6 z5 y5 cq0
            obtain ⟨q0, q1, q2, q3, q4⟩ := HQ.out _ ya
            go_wp2_with fail
            refine (HTL1.out _ (HR2.out _ ya)).mono ?_
            rintro e w7 ⟨rfl, x7⟩
            have z7 := za.trans x7
            have y7 := X3.out.trans z7
            have BA7 := Lib.hid (BA.out.ext x7)
            clear q0 q1 q2 q3 q4 p0 p1 p2 x7 za ya BA
            obtain ⟨q0, q1, q2, q3, q4⟩ := HQ.out _ y7
            obtain ⟨p0, p1, p2⟩ := BA7.out.cell3
            go_wp2_with fail
            refine (HAO1.out _).mono ?_
            rintro e w8 ⟨rfl, x8⟩
            have z8 := z7.trans x8
            have y8 := X3.out.trans z8
            have p8 : w8.cell? ⟨w6.heap.size, 0, none⟩ = some (.int .i64 N) := (BA7.out.ext x8).cell 0
            clear q0 q1 q2 q3 q4 p0 p1 p2 x8 z7 y7 BA7
            obtain ⟨bs, os, rfl, hbs, hcs⟩ := (HR2.out _ y8).2 (by omega)
            have hc := hcs N hNn
            rw [hz] at hc
            have q4 := (HQ.out _ y8).2.2.2.2
            clear hcs hz hbs
            go_wp2
            go_roundw
            case rel => exact ⟨k + 1, by omega, by go_num, by rw [HNX.out], z8⟩
            case measure => simp [intOf]; omega
        · obtain rfl : k = 4 := by omega
          have yr := X3.out.trans xr
          obtain ⟨q0, q1, q2, q3, q4⟩ := HQ.out _ yr
          have hA := HAL.out
          rw [hA]
          generalize lineF a b c d = L at *
          go_wp2_with fail
          refine (HLC.out _).mono ?_
          rintro e w4 ⟨rfl, x4⟩
          have y4 := yr.trans x4
          clear q0 q1 q2 q3 q4
          obtain ⟨q0, q1, q2, q3, q4⟩ := HQ.out _ y4
          go_wp2_with fail
          refine (HIP.out _ (HR2.out _ y4)).mono ?_
          rintro e w5 ⟨rfl, x5⟩
          go_wp2
          go_ret
          exact ⟨rfl, (Y3.out.trans y4).trans x5⟩

end Go.Proofs.Ytlchejnjeeilpaa
