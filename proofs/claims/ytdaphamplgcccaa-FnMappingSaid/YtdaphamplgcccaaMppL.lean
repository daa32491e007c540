/- The walk of FnMapping. -/
import Derived.Test.YtdaphamplgcccaaBatD
import Derived.Test.YtdaphamplgcccaaSprP
import Derived.Test.YtdaphamplgcccaaTouR
import Derived.Test.YtdaphamplgcccaaDrawP
set_option maxRecDepth 20000
namespace Go.Proofs.Ytdaphamplgcccaa
open Go.RowKit
attribute [local go_sem ↓] Go.wp_at_zero Go.wp_at_succ

set_option maxHeartbeats 8000000 in
theorem law_FnMapping (w : World) (a0 : Option Addr) (n0 c0 : Nat) (z0 : List Int) (r0 : RowIs .u8 w w.heap.size a0 n0 z0) (m0 : n0 ≤ maxLen) : Calls Try.prog 13 #[.slice a0 n0 c0] w fun e w' => e = .returned (.bool true) ∧ Ext w w' := by
  have m1 := m0
  unfold maxLen at m1
  by_cases hbig : (1048576 : Int) < (n0 : Int)
  · go_enter Try.func13, Try.ntmps13
    go_wp2
    go_ret
    exact ⟨rfl, (by repeat (first | exact Ext.refl _ | assumption | refine Ext.alloc ?_ _ | refine Ext.drew ?_ | refine Ext.drewN ?_ _ | refine Ext.setCell ?_ (by first | exact Nat.le_refl _ | (simp; done) | (simp; omega) | omega) _ | (apply Ext.trans; rotate_left; assumption)))⟩
  · go_enter Try.func13, Try.ntmps13
    go_wp2_with (first | (go_at_call 36; go_in))
    refine (draw_batch a0 n0 c0 z0 _ r0 m0).mono ?_
    rintro e w1 ⟨a, b, c, d, o, hb, s, n, cp, l, q, m, cq, hG, ho, rfl, y1⟩
    have bg := ((Box.new w1 25 #[.int .i64 a, .int .i64 b, .int .i64 c, .int .i64 d]).alloc (.cells #[.int .i64 o, .bool hb] 43)).alloc (.cells #[.slice s n cp, .int .i64 l] 55)
    have bm := (Box.new_at (w1.alloc (.cells #[.int .i64 a, .int .i64 b, .int .i64 c, .int .i64 d] 25)) 43 #[.int .i64 o, .bool hb] (w1.heap.size + 1) (by simp)).alloc (.cells #[.slice s n cp, .int .i64 l] 55)
    have y2 : Ext w (((w1.alloc (.cells #[.int .i64 a, .int .i64 b, .int .i64 c, .int .i64 d] 25)).alloc (.cells #[.int .i64 o, .bool hb] 43)).alloc (.cells #[.slice s n cp, .int .i64 l] 55)) := ((y1.alloc _).alloc _).alloc _
    have BG := Lib.hid bg
    have BM := Lib.hid bm
    have R0 := Lib.hid r0
    clear bg bm r0
    have hg := hG.ok
    have hLr := line_range hg
    have HLC := Lib.hid (fun w => spec_lineCount a b c d w)
    rw [lineF_yes hg] at HLC
    have HMY := Lib.hid (fun l0 w (hB : mapB a b c d o l0 = true) => impl_mapLine_yes a b c d o l0 hb hB w)
    have hob : btw o 0 2 = true := btw_true (by omega) (by omega)
    have HMB : Hid (∀ l0, 0 ≤ l0 → l0 < a * b * c * d → mapB a b c d o l0 = true) := fun l0 h0 h1 => by
      rw [mapB, hob, Bool.true_and, lineF_yes hg]; exact btw_true h0 (by omega)
    have HMF := Lib.hid (fun l0 h0 h1 => map_facts (o := o) (h := hb) (l := l0) hg ho h0 h1)
    have HMD := Lib.hid (fun l0 l1 h0 h1 k0 k1 hne => map_differ (o := o) (h := hb) (l := l0) (l' := l1) hg h0 h1 k0 k1 hne)
    have HLO := Lib.hid (fun x y z w => impl_lineOf a b c d o hb x y z w)
    have HLF : Hid (∀ x y z, addrB a b c d x y z = true → lineOfF a b c d o hb x y z = lineM (a * b) c d o hb (x, y, z)) := fun x y z h => by rw [lineOfF, h, hob]; rfl
    have HAO := Lib.hid (fun x y z w => spec_addrOk a b c d x y z w)
    have HMO := Lib.hid (fun w => impl_mappingOk o hb w)
    rw [hob] at HMO
    clear hG hg ho hob
    go_wp2_with fail
    refine (draw_places a0 n0 c0 z0 _ ((y2.row R0.out (Nat.le_refl _)).more y2.le) m0).mono ?_
    rintro e w2 ⟨gp, cpp, ps, hpl, hpr, rfl, hpc, -, hgp, x2⟩
    have p0 := hpc 0 (by omega)
    have p1 := hpc 1 (by omega)
    have r0 : 0 ≤ ps.getD 0 0 ∧ ps.getD 0 0 < 10000 := hpr _ (by rw [List.getD_eq_getElem?_getD, List.getElem?_eq_getElem (by omega)]; exact List.getElem_mem _)
    have r1 : 0 ≤ ps.getD 1 0 ∧ ps.getD 1 0 < 10000 := hpr _ (by rw [List.getD_eq_getElem?_getD, List.getElem?_eq_getElem (by omega)]; exact List.getElem_mem _)
    generalize ps.getD 0 0 = P0 at *
    generalize ps.getD 1 0 = P1 at *
    have HQ : Hid (∀ x, Ext w2 x → (x.cell? ⟨w1.heap.size, 0, none⟩ = some (.int .i64 a) ∧ x.cell? ⟨w1.heap.size, 1, none⟩ = some (.int .i64 b) ∧ x.cell? ⟨w1.heap.size, 2, none⟩ = some (.int .i64 c) ∧ x.cell? ⟨w1.heap.size, 3, none⟩ = some (.int .i64 d)) ∧ (x.cell? ⟨w1.heap.size + 1, 0, none⟩ = some (.int .i64 o) ∧ x.cell? ⟨w1.heap.size + 1, 1, none⟩ = some (.bool hb)) ∧ x.cell? ⟨gp, 0, none⟩ = some (.int .i64 P0) ∧ x.cell? ⟨gp, 1, none⟩ = some (.int .i64 P1)) := fun x hx =>
      ⟨(BG.out.ext (x2.trans hx)).cell4, (BM.out.ext (x2.trans hx)).cell2, (hx.cell hgp 0).trans p0, (hx.cell hgp 1).trans p1⟩
    have Y2 := Lib.hid (y2.trans x2)
    clear hpl hpr hpc hgp x2 y2 y1 R0 BG BM p0 p1
    generalize a * b * c * d = L at *
    have hL0 : ¬ L = 0 := by omega
    have hLb : (L == 0) = false := beq_eq_false_iff_ne.2 hL0
    have T0 : P0.tmod L = P0 % L := Int.tmod_eq_emod_of_nonneg r0.1
    have T1 : P1.tmod L = P1 % L := Int.tmod_eq_emod_of_nonneg r1.1
    have u0 : 0 ≤ P0 % L := Int.emod_nonneg _ hL0
    have u1 : P0 % L < L := Int.emod_lt_of_pos _ (by omega)
    have v0 : 0 ≤ P1 % L := Int.emod_nonneg _ hL0
    have v1 : P1 % L < L := Int.emod_lt_of_pos _ (by omega)
    have E0 : IntKind.i64.wrap (P0 % L) = P0 % L := by rw [IntKind.wrap_i64]; omega
    have E1 : IntKind.i64.wrap (P1 % L) = P1 % L := by rw [IntKind.wrap_i64]; omega
    go_upto_region 5 with (fail)
    obtain ⟨⟨q0, q1, q2, q3⟩, -, q6, q7⟩ := HQ.out _ (Ext.refl w2)
    go_cut [8] (fun s8 wx => s8 = .int .i64 (P0 % L) ∧ Ext w2 wx)
    case first =>
      go_region_law (first
        | (go_simp; go_at_call 19; refine (HLC.out _).mono ?_; rintro e k1 ⟨rfl, z1⟩; have c6 := (HQ.out _ ((Ext.refl w2).drew.trans z1)).2.2.1))
      all_goals
        go_wp2_with fail
        go_meet
        exact ⟨by first | rfl | (rw [T0]; first | rfl | rw [E0]), (Ext.refl w2).drew.trans z1⟩
    obtain ⟨rfl, x3⟩ := hcut
    obtain ⟨W3, rfl⟩ : ∃ x : World, x = wc := ⟨_, rfl⟩
    clear q0 q1 q2 q3 q6 q7
    go_upto_region 6 with (fail)
    obtain ⟨⟨q0, q1, q2, q3⟩, -, q6, q7⟩ := HQ.out _ x3
    go_cut [9] (fun s9 wx => s9 = .int .i64 (P1 % L) ∧ Ext w2 wx)
    case first =>
      go_region_law (first
        | (go_simp; go_at_call 19; refine (HLC.out _).mono ?_; rintro e k1 ⟨rfl, z1⟩; have c7 := (HQ.out _ (x3.drew.trans z1)).2.2.2))
      all_goals
        go_wp2_with fail
        go_meet
        exact ⟨by first | rfl | (rw [T1]; first | rfl | rw [E1]), x3.drew.trans z1⟩
    obtain ⟨rfl, x4⟩ := hcut
    obtain ⟨W4, rfl⟩ : ∃ x : World, x = wc := ⟨_, rfl⟩
    clear q0 q1 q2 q3 q6 q7 T0 T1 E0 E1 x3
    have HA1 := HMF.out (P0 % L) u0 u1
    have HB0 := Lib.hid (fun w => HMY.out (P0 % L) w (HMB.out _ u0 u1))
    have HB1 := Lib.hid (fun w => HMY.out (P1 % L) w (HMB.out _ v0 v1))
    have HDF := Lib.hid (fun hne => HMD.out (P0 % L) (P1 % L) u0 u1 v0 v1 hne)
    have HEQ : Hid (P0 % L = P1 % L → mapM (a * b) c d o hb (P0 % L) = mapM (a * b) c d o hb (P1 % L)) := fun h => by rw [h]
    generalize mapM (a * b) c d o hb (P0 % L) = X at *
    generalize mapM (a * b) c d o hb (P1 % L) = X' at *
    obtain ⟨x0, x1, x2⟩ := X
    obtain ⟨x0', x1', x2'⟩ := X'
    obtain ⟨ha, hlm⟩ := HA1
    have HAO1 := Lib.hid (fun w => HAO.out x0 x1 x2 w)
    have ha' : addrB a b c d x0 x1 x2 = true := ha
    rw [ha'] at HAO1
    have HLO1 := Lib.hid (fun w => HLO.out x0 x1 x2 w)
    have hlm' : lineOfF a b c d o hb x0 x1 x2 = P0 % L := (HLF.out _ _ _ ha').trans hlm
    rw [hlm'] at HLO1
    generalize P0 % L = l0 at *
    generalize P1 % L = l1 at *
    clear ha ha' hlm hlm' HMF HMD HMY HMB HLO HLF HAO
    obtain ⟨⟨q0, q1, q2, q3⟩, ⟨q4, q5⟩, -⟩ := HQ.out _ x4
    go_wp2_with fail
    refine (HB0.out _).mono ?_
    rintro e w5 ⟨rfl, z5⟩
    have bx := Box.new w5 33 #[.int .i64 x0, .int .i64 x1, .int .i64 x2]
    have y5 := (x4.trans z5).alloc (.cells #[.int .i64 x0, .int .i64 x1, .int .i64 x2] 33)
    clear q0 q1 q2 q3 q4 q5 z5 x4
    obtain ⟨⟨q0, q1, q2, q3⟩, ⟨q4, q5⟩, -⟩ := HQ.out _ y5
    go_wp2_with fail
    refine (HB1.out _).mono ?_
    rintro e w6 ⟨rfl, z6⟩
    have by' := Box.new w6 33 #[.int .i64 x0', .int .i64 x1', .int .i64 x2']
    have bx6 := (bx.ext z6).alloc (.cells #[.int .i64 x0', .int .i64 x1', .int .i64 x2'] 33)
    have y6 := (y5.trans z6).alloc (.cells #[.int .i64 x0', .int .i64 x1', .int .i64 x2'] 33)
    have BX := Lib.hid bx6
    have BY := Lib.hid by'
    obtain ⟨t0, t1, t2⟩ := bx6.cell3
    clear q0 q1 q2 q3 q4 q5 z6 y5 bx by' bx6
    obtain ⟨⟨q0, q1, q2, q3⟩, ⟨q4, q5⟩, -⟩ := HQ.out _ y6
    go_wp2_with fail
    refine (HAO1.out _).mono ?_
    rintro e w7 ⟨rfl, z7⟩
    have y7 := y6.trans z7
    have BX7 := Lib.hid (BX.out.ext z7)
    have BY7 := Lib.hid (BY.out.ext z7)
    clear q0 q1 q2 q3 q4 q5 t0 t1 t2 z7 y6 BX BY
    obtain ⟨t0, t1, t2⟩ := BX7.out.cell3
    obtain ⟨⟨q0, q1, q2, q3⟩, ⟨q4, q5⟩, -⟩ := HQ.out _ y7
    go_wp2_with fail
    refine (HLO1.out _).mono ?_
    rintro e w8 ⟨rfl, z8⟩
    have y8 := y7.trans z8
    have t8 := (BX7.out.ext z8).cell3
    have s8 := (BY7.out.ext z8).cell3
    clear q0 q1 q2 q3 q4 q5 t0 t1 t2 z8 y7 BX7 BY7
    obtain ⟨t0, t1, t2⟩ := t8
    obtain ⟨s0, s1, s2⟩ := s8
    obtain ⟨-, ⟨q4, q5⟩, -⟩ := HQ.out _ y8
    by_cases hne : l0 = l1
    · have he := HEQ.out hne
      simp only [Prod.mk.injEq] at he
      obtain ⟨rfl, rfl, rfl⟩ := he
      subst hne
      go_wp2_with fail
      refine (HMO.out _).mono ?_
      rintro e w9 ⟨rfl, z9⟩
      go_wp2
      go_ret
      exact ⟨rfl, (Y2.out.trans y8).trans z9⟩
    · have hd := HDF.out hne
      have hnb : (l0 == l1) = false := beq_eq_false_iff_ne.2 hne
      clear HEQ HDF
      by_cases h0 : x0 = x0'
      · by_cases h1 : x1 = x1'
        · have h2 : ¬ x2 = x2' := fun h2 => hd ⟨h0, h1, h2⟩
          subst h0
          subst h1
          have hb2 : (x2 == x2') = false := beq_eq_false_iff_ne.2 h2
          clear hd
          go_wp2_with fail
          refine (HMO.out _).mono ?_
          rintro e w9 ⟨rfl, z9⟩
          go_wp2
          go_ret
          exact ⟨rfl, (Y2.out.trans y8).trans z9⟩
        · subst h0
          have hb1 : (x1 == x1') = false := beq_eq_false_iff_ne.2 h1
          clear hd
          go_wp2_with fail
          refine (HMO.out _).mono ?_
          rintro e w9 ⟨rfl, z9⟩
          go_wp2
          go_ret
          exact ⟨rfl, (Y2.out.trans y8).trans z9⟩
      · have hb0 : (x0 == x0') = false := beq_eq_false_iff_ne.2 h0
        clear hd
        go_wp2_with fail
        refine (HMO.out _).mono ?_
        rintro e w9 ⟨rfl, z9⟩
        go_wp2
        go_ret
        exact ⟨rfl, (Y2.out.trans y8).trans z9⟩

end Go.Proofs.Ytdaphamplgcccaa
