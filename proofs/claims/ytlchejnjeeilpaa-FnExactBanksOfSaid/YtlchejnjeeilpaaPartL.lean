/- The walks of FnExactPartitionOk and FnExactBanksOf. -/
import Derived.Test.YtlchejnjeeilpaaPartV
import Derived.Test.YtlchejnjeeilpaaPartO
namespace Go.Proofs.Ytlchejnjeeilpaa
open Go.RowKit
attribute [local go_sem ↓] Go.wp_at_zero Go.wp_at_succ

theorem Own.lt {w : World} {base : Nat} {g o : Nat} {s : Option Nat} {n cap : Nat} {zs : List Int} (h : Own w base (some ⟨g, o, none⟩) n cap zs) : base ≤ g ∧ g < w.heap.size := World.ownsRow.lt h g rfl
theorem Own.far {w : World} {base : Nat} {a : Option Addr} {n cap : Nat} {zs : List Int} (h : Own w base a n cap zs) : ∀ g o s, a = some ⟨g, o, s⟩ → base ≤ g := by
  intro g o s e
  subst e
  exact (World.ownsRow.lt h g rfl).1
theorem Own.apart {w w' : World} {base : Nat} {a : Option Addr} {g n cap : Nat} {zs : List Int} (h : Own w base a n cap zs) (t : Touch (some ⟨g, 0, none⟩) w w') (hg : g < base) : Own w' base a n cap zs := by
  refine World.ownsRow.kept h t ?_
  cases a with
  | none => exact .inl rfl
  | some p =>
    refine .inr (fun e => ?_)
    have h1 := (World.ownsRow.lt h p.block rfl).1
    injection e with e
    simp at e
    omega

set_option maxHeartbeats 4000000 in
theorem law_FnExactBanksOf (w : World) (a : Option Addr) (n c : Nat) (zs : List Int) (h0 : RowIs .i64 w w.heap.size a n zs) (hm : n ≤ maxLen) (t : Int) (_ : (Lit.int .i64 t).wf = true) : Calls Try.prog 9 #[.agg #[.slice a n c], .int .i64 t] w fun e w' => e = .returned (.bool true) ∧ Ext w w' := by
  have hr := h0.rd
  have hm' := hm
  unfold maxLen at hm'
  have b0 := Box.new w 44 #[.slice a n c]
  have p0 : (w.alloc (.cells #[.slice a n c] 44)).cell? ⟨w.heap.size, 0, none⟩ = some (.slice a n c) := b0.cell 0
  have y0 : Ext w (w.alloc (.cells #[.slice a n c] 44)) := (Ext.refl w).alloc _
  by_cases hbig : (1048576 : Int) < (n : Int)
  · have hz := fun w => sz_partition a n c 1048576 (by omega) (by omega) hm w
    rw [if_pos hbig] at hz
    go_enter Try.func9, Try.ntmps9
    go_wp2_with fail
    refine (hz _).mono ?_
    rintro e w1 ⟨rfl, x1⟩
    go_wp2
    go_ret
    exact ⟨rfl, y0.trans x1⟩
  · have hn : n ≤ 1048576 := by omega
    have hz := fun w => sz_partition a n c 1048576 (by omega) (by omega) hm w
    rw [if_neg hbig] at hz
    have hlen := banksL_len zs t n
    have HS := Lib.hid (fun (s : Option Addr) (cp : Nat) (w : World) (h : RD w s n zs) => spec_banksOf s n cp zs t w h hn)
    have HI := Lib.hid (fun (s : Option Addr) (cp : Nat) (w : World) (h : RD w s n zs) => impl_banksOf s n cp zs t w h hn)
    generalize hL : banksL zs t n = L at *
    generalize hM : L.length = m at *
    have HM := Lib.hid hM
    clear hL hM
    go_enter Try.func9, Try.ntmps9
    go_wp2_with fail
    refine (hz _).mono ?_
    rintro e w1 ⟨rfl, x1⟩
    have y1 := y0.trans x1
    have p1 : w1.cell? ⟨w.heap.size, 0, none⟩ = some (.slice a n c) := (b0.ext x1).cell 0
    have B1 := Lib.hid (b0.ext x1)
    clear hz p0 b0 x1 y0
    go_wp2_with fail
    refine (to_partition a n c zs _ (hr.ext y1) hn).mono ?_
    rintro e w2 ⟨g2, cp2, rfl, hg2, o2, x2⟩
    go_wp2_with fail
    refine (HS.out _ cp2 _ o2.rd).mono ?_
    rintro e w3 ⟨a3, c3, rfl, o3, x3⟩
    rw [HM.out] at o3 ⊢
    have y3 := (y1.trans x2).trans x3
    have B3 := Lib.hid (B1.out.ext (x2.trans x3))
    have p3 : w3.cell? ⟨w.heap.size, 0, none⟩ = some (.slice a n c) := B3.out.cell 0
    clear y1 x2 x3 B1 p1 o2 hg2
    go_wp2_with fail
    refine (to_partition a n c zs _ (hr.ext y3) hn).mono ?_
    rintro e w4 ⟨g4, cp4, rfl, hg4, o4, x4⟩
    have bX := Box.new w4 49 #[.slice (some ⟨g4, 0, none⟩) n cp4]
    have pX : (w4.alloc (.cells #[.slice (some ⟨g4, 0, none⟩) n cp4] 49)).cell? ⟨w4.heap.size, 0, none⟩ = some (.slice (some ⟨g4, 0, none⟩) n cp4) := bX.cell 0
    have z4 := x4.alloc (.cells #[.slice (some ⟨g4, 0, none⟩) n cp4] 49)
    have o4' := o4.ext ((Ext.refl w4).alloc (.cells #[.slice (some ⟨g4, 0, none⟩) n cp4] 49))
    have hlt4 := World.ownsRow.lt o4 g4 rfl
    go_wp2_with fail
    refine (HI.out _ cp4 _ o4'.rd).mono ?_
    rintro e w5 ⟨a5, c5, rfl, o5, x5⟩
    rw [HM.out] at o5 ⊢
    have z5 := z4.trans x5
    have o45 := o4'.ext x5
    have bX5 := bX.ext x5
    have hbase : (w4.alloc (.cells #[.slice (some ⟨g4, 0, none⟩) n cp4] 49)).heap.size = w4.heap.size + 1 := by simp
    rw [hbase] at o5
    clear bX pX z4 o4 o4' x4 x5 hbase
    go_wp2_with fail
    refine (eq_ints a5 a3 m c5 c3 L _ _ _ o5.reads (o3.ext z5).reads (by omega)).mono ?_
    rintro e w6 ⟨rfl, x6⟩
    have z6 := z5.trans x6
    have o56 := o5.ext x6
    have o46 := o45.ext x6
    have y6 := y3.trans z6
    have pX6 : w6.cell? ⟨w4.heap.size, 0, none⟩ = some (.slice (some ⟨g4, 0, none⟩) n cp4) := (bX5.ext x6).cell 0
    have p6 : w6.cell? ⟨w.heap.size, 0, none⟩ = some (.slice a n c) := (B3.out.ext z6).cell 0
    have BX := Lib.hid (bX5.ext x6)
    have B6 := Lib.hid (B3.out.ext z6)
    have O4 := Lib.hid o46
    have R6 := Lib.hid (hr.ext y6)
    clear o5 o45 z5 x6 bX5 p3
    go_upto_region 10 with (fail)
    have HB : Hid (∀ x, Ext w6 x → x.cell? ⟨w4.heap.size, 0, none⟩ = some (.slice (some ⟨g4, 0, none⟩) n cp4) ∧ x.cell? ⟨w.heap.size, 0, none⟩ = some (.slice a n c) ∧ Ext w6 x) := fun x hx => ⟨(BX.out.ext hx).cell 0, (B6.out.ext hx).cell 0, hx⟩
    have O5 := Lib.hid o56
    have O3 := Lib.hid o3
    have Z6 := Lib.hid z6
    have Y6 := Lib.hid y6
    clear o56 o46 o3 z6 y6
    go_cut [35] (fun s35 wx => s35 = .bool false ∧ Ext w6 wx)
    case first =>
      go_region_held3 (fun x => x.cell? ⟨w4.heap.size, 0, none⟩ = some (.slice (some ⟨g4, 0, none⟩) n cp4) ∧ x.cell? ⟨w.heap.size, 0, none⟩ = some (.slice a n c) ∧ Ext w6 x)
        (exact HB.out _ (by repeat (first | exact Ext.refl _ | assumption | refine Ext.alloc ?_ _ | refine Ext.drew ?_ | refine Ext.drewN ?_ _ | refine Ext.setCell ?_ (by first | exact Nat.le_refl _ | (simp; done) | (simp; omega) | omega) _ | (apply Ext.trans; rotate_left; assumption))))
        (first
          | (go_at_call 32; refine (to_partition a n c zs _ (R6.out.ext (by repeat (first | exact Ext.refl _ | assumption | refine Ext.alloc ?_ _ | refine Ext.drew ?_ | refine Ext.drewN ?_ _ | refine Ext.setCell ?_ (by first | exact Nat.le_refl _ | (simp; done) | (simp; omega) | omega) _ | (apply Ext.trans; rotate_left; assumption)))) hn).mono ?_; rintro e u1 ⟨g7, cp7, rfl, hg7, o7, v1⟩)
          | (go_at_call 34; refine (eq_partition _ _ n cp4 cp7 zs _ ((O4.out.ext (by repeat (first | exact Ext.refl _ | assumption | refine Ext.alloc ?_ _ | refine Ext.drew ?_ | refine Ext.drewN ?_ _ | refine Ext.setCell ?_ (by first | exact Nat.le_refl _ | (simp; done) | (simp; omega) | omega) _ | (apply Ext.trans; rotate_left; assumption)))).rd) o7.rd hm).mono ?_; rintro e u2 ⟨rfl, v2⟩))
      all_goals
        go_wp2_with fail
        go_meet
        exact ⟨rfl, (by repeat (first | exact Ext.refl _ | assumption | refine Ext.alloc ?_ _ | refine Ext.drew ?_ | refine Ext.drewN ?_ _ | refine Ext.setCell ?_ (by first | exact Nat.le_refl _ | (simp; done) | (simp; omega) | omega) _ | (apply Ext.trans; rotate_left; assumption)))⟩
    obtain ⟨rfl, x7⟩ := hcut
    obtain ⟨W7, rfl⟩ : ∃ x : World, x = wc := ⟨_, rfl⟩
    have p7 : W7.cell? ⟨w4.heap.size, 0, none⟩ = some (.slice (some ⟨g4, 0, none⟩) n cp4) := (BX.out.ext x7).cell 0
    go_wp2_with fail
    refine (mark_partition _ n cp4 w3.heap.size 1 zs _ (O4.out.ext x7) hm (by omega) (by omega)).mono ?_
    rintro e w8 ⟨rfl, t8⟩
    have z8 : Ext w3 w8 := Touch.toExt (Z6.out.trans x7) t8 (fun g o s e => by injection e with e; injection e with e1; omega)
    have o58 := (O5.out.ext x7).apart t8 (by omega)
    clear t8 x7 p7 pX6 p6
    go_wp2_with fail
    refine (eq_ints a5 a3 m c5 c3 L _ _ _ o58.reads (O3.out.ext z8).reads (by omega)).mono ?_
    rintro e w9 ⟨rfl, x9⟩
    go_wp2_with fail
    refine (mark_ints a5 m c5 _ 1 L _ (o58.ext x9) (by unfold maxLen; omega) (by omega) (by omega)).mono ?_
    rintro e w10 ⟨rfl, o510, t10⟩
    have z10 : Ext w3 w10 := Touch.toExt (z8.trans x9) t10 (fun g o s e => by have := o58.far g o s e; omega)
    have y10 := y3.trans z10
    have p10 : w10.cell? ⟨w.heap.size, 0, none⟩ = some (.slice a n c) := (B3.out.ext z10).cell 0
    clear t10 x9 z8 o58
    go_wp2_with fail
    refine (held_ints a5 m c5 1 _ _ o510.reads (by unfold maxLen; omega) (by omega) (by omega)).mono ?_
    rintro e w' ⟨rfl, rfl⟩
    go_wp2_with fail
    refine (to_partition a n c zs _ (hr.ext y10) hn).mono ?_
    rintro e w11 ⟨g11, cp11, rfl, hg11, o11, x11⟩
    go_wp2_with fail
    refine (HI.out _ cp11 _ o11.rd).mono ?_
    rintro e w12 ⟨a12, c12, rfl, o12, x12⟩
    rw [HM.out] at o12 ⊢
    have v12 := x11.trans x12
    go_wp2_with fail
    refine (eq_ints a12 a3 m c12 c3 L _ _ _ o12.reads (O3.out.ext (z10.trans v12)).reads (by omega)).mono ?_
    rintro e w13 ⟨rfl, x13⟩
    go_wp2_with fail
    refine (held_ints a5 m c5 1 _ _ (o510.ext (v12.trans x13)).reads (by unfold maxLen; omega) (by omega) (by omega)).mono ?_
    rintro e w' ⟨rfl, rfl⟩
    go_wp2
    go_ret
    exact ⟨rfl, (y10.trans v12).trans x13⟩

end Go.Proofs.Ytlchejnjeeilpaa
