/- Contracts of slices.Index and of TenantLine of both sides. -/
import Derived.Test.YtlchejnjeeilpaaPartT
import Derived.Test.YtlchejnjeeilpaaGeoF
import Derived.Deep.RegionHeld3
import Derived.Deep.DeepCutAuto
namespace Go.Proofs.Ytlchejnjeeilpaa
open Go.RowKit
attribute [local go_sem ↓] Go.wp_at_zero Go.wp_at_succ

/-- an address of a partition in order -/
def tlB (a b c d : Int) (zs : List Int) (x y z : Int) : Bool := partB a b c d zs && addrB a b c d x y z

theorem index_at (g m cp : Nat) (L : List Int) (v : Int) (j : Nat) (hj : j < m) (hm : m ≤ 8) (hat : L.getD j 0 = v) (hb : ∀ i, i < j → L.getD i 0 ≠ v) (w : World) (hr : ∀ i, i < m → w.cell? ⟨g, i, none⟩ = some (.int .i64 (L.getD i 0))) : Calls Try.prog 63 #[.slice (some ⟨g, 0, none⟩) m cp, .int .i64 v] w fun e w' => e = .returned (.int .i64 j) ∧ w' = w := by
  have HR := Lib.hid hr
  have HA := Lib.hid hat
  have HB := Lib.hid hb
  clear hr hat hb
  go_enter Try.func63, Try.ntmps63
  go_wp2
  go_loop [8] (fun i => ∃ k : Nat, k ≤ j ∧ i = .int .i64 k)
    (fun i => m - (intOf i).toNat)
  case atStart => exact ⟨0, Nat.zero_le _, rfl⟩
  case round =>
    obtain ⟨k, hk, rfl⟩ := hrel
    have hkm : k < m := by omega
    have hkI : (k : Int) < m := by omega
    have hc := HR.out k hkm
    by_cases hkj : k = j
    · subst hkj
      rw [HA.out] at hc
      go_wp2
      go_ret
      exact ⟨rfl, rfl⟩
    · have hne : (v == L.getD k 0) = false := by rw [beq_eq_false_iff_ne]; exact fun h => HB.out k (by omega) h.symm
      generalize L.getD k 0 = z at *
      go_wp2
      go_round
      case rel => exact ⟨k + 1, by omega, by go_num⟩
      case measure => simp [intOf]; omega

set_option maxHeartbeats 2000000 in
theorem spec_tenLine_no (a b c d x y z : Int) (s : Option Addr) (n cp : Nat) (zs : List Int) (w : World) (hr : RD w s n zs) (hm : n ≤ maxLen) (hB : tlB a b c d zs x y z = false) : Calls Try.prog 45 #[.agg #[.int .i64 a, .int .i64 b, .int .i64 c, .int .i64 d], .agg #[.slice s n cp], .agg #[.int .i64 x, .int .i64 y, .int .i64 z]] w fun e w' => e = .returned (.tuple #[.int .i64 0, .int .i64 0, .bool false]) ∧ Ext w w' := by
  have x0 : Ext w (((w.alloc (.cells #[.int .i64 a, .int .i64 b, .int .i64 c, .int .i64 d] 47)).alloc (.cells #[.slice s n cp] 49)).alloc (.cells #[.int .i64 x, .int .i64 y, .int .i64 z] 60)) := (((Ext.refl w).alloc _).alloc _).alloc _
  have b0 := ((Box.new w 47 #[.int .i64 a, .int .i64 b, .int .i64 c, .int .i64 d]).alloc (.cells #[.slice s n cp] 49)).alloc (.cells #[.int .i64 x, .int .i64 y, .int .i64 z] 60)
  have b1 := (Box.new_at (w.alloc (.cells #[.int .i64 a, .int .i64 b, .int .i64 c, .int .i64 d] 47)) 49 #[.slice s n cp] (w.heap.size + 1) (by simp)).alloc (.cells #[.int .i64 x, .int .i64 y, .int .i64 z] 60)
  have b2 := Box.new_at ((w.alloc (.cells #[.int .i64 a, .int .i64 b, .int .i64 c, .int .i64 d] 47)).alloc (.cells #[.slice s n cp] 49)) 60 #[.int .i64 x, .int .i64 y, .int .i64 z] (w.heap.size + 1 + 1) (by simp)
  have r0 := hr.ext x0
  have RP := Lib.hid (fun w h => spec_partitionOk a b c d s n cp zs w h hm)
  have RA := Lib.hid (fun w => spec_addrOk a b c d x y z w)
  unfold tlB at hB
  cases hP : partB a b c d zs with
  | false =>
    rw [hP] at RP
    clear RA hB
    go_enter Try.func45, Try.ntmps45
    go_wp2_with fail
    refine (RP.out _ r0).mono ?_
    rintro e u1 ⟨rfl, v1⟩
    have x3 := x0.trans v1
    clear b0 b1 b2 r0 x0 v1
    go_wp2
    exact bodyPost_ret (v := .tuple #[.int .i64 0, .int .i64 0, .bool false]) (by simp [results, Try.results45, go_sem]) rfl ⟨rfl, x3⟩
  | true =>
    rw [hP] at RP hB
    rw [Bool.true_and] at hB
    rw [hB] at RA
    clear hB
    go_enter Try.func45, Try.ntmps45
    go_wp2_with fail
    refine (RP.out _ r0).mono ?_
    rintro e u1 ⟨rfl, v1⟩
    have b0 := b0.ext v1
    have b1 := b1.ext v1
    have b2 := b2.ext v1
    have r0 := r0.ext v1
    have x0 := x0.trans v1
    have p1 := b1.cell 0
    obtain ⟨g0, g1, g2, g3⟩ := b0.cell4
    obtain ⟨e0, e1, e2⟩ := b2.cell3
    clear v1
    go_wp2_with fail
    refine (RA.out _).mono ?_
    rintro e w1 ⟨rfl, x1⟩
    have y1 := x0.trans x1
    clear p1 g0 g1 g2 g3 e0 e1 e2 b0 b1 b2 r0 x0 x1
    go_wp2
    exact bodyPost_ret (v := .tuple #[.int .i64 0, .int .i64 0, .bool false]) (by simp [results, Try.results45, go_sem]) rfl ⟨rfl, y1⟩

set_option maxHeartbeats 4000000 in
theorem spec_tenLine_yes (a b c d x y z : Int) (s : Option Addr) (n cp : Nat) (zs : List Int) (w : World) (hr : RD w s n zs) (hm : n ≤ maxLen) (hB : tlB a b c d zs x y z = true) : Calls Try.prog 45 #[.agg #[.int .i64 a, .int .i64 b, .int .i64 c, .int .i64 d], .agg #[.slice s n cp], .agg #[.int .i64 x, .int .i64 y, .int .i64 z]] w fun e w' => e = .returned (.tuple #[.int .i64 (zs.getD x.toNat 0), .int .i64 (backL d zs x.toNat y z), .bool true]) ∧ Ext w w' := by
  unfold tlB at hB
  obtain ⟨hP, hA⟩ := Bool.and_eq_true_iff.1 hB
  obtain ⟨hg, hx, hy, hz⟩ := addrB_iff.1 hA
  have hgi := geoB_iff.1 hg
  obtain ⟨hc, hd⟩ : (2 ≤ c ∧ c ≤ 16) ∧ (1 ≤ d ∧ d ≤ 8) := ⟨hgi.2.2.1, hgi.2.2.2⟩
  have hn8 := part_len hP
  have hnb := (partB_iff.1 hP).2.2
  rw [bankF_yes hg] at hnb
  have hl := hr.1
  rw [hl] at hn8 hnb
  obtain ⟨bk, rfl⟩ := Int.eq_ofNat_of_zero_le hx.1
  have hbn : bk < n := by omega
  rw [Int.toNat_natCast]
  have RP := Lib.hid (fun w h => spec_partitionOk a b c d s n cp zs w h hm)
  have RA := Lib.hid (fun w => spec_addrOk a b c d (bk : Int) y z w)
  rw [hP] at RP
  rw [hA] at RA
  have HL := Lib.hid (fun (w : World) (h : RD w s n zs) => spec_banksOf s n cp zs (zs.getD bk 0) w h (by omega))
  have hp1 := placeL_lt zs bk n hbn
  have hp2 := placeL_at zs bk n hbn
  have hp3 := placeL_first zs bk n hbn
  have hlen := banksL_len zs (zs.getD bk 0) n
  unfold backL
  rw [hl]
  obtain ⟨T, hT⟩ : ∃ T, zs.getD bk 0 = T := ⟨_, rfl⟩
  rw [hT] at HL hp1 hp2 hp3 hlen ⊢
  generalize banksL zs T n = L at *
  obtain ⟨m, hM⟩ : ∃ m, L.length = m := ⟨_, rfl⟩
  rw [hM] at hp1 hlen ⊢
  have HM := Lib.hid hM
  generalize placeL zs bk = j at *
  have HP2 := Lib.hid hp2
  have HP3 := Lib.hid hp3
  have HT := Lib.hid hT
  have k0 : 0 ≤ y * d := Int.mul_nonneg hy.1 (by omega)
  have k1 : y * d ≤ 15 * 8 := Int.mul_le_mul (by omega) hd.2 (by omega) (by omega)
  have k2 : 0 ≤ (y * d + z) * (m : Int) := Int.mul_nonneg (by omega) (by omega)
  have k3 : (y * d + z) * (m : Int) ≤ 127 * 8 := Int.mul_le_mul (by omega) (by omega) (by omega) (by omega)
  have W1 : IntKind.i64.wrap (y * d) = y * d := by rw [IntKind.wrap_i64]; omega
  have W2 : IntKind.i64.wrap (y * d + z) = y * d + z := by rw [IntKind.wrap_i64]; omega
  have W3 : IntKind.i64.wrap ((y * d + z) * (m : Int)) = (y * d + z) * (m : Int) := by rw [IntKind.wrap_i64]; omega
  have W4 : IntKind.i64.wrap ((y * d + z) * (m : Int) + (j : Int)) = (y * d + z) * (m : Int) + (j : Int) := by rw [IntKind.wrap_i64]; omega
  have hxb : (0 : Int) ≤ (bk : Int) := by omega
  have hxn : (bk : Int) < (n : Int) := by omega
  obtain ⟨sb, so, rfl, -, -⟩ := hr.2 (by omega)
  have HK := Lib.hid (fun (w' : World) (x : Ext w w') => show w'.cell? ⟨sb, so + bk, none⟩ = some (.int .i64 T) by
    obtain ⟨sb2, so2, e, -, hc⟩ := (hr.ext x).2 (by omega)
    simp at e
    obtain ⟨rfl, rfl⟩ := e
    rw [← HT.out]
    exact hc bk hbn)
  clear hp2 hp3 hM hT hg hgi hP hA hB hnb

  have x0 : Ext w (((w.alloc (.cells #[.int .i64 a, .int .i64 b, .int .i64 c, .int .i64 d] 47)).alloc (.cells #[.slice (some ⟨sb, so, none⟩) n cp] 49)).alloc (.cells #[.int .i64 (bk : Int), .int .i64 y, .int .i64 z] 60)) := (((Ext.refl w).alloc _).alloc _).alloc _
  have b0 := ((Box.new w 47 #[.int .i64 a, .int .i64 b, .int .i64 c, .int .i64 d]).alloc (.cells #[.slice (some ⟨sb, so, none⟩) n cp] 49)).alloc (.cells #[.int .i64 (bk : Int), .int .i64 y, .int .i64 z] 60)
  have b1 := (Box.new_at (w.alloc (.cells #[.int .i64 a, .int .i64 b, .int .i64 c, .int .i64 d] 47)) 49 #[.slice (some ⟨sb, so, none⟩) n cp] (w.heap.size + 1) (by simp)).alloc (.cells #[.int .i64 (bk : Int), .int .i64 y, .int .i64 z] 60)
  have b2 := Box.new_at ((w.alloc (.cells #[.int .i64 a, .int .i64 b, .int .i64 c, .int .i64 d] 47)).alloc (.cells #[.slice (some ⟨sb, so, none⟩) n cp] 49)) 60 #[.int .i64 (bk : Int), .int .i64 y, .int .i64 z] (w.heap.size + 1 + 1) (by simp)
  have r0 := hr.ext x0
  go_enter Try.func45, Try.ntmps45
  go_wp2_with fail
  refine (RP.out _ r0).mono ?_
  rintro e u1 ⟨rfl, v1⟩
  have b0 := b0.ext v1
  have b1 := b1.ext v1
  have b2 := b2.ext v1
  have r0 := r0.ext v1
  have x0 := x0.trans v1
  have p1 := b1.cell 0
  obtain ⟨g0, g1, g2, g3⟩ := b0.cell4
  obtain ⟨e0, e1, e2⟩ := b2.cell3
  clear v1
  go_wp2_with fail
  refine (RA.out _).mono ?_
  rintro e u2 ⟨rfl, v1⟩
  clear p1 g0 g1 g2 g3 e0 e1 e2
  have b0 := b0.ext v1
  have b1 := b1.ext v1
  have b2 := b2.ext v1
  have r0 := r0.ext v1
  have x0 := x0.trans v1
  have p1 := b1.cell 0
  obtain ⟨g0, g1, g2, g3⟩ := b0.cell4
  obtain ⟨e0, e1, e2⟩ := b2.cell3
  have hck := HK.out _ x0
  clear v1
  go_wp2_with fail
  refine (HL.out _ r0).mono ?_
  rintro e w3 ⟨a3, c3, rfl, o3, x3⟩
  rw [HM.out] at o3 ⊢
  obtain ⟨g, rfl, hg0, hg1⟩ := o3.form (by omega)
  have rL : Hid (∀ i, i < m → w3.cell? ⟨g, i, none⟩ = some (.int .i64 (L.getD i 0))) := fun i hi => o3.at hi
  have y3 := x0.trans x3
  have d3 : w3.cell? ⟨w.heap.size, 3, none⟩ = some (.int .i64 d) := (b0.ext x3).cell 3
  obtain ⟨f0, f1, f2⟩ := (b2.ext x3).cell3
  have hsz3 := (b2.ext x3).lt
  clear p1 g0 g1 g2 g3 e0 e1 e2 hck b0 b1 b2 x0 x3 r0 o3
  go_wp2
  go_loopw [11] (fun i wr => ∃ k : Nat, k ≤ j ∧ i = .int .i64 k ∧ Ext w3 wr)
    (fun i _ => m - (intOf i).toNat)
  case atStart => exact ⟨0, Nat.zero_le _, rfl, Ext.refl _⟩
  case round =>
    obtain ⟨k, hk, rfl, xr⟩ := hrel
    have hkm : k < m := by omega
    have hkI : (k : Int) < m := by omega
    have hcc := (xr.cell hg1 k).trans (rL.out k hkm)
    have d4 := (xr.cell (show w.heap.size < w3.heap.size by omega) 3).trans d3
    have h0 := (xr.cell (show w.heap.size + 1 + 1 < w3.heap.size by omega) 0).trans f0
    have h1 := (xr.cell (show w.heap.size + 1 + 1 < w3.heap.size by omega) 1).trans f1
    have h2 := (xr.cell (show w.heap.size + 1 + 1 < w3.heap.size by omega) 2).trans f2
    have y4 := y3.trans xr
    clear d3 f0 f1 f2 y3
    by_cases hkj : k = j
    · subst hkj
      rw [HP2.out] at hcc
      go_wp2
      go_region
      go_wp2
      go_region
      go_wp2
      exact bodyPost_ret (v := .tuple #[.int .i64 T, .int .i64 ((y * d + z) * (m : Int) + (k : Int)), .bool true]) (by simp [results, Try.results45, go_sem]) rfl ⟨rfl, (by repeat (first | exact Ext.refl _ | assumption | refine Ext.alloc ?_ _ | refine Ext.drew ?_ | refine Ext.drewN ?_ _ | refine Ext.setCell ?_ (by first | exact Nat.le_refl _ | (simp; done) | (simp; omega) | omega) _ | (apply Ext.trans; rotate_left; assumption)))⟩
    · have hne : (L.getD k 0 != (bk : Int)) = true := by rw [bne_iff_ne]; exact HP3.out k (by omega)
      generalize L.getD k 0 = v at *
      go_wp2
      go_region
      go_wp2
      go_roundw
      case rel => exact ⟨k + 1, by omega, by go_num, (by repeat (first | exact Ext.refl _ | assumption | refine Ext.alloc ?_ _ | refine Ext.drew ?_ | refine Ext.drewN ?_ _ | refine Ext.setCell ?_ (by first | exact Nat.le_refl _ | (simp; done) | (simp; omega) | omega) _ | (apply Ext.trans; rotate_left; assumption)))⟩
      case measure => simp [intOf]; omega

set_option maxHeartbeats 2000000 in
theorem impl_tenLine_no (a b c d x y z : Int) (s : Option Addr) (n cp : Nat) (zs : List Int) (w : World) (hr : RD w s n zs) (hm : n ≤ maxLen) (hB : tlB a b c d zs x y z = false) : Calls Try.prog 47 #[.agg #[.int .i64 a, .int .i64 b, .int .i64 c, .int .i64 d], .agg #[.slice s n cp], .agg #[.int .i64 x, .int .i64 y, .int .i64 z]] w fun e w' => e = .returned (.tuple #[.int .i64 0, .int .i64 0, .bool false]) ∧ Ext w w' := by
  have x0 : Ext w (((w.alloc (.cells #[.int .i64 a, .int .i64 b, .int .i64 c, .int .i64 d] 47)).alloc (.cells #[.slice s n cp] 49)).alloc (.cells #[.int .i64 x, .int .i64 y, .int .i64 z] 60)) := (((Ext.refl w).alloc _).alloc _).alloc _
  have b0 := ((Box.new w 47 #[.int .i64 a, .int .i64 b, .int .i64 c, .int .i64 d]).alloc (.cells #[.slice s n cp] 49)).alloc (.cells #[.int .i64 x, .int .i64 y, .int .i64 z] 60)
  have b1 := (Box.new_at (w.alloc (.cells #[.int .i64 a, .int .i64 b, .int .i64 c, .int .i64 d] 47)) 49 #[.slice s n cp] (w.heap.size + 1) (by simp)).alloc (.cells #[.int .i64 x, .int .i64 y, .int .i64 z] 60)
  have b2 := Box.new_at ((w.alloc (.cells #[.int .i64 a, .int .i64 b, .int .i64 c, .int .i64 d] 47)).alloc (.cells #[.slice s n cp] 49)) 60 #[.int .i64 x, .int .i64 y, .int .i64 z] (w.heap.size + 1 + 1) (by simp)
  have r0 := hr.ext x0
  have RP := Lib.hid (fun w h => impl_partitionOk a b c d s n cp zs w h hm)
  have RA := Lib.hid (fun w => impl_addrOk a b c d x y z w)
  unfold tlB at hB
  cases hP : partB a b c d zs with
  | false =>
    rw [hP] at RP
    clear RA hB
    go_enter Try.func47, Try.ntmps47
    go_wp2_with fail
    refine (RP.out _ r0).mono ?_
    rintro e u1 ⟨rfl, v1⟩
    have x3 := x0.trans v1
    clear b0 b1 b2 r0 x0 v1
    go_wp2
    exact bodyPost_ret (v := .tuple #[.int .i64 0, .int .i64 0, .bool false]) (by simp [results, Try.results47, go_sem]) rfl ⟨rfl, x3⟩
  | true =>
    rw [hP] at RP hB
    rw [Bool.true_and] at hB
    rw [hB] at RA
    clear hB
    go_enter Try.func47, Try.ntmps47
    go_wp2_with fail
    refine (RP.out _ r0).mono ?_
    rintro e u1 ⟨rfl, v1⟩
    have b0 := b0.ext v1
    have b1 := b1.ext v1
    have b2 := b2.ext v1
    have r0 := r0.ext v1
    have x0 := x0.trans v1
    have p1 := b1.cell 0
    obtain ⟨g0, g1, g2, g3⟩ := b0.cell4
    obtain ⟨e0, e1, e2⟩ := b2.cell3
    clear v1
    go_wp2_with fail
    refine (RA.out _).mono ?_
    rintro e w1 ⟨rfl, x1⟩
    have y1 := x0.trans x1
    clear p1 g0 g1 g2 g3 e0 e1 e2 b0 b1 b2 r0 x0 x1
    go_wp2
    exact bodyPost_ret (v := .tuple #[.int .i64 0, .int .i64 0, .bool false]) (by simp [results, Try.results47, go_sem]) rfl ⟨rfl, y1⟩

set_option maxHeartbeats 4000000 in
theorem impl_tenLine_yes (a b c d x y z : Int) (s : Option Addr) (n cp : Nat) (zs : List Int) (w : World) (hr : RD w s n zs) (hm : n ≤ maxLen) (hB : tlB a b c d zs x y z = true) : Calls Try.prog 47 #[.agg #[.int .i64 a, .int .i64 b, .int .i64 c, .int .i64 d], .agg #[.slice s n cp], .agg #[.int .i64 x, .int .i64 y, .int .i64 z]] w fun e w' => e = .returned (.tuple #[.int .i64 (zs.getD x.toNat 0), .int .i64 (backL d zs x.toNat y z), .bool true]) ∧ Ext w w' := by
  unfold tlB at hB
  obtain ⟨hP, hA⟩ := Bool.and_eq_true_iff.1 hB
  obtain ⟨hg, hx, hy, hz⟩ := addrB_iff.1 hA
  have hgi := geoB_iff.1 hg
  obtain ⟨hc, hd⟩ : (2 ≤ c ∧ c ≤ 16) ∧ (1 ≤ d ∧ d ≤ 8) := ⟨hgi.2.2.1, hgi.2.2.2⟩
  have hn8 := part_len hP
  have hnb := (partB_iff.1 hP).2.2
  rw [bankF_yes hg] at hnb
  have hl := hr.1
  rw [hl] at hn8 hnb
  obtain ⟨bk, rfl⟩ := Int.eq_ofNat_of_zero_le hx.1
  have hbn : bk < n := by omega
  rw [Int.toNat_natCast]
  have RP := Lib.hid (fun w h => impl_partitionOk a b c d s n cp zs w h hm)
  have RA := Lib.hid (fun w => impl_addrOk a b c d (bk : Int) y z w)
  rw [hP] at RP
  rw [hA] at RA
  have HL := Lib.hid (fun (w : World) (h : RD w s n zs) => impl_banksOf s n cp zs (zs.getD bk 0) w h (by omega))
  have hp1 := placeL_lt zs bk n hbn
  have hp2 := placeL_at zs bk n hbn
  have hp3 := placeL_first zs bk n hbn
  have hlen := banksL_len zs (zs.getD bk 0) n
  unfold backL
  rw [hl]
  obtain ⟨T, hT⟩ : ∃ T, zs.getD bk 0 = T := ⟨_, rfl⟩
  rw [hT] at HL hp1 hp2 hp3 hlen ⊢
  generalize banksL zs T n = L at *
  obtain ⟨m, hM⟩ : ∃ m, L.length = m := ⟨_, rfl⟩
  rw [hM] at hp1 hlen ⊢
  have HM := Lib.hid hM
  generalize placeL zs bk = j at *
  have HP2 := Lib.hid hp2
  have HP3 := Lib.hid hp3
  have HT := Lib.hid hT
  have k0 : 0 ≤ y * d := Int.mul_nonneg hy.1 (by omega)
  have k1 : y * d ≤ 15 * 8 := Int.mul_le_mul (by omega) hd.2 (by omega) (by omega)
  have k2 : 0 ≤ (y * d + z) * (m : Int) := Int.mul_nonneg (by omega) (by omega)
  have k3 : (y * d + z) * (m : Int) ≤ 127 * 8 := Int.mul_le_mul (by omega) (by omega) (by omega) (by omega)
  have W1 : IntKind.i64.wrap (y * d) = y * d := by rw [IntKind.wrap_i64]; omega
  have W2 : IntKind.i64.wrap (y * d + z) = y * d + z := by rw [IntKind.wrap_i64]; omega
  have W3 : IntKind.i64.wrap ((y * d + z) * (m : Int)) = (y * d + z) * (m : Int) := by rw [IntKind.wrap_i64]; omega
  have W4 : IntKind.i64.wrap ((y * d + z) * (m : Int) + (j : Int)) = (y * d + z) * (m : Int) + (j : Int) := by rw [IntKind.wrap_i64]; omega
  have hxb : (0 : Int) ≤ (bk : Int) := by omega
  have hxn : (bk : Int) < (n : Int) := by omega
  obtain ⟨sb, so, rfl, -, -⟩ := hr.2 (by omega)
  have HK := Lib.hid (fun (w' : World) (x : Ext w w') => show w'.cell? ⟨sb, so + bk, none⟩ = some (.int .i64 T) by
    obtain ⟨sb2, so2, e, -, hc⟩ := (hr.ext x).2 (by omega)
    simp at e
    obtain ⟨rfl, rfl⟩ := e
    rw [← HT.out]
    exact hc bk hbn)
  clear hp2 hp3 hM hT hg hgi hP hA hB hnb

  have x0 : Ext w (((w.alloc (.cells #[.int .i64 a, .int .i64 b, .int .i64 c, .int .i64 d] 47)).alloc (.cells #[.slice (some ⟨sb, so, none⟩) n cp] 49)).alloc (.cells #[.int .i64 (bk : Int), .int .i64 y, .int .i64 z] 60)) := (((Ext.refl w).alloc _).alloc _).alloc _
  have b0 := ((Box.new w 47 #[.int .i64 a, .int .i64 b, .int .i64 c, .int .i64 d]).alloc (.cells #[.slice (some ⟨sb, so, none⟩) n cp] 49)).alloc (.cells #[.int .i64 (bk : Int), .int .i64 y, .int .i64 z] 60)
  have b1 := (Box.new_at (w.alloc (.cells #[.int .i64 a, .int .i64 b, .int .i64 c, .int .i64 d] 47)) 49 #[.slice (some ⟨sb, so, none⟩) n cp] (w.heap.size + 1) (by simp)).alloc (.cells #[.int .i64 (bk : Int), .int .i64 y, .int .i64 z] 60)
  have b2 := Box.new_at ((w.alloc (.cells #[.int .i64 a, .int .i64 b, .int .i64 c, .int .i64 d] 47)).alloc (.cells #[.slice (some ⟨sb, so, none⟩) n cp] 49)) 60 #[.int .i64 (bk : Int), .int .i64 y, .int .i64 z] (w.heap.size + 1 + 1) (by simp)
  have r0 := hr.ext x0
  go_enter Try.func47, Try.ntmps47
  go_wp2_with fail
  refine (RP.out _ r0).mono ?_
  rintro e u1 ⟨rfl, v1⟩
  have b0 := b0.ext v1
  have b1 := b1.ext v1
  have b2 := b2.ext v1
  have r0 := r0.ext v1
  have x0 := x0.trans v1
  have p1 := b1.cell 0
  obtain ⟨g0, g1, g2, g3⟩ := b0.cell4
  obtain ⟨e0, e1, e2⟩ := b2.cell3
  clear v1
  go_wp2_with fail
  refine (RA.out _).mono ?_
  rintro e u2 ⟨rfl, v1⟩
  clear p1 g0 g1 g2 g3 e0 e1 e2
  have b0 := b0.ext v1
  have b1 := b1.ext v1
  have b2 := b2.ext v1
  have r0 := r0.ext v1
  have x0 := x0.trans v1
  have p1 := b1.cell 0
  obtain ⟨g0, g1, g2, g3⟩ := b0.cell4
  obtain ⟨e0, e1, e2⟩ := b2.cell3
  have hck := HK.out _ x0
  clear v1
  go_wp2_with fail
  refine (HL.out _ r0).mono ?_
  rintro e w3 ⟨a3, c3, rfl, o3, x3⟩
  rw [HM.out] at o3 ⊢
  obtain ⟨g, rfl, hg0, hg1⟩ := o3.form (by omega)
  have rL : Hid (∀ i, i < m → w3.cell? ⟨g, i, none⟩ = some (.int .i64 (L.getD i 0))) := fun i hi => o3.at hi
  have y3 := x0.trans x3
  have d3 : w3.cell? ⟨w.heap.size, 3, none⟩ = some (.int .i64 d) := (b0.ext x3).cell 3
  obtain ⟨f0, f1, f2⟩ := (b2.ext x3).cell3
  have hsz3 := (b2.ext x3).lt
  clear p1 g0 g1 g2 g3 e0 e1 e2 hck b0 b1 b2 x0 x3 r0 o3
  go_wp2
  go_quiet (first | (go_at_call 63; refine Calls.quiet_of_same (index_at g m _ L (bk : Int) j (by omega) (by omega) HP2.out HP3.out _ (fun i hi => by simpa using rL.out i hi))))
  go_wp2
  exact bodyPost_ret (v := .tuple #[.int .i64 T, .int .i64 ((y * d + z) * (m : Int) + (j : Int)), .bool true]) (by simp [results, Try.results47, go_sem]) rfl ⟨rfl, (by repeat (first | exact Ext.refl _ | assumption | refine Ext.alloc ?_ _ | refine Ext.drew ?_ | refine Ext.drewN ?_ _ | refine Ext.setCell ?_ (by first | exact Nat.le_refl _ | (simp; done) | (simp; omega) | omega) _ | (apply Ext.trans; rotate_left; assumption)))⟩

end Go.Proofs.Ytlchejnjeeilpaa
