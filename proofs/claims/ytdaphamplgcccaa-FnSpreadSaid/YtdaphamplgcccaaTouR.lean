/- Contracts of BanksTouched of both sides, whole. -/
import Derived.Test.YtdaphamplgcccaaTouS
import Derived.Test.YtdaphamplgcccaaLineL
import Derived.Deep.RegionHeld3
import Derived.Deep.DeepCutAuto
import Derived.Deep.DrawnRows
set_option maxRecDepth 20000
namespace Go.Proofs.Ytdaphamplgcccaa
open Go.RowKit
attribute [local go_sem ↓] Go.wp_at_zero Go.wp_at_succ

theorem spec_tou_no (a b c d o fr m : Int) (h : Bool) (hB : touB a b c d o fr m = false) (m0 : -9223372036854775808 ≤ m) (m1 : m ≤ 9223372036854775807) (w : World) :
    Calls Try.prog 42 #[.agg #[.int .i64 a, .int .i64 b, .int .i64 c, .int .i64 d], .agg #[.int .i64 o, .bool h], .int .i64 fr, .int .i64 m] w (NewL [] w) := by
  have b0 := ((Box.new w 25 #[.int .i64 a, .int .i64 b, .int .i64 c, .int .i64 d]).alloc (.cells #[.int .i64 o, .bool h] 43)).alloc (.cells #[] 3)
  have b1 := (Box.new_at (w.alloc (.cells #[.int .i64 a, .int .i64 b, .int .i64 c, .int .i64 d] 25)) 43 #[.int .i64 o, .bool h] (w.heap.size + 1) (by simp)).alloc (.cells #[] 3)
  have x0 : Ext w (((w.alloc (.cells #[.int .i64 a, .int .i64 b, .int .i64 c, .int .i64 d] 25)).alloc (.cells #[.int .i64 o, .bool h] 43)).alloc (.cells #[] 3)) := (((Ext.refl w).alloc _).alloc _).alloc _
  have hown0 : (((w.alloc (.cells #[.int .i64 a, .int .i64 b, .int .i64 c, .int .i64 d] 25)).alloc (.cells #[.int .i64 o, .bool h] 43)).alloc (.cells #[] 3)).ownsRow (w.heap.size + 1 + 1) 3 1 (.slice (some ⟨w.heap.size + 1 + 1, 0, none⟩) 0 0) 0 [] := by
    have hh := World.ownsRow_made (base := w.heap.size + 1 + 1) (e := 3) (size := 1) ((w.alloc (.cells #[.int .i64 a, .int .i64 b, .int .i64 c, .int .i64 d] 25)).alloc (.cells #[.int .i64 o, .bool h] 43)) #[] 0 (by simp) (by simp [maxLen]) rfl
    have e : ((w.alloc (.cells #[.int .i64 a, .int .i64 b, .int .i64 c, .int .i64 d] 25)).alloc (.cells #[.int .i64 o, .bool h] 43)).heap.size = w.heap.size + 1 + 1 := by simp
    rwa [e] at hh
  have O := Lib.hid (fun w => spec_mappingOk o h w)
  have C := Lib.hid (fun w => spec_lineCount a b c d w)
  have HL := lineF_range a b c d
  have HP := fun h => lineF_pos (a := a) (b := b) (c := c) (d := d) h
  have close : Hid (∀ w', Ext (((w.alloc (.cells #[.int .i64 a, .int .i64 b, .int .i64 c, .int .i64 d] 25)).alloc (.cells #[.int .i64 o, .bool h] 43)).alloc (.cells #[] 3)) w' → NewL [] w (.returned (.slice (some ⟨w.heap.size + 1 + 1, 0, none⟩) 0 0)) w') := fun w' x => ⟨_, 0, rfl, own_less (own_ext hown0 x) (by omega), x0.trans x⟩
  clear hown0 x0
  have q4 : (((w.alloc (.cells #[.int .i64 a, .int .i64 b, .int .i64 c, .int .i64 d] 25)).alloc (.cells #[.int .i64 o, .bool h] 43)).alloc (.cells #[] 3)).cell? ⟨w.heap.size + 1, 0, none⟩ = some (.int .i64 o) := b1.cell 0
  have q5 : (((w.alloc (.cells #[.int .i64 a, .int .i64 b, .int .i64 c, .int .i64 d] 25)).alloc (.cells #[.int .i64 o, .bool h] 43)).alloc (.cells #[] 3)).cell? ⟨w.heap.size + 1, 1, none⟩ = some (.bool h) := b1.cell 1
  unfold touB at hB
  cases ho : btw o 0 2 with
  | false =>
    rw [ho] at O
    clear hB HL HP ho
    go_enter Try.func42, Try.ntmps42
    go_wp2_with fail
    refine (O.out _).mono ?_
    rintro e w1 ⟨rfl, x1⟩
    go_wp2
    go_ret
    exact close.out _ x1
  | true =>
    rw [ho] at O hB
    rw [Bool.true_and] at hB
    clear ho
    by_cases h1 : m < 1
    · clear hB HL HP
      go_enter Try.func42, Try.ntmps42
      go_wp2_with fail
      refine (O.out _).mono ?_
      rintro e w1 ⟨rfl, x1⟩
      go_wp2
      go_ret
      exact close.out _ x1
    · by_cases h2 : lineF a b c d < m
      · clear hB HP
        generalize lineF a b c d = L at *
        go_enter Try.func42, Try.ntmps42
        go_wp2_with fail
        refine (O.out _).mono ?_
        rintro e w1 ⟨rfl, x1⟩
        obtain ⟨r0, r1, r2, r3⟩ := (b0.ext x1).cell4
        go_wp2_with fail
        refine (C.out _).mono ?_
        rintro e w2 ⟨rfl, x2⟩
        go_wp2
        go_ret
        exact close.out _ (x1.trans x2)
      · have hg := HP (by omega)
        rw [hg, Bool.true_and, decide_eq_true (show 1 ≤ m by omega), Bool.true_and] at hB
        have hbt : btw fr 0 (lineF a b c d - m) = false := btw_false (by
          rintro ⟨f0, f1⟩
          rw [decide_eq_true f0, decide_eq_true (show m ≤ lineF a b c d - fr by omega)] at hB
          simp at hB)
        clear hB HP hg
        generalize lineF a b c d = L at *
        have SI := Lib.hid (fun w => spec_in fr 0 (L - m) w)
        rw [hbt] at SI
        clear hbt
        go_enter Try.func42, Try.ntmps42
        go_wp2_with fail
        refine (O.out _).mono ?_
        rintro e w1 ⟨rfl, x1⟩
        obtain ⟨r0, r1, r2, r3⟩ := (b0.ext x1).cell4
        go_wp2_with fail
        refine (C.out _).mono ?_
        rintro e w2 ⟨rfl, x2⟩
        obtain ⟨s0, s1, s2, s3⟩ := (b0.ext (x1.trans x2)).cell4
        go_wp2_with fail
        refine (C.out _).mono ?_
        rintro e w3 ⟨rfl, x3⟩
        go_wp2_with (go_at_call 48; refine (SI.out _).mono ?_; rintro e w' ⟨rfl, rfl⟩)
        go_ret
        exact close.out _ ((x1.trans x2).trans x3)

theorem touF_yes {a b c d o fr m : Int} {h : Bool} (hT : touB a b c d o fr m = true) : touF a b c d o h fr m = touL (bankAt a b c d o h fr) m.toNat (a * b).toNat := by rw [touF, if_pos hT]
theorem touF_no {a b c d o fr m : Int} {h : Bool} (hT : touB a b c d o fr m = false) : touF a b c d o h fr m = [] := by rw [touF, if_neg (by simp [hT])]
theorem run_in {a b c d o fr m : Int} (hT : touB a b c d o fr m = true) {i : Nat} (hi : (i : Int) < m) : mapB a b c d o (fr + i) = true := by
  obtain ⟨hg, ho, h1, h2, h3⟩ := touB_iff.1 hT
  rw [mapB, ho, Bool.true_and]
  exact btw_true (by omega) (by omega)

/-- BanksTouched of the program -/
theorem impl_tou (a b c d o fr m : Int) (h : Bool) (f0 : -9223372036854775808 ≤ fr) (f1 : fr ≤ 9223372036854775807) (w : World) :
    Calls Try.prog 43 #[.agg #[.int .i64 a, .int .i64 b, .int .i64 c, .int .i64 d], .agg #[.int .i64 o, .bool h], .int .i64 fr, .int .i64 m] w (NewL (touF a b c d o h fr m) w) := by
  cases hT : touB a b c d o fr m with
  | false => rw [touF_no hT]; exact impl_tou_no a b c d o fr m h hT f0 f1 w
  | true =>
    rw [touF_yes hT]
    obtain ⟨hg, ho, h1, h2, h3⟩ := touB_iff.1 hT
    have hk := bank_range hg
    have hl := lineF_range a b c d
    obtain ⟨M, rfl⟩ := Int.eq_ofNat_of_zero_le (show 0 ≤ m by omega)
    obtain ⟨N, hN⟩ := Int.eq_ofNat_of_zero_le (show 0 ≤ a * b by omega)
    rw [Int.toNat_natCast, hN, Int.toNat_natCast]
    refine impl_tou_core a b c d o fr (lineF a b c d) h M N _ (fun i => (mapM (a * b) c d o h (fr + i)).2.1) (fun i => (mapM (a * b) c d o h (fr + i)).2.2) (by omega) (by omega) (by omega) (by omega) (fun i hi => by rw [← hN]; exact bankAt_in hT (by omega)) (fun w => ?_) (fun w => ?_) (fun w => impl_lineCount a b c d w) (fun w => ?_) (fun i hi w => impl_mapLine_yes a b c d o (fr + i) h (run_in hT (by omega)) w) w
    · have := impl_geometryOk a b c d w; rwa [hg] at this
    · have := impl_mappingOk o h w; rwa [ho] at this
    · have := impl_bankCount a b c d w; rwa [bankF_yes hg, hN] at this
theorem spec_tou (a b c d o fr m : Int) (h : Bool) (m0 : -9223372036854775808 ≤ m) (m1 : m ≤ 9223372036854775807) (w : World) :
    Calls Try.prog 42 #[.agg #[.int .i64 a, .int .i64 b, .int .i64 c, .int .i64 d], .agg #[.int .i64 o, .bool h], .int .i64 fr, .int .i64 m] w (NewL (touF a b c d o h fr m) w) := by
  cases hT : touB a b c d o fr m with
  | false => rw [touF_no hT]; exact spec_tou_no a b c d o fr m h hT m0 m1 w
  | true =>
    rw [touF_yes hT]
    obtain ⟨hg, ho, h1, h2, h3⟩ := touB_iff.1 hT
    have hk := bank_range hg
    have hl := lineF_range a b c d
    obtain ⟨M, rfl⟩ := Int.eq_ofNat_of_zero_le (show 0 ≤ m by omega)
    obtain ⟨N, hN⟩ := Int.eq_ofNat_of_zero_le (show 0 ≤ a * b by omega)
    rw [Int.toNat_natCast, hN, Int.toNat_natCast]
    refine spec_tou_core a b c d o fr (lineF a b c d) h M N _ (fun i => (mapM (a * b) c d o h (fr + i)).2.1) (fun i => (mapM (a * b) c d o h (fr + i)).2.2) (by omega) (by omega) (by omega) (by omega) (fun w => ?_) (fun w => spec_lineCount a b c d w) (fun w => ?_) (fun i hi w => spec_mapLine_yes a b c d o (fr + i) h (run_in hT (by omega)) w) w
    · have := spec_mappingOk o h w; rwa [ho] at this
    · have := spec_bankCount a b c d w; rwa [bankF_yes hg, hN] at this
theorem touF_len (a b c d o : Int) (h : Bool) (fr m : Int) : (touF a b c d o h fr m).length ≤ 8 := by
  cases hT : touB a b c d o fr m with
  | false => rw [touF_no hT]; simp
  | true =>
    rw [touF_yes hT]
    have := touL_len (bankAt a b c d o h fr) m.toNat (a * b).toNat
    have := bank_range (touB_iff.1 hT).1
    omega

end Go.Proofs.Ytdaphamplgcccaa
