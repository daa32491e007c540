/- Contracts of BanksTouched of the reference. -/
import Derived.Test.YtdaphamplgcccaaTouV
set_option maxRecDepth 20000
namespace Go.Proofs.Ytdaphamplgcccaa
open Go.RowKit

set_option maxHeartbeats 4000000 in
theorem spec_tou_core (a b c d o fr L : Int) (h : Bool) (M N : Nat) (f Y Z : Nat → Int) (hN : 1 ≤ N ∧ N ≤ 8) (hM : 1 ≤ M ∧ M ≤ 1024) (hfr : 0 ≤ fr ∧ fr ≤ 1024) (hL : (M : Int) ≤ L - fr ∧ L ≤ 1024)
    (HO : ∀ w, Calls Try.prog 50 #[.agg #[.int .i64 o, .bool h]] w fun e w' => e = .returned (.bool true) ∧ Ext w w')
    (HC : ∀ w, Calls Try.prog 19 #[.agg #[.int .i64 a, .int .i64 b, .int .i64 c, .int .i64 d]] w fun e w' => e = .returned (.int .i64 L) ∧ Ext w w')
    (HB : ∀ w, Calls Try.prog 16 #[.agg #[.int .i64 a, .int .i64 b, .int .i64 c, .int .i64 d]] w fun e w' => e = .returned (.int .i64 N) ∧ Ext w w')
    (HM : RunOf 31 a b c d o fr h M f Y Z) (w : World) :
    Calls Try.prog 42 #[.agg #[.int .i64 a, .int .i64 b, .int .i64 c, .int .i64 d], .agg #[.int .i64 o, .bool h], .int .i64 fr, .int .i64 M] w (NewL (touL f M N) w) := by
  obtain ⟨i0, hi, hz0, hz1, hz2⟩ := info_parts int_info
  have b0 := ((Box.new w 25 #[.int .i64 a, .int .i64 b, .int .i64 c, .int .i64 d]).alloc (.cells #[.int .i64 o, .bool h] 43)).alloc (.cells #[] 3)
  have b1 := (Box.new_at (w.alloc (.cells #[.int .i64 a, .int .i64 b, .int .i64 c, .int .i64 d] 25)) 43 #[.int .i64 o, .bool h] (w.heap.size + 1) (by simp)).alloc (.cells #[] 3)
  have x0 : Ext w (((w.alloc (.cells #[.int .i64 a, .int .i64 b, .int .i64 c, .int .i64 d] 25)).alloc (.cells #[.int .i64 o, .bool h] 43)).alloc (.cells #[] 3)) := (((Ext.refl w).alloc _).alloc _).alloc _
  have hown0 : (((w.alloc (.cells #[.int .i64 a, .int .i64 b, .int .i64 c, .int .i64 d] 25)).alloc (.cells #[.int .i64 o, .bool h] 43)).alloc (.cells #[] 3)).ownsRow (w.heap.size + 1 + 1) 3 1 (.slice (some ⟨w.heap.size + 1 + 1, 0, none⟩) 0 0) 0 [] := by
    have hh := World.ownsRow_made (base := w.heap.size + 1 + 1) (e := 3) (size := 1) ((w.alloc (.cells #[.int .i64 a, .int .i64 b, .int .i64 c, .int .i64 d] 25)).alloc (.cells #[.int .i64 o, .bool h] 43)) #[] 0 (by simp) (by simp [maxLen]) rfl
    have e : ((w.alloc (.cells #[.int .i64 a, .int .i64 b, .int .i64 c, .int .i64 d] 25)).alloc (.cells #[.int .i64 o, .bool h] 43)).heap.size = w.heap.size + 1 + 1 := by simp
    rwa [e] at hh
  have O := Lib.hid HO
  have C := Lib.hid HC
  have B := Lib.hid HB
  have MM := Lib.hid HM
  clear HO HC HB HM
  have q4 : (((w.alloc (.cells #[.int .i64 a, .int .i64 b, .int .i64 c, .int .i64 d] 25)).alloc (.cells #[.int .i64 o, .bool h] 43)).alloc (.cells #[] 3)).cell? ⟨w.heap.size + 1, 0, none⟩ = some (.int .i64 o) := b1.cell 0
  have q5 : (((w.alloc (.cells #[.int .i64 a, .int .i64 b, .int .i64 c, .int .i64 d] 25)).alloc (.cells #[.int .i64 o, .bool h] 43)).alloc (.cells #[] 3)).cell? ⟨w.heap.size + 1, 1, none⟩ = some (.bool h) := b1.cell 1
  have g0 : ¬ (M : Int) < 1 := by omega
  have g1 : ¬ (L < (M : Int)) := by omega
  have hbt : btw fr 0 (L - M) = true := btw_true (by omega) (by omega)
  have SI := Lib.hid (fun w => spec_in fr 0 (L - M) w)
  rw [hbt] at SI
  go_enter Try.func42, Try.ntmps42
  go_wp2_with fail
  refine (O.out _).mono ?_
  rintro e w1 ⟨rfl, x1⟩
  obtain ⟨r0, r1, r2, r3⟩ := (b0.ext x1).cell4
  go_wp2_with fail
  refine (C.out _).mono ?_
  rintro e w2 ⟨rfl, x2⟩
  obtain ⟨s0, s1, s2, s3⟩ := (b0.ext (x1.trans x2)).cell4
  go_wp2_with fail
  refine (C.out _).mono ?_
  rintro e w3 ⟨rfl, x3⟩
  have x03 := (x1.trans x2).trans x3
  have B3 := Lib.hid (b0.ext x03)
  have C3 := Lib.hid (b1.ext x03)
  have Y3 := Lib.hid (x0.trans x03)
  have ho3 := own_ext hown0 x03
  have hs3 : w.heap.size + 1 + 1 < w3.heap.size := (World.ownsRow.lt ho3 _ rfl).2
  clear b0 b1 x0 x1 x2 x3 q4 q5 r0 r1 r2 r3 s0 s1 s2 s3 hown0 x03
  go_wp2_with (go_at_call 48; refine (SI.out _).mono ?_; rintro e w' ⟨rfl, rfl⟩)
  go_loopw [9, 10] (fun v i wr => ∃ p : Nat, p ≤ N ∧ i = .int .i64 p ∧ wr.ownsRow (w.heap.size + 1 + 1) 3 1 v (touL f M p).length ((touL f M p).map (Value.int .i64)) ∧ w.heap.size + 1 + 1 ≤ wr.heap.size ∧ Ext w wr ∧ Box wr w.heap.size 25 #[.int .i64 a, .int .i64 b, .int .i64 c, .int .i64 d] ∧ Box wr (w.heap.size + 1) 43 #[.int .i64 o, .bool h]) (fun _ i _ => N - (intOf i).toNat)
  case atStart => exact ⟨0, Nat.zero_le _, rfl, ho3, by omega, Y3.out, B3.out, C3.out⟩
  case round =>
    obtain ⟨p, hp, rfl, ho, hsz, xr, bg, bm⟩ := hrel
    clear ho3 B3 C3 hs3
    have hlen := touL_len f M p
    obtain ⟨q0, q1, q2, q3⟩ := bg.cell4
    go_wp2_with fail
    refine (B.out _).mono ?_
    rintro e w4 ⟨rfl, x4⟩
    replace ho := own_ext ho x4
    replace xr := xr.trans x4
    replace bg := bg.ext x4
    replace bm := bm.ext x4
    replace hsz := Nat.le_trans hsz x4.le
    clear q0 q1 q2 q3 x4
    by_cases hlt : p < N
    · have hltI : (p : Int) < (N : Int) := by omega
      have BG := Lib.hid bg
      have BM := Lib.hid bm
      clear bg bm
      go_wp2
      go_loopw [11, 12] (fun u i wr => ∃ k : Nat, k ≤ M ∧ i = .int .i64 k ∧ u = .bool (anyB f p k) ∧ Ext w4 wr) (fun _ i _ => M - (intOf i).toNat)
      case atStart => exact ⟨0, Nat.zero_le _, rfl, rfl, Ext.refl _⟩
      case round =>
        obtain ⟨k, hk, rfl, rfl, x5⟩ := hrel
        by_cases hlt2 : k < M
        · have hltJ : (k : Int) < (M : Int) := by omega
          obtain ⟨q0, q1, q2, q3⟩ := (BG.out.ext x5).cell4
          obtain ⟨q4, q5⟩ := (BM.out.ext x5).cell2
          have hany : anyB f p (k + 1) = (anyB f p k || f k == p) := rfl
          have HA := Lib.hid hany
          clear hany
          go_wp2_with fail
          refine (MM.out k hlt2 _).mono ?_
          rintro e w6 ⟨rfl, x6⟩
          have bx := Box.new w6 33 #[.int .i64 (f k), .int .i64 (Y k), .int .i64 (Z k)]
          have q6 : (w6.alloc (.cells #[.int .i64 (f k), .int .i64 (Y k), .int .i64 (Z k)] 33)).cell? ⟨w6.heap.size, 0, none⟩ = some (.int .i64 (f k)) := bx.cell 0
          have x7 := x5.trans (x6.alloc (.cells #[.int .i64 (f k), .int .i64 (Y k), .int .i64 (Z k)] 33))
          clear bx x5 x6 q0 q1 q2 q3 q4 q5
          generalize f k = z at *
          cases hh : anyB f p k with
          | true =>
            rw [hh] at HA
            go_wp2
            go_roundw
            case rel => exact ⟨k + 1, by omega, by go_num, by rw [HA.out]; rfl, x7⟩
            case measure => simp [intOf]; omega
          | false =>
            rw [hh] at HA
            go_wp2
            go_roundw
            case rel => exact ⟨k + 1, by omega, by go_num, by rw [HA.out]; rfl, x7⟩
            case measure => simp [intOf]; omega
        · obtain rfl : k = M := by omega
          obtain ⟨W5, rfl⟩ : ∃ x : World, x = wr := ⟨_, rfl⟩
          have ho5 := own_ext ho x5
          have b5 := BG.out.ext x5
          have c5 := BM.out.ext x5
          have xr5 := xr.trans x5
          have hsz5 := Nat.le_trans hsz x5.le
          clear ho BG BM xr x5 hsz
          cases hany : anyB f p k with
          | true =>
            have HY := Lib.hid (touL_yes hany)
            clear hany
            go_wp2_with (at_builtin; refine wpList_append_own _ rfl (.tmp 67) (.tmp 69) 51 rfl (w.heap.size + 1 + 1) 3 i0 (.int .i64 0) 1 8 Try.underlying51 hi hz0 hz1 hz2 rfl (by decide) _ _ _ rfl (ho5.alloc _) ⟨W5.heap.size, 0, none⟩ 1 1 [.int .i64 p] rfl rfl (cell_one_new _ _ _) ?c2 ?c3 ?c4 ?c5 ?_)
            case c2 => first | rfl | (intro u hu; simp at hu; subst hu; rfl)
            case c3 => unfold maxLen; omega
            case c4 => omega
            case c5 => first | omega | (simp; omega)
            intro v' w8 hown3 hgrow _
            have x8 := (xr5.alloc _).grown hgrow (fun j hj => by have := (ho5.lt j hj).1; omega)
            have b8 := Box.grown (b5.alloc _) hgrow (fun e => by have := (ho5.lt _ e).1; omega)
            have c8 := Box.grown (c5.alloc _) hgrow (fun e => by have := (ho5.lt _ e).1; omega)
            have hs8 := hgrow.size
            have hown4 : w8.ownsRow (w.heap.size + 1 + 1) 3 1 v' (touL f k (p + 1)).length ((touL f k (p + 1)).map (Value.int .i64)) := by
              rw [HY.out, List.length_append, List.map_append]; exact hown3
            clear ho5 hgrow hown3 b5 c5 xr5
            go_wp2
            go_roundw
            case rel => exact ⟨p + 1, by omega, by go_num, hown4, (by first | omega | (simp at hs8; omega)), x8, b8, c8⟩
            case measure => simp [intOf]; omega
          | false =>
            have HY := Lib.hid (touL_no hany)
            clear hany
            go_wp2
            go_roundw
            case rel => exact ⟨p + 1, by omega, by go_num, by rw [HY.out]; exact ho5, hsz5, xr5, b5, c5⟩
            case measure => simp [intOf]; omega
    · obtain rfl : p = N := by omega
      have hO : ∃ a c, _ = Value.slice a (touL f M p).length c := own_slice ho
      obtain ⟨a', c', rfl⟩ := hO
      go_wp2
      go_ret
      exact ⟨a', c', rfl, own_less ho (by omega), xr⟩

end Go.Proofs.Ytdaphamplgcccaa
