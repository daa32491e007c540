/- The contract of the reference's draw of a line of fields: a text of at most 2000 bytes. -/
import Derived.Test.YtmokjebcjmphkaaAgaD
import Derived.Test.YtmokjebcjmphkaaDecW
namespace Go.Proofs.Ytmokjebcjmphkaa
open Go.RowKit

def DrewS (w : World) : Ending → World → Prop := fun e w' => ∃ l : List UInt8, l.length ≤ 2000 ∧ e = .returned (.string (strOf l)) ∧ Ext w w'
theorem one_mul_small (p q : Int) (p0 : 0 ≤ p) (p1 : p < 2) (q0 : 0 ≤ q) (q1 : q < 3) : 0 ≤ p * q ∧ p * q ≤ 2 := by
  have hp : p = 0 ∨ p = 1 := by omega
  rcases hp with rfl | rfl
  · simp
  · rw [Int.one_mul]; omega
theorem room (a b : List UInt8) (h : a.length + b.length ≤ 100000) : ¬ (9223372036854775807 < (strOf a).size + (strOf b).size) := by rw [strOf_size, strOf_size]; omega

set_option maxRecDepth 20000 in
set_option maxHeartbeats 8000000 in
theorem draw_split (a : Option Addr) (n c : Nat) (zs : List Int) (w : World) (h : RowIs .u8 w w.heap.size a n zs) (hm : n ≤ maxLen) : Calls Try.prog 23 #[.slice a n c] w (DrewS w) := by
  go_enter Try.func23, Try.ntmps23
  go_wp2_with fail
  refine (new_any a n c zs _ h hm).mono ?_
  rintro e w1 ⟨g, rfl, hg, hc1, x1⟩
  clear h hm
  go_wp2_with fail
  refine (below_small _ g 9 (by omega) (by omega) _ hc1).mono ?_
  rintro e w2 ⟨m, ⟨m0, m1⟩, rfl, c2, v2⟩
  go_wp2_with fail
  refine (once_any _ g 15 (by omega) (by omega) _ c2).mono ?_
  rintro e w3 ⟨b, rfl, c3, v3⟩
  have y3 := v2.trans v3
  clear c2 v2 v3 hc1
  rcases b with _ | _
  · have M0 : 0 ≤ m := m0
    have M1 : m ≤ 26 := by omega
    have cW := c3
    have yW := y3
    clear m0 m1 c3 y3
    generalize m = M at *
    go_wp2
    go_loopw [5, 6] (fun s i wr => ∃ (l : List UInt8) (k : Int), 0 ≤ k ∧ k ≤ M ∧ i = .int .i64 k ∧ s = .string (strOf l) ∧ Hid ((l.length : Int) ≤ 8 * k) ∧ Cur w.heap.size g wr ∧ But g w1 wr)
      (fun _ i _ => (M - intOf i).toNat)
    case atStart => exact ⟨[], 0, by omega, by omega, rfl, rfl, (by show (([] : List UInt8).length : Int) ≤ _; simp), cW, yW⟩
    case round =>
      clear cW yW
      obtain ⟨l, k, k0, k1, rfl, rfl, hl, cc, yy⟩ := hrel
      by_cases hlt : k < M
      · rcases (show k = 0 ∨ 0 < k by omega) with hk | hk
        · go_wp2_with fail
          refine (once_any _ g 5 (by omega) (by omega) _ cc).mono ?_
          rintro e w5 ⟨b, rfl, c5, v5⟩
          replace yy := yy.trans v5
          replace cc := c5
          clear c5 v5
          rcases b with _ | _
          · have HN : Hid ((l.length : Int) ≤ 8 * k + 3) := by
              have h1 := hl.out
              show (l.length : Int) ≤ 8 * k + 3
              omega
            go_wp2
            go_loopw [5, 7] (fun s j wr => ∃ (t : List UInt8) (i : Int), 0 ≤ i ∧ i ≤ 5 ∧ j = .int .i64 i ∧ s = .string (strOf t) ∧ Hid ((t.length : Int) ≤ 8 * k + 3 + i) ∧ Cur w.heap.size g wr ∧ But g w1 wr)
              (fun _ j _ => (5 - intOf j).toNat)
            case atStart => exact ⟨l, 0, by omega, by omega, rfl, rfl, (by have := HN.out; show ((l).length : Int) ≤ _; omega), cc, yy⟩
            case round =>
              clear cc yy
              obtain ⟨t, i, i0, i1, rfl, rfl, ht, ci, yi⟩ := hrel
              go_wp2_with fail
              refine (below_small _ g 5 (by omega) (by omega) _ ci).mono ?_
              rintro e w9 ⟨r, ⟨r0, r1⟩, rfl, c9, v9⟩
              by_cases hr : i ≤ r
              · go_wp2_with fail
                refine (below_small _ g 94 (by omega) (by omega) _ c9).mono ?_
                rintro e w10 ⟨u, ⟨u0, u1⟩, rfl, c10, v10⟩
                have WV : IntKind.i64.wrap (33 + u) = 33 + u := by rw [IntKind.wrap_i64]; omega
                have WU : IntKind.u8.wrap (33 + u) = 33 + u := by rw [IntKind.wrap_u8]; omega
                have HC := one_string w10 (UInt8.ofNat (33 + u).toNat)
                rw [byte_at _ (by omega) (by omega)] at HC
                have hroom2 := room t [UInt8.ofNat (33 + u).toNat] (by have := ht.out; simp; omega)
                have HJ2 := Lib.hid (strOf_append t [UInt8.ofNat (33 + u).toNat])
                have HT2 : Hid (((t ++ [UInt8.ofNat (33 + u).toNat]).length : Int) ≤ 8 * k + 3 + (i + 1)) := by
                  have h1 := ht.out
                  show ((t ++ [UInt8.ofNat (33 + u).toNat]).length : Int) ≤ 8 * k + 3 + (i + 1)
                  rw [List.length_append]
                  simp
                  omega
                have c11 := c10.ext ((Ext.refl w10).alloc (.cells #[.int .u8 (33 + u)] 5))
                have y11 := ((yi.trans v9).trans v10).alloc (.cells #[.int .u8 (33 + u)] 5)
                clear ci yi c9 v9 c10 v10
                go_wp2
                go_roundw
                case rel => exact ⟨t ++ [UInt8.ofNat (33 + u).toNat], i + 1, by omega, by omega, by go_num, by rw [HJ2.out], HT2, c11, y11⟩
                case measure => simp [intOf]; omega
              · go_wp2
                go_roundw
                case rel => exact ⟨t, k + 1, by omega, by omega, by go_num, rfl, (by have := ht.out; show (t.length : Int) ≤ _; omega), c9, yi.trans v9⟩
                case measure => simp [intOf]; omega
          · skip
            go_wp2_with fail
            refine (below_small _ g 2 (by omega) (by omega) _ cc).mono ?_
            rintro e w6 ⟨p, ⟨p0, p1⟩, rfl, c6, v6⟩
            go_wp2_with fail
            refine (below_small _ g 3 (by omega) (by omega) _ c6).mono ?_
            rintro e w7 ⟨q, ⟨q0, q1⟩, rfl, c7, v7⟩
            have hpq := one_mul_small p q p0 p1 q0 q1
            obtain ⟨L, hL⟩ := Int.eq_ofNat_of_zero_le (show 0 ≤ 1 + p * q by omega)
            have WPQ : IntKind.i64.wrap (p * q) = p * q := by rw [IntKind.wrap_i64]; omega
            have WL : IntKind.i64.wrap (1 + p * q) = (L : Int) := by rw [IntKind.wrap_i64]; omega
            have HL3 := Lib.hid (show L ≤ 3 by omega)
            clear hL hpq
            go_wp2_with fail
            refine (long_any L 32 32 rfl (by have := HL3.out; omega) _).mono ?_
            rintro e w8 ⟨l2, hl2, rfl, x8⟩
            have c8 := c7.ext x8
            have y8 := ((yy.trans v6).trans v7).trans (But.ext x8)
            have hroom := room l l2 (by have := hl.out; have := HL3.out; omega)
            have HN : Hid (((l ++ l2).length : Int) ≤ 8 * k + 3) := by
              have h1 := hl.out
              have h2 := HL3.out
              show ((l ++ l2).length : Int) ≤ 8 * k + 3
              rw [List.length_append]
              omega
            have HJ := Lib.hid (strOf_append l l2)
            clear WPQ WL p0 p1 q0 q1 cc yy c6 v6 c7 v7 x8 hl2
            go_wp2

            go_loopw [5, 7] (fun s j wr => ∃ (t : List UInt8) (i : Int), 0 ≤ i ∧ i ≤ 5 ∧ j = .int .i64 i ∧ s = .string (strOf t) ∧ Hid ((t.length : Int) ≤ 8 * k + 3 + i) ∧ Cur w.heap.size g wr ∧ But g w1 wr)
              (fun _ j _ => (5 - intOf j).toNat)
            case atStart => exact ⟨l ++ l2, 0, by omega, by omega, rfl, by rw [HJ.out], (by have := HN.out; show ((l ++ l2).length : Int) ≤ _; omega), c8, y8⟩
            case round =>
              clear c8 y8
              obtain ⟨t, i, i0, i1, rfl, rfl, ht, ci, yi⟩ := hrel
              go_wp2_with fail
              refine (below_small _ g 5 (by omega) (by omega) _ ci).mono ?_
              rintro e w9 ⟨r, ⟨r0, r1⟩, rfl, c9, v9⟩
              by_cases hr : i ≤ r
              · go_wp2_with fail
                refine (below_small _ g 94 (by omega) (by omega) _ c9).mono ?_
                rintro e w10 ⟨u, ⟨u0, u1⟩, rfl, c10, v10⟩
                have WV : IntKind.i64.wrap (33 + u) = 33 + u := by rw [IntKind.wrap_i64]; omega
                have WU : IntKind.u8.wrap (33 + u) = 33 + u := by rw [IntKind.wrap_u8]; omega
                have HC := one_string w10 (UInt8.ofNat (33 + u).toNat)
                rw [byte_at _ (by omega) (by omega)] at HC
                have hroom2 := room t [UInt8.ofNat (33 + u).toNat] (by have := ht.out; simp; omega)
                have HJ2 := Lib.hid (strOf_append t [UInt8.ofNat (33 + u).toNat])
                have HT2 : Hid (((t ++ [UInt8.ofNat (33 + u).toNat]).length : Int) ≤ 8 * k + 3 + (i + 1)) := by
                  have h1 := ht.out
                  show ((t ++ [UInt8.ofNat (33 + u).toNat]).length : Int) ≤ 8 * k + 3 + (i + 1)
                  rw [List.length_append]
                  simp
                  omega
                have c11 := c10.ext ((Ext.refl w10).alloc (.cells #[.int .u8 (33 + u)] 5))
                have y11 := ((yi.trans v9).trans v10).alloc (.cells #[.int .u8 (33 + u)] 5)
                clear ci yi c9 v9 c10 v10
                go_wp2
                go_roundw
                case rel => exact ⟨t ++ [UInt8.ofNat (33 + u).toNat], i + 1, by omega, by omega, by go_num, by rw [HJ2.out], HT2, c11, y11⟩
                case measure => simp [intOf]; omega
              · go_wp2
                go_roundw
                case rel => exact ⟨t, k + 1, by omega, by omega, by go_num, rfl, (by have := ht.out; show (t.length : Int) ≤ _; omega), c9, yi.trans v9⟩
                case measure => simp [intOf]; omega
        · skip
          go_wp2_with fail
          refine (below_small _ g 2 (by omega) (by omega) _ cc).mono ?_
          rintro e w6 ⟨p, ⟨p0, p1⟩, rfl, c6, v6⟩
          go_wp2_with fail
          refine (below_small _ g 3 (by omega) (by omega) _ c6).mono ?_
          rintro e w7 ⟨q, ⟨q0, q1⟩, rfl, c7, v7⟩
          have hpq := one_mul_small p q p0 p1 q0 q1
          obtain ⟨L, hL⟩ := Int.eq_ofNat_of_zero_le (show 0 ≤ 1 + p * q by omega)
          have WPQ : IntKind.i64.wrap (p * q) = p * q := by rw [IntKind.wrap_i64]; omega
          have WL : IntKind.i64.wrap (1 + p * q) = (L : Int) := by rw [IntKind.wrap_i64]; omega
          have HL3 := Lib.hid (show L ≤ 3 by omega)
          clear hL hpq
          go_wp2_with fail
          refine (long_any L 32 32 rfl (by have := HL3.out; omega) _).mono ?_
          rintro e w8 ⟨l2, hl2, rfl, x8⟩
          have c8 := c7.ext x8
          have y8 := ((yy.trans v6).trans v7).trans (But.ext x8)
          have hroom := room l l2 (by have := hl.out; have := HL3.out; omega)
          have HN : Hid (((l ++ l2).length : Int) ≤ 8 * k + 3) := by
            have h1 := hl.out
            have h2 := HL3.out
            show ((l ++ l2).length : Int) ≤ 8 * k + 3
            rw [List.length_append]
            omega
          have HJ := Lib.hid (strOf_append l l2)
          clear WPQ WL p0 p1 q0 q1 cc yy c6 v6 c7 v7 x8 hl2
          go_wp2

          go_loopw [5, 7] (fun s j wr => ∃ (t : List UInt8) (i : Int), 0 ≤ i ∧ i ≤ 5 ∧ j = .int .i64 i ∧ s = .string (strOf t) ∧ Hid ((t.length : Int) ≤ 8 * k + 3 + i) ∧ Cur w.heap.size g wr ∧ But g w1 wr)
            (fun _ j _ => (5 - intOf j).toNat)
          case atStart => exact ⟨l ++ l2, 0, by omega, by omega, rfl, by rw [HJ.out], (by have := HN.out; show ((l ++ l2).length : Int) ≤ _; omega), c8, y8⟩
          case round =>
            clear c8 y8
            obtain ⟨t, i, i0, i1, rfl, rfl, ht, ci, yi⟩ := hrel
            go_wp2_with fail
            refine (below_small _ g 5 (by omega) (by omega) _ ci).mono ?_
            rintro e w9 ⟨r, ⟨r0, r1⟩, rfl, c9, v9⟩
            by_cases hr : i ≤ r
            · go_wp2_with fail
              refine (below_small _ g 94 (by omega) (by omega) _ c9).mono ?_
              rintro e w10 ⟨u, ⟨u0, u1⟩, rfl, c10, v10⟩
              have WV : IntKind.i64.wrap (33 + u) = 33 + u := by rw [IntKind.wrap_i64]; omega
              have WU : IntKind.u8.wrap (33 + u) = 33 + u := by rw [IntKind.wrap_u8]; omega
              have HC := one_string w10 (UInt8.ofNat (33 + u).toNat)
              rw [byte_at _ (by omega) (by omega)] at HC
              have hroom2 := room t [UInt8.ofNat (33 + u).toNat] (by have := ht.out; simp; omega)
              have HJ2 := Lib.hid (strOf_append t [UInt8.ofNat (33 + u).toNat])
              have HT2 : Hid (((t ++ [UInt8.ofNat (33 + u).toNat]).length : Int) ≤ 8 * k + 3 + (i + 1)) := by
                have h1 := ht.out
                show ((t ++ [UInt8.ofNat (33 + u).toNat]).length : Int) ≤ 8 * k + 3 + (i + 1)
                rw [List.length_append]
                simp
                omega
              have c11 := c10.ext ((Ext.refl w10).alloc (.cells #[.int .u8 (33 + u)] 5))
              have y11 := ((yi.trans v9).trans v10).alloc (.cells #[.int .u8 (33 + u)] 5)
              clear ci yi c9 v9 c10 v10
              go_wp2
              go_roundw
              case rel => exact ⟨t ++ [UInt8.ofNat (33 + u).toNat], i + 1, by omega, by omega, by go_num, by rw [HJ2.out], HT2, c11, y11⟩
              case measure => simp [intOf]; omega
            · go_wp2
              go_roundw
              case rel => exact ⟨t, k + 1, by omega, by omega, by go_num, rfl, (by have := ht.out; show (t.length : Int) ≤ _; omega), c9, yi.trans v9⟩
              case measure => simp [intOf]; omega
      · obtain rfl : k = M := by omega
        go_wp2_with fail
        refine (below_small _ g 12 (by omega) (by omega) _ cc).mono ?_
        rintro e w12 ⟨r, ⟨r0, r1⟩, rfl, c12, v12⟩
        have y12 := yy.trans v12
        have HX := Lib.hid (But.toExt x1 hg y12)
        clear cc yy v12
        rcases (show r = 0 ∨ r = 1 ∨ 2 ≤ r by omega) with rfl | rfl | r2
        · have bx := Box.new w12 9 #[.string (strOf [32]), .string (strOf [32, 32]), .string (strOf [9]), .string (strOf [10]), .string (strOf [127]), .string (strOf [233])]
          have c13 := c12.ext ((Ext.refl w12).alloc (.cells #[.string (strOf [32]), .string (strOf [32, 32]), .string (strOf [9]), .string (strOf [10]), .string (strOf [127]), .string (strOf [233])] 9))
          have y13 := y12.alloc (.cells #[.string (strOf [32]), .string (strOf [32, 32]), .string (strOf [9]), .string (strOf [10]), .string (strOf [127]), .string (strOf [233])] 9)
          have hgl := c12.lt
          clear c12 y12
          go_wp2_with fail
          refine (pickS_any _ g w12.heap.size 6 6 2 [strOf [32], strOf [32, 32], strOf [9], strOf [10], strOf [127], strOf [233]] rfl (by omega) (by omega) (by intro s hs; simp at hs; rcases hs with rfl | rfl | rfl | rfl | rfl | rfl <;> rw [strOf_size] <;> simp) _ c13 (by omega) bx.lt (fun i hi => (bx.cell i).trans (by match i, hi with | 0, _ => rfl | 1, _ => rfl | 2, _ => rfl | 3, _ => rfl | 4, _ => rfl | 5, _ => rfl))).mono ?_
          rintro e w13 ⟨s, hs, rfl, c14, v14⟩
          obtain ⟨l2, rfl⟩ : ∃ l2, s = strOf l2 := ⟨s.data.toList, by apply ByteArray.ext; simp [strOf]⟩
          rw [strOf_size] at hs
          have hroom := room l l2 (by have := hl.out; omega)
          have HJ := Lib.hid (strOf_append l l2)
          have HY := Lib.hid (But.toExt x1 hg (y13.trans v14))
          clear bx c13 y13 c14 v14
          go_wp2
          go_ret
          exact ⟨l ++ l2, (by have := hl.out; rw [List.length_append]; omega), (by first | rfl | (rw [HJ.out]; rfl) | simp [strOf_append]), HY.out⟩
        · by_cases h6 : (l.length : Int) < 600
          · have hs6 : ((strOf l).size : Int) < 600 := by rw [strOf_size]; exact h6
            go_wp2_with fail
            refine (below_small _ g 2 (by omega) (by omega) _ c12).mono ?_
            rintro e w13 ⟨q, ⟨q0, q1⟩, rfl, c13, v13⟩
            obtain ⟨L, hL⟩ := Int.eq_ofNat_of_zero_le (show 0 ≤ 600 - ((strOf l).size : Int) + q by omega)
            have WA : IntKind.i64.wrap (600 - ((strOf l).size : Int)) = 600 - ((strOf l).size : Int) := by rw [IntKind.wrap_i64]; omega
            have WB : IntKind.i64.wrap (600 - ((strOf l).size : Int) + q) = (L : Int) := by rw [IntKind.wrap_i64]; omega
            have HL3 := Lib.hid (show L ≤ 601 by omega)
            clear hL
            go_wp2_with fail
            refine (long_any L 32 32 rfl (by have := HL3.out; omega) _).mono ?_
            rintro e w14 ⟨l2, hl2, rfl, x14⟩
            have hroom := room l l2 (by have := hl.out; have := HL3.out; omega)
            have HJ := Lib.hid (strOf_append l l2)
            have HY := Lib.hid (But.toExt x1 hg ((y12.trans v13).trans (But.ext x14)))
            have HLL : Hid ((l ++ l2).length ≤ 2000) := by
              have h1 := hl.out
              have h2 := HL3.out
              show (l ++ l2).length ≤ 2000
              rw [List.length_append]
              omega
            clear WA WB c12 y12 c13 v13 x14 hl2 q0 q1 hs6
            go_wp2
            go_ret
            exact ⟨l ++ l2, HLL.out, (by first | rfl | (rw [HJ.out]; rfl) | simp [strOf_append]), HY.out⟩
          · have hs6 : decide (((strOf l).size : Int) < 600) = false := by rw [strOf_size]; exact decide_eq_false h6
            clear h6
            go_wp2
            go_ret
            exact ⟨l, (by have := hl.out; omega), rfl, HX.out⟩
        · have e0 : (r == 0) = false := by rw [beq_eq_false_iff_ne]; omega
          have e1 : (r == 1) = false := by rw [beq_eq_false_iff_ne]; omega
          clear r0 r1 r2
          go_wp2
          go_ret
          exact ⟨l, (by have := hl.out; omega), rfl, HX.out⟩
  · go_wp2_with fail
    refine (below_small _ g 2 (by omega) (by omega) _ c3).mono ?_
    rintro e w4 ⟨q, ⟨q0, q1⟩, rfl, c4, v4⟩
    have M0 : 0 ≤ 24 + q := by omega
    have M1 : 24 + q ≤ 26 := by omega
    have WQ : IntKind.i64.wrap (24 + q) = 24 + q := by rw [IntKind.wrap_i64]; omega
    have cW := c4
    have yW := y3.trans v4
    clear m0 m1 c3 y3 c4 v4 q0 q1
    go_wp2
    generalize 24 + q = M at *
    go_loopw [5, 6] (fun s i wr => ∃ (l : List UInt8) (k : Int), 0 ≤ k ∧ k ≤ M ∧ i = .int .i64 k ∧ s = .string (strOf l) ∧ Hid ((l.length : Int) ≤ 8 * k) ∧ Cur w.heap.size g wr ∧ But g w1 wr)
      (fun _ i _ => (M - intOf i).toNat)
    case atStart => exact ⟨[], 0, by omega, by omega, rfl, rfl, (by show (([] : List UInt8).length : Int) ≤ _; simp), cW, yW⟩
    case round =>
      clear cW yW
      obtain ⟨l, k, k0, k1, rfl, rfl, hl, cc, yy⟩ := hrel
      by_cases hlt : k < M
      · rcases (show k = 0 ∨ 0 < k by omega) with hk | hk
        · go_wp2_with fail
          refine (once_any _ g 5 (by omega) (by omega) _ cc).mono ?_
          rintro e w5 ⟨b, rfl, c5, v5⟩
          replace yy := yy.trans v5
          replace cc := c5
          clear c5 v5
          rcases b with _ | _
          · have HN : Hid ((l.length : Int) ≤ 8 * k + 3) := by
              have h1 := hl.out
              show (l.length : Int) ≤ 8 * k + 3
              omega
            go_wp2
            go_loopw [5, 7] (fun s j wr => ∃ (t : List UInt8) (i : Int), 0 ≤ i ∧ i ≤ 5 ∧ j = .int .i64 i ∧ s = .string (strOf t) ∧ Hid ((t.length : Int) ≤ 8 * k + 3 + i) ∧ Cur w.heap.size g wr ∧ But g w1 wr)
              (fun _ j _ => (5 - intOf j).toNat)
            case atStart => exact ⟨l, 0, by omega, by omega, rfl, rfl, (by have := HN.out; show ((l).length : Int) ≤ _; omega), cc, yy⟩
            case round =>
              clear cc yy
              obtain ⟨t, i, i0, i1, rfl, rfl, ht, ci, yi⟩ := hrel
              go_wp2_with fail
              refine (below_small _ g 5 (by omega) (by omega) _ ci).mono ?_
              rintro e w9 ⟨r, ⟨r0, r1⟩, rfl, c9, v9⟩
              by_cases hr : i ≤ r
              · go_wp2_with fail
                refine (below_small _ g 94 (by omega) (by omega) _ c9).mono ?_
                rintro e w10 ⟨u, ⟨u0, u1⟩, rfl, c10, v10⟩
                have WV : IntKind.i64.wrap (33 + u) = 33 + u := by rw [IntKind.wrap_i64]; omega
                have WU : IntKind.u8.wrap (33 + u) = 33 + u := by rw [IntKind.wrap_u8]; omega
                have HC := one_string w10 (UInt8.ofNat (33 + u).toNat)
                rw [byte_at _ (by omega) (by omega)] at HC
                have hroom2 := room t [UInt8.ofNat (33 + u).toNat] (by have := ht.out; simp; omega)
                have HJ2 := Lib.hid (strOf_append t [UInt8.ofNat (33 + u).toNat])
                have HT2 : Hid (((t ++ [UInt8.ofNat (33 + u).toNat]).length : Int) ≤ 8 * k + 3 + (i + 1)) := by
                  have h1 := ht.out
                  show ((t ++ [UInt8.ofNat (33 + u).toNat]).length : Int) ≤ 8 * k + 3 + (i + 1)
                  rw [List.length_append]
                  simp
                  omega
                have c11 := c10.ext ((Ext.refl w10).alloc (.cells #[.int .u8 (33 + u)] 5))
                have y11 := ((yi.trans v9).trans v10).alloc (.cells #[.int .u8 (33 + u)] 5)
                clear ci yi c9 v9 c10 v10
                go_wp2
                go_roundw
                case rel => exact ⟨t ++ [UInt8.ofNat (33 + u).toNat], i + 1, by omega, by omega, by go_num, by rw [HJ2.out], HT2, c11, y11⟩
                case measure => simp [intOf]; omega
              · go_wp2
                go_roundw
                case rel => exact ⟨t, k + 1, by omega, by omega, by go_num, rfl, (by have := ht.out; show (t.length : Int) ≤ _; omega), c9, yi.trans v9⟩
                case measure => simp [intOf]; omega
          · skip
            go_wp2_with fail
            refine (below_small _ g 2 (by omega) (by omega) _ cc).mono ?_
            rintro e w6 ⟨p, ⟨p0, p1⟩, rfl, c6, v6⟩
            go_wp2_with fail
            refine (below_small _ g 3 (by omega) (by omega) _ c6).mono ?_
            rintro e w7 ⟨q, ⟨q0, q1⟩, rfl, c7, v7⟩
            have hpq := one_mul_small p q p0 p1 q0 q1
            obtain ⟨L, hL⟩ := Int.eq_ofNat_of_zero_le (show 0 ≤ 1 + p * q by omega)
            have WPQ : IntKind.i64.wrap (p * q) = p * q := by rw [IntKind.wrap_i64]; omega
            have WL : IntKind.i64.wrap (1 + p * q) = (L : Int) := by rw [IntKind.wrap_i64]; omega
            have HL3 := Lib.hid (show L ≤ 3 by omega)
            clear hL hpq
            go_wp2_with fail
            refine (long_any L 32 32 rfl (by have := HL3.out; omega) _).mono ?_
            rintro e w8 ⟨l2, hl2, rfl, x8⟩
            have c8 := c7.ext x8
            have y8 := ((yy.trans v6).trans v7).trans (But.ext x8)
            have hroom := room l l2 (by have := hl.out; have := HL3.out; omega)
            have HN : Hid (((l ++ l2).length : Int) ≤ 8 * k + 3) := by
              have h1 := hl.out
              have h2 := HL3.out
              show ((l ++ l2).length : Int) ≤ 8 * k + 3
              rw [List.length_append]
              omega
            have HJ := Lib.hid (strOf_append l l2)
            clear WPQ WL p0 p1 q0 q1 cc yy c6 v6 c7 v7 x8 hl2
            go_wp2

            go_loopw [5, 7] (fun s j wr => ∃ (t : List UInt8) (i : Int), 0 ≤ i ∧ i ≤ 5 ∧ j = .int .i64 i ∧ s = .string (strOf t) ∧ Hid ((t.length : Int) ≤ 8 * k + 3 + i) ∧ Cur w.heap.size g wr ∧ But g w1 wr)
              (fun _ j _ => (5 - intOf j).toNat)
            case atStart => exact ⟨l ++ l2, 0, by omega, by omega, rfl, by rw [HJ.out], (by have := HN.out; show ((l ++ l2).length : Int) ≤ _; omega), c8, y8⟩
            case round =>
              clear c8 y8
              obtain ⟨t, i, i0, i1, rfl, rfl, ht, ci, yi⟩ := hrel
              go_wp2_with fail
              refine (below_small _ g 5 (by omega) (by omega) _ ci).mono ?_
              rintro e w9 ⟨r, ⟨r0, r1⟩, rfl, c9, v9⟩
              by_cases hr : i ≤ r
              · go_wp2_with fail
                refine (below_small _ g 94 (by omega) (by omega) _ c9).mono ?_
                rintro e w10 ⟨u, ⟨u0, u1⟩, rfl, c10, v10⟩
                have WV : IntKind.i64.wrap (33 + u) = 33 + u := by rw [IntKind.wrap_i64]; omega
                have WU : IntKind.u8.wrap (33 + u) = 33 + u := by rw [IntKind.wrap_u8]; omega
                have HC := one_string w10 (UInt8.ofNat (33 + u).toNat)
                rw [byte_at _ (by omega) (by omega)] at HC
                have hroom2 := room t [UInt8.ofNat (33 + u).toNat] (by have := ht.out; simp; omega)
                have HJ2 := Lib.hid (strOf_append t [UInt8.ofNat (33 + u).toNat])
                have HT2 : Hid (((t ++ [UInt8.ofNat (33 + u).toNat]).length : Int) ≤ 8 * k + 3 + (i + 1)) := by
                  have h1 := ht.out
                  show ((t ++ [UInt8.ofNat (33 + u).toNat]).length : Int) ≤ 8 * k + 3 + (i + 1)
                  rw [List.length_append]
                  simp
                  omega
                have c11 := c10.ext ((Ext.refl w10).alloc (.cells #[.int .u8 (33 + u)] 5))
                have y11 := ((yi.trans v9).trans v10).alloc (.cells #[.int .u8 (33 + u)] 5)
                clear ci yi c9 v9 c10 v10
                go_wp2
                go_roundw
                case rel => exact ⟨t ++ [UInt8.ofNat (33 + u).toNat], i + 1, by omega, by omega, by go_num, by rw [HJ2.out], HT2, c11, y11⟩
                case measure => simp [intOf]; omega
              · go_wp2
                go_roundw
                case rel => exact ⟨t, k + 1, by omega, by omega, by go_num, rfl, (by have := ht.out; show (t.length : Int) ≤ _; omega), c9, yi.trans v9⟩
                case measure => simp [intOf]; omega
        · skip
          go_wp2_with fail
          refine (below_small _ g 2 (by omega) (by omega) _ cc).mono ?_
          rintro e w6 ⟨p, ⟨p0, p1⟩, rfl, c6, v6⟩
          go_wp2_with fail
          refine (below_small _ g 3 (by omega) (by omega) _ c6).mono ?_
          rintro e w7 ⟨q, ⟨q0, q1⟩, rfl, c7, v7⟩
          have hpq := one_mul_small p q p0 p1 q0 q1
          obtain ⟨L, hL⟩ := Int.eq_ofNat_of_zero_le (show 0 ≤ 1 + p * q by omega)
          have WPQ : IntKind.i64.wrap (p * q) = p * q := by rw [IntKind.wrap_i64]; omega
          have WL : IntKind.i64.wrap (1 + p * q) = (L : Int) := by rw [IntKind.wrap_i64]; omega
          have HL3 := Lib.hid (show L ≤ 3 by omega)
          clear hL hpq
          go_wp2_with fail
          refine (long_any L 32 32 rfl (by have := HL3.out; omega) _).mono ?_
          rintro e w8 ⟨l2, hl2, rfl, x8⟩
          have c8 := c7.ext x8
          have y8 := ((yy.trans v6).trans v7).trans (But.ext x8)
          have hroom := room l l2 (by have := hl.out; have := HL3.out; omega)
          have HN : Hid (((l ++ l2).length : Int) ≤ 8 * k + 3) := by
            have h1 := hl.out
            have h2 := HL3.out
            show ((l ++ l2).length : Int) ≤ 8 * k + 3
            rw [List.length_append]
            omega
          have HJ := Lib.hid (strOf_append l l2)
          clear WPQ WL p0 p1 q0 q1 cc yy c6 v6 c7 v7 x8 hl2
          go_wp2

          go_loopw [5, 7] (fun s j wr => ∃ (t : List UInt8) (i : Int), 0 ≤ i ∧ i ≤ 5 ∧ j = .int .i64 i ∧ s = .string (strOf t) ∧ Hid ((t.length : Int) ≤ 8 * k + 3 + i) ∧ Cur w.heap.size g wr ∧ But g w1 wr)
            (fun _ j _ => (5 - intOf j).toNat)
          case atStart => exact ⟨l ++ l2, 0, by omega, by omega, rfl, by rw [HJ.out], (by have := HN.out; show ((l ++ l2).length : Int) ≤ _; omega), c8, y8⟩
          case round =>
            clear c8 y8
            obtain ⟨t, i, i0, i1, rfl, rfl, ht, ci, yi⟩ := hrel
            go_wp2_with fail
            refine (below_small _ g 5 (by omega) (by omega) _ ci).mono ?_
            rintro e w9 ⟨r, ⟨r0, r1⟩, rfl, c9, v9⟩
            by_cases hr : i ≤ r
            · go_wp2_with fail
              refine (below_small _ g 94 (by omega) (by omega) _ c9).mono ?_
              rintro e w10 ⟨u, ⟨u0, u1⟩, rfl, c10, v10⟩
              have WV : IntKind.i64.wrap (33 + u) = 33 + u := by rw [IntKind.wrap_i64]; omega
              have WU : IntKind.u8.wrap (33 + u) = 33 + u := by rw [IntKind.wrap_u8]; omega
              have HC := one_string w10 (UInt8.ofNat (33 + u).toNat)
              rw [byte_at _ (by omega) (by omega)] at HC
              have hroom2 := room t [UInt8.ofNat (33 + u).toNat] (by have := ht.out; simp; omega)
              have HJ2 := Lib.hid (strOf_append t [UInt8.ofNat (33 + u).toNat])
              have HT2 : Hid (((t ++ [UInt8.ofNat (33 + u).toNat]).length : Int) ≤ 8 * k + 3 + (i + 1)) := by
                have h1 := ht.out
                show ((t ++ [UInt8.ofNat (33 + u).toNat]).length : Int) ≤ 8 * k + 3 + (i + 1)
                rw [List.length_append]
                simp
                omega
              have c11 := c10.ext ((Ext.refl w10).alloc (.cells #[.int .u8 (33 + u)] 5))
              have y11 := ((yi.trans v9).trans v10).alloc (.cells #[.int .u8 (33 + u)] 5)
              clear ci yi c9 v9 c10 v10
              go_wp2
              go_roundw
              case rel => exact ⟨t ++ [UInt8.ofNat (33 + u).toNat], i + 1, by omega, by omega, by go_num, by rw [HJ2.out], HT2, c11, y11⟩
              case measure => simp [intOf]; omega
            · go_wp2
              go_roundw
              case rel => exact ⟨t, k + 1, by omega, by omega, by go_num, rfl, (by have := ht.out; show (t.length : Int) ≤ _; omega), c9, yi.trans v9⟩
              case measure => simp [intOf]; omega
      · obtain rfl : k = M := by omega
        go_wp2_with fail
        refine (below_small _ g 12 (by omega) (by omega) _ cc).mono ?_
        rintro e w12 ⟨r, ⟨r0, r1⟩, rfl, c12, v12⟩
        have y12 := yy.trans v12
        have HX := Lib.hid (But.toExt x1 hg y12)
        clear cc yy v12
        rcases (show r = 0 ∨ r = 1 ∨ 2 ≤ r by omega) with rfl | rfl | r2
        · have bx := Box.new w12 9 #[.string (strOf [32]), .string (strOf [32, 32]), .string (strOf [9]), .string (strOf [10]), .string (strOf [127]), .string (strOf [233])]
          have c13 := c12.ext ((Ext.refl w12).alloc (.cells #[.string (strOf [32]), .string (strOf [32, 32]), .string (strOf [9]), .string (strOf [10]), .string (strOf [127]), .string (strOf [233])] 9))
          have y13 := y12.alloc (.cells #[.string (strOf [32]), .string (strOf [32, 32]), .string (strOf [9]), .string (strOf [10]), .string (strOf [127]), .string (strOf [233])] 9)
          have hgl := c12.lt
          clear c12 y12
          go_wp2_with fail
          refine (pickS_any _ g w12.heap.size 6 6 2 [strOf [32], strOf [32, 32], strOf [9], strOf [10], strOf [127], strOf [233]] rfl (by omega) (by omega) (by intro s hs; simp at hs; rcases hs with rfl | rfl | rfl | rfl | rfl | rfl <;> rw [strOf_size] <;> simp) _ c13 (by omega) bx.lt (fun i hi => (bx.cell i).trans (by match i, hi with | 0, _ => rfl | 1, _ => rfl | 2, _ => rfl | 3, _ => rfl | 4, _ => rfl | 5, _ => rfl))).mono ?_
          rintro e w13 ⟨s, hs, rfl, c14, v14⟩
          obtain ⟨l2, rfl⟩ : ∃ l2, s = strOf l2 := ⟨s.data.toList, by apply ByteArray.ext; simp [strOf]⟩
          rw [strOf_size] at hs
          have hroom := room l l2 (by have := hl.out; omega)
          have HJ := Lib.hid (strOf_append l l2)
          have HY := Lib.hid (But.toExt x1 hg (y13.trans v14))
          clear bx c13 y13 c14 v14
          go_wp2
          go_ret
          exact ⟨l ++ l2, (by have := hl.out; rw [List.length_append]; omega), (by first | rfl | (rw [HJ.out]; rfl) | simp [strOf_append]), HY.out⟩
        · by_cases h6 : (l.length : Int) < 600
          · have hs6 : ((strOf l).size : Int) < 600 := by rw [strOf_size]; exact h6
            go_wp2_with fail
            refine (below_small _ g 2 (by omega) (by omega) _ c12).mono ?_
            rintro e w13 ⟨q, ⟨q0, q1⟩, rfl, c13, v13⟩
            obtain ⟨L, hL⟩ := Int.eq_ofNat_of_zero_le (show 0 ≤ 600 - ((strOf l).size : Int) + q by omega)
            have WA : IntKind.i64.wrap (600 - ((strOf l).size : Int)) = 600 - ((strOf l).size : Int) := by rw [IntKind.wrap_i64]; omega
            have WB : IntKind.i64.wrap (600 - ((strOf l).size : Int) + q) = (L : Int) := by rw [IntKind.wrap_i64]; omega
            have HL3 := Lib.hid (show L ≤ 601 by omega)
            clear hL
            go_wp2_with fail
            refine (long_any L 32 32 rfl (by have := HL3.out; omega) _).mono ?_
            rintro e w14 ⟨l2, hl2, rfl, x14⟩
            have hroom := room l l2 (by have := hl.out; have := HL3.out; omega)
            have HJ := Lib.hid (strOf_append l l2)
            have HY := Lib.hid (But.toExt x1 hg ((y12.trans v13).trans (But.ext x14)))
            have HLL : Hid ((l ++ l2).length ≤ 2000) := by
              have h1 := hl.out
              have h2 := HL3.out
              show (l ++ l2).length ≤ 2000
              rw [List.length_append]
              omega
            clear WA WB c12 y12 c13 v13 x14 hl2 q0 q1 hs6
            go_wp2
            go_ret
            exact ⟨l ++ l2, HLL.out, (by first | rfl | (rw [HJ.out]; rfl) | simp [strOf_append]), HY.out⟩
          · have hs6 : decide (((strOf l).size : Int) < 600) = false := by rw [strOf_size]; exact decide_eq_false h6
            clear h6
            go_wp2
            go_ret
            exact ⟨l, (by have := hl.out; omega), rfl, HX.out⟩
        · have e0 : (r == 0) = false := by rw [beq_eq_false_iff_ne]; omega
          have e1 : (r == 1) = false := by rw [beq_eq_false_iff_ne]; omega
          clear r0 r1 r2
          go_wp2
          go_ret
          exact ⟨l, (by have := hl.out; omega), rfl, HX.out⟩

end Go.Proofs.Ytmokjebcjmphkaa
