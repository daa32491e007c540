/- Walk of the reference's FormatInt at a negative number, and at every number. -/
import Derived.Test.YtamlfjkkpgmjiaaDoorDecW
set_option maxRecDepth 20000
namespace Go.Proofs.YtamlfjkkpgmjiaaDoor
open Go.RowKit
open Go.Lib (decDigits itoa)

theorem neg_tmod (m : Nat) : (-(m : Int)).tmod 10 = -((m % 10 : Nat) : Int) := by
  rw [Int.neg_tmod, Int.tmod_eq_emod_of_nonneg (by omega)]; omega
theorem neg_tdiv (m : Nat) : (-(m : Int)).tdiv 10 = -((m / 10 : Nat) : Int) := by
  rw [Int.neg_tdiv, Int.tdiv_eq_ediv_of_nonneg (by omega)]; omega

set_option maxHeartbeats 1000000 in
theorem spec_format_neg (n : Nat) (h1 : 0 < n) (h2 : n ≤ 9223372036854775808) (w : World) : Calls Tryd.prog 22 #[.int .i64 (-(n : Int))] w fun e w' => e = .returned (.string (strOf (45 :: decDigits n))) ∧ Ext w w' := by
  have hlen := dec_length n 18 (by omega)
  have hq : ((-(n : Int)) == 0) = false := by rw [beq_eq_false_iff_ne]; omega
  have hlt : (-(n : Int)) < 0 := by omega
  go_enter Tryd.func22, Tryd.ntmps22
  go_wp2
  go_loopw [0, 4] (fun i v wr => ∃ (m : Nat) (l : List UInt8), m ≤ n ∧ i = .int .i64 (-(m : Int)) ∧ v = .string (strOf l) ∧ Hid (decX m ++ l = decDigits n) ∧ Ext w wr)
    (fun i _ _ => (intOf i).natAbs)
  case atStart => exact ⟨n, [], Nat.le_refl _, rfl, rfl, (by show decX n ++ [] = _; rw [List.append_nil, decX, if_neg (by omega)]), Ext.refl w⟩
  case round =>
    obtain ⟨m, l, hm, rfl, rfl, hd, xr⟩ := hrel
    by_cases h0 : 0 < m
    · have hm0 : (-(m : Int)) ≠ 0 := by omega
      have HS := Lib.hid (decX_step m h0)
      have hl : l.length ≤ 19 := by have := congrArg List.length hd.out; simp at this; omega
      have hsz : (strOf l).size = l.length := by simp [strOf, ByteArray.size]
      have hroom : ¬ (9223372036854775807 < (strOf [figB (m % 10)]).size + (strOf l).size) := by rw [hsz]; simp [strOf, ByteArray.size]; omega
      have HC := one_string wr (figB (m % 10))
      have E1 := neg_tmod m
      have E2 := neg_tdiv m
      have hm10 : m % 10 < 10 := Nat.mod_lt _ (by omega)
      by_cases hz : m % 10 = 0
      · have E3 : ¬ (-((m % 10 : Nat) : Int)) < 0 := by omega
        have HZ := Lib.hid hz
        clear hz
        go_wp2_with (go_at_call 41; refine (spec_figure (m % 10) _ (by have := HZ.out; omega) (by omega) _).mono ?_; rintro e w' ⟨rfl, rfl⟩)
        all_goals
          go_roundw
          case rel => exact ⟨m / 10, figB (m % 10) :: l, by omega, by go_num, (by rw [strOf_append]; rfl), (by have := hd.out; rw [HS.out, List.append_assoc] at this; exact this), xr.alloc _⟩
          case measure => simp [intOf]; omega
      · have E3 : (-((m % 10 : Nat) : Int)) < 0 := by omega
        go_wp2_with (go_at_call 41; refine (spec_figure (m % 10) _ (by omega) (by omega) _).mono ?_; rintro e w' ⟨rfl, rfl⟩)
        all_goals
          go_roundw
          case rel => exact ⟨m / 10, figB (m % 10) :: l, by omega, by go_num, (by rw [strOf_append]; rfl), (by have := hd.out; rw [HS.out, List.append_assoc] at this; exact this), xr.alloc _⟩
          case measure => simp [intOf]; omega
    · obtain rfl : m = 0 := by omega
      have hdd : l = decDigits n := hd.out
      subst hdd
      have hsz : (strOf (decDigits n)).size = (decDigits n).length := by simp [strOf, ByteArray.size]
      have hroom : ¬ (9223372036854775807 < (ByteArray.mk #[45]).size + (strOf (decDigits n)).size) := by rw [hsz]; simp [ByteArray.size]; omega
      go_wp2
      go_ret
      exact ⟨by rw [show (ByteArray.mk #[45]) = strOf [45] from rfl, strOf_append]; rfl, xr⟩

theorem spec_itoa (n : Int) (h0 : -9223372036854775808 ≤ n) (h1 : n ≤ 9223372036854775807) (w : World) : Calls Tryd.prog 22 #[.int .i64 n] w fun e w' => e = .returned (.string (strOf (itoa n))) ∧ Ext w w' := by
  unfold itoa
  by_cases h : n < 0
  · rw [if_pos h]
    have e : n = -((n.natAbs : Nat) : Int) := by omega
    generalize n.natAbs = m at *
    subst e
    exact spec_format_neg m (by omega) (by omega) w
  · rw [if_neg h]
    exact spec_format n.toNat n (by omega) (by omega) w

end Go.Proofs.YtamlfjkkpgmjiaaDoor
