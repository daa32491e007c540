/- Contracts of the functions of bits (BitOf, WithBit, CountBits, ParityOf, Mix), of the program and of the reference. -/
import Derived.Test.YtamlfjkkpgmjiaaDoorWordW
import Derived.Test.YtamlfjkkpgmjiaaDoorPopP
namespace Go.Proofs.YtamlfjkkpgmjiaaDoor
open Go.RowKit

/-! ### the walk's forms of OnesCount64's steps -/

theorem wrap_u64_nat (n : Nat) (h : n < 18446744073709551616) : IntKind.u64.wrap (n : Int) = (n : Int) := by
  rw [IntKind.wrap_u64]; omega

theorem w1_eq (x : Nat) (h : x < 4294967296) : IntKind.u64.wrap (bits .and .u64 ((x : Int) / 2) 6148914691236517205 + bits .and .u64 (x : Int) 6148914691236517205) = (half 16 x : Int) ∧ half 16 x < 8589934592 := by
  have e : half 16 x = (x / 2 &&& 6148914691236517205) + (x &&& 6148914691236517205) := by unfold half; rw [fives_16]
  have h1 : x / 2 &&& 6148914691236517205 ≤ x / 2 := Nat.and_le_left
  have h2 : x &&& 6148914691236517205 ≤ x := Nat.and_le_left
  have hb : half 16 x < 8589934592 := by omega
  refine ⟨?_, hb⟩
  rw [show ((x : Int) / 2) = ((x / 2 : Nat) : Int) by omega, show (6148914691236517205 : Int) = ((6148914691236517205 : Nat) : Int) from rfl, u64_and_nat _ _ (by omega) (by omega), u64_and_nat _ _ (by omega) (by omega), ← Int.natCast_add, ← e]
  exact wrap_u64_nat _ (by omega)

theorem w2_eq (x : Nat) (h : x < 8589934592) : IntKind.u64.wrap (bits .and .u64 ((x : Int) / 4) 3689348814741910323 + bits .and .u64 (x : Int) 3689348814741910323) = (quart 16 x : Int) ∧ quart 16 x < 17179869184 := by
  have e : quart 16 x = (x / 4 &&& 3689348814741910323) + (x &&& 3689348814741910323) := by unfold quart; rw [threes_16]
  have h1 : x / 4 &&& 3689348814741910323 ≤ x / 4 := Nat.and_le_left
  have h2 : x &&& 3689348814741910323 ≤ x := Nat.and_le_left
  have hb : quart 16 x < 17179869184 := by omega
  refine ⟨?_, hb⟩
  rw [show ((x : Int) / 4) = ((x / 4 : Nat) : Int) by omega, show (3689348814741910323 : Int) = ((3689348814741910323 : Nat) : Int) from rfl, u64_and_nat _ _ (by omega) (by omega), u64_and_nat _ _ (by omega) (by omega), ← Int.natCast_add, ← e]
  exact wrap_u64_nat _ (by omega)

theorem w3_eq (x : Nat) (h : x < 17179869184) : bits .and .u64 (IntKind.u64.wrap ((x : Int) / 16 + (x : Int))) 1085102592571150095 = (st3 x : Int) ∧ st3 x < 34359738368 := by
  have e : st3 x = (x / 16 + x) &&& 1085102592571150095 := by unfold st3; exact Eq.refl _
  have h1 : (x / 16 + x) &&& 1085102592571150095 ≤ x / 16 + x := Nat.and_le_left
  refine ⟨?_, by omega⟩
  rw [show ((x : Int) / 16 + (x : Int)) = ((x / 16 + x : Nat) : Int) by omega, wrap_u64_nat _ (by omega), show (1085102592571150095 : Int) = ((1085102592571150095 : Nat) : Int) from rfl, u64_and_nat _ _ (by omega) (by omega), ← e]

theorem w4_eq (x : Nat) (h : x < 34359738368) : IntKind.u64.wrap ((x : Int) + (x : Int) / 256) = (st4 x : Int) ∧ st4 x < 68719476736 := by
  have e : st4 x = x + x / 256 := by unfold st4; exact Eq.refl _
  refine ⟨?_, by omega⟩
  rw [show ((x : Int) + (x : Int) / 256) = ((x + x / 256 : Nat) : Int) by omega, wrap_u64_nat _ (by omega), ← e]

theorem w5_eq (x : Nat) (h : x < 68719476736) : IntKind.u64.wrap ((x : Int) + (x : Int) / 65536) = (st5 x : Int) ∧ st5 x < 137438953472 := by
  have e : st5 x = x + x / 65536 := by unfold st5; exact Eq.refl _
  refine ⟨?_, by omega⟩
  rw [show ((x : Int) + (x : Int) / 65536) = ((x + x / 65536 : Nat) : Int) by omega, wrap_u64_nat _ (by omega), ← e]

theorem w6_eq (x : Nat) (h : x < 137438953472) : bits .and .i64 (wrap64 (IntKind.u64.wrap ((x : Int) + (x : Int) / 4294967296))) 127 = (st6 x : Int) := by
  have e : st6 x = (x + x / 4294967296) % 128 := by unfold st6; exact Eq.refl _
  rw [show ((x : Int) + (x : Int) / 4294967296) = ((x + x / 4294967296 : Nat) : Int) by omega, wrap_u64_nat _ (by omega), IntWalk.wrap64_in _ (by omega), show (127 : Int) = ((127 : Nat) : Int) from rfl, i64_and_nat _ _ (by omega) (by omega), e]
  congr 1
  exact Nat.and_two_pow_sub_one_eq_mod _ 7

theorem ones64 (x : Nat) (h2 : x < 4294967296) (w : World) : Calls Tryd.prog 66 #[.int .u64 x] w fun e w' => e = .returned (.int .i64 (popN x 32)) ∧ w = w' := by
  go_enter Tryd.func66, Tryd.ntmps66
  go_wp2
  go_ret
  refine ⟨ret_int ?_, rfl⟩
  have a1 := w1_eq x h2
  have a2 := w2_eq _ a1.2
  have a3 := w3_eq _ a2.2
  have a4 := w4_eq _ a3.2
  have a5 := w5_eq _ a4.2
  have a6 := w6_eq _ a5.2
  rw [a1.1, a2.1, a3.1, a4.1, a5.1, a6, ← ones_pop x h2]
  unfold onesOf
  exact Eq.refl _

/-! ### BitOf -/
def bitF (x i : Int) : Int := if btw x 0 4294967295 && btw i 0 31 then (bitN x.toNat i.toNat : Int) else 0

theorem bitF_range (x i : Int) : 0 ≤ bitF x i ∧ bitF x i ≤ 1 := by
  unfold bitF
  have := bitN_le x.toNat i.toNat
  split <;> omega


theorem spec_bitOf (x i : Int) (w : World) : Calls Tryd.prog 49 #[.int .i64 x, .int .i64 i] w fun e w' => e = .returned (.int .i64 (bitF x i)) ∧ w = w' := by
  cases hb : btw x 0 4294967295 with
  | false =>
    go_enter Tryd.func49, Tryd.ntmps49
    go_wp2_with (first | (go_at_call 58; refine (spec_isWord _ _).mono ?_; rintro e w' ⟨rfl, rfl⟩) | (go_at_call 40; refine (spec_in _ _ _ _).mono ?_; rintro e w' ⟨rfl, rfl⟩))
    go_ret
    exact ⟨by simp [bitF, hb], rfl⟩
  | true =>
    cases hc : btw i 0 31 with
    | false =>
      go_enter Tryd.func49, Tryd.ntmps49
      go_wp2_with (first | (go_at_call 58; refine (spec_isWord _ _).mono ?_; rintro e w' ⟨rfl, rfl⟩) | (go_at_call 40; refine (spec_in _ _ _ _).mono ?_; rintro e w' ⟨rfl, rfl⟩))
      go_ret
      exact ⟨by simp [bitF, hc], rfl⟩
    | true =>
      obtain ⟨h1, h2⟩ := btw_iff.1 hb
      obtain ⟨h3, h4⟩ := btw_iff.1 hc
      go_enter Tryd.func49, Tryd.ntmps49
      go_wp2_with (first | (go_at_call 58; refine (spec_isWord _ _).mono ?_; rintro e w' ⟨rfl, rfl⟩) | (go_at_call 40; refine (spec_in _ _ _ _).mono ?_; rintro e w' ⟨rfl, rfl⟩))
      go_ret
      refine ⟨ret_int ?_, rfl⟩
      rw [bitF, if_pos (by rw [hb, hc]; rfl), ← bits_eq x.toNat i.toNat (by omega), Int.toNat_of_nonneg h1]

/-! ### WithBit -/
def setF (x i b : Int) : Int := if btw x 0 4294967295 && (btw i 0 31 && btw b 0 1) then (setN x.toNat i.toNat b.toNat : Int) else x

theorem set_eq (x i b : Nat) (hx : x < 4294967296) (hi : i < 32) (hb : b ≤ 1) : bits .or .i64 (bits .andNot .i64 (x : Int) (wrap64 (2 ^ i))) (wrap64 ((b : Int) * 2 ^ i)) = (setN x i b : Int) := by
  have hp : 2 ^ i < 2 ^ 32 := Nat.pow_lt_pow_right (by omega) hi
  have hm : b * 2 ^ i ≤ 2 ^ i := by
    rcases Nat.lt_or_ge b 1 with h | h
    · have : b = 0 := by omega
      subst this; simp
    · have : b = 1 := by omega
      subst this; simp
  have e1 : ((2 : Int) ^ i) = ((2 ^ i : Nat) : Int) := by simp
  have hS : setN x i b = (x &&& (18446744073709551615 - 2 ^ i)) ||| (b * 2 ^ i) := by unfold setN; exact Eq.refl _
  rw [e1, hS]
  generalize 2 ^ i = p at *
  generalize hq : b * p = q at *
  have hle : x &&& (18446744073709551615 - p) ≤ x := Nat.and_le_left
  rw [← Int.natCast_mul, hq, IntWalk.wrap64_in _ (by omega), IntWalk.wrap64_in _ (by omega), i64_andNot_nat _ _ (by omega) (by omega), i64_or_nat _ _ (by omega) (by omega)]



/-! ### Mix -/
def mixIt : Nat → Nat → Nat
  | 0, x => x
  | k + 1, x => mixStep (mixIt k x)

theorem mixIt_lt (k x : Nat) (h : x < 4294967296) : mixIt k x < 4294967296 := by
  cases k with
  | zero => exact h
  | succ k => exact mixStep_lt _

theorem rot_eq (x : Nat) (h : x < 4294967296) : bits .xor .i64 (x : Int) ((x : Int) / 65536) = (rotN x : Int) := by
  rw [show ((x : Int) / 65536) = ((x / 65536 : Nat) : Int) by omega, i64_xor_nat _ _ (by omega) (by omega)]
  unfold rotN
  exact Eq.refl _

theorem step_eq (x : Nat) (h : x < 4294967296) : bits .and .i64 (wrap64 (bits .xor .i64 (x : Int) ((x : Int) / 65536) * 73244475)) 4294967295 = (mixStep x : Int) := by
  have := rotN_lt x h
  rw [rot_eq x h, show ((rotN x : Int) * 73244475) = ((rotN x * 73244475 : Nat) : Int) by omega, IntWalk.wrap64_in _ (by omega), show (4294967295 : Int) = ((4294967295 : Nat) : Int) from rfl, i64_and_nat _ _ (by omega) (by omega)]
  congr 1
  exact Nat.and_two_pow_sub_one_eq_mod _ 32
def mixF (x : Int) : Int := if btw x 0 4294967295 then (mixN x.toNat : Int) else 0



/-! ### CountBits and ParityOf -/
def popF (x : Int) : Int := if btw x 0 4294967295 then (popN x.toNat 32 : Int) else 0

theorem popF_range (x : Int) : 0 ≤ popF x ∧ popF x ≤ 32 := by
  unfold popF
  have := popN_le x.toNat 32
  split <;> omega

theorem bitF_nat (n k : Nat) (hn : n < 4294967296) (hk : k < 32) : bitF (n : Int) (k : Int) = (bitN n k : Int) := by
  rw [bitF, if_pos (by rw [btw_true (by omega) (by omega), btw_true (by omega) (by omega)]; rfl)]
  simp

theorem bitF_no (x i : Int) (h : btw x 0 4294967295 = false) : bitF x i = 0 := by rw [bitF, if_neg (by simp [h])]

theorem spec_countBits (x : Int) (w : World) : Calls Tryd.prog 39 #[.int .i64 x] w fun e w' => e = .returned (.int .i64 (popF x)) ∧ w = w' := by
  cases hx : btw x 0 4294967295 with
  | false =>
    have hF : popF x = 0 := by rw [popF, if_neg (by simp [hx])]
    rw [hF]
    clear hF
    go_enter Tryd.func39, Tryd.ntmps39
    go_wp2
    go_loop [3, 4] (fun n i => ∃ k : Nat, k ≤ 32 ∧ i = .int .i64 k ∧ n = .int .i64 0) (fun _ i => 32 - (intOf i).toNat)
    case atStart => exact ⟨0, by omega, rfl, rfl⟩
    case round =>
      obtain ⟨k, hk, rfl, rfl⟩ := hrel
      have hz := bitF_no x (k : Int) hx
      by_cases hlt : k < 32
      · go_wp2_with (go_at_call 49; refine (spec_bitOf _ _ _).mono ?_; rintro e w' ⟨rfl, rfl⟩)
        go_round
        case rel => exact ⟨k + 1, by omega, by go_num, rfl⟩
        case measure => simp [intOf]; omega
      · go_wp2
        go_ret
        exact ⟨rfl, rfl⟩
  | true =>
    obtain ⟨h1, h2⟩ := btw_iff.1 hx
    obtain ⟨n, rfl⟩ := Int.eq_ofNat_of_zero_le h1
    have hn : n < 4294967296 := by omega
    have hF : popF (n : Int) = (popN n 32 : Int) := by rw [popF, if_pos hx]; rfl
    rw [hF]
    clear hF
    go_enter Tryd.func39, Tryd.ntmps39
    go_wp2
    go_loop [3, 4] (fun s i => ∃ k : Nat, k ≤ 32 ∧ i = .int .i64 k ∧ s = .int .i64 (popN n k)) (fun _ i => 32 - (intOf i).toNat)
    case atStart => exact ⟨0, by omega, rfl, rfl⟩
    case round =>
      obtain ⟨k, hk, rfl, rfl⟩ := hrel
      have hp := popN_le n k
      have hr := bitF_range (n : Int) (k : Int)
      by_cases hlt : k < 32
      · have hz := Lib.hid (bitF_nat n k hn hlt)
        go_wp2_with (go_at_call 49; refine (spec_bitOf _ _ _).mono ?_; rintro e w' ⟨rfl, rfl⟩)
        go_round
        case rel => exact ⟨k + 1, by omega, by go_num, by rw [hz.out, popN]; simp⟩
        case measure => simp [intOf]; omega
      · obtain rfl : k = 32 := by omega
        go_wp2
        go_ret
        exact ⟨rfl, rfl⟩

theorem impl_countBits (x : Int) (w : World) : Calls Tryd.prog 48 #[.int .i64 x] w fun e w' => e = .returned (.int .i64 (popF x)) ∧ w = w' := by
  cases hx : btw x 0 4294967295 with
  | false =>
    go_enter Tryd.func48, Tryd.ntmps48
    go_wp2_with (first | (go_at_call 56; refine (impl_isWord _ _).mono ?_; rintro e w' ⟨rfl, rfl⟩))
    go_ret
    exact ⟨by simp [popF, hx], rfl⟩
  | true =>
    obtain ⟨h1, h2⟩ := btw_iff.1 hx
    obtain ⟨n, rfl⟩ := Int.eq_ofNat_of_zero_le h1
    have hn : n < 4294967296 := by omega
    have hF : popF (n : Int) = (popN n 32 : Int) := by rw [popF, if_pos hx]; rfl
    rw [hF]
    clear hF
    go_enter Tryd.func48, Tryd.ntmps48
    go_wp2_with (first | (go_at_call 56; refine (impl_isWord _ _).mono ?_; rintro e w' ⟨rfl, rfl⟩) | (go_at_call 66; refine (ones64 n hn _).mono ?_; rintro e w' ⟨rfl, rfl⟩) | go_in)
    go_ret
    exact ⟨rfl, rfl⟩

theorem impl_parityOf (x : Int) (w : World) : Calls Tryd.prog 36 #[.int .i64 x] w fun e w' => e = .returned (.int .i64 (popF x % 2)) ∧ w = w' := by
  have hr := popF_range x
  go_enter Tryd.func36, Tryd.ntmps36
  go_wp2_with (go_at_call 48; refine (impl_countBits _ _).mono ?_; rintro e w' ⟨rfl, rfl⟩)
  go_ret
  exact ⟨rfl, rfl⟩

theorem spec_parityOf (x : Int) (w : World) : Calls Tryd.prog 17 #[.int .i64 x] w fun e w' => e = .returned (.int .i64 (popF x % 2)) ∧ w = w' := by
  have hr := popF_range x
  go_enter Tryd.func17, Tryd.ntmps17
  go_wp2_with (go_at_call 39; refine (spec_countBits _ _).mono ?_; rintro e w' ⟨rfl, rfl⟩)
  go_ret
  exact ⟨rfl, rfl⟩

end Go.Proofs.YtamlfjkkpgmjiaaDoor
