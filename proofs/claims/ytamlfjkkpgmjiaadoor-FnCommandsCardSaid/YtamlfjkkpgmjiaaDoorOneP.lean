/- Plain: a frame with one wrong bit. No program is named here. -/
import Derived.Test.YtamlfjkkpgmjiaaDoorCmdF
namespace Go.Proofs.YtamlfjkkpgmjiaaDoor

theorem bitN_xor (x j i : Nat) : bitN (x ^^^ 2 ^ j) i = if i = j then 1 - bitN x i else bitN x i := by
  rw [bitN_of_test, bitN_of_test, Nat.testBit_xor, Nat.testBit_two_pow]
  by_cases h : j = i
  · subst h
    simp
    cases x.testBit j <;> rfl
  · rw [if_neg (fun e => h e.symm)]
    simp [h]
theorem popN_xor (x j : Nat) (n : Nat) : popN (x ^^^ 2 ^ j) n + (if j < n then 2 * bitN x j else 0) = popN x n + (if j < n then 1 else 0) := by
  induction n with
  | zero => simp [popN]
  | succ n ih =>
    have hb := bitN_le x n
    simp only [popN]
    rw [bitN_xor]
    by_cases h : n = j
    · subst h
      rw [if_neg (by omega), if_neg (by omega)] at ih
      rw [if_pos rfl, if_pos (by omega), if_pos (by omega)]
      omega
    · rw [if_neg h]
      by_cases h2 : j < n
      · rw [if_pos h2, if_pos h2] at ih
        rw [if_pos (by omega), if_pos (by omega)]
        omega
      · rw [if_neg h2, if_neg h2] at ih
        rw [if_neg (by omega), if_neg (by omega)]
        omega
theorem popN_flip (x j n : Nat) (h : j < n) : popN (x ^^^ 2 ^ j) n % 2 = (popN x n + 1) % 2 := by
  have := popN_xor x j n
  rw [if_pos h, if_pos h] at this
  omega
theorem bitN_low (x n i : Nat) (h : i < n) : bitN (x % 2 ^ n) i = bitN x i := by
  rw [bitN_of_test, bitN_of_test, Nat.testBit_mod_two_pow]
  simp [h]
theorem popN_low (x m : Nat) : ∀ n, n ≤ m → popN (x % 2 ^ m) n = popN x n := by
  intro n
  induction n with
  | zero => intro _; rfl
  | succ n ih => intro h; simp only [popN]; rw [ih (by omega), bitN_low x m n (by omega)]
theorem popN_up (x m : Nat) (h : x < 2 ^ m) : ∀ k, popN x (m + k) = popN x m := by
  intro k
  induction k with
  | zero => rfl
  | succ k ih =>
    show popN x (m + k) + bitN x (m + k) = _
    rw [ih, bitN_of_test, Nat.testBit_lt_two_pow (Nat.lt_of_lt_of_le h (Nat.pow_le_pow_right (by omega) (by omega)))]
    rfl
/-- a frame has an even number of ones -/
theorem even_frame (p : Nat) (hp : p < 16384) : popN (p + 16384 * (popN p 32 % 2)) 15 % 2 = 0 := by
  have e1 : popN p 32 = popN p 14 := popN_up p 14 hp 18
  rw [e1]
  generalize ht : popN p 14 % 2 = t
  have h14 : popN (p + 16384 * t) 14 = popN p 14 := by
    rw [← popN_low (p + 16384 * t) 14 14 (Nat.le_refl _), show (2 : Nat) ^ 14 = 16384 from rfl, Nat.add_mul_mod_self_left, Nat.mod_eq_of_lt hp]
  have hb : bitN (p + 16384 * t) 14 = t := by
    unfold bitN
    rw [show (2 : Nat) ^ 14 = 16384 from rfl]
    omega
  show (popN (p + 16384 * t) 14 + bitN (p + 16384 * t) 14) % 2 = 0
  rw [h14, hb]
  omega
theorem frame_even {k b r c : Int} (h : formB k b r c = true) : popN (frameN k b r c).toNat 15 % 2 = 0 := by
  have hp := packN_range h
  unfold frameN
  obtain ⟨p, hq⟩ := Int.eq_ofNat_of_zero_le (show 0 ≤ packN k b r c by omega)
  rw [hq] at hp ⊢
  rw [popF, btw_true (by omega) (by omega), if_pos rfl, Int.toNat_natCast]
  have e : ((p : Int) + 16384 * ((popN p 32 : Int) % 2)).toNat = p + 16384 * (popN p 32 % 2) := by omega
  rw [e]
  exact even_frame p (by omega)

end Go.Proofs.YtamlfjkkpgmjiaaDoor
