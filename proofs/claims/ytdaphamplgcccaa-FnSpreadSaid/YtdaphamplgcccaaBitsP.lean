/- Plain facts on the bits of words: Go's & | ^ &^ of ints that are not negative are Nat's; the number of bits that are 1 by masks and shifts; mixing is injective; one bit set. No program is named here. -/
import Derived.WalkKit
namespace Go.Proofs.Ytdaphamplgcccaa
open Go

theorem ofInt64 (a : Nat) (ha : a < 18446744073709551616) : (BitVec.ofInt 64 (a : Int)).toNat = a := by
  rw [BitVec.ofInt_natCast, BitVec.toNat_ofNat]; exact Nat.mod_eq_of_lt (by omega)

theorem wrap_i64_nat (n : Nat) (h : n < 9223372036854775808) : IntKind.i64.wrap (n : Int) = (n : Int) := by
  rw [IntKind.wrap_i64]; omega

theorem i64_and_nat (a b : Nat) (ha : a < 9223372036854775808) (hb : b < 9223372036854775808) : bits .and .i64 (a : Int) (b : Int) = ((a &&& b : Nat) : Int) := by
  show IntKind.i64.wrap ((BitVec.ofInt 64 (a : Int) &&& BitVec.ofInt 64 (b : Int)).toNat : Int) = _
  rw [BitVec.toNat_and, ofInt64 a (by omega), ofInt64 b (by omega)]
  exact wrap_i64_nat _ (Nat.lt_of_le_of_lt Nat.and_le_left ha)

theorem i64_or_nat (a b : Nat) (ha : a < 9223372036854775808) (hb : b < 9223372036854775808) : bits .or .i64 (a : Int) (b : Int) = ((a ||| b : Nat) : Int) := by
  show IntKind.i64.wrap ((BitVec.ofInt 64 (a : Int) ||| BitVec.ofInt 64 (b : Int)).toNat : Int) = _
  rw [BitVec.toNat_or, ofInt64 a (by omega), ofInt64 b (by omega)]
  exact wrap_i64_nat _ (Nat.or_lt_two_pow (n := 63) (by omega) (by omega))

theorem i64_xor_nat (a b : Nat) (ha : a < 9223372036854775808) (hb : b < 9223372036854775808) : bits .xor .i64 (a : Int) (b : Int) = ((a ^^^ b : Nat) : Int) := by
  show IntKind.i64.wrap ((BitVec.ofInt 64 (a : Int) ^^^ BitVec.ofInt 64 (b : Int)).toNat : Int) = _
  rw [BitVec.toNat_xor, ofInt64 a (by omega), ofInt64 b (by omega)]
  exact wrap_i64_nat _ (Nat.xor_lt_two_pow (n := 63) (by omega) (by omega))

/-- 'a &^ b' -/
theorem i64_andNot_nat (a b : Nat) (ha : a < 9223372036854775808) (hb : b < 9223372036854775808) : bits .andNot .i64 (a : Int) (b : Int) = ((a &&& (18446744073709551615 - b) : Nat) : Int) := by
  show IntKind.i64.wrap ((BitVec.ofInt 64 (a : Int) &&& ~~~(BitVec.ofInt 64 (b : Int))).toNat : Int) = _
  rw [BitVec.toNat_and, BitVec.toNat_not, ofInt64 a (by omega), ofInt64 b (by omega)]
  exact wrap_i64_nat _ (Nat.lt_of_le_of_lt Nat.and_le_left ha)

/-- '_ & m' lies in 0 .. m, whatever stands on the left. -/
theorem i64_and_range (a : Int) (m : Nat) (hm : m < 9223372036854775808) : 0 ≤ bits .and .i64 a (m : Int) ∧ bits .and .i64 a (m : Int) ≤ m := by
  have h : bits .and .i64 a (m : Int) = (((BitVec.ofInt 64 a).toNat &&& m : Nat) : Int) := by
    show IntKind.i64.wrap ((BitVec.ofInt 64 a &&& BitVec.ofInt 64 (m : Int)).toNat : Int) = _
    rw [BitVec.toNat_and, ofInt64 m (by omega)]
    exact wrap_i64_nat _ (Nat.lt_of_le_of_lt Nat.and_le_right hm)
  rw [h]
  have : (BitVec.ofInt 64 a).toNat &&& m ≤ m := Nat.and_le_right
  omega

/-! ### one bit -/
def bitN (x i : Nat) : Nat := x / 2 ^ i % 2
theorem bitN_le (x i : Nat) : bitN x i ≤ 1 := by unfold bitN; omega
theorem bitN_test (x i : Nat) : x.testBit i = (bitN x i == 1) := by
  rw [Nat.testBit_eq_decide_div_mod_eq]; unfold bitN; rfl
theorem bitN_of_test (x i : Nat) : bitN x i = (x.testBit i).toNat := by
  rw [bitN_test]
  have := bitN_le x i
  rcases Nat.lt_or_ge (bitN x i) 1 with h | h
  · have : bitN x i = 0 := by omega
    simp [this]
  · have : bitN x i = 1 := by omega
    simp [this]
theorem bits_eq (x i : Nat) (hx : x < 9223372036854775808) : bits .and .i64 ((x : Int) / 2 ^ i) 1 = (bitN x i : Int) := by
  have e : ((x : Int) / 2 ^ i) = ((x / 2 ^ i : Nat) : Int) := by simp
  rw [e, show (1 : Int) = ((1 : Nat) : Int) from rfl, i64_and_nat _ _ (Nat.lt_of_le_of_lt (Nat.div_le_self _ _) hx) (by omega)]
  congr 1
  exact Nat.and_one_is_mod _

/-- x with bit i set to b -/
def setN (x i b : Nat) : Nat := (x &&& (18446744073709551615 - 2 ^ i)) ||| (b * 2 ^ i)
theorem setN_test (x i b k : Nat) (hi : i < 32) (hb : b ≤ 1) (hk : k < 64) : (setN x i b).testBit k = if k = i then b == 1 else x.testBit k := by
  have hp : 2 ^ i < 2 ^ 64 := Nat.pow_lt_pow_right (by omega) (by omega)
  have e1 : (18446744073709551615 - 2 ^ i).testBit k = !decide (i = k) := by
    rw [show (18446744073709551615 - 2 ^ i) = 2 ^ 64 - (2 ^ i + 1) by omega, Nat.testBit_two_pow_sub_succ hp, Nat.testBit_two_pow]
    simp [hk]
  have e2 : (b * 2 ^ i).testBit k = (decide (k = i) && (b == 1)) := by
    rcases Nat.lt_or_ge b 1 with h | h
    · have : b = 0 := by omega
      subst this
      simp
    · have : b = 1 := by omega
      subst this
      rw [Nat.one_mul, Nat.testBit_two_pow]
      by_cases h : i = k
      · simp [h]
      · simp [h, Ne.symm h]
  unfold setN
  rw [Nat.testBit_or, Nat.testBit_and, e1, e2]
  by_cases h : k = i
  · subst h
    simp
  · simp [h, Ne.symm h]
theorem setN_lt (x i b : Nat) (hx : x < 4294967296) (hi : i < 32) (hb : b ≤ 1) : setN x i b < 4294967296 := by
  unfold setN
  have h1 : b * 2 ^ i < 2 ^ 32 := by
    have : 2 ^ i < 2 ^ 32 := Nat.pow_lt_pow_right (by omega) hi
    rcases Nat.lt_or_ge b 1 with h | h
    · have : b = 0 := by omega
      subst this; omega
    · have : b = 1 := by omega
      subst this; omega
  exact Nat.or_lt_two_pow (n := 32) (Nat.lt_of_le_of_lt Nat.and_le_left (by omega)) h1
theorem setN_bit (x i b k : Nat) (hi : i < 32) (hb : b ≤ 1) (hk : k < 64) : bitN (setN x i b) k = if k = i then b else bitN x k := by
  rw [bitN_of_test, setN_test x i b k hi hb hk, bitN_of_test]
  by_cases h : k = i
  · rw [if_pos h, if_pos h]
    rcases Nat.lt_or_ge b 1 with h' | h'
    · have : b = 0 := by omega
      subst this; rfl
    · have : b = 1 := by omega
      subst this; rfl
  · rw [if_neg h, if_neg h]

/-! ### the sum of all bits -/
def popN (x : Nat) : Nat → Nat
  | 0 => 0
  | n + 1 => popN x n + bitN x n
theorem popN_le (x n : Nat) : popN x n ≤ n := by
  induction n with
  | zero => simp [popN]
  | succ n ih => have := bitN_le x n; simp only [popN]; omega

/-! ### the mixer -/
def rotN (x : Nat) : Nat := x ^^^ (x / 65536)
def mixStep (x : Nat) : Nat := rotN x * 73244475 % 4294967296
def mixN (x : Nat) : Nat := rotN (mixStep (mixStep x))
theorem rotN_lt (x : Nat) (hx : x < 4294967296) : rotN x < 4294967296 :=
  Nat.xor_lt_two_pow (n := 32) (by omega) (by omega)
theorem rotN_rotN (x : Nat) (hx : x < 4294967296) : rotN (rotN x) = x := by
  have h1 : (x ^^^ x / 65536) / 65536 = x / 65536 := by
    have := Nat.xor_div_two_pow (a := x) (b := x / 65536) (n := 16)
    have h0 : x / 65536 / 65536 = 0 := by omega
    rw [show (2 : Nat) ^ 16 = 65536 from rfl] at this
    rw [this, h0, Nat.xor_zero]
  unfold rotN
  rw [h1, Nat.xor_assoc, Nat.xor_self, Nat.xor_zero]
theorem rotN_inj {x y : Nat} (hx : x < 4294967296) (hy : y < 4294967296) (h : rotN x = rotN y) : x = y := by
  rw [← rotN_rotN x hx, ← rotN_rotN y hy, h]
theorem mixStep_lt (x : Nat) : mixStep x < 4294967296 := Nat.mod_lt _ (by decide)
theorem mixStep_inj {x y : Nat} (hx : x < 4294967296) (hy : y < 4294967296) (h : mixStep x = mixStep y) : x = y := by
  have h1 := rotN_lt x hx
  have h2 := rotN_lt y hy
  refine rotN_inj hx hy ?_
  have key : ∀ a : Nat, (a * 73244475 % 4294967296 * 295559667) % 4294967296 = a % 4294967296 := fun a => by
    rw [Nat.mod_mul_mod, Nat.mul_assoc, show 73244475 * 295559667 = 1 + 5040344 * 4294967296 from by decide, Nat.mul_add, Nat.mul_one, ← Nat.mul_assoc, Nat.add_mul_mod_self_right]
  have ka := key (rotN x)
  have kb := key (rotN y)
  unfold mixStep at h
  rw [h, kb, Nat.mod_eq_of_lt h1, Nat.mod_eq_of_lt h2] at ka
  exact ka.symm
theorem mixN_lt (x : Nat) : mixN x < 4294967296 := rotN_lt _ (mixStep_lt _)
theorem mixN_inj {x y : Nat} (hx : x < 4294967296) (hy : y < 4294967296) (h : mixN x = mixN y) : x = y :=
  mixStep_inj hx hy (mixStep_inj (mixStep_lt _) (mixStep_lt _) (rotN_inj (mixStep_lt _) (mixStep_lt _) h))
theorem mixN_zero : mixN 0 = 0 := by decide +kernel

end Go.Proofs.Ytdaphamplgcccaa
