/- Plain: the decimal text of a number and its value, as lists of bytes. No program is named here. -/
import Derived.Lib.ItoaNum
namespace Go.Proofs.YtamlfjkkpgmjiaaDoor
open Go.Lib (decDigits itoa)

def isDig (c : UInt8) : Bool := decide (48 ≤ c.toNat) && decide (c.toNat ≤ 57)
theorem isDig_iff {c : UInt8} : isDig c = true ↔ 48 ≤ c.toNat ∧ c.toNat ≤ 57 := by simp [isDig]
/-- the value of a text of digits, n standing ahead of it -/
def valFrom (n : Nat) (l : List UInt8) : Nat := l.foldl (fun a c => a * 10 + (c.toNat - 48)) n
theorem valFrom_nil (n : Nat) : valFrom n [] = n := by unfold valFrom; rw [List.foldl_nil]
theorem valFrom_cons (n : Nat) (c : UInt8) (r : List UInt8) : valFrom n (c :: r) = valFrom (n * 10 + (c.toNat - 48)) r := by unfold valFrom; rw [List.foldl_cons]
theorem valFrom_append (n : Nat) (l r : List UInt8) : valFrom n (l ++ r) = valFrom (valFrom n l) r := by unfold valFrom; rw [List.foldl_append]
theorem valFrom_snoc (n : Nat) (l : List UInt8) (c : UInt8) : valFrom n (l ++ [c]) = valFrom n l * 10 + (c.toNat - 48) := by
  rw [valFrom_append, valFrom_cons, valFrom_nil]
/-- a text of digits, not empty, no 0 ahead of another digit -/
def Canon (l : List UInt8) : Prop := l ≠ [] ∧ (∀ c ∈ l, isDig c = true) ∧ (1 < l.length → l.head? ≠ some 48)

theorem ofNat_toNat (n : Nat) (h : n < 256) : (UInt8.ofNat n).toNat = n := by simp; omega

theorem dec_small {u : Nat} (h : u < 10) : decDigits u = [UInt8.ofNat (48 + u)] := by rw [decDigits, dif_pos h]
theorem dec_big {u : Nat} (h : ¬ u < 10) : decDigits u = decDigits (u / 10) ++ [UInt8.ofNat (48 + u % 10)] := by rw [decDigits, dif_neg h]

theorem dec_ne (u : Nat) : decDigits u ≠ [] := by
  by_cases h : u < 10
  · rw [dec_small h]; simp
  · rw [dec_big h]; simp

theorem dec_dig (u : Nat) : ∀ c ∈ decDigits u, isDig c = true := by
  induction u using Nat.strongRecOn with
  | _ u ih =>
    intro c hc
    by_cases h : u < 10
    · rw [dec_small h] at hc
      have : c = UInt8.ofNat (48 + u) := by simpa using hc
      subst this
      rw [isDig_iff, ofNat_toNat _ (by omega)]
      omega
    · rw [dec_big h] at hc
      rcases List.mem_append.1 hc with hc | hc
      · exact ih (u / 10) (by omega) c hc
      · have : c = UInt8.ofNat (48 + u % 10) := by simpa using hc
        subst this
        rw [isDig_iff, ofNat_toNat _ (by omega)]
        omega

theorem val_dec (u : Nat) : valFrom 0 (decDigits u) = u := by
  induction u using Nat.strongRecOn with
  | _ u ih =>
    by_cases h : u < 10
    · rw [dec_small h]
      rw [valFrom_cons, valFrom_nil]
      rw [ofNat_toNat _ (by omega)]
      omega
    · rw [dec_big h, valFrom_snoc, ih (u / 10) (by omega), ofNat_toNat _ (by omega)]
      omega

theorem head_append {l r : List UInt8} (h : l ≠ []) : (l ++ r).head? = l.head? := by
  cases l with
  | nil => exact absurd rfl h
  | cons a l => rfl

theorem dec_head (u : Nat) (h : 0 < u) : (decDigits u).head? ≠ some 48 := by
  induction u using Nat.strongRecOn with
  | _ u ih =>
    by_cases h1 : u < 10
    · rw [dec_small h1]
      intro e
      have e2 : UInt8.ofNat (48 + u) = 48 := by simpa using e
      have := congrArg UInt8.toNat e2
      rw [ofNat_toNat _ (by omega)] at this
      simp at this
      omega
    · rw [dec_big h1, head_append (dec_ne _)]
      exact ih (u / 10) (by omega) (by omega)

theorem dec_canon (u : Nat) : Canon (decDigits u) := by
  refine ⟨dec_ne u, dec_dig u, fun hl => ?_⟩
  by_cases h : 0 < u
  · exact dec_head u h
  · have : u = 0 := by omega
    subst this
    rw [dec_small (by omega)] at hl
    simp at hl

/-- a canonical text is the decimal text of its value -/
theorem dec_val : ∀ (k : Nat) (l : List UInt8), l.length = k → Canon l → decDigits (valFrom 0 l) = l := by
  intro k
  induction k with
  | zero => intro l hl hc; exact absurd (List.eq_nil_of_length_eq_zero hl) hc.1
  | succ k ih =>
    intro l hl hc
    obtain ⟨p, c, rfl⟩ : ∃ p c, l = p ++ [c] := ⟨l.dropLast, l.getLast hc.1, (List.dropLast_concat_getLast hc.1).symm⟩
    have hd := isDig_iff.1 (hc.2.1 c (by simp))
    have ec : UInt8.ofNat (48 + (c.toNat - 48)) = c := by
      rw [show 48 + (c.toNat - 48) = c.toNat by omega]; simp
    rw [valFrom_snoc]
    by_cases hp : p = []
    · subst hp
      rw [valFrom_nil, dec_small (by omega), Nat.zero_mul, Nat.zero_add, ec]
      rfl
    · have hcp : Canon p := by
        refine ⟨hp, fun x hx => hc.2.1 x (by simp [hx]), fun h1 => ?_⟩
        have := hc.2.2 (by simp; omega)
        rwa [head_append hp] at this
      have hip := ih p (by simp at hl; omega) hcp
      have hpos : 0 < valFrom 0 p := by
        rcases Nat.eq_zero_or_pos (valFrom 0 p) with h0 | h0
        · rw [h0, dec_small (by omega)] at hip
          have hh := hc.2.2 (by
            have := List.length_pos_iff.2 hp
            simp; omega)
          rw [head_append hp, ← hip] at hh
          exact absurd rfl hh
        · exact h0
      rw [dec_big (by omega)]
      have e1 : (valFrom 0 p * 10 + (c.toNat - 48)) / 10 = valFrom 0 p := by omega
      have e2 : (valFrom 0 p * 10 + (c.toNat - 48)) % 10 = c.toNat - 48 := by omega
      rw [e1, e2, hip, ec]

theorem val_lt (l : List UInt8) (h : ∀ c ∈ l, isDig c = true) (n : Nat) : valFrom n l < (n + 1) * 10 ^ l.length := by
  induction l generalizing n with
  | nil => rw [valFrom_nil]; simp
  | cons c l ih =>
    have hd := isDig_iff.1 (h c (by simp))
    have := ih (fun x hx => h x (by simp [hx])) (n * 10 + (c.toNat - 48))
    rw [valFrom_cons, List.length_cons]
    refine Nat.lt_of_lt_of_le this ?_
    rw [Nat.pow_succ, Nat.mul_comm (10 ^ l.length) 10, ← Nat.mul_assoc]
    exact Nat.mul_le_mul_right _ (by omega)

theorem dec_length (u : Nat) (k : Nat) (h : u < 10 ^ (k + 1)) : (decDigits u).length ≤ k + 1 := by
  induction k generalizing u with
  | zero => rw [dec_small (by simpa using h)]; simp
  | succ k ih =>
    by_cases h1 : u < 10
    · rw [dec_small h1]; simp
    · rw [dec_big h1]
      have := ih (u / 10) (by rw [Nat.pow_succ] at h; omega)
      simp
      omega

/-- ParseUint: the number, or none -/
def parseU (l : List UInt8) : Option Nat :=
  if l.length ≤ 10 ∧ (∀ c ∈ l, isDig c = true) ∧ valFrom 0 l ≤ 1000000000 ∧ decDigits (valFrom 0 l) = l then some (valFrom 0 l) else none

theorem canon_iff (l : List UInt8) (h : ∀ c ∈ l, isDig c = true) : decDigits (valFrom 0 l) = l ↔ Canon l :=
  ⟨fun e => e ▸ dec_canon _, fun hc => dec_val _ l rfl hc⟩

theorem parseU_dec (u : Nat) (h : u ≤ 1000000000) : parseU (decDigits u) = some u := by
  unfold parseU
  have hl := dec_length u 9 (by omega)
  rw [if_pos ⟨hl, dec_dig u, by rw [val_dec]; exact h, by rw [val_dec]⟩, val_dec]
theorem parseU_big (u : Nat) (h : 1000000000 < u) : parseU (decDigits u) = none := by
  unfold parseU
  rw [if_neg]
  rintro ⟨_, _, h2, _⟩
  rw [val_dec] at h2
  omega
theorem parseU_minus (l : List UInt8) : parseU (45 :: l) = none := by
  unfold parseU
  rw [if_neg]
  rintro ⟨_, h1, _⟩
  have := isDig_iff.1 (h1 45 (by simp))
  simp at this

end Go.Proofs.YtamlfjkkpgmjiaaDoor
