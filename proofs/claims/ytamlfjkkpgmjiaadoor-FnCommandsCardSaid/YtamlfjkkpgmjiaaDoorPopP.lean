/- Plain: the masks and shifts of math/bits.OnesCount64 count the bits of a word. No program is named here. -/
import Derived.Test.YtamlfjkkpgmjiaaDoorBitsP
namespace Go.Proofs.YtamlfjkkpgmjiaaDoor

theorem peel (a c d : Nat) (hc : c < 16) : a &&& (c + 16 * d) = (a % 16 &&& c) + 16 * (a / 16 &&& d) := by
  have h1 : (a &&& (c + 16 * d)) % 16 = a % 16 &&& (c + 16 * d) % 16 := Nat.and_mod_two_pow (a := a) (b := c + 16 * d) (n := 4)
  have h2 : (a &&& (c + 16 * d)) / 16 = a / 16 &&& (c + 16 * d) / 16 := Nat.and_div_two_pow (a := a) (b := c + 16 * d) (n := 4)
  have e1 : (c + 16 * d) % 16 = c := by omega
  have e2 : (c + 16 * d) / 16 = d := by omega
  rw [e1] at h1
  rw [e2] at h2
  have := Nat.div_add_mod (a &&& (c + 16 * d)) 16
  omega

/-- k nibbles of 5, of 3 -/
def fives : Nat → Nat | 0 => 0 | k + 1 => 5 + 16 * fives k
def threes : Nat → Nat | 0 => 0 | k + 1 => 3 + 16 * threes k
def half (k x : Nat) : Nat := (x / 2 &&& fives k) + (x &&& fives k)
def quart (k x : Nat) : Nat := (x / 4 &&& threes k) + (x &&& threes k)
def f1 (n : Nat) : Nat := (n / 2 &&& 5) + (n &&& 5)
def f2 (n : Nat) : Nat := (n / 4 &&& 3) + (n &&& 3)
def pop4 (n : Nat) : Nat := n % 2 + n / 2 % 2 + n / 4 % 2 + n / 8 % 2

theorem mask5 : ∀ t, t < 8 → ∀ e, e < 2 → (t + 8 * e) &&& 5 = t &&& 5 := by decide
theorem mask3 : ∀ t, t < 4 → ∀ e, e < 4 → (t + 4 * e) &&& 3 = t &&& 3 := by decide
theorem f_pop : ∀ n, n < 16 → f1 n < 16 ∧ f2 (f1 n) = pop4 n := by decide
theorem pop4_le (n : Nat) : pop4 n ≤ 4 := by unfold pop4; omega

theorem half_succ (k x : Nat) : half (k + 1) x = f1 (x % 16) + 16 * half k (x / 16) := by
  unfold half
  rw [fives, peel _ 5 _ (by omega), peel _ 5 _ (by omega)]
  have e1 : x / 2 % 16 = x % 16 / 2 + 8 * (x / 16 % 2) := by omega
  have e2 : x / 2 / 16 = x / 16 / 2 := by omega
  rw [e1, mask5 _ (by omega) _ (by omega), e2]
  unfold f1
  omega
theorem quart_succ (k x : Nat) : quart (k + 1) x = f2 (x % 16) + 16 * quart k (x / 16) := by
  unfold quart
  rw [threes, peel _ 3 _ (by omega), peel _ 3 _ (by omega)]
  have e1 : x / 4 % 16 = x % 16 / 4 + 4 * (x / 16 % 4) := by omega
  have e2 : x / 4 / 16 = x / 16 / 4 := by omega
  rw [e1, mask3 _ (by omega) _ (by omega), e2]
  unfold f2
  omega
theorem half_zero (k : Nat) : half k 0 = 0 := by simp [half]
theorem quart_zero (k : Nat) : quart k 0 = 0 := by simp [quart]

theorem stage_step (m x : Nat) : quart (m + 1) (half (m + 1) x) = pop4 (x % 16) + 16 * quart m (half m (x / 16)) := by
  have h := f_pop (x % 16) (by omega)
  rw [half_succ, quart_succ]
  have e1 : (f1 (x % 16) + 16 * half m (x / 16)) % 16 = f1 (x % 16) := by omega
  have e2 : (f1 (x % 16) + 16 * half m (x / 16)) / 16 = half m (x / 16) := by omega
  rw [e1, e2, h.2]

theorem peel256 (a d : Nat) : a &&& (15 + 256 * d) = a % 16 + 256 * (a / 256 &&& d) := by
  have e : 15 + 256 * d = 15 + 16 * (0 + 16 * d) := by omega
  rw [e, peel _ 15 _ (by omega), peel _ 0 _ (by omega), Nat.and_zero]
  have h1 : a % 16 &&& 15 = a % 16 := by
    have := Nat.and_two_pow_sub_one_eq_mod (a % 16) 4
    rw [show (2 : Nat) ^ 4 - 1 = 15 from rfl, show (2 : Nat) ^ 4 = 16 from rfl] at this
    omega
  rw [h1, show a / 16 / 16 = a / 256 by omega]
  omega

theorem popN_step (x k : Nat) : popN x (k + 4) = pop4 (x % 16) + popN (x / 16) k := by
  induction k with
  | zero =>
    simp only [popN, bitN, pop4]
    omega
  | succ k ih =>
    rw [show k + 1 + 4 = (k + 4) + 1 by omega, popN, ih, popN]
    have : bitN x (k + 4) = bitN (x / 16) k := by
      unfold bitN
      rw [Nat.div_div_eq_div_mul, show 16 * 2 ^ k = 2 ^ (k + 4) by rw [Nat.pow_add]; omega]
    omega

/-- the last three stages, of eight nibbles of at most 4 -/
theorem sums (a b c d e f g h : Nat) (ha : a ≤ 4) (hb : b ≤ 4) (hc : c ≤ 4) (hd : d ≤ 4) (he : e ≤ 4) (hf : f ≤ 4) (hg : g ≤ 4) (hh : h ≤ 4) :
    ∀ y z, y = a + 16 * (b + 16 * (c + 16 * (d + 16 * (e + 16 * (f + 16 * (g + 16 * h)))))) → z = (y / 16 + y) &&& 1085102592571150095 →
      z = (a + b) + 256 * ((c + d) + 256 * ((e + f) + 256 * (g + h))) := by
  intro y z hy hz
  have e1 : (1085102592571150095 : Nat) = 15 + 256 * (15 + 256 * (15 + 256 * (15 + 256 * 252645135))) := by decide
  rw [e1, peel256, peel256, peel256, peel256] at hz
  have t0 : y / 16 + y = (a + b) + 16 * ((b + c) + 16 * ((c + d) + 16 * ((d + e) + 16 * ((e + f) + 16 * ((f + g) + 16 * ((g + h) + 16 * h)))))) := by omega
  rw [t0] at hz
  have t1 : ((a + b) + 16 * ((b + c) + 16 * ((c + d) + 16 * ((d + e) + 16 * ((e + f) + 16 * ((f + g) + 16 * ((g + h) + 16 * h))))))) / 256 = (c + d) + 16 * ((d + e) + 16 * ((e + f) + 16 * ((f + g) + 16 * ((g + h) + 16 * h)))) := by omega
  have t2 : ((c + d) + 16 * ((d + e) + 16 * ((e + f) + 16 * ((f + g) + 16 * ((g + h) + 16 * h))))) / 256 = (e + f) + 16 * ((f + g) + 16 * ((g + h) + 16 * h)) := by omega
  have t3 : ((e + f) + 16 * ((f + g) + 16 * ((g + h) + 16 * h))) / 256 = (g + h) + 16 * h := by omega
  have t4 : ((g + h) + 16 * h) / 256 = 0 := by omega
  have m0 : ((a + b) + 16 * ((b + c) + 16 * ((c + d) + 16 * ((d + e) + 16 * ((e + f) + 16 * ((f + g) + 16 * ((g + h) + 16 * h))))))) % 16 = a + b := by omega
  have m1 : ((c + d) + 16 * ((d + e) + 16 * ((e + f) + 16 * ((f + g) + 16 * ((g + h) + 16 * h))))) % 16 = c + d := by omega
  have m2 : ((e + f) + 16 * ((f + g) + 16 * ((g + h) + 16 * h))) % 16 = e + f := by omega
  have m3 : ((g + h) + 16 * h) % 16 = g + h := by omega
  rw [t1, t2, t3, t4, Nat.zero_and, m0, m1, m2, m3] at hz
  omega
theorem sums2 (p q r s : Nat) (hp : p ≤ 8) (hq : q ≤ 8) (hr : r ≤ 8) (hs : s ≤ 8) :
    ∀ z u v t, z = p + 256 * (q + 256 * (r + 256 * s)) → u = z + z / 256 → v = u + u / 65536 → t = v + v / 4294967296 → t % 128 = p + q + r + s := by
  intro z u v t hz hu hv ht
  have z1 : z / 256 = q + 256 * (r + 256 * s) := by omega
  have u0 : u = (p + q) + 256 * ((q + r) + 256 * ((r + s) + 256 * s)) := by omega
  have u1 : u / 65536 = (r + s) + 256 * s := by omega
  have v0 : v = (p + q + r + s) + 256 * ((q + r + s) + 256 * ((r + s) + 256 * s)) := by omega
  have v1 : v / 4294967296 = 0 := by omega
  omega

/-- what the last stages make of eight nibbles -/
def st3 (y : Nat) : Nat := (y / 16 + y) &&& 1085102592571150095
def st4 (z : Nat) : Nat := z + z / 256
def st5 (u : Nat) : Nat := u + u / 65536
def st6 (v : Nat) : Nat := (v + v / 4294967296) % 128
def onesOf (y : Nat) : Nat := st6 (st5 (st4 (st3 y)))
theorem onesOf_eq (a b c d e f g h : Nat) (ha : a ≤ 4) (hb : b ≤ 4) (hc : c ≤ 4) (hd : d ≤ 4) (he : e ≤ 4) (hf : f ≤ 4) (hg : g ≤ 4) (hh : h ≤ 4) (y : Nat)
    (hy : y = a + 16 * (b + 16 * (c + 16 * (d + 16 * (e + 16 * (f + 16 * (g + 16 * h))))))) : onesOf y = a + (b + (c + (d + (e + (f + (g + h)))))) := by
  have p1 : a + b ≤ 8 := by omega
  have p2 : c + d ≤ 8 := by omega
  have p3 : e + f ≤ 8 := by omega
  have p4 : g + h ≤ 8 := by omega
  have hz := sums a b c d e f g h ha hb hc hd he hf hg hh y (st3 y) hy (by unfold st3; exact Eq.refl _)
  have hu : st4 (st3 y) = st3 y + st3 y / 256 := by unfold st4; exact Eq.refl _
  have hv : st5 (st4 (st3 y)) = st4 (st3 y) + st4 (st3 y) / 65536 := by unfold st5; exact Eq.refl _
  have ht : onesOf y = (st5 (st4 (st3 y)) + st5 (st4 (st3 y)) / 4294967296) % 128 := by unfold onesOf st6; exact Eq.refl _
  generalize st3 y = z at *
  generalize st4 z = u at *
  generalize st5 u = v at *
  have := sums2 (a + b) (c + d) (e + f) (g + h) p1 p2 p3 p4 z u v (v + v / 4294967296) hz hu hv (Eq.refl _)
  rw [ht, this]
  simp only [Nat.add_assoc]

/-- k nibbles of x, their bits counted -/
def nibs : Nat → Nat → Nat
  | 0, _ => 0
  | k + 1, x => pop4 (x % 16) + 16 * nibs k (x / 16)
theorem stages_nibs : ∀ (k m x : Nat), x < 16 ^ k → k ≤ m → quart m (half m x) = nibs k x := by
  intro k
  induction k with
  | zero =>
    intro m x hx _
    have : x = 0 := by simpa using hx
    subst this
    rw [half_zero, quart_zero, nibs]
  | succ k ih =>
    intro m x hx hm
    obtain ⟨n, rfl⟩ : ∃ n, m = n + 1 := ⟨m - 1, by omega⟩
    rw [stage_step, nibs, ih n (x / 16) (by rw [Nat.pow_succ] at hx; omega) (by omega)]
/-- the same nibbles, summed -/
def nibSum : Nat → Nat → Nat
  | 0, _ => 0
  | k + 1, x => pop4 (x % 16) + nibSum k (x / 16)
theorem popN_nibs (k x : Nat) : popN x (4 * k) = nibSum k x := by
  induction k generalizing x with
  | zero => rfl
  | succ k ih => rw [show 4 * (k + 1) = 4 * k + 4 by omega, popN_step, ih, nibSum]
theorem nibs8 (x : Nat) : onesOf (nibs 8 x) = nibSum 8 x := by
  simp only [nibs, nibSum]
  rw [Nat.mul_zero, Nat.add_zero]
  exact onesOf_eq _ _ _ _ _ _ _ _ (pop4_le _) (pop4_le _) (pop4_le _) (pop4_le _) (pop4_le _) (pop4_le _) (pop4_le _) (pop4_le _) _ (Eq.refl _)
theorem ones_pop (x : Nat) (hx : x < 4294967296) : onesOf (quart 16 (half 16 x)) = popN x 32 := by
  rw [stages_nibs 8 16 x (by simpa using hx) (by omega), nibs8, ← popN_nibs]

theorem fives_16 : fives 16 = 6148914691236517205 := by decide
theorem threes_16 : threes 16 = 3689348814741910323 := by decide

end Go.Proofs.YtamlfjkkpgmjiaaDoor
