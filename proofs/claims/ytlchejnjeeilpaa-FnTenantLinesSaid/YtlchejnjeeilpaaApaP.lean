/- Plain: the laws of partitions: a tenant's line, its address and back; the sums over the tenants. No program is named here. -/
import Derived.Test.YtlchejnjeeilpaaPartB
import Derived.Test.YtlchejnjeeilpaaPartA
import Derived.Test.YtlchejnjeeilpaaGeoF
namespace Go.Proofs.Ytlchejnjeeilpaa

theorem tenB_iff {a b c d : Int} {zs : List Int} {t l : Int} : tenB a b c d zs t l = true ↔ 0 ≤ l ∧ l ≤ tenF a b c d zs t - 1 := btw_iff
/-- the address of a tenant's line: the bank is the tenant's, the line comes back -/
theorem ten_back {a b c d : Int} {zs : List Int} {t l : Int} (h : tenB a b c d zs t l = true) :
    addrB a b c d (tenX zs t l) (tenY d zs t l) (tenZ d zs t l) = true ∧ partB a b c d zs = true ∧ zs.getD (tenX zs t l).toNat 0 = t ∧ backL d zs (tenX zs t l).toNat (tenY d zs t l) (tenZ d zs t l) = l ∧ 0 ≤ tenX zs t l ∧ tenX zs t l < (zs.length : Int) := by
  obtain ⟨h0, h1⟩ := tenB_iff.1 h
  obtain ⟨hp, hk⟩ := ten_pos (a := a) (b := b) (c := c) (d := d) (zs := zs) (t := t) (by omega)
  obtain ⟨_, hg, hlen⟩ := partB_iff.1 hp
  rw [tenF_yes hp] at h1
  rw [bankF_yes hg] at hlen
  obtain ⟨_, _, ⟨c0, _⟩, ⟨d0, _⟩⟩ := geoB_iff.1 hg
  generalize hK : (banksL zs t zs.length).length = K at *
  have r := rem_lt (n := l) (q := (K : Int)) (by omega)
  obtain ⟨j, hj⟩ := Int.eq_ofNat_of_zero_le r.1
  have hjK : j < K := by omega
  obtain ⟨B, b1, b2, b3, b4⟩ := banksL_get zs t zs.length j (by omega)
  have eX : tenX zs t l = (B : Int) := by rw [tenX, hK, hj, Int.toNat_natCast, b2]
  have e1 : l / (K : Int) / d * d + l / (K : Int) % d = l / (K : Int) := div_join _ _
  have e2 : l / (K : Int) * (K : Int) + l % (K : Int) = l := div_join _ _
  have q1 : 0 ≤ l / (K : Int) ∧ l / (K : Int) < c * d := quot_lt h0 (by rw [Int.mul_comm (c * d), ← Int.mul_assoc]; omega) (by omega)
  have q2 := quot_lt (p := c) (q := d) q1.1 q1.2 (by omega)
  have q3 := rem_lt (n := l / (K : Int)) (q := d) (by omega)
  refine ⟨?_, hp, ?_, ?_, by rw [eX]; omega, by rw [eX]; omega⟩
  · rw [addrB_iff]
    rw [eX, tenY, tenZ, hK]
    exact ⟨hg, by omega, by omega, by omega⟩
  · rw [eX, Int.toNat_natCast, b3]
  · rw [eX, Int.toNat_natCast, backL, placeL, b3, b4, hK, tenY, tenZ, hK, e1, ← hj, e2]

theorem ten_sum {a b c d : Int} {zs : List Int} (h : partB a b c d zs = true) : tenF a b c d zs 0 + tenF a b c d zs 1 + tenF a b c d zs 2 + tenF a b c d zs 3 = lineF a b c d := by
  obtain ⟨ho, hg, hlen⟩ := partB_iff.1 h
  have hs := banks_sum zs zs.length ho
  rw [bankF_yes hg] at hlen
  rw [tenF_yes h, tenF_yes h, tenF_yes h, tenF_yes h, lineF_yes hg, ← hlen, ← Int.add_mul, ← Int.add_mul, ← Int.add_mul, ← Int.add_mul, ← Int.add_mul, ← Int.add_mul]
  congr 2
  omega

/-- what the loop over the tenants has counted behind the first k of them -/
def apaN (a b c d : Int) (zs : List Int) : Nat → Int
  | 0 => 0
  | k + 1 => apaN a b c d zs k + min (tenF a b c d zs k) 8 + ((banksL zs k zs.length).length : Int)
def sumN (a b c d : Int) (zs : List Int) : Nat → Int
  | 0 => 0
  | k + 1 => sumN a b c d zs k + tenF a b c d zs k
theorem sumN_range (a b c d : Int) (zs : List Int) (k : Nat) : 0 ≤ sumN a b c d zs k ∧ sumN a b c d zs k ≤ 1024 * k := by
  induction k with
  | zero => exact ⟨Int.le_refl _, by simp [sumN]⟩
  | succ k ih =>
    have := ten_range (a := a) (b := b) (c := c) (d := d) (zs := zs) k
    rw [sumN]
    omega
theorem sumN_all {a b c d : Int} {zs : List Int} (h : partB a b c d zs = true) : sumN a b c d zs 4 = lineF a b c d := by
  rw [← ten_sum h]
  simp [sumN]
theorem apaN_range {a b c d : Int} {zs : List Int} (h : partB a b c d zs = true) (k : Nat) : 0 ≤ apaN a b c d zs k ∧ apaN a b c d zs k ≤ 16 * k := by
  induction k with
  | zero => exact ⟨Int.le_refl _, by simp [apaN]⟩
  | succ k ih =>
    have h1 := ten_range (a := a) (b := b) (c := c) (d := d) (zs := zs) k
    have h2 := banksL_len zs k zs.length
    have h3 := part_len h
    rw [apaN]
    omega
theorem apaN_all {a b c d : Int} {zs : List Int} (h : partB a b c d zs = true) : (zs.length : Int) < apaN a b c d zs 4 := by
  obtain ⟨ho, hg, hlen⟩ := partB_iff.1 h
  have hs := banks_sum zs zs.length ho
  have ht := ten_sum h
  have hl := line_range hg
  rw [lineF_yes hg] at ht
  have r0 := ten_range (a := a) (b := b) (c := c) (d := d) (zs := zs) 0
  have r1 := ten_range (a := a) (b := b) (c := c) (d := d) (zs := zs) 1
  have r2 := ten_range (a := a) (b := b) (c := c) (d := d) (zs := zs) 2
  have r3 := ten_range (a := a) (b := b) (c := c) (d := d) (zs := zs) 3
  have e : apaN a b c d zs 4 = min (tenF a b c d zs 0) 8 + ((banksL zs 0 zs.length).length : Int) + min (tenF a b c d zs 1) 8 + ((banksL zs 1 zs.length).length : Int) + min (tenF a b c d zs 2) 8 + ((banksL zs 2 zs.length).length : Int) + min (tenF a b c d zs 3) 8 + ((banksL zs 3 zs.length).length : Int) := by
    simp [apaN]
  rw [e]
  omega

end Go.Proofs.Ytlchejnjeeilpaa
