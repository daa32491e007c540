/- Plain: what the functions of geometry and mapping compute, and that mapping is a bijection. No program is named here. -/
import Derived.WalkKit
namespace Go.Proofs.Ytdaphamplgcccaa

/-- lo ≤ n ≤ hi, as a Bool that the walk does not open -/
def btw (n lo hi : Int) : Bool := decide (lo ≤ n) && decide (n ≤ hi)
theorem btw_true {n lo hi : Int} (h1 : lo ≤ n) (h2 : n ≤ hi) : btw n lo hi = true := by simp [btw, h1, h2]
theorem btw_false {n lo hi : Int} (h : ¬ (lo ≤ n ∧ n ≤ hi)) : btw n lo hi = false := by
  unfold btw
  by_cases h1 : lo ≤ n
  · have : ¬ n ≤ hi := fun h2 => h ⟨h1, h2⟩
    simp [this]
  · simp [h1]
theorem btw_iff {n lo hi : Int} : btw n lo hi = true ↔ lo ≤ n ∧ n ≤ hi := by simp [btw]
theorem btw_not {n lo hi : Int} : btw n lo hi = false ↔ ¬ (lo ≤ n ∧ n ≤ hi) := by
  rw [← btw_iff]; simp

/-- a valid geometry -/
def geoB (a b c d : Int) : Bool := btw a 1 2 && btw b 1 4 && btw c 2 16 && btw d 1 8
theorem geoB_iff {a b c d : Int} : geoB a b c d = true ↔ (1 ≤ a ∧ a ≤ 2) ∧ (1 ≤ b ∧ b ≤ 4) ∧ (2 ≤ c ∧ c ≤ 16) ∧ (1 ≤ d ∧ d ≤ 8) := by
  simp only [geoB, Bool.and_eq_true, btw_iff, and_assoc]
def bankF (a b c d : Int) : Int := if geoB a b c d then a * b else 0
theorem bankF_yes {a b c d : Int} (h : geoB a b c d = true) : bankF a b c d = a * b := by rw [bankF, if_pos h]
theorem bankF_no {a b c d : Int} (h : geoB a b c d = false) : bankF a b c d = 0 := by rw [bankF, if_neg (by simp [h])]
theorem mul_range {x y m n : Int} (h1 : 1 ≤ x) (h2 : x ≤ m) (h3 : 1 ≤ y) (h4 : y ≤ n) : 1 ≤ x * y ∧ x * y ≤ m * n :=
  ⟨by have := Int.mul_le_mul h1 h3 (by omega) (by omega); simpa using this, Int.mul_le_mul h2 h4 (by omega) (by omega)⟩
theorem bank_range {a b c d : Int} (h : geoB a b c d = true) : 1 ≤ a * b ∧ a * b ≤ 8 := by
  obtain ⟨⟨h1, h2⟩, ⟨h3, h4⟩, _, _⟩ := geoB_iff.1 h
  exact mul_range (m := 2) (n := 4) h1 h2 h3 h4
theorem bankF_range (a b c d : Int) : 0 ≤ bankF a b c d ∧ bankF a b c d ≤ 8 := by
  cases h : geoB a b c d with
  | true => have := bank_range h; rw [bankF_yes h]; omega
  | false => rw [bankF_no h]; omega
theorem bankF_pos {a b c d : Int} (h : 1 ≤ bankF a b c d) : geoB a b c d = true := by
  cases hg : geoB a b c d with
  | true => rfl
  | false => rw [bankF_no hg] at h; omega
def lineF (a b c d : Int) : Int := if geoB a b c d then a * b * c * d else 0
theorem lineF_yes {a b c d : Int} (h : geoB a b c d = true) : lineF a b c d = a * b * c * d := by rw [lineF, if_pos h]
theorem lineF_no {a b c d : Int} (h : geoB a b c d = false) : lineF a b c d = 0 := by rw [lineF, if_neg (by simp [h])]
theorem bankrow_range {a b c d : Int} (h : geoB a b c d = true) : 2 ≤ a * b * c ∧ a * b * c ≤ 128 := by
  obtain ⟨_, _, ⟨h5, h6⟩, _⟩ := geoB_iff.1 h
  have h0 := bank_range h
  refine ⟨?_, Int.mul_le_mul (c := 8) (d := 16) h0.2 h6 (by omega) (by omega)⟩
  have := Int.mul_le_mul (a := 1) (b := 2) h0.1 h5 (by omega) (by omega)
  simpa using this
theorem line_range {a b c d : Int} (h : geoB a b c d = true) : 2 ≤ a * b * c * d ∧ a * b * c * d ≤ 1024 := by
  obtain ⟨_, _, _, ⟨h7, h8⟩⟩ := geoB_iff.1 h
  have h0 := bankrow_range h
  refine ⟨?_, Int.mul_le_mul (c := 128) (d := 8) h0.2 h8 (by omega) (by omega)⟩
  have := Int.mul_le_mul (a := 2) (b := 1) h0.1 h7 (by omega) (by omega)
  simpa using this
theorem lineF_range (a b c d : Int) : 0 ≤ lineF a b c d ∧ lineF a b c d ≤ 1024 := by
  cases h : geoB a b c d with
  | true => have := line_range h; rw [lineF_yes h]; omega
  | false => rw [lineF_no h]; omega
theorem lineF_pos {a b c d : Int} (h : 1 ≤ lineF a b c d) : geoB a b c d = true := by
  cases hg : geoB a b c d with
  | true => rfl
  | false => rw [lineF_no hg] at h; omega

/-- a number below p * q in mixed radix -/
theorem quot_lt {n p q : Int} (h0 : 0 ≤ n) (h : n < p * q) (hq : 1 ≤ q) : 0 ≤ n / q ∧ n / q < p :=
  ⟨Int.ediv_nonneg h0 (by omega), Int.ediv_lt_of_lt_mul (by omega) h⟩
theorem rem_lt {n q : Int} (hq : 1 ≤ q) : 0 ≤ n % q ∧ n % q < q := ⟨Int.emod_nonneg _ (by omega), Int.emod_lt_of_pos _ (by omega)⟩
theorem join_div {x y q : Int} (h0 : 0 ≤ y) (h1 : y < q) : (x * q + y) / q = x := by
  rw [Int.add_comm, Int.add_mul_ediv_right _ _ (by omega), Int.ediv_eq_zero_of_lt h0 h1, Int.zero_add]
theorem join_mod {x y q : Int} (h0 : 0 ≤ y) (h1 : y < q) : (x * q + y) % q = y := by
  rw [Int.add_comm, Int.add_mul_emod_self_right, Int.emod_eq_of_lt h0 h1]
theorem div_join (n q : Int) : n / q * q + n % q = n := by rw [Int.mul_comm]; exact Int.mul_ediv_add_emod n q
theorem join_lt {x y p q : Int} (h0 : 0 ≤ x) (h1 : x < p) (h2 : 0 ≤ y) (h3 : y < q) : 0 ≤ x * q + y ∧ x * q + y < p * q := by
  have h4 : x * q ≤ (p - 1) * q := Int.mul_le_mul_of_nonneg_right (by omega) (by omega)
  have h5 : 0 ≤ x * q := Int.mul_nonneg h0 (by omega)
  have e : (p - 1) * q = p * q - q := by rw [Int.sub_mul, Int.one_mul]
  omega

end Go.Proofs.Ytdaphamplgcccaa
