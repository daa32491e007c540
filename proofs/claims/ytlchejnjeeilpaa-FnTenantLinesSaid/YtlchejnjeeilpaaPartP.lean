/- Plain: partitions of the banks among four tenants. No program is named here. -/
import Derived.Test.YtlchejnjeeilpaaGeoP
namespace Go.Proofs.Ytlchejnjeeilpaa

/-- each of the first k owners is a tenant -/
def ownB (zs : List Int) : Nat → Bool
  | 0 => true
  | k + 1 => ownB zs k && btw (zs.getD k 0) 0 3
theorem ownB_no {zs : List Int} {k : Nat} (h : ownB zs k = false) : ∀ m, k ≤ m → ownB zs m = false := by
  intro m hm
  induction m with
  | zero => obtain rfl : k = 0 := by omega
            exact h
  | succ m ih =>
    rcases Nat.lt_or_ge m k with h1 | h1
    · obtain rfl : k = m + 1 := by omega
      exact h
    · rw [ownB, ih h1]; rfl
theorem ownB_at {zs : List Int} {m : Nat} (h : ownB zs m = true) : ∀ k, k < m → 0 ≤ zs.getD k 0 ∧ zs.getD k 0 ≤ 3 := by
  intro k hk
  induction m with
  | zero => omega
  | succ m ih =>
    rw [ownB, Bool.and_eq_true] at h
    rcases Nat.lt_or_ge k m with h1 | h1
    · exact ih h.1 h1
    · obtain rfl : k = m := by omega
      exact btw_iff.1 h.2
def partB (a b c d : Int) (zs : List Int) : Bool := ownB zs zs.length && (geoB a b c d && decide ((zs.length : Int) = bankF a b c d))
theorem partB_iff {a b c d : Int} {zs : List Int} : partB a b c d zs = true ↔ ownB zs zs.length = true ∧ geoB a b c d = true ∧ (zs.length : Int) = bankF a b c d := by
  simp only [partB, Bool.and_eq_true, decide_eq_true_eq]

/-- the banks of tenant t among the first k -/
def banksL (zs : List Int) (t : Int) : Nat → List Int
  | 0 => []
  | k + 1 => if zs.getD k 0 = t then banksL zs t k ++ [(k : Int)] else banksL zs t k
theorem banksL_yes {zs : List Int} {t : Int} {k : Nat} (h : zs.getD k 0 = t) : banksL zs t (k + 1) = banksL zs t k ++ [(k : Int)] := by rw [banksL, if_pos h]
theorem banksL_no {zs : List Int} {t : Int} {k : Nat} (h : zs.getD k 0 ≠ t) : banksL zs t (k + 1) = banksL zs t k := by rw [banksL, if_neg h]
theorem banksL_len (zs : List Int) (t : Int) (k : Nat) : (banksL zs t k).length ≤ k := by
  induction k with
  | zero => simp [banksL]
  | succ k ih =>
    by_cases h : zs.getD k 0 = t
    · rw [banksL_yes h]; simp; exact ih
    · rw [banksL_no h]; omega
/-- bank number j of a tenant: its number, its owner, its place -/
theorem banksL_get (zs : List Int) (t : Int) (n : Nat) : ∀ j, j < (banksL zs t n).length → ∃ b : Nat, b < n ∧ (banksL zs t n).getD j 0 = (b : Int) ∧ zs.getD b 0 = t ∧ (banksL zs t b).length = j := by
  induction n with
  | zero => intro j hj; simp [banksL] at hj
  | succ n ih =>
    intro j hj
    by_cases h : zs.getD n 0 = t
    · rw [banksL_yes h] at hj ⊢
      rcases Nat.lt_or_ge j (banksL zs t n).length with h1 | h1
      · obtain ⟨b, b1, b2, b3, b4⟩ := ih j h1
        refine ⟨b, by omega, ?_, b3, b4⟩
        rw [List.getD_eq_getElem?_getD, List.getElem?_append_left h1, ← List.getD_eq_getElem?_getD, b2]
      · have e : j = (banksL zs t n).length := by simp at hj; omega
        subst e
        exact ⟨n, by omega, by simp [List.getD_eq_getElem?_getD], h, rfl⟩
    · rw [banksL_no h] at hj ⊢
      obtain ⟨b, b1, b2⟩ := ih j hj
      exact ⟨b, by omega, b2⟩
/-- a bank stands in its owner's list, behind those before it -/
theorem banksL_split (zs : List Int) (b : Nat) : ∀ n, b < n → ∃ r, banksL zs (zs.getD b 0) n = banksL zs (zs.getD b 0) b ++ ((b : Int) :: r) := by
  intro n
  induction n with
  | zero => intro h; omega
  | succ n ih =>
    intro h
    rcases Nat.lt_or_ge b n with h1 | h1
    · obtain ⟨r, hr⟩ := ih h1
      by_cases hz : zs.getD n 0 = zs.getD b 0
      · exact ⟨r ++ [(n : Int)], by rw [banksL_yes hz, hr]; simp⟩
      · exact ⟨r, by rw [banksL_no hz, hr]⟩
    · obtain rfl : b = n := by omega
      exact ⟨[], by rw [banksL_yes rfl]⟩
theorem banksL_below (zs : List Int) (t : Int) (b j : Nat) (h : j < (banksL zs t b).length) : (banksL zs t b).getD j 0 < (b : Int) := by
  obtain ⟨k, k1, k2, _⟩ := banksL_get zs t b j h
  rw [k2]
  omega
/-- the place of a bank in its owner's list -/
def placeL (zs : List Int) (b : Nat) : Nat := (banksL zs (zs.getD b 0) b).length
theorem placeL_lt (zs : List Int) (b n : Nat) (h : b < n) : placeL zs b < (banksL zs (zs.getD b 0) n).length := by
  obtain ⟨r, hr⟩ := banksL_split zs b n h
  rw [hr, placeL]
  simp
theorem placeL_at (zs : List Int) (b n : Nat) (h : b < n) : (banksL zs (zs.getD b 0) n).getD (placeL zs b) 0 = (b : Int) := by
  obtain ⟨r, hr⟩ := banksL_split zs b n h
  rw [hr, placeL, List.getD_eq_getElem?_getD, List.getElem?_append_right (Nat.le_refl _), Nat.sub_self]
  rfl
theorem placeL_first (zs : List Int) (b n : Nat) (h : b < n) (j : Nat) (hj : j < placeL zs b) : (banksL zs (zs.getD b 0) n).getD j 0 ≠ (b : Int) := by
  obtain ⟨r, hr⟩ := banksL_split zs b n h
  rw [hr, List.getD_eq_getElem?_getD, List.getElem?_append_left hj, ← List.getD_eq_getElem?_getD]
  have := banksL_below zs (zs.getD b 0) b j hj
  omega

/-- the number of lines of a tenant -/
def tenF (a b c d : Int) (zs : List Int) (t : Int) : Int := if partB a b c d zs then ((banksL zs t zs.length).length : Int) * c * d else 0
theorem tenF_yes {a b c d : Int} {zs : List Int} {t : Int} (h : partB a b c d zs = true) : tenF a b c d zs t = ((banksL zs t zs.length).length : Int) * c * d := by rw [tenF, if_pos h]
theorem tenF_no {a b c d : Int} {zs : List Int} {t : Int} (h : partB a b c d zs = false) : tenF a b c d zs t = 0 := by rw [tenF, if_neg (by simp [h])]
theorem prod_range {k c d : Int} (h0 : 0 ≤ k) (h1 : k ≤ 8) (c0 : 2 ≤ c) (c1 : c ≤ 16) (d0 : 1 ≤ d) (d1 : d ≤ 8) : 0 ≤ k * c ∧ k * c ≤ 128 ∧ 0 ≤ k * c * d ∧ k * c * d ≤ 1024 := by
  have e1 : k * c ≤ 8 * 16 := Int.mul_le_mul h1 c1 (by omega) (by omega)
  have e0 : 0 ≤ k * c := Int.mul_nonneg h0 (by omega)
  have e2 : k * c * d ≤ 128 * 8 := Int.mul_le_mul (by omega) d1 (by omega) (by omega)
  have e3 : 0 ≤ k * c * d := Int.mul_nonneg e0 (by omega)
  omega
theorem part_len {a b c d : Int} {zs : List Int} (h : partB a b c d zs = true) : zs.length ≤ 8 := by
  have h1 := (partB_iff.1 h).2.2
  have := bankF_range a b c d
  omega
theorem ten_range {a b c d : Int} {zs : List Int} (t : Int) : 0 ≤ tenF a b c d zs t ∧ tenF a b c d zs t ≤ 1024 := by
  cases h : partB a b c d zs with
  | false => rw [tenF_no h]; omega
  | true =>
    rw [tenF_yes h]
    obtain ⟨_, hg, _⟩ := partB_iff.1 h
    obtain ⟨_, _, ⟨c0, c1⟩, ⟨d0, d1⟩⟩ := geoB_iff.1 hg
    have hl := part_len h
    have := banksL_len zs t zs.length
    have := prod_range (k := (banksL zs t zs.length).length) (by omega) (by omega) c0 c1 d0 d1
    omega
theorem ten_pos {a b c d : Int} {zs : List Int} {t : Int} (h : 1 ≤ tenF a b c d zs t) : partB a b c d zs = true ∧ 0 < (banksL zs t zs.length).length := by
  cases hp : partB a b c d zs with
  | false => rw [tenF_no hp] at h; omega
  | true =>
    refine ⟨rfl, ?_⟩
    rw [tenF_yes hp] at h
    rcases Nat.eq_zero_or_pos (banksL zs t zs.length).length with h0 | h0
    · rw [h0] at h; simp at h
    · exact h0

/-- the banks of all tenants are all banks -/
theorem banks_sum (zs : List Int) (k : Nat) (h : ownB zs k = true) : (banksL zs 0 k).length + (banksL zs 1 k).length + (banksL zs 2 k).length + (banksL zs 3 k).length = k := by
  induction k with
  | zero => rfl
  | succ k ih =>
    have hb := ownB_at h k (by omega)
    have h' : ownB zs k = true := by rw [ownB, Bool.and_eq_true] at h; exact h.1
    have := ih h'
    have hc : zs.getD k 0 = 0 ∨ zs.getD k 0 = 1 ∨ zs.getD k 0 = 2 ∨ zs.getD k 0 = 3 := by omega
    simp only [banksL]
    generalize zs.getD k 0 = z at hc
    clear hb
    rcases hc with rfl | rfl | rfl | rfl <;> simp <;> omega

/-- the line of a tenant that lies at an address -/
def backL (d : Int) (zs : List Int) (b : Nat) (x y : Int) : Int := (x * d + y) * ((banksL zs (zs.getD b 0) zs.length).length : Int) + (placeL zs b : Int)

end Go.Proofs.Ytlchejnjeeilpaa
