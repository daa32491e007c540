/- Plain: the laws of the mapping: a bijection; a run of banks touches all banks. No program is named here. -/
import Derived.Test.YtdaphamplgcccaaTouP
import Derived.Test.YtdaphamplgcccaaGeoF
namespace Go.Proofs.Ytdaphamplgcccaa

theorem touF_yes' {a b c d o fr m : Int} {h : Bool} (hT : touB a b c d o fr m = true) : touF a b c d o h fr m = touL (bankAt a b c d o h fr) m.toNat (a * b).toNat := by rw [touF, if_pos hT]
/-- the bank of line i of a run that begins at a multiple of the number of banks -/
theorem spread_at {a b c d k : Int} {h : Bool} {i : Nat} (hn : 1 ≤ a * b) (hi : (i : Int) < a * b) : bankAt a b c d 1 h (a * b * k) i = if h then ((i : Int) + k / d) % (a * b) else (i : Int) := by
  unfold bankAt mapM
  have e1 : (a * b * k + i) % (a * b) = i := by
    rw [Int.add_comm, Int.add_mul_emod_self_left]
    exact Int.emod_eq_of_lt (by omega) hi
  have e2 : (a * b * k + i) / (a * b) = k := by
    rw [Int.add_comm, Int.add_mul_ediv_left _ _ (by omega), Int.ediv_eq_zero_of_lt (by omega) hi]
    omega
  have e : baseM (a * b) c d 1 (a * b * k + i) = ((i : Int), k / d, k % d) := by
    unfold baseM
    rw [if_neg (by omega), if_pos rfl, e1, e2]
  rw [e]
  cases h <;> rfl
theorem spread_tou {a b c d k m : Int} (hg : geoB a b c d = true) (k0 : 0 ≤ k) (k1 : k < c * d) (m0 : 1 ≤ m) (m1 : m ≤ a * b) : touB a b c d 1 (a * b * k) m = true := by
  have hn := bank_range hg
  have hl : lineF a b c d = a * b * (c * d) := by rw [lineF_yes hg, Int.mul_assoc]
  have h1 : a * b * (k + 1) ≤ a * b * (c * d) := Int.mul_le_mul_of_nonneg_left (by omega) (by omega)
  have h2 : 0 ≤ a * b * k := Int.mul_nonneg (by omega) k0
  rw [Int.mul_add, Int.mul_one] at h1
  rw [touB_iff]
  refine ⟨hg, rfl, m0, h2, ?_⟩
  rw [hl]
  omega
theorem spread_all {a b c d k : Int} {h : Bool} (hg : geoB a b c d = true) (k0 : 0 ≤ k) (k1 : k < c * d) : ((touF a b c d 1 h (a * b * k) (a * b)).length : Int) = a * b := by
  have hn := bank_range hg
  rw [touF_yes' (spread_tou hg k0 k1 hn.1 (Int.le_refl _))]
  obtain ⟨N, hN⟩ := Int.eq_ofNat_of_zero_le (show 0 ≤ a * b by omega)
  have hNt : (a * b).toNat = N := by omega
  rw [hNt, touL_full N (fun bb hb => ?_), hN]
  rw [anyB_iff]
  cases h with
  | false => exact ⟨bb, hb, by rw [spread_at hn.1 (by omega)]; rfl⟩
  | true =>
    have r := rem_lt (n := (bb : Int) - k / d) (q := a * b) (by omega)
    obtain ⟨i, hi⟩ := Int.eq_ofNat_of_zero_le r.1
    refine ⟨i, by omega, ?_⟩
    rw [spread_at hn.1 (by omega), if_pos rfl, ← hi, Int.emod_add_emod, Int.sub_add_cancel]
    exact Int.emod_eq_of_lt (by omega) (by omega)
theorem spread_one {a b c d k : Int} {h : Bool} (hg : geoB a b c d = true) (k0 : 0 ≤ k) (k1 : k < c * d) : (touF a b c d 1 h (a * b * k) 1).length = 1 := by
  have hn := bank_range hg
  have hT := spread_tou hg k0 k1 (Int.le_refl 1) hn.1
  rw [touF_yes' hT]
  have hb := bankAt_in (h := h) hT (i := 0) (by omega)
  obtain ⟨B, hB⟩ := Int.eq_ofNat_of_zero_le hb.1
  have h1 : (1 : Int).toNat = 1 := rfl
  rw [h1, touL_one hB, if_pos (by omega)]

/-- the address of a line, and the line again -/
theorem map_facts {a b c d o l : Int} {h : Bool} (hg : geoB a b c d = true) (ho : 0 ≤ o ∧ o < 3) (l0 : 0 ≤ l) (l1 : l < a * b * c * d) :
    addrB a b c d (mapM (a * b) c d o h l).1 (mapM (a * b) c d o h l).2.1 (mapM (a * b) c d o h l).2.2 = true ∧ lineM (a * b) c d o h ((mapM (a * b) c d o h l).1, (mapM (a * b) c d o h l).2.1, (mapM (a * b) c d o h l).2.2) = l := by
  have hn := bank_range hg
  obtain ⟨_, _, ⟨c0, _⟩, ⟨d0, _⟩⟩ := geoB_iff.1 hg
  have hi := mapM_in (o := o) (h := h) hn.1 (by omega) d0 l0 l1
  refine ⟨addrB_iff.2 ⟨hg, by have := hi.1; omega, by have := hi.2.1; omega, by have := hi.2.2; omega⟩, ?_⟩
  exact lineM_mapM hn.1 (by omega) d0 l0 l1
theorem map_differ {a b c d o l l' : Int} {h : Bool} (hg : geoB a b c d = true) (l0 : 0 ≤ l) (l1 : l < a * b * c * d) (m0 : 0 ≤ l') (m1 : l' < a * b * c * d) (hne : l ≠ l') :
    ¬ ((mapM (a * b) c d o h l).1 = (mapM (a * b) c d o h l').1 ∧ (mapM (a * b) c d o h l).2.1 = (mapM (a * b) c d o h l').2.1 ∧ (mapM (a * b) c d o h l).2.2 = (mapM (a * b) c d o h l').2.2) := by
  rintro ⟨h1, h2, h3⟩
  have hn := bank_range hg
  obtain ⟨_, _, ⟨c0, _⟩, ⟨d0, _⟩⟩ := geoB_iff.1 hg
  exact hne (mapM_inj (o := o) (h := h) hn.1 (by omega) d0 l0 l1 m0 m1 (Prod.ext h1 (Prod.ext h2 h3)))

end Go.Proofs.Ytdaphamplgcccaa
