/- Plain: which commands are well-formed. No program is named here. -/
import Derived.Test.YtamlfjkkpgmjiaaDoorGeoP
namespace Go.Proofs.YtamlfjkkpgmjiaaDoor

def useB (k : Int) : Bool := btw k 1 5
def useR (k : Int) : Bool := k == 1
def useC (k : Int) : Bool := k == 2 || k == 3
def fieldB (n : Int) (u : Bool) (lim : Int) : Bool := if u then btw n 0 (lim - 1) else n == 0
def wfB (k b r c lb lr lc : Int) : Bool := btw k 1 9 && (fieldB b (useB k) lb && (fieldB r (useR k) lr && fieldB c (useC k) lc))
def formB (k b r c : Int) : Bool := wfB k b r c 8 16 8
theorem fieldB_alt (n : Int) (u : Bool) (m : Int) (hm : 1 ≤ m) : fieldB n u m = ((u || n == 0) && btw n 0 (m - 1)) := by
  unfold fieldB
  cases u with
  | true => simp
  | false =>
    by_cases h : n = 0
    · subst h; simp [btw_true (n := 0) (lo := 0) (hi := m - 1) (by omega) (by omega)]
    · simp [h]
theorem formB_alt (k b r c : Int) : formB k b r c = (((useB k || b == 0) && ((useR k || r == 0) && (useC k || c == 0))) && (btw k 1 9 && (btw b 0 7 && (btw r 0 15 && btw c 0 7)))) := by
  unfold formB wfB
  rw [fieldB_alt _ _ 8 (by omega), fieldB_alt _ _ 16 (by omega), fieldB_alt _ _ 8 (by omega)]
  rw [show (8 : Int) - 1 = 7 from rfl, show (16 : Int) - 1 = 15 from rfl]
  generalize (useB k || b == 0) = p
  generalize (useR k || r == 0) = q
  generalize (useC k || c == 0) = s
  generalize btw k 1 9 = t
  generalize btw b 0 7 = u
  generalize btw r 0 15 = v
  generalize btw c 0 7 = x
  cases p <;> cases q <;> cases s <;> cases t <;> cases u <;> cases v <;> rfl
theorem formB_range {k b r c : Int} (h : formB k b r c = true) : (1 ≤ k ∧ k ≤ 9) ∧ (0 ≤ b ∧ b ≤ 7) ∧ (0 ≤ r ∧ r ≤ 15) ∧ (0 ≤ c ∧ c ≤ 7) := by
  rw [formB_alt] at h
  simp only [Bool.and_eq_true, btw_iff] at h
  exact ⟨h.2.1, h.2.2.1, h.2.2.2.1, h.2.2.2.2⟩
def packN (k b r c : Int) : Int := k + 16 * b + 128 * r + 2048 * c
def packF (k b r c : Int) : Int := if formB k b r c then packN k b r c else -1
theorem packN_range {k b r c : Int} (h : formB k b r c = true) : 1 ≤ packN k b r c ∧ packN k b r c ≤ 16383 := by
  have := formB_range h
  unfold packN
  omega

def cmdB (ga gb gc gd k b r c : Int) : Bool := geoB ga gb gc gd && wfB k b r c (ga * gb) gc gd
theorem cmd_eq (ga gb gc gd k b r c : Int) : (formB k b r c && (geoB ga gb gc gd && (btw b 0 (ga * gb - 1) && (btw r 0 (gc - 1) && btw c 0 (gd - 1))))) = cmdB ga gb gc gd k b r c := by
  unfold cmdB
  cases hg : geoB ga gb gc gd with
  | false => simp
  | true =>
    have h0 := bank_range hg
    obtain ⟨_, _, ⟨c0, c1⟩, ⟨d0, d1⟩⟩ := geoB_iff.1 hg
    unfold wfB
    rw [formB_alt, fieldB_alt _ _ (ga * gb) (by omega), fieldB_alt _ _ gc (by omega), fieldB_alt _ _ gd (by omega), Bool.eq_iff_iff]
    simp only [Bool.and_eq_true, btw_iff, true_and]
    constructor
    · rintro ⟨⟨⟨p, q, s⟩, hk, _, _, _⟩, hb, hr, hc⟩
      exact ⟨hk, ⟨p, hb⟩, ⟨q, hr⟩, s, hc⟩
    · rintro ⟨hk, ⟨p, hb⟩, ⟨q, hr⟩, s, hc⟩
      exact ⟨⟨⟨p, q, s⟩, hk, by omega, by omega, by omega⟩, hb, hr, hc⟩

end Go.Proofs.YtamlfjkkpgmjiaaDoor