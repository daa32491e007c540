/- Plain: the address of a line and the line of an address. No program is named here. -/
import Derived.Test.YtdaphamplgcccaaGeoP
namespace Go.Proofs.Ytdaphamplgcccaa

/-- bank, row and column of a line, without the hash: n banks, c rows, d columns, order o -/
def baseM (n c d o l : Int) : Int × Int × Int :=
  if o = 0 then (l / d % n, l / d / n, l % d) else if o = 1 then (l % n, l / n / d, l / n % d) else (l / d / c, l / d % c, l % d)
def hashM (n : Int) (h : Bool) (x : Int × Int × Int) : Int × Int × Int := if h then ((x.1 + x.2.1) % n, x.2.1, x.2.2) else x
def mapM (n c d o : Int) (h : Bool) (l : Int) : Int × Int × Int := hashM n h (baseM n c d o l)
/-- the line of an address -/
def unhashM (n : Int) (h : Bool) (x : Int × Int × Int) : Int × Int × Int := if h then ((x.1 - x.2.1) % n, x.2.1, x.2.2) else x
def joinM (n c d o : Int) (x : Int × Int × Int) : Int :=
  if o = 0 then (x.2.1 * n + x.1) * d + x.2.2 else if o = 1 then (x.2.1 * d + x.2.2) * n + x.1 else (x.1 * c + x.2.1) * d + x.2.2
def lineM (n c d o : Int) (h : Bool) (x : Int × Int × Int) : Int := joinM n c d o (unhashM n h x)

def addrIn (n c d : Int) (x : Int × Int × Int) : Prop := (0 ≤ x.1 ∧ x.1 < n) ∧ (0 ≤ x.2.1 ∧ x.2.1 < c) ∧ (0 ≤ x.2.2 ∧ x.2.2 < d)

theorem baseM_in {n c d o l : Int} (hn : 1 ≤ n) (hc : 1 ≤ c) (hd : 1 ≤ d) (h0 : 0 ≤ l) (h1 : l < n * c * d) : addrIn n c d (baseM n c d o l) := by
  have q1 := quot_lt (p := n * c) (q := d) h0 h1 hd
  unfold baseM addrIn
  by_cases ho : o = 0
  · rw [if_pos ho]
    have q2 := quot_lt (p := c) (q := n) q1.1 (by rw [Int.mul_comm]; exact q1.2) hn
    exact ⟨rem_lt hn, q2, rem_lt hd⟩
  · rw [if_neg ho]
    by_cases ho1 : o = 1
    · rw [if_pos ho1]
      have q2 := quot_lt (p := c * d) (q := n) h0 (by rw [Int.mul_comm, ← Int.mul_assoc]; exact h1) hn
      have q3 := quot_lt (p := c) (q := d) q2.1 q2.2 hd
      exact ⟨rem_lt hn, q3, rem_lt hd⟩
    · rw [if_neg ho1]
      have q2 := quot_lt (p := n) (q := c) q1.1 q1.2 hc
      exact ⟨q2, rem_lt hc, rem_lt hd⟩
theorem mapM_in {n c d o l : Int} {h : Bool} (hn : 1 ≤ n) (hc : 1 ≤ c) (hd : 1 ≤ d) (h0 : 0 ≤ l) (h1 : l < n * c * d) : addrIn n c d (mapM n c d o h l) := by
  have hb := baseM_in (o := o) hn hc hd h0 h1
  unfold mapM hashM
  cases h with
  | false => exact hb
  | true => exact ⟨rem_lt hn, hb.2.1, hb.2.2⟩
theorem unhash_hash {n : Int} {h : Bool} {x : Int × Int × Int} (h0 : 0 ≤ x.1) (h1 : x.1 < n) : unhashM n h (hashM n h x) = x := by
  cases h with
  | false => rfl
  | true =>
    obtain ⟨b, r, k⟩ := x
    simp only [unhashM, hashM, if_true]
    have e : ((b + r) % n - r) % n = b := by
      rw [Int.emod_sub_emod, Int.add_sub_cancel, Int.emod_eq_of_lt h0 h1]
    rw [e]
theorem join_base {n c d o l : Int} : joinM n c d o (baseM n c d o l) = l := by
  unfold joinM baseM
  by_cases ho : o = 0
  · simp only [if_pos ho]; rw [div_join, div_join]
  · simp only [if_neg ho]
    by_cases ho1 : o = 1
    · simp only [if_pos ho1]; rw [div_join, div_join]
    · simp only [if_neg ho1]; rw [div_join, div_join]
theorem lineM_mapM {n c d o l : Int} {h : Bool} (hn : 1 ≤ n) (hc : 1 ≤ c) (hd : 1 ≤ d) (h0 : 0 ≤ l) (h1 : l < n * c * d) : lineM n c d o h (mapM n c d o h l) = l := by
  have hb := baseM_in (o := o) hn hc hd h0 h1
  unfold lineM mapM
  rw [unhash_hash hb.1.1 hb.1.2, join_base]
theorem mapM_inj {n c d o l l' : Int} {h : Bool} (hn : 1 ≤ n) (hc : 1 ≤ c) (hd : 1 ≤ d) (h0 : 0 ≤ l) (h1 : l < n * c * d) (h2 : 0 ≤ l') (h3 : l' < n * c * d) (e : mapM n c d o h l = mapM n c d o h l') : l = l' := by
  rw [← lineM_mapM (o := o) (h := h) hn hc hd h0 h1, e, lineM_mapM hn hc hd h2 h3]
/-- the two ways in which the bank is brought back -/
theorem unhash_two {n b r : Int} (hn : 1 ≤ n) (hr : 0 ≤ r) : (b + n - r % n) % n = (b - r) % n := by
  have e : b + n - r % n = b - r + n * (1 + r / n) := by
    have := div_join r n
    rw [Int.mul_add, Int.mul_one, Int.mul_comm n (r / n)]
    omega
  rw [e, Int.add_mul_emod_self_left]

end Go.Proofs.Ytdaphamplgcccaa
