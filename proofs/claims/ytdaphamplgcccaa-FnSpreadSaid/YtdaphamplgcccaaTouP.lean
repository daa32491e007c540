/- Plain: the banks that a run of lines touches. No program is named here. -/
import Derived.Test.YtdaphamplgcccaaMapP
namespace Go.Proofs.Ytdaphamplgcccaa

/-- is b among f 0 .. f (m-1)? -/
def anyB (f : Nat → Int) (b : Int) : Nat → Bool
  | 0 => false
  | m + 1 => anyB f b m || f m == b
theorem anyB_iff {f : Nat → Int} {b : Int} {m : Nat} : anyB f b m = true ↔ ∃ i, i < m ∧ f i = b := by
  induction m with
  | zero => simp [anyB]
  | succ m ih =>
    rw [anyB, Bool.or_eq_true, ih, beq_iff_eq]
    constructor
    · rintro (⟨i, h, e⟩ | e)
      · exact ⟨i, by omega, e⟩
      · exact ⟨m, by omega, e⟩
    · rintro ⟨i, h, e⟩
      rcases Nat.lt_or_ge i m with h1 | h1
      · exact .inl ⟨i, h1, e⟩
      · obtain rfl : i = m := by omega
        exact .inr e
/-- the touched banks below k, in order -/
def touL (f : Nat → Int) (m : Nat) : Nat → List Int
  | 0 => []
  | k + 1 => if anyB f k m then touL f m k ++ [(k : Int)] else touL f m k
theorem touL_yes {f : Nat → Int} {m k : Nat} (h : anyB f k m = true) : touL f m (k + 1) = touL f m k ++ [(k : Int)] := by rw [touL, if_pos h]
theorem touL_no {f : Nat → Int} {m k : Nat} (h : anyB f k m = false) : touL f m (k + 1) = touL f m k := by rw [touL, if_neg (by simp [h])]
theorem touL_len (f : Nat → Int) (m k : Nat) : (touL f m k).length ≤ k := by
  induction k with
  | zero => simp [touL]
  | succ k ih =>
    cases h : anyB f k m with
    | true => rw [touL_yes h]; simp; exact ih
    | false => rw [touL_no h]; omega
theorem touL_full {f : Nat → Int} {m : Nat} : ∀ k : Nat, (∀ b : Nat, b < k → anyB f b m = true) → (touL f m k).length = k := by
  intro k
  induction k with
  | zero => intro _; rfl
  | succ k ih => intro h; rw [touL_yes (h k (by omega)), List.length_append, ih (fun b hb => h b (by omega))]; rfl
theorem touL_one {f : Nat → Int} {b : Nat} (h : f 0 = b) : ∀ k : Nat, (touL f 1 k).length = if b < k then 1 else 0 := by
  intro k
  induction k with
  | zero => rfl
  | succ k ih =>
    by_cases e : k = b
    · subst e
      have hy : anyB f k 1 = true := anyB_iff.2 ⟨0, by omega, h⟩
      rw [touL_yes hy, List.length_append, ih, if_neg (by omega), if_pos (by omega)]
      rfl
    · have hn : anyB f k 1 = false := by
        cases hx : anyB f k 1 with
        | false => rfl
        | true =>
          obtain ⟨i, hi, hf⟩ := anyB_iff.1 hx
          obtain rfl : i = 0 := by omega
          omega
      rw [touL_no hn, ih]
      by_cases h1 : b < k
      · rw [if_pos h1, if_pos (by omega)]
      · rw [if_neg h1, if_neg (by omega)]
/-- the flags of the banks -/
def seenL (f : Nat → Int) (m n : Nat) : List Bool := (List.range n).map fun (b : Nat) => anyB f (b : Int) m
theorem seenL_len (f : Nat → Int) (m n : Nat) : (seenL f m n).length = n := by simp [seenL]
theorem seenL_get {f : Nat → Int} {m n b : Nat} (h : b < n) : (seenL f m n).getD b false = anyB f b m := by
  simp [seenL, List.getD_eq_getElem?_getD, h]
theorem seenL_zero (f : Nat → Int) (n : Nat) : seenL f 0 n = List.replicate n false := by
  apply List.ext_getElem?
  intro i
  by_cases h : i < n
  · simp [seenL, List.getElem?_replicate, h, anyB]
  · simp [seenL, List.getElem?_replicate, h]
theorem seenL_step {f : Nat → Int} {m n b : Nat} (h : f m = b) : (seenL f m n).set b true = seenL f (m + 1) n := by
  apply List.ext_getElem?
  intro i
  rw [List.getElem?_set, seenL_len]
  by_cases hi : i < n
  · by_cases e : b = i
    · subst e
      simp [seenL, hi, anyB, h]
    · rw [if_neg e]
      have hne : (f m == (i : Int)) = false := beq_eq_false_iff_ne.2 (by omega)
      simp [seenL, hi, anyB, hne]
  · by_cases e : b = i
    · subst e; simp [seenL, hi]
    · rw [if_neg e]; simp [seenL, hi]

/-- the lines of a run lie in the memory -/
def touB (a b c d o fr m : Int) : Bool := geoB a b c d && (btw o 0 2 && (decide (1 ≤ m) && (decide (0 ≤ fr) && decide (m ≤ lineF a b c d - fr))))
theorem touB_iff {a b c d o fr m : Int} : touB a b c d o fr m = true ↔ geoB a b c d = true ∧ btw o 0 2 = true ∧ 1 ≤ m ∧ 0 ≤ fr ∧ m ≤ lineF a b c d - fr := by
  simp only [touB, Bool.and_eq_true, decide_eq_true_eq]
/-- the bank of line number i of a run -/
def bankAt (a b c d o : Int) (h : Bool) (fr : Int) (i : Nat) : Int := (mapM (a * b) c d o h (fr + i)).1
theorem bankAt_in {a b c d o fr m : Int} {h : Bool} (hT : touB a b c d o fr m = true) {i : Nat} (hi : (i : Int) < m) : 0 ≤ bankAt a b c d o h fr i ∧ bankAt a b c d o h fr i < a * b := by
  obtain ⟨hg, ho, h1, h2, h3⟩ := touB_iff.1 hT
  have hl := lineF_yes hg
  have hk := bank_range hg
  obtain ⟨_, _, ⟨c0, _⟩, ⟨d0, _⟩⟩ := geoB_iff.1 hg
  exact (mapM_in (n := a * b) (c := c) (d := d) (o := o) (l := fr + i) (h := h) hk.1 (by omega) (by omega) (by omega) (by omega)).1
/-- the result of BanksTouched -/
def touF (a b c d o : Int) (h : Bool) (fr m : Int) : List Int := if touB a b c d o fr m then touL (bankAt a b c d o h fr) m.toNat (a * b).toNat else []

end Go.Proofs.Ytdaphamplgcccaa
