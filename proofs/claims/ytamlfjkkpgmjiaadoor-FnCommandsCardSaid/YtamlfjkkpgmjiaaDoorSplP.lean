/- Plain: what the two loops of SplitFields hold. No program is named here. -/
import Derived.Test.YtamlfjkkpgmjiaaDoorHexP
namespace Go.Proofs.YtamlfjkkpgmjiaaDoor

/-- what the reference's loop holds ahead of byte k: the fields that are closed, and where the open one begins -/
def SInv (l : List UInt8) (k b : Nat) (done : List (List UInt8)) : Prop := b ≤ k ∧ done ++ fld ((l.take k).drop b) (l.drop k) = fields l
theorem SInv.zero (l : List UInt8) : SInv l 0 0 [] := ⟨Nat.le_refl _, rfl⟩
theorem cur_step {l : List UInt8} {k b : Nat} (hk : k < l.length) (hb : b ≤ k) : (l.take (k + 1)).drop b = (l.take k).drop b ++ [l[k]] := by
  rw [List.take_succ_eq_append_getElem hk, List.drop_append_of_le_length (by rw [List.length_take]; omega)]
theorem cur_none (l : List UInt8) (k : Nat) : (l.take k).drop k = [] := by
  apply List.drop_eq_nil_of_le
  rw [List.length_take]
  omega
theorem cur_some {l : List UInt8} {k b : Nat} (hk : k ≤ l.length) (hb : b < k) : (l.take k).drop b ≠ [] := by
  intro e
  have := congrArg List.length e
  rw [List.length_drop, List.length_take] at this
  simp at this
  omega
theorem SInv.other {l : List UInt8} {k b : Nat} {done : List (List UInt8)} (h : SInv l k b done) (hk : k < l.length) (hc : l[k] ≠ 32) : SInv l (k + 1) b done := by
  obtain ⟨hb, e⟩ := h
  refine ⟨by omega, ?_⟩
  rw [cur_step hk hb, ← e, List.drop_eq_getElem_cons hk, fld_other hc]
theorem SInv.space {l : List UInt8} {k b : Nat} {done : List (List UInt8)} (h : SInv l k b done) (hk : k < l.length) (hc : l[k] = 32) (hb : b < k) : SInv l (k + 1) (k + 1) (done ++ [(l.take k).drop b]) := by
  obtain ⟨_, e⟩ := h
  refine ⟨Nat.le_refl _, ?_⟩
  rw [cur_none, ← e, List.drop_eq_getElem_cons hk, hc, fld_space, if_neg (cur_some (by omega) hb), List.append_assoc]
  rfl
theorem SInv.again {l : List UInt8} {k : Nat} {done : List (List UInt8)} (h : SInv l k k done) (hk : k < l.length) (hc : l[k] = 32) : SInv l (k + 1) (k + 1) done := by
  obtain ⟨_, e⟩ := h
  refine ⟨Nat.le_refl _, ?_⟩
  rw [cur_none] at e
  rw [cur_none, ← e, List.drop_eq_getElem_cons hk, hc, fld_space, if_pos rfl]
theorem SInv.last {l : List UInt8} {b : Nat} {done : List (List UInt8)} (h : SInv l l.length b done) (hb : b < l.length) : done ++ [(l.take l.length).drop b] = fields l := by
  obtain ⟨_, e⟩ := h
  rw [← e, List.drop_length, fld, if_neg (cur_some (Nat.le_refl _) hb)]
theorem SInv.done {l : List UInt8} {done : List (List UInt8)} (h : SInv l l.length l.length done) : done = fields l := by
  obtain ⟨_, e⟩ := h
  rw [← e, cur_none, List.drop_length, fld, if_pos rfl, List.append_nil]
/-- the program's outer loop: no field is open -/
theorem SInv.shut {l : List UInt8} {k b : Nat} {done : List (List UInt8)} (h : SInv l k b done) (hb : b < k) (hk : k ≤ l.length) (hc : ∀ h : k < l.length, l[k] = 32) : SInv l k k (done ++ [(l.take k).drop b]) := by
  obtain ⟨_, e⟩ := h
  refine ⟨Nat.le_refl _, ?_⟩
  rw [cur_none, ← e, List.append_assoc]
  congr 1
  rcases Nat.lt_or_ge k l.length with h1 | h1
  · rw [List.drop_eq_getElem_cons h1, hc h1, fld_space, fld_space, if_pos rfl, if_neg (cur_some hk hb)]
    rfl
  · rw [List.drop_eq_nil_of_le h1, fld, fld, if_pos rfl, if_neg (cur_some hk hb)]
    rfl
theorem SInv.len {l : List UInt8} {k b : Nat} {done : List (List UInt8)} (h : SInv l k b done) : done.length ≤ (fields l).length := by
  rw [← h.2, List.length_append]
  omega
theorem fld_len (cur l : List UInt8) : (fld cur l).length ≤ l.length + 1 := by
  induction l generalizing cur with
  | nil => unfold fld; split <;> simp
  | cons c l ih =>
    unfold fld
    split
    · split
      · have := ih []; simp; omega
      · have := ih []; simp; omega
    · have := ih (cur ++ [c]); simp; omega
theorem fields_len (l : List UInt8) : (fields l).length ≤ l.length + 1 := fld_len [] l

/-- SplitFields: the fields, and whether the line is one -/
def splitF (l : List UInt8) : List (List UInt8) := (splitL l).getD []
def splitB (l : List UInt8) : Bool := (splitL l).isSome
theorem split_long {l : List UInt8} (h : 600 < l.length) : splitL l = none := by
  unfold splitL; rw [if_neg]; rintro ⟨h1, _⟩; omega
theorem split_bad {l : List UInt8} {k : Nat} (hk : k < l.length) (h : l[k].toNat < 32 ∨ 126 < l[k].toNat) : splitL l = none := by
  unfold splitL; rw [if_neg]; rintro ⟨_, h1, _⟩
  have := h1 l[k] (List.getElem_mem hk)
  simp only [printable, Bool.and_eq_true, decide_eq_true_eq] at this
  omega
theorem split_many {l : List UInt8} (h : 24 < (fields l).length) : splitL l = none := by
  unfold splitL; rw [if_neg]; rintro ⟨_, _, h1⟩; omega
theorem split_yes {l : List UInt8} (h1 : l.length ≤ 600) (h2 : ∀ k (h : k < l.length), 32 ≤ l[k].toNat ∧ l[k].toNat ≤ 126) (h3 : (fields l).length ≤ 24) : splitL l = some (fields l) := by
  have hp : ∀ c ∈ l, printable c = true := by
    intro c hc
    obtain ⟨k, hk, rfl⟩ := List.getElem_of_mem hc
    have := h2 k hk
    simp only [printable, Bool.and_eq_true, decide_eq_true_eq]
    exact this
  unfold splitL; rw [if_pos ⟨h1, hp, h3⟩]

end Go.Proofs.YtamlfjkkpgmjiaaDoor
