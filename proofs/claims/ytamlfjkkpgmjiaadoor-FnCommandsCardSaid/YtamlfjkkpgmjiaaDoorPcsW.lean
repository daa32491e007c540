/- Plain facts for the reference's ParseCommand: the kind of a word, the numbers of a line. -/
import Derived.Test.YtamlfjkkpgmjiaaDoorPcmW
import Derived.Test.YtamlfjkkpgmjiaaDoorStrW
import Derived.Test.YtamlfjkkpgmjiaaDoorIntS
set_option maxRecDepth 20000
namespace Go.Proofs.YtamlfjkkpgmjiaaDoor
open Go.RowKit
open Go.Lib (decDigits itoa)

/-- the kind that the words below number i give -/
def kindAt (P : List UInt8) : Nat → Int
  | 0 => 0
  | i + 1 => if 1 ≤ i ∧ wordL i = P then (i : Int) else kindAt P i
theorem kindAt_yes {P : List UInt8} {i : Nat} (h : 1 ≤ i) (e : wordL i = P) : kindAt P (i + 1) = i := by rw [kindAt, if_pos ⟨h, e⟩]
theorem kindAt_no {P : List UInt8} {i : Nat} (e : wordL i ≠ P) : kindAt P (i + 1) = kindAt P i := by rw [kindAt, if_neg (fun h => e h.2)]
theorem kindAt_range (P : List UInt8) (i : Nat) (h : i ≤ 10) : 0 ≤ kindAt P i ∧ kindAt P i ≤ 9 := by
  induction i with
  | zero => simp [kindAt]
  | succ i ih =>
    have := ih (by omega)
    rw [kindAt]
    split <;> omega
theorem kindAt_word {k : Nat} (h1 : 1 ≤ k) (h2 : k ≤ 9) (i : Nat) (hi : k < i) (h10 : i ≤ 10) : kindAt (wordL k) i = k := by
  induction i with
  | zero => omega
  | succ i ih =>
    by_cases e : i = k
    · subst e; exact kindAt_yes h1 rfl
    · rw [kindAt_no, ih (by omega) (by omega)]
      intro e2
      have := wordL_inj (k := (i : Int)) (j := (k : Int)) (by omega) (by omega) (by omega) (by omega) e2
      omega
theorem isCmd_split {t : List UInt8} {k b r c : Int} (h : IsCmd t k b r c) : splitB t = true ∧ splitF t = wordL k :: argsL k b r c := by
  have := fmt_splitL h.1
  rw [h.2] at this
  simp [splitB, splitF, this]
/-- the numbers xs are those of the fields behind the first -/
def NumsOf (F : List (List UInt8)) (xs : List Nat) : Prop := ∀ j, j < xs.length → parseU (F.getD (j + 1) []) = some (xs.getD j 0)
theorem NumsOf.nil (F : List (List UInt8)) : NumsOf F [] := fun j h => by simp at h
theorem NumsOf.snoc {F : List (List UInt8)} {xs : List Nat} {x : Nat} (h : NumsOf F xs) (hx : parseU (F.getD (xs.length + 1) []) = some x) : NumsOf F (xs ++ [x]) := by
  intro j hj
  rcases Nat.lt_or_ge j xs.length with h1 | h1
  · rw [List.getD_eq_getElem?_getD (l := xs ++ [x]), List.getElem?_append_left h1, ← List.getD_eq_getElem?_getD]; exact h j h1
  · have e : j = xs.length := by simp at hj; omega
    subst e
    rw [hx]; simp [List.getD_eq_getElem?_getD]
theorem nums_args {F : List (List UInt8)} {w : List UInt8} {args : List (List UInt8)} {xs : List Nat} (h : NumsOf F xs) (hF : F = w :: args) (hl : xs.length + 1 = F.length) : xs = args.map fun f => (parseU f).getD 0 := by
  subst hF
  have hl' : xs.length = args.length := by simpa using hl
  apply List.ext_getElem
  · simpa using hl'
  · intro i h1 h2
    have := h i h1
    rw [List.getD_cons_succ, List.getD_eq_getElem?_getD, List.getElem?_eq_getElem (by omega), List.getD_eq_getElem?_getD, List.getElem?_eq_getElem h1] at this
    simp at this
    simp [this]
theorem spec_built {t : List UInt8} {k b r c : Int} {xs : List Nat} (h : IsCmd t k b r c) (hx : NumsOf (splitF t) xs) (hl : xs.length + 1 = (splitF t).length) : kindAt ((splitF t).getD 0 []) 10 = k ∧ cmdOf k xs = (k, b, r, c) := by
  have hs := (isCmd_split h).2
  have hr := (formB_range h.1).1
  obtain ⟨K, rfl⟩ := Int.eq_ofNat_of_zero_le (show 0 ≤ k by omega)
  refine ⟨?_, ?_⟩
  · rw [hs]; exact kindAt_word (by omega) (by omega) 10 (by omega) (by omega)
  · rw [nums_args hx hs hl]; exact isCmd_args h
theorem spec_fails {t : List UInt8} {k b r c : Int} (h : IsCmd t k b r c) (j : Nat) (h1 : 1 ≤ j) (hj : j < (splitF t).length) : (parseU ((splitF t).getD j [])).isSome = true := by
  have hs := (isCmd_split h).2
  rw [hs] at hj ⊢
  obtain ⟨i, rfl⟩ : ∃ i, j = i + 1 := ⟨j - 1, by omega⟩
  rw [List.getD_cons_succ, List.getD_eq_getElem?_getD, List.getElem?_eq_getElem (by simpa using hj)]
  exact isCmd_parsed h _ (List.getElem_mem _)
theorem uses_five {k : Int} (h1 : 0 ≤ k) (h2 : k ≤ 9) : (useB k = true ∧ useR k = true ∧ useC k = false) ∨ (useB k = true ∧ useR k = false ∧ useC k = true) ∨ (useB k = true ∧ useR k = false ∧ useC k = false) ∨ (useB k = false ∧ useR k = false ∧ useC k = false) := by
  by_cases h : k = 0
  · subst h; decide
  · exact uses_four (by omega) h2
theorem split_lens (t : List UInt8) : (splitF t).length ≤ 24 := by
  unfold splitF splitL
  split
  · rename_i h; exact h.2.2
  · simp

theorem spec_parse_any (s0 : ByteArray) (w : World) : Calls Tryd.prog 30 #[.string s0] w fun e w' => e = .returned (.tuple #[.int .i64 ((parseU s0.data.toList).getD 0 : Nat), .bool (parseU s0.data.toList).isSome]) ∧ Ext w w' := by
  by_cases h2 : s0.size ≤ 10
  · exact spec_parse s0 w h2
  · rw [parse_long s0 (by omega)]
    go_enter Tryd.func30, Tryd.ntmps30
    go_wp2
    go_ret2
    exact ⟨rfl, Ext.refl w⟩
theorem spec_split_any (s : ByteArray) (w : World) : Calls Tryd.prog 29 #[.string s] w (Strs (splitF s.data.toList) (splitB s.data.toList) w) := by
  by_cases h : s.size ≤ 600
  · exact spec_split s w h
  · exact spec_split_long s w (by omega)

end Go.Proofs.YtamlfjkkpgmjiaaDoor
