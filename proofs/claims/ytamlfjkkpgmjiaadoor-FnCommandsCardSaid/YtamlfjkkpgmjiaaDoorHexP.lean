/- Plain: hexadecimal text and the fields of a line, as lists of bytes. No program is named here. -/
import Derived.Lib.ItoaNum
namespace Go.Proofs.YtamlfjkkpgmjiaaDoor

/-- one hexadecimal digit -/
def figB (n : Nat) : UInt8 := if n < 10 then UInt8.ofNat (48 + n) else UInt8.ofNat (87 + n)
def hexEnc : List UInt8 → List UInt8
  | [] => []
  | b :: r => figB (b.toNat / 16) :: figB (b.toNat % 16) :: hexEnc r
theorem hexEnc_append (l r : List UInt8) : hexEnc (l ++ r) = hexEnc l ++ hexEnc r := by
  induction l with
  | nil => rfl
  | cons b l ih => simp [hexEnc, ih]
theorem hexEnc_length (l : List UInt8) : (hexEnc l).length = 2 * l.length := by
  induction l with
  | nil => rfl
  | cons b l ih => simp only [hexEnc, List.length_cons, ih]; omega

/-- what a digit stands for; -1 for another byte -/
def valB (b : UInt8) : Int := if 48 ≤ b.toNat ∧ b.toNat ≤ 57 then (b.toNat : Int) - 48 else if 97 ≤ b.toNat ∧ b.toNat ≤ 102 then (b.toNat : Int) - 87 else -1
theorem valB_range (b : UInt8) : -1 ≤ valB b ∧ valB b ≤ 15 := by unfold valB; split <;> (try split) <;> omega
def hexDec : List UInt8 → Option (List UInt8)
  | [] => some []
  | [_] => none
  | a :: b :: r => if valB a < 0 ∨ valB b < 0 then none else (hexDec r).map (UInt8.ofNat (16 * valB a + valB b).toNat :: ·)

theorem figB_toNat (n : Nat) (h : n < 16) : (figB n).toNat = if n < 10 then 48 + n else 87 + n := by
  unfold figB
  split
  · simp; omega
  · simp; omega
theorem valB_figB (n : Nat) (h : n < 16) : valB (figB n) = n := by
  unfold valB
  rw [figB_toNat n h]
  by_cases h1 : n < 10
  · simp only [h1, if_true]; rw [if_pos (by omega)]; omega
  · simp only [h1, if_false]; rw [if_neg (by omega), if_pos (by omega)]; omega
theorem hexDec_enc (l : List UInt8) : hexDec (hexEnc l) = some l := by
  induction l with
  | nil => rfl
  | cons b l ih =>
    have hb : b.toNat < 256 := b.toNat_lt
    simp only [hexEnc, hexDec]
    rw [valB_figB _ (by omega), valB_figB _ (by omega), if_neg (by omega), ih]
    simp only [Option.map_some, Option.some.injEq, List.cons.injEq, and_true]
    rw [show (16 * ((b.toNat / 16 : Nat) : Int) + ((b.toNat % 16 : Nat) : Int)).toNat = b.toNat by omega]
    simp
theorem hexDec_length {l r : List UInt8} (h : hexDec l = some r) : l.length = 2 * r.length := by
  induction l using hexDec.induct generalizing r with
  | case1 => simp only [hexDec, Option.some.injEq] at h; subst h; rfl
  | case2 => simp [hexDec] at h
  | case3 a b l hlt => simp only [hexDec, if_pos hlt] at h; cases h
  | case4 a b l hlt ih =>
    simp only [hexDec, if_neg hlt, Option.map_eq_some_iff] at h
    obtain ⟨t, ht, rfl⟩ := h
    have := ih ht
    simp only [List.length_cons]
    omega
theorem hexDec_none_of_odd : ∀ (l : List UInt8), l.length % 2 = 1 → hexDec l = none := by
  intro l h
  cases e : hexDec l with
  | none => rfl
  | some r => have := hexDec_length e; omega

/-! ### fields: the runs of bytes other than 32 -/
def fld (cur : List UInt8) : List UInt8 → List (List UInt8)
  | [] => if cur = [] then [] else [cur]
  | c :: r => if c = 32 then (if cur = [] then fld [] r else cur :: fld [] r) else fld (cur ++ [c]) r
def fields (l : List UInt8) : List (List UInt8) := fld [] l
def printable (c : UInt8) : Bool := decide (32 ≤ c.toNat) && decide (c.toNat ≤ 126)
def splitL (l : List UInt8) : Option (List (List UInt8)) :=
  if l.length ≤ 600 ∧ (∀ c ∈ l, printable c = true) ∧ (fields l).length ≤ 24 then some (fields l) else none

theorem fld_space (cur r : List UInt8) : fld cur (32 :: r) = if cur = [] then fld [] r else cur :: fld [] r := by simp [fld]
theorem fld_other {c : UInt8} (h : c ≠ 32) (cur r : List UInt8) : fld cur (c :: r) = fld (cur ++ [c]) r := by simp [fld, h]
theorem fld_ne (cur l : List UInt8) : ∀ f ∈ fld cur l, f ≠ [] := by
  induction l generalizing cur with
  | nil =>
    intro f hf
    unfold fld at hf
    split at hf
    · simp at hf
    · rename_i h; simp at hf; subst hf; exact h
  | cons c l ih =>
    intro f hf
    unfold fld at hf
    split at hf
    · split at hf
      · exact ih [] f hf
      · rename_i h
        rcases List.mem_cons.1 hf with rfl | hf
        · exact h
        · exact ih [] f hf
    · exact ih _ f hf
theorem fld_no_space (cur l : List UInt8) (hc : ∀ c ∈ cur, c ≠ 32) : ∀ f ∈ fld cur l, ∀ c ∈ f, c ≠ 32 := by
  induction l generalizing cur with
  | nil =>
    intro f hf
    unfold fld at hf
    split at hf
    · simp at hf
    · simp at hf; subst hf; exact hc
  | cons c l ih =>
    intro f hf
    unfold fld at hf
    split at hf
    · split at hf
      · exact ih [] (by simp) f hf
      · rcases List.mem_cons.1 hf with rfl | hf
        · exact hc
        · exact ih [] (by simp) f hf
    · rename_i h
      exact ih _ (by intro x hx; rcases List.mem_append.1 hx with hx | hx; exact hc x hx; simp at hx; subst hx; exact h) f hf

/-- the fields, each followed by a space -/
def joinL : List (List UInt8) → List UInt8
  | [] => []
  | f :: r => f ++ 32 :: joinL r
theorem joinL_snoc (fs : List (List UInt8)) (f : List UInt8) : joinL (fs ++ [f]) = joinL fs ++ (f ++ [32]) := by
  induction fs with
  | nil => simp [joinL]
  | cons g fs ih => simp [joinL, ih]
theorem fld_word (cur f r : List UInt8) (hf : ∀ c ∈ f, c ≠ 32) : fld cur (f ++ r) = fld (cur ++ f) r := by
  induction f generalizing cur with
  | nil => simp
  | cons c f ih =>
    rw [List.cons_append, fld_other (hf c (by simp)), ih _ (fun x hx => hf x (by simp [hx]))]
    simp
theorem fields_join (fs : List (List UInt8)) (h1 : ∀ f ∈ fs, f ≠ []) (h2 : ∀ f ∈ fs, ∀ c ∈ f, c ≠ 32) : fields (joinL fs) = fs := by
  unfold fields
  induction fs with
  | nil => simp [joinL, fld]
  | cons f fs ih =>
    rw [joinL, fld_word [] f _ (h2 f (by simp)), List.nil_append, fld_space, if_neg (h1 f (by simp)), ih (fun g hg => h1 g (by simp [hg])) (fun g hg => h2 g (by simp [hg]))]
theorem fields_mem (cur l : List UInt8) : ∀ f ∈ fld cur l, ∀ c ∈ f, c ∈ cur ∨ c ∈ l := by
  induction l generalizing cur with
  | nil =>
    intro f hf c hc
    unfold fld at hf
    split at hf
    · simp at hf
    · simp at hf; subst hf; exact .inl hc
  | cons d l ih =>
    intro f hf c hc
    unfold fld at hf
    split at hf
    · split at hf
      · rcases ih [] f hf c hc with h | h
        · simp at h
        · exact .inr (by simp [h])
      · rcases List.mem_cons.1 hf with rfl | hf
        · exact .inl hc
        · rcases ih [] f hf c hc with h | h
          · simp at h
          · exact .inr (by simp [h])
    · rcases ih _ f hf c hc with h | h
      · rcases List.mem_append.1 h with h | h
        · exact .inl h
        · simp at h; exact .inr (by simp [h])
      · exact .inr (by simp [h])
theorem joinL_mem (fs : List (List UInt8)) : ∀ c ∈ joinL fs, c = 32 ∨ ∃ f ∈ fs, c ∈ f := by
  induction fs with
  | nil => simp [joinL]
  | cons f fs ih =>
    intro c hc
    rcases List.mem_append.1 hc with h | h
    · exact .inr ⟨f, by simp, h⟩
    · rcases List.mem_cons.1 h with h | h
      · exact .inl h
      · rcases ih c h with h | ⟨g, hg, h⟩
        · exact .inl h
        · exact .inr ⟨g, by simp [hg], h⟩

/-- the fields of a line, joined by spaces, have the same fields -/
theorem splitL_join {l : List UInt8} {fs : List (List UInt8)} (h : splitL l = some fs) (hl : (joinL fs).length ≤ 600) : splitL (joinL fs) = some fs := by
  unfold splitL at h
  split at h
  · rename_i hc
    have e : fields l = fs := by simpa using h
    have h1 : ∀ f ∈ fs, f ≠ [] := by rw [← e]; exact fld_ne [] l
    have h2 : ∀ f ∈ fs, ∀ c ∈ f, c ≠ 32 := by rw [← e]; exact fld_no_space [] l (by simp)
    have e2 := fields_join fs h1 h2
    unfold splitL
    rw [e2, if_pos]
    refine ⟨hl, fun c hc' => ?_, by rw [← e]; exact hc.2.2⟩
    rcases joinL_mem fs c hc' with rfl | ⟨f, hf, hcf⟩
    · decide
    · rw [← e] at hf
      rcases fields_mem [] l f hf c hcf with h | h
      · simp at h
      · exact hc.2.1 c h
  · cases h

end Go.Proofs.YtamlfjkkpgmjiaaDoor
