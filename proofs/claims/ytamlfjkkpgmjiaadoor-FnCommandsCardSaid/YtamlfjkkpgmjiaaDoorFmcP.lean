/- Plain: the text of a command, its pieces, and what a text can be parsed to. No program is named here. -/
import Derived.Test.YtamlfjkkpgmjiaaDoorCmdP
import Derived.Test.YtamlfjkkpgmjiaaDoorDecP
import Derived.Test.YtamlfjkkpgmjiaaDoorSplP
import Derived.Lib.SplitLaws
import Derived.Lib.IndexBytes
namespace Go.Proofs.YtamlfjkkpgmjiaaDoor
open Go.Lib (decDigits itoa)

/-- the word of a kind -/
def wordL (k : Int) : List UInt8 :=
  if k = 1 then [97, 99, 116] else if k = 2 then [114, 101, 97, 100] else if k = 3 then [119, 114, 105, 116, 101] else if k = 4 then [112, 114, 101] else if k = 5 then [114, 101, 102]
  else if k = 6 then [100, 111, 119, 110] else if k = 7 then [117, 112] else if k = 8 then [115, 108, 101, 101, 112] else if k = 9 then [119, 97, 107, 101] else []
theorem nine {k : Int} (h1 : 1 ≤ k) (h2 : k ≤ 9) : k = 1 ∨ k = 2 ∨ k = 3 ∨ k = 4 ∨ k = 5 ∨ k = 6 ∨ k = 7 ∨ k = 8 ∨ k = 9 := by omega
theorem wordL_ne {k : Int} (h1 : 1 ≤ k) (h2 : k ≤ 9) : wordL k ≠ [] := by
  rcases nine h1 h2 with rfl | rfl | rfl | rfl | rfl | rfl | rfl | rfl | rfl <;> decide
theorem wordL_sp {k : Int} (h1 : 1 ≤ k) (h2 : k ≤ 9) : ∀ c ∈ wordL k, printable c = true ∧ c ≠ 32 := by
  rcases nine h1 h2 with rfl | rfl | rfl | rfl | rfl | rfl | rfl | rfl | rfl <;> decide
theorem wordL_len {k : Int} (h1 : 1 ≤ k) (h2 : k ≤ 9) : (wordL k).length ≤ 5 := by
  rcases nine h1 h2 with rfl | rfl | rfl | rfl | rfl | rfl | rfl | rfl | rfl <;> decide
theorem wordL_inj {k j : Int} (h1 : 1 ≤ k) (h2 : k ≤ 9) (h3 : 1 ≤ j) (h4 : j ≤ 9) (h : wordL k = wordL j) : k = j := by
  rcases nine h1 h2 with rfl | rfl | rfl | rfl | rfl | rfl | rfl | rfl | rfl <;> rcases nine h3 h4 with rfl | rfl | rfl | rfl | rfl | rfl | rfl | rfl | rfl <;> first | rfl | exact absurd h (by decide)

def argsL (k b r c : Int) : List (List UInt8) := (if useB k then [decDigits b.toNat] else []) ++ ((if useR k then [decDigits r.toNat] else []) ++ (if useC k then [decDigits c.toNat] else []))
def tailL (args : List (List UInt8)) : List UInt8 := args.flatMap fun f => 32 :: f
theorem tailL_cons (f : List UInt8) (args : List (List UInt8)) : tailL (f :: args) = 32 :: (f ++ tailL args) := by simp [tailL]
theorem tailL_nil : tailL [] = [] := rfl
/-- the text of a command -/
def fmtL (k b r c : Int) : List UInt8 := if formB k b r c then wordL k ++ tailL (argsL k b r c) else []
theorem fmtL_yes {k b r c : Int} (h : formB k b r c = true) : fmtL k b r c = wordL k ++ tailL (argsL k b r c) := by rw [fmtL, if_pos h]
theorem fmtL_no {k b r c : Int} (h : formB k b r c = false) : fmtL k b r c = [] := by rw [fmtL, if_neg (by simp [h])]

theorem fld_tail (args : List (List UInt8)) (h : ∀ f ∈ args, f ≠ [] ∧ ∀ c ∈ f, c ≠ 32) : ∀ cur : List UInt8, cur ≠ [] → fld cur (tailL args) = cur :: args := by
  induction args with
  | nil => intro cur hc; rw [tailL_nil, fld, if_neg hc]
  | cons f args ih =>
    intro cur hc
    have hf := h f (by simp)
    rw [tailL_cons, fld_space, if_neg hc, fld_word _ _ _ hf.2, List.nil_append, ih (fun g hg => h g (by simp [hg])) f hf.1]
theorem fields_tail {w : List UInt8} {args : List (List UInt8)} (hw : w ≠ []) (hw2 : ∀ c ∈ w, c ≠ 32) (h : ∀ f ∈ args, f ≠ [] ∧ ∀ c ∈ f, c ≠ 32) : fields (w ++ tailL args) = w :: args := by
  rw [fields, fld_word _ _ _ hw2, List.nil_append, fld_tail args h w hw]

theorem indexByte_word {w : List UInt8} (hw : ∀ c ∈ w, c ≠ 32) : Lib.indexByte w 32 = -1 ∧ ∀ r, Lib.indexByte (w ++ 32 :: r) 32 = (w.length : Int) := by
  induction w with
  | nil => exact ⟨rfl, fun r => rfl⟩
  | cons b l ih =>
    obtain ⟨i1, i2⟩ := ih (fun c hc => hw c (by simp [hc]))
    have hb : (b == 32) = false := beq_eq_false_iff_ne.2 (hw b (by simp))
    refine ⟨by rw [Lib.indexByte, hb, i1]; rfl, fun r => ?_⟩
    rw [List.cons_append, Lib.indexByte, hb, i2 r]
    have e : ((l.length : Int) == -1) = false := beq_eq_false_iff_ne.2 (by omega)
    rw [e]
    simp
theorem splitK_tail (args : List (List UInt8)) (h : ∀ f ∈ args, ∀ c ∈ f, c ≠ 32) : ∀ w : List UInt8, (∀ c ∈ w, c ≠ 32) → Lib.splitK [32] 0 args.length (w ++ tailL args) = w :: args := by
  induction args with
  | nil => intro w _; simp [tailL_nil, Lib.splitK]
  | cons f args ih =>
    intro w hw
    have e : Lib.index (w ++ 32 :: (f ++ tailL args)) [32] = (w.length : Int) := by rw [Lib.index_one]; exact (indexByte_word hw).2 _
    have e2 : ((w.length : Int) == -1) = false := beq_eq_false_iff_ne.2 (by omega)
    rw [tailL_cons, List.length_cons, Lib.splitK, e, e2]
    have d : (w ++ 32 :: (f ++ tailL args)).drop (w.length + 1) = f ++ tailL args := by
      rw [List.drop_append]
      simp
    have t : (w ++ 32 :: (f ++ tailL args)).take w.length = w := by simp
    simp only [Bool.false_eq_true, if_false, Int.toNat_natCast, Nat.add_zero, List.length_cons, List.length_nil, Nat.zero_add, d, t]
    rw [ih (fun g hg => h g (by simp [hg])) f (h f (by simp))]
theorem count_word {w : List UInt8} (hw : ∀ c ∈ w, c ≠ 32) : w.count 32 = 0 := List.count_eq_zero.2 (fun h => hw 32 h rfl)
theorem count_tail (args : List (List UInt8)) (h : ∀ f ∈ args, ∀ c ∈ f, c ≠ 32) : (tailL args).count 32 = args.length := by
  induction args with
  | nil => rfl
  | cons f args ih => rw [tailL_cons, List.count_cons, List.count_append, count_word (h f (by simp)), ih (fun g hg => h g (by simp [hg]))]; simp

theorem dig_ne (c : UInt8) (h : isDig c = true) : printable c = true ∧ c ≠ 32 := by
  have := isDig_iff.1 h
  refine ⟨by simp only [printable, Bool.and_eq_true, decide_eq_true_eq]; omega, ?_⟩
  rintro rfl
  simp at this
theorem argsL_fit (k b r c : Int) : ∀ f ∈ argsL k b r c, f ≠ [] ∧ ∀ x ∈ f, printable x = true ∧ x ≠ 32 := by
  have hd : ∀ n : Nat, decDigits n ≠ [] ∧ ∀ x ∈ decDigits n, printable x = true ∧ x ≠ 32 := fun n => ⟨dec_ne n, fun x hx => dig_ne x (dec_dig n x hx)⟩
  intro f hf
  unfold argsL at hf
  rcases List.mem_append.1 hf with hf | hf
  · split at hf
    · simp at hf; subst hf; exact hd _
    · simp at hf
  · rcases List.mem_append.1 hf with hf | hf
    · split at hf
      · simp at hf; subst hf; exact hd _
      · simp at hf
    · split at hf
      · simp at hf; subst hf; exact hd _
      · simp at hf
theorem argsL_len (k b r c : Int) : (argsL k b r c).length ≤ 3 := by
  unfold argsL
  repeat' split
  all_goals simp
/-- the pieces of a command's text: both ways of cutting -/
theorem fmt_fields {k b r c : Int} (h : formB k b r c = true) : fields (fmtL k b r c) = wordL k :: argsL k b r c := by
  have hr := (formB_range h).1
  rw [fmtL_yes h]
  exact fields_tail (wordL_ne hr.1 hr.2) (fun x hx => (wordL_sp hr.1 hr.2 x hx).2) (fun f hf => ⟨(argsL_fit k b r c f hf).1, fun x hx => ((argsL_fit k b r c f hf).2 x hx).2⟩)
theorem fmt_ne {k b r c : Int} (h : formB k b r c = true) : fmtL k b r c ≠ [] := by
  have hr := (formB_range h).1
  rw [fmtL_yes h]
  intro e
  exact wordL_ne hr.1 hr.2 (List.append_eq_nil_iff.1 e).1
theorem fmt_form {k b r c : Int} (h : fmtL k b r c ≠ []) : formB k b r c = true := by
  cases hf : formB k b r c with
  | true => rfl
  | false => exact absurd (fmtL_no hf) h
theorem dec_len2 {n : Nat} (h : n < 100) : (decDigits n).length ≤ 2 := dec_length n 1 (by omega)
theorem tail_mem {args : List (List UInt8)} {x : UInt8} (h : x ∈ tailL args) : x = 32 ∨ ∃ f ∈ args, x ∈ f := by
  unfold tailL at h
  obtain ⟨f, hf, hx⟩ := List.mem_flatMap.1 h
  rcases List.mem_cons.1 hx with rfl | hx
  · exact .inl rfl
  · exact .inr ⟨f, hf, hx⟩
theorem tail_len {args : List (List UInt8)} (h : ∀ f ∈ args, f.length ≤ 2) : (tailL args).length ≤ 3 * args.length := by
  induction args with
  | nil => simp [tailL_nil]
  | cons f args ih =>
    have h1 := ih (fun g hg => h g (by simp [hg]))
    have h2 := h f (by simp)
    rw [tailL_cons]
    simp only [List.length_cons, List.length_append]
    omega
theorem argsL_short {k b r c : Int} (h : formB k b r c = true) : ∀ f ∈ argsL k b r c, f.length ≤ 2 := by
  have hr := formB_range h
  intro f hf
  unfold argsL at hf
  rcases List.mem_append.1 hf with hf | hf
  · split at hf
    · simp at hf; subst hf; exact dec_len2 (by omega)
    · simp at hf
  · rcases List.mem_append.1 hf with hf | hf
    · split at hf
      · simp at hf; subst hf; exact dec_len2 (by omega)
      · simp at hf
    · split at hf
      · simp at hf; subst hf; exact dec_len2 (by omega)
      · simp at hf
theorem fmt_len {k b r c : Int} (h : formB k b r c = true) : (fmtL k b r c).length ≤ 14 := by
  have hr := (formB_range h).1
  have h1 := wordL_len hr.1 hr.2
  have h2 := tail_len (argsL_short h)
  have h3 := argsL_len k b r c
  rw [fmtL_yes h, List.length_append]
  omega
theorem fmt_splitL {k b r c : Int} (h : formB k b r c = true) : splitL (fmtL k b r c) = some (wordL k :: argsL k b r c) := by
  have hr := (formB_range h).1
  unfold splitL
  rw [if_pos, fmt_fields h]
  refine ⟨by have := fmt_len h; omega, ?_, ?_⟩
  · intro x hx
    rw [fmtL_yes h] at hx
    rcases List.mem_append.1 hx with hx | hx
    · exact (wordL_sp hr.1 hr.2 x hx).1
    · rcases tail_mem hx with rfl | ⟨f, hf, hx⟩
      · decide
      · exact ((argsL_fit k b r c f hf).2 x hx).1
  · rw [fmt_fields h, List.length_cons]
    have := argsL_len k b r c
    omega
theorem fmt_split {k b r c : Int} (h : formB k b r c = true) : Lib.splitK [32] 0 ((fmtL k b r c).count 32) (fmtL k b r c) = wordL k :: argsL k b r c := by
  have hr := (formB_range h).1
  have hw : ∀ x ∈ wordL k, x ≠ 32 := fun x hx => (wordL_sp hr.1 hr.2 x hx).2
  have ha : ∀ f ∈ argsL k b r c, ∀ x ∈ f, x ≠ 32 := fun f hf x hx => ((argsL_fit k b r c f hf).2 x hx).2
  rw [fmtL_yes h, List.count_append, count_word hw, count_tail _ ha, Nat.zero_add]
  exact splitK_tail _ ha _ hw

/-- a text that is a command's -/
def IsCmd (t : List UInt8) (k b r c : Int) : Prop := formB k b r c = true ∧ fmtL k b r c = t
theorem parse_back {n : Int} (h0 : 0 ≤ n) (h1 : n ≤ 100) : ((parseU (decDigits n.toNat)).getD 0 : Int) = n := by
  rw [parseU_dec _ (by omega)]
  simp
  omega
/-- the fields of a command, from its pieces -/
def cmdOf (k : Int) (xs : List Nat) : Int × Int × Int × Int :=
  (k, if useB k then ((xs.getD 0 0 : Nat) : Int) else 0, if useR k then ((xs.getD 1 0 : Nat) : Int) else 0, if useC k then ((xs.getD 1 0 : Nat) : Int) else 0)
theorem isCmd_args {t : List UInt8} {k b r c : Int} (h : IsCmd t k b r c) : cmdOf k ((argsL k b r c).map fun f => (parseU f).getD 0) = (k, b, r, c) := by
  obtain ⟨hf, -⟩ := h
  have hr := formB_range hf
  have hB : parseU (decDigits b.toNat) = some b.toNat := parseU_dec _ (by omega)
  have hR : parseU (decDigits r.toNat) = some r.toNat := parseU_dec _ (by omega)
  have hC : parseU (decDigits c.toNat) = some c.toNat := parseU_dec _ (by omega)
  rw [formB_alt] at hf
  rcases nine hr.1.1 hr.1.2 with rfl | rfl | rfl | rfl | rfl | rfl | rfl | rfl | rfl <;>
    simp [useB, useR, useC, btw, argsL, cmdOf, hB, hR, hC] at hf ⊢ <;> omega
theorem isCmd_inj {t : List UInt8} {k b r c k' b' r' c' : Int} (h : IsCmd t k b r c) (h' : IsCmd t k' b' r' c') : k = k' ∧ b = b' ∧ r = r' ∧ c = c' := by
  have e1 := fmt_fields h.1
  have e2 := fmt_fields h'.1
  rw [h.2] at e1
  rw [h'.2] at e2
  have e := e1.symm.trans e2
  injection e with e3 e4
  have hr := (formB_range h.1).1
  have hr' := (formB_range h'.1).1
  obtain rfl := wordL_inj hr.1 hr.2 hr'.1 hr'.2 e3
  have a1 := isCmd_args h
  have a2 := isCmd_args h'
  rw [e4] at a1
  have a := a1.symm.trans a2
  simp only [Prod.mk.injEq] at a
  exact ⟨rfl, a.2⟩
theorem isCmd_parsed {t : List UInt8} {k b r c : Int} (h : IsCmd t k b r c) : ∀ f ∈ argsL k b r c, (parseU f).isSome = true := by
  have hr := formB_range h.1
  have hd : ∀ n : Int, 0 ≤ n → n ≤ 100 → (parseU (decDigits n.toNat)).isSome = true := fun n h0 h1 => by rw [parseU_dec _ (by omega)]; rfl
  intro f hf
  unfold argsL at hf
  rcases List.mem_append.1 hf with hf | hf
  · split at hf
    · simp at hf; subst hf; exact hd _ (by omega) (by omega)
    · simp at hf
  · rcases List.mem_append.1 hf with hf | hf
    · split at hf
      · simp at hf; subst hf; exact hd _ (by omega) (by omega)
      · simp at hf
    · split at hf
      · simp at hf; subst hf; exact hd _ (by omega) (by omega)
      · simp at hf

end Go.Proofs.YtamlfjkkpgmjiaaDoor
