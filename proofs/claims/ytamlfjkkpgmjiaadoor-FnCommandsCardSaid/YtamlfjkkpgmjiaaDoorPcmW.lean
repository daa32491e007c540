/- The contract of ParseCommand of the program: the command whose text it is, or none. -/
import Derived.Test.YtamlfjkkpgmjiaaDoorFmcV
import Derived.Test.YtamlfjkkpgmjiaaDoorParW
set_option maxRecDepth 20000
namespace Go.Proofs.YtamlfjkkpgmjiaaDoor
open Go.RowKit
open Go.Lib (decDigits itoa)
attribute [local go_sem ↓] Go.wp_at_zero Go.wp_at_succ

theorem results_ct {P : Program} {fn : Func} {p q : Tmp} {y : TypeId} (h : fn.results = #[.cell p y, .tmp q]) (tmps : Array Value) (w : World) (g : Nat) (t : TypeId) (c : Array Value) (f : Nat × Nat) (d : TypeDesc) (v : Value)
    (hp : tmps.getD p undef = .pointer (some ⟨g, 0, none⟩)) (hg : w.heap[g]? = some (.cells c t f)) (hq : tmps.getD q undef = v)
    (hu : P.underlying y = some d) (hd : (match d with | .struct _ | .array _ _ => true | _ => false) = true) (hi : (P.info? y).map (·.size) = some c.size) :
    (results fn tmps).run P w = .ok (.tuple #[.agg c, v]) w := by
  have e1 : tmps[p]?.getD undef = .pointer (some ⟨g, 0, none⟩) := by simpa using hp
  have e2 : tmps[q]?.getD undef = v := by simpa using hq
  simp [results, h, e1, e2, asAddr, run_loadVar_row w g t y c f d hg hu hd hi]

/-- what parsing a text gives: its command, or none -/
def ParsedC (t : List UInt8) (w : World) : Ending → World → Prop := fun e w' => Ext w w' ∧
  ((∃ k b r c : Int, IsCmd t k b r c ∧ e = .returned (.tuple #[.agg #[.int .i64 k, .int .i64 b, .int .i64 r, .int .i64 c], .bool true]))
   ∨ ((∀ k b r c : Int, ¬ IsCmd t k b r c) ∧ e = .returned (.tuple #[.agg #[.int .i64 0, .int .i64 0, .int .i64 0, .int .i64 0], .bool false])))

/-- the pieces of a text between its spaces -/
def pieces (s : ByteArray) : List ByteArray := Lib.splitB ⟨#[32]⟩ 0 (Lib.countB s ⟨#[32]⟩) s
theorem pieces_len (s : ByteArray) : (pieces s).length = Lib.countB s ⟨#[32]⟩ + 1 := Lib.splitB_all ⟨#[32]⟩ (Nat.le_refl _) 0 _ s rfl
theorem pieces_cmd {s : ByteArray} {k b r c : Int} (h : IsCmd s.data.toList k b r c) : (pieces s).map (·.data.toList) = wordL k :: argsL k b r c := by
  have h1 := fmt_split h.1
  rw [h.2] at h1
  rw [pieces, Lib.splitB_data]
  have hc : Lib.countB s ⟨#[32]⟩ = s.data.toList.count 32 := Lib.count_one 32 s.data.toList
  rw [hc]
  exact h1
theorem pieces_at {s : ByteArray} {k b r c : Int} (h : IsCmd s.data.toList k b r c) (i : Nat) : ((pieces s).getD i ByteArray.empty).data.toList = (wordL k :: argsL k b r c).getD i [] := by
  rw [← pieces_cmd h, List.getD_eq_getElem?_getD, List.getD_eq_getElem?_getD, List.getElem?_map]
  cases (pieces s)[i]? <;> rfl
theorem pieces_count {s : ByteArray} {k b r c : Int} (h : IsCmd s.data.toList k b r c) : (argsL k b r c).length + 1 = (pieces s).length := by
  have := congrArg List.length (pieces_cmd h)
  simpa using this.symm

/-- the number that the program reads from piece i -/
def numAt (s : ByteArray) (i : Nat) : Int := ((parseU ((pieces s).getD i ByteArray.empty).data.toList).getD 0 : Nat)
/-- the command that the program builds of kind k -/
def builtC (s : ByteArray) (k : Int) : Int × Int × Int × Int :=
  (k, if 1 < (pieces s).length then numAt s 1 else 0, if 2 < (pieces s).length ∧ useR k = true then numAt s 2 else 0, if 2 < (pieces s).length ∧ useR k = false then numAt s 2 else 0)
theorem built_cmd {s : ByteArray} {k b r c : Int} (h : IsCmd s.data.toList k b r c) : builtC s k = (k, b, r, c) := by
  have h1 := pieces_at h 1
  have h2 := pieces_at h 2
  have h3 := pieces_count h
  have hf := h.1
  have hr := formB_range hf
  have hB : parseU (decDigits b.toNat) = some b.toNat := parseU_dec _ (by omega)
  have hR : parseU (decDigits r.toNat) = some r.toNat := parseU_dec _ (by omega)
  have hC : parseU (decDigits c.toNat) = some c.toNat := parseU_dec _ (by omega)
  rw [formB_alt] at hf
  unfold builtC numAt
  rw [h1, h2, ← h3]
  rcases nine hr.1.1 hr.1.2 with rfl | rfl | rfl | rfl | rfl | rfl | rfl | rfl | rfl <;>
    simp [useB, useR, useC, btw, argsL, hB, hR, hC] at hf ⊢ <;> omega
theorem first_cmd {s : ByteArray} {k b r c : Int} (h : IsCmd s.data.toList k b r c) : (pieces s).getD 0 ByteArray.empty = strOf (wordL k) := by
  have h1 := pieces_at h 0
  have e : ((pieces s).getD 0 ByteArray.empty).data.toList = wordL k := h1
  rw [← e]
  rfl
/-- a text that has a word ahead is not empty -/
theorem text_some {s : ByteArray} {k : Int} (h1 : 1 ≤ k) (h2 : k ≤ 9) (h : (pieces s).getD 0 ByteArray.empty = strOf (wordL k)) : s.data.toList ≠ [] := by
  intro e
  have hs : s = ⟨#[]⟩ := by
    have : s.data = #[] := by simpa using e
    cases s; simp_all
  subst hs
  have : strOf (wordL k) = ⟨#[]⟩ := h.symm.trans rfl
  have e2 := congrArg (fun b : ByteArray => b.data.toList) this
  simp only [strOf_list] at e2
  exact wordL_ne h1 h2 e2
theorem strOf_eq {l : List UInt8} {s : ByteArray} : strOf l = s ↔ l = s.data.toList :=
  ⟨fun h => by rw [← h, strOf_list], fun h => by rw [h]; rfl⟩
theorem bytes_beq {a b : ByteArray} : (a.toList == b.toList) = true ↔ a = b := by
  rw [beq_iff_eq, ByteArray.toList_eq, ByteArray.toList_eq]
  exact ⟨fun h => by cases a; cases b; simp_all, fun h => by rw [h]⟩
theorem bytes_bne {a b : ByteArray} : (!a.toList == b.toList) = false ↔ a = b := by
  rw [Bool.not_eq_false', bytes_beq]

end Go.Proofs.YtamlfjkkpgmjiaaDoor
