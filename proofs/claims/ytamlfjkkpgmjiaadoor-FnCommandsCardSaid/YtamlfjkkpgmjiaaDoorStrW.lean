/- The laws' own functions over slices of strings (eqStringS, markStringS, heldStringS, markText) and the walk of FnExactSplitFields. -/
import Derived.Test.YtamlfjkkpgmjiaaDoorSplW
import Derived.Test.YtamlfjkkpgmjiaaDoorDecW
namespace Go.Proofs.YtamlfjkkpgmjiaaDoor
open Go.RowKit
open Go.Lib (decDigits itoa)

/-- a slice that reads as the strings fs -/
def ReadsS (w : World) (a : Option Addr) (n : Nat) (fs : List (List UInt8)) : Prop :=
  fs.length = n ∧ (0 < n → ∃ b o, a = some ⟨b, o, none⟩ ∧ b < w.heap.size ∧ ∀ i, i < n → w.cell? ⟨b, o + i, none⟩ = some (.string (strOf (fs.getD i []))))
def OwnS (w : World) (base : Nat) (a : Option Addr) (n cap : Nat) (fs : List (List UInt8)) : Prop := w.ownsRow base 9 1 (.slice a n cap) n (cellsS fs)
theorem OwnS.len {w : World} {base : Nat} {a : Option Addr} {n cap : Nat} {fs : List (List UInt8)} (h : OwnS w base a n cap fs) : fs.length = n := by
  have := h.1
  simpa [cellsS] using this
theorem OwnS.form {w : World} {base : Nat} {a : Option Addr} {n cap : Nat} {fs : List (List UInt8)} (h : OwnS w base a n cap fs) (hn : 0 < n) : ∃ g, a = some ⟨g, 0, none⟩ ∧ base ≤ g ∧ g < w.heap.size := by
  obtain ⟨g, c, e⟩ := Joins.ownsRow_form h hn
  have e' : a = some ⟨g, 0, none⟩ := by injection e
  subst e'
  exact ⟨g, rfl, World.ownsRow.lt h g rfl⟩
theorem OwnS.at {w : World} {base : Nat} {g : Nat} {n cap : Nat} {fs : List (List UInt8)} (h : OwnS w base (some ⟨g, 0, none⟩) n cap fs) {i : Nat} (hi : i < n) : w.cell? ⟨g, i, none⟩ = some (.string (strOf (fs.getD i []))) := by
  have hl := h.len
  rw [World.ownsRow.cellAt h i (by omega), cellsS, List.getElem?_map, List.getElem?_eq_getElem (by omega), List.getD_eq_getElem?_getD, List.getElem?_eq_getElem (by omega)]
  rfl
theorem OwnS.reads {w : World} {base : Nat} {a : Option Addr} {n cap : Nat} {fs : List (List UInt8)} (h : OwnS w base a n cap fs) : ReadsS w a n fs :=
  ⟨h.len, fun hn => by
    obtain ⟨g, rfl, _, hg⟩ := h.form hn
    exact ⟨g, 0, rfl, hg, fun i hi => by rw [Nat.zero_add]; exact h.at hi⟩⟩
theorem own_ext {w w' : World} {base e size n : Nat} {v : Value} {xs : List Value} (h : w.ownsRow base e size v n xs) (x : Ext w w') : w'.ownsRow base e size v n xs := by
  refine ⟨h.1, ?_⟩
  rcases h.2 with h2 | ⟨g, c, cur, hv, hg, hh, r⟩
  · exact .inl h2
  · exact .inr ⟨g, c, cur, hv, hg, (Below.block x g (Array.getElem?_eq_some_iff.1 hh).1).trans hh, r⟩
theorem OwnS.ext {w w' : World} {base : Nat} {a : Option Addr} {n cap : Nat} {fs : List (List UInt8)} (h : OwnS w base a n cap fs) (x : Ext w w') : OwnS w' base a n cap fs := own_ext h x
/-- everything but the block of the slice a stands -/
def TouchS (a : Option Addr) (w w' : World) : Prop := w.grownBy w' (Value.slice a 0 0).ownBlock
theorem TouchS.refl (a : Option Addr) (w : World) : TouchS a w w := ⟨rfl, rfl, rfl, Nat.le_refl _, fun _ _ _ => rfl⟩
theorem TouchS.trans {a : Option Addr} {w w1 w2 : World} (h : TouchS a w w1) (k : TouchS a w1 w2) : TouchS a w w2 :=
  ⟨k.os.trans h.os, k.tape.trans h.tape, k.output.trans h.output, Nat.le_trans h.size k.size, fun b hb hne => (k.block b (Nat.lt_of_lt_of_le hb h.size) hne).trans (h.block b hb hne)⟩
theorem TouchS.ext {a : Option Addr} {w w1 : World} (x : Ext w w1) : TouchS a w w1 := ⟨Below.os x, Below.tape x, Below.output x, Below.size x, fun b hb _ => Below.block x b hb⟩
/-- the slice lies behind W: so everything of W stands -/
theorem TouchS.toExt {a : Option Addr} {W w w1 : World} (x : Ext W w) (h : TouchS a w w1) (hb : ∀ g o s, a = some ⟨g, o, s⟩ → W.heap.size ≤ g) : Ext W w1 :=
  Below.grown x h x.le (fun k hk => by
    cases a with
    | none => cases hk
    | some p => injection hk with hk; subst hk; exact hb p.block p.off p.spot rfl)
theorem OwnS.far {w : World} {base : Nat} {a : Option Addr} {n cap : Nat} {fs : List (List UInt8)} (h : OwnS w base a n cap fs) : ∀ g o s, 0 < n → a = some ⟨g, o, s⟩ → base ≤ g := by
  intro g o s hn e
  obtain ⟨g', e', hg, _⟩ := h.form hn
  rw [e'] at e
  injection e with e
  injection e with e1
  omega

theorem OwnS.far' {w : World} {base : Nat} {a : Option Addr} {n cap : Nat} {fs : List (List UInt8)} (h : OwnS w base a n cap fs) : ∀ g o s, a = some ⟨g, o, s⟩ → base ≤ g := by
  intro g o s e
  rcases h.2 with ⟨h2, _⟩ | ⟨g', c, cur, hv, hg, _⟩
  · injection h2 with h2; rw [h2] at e; cases e
  · injection hv with hv; rw [hv] at e; injection e with e; injection e with e1; omega

/-- what markText writes -/
def markS (k : Nat) : List UInt8 := 109 :: decDigits k
def iotaS (k : Nat) : Nat → List (List UInt8)
  | 0 => []
  | n + 1 => iotaS k n ++ [markS (k + n)]
theorem iotaS_length (k n : Nat) : (iotaS k n).length = n := by
  induction n with
  | zero => rfl
  | succ n ih => simp [iotaS, ih]
theorem iotaS_get (k n i : Nat) (h : i < n) : (iotaS k n).getD i [] = markS (k + i) := by
  induction n with
  | zero => omega
  | succ n ih =>
    have hl := iotaS_length k n
    rw [iotaS, List.getD_eq_getElem?_getD]
    rcases Nat.lt_or_ge i n with h1 | h1
    · rw [List.getElem?_append_left (by omega), ← List.getD_eq_getElem?_getD]; exact ih h1
    · obtain rfl : i = n := by omega
      rw [List.getElem?_append_right (by omega), hl]
      simp
theorem setS_step (ys : List (List UInt8)) (x : List UInt8) (zs : List (List UInt8)) (h : ys.length < zs.length) : (ys ++ zs.drop ys.length).set ys.length x = (ys ++ [x]) ++ zs.drop (ys.length + 1) := by
  rw [List.set_append_right _ _ (Nat.le_refl _), Nat.sub_self, List.drop_eq_getElem_cons h, List.set_cons_zero, List.append_assoc]
  rfl
theorem cellsS_set (l : List (List UInt8)) (k : Nat) (x : List UInt8) : (cellsS l).set k (.string (strOf x)) = cellsS (l.set k x) := by
  rw [cellsS, cellsS, List.map_set]

theorem fig_conv (w : World) (m : Nat) : (convert 32 9 (.slice (some ⟨w.heap.size, 0, none⟩) 1 1)).run Tryd.prog (w.alloc (.cells #[.int .u8 (48 + (m : Int) % 10)] 5)) = .ok (.string (strOf [figB (m % 10)])) (w.alloc (.cells #[.int .u8 (48 + (m : Int) % 10)] 5)) := by
  have h := one_string w (figB (m % 10))
  have hf := figB_toNat (m % 10) (by omega)
  rw [if_pos (by omega)] at hf
  rw [hf, show ((48 + m % 10 : Nat) : Int) = 48 + (m : Int) % 10 by omega] at h
  exact h









end Go.Proofs.YtamlfjkkpgmjiaaDoor
