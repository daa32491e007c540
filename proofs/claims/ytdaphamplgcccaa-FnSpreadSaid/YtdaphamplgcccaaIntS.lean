/- Contracts of the laws' own functions over slices of integers: toIntS, eqIntS, markIntS, heldIntS. -/
import Derived.Test.YtdaphamplgcccaaDrawP
namespace Go.Proofs.Ytdaphamplgcccaa
open Go.RowKit

/-- the slice reads as zs (its elements alone), below block B -/
def Reads (w : World) (B : Nat) (a : Option Addr) (n : Nat) (zs : List Int) : Prop :=
  zs.length = n ∧ (0 < n → ∃ b o, a = some ⟨b, o, none⟩ ∧ b < B ∧ ∀ i, i < n → w.cell? ⟨b, o + i, none⟩ = some (.int .i64 (zs.getD i 0)))
theorem RowIs.reads {w : World} {B : Nat} {a : Option Addr} {n : Nat} {zs : List Int} (h : RowIs .i64 w B a n zs) : Reads w B a n zs := ⟨h.1, h.2.2⟩
theorem Reads.keep {w w' : World} {B : Nat} {a : Option Addr} {n : Nat} {zs : List Int} (h : Reads w B a n zs) (hk : ∀ b o, b < B → w'.cell? ⟨b, o, none⟩ = w.cell? ⟨b, o, none⟩) : Reads w' B a n zs :=
  ⟨h.1, fun hp => by
    obtain ⟨b, o, e, hb, hc⟩ := h.2 hp
    exact ⟨b, o, e, hb, fun i hi => (hk b _ hb).trans (hc i hi)⟩⟩
theorem Reads.ext {w w' : World} {B : Nat} {a : Option Addr} {n : Nat} {zs : List Int} (h : Reads w B a n zs) (x : Ext w w') (hB : B ≤ w.heap.size) : Reads w' B a n zs :=
  h.keep fun b o hb => x.cell (by omega) o
/-- a row of the call's own that holds zs -/
def Own (w : World) (base : Nat) (a : Option Addr) (n cap : Nat) (zs : List Int) : Prop := w.ownsRow base 3 1 (.slice a n cap) n (zs.map (Value.int .i64))
theorem Own.len {w : World} {base : Nat} {a : Option Addr} {n cap : Nat} {zs : List Int} (h : Own w base a n cap zs) : zs.length = n := by
  have := h.1
  simpa using this
theorem Own.form {w : World} {base : Nat} {a : Option Addr} {n cap : Nat} {zs : List Int} (h : Own w base a n cap zs) (hn : 0 < n) : ∃ g, a = some ⟨g, 0, none⟩ ∧ base ≤ g ∧ g < w.heap.size := by
  obtain ⟨g, c, e⟩ := Joins.ownsRow_form h hn
  have e' : a = some ⟨g, 0, none⟩ := by injection e
  subst e'
  exact ⟨g, rfl, World.ownsRow.lt h g rfl⟩
theorem Own.at {w : World} {base : Nat} {g : Nat} {n cap : Nat} {zs : List Int} (h : Own w base (some ⟨g, 0, none⟩) n cap zs) {i : Nat} (hi : i < n) : w.cell? ⟨g, i, none⟩ = some (.int .i64 (zs.getD i 0)) := by
  have hl := h.len
  rw [World.ownsRow.cellAt h i (by omega), List.getElem?_map, List.getElem?_eq_getElem (by omega), List.getD_eq_getElem?_getD, List.getElem?_eq_getElem (by omega)]
  rfl
theorem Own.reads {w : World} {base : Nat} {a : Option Addr} {n cap : Nat} {zs : List Int} (h : Own w base a n cap zs) : Reads w w.heap.size a n zs :=
  ⟨h.len, fun hn => by
    obtain ⟨g, rfl, _, hg⟩ := h.form hn
    exact ⟨g, 0, rfl, hg, fun i hi => by rw [Nat.zero_add]; exact h.at hi⟩⟩
theorem Own.ext {w w' : World} {base : Nat} {a : Option Addr} {n cap : Nat} {zs : List Int} (h : Own w base a n cap zs) (x : Ext w w') : Own w' base a n cap zs := by
  refine ⟨h.1, ?_⟩
  rcases h.2 with h2 | ⟨g, c, cur, hv, hg, hh, r⟩
  · exact .inl h2
  · exact .inr ⟨g, c, cur, hv, hg, (Below.block x g (Array.getElem?_eq_some_iff.1 hh).1).trans hh, r⟩
/-- everything but the block of the slice a stands -/
def Touch (a : Option Addr) (w w' : World) : Prop := w.grownBy w' (Value.slice a 0 0).ownBlock
theorem Touch.refl (a : Option Addr) (w : World) : Touch a w w := ⟨rfl, rfl, rfl, Nat.le_refl _, fun _ _ _ => rfl⟩
theorem Touch.trans {a : Option Addr} {w w1 w2 : World} (h : Touch a w w1) (k : Touch a w1 w2) : Touch a w w2 :=
  ⟨k.os.trans h.os, k.tape.trans h.tape, k.output.trans h.output, Nat.le_trans h.size k.size, fun b hb hne => (k.block b (Nat.lt_of_lt_of_le hb h.size) hne).trans (h.block b hb hne)⟩
theorem Touch.ext {a : Option Addr} {w w1 : World} (x : Ext w w1) : Touch a w w1 := ⟨Below.os x, Below.tape x, Below.output x, Below.size x, fun b hb _ => Below.block x b hb⟩
/-- the slice lies behind W: so everything of W stands -/
theorem Touch.toExt {a : Option Addr} {W w w1 : World} (x : Ext W w) (h : Touch a w w1) (hb : ∀ g o s, a = some ⟨g, o, s⟩ → W.heap.size ≤ g) : Ext W w1 :=
  Below.grown x h x.le (fun k hk => by
    cases a with
    | none => cases hk
    | some p => injection hk with hk; subst hk; exact hb p.block p.off p.spot rfl)

/-- k, k + 1, .. -/
def iota (k : Int) : Nat → List Int
  | 0 => []
  | n + 1 => iota k n ++ [k + n]
theorem iota_length (k : Int) (n : Nat) : (iota k n).length = n := by
  induction n with
  | zero => rfl
  | succ n ih => simp [iota, ih]
theorem iota_get (k : Int) (n i : Nat) (h : i < n) : (iota k n).getD i 0 = k + i := by
  induction n with
  | zero => omega
  | succ n ih =>
    have hl := iota_length k n
    rw [iota, List.getD_eq_getElem?_getD]
    rcases Nat.lt_or_ge i n with h1 | h1
    · rw [List.getElem?_append_left (by omega), ← List.getD_eq_getElem?_getD]; exact ih h1
    · obtain rfl : i = n := by omega
      rw [List.getElem?_append_right (by omega), hl]
      simp
theorem set_step (ys : List Int) (x : Int) (zs : List Int) (h : ys.length < zs.length) : (ys ++ zs.drop ys.length).set ys.length x = (ys ++ [x]) ++ zs.drop (ys.length + 1) := by
  rw [List.set_append_right _ _ (Nat.le_refl _), Nat.sub_self, List.drop_eq_getElem_cons h, List.set_cons_zero, List.append_assoc]
  rfl

/-- a new slice of the call's own that holds zs -/
def NewInts (n : Nat) (zs : List Int) (w : World) : Ending → World → Prop := fun e w' => ∃ g cap, e = .returned (.slice (some ⟨g, 0, none⟩) n cap) ∧ w.heap.size ≤ g ∧ Own w' w.heap.size (some ⟨g, 0, none⟩) n cap zs ∧ Ext w w'

end Go.Proofs.Ytdaphamplgcccaa
