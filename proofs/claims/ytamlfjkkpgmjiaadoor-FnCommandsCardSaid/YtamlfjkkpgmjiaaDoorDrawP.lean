/- Contracts of the reference's draws: a number out of a list, a word, twelve places. -/
import Derived.Test.YtamlfjkkpgmjiaaDoorDrawW
import Derived.OwnWalk
import Derived.Maps.AppendAt
namespace Go.Proofs.YtamlfjkkpgmjiaaDoor
open Go.RowKit

theorem Ext.grown {a b c : World} {row : Option Nat} (x : Ext a b) (hg : b.grownBy c row) (hr : ∀ k, row = some k → a.heap.size ≤ k) : Ext a c := Below.grown x hg x.le hr
theorem Cur.grown {B g : Nat} {w w' : World} {row : Option Nat} (h : Cur B g w) (hg : w.grownBy w' row) (hne : row ≠ some g) (hB : ∀ k, row = some k → B ≤ k) : Cur B g w' := by
  have hlt := h.lt
  obtain ⟨hBg, a, n, c, zs, i, hh, hrow, hm, hi, hbox⟩ := h
  refine ⟨hBg, a, n, c, zs, i, hh, hrow.keep (fun b o hb => ?_), hm, hi, (hg.block g hlt (Ne.symm hne)).trans hbox⟩
  exact World.cell?_of_block (hg.block b (by omega) (fun e => by have := hB b e.symm; omega))
theorem own_but {w w' : World} {g base : Nat} {e : TypeId} {size n : Nat} {v : Value} {xs : List Value} (h : w.ownsRow base e size v n xs) (hb : But g w w') (hg : g < base) : w'.ownsRow base e size v n xs :=
  h.kept hb (by
    cases hv : v.ownBlock with
    | none => exact .inl rfl
    | some k => exact .inr (fun e => by injection e with e; have := (h.lt k hv).1; omega))





def DrewInt (w : World) (R : Int → Prop) : Ending → World → Prop := fun e w' => ∃ r, R r ∧ e = .returned (.int .i64 r) ∧ Ext w w'



/-- twelve places in a new block -/
def Places (w : World) : Ending → World → Prop := fun e w' => ∃ (g c : Nat) (zs : List Int), zs.length = 12 ∧ (∀ z ∈ zs, 0 ≤ z ∧ z < 10000) ∧ e = .returned (.slice (some ⟨g, 0, none⟩) 12 c) ∧
  (∀ i, i < 12 → w'.cell? ⟨g, i, none⟩ = some (.int .i64 (zs.getD i 0))) ∧ w.heap.size ≤ g ∧ g < w'.heap.size ∧ Ext w w'

theorem int_info : (Tryd.prog.info? 3).map (fun i => (i.zero, i.size, i.bytes)) = some (some (.int .i64 0), 1, 8) := by kernel_rfl

theorem places_close {w w' : World} {base : Nat} {v : Value} {zs : List Int} (hz : zs.length = 12) (hr : ∀ z ∈ zs, 0 ≤ z ∧ z < 10000) (hown : w'.ownsRow base 3 1 v 12 (zs.map (Value.int .i64))) (hb : w.heap.size ≤ base) (x : Ext w w') :
    Places w (.returned v) w' := by
  obtain ⟨gg, cap, rfl⟩ := Joins.ownsRow_form hown (by omega)
  have hl := hown.lt gg rfl
  refine ⟨gg, cap, zs, hz, hr, rfl, fun i hi => ?_, by omega, hl.2, x⟩
  rw [hown.cellAt i (by omega), List.getElem?_map, List.getElem?_eq_getElem (by omega), List.getD_eq_getElem?_getD, List.getElem?_eq_getElem (by omega)]
  rfl



end Go.Proofs.YtamlfjkkpgmjiaaDoor
