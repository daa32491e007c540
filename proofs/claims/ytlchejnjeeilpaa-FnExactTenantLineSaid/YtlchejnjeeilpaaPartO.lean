/- An argument that is a struct of one slice of integers is opened. No program is named here. -/
import Derived.Test.YtlchejnjeeilpaaFrame
namespace Go.Proofs.Ytlchejnjeeilpaa
open Go.ChangeShapes Go.WideShapes Go.ChangeAt Go.RowKit Go.Deep

theorem open_part {H : Type} {enc : TypeId × Value → H} {P : Program} {w : World} {base : Nat} {spare : Nat → Bool} {held : Bool} {r : Reach} {b0 : Nat} {t ti te : TypeId} {f : Field} {v : Value} {d : DataW H} {p : List MemPlace} (hs : P.underlying t = some (.struct #[f]))
    (hone : oneCellFields P #[f] = true) (hC : (P.cellsOf t == 1 && f.type == ti) = true) (hsl : P.underlying ti = some (.slice te)) (hi : P.underlying te = some (.int .i64)) (hc : P.cellsOf te = 1)
    (hv : Value.okWide P w r b0 t v) (h : DataW.Trod enc P w base spare held t v d p) :
    ∃ a n c zs, v = .agg #[.slice a n c] ∧ RowIs .i64 w w.heap.size a n zs ∧ n ≤ maxLen := by
  simp only [Bool.and_eq_true, beq_iff_eq] at hC
  obtain ⟨cs, rfl, hsz⟩ := okWide_struct hs hv
  obtain ⟨fuel, hf⟩ := h
  obtain ⟨xs, n, _, _, hl, hlen, hfi⟩ := DataW.trod_struct hs hf
  have hcs : (Value.agg cs).cells.toList = cs.toList := by simp [Value.cells]
  rw [hcs] at hfi
  have hif' : (#[f] : Array Field)[0]? = some f := rfl
  obtain ⟨o, k⟩ := hone_of hone 0 f hif'
  have ht := hfi 0 f hif'
  rw [o, k] at ht
  have hlc : 0 < cs.size := by rw [hsz, hC.1]; omega
  have hx : ∃ x, xs[0]? = some x := ⟨xs[0]'(by simp at hlen; omega), List.getElem?_eq_getElem (by simp at hlen; omega)⟩
  obtain ⟨x, hx⟩ := hx
  rw [hx, hC.2] at ht
  obtain ⟨c0, hc0⟩ : ∃ c0, cs = #[c0] := by
    have h1 : cs.size = 1 := by rw [hsz, hC.1]
    match cs, h1 with
    | ⟨[c0]⟩, _ => exact ⟨c0, rfl⟩
  subst hc0
  have e1 : (List.drop 0 (#[c0] : Array Value).toList).take 1 = [c0] := rfl
  rw [e1] at ht
  obtain ⟨d1, p1⟩ := x
  rcases open_ints hsl hi hc ht with ⟨hcs, _⟩ | ⟨x, l, c, zs, hcs, _⟩
  · simp at hcs
    subst hcs
    obtain ⟨z, h1, h2⟩ := row_of_trod (a := none) (len := 0) (cap := 0) hsl hi hc ⟨n, by simpa [Value.cells] using ht⟩
    exact ⟨_, _, _, z, rfl, h1, h2⟩
  · simp at hcs
    subst hcs
    obtain ⟨z, h1, h2⟩ := row_of_trod (a := some x) (len := l) (cap := c) hsl hi hc ⟨n, by simpa [Value.cells] using ht⟩
    exact ⟨_, _, _, z, rfl, h1, h2⟩

end Go.Proofs.Ytlchejnjeeilpaa
