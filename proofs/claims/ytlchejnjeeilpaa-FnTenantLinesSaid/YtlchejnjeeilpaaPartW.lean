/- Contracts of the functions of partitions: PartitionOk and BanksOf of both sides, and the laws' own toPartition, szPartition, eqPartition, markPartition. -/
import Derived.Test.YtlchejnjeeilpaaGeoF
import Derived.Test.YtlchejnjeeilpaaPartP
import Derived.Test.YtlchejnjeeilpaaIntW
import Derived.Deep.RegionHeld3
import Derived.Deep.DeepCutAuto
import Derived.Deep.DrawnRows
namespace Go.Proofs.Ytlchejnjeeilpaa
open Go.RowKit
attribute [local go_sem ↓] Go.wp_at_zero Go.wp_at_succ

/-- the slice reads as zs -/
def RD (w : World) (a : Option Addr) (n : Nat) (zs : List Int) : Prop := Reads w w.heap.size a n zs
theorem RD.ext {w w' : World} {a : Option Addr} {n : Nat} {zs : List Int} (h : RD w a n zs) (x : Ext w w') : RD w' a n zs :=
  ⟨h.1, fun hp => by
    obtain ⟨b, o, e, hb, hc⟩ := h.2 hp
    exact ⟨b, o, e, Nat.lt_of_lt_of_le hb x.le, fun i hi => (x.cell hb _).trans (hc i hi)⟩⟩
theorem RowIs.rd {w : World} {a : Option Addr} {n : Nat} {zs : List Int} (h : RowIs .i64 w w.heap.size a n zs) : RD w a n zs := h.reads
theorem Own.rd {w : World} {base : Nat} {a : Option Addr} {n cap : Nat} {zs : List Int} (h : Own w base a n cap zs) : RD w a n zs := h.reads

theorem sz_partition (a : Option Addr) (n c : Nat) (left : Int) (h0 : 0 ≤ left) (h1 : left ≤ 9223372036854775807) (hm : n ≤ maxLen) (w : World) : Calls Try.prog 29 #[.agg #[.slice a n c], .int .i64 left] w fun e w' => e = .returned (.int .i64 (if left < n then -1 else left - n)) ∧ Ext w w' := by
  have hm' := hm
  unfold maxLen at hm'
  by_cases h : left < n
  · have hs := sz_ints a n c left h0 h1 hm (w.alloc (.cells #[.slice a n c] 44))
    rw [if_pos h] at hs ⊢
    clear h
    go_enter Try.func29, Try.ntmps29
    go_wp2_with fail
    refine hs.mono ?_
    rintro e w' ⟨rfl, rfl⟩
    go_wp2
    go_ret
    exact ⟨rfl, (Ext.refl w).alloc _⟩
  · have hs := sz_ints a n c left h0 h1 hm (w.alloc (.cells #[.slice a n c] 44))
    rw [if_neg h] at hs ⊢
    have hl : ¬ left - n < 0 := by omega
    clear h
    go_enter Try.func29, Try.ntmps29
    go_wp2_with fail
    refine hs.mono ?_
    rintro e w' ⟨rfl, rfl⟩
    go_wp2
    go_ret
    exact ⟨rfl, (Ext.refl w).alloc _⟩

theorem info_part : (Try.prog.info? 49).map (·.size) = some 1 := by kernel_rfl
/-- a new partition that holds zs -/
def NewPart (n : Nat) (zs : List Int) (w : World) : Ending → World → Prop := fun e w' => ∃ g cap, e = .returned (.agg #[.slice (some ⟨g, 0, none⟩) n cap]) ∧ w.heap.size ≤ g ∧ Own w' w.heap.size (some ⟨g, 0, none⟩) n cap zs ∧ Ext w w'
theorem Own.less {w : World} {base base' : Nat} {a : Option Addr} {n cap : Nat} {zs : List Int} (h : Own w base a n cap zs) (hb : base' ≤ base) : Own w base' a n cap zs := by
  refine ⟨h.1, ?_⟩
  rcases h.2 with h2 | ⟨g, c, cur, hv, hg, r⟩
  · exact .inl h2
  · exact .inr ⟨g, c, cur, hv, by omega, r⟩

theorem to_partition (a : Option Addr) (n c : Nat) (zs : List Int) (w : World) (h : RD w a n zs) (hn : n ≤ 1048576) : Calls Try.prog 32 #[.agg #[.slice a n c]] w (NewPart n zs w) := by
  have x0 : Ext w (((w.alloc (.cells #[.slice a n c] 44)).alloc (.cells #[.slice none 0 0] 49)).alloc (.cells #[.slice none 0 0] 49)) := (((Ext.refl w).alloc _).alloc _).alloc _
  have b2 := (Box.new_at (w.alloc (.cells #[.slice a n c] 44)) 49 #[.slice none 0 0] (w.heap.size + 1) (by simp)).alloc (.cells #[.slice none 0 0] 49)
  have b3 := Box.new_at ((w.alloc (.cells #[.slice a n c] 44)).alloc (.cells #[.slice none 0 0] 49)) 49 #[.slice none 0 0] (w.heap.size + 1 + 1) (by simp)
  go_enter Try.func32, Try.ntmps32
  go_wp2_with fail
  refine (to_ints a n c zs _ _ (h.ext x0) (Nat.le_refl _) hn).mono ?_
  rintro e w1 ⟨g, cp, rfl, hg, ho, x1⟩
  have c2 := b2.ext x1
  have c3 := b3.ext x1
  have d2 : w1.cell? ⟨w.heap.size + 1, 0, none⟩ = some (.slice none 0 0) := c2.cell 0
  have d3 : w1.cell? ⟨w.heap.size + 1 + 1, 0, none⟩ = some (.slice none 0 0) := c3.cell 0
  have f2 := c2.free
  have f3 := c3.free
  have hs := x1.le
  simp at hs hg
  have y := x0.trans x1
  have ho' := ho.less (base' := w.heap.size) (by simp; omega)
  have HC := Lib.hid c2
  clear x0 x1 b2 b3 c2 c3 ho
  go_wp2
  refine bodyPost_ret (v := .agg #[.slice (some ⟨g, 0, none⟩) n cp]) (results_cell_row Try.results32 _ _ (w.heap.size + 1) 49 #[.slice (some ⟨g, 0, none⟩) n cp] (0, 0) _ ?_ ?_ Try.underlying49 rfl info_part) ?_ ?_
  · rfl
  · exact (HC.out.other (p := ⟨w.heap.size + 1 + 1, 0, none⟩) (by simp) _).set 0 _
  · rfl
  · exact ⟨g, cp, rfl, by omega, ownsRow_setCell_other (ownsRow_setCell_other ho' (by simp [Value.ownBlock]; omega) _) (by simp [Value.ownBlock]; omega) _, (y.setCell (by simp; omega) _).setCell (by simp) _⟩

theorem eq_partition (a b : Option Addr) (n c d : Nat) (zs : List Int) (w : World) (h1 : RD w a n zs) (h2 : RD w b n zs) (hm : n ≤ maxLen) : Calls Try.prog 34 #[.agg #[.slice a n c], .agg #[.slice b n d]] w fun e w' => e = .returned (.bool true) ∧ Ext w w' := by
  have x0 : Ext w ((w.alloc (.cells #[.slice a n c] 49)).alloc (.cells #[.slice b n d] 49)) := ((Ext.refl w).alloc _).alloc _
  go_enter Try.func34, Try.ntmps34
  go_wp2_with fail
  refine (eq_ints a b n c d zs _ _ _ (h1.ext x0) (h2.ext x0) hm).mono ?_
  rintro e w1 ⟨rfl, x1⟩
  go_wp2
  go_ret
  exact ⟨rfl, x0.trans x1⟩

theorem mark_partition (a : Option Addr) (n c base : Nat) (k0 : Int) (zs : List Int) (w : World) (h : Own w base a n c zs) (hm : n ≤ maxLen) (hk0 : 0 ≤ k0) (hk1 : k0 + n ≤ 9223372036854775807) : Calls Try.prog 37 #[.agg #[.slice a n c], .int .i64 k0] w fun e w' => e = .returned (.int .i64 (k0 + n)) ∧ Touch a w w' := by
  have x0 : Ext w (w.alloc (.cells #[.slice a n c] 49)) := (Ext.refl w).alloc _
  go_enter Try.func37, Try.ntmps37
  go_wp2_with fail
  refine (mark_ints a n c base k0 zs _ (h.ext x0) hm hk0 hk1).mono ?_
  rintro e w1 ⟨rfl, ho, ht⟩
  go_wp2
  go_ret
  exact ⟨rfl, (Touch.ext x0).trans ht⟩

end Go.Proofs.Ytlchejnjeeilpaa
