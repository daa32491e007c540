/- Contracts of the reference's draws of a geometry. -/
import Derived.Test.YtdaphamplgcccaaDrawP
import Derived.Test.YtdaphamplgcccaaGeoP
namespace Go.Proofs.Ytdaphamplgcccaa
open Go.RowKit

theorem info_geo : (Try.prog.info? 25).map (·.size) = some 4 := by kernel_rfl
theorem Box.put4 {w : World} {g : Nat} {t : TypeId} {x y z u : Value} (h : Box w g t #[x, y, z, u]) (a b c d : Value) : Box ((((w.setCell ⟨g, 0, none⟩ a).setCell ⟨g, 1, none⟩ b).setCell ⟨g, 2, none⟩ c).setCell ⟨g, 3, none⟩ d) g t #[a, b, c, d] := (((h.set 0 a).set 1 b).set 2 c).set 3 d

/-- a drawn geometry -/
def GeoIn (a b c d : Int) : Prop := (1 ≤ a ∧ a ≤ 2) ∧ (1 ≤ b ∧ b ≤ 4) ∧ (2 ≤ c ∧ c ≤ 8) ∧ (1 ≤ d ∧ d ≤ 4)
theorem GeoIn.ok {a b c d : Int} (h : GeoIn a b c d) : geoB a b c d = true := by
  unfold GeoIn at h
  rw [geoB_iff]
  omega
def DrawnGeo (B g : Nat) (w : World) : Ending → World → Prop := fun e w' => ∃ a b c d : Int, GeoIn a b c d ∧ e = .returned (.agg #[.int .i64 a, .int .i64 b, .int .i64 c, .int .i64 d]) ∧ Cur B g w' ∧ But g w w'

theorem geo_any (B g : Nat) (w : World) (h : Cur B g w) : Calls Try.prog 52 #[.pointer (some ⟨g, 0, none⟩)] w (DrawnGeo B g w) := by
  have hgl := h.lt
  have hBw : B ≤ w.heap.size := by obtain ⟨hB, _⟩ := h; omega
  have b0 := Box.new w 25 #[.int .i64 0, .int .i64 0, .int .i64 0, .int .i64 0]
  have h0 := h.ext ((Ext.refl w).alloc (.cells #[.int .i64 0, .int .i64 0, .int .i64 0, .int .i64 0] 25))
  have y0 := (But.refl g w).alloc (.cells #[.int .i64 0, .int .i64 0, .int .i64 0, .int .i64 0] 25)
  clear h
  go_enter Try.func52, Try.ntmps52
  go_wp2_with fail
  refine (below_small B g 2 (by omega) (by omega) _ h0).mono ?_
  rintro e w1 ⟨a, ⟨a0, a1⟩, rfl, h1, hb1⟩
  go_wp2_with fail
  refine (below_small B g 4 (by omega) (by omega) _ h1).mono ?_
  rintro e w2 ⟨b, ⟨b0', b1⟩, rfl, h2, hb2⟩
  go_wp2_with fail
  refine (below_small B g 7 (by omega) (by omega) _ h2).mono ?_
  rintro e w3 ⟨c, ⟨c0, c1⟩, rfl, h3, hb3⟩
  go_wp2_with fail
  refine (below_small B g 4 (by omega) (by omega) _ h3).mono ?_
  rintro e w4 ⟨d, ⟨d0, d1⟩, rfl, h4, hb4⟩
  have b4 := But.box (((hb1.trans hb2).trans hb3).trans hb4) b0 (by omega)
  have f4 := b4.free
  obtain ⟨q0, q1, q2, q3⟩ := b4.cell4
  have y4 := y0.trans (((hb1.trans hb2).trans hb3).trans hb4)
  have hl4 := b4.lt
  clear b0 h0 y0 h1 hb1 h2 hb2 h3 hb3 hb4
  go_wp2
  refine bodyPost_ret (v := .agg #[.int .i64 (1 + a), .int .i64 (1 + b), .int .i64 (2 + c), .int .i64 (1 + d)]) (results_cell_row Try.results52 _ _ w.heap.size 25 #[.int .i64 (1 + a), .int .i64 (1 + b), .int .i64 (2 + c), .int .i64 (1 + d)] (0, 0) _ ?_ ?_ Try.underlying25 rfl info_geo) ?_ ?_
  · rfl
  · exact b4.put4 _ _ _ _
  · rfl
  · exact ⟨_, _, _, _, (by unfold GeoIn; omega), rfl, (((h4.set (by simp; omega) (by simpa using hBw) _).set (by simp; omega) (by simpa using hBw) _).set (by simp; omega) (by simpa using hBw) _).set (by simp; omega) (by simpa using hBw) _,
      (((y4.set (.inr (by simp)) _).set (.inr (by simp)) _).set (.inr (by simp)) _).set (.inr (by simp)) _⟩

def DrewGeo (w : World) : Ending → World → Prop := fun e w' => ∃ a b c d : Int, GeoIn a b c d ∧ e = .returned (.agg #[.int .i64 a, .int .i64 b, .int .i64 c, .int .i64 d]) ∧ Ext w w'

theorem draw_geometry (a : Option Addr) (n c : Nat) (zs : List Int) (w : World) (h : RowIs .u8 w w.heap.size a n zs) (hm : n ≤ maxLen) : Calls Try.prog 37 #[.slice a n c] w (DrewGeo w) := by
  have b0 := Box.new w 25 #[.int .i64 0, .int .i64 0, .int .i64 0, .int .i64 0]
  have x0 := (Ext.refl w).alloc (.cells #[.int .i64 0, .int .i64 0, .int .i64 0, .int .i64 0] 25)
  have h0 := (x0.row h (Nat.le_refl _)).more x0.le
  go_enter Try.func37, Try.ntmps37
  go_wp2_with fail
  refine (new_any a n c zs _ h0 hm).mono ?_
  rintro e w1 ⟨g, rfl, hg, hc1, x1⟩
  go_wp2_with fail
  refine (geo_any _ g _ hc1).mono ?_
  rintro e w2 ⟨p, q, r, s, hG, rfl, hc2, hb2⟩
  have b2 := But.box hb2 (b0.ext x1) (by simp at hg; omega)
  have y2 := x0.trans (But.toExt x1 hg hb2)
  have f2 := b2.free
  obtain ⟨q0, q1, q2, q3⟩ := b2.cell4
  clear b0 x0 h0 hc1 x1 hc2 hb2
  go_wp2
  refine bodyPost_ret (v := .agg #[.int .i64 p, .int .i64 q, .int .i64 r, .int .i64 s]) (results_cell_row Try.results37 _ _ w.heap.size 25 #[.int .i64 p, .int .i64 q, .int .i64 r, .int .i64 s] (0, 0) _ ?_ ?_ Try.underlying25 rfl info_geo) ?_ ?_
  · rfl
  · exact b2.put4 _ _ _ _
  · rfl
  · exact ⟨p, q, r, s, hG, rfl, (((y2.setCell (by simp) _).setCell (by simp) _).setCell (by simp) _).setCell (by simp) _⟩

end Go.Proofs.Ytdaphamplgcccaa
