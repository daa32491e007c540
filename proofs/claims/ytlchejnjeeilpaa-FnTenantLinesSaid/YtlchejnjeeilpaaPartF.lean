/- The contract of the reference's draw of a geometry and a partition (l05Any, DrawPartitionOk). -/
import Derived.Test.YtlchejnjeeilpaaPartE
import Derived.Deep.RegionHeld3
import Derived.Deep.DeepCutAuto
import Derived.Deep.DrawnRows
import Derived.BigRegion
set_option maxRecDepth 20000
namespace Go.Proofs.Ytlchejnjeeilpaa
open Go.RowKit
attribute [local go_sem ↓] Go.wp_at_zero Go.wp_at_succ

theorem results_two {P : Program} {fn : Func} {p1 p2 : Tmp} {y1 y2 : TypeId} (h : fn.results = #[.cell p1 y1, .cell p2 y2]) (tmps : Array Value) (w : World) (g1 g2 : Nat) (t1 t2 : TypeId) (c1 c2 : Array Value) (f1 f2 : Nat × Nat) (d1 d2 : TypeDesc)
    (hp1 : tmps.getD p1 undef = .pointer (some ⟨g1, 0, none⟩)) (hg1 : w.heap[g1]? = some (.cells c1 t1 f1))
    (hp2 : tmps.getD p2 undef = .pointer (some ⟨g2, 0, none⟩)) (hg2 : w.heap[g2]? = some (.cells c2 t2 f2))
    (hu1 : P.underlying y1 = some d1) (hd1 : (match d1 with | .struct _ | .array _ _ => true | _ => false) = true) (hi1 : (P.info? y1).map (·.size) = some c1.size)
    (hu2 : P.underlying y2 = some d2) (hd2 : (match d2 with | .struct _ | .array _ _ => true | _ => false) = true) (hi2 : (P.info? y2).map (·.size) = some c2.size) :
    (results fn tmps).run P w = .ok (.tuple #[.agg c1, .agg c2]) w := by
  have e1 : tmps[p1]?.getD undef = .pointer (some ⟨g1, 0, none⟩) := by simpa using hp1
  have e2 : tmps[p2]?.getD undef = .pointer (some ⟨g2, 0, none⟩) := by simpa using hp2
  simp [results, h, e1, e2, asAddr, run_loadVar_row w g1 t1 y1 c1 f1 d1 hg1 hu1 hd1 hi1, run_loadVar_row w g2 t2 y2 c2 f2 d2 hg2 hu2 hd2 hi2]

/-- the slice reads as zs; its block is not below lo -/
def PartAt (w : World) (lo : Nat) (s : Option Addr) (n : Nat) (zs : List Int) : Prop :=
  zs.length = n ∧ (0 < n → ∃ b o, s = some ⟨b, o, none⟩ ∧ lo ≤ b ∧ b < w.heap.size ∧ ∀ i, i < n → w.cell? ⟨b, o + i, none⟩ = some (.int .i64 (zs.getD i 0)))
theorem PartAt.rd {w : World} {lo : Nat} {s : Option Addr} {n : Nat} {zs : List Int} (h : PartAt w lo s n zs) : RD w s n zs :=
  ⟨h.1, fun hp => by obtain ⟨b, o, e, _, hb, hc⟩ := h.2 hp; exact ⟨b, o, e, hb, hc⟩⟩
theorem PartAt.set {w : World} {lo : Nat} {s : Option Addr} {n : Nat} {zs : List Int} (h : PartAt w lo s n zs) {p : Addr} (hp : p.block < lo) (u : Value) : PartAt (w.setCell p u) lo s n zs :=
  ⟨h.1, fun hn => by
    obtain ⟨b, o, e, hl, hb, hc⟩ := h.2 hn
    exact ⟨b, o, e, hl, by simpa [World.setCell] using hb, fun i hi => (World.cell?_setCell_other w _ _ _ (fun e => by rw [e] at hp; simp at hp; omega)).trans (hc i hi)⟩⟩
theorem PartAt.drew {w : World} {lo : Nat} {s : Option Addr} {n : Nat} {zs : List Int} (h : PartAt w lo s n zs) : PartAt w.drew lo s n zs := h
theorem PartAt.but {w w' : World} {g lo : Nat} {s : Option Addr} {n : Nat} {zs : List Int} (h : PartAt w lo s n zs) (hb : But g w w') (hg : g < lo) : PartAt w' lo s n zs :=
  ⟨h.1, fun hn => by
    obtain ⟨b, o, e, hl, hlt, hc⟩ := h.2 hn
    exact ⟨b, o, e, hl, Nat.lt_of_lt_of_le hlt hb.size, fun i hi => (World.cell?_of_block (hb.block b hlt (by simp; omega))).trans (hc i hi)⟩⟩
theorem PartAt.less {w : World} {lo lo' : Nat} {s : Option Addr} {n : Nat} {zs : List Int} (h : PartAt w lo s n zs) (hl : lo' ≤ lo) : PartAt w lo' s n zs :=
  ⟨h.1, fun hn => by obtain ⟨b, o, e, h1, hb, hc⟩ := h.2 hn; exact ⟨b, o, e, by omega, hb, hc⟩⟩
theorem Own.partAt {w : World} {base lo : Nat} {a : Option Addr} {n cap : Nat} {zs : List Int} (h : Own w base a n cap zs) (hl : lo ≤ base) : PartAt w lo a n zs :=
  ⟨h.len, fun hn => by
    obtain ⟨g, rfl, hb, hg⟩ := h.form hn
    exact ⟨g, 0, rfl, by omega, hg, fun i hi => by rw [Nat.zero_add]; exact h.at hi⟩⟩

/-- a geometry and a partition -/
def DrawnTwo (w : World) : Ending → World → Prop := fun e w' => ∃ (a b c d : Int) (s : Option Addr) (n cp : Nat) (zs : List Int), n ≤ 8 ∧ e = .returned (.tuple #[.agg #[.int .i64 a, .int .i64 b, .int .i64 c, .int .i64 d], .agg #[.slice s n cp]]) ∧ PartAt w' (w.heap.size + 1 + 1) s n zs
def DrawnTwoB (g : Nat) (w : World) : Ending → World → Prop := fun e w' => DrawnTwo w e w' ∧ But g w w'

set_option maxHeartbeats 8000000 in
theorem any_part (B g : Nat) (w : World) (h : Cur B g w) : Calls Try.prog 64 #[.pointer (some ⟨g, 0, none⟩)] w (DrawnTwoB g w) := by
  have hgl := h.lt
  have hBw : B ≤ w.heap.size := by obtain ⟨hB, _⟩ := h; omega
  have b2 := (Box.new w 47 #[.int .i64 0, .int .i64 0, .int .i64 0, .int .i64 0]).alloc (.cells #[.slice none 0 0] 49)
  have b3 := Box.new_at (w.alloc (.cells #[.int .i64 0, .int .i64 0, .int .i64 0, .int .i64 0] 47)) 49 #[.slice none 0 0] (w.heap.size + 1) (by simp)
  have x0 : Ext w ((w.alloc (.cells #[.int .i64 0, .int .i64 0, .int .i64 0, .int .i64 0] 47)).alloc (.cells #[.slice none 0 0] 49)) := ((Ext.refl w).alloc _).alloc _
  have h0 := h.ext x0
  have y0 := But.ext (g := g) x0
  clear h x0
  go_enter Try.func64, Try.ntmps64
  go_wp2_with fail
  refine (geo_any B g _ h0).mono ?_
  rintro e w1 ⟨a, b, c, d, hG, rfl, h1, v1⟩
  have hl1 := v1.size
  simp at hl1
  have z2 := (But.box v1 b2 (by omega)).alloc (.cells #[.int .i64 a, .int .i64 b, .int .i64 c, .int .i64 d] 47)
  have z3 := (But.box v1 b3 (by omega)).alloc (.cells #[.int .i64 a, .int .i64 b, .int .i64 c, .int .i64 d] 47)
  have z4 := Box.new w1 47 #[.int .i64 a, .int .i64 b, .int .i64 c, .int .i64 d]
  have h1' := h1.ext ((Ext.refl w1).alloc (.cells #[.int .i64 a, .int .i64 b, .int .i64 c, .int .i64 d] 47))
  have y1 := (y0.trans v1).alloc (.cells #[.int .i64 a, .int .i64 b, .int .i64 c, .int .i64 d] 47)
  obtain ⟨q0, q1, q2, q3⟩ := z4.cell4
  have hK := bankF_range a b c d
  have hK1 : 1 ≤ bankF a b c d := by rw [bankF_yes hG.ok]; exact (bank_range hG.ok).1
  have hPA := Lib.hid (fun w h => part_any B g a b c d w h)
  clear b2 b3 h0 y0 h1 v1 hG
  generalize bankF a b c d = KK at *
  go_wp2_with fail
  refine (hPA.out _ h1').mono ?_
  rintro e w2 ⟨s, n, cp, zs, hn, hn8, rfl, ho, h2, v2⟩
  subst hn
  have hn1 : 1 ≤ n := by omega
  clear hPA hK hK1
  obtain ⟨gs, rfl, hgs, hgl2⟩ := ho.form (by omega)
  simp at hgs
  have hl2 := v2.size
  simp at hl2
  have c2 := (But.box v2 z2 (by omega)).alloc (.cells #[.slice (some ⟨gs, 0, none⟩) n cp] 49)
  have c3 := (But.box v2 z3 (by omega)).alloc (.cells #[.slice (some ⟨gs, 0, none⟩) n cp] 49)
  have c4 := (But.box v2 z4 (by omega)).alloc (.cells #[.slice (some ⟨gs, 0, none⟩) n cp] 49)
  have c5 := Box.new w2 49 #[.slice (some ⟨gs, 0, none⟩) n cp]
  have h2' := h2.ext ((Ext.refl w2).alloc (.cells #[.slice (some ⟨gs, 0, none⟩) n cp] 49))
  have y2 := (y1.trans v2).alloc (.cells #[.slice (some ⟨gs, 0, none⟩) n cp] 49)
  have ho2 : Own (w2.alloc (.cells #[.slice (some ⟨gs, 0, none⟩) n cp] 49)) (w1.heap.size + 1) (some ⟨gs, 0, none⟩) n cp zs := by
    have := ho.ext ((Ext.refl w2).alloc (.cells #[.slice (some ⟨gs, 0, none⟩) n cp] 49))
    simpa using this
  clear ho h2 v2 y1 h1' q0 q1 q2 q3
  go_wp2_with fail
  refine (below_small B g 12 (by omega) (by omega) _ h2').mono ?_
  rintro e w3 ⟨r, ⟨r0, r1⟩, rfl, h3, v3⟩
  have hl3 := v3.size
  simp at hl3
  have Z2 := Lib.hid (But.box v3 c2 (by omega))
  have Z3 := Lib.hid (But.box v3 c3 (by omega))
  have k4 := But.box v3 c4 (by omega)
  have k5 := But.box v3 c5 (by omega)
  have Y3 := Lib.hid (y2.trans v3)
  have ho3 : Own w3 (w1.heap.size + 1) (some ⟨gs, 0, none⟩) n cp zs := own_but ho2 v3 (by omega)
  clear h2' v3 y2 ho2 z2 z3 z4 c2 c3 c4 c5
  have hr : r = 0 ∨ r = 1 ∨ r = 2 ∨ (3 ≤ r ∧ r < 12) := by omega
  clear r0 r1
  rcases hr with rfl | rfl | rfl | ⟨r2, r3⟩
  · have HC := Lib.hid (fun W x => h3.ext (w' := W) x)
    have HK5 := Lib.hid (fun W x => k5.ext (w' := W) x)
    have hnI : (1 : Int) ≤ (n : Int) := by omega
    have HS3 := Lib.hid hl3
    have K4 := Lib.hid k4
    have O3 := Lib.hid ho3
    have l5 := k5.lt
    have i5 := k5.cell1
    have d5 : w3.drew.cell? ⟨w2.heap.size, 0, none⟩ = some (.slice (some ⟨gs, 0, none⟩) n cp) := i5
    have da5 := (k5.alloc (.cells #[.int .i64 (-1), .int .i64 3, .int .i64 4] 3)).cell1
    clear k4 h3
    go_wp2
    go_region_law (first
      | (go_simp; go_at_call 56; refine (below_small B g (n : Int) (by omega) (by omega) _ (HC.out _ ((Ext.refl w3).drew))).mono ?_; rintro e u1 ⟨x, ⟨x0, x1⟩, rfl, c1, t0⟩; obtain ⟨j, rfl⟩ := Int.eq_ofNat_of_zero_le x0; have t1 : But g w3 u1 := ((But.refl g w3).drew).trans t0; have q5 := (But.box t1 k5 (by omega)).cell1; have sz1 := t1.size; have bx1 := Box.new u1 3 #[.int .i64 (-1), .int .i64 3, .int .i64 4]; have C1 := c1.ext ((Ext.refl u1).alloc (.cells #[.int .i64 (-1), .int .i64 3, .int .i64 4] 3)); have lc1 := c1.lt; have qa5 := ((But.box t1 k5 (by omega)).alloc (.cells #[.int .i64 (-1), .int .i64 3, .int .i64 4] 3)).cell1)
      | (go_simp; go_at_call 56; refine (below_small B g (n : Int) (by omega) (by omega) _ (HC.out _ (((Ext.refl w3).alloc (.cells #[.int .i64 (-1), .int .i64 3, .int .i64 4] 3)).drew))).mono ?_; rintro e u1 ⟨x, ⟨x0, x1⟩, rfl, c1, t0⟩; obtain ⟨j, rfl⟩ := Int.eq_ofNat_of_zero_le x0; have t1 : But g w3 u1 := (((But.refl g w3).alloc (.cells #[.int .i64 (-1), .int .i64 3, .int .i64 4] 3)).drew).trans t0; have q5 := (But.box t1 k5 (by omega)).cell1; have sz1 := t1.size; have bxB := But.box t0 (Box.new w3 3 #[.int .i64 (-1), .int .i64 3, .int .i64 4]).drew (by omega); have lc1 := c1.lt; have qa5 := ((But.box t1 k5 (by omega)).alloc (.cells #[.int .i64 (-1), .int .i64 3, .int .i64 4] 3)).cell1)
      | (go_simp; go_at_call 68; refine (pick_any B g u1.heap.size 3 3 [-1, 3, 4] rfl (by omega) (by omega) _ C1 (by omega) bx1.lt (fun i hi => (bx1.cell i).trans (by match i, hi with | 0, _ => rfl | 1, _ => rfl | 2, _ => rfl))).mono ?_; rintro e u2 ⟨z, -, rfl, c2, t2⟩; have T : But g w3 u2 := (t1.alloc (.cells #[.int .i64 (-1), .int .i64 3, .int .i64 4] 3)).trans t2; have o2 : Own u2 (w1.heap.size + 1) (some ⟨gs, 0, none⟩) n cp zs := own_but O3.out T (by omega); have qu5 := (But.box T k5 (by omega)).cell1; have qs := o2.at (i := j) (by omega); have fs := World.ownsRow.frozenAt o2 j)
      | (go_simp; go_at_call 68; refine (pick_any B g w3.heap.size 3 3 [-1, 3, 4] rfl (by omega) (by omega) _ c1 (by omega) bxB.lt (fun i hi => (bxB.cell i).trans (by match i, hi with | 0, _ => rfl | 1, _ => rfl | 2, _ => rfl))).mono ?_; rintro e u2 ⟨z, -, rfl, c2, t2⟩; have T : But g w3 u2 := t1.trans t2; have o2 : Own u2 (w1.heap.size + 1) (some ⟨gs, 0, none⟩) n cp zs := own_but O3.out T (by omega); have qu5 := (But.box T k5 (by omega)).cell1; have qs := o2.at (i := j) (by omega); have fs := World.ownsRow.frozenAt o2 j))
    all_goals
      have hst : Own (u2.setCell ⟨gs, j, none⟩ (.int .i64 z)) (w1.heap.size + 1) (some ⟨gs, 0, none⟩) n cp (zs.set j z) := by
        have := (World.ownsRow.stored o2 j (.int .i64 z)).1
        rw [← List.map_set] at this
        exact this
      have pa : PartAt (u2.setCell ⟨gs, j, none⟩ (.int .i64 z)) (w.heap.size + 1 + 1) (some ⟨gs, 0, none⟩) n (zs.set j z) := hst.partAt (by omega)
      have n4 : Box (u2.setCell ⟨gs, j, none⟩ (.int .i64 z)) w1.heap.size 47 #[.int .i64 a, .int .i64 b, .int .i64 c, .int .i64 d] := (But.box T K4.out (by omega)).other (by simp; omega) _
      have n5 : Box (u2.setCell ⟨gs, j, none⟩ (.int .i64 z)) w2.heap.size 49 #[.slice (some ⟨gs, 0, none⟩) n cp] := (But.box T k5 (by omega)).other (by simp; omega) _
      have n2 : Box (u2.setCell ⟨gs, j, none⟩ (.int .i64 z)) w.heap.size 47 #[.int .i64 0, .int .i64 0, .int .i64 0, .int .i64 0] := (But.box T Z2.out (by omega)).other (by simp; omega) _
      have n3 : Box (u2.setCell ⟨gs, j, none⟩ (.int .i64 z)) (w.heap.size + 1) 49 #[.slice none 0 0] := (But.box T Z3.out (by omega)).other (by simp; omega) _
      have y6 : But g w (u2.setCell ⟨gs, j, none⟩ (.int .i64 z)) := (Y3.out.trans T).set (.inr (by simp; omega)) _
      have H2 := Lib.hid n2
      have H3 := Lib.hid n3
      have HY := Lib.hid y6
      have HP := Lib.hid pa
      obtain ⟨i0, i1, i2, i3⟩ := (n4).cell4
      have i4 := (n5).cell1
      have f2 := H2.out.free
      have f3 := H3.out.free
      obtain ⟨j0, j1, j2, j3⟩ := H2.out.cell4
      have j4 := H3.out.cell1
      clear k5 Z2 Z3 Y3 ho3 HC HK5 i5 d5 hst pa n4 n5 n2 n3 y6 o2 qs fs t0 t1 t2 T c1 c2 q5 qa5 qu5 da5
      go_wp2
      go_region
      go_wp2
      refine bodyPost_ret (v := .tuple #[.agg #[.int .i64 a, .int .i64 b, .int .i64 c, .int .i64 d], .agg #[.slice (some ⟨gs, 0, none⟩) n cp]]) (results_two Try.results64 _ _ w.heap.size (w.heap.size + 1) 47 49 _ _ (0, 0) (0, 0) _ _ rfl ?_ rfl ?_ Try.underlying47 rfl info_geo Try.underlying49 rfl info_prt) rfl ⟨⟨_, _, _, _, _, _, _, (zs.set j z), by omega, rfl, ?_⟩, ?_⟩
      · exact ((H2.out.put4 _ _ _ _).other (by simp) _).drew
      · exact (((((H3.out.other (by simp) _).other (by simp) _).other (by simp) _).other (by simp) _).set 0 _).drew
      · exact (((((HP.out.set (by simp; omega) _).set (by simp; omega) _).set (by simp; omega) _).set (by simp; omega) _).set (by simp) _).drew
      · exact (((((HY.out.set (.inr (by simp)) _).set (.inr (by simp)) _).set (.inr (by simp)) _).set (.inr (by simp)) _).set (.inr (by simp)) _).drew
  · have hlz := ho3.len
    have hnc : n ≤ cp ∧ cp ≤ maxLen := by
      rcases ho3.2 with ⟨h1, h2⟩ | ⟨g', c', cur, hv, -, -, h1, h2, -⟩
      · omega
      · injection hv with _ _ e
        exact ⟨by omega, by omega⟩
    have hnc2 := hnc.2
    unfold maxLen at hnc2
    have hncI : (n : Int) ≤ (cp : Int) := by omega
    have hnI : (1 : Int) ≤ (n : Int) := by omega
    have hcI : (1 : Int) ≤ (cp : Int) := by omega
    by_cases hcp : cp = 1
    · obtain rfl : n = 1 := by omega
      subst hcp
      have k5' : Box (w3.setCell ⟨w2.heap.size, 0, none⟩ (.slice (some ⟨gs, 0, none⟩) 0 0)) w2.heap.size 49 #[.slice (some ⟨gs, 0, none⟩) 0 0] := k5.set 0 _
      have k4' : Box (w3.setCell ⟨w2.heap.size, 0, none⟩ (.slice (some ⟨gs, 0, none⟩) 0 0)) w1.heap.size 47 #[.int .i64 a, .int .i64 b, .int .i64 c, .int .i64 d] := k4.other (by simp; omega) _
      have e2' : Box (w3.setCell ⟨w2.heap.size, 0, none⟩ (.slice (some ⟨gs, 0, none⟩) 0 0)) w.heap.size 47 #[.int .i64 0, .int .i64 0, .int .i64 0, .int .i64 0] := Z2.out.other (by simp; omega) _
      have e3' : Box (w3.setCell ⟨w2.heap.size, 0, none⟩ (.slice (some ⟨gs, 0, none⟩) 0 0)) (w.heap.size + 1) 49 #[.slice none 0 0] := Z3.out.other (by simp; omega) _
      have y' : But g w (w3.setCell ⟨w2.heap.size, 0, none⟩ (.slice (some ⟨gs, 0, none⟩) 0 0)) := Y3.out.set (.inr (by simp; omega)) _
      have pa : PartAt (w3.setCell ⟨w2.heap.size, 0, none⟩ (.slice (some ⟨gs, 0, none⟩) 0 0)) (w.heap.size + 1 + 1) (some ⟨gs, 0, none⟩) 0 zs.tail := ⟨by simp; omega, fun h => absurd h (by omega)⟩
      have f5 := k5.free
      have i5 := k5.cell1
      have H2 := Lib.hid e2'
      have H3 := Lib.hid e3'
      have HY := Lib.hid y'
      have HP := Lib.hid pa
      obtain ⟨i0, i1, i2, i3⟩ := (k4').cell4
      have i4 := (k5').cell1
      have f2 := H2.out.free
      have f3 := H3.out.free
      obtain ⟨j0, j1, j2, j3⟩ := H2.out.cell4
      have j4 := H3.out.cell1
      clear k4 k5 Z2 Z3 Y3 ho3 h3 pa k5' k4' e2' e3' y' hlz hnc
      go_wp2
      go_region
      go_wp2
      refine bodyPost_ret (v := .tuple #[.agg #[.int .i64 a, .int .i64 b, .int .i64 c, .int .i64 d], .agg #[.slice (some ⟨gs, 0, none⟩) 0 0]]) (results_two Try.results64 _ _ w.heap.size (w.heap.size + 1) 47 49 _ _ (0, 0) (0, 0) _ _ rfl ?_ rfl ?_ Try.underlying47 rfl info_geo Try.underlying49 rfl info_prt) rfl ⟨⟨_, _, _, _, _, _, _, zs.tail, by omega, rfl, ?_⟩, ?_⟩
      · exact ((H2.out.put4 _ _ _ _).other (by simp) _).drew
      · exact (((((H3.out.other (by simp) _).other (by simp) _).other (by simp) _).other (by simp) _).set 0 _).drew
      · exact (((((HP.out.set (by simp; omega) _).set (by simp; omega) _).set (by simp; omega) _).set (by simp; omega) _).set (by simp) _).drew
      · exact (((((HY.out.set (.inr (by simp)) _).set (.inr (by simp)) _).set (.inr (by simp)) _).set (.inr (by simp)) _).set (.inr (by simp)) _).drew
    · have hcp1 : 0 < cp - 1 := by omega
      have hcp2 : 1 < cp := by omega
      have hcp3 : (1 : Int) < (cp : Int) := by omega
      have hoS : Own (w3.setCell ⟨w2.heap.size, 0, none⟩ (.slice (some ⟨gs, 1, none⟩) (n - 1) (cp - 1))) (w1.heap.size + 1) (some ⟨gs, 0, none⟩) n cp zs := ownsRow_setCell_other ho3 (by simp [Value.ownBlock]; omega) _
      have hpa : PartAt (w3.setCell ⟨w2.heap.size, 0, none⟩ (.slice (some ⟨gs, 1, none⟩) (n - 1) (cp - 1))) (w.heap.size + 1 + 1) (some ⟨gs, 1, none⟩) (n - 1) zs.tail := by
        refine ⟨by simp; omega, fun hp => ⟨gs, 1, rfl, by omega, (hoS.form (by omega)).elim fun g' h => by obtain ⟨e, _, h2⟩ := h; injection e with e; injection e with e1; omega, fun i hi => ?_⟩⟩
        have := hoS.at (i := 1 + i) (by omega)
        rw [this, List.getD_eq_getElem?_getD, List.getD_eq_getElem?_getD, List.getElem?_tail, Nat.add_comm]
      have k5' : Box (w3.setCell ⟨w2.heap.size, 0, none⟩ (.slice (some ⟨gs, 1, none⟩) (n - 1) (cp - 1))) w2.heap.size 49 #[.slice (some ⟨gs, 1, none⟩) (n - 1) (cp - 1)] := k5.set 0 _
      have k4' : Box (w3.setCell ⟨w2.heap.size, 0, none⟩ (.slice (some ⟨gs, 1, none⟩) (n - 1) (cp - 1))) w1.heap.size 47 #[.int .i64 a, .int .i64 b, .int .i64 c, .int .i64 d] := k4.other (by simp; omega) _
      have e2' : Box (w3.setCell ⟨w2.heap.size, 0, none⟩ (.slice (some ⟨gs, 1, none⟩) (n - 1) (cp - 1))) w.heap.size 47 #[.int .i64 0, .int .i64 0, .int .i64 0, .int .i64 0] := Z2.out.other (by simp; omega) _
      have e3' : Box (w3.setCell ⟨w2.heap.size, 0, none⟩ (.slice (some ⟨gs, 1, none⟩) (n - 1) (cp - 1))) (w.heap.size + 1) 49 #[.slice none 0 0] := Z3.out.other (by simp; omega) _
      have y' : But g w (w3.setCell ⟨w2.heap.size, 0, none⟩ (.slice (some ⟨gs, 1, none⟩) (n - 1) (cp - 1))) := Y3.out.set (.inr (by simp; omega)) _
      have pa : PartAt (w3.setCell ⟨w2.heap.size, 0, none⟩ (.slice (some ⟨gs, 1, none⟩) (n - 1) (cp - 1))) (w.heap.size + 1 + 1) (some ⟨gs, 1, none⟩) (n - 1) zs.tail := hpa
      have f5 := k5.free
      have i5 := k5.cell1
      have H2 := Lib.hid e2'
      have H3 := Lib.hid e3'
      have HY := Lib.hid y'
      have HP := Lib.hid pa
      obtain ⟨i0, i1, i2, i3⟩ := (k4').cell4
      have i4 := (k5').cell1
      have f2 := H2.out.free
      have f3 := H3.out.free
      obtain ⟨j0, j1, j2, j3⟩ := H2.out.cell4
      have j4 := H3.out.cell1
      clear k4 k5 Z2 Z3 Y3 ho3 h3 pa k5' k4' e2' e3' y' hlz hnc
      go_wp2
      go_region
      go_wp2
      refine bodyPost_ret (v := .tuple #[.agg #[.int .i64 a, .int .i64 b, .int .i64 c, .int .i64 d], .agg #[.slice (some ⟨gs, 1, none⟩) (n - 1) (cp - 1)]]) (results_two Try.results64 _ _ w.heap.size (w.heap.size + 1) 47 49 _ _ (0, 0) (0, 0) _ _ rfl ?_ rfl ?_ Try.underlying47 rfl info_geo Try.underlying49 rfl info_prt) rfl ⟨⟨_, _, _, _, _, _, _, zs.tail, by omega, rfl, ?_⟩, ?_⟩
      · exact ((H2.out.put4 _ _ _ _).other (by simp) _).drew
      · exact (((((H3.out.other (by simp) _).other (by simp) _).other (by simp) _).other (by simp) _).set 0 _).drew
      · exact (((((HP.out.set (by simp; omega) _).set (by simp; omega) _).set (by simp; omega) _).set (by simp; omega) _).set (by simp) _).drew
      · exact (((((HY.out.set (.inr (by simp)) _).set (.inr (by simp)) _).set (.inr (by simp)) _).set (.inr (by simp)) _).set (.inr (by simp)) _).drew
  · go_wp2_with fail
    refine (geo_all B g _ h3).mono ?_
    rintro e w4 ⟨a', b', c', d', rfl, h4, v4⟩
    have m4 := But.box v4 k4 (by omega)
    have m5 := But.box v4 k5 (by omega)
    have m2 := But.box v4 Z2.out (by omega)
    have m3 := But.box v4 Z3.out (by omega)
    have fm := m4.free
    obtain ⟨t0, t1, t2, t3⟩ := m4.cell4
    have pa4 : PartAt w4 (w1.heap.size + 1) (some ⟨gs, 0, none⟩) n zs := (ho3.partAt (Nat.le_refl _)).but v4 (by omega)
    have y4 := Y3.out.trans v4
    have n4 : Box ((((w4.setCell ⟨w1.heap.size, 0, none⟩ (.int .i64 a')).setCell ⟨w1.heap.size, 1, none⟩ (.int .i64 b')).setCell ⟨w1.heap.size, 2, none⟩ (.int .i64 c')).setCell ⟨w1.heap.size, 3, none⟩ (.int .i64 d')) w1.heap.size 47 #[.int .i64 a', .int .i64 b', .int .i64 c', .int .i64 d'] := m4.put4 _ _ _ _
    have n5 : Box ((((w4.setCell ⟨w1.heap.size, 0, none⟩ (.int .i64 a')).setCell ⟨w1.heap.size, 1, none⟩ (.int .i64 b')).setCell ⟨w1.heap.size, 2, none⟩ (.int .i64 c')).setCell ⟨w1.heap.size, 3, none⟩ (.int .i64 d')) w2.heap.size 49 #[.slice (some ⟨gs, 0, none⟩) n cp] := (((m5.other (by simp; omega) _).other (by simp; omega) _).other (by simp; omega) _).other (by simp; omega) _
    have n2 : Box ((((w4.setCell ⟨w1.heap.size, 0, none⟩ (.int .i64 a')).setCell ⟨w1.heap.size, 1, none⟩ (.int .i64 b')).setCell ⟨w1.heap.size, 2, none⟩ (.int .i64 c')).setCell ⟨w1.heap.size, 3, none⟩ (.int .i64 d')) w.heap.size 47 #[.int .i64 0, .int .i64 0, .int .i64 0, .int .i64 0] := (((m2.other (by simp; omega) _).other (by simp; omega) _).other (by simp; omega) _).other (by simp; omega) _
    have n3 : Box ((((w4.setCell ⟨w1.heap.size, 0, none⟩ (.int .i64 a')).setCell ⟨w1.heap.size, 1, none⟩ (.int .i64 b')).setCell ⟨w1.heap.size, 2, none⟩ (.int .i64 c')).setCell ⟨w1.heap.size, 3, none⟩ (.int .i64 d')) (w.heap.size + 1) 49 #[.slice none 0 0] := (((m3.other (by simp; omega) _).other (by simp; omega) _).other (by simp; omega) _).other (by simp; omega) _
    have y5 : But g w ((((w4.setCell ⟨w1.heap.size, 0, none⟩ (.int .i64 a')).setCell ⟨w1.heap.size, 1, none⟩ (.int .i64 b')).setCell ⟨w1.heap.size, 2, none⟩ (.int .i64 c')).setCell ⟨w1.heap.size, 3, none⟩ (.int .i64 d')) := (((y4.set (.inr (by simp; omega)) _).set (.inr (by simp; omega)) _).set (.inr (by simp; omega)) _).set (.inr (by simp; omega)) _
    have pa5 : PartAt ((((w4.setCell ⟨w1.heap.size, 0, none⟩ (.int .i64 a')).setCell ⟨w1.heap.size, 1, none⟩ (.int .i64 b')).setCell ⟨w1.heap.size, 2, none⟩ (.int .i64 c')).setCell ⟨w1.heap.size, 3, none⟩ (.int .i64 d')) (w.heap.size + 1 + 1) (some ⟨gs, 0, none⟩) n zs := ((((pa4.set (by simp) _).set (by simp) _).set (by simp) _).set (by simp) _).less (by omega)
    have H2 := Lib.hid n2
    have H3 := Lib.hid n3
    have HY := Lib.hid y5
    have HP := Lib.hid pa5
    obtain ⟨i0, i1, i2, i3⟩ := (n4).cell4
    have i4 := (n5).cell1
    have f2 := H2.out.free
    have f3 := H3.out.free
    obtain ⟨j0, j1, j2, j3⟩ := H2.out.cell4
    have j4 := H3.out.cell1
    clear k4 k5 Z2 Z3 Y3 ho3 h3 m4 m5 m2 m3 n2 n3 n4 n5 y4 y5 pa4 pa5 h4 v4
    go_wp2
    go_region
    go_wp2
    refine bodyPost_ret (v := .tuple #[.agg #[.int .i64 a', .int .i64 b', .int .i64 c', .int .i64 d'], .agg #[.slice (some ⟨gs, 0, none⟩) n cp]]) (results_two Try.results64 _ _ w.heap.size (w.heap.size + 1) 47 49 _ _ (0, 0) (0, 0) _ _ rfl ?_ rfl ?_ Try.underlying47 rfl info_geo Try.underlying49 rfl info_prt) rfl ⟨⟨_, _, _, _, _, _, _, zs, by omega, rfl, ?_⟩, ?_⟩
    · exact ((H2.out.put4 _ _ _ _).other (by simp) _).drew
    · exact (((((H3.out.other (by simp) _).other (by simp) _).other (by simp) _).other (by simp) _).set 0 _).drew
    · exact (((((HP.out.set (by simp; omega) _).set (by simp; omega) _).set (by simp; omega) _).set (by simp; omega) _).set (by simp) _).drew
    · exact (((((HY.out.set (.inr (by simp)) _).set (.inr (by simp)) _).set (.inr (by simp)) _).set (.inr (by simp)) _).set (.inr (by simp)) _).drew
  · have e0 : (r == 0) = false := by rw [beq_eq_false_iff_ne]; omega
    have e1 : (r == 1) = false := by rw [beq_eq_false_iff_ne]; omega
    have e2 : (r == 2) = false := by rw [beq_eq_false_iff_ne]; omega
    have H2 := Lib.hid Z2.out
    have H3 := Lib.hid Z3.out
    have HY := Lib.hid Y3.out
    have HP := Lib.hid (ho3.partAt (lo := w.heap.size + 1 + 1) (by omega))
    obtain ⟨i0, i1, i2, i3⟩ := (k4).cell4
    have i4 := (k5).cell1
    have f2 := H2.out.free
    have f3 := H3.out.free
    obtain ⟨j0, j1, j2, j3⟩ := H2.out.cell4
    have j4 := H3.out.cell1
    clear r2 r3 k4 k5 Z2 Z3 Y3 ho3 h3
    go_wp2
    go_region
    go_wp2
    refine bodyPost_ret (v := .tuple #[.agg #[.int .i64 a, .int .i64 b, .int .i64 c, .int .i64 d], .agg #[.slice (some ⟨gs, 0, none⟩) n cp]]) (results_two Try.results64 _ _ w.heap.size (w.heap.size + 1) 47 49 _ _ (0, 0) (0, 0) _ _ rfl ?_ rfl ?_ Try.underlying47 rfl info_geo Try.underlying49 rfl info_prt) rfl ⟨⟨_, _, _, _, _, _, _, zs, by omega, rfl, ?_⟩, ?_⟩
    · exact ((H2.out.put4 _ _ _ _).other (by simp) _).drew
    · exact (((((H3.out.other (by simp) _).other (by simp) _).other (by simp) _).other (by simp) _).set 0 _).drew
    · exact (((((HP.out.set (by simp; omega) _).set (by simp; omega) _).set (by simp; omega) _).set (by simp; omega) _).set (by simp) _).drew
    · exact (((((HY.out.set (.inr (by simp)) _).set (.inr (by simp)) _).set (.inr (by simp)) _).set (.inr (by simp)) _).set (.inr (by simp)) _).drew

def DrewPart (w : World) : Ending → World → Prop := fun e w' => ∃ (a b c d : Int) (s : Option Addr) (n cp : Nat) (zs : List Int), n ≤ 8 ∧ e = .returned (.tuple #[.agg #[.int .i64 a, .int .i64 b, .int .i64 c, .int .i64 d], .agg #[.slice s n cp]]) ∧ RD w' s n zs ∧ Ext w w'

set_option maxHeartbeats 4000000 in
theorem draw_part (A0 : Option Addr) (n0 c0 : Nat) (zs : List Int) (w : World) (h : RowIs .u8 w w.heap.size A0 n0 zs) (hm : n0 ≤ maxLen) : Calls Try.prog 48 #[.slice A0 n0 c0] w (DrewPart w) := by
  have b2 := (Box.new w 47 #[.int .i64 0, .int .i64 0, .int .i64 0, .int .i64 0]).alloc (.cells #[.slice none 0 0] 49)
  have b3 := Box.new_at (w.alloc (.cells #[.int .i64 0, .int .i64 0, .int .i64 0, .int .i64 0] 47)) 49 #[.slice none 0 0] (w.heap.size + 1) (by simp)
  have x0 : Ext w ((w.alloc (.cells #[.int .i64 0, .int .i64 0, .int .i64 0, .int .i64 0] 47)).alloc (.cells #[.slice none 0 0] 49)) := ((Ext.refl w).alloc _).alloc _
  have h0 := (x0.row h (Nat.le_refl _)).more x0.le
  go_enter Try.func48, Try.ntmps48
  go_wp2_with fail
  refine (new_any A0 n0 c0 zs _ h0 hm).mono ?_
  rintro e w1 ⟨g, rfl, hg, hc1, x1⟩
  go_wp2_with fail
  refine (any_part _ g _ hc1).mono ?_
  rintro e w2 ⟨⟨a, b, c, d, s, n, cp, ys, hn, rfl, pa⟩, v2⟩
  simp at hg
  have m2 := But.box v2 (b2.ext x1) (by omega)
  have m3 := But.box v2 (b3.ext x1) (by omega)
  have y2 := x0.trans (But.toExt x1 (by simp; omega) v2)
  have f2 := m2.free
  have f3 := m3.free
  obtain ⟨i0, i1, i2, i3⟩ := m2.cell4
  have i4 := m3.cell1
  have M2 := Lib.hid m2
  have M3 := Lib.hid m3
  have Y2 := Lib.hid y2
  have PA := Lib.hid pa
  have hs1 := x1.le
  simp at hs1
  clear b2 b3 x0 h0 hc1 x1 v2 m2 m3 y2 pa h
  go_wp2
  refine bodyPost_ret (v := .tuple #[.agg #[.int .i64 a, .int .i64 b, .int .i64 c, .int .i64 d], .agg #[.slice s n cp]]) (results_two Try.results48 _ _ w.heap.size (w.heap.size + 1) 47 49 _ _ (0, 0) (0, 0) _ _ rfl ?_ rfl ?_ Try.underlying47 rfl info_geo Try.underlying49 rfl info_prt) rfl ⟨_, _, _, _, _, _, _, ys, hn, rfl, ?_, ?_⟩
  · exact (M2.out.put4 _ _ _ _).other (by simp) _
  · exact ((((M3.out.other (by simp) _).other (by simp) _).other (by simp) _).other (by simp) _).set 0 _
  · exact (((((PA.out.set (by simp; omega) _).set (by simp; omega) _).set (by simp; omega) _).set (by simp; omega) _).set (by simp; omega) _).rd
  · exact ((((Y2.out.setCell (by simp) _).setCell (by simp) _).setCell (by simp) _).setCell (by simp) _).setCell (by simp) _

end Go.Proofs.Ytlchejnjeeilpaa
