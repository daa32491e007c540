/- The contract of the reference's DrawBatch. -/
import Derived.Test.YtdaphamplgcccaaBatU
set_option maxRecDepth 20000
namespace Go.Proofs.Ytdaphamplgcccaa
open Go.RowKit
attribute [local go_sem ↓] Go.wp_at_zero Go.wp_at_succ

theorem results_ccct {P : Program} {fn : Func} {p1 p2 p3 q : Tmp} {y1 y2 y3 : TypeId} (h : fn.results = #[.cell p1 y1, .cell p2 y2, .cell p3 y3, .tmp q]) (tmps : Array Value) (w : World) (g1 g2 g3 : Nat) (t1 t2 t3 : TypeId) (c1 c2 c3 : Array Value) (f1 f2 f3 : Nat × Nat) (d1 d2 d3 : TypeDesc) (v : Value)
    (hp1 : tmps.getD p1 undef = .pointer (some ⟨g1, 0, none⟩)) (hg1 : w.heap[g1]? = some (.cells c1 t1 f1))
    (hp2 : tmps.getD p2 undef = .pointer (some ⟨g2, 0, none⟩)) (hg2 : w.heap[g2]? = some (.cells c2 t2 f2))
    (hp3 : tmps.getD p3 undef = .pointer (some ⟨g3, 0, none⟩)) (hg3 : w.heap[g3]? = some (.cells c3 t3 f3)) (hq : tmps.getD q undef = v)
    (hu1 : P.underlying y1 = some d1) (hd1 : (match d1 with | .struct _ | .array _ _ => true | _ => false) = true) (hi1 : (P.info? y1).map (·.size) = some c1.size)
    (hu2 : P.underlying y2 = some d2) (hd2 : (match d2 with | .struct _ | .array _ _ => true | _ => false) = true) (hi2 : (P.info? y2).map (·.size) = some c2.size)
    (hu3 : P.underlying y3 = some d3) (hd3 : (match d3 with | .struct _ | .array _ _ => true | _ => false) = true) (hi3 : (P.info? y3).map (·.size) = some c3.size) :
    (results fn tmps).run P w = .ok (.tuple #[.agg c1, .agg c2, .agg c3, v]) w := by
  have e1 : tmps[p1]?.getD undef = .pointer (some ⟨g1, 0, none⟩) := by simpa using hp1
  have e2 : tmps[p2]?.getD undef = .pointer (some ⟨g2, 0, none⟩) := by simpa using hp2
  have e3 : tmps[p3]?.getD undef = .pointer (some ⟨g3, 0, none⟩) := by simpa using hp3
  have e4 : tmps[q]?.getD undef = v := by simpa using hq
  simp [results, h, e1, e2, e3, e4, asAddr, run_loadVar_row w g1 t1 y1 c1 f1 d1 hg1 hu1 hd1 hi1, run_loadVar_row w g2 t2 y2 c2 f2 d2 hg2 hu2 hd2 hi2, run_loadVar_row w g3 t3 y3 c3 f3 d3 hg3 hu3 hd3 hi3]

def DrewBatch (w : World) : Ending → World → Prop := fun e w' => ∃ (a b c d o : Int) (hb : Bool) (s : Option Addr) (n cp : Nat) (l : Int) (q : Option Addr) (m cq : Nat), GeoIn a b c d ∧ (0 ≤ o ∧ o < 3) ∧
  e = .returned (.tuple #[.agg #[.int .i64 a, .int .i64 b, .int .i64 c, .int .i64 d], .agg #[.int .i64 o, .bool hb], .agg #[.slice s n cp, .int .i64 l], .slice q m cq]) ∧ Ext w w'

set_option maxHeartbeats 8000000 in
theorem draw_batch (A0 : Option Addr) (n0 c0 : Nat) (zs : List Int) (w : World) (h : RowIs .u8 w w.heap.size A0 n0 zs) (hm : n0 ≤ maxLen) : Calls Try.prog 40 #[.slice A0 n0 c0] w (DrewBatch w) := by
  have b2 := ((Box.new w 25 #[.int .i64 0, .int .i64 0, .int .i64 0, .int .i64 0]).alloc (.cells #[.int .i64 0, .bool false] 43)).alloc (.cells #[.slice none 0 0, .int .i64 0] 55)
  have b3 := (Box.new_at (w.alloc (.cells #[.int .i64 0, .int .i64 0, .int .i64 0, .int .i64 0] 25)) 43 #[.int .i64 0, .bool false] (w.heap.size + 1) (by simp)).alloc (.cells #[.slice none 0 0, .int .i64 0] 55)
  have b4 := Box.new_at ((w.alloc (.cells #[.int .i64 0, .int .i64 0, .int .i64 0, .int .i64 0] 25)).alloc (.cells #[.int .i64 0, .bool false] 43)) 55 #[.slice none 0 0, .int .i64 0] (w.heap.size + 1 + 1) (by simp)
  have x0 : Ext w (((w.alloc (.cells #[.int .i64 0, .int .i64 0, .int .i64 0, .int .i64 0] 25)).alloc (.cells #[.int .i64 0, .bool false] 43)).alloc (.cells #[.slice none 0 0, .int .i64 0] 55)) := (((Ext.refl w).alloc _).alloc _).alloc _
  have h0 := (x0.row h (Nat.le_refl _)).more x0.le
  clear h
  go_enter Try.func40, Try.ntmps40
  go_wp2_with fail
  refine (new_any A0 n0 c0 zs _ h0 hm).mono ?_
  rintro e w1 ⟨g, rfl, hg, hc1, x1⟩
  go_wp2_with fail
  refine (geo_any _ g _ hc1).mono ?_
  rintro e w2 ⟨a, b, c, d, hG, rfl, c2, v2⟩
  simp at hg
  have hs1 := x1.le
  simp at hs1
  have hs2 := v2.size
  have hgl := c2.lt
  have m2 := (But.box v2 (b2.ext x1) (by omega)).alloc (.cells #[.int .i64 a, .int .i64 b, .int .i64 c, .int .i64 d] 25)
  have m3 := (But.box v2 (b3.ext x1) (by omega)).alloc (.cells #[.int .i64 a, .int .i64 b, .int .i64 c, .int .i64 d] 25)
  have m4 := (But.box v2 (b4.ext x1) (by omega)).alloc (.cells #[.int .i64 a, .int .i64 b, .int .i64 c, .int .i64 d] 25)
  have m7 := Box.new w2 25 #[.int .i64 a, .int .i64 b, .int .i64 c, .int .i64 d]
  have y2 := (x0.trans (But.toExt x1 (by simp; omega) v2)).alloc (.cells #[.int .i64 a, .int .i64 b, .int .i64 c, .int .i64 d] 25)
  have k2 := c2.ext ((Ext.refl w2).alloc (.cells #[.int .i64 a, .int .i64 b, .int .i64 c, .int .i64 d] 25))
  clear b2 b3 b4 x0 h0 hc1 x1 c2 v2
  go_wp2_with fail
  refine (slots_any _ g _ k2).mono ?_
  rintro e w3 ⟨s, n, cp, l, hl, rfl, c3, v3⟩
  have hs3 := v3.size
  simp at hs3
  have p2 := (But.box v3 m2 (by omega)).alloc (.cells #[.slice s n cp, .int .i64 l] 55)
  have p3 := (But.box v3 m3 (by omega)).alloc (.cells #[.slice s n cp, .int .i64 l] 55)
  have p4 := (But.box v3 m4 (by omega)).alloc (.cells #[.slice s n cp, .int .i64 l] 55)
  have p7 := (But.box v3 m7 (by omega)).alloc (.cells #[.slice s n cp, .int .i64 l] 55)
  have p8 := Box.new w3 55 #[.slice s n cp, .int .i64 l]
  have y3 := (But.toExt y2 (by omega) v3).alloc (.cells #[.slice s n cp, .int .i64 l] 55)
  have k3 := c3.ext ((Ext.refl w3).alloc (.cells #[.slice s n cp, .int .i64 l] 55))
  clear m2 m3 m4 m7 y2 k2 c3 v3
  go_wp2_with fail
  refine (below_small _ g 10 (by omega) (by omega) _ k3).mono ?_
  rintro e w4 ⟨r, hr, rfl, c4, v4⟩
  have hs4 := v4.size
  simp at hs4
  have e2 := But.box v4 p2 (by omega)
  have e3 := But.box v4 p3 (by omega)
  have e4 := But.box v4 p4 (by omega)
  have e7 := But.box v4 p7 (by omega)
  have e8 := But.box v4 p8 (by omega)
  have y4 := But.toExt y3 (by omega) v4
  have f8 := e8.free
  have q81 : w4.cell? ⟨w3.heap.size, 1, none⟩ = some (.int .i64 l) := e8.cell 1
  clear p2 p3 p4 p7 p8 y3 k3 v4
  go_upto_region 5 with (fail)
  have o2 : Box (w4.setCell ⟨w3.heap.size, 1, none⟩ (.int .i64 (20 + r))) w.heap.size 25 #[.int .i64 0, .int .i64 0, .int .i64 0, .int .i64 0] := e2.other (by simp; omega) _
  have o3 : Box (w4.setCell ⟨w3.heap.size, 1, none⟩ (.int .i64 (20 + r))) (w.heap.size + 1) 43 #[.int .i64 0, .bool false] := e3.other (by simp; omega) _
  have o4 : Box (w4.setCell ⟨w3.heap.size, 1, none⟩ (.int .i64 (20 + r))) (w.heap.size + 1 + 1) 55 #[.slice none 0 0, .int .i64 0] := e4.other (by simp; omega) _
  have o7 : Box (w4.setCell ⟨w3.heap.size, 1, none⟩ (.int .i64 (20 + r))) w2.heap.size 25 #[.int .i64 a, .int .i64 b, .int .i64 c, .int .i64 d] := e7.other (by simp; omega) _
  have o8 : Box (w4.setCell ⟨w3.heap.size, 1, none⟩ (.int .i64 (20 + r))) w3.heap.size 55 #[.slice s n cp, .int .i64 (20 + r)] := e8.set 1 _
  have y5 : Ext w (w4.setCell ⟨w3.heap.size, 1, none⟩ (.int .i64 (20 + r))) := y4.setCell (by simp; omega) _
  have hBw5 : w.heap.size + 1 + 1 + 1 ≤ w3.heap.size := by omega
  have c5 := c4.set (p := ⟨w3.heap.size, 1, none⟩) (by simp; omega) (by simp; omega) (.int .i64 (20 + r))
  have hsz5 : (w4.setCell ⟨w3.heap.size, 1, none⟩ (.int .i64 (20 + r))).heap.size = w4.heap.size := by simp [World.setCell]
  generalize w4.setCell ⟨w3.heap.size, 1, none⟩ (.int .i64 (20 + r)) = W5 at *
  generalize 20 + r = LL at *
  have hLC := Lib.hid (fun w => spec_lineCount a b c d w)
  rw [lineF_yes hG.ok] at hLC
  have hLr := line_range hG.ok
  generalize a * b * c * d = LN at *
  have HG := Lib.hid hG
  have E2 := Lib.hid o2
  have E3 := Lib.hid o3
  have E4 := Lib.hid o4
  have Y5 := Lib.hid y5
  clear e2 e3 e4 e7 e8 y4 y5 f8 q81 c4 o2 o3 o4 hG
  have PW : Hid (Box W5 w2.heap.size 25 #[.int .i64 a, .int .i64 b, .int .i64 c, .int .i64 d] ∧ Box W5 w3.heap.size 55 #[.slice s n cp, .int .i64 LL]) := ⟨o7, o8⟩
  have PB : Hid (∀ x, But g W5 x → Box x w2.heap.size 25 #[.int .i64 a, .int .i64 b, .int .i64 c, .int .i64 d] ∧ Box x w3.heap.size 55 #[.slice s n cp, .int .i64 LL]) := fun x t => ⟨But.box t o7 (by omega), But.box t o8 (by omega)⟩
  have KQ : Hid (∀ x, (Box x w2.heap.size 25 #[.int .i64 a, .int .i64 b, .int .i64 c, .int .i64 d] ∧ Box x w3.heap.size 55 #[.slice s n cp, .int .i64 LL]) → x.cell? ⟨w2.heap.size, 0, none⟩ = some (.int .i64 a) ∧ x.cell? ⟨w2.heap.size, 1, none⟩ = some (.int .i64 b) ∧ x.cell? ⟨w2.heap.size, 2, none⟩ = some (.int .i64 c) ∧ x.cell? ⟨w2.heap.size, 3, none⟩ = some (.int .i64 d) ∧ x.cell? ⟨w3.heap.size, 0, none⟩ = some (.slice s n cp) ∧ x.cell? ⟨w3.heap.size, 1, none⟩ = some (.int .i64 LL)) := fun x h => ⟨h.1.cell 0, h.1.cell 1, h.1.cell 2, h.1.cell 3, h.2.cell 0, h.2.cell 1⟩
  have XA : Hid (∀ (x : World) (i : Nat) (u : Value), (Box x w2.heap.size 25 #[.int .i64 a, .int .i64 b, .int .i64 c, .int .i64 d] ∧ Box x w3.heap.size 55 #[.slice s n cp, .int .i64 LL]) → (Box (x.setCell ⟨w.heap.size, i, none⟩ u) w2.heap.size 25 #[.int .i64 a, .int .i64 b, .int .i64 c, .int .i64 d] ∧ Box (x.setCell ⟨w.heap.size, i, none⟩ u) w3.heap.size 55 #[.slice s n cp, .int .i64 LL])) := fun x i u h => ⟨h.1.other (by simp; omega) _, h.2.other (by simp; omega) _⟩
  have XB : Hid (∀ (x : World) (i : Nat) (u : Value), (Box x w2.heap.size 25 #[.int .i64 a, .int .i64 b, .int .i64 c, .int .i64 d] ∧ Box x w3.heap.size 55 #[.slice s n cp, .int .i64 LL]) → (Box (x.setCell ⟨w.heap.size + 1, i, none⟩ u) w2.heap.size 25 #[.int .i64 a, .int .i64 b, .int .i64 c, .int .i64 d] ∧ Box (x.setCell ⟨w.heap.size + 1, i, none⟩ u) w3.heap.size 55 #[.slice s n cp, .int .i64 LL])) := fun x i u h => ⟨h.1.other (by simp; omega) _, h.2.other (by simp; omega) _⟩
  have XC : Hid (∀ (x : World) (i : Nat) (u : Value), (Box x w2.heap.size 25 #[.int .i64 a, .int .i64 b, .int .i64 c, .int .i64 d] ∧ Box x w3.heap.size 55 #[.slice s n cp, .int .i64 LL]) → (Box (x.setCell ⟨w.heap.size + 1 + 1, i, none⟩ u) w2.heap.size 25 #[.int .i64 a, .int .i64 b, .int .i64 c, .int .i64 d] ∧ Box (x.setCell ⟨w.heap.size + 1 + 1, i, none⟩ u) w3.heap.size 55 #[.slice s n cp, .int .i64 LL])) := fun x i u h => ⟨h.1.other (by simp; omega) _, h.2.other (by simp; omega) _⟩
  have D5 := c5.ext ((Ext.refl W5).drew)
  have U5 : But g W5 W5.drew := (But.refl g W5).drew
  clear o7 o8 c5
  go_region_held3 (fun x => x.cell? ⟨w2.heap.size, 0, none⟩ = some (.int .i64 a) ∧ x.cell? ⟨w2.heap.size, 1, none⟩ = some (.int .i64 b) ∧ x.cell? ⟨w2.heap.size, 2, none⟩ = some (.int .i64 c) ∧ x.cell? ⟨w2.heap.size, 3, none⟩ = some (.int .i64 d) ∧ x.cell? ⟨w3.heap.size, 0, none⟩ = some (.slice s n cp) ∧ x.cell? ⟨w3.heap.size, 1, none⟩ = some (.int .i64 LL))
    (first
      | (with_reducible exact KQ.out _ PW.out)
      | (with_reducible exact KQ.out _ (PB.out _ U5))
      | (with_reducible exact KQ.out _ (PB.out _ t1))
      | (with_reducible exact KQ.out _ (PB.out _ t2))
      | (with_reducible exact KQ.out _ (PB.out _ t3))
      | (with_reducible exact KQ.out _ (XA.out _ _ _ (XA.out _ _ _ (XA.out _ _ _ (XA.out _ _ _ (PB.out _ t3))))))
      | (with_reducible exact KQ.out _ (XB.out _ _ _ (XB.out _ _ _ (XA.out _ _ _ (XA.out _ _ _ (XA.out _ _ _ (XA.out _ _ _ (PB.out _ t3))))))))
      | (with_reducible exact KQ.out _ (XC.out _ _ _ (XC.out _ _ _ (XB.out _ _ _ (XB.out _ _ _ (XA.out _ _ _ (XA.out _ _ _ (XA.out _ _ _ (XA.out _ _ _ (PB.out _ t3)))))))))))
    (first
      | (go_at_call 56; refine (map_any _ g _ D5).mono ?_; rintro e u1 ⟨o, hb, ho, rfl, k1, t0⟩; have t1 : But g W5 u1 := U5.trans t0)
      | (go_at_call 19; refine (hLC.out _).mono ?_; rintro e u2 ⟨rfl, x2⟩; have k2 := k1.ext x2; have t2 : But g W5 u2 := t1.trans (But.ext x2))
      | (go_at_call 57; refine (list_any _ g LN (by omega) (by omega) _ k2).mono ?_; rintro e u3 ⟨q, m, cq, rfl, k3, t3a⟩; have t3 : But g W5 u3 := t2.trans t3a; have r2 := But.box t3 E2.out (by omega); have r3 := But.box t3 E3.out (by omega); have r4 := But.box t3 E4.out (by omega); obtain ⟨n0a, n1a, n2a, n3a⟩ := r2.cell4; obtain ⟨n4a, n5a⟩ := r3.cell2; obtain ⟨n6a, n7a⟩ := r4.cell2; have fr2 := r2.free; have fr3 := r3.free; have fr4 := r4.free; have R2 := Lib.hid r2; have R3 := Lib.hid r3; have R4 := Lib.hid r4))
  all_goals
    have T3 := Lib.hid t3
    clear r2 r3 r4 t0 t1 t2 t3 t3a x2 k1 k2 k3 D5 U5 PW PB KQ XA XB XC
    go_wp2
    refine bodyPost_ret (v := .tuple #[.agg #[.int .i64 a, .int .i64 b, .int .i64 c, .int .i64 d], .agg #[.int .i64 o, .bool hb], .agg #[.slice s n cp, .int .i64 LL], .slice q m cq]) (results_ccct Try.results40 _ _ w.heap.size (w.heap.size + 1) (w.heap.size + 1 + 1) 25 43 55 _ _ _ (0, 0) (0, 0) (0, 0) _ _ _ _ rfl ?_ rfl ?_ rfl ?_ rfl Try.underlying25 rfl info_geo Try.underlying43 rfl info_map Try.underlying55 rfl info_slots) rfl ⟨_, _, _, _, _, _, _, _, _, _, _, _, _, HG.out, ho, rfl, ?_⟩
    · exact ((((R2.out.put4 _ _ _ _).other (by simp <;> omega) _).other (by simp <;> omega) _).other (by simp <;> omega) _).other (by simp <;> omega) _
    · exact (((((((R3.out.other (by simp <;> omega) _).other (by simp <;> omega) _).other (by simp <;> omega) _).other (by simp <;> omega) _).put2 _ _).other (by simp <;> omega) _).other (by simp <;> omega) _)
    · exact ((((((R4.out.other (by simp <;> omega) _).other (by simp <;> omega) _).other (by simp <;> omega) _).other (by simp <;> omega) _).other (by simp <;> omega) _).other (by simp <;> omega) _).put2 _ _
    · exact (((((((Ext.setCell (But.toExt Y5.out (by omega) T3.out) (by simp <;> omega) _).setCell (by simp <;> omega) _).setCell (by simp <;> omega) _).setCell (by simp <;> omega) _).setCell (by simp <;> omega) _).setCell (by simp <;> omega) _).setCell (by simp <;> omega) _).setCell (by simp <;> omega) _

end Go.Proofs.Ytdaphamplgcccaa
