/- The contract of DrawCommand; a drawn command is well-formed. -/
import Derived.Test.YtamlfjkkpgmjiaaDoorCmdE
import Derived.Test.YtamlfjkkpgmjiaaDoorCmdF
namespace Go.Proofs.YtamlfjkkpgmjiaaDoor
open Go.RowKit
attribute [local go_sem ↓] Go.wp_at_zero Go.wp_at_succ

theorem CmdIn.form {a b c d k p q r : Int} (hG : GeoIn a b c d) (h : CmdIn a b c d k p q r) : formB k p q r = true := by
  have hK := bank_range hG.ok
  unfold GeoIn at hG
  unfold CmdIn at h
  generalize a * b = K at *
  obtain ⟨hk, h1, h2, h3⟩ := h
  have hc : k = 1 ∨ k = 2 ∨ k = 3 ∨ k = 4 ∨ k = 5 ∨ k = 6 ∨ k = 7 ∨ k = 8 ∨ k = 9 := by omega
  rcases hc with rfl | rfl | rfl | rfl | rfl | rfl | rfl | rfl | rfl <;>
    (simp at h1 h2 h3
     simp [formB, wfB, fieldB, useB, useR, useC, btw]
     omega)

theorem results_two {P : Program} {fn : Func} {p1 p2 : Tmp} {y1 y2 : TypeId} (h : fn.results = #[.cell p1 y1, .cell p2 y2]) (tmps : Array Value) (w : World) (g1 g2 : Nat) (t1 t2 : TypeId) (c1 c2 : Array Value) (f1 f2 : Nat × Nat) (d1 d2 : TypeDesc)
    (hp1 : tmps.getD p1 undef = .pointer (some ⟨g1, 0, none⟩)) (hg1 : w.heap[g1]? = some (.cells c1 t1 f1))
    (hp2 : tmps.getD p2 undef = .pointer (some ⟨g2, 0, none⟩)) (hg2 : w.heap[g2]? = some (.cells c2 t2 f2))
    (hu1 : P.underlying y1 = some d1) (hd1 : (match d1 with | .struct _ | .array _ _ => true | _ => false) = true) (hi1 : (P.info? y1).map (·.size) = some c1.size)
    (hu2 : P.underlying y2 = some d2) (hd2 : (match d2 with | .struct _ | .array _ _ => true | _ => false) = true) (hi2 : (P.info? y2).map (·.size) = some c2.size) :
    (results fn tmps).run P w = .ok (.tuple #[.agg c1, .agg c2]) w := by
  have e1 : tmps[p1]?.getD undef = .pointer (some ⟨g1, 0, none⟩) := by simpa using hp1
  have e2 : tmps[p2]?.getD undef = .pointer (some ⟨g2, 0, none⟩) := by simpa using hp2
  simp [results, h, e1, e2, asAddr, run_loadVar_row w g1 t1 y1 c1 f1 d1 hg1 hu1 hd1 hi1, run_loadVar_row w g2 t2 y2 c2 f2 d2 hg2 hu2 hd2 hi2]

def DrewCmd (w : World) : Ending → World → Prop := fun e w' => ∃ a b c d k p q r : Int, formB k p q r = true ∧ cmdB a b c d k p q r = true ∧ e = .returned (.tuple #[.agg #[.int .i64 a, .int .i64 b, .int .i64 c, .int .i64 d], .agg #[.int .i64 k, .int .i64 p, .int .i64 q, .int .i64 r]]) ∧ Ext w w'

theorem CmdIn.cmd {a b c d k p q r : Int} (hG : GeoIn a b c d) (h : CmdIn a b c d k p q r) : cmdB a b c d k p q r = true := by
  have hK := bank_range hG.ok
  unfold cmdB
  rw [hG.ok, Bool.true_and]
  unfold GeoIn at hG
  unfold CmdIn at h
  generalize a * b = K at *
  obtain ⟨hk, h1, h2, h3⟩ := h
  have hc : k = 1 ∨ k = 2 ∨ k = 3 ∨ k = 4 ∨ k = 5 ∨ k = 6 ∨ k = 7 ∨ k = 8 ∨ k = 9 := by omega
  rcases hc with rfl | rfl | rfl | rfl | rfl | rfl | rfl | rfl | rfl <;>
    (simp at h1 h2 h3
     simp [wfB, fieldB, useB, useR, useC, btw]
     omega)

set_option maxHeartbeats 4000000 in
theorem draw_command (A0 : Option Addr) (n0 c0 : Nat) (zs : List Int) (w : World) (h : RowIs .u8 w w.heap.size A0 n0 zs) (hm : n0 ≤ maxLen) : Calls Tryd.prog 13 #[.slice A0 n0 c0] w (DrewCmd w) := by
  have b2 := (Box.new w 35 #[.int .i64 0, .int .i64 0, .int .i64 0, .int .i64 0]).alloc (.cells #[.int .i64 0, .int .i64 0, .int .i64 0, .int .i64 0] 25)
  have b3 := Box.new_at (w.alloc (.cells #[.int .i64 0, .int .i64 0, .int .i64 0, .int .i64 0] 35)) 25 #[.int .i64 0, .int .i64 0, .int .i64 0, .int .i64 0] (w.heap.size + 1) (by simp)
  have x0 : Ext w ((w.alloc (.cells #[.int .i64 0, .int .i64 0, .int .i64 0, .int .i64 0] 35)).alloc (.cells #[.int .i64 0, .int .i64 0, .int .i64 0, .int .i64 0] 25)) := ((Ext.refl w).alloc _).alloc _
  have h0 := (x0.row h (Nat.le_refl _)).more x0.le
  go_enter Tryd.func13, Tryd.ntmps13
  go_wp2_with fail
  refine (new_any A0 n0 c0 zs _ h0 hm).mono ?_
  rintro e w1 ⟨g, rfl, hg, hc1, x1⟩
  go_wp2_with fail
  refine (geo_any _ g _ hc1).mono ?_
  rintro e w2 ⟨a, b, c, d, hG, rfl, hc2, hb2⟩
  simp at hg
  have hgl := hc2.lt
  have z2 := (But.box hb2 (b2.ext x1) (by omega)).alloc (.cells #[.int .i64 a, .int .i64 b, .int .i64 c, .int .i64 d] 35)
  have z3 := (But.box hb2 (b3.ext x1) (by omega)).alloc (.cells #[.int .i64 a, .int .i64 b, .int .i64 c, .int .i64 d] 35)
  have z5 := Box.new w2 35 #[.int .i64 a, .int .i64 b, .int .i64 c, .int .i64 d]
  have y2 := (x0.trans (But.toExt x1 (by simp; omega) hb2)).alloc (.cells #[.int .i64 a, .int .i64 b, .int .i64 c, .int .i64 d] 35)
  have C2 := hc2.ext ((Ext.refl w2).alloc (.cells #[.int .i64 a, .int .i64 b, .int .i64 c, .int .i64 d] 35))
  go_upto_region 3 with (fail)
  generalize hW : w2.alloc (.cells #[.int .i64 a, .int .i64 b, .int .i64 c, .int .i64 d] 35) = W0 at z2 z3 z5 y2 C2 ⊢
  have hsz := z5.lt
  have hs2 := z2.lt
  have hs3 := z3.lt
  have HQ : Hid (∀ x, Box x w2.heap.size 35 #[.int .i64 a, .int .i64 b, .int .i64 c, .int .i64 d] → x.cell? ⟨w2.heap.size, 0, none⟩ = some (.int .i64 a) ∧ x.cell? ⟨w2.heap.size, 1, none⟩ = some (.int .i64 b) ∧ x.cell? ⟨w2.heap.size, 2, none⟩ = some (.int .i64 c) ∧ x.cell? ⟨w2.heap.size, 3, none⟩ = some (.int .i64 d)) := fun x hx => hx.cell4
  have HG := Lib.hid hG
  have Z2 := Lib.hid z2.drew
  have Z3 := Lib.hid z3.drew
  have Z5 := Lib.hid z5
  have Y2 := Lib.hid y2
  have D2 := Lib.hid (C2.ext ((Ext.refl W0).drew))
  have XS : Hid (∀ (v : World) (i : Nat) (u : Value), Box v w2.heap.size 35 #[.int .i64 a, .int .i64 b, .int .i64 c, .int .i64 d] → Box (v.setCell ⟨w.heap.size, i, none⟩ u) w2.heap.size 35 #[.int .i64 a, .int .i64 b, .int .i64 c, .int .i64 d]) := fun v i u hb => hb.other (by simp; omega) _
  have XR : Hid (∀ (v : World) (i : Nat) (u : Value), Box v w2.heap.size 35 #[.int .i64 a, .int .i64 b, .int .i64 c, .int .i64 d] → Box (v.setCell ⟨w.heap.size + 1, i, none⟩ u) w2.heap.size 35 #[.int .i64 a, .int .i64 b, .int .i64 c, .int .i64 d]) := fun v i u hb => hb.other (by simp; omega) _
  clear z2 z3 z5 y2 C2 h0 x0 hc1 x1 hc2 hb2 b2 b3 hW h hG
  go_region_held3 (fun x => x.cell? ⟨w2.heap.size, 0, none⟩ = some (.int .i64 a) ∧ x.cell? ⟨w2.heap.size, 1, none⟩ = some (.int .i64 b) ∧ x.cell? ⟨w2.heap.size, 2, none⟩ = some (.int .i64 c) ∧ x.cell? ⟨w2.heap.size, 3, none⟩ = some (.int .i64 d))
    (first
      | (with_reducible exact HQ.out _ Z5.out)
      | (with_reducible exact HQ.out _ Z5.out.drew)
      | (with_reducible exact HQ.out _ bg)
      | (with_reducible exact HQ.out _ (XS.out _ _ _ (XS.out _ _ _ (XS.out _ _ _ (XS.out _ _ _ bg)))))
      | (with_reducible exact HQ.out _ (XR.out _ _ _ (XR.out _ _ _ (XR.out _ _ _ (XR.out _ _ _ bg)))))
      | (with_reducible exact HQ.out _ (XR.out _ _ _ (XR.out _ _ _ (XR.out _ _ _ (XR.out _ _ _ (XS.out _ _ _ (XS.out _ _ _ (XS.out _ _ _ (XS.out _ _ _ bg)))))))))
      | (with_reducible exact HQ.out _ (XS.out _ _ _ (XS.out _ _ _ (XS.out _ _ _ (XS.out _ _ _ (XR.out _ _ _ (XR.out _ _ _ (XR.out _ _ _ (XR.out _ _ _ bg))))))))))
    (first | (go_at_call 35; refine (cmd_any _ g a b c d HG.out _ D2.out).mono ?_; rintro e u1 ⟨k, p, q, r, hk, rfl, c1, v1⟩; have bg := But.box v1 Z5.out.drew (by omega); have e2 := But.box v1 Z2.out (by omega); have e3 := But.box v1 Z3.out (by omega); have f2 := e2.free; have f3 := e3.free; obtain ⟨i0, i1, i2, i3⟩ := e2.cell4; obtain ⟨j0, j1, j2, j3⟩ := e3.cell4; have E2 := Lib.hid e2; have E3 := Lib.hid e3; have V1 := Lib.hid v1; have l1 := v1.size; (try simp at l1); clear e2 e3 v1 c1))
  all_goals
    go_wp2
    refine bodyPost_ret (v := .tuple #[.agg #[.int .i64 a, .int .i64 b, .int .i64 c, .int .i64 d], .agg #[.int .i64 k, .int .i64 p, .int .i64 q, .int .i64 r]]) (results_two Tryd.results13 _ _ w.heap.size (w.heap.size + 1) 35 25 _ _ (0, 0) (0, 0) _ _ rfl ?b1 rfl ?b2 Tryd.underlying35 rfl info_geo Tryd.underlying25 rfl info_cmd) rfl ⟨a, b, c, d, k, p, q, r, hk.form HG.out, hk.cmd HG.out, rfl, ?b3⟩
    · exact ((((E2.out.put4 _ _ _ _).other (by simp) _).other (by simp) _).other (by simp) _).other (by simp) _
    · exact Box.put4 ((((E3.out.other (by simp) _).other (by simp) _).other (by simp) _).other (by simp) _) _ _ _ _
    · exact (((((((Ext.setCell (But.toExt Y2.out.drew (by omega) V1.out) (by simp) _).setCell (by simp) _).setCell (by simp) _).setCell (by simp) _).setCell (by simp) _).setCell (by simp) _).setCell (by simp) _).setCell (by simp) _

end Go.Proofs.YtamlfjkkpgmjiaaDoor
