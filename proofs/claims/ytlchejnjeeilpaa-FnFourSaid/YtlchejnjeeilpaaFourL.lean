/- The walk of FnFour. -/
import Derived.Test.YtlchejnjeeilpaaFastL
import Derived.Test.YtlchejnjeeilpaaDrawP
import Derived.BigRegion
namespace Go.Proofs.Ytlchejnjeeilpaa
open Go.RowKit

theorem timB_fast : timB fastT = true := by decide
theorem later_at {W : World} {g i : Nat} {v : Value} (hl : g < W.heap.size) (h : W.cell? ⟨g, i, none⟩ = some v) (x : Later W) : x.w.cell? ⟨g, i, none⟩ = some v := (x.ext.cell hl i).trans h

theorem faw_four (t : Nat → Int) (hT : timB t = true) (h5 : t 5 = 10) (P v : Int) (h0 : 0 ≤ P) (h1 : P < 10000) (h2 : 0 ≤ v) (h3 : v ≤ 5) (n : Nat) (hn : n = 4 ∨ n = 5) : fawB t [P, P + 2, P + 4, P + 6, P + 7 + v] n = (decide (n = 4) || decide (3 ≤ v)) := by
  have e0 : fawAt t [P, P + 2, P + 4, P + 6, P + 7 + v] 0 = true := fawAt_few (btw_true (by simp; omega) (by simp; omega)) (by omega)
  have e1 : fawAt t [P, P + 2, P + 4, P + 6, P + 7 + v] 1 = true := fawAt_few (btw_true (by simp; omega) (by simp; omega)) (by omega)
  have e2 : fawAt t [P, P + 2, P + 4, P + 6, P + 7 + v] 2 = true := fawAt_few (btw_true (by simp; omega) (by simp; omega)) (by omega)
  have e3 : fawAt t [P, P + 2, P + 4, P + 6, P + 7 + v] 3 = true := fawAt_few (btw_true (by simp; omega) (by simp; omega)) (by omega)
  have e4 : fawAt t [P, P + 2, P + 4, P + 6, P + 7 + v] 4 = decide (3 ≤ v) := by
    rw [fawAt_four (j := 0) (btw_true (by simp; omega) (by simp; omega)) rfl, h5]
    by_cases h : 3 ≤ v
    · simp [h]; omega
    · simp [h]; omega
  rcases hn with rfl | rfl
  · simp [fawB, fawU, hT, e0, e1, e2, e3]
  · simp [fawB, fawU, hT, e0, e1, e2, e3, e4]
theorem faw_cut (t : Nat → Int) (P v : Int) : fawB t [P, P + 2, P + 4, P + 6] 4 = fawB t [P, P + 2, P + 4, P + 6, P + 7 + v] 4 := by
  simp [fawB, fawU, fawAt]

theorem quiet_load_row {P : Program} {ops : Array Oper} {C : World → Prop} {Q : Act → Prop} {a : Act} {o : Oper} {rest : List Oper} (hwant : Region.wanted o (yielded ops a.tmps) = true) (ty : TypeId) (x : Operand) (ho : o.op = .load ty x)
    (g : Nat) (hx : a.eval x = .pointer (some ⟨g, 0, none⟩)) (t : TypeId) (cs : Array Value) (fr : Nat × Nat) (d : TypeDesc) (hg : ∀ w, C w → w.heap[g]? = some (.cells cs t fr))
    (hu : P.underlying ty = some d) (hd : (match d with | .struct _ | .array _ _ => true | _ => false) = true) (hi : (P.info? ty).map (·.size) = some cs.size)
    (h : wpQuiet P ops C Q rest (a.put o.dst (.agg cs))) : wpQuiet P ops C Q (o :: rest) a := by
  unfold wpQuiet
  rw [if_pos hwant]
  refine ⟨.agg cs, fun w hw => ?_, h⟩
  unfold Oper.quietAt execOp
  simp only [ho, hx, Instr.loadAt, Instr.sureAddr, Sem.run_bind, Sem.run_pure, Result.andThen_ok, run_loadVar_row w g t ty cs fr d (hg w hw) hu hd hi]
  exact ⟨rfl, rfl⟩

theorem reads_five {W : World} {g : Nat} {ty : TypeId} {x0 x1 x2 x3 x4 : Int} (b : Box W g ty #[.int .i64 x0, .int .i64 x1, .int .i64 x2, .int .i64 x3, .int .i64 x4]) : Reads W W.heap.size (some ⟨g, 0, none⟩) 5 [x0, x1, x2, x3, x4] := by
  refine ⟨rfl, fun _ => ⟨g, 0, rfl, b.lt, fun k hk => ?_⟩⟩
  rw [Nat.zero_add, b.cell k]
  match k, hk with
  | 0, _ => rfl
  | 1, _ => rfl
  | 2, _ => rfl
  | 3, _ => rfl
  | 4, _ => rfl
theorem reads_four {W : World} {g : Nat} {ty : TypeId} {x0 x1 x2 x3 x4 : Int} (b : Box W g ty #[.int .i64 x0, .int .i64 x1, .int .i64 x2, .int .i64 x3, .int .i64 x4]) : Reads W W.heap.size (some ⟨g, 0, none⟩) 4 [x0, x1, x2, x3] := by
  refine ⟨rfl, fun _ => ⟨g, 0, rfl, b.lt, fun k hk => ?_⟩⟩
  rw [Nat.zero_add, b.cell k]
  match k, hk with
  | 0, _ => rfl
  | 1, _ => rfl
  | 2, _ => rfl
  | 3, _ => rfl

set_option maxHeartbeats 4000000 in
theorem law_FnFour (w : World) (a0 : Option Addr) (n0 c0 : Nat) (z0 : List Int) (r0 : RowIs .u8 w w.heap.size a0 n0 z0) (m0 : n0 ≤ maxLen) : Calls Try.prog 7 #[.slice a0 n0 c0] w fun e w' => e = .returned (.bool true) ∧ Ext w w' := by
  have m1 := m0
  unfold maxLen at m1
  by_cases hbig : (1048576 : Int) < (n0 : Int)
  · go_enter Try.func7, Try.ntmps7
    go_wp2
    go_ret
    exact ⟨rfl, (by repeat (first | exact Ext.refl _ | assumption | refine Ext.alloc ?_ _ | refine Ext.drew ?_ | refine Ext.drewN ?_ _ | refine Ext.setCell ?_ (by first | exact Nat.le_refl _ | (simp; done) | (simp; omega) | omega) _ | (apply Ext.trans; rotate_left; assumption)))⟩
  · go_enter Try.func7, Try.ntmps7
    go_wp2_with (first | (go_at_call 27; go_in))
    refine (spec_fast _).mono ?_
    rintro e w1 ⟨rfl, x1⟩
    obtain ⟨t, ht, hT, h5⟩ : ∃ t, fastT = t ∧ timB t = true ∧ t 5 = 10 := ⟨fastT, rfl, timB_fast, rfl⟩
    rw [ht]
    have hs1 := timing_stored w1 t
    have bA := timing_var w1 t
    have xA := timing_ext w1 t
    unfold outC0 at hs1 bA xA
    go_wp2_with fail
    clear hs1
    refine (draw_places a0 n0 c0 z0 _ (((x1.trans xA).row r0 (Nat.le_refl _)).more (x1.trans xA).le) m0).mono ?_
    rintro e w2 ⟨g, cc, ps, hl, hr, rfl, hc, hg1, hg2, y3⟩
    have p0 := hc 0 (by omega)
    have p1 := hc 1 (by omega)
    have q0 : 0 ≤ ps.getD 0 0 ∧ ps.getD 0 0 < 10000 := hr _ (by rw [List.getD_eq_getElem?_getD, List.getElem?_eq_getElem (by omega)]; exact List.getElem_mem _)
    have q1 : 0 ≤ ps.getD 1 0 ∧ ps.getD 1 0 < 10000 := hr _ (by rw [List.getD_eq_getElem?_getD, List.getElem?_eq_getElem (by omega)]; exact List.getElem_mem _)
    generalize ps.getD 0 0 = P at *
    generalize ps.getD 1 0 = Q at *
    clear hc hr hl
    have T1 : Q.tmod 6 = Q % 6 := Int.tmod_eq_emod_of_nonneg q1.1
    have v0 : 0 ≤ Q % 6 ∧ Q % 6 ≤ 5 := by omega
    generalize Q % 6 = v at *
    obtain ⟨P0, P1⟩ := q0
    obtain ⟨v1, v2⟩ := v0
    have W1 : IntKind.i64.wrap (P + 2) = P + 2 := by rw [IntKind.wrap_i64]; omega
    have W2 : IntKind.i64.wrap (P + 4) = P + 4 := by rw [IntKind.wrap_i64]; omega
    have W3 : IntKind.i64.wrap (P + 6) = P + 6 := by rw [IntKind.wrap_i64]; omega
    have W4 : IntKind.i64.wrap (P + 7) = P + 7 := by rw [IntKind.wrap_i64]; omega
    have W5 : IntKind.i64.wrap (P + 7 + v) = P + 7 + v := by rw [IntKind.wrap_i64]; omega
    have B2 := Lib.hid (bA.ext y3)
    have Y3 := Lib.hid ((x1.trans xA).trans y3)
    clear bA x1 xA y3 ht q1 r0
    go_wp2
    go_region
    have bL := (Box.new w2 3 #[.int .i64 P, .int .i64 (P + 2), .int .i64 (P + 4), .int .i64 (P + 6), .int .i64 (P + 7 + v)]).drew
    have b3 := (B2.out.alloc (.cells #[.int .i64 P, .int .i64 (P + 2), .int .i64 (P + 4), .int .i64 (P + 6), .int .i64 (P + 7 + v)] 3)).drew
    have Z3 := Lib.hid (Y3.out.alloc (.cells #[.int .i64 P, .int .i64 (P + 2), .int .i64 (P + 4), .int .i64 (P + 6), .int .i64 (P + 7 + v)] 3)).drew
    clear W1 W2 W3 W4 W5 T1 p0 p1
    go_upto_region 6 with (fail)
    generalize (w2.alloc (.cells #[.int .i64 P, .int .i64 (P + 2), .int .i64 (P + 4), .int .i64 (P + 6), .int .i64 (P + 7 + v)] 3)).drew = U at bL b3 Z3 ⊢
    have BL := Lib.hid bL
    have B3 := Lib.hid b3
    clear bL
    go_wp2_with (refine wpList_load_row rfl 25 (.tmp 3) rfl w1.heap.size (by rfl) 25 (timC t) (0, 0) _ b3 Try.underlying25 rfl info_timing ?_)
    refine (impl_fawOk t _ 5 5 _ _ _ (reads_five BL.out) (Nat.le_refl _) (by unfold maxLen; omega)).mono ?_
    rintro e V ⟨rfl, xV⟩
    rw [faw_four t hT h5 P v P0 P1 v1 v2 5 (.inr rfl)]
    have F4 : fawB t [P, P + 2, P + 4, P + 6] 4 = true := by
      rw [faw_cut t P v, faw_four t hT h5 P v P0 P1 v1 v2 4 (.inl rfl)]
      rfl
    have R4 := Lib.hid (reads_four BL.out)
    have c3 := B3.out.ext xV
    have c5 := BL.out.ext xV
    have hgB : ∀ u, (∃ x : Later V, u = x.w) → u.heap[w1.heap.size]? = some (.cells (timC t) 25 (0, 0)) := fun u hu => by
      obtain ⟨x, rfl⟩ := hu
      exact c3.ext x.ext
    have gt5 : ∀ x : Later V, x.w.cell? ⟨w1.heap.size, 5, none⟩ = some (.int .i64 (t 5)) := fun x => ((c3.ext x.ext).cell 5).trans (timC_at t 5 (by omega))
    have gl0 : ∀ x : Later V, x.w.cell? ⟨w2.heap.size, 0, none⟩ = some (.int .i64 P) := fun x => (c5.ext x.ext).cell 0
    have gl4 : ∀ x : Later V, x.w.cell? ⟨w2.heap.size, 4, none⟩ = some (.int .i64 (P + 7 + v)) := fun x => (c5.ext x.ext).cell 4
    have D6 : IntKind.i64.wrap (P + 7 + v - P) = 7 + v := by rw [IntKind.wrap_i64]; omega
    have XV := Lib.hid xV
    rw [h5] at gt5
    clear c3 c5 b3
    by_cases h3 : 3 ≤ v
    · have hd : decide ((10 : Int) ≤ 7 + v) = true := by simp; omega
      have he : (decide (5 = 4) || decide (3 ≤ v)) = true := by simp [h3]
      rw [he]
      clear he
      go_wp2_with fail
      refine wp_region_later (by kernel_rfl) (by kernel_rfl) ?_
      repeat (first | (refine quiet_load_row rfl 25 (.tmp 3) rfl w1.heap.size rfl 25 (timC t) (0, 0) _ hgB Try.underlying25 rfl info_timing ?_; first | (simp only [Act.put, List.setIfInBounds_toArray, List.set_cons_succ, List.set_cons_zero]) | go_simp) | go_big_quiet_step ((first | (go_at_call 25; exact Later.ofB _ (impl_fawOk t _ 4 _ _ _ _ (R4.out.ext (XV.out.trans (Later.ext _)) (Nat.le_refl _)) (XV.out.trans (Later.ext _)).le (by unfold maxLen; omega)) F4))))
      refine wpQuiet_nil ?_
      rintro _ ⟨x, rfl⟩
      have xe := x.ext
      go_wp2
      go_ret
      exact ⟨rfl, (Z3.out.trans XV.out).trans xe⟩
    · have hd : decide ((10 : Int) ≤ 7 + v) = false := by simp; omega
      have he : (decide (5 = 4) || decide (3 ≤ v)) = false := by simp [h3]
      rw [he]
      clear he
      go_wp2_with fail
      refine wp_region_later (by kernel_rfl) (by kernel_rfl) ?_
      repeat (first | (refine quiet_load_row rfl 25 (.tmp 3) rfl w1.heap.size rfl 25 (timC t) (0, 0) _ hgB Try.underlying25 rfl info_timing ?_; first | (simp only [Act.put, List.setIfInBounds_toArray, List.set_cons_succ, List.set_cons_zero]) | go_simp) | go_big_quiet_step ((first | (go_at_call 25; exact Later.ofB _ (impl_fawOk t _ 4 _ _ _ _ (R4.out.ext (XV.out.trans (Later.ext _)) (Nat.le_refl _)) (XV.out.trans (Later.ext _)).le (by unfold maxLen; omega)) F4))))
      refine wpQuiet_nil ?_
      rintro _ ⟨x, rfl⟩
      have xe := x.ext
      go_wp2
      go_ret
      exact ⟨rfl, (Z3.out.trans XV.out).trans xe⟩

end Go.Proofs.Ytlchejnjeeilpaa
