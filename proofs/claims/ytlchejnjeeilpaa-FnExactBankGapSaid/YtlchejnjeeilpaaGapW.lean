/- Contracts of BankGap of both sides; the walk of FnExactBankGap. -/
import Derived.Test.YtlchejnjeeilpaaTimW
namespace Go.Proofs.Ytlchejnjeeilpaa
open Go.RowKit

/-- the distance of two kinds at a bank -/
def gapF (t : Nat → Int) (a b : Int) : Int :=
  if a = 1 then (if b = 2 ∨ b = 3 then t 0 else if b = 4 then t 2 else if b = 1 ∨ b = 5 then t 2 + t 1 else 0)
  else if a = 2 then (if b = 4 then t 8 else if b = 1 ∨ b = 5 then t 8 + t 1 else 0)
  else if a = 3 then (if b = 4 then t 9 else if b = 1 ∨ b = 5 then t 9 + t 1 else 0)
  else if a = 4 then (if b = 1 ∨ b = 5 then t 1 else 0)
  else if a = 5 then (if b = 1 ∨ b = 5 then t 13 else 0)
  else 0
def gapB (t : Nat → Int) (a b : Int) : Int := if timB t then gapF t a b else 0
/-- no kind of a bank's commands -/
structure NoKind (a : Int) : Prop where
  h1 : (a == 1) = false
  h2 : (a == 2) = false
  h3 : (a == 3) = false
  h4 : (a == 4) = false
  h5 : (a == 5) = false
theorem kinds (a : Int) : a = 1 ∨ a = 2 ∨ a = 3 ∨ a = 4 ∨ a = 5 ∨ NoKind a := by
  by_cases h1 : a = 1
  · exact .inl h1
  by_cases h2 : a = 2
  · exact .inr (.inl h2)
  by_cases h3 : a = 3
  · exact .inr (.inr (.inl h3))
  by_cases h4 : a = 4
  · exact .inr (.inr (.inr (.inl h4)))
  by_cases h5 : a = 5
  · exact .inr (.inr (.inr (.inr (.inl h5))))
  exact .inr (.inr (.inr (.inr (.inr ⟨by simpa using h1, by simpa using h2, by simpa using h3, by simpa using h4, by simpa using h5⟩))))
theorem NoKind.ne {a : Int} (h : NoKind a) : a ≠ 1 ∧ a ≠ 2 ∧ a ≠ 3 ∧ a ≠ 4 ∧ a ≠ 5 := by
  obtain ⟨h1, h2, h3, h4, h5⟩ := h
  simp only [beq_eq_false_iff_ne] at *
  exact ⟨h1, h2, h3, h4, h5⟩

set_option maxHeartbeats 8000000 in
theorem impl_gap (t : Nat → Int) (a b : Int) (hall : ∀ k, k < 17 → 1 ≤ t k ∧ t k ≤ 64) (w : World) : Calls Try.prog 54 #[.agg (timC t), .int .i64 a, .int .i64 b] w fun e w' => e = .returned (.int .i64 (gapF t a b)) ∧ Ext w w' := by
  have b0 := Box.new w 25 (timC t)
  have c0 := (b0.cell 0).trans (timC_at t 0 (by omega))
  have c1 := (b0.cell 1).trans (timC_at t 1 (by omega))
  have c2 := (b0.cell 2).trans (timC_at t 2 (by omega))
  have c8 := (b0.cell 8).trans (timC_at t 8 (by omega))
  have c9 := (b0.cell 9).trans (timC_at t 9 (by omega))
  have c13 := (b0.cell 13).trans (timC_at t 13 (by omega))
  obtain ⟨l0, u0⟩ := hall 0 (by omega)
  obtain ⟨l1, u1⟩ := hall 1 (by omega)
  obtain ⟨l2, u2⟩ := hall 2 (by omega)
  obtain ⟨l8, u8⟩ := hall 8 (by omega)
  obtain ⟨l9, u9⟩ := hall 9 (by omega)
  obtain ⟨l13, u13⟩ := hall 13 (by omega)
  clear b0 hall
  rcases kinds a with rfl | rfl | rfl | rfl | rfl | ha
  all_goals try (obtain ⟨ha1, ha2, ha3, ha4, ha5⟩ := id ha)
  all_goals try (have HA := Lib.hid ha; clear ha)
  all_goals rcases kinds b with rfl | rfl | rfl | rfl | rfl | hb
  all_goals try (obtain ⟨hb1, hb2, hb3, hb4, hb5⟩ := id hb)
  all_goals try (have HB := Lib.hid hb; clear hb)
  all_goals
    go_enter Try.func54, Try.ntmps54
    go_wp2
    go_ret
    refine ⟨ret_int ?_, (Ext.refl w).alloc _⟩
    first | rfl | (simp [gapF]; done) | (simp [gapF, HA.out.ne]; done) | (simp [gapF, HB.out.ne]; done) | (simp [gapF, HA.out.ne, HB.out.ne]; done)

theorem impl_bankGap (t : Nat → Int) (a b : Int) (w : World) : Calls Try.prog 22 #[.agg (timC t), .int .i64 a, .int .i64 b] w fun e w' => e = .returned (.int .i64 (gapB t a b)) ∧ Ext w w' := by
  have b0 := Box.new w 25 (timC t)
  cases hT : timB t with
  | true =>
    rw [gapB, if_pos hT]
    go_enter Try.func22, Try.ntmps22
    go_wp2_with (refine wpList_load_row rfl 25 (.tmp 3) rfl w.heap.size (by rfl) 25 (timC t) (0, 0) _ b0 Try.underlying25 rfl info_timing ?_)
    refine (impl_timingOk _ _).mono ?_
    rintro e w1 ⟨rfl, x1⟩
    have b1 := b0.ext x1
    go_wp2_with (refine wpList_load_row rfl 25 (.tmp 3) rfl w.heap.size (by rfl) 25 (timC t) (0, 0) _ b1 Try.underlying25 rfl info_timing ?_)
    refine (impl_gap t a b (timB_all hT) _).mono ?_
    rintro e w2 ⟨rfl, x2⟩
    go_wp2
    go_ret
    exact ⟨rfl, (((Ext.refl w).alloc _).trans x1).trans x2⟩
  | false =>
    rw [gapB, if_neg (by simp [hT])]
    go_enter Try.func22, Try.ntmps22
    go_wp2_with (refine wpList_load_row rfl 25 (.tmp 3) rfl w.heap.size (by rfl) 25 (timC t) (0, 0) _ b0 Try.underlying25 rfl info_timing ?_)
    refine (impl_timingOk _ _).mono ?_
    rintro e w1 ⟨rfl, x1⟩
    go_wp2
    go_ret
    exact ⟨rfl, ((Ext.refl w).alloc _).trans x1⟩

theorem spec_bankGap_no (t : Nat → Int) (a b : Int) (hT : timB t = false) (w : World) : Calls Try.prog 21 #[.agg (timC t), .int .i64 a, .int .i64 b] w fun e w' => e = .returned (.int .i64 0) ∧ Ext w w' := by
  have b0 := Box.new w 25 (timC t)
  go_enter Try.func21, Try.ntmps21
  go_wp2_with (refine wpList_load_row rfl 25 (.tmp 3) rfl w.heap.size (by rfl) 25 (timC t) (0, 0) _ b0 Try.underlying25 rfl info_timing ?_)
  refine (spec_timingOk _ _).mono ?_
  rintro e w1 ⟨rfl, x1⟩
  go_wp2
  go_ret
  exact ⟨rfl, ((Ext.refl w).alloc _).trans x1⟩

set_option maxHeartbeats 8000000 in
theorem spec_bankGap_yes (t : Nat → Int) (a b : Int) (hT : timB t = true) (w : World) : Calls Try.prog 21 #[.agg (timC t), .int .i64 a, .int .i64 b] w fun e w' => e = .returned (.int .i64 (gapF t a b)) ∧ Ext w w' := by
  have hall := timB_all hT
  have b0 := Box.new w 25 (timC t)
  obtain ⟨l0, u0⟩ := hall 0 (by omega)
  obtain ⟨l1, u1⟩ := hall 1 (by omega)
  obtain ⟨l2, u2⟩ := hall 2 (by omega)
  obtain ⟨l8, u8⟩ := hall 8 (by omega)
  obtain ⟨l9, u9⟩ := hall 9 (by omega)
  obtain ⟨l13, u13⟩ := hall 13 (by omega)
  clear hall
  go_enter Try.func21, Try.ntmps21
  go_wp2_with (refine wpList_load_row rfl 25 (.tmp 3) rfl w.heap.size (by rfl) 25 (timC t) (0, 0) _ b0 Try.underlying25 rfl info_timing ?_)
  refine (spec_timingOk _ _).mono ?_
  rintro e w1 ⟨rfl, x1⟩
  have b1 := b0.ext x1
  have x2 := ((Ext.refl w).alloc _).trans x1
  have c0 := (b1.cell 0).trans (timC_at t 0 (by omega))
  have c1 := (b1.cell 1).trans (timC_at t 1 (by omega))
  have c2 := (b1.cell 2).trans (timC_at t 2 (by omega))
  have c8 := (b1.cell 8).trans (timC_at t 8 (by omega))
  have c9 := (b1.cell 9).trans (timC_at t 9 (by omega))
  have c13 := (b1.cell 13).trans (timC_at t 13 (by omega))
  clear b0 b1 x1
  rcases kinds a with rfl | rfl | rfl | rfl | rfl | ha
  all_goals try (obtain ⟨ha1, ha2, ha3, ha4, ha5⟩ := id ha)
  all_goals try (have HA := Lib.hid ha; clear ha)
  all_goals rcases kinds b with rfl | rfl | rfl | rfl | rfl | hb
  all_goals try (obtain ⟨hb1, hb2, hb3, hb4, hb5⟩ := id hb)
  all_goals try (have HB := Lib.hid hb; clear hb)
  all_goals
    go_wp2
    go_ret
    refine ⟨ret_int ?_, x2⟩
    first | rfl | (simp [gapF]; done) | (simp [gapF, HA.out.ne]; done) | (simp [gapF, HB.out.ne]; done) | (simp [gapF, HA.out.ne, HB.out.ne]; done)

theorem spec_bankGap (t : Nat → Int) (a b : Int) (w : World) : Calls Try.prog 21 #[.agg (timC t), .int .i64 a, .int .i64 b] w fun e w' => e = .returned (.int .i64 (gapB t a b)) ∧ Ext w w' := by
  cases hT : timB t with
  | true => rw [gapB, if_pos hT]; exact spec_bankGap_yes t a b hT w
  | false => rw [gapB, if_neg (by simp [hT])]; exact spec_bankGap_no t a b hT w

theorem law_FnExactBankGap (w : World) (z0 : List Int) (l0 : z0.length = 17) (_ : ∀ z ∈ z0, (Lit.int .i64 z).wf = true) (a : Int) (_ : (Lit.int .i64 a).wf = true) (b : Int) (_ : (Lit.int .i64 b).wf = true) : Calls Try.prog 5 #[.agg (intCells z0), .int .i64 a, .int .i64 b] w fun e w' => e = .returned (.bool true) ∧ Ext w w' := by
  obtain ⟨t, ht⟩ := tim_open z0 l0
  rw [ht]
  clear ht
  have b0 := Box.new w 23 (timC t)
  go_enter Try.func5, Try.ntmps5
  go_wp2_with (refine wpList_load_row rfl 23 (.tmp 3) rfl w.heap.size (by rfl) 23 (timC t) (0, 0) _ b0 Try.underlying23 rfl info_ltiming ?_)
  refine (to_timing _ _).mono ?_
  rintro e w1 ⟨rfl, x1⟩
  go_wp2_with fail
  refine (spec_bankGap _ _ _ _).mono ?_
  rintro e w2 ⟨rfl, x2⟩
  have b2 := (b0.ext x1).ext x2
  go_wp2_with (refine wpList_load_row rfl 23 (.tmp 3) rfl w.heap.size (by rfl) 23 (timC t) (0, 0) _ b2 Try.underlying23 rfl info_ltiming ?_)
  refine (to_timing _ _).mono ?_
  rintro e w3 ⟨rfl, x3⟩
  go_wp2_with fail
  refine (impl_bankGap _ _ _ _).mono ?_
  rintro e w4 ⟨rfl, x4⟩
  go_wp2
  go_ret
  exact ⟨rfl, (((((Ext.refl w).alloc _).trans x1).trans x2).trans x3).trans x4⟩

end Go.Proofs.Ytlchejnjeeilpaa
