/- Contracts of TimingOk, FastTiming and BankGap of both sides; the laws FnExactTimingOk, FnExactFastTiming, FnExactBankGap. -/
import Derived.Test.YtlchejnjeeilpaaTimC
namespace Go.Proofs.Ytlchejnjeeilpaa
open Go.RowKit

/-- the first k numbers of a timing lie in 1 .. 64 -/
def allT (t : Nat → Int) : Nat → Bool
  | 0 => true
  | k + 1 => allT t k && btw (t k) 1 64
theorem allT_no {t : Nat → Int} {k : Nat} (h : allT t k = false) : ∀ m, k ≤ m → allT t m = false := by
  intro m hm
  induction m with
  | zero => obtain rfl : k = 0 := by omega
            exact h
  | succ m ih =>
    rcases Nat.lt_or_ge m k with h1 | h1
    · obtain rfl : k = m + 1 := by omega
      exact h
    · rw [allT, ih h1]; rfl
theorem allT_at {t : Nat → Int} {m : Nat} (h : allT t m = true) : ∀ k, k < m → 1 ≤ t k ∧ t k ≤ 64 := by
  intro k hk
  induction m with
  | zero => omega
  | succ m ih =>
    rw [allT, Bool.and_eq_true] at h
    rcases Nat.lt_or_ge k m with h1 | h1
    · exact ih h.1 h1
    · obtain rfl : k = m := by omega
      exact btw_iff.1 h.2
def ordT (t : Nat → Int) : Bool := decide (t 0 ≤ t 2) && (decide (t 3 ≤ t 4) && (decide (t 6 ≤ t 7) && decide (t 10 ≤ t 11)))
def timB (t : Nat → Int) : Bool := allT t 17 && ordT t
theorem timB_all {t : Nat → Int} (h : timB t = true) : ∀ k, k < 17 → 1 ≤ t k ∧ t k ≤ 64 := allT_at (Bool.and_eq_true_iff.1 h).1
theorem tim_open (z : List Int) (h : z.length = 17) : ∃ t : Nat → Int, Value.agg (intCells z) = .agg (timC t) := by
  match z, h with
  | [a0, a1, a2, a3, a4, a5, a6, a7, a8, a9, a10, a11, a12, a13, a14, a15, a16], _ => exact ⟨fun i => [a0, a1, a2, a3, a4, a5, a6, a7, a8, a9, a10, a11, a12, a13, a14, a15, a16].getD i 0, rfl⟩

theorem impl_timingOk (t : Nat → Int) (w : World) : Calls Try.prog 17 #[.agg (timC t)] w fun e w' => e = .returned (.bool (timB t)) ∧ Ext w w' := by
  have hc : ∀ k, k < 17 → ((w.alloc (.cells #[.int .i64 (t 0), .int .i64 (t 1), .int .i64 (t 2), .int .i64 (t 3), .int .i64 (t 4), .int .i64 (t 5), .int .i64 (t 6), .int .i64 (t 7), .int .i64 (t 8), .int .i64 (t 9), .int .i64 (t 10), .int .i64 (t 11), .int .i64 (t 12), .int .i64 (t 13), .int .i64 (t 14), .int .i64 (t 15), .int .i64 (t 16)] 25)).alloc (.cells #[.int .i64 (t 0), .int .i64 (t 1), .int .i64 (t 2), .int .i64 (t 3), .int .i64 (t 4), .int .i64 (t 5), .int .i64 (t 6), .int .i64 (t 7), .int .i64 (t 8), .int .i64 (t 9), .int .i64 (t 10), .int .i64 (t 11), .int .i64 (t 12), .int .i64 (t 13), .int .i64 (t 14), .int .i64 (t 15), .int .i64 (t 16)] 3)).cell? ⟨w.heap.size + 1, k, none⟩ = some (.int .i64 (t k)) := fun k hk =>
    ((Box.new_at (w.alloc (.cells (timC t) 25)) 3 (timC t) (w.heap.size + 1) (by simp)).cell k).trans (timC_at t k hk)
  unfold timC
  go_enter Try.func17, Try.ntmps17
  go_wp2
  go_loop [41] (fun i => ∃ k : Nat, k ≤ 17 ∧ i = .int .i64 k ∧ allT t k = true) (fun i => 17 - (intOf i).toNat)
  case atStart => exact ⟨0, by omega, rfl, rfl⟩
  case round =>
    obtain ⟨k, hk, rfl, hall⟩ := hrel
    have HA := Lib.hid hall
    clear hall
    by_cases hlt : k < 17
    · have hck := hc k hlt
      have hltI : (k : Int) < 17 := by omega
      have HC := Lib.hid hc
      clear hc
      cases hb : btw (t k) 1 64 with
      | true =>
        have HB := Lib.hid hb
        go_wp2_with (go_at_call 53; refine (impl_between _ _ _ _).mono ?_; rintro e w' ⟨rfl, rfl⟩)
        go_round
        case rel => exact ⟨k + 1, by omega, by go_num, by rw [allT, HA.out, HB.out]; rfl⟩
        case measure => simp [intOf]; omega
      | false =>
        have hF : timB t = false := by rw [timB, allT_no (k := k + 1) (by rw [allT, hb, Bool.and_false]) 17 (by omega)]; rfl
        have HF := Lib.hid hF
        clear hF
        go_wp2_with (go_at_call 53; refine (impl_between _ _ _ _).mono ?_; rintro e w' ⟨rfl, rfl⟩)
        go_ret
        exact ⟨by rw [HF.out]; rfl, ((Ext.refl _).alloc _).alloc _⟩
    · obtain rfl : k = 17 := by omega
      clear hc
      go_wp2
      all_goals (go_ret; exact ⟨by rw [timB, HA.out, Bool.true_and, ordT]; first | (simp [*]; done) | (simp [*]; intros; omega), ((Ext.refl _).alloc _).alloc _⟩)

/-- a list of seventeen numbers in a new block -/
def NewList (t : Nat → Int) (w : World) : Ending → World → Prop := fun e w' => ∃ g, e = .returned (.slice (some ⟨g, 0, none⟩) 17 17) ∧ Box w' g 3 (timC t) ∧ Ext w w'

theorem spec_list (t : Nat → Int) (w : World) : Calls Try.prog 51 #[.agg (timC t)] w (NewList t w) := by
  unfold timC
  go_enter Try.func51, Try.ntmps51
  go_wp2
  go_ret
  exact ⟨w.heap.size + 1, rfl, Box.new_at _ _ (timC t) (w.heap.size + 1) (by simp), ((Ext.refl _).alloc _).alloc _⟩

theorem spec_timingOk (t : Nat → Int) (w : World) : Calls Try.prog 15 #[.agg (timC t)] w fun e w' => e = .returned (.bool (timB t)) ∧ Ext w w' := by
  have b0 := Box.new w 25 (timC t)
  go_enter Try.func15, Try.ntmps15
  go_wp2_with (refine wpList_load_row rfl 25 (.tmp 1) rfl w.heap.size (by rfl) 25 (timC t) (0, 0) _ b0 Try.underlying25 rfl info_timing ?_)
  refine (spec_list _ _).mono ?_
  rintro e w1 ⟨g, rfl, bg, x1⟩
  have b1 := b0.ext x1
  have x2 := ((Ext.refl w).alloc _).trans x1
  have c0 := (b1.cell 0).trans (timC_at t 0 (by omega))
  have c2 := (b1.cell 2).trans (timC_at t 2 (by omega))
  have c3 := (b1.cell 3).trans (timC_at t 3 (by omega))
  have c4 := (b1.cell 4).trans (timC_at t 4 (by omega))
  have c6 := (b1.cell 6).trans (timC_at t 6 (by omega))
  have c7 := (b1.cell 7).trans (timC_at t 7 (by omega))
  have c10 := (b1.cell 10).trans (timC_at t 10 (by omega))
  have c11 := (b1.cell 11).trans (timC_at t 11 (by omega))
  have hc : ∀ k, k < 17 → w1.cell? ⟨g, k, none⟩ = some (.int .i64 (t k)) := fun k hk => (bg.cell k).trans (timC_at t k hk)
  clear b0 x1
  go_wp2
  go_loop [4] (fun i => ∃ k : Nat, k ≤ 17 ∧ i = .int .i64 k ∧ allT t k = true) (fun i => 17 - (intOf i).toNat)
  case atStart => exact ⟨0, by omega, rfl, rfl⟩
  case round =>
    obtain ⟨k, hk, rfl, hall⟩ := hrel
    have HA := Lib.hid hall
    clear hall
    by_cases hlt : k < 17
    · have hck := hc k hlt
      have hltI : (k : Int) < 17 := by omega
      have HC := Lib.hid hc
      clear hc
      cases hb : btw (t k) 1 64 with
      | true =>
        have HB := Lib.hid hb
        go_wp2_with (go_at_call 52; refine (spec_in _ _ _ _).mono ?_; rintro e w' ⟨rfl, rfl⟩)
        go_round
        case rel => exact ⟨k + 1, by omega, by go_num, by rw [allT, HA.out, HB.out]; rfl⟩
        case measure => simp [intOf]; omega
      | false =>
        have hF : timB t = false := by rw [timB, allT_no (k := k + 1) (by rw [allT, hb, Bool.and_false]) 17 (by omega)]; rfl
        have HF := Lib.hid hF
        clear hF
        go_wp2_with (go_at_call 52; refine (spec_in _ _ _ _).mono ?_; rintro e w' ⟨rfl, rfl⟩)
        go_ret
        exact ⟨by rw [HF.out]; rfl, x2⟩
    · obtain rfl : k = 17 := by omega
      clear hc
      go_wp2
      all_goals (go_ret; exact ⟨by rw [timB, HA.out, Bool.true_and, ordT]; first | (simp [*]; done) | (simp [*]; intros; omega), x2⟩)

theorem info_ltiming : (Try.prog.info? 23).map (·.size) = some 17 := by kernel_rfl

theorem law_FnExactTimingOk (w : World) (z0 : List Int) (l0 : z0.length = 17) (_ : ∀ z ∈ z0, (Lit.int .i64 z).wf = true) : Calls Try.prog 3 #[.agg (intCells z0)] w fun e w' => e = .returned (.bool true) ∧ Ext w w' := by
  obtain ⟨t, ht⟩ := tim_open z0 l0
  rw [ht]
  clear ht
  have b0 := Box.new w 23 (timC t)
  go_enter Try.func3, Try.ntmps3
  go_wp2_with (refine wpList_load_row rfl 23 (.tmp 1) rfl w.heap.size (by rfl) 23 (timC t) (0, 0) _ b0 Try.underlying23 rfl info_ltiming ?_)
  refine (to_timing _ _).mono ?_
  rintro e w1 ⟨rfl, x1⟩
  go_wp2_with fail
  refine (spec_timingOk _ _).mono ?_
  rintro e w2 ⟨rfl, x2⟩
  have b2 := (b0.ext x1).ext x2
  go_wp2_with (refine wpList_load_row rfl 23 (.tmp 1) rfl w.heap.size (by rfl) 23 (timC t) (0, 0) _ b2 Try.underlying23 rfl info_ltiming ?_)
  refine (to_timing _ _).mono ?_
  rintro e w3 ⟨rfl, x3⟩
  go_wp2_with fail
  refine (impl_timingOk _ _).mono ?_
  rintro e w4 ⟨rfl, x4⟩
  go_wp2
  go_ret
  exact ⟨rfl, (((((Ext.refl w).alloc _).trans x1).trans x2).trans x3).trans x4⟩

end Go.Proofs.Ytlchejnjeeilpaa
