/- Contracts of FawOk of both sides; the walk of FnExactFawOk. -/
import Derived.Test.YtlchejnjeeilpaaTimW
import Derived.Test.YtlchejnjeeilpaaIntW
namespace Go.Proofs.Ytlchejnjeeilpaa
open Go.RowKit

/-- time number k fits: it is a time, and four numbers before it lie at least FAW cycles back -/
def fawAt (t : Nat → Int) (zs : List Int) (k : Nat) : Bool := btw (zs.getD k 0) 0 1000000 && !(decide (4 ≤ k) && decide (zs.getD k 0 < zs.getD (k - 4) 0 + t 5))
def fawU (t : Nat → Int) (zs : List Int) : Nat → Bool
  | 0 => true
  | k + 1 => fawU t zs k && fawAt t zs k
theorem fawU_no {t : Nat → Int} {zs : List Int} {k : Nat} (h : fawU t zs k = false) : ∀ m, k ≤ m → fawU t zs m = false := by
  intro m hm
  induction m with
  | zero => obtain rfl : k = 0 := by omega
            exact h
  | succ m ih =>
    rcases Nat.lt_or_ge m k with h1 | h1
    · obtain rfl : k = m + 1 := by omega
      exact h
    · rw [fawU, ih h1]; rfl
theorem fawU_at {t : Nat → Int} {zs : List Int} {m : Nat} (h : fawU t zs m = true) : ∀ k, k < m → 0 ≤ zs.getD k 0 ∧ zs.getD k 0 ≤ 1000000 := by
  intro k hk
  induction m with
  | zero => omega
  | succ m ih =>
    rw [fawU, Bool.and_eq_true] at h
    rcases Nat.lt_or_ge k m with h1 | h1
    · exact ih h.1 h1
    · obtain rfl : k = m := by omega
      have := h.2
      rw [fawAt, Bool.and_eq_true] at this
      exact btw_iff.1 this.1
def fawB (t : Nat → Int) (zs : List Int) (n : Nat) : Bool := fawU t zs n && timB t
theorem fawB_no {t : Nat → Int} {zs : List Int} {k n : Nat} (hk : k < n) (h : fawAt t zs k = false) : fawB t zs n = false := by
  rw [fawB, fawU_no (k := k + 1) (by rw [fawU, h, Bool.and_false]) n (by omega)]; rfl
theorem fawAt_far {t : Nat → Int} {zs : List Int} {k : Nat} (h : btw (zs.getD k 0) 0 1000000 = false) : fawAt t zs k = false := by rw [fawAt, h]; rfl
theorem fawAt_few {t : Nat → Int} {zs : List Int} {k : Nat} (h : btw (zs.getD k 0) 0 1000000 = true) (h4 : k < 4) : fawAt t zs k = true := by
  rw [fawAt, h, decide_eq_false (by omega)]; rfl
theorem fawAt_four {t : Nat → Int} {zs : List Int} {k j : Nat} (h : btw (zs.getD k 0) 0 1000000 = true) (hj : j + 4 = k) : fawAt t zs k = !decide (zs.getD k 0 < zs.getD j 0 + t 5) := by
  rw [fawAt, h, decide_eq_true (show 4 ≤ k by omega), show k - 4 = j by omega]; rfl

set_option maxHeartbeats 2000000 in
theorem spec_fawOk (t : Nat → Int) (a : Option Addr) (n c B : Nat) (zs : List Int) (w : World) (hr : Reads w B a n zs) (hB : B ≤ w.heap.size) (hm : n ≤ maxLen) : Calls Try.prog 23 #[.agg (timC t), .slice a n c] w fun e w' => e = .returned (.bool (fawB t zs n)) ∧ Ext w w' := by
  unfold maxLen at hm
  have b0 := Box.new w 25 (timC t)
  have x0 := (Ext.refl w).alloc (.cells (timC t) 25)
  have hr0 := hr.ext x0 hB
  have hB0 : B ≤ (w.alloc (.cells (timC t) 25)).heap.size := Nat.le_trans hB x0.le
  go_enter Try.func23, Try.ntmps23
  go_wp2
  generalize w.alloc (.cells (timC t) 25) = W0 at b0 hr0 x0 hB0 ⊢
  clear hr hB
  go_loopw [5] (fun i wr => ∃ k : Nat, k ≤ n ∧ i = .int .i64 k ∧ Hid (fawU t zs k = true) ∧ Ext W0 wr) (fun i _ => n - (intOf i).toNat)
  case atStart => exact ⟨0, Nat.zero_le _, rfl, rfl, Ext.refl _⟩
  case round =>
    obtain ⟨k, hk, rfl, hall, xr⟩ := hrel
    have hrr := hr0.ext xr hB0
    have hBr := Nat.le_trans hB0 xr.le
    have q5 : ∀ x : Later wr, x.w.cell? ⟨w.heap.size, 5, none⟩ = some (.int .i64 (t 5)) := fun x => (((b0.ext xr).ext x.ext).cell 5).trans (timC_at t 5 (by omega))
    have HB := Lib.hid (b0.ext xr)
    clear b0 hr0
    by_cases hlt : k < n
    · obtain ⟨b1, o1, rfl, hb1, hc1⟩ := hrr.2 (by omega)
      have hltI : (k : Int) < n := by omega
      have p1 : ∀ x : Later wr, x.w.cell? ⟨b1, o1 + k, none⟩ = some (.int .i64 (zs.getD k 0)) := fun x => (x.ext.cell (by omega) _).trans (hc1 k hlt)
      cases hb : btw (zs.getD k 0) 0 1000000 with
      | false =>
        have HF := Lib.hid (fawB_no hlt (fawAt_far (t := t) hb))
        clear hc1 hrr
        generalize zs.getD k 0 = z at *
        go_wp2_with fail
        refine wp_region_later (by kernel_rfl) (by kernel_rfl) ?_
        repeat (go_big_quiet_step ((first | (go_at_call 52; first | exact Later.sameB _ (spec_in _ _ _ _) (by assumption) | exact Later.same _ (spec_in _ _ _ _)))))
        refine wpQuiet_nil ?_
        rintro _ ⟨x, rfl⟩
        have xe := x.ext
        go_wp2
        go_ret
        exact ⟨by rw [HF.out]; rfl, (x0.trans xr).trans xe⟩
      | true =>
        by_cases h4 : k < 4
        · have HT := Lib.hid (show fawU t zs (k + 1) = true by rw [fawU, hall.out, fawAt_few hb h4]; rfl)
          have h4I : (k : Int) < 4 := by omega
          have h4D : decide (4 ≤ (k : Int)) = false := decide_eq_false (by omega)
          clear hc1 hrr h4
          generalize zs.getD k 0 = z at *
          go_wp2_with fail
          refine wp_region_later (by kernel_rfl) (by kernel_rfl) ?_
          repeat (go_big_quiet_step ((first | (go_at_call 52; first | exact Later.sameB _ (spec_in _ _ _ _) (by assumption) | exact Later.same _ (spec_in _ _ _ _)))))
          refine wpQuiet_nil ?_
          rintro _ ⟨x, rfl⟩
          have xe := x.ext
          go_wp2
          go_roundw
          case rel => exact ⟨k + 1, by omega, by go_num, HT, xr.trans xe⟩
          case measure => simp [intOf]; omega
        · obtain ⟨j, hj⟩ : ∃ j, j + 4 = k := ⟨k - 4, by omega⟩
          have hA := fawAt_four (t := t) hb hj
          have p2 : ∀ x : Later wr, x.w.cell? ⟨b1, o1 + j, none⟩ = some (.int .i64 (zs.getD j 0)) := fun x => (x.ext.cell (by omega) _).trans (hc1 j (by omega))
          have hz := btw_iff.1 hb
          have hy := fawU_at hall.out j (by omega)
          have h4I : (4 : Int) ≤ (k : Int) := by omega
          have h4D : decide (4 ≤ (k : Int)) = true := decide_eq_true h4I
          have hjI : (0 : Int) ≤ (j : Int) := by omega
          have hjn : (j : Int) < n := by omega
          have HD := Lib.hid (show fawAt t zs k = false → fawB t zs n = false from fun h => fawB_no hlt h)
          have HU := Lib.hid (show fawAt t zs k = true → fawU t zs (k + 1) = true from fun h => by rw [fawU, hall.out, h]; rfl)
          rw [hA] at HD HU
          have E1 : IntKind.i64.wrap ((k : Int) - 4) = (j : Int) := by rw [IntKind.wrap_i64]; omega
          have E2 : IntKind.i64.wrap (zs.getD k 0 - zs.getD j 0) = zs.getD k 0 - zs.getD j 0 := by rw [IntKind.wrap_i64]; omega
          have HJ := Lib.hid hj
          clear hc1 hrr h4 hA hj
          generalize zs.getD k 0 = z at *
          generalize zs.getD j 0 = y at *
          obtain ⟨z0, z1⟩ := hz
          obtain ⟨y0, y1⟩ := hy
          generalize t 5 = f at *
          by_cases hd : z - y < f
          · have hdD : decide (z - y < f) = true := decide_eq_true hd
            have HN := Lib.hid (HD.out (by rw [decide_eq_true (show z < y + f by omega)]; rfl))
            clear HD HU
            go_wp2_with fail
            refine wp_region_later (by kernel_rfl) (by kernel_rfl) ?_
            repeat (go_big_quiet_step ((first | (go_at_call 52; first | exact Later.sameB _ (spec_in _ _ _ _) (by assumption) | exact Later.same _ (spec_in _ _ _ _)))))
            refine wpQuiet_nil ?_
            rintro _ ⟨x, rfl⟩
            have xe := x.ext
            go_wp2
            go_ret
            exact ⟨by rw [HN.out]; rfl, (x0.trans xr).trans xe⟩
          · have hdD : decide (z - y < f) = false := decide_eq_false hd
            have HN := Lib.hid (HU.out (by rw [decide_eq_false (show ¬ z < y + f by omega)]; rfl))
            clear HD HU
            go_wp2_with fail
            refine wp_region_later (by kernel_rfl) (by kernel_rfl) ?_
            repeat (go_big_quiet_step ((first | (go_at_call 52; first | exact Later.sameB _ (spec_in _ _ _ _) (by assumption) | exact Later.same _ (spec_in _ _ _ _)))))
            refine wpQuiet_nil ?_
            rintro _ ⟨x, rfl⟩
            have xe := x.ext
            go_wp2
            go_roundw
            case rel => exact ⟨k + 1, by omega, by go_num, HN, xr.trans xe⟩
            case measure => simp [intOf]; omega
    · obtain rfl : k = n := by omega
      clear q5 hrr
      go_wp2_with (refine wpList_load_row rfl 25 (.tmp 2) rfl w.heap.size (by rfl) 25 (timC t) (0, 0) _ HB.out Try.underlying25 rfl info_timing ?_)
      refine (spec_timingOk _ _).mono ?_
      rintro e w2 ⟨rfl, x2⟩
      go_wp2
      go_ret
      exact ⟨by rw [fawB, hall.out]; rfl, (x0.trans xr).trans x2⟩

set_option maxHeartbeats 2000000 in
theorem impl_fawOk_yes (t : Nat → Int) (a : Option Addr) (n c B : Nat) (zs : List Int) (w : World) (hr : Reads w B a n zs) (hB : B ≤ w.heap.size) (hm : n ≤ maxLen) (hT : timB t = true) : Calls Try.prog 25 #[.agg (timC t), .slice a n c] w fun e w' => e = .returned (.bool (fawB t zs n)) ∧ Ext w w' := by
  unfold maxLen at hm
  have b0 := Box.new w 25 (timC t)
  have x0 := (Ext.refl w).alloc (.cells (timC t) 25)
  have hr0 := hr.ext x0 hB
  have hB0 : B ≤ (w.alloc (.cells (timC t) 25)).heap.size := Nat.le_trans hB x0.le
  have hf := timB_all hT 5 (by omega)
  go_enter Try.func25, Try.ntmps25
  go_wp2_with (refine wpList_load_row rfl 25 (.tmp 2) rfl w.heap.size (by rfl) 25 (timC t) (0, 0) _ b0 Try.underlying25 rfl info_timing ?_)
  refine (impl_timingOk _ _).mono ?_
  rintro e W0 ⟨rfl, x1⟩
  replace b0 := b0.ext x1
  replace hr0 := hr0.ext x1 hB0
  replace hB0 := Nat.le_trans hB0 x1.le
  replace x0 := x0.trans x1
  have HT := Lib.hid hT
  clear hr hB x1
  obtain ⟨f0, f1⟩ := hf
  go_wp2
  clear hT
  go_loopw [12] (fun i wr => ∃ k : Nat, k ≤ n ∧ i = .int .i64 k ∧ Hid (fawU t zs k = true) ∧ Ext W0 wr) (fun i _ => n - (intOf i).toNat)
  case atStart => exact ⟨0, Nat.zero_le _, rfl, rfl, Ext.refl _⟩
  case round =>
    obtain ⟨k, hk, rfl, hall, xr⟩ := hrel
    have hrr := hr0.ext xr hB0
    have hBr := Nat.le_trans hB0 xr.le
    have q5 : ∀ x : Later wr, x.w.cell? ⟨w.heap.size, 5, none⟩ = some (.int .i64 (t 5)) := fun x => (((b0.ext xr).ext x.ext).cell 5).trans (timC_at t 5 (by omega))
    clear b0 hr0
    by_cases hlt : k < n
    · obtain ⟨b1, o1, rfl, hb1, hc1⟩ := hrr.2 (by omega)
      have hltI : (k : Int) < n := by omega
      have p1 : ∀ x : Later wr, x.w.cell? ⟨b1, o1 + k, none⟩ = some (.int .i64 (zs.getD k 0)) := fun x => (x.ext.cell (by omega) _).trans (hc1 k hlt)
      have p0 := hc1 k hlt
      cases hb : btw (zs.getD k 0) 0 1000000 with
      | false =>
        have HF := Lib.hid (fawB_no hlt (fawAt_far (t := t) hb))
        clear hc1 hrr
        generalize zs.getD k 0 = z at *
        go_wp2_with fail
        refine wp_region_later (by kernel_rfl) (by kernel_rfl) ?_
        repeat (go_big_quiet_step ((first | (go_at_call 53; first | exact Later.sameB _ (impl_between _ _ _ _) (by assumption) | exact Later.same _ (impl_between _ _ _ _)))))
        refine wpQuiet_nil ?_
        rintro _ ⟨x, rfl⟩
        have xe := x.ext
        go_wp2
        go_ret
        exact ⟨by rw [HF.out]; rfl, (x0.trans xr).trans xe⟩
      | true =>
        by_cases h4 : k < 4
        · have HT := Lib.hid (show fawU t zs (k + 1) = true by rw [fawU, hall.out, fawAt_few hb h4]; rfl)
          have h4I : (k : Int) < 4 := by omega
          have h4D : decide (4 ≤ (k : Int)) = false := decide_eq_false (by omega)
          clear hc1 hrr h4
          generalize zs.getD k 0 = z at *
          go_wp2_with fail
          refine wp_region_later (by kernel_rfl) (by kernel_rfl) ?_
          repeat (go_big_quiet_step ((first | (go_at_call 53; first | exact Later.sameB _ (impl_between _ _ _ _) (by assumption) | exact Later.same _ (impl_between _ _ _ _)))))
          refine wpQuiet_nil ?_
          rintro _ ⟨x, rfl⟩
          have xe := x.ext
          go_wp2
          go_roundw
          case rel => exact ⟨k + 1, by omega, by go_num, HT, xr.trans xe⟩
          case measure => simp [intOf]; omega
        · obtain ⟨j, hj⟩ : ∃ j, j + 4 = k := ⟨k - 4, by omega⟩
          have hA := fawAt_four (t := t) hb hj
          have p2 : ∀ x : Later wr, x.w.cell? ⟨b1, o1 + j, none⟩ = some (.int .i64 (zs.getD j 0)) := fun x => (x.ext.cell (by omega) _).trans (hc1 j (by omega))
          have hz := btw_iff.1 hb
          have hy := fawU_at hall.out j (by omega)
          have h4I : (4 : Int) ≤ (k : Int) := by omega
          have h4D : decide (4 ≤ (k : Int)) = true := decide_eq_true h4I
          have hjI : (0 : Int) ≤ (j : Int) := by omega
          have hjn : (j : Int) < n := by omega
          have HD := Lib.hid (show fawAt t zs k = false → fawB t zs n = false from fun h => fawB_no hlt h)
          have HU := Lib.hid (show fawAt t zs k = true → fawU t zs (k + 1) = true from fun h => by rw [fawU, hall.out, h]; rfl)
          rw [hA] at HD HU
          have E1 : IntKind.i64.wrap ((k : Int) - 4) = (j : Int) := by rw [IntKind.wrap_i64]; omega
          have E2 : IntKind.i64.wrap (zs.getD j 0 + t 5) = zs.getD j 0 + t 5 := by rw [IntKind.wrap_i64]; omega
          have HJ := Lib.hid hj
          clear hc1 hrr h4 hA hj
          generalize zs.getD k 0 = z at *
          generalize zs.getD j 0 = y at *
          obtain ⟨z0, z1⟩ := hz
          obtain ⟨y0, y1⟩ := hy
          generalize t 5 = f at *
          by_cases hd : z < y + f
          · have hdD : decide (z < y + f) = true := decide_eq_true hd
            have HN := Lib.hid (HD.out (by rw [decide_eq_true (show z < y + f by omega)]; rfl))
            clear HD HU
            go_wp2_with fail
            refine wp_region_later (by kernel_rfl) (by kernel_rfl) ?_
            repeat (go_big_quiet_step ((first | (go_at_call 53; first | exact Later.sameB _ (impl_between _ _ _ _) (by assumption) | exact Later.same _ (impl_between _ _ _ _)))))
            refine wpQuiet_nil ?_
            rintro _ ⟨x, rfl⟩
            have xe := x.ext
            go_wp2
            go_ret
            exact ⟨by rw [HN.out]; rfl, (x0.trans xr).trans xe⟩
          · have hdD : decide (z < y + f) = false := decide_eq_false hd
            have HN := Lib.hid (HU.out (by rw [decide_eq_false (show ¬ z < y + f by omega)]; rfl))
            clear HD HU
            go_wp2_with fail
            refine wp_region_later (by kernel_rfl) (by kernel_rfl) ?_
            repeat (go_big_quiet_step ((first | (go_at_call 53; first | exact Later.sameB _ (impl_between _ _ _ _) (by assumption) | exact Later.same _ (impl_between _ _ _ _)))))
            refine wpQuiet_nil ?_
            rintro _ ⟨x, rfl⟩
            have xe := x.ext
            go_wp2
            go_roundw
            case rel => exact ⟨k + 1, by omega, by go_num, HN, xr.trans xe⟩
            case measure => simp [intOf]; omega
    · obtain rfl : k = n := by omega
      clear q5 hrr
      go_wp2
      go_ret
      exact ⟨by rw [fawB, hall.out, HT.out]; rfl, x0.trans xr⟩

theorem impl_fawOk (t : Nat → Int) (a : Option Addr) (n c B : Nat) (zs : List Int) (w : World) (hr : Reads w B a n zs) (hB : B ≤ w.heap.size) (hm : n ≤ maxLen) : Calls Try.prog 25 #[.agg (timC t), .slice a n c] w fun e w' => e = .returned (.bool (fawB t zs n)) ∧ Ext w w' := by
  cases hT : timB t with
  | true => exact impl_fawOk_yes t a n c B zs w hr hB hm hT
  | false =>
    rw [show fawB t zs n = false by rw [fawB, hT, Bool.and_false]]
    have b0 := Box.new w 25 (timC t)
    go_enter Try.func25, Try.ntmps25
    go_wp2_with (refine wpList_load_row rfl 25 (.tmp 2) rfl w.heap.size (by rfl) 25 (timC t) (0, 0) _ b0 Try.underlying25 rfl info_timing ?_)
    refine (impl_timingOk _ _).mono ?_
    rintro e W0 ⟨rfl, x1⟩
    go_wp2
    go_ret
    exact ⟨rfl, ((Ext.refl w).alloc _).trans x1⟩

theorem law_FnExactFawOk (w : World) (z0 : List Int) (l0 : z0.length = 17) (_ : ∀ z ∈ z0, (Lit.int .i64 z).wf = true) (a : Option Addr) (n c : Nat) (zs : List Int) (hr : RowIs .i64 w w.heap.size a n zs) (hm : n ≤ maxLen) : Calls Try.prog 6 #[.agg (intCells z0), .slice a n c] w fun e w' => e = .returned (.bool true) ∧ Ext w w' := by
  obtain ⟨t, ht⟩ := tim_open z0 l0
  rw [ht]
  clear ht
  have hm' := hm
  unfold maxLen at hm'
  by_cases hbig : (1048576 : Int) < (n : Int)
  · go_enter Try.func6, Try.ntmps6
    go_wp2
    go_ret
    exact ⟨rfl, (Ext.refl w).alloc _⟩
  · have hn : n ≤ 1048576 := by omega
    have b0 := Box.new w 23 (timC t)
    have x0 := (Ext.refl w).alloc (.cells (timC t) 23)
    have r0 := hr.reads.ext x0 (Nat.le_refl _)
    go_enter Try.func6, Try.ntmps6
    go_wp2_with (refine wpList_load_row rfl 23 (.tmp 2) rfl w.heap.size (by rfl) 23 (timC t) (0, 0) _ b0 Try.underlying23 rfl info_ltiming ?_)
    refine (to_timing _ _).mono ?_
    rintro e w1 ⟨rfl, x1⟩
    have y1 := x0.trans x1
    go_wp2_with fail
    refine (to_ints a n c zs w.heap.size _ (r0.ext x1 x0.le) y1.le hn).mono ?_
    rintro e w2 ⟨g, cp, rfl, hg, ho, x2⟩
    have y2 := y1.trans x2
    go_wp2_with fail
    refine (spec_fawOk t _ n cp _ zs _ ho.reads (Nat.le_refl _) hm).mono ?_
    rintro e w3 ⟨rfl, x3⟩
    have y3 := y2.trans x3
    go_wp2_with fail
    refine (to_ints a n c zs w.heap.size _ (hr.reads.ext y3 (Nat.le_refl _)) y3.le hn).mono ?_
    rintro e w4 ⟨g4, cp4, rfl, hg4, ho4, x4⟩
    have y4 := y3.trans x4
    have b4 := ((((b0.ext x1).ext x2).ext x3).ext x4)
    go_wp2_with (refine wpList_load_row rfl 23 (.tmp 2) rfl w.heap.size (by rfl) 23 (timC t) (0, 0) _ b4 Try.underlying23 rfl info_ltiming ?_)
    refine (to_timing _ _).mono ?_
    rintro e w5 ⟨rfl, x5⟩
    go_wp2_with fail
    refine (impl_fawOk t _ n cp4 _ zs _ (ho4.ext x5).reads (Nat.le_refl _) hm).mono ?_
    rintro e w6 ⟨rfl, x6⟩
    have y6 := (y4.trans x5).trans x6
    go_wp2_with fail
    refine (to_ints a n c zs w.heap.size _ (hr.reads.ext y6 (Nat.le_refl _)) y6.le hn).mono ?_
    rintro e w7 ⟨g7, cp7, rfl, hg7, ho7, x7⟩
    go_wp2_with fail
    refine (eq_ints _ _ n cp4 cp7 zs _ _ _ (((ho4.ext x5).ext x6).ext x7).reads ho7.reads hm).mono ?_
    rintro e w8 ⟨rfl, x8⟩
    go_wp2
    go_ret
    exact ⟨rfl, (y6.trans x7).trans x8⟩

end Go.Proofs.Ytlchejnjeeilpaa
