/- Walks of the laws FnMixed and FnBits. -/
import Derived.Test.YtejegnecbeclcaaDrawP
import Derived.Test.YtejegnecbeclcaaBitW
namespace Go.Proofs.Ytejegnecbeclcaa
open Go.RowKit

theorem later_at {W : World} {g i : Nat} {v : Value} (hl : g < W.heap.size) (h : W.cell? ⟨g, i, none⟩ = some v) (x : Later W) : x.w.cell? ⟨g, i, none⟩ = some v := (x.ext.cell hl i).trans h

theorem later_sameI {P : Program} {f : FuncId} {args : Array Value} {W : World} (x : Later W) {k : IntKind} {m n : Int} (h : Calls P f args x.w fun e w' => e = .returned (.int k m) ∧ x.w = w') (hb : m = n) :
    Calls P f args x.w fun e w'' => e = .returned (.int k n) ∧ ∃ y : Later W, w'' = y.w := hb ▸ x.same h

theorem setF_nat (n k b : Nat) (hn : n < 4294967296) (hk : k < 32) (hb : b ≤ 1) : setF (n : Int) (k : Int) (b : Int) = (setN n k b : Int) := by
  rw [setF, if_pos (by rw [btw_true (by omega) (by omega), btw_true (by omega) (by omega), btw_true (by omega) (by omega)]; rfl)]
  simp
theorem mixF_nat (n : Nat) (hn : n < 4294967296) : mixF (n : Int) = (mixN n : Int) := by
  rw [mixF, if_pos (btw_true (by omega) (by omega))]
  simp
theorem mixed_facts (x i : Int) (h0 : 0 ≤ x) (h1 : x ≤ 4294967295) (h2 : 0 ≤ i) (h3 : i ≤ 31) :
    btw (mixF x) 0 4294967295 = true ∧ mixF x ≠ mixF (setF x i (1 - bitF x i)) ∧ mixF 0 = 0 := by
  obtain ⟨n, rfl⟩ := Int.eq_ofNat_of_zero_le h0
  obtain ⟨k, rfl⟩ := Int.eq_ofNat_of_zero_le h2
  have hn : n < 4294967296 := by omega
  have hk : k < 32 := by omega
  have hb := bitN_le n k
  have e1 : (1 : Int) - bitF (n : Int) (k : Int) = ((1 - bitN n k : Nat) : Int) := by rw [bitF_nat n k hn hk]; omega
  have hs := setN_lt n k (1 - bitN n k) hn hk (by omega)
  rw [e1, setF_nat n k _ hn hk (by omega), mixF_nat n hn, mixF_nat _ hs]
  have hm := mixN_lt n
  refine ⟨btw_true (by omega) (by omega), fun e => ?_, ?_⟩
  · have e2 : mixN n = mixN (setN n k (1 - bitN n k)) := by omega
    have e3 := mixN_inj hn hs e2
    have e4 := setN_bit n k (1 - bitN n k) k hk (by omega) (by omega)
    rw [if_pos rfl, ← e3] at e4
    omega
  · have := mixF_nat 0 (by omega)
    rw [mixN_zero] at this
    exact this

theorem law_FnMixed (w : World) (a0 : Option Addr) (n0 c0 : Nat) (z0 : List Int) (r0 : RowIs .u8 w w.heap.size a0 n0 z0) (m0 : n0 ≤ maxLen) : Calls Try.prog 13 #[.slice a0 n0 c0] w fun e w' => e = .returned (.bool true) ∧ Ext w w' := by
  have m1 := m0
  unfold maxLen at m1
  by_cases hbig : (1048576 : Int) < (n0 : Int)
  · go_enter Try.func13, Try.ntmps13
    go_wp2
    go_ret
    exact ⟨rfl, (by repeat (first | exact Ext.refl _ | assumption | refine Ext.alloc ?_ _ | refine Ext.drew ?_ | refine Ext.drewN ?_ _ | refine Ext.setCell ?_ (by first | exact Nat.le_refl _ | (simp; done) | (simp; omega) | omega) _ | (apply Ext.trans; rotate_left; assumption)))⟩
  · go_enter Try.func13, Try.ntmps13
    go_wp2_with (first | (go_at_call 35; go_in))
    refine (draw_word a0 n0 c0 z0 _ r0 m0).mono ?_
    rintro e w1 ⟨x, ⟨x0, x1⟩, rfl, y1⟩
    go_wp2_with fail
    refine (draw_places a0 n0 c0 z0 _ ((y1.row r0 (Nat.le_refl _)).more y1.le) m0).mono ?_
    rintro e w2 ⟨g, cc, ps, hl, hr, rfl, hc, hg1, hg2, y2⟩
    have p0 := hc 0 (by omega)
    have q0 : 0 ≤ ps.getD 0 0 ∧ ps.getD 0 0 < 10000 := hr _ (by rw [List.getD_eq_getElem?_getD, List.getElem?_eq_getElem (by omega)]; exact List.getElem_mem _)
    generalize ps.getD 0 0 = p at *
    clear hc hr hl
    obtain ⟨f1, f2, f3⟩ := mixed_facts x (p % 32) x0 x1 (by omega) (by omega)
    have hb := bitF_range x (p % 32)
    have f2a : (mixF x != mixF (setF x (p % 32) (1 - bitF x (p % 32)))) = true := by simpa using f2
    have F2 := Lib.hid f2
    clear f2
    have L0 := later_at hg2 p0
    go_wp2_with fail
    refine wp_region_later (by kernel_rfl) (by kernel_rfl) ?_
    repeat (go_big_quiet_step ((first | (go_at_call 25; exact Later.same _ (spec_bitOf _ _ _)) | (go_at_call 27; exact Later.same _ (spec_withBit _ _ _ _)))))
    refine wpQuiet_nil ?_
    rintro _ ⟨xx, rfl⟩
    have xxe := xx.ext
    go_wp2_with (first
      | (go_at_call 25; refine (spec_bitOf _ _ _).mono ?_; rintro e w' ⟨rfl, rfl⟩)
      | (go_at_call 27; refine (spec_withBit _ _ _ _).mono ?_; rintro e w' ⟨rfl, rfl⟩)
      | (go_at_call 30; refine (impl_mix _ _).mono ?_; rintro e w' ⟨rfl, rfl⟩)
      | (go_at_call 16; refine (impl_isWord _ _).mono ?_; rintro e w' ⟨rfl, rfl⟩))
    go_ret
    exact ⟨rfl, (by repeat (first | exact Ext.refl _ | assumption | refine Ext.alloc ?_ _ | refine Ext.drew ?_ | refine Ext.drewN ?_ _ | refine Ext.setCell ?_ (by first | exact Nat.le_refl _ | (simp; done) | (simp; omega) | omega) _ | (apply Ext.trans; rotate_left; assumption)))⟩

theorem bits_same (x i b k : Int) (h0 : 0 ≤ x) (h1 : x ≤ 4294967295) (h2 : 0 ≤ i) (h3 : i ≤ 31) (h4 : 0 ≤ b) (h5 : b ≤ 1) (h6 : 0 ≤ k) (h7 : k ≤ 31) : bitF (setF x i b) k = if k = i then b else bitF x k := by
  obtain ⟨n, rfl⟩ := Int.eq_ofNat_of_zero_le h0
  obtain ⟨j, rfl⟩ := Int.eq_ofNat_of_zero_le h2
  obtain ⟨c, rfl⟩ := Int.eq_ofNat_of_zero_le h4
  obtain ⟨m, rfl⟩ := Int.eq_ofNat_of_zero_le h6
  have hs := setN_lt n j c (by omega) (by omega) (by omega)
  rw [setF_nat n j c (by omega) (by omega) (by omega), bitF_nat _ m hs (by omega), bitF_nat n m (by omega) (by omega), setN_bit n j c m (by omega) (by omega) (by omega)]
  by_cases h : m = j
  · rw [if_pos h, if_pos (by omega)]
  · rw [if_neg h, if_neg (by omega)]
theorem setF_word (x i b : Int) (h0 : 0 ≤ x) (h1 : x ≤ 4294967295) (h2 : 0 ≤ i) (h3 : i ≤ 31) (h4 : 0 ≤ b) (h5 : b ≤ 1) : btw (setF x i b) 0 4294967295 = true := by
  obtain ⟨n, rfl⟩ := Int.eq_ofNat_of_zero_le h0
  obtain ⟨j, rfl⟩ := Int.eq_ofNat_of_zero_le h2
  obtain ⟨c, rfl⟩ := Int.eq_ofNat_of_zero_le h4
  have hs := setN_lt n j c (by omega) (by omega) (by omega)
  rw [setF_nat n j c (by omega) (by omega) (by omega)]
  exact btw_true (by omega) (by omega)
/-- the sum of the first k bits -/
def sumB (x : Int) : Nat → Int
  | 0 => 0
  | k + 1 => sumB x k + bitF x k
theorem sumB_range (x : Int) (k : Nat) : 0 ≤ sumB x k ∧ sumB x k ≤ k := by
  induction k with
  | zero => exact ⟨Int.le_refl _, Int.le_refl _⟩
  | succ k ih => have := bitF_range x (k : Int); simp only [sumB]; omega
theorem sumB_pop (x : Int) (h0 : 0 ≤ x) (h1 : x ≤ 4294967295) : sumB x 32 = popF x := by
  obtain ⟨n, rfl⟩ := Int.eq_ofNat_of_zero_le h0
  have key : ∀ k, k ≤ 32 → sumB (n : Int) k = (popN n k : Int) := by
    intro k hk
    induction k with
    | zero => rfl
    | succ k ih => rw [sumB, ih (by omega), bitF_nat n k (by omega) (by omega), popN, Int.natCast_add]
  rw [key 32 (by omega), popF, if_pos (btw_true h0 h1)]
  rfl
theorem pop_max : popF 4294967295 = 32 := by
  rw [popF, if_pos (btw_true (by omega) (by omega))]
  decide +kernel

theorem law_FnBits (w : World) (a0 : Option Addr) (n0 c0 : Nat) (z0 : List Int) (r0 : RowIs .u8 w w.heap.size a0 n0 z0) (m0 : n0 ≤ maxLen) : Calls Try.prog 14 #[.slice a0 n0 c0] w fun e w' => e = .returned (.bool true) ∧ Ext w w' := by
  have m1 := m0
  unfold maxLen at m1
  by_cases hbig : (1048576 : Int) < (n0 : Int)
  · go_enter Try.func14, Try.ntmps14
    go_wp2
    go_ret
    exact ⟨rfl, (by repeat (first | exact Ext.refl _ | assumption | refine Ext.alloc ?_ _ | refine Ext.drew ?_ | refine Ext.drewN ?_ _ | refine Ext.setCell ?_ (by first | exact Nat.le_refl _ | (simp; done) | (simp; omega) | omega) _ | (apply Ext.trans; rotate_left; assumption)))⟩
  · go_enter Try.func14, Try.ntmps14
    go_wp2_with (first | (go_at_call 35; go_in))
    refine (draw_word a0 n0 c0 z0 _ r0 m0).mono ?_
    rintro e w1 ⟨x, ⟨x0, x1⟩, rfl, y1⟩
    go_wp2_with fail
    refine (draw_places a0 n0 c0 z0 _ ((y1.row r0 (Nat.le_refl _)).more y1.le) m0).mono ?_
    rintro e w2 ⟨g, cc, ps, hl, hr, rfl, hc, hg1, hg2, y2⟩
    have p0 := hc 0 (by omega)
    have p1 := hc 1 (by omega)
    have q0 : 0 ≤ ps.getD 0 0 ∧ ps.getD 0 0 < 10000 := hr _ (by rw [List.getD_eq_getElem?_getD, List.getElem?_eq_getElem (by omega)]; exact List.getElem_mem _)
    have q1 : 0 ≤ ps.getD 1 0 ∧ ps.getD 1 0 < 10000 := hr _ (by rw [List.getD_eq_getElem?_getD, List.getElem?_eq_getElem (by omega)]; exact List.getElem_mem _)
    generalize ps.getD 0 0 = p at *
    generalize ps.getD 1 0 = q at *
    clear hc hr hl
    go_wp2_with fail
    refine (impl_withBit _ _ _ _).mono ?_
    rintro e w3 ⟨rfl, y3⟩
    have p1' := (y3.cell hg2 1).trans p1
    have L1 := later_at (Nat.lt_of_lt_of_le hg2 y3.le) p1'
    have hS := Lib.hid (bits_same x (p % 32) (q % 2))
    have hW := Lib.hid (setF_word x (p % 32) (q % 2) x0 x1 (by omega) (by omega) (by omega) (by omega))
    have hP := Lib.hid (sumB_pop x x0 x1)
    go_wp2
    go_loop [7, 8] (fun n k => ∃ j : Nat, j ≤ 32 ∧ k = .int .i64 j ∧ n = .int .i64 (sumB x j)) (fun _ k => 32 - (intOf k).toNat)
    case atStart => exact ⟨0, by omega, rfl, rfl⟩
    case round =>
      obtain ⟨j, hj, rfl, rfl⟩ := hrel
      have hsr := sumB_range x j
      have hbr := bitF_range x (j : Int)
      by_cases hlt : j < 32
      · by_cases hji : (j : Int) = p % 32
        · have d1 : ((j : Int) != p % 32) = false := by simpa using hji
          have HJ := Lib.hid hji
          clear hji
          go_wp2_with (go_at_call 26; refine (impl_bitOf _ _ _).mono ?_; rintro e w' ⟨rfl, rfl⟩)
          go_round
          case rel => exact ⟨j + 1, by omega, by go_num, rfl⟩
          case measure => simp [intOf]; omega
        · have d1 : ((j : Int) != p % 32) = true := by simpa using hji
          have d2 : bitF (setF x (p % 32) (q % 2)) (j : Int) = bitF x (j : Int) := by
            have := hS.out (j : Int) x0 x1 (by omega) (by omega) (by omega) (by omega) (by omega) (by omega)
            rw [if_neg hji] at this
            exact this
          have HJ := Lib.hid hji
          clear hji
          go_wp2_with (go_at_call 26; refine (impl_bitOf _ _ _).mono ?_; rintro e w' ⟨rfl, rfl⟩)
          go_round
          case rel => exact ⟨j + 1, by omega, by go_num, rfl⟩
          case measure => simp [intOf]; omega
      · obtain rfl : j = 32 := by omega
        have hE : bitF (setF x (p % 32) (q % 2)) (p % 32) = q % 2 := by
          have := hS.out (p % 32) x0 x1 (by omega) (by omega) (by omega) (by omega) (by omega) (by omega)
          rw [if_pos rfl] at this
          exact this
        have hW' := hW.out
        have hP' := hP.out
        have hM := pop_max
        have hpr := popF_range x
        go_wp2_with fail
        refine wp_region_later (by kernel_rfl) (by kernel_rfl) ?_
        repeat (go_big_quiet_step ((first | (go_at_call 16; exact Later.sameB _ (impl_isWord _ _) hW') | (go_at_call 26; exact later_sameI _ (impl_bitOf _ _ _) hE) | (go_at_call 32; first | exact later_sameI _ (impl_countBits _ _) hM | exact Later.same _ (impl_countBits _ _)) | (go_at_call 34; exact Later.same _ (impl_parityOf _ _)))))
        refine wpQuiet_nil ?_
        rintro _ ⟨xx, rfl⟩
        have xxe := xx.ext
        go_wp2
        go_ret
        exact ⟨rfl, (by repeat (first | exact Ext.refl _ | assumption | refine Ext.alloc ?_ _ | refine Ext.drew ?_ | refine Ext.drewN ?_ _ | refine Ext.setCell ?_ (by first | exact Nat.le_refl _ | (simp; done) | (simp; omega) | omega) _ | (apply Ext.trans; rotate_left; assumption)))⟩

end Go.Proofs.Ytejegnecbeclcaa
