/- Walks of the laws' own functions over slices of integers: toIntS, eqIntS, markIntS, heldIntS, szIntS. -/
import Derived.Test.YtlchejnjeeilpaaIntS
namespace Go.Proofs.Ytlchejnjeeilpaa
open Go.RowKit

theorem eq_ints (a b : Option Addr) (n c d : Nat) (zs : List Int) (B B' : Nat) (w : World) (h1 : Reads w B a n zs) (h2 : Reads w B' b n zs) (hm : n ≤ maxLen) : Calls Try.prog 26 #[.slice a n c, .slice b n d] w fun e w' => e = .returned (.bool true) ∧ Ext w w' := by
  unfold maxLen at hm
  go_enter Try.func26, Try.ntmps26
  go_wp2
  go_loopw [5] (fun i wr => ∃ (k m : Nat), k ≤ n ∧ i = .int .i64 k ∧ wr = w.drewN m) (fun i _ => n - (intOf i).toNat)
  case atStart => exact ⟨0, 0, Nat.zero_le _, rfl, rfl⟩
  case round =>
    obtain ⟨k, m, hk, rfl, rfl⟩ := hrel
    by_cases hlt : k < n
    · obtain ⟨b1, o1, rfl, -, hc1⟩ := h1.2 (by omega)
      obtain ⟨b2, o2, rfl, -, hc2⟩ := h2.2 (by omega)
      have q1 := hc1 k hlt
      have q2 := hc2 k hlt
      generalize zs.getD k 0 = z at q1 q2
      clear hc1 hc2 h1 h2
      have hltI : (k : Int) < n := by omega
      go_wp2
      go_quiet (fail)
      go_wp2
      go_roundw
      case rel => exact ⟨k + 1, _, by omega, by go_num, (by first | rfl | exact World.drewN_drewN)⟩
      case measure => simp [intOf]; omega
    · obtain rfl : k = n := by omega
      go_wp2
      go_ret
      exact ⟨rfl, (Ext.refl w).drewN _⟩

theorem held_ints (a : Option Addr) (n c : Nat) (k0 : Int) (B : Nat) (w : World) (h : Reads w B a n (iota k0 n)) (hm : n ≤ maxLen) (hk0 : 0 ≤ k0) (hk1 : k0 + n ≤ 9223372036854775807) : Calls Try.prog 39 #[.slice a n c, .int .i64 k0] w fun e w' => e = .returned (.int .i64 (k0 + n)) ∧ w = w' := by
  unfold maxLen at hm
  go_enter Try.func39, Try.ntmps39
  go_wp2
  go_loop [1, 5] (fun q i => ∃ k : Nat, k ≤ n ∧ i = .int .i64 k ∧ q = .int .i64 (k0 + k)) (fun _ i => n - (intOf i).toNat)
  case atStart => exact ⟨0, Nat.zero_le _, rfl, by go_num⟩
  case round =>
    obtain ⟨k, hk, rfl, rfl⟩ := hrel
    by_cases hlt : k < n
    · obtain ⟨b1, o1, rfl, -, hc1⟩ := h.2 (by omega)
      have q1 := hc1 k hlt
      rw [iota_get k0 n k hlt] at q1
      clear hc1 h
      go_wp2
      go_round
      case rel => exact ⟨k + 1, by omega, by go_num, by go_num⟩
      case measure => simp [intOf]; omega
    · obtain rfl : k = n := by omega
      go_wp2
      go_ret
      exact ⟨rfl, rfl⟩

theorem mark_ints (a : Option Addr) (n c base : Nat) (k0 : Int) (zs : List Int) (w : World) (h : Own w base a n c zs) (hm : n ≤ maxLen) (hk0 : 0 ≤ k0) (hk1 : k0 + n ≤ 9223372036854775807) : Calls Try.prog 38 #[.slice a n c, .int .i64 k0] w fun e w' => e = .returned (.int .i64 (k0 + n)) ∧ Own w' base a n c (iota k0 n) ∧ Touch a w w' := by
  unfold maxLen at hm
  have hl := h.len
  have HL := Lib.hid hl
  clear hl
  go_enter Try.func38, Try.ntmps38
  go_wp2
  go_loopw [1, 5] (fun q i wr => ∃ k : Nat, k ≤ n ∧ i = .int .i64 k ∧ q = .int .i64 (k0 + k) ∧ Own wr base a n c (iota k0 k ++ zs.drop k) ∧ Touch a w wr) (fun _ i _ => n - (intOf i).toNat)
  case atStart => exact ⟨0, Nat.zero_le _, rfl, by go_num, h, Touch.refl a w⟩
  case round =>
    obtain ⟨k, hk, rfl, rfl, ho, ht⟩ := hrel
    by_cases hlt : k < n
    · obtain ⟨g, rfl, hg1, hg2⟩ := ho.form (by omega)
      have f1 := World.ownsRow.frozenAt ho k
      have q1 := ho.at hlt
      have hst := World.ownsRow.stored ho k (.int .i64 (k0 + k))
      have ho2 : Own (wr.setCell ⟨g, k, none⟩ (.int .i64 (k0 + k))) base (some ⟨g, 0, none⟩) n c (iota k0 (k + 1) ++ zs.drop (k + 1)) := by
        have e := set_step (iota k0 k) (k0 + k) zs (by rw [iota_length, HL.out]; exact hlt)
        rw [iota_length] at e
        have h1 := hst.1
        rw [← List.map_set, e] at h1
        exact h1
      have ht2 := ht.trans hst.2
      clear hst ho ht
      go_wp2
      go_roundw
      case rel => exact ⟨k + 1, by omega, by go_num, by go_num, ho2, ht2⟩
      case measure => simp [intOf]; omega
    · obtain rfl : k = n := by omega
      rw [List.drop_eq_nil_of_le (by rw [HL.out]; omega), List.append_nil] at ho
      go_wp2
      go_ret
      exact ⟨rfl, ho, ht⟩

theorem to_ints (a : Option Addr) (n c : Nat) (zs : List Int) (B : Nat) (w : World) (h : Reads w B a n zs) (hB : B ≤ w.heap.size) (hn : n ≤ 1048576) : Calls Try.prog 24 #[.slice a n c] w (NewInts n zs w) := by
  obtain ⟨i0, hi, hz0, hz1, hz2⟩ := info_parts int_info
  have HL := Lib.hid h.1
  go_enter Try.func24, Try.ntmps24
  go_wp2_with (at_make; refine wpList_make_full _ rfl _ _ 33 rfl w.heap.size 3 i0 (.int .i64 0) 1 Try.underlying33 hi hz0 hz1 _ _ _ _ n rfl rfl rfl rfl (by rw [hz2]; omega) (by unfold maxLen; omega) (Nat.le_refl _) ?_)
  intro w1 hown1 hgrow1
  have x1 := (Ext.refl w).grown hgrow1 (fun _ e => by cases e)
  have hown : Own w1 w.heap.size (some ⟨w.heap.size, 0, none⟩) n n (List.replicate n 0) := by
    unfold Own
    rw [List.map_replicate]
    simpa [toList_madeCells_one] using hown1
  have h' := h.ext x1 hB
  clear hown1 hgrow1
  go_wp2
  go_loopw [4] (fun i wr => ∃ k : Nat, k ≤ n ∧ i = .int .i64 k ∧ Own wr w.heap.size (some ⟨w.heap.size, 0, none⟩) n n (zs.take k ++ List.replicate (n - k) 0) ∧ Reads wr B a n zs ∧ Ext w wr) (fun i _ => n - (intOf i).toNat)
  case atStart => exact ⟨0, Nat.zero_le _, rfl, hown, h', x1⟩
  case round =>
    obtain ⟨k, hk, rfl, ho, hr, xr⟩ := hrel
    clear h h' hown x1
    by_cases hlt : k < n
    · obtain ⟨b1, o1, rfl, hb1, hc1⟩ := hr.2 (by omega)
      have q1 := hc1 k hlt
      have f1 := World.ownsRow.frozenAt ho k
      have q2 := ho.at hlt
      have hst := World.ownsRow.stored ho k (.int .i64 (zs.getD k 0))
      have ho2 : Own (wr.setCell ⟨w.heap.size, k, none⟩ (.int .i64 (zs.getD k 0))) w.heap.size (some ⟨w.heap.size, 0, none⟩) n n (zs.take (k + 1) ++ List.replicate (n - (k + 1)) 0) := by
        have h1 := hst.1
        have hl := HL.out
        have e : (zs.take k ++ List.replicate (n - k) 0).set k (zs.getD k 0) = zs.take (k + 1) ++ List.replicate (n - (k + 1)) 0 := by
          have hk1 : (zs.take k).length = k := by rw [List.length_take]; omega
          rw [List.set_append_right _ _ (by omega), hk1, Nat.sub_self, show n - k = (n - (k + 1)) + 1 by omega, List.replicate_succ, List.set_cons_zero, List.take_succ_eq_append_getElem (by omega), List.append_assoc, List.getD_eq_getElem?_getD, List.getElem?_eq_getElem (by omega)]
          rfl
        rw [← List.map_set, e] at h1
        exact h1
      have x2 : Ext w (wr.setCell ⟨w.heap.size, k, none⟩ (.int .i64 (zs.getD k 0))) := xr.setCell (Nat.le_refl _) _
      have hr2 : Reads (wr.setCell ⟨w.heap.size, k, none⟩ (.int .i64 (zs.getD k 0))) B (some ⟨b1, o1, none⟩) n zs := hr.keep fun b o hb => World.cell?_setCell_other _ _ _ _ (fun e => by injection e with e; omega)
      have HD : Hid (List.replicate (n - k) (0 : Int) = List.replicate (n - k) 0) := Lib.hid rfl
      generalize zs.getD k 0 = z at *
      clear hst ho hr hc1 HD
      generalize (zs.take k ++ List.replicate (n - k) 0).getD k 0 = y at *
      go_wp2
      go_roundw
      case rel => exact ⟨k + 1, by omega, by go_num, ho2, hr2, x2⟩
      case measure => simp [intOf]; omega
    · obtain rfl : k = n := by omega
      rw [Nat.sub_self, List.replicate_zero, List.append_nil, List.take_of_length_le (by rw [HL.out]; omega)] at ho
      go_wp2
      go_ret
      exact ⟨w.heap.size, k, rfl, Nat.le_refl _, ho, xr⟩

theorem sz_ints (a : Option Addr) (n c : Nat) (left : Int) (h0 : 0 ≤ left) (h1 : left ≤ 9223372036854775807) (hm : n ≤ maxLen) (w : World) : Calls Try.prog 57 #[.slice a n c, .int .i64 left] w fun e w' => e = .returned (.int .i64 (if left < n then -1 else left - n)) ∧ w = w' := by
  unfold maxLen at hm
  by_cases h : left < n
  · rw [if_pos h]
    have hl : left - n < 0 := by omega
    go_enter Try.func57, Try.ntmps57
    go_wp2
    go_ret
    exact ⟨rfl, rfl⟩
  · rw [if_neg h]
    have hl : ¬ left - n < 0 := by omega
    go_enter Try.func57, Try.ntmps57
    go_wp2
    go_ret
    exact ⟨rfl, rfl⟩

end Go.Proofs.Ytlchejnjeeilpaa
