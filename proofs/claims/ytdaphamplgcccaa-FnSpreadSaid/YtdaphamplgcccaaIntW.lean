/- Walks of the laws' own functions over slices of integers: toIntS, eqIntS, markIntS, heldIntS, szIntS. -/
import Derived.Test.YtdaphamplgcccaaIntS
namespace Go.Proofs.Ytdaphamplgcccaa
open Go.RowKit

theorem eq_ints (a b : Option Addr) (n c d : Nat) (zs : List Int) (B B' : Nat) (w : World) (h1 : Reads w B a n zs) (h2 : Reads w B' b n zs) (hm : n ≤ maxLen) : Calls Try.prog 44 #[.slice a n c, .slice b n d] w fun e w' => e = .returned (.bool true) ∧ Ext w w' := by
  unfold maxLen at hm
  go_enter Try.func44, Try.ntmps44
  go_wp2
  go_loopw [5] (fun i wr => ∃ (k m : Nat), k ≤ n ∧ i = .int .i64 k ∧ wr = w.drewN m) (fun i _ => n - (intOf i).toNat)
  case atStart => exact ⟨0, 0, Nat.zero_le _, rfl, rfl⟩
  case round =>
    obtain ⟨k, m, hk, rfl, rfl⟩ := hrel
    by_cases hlt : k < n
    · obtain ⟨b1, o1, rfl, -, hc1⟩ := h1.2 (by omega)
      obtain ⟨b2, o2, rfl, -, hc2⟩ := h2.2 (by omega)
      have q1 := hc1 k hlt
      have q2 := hc2 k hlt
      generalize zs.getD k 0 = z at q1 q2
      clear hc1 hc2 h1 h2
      have hltI : (k : Int) < n := by omega
      go_wp2
      go_quiet (fail)
      go_wp2
      go_roundw
      case rel => exact ⟨k + 1, _, by omega, by go_num, (by first | rfl | exact World.drewN_drewN)⟩
      case measure => simp [intOf]; omega
    · obtain rfl : k = n := by omega
      go_wp2
      go_ret
      exact ⟨rfl, (Ext.refl w).drewN _⟩

theorem held_ints (a : Option Addr) (n c : Nat) (k0 : Int) (B : Nat) (w : World) (h : Reads w B a n (iota k0 n)) (hm : n ≤ maxLen) (hk0 : 0 ≤ k0) (hk1 : k0 + n ≤ 9223372036854775807) : Calls Try.prog 46 #[.slice a n c, .int .i64 k0] w fun e w' => e = .returned (.int .i64 (k0 + n)) ∧ w = w' := by
  unfold maxLen at hm
  go_enter Try.func46, Try.ntmps46
  go_wp2
  go_loop [1, 5] (fun q i => ∃ k : Nat, k ≤ n ∧ i = .int .i64 k ∧ q = .int .i64 (k0 + k)) (fun _ i => n - (intOf i).toNat)
  case atStart => exact ⟨0, Nat.zero_le _, rfl, by go_num⟩
  case round =>
    obtain ⟨k, hk, rfl, rfl⟩ := hrel
    by_cases hlt : k < n
    · obtain ⟨b1, o1, rfl, -, hc1⟩ := h.2 (by omega)
      have q1 := hc1 k hlt
      rw [iota_get k0 n k hlt] at q1
      clear hc1 h
      go_wp2
      go_round
      case rel => exact ⟨k + 1, by omega, by go_num, by go_num⟩
      case measure => simp [intOf]; omega
    · obtain rfl : k = n := by omega
      go_wp2
      go_ret
      exact ⟨rfl, rfl⟩

theorem mark_ints (a : Option Addr) (n c base : Nat) (k0 : Int) (zs : List Int) (w : World) (h : Own w base a n c zs) (hm : n ≤ maxLen) (hk0 : 0 ≤ k0) (hk1 : k0 + n ≤ 9223372036854775807) : Calls Try.prog 45 #[.slice a n c, .int .i64 k0] w fun e w' => e = .returned (.int .i64 (k0 + n)) ∧ Own w' base a n c (iota k0 n) ∧ Touch a w w' := by
  unfold maxLen at hm
  have hl := h.len
  have HL := Lib.hid hl
  clear hl
  go_enter Try.func45, Try.ntmps45
  go_wp2
  go_loopw [1, 5] (fun q i wr => ∃ k : Nat, k ≤ n ∧ i = .int .i64 k ∧ q = .int .i64 (k0 + k) ∧ Own wr base a n c (iota k0 k ++ zs.drop k) ∧ Touch a w wr) (fun _ i _ => n - (intOf i).toNat)
  case atStart => exact ⟨0, Nat.zero_le _, rfl, by go_num, h, Touch.refl a w⟩
  case round =>
    obtain ⟨k, hk, rfl, rfl, ho, ht⟩ := hrel
    by_cases hlt : k < n
    · obtain ⟨g, rfl, hg1, hg2⟩ := ho.form (by omega)
      have f1 := World.ownsRow.frozenAt ho k
      have q1 := ho.at hlt
      have hst := World.ownsRow.stored ho k (.int .i64 (k0 + k))
      have ho2 : Own (wr.setCell ⟨g, k, none⟩ (.int .i64 (k0 + k))) base (some ⟨g, 0, none⟩) n c (iota k0 (k + 1) ++ zs.drop (k + 1)) := by
        have e := set_step (iota k0 k) (k0 + k) zs (by rw [iota_length, HL.out]; exact hlt)
        rw [iota_length] at e
        have h1 := hst.1
        rw [← List.map_set, e] at h1
        exact h1
      have ht2 := ht.trans hst.2
      clear hst ho ht
      go_wp2
      go_roundw
      case rel => exact ⟨k + 1, by omega, by go_num, by go_num, ho2, ht2⟩
      case measure => simp [intOf]; omega
    · obtain rfl : k = n := by omega
      rw [List.drop_eq_nil_of_le (by rw [HL.out]; omega), List.append_nil] at ho
      go_wp2
      go_ret
      exact ⟨rfl, ho, ht⟩




end Go.Proofs.Ytdaphamplgcccaa
