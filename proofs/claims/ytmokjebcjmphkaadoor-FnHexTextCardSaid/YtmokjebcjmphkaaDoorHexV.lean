/- Walks of DecodeHex. -/
import Derived.Test.YtmokjebcjmphkaaDoorHexW
namespace Go.Proofs.YtmokjebcjmphkaaDoor
open Go.RowKit

theorem hexDec_append (p r : List UInt8) (l : List UInt8) (h : hexDec p = some l) : hexDec (p ++ r) = (hexDec r).map (l ++ ·) := by
  induction p using hexDec.induct generalizing l with
  | case1 => simp only [hexDec, Option.some.injEq] at h; subst h; simp
  | case2 => simp [hexDec] at h
  | case3 a b p hlt => simp only [hexDec, if_pos hlt] at h; cases h
  | case4 a b p hlt ih =>
    simp only [hexDec, if_neg hlt, Option.map_eq_some_iff] at h
    obtain ⟨t, ht, rfl⟩ := h
    simp only [List.cons_append, hexDec, if_neg hlt, ih t ht, Option.map_map]
    congr 1

def valI (x : Int) : Int := if 48 ≤ x ∧ x ≤ 57 then x - 48 else if 97 ≤ x ∧ x ≤ 102 then x - 87 else -1
theorem impl_digit (b : UInt8) (w : World) : Calls Tryd.prog 22 #[.int .u8 b.toNat] w fun e w' => e = .returned (.int .i64 (valB b)) ∧ w = w' := by
  have hb : b.toNat < 256 := b.toNat_lt
  unfold valB
  generalize b.toNat = n at *
  by_cases h1 : (48 : Int) ≤ (n : Int)
  · by_cases h2 : (n : Int) ≤ 57
    · rw [if_pos (by omega)]
      go_enter Tryd.func22, Tryd.ntmps22
      go_wp2
      go_ret
      exact ⟨ret_int (by omega), rfl⟩
    · rw [if_neg (by omega)]
      by_cases h3 : (97 : Int) ≤ (n : Int)
      · by_cases h4 : (n : Int) ≤ 102
        · rw [if_pos (by omega)]
          go_enter Tryd.func22, Tryd.ntmps22
          go_wp2
          go_ret
          exact ⟨ret_int (by omega), rfl⟩
        · rw [if_neg (by omega)]
          go_enter Tryd.func22, Tryd.ntmps22
          go_wp2
          go_ret
          exact ⟨rfl, rfl⟩
      · rw [if_neg (by omega)]
        go_enter Tryd.func22, Tryd.ntmps22
        go_wp2
        go_ret
        exact ⟨rfl, rfl⟩
  · rw [if_neg (by omega), if_neg (by omega)]
    have h3 : ¬ (97 : Int) ≤ (n : Int) := by omega
    go_enter Tryd.func22, Tryd.ntmps22
    go_wp2
    go_ret
    exact ⟨rfl, rfl⟩



theorem byte_of (z : Int) (h0 : 0 ≤ z) (h : z < 256) : ((UInt8.ofNat z.toNat).toNat : Int) = z := by simp; omega
theorem round_facts (s : ByteArray) (j : Nat) (l : List UInt8) (h : j + 1 < s.size) (hl : hexDec (s.data.toList.take j) = some l) :
    ((valB s[j] < 0 ∨ valB s[j + 1] < 0) → hexDec s.data.toList = none) ∧ (¬ (valB s[j] < 0 ∨ valB s[j + 1] < 0) → hexDec (s.data.toList.take (j + 2)) = some (l ++ [UInt8.ofNat (16 * valB s[j] + valB s[j + 1]).toNat])) := by
  have e2 : s.data.toList.take (j + 2) = s.data.toList.take j ++ [s[j], s[j + 1]] := by
    rw [take_snoc s (j + 1) h, take_snoc s j (by omega), List.append_assoc]; rfl
  constructor
  · intro hb
    have e1 : s.data.toList = s.data.toList.take (j + 2) ++ s.data.toList.drop (j + 2) := (List.take_append_drop _ _).symm
    rw [e1, e2, List.append_assoc, hexDec_append _ _ l hl]
    simp only [List.cons_append, List.nil_append, hexDec, if_pos hb, Option.map_none]
  · intro hb
    rw [e2, hexDec_append _ _ l hl]
    simp only [hexDec, if_neg hb, Option.map_some]

set_option maxHeartbeats 1000000 in
theorem impl_decode (s : ByteArray) (w : World) (he : s.size % 2 = 0) (hs : s.size ≤ 40000) : Calls Tryd.prog 13 #[.string s] w fun e w' => e = .returned (.tuple #[.string (strOf ((hexDec s.data.toList).getD [])), .bool (hexDec s.data.toList).isSome]) ∧ Ext w w' := by
  obtain ⟨i0, hi, hz0, hz1, hz2⟩ := info_parts u8_info
  have hz : (s.size : Int) % 2 = 0 := by omega
  have hz' : (s.size : Int) / 2 ≤ 20000 := by omega
  go_enter Tryd.func13, Tryd.ntmps13
  go_wp2_with (at_make; refine wpList_make_own _ rfl _ _ 24 rfl w.heap.size 5 i0 (.int .u8 0) 1 Tryd.underlying24 hi hz0 hz1 _ _ _ (s.size / 2) rfl rfl (by omega) (by rw [hz2]; omega) (by unfold maxLen; omega) (Nat.le_refl _) ?_)
  intro w1 hown1 hgrow1
  have x1 := (Ext.refl w).grown hgrow1 (fun _ e => by cases e)
  have hs1 := hgrow1.size
  clear hgrow1
  go_wp2
  go_loopw [4, 5] (fun v i wr => ∃ (k j : Nat) (l : List UInt8), Hid (j = 2 * k) ∧ j ≤ s.size ∧ i = .int .i64 j ∧ Hid (hexDec (s.data.toList.take j) = some l) ∧ wr.ownsRow w.heap.size 5 1 v k (cellsB l) ∧ w.heap.size ≤ wr.heap.size ∧ Ext w wr)
    (fun _ i _ => s.size - (intOf i).toNat)
  case atStart => exact ⟨0, 0, [], rfl, by omega, rfl, rfl, hown1, hs1, x1⟩
  case round =>
    obtain ⟨k, j, l, hjk, hj, rfl, hdec, hown, hsz, xr⟩ := hrel
    by_cases hlt : j < s.size
    · have hlt2 : j + 1 < s.size := by have := hjk.out; omega
      have hd : (j : Int) < (s.size : Int) := by omega
      have hd2 : (j : Int) + 1 < (s.size : Int) := by omega
      have HW : IntKind.i64.wrap ((j : Int) + 1) = (j : Int) + 1 := by rw [IntKind.wrap_i64]; omega
      have HW0 : (0 : Int) ≤ (j : Int) + 1 := by omega
      have HF := Lib.hid (round_facts s j l hlt2 hdec.out)
      have r1 := valB_range s[j]
      have r2 := valB_range s[j + 1]
      go_wp2_with fail
      go_region_law (first | (go_simp; go_at_call 22; refine (impl_digit _ _).mono ?_; rintro e w' ⟨rfl, rfl⟩))
      all_goals
        generalize valB s[j] = x at *
        generalize valB s[j + 1] = y at *
        by_cases hx : x < 0
        · go_wp2
          go_ret2
          exact ⟨by rw [HF.out.1 (.inl hx)]; rfl, (by repeat (first | exact Ext.refl _ | assumption | refine Ext.alloc ?_ _ | refine Ext.drew ?_ | refine Ext.drewN ?_ _ | refine Ext.setCell ?_ (by first | exact Nat.le_refl _ | (simp; done) | (simp; omega) | omega) _ | (apply Ext.trans; rotate_left; assumption)))⟩
        · by_cases hy : y < 0
          · go_wp2
            go_ret2
            exact ⟨by rw [HF.out.1 (.inr hy)]; rfl, (by repeat (first | exact Ext.refl _ | assumption | refine Ext.alloc ?_ _ | refine Ext.drew ?_ | refine Ext.drewN ?_ _ | refine Ext.setCell ?_ (by first | exact Nat.le_refl _ | (simp; done) | (simp; omega) | omega) _ | (apply Ext.trans; rotate_left; assumption)))⟩
          · have HG := Lib.hid (HF.out.2 (by omega))
            have hk2 : k ≤ 20000 := by have := hjk.out; omega
            have h16 : (0 : Int) ≤ 16 * x + y := by omega
            have h17 : 16 * x + y < 256 := by omega
            go_wp2_with (at_builtin; refine wpList_append_own _ rfl (.tmp 43) (.tmp 49) 24 rfl w.heap.size 5 i0 (.int .u8 0) 1 1 Tryd.underlying24 hi hz0 hz1 hz2 rfl (by decide) _ _ _ rfl (hown.alloc _) ⟨wr.heap.size, 0, none⟩ 1 1 [.int .u8 (x * 16 + y)] rfl rfl (cell_one_new _ _ _) ?c2 ?c3 ?c4 ?c5 ?_)
            case c2 => first | rfl | (intro u hu; simp at hu; subst hu; rfl)
            case c3 => unfold maxLen; omega
            case c4 => omega
            case c5 => first | omega | (simp; omega)
            intro v' w3 hown3 hgrow _
            have hs3 := hgrow.size
            have x3 := ((xr.drew).alloc _).grown hgrow (fun j hj => (hown.lt j hj).1)
            have hown4 : w3.ownsRow w.heap.size 5 1 v' (k + 1) (cellsB (l ++ [UInt8.ofNat (16 * x + y).toNat])) := by
              rw [cellsB, List.map_append]
              simp only [List.map_cons, List.map_nil]
              rw [byte_of _ h16 h17, show 16 * x + y = x * 16 + y by omega]
              exact hown3
            clear hown hown3 hgrow
            go_wp2
            go_roundw
            case rel => exact ⟨k + 1, j + 2, _, (by have := hjk.out; show j + 2 = 2 * (k + 1); omega), by omega, by go_num, HG, hown4, by simp at hs3; omega, x3⟩
            case measure => simp [intOf]; omega
    · obtain rfl : j = s.size := by omega
      have hl : (s.data.toList).length = s.size := by simp
      have hdd := hdec.out
      rw [List.take_of_length_le (by omega)] at hdd
      have hlen := hexDec_length hdd
      have hkl : k = l.length := by have := hjk.out; omega
      subst hkl
      have HC := conv_own hown
      have HD := Lib.hid hdd
      clear hdd
      go_wp2
      go_ret2
      exact ⟨by rw [HD.out]; rfl, xr⟩



theorem impl_decode_no (s : ByteArray) (w : World) (h : ¬ (s.size % 2 = 0 ∧ s.size ≤ 40000)) (hm : s.size ≤ 1048576) : Calls Tryd.prog 13 #[.string s] w fun e w' => e = .returned (.tuple #[.string (strOf []), .bool false]) ∧ Ext w w' := by
  by_cases h1 : s.size % 2 = 0
  · have hz : (s.size : Int) % 2 = 0 := by omega
    have hz' : 20000 < (s.size : Int) / 2 := by omega
    go_enter Tryd.func13, Tryd.ntmps13
    go_wp2
    go_ret2
    exact ⟨rfl, Ext.refl w⟩
  · have hz : (s.size : Int) % 2 = 1 := by omega
    go_enter Tryd.func13, Tryd.ntmps13
    go_wp2
    go_ret2
    exact ⟨rfl, Ext.refl w⟩





end Go.Proofs.YtmokjebcjmphkaaDoor
