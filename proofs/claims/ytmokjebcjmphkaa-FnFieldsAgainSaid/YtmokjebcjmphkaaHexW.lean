/- Walks of EncodeHex. -/
import Derived.Test.YtmokjebcjmphkaaDrawP
import Derived.Test.YtmokjebcjmphkaaHexP
import Derived.Deep.AppendLies
import Derived.Deep.RegionLaw
import Derived.Lib.BufferRead
namespace Go.Proofs.Ytmokjebcjmphkaa
open Go.RowKit

def strOf (l : List UInt8) : ByteArray := ⟨l.toArray⟩
def cellsB (l : List UInt8) : List Value := l.map fun b => Value.int .u8 b.toNat
theorem take_snoc (s : ByteArray) (k : Nat) (h : k < s.size) : s.data.toList.take (k + 1) = s.data.toList.take k ++ [s[k]] := by
  rw [List.take_succ_eq_append_getElem (by simpa using h)]; rfl
theorem u8_info : (Try.prog.info? 5).map (fun i => (i.zero, i.size, i.bytes)) = some (some (.int .u8 0), 1, 1) := by kernel_rfl

theorem conv_own {w : World} {base : Nat} {v : Value} {l : List UInt8} (h : w.ownsRow base 5 1 v l.length (cellsB l)) : (convert 32 9 v).run Try.prog w = .ok (.string (strOf l)) w := by
  rcases h.2 with ⟨rfl, h0⟩ | ⟨g, cap, cur, rfl, -⟩
  · obtain rfl := List.eq_nil_of_length_eq_zero h0
    exact Lib.run_convert_nil_bytes w _ _ 5 0 Try.underlying32 Try.underlying5 Try.underlying9
  · refine run_convert_bytes_back w _ _ 5 ⟨g, 0, none⟩ cap l Try.underlying32 Try.underlying5 Try.underlying9 (fun j hj => ?_)
    have e : (⟨g, 0, none⟩ : Addr).add j = ⟨g, j, none⟩ := by unfold Addr.add; split <;> simp_all
    rw [e, h.cellAt j (by omega), cellsB, List.getElem?_map, List.getElem?_eq_getElem hj]
    rfl
theorem dig_at (n : Nat) (h : n < 16) (p) : (ByteArray.mk #[48, 49, 50, 51, 52, 53, 54, 55, 56, 57, 97, 98, 99, 100, 101, 102])[n]'p = figB n := by
  rcases n with _ | _ | _ | _ | _ | _ | _ | _ | _ | _ | _ | _ | _ | _ | _ | _ | n
  all_goals first | rfl | omega

theorem and15 : ∀ n : Nat, n < 256 → bits .and .u8 (n : Int) 15 = (n : Int) % 16 := by decide +kernel

theorem impl_encode (s : ByteArray) (w : World) (hs : s.size ≤ 20000) : Calls Try.prog 10 #[.string s] w fun e w' => e = .returned (.tuple #[.string (strOf (hexEnc s.data.toList)), .bool true]) ∧ Ext w w' := by
  obtain ⟨i0, hi, hz0, hz1, hz2⟩ := info_parts u8_info
  go_enter Try.func10, Try.ntmps10
  go_wp2_with (at_make; refine wpList_make_own _ rfl _ _ 32 rfl w.heap.size 5 i0 (.int .u8 0) 1 Try.underlying32 hi hz0 hz1 _ _ _ (2 * s.size) rfl rfl (by omega) (by rw [hz2]; omega) (by unfold maxLen; omega) (Nat.le_refl _) ?_)
  intro w1 hown1 hgrow1
  have x1 := (Ext.refl w).grown hgrow1 (fun _ e => by cases e)
  have hs1 := hgrow1.size
  clear hgrow1
  go_wp2
  go_loopw [4, 5] (fun v i wr => ∃ k : Nat, k ≤ s.size ∧ i = .int .i64 k ∧ wr.ownsRow w.heap.size 5 1 v (2 * k) (cellsB (hexEnc (s.data.toList.take k))) ∧ w.heap.size ≤ wr.heap.size ∧ Ext w wr)
    (fun _ i _ => s.size - (intOf i).toNat)
  case atStart => exact ⟨0, by omega, rfl, hown1, hs1, x1⟩
  case round =>
    obtain ⟨k, hk, rfl, hown, hsz, xr⟩ := hrel
    by_cases hlt : k < s.size
    · go_wp2_with fail
      have hd : (k : Int) < (s.size : Int) := by omega
      have hb : s[k].toNat < 256 := s[k].toNat_lt
      have H1 : (0 : Int) ≤ (s[k].toNat : Int) / 16 := by omega
      have H2 : (s[k].toNat : Int) / 16 < 16 := by omega
      have H3 : ∀ p : ((s[k].toNat : Int) / 16).toNat < 16, (ByteArray.mk #[48, 49, 50, 51, 52, 53, 54, 55, 56, 57, 97, 98, 99, 100, 101, 102])[((s[k].toNat : Int) / 16).toNat]'p = figB (s[k].toNat / 16) := fun p => dig_at _ (by omega) p
      have H4 := and15 s[k].toNat hb
      have H5 : (0 : Int) ≤ (s[k].toNat : Int) % 16 := by omega
      have H6 : (s[k].toNat : Int) % 16 < 16 := by omega
      have H7 : ∀ p : ((s[k].toNat : Int) % 16).toNat < 16, (ByteArray.mk #[48, 49, 50, 51, 52, 53, 54, 55, 56, 57, 97, 98, 99, 100, 101, 102])[((s[k].toNat : Int) % 16).toNat]'p = figB (s[k].toNat % 16) := fun p => dig_at _ (by omega) p
      have hts := take_snoc s k hlt
      have HN : Hid (hexEnc (s.data.toList.take (k + 1)) = hexEnc (s.data.toList.take k) ++ [figB (s[k].toNat / 16), figB (s[k].toNat % 16)]) := by rw [hts, hexEnc_append]; rfl
      clear hts
      go_region_law (refine step_append_lies _ rfl (.tmp 19) (.tmp 30) 32 rfl w.heap.size 5 i0 (.int .u8 0) 1 1 Try.underlying32 hi hz0 hz1 hz2 rfl (by decide) u4 _ _ (by simp [Act.eval, Act.put]) (hown.alloc _) ⟨wr.heap.size, 0, none⟩ 2 2 [.int .u8 (figB (s[k].toNat / 16)).toNat, .int .u8 (figB (s[k].toNat % 16)).toNat] (by simp [Act.eval, Act.put]) rfl (fun j u hu => World.news_of_block (heap_alloc_new _ _) j u hu) (by intro u hu; simp at hu; rcases hu with rfl | rfl <;> rfl) (by omega) (by unfold maxLen; omega) (by omega) (by simp; omega) _ rfl ?_; intro g cap w2 hown2 hgrow hat hlt2)
      all_goals
        have x3 := ((xr.drew).alloc _).grown hgrow (fun j hj => (hown.lt j hj).1)
        have hs3 := hgrow.size
        have hown3 : w2.ownsRow w.heap.size 5 1 (.slice (some ⟨g, 0, none⟩) (2 * k + 2) cap) (2 * (k + 1)) (cellsB (hexEnc (s.data.toList.take (k + 1)))) := by
          rw [HN.out, cellsB, List.map_append]
          exact hown2
        clear hown hown2 hgrow hat
        go_wp2
        go_roundw
        case rel => exact ⟨k + 1, by omega, by go_num, hown3, by simp at hs3; omega, x3⟩
        case measure => simp [intOf]; omega
    · obtain rfl : k = s.size := by omega
      have hl : (s.data.toList).length = s.size := by simp
      rw [List.take_of_length_le (by omega)] at hown
      have HC := conv_own (by rw [hexEnc_length, hl]; exact hown)
      go_wp2
      go_ret2
      exact ⟨rfl, xr⟩

theorem impl_encode_no (s : ByteArray) (w : World) (hs : 20000 < s.size) : Calls Try.prog 10 #[.string s] w fun e w' => e = .returned (.tuple #[.string (strOf []), .bool false]) ∧ Ext w w' := by
  go_enter Try.func10, Try.ntmps10
  go_wp2
  go_ret2
  exact ⟨rfl, Ext.refl w⟩

theorem spec_encode_no (s : ByteArray) (w : World) (hs : 20000 < s.size) : Calls Try.prog 9 #[.string s] w fun e w' => e = .returned (.tuple #[.string (strOf []), .bool false]) ∧ Ext w w' := by
  go_enter Try.func9, Try.ntmps9
  go_wp2
  go_ret2
  exact ⟨rfl, Ext.refl w⟩

theorem spec_figure (n : Nat) (x : Int) (hx : x = (n : Int)) (h : n < 16) (w : World) : Calls Try.prog 26 #[.int .i64 x] w fun e w' => e = .returned (.int .u8 (figB n).toNat) ∧ w = w' := by
  subst hx
  have hf := figB_toNat n h
  by_cases h1 : (n : Int) < 10
  · rw [if_pos (by omega)] at hf
    go_enter Try.func26, Try.ntmps26
    go_wp2
    go_ret
    exact ⟨ret_int (by first | omega | (rw [hf]; omega)), rfl⟩
  · rw [if_neg (by omega)] at hf
    go_enter Try.func26, Try.ntmps26
    go_wp2
    go_ret
    exact ⟨ret_int (by first | omega | (rw [hf]; omega)), rfl⟩

set_option maxHeartbeats 1600000 in
theorem spec_encode (s : ByteArray) (w : World) (hs : s.size ≤ 20000) : Calls Try.prog 9 #[.string s] w fun e w' => e = .returned (.tuple #[.string (strOf (hexEnc s.data.toList)), .bool true]) ∧ Ext w w' := by
  obtain ⟨i0, hi, hz0, hz1, hz2⟩ := info_parts u8_info
  go_enter Try.func9, Try.ntmps9
  go_wp2
  go_loopw [4, 5] (fun v i wr => ∃ k : Nat, k ≤ s.size ∧ i = .int .i64 k ∧ wr.ownsRow w.heap.size 5 1 v (2 * k) (cellsB (hexEnc (s.data.toList.take k))) ∧ w.heap.size ≤ wr.heap.size ∧ Ext w wr)
    (fun _ i _ => s.size - (intOf i).toNat)
  case atStart => exact ⟨0, by omega, rfl, World.ownsRow_made w #[] 0 (Nat.le_refl _) (by simp [maxLen]) rfl, by simp, (Ext.refl w).alloc _⟩
  case round =>
    obtain ⟨k, hk, rfl, hown, hsz, xr⟩ := hrel
    by_cases hlt : k < s.size
    · go_wp2_with fail
      have hd : (k : Int) < (s.size : Int) := by omega
      have hb : s[k].toNat < 256 := s[k].toNat_lt
      have E1 : IntKind.i64.wrap (s[k].toNat : Int) = (s[k].toNat : Int) := by rw [IntKind.wrap_i64]; omega
      have E2 : (s[k].toNat : Int).tdiv 16 = (s[k].toNat : Int) / 16 := Int.tdiv_eq_ediv_of_nonneg (by omega)
      have E3 : (s[k].toNat : Int).tmod 16 = (s[k].toNat : Int) % 16 := Int.tmod_eq_emod_of_nonneg (by omega)
      have E4 : IntKind.i64.wrap ((s[k].toNat : Int) / 16) = (s[k].toNat : Int) / 16 := by rw [IntKind.wrap_i64]; omega
      have hts := take_snoc s k hlt
      have HN : Hid (hexEnc (s.data.toList.take (k + 1)) = hexEnc (s.data.toList.take k) ++ [figB (s[k].toNat / 16), figB (s[k].toNat % 16)]) := by rw [hts, hexEnc_append]; rfl
      clear hts
      go_region_law (first
        | (refine step_append_lies _ rfl (.tmp 16) (.tmp 29) 32 rfl w.heap.size 5 i0 (.int .u8 0) 1 1 Try.underlying32 hi hz0 hz1 hz2 rfl (by decide) u4 _ _ (by simp [Act.eval, Act.put]) (hown.alloc _) ⟨wr.heap.size, 0, none⟩ 2 2 [.int .u8 (figB (s[k].toNat / 16)).toNat, .int .u8 (figB (s[k].toNat % 16)).toNat] (by simp [Act.eval, Act.put]) rfl (fun j u hu => World.news_of_block (heap_alloc_new _ _) j u hu) (by intro u hu; simp at hu; rcases hu with rfl | rfl <;> rfl) (by omega) (by unfold maxLen; omega) (by omega) (by simp; omega) _ rfl ?_; intro g cap w2 hown2 hgrow hat hlt2)
        | (go_simp; go_at_call 26; (first | refine (spec_figure (s[k].toNat / 16) _ (by first | omega | (rw [E1, E2, E4]; omega)) (by omega) _).mono ?_ | refine (spec_figure (s[k].toNat % 16) _ (by first | omega | (rw [E1, E3]; omega)) (by omega) _).mono ?_); rintro e w' ⟨rfl, rfl⟩))
      all_goals
        have x3 := ((xr.drew).alloc _).grown hgrow (fun j hj => (hown.lt j hj).1)
        have hs3 := hgrow.size
        have hown3 : w2.ownsRow w.heap.size 5 1 (.slice (some ⟨g, 0, none⟩) (2 * k + 2) cap) (2 * (k + 1)) (cellsB (hexEnc (s.data.toList.take (k + 1)))) := by
          rw [HN.out, cellsB, List.map_append]
          exact hown2
        clear hown hown2 hgrow hat
        go_wp2
        go_roundw
        case rel => exact ⟨k + 1, by omega, by go_num, hown3, by simp at hs3; omega, x3⟩
        case measure => simp [intOf]; omega
    · obtain rfl : k = s.size := by omega
      have hl : (s.data.toList).length = s.size := by simp
      rw [List.take_of_length_le (by omega)] at hown
      have HC := conv_own (by rw [hexEnc_length, hl]; exact hown)
      go_wp2
      go_ret2
      exact ⟨rfl, xr⟩

theorem law_FnExactEncodeHex (w : World) (s0 : ByteArray) (h0 : s0.size ≤ maxLen) : Calls Try.prog 3 #[.string s0] w fun e w' => e = .returned (.bool true) ∧ Ext w w' := by
  unfold maxLen at h0
  by_cases hbig : (1048576 : Int) < (s0.size : Int)
  · go_enter Try.func3, Try.ntmps3
    go_wp2
    go_ret
    exact ⟨rfl, Ext.refl w⟩
  · by_cases hs : s0.size ≤ 20000
    · generalize hL : strOf (hexEnc s0.data.toList) = L
      go_enter Try.func3, Try.ntmps3
      go_wp2_with fail
      refine (spec_encode s0 _ hs).mono ?_
      rintro e w1 ⟨rfl, x1⟩
      rw [hL]
      go_wp2_with fail
      refine (impl_encode s0 _ hs).mono ?_
      rintro e w2 ⟨rfl, x2⟩
      rw [hL]
      go_wp2
      go_ret
      exact ⟨rfl, x1.trans x2⟩
    · go_enter Try.func3, Try.ntmps3
      go_wp2_with fail
      refine (spec_encode_no s0 _ (by omega)).mono ?_
      rintro e w1 ⟨rfl, x1⟩
      go_wp2_with fail
      refine (impl_encode_no s0 _ (by omega)).mono ?_
      rintro e w2 ⟨rfl, x2⟩
      go_wp2
      go_ret
      exact ⟨rfl, x1.trans x2⟩

end Go.Proofs.Ytmokjebcjmphkaa
