/- The reference's DrawEncodeHex and the walk of the law FnHexText. -/
import Derived.Test.YtmokjebcjmphkaaDoorFmtD
import Derived.Test.YtmokjebcjmphkaaDoorHexV
import Derived.Test.YtmokjebcjmphkaaDoorTextD
namespace Go.Proofs.YtmokjebcjmphkaaDoor
open Go.RowKit
open Go.Lib (decDigits itoa)

theorem strOf_toList (s : ByteArray) : strOf s.data.toList = s := rfl
def DrewStr (m : Nat) (w : World) : Ending → World → Prop := fun e w' => ∃ s : ByteArray, s.size ≤ m ∧ e = .returned (.string s) ∧ Ext w w'

theorem draw_encode (a : Option Addr) (n c : Nat) (zs : List Int) (w : World) (h : RowIs .u8 w w.heap.size a n zs) (hm : n ≤ maxLen) : Calls Tryd.prog 11 #[.slice a n c] w (DrewStr 20001 w) := by
  go_enter Tryd.func11, Tryd.ntmps11
  go_wp2_with fail
  refine (new_any a n c zs _ h hm).mono ?_
  rintro e w1 ⟨g, rfl, hg, hc1, x1⟩
  go_wp2_with (first | (go_at_call 17; go_in))
  refine (below_small _ g 60 (by omega) (by omega) _ hc1).mono ?_
  rintro e w2 ⟨r, ⟨r0, r1⟩, rfl, hc2, hb2⟩
  by_cases h0 : r = 0
  · subst h0
    go_wp2_with fail
    refine (below_small _ g 2 (by omega) (by omega) _ hc2).mono ?_
    rintro e w3 ⟨s, ⟨s0, s1⟩, rfl, hc3, hb3⟩
    obtain ⟨m, rfl⟩ := Int.eq_ofNat_of_zero_le s0
    go_wp2_with fail
    refine (long_any (20000 + m) 200 200 rfl (by omega) _).mono ?_
    rintro e w4 ⟨l, hl, rfl, x4⟩
    have hs := (strOf_size l).trans hl
    generalize strOf l = L at *
    have HL := Lib.hid hs
    clear hs hl
    go_wp2
    go_ret
    exact ⟨L, by have := HL.out; omega, rfl, (But.toExt x1 hg (hb2.trans hb3)).trans x4⟩
  · go_wp2_with fail
    refine (below_small _ g 30 (by omega) (by omega) _ hc2).mono ?_
    rintro e w3 ⟨s, ⟨s0, s1⟩, rfl, hc3, hb3⟩
    obtain ⟨m, rfl⟩ := Int.eq_ofNat_of_zero_le s0
    go_wp2_with fail
    refine (text_any _ g m (by omega) _ hc3).mono ?_
    rintro e w4 ⟨L, hl, rfl, hc4, hb4⟩
    have HL := Lib.hid hl
    clear hl
    go_wp2
    go_ret
    exact ⟨L, by have := HL.out; omega, rfl, But.toExt x1 hg ((hb2.trans hb3).trans hb4)⟩

theorem ten_text : strOf (decDigits 10) = ⟨#[49, 48]⟩ := by
  rw [dec_big (by omega), dec_small (by omega)]
  rfl

theorem law_FnHexText (w : World) (hT : Tab w) (a0 : Option Addr) (n0 c0 : Nat) (z0 : List Int) (r0 : RowIs .u8 w w.heap.size a0 n0 z0) (m0 : n0 ≤ maxLen) : Calls Tryd.prog 5 #[.slice a0 n0 c0] w fun e w' => e = .returned (.bool true) ∧ Ext w w' := by
  have m1 := m0
  unfold maxLen at m1
  by_cases hbig : (1048576 : Int) < (n0 : Int)
  · go_enter Tryd.func5, Tryd.ntmps5
    go_wp2
    go_ret
    exact ⟨rfl, (by repeat (first | exact Ext.refl _ | assumption | refine Ext.alloc ?_ _ | refine Ext.drew ?_ | refine Ext.drewN ?_ _ | refine Ext.setCell ?_ (by first | exact Nat.le_refl _ | (simp; done) | (simp; omega) | omega) _ | (apply Ext.trans; rotate_left; assumption)))⟩
  · go_enter Tryd.func5, Tryd.ntmps5
    go_wp2_with (first | (go_at_call 8; go_in))
    refine (draw_encode a0 n0 c0 z0 _ r0 m0).mono ?_
    rintro e w1 ⟨s, hs, rfl, x1⟩
    by_cases h2 : s.size ≤ 20000
    · have hl : (strOf (hexEnc s.data.toList)).data.toList = hexEnc s.data.toList := rfl
      have hz : (strOf (hexEnc s.data.toList)).size = 2 * s.size := by rw [strOf_size, hexEnc_length]; rfl
      have hD := fun w => impl_decode (strOf (hexEnc s.data.toList)) w (by omega) (by omega)
      rw [hl, hexDec_enc] at hD
      have e1 : strOf ((some s.data.toList).getD []) = s := rfl
      rw [e1] at hD
      have hE := impl_encode s w1 h2
      generalize strOf (hexEnc s.data.toList) = L at *
      clear hl e1
      have hzI : (L.size : Int) = 2 * (s.size : Int) := by omega
      have HZ := Lib.hid hz
      clear hz
      go_wp2_with fail
      refine hE.mono ?_
      rintro e w2 ⟨rfl, x2⟩
      go_wp2_with fail
      refine (hD _).mono ?_
      rintro e w3 ⟨rfl, x3⟩
      go_wp2
      go_ret
      exact ⟨rfl, (x1.trans x2).trans x3⟩
    · have h2I : (20000 : Int) < (s.size : Int) := by omega
      have he : (strOf []).toList.isEmpty = true := by rw [ByteArray.toList_eq]; rfl
      have hF := fun w => impl_itoa_small 10 (by omega) w
      rw [ten_text] at hF
      go_wp2_with fail
      refine (impl_encode_no s _ (by omega)).mono ?_
      rintro e w2 ⟨rfl, x2⟩
      go_wp2_with fail
      refine (hF _).mono ?_
      rintro e w' ⟨rfl, rfl⟩
      go_wp2
      go_ret
      exact ⟨rfl, x1.trans x2⟩

end Go.Proofs.YtmokjebcjmphkaaDoor
