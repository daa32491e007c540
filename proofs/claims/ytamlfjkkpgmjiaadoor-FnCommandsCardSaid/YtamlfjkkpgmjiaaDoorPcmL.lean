/- The walks of FnExactParseCommand and FnCommands. -/
import Derived.Test.YtamlfjkkpgmjiaaDoorPcsI
import Derived.Test.YtamlfjkkpgmjiaaDoorCmdG
import Derived.Test.YtamlfjkkpgmjiaaDoorOneP
set_option maxRecDepth 20000
namespace Go.Proofs.YtamlfjkkpgmjiaaDoor
open Go.RowKit
open Go.Lib (decDigits itoa)
attribute [local go_sem ↓] Go.wp_at_zero Go.wp_at_succ

theorem max_len {w : World} (h : w.ShapedOpen Tryd.prog) : ∃ m, w.cell? ⟨0, 0, none⟩ = some (.int .i64 m) := Tryd.laysM146.s1_3 w h

set_option maxHeartbeats 4000000 in
theorem law_FnExactParseCommand (w : World) (hsh : w.ShapedOpen Tryd.prog) (s : ByteArray) (h0 : s.size ≤ maxLen) : Calls Tryd.prog 4 #[.string s] w fun e w' => e = .returned (.bool true) ∧ Ext w w' := by
  unfold maxLen at h0
  by_cases hbig : (1048576 : Int) < (s.size : Int)
  · go_enter Tryd.func4, Tryd.ntmps4
    go_wp2
    go_ret
    exact ⟨rfl, Ext.refl w⟩
  · obtain ⟨mx, hM⟩ := max_len hsh
    have hMl := World.block_lt_of_cell? _ _ hM
    have hs : s.size ≤ 1048576 := by omega
    go_enter Tryd.func4, Tryd.ntmps4
    go_wp2_with fail
    refine (spec_parseC s hs _).mono ?_
    rintro e w1 ⟨x1, ⟨k, b, r, c, hC, rfl⟩ | ⟨hno, rfl⟩⟩
    · have b1 := Box.new w1 25 #[.int .i64 k, .int .i64 b, .int .i64 r, .int .i64 c]
      have y1 := x1.alloc (.cells #[.int .i64 k, .int .i64 b, .int .i64 r, .int .i64 c] 25)
      have HC := Lib.hid hC
      clear hC
      go_wp2_with fail
      refine (impl_parseC s hs mx _ ((y1.cell hMl 0).trans hM)).mono ?_
      rintro e w2 ⟨x2, ⟨k', b', r', c', hC', rfl⟩ | ⟨hno', rfl⟩⟩
      · obtain ⟨rfl, rfl, rfl, rfl⟩ := isCmd_inj HC.out hC'
        have c1 := (b1.ext x2).alloc (.cells #[.int .i64 k, .int .i64 b, .int .i64 r, .int .i64 c] 25)
        have c2 := Box.new w2 25 #[.int .i64 k, .int .i64 b, .int .i64 r, .int .i64 c]
        have y2 := (y1.trans x2).alloc (.cells #[.int .i64 k, .int .i64 b, .int .i64 r, .int .i64 c] 25)
        obtain ⟨p0, p1, p2, p3⟩ := c1.cell4
        obtain ⟨q0, q1, q2, q3⟩ := c2.cell4
        clear HC hC'
        go_wp2_with fail
        refine (eq_command _ _ _ _ _).mono ?_
        rintro e w3 ⟨rfl, x3⟩
        go_wp2
        go_ret
        exact ⟨rfl, y2.trans x3⟩
      · exact absurd HC.out (hno' k b r c)
    · have b1 := Box.new w1 25 #[.int .i64 0, .int .i64 0, .int .i64 0, .int .i64 0]
      have y1 := x1.alloc (.cells #[.int .i64 0, .int .i64 0, .int .i64 0, .int .i64 0] 25)
      have HC := Lib.hid hno
      clear hno
      go_wp2_with fail
      refine (impl_parseC s hs mx _ ((y1.cell hMl 0).trans hM)).mono ?_
      rintro e w2 ⟨x2, ⟨k', b', r', c', hC', rfl⟩ | ⟨hno', rfl⟩⟩
      · exact absurd hC' (HC.out k' b' r' c')
      · have c1 := (b1.ext x2).alloc (.cells #[.int .i64 0, .int .i64 0, .int .i64 0, .int .i64 0] 25)
        have c2 := Box.new w2 25 #[.int .i64 0, .int .i64 0, .int .i64 0, .int .i64 0]
        have y2 := (y1.trans x2).alloc (.cells #[.int .i64 0, .int .i64 0, .int .i64 0, .int .i64 0] 25)
        obtain ⟨p0, p1, p2, p3⟩ := c1.cell4
        obtain ⟨q0, q1, q2, q3⟩ := c2.cell4
        clear HC hno'
        go_wp2_with fail
        refine (eq_command _ _ _ _ _).mono ?_
        rintro e w3 ⟨rfl, x3⟩
        go_wp2
        go_ret
        exact ⟨rfl, y2.trans x3⟩

theorem readOk_frame {k b r c : Int} (h : formB k b r c = true) : readOk (frameN k b r c) = true ∧ frameN k b r c % 16 = k ∧ frameN k b r c / 16 % 8 = b ∧ frameN k b r c / 128 % 16 = r ∧ frameN k b r c / 2048 % 8 = c := by
  have hr := formB_range h
  have hN := frameN_range h
  have e : frameN k b r c % 16 = k ∧ frameN k b r c / 16 % 8 = b ∧ frameN k b r c / 128 % 16 = r ∧ frameN k b r c / 2048 % 8 = c := by
    unfold frameN packN
    generalize popF (k + 16 * b + 128 * r + 2048 * c) % 2 = t
    omega
  refine ⟨?_, e⟩
  unfold readOk
  rw [e.1, e.2.1, e.2.2.1, e.2.2.2, frameF, if_pos h, btw_true (by omega) (by omega)]
  simp
theorem frame_pop {k b r c : Int} (h : formB k b r c = true) : popF (frameN k b r c) % 2 = 0 := by
  have hN := frameN_range h
  have he := frame_even h
  unfold popF
  rw [btw_true (by omega) (by omega), if_pos rfl]
  have e : popN (frameN k b r c).toNat 32 = popN (frameN k b r c).toNat 15 := popN_up _ 15 (by omega) 17
  rw [e]
  omega
theorem frame_pack {k b r c : Int} (h : formB k b r c = true) : packF k b r c = frameN k b r c % 16384 := by
  have hp := packN_range h
  rw [packF, if_pos h]
  unfold frameN
  generalize popF (packN k b r c) % 2 = t
  omega

set_option maxHeartbeats 4000000 in
theorem law_FnCommands (w : World) (hsh : w.ShapedOpen Tryd.prog) (a0 : Option Addr) (n0 c0 : Nat) (z0 : List Int) (r0 : RowIs .u8 w w.heap.size a0 n0 z0) (m0 : n0 ≤ maxLen) : Calls Tryd.prog 5 #[.slice a0 n0 c0] w fun e w' => e = .returned (.bool true) ∧ Ext w w' := by
  have m1 := m0
  unfold maxLen at m1
  by_cases hbig : (1048576 : Int) < (n0 : Int)
  · go_enter Tryd.func5, Tryd.ntmps5
    go_wp2
    go_ret
    exact ⟨rfl, (by repeat (first | exact Ext.refl _ | assumption | refine Ext.alloc ?_ _ | refine Ext.drew ?_ | refine Ext.drewN ?_ _ | refine Ext.setCell ?_ (by first | exact Nat.le_refl _ | (simp; done) | (simp; omega) | omega) _ | (apply Ext.trans; rotate_left; assumption)))⟩
  · obtain ⟨mx, hM⟩ := max_len hsh
    have hMl := World.block_lt_of_cell? _ _ hM
    go_enter Tryd.func5, Tryd.ntmps5
    go_wp2_with (first | (go_at_call 12; go_in))
    refine (draw_command a0 n0 c0 z0 _ r0 m0).mono ?_
    rintro e w1 ⟨a, b, c, d, k, p, q, r, hF, hG, rfl, y1⟩
    have bg := (Box.new w1 35 #[.int .i64 a, .int .i64 b, .int .i64 c, .int .i64 d]).alloc (.cells #[.int .i64 k, .int .i64 p, .int .i64 q, .int .i64 r] 25)
    have bc := Box.new_at (w1.alloc (.cells #[.int .i64 a, .int .i64 b, .int .i64 c, .int .i64 d] 35)) 25 #[.int .i64 k, .int .i64 p, .int .i64 q, .int .i64 r] (w1.heap.size + 1) (by simp)
    have y2 : Ext w ((w1.alloc (.cells #[.int .i64 a, .int .i64 b, .int .i64 c, .int .i64 d] 35)).alloc (.cells #[.int .i64 k, .int .i64 p, .int .i64 q, .int .i64 r] 25)) := (y1.alloc _).alloc _
    obtain ⟨u0, u1, u2, u3⟩ := bc.cell4
    have hIC : IsCmd (strOf (fmtL k p q r)).data.toList k p q r := ⟨hF, (strOf_list _).symm⟩
    have hne := fmt_ne hF
    have hsz : (strOf (fmtL k p q r)).size ≤ 1048576 := by rw [size_strOf]; have := fmt_len hF; omega
    have hs0 : ((strOf (fmtL k p q r)).toList == []) = false := by rw [ByteArray.toList_eq, strOf_list]; simpa using hne
    have hs1 : (strOf (fmtL k p q r)).toList.isEmpty = false := by rw [ByteArray.toList_eq, strOf_list]; simpa using hne
    have HFM := Lib.hid (fun w => impl_format k p q r w)
    obtain ⟨hk0, hk1, hk2, hk3, hk4⟩ := readOk_frame hF
    have hNr := frameN_range hF
    have HPO := Lib.hid (frame_pop hF)
    have HPK := Lib.hid (frame_pack hF)
    have HFR := Lib.hid (fun w => impl_frame k p q r w)
    rw [frameF, if_pos hF] at HFR
    generalize strOf (fmtL k p q r) = T at *
    generalize frameN k p q r = N at *
    have HIC := Lib.hid hIC
    have BG := Lib.hid bg
    have BC := Lib.hid bc
    have KK := Lib.hid (And.intro hk1 (And.intro hk2 (And.intro hk3 hk4)))
    clear bg bc y1 hIC hne hF hk1 hk2 hk3 hk4
    go_wp2_with fail
    refine (HFM.out _).mono ?_
    rintro e w2 ⟨rfl, x2⟩
    have y3 := y2.trans x2
    clear u0 u1 u2 u3 y2
    go_wp2_with fail
    refine (impl_parseC T hsz mx _ ((y3.cell hMl 0).trans hM)).mono ?_
    rintro e w3 ⟨x3, ⟨k', p', q', r', hC', rfl⟩ | ⟨hno', rfl⟩⟩
    · obtain ⟨rfl, rfl, rfl, rfl⟩ := isCmd_inj HIC.out hC'
      have bx := Box.new w3 25 #[.int .i64 k, .int .i64 p, .int .i64 q, .int .i64 r]
      have x23 := (x2.trans x3).alloc (.cells #[.int .i64 k, .int .i64 p, .int .i64 q, .int .i64 r] 25)
      have y4 := (y3.trans x3).alloc (.cells #[.int .i64 k, .int .i64 p, .int .i64 q, .int .i64 r] 25)
      obtain ⟨u0, u1, u2, u3⟩ := (BC.out.ext x23).cell4
      have BX := Lib.hid bx
      clear hC' bx x2 x3 y3 HIC
      go_wp2_with fail
      refine (HFR.out _).mono ?_
      rintro e w4 ⟨rfl, x4⟩
      clear u0 u1 u2 u3
      go_wp2_with fail
      refine (impl_read_yes N hk0 _).mono ?_
      rintro e w5 ⟨rfl, x5⟩
      obtain ⟨e1, e2, e3, e4⟩ := KK.out
      rw [e1, e2, e3, e4]
      have b6 := Box.new w5 25 #[.int .i64 k, .int .i64 p, .int .i64 q, .int .i64 r]
      have x45 := (x4.trans x5).alloc (.cells #[.int .i64 k, .int .i64 p, .int .i64 q, .int .i64 r] 25)
      have y6 := y4.trans x45
      have B6 := Lib.hid b6
      have bg6 := (BG.out.ext x23).ext x45
      have bc6 := (BC.out.ext x23).ext x45
      have bx6 := BX.out.ext x45
      obtain ⟨g0, g1, g2, g3⟩ := bg6.cell4
      obtain ⟨i0, i1, i2, i3⟩ := bc6.cell4
      have BC6 := Lib.hid bc6
      have BX6 := Lib.hid bx6
      have HOK := Lib.hid (fun w => impl_commandOk a b c d k p q r w)
      rw [hG] at HOK
      have hN0 : (0 : Int) < N := by omega
      clear e1 e2 e3 e4 b6 x4 x5 x23 y4 bg6 bc6 bx6 BG BC BX KK
      go_wp2_with fail
      refine (HOK.out _).mono ?_
      rintro e w7 ⟨rfl, x7⟩
      obtain ⟨j0, j1, j2, j3⟩ := (BC6.out.ext x7).cell4
      obtain ⟨l0, l1, l2, l3⟩ := (BX6.out.ext x7).cell4
      obtain ⟨o0, o1, o2, o3⟩ := (B6.out.ext x7).cell4
      have HPF := Lib.hid (fun w => impl_pack k p q r w)
      rw [HPK.out] at HPF
      have HPA := Lib.hid (fun w => spec_parityOf N w)
      rw [HPO.out] at HPA
      have hmod : N.tmod 16384 = N % 16384 := Int.tmod_eq_emod_of_nonneg (by omega)
      have y7 := y6.trans x7
      clear g0 g1 g2 g3 i0 i1 i2 i3
      go_wp2_with (go_at_call 17; refine (HPA.out _).mono ?_; rintro e w' ⟨rfl, rfl⟩)
      refine (HPF.out _).mono ?_
      rintro e w8 ⟨rfl, x8⟩
      go_wp2
      go_ret
      exact ⟨rfl, y7.trans x8⟩
    · exact absurd HIC.out (hno' k p q r)

end Go.Proofs.YtamlfjkkpgmjiaaDoor
