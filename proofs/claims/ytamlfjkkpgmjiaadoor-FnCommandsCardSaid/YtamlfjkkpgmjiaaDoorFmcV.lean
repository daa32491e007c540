/- The contract of FormatCommand of the reference; the walk of FnExactFormatCommand. -/
import Derived.Test.YtamlfjkkpgmjiaaDoorFmcW
set_option maxRecDepth 20000
namespace Go.Proofs.YtamlfjkkpgmjiaaDoor
open Go.RowKit
open Go.Lib (decDigits itoa)
attribute [local go_sem ↓] Go.wp_at_zero Go.wp_at_succ

/-- the same, as the reference joins it -/
def catS (u : Bool) (S D : ByteArray) : ByteArray := if u then (S ++ ⟨#[32]⟩) ++ D else S
theorem catS_eq (u : Bool) (S D : ByteArray) : catS u S D = catB u S D := by
  cases u
  · rfl
  · show (S ++ _) ++ D = S ++ (_ ++ D)
    apply ByteArray.ext
    simp [ByteArray.data_append, Array.append_assoc]

theorem uses_four {k : Int} (h1 : 1 ≤ k) (h2 : k ≤ 9) : (useB k = true ∧ useR k = true ∧ useC k = false) ∨ (useB k = true ∧ useR k = false ∧ useC k = true) ∨ (useB k = true ∧ useR k = false ∧ useC k = false) ∨ (useB k = false ∧ useR k = false ∧ useC k = false) := by
  rcases nine h1 h2 with rfl | rfl | rfl | rfl | rfl | rfl | rfl | rfl | rfl <;> decide

set_option maxHeartbeats 2000000 in
theorem spec_fmt_core (k nb nr nc : Nat) (h1 : 1 ≤ k) (h2 : k ≤ 9) (hb : nb < 100) (hr : nr < 100) (hc : nc < 100) (hf : formB k nb nr nc = true) (u1 u2 u3 : Bool) (e1 : useB k = u1) (e2 : useR k = u2) (e3 : useC k = u3) (huse : (u1 = true ∧ u2 = true ∧ u3 = false) ∨ (u1 = true ∧ u2 = false ∧ u3 = true) ∨ (u1 = true ∧ u2 = false ∧ u3 = false) ∨ (u1 = false ∧ u2 = false ∧ u3 = false)) (w : World) :
    Calls Tryd.prog 6 #[.agg #[.int .i64 k, .int .i64 nb, .int .i64 nr, .int .i64 nc]] w fun e w' => e = .returned (.string (catS u3 (catS u2 (catS u1 (strOf (wordL k)) (strOf (decDigits nb))) (strOf (decDigits nr))) (strOf (decDigits nc)))) ∧ Ext w w' := by
  have b0 := Box.new w 25 #[.int .i64 k, .int .i64 nb, .int .i64 nr, .int .i64 nc]
  have x0 : Ext w (w.alloc (.cells #[.int .i64 k, .int .i64 nb, .int .i64 nr, .int .i64 nc] 25)) := (Ext.refl w).alloc _
  have HK := Lib.hid (wordsV_get k h1 h2)
  have hW : (strOf (wordL k)).size ≤ 5 := by rw [size_strOf]; exact wordL_len (by omega) (by omega)
  have hD1 : (strOf (decDigits nb)).size ≤ 2 := by rw [size_strOf]; exact dec_len2 hb
  have hD2 : (strOf (decDigits nr)).size ≤ 2 := by rw [size_strOf]; exact dec_len2 hr
  have hD3 : (strOf (decDigits nc)).size ≤ 2 := by rw [size_strOf]; exact dec_len2 hc
  have I1 := Lib.hid (fun w => spec_format nb nb rfl (by omega) w)
  have I2 := Lib.hid (fun w => spec_format nr nr rfl (by omega) w)
  have I3 := Lib.hid (fun w => spec_format nc nc rfl (by omega) w)
  generalize strOf (decDigits nb) = D1 at *
  generalize strOf (decDigits nr) = D2 at *
  generalize strOf (decDigits nc) = D3 at *
  generalize strOf (wordL k) = S at *
  have WF := Lib.hid (fun w => spec_form (k : Int) nb nr nc w)
  rw [hf] at WF
  obtain ⟨q0, q1, q2, q3⟩ := b0.cell4
  go_enter Tryd.func6, Tryd.ntmps6
  go_wp2_with fail
  refine (WF.out _).mono ?_
  rintro e w1 ⟨rfl, x1⟩
  have y1 := x0.trans x1
  have b1 := b0.ext x1
  have B1 := Lib.hid b1
  clear b0 x0 q0 q1 q2 q3 b1
  go_upto_region 3 with (fail)
  have qk0 : w1.cell? ⟨w.heap.size, 0, none⟩ = some (.int .i64 k) := B1.out.cell 0
  have hk0 : (0 : Int) ≤ (k : Int) := by omega
  have hk10 : (k : Int) < 10 := by omega
  have hk10' : k < 10 := by omega
  go_cut [3] (fun s3 wx => s3 = .string S ∧ Ext w1 wx)
  case first =>
    go_region_law (first
      | (go_simp; go_at_call 20; refine (spec_words _).mono ?_; rintro e u1 ⟨g, rfl, hg, bw, v1⟩; have qk := (bw.cell k).trans HK.out; have qc : u1.cell? ⟨w.heap.size, 0, none⟩ = some (.int .i64 k) := (B1.out.drew.ext v1).cell 0))
    all_goals
      go_wp2_with fail
      go_meet
      exact ⟨rfl, (Ext.drew (Ext.refl _)).trans v1⟩
  obtain ⟨rfl, x2⟩ := hcut
  obtain ⟨W2, rfl⟩ : ∃ x : World, x = wc := ⟨_, rfl⟩
  have Y2 := Lib.hid (y1.trans x2)
  have HQ : Hid (∀ x, Ext W2 x → x.cell? ⟨w.heap.size, 0, none⟩ = some (.int .i64 k) ∧ x.cell? ⟨w.heap.size, 1, none⟩ = some (.int .i64 nb) ∧ x.cell? ⟨w.heap.size, 2, none⟩ = some (.int .i64 nr) ∧ x.cell? ⟨w.heap.size, 3, none⟩ = some (.int .i64 nc)) := fun x hx => ((B1.out.ext x2).ext hx).cell4
  obtain ⟨q0, q1, q2, q3⟩ := HQ.out _ (Ext.refl W2)
  have z0 : (ByteArray.mk #[32]).size = 1 := rfl
  have s2 : ∀ A D : ByteArray, A.size ≤ 20 → D.size ≤ 2 → (A ++ ByteArray.mk #[32] ++ D).size ≤ A.size + 3 ∧ ¬ (9223372036854775807 < A.size + (ByteArray.mk #[32]).size) ∧ ¬ (9223372036854775807 < (A ++ ByteArray.mk #[32]).size + D.size) := fun A D h1 h2 => by rw [ByteArray.size_append, ByteArray.size_append, z0]; omega
  have t1 := s2 S D1 (by omega) hD1
  have t2 := s2 S D2 (by omega) hD2
  have t3 := s2 S D3 (by omega) hD3
  have t4 := s2 (S ++ ByteArray.mk #[32] ++ D1) D2 (by omega) hD2
  have t5 := s2 (S ++ ByteArray.mk #[32] ++ D1) D3 (by omega) hD3
  have t6 := s2 (S ++ ByteArray.mk #[32] ++ D2) D3 (by omega) hD3
  have t7 := s2 (S ++ ByteArray.mk #[32] ++ D1 ++ ByteArray.mk #[32] ++ D2) D3 (by omega) hD3
  obtain ⟨-, p1, r1⟩ := t1
  obtain ⟨-, p2, r2⟩ := t2
  obtain ⟨-, p3, r3⟩ := t3
  obtain ⟨-, p4, r4⟩ := t4
  obtain ⟨-, p5, r5⟩ := t5
  obtain ⟨-, p6, r6⟩ := t6
  obtain ⟨-, p7, r7⟩ := t7
  have HU := Lib.hid (fun w => spec_uses (k : Int) u1 u2 u3 (Lib.hid e1) (Lib.hid e2) (Lib.hid e3) w)
  clear s2 y1 x1 x2 B1 hW hD1 hD2 hD3 qk0 HK WF hf e1 e2 e3
  have hcase : (u1 = true ∧ u2 = true ∧ u3 = false) ∨ (u1 = true ∧ u2 = false ∧ u3 = true) ∨ (u1 = true ∧ u2 = false ∧ u3 = false) ∨ (u1 = false ∧ u2 = false ∧ u3 = false) := huse
  rcases hcase with ⟨rfl, rfl, rfl⟩ | ⟨rfl, rfl, rfl⟩ | ⟨rfl, rfl, rfl⟩ | ⟨rfl, rfl, rfl⟩
  · go_wp2_with (go_at_call 21; refine (HU.out _).mono ?_; rintro e w' ⟨rfl, rfl⟩)
    refine (I1.out _).mono ?_
    rintro e v1 ⟨rfl, z1⟩
    obtain ⟨-, -, f12, f13⟩ := HQ.out v1 z1
    go_wp2_with fail
    refine (I2.out _).mono ?_
    rintro e v2 ⟨rfl, z2⟩
    go_wp2
    go_ret
    exact ⟨rfl, (Y2.out.trans z1).trans z2⟩
  · go_wp2_with (go_at_call 21; refine (HU.out _).mono ?_; rintro e w' ⟨rfl, rfl⟩)
    refine (I1.out _).mono ?_
    rintro e v1 ⟨rfl, z1⟩
    obtain ⟨-, -, f12, f13⟩ := HQ.out v1 z1
    go_wp2_with fail
    refine (I3.out _).mono ?_
    rintro e v2 ⟨rfl, z2⟩
    go_wp2
    go_ret
    exact ⟨rfl, (Y2.out.trans z1).trans z2⟩
  · go_wp2_with (go_at_call 21; refine (HU.out _).mono ?_; rintro e w' ⟨rfl, rfl⟩)
    refine (I1.out _).mono ?_
    rintro e v1 ⟨rfl, z1⟩
    go_wp2
    go_ret
    exact ⟨rfl, Y2.out.trans z1⟩
  · go_wp2_with (go_at_call 21; refine (HU.out _).mono ?_; rintro e w' ⟨rfl, rfl⟩)
    go_ret
    exact ⟨rfl, Y2.out⟩

set_option maxHeartbeats 2000000 in
/-- FormatCommand of the reference -/
theorem spec_formatC (k b r c : Int) (w : World) : Calls Tryd.prog 6 #[.agg #[.int .i64 k, .int .i64 b, .int .i64 r, .int .i64 c]] w fun e w' => e = .returned (.string (strOf (fmtL k b r c))) ∧ Ext w w' := by
  cases hf : formB k b r c with
  | true =>
    have hr := formB_range hf
    rw [← cat_fmt hf, ← catS_eq, ← catS_eq, ← catS_eq]
    obtain ⟨k, rfl⟩ := Int.eq_ofNat_of_zero_le (show 0 ≤ k by omega)
    obtain ⟨b, rfl⟩ := Int.eq_ofNat_of_zero_le (show 0 ≤ b by omega)
    obtain ⟨r, rfl⟩ := Int.eq_ofNat_of_zero_le (show 0 ≤ r by omega)
    obtain ⟨c, rfl⟩ := Int.eq_ofNat_of_zero_le (show 0 ≤ c by omega)
    exact spec_fmt_core k b r c (by omega) (by omega) (by omega) (by omega) (by omega) hf _ _ _ rfl rfl rfl (uses_four (by omega) (by omega)) w
  | false =>
    rw [fmtL_no hf]
    have WF := Lib.hid (fun w => spec_form k b r c w)
    rw [hf] at WF
    clear hf
    go_enter Tryd.func6, Tryd.ntmps6
    go_wp2_with fail
    refine (WF.out _).mono ?_
    rintro e w1 ⟨rfl, x1⟩
    go_wp2
    go_ret
    exact ⟨rfl, ((Ext.refl w).alloc _).trans x1⟩

theorem law_FnExactFormatCommand (w : World) (z0 : List Int) (l0 : z0.length = 4) (_ : ∀ z ∈ z0, (Lit.int .i64 z).wf = true) : Calls Tryd.prog 3 #[.agg (intCells z0)] w fun e w' => e = .returned (.bool true) ∧ Ext w w' := by
  obtain ⟨k, b, r, c, rfl⟩ := list4 l0
  show Calls Tryd.prog 3 #[.agg #[.int .i64 k, .int .i64 b, .int .i64 r, .int .i64 c]] w fun e w' => e = .returned (.bool true) ∧ Ext w w'
  have b0 := Box.new w 23 #[.int .i64 k, .int .i64 b, .int .i64 r, .int .i64 c]
  have y0 := (Ext.refl w).alloc (.cells #[.int .i64 k, .int .i64 b, .int .i64 r, .int .i64 c] 23)
  obtain ⟨q0, q1, q2, q3⟩ := b0.cell4
  have HS := Lib.hid (fun w => spec_formatC k b r c w)
  have HI := Lib.hid (fun w => impl_format k b r c w)
  generalize strOf (fmtL k b r c) = T at *
  go_enter Tryd.func3, Tryd.ntmps3
  go_wp2_with fail
  refine (to_command _ _ _ _ _).mono ?_
  rintro e w1 ⟨rfl, x1⟩
  go_wp2_with fail
  refine (HS.out _).mono ?_
  rintro e w2 ⟨rfl, x2⟩
  obtain ⟨p0, p1, p2, p3⟩ := (b0.ext (x1.trans x2)).cell4
  go_wp2_with fail
  refine (to_command _ _ _ _ _).mono ?_
  rintro e w3 ⟨rfl, x3⟩
  go_wp2_with fail
  refine (HI.out _).mono ?_
  rintro e w4 ⟨rfl, x4⟩
  go_wp2
  go_ret
  exact ⟨rfl, (((y0.trans x1).trans x2).trans x3).trans x4⟩

end Go.Proofs.YtamlfjkkpgmjiaaDoor
