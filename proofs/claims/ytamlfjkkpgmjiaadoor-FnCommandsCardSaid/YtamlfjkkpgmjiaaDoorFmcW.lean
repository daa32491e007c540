/- Contracts of FormatCommand of both sides: the text of a command. -/
import Derived.Test.YtamlfjkkpgmjiaaDoorFmcP
import Derived.Test.YtamlfjkkpgmjiaaDoorCmdR
import Derived.Test.YtamlfjkkpgmjiaaDoorCmdD
import Derived.Test.YtamlfjkkpgmjiaaDoorShelf
import Derived.Test.YtamlfjkkpgmjiaaDoorDecN
import Derived.Deep.RegionHeld3
import Derived.Deep.DeepCutAuto
set_option maxRecDepth 20000
namespace Go.Proofs.YtamlfjkkpgmjiaaDoor
open Go.RowKit
open Go.Lib (decDigits itoa)
attribute [local go_sem ↓] Go.wp_at_zero Go.wp_at_succ

def wordsV : Array Value := #[.string ⟨#[]⟩, .string ⟨#[97, 99, 116]⟩, .string ⟨#[114, 101, 97, 100]⟩, .string ⟨#[119, 114, 105, 116, 101]⟩, .string ⟨#[112, 114, 101]⟩, .string ⟨#[114, 101, 102]⟩, .string ⟨#[100, 111, 119, 110]⟩, .string ⟨#[117, 112]⟩, .string ⟨#[115, 108, 101, 101, 112]⟩, .string ⟨#[119, 97, 107, 101]⟩]
theorem wordsV_get (k : Nat) (h1 : 1 ≤ k) (h2 : k ≤ 9) : wordsV[k]? = some (.string (strOf (wordL k))) := by
  have hc : k = 1 ∨ k = 2 ∨ k = 3 ∨ k = 4 ∨ k = 5 ∨ k = 6 ∨ k = 7 ∨ k = 8 ∨ k = 9 := by omega
  rcases hc with rfl | rfl | rfl | rfl | rfl | rfl | rfl | rfl | rfl <;> rfl
def NewWords (w : World) : Ending → World → Prop := fun e w' => ∃ g : Nat, e = .returned (.slice (some ⟨g, 0, none⟩) 10 10) ∧ w.heap.size ≤ g ∧ Box w' g 9 wordsV ∧ Ext w w'
theorem impl_words (w : World) : Calls Tryd.prog 24 #[] w (NewWords w) := by
  go_enter Tryd.func24, Tryd.ntmps24
  go_wp2
  go_ret
  exact ⟨w.heap.size, rfl, Nat.le_refl _, Box.new w _ _, (Ext.refl w).alloc _⟩
theorem spec_words (w : World) : Calls Tryd.prog 20 #[] w (NewWords w) := by
  go_enter Tryd.func20, Tryd.ntmps20
  go_wp2
  go_ret
  exact ⟨w.heap.size, rfl, Nat.le_refl _, Box.new w _ _, (Ext.refl w).alloc _⟩

theorem impl_itoa_small (n : Nat) (h : n < 100) (w : World) : Calls Tryd.prog 26 #[.int .i64 n] w fun e w' => e = .returned (.string (strOf (decDigits n))) ∧ w = w' := by
  go_enter Tryd.func26, Tryd.ntmps26
  go_wp2_with fail
  refine (Tryd.strconv_Itoa_small n h _).mono ?_
  rintro e w' ⟨rfl, rfl⟩
  go_wp2
  go_ret
  exact ⟨rfl, rfl⟩

/-- the word, then what a used field adds -/
def catB (u : Bool) (S D : ByteArray) : ByteArray := if u then S ++ (⟨#[32]⟩ ++ D) else S
theorem catB_yes (S D : ByteArray) : catB true S D = S ++ (⟨#[32]⟩ ++ D) := rfl
theorem catB_no (S D : ByteArray) : catB false S D = S := rfl
theorem catB_data (u : Bool) (S D : ByteArray) : (catB u S D).data.toList = S.data.toList ++ tailL (if u then [D.data.toList] else []) := by
  cases u
  · simp [catB, tailL]
  · simp [catB, tailL, ByteArray.data_append]
theorem strOf_list (l : List UInt8) : (strOf l).data.toList = l := by simp [strOf]
theorem tailL_append (a b : List (List UInt8)) : tailL (a ++ b) = tailL a ++ tailL b := by simp [tailL]
theorem cat_fmt {k b r c : Int} (h : formB k b r c = true) :
    catB (useC k) (catB (useR k) (catB (useB k) (strOf (wordL k)) (strOf (decDigits b.toNat))) (strOf (decDigits r.toNat))) (strOf (decDigits c.toNat)) = strOf (fmtL k b r c) := by
  have e : (catB (useC k) (catB (useR k) (catB (useB k) (strOf (wordL k)) (strOf (decDigits b.toNat))) (strOf (decDigits r.toNat))) (strOf (decDigits c.toNat))).data.toList = fmtL k b r c := by
    rw [catB_data, catB_data, catB_data, strOf_list, strOf_list, strOf_list, strOf_list, fmtL_yes h, argsL, tailL_append, tailL_append, List.append_assoc, List.append_assoc]
  rw [← e]
  rfl
theorem size_strOf (l : List UInt8) : (strOf l).size = l.length := by simp [strOf, ByteArray.size]

set_option maxHeartbeats 2000000 in
theorem impl_fmt_core (k nb nr nc : Nat) (h1 : 1 ≤ k) (h2 : k ≤ 9) (hb : nb < 100) (hr : nr < 100) (hc : nc < 100) (hf : formB k nb nr nc = true) (u1 u2 u3 : Bool) (e1 : useB k = u1) (e2 : useR k = u2) (e3 : useC k = u3) (w : World) :
    Calls Tryd.prog 8 #[.agg #[.int .i64 k, .int .i64 nb, .int .i64 nr, .int .i64 nc]] w fun e w' => e = .returned (.string (catB u3 (catB u2 (catB u1 (strOf (wordL k)) (strOf (decDigits nb))) (strOf (decDigits nr))) (strOf (decDigits nc)))) ∧ Ext w w' := by
  have b0 := Box.new w 25 #[.int .i64 k, .int .i64 nb, .int .i64 nr, .int .i64 nc]
  have x0 : Ext w (w.alloc (.cells #[.int .i64 k, .int .i64 nb, .int .i64 nr, .int .i64 nc] 25)) := (Ext.refl w).alloc _
  have HK := Lib.hid (wordsV_get k h1 h2)
  have hW : (strOf (wordL k)).size ≤ 5 := by rw [size_strOf]; exact wordL_len (by omega) (by omega)
  have hD1 : (strOf (decDigits nb)).size ≤ 2 := by rw [size_strOf]; exact dec_len2 hb
  have hD2 : (strOf (decDigits nr)).size ≤ 2 := by rw [size_strOf]; exact dec_len2 hr
  have hD3 : (strOf (decDigits nc)).size ≤ 2 := by rw [size_strOf]; exact dec_len2 hc
  have I1 := Lib.hid (fun w => impl_itoa_small nb hb w)
  have I2 := Lib.hid (fun w => impl_itoa_small nr hr w)
  have I3 := Lib.hid (fun w => impl_itoa_small nc hc w)
  generalize strOf (decDigits nb) = D1 at *
  generalize strOf (decDigits nr) = D2 at *
  generalize strOf (decDigits nc) = D3 at *
  generalize strOf (wordL k) = S at *
  have WF := Lib.hid (fun w => well_formed (k : Int) nb nr nc 8 16 8 (by omega) (by omega) (by omega) w)
  have hf' : wfB k nb nr nc 8 16 8 = true := hf
  rw [hf'] at WF
  obtain ⟨q0, q1, q2, q3⟩ := b0.cell4
  go_enter Tryd.func8, Tryd.ntmps8
  go_wp2_with fail
  refine (WF.out _).mono ?_
  rintro e w1 ⟨rfl, x1⟩
  have y1 := x0.trans x1
  have b1 := b0.ext x1
  have B1 := Lib.hid b1
  clear b0 x0 q0 q1 q2 q3 b1
  go_upto_region 3 with (fail)
  have qk0 : w1.cell? ⟨w.heap.size, 0, none⟩ = some (.int .i64 k) := B1.out.cell 0
  have hk0 : (0 : Int) ≤ (k : Int) := by omega
  have hk10 : (k : Int) < 10 := by omega
  have hk10' : k < 10 := by omega
  go_cut [3] (fun s3 wx => s3 = .string S ∧ Ext w1 wx)
  case first =>
    go_region_law (first
      | (go_simp; go_at_call 24; refine (impl_words _).mono ?_; rintro e u1 ⟨g, rfl, hg, bw, v1⟩; have qk := (bw.cell k).trans HK.out; have qc : u1.cell? ⟨w.heap.size, 0, none⟩ = some (.int .i64 k) := (B1.out.drew.ext v1).cell 0))
    all_goals
      go_wp2_with fail
      go_meet
      exact ⟨rfl, (Ext.drew (Ext.refl _)).trans v1⟩
  obtain ⟨rfl, x2⟩ := hcut
  obtain ⟨W2, rfl⟩ : ∃ x : World, x = wc := ⟨_, rfl⟩
  obtain ⟨q0, q1, q2, q3⟩ := (B1.out.ext x2).cell4
  have Y2 := Lib.hid (y1.trans x2)
  have z0 : (ByteArray.mk #[32]).size = 1 := rfl
  have s1 : ∀ D : ByteArray, D.size ≤ 2 → (ByteArray.mk #[32] ++ D).size ≤ 3 ∧ ¬ (9223372036854775807 < (ByteArray.mk #[32]).size + D.size) := fun D h => by rw [ByteArray.size_append, z0]; omega
  have s2 : ∀ A D : ByteArray, A.size ≤ 20 → D.size ≤ 2 → (A ++ (ByteArray.mk #[32] ++ D)).size ≤ A.size + 3 ∧ ¬ (9223372036854775807 < A.size + (ByteArray.mk #[32] ++ D).size) := fun A D h1 h2 => by have := (s1 D h2).1; rw [ByteArray.size_append]; omega
  have r1 := (s1 D1 hD1).2
  have r2 := (s1 D2 hD2).2
  have r3 := (s1 D3 hD3).2
  have t1 := s2 S D1 (by omega) hD1
  have t2 := s2 S D2 (by omega) hD2
  have t3 := s2 S D3 (by omega) hD3
  have t4 := s2 (S ++ (ByteArray.mk #[32] ++ D1)) D2 (by omega) hD2
  have t5 := s2 (S ++ (ByteArray.mk #[32] ++ D1)) D3 (by omega) hD3
  have t6 := s2 (S ++ (ByteArray.mk #[32] ++ D2)) D3 (by omega) hD3
  have t7 := s2 (S ++ (ByteArray.mk #[32] ++ D1) ++ (ByteArray.mk #[32] ++ D2)) D3 (by omega) hD3
  replace t1 := t1.2
  replace t2 := t2.2
  replace t3 := t3.2
  replace t4 := t4.2
  replace t5 := t5.2
  replace t6 := t6.2
  replace t7 := t7.2
  clear s1 s2 y1 x1 x2 B1 hW hD1 hD2 hD3 qk0 HK WF hf hf'
  cases u1 <;> cases u2 <;> cases u3 <;>
    (go_wp2_with (first
      | (go_at_call 25; refine (uses_bank _ _).mono ?_; rintro e w' ⟨rfl, rfl⟩; rw [e1])
      | (go_at_call 27; refine (uses_row _ _).mono ?_; rintro e w' ⟨rfl, rfl⟩; rw [e2])
      | (go_at_call 28; refine (uses_col _ _).mono ?_; rintro e w' ⟨rfl, rfl⟩; rw [e3])
      | (go_at_call 26; (first | refine (I1.out _).mono ?_ | refine (I2.out _).mono ?_ | refine (I3.out _).mono ?_); rintro e w' ⟨rfl, rfl⟩))
     go_ret
     exact ⟨rfl, Y2.out⟩)

set_option maxHeartbeats 2000000 in
/-- FormatCommand of the program -/
theorem impl_format (k b r c : Int) (w : World) : Calls Tryd.prog 8 #[.agg #[.int .i64 k, .int .i64 b, .int .i64 r, .int .i64 c]] w fun e w' => e = .returned (.string (strOf (fmtL k b r c))) ∧ Ext w w' := by
  cases hf : formB k b r c with
  | true =>
    have hr := formB_range hf
    rw [← cat_fmt hf]
    obtain ⟨k, rfl⟩ := Int.eq_ofNat_of_zero_le (show 0 ≤ k by omega)
    obtain ⟨b, rfl⟩ := Int.eq_ofNat_of_zero_le (show 0 ≤ b by omega)
    obtain ⟨r, rfl⟩ := Int.eq_ofNat_of_zero_le (show 0 ≤ r by omega)
    obtain ⟨c, rfl⟩ := Int.eq_ofNat_of_zero_le (show 0 ≤ c by omega)
    exact impl_fmt_core k b r c (by omega) (by omega) (by omega) (by omega) (by omega) hf _ _ _ rfl rfl rfl w
  | false =>
    rw [fmtL_no hf]
    have WF := Lib.hid (fun w => well_formed k b r c 8 16 8 (by omega) (by omega) (by omega) w)
    have hf' : wfB k b r c 8 16 8 = false := hf
    rw [hf'] at WF
    clear hf hf'
    go_enter Tryd.func8, Tryd.ntmps8
    go_wp2_with fail
    refine (WF.out _).mono ?_
    rintro e w1 ⟨rfl, x1⟩
    go_wp2
    go_ret
    exact ⟨rfl, ((Ext.refl w).alloc _).trans x1⟩

end Go.Proofs.YtamlfjkkpgmjiaaDoor
