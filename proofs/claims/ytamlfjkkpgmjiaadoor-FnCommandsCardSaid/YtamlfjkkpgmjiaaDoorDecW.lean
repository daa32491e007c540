/- Walks of FormatInt and ParseUint (plain seat). -/
import Derived.Test.YtamlfjkkpgmjiaaDoorHexW
import Derived.Test.YtamlfjkkpgmjiaaDoorDecP
set_option maxRecDepth 20000
namespace Go.Proofs.YtamlfjkkpgmjiaaDoor
open Go.RowKit
open Go.Lib (decDigits itoa)

def decX (m : Nat) : List UInt8 := if m = 0 then [] else decDigits m
theorem decX_step (m : Nat) (h : 0 < m) : decX m = decX (m / 10) ++ [figB (m % 10)] := by
  unfold decX
  rw [if_neg (by omega)]
  by_cases h1 : m < 10
  · rw [dec_small h1, if_pos (by omega), List.nil_append, Nat.mod_eq_of_lt h1]
    unfold figB
    rw [if_pos h1]
  · rw [dec_big h1, if_neg (by omega)]
    unfold figB
    rw [if_pos (by omega)]

theorem one_string (w : World) (c : UInt8) : (convert 32 9 (.slice (some ⟨w.heap.size, 0, none⟩) 1 1)).run Tryd.prog (w.alloc (.cells #[.int .u8 c.toNat] 5)) = .ok (.string (strOf [c])) (w.alloc (.cells #[.int .u8 c.toNat] 5)) := by
  refine run_convert_bytes_back _ _ _ 5 ⟨w.heap.size, 0, none⟩ 1 [c] Tryd.underlying32 Tryd.underlying5 Tryd.underlying9 (fun j hj => ?_)
  obtain rfl : j = 0 := by simp at hj; omega
  exact cell_one_new _ _ _ 0 _ rfl

theorem strOf_append (a b : List UInt8) : strOf a ++ strOf b = strOf (a ++ b) := by
  apply ByteArray.ext
  simp [strOf, ByteArray.data_append]

set_option maxHeartbeats 1000000 in
theorem spec_format_pos (n : Nat) (h1 : 0 < n) (h2 : n ≤ 9223372036854775807) (w : World) : Calls Tryd.prog 22 #[.int .i64 n] w fun e w' => e = .returned (.string (strOf (decDigits n))) ∧ Ext w w' := by
  have hlen := dec_length n 18 (by omega)
  have hq : ((n : Int) == 0) = false := by rw [beq_eq_false_iff_ne]; omega
  go_enter Tryd.func22, Tryd.ntmps22
  go_wp2
  go_loopw [0, 4] (fun i v wr => ∃ (m : Nat) (l : List UInt8), m ≤ n ∧ i = .int .i64 m ∧ v = .string (strOf l) ∧ Hid (decX m ++ l = decDigits n) ∧ Ext w wr)
    (fun i _ _ => (intOf i).toNat)
  case atStart => exact ⟨n, [], Nat.le_refl _, rfl, rfl, (by show decX n ++ [] = _; rw [List.append_nil, decX, if_neg (by omega)]), Ext.refl w⟩
  case round =>
    obtain ⟨m, l, hm, rfl, rfl, hd, xr⟩ := hrel
    by_cases h0 : 0 < m
    · have hm0 : (m : Int) ≠ 0 := by omega
      have HS := Lib.hid (decX_step m h0)
      have hl : l.length ≤ 19 := by have := congrArg List.length hd.out; simp at this; omega
      have hsz : (strOf l).size = l.length := by simp [strOf, ByteArray.size]
      have hmd : ¬ (m : Int) % 10 < 0 := by omega
      have hroom : ¬ (9223372036854775807 < (strOf [figB (m % 10)]).size + (strOf l).size) := by rw [hsz]; simp [strOf, ByteArray.size]; omega
      have HC := one_string wr (figB (m % 10))
      go_wp2_with (go_at_call 41; refine (spec_figure (m % 10) _ (by omega) (by omega) _).mono ?_; rintro e w' ⟨rfl, rfl⟩)
      all_goals
        go_roundw
        case rel => exact ⟨m / 10, figB (m % 10) :: l, by omega, by go_num, (by rw [strOf_append]; rfl), (by have := hd.out; rw [HS.out, List.append_assoc] at this; exact this), xr.alloc _⟩
        case measure => simp [intOf]; omega
    · obtain rfl : m = 0 := by omega
      have hdd : l = decDigits n := hd.out
      subst hdd
      go_wp2
      go_ret
      exact ⟨rfl, xr⟩

theorem spec_format (n : Nat) (x : Int) (hx : x = (n : Int)) (h2 : n ≤ 9223372036854775807) (w : World) : Calls Tryd.prog 22 #[.int .i64 x] w fun e w' => e = .returned (.string (strOf (decDigits n))) ∧ Ext w w' := by
  subst hx
  by_cases h1 : 0 < n
  · exact spec_format_pos n h1 h2 w
  · obtain rfl : n = 0 := by omega
    go_enter Tryd.func22, Tryd.ntmps22
    go_wp2
    go_ret
    exact ⟨by rw [dec_small (by omega)]; rfl, Ext.refl w⟩

end Go.Proofs.YtamlfjkkpgmjiaaDoor
