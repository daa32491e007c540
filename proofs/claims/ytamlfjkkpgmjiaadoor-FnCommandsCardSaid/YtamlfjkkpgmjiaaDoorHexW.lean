/- Walks of EncodeHex. -/
import Derived.Test.YtamlfjkkpgmjiaaDoorDrawP
import Derived.Test.YtamlfjkkpgmjiaaDoorHexP
import Derived.Deep.AppendLies
import Derived.Deep.RegionLaw
import Derived.Lib.BufferRead
namespace Go.Proofs.YtamlfjkkpgmjiaaDoor
open Go.RowKit

def strOf (l : List UInt8) : ByteArray := ⟨l.toArray⟩
def cellsB (l : List UInt8) : List Value := l.map fun b => Value.int .u8 b.toNat
theorem take_snoc (s : ByteArray) (k : Nat) (h : k < s.size) : s.data.toList.take (k + 1) = s.data.toList.take k ++ [s[k]] := by
  rw [List.take_succ_eq_append_getElem (by simpa using h)]; rfl
theorem u8_info : (Tryd.prog.info? 5).map (fun i => (i.zero, i.size, i.bytes)) = some (some (.int .u8 0), 1, 1) := by kernel_rfl

theorem conv_own {w : World} {base : Nat} {v : Value} {l : List UInt8} (h : w.ownsRow base 5 1 v l.length (cellsB l)) : (convert 32 9 v).run Tryd.prog w = .ok (.string (strOf l)) w := by
  rcases h.2 with ⟨rfl, h0⟩ | ⟨g, cap, cur, rfl, -⟩
  · obtain rfl := List.eq_nil_of_length_eq_zero h0
    exact Lib.run_convert_nil_bytes w _ _ 5 0 Tryd.underlying32 Tryd.underlying5 Tryd.underlying9
  · refine run_convert_bytes_back w _ _ 5 ⟨g, 0, none⟩ cap l Tryd.underlying32 Tryd.underlying5 Tryd.underlying9 (fun j hj => ?_)
    have e : (⟨g, 0, none⟩ : Addr).add j = ⟨g, j, none⟩ := by unfold Addr.add; split <;> simp_all
    rw [e, h.cellAt j (by omega), cellsB, List.getElem?_map, List.getElem?_eq_getElem hj]
    rfl
theorem dig_at (n : Nat) (h : n < 16) (p) : (ByteArray.mk #[48, 49, 50, 51, 52, 53, 54, 55, 56, 57, 97, 98, 99, 100, 101, 102])[n]'p = figB n := by
  rcases n with _ | _ | _ | _ | _ | _ | _ | _ | _ | _ | _ | _ | _ | _ | _ | _ | n
  all_goals first | rfl | omega

theorem and15 : ∀ n : Nat, n < 256 → bits .and .u8 (n : Int) 15 = (n : Int) % 16 := by decide +kernel







theorem spec_figure (n : Nat) (x : Int) (hx : x = (n : Int)) (h : n < 16) (w : World) : Calls Tryd.prog 41 #[.int .i64 x] w fun e w' => e = .returned (.int .u8 (figB n).toNat) ∧ w = w' := by
  subst hx
  have hf := figB_toNat n h
  by_cases h1 : (n : Int) < 10
  · rw [if_pos (by omega)] at hf
    go_enter Tryd.func41, Tryd.ntmps41
    go_wp2
    go_ret
    exact ⟨ret_int (by first | omega | (rw [hf]; omega)), rfl⟩
  · rw [if_neg (by omega)] at hf
    go_enter Tryd.func41, Tryd.ntmps41
    go_wp2
    go_ret
    exact ⟨ret_int (by first | omega | (rw [hf]; omega)), rfl⟩





end Go.Proofs.YtamlfjkkpgmjiaaDoor
