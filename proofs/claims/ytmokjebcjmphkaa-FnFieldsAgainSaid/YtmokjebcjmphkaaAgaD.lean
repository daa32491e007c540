/- Contracts of the reference's draws of a yes or no, of a text out of a list. -/
import Derived.Test.YtmokjebcjmphkaaTextD
namespace Go.Proofs.Ytmokjebcjmphkaa
open Go.RowKit

def DrawnB (B g : Nat) (w : World) : Ending → World → Prop := fun e w' => ∃ b : Bool, e = .returned (.bool b) ∧ Cur B g w' ∧ But g w w'

theorem once_any (B g : Nat) (n : Int) (h1 : 1 ≤ n) (h2 : n ≤ 256) (w : World) (h : Cur B g w) : Calls Try.prog 32 #[.pointer (some ⟨g, 0, none⟩), .int .i64 n] w (DrawnB B g w) := by
  go_enter Try.func32, Try.ntmps32
  go_wp2_with fail
  refine (below_small B g n (by omega) (by omega) _ h).mono ?_
  rintro e w1 ⟨r, -, rfl, c1, v1⟩
  go_wp2
  go_ret
  exact ⟨_, rfl, c1, v1⟩

/-- a text out of a list -/
theorem pickS_any (B g g2 n cap m : Nat) (ss : List ByteArray) (hz : ss.length = n) (h1 : 1 ≤ n) (h2 : n ≤ 256) (hs : ∀ s ∈ ss, s.size ≤ m) (w : World) (h : Cur B g w) (hg : g2 ≠ g) (hl : g2 < w.heap.size) (hc : ∀ i, i < n → w.cell? ⟨g2, i, none⟩ = some (.string (ss.getD i ByteArray.empty))) :
    Calls Try.prog 36 #[.pointer (some ⟨g, 0, none⟩), .slice (some ⟨g2, 0, none⟩) n cap] w (DrawnS B g w (fun s => s.size ≤ m)) := by
  go_enter Try.func36, Try.ntmps36
  go_wp2_with fail
  refine (below_small B g (n : Int) (by omega) (by omega) _ h).mono ?_
  rintro e w1 ⟨r, ⟨r0, r1⟩, rfl, hc1, hb1⟩
  obtain ⟨k, rfl⟩ := Int.eq_ofNat_of_zero_le r0
  have hk : k < n := by omega
  have hck : w1.cell? ⟨g2, k, none⟩ = some (.string (ss.getD k ByteArray.empty)) := (World.cell?_of_block (hb1.block g2 hl (by simpa using hg))).trans (hc k hk)
  have hm : (ss.getD k ByteArray.empty).size ≤ m := by
    refine hs _ ?_
    rw [List.getD_eq_getElem?_getD, List.getElem?_eq_getElem (by omega)]
    exact List.getElem_mem _
  generalize ss.getD k ByteArray.empty = z at *
  clear hc
  go_wp2
  go_ret
  exact ⟨z, hm, rfl, hc1, hb1⟩

end Go.Proofs.Ytmokjebcjmphkaa
