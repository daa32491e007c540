/- Contracts of the reference's draws of a list of requests and of a batch. -/
import Derived.Test.YtdaphamplgcccaaBatV
import Derived.Deep.RegionHeld3
import Derived.Deep.DeepCutAuto
import Derived.Deep.DrawnRows
set_option maxRecDepth 20000
namespace Go.Proofs.Ytdaphamplgcccaa
open Go.RowKit
attribute [local go_sem ↓] Go.wp_at_zero Go.wp_at_succ

theorem req_info : (Try.prog.info? 79).map (fun i => (i.zero, i.size, i.bytes)) = some (some (.agg #[.int .i64 0, .int .i64 0, .int .i64 0, .bool false, .int .i64 0, .int .i64 0]), 6, 48) := by kernel_rfl
theorem own_slice {w : World} {base e size n : Nat} {v : Value} {xs : List Value} (h : w.ownsRow base e size v n xs) : ∃ a c, v = .slice a n c := by
  rcases h.2 with ⟨rfl, rfl⟩ | ⟨g, cap, cur, rfl, -⟩
  · exact ⟨_, _, rfl⟩
  · exact ⟨_, _, rfl⟩
theorem ownsRow_ext {w w' : World} {base e size n : Nat} {v : Value} {xs : List Value} (h : w.ownsRow base e size v n xs) (x : Ext w w') : w'.ownsRow base e size v n xs := by
  refine ⟨h.1, ?_⟩
  rcases h.2 with h2 | ⟨g, c, cur, hv, hg, hh, r⟩
  · exact .inl h2
  · exact .inr ⟨g, c, cur, hv, hg, (Below.block x g (Array.getElem?_eq_some_iff.1 hh).1).trans hh, r⟩
def DrawnList (B g : Nat) (w : World) : Ending → World → Prop := fun e w' => ∃ (s : Option Addr) (n cp : Nat), e = .returned (.slice s n cp) ∧ Cur B g w' ∧ But g w w'

set_option maxHeartbeats 4000000 in
theorem list_any (B g : Nat) (n : Int) (hn : 1 ≤ n) (hn2 : n ≤ 1024) (w : World) (h : Cur B g w) : Calls Try.prog 57 #[.pointer (some ⟨g, 0, none⟩), .int .i64 n] w (DrawnList B g w) := by
  obtain ⟨i0, hi, hz0, hz1, hz2⟩ := info_parts req_info
  have hgl := h.lt
  have hBw : B ≤ w.heap.size := by obtain ⟨hB, _⟩ := h; omega
  have h0 := h.ext ((Ext.refl w).alloc (.cells #[] 79))
  have y0 := (But.refl g w).alloc (.cells #[] 79)
  have hown0 : (w.alloc (.cells #[] 79)).ownsRow w.heap.size 79 6 (.slice (some ⟨w.heap.size, 0, none⟩) 0 0) 0 [] := World.ownsRow_made (base := w.heap.size) (e := 79) (size := 6) w #[] 0 (Nat.le_refl _) (by simp [maxLen]) rfl
  clear h
  go_enter Try.func57, Try.ntmps57
  go_wp2
  go_loopw [5, 6] (fun v i wr => ∃ (k : Nat) (xs : List Value), k ≤ 14 ∧ i = .int .i64 k ∧ wr.ownsRow w.heap.size 79 6 v k xs ∧ Cur B g wr ∧ w.heap.size ≤ wr.heap.size ∧ But g w wr) (fun _ i _ => 14 - (intOf i).toNat)
  case atStart => exact ⟨0, [], by omega, rfl, hown0, h0, by simp, y0⟩
  case round =>
    clear hown0 h0 y0
    obtain ⟨k, xs, hk, rfl, ho, cc, hsz, yy⟩ := hrel
    go_wp2_with fail
    refine (below_small B g 14 (by omega) (by omega) _ cc).mono ?_
    rintro e w1 ⟨r, ⟨r0, r1⟩, rfl, c1, v1⟩
    have o1 := own_but ho v1 (by omega)
    have y1 := yy.trans v1
    have s1 := Nat.le_trans hsz v1.size
    clear ho cc yy v1 hsz
    by_cases hlt : (k : Int) < r
    · have hk14 : k < 14 := by omega
      go_wp2_with fail
      refine (req_any B g n hn hn2 _ c1).mono ?_
      rintro e w2 ⟨qa, qb, qc, qh, qd, qf, rfl, c2, v2⟩
      have o2 := own_but o1 v2 (by omega)
      have y2 := (y1.trans v2).alloc (.cells #[.int .i64 qa, .int .i64 qb, .int .i64 qc, .bool qh, .int .i64 qd, .int .i64 qf] 79)
      have s2 := Nat.le_trans s1 v2.size
      have b2 := Box.new w2 79 #[.int .i64 qa, .int .i64 qb, .int .i64 qc, .bool qh, .int .i64 qd, .int .i64 qf]
      have k2 := c2.ext ((Ext.refl w2).alloc (.cells #[.int .i64 qa, .int .i64 qb, .int .i64 qc, .bool qh, .int .i64 qd, .int .i64 qf] 79))
      have l2 := c2.lt
      have o2' := ownsRow_ext o2 ((Ext.refl w2).alloc (.cells #[.int .i64 qa, .int .i64 qb, .int .i64 qc, .bool qh, .int .i64 qd, .int .i64 qf] 79))
      have hbl : ∀ j, (Value.ownBlock u5) = some j → j < w2.heap.size := fun j hj => (o2.lt j hj).2
      clear o1 y1 c2 v2 o2 c1
      go_wp2_with fail
      refine (below_small B g 3 (by omega) (by omega) _ k2).mono ?_
      rintro e w3 ⟨p, hp, rfl, c3, v3⟩
      have hs3 := v3.size
      simp at hs3
      have o3 := own_but o2' v3 (by omega)
      have y3 := y2.trans v3
      have b3 := But.box v3 b2 (by omega)
      have f3 := b3.free
      have q30 : w3.cell? ⟨w2.heap.size, 0, none⟩ = some (.int .i64 qa) := b3.cell 0
      have c4 : Cur B g (w3.setCell ⟨w2.heap.size, 0, none⟩ (.int .i64 (1 + 3 * (k : Int) + p))) := c3.set (by simp; omega) (by simp; omega) _
      have b4 : Box (w3.setCell ⟨w2.heap.size, 0, none⟩ (.int .i64 (1 + 3 * (k : Int) + p))) w2.heap.size 79 #[.int .i64 (1 + 3 * (k : Int) + p), .int .i64 qb, .int .i64 qc, .bool qh, .int .i64 qd, .int .i64 qf] := b3.set 0 _
      have y4 : But g w (w3.setCell ⟨w2.heap.size, 0, none⟩ (.int .i64 (1 + 3 * (k : Int) + p))) := y3.set (.inr (by simp; omega)) _
      have o4 : (w3.setCell ⟨w2.heap.size, 0, none⟩ (.int .i64 (1 + 3 * (k : Int) + p))).ownsRow w.heap.size 79 6 u5 k xs := ownsRow_setCell_other o3 (fun e => by have := hbl _ e; simp at this) _
      clear k2 c3 v3 o2' o3 y2 y3 b2 b3
      go_wp2_with fail
      refine (below_any B g 300 (by omega) _ c4).mono ?_
      rintro e w5 ⟨q, hq, rfl, c5, v5⟩
      have hs5 := v5.size
      simp [World.setCell] at hs5
      have o5 := own_but o4 v5 (by omega)
      have y5 := y4.trans v5
      have b5 := But.box v5 b4 (by omega)
      have f5 := b5.free
      have q55 : w5.cell? ⟨w2.heap.size, 5, none⟩ = some (.int .i64 qf) := b5.cell 5
      generalize (1 + 3 * (k : Int) + p) = qa' at *
      have b6 : Box (w5.setCell ⟨w2.heap.size, 5, none⟩ (.int .i64 q)) w2.heap.size 79 #[.int .i64 qa', .int .i64 qb, .int .i64 qc, .bool qh, .int .i64 qd, .int .i64 q] := b5.set 5 _
      have c6 : Cur B g (w5.setCell ⟨w2.heap.size, 5, none⟩ (.int .i64 q)) := c5.set (by simp; omega) (by simp; omega) _
      have y6 : But g w (w5.setCell ⟨w2.heap.size, 5, none⟩ (.int .i64 q)) := y5.set (.inr (by simp; omega)) _
      have o6 : (w5.setCell ⟨w2.heap.size, 5, none⟩ (.int .i64 q)).ownsRow w.heap.size 79 6 u5 k xs := ownsRow_setCell_other o5 (fun e => by have := hbl _ e; simp at this) _
      obtain ⟨l0, l1, l2', l3, l4, l5⟩ := b6.cell6
      have nb := Box.new_at (w5.setCell ⟨w2.heap.size, 5, none⟩ (.int .i64 q)) 79 #[.int .i64 qa', .int .i64 qb, .int .i64 qc, .bool qh, .int .i64 qd, .int .i64 q] w5.heap.size (by simp [World.setCell])
      have hsz6 : w.heap.size ≤ (w5.setCell ⟨w2.heap.size, 5, none⟩ (.int .i64 q)).heap.size := by simp [World.setCell]; omega
      have hgl6 : g < (w5.setCell ⟨w2.heap.size, 5, none⟩ (.int .i64 q)).heap.size := by simp [World.setCell]; omega
      clear c4 v5 o4 o5 y4 y5 b4 b5 c5 b6
      go_wp2_with (at_builtin; refine wpList_append_own _ rfl (.tmp 28) (.tmp 30) 56 rfl w.heap.size 79 i0 (.agg #[.int .i64 0, .int .i64 0, .int .i64 0, .bool false, .int .i64 0, .int .i64 0]) 6 48 Try.underlying56 hi hz0 hz1 hz2 rfl (by decide) _ _ _ rfl (o6.alloc _) ⟨w5.heap.size, 0, none⟩ 1 1 [.int .i64 qa', .int .i64 qb, .int .i64 qc, .bool qh, .int .i64 qd, .int .i64 q] rfl rfl (fun j u hu => World.news_of_block nb j u hu) ?c2 ?c3 ?c4 ?c5 ?_)
      case c2 => intro u hu; simp at hu; rcases hu with rfl | rfl | rfl | rfl | rfl | rfl <;> rfl
      case c3 => unfold maxLen; omega
      case c4 => omega
      case c5 => first | omega | (simp; omega)
      intro v' w8 hown3 hgrow _
      have hlo := fun j hj => (o6.lt j hj).1
      have c8 := (c6.ext ((Ext.refl _).alloc _)).grown hgrow (fun e => by have := hlo g e; omega) (fun j hj => by have := hlo j hj; omega)
      have y8 := But.grown (y6.alloc _) hgrow (fun j hj => hlo j hj)
      have hs8 := hgrow.size
      clear o6 hgrow c6 y6 l0 l1 l2' l3 l4 l5
      go_wp2
      go_roundw
      case rel => exact ⟨k + 1, _, by omega, by go_num, hown3, c8, (by simp [World.setCell] at hs8; omega), y8⟩
      case measure => simp [intOf]; omega
    · have hO : ∃ a c, _ = Value.slice a k c := own_slice o1
      obtain ⟨a', c', rfl⟩ := hO
      go_wp2
      go_ret
      exact ⟨a', k, c', rfl, c1, y1⟩

end Go.Proofs.Ytdaphamplgcccaa
