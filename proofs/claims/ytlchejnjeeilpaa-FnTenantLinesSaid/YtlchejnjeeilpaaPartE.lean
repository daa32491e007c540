/- The contract of the reference's draw of a partition (l05Part). -/
import Derived.Test.YtlchejnjeeilpaaPartD
import Derived.Test.YtlchejnjeeilpaaPartW
import Derived.Test.YtlchejnjeeilpaaGeoF
import Derived.Deep.AppendLies
import Derived.Deep.RegionLaw
namespace Go.Proofs.Ytlchejnjeeilpaa
open Go.RowKit

theorem Box.grown {w w' : World} {g : Nat} {t : TypeId} {cs : Array Value} {row : Option Nat} (h : Box w g t cs) (hg : w.grownBy w' row) (hne : row ≠ some g) : Box w' g t cs := (hg.block g h.lt (fun e => hne e.symm)).trans h
theorem But.grown {g : Nat} {a b c : World} {row : Option Nat} (x : But g a b) (hg : b.grownBy c row) (hr : ∀ k, row = some k → a.heap.size ≤ k) : But g a c :=
  ⟨hg.os.trans x.os, hg.tape.trans x.tape, hg.output.trans x.output, Nat.le_trans x.size hg.size, fun i hi hne => (hg.block i (Nat.lt_of_lt_of_le hi x.size) (fun e => by have := hr i e.symm; omega)).trans (x.block i hi hne)⟩
theorem Box.cell1 {w : World} {g : Nat} {t : TypeId} {a : Value} (h : Box w g t #[a]) : w.cell? ⟨g, 0, none⟩ = some a := h.cell 0
theorem info_prt : (Try.prog.info? 49).map (·.size) = some 1 := by kernel_rfl
def DrawnPart (B g : Nat) (K : Int) (w : World) : Ending → World → Prop := fun e w' => ∃ (s : Option Addr) (n cp : Nat) (zs : List Int), (n : Int) = K ∧ n ≤ 8 ∧ e = .returned (.agg #[.slice s n cp]) ∧ Own w' w.heap.size s n cp zs ∧ Cur B g w' ∧ But g w w'

set_option maxHeartbeats 4000000 in
theorem part_any (B g : Nat) (a b c d : Int) (w : World) (h : Cur B g w) : Calls Try.prog 67 #[.pointer (some ⟨g, 0, none⟩), .agg #[.int .i64 a, .int .i64 b, .int .i64 c, .int .i64 d]] w (DrawnPart B g (bankF a b c d) w) := by
  obtain ⟨i0, hi, hz0, hz1, hz2⟩ := info_parts int_info
  have hgl := h.lt
  have hBw : B ≤ w.heap.size := by obtain ⟨hB, _⟩ := h; omega
  have hKr := bankF_range a b c d
  have HBC := Lib.hid (fun w => spec_bankCount a b c d w)
  obtain ⟨K, hK⟩ := Int.eq_ofNat_of_zero_le (show 0 ≤ bankF a b c d by omega)
  rw [hK] at HBC hKr ⊢
  clear hK
  have hK8 : K ≤ 8 := by omega
  have b0 := ((Box.new w 47 #[.int .i64 a, .int .i64 b, .int .i64 c, .int .i64 d]).alloc (.cells #[.slice none 0 0] 49)).alloc (.cells #[.slice none 0 0] 49)
  have b1 := (Box.new_at (w.alloc (.cells #[.int .i64 a, .int .i64 b, .int .i64 c, .int .i64 d] 47)) 49 #[.slice none 0 0] (w.heap.size + 1) (by simp)).alloc (.cells #[.slice none 0 0] 49)
  have b2 := Box.new_at ((w.alloc (.cells #[.int .i64 a, .int .i64 b, .int .i64 c, .int .i64 d] 47)).alloc (.cells #[.slice none 0 0] 49)) 49 #[.slice none 0 0] (w.heap.size + 1 + 1) (by simp)
  have x0 : Ext w (((w.alloc (.cells #[.int .i64 a, .int .i64 b, .int .i64 c, .int .i64 d] 47)).alloc (.cells #[.slice none 0 0] 49)).alloc (.cells #[.slice none 0 0] 49)) := (((Ext.refl w).alloc _).alloc _).alloc _
  have h0 := h.ext x0
  have y0 := But.ext (g := g) x0
  clear h
  go_enter Try.func67, Try.ntmps67
  go_wp2
  generalize hW0 : ((w.alloc (.cells #[.int .i64 a, .int .i64 b, .int .i64 c, .int .i64 d] 47)).alloc (.cells #[.slice none 0 0] 49)).alloc (.cells #[.slice none 0 0] 49) = W0 at b0 b1 b2 x0 h0 y0 ⊢
  have hs0 : W0.heap.size = w.heap.size + 1 + 1 + 1 := by rw [← hW0]; simp
  clear hW0
  go_loopw [6] (fun i wr => ∃ (k cp : Nat) (s : Option Addr) (ys : List Int), k ≤ K ∧ i = .int .i64 k ∧ Box wr (w.heap.size + 1 + 1) 49 #[.slice s k cp] ∧ wr.ownsRow (w.heap.size + 1 + 1 + 1) 3 1 (.slice s k cp) k (ys.map (Value.int .i64)) ∧ Cur B g wr ∧ Box wr w.heap.size 47 #[.int .i64 a, .int .i64 b, .int .i64 c, .int .i64 d] ∧ Box wr (w.heap.size + 1) 49 #[.slice none 0 0] ∧ But g w wr ∧ w.heap.size + 1 + 1 + 1 ≤ wr.heap.size)
    (fun i _ => K - (intOf i).toNat)
  case atStart => exact ⟨0, 0, none, [], Nat.zero_le _, rfl, b2, World.ownsRow_nil _ _ _ _, h0, b0, b1, y0, Nat.le_of_eq hs0.symm⟩
  case round =>
    clear b0 b1 b2 x0 h0 y0 hs0
    obtain ⟨k, cp, s, ys, hk, rfl, bp, ho, cc, bg, br, yy, hsz⟩ := hrel
    obtain ⟨g0, g1, g2, g3⟩ := bg.cell4
    go_wp2_with fail
    refine (HBC.out _).mono ?_
    rintro e w1 ⟨rfl, x1⟩
    have bp1 := bp.ext x1
    have bg1 := bg.ext x1
    have br1 := br.ext x1
    have cc1 := cc.ext x1
    have yy1 := yy.trans (But.ext x1)
    have ho1 : w1.ownsRow (w.heap.size + 1 + 1 + 1) 3 1 (.slice s k cp) k (ys.map (Value.int .i64)) := Own.ext ho x1
    have hsz1 : w.heap.size + 1 + 1 + 1 ≤ w1.heap.size := Nat.le_trans hsz x1.le
    clear bp bg br cc yy ho hsz x1 g0 g1 g2 g3
    by_cases hlt : k < K
    · have hltI : (k : Int) < K := by omega
      have p0 := bp1.cell1
      have f1 := bp1.free
      have ho1d : w1.drew.ownsRow (w.heap.size + 1 + 1 + 1) 3 1 (.slice s k cp) k (ys.map (Value.int .i64)) := Own.ext ho1 ((Ext.refl w1).drew)
      go_wp2
      go_region_law (first
        | (refine step_append_lies _ rfl (.tmp 15) (.tmp 18) 33 rfl (w.heap.size + 1 + 1 + 1) 3 i0 (.int .i64 0) 1 8 Try.underlying33 hi hz0 hz1 hz2 rfl (by decide) (.slice s k cp) _ _ (by simp [Act.eval, Act.put]) (ho2.alloc _) ⟨u2.heap.size, 0, none⟩ 1 1 [.int .i64 r] (by simp [Act.eval, Act.put]) rfl (fun j u hu => World.news_of_block (heap_alloc_new _ _) j u hu) (by intro u hu; simp at hu; subst hu; rfl) (by omega) (by unfold maxLen; omega) (by omega) (by simp; omega) _ rfl ?_; intro gg cap w3 ho3 hgrow hat hlt3; have hlo := fun j hj => (ho2.lt j hj).1; have bp3 := Box.grown (bp2.alloc (.cells #[.int .i64 r] 3)) hgrow (fun e => by have := hlo _ e; omega); have q3 := bp3.cell1; have f3 := bp3.free)
        | (go_simp; go_at_call 56; refine (below_small B g 3 (by omega) (by omega) _ (cc1.ext ((Ext.refl w1).drew))).mono ?_; rintro e u2 ⟨r, -, rfl, c2, v2⟩; have s2 := v2.size; (try simp at s2); have ho2 : u2.ownsRow (w.heap.size + 1 + 1 + 1) 3 1 (.slice s k cp) k (ys.map (Value.int .i64)) := own_but ho1d v2 (by omega); have bp2 := But.box v2 bp1.drew (by omega); have q2 := bp2.cell1; have q2a := (bp2.alloc (.cells #[.int .i64 r] 3)).cell1; have f2 := bp2.free))
      all_goals
        have hBg : B ≤ w.heap.size := hBw
        have c3 := (c2.ext ((Ext.refl u2).alloc (.cells #[.int .i64 r] 3))).grown hgrow (fun e => by have := hlo g e; omega) (fun j hj => by have := hlo j hj; omega)
        have bg3 := Box.grown ((But.box v2 bg1.drew (by omega)).alloc (.cells #[.int .i64 r] 3)) hgrow (fun e => by have := hlo _ e; omega)
        have br3 := Box.grown ((But.box v2 br1.drew (by omega)).alloc (.cells #[.int .i64 r] 3)) hgrow (fun e => by have := hlo _ e; omega)
        have y3 := But.grown ((yy1.drew.trans v2).alloc (.cells #[.int .i64 r] 3)) hgrow (fun j hj => by have := hlo j hj; omega)
        have s3 := hgrow.size
        have ho4 : w3.ownsRow (w.heap.size + 1 + 1 + 1) 3 1 (.slice (some ⟨gg, 0, none⟩) (k + 1) cap) (k + 1) ((ys ++ [r]).map (Value.int .i64)) := by
          rw [List.map_append]
          exact ho3
        have O4 := Lib.hid (own_but ho4 ((But.refl (w.heap.size + 1 + 1) w3).set (p := ⟨w.heap.size + 1 + 1, 0, none⟩) (.inl rfl) (.slice (some ⟨gg, 0, none⟩) (k + 1) cap)) (by omega))
        have P4 := Lib.hid (bp3.set 0 (.slice (some ⟨gg, 0, none⟩) (k + 1) cap))
        have C4 := Lib.hid (c3.set (p := ⟨w.heap.size + 1 + 1, 0, none⟩) (by simp; omega) (by simp; omega) (.slice (some ⟨gg, 0, none⟩) (k + 1) cap))
        have G4 := Lib.hid (bg3.other (p := ⟨w.heap.size + 1 + 1, 0, none⟩) (by simp; omega) (.slice (some ⟨gg, 0, none⟩) (k + 1) cap))
        have R4 := Lib.hid (br3.other (p := ⟨w.heap.size + 1 + 1, 0, none⟩) (by simp) (.slice (some ⟨gg, 0, none⟩) (k + 1) cap))
        have Y4 := Lib.hid (y3.set (p := ⟨w.heap.size + 1 + 1, 0, none⟩) (.inr (by simp; omega)) (.slice (some ⟨gg, 0, none⟩) (k + 1) cap))
        clear q2a ho1 ho1d ho2 ho3 ho4 hgrow hat hlo bp1 bp2 bp3 bg1 br1 cc1 yy1 c2 v2 c3 bg3 br3 y3 q2 f2 q3 f3 p0 f1
        go_wp2
        go_roundw
        case rel => exact ⟨k + 1, cap, some ⟨gg, 0, none⟩, ys ++ [r], by omega, by go_num, P4.out, O4.out, C4.out, G4.out, R4.out, Y4.out, (by simp at s3 ⊢; omega)⟩
        case measure => simp [intOf]; omega
    · obtain rfl : k = K := by omega
      have q1 := bp1.cell1
      have q2 := br1.cell1
      have f2 := br1.free
      have R1 := Lib.hid br1
      have C1 := Lib.hid cc1
      have Y1 := Lib.hid yy1
      have O1 := Lib.hid ho1
      clear bp1 br1 cc1 yy1 ho1 bg1
      go_wp2
      refine bodyPost_ret (v := .agg #[.slice s k cp]) (results_cell_row Try.results67 _ _ (w.heap.size + 1) 49 #[.slice s k cp] (0, 0) _ ?_ ?_ Try.underlying49 rfl info_prt) ?_ ?_
      · rfl
      · exact R1.out.set 0 _
      · rfl
      · exact ⟨s, k, cp, ys, rfl, hK8, rfl, Own.less (own_but O1.out ((But.refl (w.heap.size + 1) w1).set (p := ⟨w.heap.size + 1, 0, none⟩) (.inl rfl) _) (by omega)) (by omega), C1.out.set (by simp; omega) (by simp; omega) _, Y1.out.set (.inr (by simp)) _⟩

end Go.Proofs.Ytlchejnjeeilpaa
