/- Contracts of the reference's draws of a mapping, of slots, of a request and of a list of requests. -/
import Derived.Test.YtdaphamplgcccaaGeoD
import Derived.Test.YtdaphamplgcccaaGeoF
import Derived.Test.YtdaphamplgcccaaIntS
import Derived.Deep.AppendLies
import Derived.Deep.RegionLaw
import Derived.BigRegion
set_option maxRecDepth 20000
namespace Go.Proofs.Ytdaphamplgcccaa
open Go.RowKit

theorem But.grown {g : Nat} {a b c : World} {row : Option Nat} (x : But g a b) (hg : b.grownBy c row) (hr : ∀ k, row = some k → a.heap.size ≤ k) : But g a c :=
  ⟨hg.os.trans x.os, hg.tape.trans x.tape, hg.output.trans x.output, Nat.le_trans x.size hg.size, fun i hi hne => (hg.block i (Nat.lt_of_lt_of_le hi x.size) (fun e => by have := hr i e.symm; omega)).trans (x.block i hi hne)⟩
theorem Box.grown' {w w' : World} {g : Nat} {t : TypeId} {cs : Array Value} {row : Option Nat} (h : Box w g t cs) (hg : w.grownBy w' row) (hne : row ≠ some g) : Box w' g t cs := (hg.block g h.lt (fun e => hne e.symm)).trans h

theorem info_map : (Try.prog.info? 43).map (·.size) = some 2 := by kernel_rfl
def DrawnMap (B g : Nat) (w : World) : Ending → World → Prop := fun e w' => ∃ (o : Int) (h : Bool), (0 ≤ o ∧ o < 3) ∧ e = .returned (.agg #[.int .i64 o, .bool h]) ∧ Cur B g w' ∧ But g w w'
theorem Box.put2 {w : World} {g : Nat} {t : TypeId} {x y : Value} (h : Box w g t #[x, y]) (u v : Value) : Box ((w.setCell ⟨g, 0, none⟩ u).setCell ⟨g, 1, none⟩ v) g t #[u, v] := (h.set 0 u).set 1 v

theorem map_any (B g : Nat) (w : World) (h : Cur B g w) : Calls Try.prog 56 #[.pointer (some ⟨g, 0, none⟩)] w (DrawnMap B g w) := by
  have hgl := h.lt
  have hBw : B ≤ w.heap.size := by obtain ⟨hB, _⟩ := h; omega
  have b0 := Box.new w 43 #[.int .i64 0, .bool false]
  have h0 := h.ext ((Ext.refl w).alloc (.cells #[.int .i64 0, .bool false] 43))
  have y0 := (But.refl g w).alloc (.cells #[.int .i64 0, .bool false] 43)
  clear h
  go_enter Try.func56, Try.ntmps56
  go_wp2_with fail
  refine (below_small B g 3 (by omega) (by omega) _ h0).mono ?_
  rintro e w1 ⟨o, ho, rfl, h1, v1⟩
  go_wp2_with (first | (go_at_call 59; go_in))
  refine (below_small B g 2 (by omega) (by omega) _ h1).mono ?_
  rintro e w2 ⟨r, -, rfl, h2, v2⟩
  have b2 := But.box (v1.trans v2) b0 (by omega)
  have y2 := y0.trans (v1.trans v2)
  have f2 := b2.free
  obtain ⟨q0, q1⟩ := b2.cell2
  have H2 := Lib.hid h2
  have Y2 := Lib.hid y2
  have B2 := Lib.hid b2
  clear b0 h0 y0 h1 v1 h2 v2 b2 y2
  go_wp2
  refine bodyPost_ret (v := .agg #[.int .i64 o, .bool (r == 0)]) (results_cell_row Try.results56 _ _ w.heap.size 43 #[.int .i64 o, .bool (r == 0)] (0, 0) _ ?_ ?_ Try.underlying43 rfl info_map) ?_ ?_
  · rfl
  · exact B2.out.put2 _ _
  · rfl
  · exact ⟨o, _, ho, rfl, (H2.out.set (by simp; omega) (by simpa using hBw) _).set (by simp; omega) (by simpa using hBw) _, (Y2.out.set (.inr (by simp)) _).set (.inr (by simp)) _⟩

theorem info_slots : (Try.prog.info? 55).map (·.size) = some 2 := by kernel_rfl
def DrawnSlots (B g : Nat) (w : World) : Ending → World → Prop := fun e w' => ∃ (s : Option Addr) (n cp : Nat) (l : Int), (0 ≤ l ∧ l ≤ 100) ∧ e = .returned (.agg #[.slice s n cp, .int .i64 l]) ∧ Cur B g w' ∧ But g w w'

set_option maxHeartbeats 4000000 in
theorem slots_any (B g : Nat) (w : World) (h : Cur B g w) : Calls Try.prog 55 #[.pointer (some ⟨g, 0, none⟩)] w (DrawnSlots B g w) := by
  obtain ⟨i0, hi, hz0, hz1, hz2⟩ := info_parts int_info
  have hgl := h.lt
  have hBw : B ≤ w.heap.size := by obtain ⟨hB, _⟩ := h; omega
  have b0 := Box.new w 55 #[.slice none 0 0, .int .i64 0]
  have h0 := h.ext ((Ext.refl w).alloc (.cells #[.slice none 0 0, .int .i64 0] 55))
  have y0 := (But.refl g w).alloc (.cells #[.slice none 0 0, .int .i64 0] 55)
  clear h
  go_enter Try.func55, Try.ntmps55
  go_wp2_with fail
  refine (below_small B g 10 (by omega) (by omega) _ h0).mono ?_
  rintro e w1 ⟨r, hr, rfl, h1, v1⟩
  have hs1 := v1.size
  simp at hs1
  have b1 := (But.box v1 b0 (by omega)).alloc (.cells #[.slice none 0 0, .int .i64 (16 + r)] 55)
  have c1 := Box.new w1 55 #[.slice none 0 0, .int .i64 (16 + r)]
  have k1 := h1.ext ((Ext.refl w1).alloc (.cells #[.slice none 0 0, .int .i64 (16 + r)] 55))
  have y1 := (y0.trans v1).alloc (.cells #[.slice none 0 0, .int .i64 (16 + r)] 55)
  clear b0 h0 y0 h1 v1
  go_wp2
  generalize hL : 16 + r = L at *
  have hLr : 0 ≤ L ∧ L ≤ 100 := by omega
  clear hL hr
  go_loopw [4] (fun i wr => ∃ (k cp : Nat) (s : Option Addr) (ys : List Int), k ≤ 6 ∧ i = .int .i64 k ∧ Box wr w1.heap.size 55 #[.slice s k cp, .int .i64 L] ∧ wr.ownsRow (w1.heap.size + 1) 3 1 (.slice s k cp) k (ys.map (Value.int .i64)) ∧ Cur B g wr ∧ Box wr w.heap.size 55 #[.slice none 0 0, .int .i64 0] ∧ But g w wr ∧ w1.heap.size + 1 ≤ wr.heap.size)
    (fun i _ => 6 - (intOf i).toNat)
  case atStart => exact ⟨0, 0, none, [], by omega, rfl, c1, World.ownsRow_nil _ _ _ _, k1, b1, y1, by simp⟩
  case round =>
    clear c1 k1 b1 y1
    obtain ⟨k, cp, s, ys, hk, rfl, bp, ho, cc, br, yy, hsz⟩ := hrel
    go_wp2_with fail
    refine (below_small B g 6 (by omega) (by omega) _ cc).mono ?_
    rintro e w2 ⟨r, ⟨r0, r1⟩, rfl, cc1, v2⟩
    have bp1 := But.box v2 bp (by omega)
    have br1 := But.box v2 br (by omega)
    have yy1 := yy.trans v2
    have ho1 := own_but ho v2 (by omega)
    have hsz1 := Nat.le_trans hsz v2.size
    clear bp br yy ho hsz cc v2
    by_cases hlt : (k : Int) ≤ r
    · have p0 : w2.cell? ⟨w1.heap.size, 0, none⟩ = some (.slice s k cp) := bp1.cell 0
      have f1 := bp1.free
      have ho1d : w2.drew.ownsRow (w1.heap.size + 1) 3 1 (.slice s k cp) k (ys.map (Value.int .i64)) := Own.ext ho1 ((Ext.refl w2).drew)
      have hk6 : k < 6 := by omega
      go_wp2
      go_region_law (first
        | (refine step_append_lies _ rfl (.tmp 16) (.tmp 19) 51 rfl (w1.heap.size + 1) 3 i0 (.int .i64 0) 1 8 Try.underlying51 hi hz0 hz1 hz2 rfl (by decide) (.slice s k cp) _ _ (by simp [Act.eval, Act.put]) (ho2.alloc _) ⟨u2.heap.size, 0, none⟩ 1 1 [.int .i64 z] (by simp [Act.eval, Act.put]) rfl (fun j u hu => World.news_of_block (heap_alloc_new _ _) j u hu) (by intro u hu; simp at hu; subst hu; rfl) (by omega) (by unfold maxLen; omega) (by omega) (by simp; omega) _ rfl ?_; intro gg cap w3 ho3 hgrow hat hlt3; have hlo := fun j hj => (ho2.lt j hj).1; have bp3 := Box.grown' (bp2.alloc (.cells #[.int .i64 z] 3)) hgrow (fun e => by have := hlo _ e; omega); have q3 : w3.cell? ⟨w1.heap.size, 0, none⟩ = some (.slice s k cp) := bp3.cell 0; have f3 := bp3.free)
        | (go_simp; go_at_call 54; refine (below_small B g 3 (by omega) (by omega) _ (cc1.ext ((Ext.refl w2).drew))).mono ?_; rintro e u2 ⟨z, -, rfl, c2, v2⟩; have s2 := v2.size; (try simp at s2); have ho2 : u2.ownsRow (w1.heap.size + 1) 3 1 (.slice s k cp) k (ys.map (Value.int .i64)) := own_but ho1d v2 (by omega); have bp2 := But.box v2 bp1.drew (by omega); have q2 : u2.cell? ⟨w1.heap.size, 0, none⟩ = some (.slice s k cp) := bp2.cell 0; have q2a : (u2.alloc (.cells #[.int .i64 z] 3)).cell? ⟨w1.heap.size, 0, none⟩ = some (.slice s k cp) := (bp2.alloc (.cells #[.int .i64 z] 3)).cell 0; have f2 := bp2.free))
      all_goals
        have c3 := (c2.ext ((Ext.refl u2).alloc (.cells #[.int .i64 z] 3))).grown hgrow (fun e => by have := hlo g e; omega) (fun j hj => by have := hlo j hj; omega)
        have br3 := Box.grown' ((But.box v2 br1.drew (by omega)).alloc (.cells #[.int .i64 z] 3)) hgrow (fun e => by have := hlo _ e; omega)
        have y3 := But.grown ((yy1.drew.trans v2).alloc (.cells #[.int .i64 z] 3)) hgrow (fun j hj => by have := hlo j hj; omega)
        have s3 := hgrow.size
        have ho4 : w3.ownsRow (w1.heap.size + 1) 3 1 (.slice (some ⟨gg, 0, none⟩) (k + 1) cap) (k + 1) ((ys ++ [z]).map (Value.int .i64)) := by
          rw [List.map_append]
          exact ho3
        have O4 := Lib.hid (own_but ho4 ((But.refl w1.heap.size w3).set (p := ⟨w1.heap.size, 0, none⟩) (.inl rfl) (.slice (some ⟨gg, 0, none⟩) (k + 1) cap)) (by omega))
        have P4 : Hid (Box (w3.setCell ⟨w1.heap.size, 0, none⟩ (.slice (some ⟨gg, 0, none⟩) (k + 1) cap)) w1.heap.size 55 #[.slice (some ⟨gg, 0, none⟩) (k + 1) cap, .int .i64 L]) := bp3.set 0 (.slice (some ⟨gg, 0, none⟩) (k + 1) cap)
        have C4 := Lib.hid (c3.set (p := ⟨w1.heap.size, 0, none⟩) (by simp; omega) (by simp; omega) (.slice (some ⟨gg, 0, none⟩) (k + 1) cap))
        have R4 := Lib.hid (br3.other (p := ⟨w1.heap.size, 0, none⟩) (by simp; omega) (.slice (some ⟨gg, 0, none⟩) (k + 1) cap))
        have Y4 := Lib.hid (y3.set (p := ⟨w1.heap.size, 0, none⟩) (.inr (by simp; omega)) (.slice (some ⟨gg, 0, none⟩) (k + 1) cap))
        clear q2a ho1 ho1d ho2 ho3 ho4 hgrow hat hlo bp1 bp2 bp3 br1 cc1 yy1 c2 v2 c3 br3 y3 q2 f2 q3 f3 p0 f1
        go_wp2
        go_roundw
        case rel => exact ⟨k + 1, cap, some ⟨gg, 0, none⟩, ys ++ [z], by omega, by go_num, P4.out, O4.out, C4.out, R4.out, Y4.out, (by simp at s3 ⊢; omega)⟩
        case measure => simp [intOf]; omega
    · have q0 := bp1.cell2.1
      have q1 := bp1.cell2.2
      have p0 := br1.cell2.1
      have p1 := br1.cell2.2
      have f2 := br1.free
      have R1 := Lib.hid br1
      have C1 := Lib.hid cc1
      have Y1 := Lib.hid yy1
      clear bp1 br1 cc1 yy1 ho1
      go_wp2
      refine bodyPost_ret (v := .agg #[.slice s k cp, .int .i64 L]) (results_cell_row Try.results55 _ _ w.heap.size 55 #[.slice s k cp, .int .i64 L] (0, 0) _ ?_ ?_ Try.underlying55 rfl info_slots) ?_ ?_
      · rfl
      · exact R1.out.put2 _ _
      · rfl
      · exact ⟨s, k, cp, L, hLr, rfl, (C1.out.set (by simp; omega) (by simp; omega) _).set (by simp; omega) (by simp; omega) _, (Y1.out.set (.inr (by simp)) _).set (.inr (by simp)) _⟩

end Go.Proofs.Ytdaphamplgcccaa
