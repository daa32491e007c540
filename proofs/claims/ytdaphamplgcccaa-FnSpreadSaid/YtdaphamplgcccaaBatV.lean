/- Contracts of the reference's draws of a request and of a list of requests. -/
import Derived.Test.YtdaphamplgcccaaBatW
set_option maxRecDepth 20000
namespace Go.Proofs.Ytdaphamplgcccaa
open Go.RowKit

theorem info_req : (Try.prog.info? 79).map (·.size) = some 6 := by kernel_rfl
def reqC (a b c : Int) (h : Bool) (d e : Int) : Array Value := #[.int .i64 a, .int .i64 b, .int .i64 c, .bool h, .int .i64 d, .int .i64 e]
theorem Box.put6 {w : World} {g : Nat} {t : TypeId} {x0 x1 x2 x3 x4 x5 : Value} (h : Box w g t #[x0, x1, x2, x3, x4, x5]) (u0 u1 u2 u3 u4 u5 : Value) :
    Box ((((((w.setCell ⟨g, 0, none⟩ u0).setCell ⟨g, 1, none⟩ u1).setCell ⟨g, 2, none⟩ u2).setCell ⟨g, 3, none⟩ u3).setCell ⟨g, 4, none⟩ u4).setCell ⟨g, 5, none⟩ u5) g t #[u0, u1, u2, u3, u4, u5] :=
  (((((h.set 0 u0).set 1 u1).set 2 u2).set 3 u3).set 4 u4).set 5 u5
theorem Box.cell6 {w : World} {g : Nat} {t : TypeId} {a b c d e f : Value} (h : Box w g t #[a, b, c, d, e, f]) :
    w.cell? ⟨g, 0, none⟩ = some a ∧ w.cell? ⟨g, 1, none⟩ = some b ∧ w.cell? ⟨g, 2, none⟩ = some c ∧ w.cell? ⟨g, 3, none⟩ = some d ∧ w.cell? ⟨g, 4, none⟩ = some e ∧ w.cell? ⟨g, 5, none⟩ = some f :=
  ⟨h.cell 0, h.cell 1, h.cell 2, h.cell 3, h.cell 4, h.cell 5⟩
def DrawnReq (B g : Nat) (w : World) : Ending → World → Prop := fun e w' => ∃ (a b c : Int) (h : Bool) (d f : Int), e = .returned (.agg #[.int .i64 a, .int .i64 b, .int .i64 c, .bool h, .int .i64 d, .int .i64 f]) ∧ Cur B g w' ∧ But g w w'

set_option maxHeartbeats 4000000 in
theorem req_any (B g : Nat) (n : Int) (hn : 1 ≤ n) (hn2 : n ≤ 1024) (w : World) (h : Cur B g w) : Calls Try.prog 60 #[.pointer (some ⟨g, 0, none⟩), .int .i64 n] w (DrawnReq B g w) := by
  have hgl := h.lt
  have hBw : B ≤ w.heap.size := by obtain ⟨hB, _⟩ := h; omega
  have b0 := Box.new w 79 #[.int .i64 0, .int .i64 0, .int .i64 0, .bool false, .int .i64 0, .int .i64 0]
  have h0 := h.ext ((Ext.refl w).alloc (.cells #[.int .i64 0, .int .i64 0, .int .i64 0, .bool false, .int .i64 0, .int .i64 0] 79))
  have y0 := (But.refl g w).alloc (.cells #[.int .i64 0, .int .i64 0, .int .i64 0, .bool false, .int .i64 0, .int .i64 0] 79)
  clear h
  go_enter Try.func60, Try.ntmps60
  go_wp2_with fail
  refine (below_small B g 60 (by omega) (by omega) _ h0).mono ?_
  rintro e w1 ⟨a, ha, rfl, h1, v1⟩
  go_wp2_with fail
  refine (below_small B g 3 (by omega) (by omega) _ h1).mono ?_
  rintro e w2 ⟨b, hb, rfl, h2, v2⟩
  go_wp2_with fail
  refine (below_any B g n hn _ h2).mono ?_
  rintro e w3 ⟨c, hc, rfl, h3, v3⟩
  go_wp2_with fail
  refine (below_small B g 50 (by omega) (by omega) _ h3).mono ?_
  rintro e w4 ⟨d, hd, rfl, h4, v4⟩
  have v := ((v1.trans v2).trans v3).trans v4
  have hs4 := v.size
  simp at hs4
  have b4 := But.box v b0 (by omega)
  have y4 := y0.trans v
  clear b0 h0 y0 h1 v1 h2 v2 h3 v3 v4 v
  have ha1 : IntKind.i64.wrap (1 + a) = 1 + a := by rw [IntKind.wrap_i64]; omega
  have c5 := Box.new w4 79 #[.int .i64 (1 + a), .int .i64 b, .int .i64 c, .bool false, .int .i64 0, .int .i64 d]
  have b5 := b4.alloc (.cells #[.int .i64 (1 + a), .int .i64 b, .int .i64 c, .bool false, .int .i64 0, .int .i64 d] 79)
  have h5 := h4.ext ((Ext.refl w4).alloc (.cells #[.int .i64 (1 + a), .int .i64 b, .int .i64 c, .bool false, .int .i64 0, .int .i64 d] 79))
  have y5 := y4.alloc (.cells #[.int .i64 (1 + a), .int .i64 b, .int .i64 c, .bool false, .int .i64 0, .int .i64 d] 79)
  clear b4 h4 y4
  go_wp2_with (first | (go_at_call 59; go_in))
  refine (below_small B g 2 (by omega) (by omega) _ h5).mono ?_
  rintro e w6 ⟨r, -, rfl, h6, v6⟩
  have c6 := But.box v6 c5 (by omega)
  have b6 := But.box v6 b5 (by omega)
  have y6 := y5.trans v6
  clear c5 b5 h5 y5 v6
  have f6 := c6.free
  cases hr : (r == 0) with
  | true =>
    obtain ⟨q0, q1, q2, q3, q4, q5⟩ := c6.cell6
    have c7 : Box (w6.setCell ⟨w4.heap.size, 3, none⟩ (.bool true)) w4.heap.size 79 #[.int .i64 (1 + a), .int .i64 b, .int .i64 c, .bool true, .int .i64 0, .int .i64 d] := c6.set 3 _
    have b7 : Box (w6.setCell ⟨w4.heap.size, 3, none⟩ (.bool true)) w.heap.size 79 #[.int .i64 0, .int .i64 0, .int .i64 0, .bool false, .int .i64 0, .int .i64 0] := b6.other (by simp; omega) _
    have h7 : Cur B g (w6.setCell ⟨w4.heap.size, 3, none⟩ (.bool true)) := h6.set (by simp; omega) (by simp; omega) _
    have y7 : But g w (w6.setCell ⟨w4.heap.size, 3, none⟩ (.bool true)) := y6.set (.inr (by simp; omega)) _
    clear c6 b6 h6 y6
    go_wp2_with fail
    refine (word_any B g _ h7).mono ?_
    rintro e w8 ⟨z, -, rfl, h8, v8⟩
    have c8 := But.box v8 c7 (by omega)
    have b8 := But.box v8 b7 (by omega)
    have y8 := y7.trans v8
    have f8 := c8.free
    have q84 : w8.cell? ⟨w4.heap.size, 4, none⟩ = some (.int .i64 0) := c8.cell 4
    have c9 : Box (w8.setCell ⟨w4.heap.size, 4, none⟩ (.int .i64 z)) w4.heap.size 79 #[.int .i64 (1 + a), .int .i64 b, .int .i64 c, .bool true, .int .i64 z, .int .i64 d] := c8.set 4 _
    have b9 : Box (w8.setCell ⟨w4.heap.size, 4, none⟩ (.int .i64 z)) w.heap.size 79 #[.int .i64 0, .int .i64 0, .int .i64 0, .bool false, .int .i64 0, .int .i64 0] := b8.other (by simp; omega) _
    have H9 : Hid (Cur B g (w8.setCell ⟨w4.heap.size, 4, none⟩ (.int .i64 z))) := h8.set (by simp; omega) (by simp; omega) _
    have Y9 : Hid (But g w (w8.setCell ⟨w4.heap.size, 4, none⟩ (.int .i64 z))) := y8.set (.inr (by simp; omega)) _
    have B9 := Lib.hid b9
    have f9 := b9.free
    obtain ⟨i0, i1, i2, i3, i4, i5⟩ := c9.cell6
    obtain ⟨j0, j1, j2, j3, j4, j5⟩ := b9.cell6
    clear c7 b7 h7 y7 h8 v8 c8 b8 y8 c9 b9 q0 q1 q2 q3 q4 q5
    go_wp2
    refine bodyPost_ret (v := .agg #[.int .i64 (1 + a), .int .i64 b, .int .i64 c, .bool true, .int .i64 z, .int .i64 d]) (results_cell_row Try.results60 _ _ w.heap.size 79 #[.int .i64 (1 + a), .int .i64 b, .int .i64 c, .bool true, .int .i64 z, .int .i64 d] (0, 0) _ ?_ ?_ Try.underlying79 rfl info_req) ?_ ?_
    · rfl
    · exact B9.out.put6 _ _ _ _ _ _
    · rfl
    · exact ⟨_, _, _, _, _, _, rfl, (((((H9.out.set (by simp; omega) (by simpa using hBw) _).set (by simp; omega) (by simpa using hBw) _).set (by simp; omega) (by simpa using hBw) _).set (by simp; omega) (by simpa using hBw) _).set (by simp; omega) (by simpa using hBw) _).set (by simp; omega) (by simpa using hBw) _, (((((Y9.out.set (.inr (by simp)) _).set (.inr (by simp)) _).set (.inr (by simp)) _).set (.inr (by simp)) _).set (.inr (by simp)) _).set (.inr (by simp)) _⟩
  | false =>
    have f9 := b6.free
    obtain ⟨i0, i1, i2, i3, i4, i5⟩ := c6.cell6
    obtain ⟨j0, j1, j2, j3, j4, j5⟩ := b6.cell6
    have H9 := Lib.hid h6
    have Y9 := Lib.hid y6
    have B9 := Lib.hid b6
    clear h6 y6 b6 c6
    go_wp2
    refine bodyPost_ret (v := .agg #[.int .i64 (1 + a), .int .i64 b, .int .i64 c, .bool false, .int .i64 0, .int .i64 d]) (results_cell_row Try.results60 _ _ w.heap.size 79 #[.int .i64 (1 + a), .int .i64 b, .int .i64 c, .bool false, .int .i64 0, .int .i64 d] (0, 0) _ ?_ ?_ Try.underlying79 rfl info_req) ?_ ?_
    · rfl
    · exact B9.out.put6 _ _ _ _ _ _
    · rfl
    · exact ⟨_, _, _, _, _, _, rfl, (((((H9.out.set (by simp; omega) (by simpa using hBw) _).set (by simp; omega) (by simpa using hBw) _).set (by simp; omega) (by simpa using hBw) _).set (by simp; omega) (by simpa using hBw) _).set (by simp; omega) (by simpa using hBw) _).set (by simp; omega) (by simpa using hBw) _, (((((Y9.out.set (.inr (by simp)) _).set (.inr (by simp)) _).set (.inr (by simp)) _).set (.inr (by simp)) _).set (.inr (by simp)) _).set (.inr (by simp)) _⟩

end Go.Proofs.Ytdaphamplgcccaa
