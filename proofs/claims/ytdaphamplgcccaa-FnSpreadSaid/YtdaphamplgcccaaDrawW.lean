/- Contracts of the reference's drawing functions: a cursor over the bytes of a draw; each draw leaves everything but the cursor as it was, and its result lies in its range. -/
import Derived.Test.YtdaphamplgcccaaNumW
import Derived.Test.YtdaphamplgcccaaBitsP
namespace Go.Proofs.Ytdaphamplgcccaa
open Go.RowKit

/-- block g is a cursor over bytes that lie below block B -/
def Cur (B g : Nat) (w : World) : Prop :=
  B ≤ g ∧ ∃ (a : Option Addr) (n c : Nat) (zs : List Int) (i : Nat) (h : Int), RowIs .u8 w B a n zs ∧ n ≤ maxLen ∧ i ≤ n ∧ Box w g 75 #[.slice a n c, .int .i64 i, .int .i64 h]

/-- w' is w but for block g and for new blocks -/
def But (g : Nat) (w w' : World) : Prop := w.grownBy w' (some g)
theorem But.refl (g : Nat) (w : World) : But g w w := World.grownBy.refl w _
theorem But.trans {g : Nat} {a b c : World} (h : But g a b) (k : But g b c) : But g a c :=
  ⟨k.os.trans h.os, k.tape.trans h.tape, k.output.trans h.output, Nat.le_trans h.size k.size, fun i hi hne => (k.block i (Nat.lt_of_lt_of_le hi h.size) hne).trans (h.block i hi hne)⟩
theorem But.drew {g : Nat} {a b : World} (h : But g a b) : But g a b.drew := ⟨h.os, h.tape, h.output, h.size, h.block⟩
theorem But.drewN {g : Nat} {a b : World} (h : But g a b) (n : Nat) : But g a (b.drewN n) := h.trans ⟨rfl, rfl, rfl, Nat.le_refl _, fun _ _ _ => rfl⟩
theorem But.alloc {g : Nat} {a b : World} (h : But g a b) (o : Obj) : But g a (b.alloc o) :=
  ⟨h.os, h.tape, h.output, Nat.le_trans h.size (by simp), fun i hi hne => (Below.heap_alloc b o i (Nat.lt_of_lt_of_le hi h.size)).trans (h.block i hi hne)⟩
theorem But.set {g : Nat} {a b : World} (h : But g a b) {p : Addr} (hp : p.block = g ∨ a.heap.size ≤ p.block) (u : Value) : But g a (b.setCell p u) :=
  ⟨h.os, h.tape, h.output, by simpa [World.setCell] using h.size, fun i hi hne => (Below.heap_setCell b p u i (by
    rintro rfl
    rcases hp with hp | hp
    · exact hne (by rw [hp])
    · omega)).trans (h.block i hi hne)⟩
theorem But.ext {g : Nat} {a b : World} (h : Ext a b) : But g a b := ⟨Below.os h, Below.tape h, Below.output h, Below.size h, fun i hi _ => Below.block h i hi⟩
/-- the cursor was made behind W: so everything of W stands -/
theorem But.toExt {g : Nat} {W a b : World} (x : Ext W a) (hg : W.heap.size ≤ g) (h : But g a b) : Ext W b :=
  ⟨h.os.trans (Below.os x), h.tape.trans (Below.tape x), h.output.trans (Below.output x), Nat.le_trans (Below.size x) h.size,
   fun i hi => (h.block i (Nat.lt_of_lt_of_le hi (Below.size x)) (by simp; omega)).trans (Below.block x i hi)⟩
theorem But.box {g g' : Nat} {a b : World} {t : TypeId} {cs : Array Value} (h : But g a b) (hb : Box a g' t cs) (hne : g' ≠ g) : Box b g' t cs := (h.block g' hb.lt (by simpa using hne)).trans hb

theorem Cur.ext {B g : Nat} {w w' : World} (h : Cur B g w) (x : Ext w w') : Cur B g w' := by
  obtain ⟨hB, a, n, c, zs, i, hh, hrow, hm, hi, hbox⟩ := h
  exact ⟨hB, a, n, c, zs, i, hh, x.row hrow (Nat.le_trans hB (Nat.le_of_lt hbox.lt)), hm, hi, hbox.ext x⟩
theorem Cur.lt {B g : Nat} {w : World} (h : Cur B g w) : g < w.heap.size := by
  obtain ⟨_, _, _, _, _, _, _, _, _, _, hbox⟩ := h
  exact hbox.lt
/-- a store elsewhere, not below B -/
theorem Cur.set {B g : Nat} {w : World} (h : Cur B g w) {p : Addr} (hp : p.block ≠ g) (hB : B ≤ p.block) (u : Value) : Cur B g (w.setCell p u) := by
  obtain ⟨hBg, a, n, c, zs, i, hh, hrow, hm, hi, hbox⟩ := h
  exact ⟨hBg, a, n, c, zs, i, hh, hrow.keep (fun b o hb => World.cell?_setCell_other w p _ u (fun e => by subst e; exact absurd hb (by simpa using hB))), hm, hi, hbox.other (Ne.symm hp) u⟩

/-- what a draw leaves: a number that fits R, the cursor, everything else as it was -/
def Drawn (B g : Nat) (w : World) (R : Int → Prop) : Ending → World → Prop := fun e w' => ∃ r, R r ∧ e = .returned (.int .i64 r) ∧ Cur B g w' ∧ But g w w'

theorem and255 (a : Int) : 0 ≤ bits .and .i64 a 255 ∧ bits .and .i64 a 255 ≤ 255 := i64_and_range a 255 (by omega)

theorem cur_one {B g : Nat} {w : World} {a : Option Addr} {n c : Nat} {zs : List Int} {i : Nat} {h : Int} (hB : B ≤ g) (hrow : RowIs .u8 w B a n zs) (hm : n ≤ maxLen) (hi : i ≤ n) (hbox : Box w g 75 #[.slice a n c, .int .i64 i, .int .i64 h]) (V : Int) :
    Cur B g (w.setCell ⟨g, 2, none⟩ (.int .i64 V)) :=
  ⟨hB, a, n, c, zs, i, V, hrow.keep (fun b o hb => World.cell?_setCell_other w _ _ _ (fun e => by injection e with e; omega)), hm, hi, hbox.set 2 _⟩

theorem cur_two {B g : Nat} {w : World} {a : Option Addr} {n c : Nat} {zs : List Int} {i : Nat} {h : Int} (hB : B ≤ g) (hrow : RowIs .u8 w B a n zs) (hm : n ≤ maxLen) (hi : i < n) (hbox : Box w g 75 #[.slice a n c, .int .i64 i, .int .i64 h]) (V : Int) :
    Cur B g ((w.setCell ⟨g, 2, none⟩ (.int .i64 V)).setCell ⟨g, 1, none⟩ (.int .i64 ((i : Int) + 1))) :=
  ⟨hB, a, n, c, zs, i + 1, V, (hrow.keep (fun b o hb => World.cell?_setCell_other w _ _ _ (fun e => by injection e with e; omega))).keep (fun b o hb => World.cell?_setCell_other _ _ _ _ (fun e => by injection e with e; omega)), hm, hi, (hbox.set 2 _).set 1 _⟩

theorem byte_any (B g : Nat) (w : World) (h : Cur B g w) : Calls Try.prog 58 #[.pointer (some ⟨g, 0, none⟩)] w (Drawn B g w (fun r => 0 ≤ r ∧ r ≤ 255)) := by
  obtain ⟨hB, a, n, c, zs, i, hh, hrow, hm, hi, hbox⟩ := h
  obtain ⟨q0, q1, q2⟩ := hbox.cell3
  have f := hbox.free
  have p2 : ∀ v, (w.setCell ⟨g, 2, none⟩ v).cell? ⟨g, 2, none⟩ = some v := fun v => (hbox.set 2 v).cell 2
  have hm' := hm
  unfold maxLen at hm'
  by_cases hlt : i < n
  · obtain ⟨b, o, rfl, hb, hc⟩ := hrow.2.2 (by omega)
    have hci := hc i hlt
    have hne : b ≠ g := by omega
    have hltI : (i : Int) < (n : Int) := by omega
    go_enter Try.func58, Try.ntmps58
    go_wp2
    go_quiet (fail)
    go_wp2
    go_quiet (fail)
    go_wp2
    go_quiet (fail)
    go_wp2
    go_ret
    exact ⟨_, and255 _, rfl, (cur_two hB hrow hm hlt hbox _).ext ((Ext.refl _).drewN _), (((But.refl g w).set (.inl rfl) _).set (.inl rfl) _).drewN _⟩
  · have hd : decide ((i : Int) < (n : Int)) = false := decide_eq_false (by omega)
    go_enter Try.func58, Try.ntmps58
    go_wp2
    go_quiet (fail)
    go_wp2
    go_quiet (fail)
    go_wp2
    go_ret
    exact ⟨_, and255 _, rfl, (cur_one hB hrow hm hi hbox _).ext (((Ext.refl _).drewN _).drewN _), (((But.refl g w).set (.inl rfl) _).drewN _).drewN _⟩

theorem below_small (B g : Nat) (n : Int) (h1 : 1 ≤ n) (h2 : n ≤ 256) (w : World) (h : Cur B g w) : Calls Try.prog 54 #[.pointer (some ⟨g, 0, none⟩), .int .i64 n] w (Drawn B g w (fun r => 0 ≤ r ∧ r < n)) := by
  go_enter Try.func54, Try.ntmps54
  go_wp2_with fail
  refine (byte_any B g _ h).mono ?_
  rintro e w1 ⟨r, ⟨r0, r1⟩, rfl, hc1, hb1⟩
  go_wp2
  go_ret
  exact ⟨_, ⟨Int.emod_nonneg _ (by omega), Int.emod_lt_of_pos _ (by omega)⟩, rfl, hc1, hb1⟩

theorem below_big (B g : Nat) (n : Int) (h1 : 256 < n) (w : World) (h : Cur B g w) : Calls Try.prog 54 #[.pointer (some ⟨g, 0, none⟩), .int .i64 n] w (Drawn B g w (fun r => 0 ≤ r ∧ r < n)) := by
  go_enter Try.func54, Try.ntmps54
  go_wp2_with fail
  refine (byte_any B g _ h).mono ?_
  rintro e w1 ⟨r1, ⟨r10, r11⟩, rfl, hc1, hb1⟩
  go_wp2_with fail
  refine (byte_any B g _ hc1).mono ?_
  rintro e w2 ⟨r2, ⟨r20, r21⟩, rfl, hc2, hb2⟩
  go_wp2_with fail
  refine (byte_any B g _ hc2).mono ?_
  rintro e w3 ⟨r3, ⟨r30, r31⟩, rfl, hc3, hb3⟩
  go_wp2_with fail
  refine (byte_any B g _ hc3).mono ?_
  rintro e w4 ⟨r4, ⟨r40, r41⟩, rfl, hc4, hb4⟩
  go_wp2
  go_ret
  exact ⟨_, ⟨Int.emod_nonneg _ (by omega), Int.emod_lt_of_pos _ (by omega)⟩, rfl, hc4, ((hb1.trans hb2).trans hb3).trans hb4⟩

theorem below_none (B g : Nat) (n : Int) (h1 : n ≤ 0) (w : World) (h : Cur B g w) : Calls Try.prog 54 #[.pointer (some ⟨g, 0, none⟩), .int .i64 n] w (Drawn B g w (fun r => r = 0)) := by
  go_enter Try.func54, Try.ntmps54
  go_wp2
  go_ret
  exact ⟨0, rfl, rfl, h, But.refl _ _⟩

/-- a number below n, for n at least 1 -/
theorem below_any (B g : Nat) (n : Int) (h1 : 1 ≤ n) (w : World) (h : Cur B g w) : Calls Try.prog 54 #[.pointer (some ⟨g, 0, none⟩), .int .i64 n] w (Drawn B g w (fun r => 0 ≤ r ∧ r < n)) := by
  by_cases h2 : n ≤ 256
  · exact below_small B g n h1 h2 w h
  · exact below_big B g n (by omega) w h

/-- the cursor is made: block g, behind everything of w -/
def NewCur (w : World) : Ending → World → Prop := fun e w' => ∃ g, e = .returned (.pointer (some ⟨g, 0, none⟩)) ∧ w.heap.size ≤ g ∧ Cur w.heap.size g w' ∧ Ext w w'

theorem new_close {a : Option Addr} {n c : Nat} {zs : List Int} {w : World} (h : RowIs .u8 w w.heap.size a n zs) (hm : n ≤ maxLen) (v : Int) :
    NewCur w (.returned (.pointer (some ⟨w.heap.size, 0, none⟩))) (w.alloc (.cells #[.slice a n c, .int .i64 0, .int .i64 v] 75)) :=
  ⟨w.heap.size, rfl, Nat.le_refl _, ⟨Nat.le_refl _, a, n, c, zs, 0, v, h.keep (fun _ o hb => (Ext.cell ((Ext.refl w).alloc _) hb o)), hm, Nat.zero_le _, Box.new w _ _⟩, (Ext.refl w).alloc _⟩

set_option maxRecDepth 100000 in
theorem new_any (a : Option Addr) (n c : Nat) (zs : List Int) (w : World) (h : RowIs .u8 w w.heap.size a n zs) (hm : n ≤ maxLen) : Calls Try.prog 53 #[.slice a n c] w (NewCur w) := by
  have hm' := hm
  unfold maxLen at hm'
  go_enter Try.func53, Try.ntmps53
  go_wp2
  go_loop [3, 4] (fun s i => ∃ (k : Nat) (v : Int), k ≤ n ∧ i = .int .i64 k ∧ s = .int .i64 v) (fun _ i => n - (intOf i).toNat)
  case atStart => exact ⟨0, _, by omega, rfl, rfl⟩
  case round =>
    obtain ⟨k, v, hk, rfl, rfl⟩ := hrel
    by_cases hlt : k < n
    · by_cases h4 : k < 4000
      · obtain ⟨b, o, rfl, hb, hc⟩ := h.2.2 (by omega)
        have hck := hc k hlt
        have hltI : (k : Int) < (n : Int) := by omega
        have h4I : (k : Int) < 4000 := by omega
        clear h4
        go_wp2
        go_round
        case rel => exact ⟨k + 1, _, by omega, by go_num, rfl⟩
        case measure => simp [intOf]; omega
      · have hltI : (k : Int) < (n : Int) := by omega
        have h4I : 4000 ≤ (k : Int) := by omega
        clear h4
        go_wp2
        go_ret
        exact new_close h hm _
    · have hgeI : (n : Int) ≤ (k : Int) := by omega
      clear hlt
      go_wp2
      go_ret
      exact new_close h hm _

end Go.Proofs.Ytdaphamplgcccaa
