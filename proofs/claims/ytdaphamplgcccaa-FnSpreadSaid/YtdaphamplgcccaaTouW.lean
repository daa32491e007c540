/- Contracts of BanksTouched of both sides. -/
import Derived.Test.YtdaphamplgcccaaTouP
import Derived.Test.YtdaphamplgcccaaMapV
import Derived.Test.YtdaphamplgcccaaIntW
set_option maxRecDepth 20000
namespace Go.Proofs.Ytdaphamplgcccaa
open Go.RowKit

/-- a slice of the call's own that holds zs -/
def NewL (zs : List Int) (w : World) : Ending → World → Prop := fun e w' => ∃ a cap, e = .returned (.slice a zs.length cap) ∧ Own w' w.heap.size a zs.length cap zs ∧ Ext w w'
theorem own_slice {w : World} {base e size n : Nat} {v : Value} {xs : List Value} (h : w.ownsRow base e size v n xs) : ∃ a c, v = .slice a n c := by
  rcases h.2 with ⟨rfl, rfl⟩ | ⟨g, cap, cur, rfl, -⟩
  · exact ⟨_, _, rfl⟩
  · exact ⟨_, _, rfl⟩
theorem own_ext {w w' : World} {base e size n : Nat} {v : Value} {xs : List Value} (h : w.ownsRow base e size v n xs) (x : Ext w w') : w'.ownsRow base e size v n xs := by
  refine ⟨h.1, ?_⟩
  rcases h.2 with h2 | ⟨g, c, cur, hv, hg, hh, r⟩
  · exact .inl h2
  · exact .inr ⟨g, c, cur, hv, hg, (Below.block x g (Array.getElem?_eq_some_iff.1 hh).1).trans hh, r⟩
theorem own_less {w : World} {base base' e size n : Nat} {v : Value} {xs : List Value} (h : w.ownsRow base e size v n xs) (hb : base' ≤ base) : w.ownsRow base' e size v n xs := by
  refine ⟨h.1, ?_⟩
  rcases h.2 with h2 | ⟨g, c, cur, hv, hg, r⟩
  · exact .inl h2
  · exact .inr ⟨g, c, cur, hv, by omega, r⟩
theorem Box.grown {w w' : World} {g : Nat} {t : TypeId} {cs : Array Value} {row : Option Nat} (h : Box w g t cs) (hg : w.grownBy w' row) (hne : row ≠ some g) : Box w' g t cs := (hg.block g h.lt (fun e => hne e.symm)).trans h
theorem bool_info : (Try.prog.info? 4).map (fun i => (i.zero, i.size, i.bytes)) = some (some (.bool false), 1, 1) := by kernel_rfl

/-- what MapLine says of the lines of a run -/
def RunOf (F : Nat) (a b c d o fr : Int) (h : Bool) (M : Nat) (f Y Z : Nat → Int) : Prop := ∀ i, i < M → ∀ w, Calls Try.prog F #[.agg #[.int .i64 a, .int .i64 b, .int .i64 c, .int .i64 d], .agg #[.int .i64 o, .bool h], .int .i64 (fr + i)] w fun e w' => e = .returned (.tuple #[.agg #[.int .i64 (f i), .int .i64 (Y i), .int .i64 (Z i)], .bool true]) ∧ Ext w w'

set_option maxHeartbeats 4000000 in
theorem impl_tou_core (a b c d o fr L : Int) (h : Bool) (M N : Nat) (f Y Z : Nat → Int) (hN : 1 ≤ N ∧ N ≤ 8) (hM : 1 ≤ M ∧ M ≤ 1024) (hfr : 0 ≤ fr ∧ fr ≤ 1024) (hL : (M : Int) ≤ L - fr ∧ L ≤ 1024) (hb : ∀ i, i < M → 0 ≤ f i ∧ f i < N)
    (HG : ∀ w, Calls Try.prog 39 #[.agg #[.int .i64 a, .int .i64 b, .int .i64 c, .int .i64 d]] w fun e w' => e = .returned (.bool true) ∧ Ext w w')
    (HO : ∀ w, Calls Try.prog 41 #[.agg #[.int .i64 o, .bool h]] w fun e w' => e = .returned (.bool true) ∧ Ext w w')
    (HC : ∀ w, Calls Try.prog 20 #[.agg #[.int .i64 a, .int .i64 b, .int .i64 c, .int .i64 d]] w fun e w' => e = .returned (.int .i64 L) ∧ Ext w w')
    (HB : ∀ w, Calls Try.prog 18 #[.agg #[.int .i64 a, .int .i64 b, .int .i64 c, .int .i64 d]] w fun e w' => e = .returned (.int .i64 N) ∧ Ext w w')
    (HM : RunOf 33 a b c d o fr h M f Y Z) (w : World) :
    Calls Try.prog 43 #[.agg #[.int .i64 a, .int .i64 b, .int .i64 c, .int .i64 d], .agg #[.int .i64 o, .bool h], .int .i64 fr, .int .i64 M] w (NewL (touL f M N) w) := by
  obtain ⟨i0, hi, hz0, hz1, hz2⟩ := info_parts int_info
  obtain ⟨j0, hj, hy0, hy1, hy2⟩ := info_parts bool_info
  have b0 := (Box.new w 25 #[.int .i64 a, .int .i64 b, .int .i64 c, .int .i64 d]).alloc (.cells #[.int .i64 o, .bool h] 43)
  have b1 := Box.new_at (w.alloc (.cells #[.int .i64 a, .int .i64 b, .int .i64 c, .int .i64 d] 25)) 43 #[.int .i64 o, .bool h] (w.heap.size + 1) (by simp)
  have x0 : Ext w ((w.alloc (.cells #[.int .i64 a, .int .i64 b, .int .i64 c, .int .i64 d] 25)).alloc (.cells #[.int .i64 o, .bool h] 43)) := ((Ext.refl w).alloc _).alloc _
  have G := Lib.hid HG
  have O := Lib.hid HO
  have C := Lib.hid HC
  have B := Lib.hid HB
  have MM := Lib.hid HM
  have hb' := Lib.hid hb
  clear HG HO HC HB HM hb
  have HL1 := Lib.hid hL
  obtain ⟨q0, q1, q2, q3⟩ := b0.cell4
  have q4 : ((w.alloc (.cells #[.int .i64 a, .int .i64 b, .int .i64 c, .int .i64 d] 25)).alloc (.cells #[.int .i64 o, .bool h] 43)).cell? ⟨w.heap.size + 1, 0, none⟩ = some (.int .i64 o) := b1.cell 0
  have q5 : ((w.alloc (.cells #[.int .i64 a, .int .i64 b, .int .i64 c, .int .i64 d] 25)).alloc (.cells #[.int .i64 o, .bool h] 43)).cell? ⟨w.heap.size + 1, 1, none⟩ = some (.bool h) := b1.cell 1
  go_enter Try.func43, Try.ntmps43
  go_wp2_with fail
  refine (G.out _).mono ?_
  rintro e w1 ⟨rfl, x1⟩
  obtain ⟨r4, r5⟩ := (b1.ext x1).cell2
  go_wp2_with fail
  refine (O.out _).mono ?_
  rintro e w2 ⟨rfl, x2⟩
  obtain ⟨s0, s1, s2, s3⟩ := (b0.ext (x1.trans x2)).cell4
  go_wp2_with fail
  refine (C.out _).mono ?_
  rintro e w3 ⟨rfl, x3⟩
  have b3 := b0.ext ((x1.trans x2).trans x3)
  have c3 := b1.ext ((x1.trans x2).trans x3)
  have y3 := x0.trans ((x1.trans x2).trans x3)
  obtain ⟨u0, u1, u2, u3⟩ := b3.cell4
  clear b0 b1 x0 x1 x2 x3 q0 q1 q2 q3 q4 q5 r4 r5 s0 s1 s2 s3
  have g1 : ¬ (L - fr < (M : Int)) := by omega
  go_wp2_with fail
  refine (B.out _).mono ?_
  rintro e w4 ⟨rfl, x4⟩
  have B4 := Lib.hid (b3.ext x4)
  have C4 := Lib.hid (c3.ext x4)
  have Y4 := Lib.hid (y3.trans x4)
  clear b3 c3 y3 x4 u0 u1 u2 u3
  go_wp2_with (at_make; refine wpList_make_full _ rfl _ _ 73 rfl w4.heap.size 4 j0 (.bool false) 1 Try.underlying73 hj hy0 hy1 _ _ _ _ N rfl rfl rfl rfl (by rw [hy2]; omega) (by unfold maxLen; omega) (Nat.le_refl _) ?_)
  intro w5 hown1 hgrow1
  have x5 := (Ext.refl w4).grown hgrow1 (fun _ e => by cases e)
  have hown : w5.ownsRow w4.heap.size 4 1 (.slice (some ⟨w4.heap.size, 0, none⟩) N N) N ((seenL f 0 N).map Value.bool) := by
    rw [seenL_zero, List.map_replicate]
    simpa [toList_madeCells_one] using hown1
  clear hown1 hgrow1
  have hMI : IntKind.i64.wrap (fr + (M : Int)) = fr + (M : Int) := by rw [IntKind.wrap_i64]; omega
  go_wp2
  go_loopw [10] (fun i wr => ∃ k : Nat, k ≤ M ∧ i = .int .i64 (fr + k) ∧ wr.ownsRow w4.heap.size 4 1 (.slice (some ⟨w4.heap.size, 0, none⟩) N N) N ((seenL f k N).map Value.bool) ∧ Ext w4 wr) (fun i _ => M - (intOf i - fr).toNat)
  case atStart => exact ⟨0, Nat.zero_le _, by go_num, hown, x5⟩
  case round =>
    obtain ⟨k, hk, rfl, ho, xr⟩ := hrel
    clear hown x5
    by_cases hlt : k < M
    · have hltI : fr + (k : Int) < fr + (M : Int) := by omega
      have hf := hb'.out k hlt
      obtain ⟨q0, q1, q2, q3⟩ := (B4.out.ext xr).cell4
      obtain ⟨q4, q5⟩ := (C4.out.ext xr).cell2
      go_wp2_with fail
      refine (MM.out k hlt _).mono ?_
      rintro e w6 ⟨rfl, x6⟩
      obtain ⟨j, hj'⟩ := Int.eq_ofNat_of_zero_le hf.1
      rw [hj'] at hf ⊢
      have hjN : j < N := by omega
      have bx := Box.new w6 33 #[.int .i64 j, .int .i64 (Y k), .int .i64 (Z k)]
      have q6 : (w6.alloc (.cells #[.int .i64 j, .int .i64 (Y k), .int .i64 (Z k)] 33)).cell? ⟨w6.heap.size, 0, none⟩ = some (.int .i64 j) := bx.cell 0
      have ho6 := own_ext ho (x6.alloc (.cells #[.int .i64 j, .int .i64 (Y k), .int .i64 (Z k)] 33))
      have x7 := xr.trans (x6.alloc (.cells #[.int .i64 j, .int .i64 (Y k), .int .i64 (Z k)] 33))
      have f1 := World.ownsRow.frozenAt ho6 j
      have q7 : (w6.alloc (.cells #[.int .i64 j, .int .i64 (Y k), .int .i64 (Z k)] 33)).cell? ⟨w4.heap.size, j, none⟩ = some (.bool ((seenL f k N).getD j false)) := by
        rw [World.ownsRow.cellAt ho6 j (by omega), List.getElem?_map, List.getElem?_eq_getElem (by rw [seenL_len]; omega), List.getD_eq_getElem?_getD, List.getElem?_eq_getElem (by rw [seenL_len]; omega)]
        rfl
      generalize (seenL f k N).getD j false = bb at *
      have hst := (World.ownsRow.stored ho6 j (.bool true)).1
      rw [← List.map_set, seenL_step hj'] at hst
      have x8 : Ext w4 ((w6.alloc (.cells #[.int .i64 j, .int .i64 (Y k), .int .i64 (Z k)] 33)).setCell ⟨w4.heap.size, j, none⟩ (.bool true)) := x7.setCell (Nat.le_refl _) _
      clear ho ho6 x6 x7 xr bx q0 q1 q2 q3 q4 q5 hj'
      go_wp2
      go_roundw
      case rel => exact ⟨k + 1, by omega, by go_num, hst, x8⟩
      case measure => simp [intOf]; omega
    · obtain rfl : k = M := by omega
      obtain ⟨W5, rfl⟩ : ∃ x : World, x = wr := ⟨_, rfl⟩
      have hge : ¬ (fr + (k : Int) < fr + (k : Int)) := by omega
      have QS : ∀ i, i < N → W5.cell? ⟨w4.heap.size, i, none⟩ = some (.bool (anyB f i k)) := fun i hi => by
        rw [World.ownsRow.cellAt ho i (by omega), List.getElem?_map, ← seenL_get hi, List.getD_eq_getElem?_getD, List.getElem?_eq_getElem (by rw [seenL_len]; omega)]
        rfl
      have s5 : w4.heap.size < W5.heap.size := (World.ownsRow.lt ho w4.heap.size rfl).2
      have QL : Hid (∀ x, Ext W5 x → ∀ i, i < N → x.cell? ⟨w4.heap.size, i, none⟩ = some (.bool (anyB f i k))) := fun x hx i hi => (hx.cell s5 i).trans (QS i hi)
      have XR := Lib.hid xr
      have hown0 : (W5.alloc (.cells #[] 3)).ownsRow W5.heap.size 3 1 (.slice (some ⟨W5.heap.size, 0, none⟩) 0 0) 0 [] := World.ownsRow_made (base := W5.heap.size) (e := 3) (size := 1) W5 #[] 0 (Nat.le_refl _) (by simp [maxLen]) rfl
      clear ho QS xr
      go_wp2
      go_loopw [13, 65] (fun v i wr => ∃ p : Nat, p ≤ N ∧ i = .int .i64 p ∧ wr.ownsRow W5.heap.size 3 1 v (touL f k p).length ((touL f k p).map (Value.int .i64)) ∧ W5.heap.size ≤ wr.heap.size ∧ Ext W5 wr) (fun _ i _ => N - (intOf i).toNat)
      case atStart => exact ⟨0, Nat.zero_le _, rfl, hown0, by simp, (Ext.refl _).alloc _⟩
      case round =>
        obtain ⟨p, hp, rfl, ho, hsz, xq⟩ := hrel
        clear hown0
        have hlen := touL_len f k p
        by_cases hlt2 : p < N
        · have hltJ : (p : Int) < (N : Int) := by omega
          have qp := QL.out _ xq p hlt2
          cases hany : anyB f p k with
          | true =>
            have HY := Lib.hid (touL_yes hany)
            rw [hany] at qp
            clear hany
            go_wp2_with (at_builtin; refine wpList_append_own _ rfl (.tmp 71) (.tmp 73) 51 rfl W5.heap.size 3 i0 (.int .i64 0) 1 8 Try.underlying51 hi hz0 hz1 hz2 rfl (by decide) _ _ _ rfl (ho.alloc _) ⟨wr.heap.size, 0, none⟩ 1 1 [.int .i64 p] rfl rfl (cell_one_new _ _ _) ?c2 ?c3 ?c4 ?c5 ?_)
            case c2 => first | rfl | (intro u hu; simp at hu; subst hu; rfl)
            case c3 => unfold maxLen; omega
            case c4 => omega
            case c5 => first | omega | (simp; omega)
            intro v' w8 hown3 hgrow _
            have x8 := (xq.alloc _).grown hgrow (fun j hj => (ho.lt j hj).1)
            have hs3 := hgrow.size
            have hown4 : w8.ownsRow W5.heap.size 3 1 v' (touL f k (p + 1)).length ((touL f k (p + 1)).map (Value.int .i64)) := by
              rw [HY.out, List.length_append, List.map_append]; exact hown3
            clear ho hgrow hown3
            go_wp2
            go_roundw
            case rel => exact ⟨p + 1, by omega, by go_num, hown4, (by first | omega | (simp at hs3; omega)), x8⟩
            case measure => simp [intOf]; omega
          | false =>
            have HY := Lib.hid (touL_no hany)
            rw [hany] at qp
            clear hany
            go_wp2
            go_roundw
            case rel => exact ⟨p + 1, by omega, by go_num, by rw [HY.out]; exact ho, hsz, xq⟩
            case measure => simp [intOf]; omega
        · obtain rfl : p = N := by omega
          have hO : ∃ a c, _ = Value.slice a (touL f k p).length c := own_slice ho
          obtain ⟨a', c', rfl⟩ := hO
          go_wp2
          go_ret
          exact ⟨a', c', rfl, own_less ho (Nat.le_trans Y4.out.le (Nat.le_of_lt s5)), (Y4.out.trans XR.out).trans xq⟩

end Go.Proofs.Ytdaphamplgcccaa
