/- Contracts of the reference's draws: a number out of a list, a word, twelve places. -/
import Derived.Test.YtdaphamplgcccaaDrawW
import Derived.OwnWalk
import Derived.Maps.AppendAt
namespace Go.Proofs.Ytdaphamplgcccaa
open Go.RowKit

theorem Ext.grown {a b c : World} {row : Option Nat} (x : Ext a b) (hg : b.grownBy c row) (hr : ∀ k, row = some k → a.heap.size ≤ k) : Ext a c := Below.grown x hg x.le hr
theorem Cur.grown {B g : Nat} {w w' : World} {row : Option Nat} (h : Cur B g w) (hg : w.grownBy w' row) (hne : row ≠ some g) (hB : ∀ k, row = some k → B ≤ k) : Cur B g w' := by
  have hlt := h.lt
  obtain ⟨hBg, a, n, c, zs, i, hh, hrow, hm, hi, hbox⟩ := h
  refine ⟨hBg, a, n, c, zs, i, hh, hrow.keep (fun b o hb => ?_), hm, hi, (hg.block g hlt (Ne.symm hne)).trans hbox⟩
  exact World.cell?_of_block (hg.block b (by omega) (fun e => by have := hB b e.symm; omega))
theorem own_but {w w' : World} {g base : Nat} {e : TypeId} {size n : Nat} {v : Value} {xs : List Value} (h : w.ownsRow base e size v n xs) (hb : But g w w') (hg : g < base) : w'.ownsRow base e size v n xs :=
  h.kept hb (by
    cases hv : v.ownBlock with
    | none => exact .inl rfl
    | some k => exact .inr (fun e => by injection e with e; have := (h.lt k hv).1; omega))

/-- one number of a list -/
theorem pick_any (B g g2 n cap : Nat) (zs : List Int) (hz : zs.length = n) (h1 : 1 ≤ n) (h2 : n ≤ 256) (w : World) (h : Cur B g w) (hg : g2 ≠ g) (hl : g2 < w.heap.size) (hc : ∀ i, i < n → w.cell? ⟨g2, i, none⟩ = some (.int .i64 (zs.getD i 0))) :
    Calls Try.prog 62 #[.pointer (some ⟨g, 0, none⟩), .slice (some ⟨g2, 0, none⟩) n cap] w (Drawn B g w (fun r => r ∈ zs)) := by
  go_enter Try.func62, Try.ntmps62
  go_wp2_with fail
  refine (below_small B g (n : Int) (by omega) (by omega) _ h).mono ?_
  rintro e w1 ⟨r, ⟨r0, r1⟩, rfl, hc1, hb1⟩
  obtain ⟨k, rfl⟩ := Int.eq_ofNat_of_zero_le r0
  have hk : k < n := by omega
  have hck : w1.cell? ⟨g2, k, none⟩ = some (.int .i64 (zs.getD k 0)) := (World.cell?_of_block (hb1.block g2 hl (by simpa using hg))).trans (hc k hk)
  have hm : zs.getD k 0 ∈ zs := by
    rw [List.getD_eq_getElem?_getD, List.getElem?_eq_getElem (by omega)]
    exact List.getElem_mem _
  generalize zs.getD k 0 = z at *
  clear hc
  go_wp2
  go_ret
  exact ⟨z, hm, rfl, hc1, hb1⟩

/-- a word -/
theorem word_any (B g : Nat) (w : World) (h : Cur B g w) : Calls Try.prog 61 #[.pointer (some ⟨g, 0, none⟩)] w (Drawn B g w (fun r => 0 ≤ r ∧ r ≤ 4294967295)) := by
  go_enter Try.func61, Try.ntmps61
  go_wp2_with fail
  refine (below_small B g 4 (by omega) (by omega) _ h).mono ?_
  rintro e w1 ⟨r, ⟨r0, r1⟩, rfl, hc1, hb1⟩
  by_cases h0 : r = 0
  · subst h0
    go_wp2_with fail
    have bx := Box.new w1 3 #[.int .i64 0, .int .i64 1, .int .i64 4294967295, .int .i64 2147483648, .int .i64 65536, .int .i64 305419896]
    refine (pick_any B g w1.heap.size 6 6 [0, 1, 4294967295, 2147483648, 65536, 305419896] rfl (by omega) (by omega) _ (hc1.ext ((Ext.refl _).alloc _)) (by have := hc1.lt; omega) bx.lt (fun i hi => (bx.cell i).trans ?_)).mono ?_
    · rcases i with _ | _ | _ | _ | _ | _ | i
      all_goals first | rfl | omega
    rintro e w2 ⟨r, hr, rfl, hc2, hb2⟩
    have hR : 0 ≤ r ∧ r ≤ 4294967295 := by
      simp only [List.mem_cons, List.not_mem_nil, or_false] at hr
      omega
    clear hr
    go_wp2
    go_ret
    exact ⟨r, hR, rfl, hc2, (hb1.alloc _).trans hb2⟩
  · by_cases h1 : r = 1
    · subst h1
      go_wp2_with fail
      refine (below_small B g 200 (by omega) (by omega) _ hc1).mono ?_
      rintro e w2 ⟨r, ⟨s0, s1⟩, rfl, hc2, hb2⟩
      go_wp2
      go_ret
      exact ⟨r, ⟨s0, by omega⟩, rfl, hc2, hb1.trans hb2⟩
    · go_wp2_with fail
      refine (below_any B g 65536 (by omega) _ hc1).mono ?_
      rintro e w2 ⟨s, ⟨s0, s1⟩, rfl, hc2, hb2⟩
      go_wp2_with fail
      refine (below_any B g 65536 (by omega) _ hc2).mono ?_
      rintro e w3 ⟨u, ⟨u0, u1⟩, rfl, hc3, hb3⟩
      go_wp2
      go_ret
      exact ⟨_, ⟨by omega, by omega⟩, rfl, hc3, (hb1.trans hb2).trans hb3⟩

def DrewInt (w : World) (R : Int → Prop) : Ending → World → Prop := fun e w' => ∃ r, R r ∧ e = .returned (.int .i64 r) ∧ Ext w w'



/-- twelve places in a new block -/
def Places (w : World) : Ending → World → Prop := fun e w' => ∃ (g c : Nat) (zs : List Int), zs.length = 12 ∧ (∀ z ∈ zs, 0 ≤ z ∧ z < 10000) ∧ e = .returned (.slice (some ⟨g, 0, none⟩) 12 c) ∧
  (∀ i, i < 12 → w'.cell? ⟨g, i, none⟩ = some (.int .i64 (zs.getD i 0))) ∧ w.heap.size ≤ g ∧ g < w'.heap.size ∧ Ext w w'

theorem int_info : (Try.prog.info? 3).map (fun i => (i.zero, i.size, i.bytes)) = some (some (.int .i64 0), 1, 8) := by kernel_rfl

theorem places_close {w w' : World} {base : Nat} {v : Value} {zs : List Int} (hz : zs.length = 12) (hr : ∀ z ∈ zs, 0 ≤ z ∧ z < 10000) (hown : w'.ownsRow base 3 1 v 12 (zs.map (Value.int .i64))) (hb : w.heap.size ≤ base) (x : Ext w w') :
    Places w (.returned v) w' := by
  obtain ⟨gg, cap, rfl⟩ := Joins.ownsRow_form hown (by omega)
  have hl := hown.lt gg rfl
  refine ⟨gg, cap, zs, hz, hr, rfl, fun i hi => ?_, by omega, hl.2, x⟩
  rw [hown.cellAt i (by omega), List.getElem?_map, List.getElem?_eq_getElem (by omega), List.getD_eq_getElem?_getD, List.getElem?_eq_getElem (by omega)]
  rfl

set_option maxRecDepth 100000 in
theorem draw_places (a : Option Addr) (n c : Nat) (zs : List Int) (w : World) (h : RowIs .u8 w w.heap.size a n zs) (hm : n ≤ maxLen) : Calls Try.prog 38 #[.slice a n c] w (Places w) := by
  obtain ⟨i0, hi, hz0, hz1, hz2⟩ := info_parts int_info
  go_enter Try.func38, Try.ntmps38
  go_wp2_with fail
  refine (new_any a n c zs _ h hm).mono ?_
  rintro e w1 ⟨g, rfl, hg, hc1, x1⟩
  have hgl := hc1.lt
  clear h hm
  go_wp2
  go_loopw [4, 5] (fun v i wr => ∃ (k : Nat) (ys : List Int), k ≤ 12 ∧ i = .int .i64 k ∧ ys.length = k ∧ (∀ z ∈ ys, 0 ≤ z ∧ z < 10000) ∧ wr.ownsRow w1.heap.size 3 1 v k (ys.map (Value.int .i64)) ∧ Cur w.heap.size g wr ∧ w1.heap.size ≤ wr.heap.size ∧ Ext w wr)
    (fun _ i _ => 12 - (intOf i).toNat)
  case atStart => exact ⟨0, [], by omega, rfl, rfl, by simp, World.ownsRow_made w1 #[] 0 (Nat.le_refl _) (by simp [maxLen]) rfl, hc1.ext ((Ext.refl _).alloc _), by simp, x1.alloc _⟩
  case round =>
    obtain ⟨k, ys, hk, rfl, hyl, hyr, hown, hcr, hsz, xr⟩ := hrel
    by_cases hlt : k < 12
    · go_wp2_with fail
      refine (below_any _ g 10000 (by omega) _ hcr).mono ?_
      rintro e w2 ⟨r, ⟨r0, r1⟩, rfl, hc2, hb2⟩
      have hown2 := own_but hown hb2 hgl
      have hs2 := hb2.size
      have HY := Lib.hid hyl
      clear hyl
      go_wp2_with (at_builtin; refine wpList_append_own _ rfl (.tmp 13) (.tmp 16) 51 rfl w1.heap.size 3 i0 (.int .i64 0) 1 8 Try.underlying51 hi hz0 hz1 hz2 rfl (by decide) _ _ _ rfl (hown2.alloc _) ⟨w2.heap.size, 0, none⟩ 1 1 [.int .i64 r] rfl rfl (cell_one_new _ _ _) ?c2 ?c3 ?c4 ?c5 ?_)
      case c2 => intro u hu; simp at hu; subst hu; rfl
      case c3 => unfold maxLen; omega
      case c4 => omega
      case c5 => simp; omega
      intro v' w3 hown3 hgrow _
      have hlo := fun j hj => (hown2.lt j hj).1
      have hc3 := (hc2.ext ((Ext.refl _).alloc _)).grown hgrow (fun e => by have := hlo g e; omega) (fun j hj => by have := hlo j hj; have := x1.le; omega)
      have x3 := ((But.toExt xr hg hb2).alloc _).grown hgrow (fun j hj => by have := hlo j hj; have := x1.le; omega)
      have hs3 := hgrow.size
      clear hown hown2 hcr hc2 hgrow hlo
      go_wp2
      go_roundw
      case rel => exact ⟨k + 1, ys ++ [r], by omega, by go_num, by simp [HY.out], fun z hz => (by rcases List.mem_append.1 hz with hz | hz; exact hyr z hz; simp at hz; subst hz; exact ⟨r0, r1⟩), by rw [List.map_append]; exact hown3, hc3, (by simp at hs3; omega), x3⟩
      case measure => simp [intOf]; omega
    · obtain rfl : k = 12 := by omega
      go_wp2
      go_ret
      exact places_close hyl hyr hown x1.le xr

end Go.Proofs.Ytdaphamplgcccaa
