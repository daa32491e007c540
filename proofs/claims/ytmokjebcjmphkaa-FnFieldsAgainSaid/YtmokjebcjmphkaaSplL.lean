/- The walk of FnExactSplitFields. -/
import Derived.Test.YtmokjebcjmphkaaStrW
namespace Go.Proofs.Ytmokjebcjmphkaa
open Go.RowKit

theorem spec_split_any (s : ByteArray) (w : World) : Calls Try.prog 15 #[.string s] w (Strs (splitF s.data.toList) (splitB s.data.toList) w) := by
  by_cases h : s.size ≤ 600
  · exact spec_split s w h
  · exact spec_split_long s w (by omega)
theorem impl_split_any (s : ByteArray) (w : World) : Calls Try.prog 16 #[.string s] w (Strs (splitF s.data.toList) (splitB s.data.toList) w) := by
  by_cases h : s.size ≤ 600
  · exact impl_split s w h
  · exact impl_split_long s w (by omega)
theorem splitF_len (l : List UInt8) : (splitF l).length ≤ 24 := by
  unfold splitF splitL
  split
  · rename_i h; exact h.2.2
  · simp

theorem law_FnExactSplitFields (w : World) (s0 : ByteArray) (h0 : s0.size ≤ maxLen) : Calls Try.prog 6 #[.string s0] w fun e w' => e = .returned (.bool true) ∧ Ext w w' := by
  unfold maxLen at h0
  by_cases hbig : (1048576 : Int) < (s0.size : Int)
  · go_enter Try.func6, Try.ntmps6
    go_wp2
    go_ret
    exact ⟨rfl, Ext.refl w⟩
  · have hS := Lib.hid (fun w => spec_split_any s0 w)
    have hI := Lib.hid (fun w => impl_split_any s0 w)
    have hlen := splitF_len s0.data.toList
    generalize splitF s0.data.toList = fs at *
    generalize splitB s0.data.toList = ok at *
    go_enter Try.func6, Try.ntmps6
    go_wp2_with fail
    refine (hS.out _).mono ?_
    rintro e w1 ⟨a1, c1, rfl, ho1, x1⟩
    have o1 : OwnS w1 w.heap.size a1 fs.length c1 fs := ho1
    clear ho1
    go_wp2_with fail
    refine (hI.out _).mono ?_
    rintro e w2 ⟨a2, c2, rfl, ho2, x2⟩
    have o2 : OwnS w2 w1.heap.size a2 fs.length c2 fs := ho2
    clear ho2
    generalize hn : fs.length = n at *
    have HN := Lib.hid hn
    clear hn
    go_wp2_with fail
    refine (eq_strs a2 a1 n c2 c1 fs _ o2.reads (o1.ext x2).reads (by omega)).mono ?_
    rintro e w3 ⟨rfl, x3⟩
    have y3 := (x1.trans x2).trans x3
    go_wp2_with fail
    refine (mark_strs a2 n c2 w1.heap.size 1 fs _ (o2.ext x3) (by have := x2.le; have := x3.le; omega) (by omega) (by omega) (by omega)).mono ?_
    rintro e w4 ⟨rfl, o4, t4⟩
    have y4 : Ext w1 w4 := TouchS.toExt (x2.trans x3) t4 o2.far'
    have o1' := o1.ext y4
    have y5 := x1.trans y4
    clear x2 x3 y3 t4 y4 o1 o2 x1
    go_wp2_with fail
    refine (held_strs a2 n c2 1 _ o4.reads (by omega) (by omega) (by omega)).mono ?_
    rintro e w5 ⟨rfl, x5⟩
    go_wp2_with fail
    refine (hI.out _).mono ?_
    rintro e w6 ⟨a6, c6, rfl, ho6, x6⟩
    rw [HN.out] at ho6 ⊢
    have o6 : OwnS w6 w5.heap.size a6 n c6 fs := ho6
    have x56 := x5.trans x6
    clear ho6
    go_wp2_with fail
    refine (eq_strs a6 a1 n c6 c1 fs _ o6.reads (o1'.ext x56).reads (by omega)).mono ?_
    rintro e w7 ⟨rfl, x7⟩
    go_wp2_with fail
    refine (held_strs a2 n c2 1 _ ((o4.ext x56).ext x7).reads (by omega) (by omega) (by omega)).mono ?_
    rintro e w8 ⟨rfl, x8⟩
    go_wp2
    go_ret
    exact ⟨rfl, ((y5.trans x56).trans x7).trans x8⟩

end Go.Proofs.Ytmokjebcjmphkaa
