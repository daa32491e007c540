/- Contracts of BanksTouched: the program where the run does not lie in the memory; the reference. -/
import Derived.Test.YtdaphamplgcccaaTouW
set_option maxRecDepth 20000
namespace Go.Proofs.Ytdaphamplgcccaa
open Go.RowKit

theorem impl_tou_no (a b c d o fr m : Int) (h : Bool) (hB : touB a b c d o fr m = false) (f0 : -9223372036854775808 ≤ fr) (f1 : fr ≤ 9223372036854775807) (w : World) :
    Calls Try.prog 43 #[.agg #[.int .i64 a, .int .i64 b, .int .i64 c, .int .i64 d], .agg #[.int .i64 o, .bool h], .int .i64 fr, .int .i64 m] w (NewL [] w) := by
  have b0 := (Box.new w 25 #[.int .i64 a, .int .i64 b, .int .i64 c, .int .i64 d]).alloc (.cells #[.int .i64 o, .bool h] 43)
  have b1 := Box.new_at (w.alloc (.cells #[.int .i64 a, .int .i64 b, .int .i64 c, .int .i64 d] 25)) 43 #[.int .i64 o, .bool h] (w.heap.size + 1) (by simp)
  have x0 : Ext w ((w.alloc (.cells #[.int .i64 a, .int .i64 b, .int .i64 c, .int .i64 d] 25)).alloc (.cells #[.int .i64 o, .bool h] 43)) := ((Ext.refl w).alloc _).alloc _
  have G := Lib.hid (fun w => impl_geometryOk a b c d w)
  have O := Lib.hid (fun w => impl_mappingOk o h w)
  have C := Lib.hid (fun w => impl_lineCount a b c d w)
  have HL := lineF_range a b c d
  have close : Hid (∀ w', Ext w w' → NewL [] w (.returned (.slice none 0 0)) w') := fun w' x => ⟨none, 0, rfl, World.ownsRow_nil _ _ _ _, x⟩
  unfold touB at hB
  cases hg : geoB a b c d with
  | false =>
    rw [hg] at G
    clear hB HL hg
    go_enter Try.func43, Try.ntmps43
    go_wp2_with fail
    refine (G.out _).mono ?_
    rintro e w1 ⟨rfl, x1⟩
    go_wp2
    go_ret
    exact close.out _ (x0.trans x1)
  | true =>
    rw [hg] at G hB
    rw [Bool.true_and] at hB
    clear hg
    cases ho : btw o 0 2 with
    | false =>
      rw [ho] at O
      clear hB HL ho
      go_enter Try.func43, Try.ntmps43
      go_wp2_with fail
      refine (G.out _).mono ?_
      rintro e w1 ⟨rfl, x1⟩
      obtain ⟨r4, r5⟩ := (b1.ext x1).cell2
      go_wp2_with fail
      refine (O.out _).mono ?_
      rintro e w2 ⟨rfl, x2⟩
      go_wp2
      go_ret
      exact close.out _ ((x0.trans x1).trans x2)
    | true =>
      rw [ho] at O hB
      rw [Bool.true_and] at hB
      clear ho
      by_cases h1 : m < 1
      · clear hB HL
        go_enter Try.func43, Try.ntmps43
        go_wp2_with fail
        refine (G.out _).mono ?_
        rintro e w1 ⟨rfl, x1⟩
        obtain ⟨r4, r5⟩ := (b1.ext x1).cell2
        go_wp2_with fail
        refine (O.out _).mono ?_
        rintro e w2 ⟨rfl, x2⟩
        go_wp2
        go_ret
        exact close.out _ ((x0.trans x1).trans x2)
      · by_cases h2 : fr < 0
        · clear hB HL
          go_enter Try.func43, Try.ntmps43
          go_wp2_with fail
          refine (G.out _).mono ?_
          rintro e w1 ⟨rfl, x1⟩
          obtain ⟨r4, r5⟩ := (b1.ext x1).cell2
          go_wp2_with fail
          refine (O.out _).mono ?_
          rintro e w2 ⟨rfl, x2⟩
          go_wp2
          go_ret
          exact close.out _ ((x0.trans x1).trans x2)
        · have h3 : lineF a b c d - fr < m := by
            rcases Int.lt_or_le (lineF a b c d - fr) m with h3 | h3
            · exact h3
            · exfalso
              rw [decide_eq_true (show 1 ≤ m by omega), decide_eq_true (show 0 ≤ fr by omega), decide_eq_true h3] at hB
              simp at hB
          clear hB
          generalize lineF a b c d = L at *
          go_enter Try.func43, Try.ntmps43
          go_wp2_with fail
          refine (G.out _).mono ?_
          rintro e w1 ⟨rfl, x1⟩
          obtain ⟨r4, r5⟩ := (b1.ext x1).cell2
          go_wp2_with fail
          refine (O.out _).mono ?_
          rintro e w2 ⟨rfl, x2⟩
          obtain ⟨s0, s1, s2, s3⟩ := (b0.ext (x1.trans x2)).cell4
          go_wp2_with fail
          refine (C.out _).mono ?_
          rintro e w3 ⟨rfl, x3⟩
          go_wp2
          go_ret
          exact close.out _ (((x0.trans x1).trans x2).trans x3)

end Go.Proofs.Ytdaphamplgcccaa
