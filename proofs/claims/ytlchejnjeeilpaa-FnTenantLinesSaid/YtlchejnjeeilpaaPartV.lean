/- Contracts of PartitionOk and BanksOf of both sides. -/
import Derived.Test.YtlchejnjeeilpaaPartW
namespace Go.Proofs.Ytlchejnjeeilpaa
open Go.RowKit

theorem partB_no {a b c d : Int} {zs : List Int} {k : Nat} (hk : k < zs.length) (h : btw (zs.getD k 0) 0 3 = false) : partB a b c d zs = false := by
  rw [partB, ownB_no (k := k + 1) (by rw [ownB, h, Bool.and_false]) zs.length (by omega)]; rfl
theorem partB_geo {a b c d : Int} {zs : List Int} (h : geoB a b c d = false) : partB a b c d zs = false := by
  rw [partB, h, Bool.false_and, Bool.and_false]
theorem partB_all {a b c d : Int} {zs : List Int} (h1 : ownB zs zs.length = true) (h : geoB a b c d = true) : partB a b c d zs = decide ((zs.length : Int) = bankF a b c d) := by
  rw [partB, h1, h]; rfl

set_option maxHeartbeats 2000000 in
theorem spec_partitionOk (a b c d : Int) (s : Option Addr) (n cp : Nat) (zs : List Int) (w : World) (hr : RD w s n zs) (hm : n ≤ maxLen) : Calls Try.prog 30 #[.agg #[.int .i64 a, .int .i64 b, .int .i64 c, .int .i64 d], .agg #[.slice s n cp]] w fun e w' => e = .returned (.bool (partB a b c d zs)) ∧ Ext w w' := by
  have hm' := hm
  unfold maxLen at hm'
  have x0 : Ext w ((w.alloc (.cells #[.int .i64 a, .int .i64 b, .int .i64 c, .int .i64 d] 47)).alloc (.cells #[.slice s n cp] 49)) := ((Ext.refl w).alloc _).alloc _
  have b0 := (Box.new w 47 #[.int .i64 a, .int .i64 b, .int .i64 c, .int .i64 d]).alloc (.cells #[.slice s n cp] 49)
  have b1 := Box.new_at (w.alloc (.cells #[.int .i64 a, .int .i64 b, .int .i64 c, .int .i64 d] 47)) 49 #[.slice s n cp] (w.heap.size + 1) (by simp)
  have r0 := hr.ext x0
  have hl := hr.1
  have HLn := Lib.hid hl
  clear hr hl
  go_enter Try.func30, Try.ntmps30
  go_wp2
  generalize (w.alloc (.cells #[.int .i64 a, .int .i64 b, .int .i64 c, .int .i64 d] 47)).alloc (.cells #[.slice s n cp] 49) = W0 at x0 b0 b1 r0 ⊢
  have p0 : W0.cell? ⟨w.heap.size + 1, 0, none⟩ = some (.slice s n cp) := b1.cell 0
  go_loop [5] (fun i => ∃ k : Nat, k ≤ n ∧ i = .int .i64 k ∧ Hid (ownB zs k = true)) (fun i => n - (intOf i).toNat)
  case atStart => exact ⟨0, Nat.zero_le _, rfl, rfl⟩
  case round =>
    obtain ⟨k, hk, rfl, hall⟩ := hrel
    by_cases hlt : k < n
    · obtain ⟨b2, o2, rfl, hb2, hc2⟩ := r0.2 (by omega)
      have hck := hc2 k hlt
      have hltI : (k : Int) < n := by omega
      cases hb : btw (zs.getD k 0) 0 3 with
      | false =>
        have HF := Lib.hid (partB_no (a := a) (b := b) (c := c) (d := d) (zs := zs) (k := k) (by have := HLn.out; omega) hb)
        clear hc2 r0
        generalize zs.getD k 0 = z at *
        go_wp2_with (go_at_call 52; refine (spec_in _ _ _ _).mono ?_; rintro e w' ⟨rfl, rfl⟩)
        go_ret
        exact ⟨by rw [HF.out]; rfl, x0⟩
      | true =>
        have HT := Lib.hid (show ownB zs (k + 1) = true by rw [ownB, hall.out, hb]; rfl)
        clear hc2 r0
        generalize zs.getD k 0 = z at *
        go_wp2_with (go_at_call 52; refine (spec_in _ _ _ _).mono ?_; rintro e w' ⟨rfl, rfl⟩)
        go_round
        case rel => exact ⟨k + 1, by omega, by go_num, HT.out⟩
        case measure => simp [intOf]; omega
    · obtain rfl : k = n := by omega
      have p1 : ∀ x : Later W0, x.w.cell? ⟨w.heap.size + 1, 0, none⟩ = some (.slice s k cp) := fun x => (b1.ext x.ext).cell 0
      have gq0 := Later.cells (b0) 0
      have gq1 := Later.cells (b0) 1
      have gq2 := Later.cells (b0) 2
      have gq3 := Later.cells (b0) 3
      simp only [List.getElem?_toArray, List.getElem?_cons_zero, List.getElem?_cons_succ] at gq0 gq1 gq2 gq3
      have HO := Lib.hid (show ownB zs zs.length = true by rw [HLn.out]; exact hall.out)
      clear r0
      cases hg : geoB a b c d with
      | false =>
        have HF := Lib.hid (partB_geo (zs := zs) hg)
        go_wp2_with fail
        refine wp_region_later (by kernel_rfl) (by kernel_rfl) ?_
        repeat (go_big_quiet_step ((first | (go_at_call 58; exact Later.ofB _ (spec_geometryOk _ _ _ _ _) (by assumption)) | (go_at_call 59; exact Later.of _ (spec_bankCount _ _ _ _ _)))))
        refine wpQuiet_nil ?_
        rintro _ ⟨x, rfl⟩
        have xe := x.ext
        go_wp2
        go_ret
        exact ⟨by rw [HF.out]; rfl, x0.trans xe⟩
      | true =>
        have HF := Lib.hid (partB_all (zs := zs) HO.out hg)
        rw [HLn.out] at HF
        have hB := Lib.hid (fun w => spec_bankCount a b c d w)
        generalize bankF a b c d = K at *
        go_wp2_with fail
        refine wp_region_later (by kernel_rfl) (by kernel_rfl) ?_
        repeat (go_big_quiet_step ((first | (go_at_call 58; exact Later.ofB _ (spec_geometryOk _ _ _ _ _) (by assumption)) | (go_at_call 59; exact Later.of _ (hB.out _)))))
        refine wpQuiet_nil ?_
        rintro _ ⟨x, rfl⟩
        have xe := x.ext
        go_wp2
        go_ret
        exact ⟨by rw [HF.out]; rfl, x0.trans xe⟩

set_option maxHeartbeats 2000000 in
theorem impl_partitionOk (a b c d : Int) (s : Option Addr) (n cp : Nat) (zs : List Int) (w : World) (hr : RD w s n zs) (hm : n ≤ maxLen) : Calls Try.prog 33 #[.agg #[.int .i64 a, .int .i64 b, .int .i64 c, .int .i64 d], .agg #[.slice s n cp]] w fun e w' => e = .returned (.bool (partB a b c d zs)) ∧ Ext w w' := by
  have hm' := hm
  unfold maxLen at hm'
  have x0 : Ext w ((w.alloc (.cells #[.int .i64 a, .int .i64 b, .int .i64 c, .int .i64 d] 47)).alloc (.cells #[.slice s n cp] 49)) := ((Ext.refl w).alloc _).alloc _
  have b0 := (Box.new w 47 #[.int .i64 a, .int .i64 b, .int .i64 c, .int .i64 d]).alloc (.cells #[.slice s n cp] 49)
  have b1 := Box.new_at (w.alloc (.cells #[.int .i64 a, .int .i64 b, .int .i64 c, .int .i64 d] 47)) 49 #[.slice s n cp] (w.heap.size + 1) (by simp)
  have r0 := hr.ext x0
  have hl := hr.1
  have HLn := Lib.hid hl
  clear hr hl
  go_enter Try.func33, Try.ntmps33
  go_wp2
  generalize (w.alloc (.cells #[.int .i64 a, .int .i64 b, .int .i64 c, .int .i64 d] 47)).alloc (.cells #[.slice s n cp] 49) = W0 at x0 b0 b1 r0 ⊢
  have p0 : W0.cell? ⟨w.heap.size + 1, 0, none⟩ = some (.slice s n cp) := b1.cell 0
  go_loop [10] (fun i => ∃ k : Nat, k ≤ n ∧ i = .int .i64 k ∧ Hid (ownB zs k = true)) (fun i => n - (intOf i).toNat)
  case atStart => exact ⟨0, Nat.zero_le _, rfl, rfl⟩
  case round =>
    obtain ⟨k, hk, rfl, hall⟩ := hrel
    by_cases hlt : k < n
    · obtain ⟨b2, o2, rfl, hb2, hc2⟩ := r0.2 (by omega)
      have hck := hc2 k hlt
      have hltI : (k : Int) < n := by omega
      cases hb : btw (zs.getD k 0) 0 3 with
      | false =>
        have HF := Lib.hid (partB_no (a := a) (b := b) (c := c) (d := d) (zs := zs) (k := k) (by have := HLn.out; omega) hb)
        clear hc2 r0
        generalize zs.getD k 0 = z at *
        go_wp2_with (go_at_call 53; refine (impl_between _ _ _ _).mono ?_; rintro e w' ⟨rfl, rfl⟩)
        go_ret
        exact ⟨by rw [HF.out]; rfl, x0⟩
      | true =>
        have HT := Lib.hid (show ownB zs (k + 1) = true by rw [ownB, hall.out, hb]; rfl)
        clear hc2 r0
        generalize zs.getD k 0 = z at *
        go_wp2_with (go_at_call 53; refine (impl_between _ _ _ _).mono ?_; rintro e w' ⟨rfl, rfl⟩)
        go_round
        case rel => exact ⟨k + 1, by omega, by go_num, HT.out⟩
        case measure => simp [intOf]; omega
    · obtain rfl : k = n := by omega
      have p1 : ∀ x : Later W0, x.w.cell? ⟨w.heap.size + 1, 0, none⟩ = some (.slice s k cp) := fun x => (b1.ext x.ext).cell 0
      have gq0 := Later.cells (b0) 0
      have gq1 := Later.cells (b0) 1
      have gq2 := Later.cells (b0) 2
      have gq3 := Later.cells (b0) 3
      simp only [List.getElem?_toArray, List.getElem?_cons_zero, List.getElem?_cons_succ] at gq0 gq1 gq2 gq3
      have HO := Lib.hid (show ownB zs zs.length = true by rw [HLn.out]; exact hall.out)
      clear r0
      cases hg : geoB a b c d with
      | false =>
        have HF := Lib.hid (partB_geo (zs := zs) hg)
        go_wp2_with fail
        refine wp_region_later (by kernel_rfl) (by kernel_rfl) ?_
        repeat (go_big_quiet_step ((first | (go_at_call 60; exact Later.ofB _ (impl_geometryOk _ _ _ _ _) (by assumption)) | (go_at_call 61; exact Later.of _ (impl_bankCount _ _ _ _ _)))))
        refine wpQuiet_nil ?_
        rintro _ ⟨x, rfl⟩
        have xe := x.ext
        go_wp2
        go_ret
        exact ⟨by rw [HF.out]; rfl, x0.trans xe⟩
      | true =>
        have HF := Lib.hid (partB_all (zs := zs) HO.out hg)
        rw [HLn.out] at HF
        have hB := Lib.hid (fun w => impl_bankCount a b c d w)
        generalize bankF a b c d = K at *
        go_wp2_with fail
        refine wp_region_later (by kernel_rfl) (by kernel_rfl) ?_
        repeat (go_big_quiet_step ((first | (go_at_call 60; exact Later.ofB _ (impl_geometryOk _ _ _ _ _) (by assumption)) | (go_at_call 61; exact Later.of _ (hB.out _)))))
        refine wpQuiet_nil ?_
        rintro _ ⟨x, rfl⟩
        have xe := x.ext
        go_wp2
        go_ret
        exact ⟨by rw [HF.out]; rfl, x0.trans xe⟩

/-- a slice of the call's own that holds zs -/
def NewL (zs : List Int) (w : World) : Ending → World → Prop := fun e w' => ∃ a cap, e = .returned (.slice a zs.length cap) ∧ Own w' w.heap.size a zs.length cap zs ∧ Ext w w'
theorem own_slice {w : World} {base e size n : Nat} {v : Value} {xs : List Value} (h : w.ownsRow base e size v n xs) : ∃ a c, v = .slice a n c := by
  rcases h.2 with ⟨rfl, rfl⟩ | ⟨g, cap, cur, rfl, -⟩
  · exact ⟨_, _, rfl⟩
  · exact ⟨_, _, rfl⟩

set_option maxHeartbeats 2000000 in
theorem spec_banksOf (s : Option Addr) (n cp : Nat) (zs : List Int) (t : Int) (w : World) (hr : RD w s n zs) (hm : n ≤ 1048576) : Calls Try.prog 35 #[.agg #[.slice s n cp], .int .i64 t] w (NewL (banksL zs t n) w) := by
  obtain ⟨i0, hi, hz0, hz1, hz2⟩ := info_parts int_info
  have b0 := Box.new w 49 #[.slice s n cp]
  have x0 : Ext w (w.alloc (.cells #[.slice s n cp] 49)) := (Ext.refl w).alloc _
  have r0 := hr.ext x0
  have hsz0 : (w.alloc (.cells #[.slice s n cp] 49)).heap.size = w.heap.size + 1 := by simp
  have p0 : (w.alloc (.cells #[.slice s n cp] 49)).cell? ⟨w.heap.size, 0, none⟩ = some (.slice s n cp) := b0.cell 0
  have hown0 : ((w.alloc (.cells #[.slice s n cp] 49)).alloc (.cells #[] 3)).ownsRow (w.heap.size + 1) 3 1 (.slice (some ⟨w.heap.size + 1, 0, none⟩) 0 0) 0 [] := by
    have h := World.ownsRow_made (base := w.heap.size + 1) (e := 3) (size := 1) (w.alloc (.cells #[.slice s n cp] 49)) #[] 0 (Nat.le_of_eq hsz0.symm) (by simp [maxLen]) rfl
    rwa [hsz0] at h
  clear hr
  go_enter Try.func35, Try.ntmps35
  go_wp2
  clear p0
  go_loopw [5, 6] (fun v i wr => ∃ k : Nat, k ≤ n ∧ i = .int .i64 k ∧ wr.ownsRow (w.heap.size + 1) 3 1 v (banksL zs t k).length ((banksL zs t k).map (Value.int .i64)) ∧ w.heap.size + 1 ≤ wr.heap.size ∧ Ext (w.alloc (.cells #[.slice s n cp] 49)) wr)
    (fun _ i _ => n - (intOf i).toNat)
  case atStart => exact ⟨0, Nat.zero_le _, rfl, hown0, by simp, (Ext.refl _).alloc _⟩
  case round =>
    obtain ⟨k, hk, rfl, hown, hsz, xr⟩ := hrel
    clear hown0
    have q0 : wr.cell? ⟨w.heap.size, 0, none⟩ = some (.slice s n cp) := (b0.ext xr).cell 0
    have rr := r0.ext xr
    have hlen := banksL_len zs t k
    by_cases hlt : k < n
    · obtain ⟨b2, o2, rfl, hb2, hc2⟩ := rr.2 (by omega)
      have hck := hc2 k hlt
      have hltI : (k : Int) < n := by omega
      clear hc2 rr
      by_cases hz : zs.getD k 0 = t
      · have HY := Lib.hid (banksL_yes hz)
        have hzb : (zs.getD k 0 == t) = true := by rw [hz]; simp
        clear hz
        generalize zs.getD k 0 = z at *
        go_wp2_with (at_builtin; refine wpList_append_own _ rfl (.tmp 22) (.tmp 24) 33 rfl (w.heap.size + 1) 3 i0 (.int .i64 0) 1 8 Try.underlying33 hi hz0 hz1 hz2 rfl (by decide) _ _ _ rfl (hown.alloc _) ⟨wr.heap.size, 0, none⟩ 1 1 [.int .i64 k] rfl rfl (cell_one_new _ _ _) ?c2 ?c3 ?c4 ?c5 ?_)
        case c2 => first | rfl | (intro u hu; simp at hu; subst hu; rfl)
        case c3 => unfold maxLen; omega
        case c4 => omega
        case c5 => first | omega | (simp; omega)
        intro v' w3 hown3 hgrow _
        have x3 := (xr.alloc _).grown hgrow (fun j hj => by rw [hsz0]; exact (hown.lt j hj).1)
        have hs3 := hgrow.size
        have hown4 : w3.ownsRow (w.heap.size + 1) 3 1 v' (banksL zs t (k + 1)).length ((banksL zs t (k + 1)).map (Value.int .i64)) := by
          rw [HY.out, List.length_append, List.map_append]; exact hown3
        clear hown hgrow hown3
        go_wp2
        go_roundw
        case rel => exact ⟨k + 1, by omega, by go_num, hown4, (by first | omega | (simp at hs3; omega)), x3⟩
        case measure => simp [intOf]; omega
      · have HY := Lib.hid (banksL_no hz)
        have hzb : (zs.getD k 0 == t) = false := by rw [beq_eq_false_iff_ne]; exact hz
        generalize zs.getD k 0 = z at *
        go_wp2
        go_roundw
        case rel => exact ⟨k + 1, by omega, by go_num, by rw [HY.out]; exact hown, hsz, xr⟩
        case measure => simp [intOf]; omega
    · obtain rfl : k = n := by omega
      have hO : ∃ a c, _ = Value.slice a (banksL zs t k).length c := own_slice hown
      obtain ⟨a, c, rfl⟩ := hO
      have ho : Own wr (w.heap.size + 1) a (banksL zs t k).length c (banksL zs t k) := hown
      go_wp2
      go_ret
      exact ⟨a, c, rfl, ho.less (by omega), x0.trans xr⟩

set_option maxHeartbeats 2000000 in
theorem impl_banksOf (s : Option Addr) (n cp : Nat) (zs : List Int) (t : Int) (w : World) (hr : RD w s n zs) (hm : n ≤ 1048576) : Calls Try.prog 36 #[.agg #[.slice s n cp], .int .i64 t] w (NewL (banksL zs t n) w) := by
  obtain ⟨i0, hi, hz0, hz1, hz2⟩ := info_parts int_info
  have b0 := Box.new w 49 #[.slice s n cp]
  have x0 : Ext w (w.alloc (.cells #[.slice s n cp] 49)) := (Ext.refl w).alloc _
  have r0 := hr.ext x0
  have hsz0 : (w.alloc (.cells #[.slice s n cp] 49)).heap.size = w.heap.size + 1 := by simp
  have p0 : (w.alloc (.cells #[.slice s n cp] 49)).cell? ⟨w.heap.size, 0, none⟩ = some (.slice s n cp) := b0.cell 0
  have hown0 : ((w.alloc (.cells #[.slice s n cp] 49)).alloc (.cells #[] 3)).ownsRow (w.heap.size + 1) 3 1 (.slice (some ⟨w.heap.size + 1, 0, none⟩) 0 0) 0 [] := by
    have h := World.ownsRow_made (base := w.heap.size + 1) (e := 3) (size := 1) (w.alloc (.cells #[.slice s n cp] 49)) #[] 0 (Nat.le_of_eq hsz0.symm) (by simp [maxLen]) rfl
    rwa [hsz0] at h
  clear hr
  go_enter Try.func36, Try.ntmps36
  go_wp2
  clear p0
  go_loopw [5, 12] (fun v i wr => ∃ k : Nat, k ≤ n ∧ i = .int .i64 k ∧ wr.ownsRow (w.heap.size + 1) 3 1 v (banksL zs t k).length ((banksL zs t k).map (Value.int .i64)) ∧ w.heap.size + 1 ≤ wr.heap.size ∧ Ext (w.alloc (.cells #[.slice s n cp] 49)) wr)
    (fun _ i _ => n - (intOf i).toNat)
  case atStart => exact ⟨0, Nat.zero_le _, rfl, hown0, by simp, (Ext.refl _).alloc _⟩
  case round =>
    obtain ⟨k, hk, rfl, hown, hsz, xr⟩ := hrel
    clear hown0
    have q0 : wr.cell? ⟨w.heap.size, 0, none⟩ = some (.slice s n cp) := (b0.ext xr).cell 0
    have rr := r0.ext xr
    have hlen := banksL_len zs t k
    by_cases hlt : k < n
    · obtain ⟨b2, o2, rfl, hb2, hc2⟩ := rr.2 (by omega)
      have hck := hc2 k hlt
      have hltI : (k : Int) < n := by omega
      clear hc2 rr
      by_cases hz : zs.getD k 0 = t
      · have HY := Lib.hid (banksL_yes hz)
        have hzb : (zs.getD k 0 == t) = true := by rw [hz]; simp
        clear hz
        generalize zs.getD k 0 = z at *
        go_wp2_with (at_builtin; refine wpList_append_own _ rfl (.tmp 20) (.tmp 22) 33 rfl (w.heap.size + 1) 3 i0 (.int .i64 0) 1 8 Try.underlying33 hi hz0 hz1 hz2 rfl (by decide) _ _ _ rfl (hown.alloc _) ⟨wr.heap.size, 0, none⟩ 1 1 [.int .i64 k] rfl rfl (cell_one_new _ _ _) ?c2 ?c3 ?c4 ?c5 ?_)
        case c2 => first | rfl | (intro u hu; simp at hu; subst hu; rfl)
        case c3 => unfold maxLen; omega
        case c4 => omega
        case c5 => first | omega | (simp; omega)
        intro v' w3 hown3 hgrow _
        have x3 := (xr.alloc _).grown hgrow (fun j hj => by rw [hsz0]; exact (hown.lt j hj).1)
        have hs3 := hgrow.size
        have hown4 : w3.ownsRow (w.heap.size + 1) 3 1 v' (banksL zs t (k + 1)).length ((banksL zs t (k + 1)).map (Value.int .i64)) := by
          rw [HY.out, List.length_append, List.map_append]; exact hown3
        clear hown hgrow hown3
        go_wp2
        go_roundw
        case rel => exact ⟨k + 1, by omega, by go_num, hown4, (by first | omega | (simp at hs3; omega)), x3⟩
        case measure => simp [intOf]; omega
      · have HY := Lib.hid (banksL_no hz)
        have hzb : (zs.getD k 0 == t) = false := by rw [beq_eq_false_iff_ne]; exact hz
        generalize zs.getD k 0 = z at *
        go_wp2
        go_roundw
        case rel => exact ⟨k + 1, by omega, by go_num, by rw [HY.out]; exact hown, hsz, xr⟩
        case measure => simp [intOf]; omega
    · obtain rfl : k = n := by omega
      have hO : ∃ a c, _ = Value.slice a (banksL zs t k).length c := own_slice hown
      obtain ⟨a, c, rfl⟩ := hO
      have ho : Own wr (w.heap.size + 1) a (banksL zs t k).length c (banksL zs t k) := hown
      go_wp2
      go_ret
      exact ⟨a, c, rfl, ho.less (by omega), x0.trans xr⟩

end Go.Proofs.Ytlchejnjeeilpaa
