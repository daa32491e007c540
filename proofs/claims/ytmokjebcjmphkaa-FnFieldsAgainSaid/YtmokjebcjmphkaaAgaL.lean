/- The walk of FnFieldsAgain. -/
import Derived.Test.YtmokjebcjmphkaaAgaE
import Derived.Test.YtmokjebcjmphkaaSplL
namespace Go.Proofs.Ytmokjebcjmphkaa
open Go.RowKit

theorem fld_join (cur l : List UInt8) : (joinL (fld cur l)).length ≤ cur.length + l.length + 1 := by
  induction l generalizing cur with
  | nil =>
    unfold fld
    split
    · simp [joinL]
    · simp [joinL]
  | cons c l ih =>
    unfold fld
    split
    · split
      · have := ih []
        simp at this ⊢
        omega
      · have := ih []
        simp [joinL] at this ⊢
        omega
    · have := ih (cur ++ [c])
      simp at this ⊢
      omega
theorem joinL_app (a b : List (List UInt8)) : joinL (a ++ b) = joinL a ++ joinL b := by
  induction a with
  | nil => rfl
  | cons f a ih => simp [joinL, ih]
theorem join_take (fs : List (List UInt8)) (k : Nat) : (joinL (fs.take k)).length ≤ (joinL fs).length := by
  have h := joinL_app (fs.take k) (fs.drop k)
  rw [List.take_append_drop] at h
  rw [h, List.length_append]
  omega
theorem join_step (fs : List (List UInt8)) (k : Nat) (h : k < fs.length) : joinL (fs.take (k + 1)) = joinL (fs.take k) ++ (fs.getD k [] ++ [32]) := by
  rw [← joinL_snoc]
  congr 1
  rw [List.take_add_one, List.getD_eq_getElem?_getD, List.getElem?_eq_getElem h]
  rfl
theorem strOf_list (l : List UInt8) : (strOf l).data.toList = l := by simp [strOf]
theorem again_no {l : List UInt8} (h : splitB l = false) : splitF l = [] := by
  unfold splitB at h
  unfold splitF
  cases e : splitL l with
  | none => rfl
  | some r => rw [e] at h; cases h
theorem again_yes {l : List UInt8} (h : splitB l = true) : (joinL (splitF l)).length ≤ 601 ∧ ((joinL (splitF l)).length ≤ 600 → splitF (joinL (splitF l)) = splitF l ∧ splitB (joinL (splitF l)) = true) := by
  unfold splitB at h
  cases e : splitL l with
  | none => rw [e] at h; cases h
  | some r =>
    have hF : splitF l = r := by unfold splitF; rw [e]; rfl
    rw [hF]
    constructor
    · have e' := e
      unfold splitL at e'
      split at e'
      · rename_i hc
        have e2 : fields l = r := by simpa using e'
        have h1 := fld_join [] l
        rw [show fld [] l = r from e2] at h1
        have := hc.1
        simp at h1
        omega
      · cases e'
    · intro hl
      have := splitL_join e hl
      unfold splitF splitB
      rw [this]
      exact ⟨rfl, rfl⟩

theorem same_texts (a b : Option Addr) (n c d : Nat) (fs : List (List UInt8)) (w : World) (h1 : ReadsS w a n fs) (h2 : ReadsS w b n fs) (hm : n ≤ 1000000) : Calls Try.prog 25 #[.slice a n c, .slice b n d] w fun e w' => e = .returned (.bool true) ∧ Ext w w' := by
  go_enter Try.func25, Try.ntmps25
  go_wp2
  go_loopw [5] (fun i wr => ∃ (k m : Nat), k ≤ n ∧ i = .int .i64 k ∧ wr = w.drewN m) (fun i _ => n - (intOf i).toNat)
  case atStart => exact ⟨0, 0, Nat.zero_le _, rfl, rfl⟩
  case round =>
    obtain ⟨k, m, hk, rfl, rfl⟩ := hrel
    by_cases hlt : k < n
    · obtain ⟨b1, o1, rfl, -, hc1⟩ := h1.2 (by omega)
      obtain ⟨b2, o2, rfl, -, hc2⟩ := h2.2 (by omega)
      have q1 := hc1 k hlt
      have q2 := hc2 k hlt
      generalize strOf (fs.getD k []) = z at q1 q2
      clear hc1 hc2 h1 h2
      have hltI : (k : Int) < n := by omega
      go_wp2
      go_quiet (fail)
      go_wp2
      go_roundw
      case rel => exact ⟨k + 1, _, by omega, by go_num, (by first | rfl | exact World.drewN_drewN)⟩
      case measure => simp [intOf]; omega
    · obtain rfl : k = n := by omega
      go_wp2
      go_ret
      exact ⟨rfl, (Ext.refl w).drewN _⟩

set_option maxRecDepth 20000 in
set_option maxHeartbeats 4000000 in
theorem law_FnFieldsAgain (w : World) (a0 : Option Addr) (n0 c0 : Nat) (z0 : List Int) (r0 : RowIs .u8 w w.heap.size a0 n0 z0) (m0 : n0 ≤ maxLen) : Calls Try.prog 8 #[.slice a0 n0 c0] w fun e w' => e = .returned (.bool true) ∧ Ext w w' := by
  have m1 := m0
  unfold maxLen at m1
  by_cases hbig : (1048576 : Int) < (n0 : Int)
  · go_enter Try.func8, Try.ntmps8
    go_wp2
    go_ret
    exact ⟨rfl, (by repeat (first | exact Ext.refl _ | assumption | refine Ext.alloc ?_ _ | refine Ext.drew ?_ | refine Ext.drewN ?_ _ | refine Ext.setCell ?_ (by first | exact Nat.le_refl _ | (simp; done) | (simp; omega) | omega) _ | (apply Ext.trans; rotate_left; assumption)))⟩
  · go_enter Try.func8, Try.ntmps8
    go_wp2_with (first | (go_at_call 20; go_in))
    refine (draw_split a0 n0 c0 z0 _ r0 m0).mono ?_
    rintro e w1 ⟨l, hl, rfl, x1⟩
    have hS := Lib.hid (fun w => spec_split_any (strOf l) w)
    have hI := Lib.hid (fun w => impl_split_any (strOf l) w)
    rw [strOf_list] at hS hI
    have hlen := splitF_len l
    cases hB : splitB l with
    | false =>
      rw [hB, again_no hB] at hS hI
      go_wp2_with fail
      refine (hI.out _).mono ?_
      rintro e w2 ⟨a1, k1, rfl, -, x2⟩
      go_wp2_with fail
      refine (hS.out _).mono ?_
      rintro e w3 ⟨a2, k2, rfl, -, x3⟩
      have y3 := (x1.trans x2).trans x3
      clear x1 x2 x3
      go_wp2_with fail
      refine (draw_places a0 n0 c0 z0 _ ((y3.row r0 (Nat.le_refl _)).more y3.le) m0).mono ?_
      rintro e w4 ⟨g, cc, ps, -, -, rfl, -, -, -, y4⟩
      go_wp2
      go_ret
      exact ⟨rfl, y3.trans y4⟩
    | true =>
      rw [hB] at hS hI
      obtain ⟨hj, hJ⟩ := again_yes hB
      have HJ := Lib.hid hJ
      have hjl := Lib.hid hj
      clear hJ hj hB hl
      generalize splitF l = fs at *
      generalize hn : fs.length = n at *
      have HN := Lib.hid hn
      clear hn
      go_wp2_with fail
      refine (hI.out _).mono ?_
      rintro e w2 ⟨a1, k1, rfl, ho1, x2⟩
      have o1 : OwnS w2 w1.heap.size a1 fs.length k1 fs := ho1
      rw [HN.out] at o1 ⊢
      go_wp2_with fail
      refine (hS.out _).mono ?_
      rintro e w3 ⟨a2, k2, rfl, -, x3⟩
      rw [HN.out]
      have R3 := Lib.hid (o1.ext x3).reads
      have y3 := (x1.trans x2).trans x3
      clear x1 x2 x3 ho1 o1
      go_wp2
      go_loopw [8, 9] (fun s i wr => ∃ k : Nat, k ≤ n ∧ i = .int .i64 k ∧ s = .string (strOf (joinL (fs.take k))) ∧ w3 = wr)
        (fun _ i _ => n - (intOf i).toNat)
      case atStart => exact ⟨0, Nat.zero_le _, rfl, rfl, rfl⟩
      case round =>
        obtain ⟨k, hk, rfl, rfl, rfl⟩ := hrel
        by_cases hlt : k < n
        · obtain ⟨b1, o1, rfl, -, hc1⟩ := R3.out.2 (by omega)
          have q1 := hc1 k hlt
          have hltI : (k : Int) < n := by omega
          have HS := Lib.hid (join_step fs k (by have := HN.out; omega))
          have hjt := join_take fs (k + 1)
          rw [HS.out, List.length_append, List.length_append] at hjt
          have hjo := hjl.out
          have e32 : ([32] : List UInt8).length = 1 := rfl
          rw [e32] at hjt
          have hroom1 := room (joinL (fs.take k)) (fs.getD k []) (by omega)
          have hroom2 := room (joinL (fs.take k) ++ fs.getD k []) [32] (by rw [List.length_append, e32]; omega)
          have hroom4 : ¬ (9223372036854775807 < (strOf (joinL (fs.take k))).size + (strOf (fs.getD k [])).size + 1) := by rw [strOf_size, strOf_size]; omega
          have hroom5 : ¬ (9223372036854775807 < (strOf (joinL (fs.take k))).size + (strOf (fs.getD k [])).size + (ByteArray.mk #[32]).size) := by rw [strOf_size, strOf_size]; show ¬ (_ < _ + 1); omega
          have E1 := Lib.hid (strOf_append (joinL (fs.take k)) (fs.getD k []))
          have E2 := Lib.hid (strOf_append (joinL (fs.take k) ++ fs.getD k []) [32])
          rw [← E1.out] at hroom2
          have hroom3 : ¬ (9223372036854775807 < (strOf (joinL (fs.take k)) ++ strOf (fs.getD k [])).size + (ByteArray.mk #[32]).size) := hroom2
          have EE : Hid (strOf (joinL (fs.take k)) ++ strOf (fs.getD k []) ++ ByteArray.mk #[32] = strOf (joinL (fs.take (k + 1)))) := by
            show _ ++ strOf [32] = _
            rw [E1.out, E2.out, HS.out, List.append_assoc]
          clear hc1 hjt hjo hroom2 e32
          go_wp2
          go_roundw
          case rel => exact ⟨k + 1, by omega, by go_num, by first | (rw [← EE.out]; rfl) | (rw [← EE.out]; simp [strOf_append]) | (rw [HS.out]; simp [strOf_append, List.append_assoc]), (by first | trivial | rfl)⟩
          case measure => simp [intOf]; omega
        · obtain rfl : k = n := by omega
          have ht : fs.take k = fs := List.take_of_length_le (by have := HN.out; omega)
          rw [ht]
          have hS2 := Lib.hid (fun w => impl_split_any (strOf (joinL fs)) w)
          rw [strOf_list] at hS2
          by_cases h6 : (joinL fs).length ≤ 600
          · obtain ⟨e1, e2⟩ := HJ.out h6
            rw [e1, e2] at hS2
            have hd : decide ((600 : Int) < ((strOf (joinL fs)).size : Int)) = false := decide_eq_false (by rw [strOf_size]; omega)
            clear h6 e1 e2 ht
            go_wp2_with fail
            refine (hS2.out _).mono ?_
            rintro e w4 ⟨a4, k4, rfl, ho4, x4⟩
            have o4 : OwnS w4 w3.heap.size a4 fs.length k4 fs := ho4
            rw [HN.out] at o4 ⊢
            have hR := R3.out
            obtain ⟨hR1, hR2⟩ := hR
            have R4 : ReadsS w4 a1 k fs := ⟨hR1, fun hp => by
              obtain ⟨b, o, e, hb, hc⟩ := hR2 hp
              exact ⟨b, o, e, Nat.lt_of_lt_of_le hb x4.le, fun i hi => (x4.cell hb _).trans (hc i hi)⟩⟩
            have R5 := Lib.hid R4
            have R6 := Lib.hid o4.reads
            clear R4 hR1 hR2 ho4 o4
            go_wp2_with fail
            refine (same_texts a1 a4 k k1 k4 fs _ R5.out R6.out (by omega)).mono ?_
            rintro e w5 ⟨rfl, x5⟩
            go_wp2
            go_ret
            exact ⟨rfl, (y3.trans x4).trans x5⟩
          · have hd : decide ((600 : Int) < ((strOf (joinL fs)).size : Int)) = true := decide_eq_true (by rw [strOf_size]; omega)
            clear h6 ht
            go_wp2_with fail
            refine (hS2.out _).mono ?_
            rintro e w4 ⟨a4, k4, rfl, ho4, x4⟩
            go_wp2
            go_ret
            exact ⟨rfl, y3.trans x4⟩

end Go.Proofs.Ytmokjebcjmphkaa
