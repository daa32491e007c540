/- Walks of ParseUint. -/
import Derived.Test.YtamlfjkkpgmjiaaDoorDecW
set_option maxRecDepth 20000
namespace Go.Proofs.YtamlfjkkpgmjiaaDoor
open Go.RowKit
open Go.Lib (decDigits itoa)

/-- what the loop holds behind k bytes -/
def Pre (s : ByteArray) (k : Nat) : Prop := (∀ c ∈ s.data.toList.take k, isDig c = true) ∧ valFrom 0 (s.data.toList.take k) < 10 ^ k
theorem pre_zero (s : ByteArray) : Pre s 0 := ⟨by simp, by simp [valFrom_nil]⟩
theorem pre_step (s : ByteArray) (k : Nat) (h : k < s.size) (hp : Pre s k) (h0 : 48 ≤ s[k].toNat) (h1 : s[k].toNat ≤ 57) :
    Pre s (k + 1) ∧ valFrom 0 (s.data.toList.take (k + 1)) = valFrom 0 (s.data.toList.take k) * 10 + (s[k].toNat - 48) := by
  have e := take_snoc s k h
  have hv : valFrom 0 (s.data.toList.take (k + 1)) = valFrom 0 (s.data.toList.take k) * 10 + (s[k].toNat - 48) := by rw [e, valFrom_snoc]
  refine ⟨⟨?_, ?_⟩, hv⟩
  · intro c hc
    rw [e] at hc
    rcases List.mem_append.1 hc with hc | hc
    · exact hp.1 c hc
    · simp at hc; subst hc; exact isDig_iff.2 ⟨h0, h1⟩
  · rw [hv, Nat.pow_succ]
    have := hp.2
    omega
theorem parse_bad (s : ByteArray) (k : Nat) (h : k < s.size) (hb : s[k].toNat < 48 ∨ 57 < s[k].toNat) : parseU s.data.toList = none := by
  unfold parseU
  rw [if_neg]
  rintro ⟨-, hd, -⟩
  have := isDig_iff.1 (hd s[k] (by simp [ByteArray.getElem_eq_getElem_data]))
  omega

set_option maxHeartbeats 1000000 in
theorem spec_parse (s : ByteArray) (w : World) (hs : s.size ≤ 10) : Calls Tryd.prog 30 #[.string s] w fun e w' => e = .returned (.tuple #[.int .i64 ((parseU s.data.toList).getD 0 : Nat), .bool (parseU s.data.toList).isSome]) ∧ Ext w w' := by
  go_enter Tryd.func30, Tryd.ntmps30
  go_wp2
  go_loop [4, 5] (fun v i => ∃ k : Nat, k ≤ s.size ∧ i = .int .i64 k ∧ v = .int .i64 (valFrom 0 (s.data.toList.take k) : Nat) ∧ Hid (Pre s k))
    (fun _ i => s.size - (intOf i).toNat)
  case atStart => exact ⟨0, by omega, rfl, rfl, pre_zero s⟩
  case round =>
    obtain ⟨k, hk, rfl, rfl, hp⟩ := hrel
    have hlt10 : valFrom 0 (s.data.toList.take k) < 10000000000 := Nat.lt_of_lt_of_le hp.out.2 (Nat.pow_le_pow_right (n := 10) (by omega) (by omega : k ≤ 10))
    generalize hV : valFrom 0 (s.data.toList.take k) = V at *
    have HV := Lib.hid hV
    clear hV
    by_cases hlt : k < s.size
    · have hd : (k : Int) < (s.size : Int) := by omega
      have hb : s[k].toNat < 256 := s[k].toNat_lt
      by_cases h0 : (s[k].toNat : Int) < 48
      · have HB := Lib.hid (parse_bad s k hlt (.inl (by omega)))
        go_wp2
        go_ret2
        exact ⟨by rw [HB.out]; rfl, Ext.refl _⟩
      · by_cases h1 : (57 : Int) < (s[k].toNat : Int)
        · have HB := Lib.hid (parse_bad s k hlt (.inr (by omega)))
          go_wp2
          go_ret2
          exact ⟨by rw [HB.out]; rfl, Ext.refl _⟩
        · have HS := Lib.hid (pre_step s k hlt hp.out (by omega) (by omega))
          go_wp2
          go_round
          case rel => exact ⟨k + 1, by omega, by go_num, (by rw [HS.out.2, HV.out]; congr 1; omega), HS.out.1⟩
          case measure => simp [intOf]; omega
    · obtain rfl : k = s.size := by omega
      have hl : (s.data.toList).length = s.size := by simp
      have hP := hp.out
      have hv := HV.out
      unfold Pre at hP
      rw [List.take_of_length_le (by omega)] at hP hv
      by_cases hbig : (1000000000 : Int) < (V : Int)
      · have HN := Lib.hid (show parseU s.data.toList = none by unfold parseU; rw [if_neg]; rintro ⟨-, -, h, -⟩; omega)
        clear hP hv
        go_wp2
        go_ret2
        exact ⟨by rw [HN.out]; rfl, Ext.refl _⟩
      · by_cases heq : strOf (decDigits V) = s
        · have HN := Lib.hid (show parseU s.data.toList = some V by
            unfold parseU
            rw [if_pos ⟨by omega, hP.1, by omega, by rw [hv, ← heq]; simp [strOf]⟩, hv])
          clear hP hv
          go_wp2_with (go_at_call 22; refine (spec_format V _ rfl (by omega) _).mono ?_; rintro e w' ⟨rfl, x1⟩)
          go_ret2
          exact ⟨by rw [HN.out]; rfl, x1⟩
        · have HN := Lib.hid (show parseU s.data.toList = none by
            unfold parseU
            rw [if_neg]
            rintro ⟨-, -, -, h⟩
            rw [hv] at h
            exact heq (ByteArray.ext (by simp [strOf, h])))
          have hq : ((strOf (decDigits V)).toList == s.toList) = false := by
            rw [beq_eq_false_iff_ne, ByteArray.toList_eq, ByteArray.toList_eq]
            exact fun e => heq (ByteArray.ext (Array.toList_inj.1 e))
          clear hP hv
          go_wp2_with (go_at_call 22; refine (spec_format V _ rfl (by omega) _).mono ?_; rintro e w' ⟨rfl, x1⟩)
          all_goals first
            | (exfalso; exact heq (by assumption))
            | (go_ret2; exact ⟨by rw [HN.out]; rfl, x1⟩)

theorem parse_long (s : ByteArray) (h : 10 < s.size) : parseU s.data.toList = none := by
  unfold parseU
  rw [if_neg]
  rintro ⟨hl, -⟩
  simp at hl
  omega
theorem parse_short (s : ByteArray) (h : s.size = 0) : parseU s.data.toList = none := by
  have e : s.data.toList = [] := List.eq_nil_of_length_eq_zero (by simpa using h)
  rw [e]
  unfold parseU
  rw [if_neg]
  rintro ⟨-, -, -, hd⟩
  exact dec_ne _ hd
theorem parse_nought (s : ByteArray) (h : 1 < s.size) (h0 : s[0].toNat = 48) : parseU s.data.toList = none := by
  unfold parseU
  rw [if_neg]
  rintro ⟨-, hd, -, he⟩
  have hc := (canon_iff _ hd).1 he
  refine hc.2.2 (by simpa using h) ?_
  have e := take_snoc s 0 (by omega)
  have e0 : s.data.toList.head? = some s[0] := by
    rw [List.head?_eq_getElem?, List.getElem?_eq_getElem (by simp; omega)]
    rfl
  rw [e0]
  exact congrArg some (UInt8.toNat_inj.1 h0)
theorem parse_yes (s : ByteArray) (h0 : 0 < s.size) (h : s.size ≤ 10) (hd : ∀ c ∈ s.data.toList, isDig c = true) (hn : 1 < s.size → s[0].toNat ≠ 48) (hv : valFrom 0 s.data.toList ≤ 1000000000) : parseU s.data.toList = some (valFrom 0 s.data.toList) := by
  have hl : s.data.toList.length = s.size := by simp
  have hc : Canon s.data.toList := by
    refine ⟨?_, hd, ?_⟩
    · intro e; rw [e, List.length_nil] at hl; omega
    · intro h1 e
      rw [List.head?_eq_getElem?, List.getElem?_eq_getElem (by omega)] at e
      have e' : s[0] = 48 := Option.some.inj e
      exact hn (by omega) (by rw [e']; rfl)
  unfold parseU
  rw [if_pos ⟨by omega, hd, hv, (canon_iff _ hd).2 hc⟩]

theorem impl_parse_short (s : ByteArray) (w : World) (hs : s.size = 0) : Calls Tryd.prog 32 #[.string s] w fun e w' => e = .returned (.tuple #[.int .i64 0, .bool false]) ∧ Ext w w' := by
  have hz : (s.size : Int) = 0 := by omega
  go_enter Tryd.func32, Tryd.ntmps32
  go_wp2
  go_ret2
  exact ⟨rfl, Ext.refl w⟩
theorem impl_parse_long (s : ByteArray) (w : World) (hs : 10 < s.size) : Calls Tryd.prog 32 #[.string s] w fun e w' => e = .returned (.tuple #[.int .i64 0, .bool false]) ∧ Ext w w' := by
  have hz : ((s.size : Int) == 0) = false := by rw [beq_eq_false_iff_ne]; omega
  have hz' : (10 : Int) < (s.size : Int) := by omega
  go_enter Tryd.func32, Tryd.ntmps32
  go_wp2
  go_ret2
  exact ⟨rfl, Ext.refl w⟩
theorem impl_parse_nought (s : ByteArray) (w : World) (hs : s.size ≤ 10) (h : 1 < s.size) (h0 : s[0].toNat = 48) : Calls Tryd.prog 32 #[.string s] w fun e w' => e = .returned (.tuple #[.int .i64 0, .bool false]) ∧ Ext w w' := by
  have hz : ((s.size : Int) == 0) = false := by rw [beq_eq_false_iff_ne]; omega
  have hz' : (1 : Int) < (s.size : Int) := by omega
  have hp : (0 : Int) < (s.size : Int) := by omega
  have hb : (s[0].toNat : Int) = 48 := by omega
  go_enter Tryd.func32, Tryd.ntmps32
  go_wp2
  go_ret2
  exact ⟨rfl, Ext.refl w⟩

set_option maxHeartbeats 1000000 in
theorem impl_parse (s : ByteArray) (w : World) (hp0 : 0 < s.size) (hs : s.size ≤ 10) (hn : 1 < s.size → s[0].toNat ≠ 48) : Calls Tryd.prog 32 #[.string s] w fun e w' => e = .returned (.tuple #[.int .i64 ((parseU s.data.toList).getD 0 : Nat), .bool (parseU s.data.toList).isSome]) ∧ Ext w w' := by
  have hz : ((s.size : Int) == 0) = false := by rw [beq_eq_false_iff_ne]; omega
  have HY := Lib.hid (parse_yes s hp0 hs)
  have key : ∀ (hq : (1 < (s.size : Int) ∧ ((s[0].toNat : Int) == 48) = false) ∨ ¬ 1 < (s.size : Int)), Calls Tryd.prog 32 #[.string s] w fun e w' => e = .returned (.tuple #[.int .i64 ((parseU s.data.toList).getD 0 : Nat), .bool (parseU s.data.toList).isSome]) ∧ Ext w w' := by
    intro hq
    have HN := Lib.hid hn
    clear hn
    go_enter Tryd.func32, Tryd.ntmps32
    have hp0' : (0 : Int) < (s.size : Int) := by omega
    rcases hq with ⟨hq1, hq2⟩ | hq1
    all_goals
      go_wp2
      go_loop [4, 5] (fun v i => ∃ k : Nat, k ≤ s.size ∧ i = .int .i64 k ∧ v = .int .i64 (valFrom 0 (s.data.toList.take k) : Nat) ∧ Hid (Pre s k))
        (fun _ i => s.size - (intOf i).toNat)
      case atStart => exact ⟨0, by omega, rfl, rfl, pre_zero s⟩
      case round =>
        obtain ⟨k, hk, rfl, rfl, hp⟩ := hrel
        have hlt10 : valFrom 0 (s.data.toList.take k) < 10000000000 := Nat.lt_of_lt_of_le hp.out.2 (Nat.pow_le_pow_right (n := 10) (by omega) (by omega : k ≤ 10))
        generalize hV : valFrom 0 (s.data.toList.take k) = V at *
        have HV := Lib.hid hV
        clear hV
        by_cases hlt : k < s.size
        · have hd : (k : Int) < (s.size : Int) := by omega
          have hb : s[k].toNat < 256 := s[k].toNat_lt
          by_cases h0 : (s[k].toNat : Int) < 48
          · have HB := Lib.hid (parse_bad s k hlt (.inl (by omega)))
            go_wp2
            go_ret2
            exact ⟨by rw [HB.out]; rfl, Ext.refl _⟩
          · by_cases h1 : (57 : Int) < (s[k].toNat : Int)
            · have HB := Lib.hid (parse_bad s k hlt (.inr (by omega)))
              go_wp2
              go_ret2
              exact ⟨by rw [HB.out]; rfl, Ext.refl _⟩
            · have HS := Lib.hid (pre_step s k hlt hp.out (by omega) (by omega))
              go_wp2
              go_round
              case rel => exact ⟨k + 1, by omega, by go_num, (by rw [HS.out.2, HV.out]; congr 1; omega), HS.out.1⟩
              case measure => simp [intOf]; omega
        · obtain rfl : k = s.size := by omega
          have hl : (s.data.toList).length = s.size := by simp
          have hP := hp.out
          have hv := HV.out
          unfold Pre at hP
          rw [List.take_of_length_le (by omega)] at hP hv
          by_cases hbig : (1000000000 : Int) < (V : Int)
          · have HM := Lib.hid (show parseU s.data.toList = none by unfold parseU; rw [if_neg]; rintro ⟨-, -, h, -⟩; omega)
            clear hP hv
            go_wp2
            go_ret2
            exact ⟨by rw [HM.out]; rfl, Ext.refl _⟩
          · have HM := Lib.hid (HY.out hP.1 HN.out (by omega))
            rw [hv] at HM
            clear hP hv
            go_wp2
            go_ret2
            exact ⟨by rw [HM.out]; rfl, Ext.refl _⟩
  refine key ?_
  by_cases h1 : 1 < s.size
  · exact .inl ⟨by omega, by rw [beq_eq_false_iff_ne]; have := hn h1; omega⟩
  · exact .inr (by omega)

theorem impl_parse_any (s0 : ByteArray) (w : World) : Calls Tryd.prog 32 #[.string s0] w fun e w' => e = .returned (.tuple #[.int .i64 ((parseU s0.data.toList).getD 0 : Nat), .bool (parseU s0.data.toList).isSome]) ∧ Ext w w' := by
  by_cases h1 : s0.size = 0
  · rw [parse_short s0 h1]; exact impl_parse_short s0 w h1
  · by_cases h2 : 10 < s0.size
    · rw [parse_long s0 h2]; exact impl_parse_long s0 w h2
    · by_cases h3 : ∃ h : 1 < s0.size, s0[0].toNat = 48
      · obtain ⟨h3, h4⟩ := h3
        rw [parse_nought s0 h3 h4]; exact impl_parse_nought s0 w (by omega) h3 h4
      · exact impl_parse s0 w (by omega) (by omega) (fun h e => h3 ⟨h, e⟩)



end Go.Proofs.YtamlfjkkpgmjiaaDoor
