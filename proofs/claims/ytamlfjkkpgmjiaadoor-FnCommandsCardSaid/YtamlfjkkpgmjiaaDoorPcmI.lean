/- The walk of ParseCommand of the program. -/
import Derived.Test.YtamlfjkkpgmjiaaDoorPcmW
set_option maxRecDepth 20000
namespace Go.Proofs.YtamlfjkkpgmjiaaDoor
open Go.RowKit
open Go.Lib (decDigits itoa)
attribute [local go_sem ↓] Go.wp_at_zero Go.wp_at_succ

set_option maxHeartbeats 4000000 in
theorem impl_parseC (s : ByteArray) (hs : s.size ≤ 1048576) (mx : Int) (w : World) (hM : w.cell? ⟨0, 0, none⟩ = some (.int .i64 mx)) :
    Calls Tryd.prog 10 #[.string s] w (ParsedC s.data.toList w) := by
  have hMl := World.block_lt_of_cell? _ _ hM
  have b0 := Box.new w 25 #[.int .i64 0, .int .i64 0, .int .i64 0, .int .i64 0]
  have x0 : Ext w (w.alloc (.cells #[.int .i64 0, .int .i64 0, .int .i64 0, .int .i64 0] 25)) := (Ext.refl w).alloc _
  have hM0 := (x0.cell hMl 0).trans hM
  have HP := pieces_len s
  have HPL : Hid (∀ i, i < (pieces s).length → ((pieces s).map Value.string).toArray[i]? = some (.string ((pieces s).getD i ByteArray.empty))) := fun i hi => by
    rw [List.getElem?_toArray, List.getElem?_map, List.getD_eq_getElem?_getD, List.getElem?_eq_getElem hi]; rfl
  go_enter Tryd.func10, Tryd.ntmps10
  go_wp2_with fail
  refine (Tryd.strings_Split s ⟨#[32]⟩ mx _ (by omega) hM0 (Nat.le_refl _)).mono ?_
  rintro e w1 ⟨rfl, rfl⟩
  rw [← HP]
  have hn1 : 1 ≤ (pieces s).length := by omega
  have hn2 : (pieces s).length ≤ 1048577 := by
    have := Lib.countB_le ⟨#[32]⟩ (Nat.le_refl _) s.size s (Nat.le_refl _)
    omega
  have hfold : Lib.splitB ⟨#[32]⟩ 0 (Lib.countB s ⟨#[32]⟩) s = pieces s := rfl
  rw [hfold]
  have bp := Box.new (w.alloc (.cells #[.int .i64 0, .int .i64 0, .int .i64 0, .int .i64 0] 25)) 9 ((pieces s).map Value.string).toArray
  have b1 := b0.alloc (.cells ((pieces s).map Value.string).toArray 9)
  have x1 := x0.alloc (.cells ((pieces s).map Value.string).toArray 9)
  clear HP hfold hM0 x0 b0
  have hszw : (w.alloc (.cells #[.int .i64 0, .int .i64 0, .int .i64 0, .int .i64 0] 25)).heap.size = w.heap.size + 1 := by simp
  rw [hszw] at bp
  simp only [hszw]
  generalize (w.alloc (.cells #[.int .i64 0, .int .i64 0, .int .i64 0, .int .i64 0] 25)).alloc (.cells ((pieces s).map Value.string).toArray 9) = W1 at *
  have hl1 := bp.lt
  have QP : Hid (∀ x, Ext W1 x → ∀ i, i < (pieces s).length → x.cell? ⟨w.heap.size + 1, i, none⟩ = some (.string ((pieces s).getD i ByteArray.empty))) := fun x hx i hi => ((bp.ext hx).cell i).trans (HPL.out i hi)
  have B1 := Lib.hid b1
  have X1 := Lib.hid x1
  clear bp b1 x1 HPL hszw hM hMl
  generalize hLn : (pieces s).length = n at *
  have HLn := Lib.hid hLn
  clear hLn
  go_wp2
  go_loopw [5] (fun i wr => ∃ k : Nat, 1 ≤ k ∧ k ≤ 10 ∧ i = .int .i64 k ∧ Hid (∀ k0 b r c : Int, IsCmd s.data.toList k0 b r c → (k : Int) ≤ k0) ∧ Ext W1 wr) (fun i _ => 10 - (intOf i).toNat)
  case atStart => exact ⟨1, by omega, by omega, rfl, fun k0 b r c h => (formB_range h.1).1.1, Ext.refl _⟩
  case round =>
    obtain ⟨k, hk1, hk, rfl, HN, xr⟩ := hrel
    by_cases hlt : k ≤ 9
    · have hltI : (k : Int) ≤ 9 := by omega
      have hkI : (0 : Int) ≤ (k : Int) := by omega
      have hk10 : (k : Int) < 10 := by omega
      have hk10' : k < 10 := by omega
      have HK := Lib.hid (wordsV_get k hk1 hlt)
      have hq0 := QP.out _ xr 0 (by omega)
      have hnI : (0 : Int) < (n : Int) := by omega
      have hnN : 0 < n := by omega
      have hnE : ¬ n = 0 := by omega
      have HF := Lib.hid (fun b r c (h : IsCmd s.data.toList k b r c) => first_cmd h)
      have HT := Lib.hid (fun h => text_some (s := s) (k := k) (by omega) (by omega) h)
      generalize hP0 : (pieces s).getD 0 ByteArray.empty = P0 at *
      have HP0 := Lib.hid hP0
      clear hP0
      generalize hS : strOf (wordL k) = S at *
      have HSS := Lib.hid hS
      clear hS
      go_upto_region 5 with (fail)
      obtain ⟨W2, rfl⟩ : ∃ x : World, x = wr := ⟨_, rfl⟩
      go_cut [22] (fun s22 wx => s22 = .bool (!S.toList == P0.toList) ∧ Ext W2 wx)
      case first =>
        go_region_law (first
          | (go_simp; go_at_call 24; refine (impl_words _).mono ?_; rintro e u1 ⟨g, rfl, hg, bw, v1⟩; have qk := (bw.cell k).trans HK.out; have qc : u1.cell? ⟨w.heap.size + 1, 0, none⟩ = some (.string P0) := (by rw [← HP0.out]; exact QP.out _ (xr.drew.trans v1) 0 (by omega))))
        all_goals
          go_wp2_with fail
          go_meet
          exact ⟨rfl, (Ext.drew (Ext.refl _)).trans v1⟩
      obtain ⟨rfl, x2⟩ := hcut
      obtain ⟨W3, rfl⟩ : ∃ x : World, x = wc := ⟨_, rfl⟩
      have y3 := xr.trans x2
      clear xr x2 hq0 HK
      cases hne : (!S.toList == P0.toList) with
      | true =>
        have HN2 : Hid (∀ k0 b r c : Int, IsCmd s.data.toList k0 b r c → ((k + 1 : Nat) : Int) ≤ k0) := fun k0 b r c h => by
          have h1 := HN.out k0 b r c h
          rcases Int.lt_or_le (k : Int) k0 with h2 | h2
          · omega
          · obtain rfl : k0 = k := by omega
            have := HF.out b r c h
            rw [bytes_bne.2 this.symm] at hne
            cases hne
        clear hne HF HT
        go_wp2
        go_roundw
        case rel => exact ⟨k + 1, by omega, by omega, by go_num, HN2, y3⟩
        case measure => simp [intOf]; omega
      | false =>
        have hSP : S = P0 := bytes_bne.1 hne
        have HNE := Lib.hid (HT.out hSP.symm)
        have HBC := Lib.hid (fun b r c (h : IsCmd s.data.toList k b r c) => built_cmd h)
        clear HT HF hSP
        have bc := Box.new W3 25 #[.int .i64 k, .int .i64 0, .int .i64 0, .int .i64 0]
        have yc := y3.alloc (.cells #[.int .i64 k, .int .i64 0, .int .i64 0, .int .i64 0] 25)
        have hW3 := Ext.le y3
        have CS : Hid (∀ X a b c d, Ext W1 X → Box X W3.heap.size 25 #[.int .i64 a, .int .i64 b, .int .i64 c, .int .i64 d] → True) := fun _ _ _ _ _ _ _ => trivial
        clear CS
        by_cases hn : 1 < n
        · have hnI1 : (1 : Int) < (n : Int) := by omega
          have hN1 : Hid (numAt s 1 = ((parseU ((pieces s).getD 1 ByteArray.empty).data.toList).getD 0 : Nat)) := rfl
          have p1 := QP.out _ yc 1 (by omega)
          generalize (pieces s).getD 1 ByteArray.empty = P1 at *
          go_wp2_with fail
          refine (impl_parse_any P1 _).mono ?_
          rintro e W4 ⟨rfl, x4⟩
          rw [← hN1.out]
          generalize hE1 : numAt s 1 = N1 at *
          have HE1 := Lib.hid hE1
          clear hE1
          have b4 := bc.ext x4
          have y4 := yc.trans x4
          have f4 := b4.free
          have l41 : W4.cell? ⟨W3.heap.size, 1, none⟩ = some (.int .i64 0) := b4.cell 1
          have b5 : Box (W4.setCell ⟨W3.heap.size, 1, none⟩ (.int .i64 N1)) W3.heap.size 25 #[.int .i64 k, .int .i64 N1, .int .i64 0, .int .i64 0] := b4.set 1 (.int .i64 N1)
          have y5 : Ext W1 (W4.setCell ⟨W3.heap.size, 1, none⟩ (.int .i64 N1)) := y4.setCell hW3 _
          clear p1 bc yc x4 y4 y3
          by_cases hn' : 2 < n
          · have hnI2 : (2 : Int) < (n : Int) := by omega
            have hN2 : Hid (numAt s 2 = ((parseU ((pieces s).getD 2 ByteArray.empty).data.toList).getD 0 : Nat)) := rfl
            have p2 := QP.out _ y5 2 (by omega)
            generalize (pieces s).getD 2 ByteArray.empty = P2 at *
            go_wp2_with fail
            refine (impl_parse_any P2 _).mono ?_
            rintro e W6 ⟨rfl, x6⟩
            rw [← hN2.out]
            generalize hE2 : numAt s 2 = N2 at *
            have HE2 := Lib.hid hE2
            clear hE2
            have b6 := b5.ext x6
            have y6 := y5.trans x6
            have f6 := b6.free
            have l62 : W6.cell? ⟨W3.heap.size, 2, none⟩ = some (.int .i64 0) := b6.cell 2
            have l63 : W6.cell? ⟨W3.heap.size, 3, none⟩ = some (.int .i64 0) := b6.cell 3
            clear p2 b4 b5 y5 x6 f4 l41
            cases hu : useR k with
            | true =>
              have b7 : Box (W6.setCell ⟨W3.heap.size, 2, none⟩ (.int .i64 N2)) W3.heap.size 25 #[.int .i64 k, .int .i64 N1, .int .i64 N2, .int .i64 0] := b6.set 2 (.int .i64 N2)
              have y7 : Ext W1 (W6.setCell ⟨W3.heap.size, 2, none⟩ (.int .i64 N2)) := y6.setCell hW3 _
              clear b6 y6
              have RU := Lib.hid (fun w => uses_row (k : Int) w)
              rw [hu] at RU
              go_wp2_with fail
              refine (RU.out _).mono ?_
              rintro e w' ⟨rfl, rfl⟩
              have HB3 : Hid (∀ b r c : Int, IsCmd s.data.toList k b r c → b = N1 ∧ r = N2 ∧ c = 0) := fun b r c h => by
                have := HBC.out b r c h
                unfold builtC at this
                rw [HLn.out, if_pos hn, if_pos ⟨hn', hu⟩, if_neg (by rw [hu]; simp)] at this
                simp only [Prod.mk.injEq, HE1.out, HE2.out] at this
                exact ⟨this.2.1.symm, this.2.2.1.symm, this.2.2.2.symm⟩
              clear HBC
              obtain ⟨l0, l1, l2, l3⟩ := b7.cell4
              have FC := Lib.hid (fun w => impl_format k N1 N2 0 w)
              generalize hT : strOf (fmtL k N1 N2 0) = T at FC
              have HTT := Lib.hid hT
              clear hT
              go_wp2_with fail
              refine (FC.out _).mono ?_
              rintro e W9 ⟨rfl, x9⟩
              have y9 := y7.trans x9
              cases hq : (T.toList == s.toList) with
              | true =>
                have HI : Hid (IsCmd s.data.toList k N1 N2 0) := by
                  have e := strOf_eq.1 (HTT.out.trans (bytes_beq.1 hq))
                  exact ⟨fmt_form (by rw [e]; exact HNE.out), e⟩
                clear HNE HB3 HN l0 l1 l2 l3
                obtain ⟨m0, m1, m2, m3⟩ := (b7.ext x9).cell4
                have br := B1.out.ext y9
                have fr := br.free
                obtain ⟨n0, n1, n2, n3⟩ := br.cell4
                have BR := Lib.hid br
                have Y9 := Lib.hid y9
                clear br y9 x9 b7
                go_wp2
                refine bodyPost_ret (v := .tuple #[.agg #[.int .i64 k, .int .i64 N1, .int .i64 N2, .int .i64 0], .bool true]) (results_ct Tryd.results10 _ _ w.heap.size 25 _ (0, 0) _ _ rfl (Box.put4 BR.out _ _ _ _) rfl Tryd.underlying25 rfl info_cmd) rfl ⟨?_, .inl ⟨_, _, _, _, HI.out, rfl⟩⟩
                exact ((((X1.out.trans Y9.out).setCell (Nat.le_refl _) _).setCell (Nat.le_refl _) _).setCell (Nat.le_refl _) _).setCell (Nat.le_refl _) _
              | false =>
                have HN2 : Hid (∀ k0 b r c : Int, IsCmd s.data.toList k0 b r c → ((k + 1 : Nat) : Int) ≤ k0) := fun k0 b r c h => by
                  have h1 := HN.out k0 b r c h
                  rcases Int.lt_or_le (k : Int) k0 with h2 | h2
                  · omega
                  · obtain rfl : k0 = k := by omega
                    obtain ⟨rfl, rfl, rfl⟩ := HB3.out b r c h
                    rw [bytes_beq.2 (HTT.out.symm.trans (strOf_eq.2 h.2))] at hq
                    cases hq
                clear HNE HB3 HN l0 l1 l2 l3 x9 b7
                go_wp2
                go_roundw
                case rel => exact ⟨k + 1, by omega, by omega, by go_num, HN2, y9⟩
                case measure => simp [intOf]; omega
            | false =>
              have b7 : Box (W6.setCell ⟨W3.heap.size, 3, none⟩ (.int .i64 N2)) W3.heap.size 25 #[.int .i64 k, .int .i64 N1, .int .i64 0, .int .i64 N2] := b6.set 3 (.int .i64 N2)
              have y7 : Ext W1 (W6.setCell ⟨W3.heap.size, 3, none⟩ (.int .i64 N2)) := y6.setCell hW3 _
              clear b6 y6
              have RU := Lib.hid (fun w => uses_row (k : Int) w)
              rw [hu] at RU
              go_wp2_with fail
              refine (RU.out _).mono ?_
              rintro e w' ⟨rfl, rfl⟩
              have HB3 : Hid (∀ b r c : Int, IsCmd s.data.toList k b r c → b = N1 ∧ r = 0 ∧ c = N2) := fun b r c h => by
                have := HBC.out b r c h
                unfold builtC at this
                rw [HLn.out, if_pos hn, if_neg (by rw [hu]; simp), if_pos ⟨hn', hu⟩] at this
                simp only [Prod.mk.injEq, HE1.out, HE2.out] at this
                exact ⟨this.2.1.symm, this.2.2.1.symm, this.2.2.2.symm⟩
              clear HBC
              obtain ⟨l0, l1, l2, l3⟩ := b7.cell4
              have FC := Lib.hid (fun w => impl_format k N1 0 N2 w)
              generalize hT : strOf (fmtL k N1 0 N2) = T at FC
              have HTT := Lib.hid hT
              clear hT
              go_wp2_with fail
              refine (FC.out _).mono ?_
              rintro e W9 ⟨rfl, x9⟩
              have y9 := y7.trans x9
              cases hq : (T.toList == s.toList) with
              | true =>
                have HI : Hid (IsCmd s.data.toList k N1 0 N2) := by
                  have e := strOf_eq.1 (HTT.out.trans (bytes_beq.1 hq))
                  exact ⟨fmt_form (by rw [e]; exact HNE.out), e⟩
                clear HNE HB3 HN l0 l1 l2 l3
                obtain ⟨m0, m1, m2, m3⟩ := (b7.ext x9).cell4
                have br := B1.out.ext y9
                have fr := br.free
                obtain ⟨n0, n1, n2, n3⟩ := br.cell4
                have BR := Lib.hid br
                have Y9 := Lib.hid y9
                clear br y9 x9 b7
                go_wp2
                refine bodyPost_ret (v := .tuple #[.agg #[.int .i64 k, .int .i64 N1, .int .i64 0, .int .i64 N2], .bool true]) (results_ct Tryd.results10 _ _ w.heap.size 25 _ (0, 0) _ _ rfl (Box.put4 BR.out _ _ _ _) rfl Tryd.underlying25 rfl info_cmd) rfl ⟨?_, .inl ⟨_, _, _, _, HI.out, rfl⟩⟩
                exact ((((X1.out.trans Y9.out).setCell (Nat.le_refl _) _).setCell (Nat.le_refl _) _).setCell (Nat.le_refl _) _).setCell (Nat.le_refl _) _
              | false =>
                have HN2 : Hid (∀ k0 b r c : Int, IsCmd s.data.toList k0 b r c → ((k + 1 : Nat) : Int) ≤ k0) := fun k0 b r c h => by
                  have h1 := HN.out k0 b r c h
                  rcases Int.lt_or_le (k : Int) k0 with h2 | h2
                  · omega
                  · obtain rfl : k0 = k := by omega
                    obtain ⟨rfl, rfl, rfl⟩ := HB3.out b r c h
                    rw [bytes_beq.2 (HTT.out.symm.trans (strOf_eq.2 h.2))] at hq
                    cases hq
                clear HNE HB3 HN l0 l1 l2 l3 x9 b7
                go_wp2
                go_roundw
                case rel => exact ⟨k + 1, by omega, by omega, by go_num, HN2, y9⟩
                case measure => simp [intOf]; omega
          · have hnI2 : ¬ (2 : Int) < (n : Int) := by omega
            have HB3 : Hid (∀ b r c : Int, IsCmd s.data.toList k b r c → b = N1 ∧ r = 0 ∧ c = 0) := fun b r c h => by
              have := HBC.out b r c h
              unfold builtC at this
              rw [HLn.out, if_pos hn, if_neg (by omega), if_neg (by omega)] at this
              simp only [Prod.mk.injEq, HE1.out] at this
              exact ⟨this.2.1.symm, this.2.2.1.symm, this.2.2.2.symm⟩
            clear HBC
            obtain ⟨l0, l1, l2, l3⟩ := b5.cell4
            have FC := Lib.hid (fun w => impl_format k N1 0 0 w)
            generalize hT : strOf (fmtL k N1 0 0) = T at FC
            have HTT := Lib.hid hT
            clear hT
            go_wp2_with fail
            refine (FC.out _).mono ?_
            rintro e W9 ⟨rfl, x9⟩
            have y9 := y5.trans x9
            cases hq : (T.toList == s.toList) with
            | true =>
              have HI : Hid (IsCmd s.data.toList k N1 0 0) := by
                have e := strOf_eq.1 (HTT.out.trans (bytes_beq.1 hq))
                exact ⟨fmt_form (by rw [e]; exact HNE.out), e⟩
              clear HNE HB3 HN l0 l1 l2 l3
              obtain ⟨m0, m1, m2, m3⟩ := (b5.ext x9).cell4
              have br := B1.out.ext y9
              have fr := br.free
              obtain ⟨n0, n1, n2, n3⟩ := br.cell4
              have BR := Lib.hid br
              have Y9 := Lib.hid y9
              clear br y9 x9 b5
              go_wp2
              refine bodyPost_ret (v := .tuple #[.agg #[.int .i64 k, .int .i64 N1, .int .i64 0, .int .i64 0], .bool true]) (results_ct Tryd.results10 _ _ w.heap.size 25 _ (0, 0) _ _ rfl (Box.put4 BR.out _ _ _ _) rfl Tryd.underlying25 rfl info_cmd) rfl ⟨?_, .inl ⟨_, _, _, _, HI.out, rfl⟩⟩
              exact ((((X1.out.trans Y9.out).setCell (Nat.le_refl _) _).setCell (Nat.le_refl _) _).setCell (Nat.le_refl _) _).setCell (Nat.le_refl _) _
            | false =>
              have HN2 : Hid (∀ k0 b r c : Int, IsCmd s.data.toList k0 b r c → ((k + 1 : Nat) : Int) ≤ k0) := fun k0 b r c h => by
                have h1 := HN.out k0 b r c h
                rcases Int.lt_or_le (k : Int) k0 with h2 | h2
                · omega
                · obtain rfl : k0 = k := by omega
                  obtain ⟨rfl, rfl, rfl⟩ := HB3.out b r c h
                  rw [bytes_beq.2 (HTT.out.symm.trans (strOf_eq.2 h.2))] at hq
                  cases hq
              clear HNE HB3 HN l0 l1 l2 l3 x9 b5
              go_wp2
              go_roundw
              case rel => exact ⟨k + 1, by omega, by omega, by go_num, HN2, y9⟩
              case measure => simp [intOf]; omega
        · have hnI1 : ¬ (1 : Int) < (n : Int) := by omega
          have hnI2 : ¬ (2 : Int) < (n : Int) := by omega
          have HB3 : Hid (∀ b r c : Int, IsCmd s.data.toList k b r c → b = 0 ∧ r = 0 ∧ c = 0) := fun b r c h => by
            have := HBC.out b r c h
            unfold builtC at this
            rw [HLn.out, if_neg hn, if_neg (by omega), if_neg (by omega)] at this
            simp only [Prod.mk.injEq] at this
            exact ⟨this.2.1.symm, this.2.2.1.symm, this.2.2.2.symm⟩
          clear HBC
          obtain ⟨l0, l1, l2, l3⟩ := bc.cell4
          have FC := Lib.hid (fun w => impl_format k 0 0 0 w)
          generalize hT : strOf (fmtL k 0 0 0) = T at FC
          have HTT := Lib.hid hT
          clear hT
          go_wp2_with fail
          refine (FC.out _).mono ?_
          rintro e W9 ⟨rfl, x9⟩
          have y9 := yc.trans x9
          cases hq : (T.toList == s.toList) with
          | true =>
            have HI : Hid (IsCmd s.data.toList k 0 0 0) := by
              have e := strOf_eq.1 (HTT.out.trans (bytes_beq.1 hq))
              exact ⟨fmt_form (by rw [e]; exact HNE.out), e⟩
            clear HNE HB3 HN l0 l1 l2 l3
            obtain ⟨m0, m1, m2, m3⟩ := (bc.ext x9).cell4
            have br := B1.out.ext y9
            have fr := br.free
            obtain ⟨n0, n1, n2, n3⟩ := br.cell4
            have BR := Lib.hid br
            have Y9 := Lib.hid y9
            clear br y9 x9 bc
            go_wp2
            refine bodyPost_ret (v := .tuple #[.agg #[.int .i64 k, .int .i64 0, .int .i64 0, .int .i64 0], .bool true]) (results_ct Tryd.results10 _ _ w.heap.size 25 _ (0, 0) _ _ rfl (Box.put4 BR.out _ _ _ _) rfl Tryd.underlying25 rfl info_cmd) rfl ⟨?_, .inl ⟨_, _, _, _, HI.out, rfl⟩⟩
            exact ((((X1.out.trans Y9.out).setCell (Nat.le_refl _) _).setCell (Nat.le_refl _) _).setCell (Nat.le_refl _) _).setCell (Nat.le_refl _) _
          | false =>
            have HN2 : Hid (∀ k0 b r c : Int, IsCmd s.data.toList k0 b r c → ((k + 1 : Nat) : Int) ≤ k0) := fun k0 b r c h => by
              have h1 := HN.out k0 b r c h
              rcases Int.lt_or_le (k : Int) k0 with h2 | h2
              · omega
              · obtain rfl : k0 = k := by omega
                obtain ⟨rfl, rfl, rfl⟩ := HB3.out b r c h
                rw [bytes_beq.2 (HTT.out.symm.trans (strOf_eq.2 h.2))] at hq
                cases hq
            clear HNE HB3 HN l0 l1 l2 l3 x9 bc
            go_wp2
            go_roundw
            case rel => exact ⟨k + 1, by omega, by omega, by go_num, HN2, y9⟩
            case measure => simp [intOf]; omega
    · have hgt : ¬ (k : Int) ≤ 9 := by omega
      have HNO : Hid (∀ k0 b r c : Int, ¬ IsCmd s.data.toList k0 b r c) := fun k0 b r c h => by
        have h1 := HN.out k0 b r c h
        have h2 := (formB_range h.1).1.2
        omega
      have br := B1.out.ext xr
      have fr := br.free
      obtain ⟨n0, n1, n2, n3⟩ := br.cell4
      have BR := Lib.hid br
      have Y9 := Lib.hid xr
      clear br xr HN
      go_wp2
      refine bodyPost_ret (v := .tuple #[.agg #[.int .i64 0, .int .i64 0, .int .i64 0, .int .i64 0], .bool false]) (results_ct Tryd.results10 _ _ w.heap.size 25 _ (0, 0) _ _ rfl (Box.put4 BR.out _ _ _ _) rfl Tryd.underlying25 rfl info_cmd) rfl ⟨?_, .inr ⟨HNO.out, rfl⟩⟩
      exact ((((X1.out.trans Y9.out).setCell (Nat.le_refl _) _).setCell (Nat.le_refl _) _).setCell (Nat.le_refl _) _).setCell (Nat.le_refl _) _

end Go.Proofs.YtamlfjkkpgmjiaaDoor
