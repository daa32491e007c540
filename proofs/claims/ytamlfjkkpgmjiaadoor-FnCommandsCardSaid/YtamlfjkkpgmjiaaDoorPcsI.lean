/- The walk of ParseCommand of the reference; the walk of FnExactParseCommand. -/
import Derived.Test.YtamlfjkkpgmjiaaDoorPcsW
import Derived.Test.YtamlfjkkpgmjiaaDoorPcmI
set_option maxRecDepth 20000
namespace Go.Proofs.YtamlfjkkpgmjiaaDoor
open Go.RowKit
open Go.Lib (decDigits itoa)
attribute [local go_sem ↓] Go.wp_at_zero Go.wp_at_succ

set_option maxHeartbeats 8000000 in
theorem spec_parseC (s : ByteArray) (hs : s.size ≤ 1048576) (w : World) :
    Calls Tryd.prog 9 #[.string s] w (ParsedC s.data.toList w) := by
  obtain ⟨i0, hi, hz0, hz1, hz2⟩ := info_parts int_info
  have b0 := Box.new w 25 #[.int .i64 0, .int .i64 0, .int .i64 0, .int .i64 0]
  have x0 : Ext w (w.alloc (.cells #[.int .i64 0, .int .i64 0, .int .i64 0, .int .i64 0] 25)) := (Ext.refl w).alloc _
  have HSP := Lib.hid (fun w => spec_split_any s w)
  have HCM := Lib.hid (fun k b r c (h : IsCmd s.data.toList k b r c) => isCmd_split h)
  have HFL := Lib.hid (fun k b r c (h : IsCmd s.data.toList k b r c) j h1 hj => spec_fails h j h1 hj)
  have HBL := Lib.hid (fun k b r c (h : IsCmd s.data.toList k b r c) xs hx hl => spec_built (xs := xs) h hx hl)
  have hlen := split_lens s.data.toList
  generalize hF : splitF s.data.toList = F at *
  generalize hO : splitB s.data.toList = O at *
  clear hF hO
  go_enter Tryd.func9, Tryd.ntmps9
  go_wp2_with fail
  refine (HSP.out _).mono ?_
  rintro e W1 ⟨a1, c1, rfl, o1, x1⟩
  have b1 := b0.ext x1
  have x01 := x0.trans x1
  have B1 := Lib.hid b1
  have X1 := Lib.hid x01
  have hl1 := b1.lt
  have O1 : Hid (OwnS W1 (w.heap.size + 1) a1 F.length c1 F) := by
    have e : (w.alloc (.cells #[.int .i64 0, .int .i64 0, .int .i64 0, .int .i64 0] 25)).heap.size = w.heap.size + 1 := by simp
    rw [e] at o1
    exact o1
  have f1 := b1.free
  obtain ⟨n0, n1, n2, n3⟩ := b1.cell4
  clear b0 x0 o1 x1 b1 x01 HSP
  cases O with
  | false =>
    have HNO : Hid (∀ k b r c : Int, ¬ IsCmd s.data.toList k b r c) := fun k b r c h => by
      have := (HCM.out k b r c h).1
      cases this
    clear HCM HFL HBL
    go_wp2
    refine bodyPost_ret (v := .tuple #[.agg #[.int .i64 0, .int .i64 0, .int .i64 0, .int .i64 0], .bool false]) (results_ct Tryd.results9 _ _ w.heap.size 25 _ (0, 0) _ _ rfl (Box.put4 B1.out _ _ _ _) rfl Tryd.underlying25 rfl info_cmd) rfl ⟨?_, .inr ⟨HNO.out, rfl⟩⟩
    exact ((((X1.out).setCell (Nat.le_refl _) _).setCell (Nat.le_refl _) _).setCell (Nat.le_refl _) _).setCell (Nat.le_refl _) _
  | true =>
    by_cases hn0 : F.length = 0
    · have HNO : Hid (∀ k b r c : Int, ¬ IsCmd s.data.toList k b r c) := fun k b r c h => by
        have := (HCM.out k b r c h).2
        rw [this] at hn0
        simp at hn0
      have hnb : (((F.length : Nat) : Int) == 0) = true := by rw [hn0]; rfl
      clear HCM HFL HBL
      go_wp2
      refine bodyPost_ret (v := .tuple #[.agg #[.int .i64 0, .int .i64 0, .int .i64 0, .int .i64 0], .bool false]) (results_ct Tryd.results9 _ _ w.heap.size 25 _ (0, 0) _ _ rfl (Box.put4 B1.out _ _ _ _) rfl Tryd.underlying25 rfl info_cmd) rfl ⟨?_, .inr ⟨HNO.out, rfl⟩⟩
      exact ((((X1.out).setCell (Nat.le_refl _) _).setCell (Nat.le_refl _) _).setCell (Nat.le_refl _) _).setCell (Nat.le_refl _) _
    · have hnb : (((F.length : Nat) : Int) == 0) = false := by rw [beq_eq_false_iff_ne]; omega
      have hn1 : 1 ≤ F.length := by omega
      obtain ⟨g, rfl, hg0, hg1⟩ := O1.out.form (by omega)
      have QP : Hid (∀ x, Ext W1 x → ∀ i, i < F.length → x.cell? ⟨g, i, none⟩ = some (.string (strOf (F.getD i [])))) := fun x hx i hi => (hx.cell hg1 i).trans (O1.out.at hi)
      have bc := Box.new W1 25 #[.int .i64 0, .int .i64 0, .int .i64 0, .int .i64 0]
      have y1 : Ext W1 (W1.alloc (.cells #[.int .i64 0, .int .i64 0, .int .i64 0, .int .i64 0] 25)) := (Ext.refl W1).alloc _
      have HLn : Hid (F.length = F.length) := rfl
      generalize hLn : F.length = n at *
      replace HLn := Lib.hid hLn
      clear hLn O1 HCM n0 n1 n2 n3 f1
      go_wp2_with fail
      refine (spec_words _).mono ?_
      rintro e W2 ⟨gw, rfl, hgw, bw, x2⟩
      have bc2 := bc.ext x2
      have y2 := y1.trans x2
      have hgw' : W1.heap.size < gw := by simp at hgw; omega
      clear bc y1 x2 hgw
      go_wp2
      go_loopw [8] (fun i wr => ∃ k : Nat, 1 ≤ k ∧ k ≤ 10 ∧ i = .int .i64 k ∧ Box wr W1.heap.size 25 #[.int .i64 (kindAt (F.getD 0 []) k), .int .i64 0, .int .i64 0, .int .i64 0] ∧ Box wr gw 9 wordsV ∧ Ext W1 wr) (fun i _ => 10 - (intOf i).toNat)
      case atStart => exact ⟨1, by omega, by omega, rfl, bc2, bw, y2⟩
      case round =>
        obtain ⟨k, hk1, hk, rfl, bk, bv, xr⟩ := hrel
        clear bc2 bw y2
        by_cases hlt : k < 10
        · have hltI : (k : Int) < 10 := by omega
          have hkI : (0 : Int) ≤ (k : Int) := by omega
          have qk := (bv.cell k).trans (wordsV_get k hk1 (by omega))
          have q0 := QP.out _ xr 0 (by omega)
          have hnI : (0 : Int) < (n : Int) := by omega
          have hnN : 0 < n := by omega
          have fk := bk.free
          have k0 := bk.cell4.1
          have HY := Lib.hid (fun h => kindAt_yes (P := F.getD 0 []) hk1 h)
          have HN := Lib.hid (fun h => kindAt_no (P := F.getD 0 []) (i := k) h)
          generalize hP0 : F.getD 0 [] = P0 at *
          have HP0 := Lib.hid hP0
          clear hP0
          have hW : ((strOf (wordL k)).toList == (strOf P0).toList) = (wordL k == P0) := by rw [ByteArray.toList_eq, ByteArray.toList_eq, strOf_list, strOf_list]
          obtain ⟨W3, rfl⟩ : ∃ x : World, x = wr := ⟨_, rfl⟩
          generalize strOf (wordL k) = S at *
          generalize strOf P0 = S0 at *
          cases he : (wordL k == P0) with
          | true =>
            have HE := Lib.hid (HY.out (beq_iff_eq.1 he))
            rw [he] at hW
            have b4 : ∀ m, Box ((W3.drewN m).setCell ⟨W1.heap.size, 0, none⟩ (.int .i64 k)) W1.heap.size 25 #[.int .i64 k, .int .i64 0, .int .i64 0, .int .i64 0] := fun m => (bk.drewN m).set 0 _
            have v4 : ∀ m, Box ((W3.drewN m).setCell ⟨W1.heap.size, 0, none⟩ (.int .i64 k)) gw 9 wordsV := fun m => (bv.drewN m).other (by simp; omega) _
            have x4 : ∀ m, Ext W1 ((W3.drewN m).setCell ⟨W1.heap.size, 0, none⟩ (.int .i64 k)) := fun m => (xr.drewN m).setCell (Nat.le_refl _) _
            have B4 := Lib.hid b4
            have V4 := Lib.hid v4
            have X4 := Lib.hid x4
            generalize kindAt P0 k = K at *
            clear he HY HN bk bv xr b4 v4 x4
            go_wp2
            go_quiet (fail)
            go_wp2
            go_roundw
            case rel => exact ⟨k + 1, by omega, by omega, by go_num, by rw [HE.out]; exact B4.out _, V4.out _, X4.out _⟩
            case measure => simp [intOf]; omega
          | false =>
            have HE := Lib.hid (HN.out (by simpa using he))
            rw [he] at hW
            have B4 := Lib.hid (fun m => bk.drewN m)
            have V4 := Lib.hid (fun m => bv.drewN m)
            have X4 := Lib.hid (fun m => xr.drewN m)
            generalize hK : kindAt P0 k = K at *
            clear he HY HN bk bv xr hK
            go_wp2
            go_quiet (fail)
            go_wp2
            go_roundw
            case rel => exact ⟨k + 1, by omega, by omega, by go_num, by rw [HE.out]; exact B4.out _, V4.out _, X4.out _⟩
            case measure => simp [intOf]; omega
        · obtain rfl : k = 10 := by omega

          obtain ⟨W4, rfl⟩ : ∃ x : World, x = wr := ⟨_, rfl⟩
          have hK := kindAt_range (F.getD 0 []) 10 (Nat.le_refl _)
          have HKB := Lib.hid (fun k b r c (h : IsCmd s.data.toList k b r c) xs (hx : NumsOf F xs) (hl : xs.length + 1 = n) => HBL.out k b r c h xs hx hl)
          clear HBL bv
          generalize kindAt (F.getD 0 []) 10 = K at *
          have bk4 := Lib.hid bk
          have X4 := Lib.hid xr
          have QF : Hid (∀ x, Ext W4 x → ∀ i, i < n → x.cell? ⟨g, i, none⟩ = some (.string (strOf (F.getD i [])))) := fun x hx i hi => QP.out x (xr.trans hx) i hi
          have hown0 : (W4.alloc (.cells #[] 3)).ownsRow W4.heap.size 3 1 (.slice (some ⟨W4.heap.size, 0, none⟩) 0 0) 0 [] := World.ownsRow_made (base := W4.heap.size) (e := 3) (size := 1) W4 #[] 0 (Nat.le_refl _) (by simp [maxLen]) rfl
          clear QP bk xr
          go_wp2
          go_loopw [9, 10] (fun v i wr => ∃ (k m : Nat) (xs : List Nat), 1 ≤ k ∧ k ≤ n ∧ i = .int .i64 k ∧ Hid (k = m + 1 ∧ xs.length = m) ∧ wr.ownsRow W4.heap.size 3 1 v m (xs.map fun (x : Nat) => Value.int .i64 (x : Int)) ∧ Hid (NumsOf F xs) ∧ W4.heap.size ≤ wr.heap.size ∧ Ext W4 wr) (fun _ i _ => n - (intOf i).toNat)
          case atStart => exact ⟨1, 0, [], by omega, hn1, rfl, ⟨rfl, rfl⟩, hown0, NumsOf.nil F, by simp, (Ext.refl _).alloc _⟩
          case round =>
            obtain ⟨k, m, xs, hk1, hxn, rfl, HKM, ho, HX, hsz, x5⟩ := hrel
            clear hown0
            have HMM := Lib.hid HKM.out.2
            have HK := Lib.hid HKM.out.1
            by_cases hlt : k < n
            · have hltI : (k : Int) < (n : Int) := by omega
              have hm24 : m ≤ 24 := by have := HK.out; omega
              have qm := QF.out _ x5 k hlt
              have HFF : Hid (∀ k0 b r c, IsCmd s.data.toList k0 b r c → (parseU (F.getD k [])).isSome = true) := fun k0 b r c h => HFL.out k0 b r c h _ (by omega) hlt
              have HSN : Hid (∀ x, parseU (F.getD k []) = some x → NumsOf F (xs ++ [x])) := fun x hx => HX.out.snoc (by rw [HMM.out, ← HK.out]; exact hx)
              have HSD := strOf_list (F.getD k [])
              generalize F.getD k [] = P1 at *
              go_wp2_with fail
              refine (spec_parse_any (strOf P1) _).mono ?_
              rintro e W6 ⟨rfl, x6⟩
              rw [HSD]
              have ho6 := own_ext ho x6
              have x56 := x5.trans x6
              have hsz6 := Nat.le_trans hsz x6.le
              clear HSD ho x5 x6 hsz qm
              cases hp : parseU P1 with
              | none =>
                have HNO : Hid (∀ k b r c : Int, ¬ IsCmd s.data.toList k b r c) := fun k b r c h => by
                  have := HFF.out k b r c h
                  rw [hp] at this
                  cases this
                have B6 := Lib.hid (B1.out.ext (X4.out.trans x56))
                have X6 := Lib.hid (X1.out.trans (X4.out.trans x56))
                have f6 := B6.out.free
                obtain ⟨n0, n1, n2, n3⟩ := B6.out.cell4
                clear HFF HSN HFL HKB ho6 x56 hsz6 HX HMM hp HKM HK
                go_wp2
                refine bodyPost_ret (v := .tuple #[.agg #[.int .i64 0, .int .i64 0, .int .i64 0, .int .i64 0], .bool false]) (results_ct Tryd.results9 _ _ w.heap.size 25 _ (0, 0) _ _ rfl (Box.put4 B6.out _ _ _ _) rfl Tryd.underlying25 rfl info_cmd) rfl ⟨?_, .inr ⟨HNO.out, rfl⟩⟩
                exact ((((X6.out).setCell (Nat.le_refl _) _).setCell (Nat.le_refl _) _).setCell (Nat.le_refl _) _).setCell (Nat.le_refl _) _
              | some x =>
                have HXN := Lib.hid (HSN.out x hp)
                clear HFF HSN hp
                go_wp2_with (at_builtin; refine wpList_append_own _ rfl (.tmp 65) (.tmp 67) 52 rfl W4.heap.size 3 i0 (.int .i64 0) 1 8 Tryd.underlying52 hi hz0 hz1 hz2 rfl (by decide) _ _ _ rfl (ho6.alloc _) ⟨W6.heap.size, 0, none⟩ 1 1 [.int .i64 x] rfl rfl (cell_one_new _ _ _) ?c2 ?c3 ?c4 ?c5 ?_)
                case c2 => first | rfl | (intro u hu; simp at hu; subst hu; rfl)
                case c3 => unfold maxLen; omega
                case c4 => omega
                case c5 => first | omega | (simp; omega)
                intro v' w8 hown3 hgrow _
                have x8 := (x56.alloc _).grown hgrow (fun j hj => (ho6.lt j hj).1)
                have hs3 := hgrow.size
                have hown4 : w8.ownsRow W4.heap.size 3 1 v' (m + 1) ((xs ++ [x]).map fun (x : Nat) => Value.int .i64 (x : Int)) := by
                  rw [List.map_append]; exact hown3
                have HLE : Hid (k + 1 = (m + 1) + 1 ∧ (xs ++ [x]).length = m + 1) := ⟨by have := HK.out; omega, by rw [List.length_append, HMM.out]; rfl⟩
                clear ho6 hgrow hown3 x56
                go_wp2
                go_roundw
                case rel => exact ⟨_, _, _, _, _, _, _, _, _, _, _, _, _, _, _, _, _, _, _, _, _, _, _, _, _, _, ⟨k + 1, m + 1, xs ++ [x], by omega, by omega, by go_num, HLE.out, hown4, HXN, (by first | omega | (simp at hs3; omega)), x8⟩, rfl⟩
                case measure => simp [intOf]; omega
            · obtain rfl : k = n := by omega
              have hO : ∃ a c, _ = Value.slice a m c := own_slice ho
              obtain ⟨a', c', rfl⟩ := hO
              obtain ⟨W5, rfl⟩ : ∃ x : World, x = wr := ⟨_, rfl⟩
              have HKX := Lib.hid (fun k b r c (h : IsCmd s.data.toList k b r c) => HKB.out k b r c h xs HX.out (by rw [HMM.out, ← HK.out]))
              have bc5 := bk4.out.ext x5
              have BR := Lib.hid (B1.out.ext (X4.out.trans x5))
              have XR := Lib.hid (X1.out.trans (X4.out.trans x5))
              have hr1 : w.heap.size < W1.heap.size := by omega
              have hW1 : W1.heap.size < W5.heap.size := bc5.lt
              have ho' : Own W5 W4.heap.size a' m c' (xs.map fun (x : Nat) => (x : Int)) := by
                unfold Own
                rw [List.map_map]
                exact ho
              have hW4 : W1.heap.size < W4.heap.size := bk4.out.lt
              have hy0 : (xs.map fun (x : Nat) => (x : Int)).getD 0 0 = ((xs.getD 0 0 : Nat) : Int) := by cases xs <;> rfl
              have hy1 : (xs.map fun (x : Nat) => (x : Int)).getD 1 0 = ((xs.getD 1 0 : Nat) : Int) := by rcases xs with _ | ⟨_, _ | ⟨_, _⟩⟩ <;> rfl
              have HZ0 : Hid (m < 1 → xs.getD 0 0 = 0) := fun h => by
                have := HMM.out
                rw [List.getD_eq_getElem?_getD, List.getElem?_eq_none (by omega)]; rfl
              have HZ1 : Hid (m < 2 → xs.getD 1 0 = 0) := fun h => by
                have := HMM.out
                rw [List.getD_eq_getElem?_getD, List.getElem?_eq_none (by omega)]; rfl
              have huse := uses_five hK.1 hK.2
              have HU := Lib.hid (fun u1 u2 u3 (h1 : useB K = u1) (h2 : useR K = u2) (h3 : useC K = u3) w => spec_uses K u1 u2 u3 (Lib.hid h1) (Lib.hid h2) (Lib.hid h3) w)
              clear HKB HFL ho QF X4 B1 X1 HX bk4
              generalize hY0 : xs.getD 0 0 = Y0 at *
              generalize hY1 : xs.getD 1 0 = Y1 at *
              have HY0 := Lib.hid hY0
              have HY1 := Lib.hid hY1
              clear hY0 hY1
              by_cases hm0 : m = 0
              · have hmI0 : ¬ (0 : Int) < (m : Int) := by omega
                have hmI1 : ¬ (1 : Int) < (m : Int) := by omega
                clear ho' hy0 hy1
                rcases huse with ⟨hu1, hu2, hu3⟩ | ⟨hu1, hu2, hu3⟩ | ⟨hu1, hu2, hu3⟩ | ⟨hu1, hu2, hu3⟩
                · skip
                  have HB3 : Hid (∀ k b r c : Int, IsCmd s.data.toList k b r c → k = K ∧ b = 0 ∧ r = 0 ∧ c = 0) := fun k b r c h => by
                    obtain ⟨h1, h2⟩ := HKX.out k b r c h
                    subst h1
                    unfold cmdOf at h2
                    rw [hu1, hu2, hu3, HY0.out, HY1.out] at h2
                    simp only [Prod.mk.injEq, if_true, Bool.false_eq_true, if_false, Int.natCast_zero, HZ0.out (by omega), HZ1.out (by omega)] at h2
                    exact ⟨rfl, by omega, by omega, by omega⟩
                  have FC := Lib.hid (fun w => spec_formatC K 0 0 0 w)
                  generalize hT : strOf (fmtL K 0 0 0) = T at FC
                  have HTT := Lib.hid hT
                  have HU1 := Lib.hid (fun w => HU.out _ _ _ hu1 hu2 hu3 w)
                  clear hT HKX
                  have e5 := Ext.refl W5
                  have f5 := bc5.free
                  obtain ⟨l0, l1, l2, l3⟩ := bc5.cell4
                  go_wp2_with fail
                  refine (HU1.out _).mono ?_
                  rintro e w' ⟨rfl, rfl⟩
                  go_wp2_with fail
                  refine (FC.out _).mono ?_
                  rintro e W9 ⟨rfl, x9⟩
                  have RB := Lib.hid ((BR.out).ext x9)
                  have RX := Lib.hid ((XR.out).trans x9)
                  have fr := RB.out.free
                  obtain ⟨n0, n1, n2, n3⟩ := RB.out.cell4
                  obtain ⟨m0, m1, m2, m3⟩ := (bc5.ext x9).cell4
                  clear x9 l0 l1 l2 l3 f5 
                  cases hq : (T.toList == s.toList) with
                  | true =>
                    have e := strOf_eq.1 (HTT.out.trans (bytes_beq.1 hq))
                    cases hz : formB K 0 0 0 with
                    | true =>
                      have HI : Hid (IsCmd s.data.toList K 0 0 0) := ⟨hz, e⟩
                      have hne : s.data.toList ≠ [] := fun h => fmt_ne hz (e.trans h)
                      have hs0 : (s.toList == []) = false := by rw [ByteArray.toList_eq]; simpa using hne
                      have hs1 : s.toList.isEmpty = false := by rw [ByteArray.toList_eq]; simpa using hne
                      clear e hne hz HB3 HTT
                      go_wp2
                      refine bodyPost_ret (v := .tuple #[.agg #[.int .i64 K, .int .i64 0, .int .i64 0, .int .i64 0], .bool true]) (results_ct Tryd.results9 _ _ w.heap.size 25 _ (0, 0) _ _ rfl (Box.put4 RB.out _ _ _ _) rfl Tryd.underlying25 rfl info_cmd) rfl ⟨?_, .inl ⟨_, _, _, _, HI.out, rfl⟩⟩
                      exact ((((RX.out).setCell (Nat.le_refl _) _).setCell (Nat.le_refl _) _).setCell (Nat.le_refl _) _).setCell (Nat.le_refl _) _
                    | false =>
                      have ht : s.data.toList = [] := by rw [← e]; exact fmtL_no hz
                      have HNO : Hid (∀ k b r c : Int, ¬ IsCmd s.data.toList k b r c) := fun k b r c h => fmt_ne h.1 (h.2.trans ht)
                      have hs0 : (s.toList == []) = true := by rw [ByteArray.toList_eq, ht]; rfl
                      have hs1 : s.toList.isEmpty = true := by rw [ByteArray.toList_eq, ht]; rfl
                      clear e ht hz HB3 HTT
                      go_wp2
                      refine bodyPost_ret (v := .tuple #[.agg #[.int .i64 0, .int .i64 0, .int .i64 0, .int .i64 0], .bool false]) (results_ct Tryd.results9 _ _ w.heap.size 25 _ (0, 0) _ _ rfl (Box.put4 RB.out _ _ _ _) rfl Tryd.underlying25 rfl info_cmd) rfl ⟨?_, .inr ⟨HNO.out, rfl⟩⟩
                      exact ((((RX.out).setCell (Nat.le_refl _) _).setCell (Nat.le_refl _) _).setCell (Nat.le_refl _) _).setCell (Nat.le_refl _) _
                  | false =>
                    have HNO : Hid (∀ k b r c : Int, ¬ IsCmd s.data.toList k b r c) := fun k b r c h => by
                      obtain ⟨rfl, rfl, rfl, rfl⟩ := HB3.out k b r c h
                      rw [bytes_beq.2 (HTT.out.symm.trans (strOf_eq.2 h.2))] at hq
                      cases hq
                    clear HB3 HTT
                    go_wp2
                    refine bodyPost_ret (v := .tuple #[.agg #[.int .i64 0, .int .i64 0, .int .i64 0, .int .i64 0], .bool false]) (results_ct Tryd.results9 _ _ w.heap.size 25 _ (0, 0) _ _ rfl (Box.put4 RB.out _ _ _ _) rfl Tryd.underlying25 rfl info_cmd) rfl ⟨?_, .inr ⟨HNO.out, rfl⟩⟩
                    exact ((((RX.out).setCell (Nat.le_refl _) _).setCell (Nat.le_refl _) _).setCell (Nat.le_refl _) _).setCell (Nat.le_refl _) _
                · skip
                  have HB3 : Hid (∀ k b r c : Int, IsCmd s.data.toList k b r c → k = K ∧ b = 0 ∧ r = 0 ∧ c = 0) := fun k b r c h => by
                    obtain ⟨h1, h2⟩ := HKX.out k b r c h
                    subst h1
                    unfold cmdOf at h2
                    rw [hu1, hu2, hu3, HY0.out, HY1.out] at h2
                    simp only [Prod.mk.injEq, if_true, Bool.false_eq_true, if_false, Int.natCast_zero, HZ0.out (by omega), HZ1.out (by omega)] at h2
                    exact ⟨rfl, by omega, by omega, by omega⟩
                  have FC := Lib.hid (fun w => spec_formatC K 0 0 0 w)
                  generalize hT : strOf (fmtL K 0 0 0) = T at FC
                  have HTT := Lib.hid hT
                  have HU1 := Lib.hid (fun w => HU.out _ _ _ hu1 hu2 hu3 w)
                  clear hT HKX
                  have e5 := Ext.refl W5
                  have f5 := bc5.free
                  obtain ⟨l0, l1, l2, l3⟩ := bc5.cell4
                  go_wp2_with fail
                  refine (HU1.out _).mono ?_
                  rintro e w' ⟨rfl, rfl⟩
                  go_wp2_with fail
                  refine (FC.out _).mono ?_
                  rintro e W9 ⟨rfl, x9⟩
                  have RB := Lib.hid ((BR.out).ext x9)
                  have RX := Lib.hid ((XR.out).trans x9)
                  have fr := RB.out.free
                  obtain ⟨n0, n1, n2, n3⟩ := RB.out.cell4
                  obtain ⟨m0, m1, m2, m3⟩ := (bc5.ext x9).cell4
                  clear x9 l0 l1 l2 l3 f5 
                  cases hq : (T.toList == s.toList) with
                  | true =>
                    have e := strOf_eq.1 (HTT.out.trans (bytes_beq.1 hq))
                    cases hz : formB K 0 0 0 with
                    | true =>
                      have HI : Hid (IsCmd s.data.toList K 0 0 0) := ⟨hz, e⟩
                      have hne : s.data.toList ≠ [] := fun h => fmt_ne hz (e.trans h)
                      have hs0 : (s.toList == []) = false := by rw [ByteArray.toList_eq]; simpa using hne
                      have hs1 : s.toList.isEmpty = false := by rw [ByteArray.toList_eq]; simpa using hne
                      clear e hne hz HB3 HTT
                      go_wp2
                      refine bodyPost_ret (v := .tuple #[.agg #[.int .i64 K, .int .i64 0, .int .i64 0, .int .i64 0], .bool true]) (results_ct Tryd.results9 _ _ w.heap.size 25 _ (0, 0) _ _ rfl (Box.put4 RB.out _ _ _ _) rfl Tryd.underlying25 rfl info_cmd) rfl ⟨?_, .inl ⟨_, _, _, _, HI.out, rfl⟩⟩
                      exact ((((RX.out).setCell (Nat.le_refl _) _).setCell (Nat.le_refl _) _).setCell (Nat.le_refl _) _).setCell (Nat.le_refl _) _
                    | false =>
                      have ht : s.data.toList = [] := by rw [← e]; exact fmtL_no hz
                      have HNO : Hid (∀ k b r c : Int, ¬ IsCmd s.data.toList k b r c) := fun k b r c h => fmt_ne h.1 (h.2.trans ht)
                      have hs0 : (s.toList == []) = true := by rw [ByteArray.toList_eq, ht]; rfl
                      have hs1 : s.toList.isEmpty = true := by rw [ByteArray.toList_eq, ht]; rfl
                      clear e ht hz HB3 HTT
                      go_wp2
                      refine bodyPost_ret (v := .tuple #[.agg #[.int .i64 0, .int .i64 0, .int .i64 0, .int .i64 0], .bool false]) (results_ct Tryd.results9 _ _ w.heap.size 25 _ (0, 0) _ _ rfl (Box.put4 RB.out _ _ _ _) rfl Tryd.underlying25 rfl info_cmd) rfl ⟨?_, .inr ⟨HNO.out, rfl⟩⟩
                      exact ((((RX.out).setCell (Nat.le_refl _) _).setCell (Nat.le_refl _) _).setCell (Nat.le_refl _) _).setCell (Nat.le_refl _) _
                  | false =>
                    have HNO : Hid (∀ k b r c : Int, ¬ IsCmd s.data.toList k b r c) := fun k b r c h => by
                      obtain ⟨rfl, rfl, rfl, rfl⟩ := HB3.out k b r c h
                      rw [bytes_beq.2 (HTT.out.symm.trans (strOf_eq.2 h.2))] at hq
                      cases hq
                    clear HB3 HTT
                    go_wp2
                    refine bodyPost_ret (v := .tuple #[.agg #[.int .i64 0, .int .i64 0, .int .i64 0, .int .i64 0], .bool false]) (results_ct Tryd.results9 _ _ w.heap.size 25 _ (0, 0) _ _ rfl (Box.put4 RB.out _ _ _ _) rfl Tryd.underlying25 rfl info_cmd) rfl ⟨?_, .inr ⟨HNO.out, rfl⟩⟩
                    exact ((((RX.out).setCell (Nat.le_refl _) _).setCell (Nat.le_refl _) _).setCell (Nat.le_refl _) _).setCell (Nat.le_refl _) _
                · skip
                  have HB3 : Hid (∀ k b r c : Int, IsCmd s.data.toList k b r c → k = K ∧ b = 0 ∧ r = 0 ∧ c = 0) := fun k b r c h => by
                    obtain ⟨h1, h2⟩ := HKX.out k b r c h
                    subst h1
                    unfold cmdOf at h2
                    rw [hu1, hu2, hu3, HY0.out, HY1.out] at h2
                    simp only [Prod.mk.injEq, if_true, Bool.false_eq_true, if_false, Int.natCast_zero, HZ0.out (by omega)] at h2
                    exact ⟨rfl, by omega, by omega, by omega⟩
                  have FC := Lib.hid (fun w => spec_formatC K 0 0 0 w)
                  generalize hT : strOf (fmtL K 0 0 0) = T at FC
                  have HTT := Lib.hid hT
                  have HU1 := Lib.hid (fun w => HU.out _ _ _ hu1 hu2 hu3 w)
                  clear hT HKX
                  have e5 := Ext.refl W5
                  have f5 := bc5.free
                  obtain ⟨l0, l1, l2, l3⟩ := bc5.cell4
                  go_wp2_with fail
                  refine (HU1.out _).mono ?_
                  rintro e w' ⟨rfl, rfl⟩
                  go_wp2_with fail
                  refine (FC.out _).mono ?_
                  rintro e W9 ⟨rfl, x9⟩
                  have RB := Lib.hid ((BR.out).ext x9)
                  have RX := Lib.hid ((XR.out).trans x9)
                  have fr := RB.out.free
                  obtain ⟨n0, n1, n2, n3⟩ := RB.out.cell4
                  obtain ⟨m0, m1, m2, m3⟩ := (bc5.ext x9).cell4
                  clear x9 l0 l1 l2 l3 f5 
                  cases hq : (T.toList == s.toList) with
                  | true =>
                    have e := strOf_eq.1 (HTT.out.trans (bytes_beq.1 hq))
                    cases hz : formB K 0 0 0 with
                    | true =>
                      have HI : Hid (IsCmd s.data.toList K 0 0 0) := ⟨hz, e⟩
                      have hne : s.data.toList ≠ [] := fun h => fmt_ne hz (e.trans h)
                      have hs0 : (s.toList == []) = false := by rw [ByteArray.toList_eq]; simpa using hne
                      have hs1 : s.toList.isEmpty = false := by rw [ByteArray.toList_eq]; simpa using hne
                      clear e hne hz HB3 HTT
                      go_wp2
                      refine bodyPost_ret (v := .tuple #[.agg #[.int .i64 K, .int .i64 0, .int .i64 0, .int .i64 0], .bool true]) (results_ct Tryd.results9 _ _ w.heap.size 25 _ (0, 0) _ _ rfl (Box.put4 RB.out _ _ _ _) rfl Tryd.underlying25 rfl info_cmd) rfl ⟨?_, .inl ⟨_, _, _, _, HI.out, rfl⟩⟩
                      exact ((((RX.out).setCell (Nat.le_refl _) _).setCell (Nat.le_refl _) _).setCell (Nat.le_refl _) _).setCell (Nat.le_refl _) _
                    | false =>
                      have ht : s.data.toList = [] := by rw [← e]; exact fmtL_no hz
                      have HNO : Hid (∀ k b r c : Int, ¬ IsCmd s.data.toList k b r c) := fun k b r c h => fmt_ne h.1 (h.2.trans ht)
                      have hs0 : (s.toList == []) = true := by rw [ByteArray.toList_eq, ht]; rfl
                      have hs1 : s.toList.isEmpty = true := by rw [ByteArray.toList_eq, ht]; rfl
                      clear e ht hz HB3 HTT
                      go_wp2
                      refine bodyPost_ret (v := .tuple #[.agg #[.int .i64 0, .int .i64 0, .int .i64 0, .int .i64 0], .bool false]) (results_ct Tryd.results9 _ _ w.heap.size 25 _ (0, 0) _ _ rfl (Box.put4 RB.out _ _ _ _) rfl Tryd.underlying25 rfl info_cmd) rfl ⟨?_, .inr ⟨HNO.out, rfl⟩⟩
                      exact ((((RX.out).setCell (Nat.le_refl _) _).setCell (Nat.le_refl _) _).setCell (Nat.le_refl _) _).setCell (Nat.le_refl _) _
                  | false =>
                    have HNO : Hid (∀ k b r c : Int, ¬ IsCmd s.data.toList k b r c) := fun k b r c h => by
                      obtain ⟨rfl, rfl, rfl, rfl⟩ := HB3.out k b r c h
                      rw [bytes_beq.2 (HTT.out.symm.trans (strOf_eq.2 h.2))] at hq
                      cases hq
                    clear HB3 HTT
                    go_wp2
                    refine bodyPost_ret (v := .tuple #[.agg #[.int .i64 0, .int .i64 0, .int .i64 0, .int .i64 0], .bool false]) (results_ct Tryd.results9 _ _ w.heap.size 25 _ (0, 0) _ _ rfl (Box.put4 RB.out _ _ _ _) rfl Tryd.underlying25 rfl info_cmd) rfl ⟨?_, .inr ⟨HNO.out, rfl⟩⟩
                    exact ((((RX.out).setCell (Nat.le_refl _) _).setCell (Nat.le_refl _) _).setCell (Nat.le_refl _) _).setCell (Nat.le_refl _) _
                · skip
                  have HB3 : Hid (∀ k b r c : Int, IsCmd s.data.toList k b r c → k = K ∧ b = 0 ∧ r = 0 ∧ c = 0) := fun k b r c h => by
                    obtain ⟨h1, h2⟩ := HKX.out k b r c h
                    subst h1
                    unfold cmdOf at h2
                    rw [hu1, hu2, hu3, HY0.out, HY1.out] at h2
                    simp only [Prod.mk.injEq, if_true, Bool.false_eq_true, if_false, Int.natCast_zero] at h2
                    exact ⟨rfl, by omega, by omega, by omega⟩
                  have FC := Lib.hid (fun w => spec_formatC K 0 0 0 w)
                  generalize hT : strOf (fmtL K 0 0 0) = T at FC
                  have HTT := Lib.hid hT
                  have HU1 := Lib.hid (fun w => HU.out _ _ _ hu1 hu2 hu3 w)
                  clear hT HKX
                  have e5 := Ext.refl W5
                  have f5 := bc5.free
                  obtain ⟨l0, l1, l2, l3⟩ := bc5.cell4
                  go_wp2_with fail
                  refine (HU1.out _).mono ?_
                  rintro e w' ⟨rfl, rfl⟩
                  go_wp2_with fail
                  refine (FC.out _).mono ?_
                  rintro e W9 ⟨rfl, x9⟩
                  have RB := Lib.hid ((BR.out).ext x9)
                  have RX := Lib.hid ((XR.out).trans x9)
                  have fr := RB.out.free
                  obtain ⟨n0, n1, n2, n3⟩ := RB.out.cell4
                  obtain ⟨m0, m1, m2, m3⟩ := (bc5.ext x9).cell4
                  clear x9 l0 l1 l2 l3 f5 
                  cases hq : (T.toList == s.toList) with
                  | true =>
                    have e := strOf_eq.1 (HTT.out.trans (bytes_beq.1 hq))
                    cases hz : formB K 0 0 0 with
                    | true =>
                      have HI : Hid (IsCmd s.data.toList K 0 0 0) := ⟨hz, e⟩
                      have hne : s.data.toList ≠ [] := fun h => fmt_ne hz (e.trans h)
                      have hs0 : (s.toList == []) = false := by rw [ByteArray.toList_eq]; simpa using hne
                      have hs1 : s.toList.isEmpty = false := by rw [ByteArray.toList_eq]; simpa using hne
                      clear e hne hz HB3 HTT
                      go_wp2
                      refine bodyPost_ret (v := .tuple #[.agg #[.int .i64 K, .int .i64 0, .int .i64 0, .int .i64 0], .bool true]) (results_ct Tryd.results9 _ _ w.heap.size 25 _ (0, 0) _ _ rfl (Box.put4 RB.out _ _ _ _) rfl Tryd.underlying25 rfl info_cmd) rfl ⟨?_, .inl ⟨_, _, _, _, HI.out, rfl⟩⟩
                      exact ((((RX.out).setCell (Nat.le_refl _) _).setCell (Nat.le_refl _) _).setCell (Nat.le_refl _) _).setCell (Nat.le_refl _) _
                    | false =>
                      have ht : s.data.toList = [] := by rw [← e]; exact fmtL_no hz
                      have HNO : Hid (∀ k b r c : Int, ¬ IsCmd s.data.toList k b r c) := fun k b r c h => fmt_ne h.1 (h.2.trans ht)
                      have hs0 : (s.toList == []) = true := by rw [ByteArray.toList_eq, ht]; rfl
                      have hs1 : s.toList.isEmpty = true := by rw [ByteArray.toList_eq, ht]; rfl
                      clear e ht hz HB3 HTT
                      go_wp2
                      refine bodyPost_ret (v := .tuple #[.agg #[.int .i64 0, .int .i64 0, .int .i64 0, .int .i64 0], .bool false]) (results_ct Tryd.results9 _ _ w.heap.size 25 _ (0, 0) _ _ rfl (Box.put4 RB.out _ _ _ _) rfl Tryd.underlying25 rfl info_cmd) rfl ⟨?_, .inr ⟨HNO.out, rfl⟩⟩
                      exact ((((RX.out).setCell (Nat.le_refl _) _).setCell (Nat.le_refl _) _).setCell (Nat.le_refl _) _).setCell (Nat.le_refl _) _
                  | false =>
                    have HNO : Hid (∀ k b r c : Int, ¬ IsCmd s.data.toList k b r c) := fun k b r c h => by
                      obtain ⟨rfl, rfl, rfl, rfl⟩ := HB3.out k b r c h
                      rw [bytes_beq.2 (HTT.out.symm.trans (strOf_eq.2 h.2))] at hq
                      cases hq
                    clear HB3 HTT
                    go_wp2
                    refine bodyPost_ret (v := .tuple #[.agg #[.int .i64 0, .int .i64 0, .int .i64 0, .int .i64 0], .bool false]) (results_ct Tryd.results9 _ _ w.heap.size 25 _ (0, 0) _ _ rfl (Box.put4 RB.out _ _ _ _) rfl Tryd.underlying25 rfl info_cmd) rfl ⟨?_, .inr ⟨HNO.out, rfl⟩⟩
                    exact ((((RX.out).setCell (Nat.le_refl _) _).setCell (Nat.le_refl _) _).setCell (Nat.le_refl _) _).setCell (Nat.le_refl _) _
              · obtain ⟨gn, rfl, hgn, hgl⟩ := ho'.form (by omega)
                have hmI0 : (0 : Int) < (m : Int) := by omega
                have hmN0 : 0 < m := by omega
                have cn0 : W5.cell? ⟨gn, 0, none⟩ = some (.int .i64 (Y0 : Int)) := by rw [← hy0]; exact ho'.at (by omega)
                by_cases hm1 : m = 1
                · have hmI1 : ¬ (1 : Int) < (m : Int) := by omega
                  clear ho' hy0 hy1
                  rcases huse with ⟨hu1, hu2, hu3⟩ | ⟨hu1, hu2, hu3⟩ | ⟨hu1, hu2, hu3⟩ | ⟨hu1, hu2, hu3⟩
                  · skip
                    have HB3 : Hid (∀ k b r c : Int, IsCmd s.data.toList k b r c → k = K ∧ b = (Y0 : Int) ∧ r = 0 ∧ c = 0) := fun k b r c h => by
                      obtain ⟨h1, h2⟩ := HKX.out k b r c h
                      subst h1
                      unfold cmdOf at h2
                      rw [hu1, hu2, hu3, HY0.out, HY1.out] at h2
                      simp only [Prod.mk.injEq, if_true, Bool.false_eq_true, if_false, Int.natCast_zero, HZ1.out (by omega)] at h2
                      exact ⟨rfl, by omega, by omega, by omega⟩
                    have FC := Lib.hid (fun w => spec_formatC K (Y0 : Int) 0 0 w)
                    generalize hT : strOf (fmtL K (Y0 : Int) 0 0) = T at FC
                    have HTT := Lib.hid hT
                    have HU1 := Lib.hid (fun w => HU.out _ _ _ hu1 hu2 hu3 w)
                    clear hT HKX
                    have e5 := Ext.refl W5
                    have b60 : Box (W5.setCell ⟨W1.heap.size, 1, none⟩ (.int .i64 (Y0 : Int))) W1.heap.size 25 #[.int .i64 K, .int .i64 (Y0 : Int), .int .i64 0, .int .i64 0] := bc5.set 1 _
                    have r60 : Box (W5.setCell ⟨W1.heap.size, 1, none⟩ (.int .i64 (Y0 : Int))) w.heap.size 25 #[.int .i64 0, .int .i64 0, .int .i64 0, .int .i64 0] := BR.out.other (by simp; omega) _
                    have x60 : Ext w (W5.setCell ⟨W1.heap.size, 1, none⟩ (.int .i64 (Y0 : Int))) := XR.out.setCell (by simp; omega) _
                    try (have c60 := (World.cell?_setCell_other W5 ⟨W1.heap.size, 1, none⟩ ⟨gn, 1, none⟩ (.int .i64 (Y0 : Int)) (fun e => by injection e with e; omega)).trans cn1)
                    have f60 := b60.free
                    have f5 := bc5.free
                    obtain ⟨l0, l1, l2, l3⟩ := bc5.cell4
                    obtain ⟨l00, l01, l02, l03⟩ := b60.cell4
                    go_wp2_with fail
                    refine (HU1.out _).mono ?_
                    rintro e w' ⟨rfl, rfl⟩
                    go_wp2_with fail
                    refine (FC.out _).mono ?_
                    rintro e W9 ⟨rfl, x9⟩
                    have RB := Lib.hid ((r60).ext x9)
                    have RX := Lib.hid ((x60).trans x9)
                    have fr := RB.out.free
                    obtain ⟨n0, n1, n2, n3⟩ := RB.out.cell4
                    obtain ⟨m0, m1, m2, m3⟩ := (b60.ext x9).cell4
                    clear x9 l0 l1 l2 l3 f5 l00 l01 l02 l03 f60 b60 r60 x60
                    cases hq : (T.toList == s.toList) with
                    | true =>
                      have e := strOf_eq.1 (HTT.out.trans (bytes_beq.1 hq))
                      cases hz : formB K (Y0 : Int) 0 0 with
                      | true =>
                        have HI : Hid (IsCmd s.data.toList K (Y0 : Int) 0 0) := ⟨hz, e⟩
                        have hne : s.data.toList ≠ [] := fun h => fmt_ne hz (e.trans h)
                        have hs0 : (s.toList == []) = false := by rw [ByteArray.toList_eq]; simpa using hne
                        have hs1 : s.toList.isEmpty = false := by rw [ByteArray.toList_eq]; simpa using hne
                        clear e hne hz HB3 HTT
                        go_wp2
                        refine bodyPost_ret (v := .tuple #[.agg #[.int .i64 K, .int .i64 (Y0 : Int), .int .i64 0, .int .i64 0], .bool true]) (results_ct Tryd.results9 _ _ w.heap.size 25 _ (0, 0) _ _ rfl (Box.put4 RB.out _ _ _ _) rfl Tryd.underlying25 rfl info_cmd) rfl ⟨?_, .inl ⟨_, _, _, _, HI.out, rfl⟩⟩
                        exact ((((RX.out).setCell (Nat.le_refl _) _).setCell (Nat.le_refl _) _).setCell (Nat.le_refl _) _).setCell (Nat.le_refl _) _
                      | false =>
                        have ht : s.data.toList = [] := by rw [← e]; exact fmtL_no hz
                        have HNO : Hid (∀ k b r c : Int, ¬ IsCmd s.data.toList k b r c) := fun k b r c h => fmt_ne h.1 (h.2.trans ht)
                        have hs0 : (s.toList == []) = true := by rw [ByteArray.toList_eq, ht]; rfl
                        have hs1 : s.toList.isEmpty = true := by rw [ByteArray.toList_eq, ht]; rfl
                        clear e ht hz HB3 HTT
                        go_wp2
                        refine bodyPost_ret (v := .tuple #[.agg #[.int .i64 0, .int .i64 0, .int .i64 0, .int .i64 0], .bool false]) (results_ct Tryd.results9 _ _ w.heap.size 25 _ (0, 0) _ _ rfl (Box.put4 RB.out _ _ _ _) rfl Tryd.underlying25 rfl info_cmd) rfl ⟨?_, .inr ⟨HNO.out, rfl⟩⟩
                        exact ((((RX.out).setCell (Nat.le_refl _) _).setCell (Nat.le_refl _) _).setCell (Nat.le_refl _) _).setCell (Nat.le_refl _) _
                    | false =>
                      have HNO : Hid (∀ k b r c : Int, ¬ IsCmd s.data.toList k b r c) := fun k b r c h => by
                        obtain ⟨rfl, rfl, rfl, rfl⟩ := HB3.out k b r c h
                        rw [bytes_beq.2 (HTT.out.symm.trans (strOf_eq.2 h.2))] at hq
                        cases hq
                      clear HB3 HTT
                      go_wp2
                      refine bodyPost_ret (v := .tuple #[.agg #[.int .i64 0, .int .i64 0, .int .i64 0, .int .i64 0], .bool false]) (results_ct Tryd.results9 _ _ w.heap.size 25 _ (0, 0) _ _ rfl (Box.put4 RB.out _ _ _ _) rfl Tryd.underlying25 rfl info_cmd) rfl ⟨?_, .inr ⟨HNO.out, rfl⟩⟩
                      exact ((((RX.out).setCell (Nat.le_refl _) _).setCell (Nat.le_refl _) _).setCell (Nat.le_refl _) _).setCell (Nat.le_refl _) _
                  · skip
                    have HB3 : Hid (∀ k b r c : Int, IsCmd s.data.toList k b r c → k = K ∧ b = (Y0 : Int) ∧ r = 0 ∧ c = 0) := fun k b r c h => by
                      obtain ⟨h1, h2⟩ := HKX.out k b r c h
                      subst h1
                      unfold cmdOf at h2
                      rw [hu1, hu2, hu3, HY0.out, HY1.out] at h2
                      simp only [Prod.mk.injEq, if_true, Bool.false_eq_true, if_false, Int.natCast_zero, HZ1.out (by omega)] at h2
                      exact ⟨rfl, by omega, by omega, by omega⟩
                    have FC := Lib.hid (fun w => spec_formatC K (Y0 : Int) 0 0 w)
                    generalize hT : strOf (fmtL K (Y0 : Int) 0 0) = T at FC
                    have HTT := Lib.hid hT
                    have HU1 := Lib.hid (fun w => HU.out _ _ _ hu1 hu2 hu3 w)
                    clear hT HKX
                    have e5 := Ext.refl W5
                    have b60 : Box (W5.setCell ⟨W1.heap.size, 1, none⟩ (.int .i64 (Y0 : Int))) W1.heap.size 25 #[.int .i64 K, .int .i64 (Y0 : Int), .int .i64 0, .int .i64 0] := bc5.set 1 _
                    have r60 : Box (W5.setCell ⟨W1.heap.size, 1, none⟩ (.int .i64 (Y0 : Int))) w.heap.size 25 #[.int .i64 0, .int .i64 0, .int .i64 0, .int .i64 0] := BR.out.other (by simp; omega) _
                    have x60 : Ext w (W5.setCell ⟨W1.heap.size, 1, none⟩ (.int .i64 (Y0 : Int))) := XR.out.setCell (by simp; omega) _
                    try (have c60 := (World.cell?_setCell_other W5 ⟨W1.heap.size, 1, none⟩ ⟨gn, 1, none⟩ (.int .i64 (Y0 : Int)) (fun e => by injection e with e; omega)).trans cn1)
                    have f60 := b60.free
                    have f5 := bc5.free
                    obtain ⟨l0, l1, l2, l3⟩ := bc5.cell4
                    obtain ⟨l00, l01, l02, l03⟩ := b60.cell4
                    go_wp2_with fail
                    refine (HU1.out _).mono ?_
                    rintro e w' ⟨rfl, rfl⟩
                    go_wp2_with fail
                    refine (FC.out _).mono ?_
                    rintro e W9 ⟨rfl, x9⟩
                    have RB := Lib.hid ((r60).ext x9)
                    have RX := Lib.hid ((x60).trans x9)
                    have fr := RB.out.free
                    obtain ⟨n0, n1, n2, n3⟩ := RB.out.cell4
                    obtain ⟨m0, m1, m2, m3⟩ := (b60.ext x9).cell4
                    clear x9 l0 l1 l2 l3 f5 l00 l01 l02 l03 f60 b60 r60 x60
                    cases hq : (T.toList == s.toList) with
                    | true =>
                      have e := strOf_eq.1 (HTT.out.trans (bytes_beq.1 hq))
                      cases hz : formB K (Y0 : Int) 0 0 with
                      | true =>
                        have HI : Hid (IsCmd s.data.toList K (Y0 : Int) 0 0) := ⟨hz, e⟩
                        have hne : s.data.toList ≠ [] := fun h => fmt_ne hz (e.trans h)
                        have hs0 : (s.toList == []) = false := by rw [ByteArray.toList_eq]; simpa using hne
                        have hs1 : s.toList.isEmpty = false := by rw [ByteArray.toList_eq]; simpa using hne
                        clear e hne hz HB3 HTT
                        go_wp2
                        refine bodyPost_ret (v := .tuple #[.agg #[.int .i64 K, .int .i64 (Y0 : Int), .int .i64 0, .int .i64 0], .bool true]) (results_ct Tryd.results9 _ _ w.heap.size 25 _ (0, 0) _ _ rfl (Box.put4 RB.out _ _ _ _) rfl Tryd.underlying25 rfl info_cmd) rfl ⟨?_, .inl ⟨_, _, _, _, HI.out, rfl⟩⟩
                        exact ((((RX.out).setCell (Nat.le_refl _) _).setCell (Nat.le_refl _) _).setCell (Nat.le_refl _) _).setCell (Nat.le_refl _) _
                      | false =>
                        have ht : s.data.toList = [] := by rw [← e]; exact fmtL_no hz
                        have HNO : Hid (∀ k b r c : Int, ¬ IsCmd s.data.toList k b r c) := fun k b r c h => fmt_ne h.1 (h.2.trans ht)
                        have hs0 : (s.toList == []) = true := by rw [ByteArray.toList_eq, ht]; rfl
                        have hs1 : s.toList.isEmpty = true := by rw [ByteArray.toList_eq, ht]; rfl
                        clear e ht hz HB3 HTT
                        go_wp2
                        refine bodyPost_ret (v := .tuple #[.agg #[.int .i64 0, .int .i64 0, .int .i64 0, .int .i64 0], .bool false]) (results_ct Tryd.results9 _ _ w.heap.size 25 _ (0, 0) _ _ rfl (Box.put4 RB.out _ _ _ _) rfl Tryd.underlying25 rfl info_cmd) rfl ⟨?_, .inr ⟨HNO.out, rfl⟩⟩
                        exact ((((RX.out).setCell (Nat.le_refl _) _).setCell (Nat.le_refl _) _).setCell (Nat.le_refl _) _).setCell (Nat.le_refl _) _
                    | false =>
                      have HNO : Hid (∀ k b r c : Int, ¬ IsCmd s.data.toList k b r c) := fun k b r c h => by
                        obtain ⟨rfl, rfl, rfl, rfl⟩ := HB3.out k b r c h
                        rw [bytes_beq.2 (HTT.out.symm.trans (strOf_eq.2 h.2))] at hq
                        cases hq
                      clear HB3 HTT
                      go_wp2
                      refine bodyPost_ret (v := .tuple #[.agg #[.int .i64 0, .int .i64 0, .int .i64 0, .int .i64 0], .bool false]) (results_ct Tryd.results9 _ _ w.heap.size 25 _ (0, 0) _ _ rfl (Box.put4 RB.out _ _ _ _) rfl Tryd.underlying25 rfl info_cmd) rfl ⟨?_, .inr ⟨HNO.out, rfl⟩⟩
                      exact ((((RX.out).setCell (Nat.le_refl _) _).setCell (Nat.le_refl _) _).setCell (Nat.le_refl _) _).setCell (Nat.le_refl _) _
                  · skip
                    have HB3 : Hid (∀ k b r c : Int, IsCmd s.data.toList k b r c → k = K ∧ b = (Y0 : Int) ∧ r = 0 ∧ c = 0) := fun k b r c h => by
                      obtain ⟨h1, h2⟩ := HKX.out k b r c h
                      subst h1
                      unfold cmdOf at h2
                      rw [hu1, hu2, hu3, HY0.out, HY1.out] at h2
                      simp only [Prod.mk.injEq, if_true, Bool.false_eq_true, if_false, Int.natCast_zero] at h2
                      exact ⟨rfl, by omega, by omega, by omega⟩
                    have FC := Lib.hid (fun w => spec_formatC K (Y0 : Int) 0 0 w)
                    generalize hT : strOf (fmtL K (Y0 : Int) 0 0) = T at FC
                    have HTT := Lib.hid hT
                    have HU1 := Lib.hid (fun w => HU.out _ _ _ hu1 hu2 hu3 w)
                    clear hT HKX
                    have e5 := Ext.refl W5
                    have b60 : Box (W5.setCell ⟨W1.heap.size, 1, none⟩ (.int .i64 (Y0 : Int))) W1.heap.size 25 #[.int .i64 K, .int .i64 (Y0 : Int), .int .i64 0, .int .i64 0] := bc5.set 1 _
                    have r60 : Box (W5.setCell ⟨W1.heap.size, 1, none⟩ (.int .i64 (Y0 : Int))) w.heap.size 25 #[.int .i64 0, .int .i64 0, .int .i64 0, .int .i64 0] := BR.out.other (by simp; omega) _
                    have x60 : Ext w (W5.setCell ⟨W1.heap.size, 1, none⟩ (.int .i64 (Y0 : Int))) := XR.out.setCell (by simp; omega) _
                    try (have c60 := (World.cell?_setCell_other W5 ⟨W1.heap.size, 1, none⟩ ⟨gn, 1, none⟩ (.int .i64 (Y0 : Int)) (fun e => by injection e with e; omega)).trans cn1)
                    have f60 := b60.free
                    have f5 := bc5.free
                    obtain ⟨l0, l1, l2, l3⟩ := bc5.cell4
                    obtain ⟨l00, l01, l02, l03⟩ := b60.cell4
                    go_wp2_with fail
                    refine (HU1.out _).mono ?_
                    rintro e w' ⟨rfl, rfl⟩
                    go_wp2_with fail
                    refine (FC.out _).mono ?_
                    rintro e W9 ⟨rfl, x9⟩
                    have RB := Lib.hid ((r60).ext x9)
                    have RX := Lib.hid ((x60).trans x9)
                    have fr := RB.out.free
                    obtain ⟨n0, n1, n2, n3⟩ := RB.out.cell4
                    obtain ⟨m0, m1, m2, m3⟩ := (b60.ext x9).cell4
                    clear x9 l0 l1 l2 l3 f5 l00 l01 l02 l03 f60 b60 r60 x60
                    cases hq : (T.toList == s.toList) with
                    | true =>
                      have e := strOf_eq.1 (HTT.out.trans (bytes_beq.1 hq))
                      cases hz : formB K (Y0 : Int) 0 0 with
                      | true =>
                        have HI : Hid (IsCmd s.data.toList K (Y0 : Int) 0 0) := ⟨hz, e⟩
                        have hne : s.data.toList ≠ [] := fun h => fmt_ne hz (e.trans h)
                        have hs0 : (s.toList == []) = false := by rw [ByteArray.toList_eq]; simpa using hne
                        have hs1 : s.toList.isEmpty = false := by rw [ByteArray.toList_eq]; simpa using hne
                        clear e hne hz HB3 HTT
                        go_wp2
                        refine bodyPost_ret (v := .tuple #[.agg #[.int .i64 K, .int .i64 (Y0 : Int), .int .i64 0, .int .i64 0], .bool true]) (results_ct Tryd.results9 _ _ w.heap.size 25 _ (0, 0) _ _ rfl (Box.put4 RB.out _ _ _ _) rfl Tryd.underlying25 rfl info_cmd) rfl ⟨?_, .inl ⟨_, _, _, _, HI.out, rfl⟩⟩
                        exact ((((RX.out).setCell (Nat.le_refl _) _).setCell (Nat.le_refl _) _).setCell (Nat.le_refl _) _).setCell (Nat.le_refl _) _
                      | false =>
                        have ht : s.data.toList = [] := by rw [← e]; exact fmtL_no hz
                        have HNO : Hid (∀ k b r c : Int, ¬ IsCmd s.data.toList k b r c) := fun k b r c h => fmt_ne h.1 (h.2.trans ht)
                        have hs0 : (s.toList == []) = true := by rw [ByteArray.toList_eq, ht]; rfl
                        have hs1 : s.toList.isEmpty = true := by rw [ByteArray.toList_eq, ht]; rfl
                        clear e ht hz HB3 HTT
                        go_wp2
                        refine bodyPost_ret (v := .tuple #[.agg #[.int .i64 0, .int .i64 0, .int .i64 0, .int .i64 0], .bool false]) (results_ct Tryd.results9 _ _ w.heap.size 25 _ (0, 0) _ _ rfl (Box.put4 RB.out _ _ _ _) rfl Tryd.underlying25 rfl info_cmd) rfl ⟨?_, .inr ⟨HNO.out, rfl⟩⟩
                        exact ((((RX.out).setCell (Nat.le_refl _) _).setCell (Nat.le_refl _) _).setCell (Nat.le_refl _) _).setCell (Nat.le_refl _) _
                    | false =>
                      have HNO : Hid (∀ k b r c : Int, ¬ IsCmd s.data.toList k b r c) := fun k b r c h => by
                        obtain ⟨rfl, rfl, rfl, rfl⟩ := HB3.out k b r c h
                        rw [bytes_beq.2 (HTT.out.symm.trans (strOf_eq.2 h.2))] at hq
                        cases hq
                      clear HB3 HTT
                      go_wp2
                      refine bodyPost_ret (v := .tuple #[.agg #[.int .i64 0, .int .i64 0, .int .i64 0, .int .i64 0], .bool false]) (results_ct Tryd.results9 _ _ w.heap.size 25 _ (0, 0) _ _ rfl (Box.put4 RB.out _ _ _ _) rfl Tryd.underlying25 rfl info_cmd) rfl ⟨?_, .inr ⟨HNO.out, rfl⟩⟩
                      exact ((((RX.out).setCell (Nat.le_refl _) _).setCell (Nat.le_refl _) _).setCell (Nat.le_refl _) _).setCell (Nat.le_refl _) _
                  · skip
                    have HB3 : Hid (∀ k b r c : Int, IsCmd s.data.toList k b r c → k = K ∧ b = 0 ∧ r = 0 ∧ c = 0) := fun k b r c h => by
                      obtain ⟨h1, h2⟩ := HKX.out k b r c h
                      subst h1
                      unfold cmdOf at h2
                      rw [hu1, hu2, hu3, HY0.out, HY1.out] at h2
                      simp only [Prod.mk.injEq, if_true, Bool.false_eq_true, if_false, Int.natCast_zero] at h2
                      exact ⟨rfl, by omega, by omega, by omega⟩
                    have FC := Lib.hid (fun w => spec_formatC K 0 0 0 w)
                    generalize hT : strOf (fmtL K 0 0 0) = T at FC
                    have HTT := Lib.hid hT
                    have HU1 := Lib.hid (fun w => HU.out _ _ _ hu1 hu2 hu3 w)
                    clear hT HKX
                    have e5 := Ext.refl W5
                    have f5 := bc5.free
                    obtain ⟨l0, l1, l2, l3⟩ := bc5.cell4
                    go_wp2_with fail
                    refine (HU1.out _).mono ?_
                    rintro e w' ⟨rfl, rfl⟩
                    go_wp2_with fail
                    refine (FC.out _).mono ?_
                    rintro e W9 ⟨rfl, x9⟩
                    have RB := Lib.hid ((BR.out).ext x9)
                    have RX := Lib.hid ((XR.out).trans x9)
                    have fr := RB.out.free
                    obtain ⟨n0, n1, n2, n3⟩ := RB.out.cell4
                    obtain ⟨m0, m1, m2, m3⟩ := (bc5.ext x9).cell4
                    clear x9 l0 l1 l2 l3 f5 
                    cases hq : (T.toList == s.toList) with
                    | true =>
                      have e := strOf_eq.1 (HTT.out.trans (bytes_beq.1 hq))
                      cases hz : formB K 0 0 0 with
                      | true =>
                        have HI : Hid (IsCmd s.data.toList K 0 0 0) := ⟨hz, e⟩
                        have hne : s.data.toList ≠ [] := fun h => fmt_ne hz (e.trans h)
                        have hs0 : (s.toList == []) = false := by rw [ByteArray.toList_eq]; simpa using hne
                        have hs1 : s.toList.isEmpty = false := by rw [ByteArray.toList_eq]; simpa using hne
                        clear e hne hz HB3 HTT
                        go_wp2
                        refine bodyPost_ret (v := .tuple #[.agg #[.int .i64 K, .int .i64 0, .int .i64 0, .int .i64 0], .bool true]) (results_ct Tryd.results9 _ _ w.heap.size 25 _ (0, 0) _ _ rfl (Box.put4 RB.out _ _ _ _) rfl Tryd.underlying25 rfl info_cmd) rfl ⟨?_, .inl ⟨_, _, _, _, HI.out, rfl⟩⟩
                        exact ((((RX.out).setCell (Nat.le_refl _) _).setCell (Nat.le_refl _) _).setCell (Nat.le_refl _) _).setCell (Nat.le_refl _) _
                      | false =>
                        have ht : s.data.toList = [] := by rw [← e]; exact fmtL_no hz
                        have HNO : Hid (∀ k b r c : Int, ¬ IsCmd s.data.toList k b r c) := fun k b r c h => fmt_ne h.1 (h.2.trans ht)
                        have hs0 : (s.toList == []) = true := by rw [ByteArray.toList_eq, ht]; rfl
                        have hs1 : s.toList.isEmpty = true := by rw [ByteArray.toList_eq, ht]; rfl
                        clear e ht hz HB3 HTT
                        go_wp2
                        refine bodyPost_ret (v := .tuple #[.agg #[.int .i64 0, .int .i64 0, .int .i64 0, .int .i64 0], .bool false]) (results_ct Tryd.results9 _ _ w.heap.size 25 _ (0, 0) _ _ rfl (Box.put4 RB.out _ _ _ _) rfl Tryd.underlying25 rfl info_cmd) rfl ⟨?_, .inr ⟨HNO.out, rfl⟩⟩
                        exact ((((RX.out).setCell (Nat.le_refl _) _).setCell (Nat.le_refl _) _).setCell (Nat.le_refl _) _).setCell (Nat.le_refl _) _
                    | false =>
                      have HNO : Hid (∀ k b r c : Int, ¬ IsCmd s.data.toList k b r c) := fun k b r c h => by
                        obtain ⟨rfl, rfl, rfl, rfl⟩ := HB3.out k b r c h
                        rw [bytes_beq.2 (HTT.out.symm.trans (strOf_eq.2 h.2))] at hq
                        cases hq
                      clear HB3 HTT
                      go_wp2
                      refine bodyPost_ret (v := .tuple #[.agg #[.int .i64 0, .int .i64 0, .int .i64 0, .int .i64 0], .bool false]) (results_ct Tryd.results9 _ _ w.heap.size 25 _ (0, 0) _ _ rfl (Box.put4 RB.out _ _ _ _) rfl Tryd.underlying25 rfl info_cmd) rfl ⟨?_, .inr ⟨HNO.out, rfl⟩⟩
                      exact ((((RX.out).setCell (Nat.le_refl _) _).setCell (Nat.le_refl _) _).setCell (Nat.le_refl _) _).setCell (Nat.le_refl _) _
                · have hmI1 : (1 : Int) < (m : Int) := by omega
                  have hmN1 : 1 < m := by omega
                  have cn1 : W5.cell? ⟨gn, 1, none⟩ = some (.int .i64 (Y1 : Int)) := by rw [← hy1]; exact ho'.at (by omega)
                  clear ho' hy0 hy1
                  rcases huse with ⟨hu1, hu2, hu3⟩ | ⟨hu1, hu2, hu3⟩ | ⟨hu1, hu2, hu3⟩ | ⟨hu1, hu2, hu3⟩
                  · skip
                    have HB3 : Hid (∀ k b r c : Int, IsCmd s.data.toList k b r c → k = K ∧ b = (Y0 : Int) ∧ r = (Y1 : Int) ∧ c = 0) := fun k b r c h => by
                      obtain ⟨h1, h2⟩ := HKX.out k b r c h
                      subst h1
                      unfold cmdOf at h2
                      rw [hu1, hu2, hu3, HY0.out, HY1.out] at h2
                      simp only [Prod.mk.injEq, if_true, Bool.false_eq_true, if_false, Int.natCast_zero] at h2
                      exact ⟨rfl, by omega, by omega, by omega⟩
                    have FC := Lib.hid (fun w => spec_formatC K (Y0 : Int) (Y1 : Int) 0 w)
                    generalize hT : strOf (fmtL K (Y0 : Int) (Y1 : Int) 0) = T at FC
                    have HTT := Lib.hid hT
                    have HU1 := Lib.hid (fun w => HU.out _ _ _ hu1 hu2 hu3 w)
                    clear hT HKX
                    have e5 := Ext.refl W5
                    have b60 : Box (W5.setCell ⟨W1.heap.size, 1, none⟩ (.int .i64 (Y0 : Int))) W1.heap.size 25 #[.int .i64 K, .int .i64 (Y0 : Int), .int .i64 0, .int .i64 0] := bc5.set 1 _
                    have r60 : Box (W5.setCell ⟨W1.heap.size, 1, none⟩ (.int .i64 (Y0 : Int))) w.heap.size 25 #[.int .i64 0, .int .i64 0, .int .i64 0, .int .i64 0] := BR.out.other (by simp; omega) _
                    have x60 : Ext w (W5.setCell ⟨W1.heap.size, 1, none⟩ (.int .i64 (Y0 : Int))) := XR.out.setCell (by simp; omega) _
                    try (have c60 := (World.cell?_setCell_other W5 ⟨W1.heap.size, 1, none⟩ ⟨gn, 1, none⟩ (.int .i64 (Y0 : Int)) (fun e => by injection e with e; omega)).trans cn1)
                    have b61 : Box ((W5.setCell ⟨W1.heap.size, 1, none⟩ (.int .i64 (Y0 : Int))).setCell ⟨W1.heap.size, 2, none⟩ (.int .i64 (Y1 : Int))) W1.heap.size 25 #[.int .i64 K, .int .i64 (Y0 : Int), .int .i64 (Y1 : Int), .int .i64 0] := b60.set 2 _
                    have r61 : Box ((W5.setCell ⟨W1.heap.size, 1, none⟩ (.int .i64 (Y0 : Int))).setCell ⟨W1.heap.size, 2, none⟩ (.int .i64 (Y1 : Int))) w.heap.size 25 #[.int .i64 0, .int .i64 0, .int .i64 0, .int .i64 0] := r60.other (by simp; omega) _
                    have x61 : Ext w ((W5.setCell ⟨W1.heap.size, 1, none⟩ (.int .i64 (Y0 : Int))).setCell ⟨W1.heap.size, 2, none⟩ (.int .i64 (Y1 : Int))) := x60.setCell (by simp; omega) _
                    try (have c61 := (World.cell?_setCell_other (W5.setCell ⟨W1.heap.size, 1, none⟩ (.int .i64 (Y0 : Int))) ⟨W1.heap.size, 2, none⟩ ⟨gn, 1, none⟩ (.int .i64 (Y1 : Int)) (fun e => by injection e with e; omega)).trans c60)
                    have f60 := b60.free
                    have f61 := b61.free
                    have f5 := bc5.free
                    obtain ⟨l0, l1, l2, l3⟩ := bc5.cell4
                    obtain ⟨l00, l01, l02, l03⟩ := b60.cell4
                    obtain ⟨l10, l11, l12, l13⟩ := b61.cell4
                    go_wp2_with fail
                    refine (HU1.out _).mono ?_
                    rintro e w' ⟨rfl, rfl⟩
                    go_wp2_with fail
                    refine (FC.out _).mono ?_
                    rintro e W9 ⟨rfl, x9⟩
                    have RB := Lib.hid ((r61).ext x9)
                    have RX := Lib.hid ((x61).trans x9)
                    have fr := RB.out.free
                    obtain ⟨n0, n1, n2, n3⟩ := RB.out.cell4
                    obtain ⟨m0, m1, m2, m3⟩ := (b61.ext x9).cell4
                    clear x9 l0 l1 l2 l3 f5 l00 l01 l02 l03 f60 b60 r60 x60 l10 l11 l12 l13 f61 b61 r61 x61
                    cases hq : (T.toList == s.toList) with
                    | true =>
                      have e := strOf_eq.1 (HTT.out.trans (bytes_beq.1 hq))
                      cases hz : formB K (Y0 : Int) (Y1 : Int) 0 with
                      | true =>
                        have HI : Hid (IsCmd s.data.toList K (Y0 : Int) (Y1 : Int) 0) := ⟨hz, e⟩
                        have hne : s.data.toList ≠ [] := fun h => fmt_ne hz (e.trans h)
                        have hs0 : (s.toList == []) = false := by rw [ByteArray.toList_eq]; simpa using hne
                        have hs1 : s.toList.isEmpty = false := by rw [ByteArray.toList_eq]; simpa using hne
                        clear e hne hz HB3 HTT
                        go_wp2
                        refine bodyPost_ret (v := .tuple #[.agg #[.int .i64 K, .int .i64 (Y0 : Int), .int .i64 (Y1 : Int), .int .i64 0], .bool true]) (results_ct Tryd.results9 _ _ w.heap.size 25 _ (0, 0) _ _ rfl (Box.put4 RB.out _ _ _ _) rfl Tryd.underlying25 rfl info_cmd) rfl ⟨?_, .inl ⟨_, _, _, _, HI.out, rfl⟩⟩
                        exact ((((RX.out).setCell (Nat.le_refl _) _).setCell (Nat.le_refl _) _).setCell (Nat.le_refl _) _).setCell (Nat.le_refl _) _
                      | false =>
                        have ht : s.data.toList = [] := by rw [← e]; exact fmtL_no hz
                        have HNO : Hid (∀ k b r c : Int, ¬ IsCmd s.data.toList k b r c) := fun k b r c h => fmt_ne h.1 (h.2.trans ht)
                        have hs0 : (s.toList == []) = true := by rw [ByteArray.toList_eq, ht]; rfl
                        have hs1 : s.toList.isEmpty = true := by rw [ByteArray.toList_eq, ht]; rfl
                        clear e ht hz HB3 HTT
                        go_wp2
                        refine bodyPost_ret (v := .tuple #[.agg #[.int .i64 0, .int .i64 0, .int .i64 0, .int .i64 0], .bool false]) (results_ct Tryd.results9 _ _ w.heap.size 25 _ (0, 0) _ _ rfl (Box.put4 RB.out _ _ _ _) rfl Tryd.underlying25 rfl info_cmd) rfl ⟨?_, .inr ⟨HNO.out, rfl⟩⟩
                        exact ((((RX.out).setCell (Nat.le_refl _) _).setCell (Nat.le_refl _) _).setCell (Nat.le_refl _) _).setCell (Nat.le_refl _) _
                    | false =>
                      have HNO : Hid (∀ k b r c : Int, ¬ IsCmd s.data.toList k b r c) := fun k b r c h => by
                        obtain ⟨rfl, rfl, rfl, rfl⟩ := HB3.out k b r c h
                        rw [bytes_beq.2 (HTT.out.symm.trans (strOf_eq.2 h.2))] at hq
                        cases hq
                      clear HB3 HTT
                      go_wp2
                      refine bodyPost_ret (v := .tuple #[.agg #[.int .i64 0, .int .i64 0, .int .i64 0, .int .i64 0], .bool false]) (results_ct Tryd.results9 _ _ w.heap.size 25 _ (0, 0) _ _ rfl (Box.put4 RB.out _ _ _ _) rfl Tryd.underlying25 rfl info_cmd) rfl ⟨?_, .inr ⟨HNO.out, rfl⟩⟩
                      exact ((((RX.out).setCell (Nat.le_refl _) _).setCell (Nat.le_refl _) _).setCell (Nat.le_refl _) _).setCell (Nat.le_refl _) _
                  · skip
                    have HB3 : Hid (∀ k b r c : Int, IsCmd s.data.toList k b r c → k = K ∧ b = (Y0 : Int) ∧ r = 0 ∧ c = (Y1 : Int)) := fun k b r c h => by
                      obtain ⟨h1, h2⟩ := HKX.out k b r c h
                      subst h1
                      unfold cmdOf at h2
                      rw [hu1, hu2, hu3, HY0.out, HY1.out] at h2
                      simp only [Prod.mk.injEq, if_true, Bool.false_eq_true, if_false, Int.natCast_zero] at h2
                      exact ⟨rfl, by omega, by omega, by omega⟩
                    have FC := Lib.hid (fun w => spec_formatC K (Y0 : Int) 0 (Y1 : Int) w)
                    generalize hT : strOf (fmtL K (Y0 : Int) 0 (Y1 : Int)) = T at FC
                    have HTT := Lib.hid hT
                    have HU1 := Lib.hid (fun w => HU.out _ _ _ hu1 hu2 hu3 w)
                    clear hT HKX
                    have e5 := Ext.refl W5
                    have b60 : Box (W5.setCell ⟨W1.heap.size, 1, none⟩ (.int .i64 (Y0 : Int))) W1.heap.size 25 #[.int .i64 K, .int .i64 (Y0 : Int), .int .i64 0, .int .i64 0] := bc5.set 1 _
                    have r60 : Box (W5.setCell ⟨W1.heap.size, 1, none⟩ (.int .i64 (Y0 : Int))) w.heap.size 25 #[.int .i64 0, .int .i64 0, .int .i64 0, .int .i64 0] := BR.out.other (by simp; omega) _
                    have x60 : Ext w (W5.setCell ⟨W1.heap.size, 1, none⟩ (.int .i64 (Y0 : Int))) := XR.out.setCell (by simp; omega) _
                    try (have c60 := (World.cell?_setCell_other W5 ⟨W1.heap.size, 1, none⟩ ⟨gn, 1, none⟩ (.int .i64 (Y0 : Int)) (fun e => by injection e with e; omega)).trans cn1)
                    have b61 : Box ((W5.setCell ⟨W1.heap.size, 1, none⟩ (.int .i64 (Y0 : Int))).setCell ⟨W1.heap.size, 3, none⟩ (.int .i64 (Y1 : Int))) W1.heap.size 25 #[.int .i64 K, .int .i64 (Y0 : Int), .int .i64 0, .int .i64 (Y1 : Int)] := b60.set 3 _
                    have r61 : Box ((W5.setCell ⟨W1.heap.size, 1, none⟩ (.int .i64 (Y0 : Int))).setCell ⟨W1.heap.size, 3, none⟩ (.int .i64 (Y1 : Int))) w.heap.size 25 #[.int .i64 0, .int .i64 0, .int .i64 0, .int .i64 0] := r60.other (by simp; omega) _
                    have x61 : Ext w ((W5.setCell ⟨W1.heap.size, 1, none⟩ (.int .i64 (Y0 : Int))).setCell ⟨W1.heap.size, 3, none⟩ (.int .i64 (Y1 : Int))) := x60.setCell (by simp; omega) _
                    try (have c61 := (World.cell?_setCell_other (W5.setCell ⟨W1.heap.size, 1, none⟩ (.int .i64 (Y0 : Int))) ⟨W1.heap.size, 3, none⟩ ⟨gn, 1, none⟩ (.int .i64 (Y1 : Int)) (fun e => by injection e with e; omega)).trans c60)
                    have f60 := b60.free
                    have f61 := b61.free
                    have f5 := bc5.free
                    obtain ⟨l0, l1, l2, l3⟩ := bc5.cell4
                    obtain ⟨l00, l01, l02, l03⟩ := b60.cell4
                    obtain ⟨l10, l11, l12, l13⟩ := b61.cell4
                    go_wp2_with fail
                    refine (HU1.out _).mono ?_
                    rintro e w' ⟨rfl, rfl⟩
                    go_wp2_with fail
                    refine (FC.out _).mono ?_
                    rintro e W9 ⟨rfl, x9⟩
                    have RB := Lib.hid ((r61).ext x9)
                    have RX := Lib.hid ((x61).trans x9)
                    have fr := RB.out.free
                    obtain ⟨n0, n1, n2, n3⟩ := RB.out.cell4
                    obtain ⟨m0, m1, m2, m3⟩ := (b61.ext x9).cell4
                    clear x9 l0 l1 l2 l3 f5 l00 l01 l02 l03 f60 b60 r60 x60 l10 l11 l12 l13 f61 b61 r61 x61
                    cases hq : (T.toList == s.toList) with
                    | true =>
                      have e := strOf_eq.1 (HTT.out.trans (bytes_beq.1 hq))
                      cases hz : formB K (Y0 : Int) 0 (Y1 : Int) with
                      | true =>
                        have HI : Hid (IsCmd s.data.toList K (Y0 : Int) 0 (Y1 : Int)) := ⟨hz, e⟩
                        have hne : s.data.toList ≠ [] := fun h => fmt_ne hz (e.trans h)
                        have hs0 : (s.toList == []) = false := by rw [ByteArray.toList_eq]; simpa using hne
                        have hs1 : s.toList.isEmpty = false := by rw [ByteArray.toList_eq]; simpa using hne
                        clear e hne hz HB3 HTT
                        go_wp2
                        refine bodyPost_ret (v := .tuple #[.agg #[.int .i64 K, .int .i64 (Y0 : Int), .int .i64 0, .int .i64 (Y1 : Int)], .bool true]) (results_ct Tryd.results9 _ _ w.heap.size 25 _ (0, 0) _ _ rfl (Box.put4 RB.out _ _ _ _) rfl Tryd.underlying25 rfl info_cmd) rfl ⟨?_, .inl ⟨_, _, _, _, HI.out, rfl⟩⟩
                        exact ((((RX.out).setCell (Nat.le_refl _) _).setCell (Nat.le_refl _) _).setCell (Nat.le_refl _) _).setCell (Nat.le_refl _) _
                      | false =>
                        have ht : s.data.toList = [] := by rw [← e]; exact fmtL_no hz
                        have HNO : Hid (∀ k b r c : Int, ¬ IsCmd s.data.toList k b r c) := fun k b r c h => fmt_ne h.1 (h.2.trans ht)
                        have hs0 : (s.toList == []) = true := by rw [ByteArray.toList_eq, ht]; rfl
                        have hs1 : s.toList.isEmpty = true := by rw [ByteArray.toList_eq, ht]; rfl
                        clear e ht hz HB3 HTT
                        go_wp2
                        refine bodyPost_ret (v := .tuple #[.agg #[.int .i64 0, .int .i64 0, .int .i64 0, .int .i64 0], .bool false]) (results_ct Tryd.results9 _ _ w.heap.size 25 _ (0, 0) _ _ rfl (Box.put4 RB.out _ _ _ _) rfl Tryd.underlying25 rfl info_cmd) rfl ⟨?_, .inr ⟨HNO.out, rfl⟩⟩
                        exact ((((RX.out).setCell (Nat.le_refl _) _).setCell (Nat.le_refl _) _).setCell (Nat.le_refl _) _).setCell (Nat.le_refl _) _
                    | false =>
                      have HNO : Hid (∀ k b r c : Int, ¬ IsCmd s.data.toList k b r c) := fun k b r c h => by
                        obtain ⟨rfl, rfl, rfl, rfl⟩ := HB3.out k b r c h
                        rw [bytes_beq.2 (HTT.out.symm.trans (strOf_eq.2 h.2))] at hq
                        cases hq
                      clear HB3 HTT
                      go_wp2
                      refine bodyPost_ret (v := .tuple #[.agg #[.int .i64 0, .int .i64 0, .int .i64 0, .int .i64 0], .bool false]) (results_ct Tryd.results9 _ _ w.heap.size 25 _ (0, 0) _ _ rfl (Box.put4 RB.out _ _ _ _) rfl Tryd.underlying25 rfl info_cmd) rfl ⟨?_, .inr ⟨HNO.out, rfl⟩⟩
                      exact ((((RX.out).setCell (Nat.le_refl _) _).setCell (Nat.le_refl _) _).setCell (Nat.le_refl _) _).setCell (Nat.le_refl _) _
                  · skip
                    have HB3 : Hid (∀ k b r c : Int, IsCmd s.data.toList k b r c → k = K ∧ b = (Y0 : Int) ∧ r = 0 ∧ c = 0) := fun k b r c h => by
                      obtain ⟨h1, h2⟩ := HKX.out k b r c h
                      subst h1
                      unfold cmdOf at h2
                      rw [hu1, hu2, hu3, HY0.out, HY1.out] at h2
                      simp only [Prod.mk.injEq, if_true, Bool.false_eq_true, if_false, Int.natCast_zero] at h2
                      exact ⟨rfl, by omega, by omega, by omega⟩
                    have FC := Lib.hid (fun w => spec_formatC K (Y0 : Int) 0 0 w)
                    generalize hT : strOf (fmtL K (Y0 : Int) 0 0) = T at FC
                    have HTT := Lib.hid hT
                    have HU1 := Lib.hid (fun w => HU.out _ _ _ hu1 hu2 hu3 w)
                    clear hT HKX
                    have e5 := Ext.refl W5
                    have b60 : Box (W5.setCell ⟨W1.heap.size, 1, none⟩ (.int .i64 (Y0 : Int))) W1.heap.size 25 #[.int .i64 K, .int .i64 (Y0 : Int), .int .i64 0, .int .i64 0] := bc5.set 1 _
                    have r60 : Box (W5.setCell ⟨W1.heap.size, 1, none⟩ (.int .i64 (Y0 : Int))) w.heap.size 25 #[.int .i64 0, .int .i64 0, .int .i64 0, .int .i64 0] := BR.out.other (by simp; omega) _
                    have x60 : Ext w (W5.setCell ⟨W1.heap.size, 1, none⟩ (.int .i64 (Y0 : Int))) := XR.out.setCell (by simp; omega) _
                    try (have c60 := (World.cell?_setCell_other W5 ⟨W1.heap.size, 1, none⟩ ⟨gn, 1, none⟩ (.int .i64 (Y0 : Int)) (fun e => by injection e with e; omega)).trans cn1)
                    have f60 := b60.free
                    have f5 := bc5.free
                    obtain ⟨l0, l1, l2, l3⟩ := bc5.cell4
                    obtain ⟨l00, l01, l02, l03⟩ := b60.cell4
                    go_wp2_with fail
                    refine (HU1.out _).mono ?_
                    rintro e w' ⟨rfl, rfl⟩
                    go_wp2_with fail
                    refine (FC.out _).mono ?_
                    rintro e W9 ⟨rfl, x9⟩
                    have RB := Lib.hid ((r60).ext x9)
                    have RX := Lib.hid ((x60).trans x9)
                    have fr := RB.out.free
                    obtain ⟨n0, n1, n2, n3⟩ := RB.out.cell4
                    obtain ⟨m0, m1, m2, m3⟩ := (b60.ext x9).cell4
                    clear x9 l0 l1 l2 l3 f5 l00 l01 l02 l03 f60 b60 r60 x60
                    cases hq : (T.toList == s.toList) with
                    | true =>
                      have e := strOf_eq.1 (HTT.out.trans (bytes_beq.1 hq))
                      cases hz : formB K (Y0 : Int) 0 0 with
                      | true =>
                        have HI : Hid (IsCmd s.data.toList K (Y0 : Int) 0 0) := ⟨hz, e⟩
                        have hne : s.data.toList ≠ [] := fun h => fmt_ne hz (e.trans h)
                        have hs0 : (s.toList == []) = false := by rw [ByteArray.toList_eq]; simpa using hne
                        have hs1 : s.toList.isEmpty = false := by rw [ByteArray.toList_eq]; simpa using hne
                        clear e hne hz HB3 HTT
                        go_wp2
                        refine bodyPost_ret (v := .tuple #[.agg #[.int .i64 K, .int .i64 (Y0 : Int), .int .i64 0, .int .i64 0], .bool true]) (results_ct Tryd.results9 _ _ w.heap.size 25 _ (0, 0) _ _ rfl (Box.put4 RB.out _ _ _ _) rfl Tryd.underlying25 rfl info_cmd) rfl ⟨?_, .inl ⟨_, _, _, _, HI.out, rfl⟩⟩
                        exact ((((RX.out).setCell (Nat.le_refl _) _).setCell (Nat.le_refl _) _).setCell (Nat.le_refl _) _).setCell (Nat.le_refl _) _
                      | false =>
                        have ht : s.data.toList = [] := by rw [← e]; exact fmtL_no hz
                        have HNO : Hid (∀ k b r c : Int, ¬ IsCmd s.data.toList k b r c) := fun k b r c h => fmt_ne h.1 (h.2.trans ht)
                        have hs0 : (s.toList == []) = true := by rw [ByteArray.toList_eq, ht]; rfl
                        have hs1 : s.toList.isEmpty = true := by rw [ByteArray.toList_eq, ht]; rfl
                        clear e ht hz HB3 HTT
                        go_wp2
                        refine bodyPost_ret (v := .tuple #[.agg #[.int .i64 0, .int .i64 0, .int .i64 0, .int .i64 0], .bool false]) (results_ct Tryd.results9 _ _ w.heap.size 25 _ (0, 0) _ _ rfl (Box.put4 RB.out _ _ _ _) rfl Tryd.underlying25 rfl info_cmd) rfl ⟨?_, .inr ⟨HNO.out, rfl⟩⟩
                        exact ((((RX.out).setCell (Nat.le_refl _) _).setCell (Nat.le_refl _) _).setCell (Nat.le_refl _) _).setCell (Nat.le_refl _) _
                    | false =>
                      have HNO : Hid (∀ k b r c : Int, ¬ IsCmd s.data.toList k b r c) := fun k b r c h => by
                        obtain ⟨rfl, rfl, rfl, rfl⟩ := HB3.out k b r c h
                        rw [bytes_beq.2 (HTT.out.symm.trans (strOf_eq.2 h.2))] at hq
                        cases hq
                      clear HB3 HTT
                      go_wp2
                      refine bodyPost_ret (v := .tuple #[.agg #[.int .i64 0, .int .i64 0, .int .i64 0, .int .i64 0], .bool false]) (results_ct Tryd.results9 _ _ w.heap.size 25 _ (0, 0) _ _ rfl (Box.put4 RB.out _ _ _ _) rfl Tryd.underlying25 rfl info_cmd) rfl ⟨?_, .inr ⟨HNO.out, rfl⟩⟩
                      exact ((((RX.out).setCell (Nat.le_refl _) _).setCell (Nat.le_refl _) _).setCell (Nat.le_refl _) _).setCell (Nat.le_refl _) _
                  · skip
                    have HB3 : Hid (∀ k b r c : Int, IsCmd s.data.toList k b r c → k = K ∧ b = 0 ∧ r = 0 ∧ c = 0) := fun k b r c h => by
                      obtain ⟨h1, h2⟩ := HKX.out k b r c h
                      subst h1
                      unfold cmdOf at h2
                      rw [hu1, hu2, hu3, HY0.out, HY1.out] at h2
                      simp only [Prod.mk.injEq, if_true, Bool.false_eq_true, if_false, Int.natCast_zero] at h2
                      exact ⟨rfl, by omega, by omega, by omega⟩
                    have FC := Lib.hid (fun w => spec_formatC K 0 0 0 w)
                    generalize hT : strOf (fmtL K 0 0 0) = T at FC
                    have HTT := Lib.hid hT
                    have HU1 := Lib.hid (fun w => HU.out _ _ _ hu1 hu2 hu3 w)
                    clear hT HKX
                    have e5 := Ext.refl W5
                    have f5 := bc5.free
                    obtain ⟨l0, l1, l2, l3⟩ := bc5.cell4
                    go_wp2_with fail
                    refine (HU1.out _).mono ?_
                    rintro e w' ⟨rfl, rfl⟩
                    go_wp2_with fail
                    refine (FC.out _).mono ?_
                    rintro e W9 ⟨rfl, x9⟩
                    have RB := Lib.hid ((BR.out).ext x9)
                    have RX := Lib.hid ((XR.out).trans x9)
                    have fr := RB.out.free
                    obtain ⟨n0, n1, n2, n3⟩ := RB.out.cell4
                    obtain ⟨m0, m1, m2, m3⟩ := (bc5.ext x9).cell4
                    clear x9 l0 l1 l2 l3 f5 
                    cases hq : (T.toList == s.toList) with
                    | true =>
                      have e := strOf_eq.1 (HTT.out.trans (bytes_beq.1 hq))
                      cases hz : formB K 0 0 0 with
                      | true =>
                        have HI : Hid (IsCmd s.data.toList K 0 0 0) := ⟨hz, e⟩
                        have hne : s.data.toList ≠ [] := fun h => fmt_ne hz (e.trans h)
                        have hs0 : (s.toList == []) = false := by rw [ByteArray.toList_eq]; simpa using hne
                        have hs1 : s.toList.isEmpty = false := by rw [ByteArray.toList_eq]; simpa using hne
                        clear e hne hz HB3 HTT
                        go_wp2
                        refine bodyPost_ret (v := .tuple #[.agg #[.int .i64 K, .int .i64 0, .int .i64 0, .int .i64 0], .bool true]) (results_ct Tryd.results9 _ _ w.heap.size 25 _ (0, 0) _ _ rfl (Box.put4 RB.out _ _ _ _) rfl Tryd.underlying25 rfl info_cmd) rfl ⟨?_, .inl ⟨_, _, _, _, HI.out, rfl⟩⟩
                        exact ((((RX.out).setCell (Nat.le_refl _) _).setCell (Nat.le_refl _) _).setCell (Nat.le_refl _) _).setCell (Nat.le_refl _) _
                      | false =>
                        have ht : s.data.toList = [] := by rw [← e]; exact fmtL_no hz
                        have HNO : Hid (∀ k b r c : Int, ¬ IsCmd s.data.toList k b r c) := fun k b r c h => fmt_ne h.1 (h.2.trans ht)
                        have hs0 : (s.toList == []) = true := by rw [ByteArray.toList_eq, ht]; rfl
                        have hs1 : s.toList.isEmpty = true := by rw [ByteArray.toList_eq, ht]; rfl
                        clear e ht hz HB3 HTT
                        go_wp2
                        refine bodyPost_ret (v := .tuple #[.agg #[.int .i64 0, .int .i64 0, .int .i64 0, .int .i64 0], .bool false]) (results_ct Tryd.results9 _ _ w.heap.size 25 _ (0, 0) _ _ rfl (Box.put4 RB.out _ _ _ _) rfl Tryd.underlying25 rfl info_cmd) rfl ⟨?_, .inr ⟨HNO.out, rfl⟩⟩
                        exact ((((RX.out).setCell (Nat.le_refl _) _).setCell (Nat.le_refl _) _).setCell (Nat.le_refl _) _).setCell (Nat.le_refl _) _
                    | false =>
                      have HNO : Hid (∀ k b r c : Int, ¬ IsCmd s.data.toList k b r c) := fun k b r c h => by
                        obtain ⟨rfl, rfl, rfl, rfl⟩ := HB3.out k b r c h
                        rw [bytes_beq.2 (HTT.out.symm.trans (strOf_eq.2 h.2))] at hq
                        cases hq
                      clear HB3 HTT
                      go_wp2
                      refine bodyPost_ret (v := .tuple #[.agg #[.int .i64 0, .int .i64 0, .int .i64 0, .int .i64 0], .bool false]) (results_ct Tryd.results9 _ _ w.heap.size 25 _ (0, 0) _ _ rfl (Box.put4 RB.out _ _ _ _) rfl Tryd.underlying25 rfl info_cmd) rfl ⟨?_, .inr ⟨HNO.out, rfl⟩⟩
                      exact ((((RX.out).setCell (Nat.le_refl _) _).setCell (Nat.le_refl _) _).setCell (Nat.le_refl _) _).setCell (Nat.le_refl _) _

end Go.Proofs.YtamlfjkkpgmjiaaDoor
