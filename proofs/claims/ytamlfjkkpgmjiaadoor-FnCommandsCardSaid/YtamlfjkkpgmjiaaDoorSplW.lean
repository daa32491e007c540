/- Walks of SplitFields. -/
import Derived.Test.YtamlfjkkpgmjiaaDoorHexW
import Derived.Test.YtamlfjkkpgmjiaaDoorSplP
set_option maxRecDepth 20000
namespace Go.Proofs.YtamlfjkkpgmjiaaDoor
open Go.RowKit

def cellsS (fs : List (List UInt8)) : List Value := fs.map fun l => Value.string (strOf l)
/-- a slice of strings of the call's own, and whether -/
def Strs (fs : List (List UInt8)) (ok : Bool) (w : World) : Ending → World → Prop := fun e w' => ∃ a c, e = .returned (.tuple #[.slice a fs.length c, .bool ok]) ∧ w'.ownsRow w.heap.size 9 1 (.slice a fs.length c) fs.length (cellsS fs) ∧ Ext w w'
theorem own_slice {w : World} {base e size n : Nat} {v : Value} {xs : List Value} (h : w.ownsRow base e size v n xs) : ∃ a c, v = .slice a n c := by
  rcases h.2 with ⟨rfl, rfl⟩ | ⟨g, cap, cur, rfl, -⟩
  · exact ⟨_, _, rfl⟩
  · exact ⟨_, _, rfl⟩
theorem str_info : (Tryd.prog.info? 9).map (fun i => (i.zero, i.size, i.bytes)) = some (some (.string ByteArray.empty), 1, 16) := by kernel_rfl
theorem extract_eq (s : ByteArray) (b k : Nat) : s.extract b k = strOf ((s.data.toList.take k).drop b) := by
  apply ByteArray.ext
  apply Array.toList_inj.1
  rw [ByteArray.data_extract, Array.toList_extract]
  simp [strOf, List.extract, List.drop_take]
theorem cellsS_snoc (fs : List (List UInt8)) (s : ByteArray) (b k : Nat) : cellsS (fs ++ [(s.data.toList.take k).drop b]) = cellsS fs ++ [.string (s.extract b k)] := by
  rw [cellsS, cellsS, List.map_append, extract_eq]
  rfl

theorem strs_none {l : List UInt8} {w wr : World} {v : Value} (h : splitL l = none) (hv : ∃ a c, v = .slice a 0 c) (ho : wr.ownsRow w.heap.size 9 1 v 0 []) (x : Ext w wr) : Strs (splitF l) (splitB l) w (.returned (.tuple #[v, .bool false])) wr := by
  obtain ⟨a, c, rfl⟩ := hv
  unfold splitF splitB
  rw [h]
  exact ⟨a, c, rfl, ho, x⟩
theorem strs_some {l : List UInt8} {fs : List (List UInt8)} {w wr : World} {v : Value} (h : splitL l = some fs) (ho : wr.ownsRow w.heap.size 9 1 v fs.length (cellsS fs)) (x : Ext w wr) : Strs (splitF l) (splitB l) w (.returned (.tuple #[v, .bool true])) wr := by
  obtain ⟨a, c, rfl⟩ := own_slice ho
  unfold splitF splitB
  rw [h]
  exact ⟨a, c, rfl, ho, x⟩

/-- each of the first k bytes is printable -/
def Prin (s : ByteArray) (k : Nat) : Prop := ∀ j (_ : j < k) (h : j < s.size), 32 ≤ s[j].toNat ∧ s[j].toNat ≤ 126
theorem Prin.step {s : ByteArray} {k : Nat} (h : Prin s k) (hk : k < s.size) (h0 : 32 ≤ s[k].toNat) (h1 : s[k].toNat ≤ 126) : Prin s (k + 1) := by
  intro j hj hs
  rcases Nat.lt_or_ge j k with h2 | h2
  · exact h j h2 hs
  · obtain rfl : j = k := by omega
    exact ⟨h0, h1⟩
theorem Prin.bad {s : ByteArray} {k : Nat} (hk : k < s.size) (h : s[k].toNat < 32 ∨ 126 < s[k].toNat) : splitL s.data.toList = none := split_bad (k := k) (by simpa using hk) h
theorem Prin.yes {s : ByteArray} (hs : s.size ≤ 600) (h : Prin s s.size) (hf : (fields s.data.toList).length ≤ 24) : splitL s.data.toList = some (fields s.data.toList) :=
  split_yes (by simpa using hs) (fun k hk => h k (by simpa using hk) (by simpa using hk)) hf
theorem byte_ne {s : ByteArray} {k : Nat} (hk : k < s.size) (h : (s[k].toNat : Int) ≠ 32) : s.data.toList[k]'(by simpa using hk) ≠ 32 := by
  intro e
  have e' : s[k] = 32 := e
  rw [e'] at h
  exact h rfl
theorem byte_eq {s : ByteArray} {k : Nat} (hk : k < s.size) (h : (s[k].toNat : Int) = 32) : s.data.toList[k]'(by simpa using hk) = 32 := by
  have e : s[k].toNat = 32 := by omega
  exact UInt8.toNat_inj.1 e
theorem SInv.size {s : ByteArray} {k b : Nat} {done : List (List UInt8)} (hs : s.size ≤ 600) (h : SInv s.data.toList k b done) : done.length ≤ 601 := by
  have h1 := h.len
  have h2 := fields_len s.data.toList
  simp at h2
  omega

set_option maxHeartbeats 4000000 in
theorem spec_split (s : ByteArray) (w : World) (hs : s.size ≤ 600) : Calls Tryd.prog 29 #[.string s] w (Strs (splitF s.data.toList) (splitB s.data.toList) w) := by
  obtain ⟨i0, hi, hz0, hz1, hz2⟩ := info_parts str_info
  have hl : s.data.toList.length = s.size := by simp
  have HL := Lib.hid hl
  clear hl
  go_enter Tryd.func29, Tryd.ntmps29
  go_wp2
  go_loopw [4, 5, 6] (fun v p q wr => ∃ (k b : Nat) (done : List (List UInt8)), k ≤ s.size + 1 ∧ q = .int .i64 k ∧ p = .int .i64 b ∧ wr.ownsRow w.heap.size 9 1 v done.length (cellsS done) ∧ w.heap.size ≤ wr.heap.size ∧ Ext w wr ∧
      Hid ((k ≤ s.size ∧ SInv s.data.toList k b done) ∨ (k = s.size + 1 ∧ done = fields s.data.toList)) ∧ Hid (Prin s k))
    (fun _ _ q _ => s.size + 1 - (intOf q).toNat)
  case atStart => exact ⟨0, 0, [], by omega, rfl, rfl, World.ownsRow_made w #[] 0 (Nat.le_refl _) (by simp [maxLen]) rfl, by simp, (Ext.refl w).alloc _, .inl ⟨by omega, SInv.zero _⟩, (fun j hj => by omega : Prin s 0)⟩
  case round =>
    obtain ⟨k, b, done, hk1, rfl, rfl, hown, hsz, xr, hinv, hpr⟩ := hrel
    by_cases hk : k ≤ s.size
    · have hS : SInv s.data.toList k b done := by
        rcases hinv.out with h | h
        · exact h.2
        · omega
      have hbk := hS.1
      have hdl := hS.size hs
      have HS := Lib.hid hS
      clear hS hinv
      have hkI : (k : Int) ≤ (s.size : Int) := by omega
      have hbI : (b : Int) ≤ (k : Int) := by omega
      by_cases hlt : k < s.size
      · have hltI : (k : Int) < (s.size : Int) := by omega
        have hc : s[k].toNat < 256 := s[k].toNat_lt
        by_cases h0 : (s[k].toNat : Int) < 32
        · have HN := Lib.hid (Prin.bad hlt (.inl (by omega)))
          go_wp2
          go_ret2
          exact strs_none HN.out ⟨_, _, rfl⟩ (World.ownsRow_made wr #[] 0 hsz (by simp [maxLen]) rfl) (xr.alloc _)
        · by_cases h1 : (126 : Int) < (s[k].toNat : Int)
          · have HN := Lib.hid (Prin.bad hlt (.inr (by omega)))
            go_wp2
            go_ret2
            exact strs_none HN.out ⟨_, _, rfl⟩ (World.ownsRow_made wr #[] 0 hsz (by simp [maxLen]) rfl) (xr.alloc _)
          · have HP := Lib.hid (hpr.out.step hlt (by omega) (by omega))
            by_cases h2 : (s[k].toNat : Int) = 32
            · by_cases hb : b < k
              · have hbI2 : (b : Int) < (k : Int) := by omega
                have HX := Lib.hid (HS.out.space (by have := HL.out; omega) (byte_eq hlt h2) hb)
                go_wp2_with (at_builtin; refine wpList_append_own _ rfl (.tmp 48) (.tmp 53) 43 rfl w.heap.size 9 i0 (.string ByteArray.empty) 1 16 Tryd.underlying43 hi hz0 hz1 hz2 rfl (by decide) _ _ _ rfl (hown.alloc _) ⟨wr.heap.size, 0, none⟩ 1 1 [.string (s.extract b k)] rfl rfl (cell_one_new _ _ _) ?c2 ?c3 ?c4 ?c5 ?_)
                case c2 => first | rfl | (intro u hu; simp at hu; subst hu; rfl)
                case c3 => unfold maxLen; omega
                case c4 => omega
                case c5 => first | omega | (simp; omega)
                intro v' w3 hown3 hgrow _
                have x3 := (xr.alloc _).grown hgrow (fun j hj => (hown.lt j hj).1)
                have hs3 := hgrow.size
                rw [← cellsS_snoc] at hown3
                have hown4 : w3.ownsRow w.heap.size 9 1 v' (done ++ [(s.data.toList.take k).drop b]).length (cellsS (done ++ [(s.data.toList.take k).drop b])) := by
                  rw [List.length_append]; exact hown3
                clear hown hgrow hown3
                go_wp2
                go_roundw
                case rel => exact ⟨k + 1, k + 1, _, by omega, by go_num, by go_num, hown4, (by simp at hs3; omega), x3, .inl ⟨by omega, HX.out⟩, HP.out⟩
                case measure => simp [intOf]; omega
              · obtain rfl : b = k := by omega
                have HX := Lib.hid (HS.out.again (by have := HL.out; omega) (byte_eq hlt h2))
                go_wp2
                go_roundw
                case rel => exact ⟨b + 1, b + 1, _, by omega, by go_num, by go_num, hown, hsz, xr, .inl ⟨by omega, HX.out⟩, HP.out⟩
                case measure => simp [intOf]; omega
            · have HX := Lib.hid (HS.out.other (by have := HL.out; omega) (byte_ne hlt h2))
              go_wp2
              go_roundw
              case rel => exact ⟨k + 1, b, _, by omega, by go_num, rfl, hown, hsz, xr, .inl ⟨by omega, HX.out⟩, HP.out⟩
              case measure => simp [intOf]; omega
      · obtain rfl : k = s.size := by omega
        have HP : Hid (Prin s (s.size + 1)) := fun j _ h => hpr.out j h h
        by_cases hb : b < s.size
        · have hbI2 : (b : Int) < (s.size : Int) := by omega
          have HX := Lib.hid (show done ++ [(s.data.toList.take s.size).drop b] = fields s.data.toList from by
            have h := HS.out
            rw [← HL.out] at h
            have h2 := h.last (by rw [HL.out]; exact hb)
            rw [HL.out] at h2
            exact h2)
          go_wp2_with (at_builtin; refine wpList_append_own _ rfl (.tmp 48) (.tmp 53) 43 rfl w.heap.size 9 i0 (.string ByteArray.empty) 1 16 Tryd.underlying43 hi hz0 hz1 hz2 rfl (by decide) _ _ _ rfl (hown.alloc _) ⟨wr.heap.size, 0, none⟩ 1 1 [.string (s.extract b s.size)] rfl rfl (cell_one_new _ _ _) ?d2 ?d3 ?d4 ?d5 ?_)
          case d2 => first | rfl | (intro u hu; simp at hu; subst hu; rfl)
          case d3 => unfold maxLen; omega
          case d4 => omega
          case d5 => first | omega | (simp; omega)
          intro v' w3 hown3 hgrow _
          have x3 := (xr.alloc _).grown hgrow (fun j hj => (hown.lt j hj).1)
          have hs3 := hgrow.size
          rw [← cellsS_snoc] at hown3
          have hown4 : w3.ownsRow w.heap.size 9 1 v' (done ++ [(s.data.toList.take s.size).drop b]).length (cellsS (done ++ [(s.data.toList.take s.size).drop b])) := by
            rw [List.length_append]; exact hown3
          clear hown hgrow hown3
          go_wp2
          go_roundw
          case rel => exact ⟨s.size + 1, s.size + 1, _, by omega, by go_num, by go_num, hown4, (by simp at hs3; omega), x3, .inr ⟨rfl, HX.out⟩, HP.out⟩
          case measure => simp [intOf]
        · obtain rfl : b = s.size := by omega
          have HX := Lib.hid (show done = fields s.data.toList from by
            have h := HS.out
            rw [← HL.out] at h
            exact h.done)
          go_wp2
          go_roundw
          case rel => exact ⟨s.size + 1, s.size + 1, _, by omega, by go_num, by go_num, hown, hsz, xr, .inr ⟨rfl, HX.out⟩, HP.out⟩
          case measure => simp [intOf]
    · obtain rfl : k = s.size + 1 := by omega
      have hD : done = fields s.data.toList := by
        rcases hinv.out with h | h
        · omega
        · exact h.2
      subst hD
      have hfl := fields_len s.data.toList
      have hl := HL.out
      have hkI : ¬ (s.size : Int) + 1 ≤ (s.size : Int) := by omega
      obtain ⟨a, c, rfl⟩ := own_slice hown
      by_cases hm : 24 < (fields s.data.toList).length
      · have HN := Lib.hid (split_many hm)
        generalize hfs : fields s.data.toList = fs at *
        have hmI : (24 : Int) < (fs.length : Int) := by omega
        clear hl hfs hinv
        go_wp2
        go_ret2
        exact strs_none HN.out ⟨_, _, rfl⟩ (World.ownsRow_made wr #[] 0 hsz (by simp [maxLen]) rfl) (xr.alloc _)
      · have HN := Lib.hid (Prin.yes hs (fun j hj h => hpr.out j (by omega) h) (by omega))
        generalize hfs : fields s.data.toList = fs at *
        have hmI : ¬ (24 : Int) < (fs.length : Int) := by omega
        clear hl hfs hinv
        go_wp2
        go_ret2
        exact strs_some HN.out hown xr

theorem spec_split_long (s : ByteArray) (w : World) (hs : 600 < s.size) : Calls Tryd.prog 29 #[.string s] w (Strs (splitF s.data.toList) (splitB s.data.toList) w) := by
  have HN := Lib.hid (split_long (l := s.data.toList) (by simpa using hs))
  have hsI : (600 : Int) < (s.size : Int) := by omega
  go_enter Tryd.func29, Tryd.ntmps29
  go_wp2
  go_ret2
  exact strs_none HN.out ⟨_, _, rfl⟩ (World.ownsRow_made w #[] 0 (Nat.le_refl _) (by simp [maxLen]) rfl) ((Ext.refl w).alloc _)





end Go.Proofs.YtamlfjkkpgmjiaaDoor
