/- The laws' own functions over slices of strings (eqStringS, markStringS, heldStringS, markText) and the walk of FnExactSplitFields. -/
import Derived.Test.YtmokjebcjmphkaaSplW
import Derived.Test.YtmokjebcjmphkaaDecW
namespace Go.Proofs.Ytmokjebcjmphkaa
open Go.RowKit
open Go.Lib (decDigits itoa)

/-- a slice that reads as the strings fs -/
def ReadsS (w : World) (a : Option Addr) (n : Nat) (fs : List (List UInt8)) : Prop :=
  fs.length = n ∧ (0 < n → ∃ b o, a = some ⟨b, o, none⟩ ∧ b < w.heap.size ∧ ∀ i, i < n → w.cell? ⟨b, o + i, none⟩ = some (.string (strOf (fs.getD i []))))
def OwnS (w : World) (base : Nat) (a : Option Addr) (n cap : Nat) (fs : List (List UInt8)) : Prop := w.ownsRow base 9 1 (.slice a n cap) n (cellsS fs)
theorem OwnS.len {w : World} {base : Nat} {a : Option Addr} {n cap : Nat} {fs : List (List UInt8)} (h : OwnS w base a n cap fs) : fs.length = n := by
  have := h.1
  simpa [cellsS] using this
theorem OwnS.form {w : World} {base : Nat} {a : Option Addr} {n cap : Nat} {fs : List (List UInt8)} (h : OwnS w base a n cap fs) (hn : 0 < n) : ∃ g, a = some ⟨g, 0, none⟩ ∧ base ≤ g ∧ g < w.heap.size := by
  obtain ⟨g, c, e⟩ := Joins.ownsRow_form h hn
  have e' : a = some ⟨g, 0, none⟩ := by injection e
  subst e'
  exact ⟨g, rfl, World.ownsRow.lt h g rfl⟩
theorem OwnS.at {w : World} {base : Nat} {g : Nat} {n cap : Nat} {fs : List (List UInt8)} (h : OwnS w base (some ⟨g, 0, none⟩) n cap fs) {i : Nat} (hi : i < n) : w.cell? ⟨g, i, none⟩ = some (.string (strOf (fs.getD i []))) := by
  have hl := h.len
  rw [World.ownsRow.cellAt h i (by omega), cellsS, List.getElem?_map, List.getElem?_eq_getElem (by omega), List.getD_eq_getElem?_getD, List.getElem?_eq_getElem (by omega)]
  rfl
theorem OwnS.reads {w : World} {base : Nat} {a : Option Addr} {n cap : Nat} {fs : List (List UInt8)} (h : OwnS w base a n cap fs) : ReadsS w a n fs :=
  ⟨h.len, fun hn => by
    obtain ⟨g, rfl, _, hg⟩ := h.form hn
    exact ⟨g, 0, rfl, hg, fun i hi => by rw [Nat.zero_add]; exact h.at hi⟩⟩
theorem own_ext {w w' : World} {base e size n : Nat} {v : Value} {xs : List Value} (h : w.ownsRow base e size v n xs) (x : Ext w w') : w'.ownsRow base e size v n xs := by
  refine ⟨h.1, ?_⟩
  rcases h.2 with h2 | ⟨g, c, cur, hv, hg, hh, r⟩
  · exact .inl h2
  · exact .inr ⟨g, c, cur, hv, hg, (Below.block x g (Array.getElem?_eq_some_iff.1 hh).1).trans hh, r⟩
theorem OwnS.ext {w w' : World} {base : Nat} {a : Option Addr} {n cap : Nat} {fs : List (List UInt8)} (h : OwnS w base a n cap fs) (x : Ext w w') : OwnS w' base a n cap fs := own_ext h x
/-- everything but the block of the slice a stands -/
def TouchS (a : Option Addr) (w w' : World) : Prop := w.grownBy w' (Value.slice a 0 0).ownBlock
theorem TouchS.refl (a : Option Addr) (w : World) : TouchS a w w := ⟨rfl, rfl, rfl, Nat.le_refl _, fun _ _ _ => rfl⟩
theorem TouchS.trans {a : Option Addr} {w w1 w2 : World} (h : TouchS a w w1) (k : TouchS a w1 w2) : TouchS a w w2 :=
  ⟨k.os.trans h.os, k.tape.trans h.tape, k.output.trans h.output, Nat.le_trans h.size k.size, fun b hb hne => (k.block b (Nat.lt_of_lt_of_le hb h.size) hne).trans (h.block b hb hne)⟩
theorem TouchS.ext {a : Option Addr} {w w1 : World} (x : Ext w w1) : TouchS a w w1 := ⟨Below.os x, Below.tape x, Below.output x, Below.size x, fun b hb _ => Below.block x b hb⟩
/-- the slice lies behind W: so everything of W stands -/
theorem TouchS.toExt {a : Option Addr} {W w w1 : World} (x : Ext W w) (h : TouchS a w w1) (hb : ∀ g o s, a = some ⟨g, o, s⟩ → W.heap.size ≤ g) : Ext W w1 :=
  Below.grown x h x.le (fun k hk => by
    cases a with
    | none => cases hk
    | some p => injection hk with hk; subst hk; exact hb p.block p.off p.spot rfl)
theorem OwnS.far {w : World} {base : Nat} {a : Option Addr} {n cap : Nat} {fs : List (List UInt8)} (h : OwnS w base a n cap fs) : ∀ g o s, 0 < n → a = some ⟨g, o, s⟩ → base ≤ g := by
  intro g o s hn e
  obtain ⟨g', e', hg, _⟩ := h.form hn
  rw [e'] at e
  injection e with e
  injection e with e1
  omega

theorem OwnS.far' {w : World} {base : Nat} {a : Option Addr} {n cap : Nat} {fs : List (List UInt8)} (h : OwnS w base a n cap fs) : ∀ g o s, a = some ⟨g, o, s⟩ → base ≤ g := by
  intro g o s e
  rcases h.2 with ⟨h2, _⟩ | ⟨g', c, cur, hv, hg, _⟩
  · injection h2 with h2; rw [h2] at e; cases e
  · injection hv with hv; rw [hv] at e; injection e with e; injection e with e1; omega

/-- what markText writes -/
def markS (k : Nat) : List UInt8 := 109 :: decDigits k
def iotaS (k : Nat) : Nat → List (List UInt8)
  | 0 => []
  | n + 1 => iotaS k n ++ [markS (k + n)]
theorem iotaS_length (k n : Nat) : (iotaS k n).length = n := by
  induction n with
  | zero => rfl
  | succ n ih => simp [iotaS, ih]
theorem iotaS_get (k n i : Nat) (h : i < n) : (iotaS k n).getD i [] = markS (k + i) := by
  induction n with
  | zero => omega
  | succ n ih =>
    have hl := iotaS_length k n
    rw [iotaS, List.getD_eq_getElem?_getD]
    rcases Nat.lt_or_ge i n with h1 | h1
    · rw [List.getElem?_append_left (by omega), ← List.getD_eq_getElem?_getD]; exact ih h1
    · obtain rfl : i = n := by omega
      rw [List.getElem?_append_right (by omega), hl]
      simp
theorem setS_step (ys : List (List UInt8)) (x : List UInt8) (zs : List (List UInt8)) (h : ys.length < zs.length) : (ys ++ zs.drop ys.length).set ys.length x = (ys ++ [x]) ++ zs.drop (ys.length + 1) := by
  rw [List.set_append_right _ _ (Nat.le_refl _), Nat.sub_self, List.drop_eq_getElem_cons h, List.set_cons_zero, List.append_assoc]
  rfl
theorem cellsS_set (l : List (List UInt8)) (k : Nat) (x : List UInt8) : (cellsS l).set k (.string (strOf x)) = cellsS (l.set k x) := by
  rw [cellsS, cellsS, List.map_set]

theorem fig_conv (w : World) (m : Nat) : (convert 32 9 (.slice (some ⟨w.heap.size, 0, none⟩) 1 1)).run Try.prog (w.alloc (.cells #[.int .u8 (48 + (m : Int) % 10)] 5)) = .ok (.string (strOf [figB (m % 10)])) (w.alloc (.cells #[.int .u8 (48 + (m : Int) % 10)] 5)) := by
  have h := one_string w (figB (m % 10))
  have hf := figB_toNat (m % 10) (by omega)
  rw [if_pos (by omega)] at hf
  rw [hf, show ((48 + m % 10 : Nat) : Int) = 48 + (m : Int) % 10 by omega] at h
  exact h

set_option maxHeartbeats 1000000 in
theorem mark_text (n : Nat) (h1 : 0 < n) (h2 : n ≤ 1000000) (w : World) : Calls Try.prog 30 #[.int .i64 n] w fun e w' => e = .returned (.string (strOf (markS n))) ∧ Ext w w' := by
  have hlen := dec_length n 6 (by omega)
  go_enter Try.func30, Try.ntmps30
  go_wp2
  go_loopw [0, 3] (fun i v wr => ∃ (m : Nat) (l : List UInt8), m ≤ n ∧ i = .int .i64 m ∧ v = .string (strOf l) ∧ Hid (decX m ++ l = decDigits n) ∧ Ext w wr)
    (fun i _ _ => (intOf i).toNat)
  case atStart => exact ⟨n, [], Nat.le_refl _, rfl, rfl, (by show decX n ++ [] = _; rw [List.append_nil, decX, if_neg (by omega)]), Ext.refl w⟩
  case round =>
    obtain ⟨m, l, hm, rfl, rfl, hd, xr⟩ := hrel
    have hl : l.length ≤ 7 := by have := congrArg List.length hd.out; simp at this; omega
    have hsz : (strOf l).size = l.length := by simp [strOf, ByteArray.size]
    by_cases h0 : 0 < m
    · have hm0 : (0 : Int) < (m : Int) := by omega
      have HS := Lib.hid (decX_step m h0)
      have hroom : ¬ (9223372036854775807 < (strOf [figB (m % 10)]).size + (strOf l).size) := by rw [hsz]; simp [strOf, ByteArray.size]; omega
      have HC := fig_conv wr m
      go_wp2
      all_goals
        go_roundw
        case rel => exact ⟨m / 10, figB (m % 10) :: l, by omega, by go_num, (by rw [strOf_append]; rfl), (by have := hd.out; rw [HS.out, List.append_assoc] at this; exact this), xr.alloc _⟩
        case measure => simp [intOf]; omega
    · obtain rfl : m = 0 := by omega
      have hdd : l = decDigits n := hd.out
      subst hdd
      have hroom : ¬ (9223372036854775807 < (ByteArray.mk #[109]).size + (strOf (decDigits n)).size) := by rw [hsz]; simp [ByteArray.size]; omega
      go_wp2
      go_ret
      exact ⟨by rw [show (ByteArray.mk #[109]) = strOf [109] from rfl, strOf_append]; rfl, xr⟩

theorem eq_strs (a b : Option Addr) (n c d : Nat) (fs : List (List UInt8)) (w : World) (h1 : ReadsS w a n fs) (h2 : ReadsS w b n fs) (hm : n ≤ 1000000) : Calls Try.prog 17 #[.slice a n c, .slice b n d] w fun e w' => e = .returned (.bool true) ∧ Ext w w' := by
  go_enter Try.func17, Try.ntmps17
  go_wp2
  go_loopw [5] (fun i wr => ∃ (k m : Nat), k ≤ n ∧ i = .int .i64 k ∧ wr = w.drewN m) (fun i _ => n - (intOf i).toNat)
  case atStart => exact ⟨0, 0, Nat.zero_le _, rfl, rfl⟩
  case round =>
    obtain ⟨k, m, hk, rfl, rfl⟩ := hrel
    by_cases hlt : k < n
    · obtain ⟨b1, o1, rfl, -, hc1⟩ := h1.2 (by omega)
      obtain ⟨b2, o2, rfl, -, hc2⟩ := h2.2 (by omega)
      have q1 := hc1 k hlt
      have q2 := hc2 k hlt
      generalize strOf (fs.getD k []) = z at q1 q2
      clear hc1 hc2 h1 h2
      have hltI : (k : Int) < n := by omega
      go_wp2
      go_quiet (fail)
      go_wp2
      go_roundw
      case rel => exact ⟨k + 1, _, by omega, by go_num, (by first | rfl | exact World.drewN_drewN)⟩
      case measure => simp [intOf]; omega
    · obtain rfl : k = n := by omega
      go_wp2
      go_ret
      exact ⟨rfl, (Ext.refl w).drewN _⟩

theorem mark_strs (a : Option Addr) (n c base k0 : Nat) (fs : List (List UInt8)) (w : World) (h : OwnS w base a n c fs) (hb : base ≤ w.heap.size) (hm : n ≤ 1000) (hk0 : 0 < k0) (hk1 : k0 ≤ 1000) : Calls Try.prog 18 #[.slice a n c, .int .i64 k0] w fun e w' => e = .returned (.int .i64 ((k0 + n : Nat) : Int)) ∧ OwnS w' base a n c (iotaS k0 n) ∧ TouchS a w w' := by
  have HL := Lib.hid h.len
  go_enter Try.func18, Try.ntmps18
  go_wp2
  go_loopw [1, 5] (fun q i wr => ∃ k : Nat, k ≤ n ∧ i = .int .i64 k ∧ q = .int .i64 ((k0 + k : Nat) : Int) ∧ OwnS wr base a n c (iotaS k0 k ++ fs.drop k) ∧ TouchS a w wr) (fun _ i _ => n - (intOf i).toNat)
  case atStart => exact ⟨0, Nat.zero_le _, rfl, by go_num, h, TouchS.refl a w⟩
  case round =>
    obtain ⟨k, hk, rfl, rfl, ho, ht⟩ := hrel
    clear h
    by_cases hlt : k < n
    · obtain ⟨g, rfl, hg1, hg2⟩ := ho.form (by omega)
      have hltI : (k : Int) < n := by omega
      go_wp2_with fail
      refine (mark_text (k0 + k) (by omega) (by omega) _).mono ?_
      rintro e w1 ⟨rfl, x1⟩
      have ho1 := ho.ext x1
      have f1 := World.ownsRow.frozenAt ho1 k
      have q1 := ho1.at hlt
      have hst := World.ownsRow.stored ho1 k (.string (strOf (markS (k0 + k))))
      have ho2 : OwnS (w1.setCell ⟨g, k, none⟩ (.string (strOf (markS (k0 + k))))) base (some ⟨g, 0, none⟩) n c (iotaS k0 (k + 1) ++ fs.drop (k + 1)) := by
        have e := setS_step (iotaS k0 k) (markS (k0 + k)) fs (by rw [iotaS_length, HL.out]; exact hlt)
        rw [iotaS_length] at e
        have h1 := hst.1
        rw [cellsS_set, e] at h1
        exact h1
      have ht2 := (ht.trans (TouchS.ext x1)).trans hst.2
      generalize strOf (markS (k0 + k)) = z at *
      generalize strOf ((iotaS k0 k ++ fs.drop k).getD k []) = y at *
      clear hst ho ht ho1 x1
      go_wp2
      go_roundw
      case rel => exact ⟨k + 1, by omega, by go_num, by go_num, ho2, ht2⟩
      case measure => simp [intOf]; omega
    · obtain rfl : k = n := by omega
      rw [List.drop_eq_nil_of_le (by rw [HL.out]; omega), List.append_nil] at ho
      go_wp2
      go_ret
      exact ⟨rfl, ho, ht⟩

theorem held_strs (a : Option Addr) (n c k0 : Nat) (w : World) (h : ReadsS w a n (iotaS k0 n)) (hm : n ≤ 1000) (hk0 : 0 < k0) (hk1 : k0 ≤ 1000) : Calls Try.prog 19 #[.slice a n c, .int .i64 k0] w fun e w' => e = .returned (.int .i64 ((k0 + n : Nat) : Int)) ∧ Ext w w' := by
  go_enter Try.func19, Try.ntmps19
  go_wp2
  go_loopw [1, 5] (fun q i wr => ∃ k : Nat, k ≤ n ∧ i = .int .i64 k ∧ q = .int .i64 ((k0 + k : Nat) : Int) ∧ Ext w wr) (fun _ i _ => n - (intOf i).toNat)
  case atStart => exact ⟨0, Nat.zero_le _, rfl, by go_num, Ext.refl w⟩
  case round =>
    obtain ⟨k, hk, rfl, rfl, xr⟩ := hrel
    by_cases hlt : k < n
    · obtain ⟨b1, o1, rfl, hb1, hc1⟩ := h.2 (by omega)
      have hltI : (k : Int) < n := by omega
      have p1 : ∀ x : Later wr, x.w.cell? ⟨b1, o1 + k, none⟩ = some (.string (strOf (markS (k0 + k)))) := fun x => ((xr.trans x.ext).cell hb1 _).trans (by rw [hc1 k hlt, iotaS_get k0 n k hlt])
      have HM := Lib.hid (fun w => mark_text (k0 + k) (by omega) (by omega) w)
      generalize strOf (markS (k0 + k)) = z at *
      clear hc1 h
      go_wp2_with fail
      refine wp_region_later (by kernel_rfl) (by kernel_rfl) ?_
      repeat (go_big_quiet_step ((first | (go_at_call 30; exact Later.of _ (HM.out _)))))
      refine wpQuiet_nil ?_
      rintro _ ⟨x, rfl⟩
      have xe := x.ext
      go_wp2
      go_roundw
      case rel => exact ⟨k + 1, by omega, by go_num, by go_num, xr.trans xe⟩
      case measure => simp [intOf]; omega
    · obtain rfl : k = n := by omega
      go_wp2
      go_ret
      exact ⟨rfl, xr⟩

end Go.Proofs.Ytmokjebcjmphkaa
