/- Small lemmas that every proof of this seat uses: an argument that is a struct of integers is opened to its numbers; a slice of integers; what lies below a heap size stays. No program is named here. -/
import Derived.WalkKit
import Derived.ProofKit
import Derived.OpenShut
import Derived.ShutString
import Derived.ChangeOld
import Derived.Below
import Derived.WalkSmall
import Derived.Lib.Hide
import Derived.Lib.SmallJoins
import Derived.Deep.Fields
import Derived.Deep.RegionHeld3
import Derived.Deep.QuietTactic
import Derived.BigQuiet
namespace Go.Proofs.Ytdaphamplgcccaa
open Go.ChangeShapes Go.WideShapes Go.ChangeAt Go.RowKit Go.Deep

/-- The cells of n integers. -/
def intCells (zs : List Int) : Array Value := (zs.map (Value.int .i64)).toArray

section
variable {H : Type} {enc : TypeId × Value → H} {P : Program} {w : World} {base : Nat} {spare : Nat → Bool} {held : Bool}

/-- The cells of a value that fit fields of integers are integers. -/
theorem cells_ints {fs : List Field} : ∀ (cs : List Value) (_ : cs.length = fs.length)
    (_ : ∀ (i : Nat) (f : Field), fs[i]? = some f → ∃ v z, cs[i]? = some v ∧ v = .int .i64 z ∧ (Lit.int .i64 z).wf = true),
    ∃ zs : List Int, zs.length = fs.length ∧ cs = zs.map (Value.int .i64) ∧ ∀ z ∈ zs, (Lit.int .i64 z).wf = true := by
  induction fs with
  | nil => intro cs hl _; exact ⟨[], rfl, by simpa using hl, by simp⟩
  | cons f fs ih =>
    intro cs hl h
    match cs, hl with
    | c :: cs, hl =>
      obtain ⟨v, z, h1, h2, h3⟩ := h 0 f rfl
      obtain ⟨zs, e1, e2, e3⟩ := ih cs (by simpa using hl) (fun i g hg => by simpa using h (i + 1) g (by simpa using hg))
      simp at h1
      subst h1; subst h2
      refine ⟨z :: zs, by simp [e1], by simp [e2], ?_⟩
      intro y hy
      rcases List.mem_cons.1 hy with rfl | hy
      · exact h3
      · exact e3 y hy

/-- A struct of integers by value, opened: its numbers. -/
theorem open_ints_agg {r : Reach} {b0 : Nat} {t ti : TypeId} {fs : Array Field} {v : Value} {d : DataW H} {p : List MemPlace} (hs : P.underlying t = some (.struct fs)) (hone : oneCellFields P fs = true) (hC : P.cellsOf t = fs.size)
    (hall : fs.toList.all (fun f => f.type == ti) = true) (hi : P.underlying ti = some (.int .i64))
    (hv : Value.okWide P w r b0 t v) (h : DataW.Trod enc P w base spare held t v d p) :
    ∃ zs : List Int, zs.length = fs.size ∧ v = .agg (intCells zs) ∧ ∀ z ∈ zs, (Lit.int .i64 z).wf = true := by
  obtain ⟨cs, rfl, hsz⟩ := okWide_struct hs hv
  obtain ⟨fuel, hf⟩ := h
  obtain ⟨xs, n, _, _, hl, hlen, hfi⟩ := DataW.trod_struct hs hf
  have hcs : (Value.agg cs).cells.toList = cs.toList := by simp [Value.cells]
  rw [hcs] at hfi
  obtain ⟨zs, e1, e2, e3⟩ := cells_ints (fs := fs.toList) cs.toList (by simp [hsz, hC]) (fun i f hif => by
    have hif' : fs[i]? = some f := by simpa using hif
    have hlt : i < fs.size := by
      rcases Nat.lt_or_ge i fs.size with h | h
      · exact h
      · rw [Array.getElem?_eq_none h] at hif'; cases hif'
    obtain ⟨o, k⟩ := hone_of hone i f hif'
    have ht := hfi i f hif'
    rw [o, k] at ht
    have hlc : i < cs.size := by omega
    have hx : ∃ x, xs[i]? = some x := ⟨xs[i]'(by omega), List.getElem?_eq_getElem (by omega)⟩
    obtain ⟨x, hx⟩ := hx
    rw [hx] at ht
    have hfty : f.type = ti := by
      have := List.all_eq_true.1 hall f (List.mem_of_getElem? hif)
      simpa using this
    rw [hfty] at ht
    obtain ⟨z, hz, _, hw⟩ := DataW.trod_int hi ht
    have hc : cs.toList[i]? = some (cs[i]'hlc) := by simp [hlc]
    refine ⟨cs[i]'hlc, z, hc, ?_, hw⟩
    have hd : (cs.toList.drop i).take 1 = [cs[i]'hlc] := by
      rw [List.drop_eq_getElem_cons (by simpa using hlc)]
      simp
    rw [hd] at hz
    simpa using hz)
  exact ⟨zs, by simpa using e1, by rw [intCells, ← e2], e3⟩
end

/-- What lies below the size of the heap of W reads in w1 as it did. -/
theorem below_reads {W w1 : World} (hb : Below W.heap.size W w1) :
    (∀ b o, b < W.heap.size → w1.cell? ⟨b, o, none⟩ = W.cell? ⟨b, o, none⟩) ∧ (∀ b o, b < W.heap.size → w1.frozen? ⟨b, o, none⟩ = W.frozen? ⟨b, o, none⟩) :=
  ⟨fun b o h => hb.cell (p := ⟨b, o, none⟩) h, fun b o h => hb.frozen (p := ⟨b, o, none⟩) h⟩

/-- A slice of integers that reads as the list zs (its elements alone; nothing is said of the spare room), below block B. -/
def RowIs (k : IntKind) (w : World) (B : Nat) (a : Option Addr) (len : Nat) (zs : List Int) : Prop :=
  zs.length = len ∧ (∀ z ∈ zs, (Lit.int k z).wf = true) ∧ (0 < len → ∃ b o, a = some ⟨b, o, none⟩ ∧ b < B ∧ ∀ i, i < len → w.cell? ⟨b, o + i, none⟩ = some (.int k (zs.getD i 0)))

theorem RowIs.keep {k : IntKind} {w w' : World} {B : Nat} {a : Option Addr} {len : Nat} {zs : List Int} (h : RowIs k w B a len zs) (hk : ∀ b o, b < B → w'.cell? ⟨b, o, none⟩ = w.cell? ⟨b, o, none⟩) : RowIs k w' B a len zs :=
  ⟨h.1, h.2.1, fun hp => by
    obtain ⟨b, o, e, hb, hc⟩ := h.2.2 hp
    exact ⟨b, o, e, hb, fun i hi => (hk b _ hb).trans (hc i hi)⟩⟩

theorem RowIs.below {k : IntKind} {w w' : World} {B : Nat} {a : Option Addr} {len : Nat} {zs : List Int} (h : RowIs k w B a len zs) (hb : Below B w w') : RowIs k w' B a len zs :=
  h.keep fun b o hlt => hb.cell (p := ⟨b, o, none⟩) hlt

theorem RowIs.more {k : IntKind} {w : World} {B B' : Nat} {a : Option Addr} {len : Nat} {zs : List Int} (h : RowIs k w B a len zs) (hB : B ≤ B') : RowIs k w B' a len zs :=
  ⟨h.1, h.2.1, fun hp => by
    obtain ⟨b, o, e, hb, hc⟩ := h.2.2 hp
    exact ⟨b, o, e, by omega, hc⟩⟩

theorem row_of_trod {H : Type} {enc : TypeId × Value → H} {P : Program} {w : World} {base : Nat} {spare : Nat → Bool} {held : Bool} {k : IntKind} {t e : TypeId} {a : Option Addr} {len cap : Nat} {d : DataW H} {p : List MemPlace}
    (ht : P.underlying t = some (.slice e)) (he : P.underlying e = some (.int k)) (hc : P.cellsOf e = 1) (h : DataW.Trod enc P w base spare held t (.slice a len cap) d p) : ∃ zs, RowIs k w w.heap.size a len zs ∧ len ≤ maxLen := by
  obtain ⟨fuel, hf⟩ := h
  rcases open_ints ht he hc hf with ⟨hcs, _⟩ | ⟨x, l, c, zs, hcs, _, hl, hm, hz, _, hcell, hwz⟩
  · simp [Value.cells] at hcs
    obtain ⟨rfl, rfl, rfl⟩ := hcs
    exact ⟨[], ⟨rfl, by simp, fun h => absurd h (by omega)⟩, by simp [maxLen]⟩
  · simp [Value.cells] at hcs
    obtain ⟨rfl, rfl, rfl⟩ := hcs
    have hlz : len ≤ zs.length := by rw [hz]; split <;> omega
    refine ⟨zs.take len, ⟨by simp; omega, fun z hz => hwz z (List.mem_of_mem_take hz), fun hp => ?_⟩, by omega⟩
    have h0 := hcell 0 (by omega)
    obtain ⟨b, o, s⟩ := x
    have hs : s = none := by simpa [Addr.add] using World.cell?_spot h0
    subst hs
    have hb := World.block_lt_of_cell? _ _ h0
    refine ⟨b, o, rfl, by simpa [Addr.add] using hb, fun i hi => ?_⟩
    have := hcell i (by omega)
    rw [WideShapes.add_plain] at this
    rw [this]
    congr 2
    simp [List.getD_eq_getElem?_getD, List.getElem?_take, hi]

theorem ret_int {k : IntKind} {a b : Int} (h : a = b) : Ending.returned (.int k a) = .returned (.int k b) := by rw [h]

/-! ### what a call leaves: everything that was there stands as it stood -/
def Ext (w w' : World) : Prop := Below w.heap.size w w'
theorem Ext.refl (w : World) : Ext w w := Below.refl _ _
theorem Ext.trans {a b c : World} (h : Ext a b) (k : Ext b c) : Ext a c := Below.trans h (Below.mono k h.size)
theorem Ext.alloc {a b : World} (h : Ext a b) (o : Obj) : Ext a (b.alloc o) := Below.alloc h h.size o
theorem Ext.drew {a b : World} (h : Ext a b) : Ext a b.drew := Below.drew h
theorem Ext.drewN {a b : World} (h : Ext a b) (n : Nat) : Ext a (b.drewN n) := below_drewN h n
theorem Ext.setCell {a b : World} (h : Ext a b) {p : Addr} (hp : a.heap.size ≤ p.block) (u : Value) : Ext a (b.setCell p u) := Below.setCell h hp u
theorem Ext.le {a b : World} (h : Ext a b) : a.heap.size ≤ b.heap.size := Below.size h
theorem Ext.below {a b : World} (h : Ext a b) : Below a.heap.size a b := h
theorem Ext.cell {a b : World} (h : Ext a b) {g : Nat} (hg : g < a.heap.size) (o : Nat) : b.cell? ⟨g, o, none⟩ = a.cell? ⟨g, o, none⟩ := Below.cell (p := ⟨g, o, none⟩) h hg
theorem Ext.row {k : IntKind} {a b : World} (h : Ext a b) {B : Nat} {ad : Option Addr} {len : Nat} {zs : List Int} (hr : RowIs k a B ad len zs) (hB : B ≤ a.heap.size) : RowIs k b B ad len zs :=
  hr.keep fun g o hg => h.cell (by omega) o
/-- with a draw inside: the walk writes draws outermost -/
theorem Ext.ofDrew {a b : World} (h : Ext a.drew b) : Ext a b := Ext.trans (Ext.drew (Ext.refl a)) h
theorem Ext.ofDrewN {a b : World} {n : Nat} (h : Ext (a.drewN n) b) : Ext a b := Ext.trans (Ext.drewN (Ext.refl a) n) h

/-- block g is just these cells -/
def Box (w : World) (g : Nat) (t : TypeId) (cs : Array Value) : Prop := w.heap[g]? = some (.cells cs t (0, 0))
theorem Box.lt {w : World} {g : Nat} {t : TypeId} {cs : Array Value} (h : Box w g t cs) : g < w.heap.size := by
  rcases Nat.lt_or_ge g w.heap.size with hlt | hge
  · exact hlt
  · unfold Box at h; rw [Array.getElem?_eq_none hge] at h; cases h
theorem Box.new (w : World) (t : TypeId) (cs : Array Value) : Box (w.alloc (.cells cs t)) w.heap.size t cs := heap_alloc_new w _
theorem Box.new_at (w : World) (t : TypeId) (cs : Array Value) (g : Nat) (hg : g = w.heap.size) : Box (w.alloc (.cells cs t)) g t cs := hg ▸ Box.new w t cs
theorem Box.ext {w w' : World} {g : Nat} {t : TypeId} {cs : Array Value} (h : Box w g t cs) (x : Ext w w') : Box w' g t cs := (Below.block x g h.lt).trans h
theorem Box.alloc {w : World} {g : Nat} {t : TypeId} {cs : Array Value} (h : Box w g t cs) (o : Obj) : Box (w.alloc o) g t cs := h.ext ((Ext.refl w).alloc o)
theorem Box.drew {w : World} {g : Nat} {t : TypeId} {cs : Array Value} (h : Box w g t cs) : Box w.drew g t cs := h
theorem Box.drewN {w : World} {g : Nat} {t : TypeId} {cs : Array Value} (h : Box w g t cs) (n : Nat) : Box (w.drewN n) g t cs := h.ext ((Ext.refl w).drewN n)
theorem Box.cell {w : World} {g : Nat} {t : TypeId} {cs : Array Value} (h : Box w g t cs) (i : Nat) : w.cell? ⟨g, i, none⟩ = cs[i]? := Joins.cell_of_block h i
theorem Box.free {w : World} {g : Nat} {t : TypeId} {cs : Array Value} (h : Box w g t cs) (i : Nat) : w.frozen? ⟨g, i, none⟩ = false := Joins.unfrozen_of_block h i
theorem Box.set {w : World} {g : Nat} {t : TypeId} {cs : Array Value} (h : Box w g t cs) (i : Nat) (v : Value) : Box (w.setCell ⟨g, i, none⟩ v) g t (cs.setIfInBounds i v) := Joins.block_setCell h v
theorem Box.other {w : World} {g : Nat} {t : TypeId} {cs : Array Value} (h : Box w g t cs) {p : Addr} (hp : g ≠ p.block) (v : Value) : Box (w.setCell p v) g t cs := (Below.heap_setCell w p v g hp).trans h
/-- a store of three cells, read again -/
theorem Box.put30 {w : World} {g : Nat} {t : TypeId} {a b c : Value} (h : Box w g t #[a, b, c]) (u : Value) : (w.setCell ⟨g, 0, none⟩ u).cell? ⟨g, 0, none⟩ = some u := (h.set 0 u).cell 0
theorem Box.put31 {w : World} {g : Nat} {t : TypeId} {a b c : Value} (h : Box w g t #[a, b, c]) (u v : Value) : ((w.setCell ⟨g, 0, none⟩ u).setCell ⟨g, 1, none⟩ v).cell? ⟨g, 1, none⟩ = some v := ((h.set 0 u).set 1 v).cell 1
theorem Box.put32 {w : World} {g : Nat} {t : TypeId} {a b c : Value} (h : Box w g t #[a, b, c]) (u v x : Value) : (((w.setCell ⟨g, 0, none⟩ u).setCell ⟨g, 1, none⟩ v).setCell ⟨g, 2, none⟩ x).cell? ⟨g, 2, none⟩ = some x := (((h.set 0 u).set 1 v).set 2 x).cell 2
theorem Box.cell2 {w : World} {g : Nat} {t : TypeId} {a b : Value} (h : Box w g t #[a, b]) : w.cell? ⟨g, 0, none⟩ = some a ∧ w.cell? ⟨g, 1, none⟩ = some b := ⟨h.cell 0, h.cell 1⟩
theorem Box.cell3 {w : World} {g : Nat} {t : TypeId} {a b c : Value} (h : Box w g t #[a, b, c]) : w.cell? ⟨g, 0, none⟩ = some a ∧ w.cell? ⟨g, 1, none⟩ = some b ∧ w.cell? ⟨g, 2, none⟩ = some c := ⟨h.cell 0, h.cell 1, h.cell 2⟩
theorem Box.cell4 {w : World} {g : Nat} {t : TypeId} {a b c d : Value} (h : Box w g t #[a, b, c, d]) :
    w.cell? ⟨g, 0, none⟩ = some a ∧ w.cell? ⟨g, 1, none⟩ = some b ∧ w.cell? ⟨g, 2, none⟩ = some c ∧ w.cell? ⟨g, 3, none⟩ = some d := ⟨h.cell 0, h.cell 1, h.cell 2, h.cell 3⟩

/-! ### a region that draws its order, whose operations read and call: one walk, in every world that lies behind W -/
/-- a world that lies behind W: everything that was in W stands -/
structure Later (W : World) where
  w : World
  ext : Ext W w
instance (W : World) : Nonempty (Later W) := ⟨⟨W, Ext.refl W⟩⟩
theorem Later.of {P : Program} {f : FuncId} {args : Array Value} {W : World} (x : Later W) {v : Value} (h : Calls P f args x.w fun e w' => e = .returned v ∧ Ext x.w w') :
    Calls P f args x.w fun e w'' => e = .returned v ∧ ∃ y : Later W, w'' = y.w := h.mono fun _ w'' ⟨he, hx⟩ => ⟨he, ⟨w'', x.ext.trans hx⟩, rfl⟩
theorem Later.same {P : Program} {f : FuncId} {args : Array Value} {W : World} (x : Later W) {v : Value} (h : Calls P f args x.w fun e w' => e = .returned v ∧ x.w = w') :
    Calls P f args x.w fun e w'' => e = .returned v ∧ ∃ y : Later W, w'' = y.w := h.mono fun _ _ ⟨he, hx⟩ => ⟨he, x, hx.symm⟩
theorem Later.ofB {P : Program} {f : FuncId} {args : Array Value} {W : World} (x : Later W) {b c : Bool} (h : Calls P f args x.w fun e w' => e = .returned (.bool b) ∧ Ext x.w w') (hb : b = c) :
    Calls P f args x.w fun e w'' => e = .returned (.bool c) ∧ ∃ y : Later W, w'' = y.w := hb ▸ x.of h
theorem Later.sameB {P : Program} {f : FuncId} {args : Array Value} {W : World} (x : Later W) {b c : Bool} (h : Calls P f args x.w fun e w' => e = .returned (.bool b) ∧ x.w = w') (hb : b = c) :
    Calls P f args x.w fun e w'' => e = .returned (.bool c) ∧ ∃ y : Later W, w'' = y.w := hb ▸ x.same h
theorem Later.ofI {P : Program} {f : FuncId} {args : Array Value} {W : World} (x : Later W) {k : IntKind} {m n : Int} (h : Calls P f args x.w fun e w' => e = .returned (.int k m) ∧ Ext x.w w') (hb : m = n) :
    Calls P f args x.w fun e w'' => e = .returned (.int k n) ∧ ∃ y : Later W, w'' = y.w := hb ▸ x.of h
theorem Later.cells {W : World} {g : Nat} {t : TypeId} {cs : Array Value} (h : Box W g t cs) (i : Nat) (x : Later W) : x.w.cell? ⟨g, i, none⟩ = cs[i]? := (h.ext x.ext).cell i
theorem wp_region_later {P : Program} {id : Nat} {Q : Exit → Act → World → Prop} {a : Act} {w : World} {l : List Oper} (hm : P.follows .mixedOrders = true) (hB : Region.lexB .any l.toArray = true)
    (h : wpQuiet P l.toArray (fun w' => ∃ x : Later w, w' = x.w) (fun a' => ∀ w', (∃ x : Later w, w' = x.w) → Q .normal a' w') l a) : (Code.region id l.toArray true).wp P Q a w :=
  wp_region_quiet (C := fun w' => ∃ x : Later w, w' = x.w) hm hB ⟨⟨_, (Ext.refl w).drew⟩, rfl⟩ (by simpa using h)

theorem list2 {α : Type} {l : List α} (h : l.length = 2) : ∃ a b, l = [a, b] := by match l, h with | [a, b], _ => exact ⟨a, b, rfl⟩
theorem list3 {α : Type} {l : List α} (h : l.length = 3) : ∃ a b c, l = [a, b, c] := by match l, h with | [a, b, c], _ => exact ⟨a, b, c, rfl⟩
theorem list4 {α : Type} {l : List α} (h : l.length = 4) : ∃ a b c d, l = [a, b, c, d] := by match l, h with | [a, b, c, d], _ => exact ⟨a, b, c, d, rfl⟩

end Go.Proofs.Ytdaphamplgcccaa
