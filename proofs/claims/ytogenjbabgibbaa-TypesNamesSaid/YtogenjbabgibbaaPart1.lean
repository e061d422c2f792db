/- Part 1 of the walks and laws that these claims rest on. No condition. -/
import Derived.Test.YtogenjbabgibbaaRows
import Derived.WalkKit
import Derived.WalkSpells
import Derived.WalkLawsBesides
import Derived.Lib.Hide
import Derived.Deep.WholeRow
import Derived.ProofKit
import Derived.OpenShut
import Derived.ShutString
import Derived.ChangeOld
import Derived.Deep.Slices
import Derived.Maps.OwnSet
import Derived.Maps.Views
import Derived.Maps.OwnOps
import Derived.BigQuiet
import Derived.Deep.QuietTactic
import Derived.Deep.RegionHeld3
import Derived.Laws.IdiomCopy
import Derived.Laws.Cells
import Derived.Shelf.Abstract
set_option linter.all false
set_option linter.unusedSimpArgs false
set_option linter.unusedVariables false
set_option linter.unnecessarySimpa false
namespace Go.Proofs.Ytogenjbabgibbaa
open Go.RowKit

theorem ret_bool {a b : Bool} (h : a = b) : Ending.returned (.bool a) = Ending.returned (.bool b) := by rw [h]
theorem ret_int {k : IntKind} {a b : Int} (h : a = b) : Ending.returned (.int k a) = .returned (.int k b) := by rw [h]

instance decBytes : DecidableEq ByteArray := fun a b => decidable_of_iff (a.data = b.data) ⟨fun h => by cases a; cases b; simpa using h, fun h => by rw [h]⟩

instance lawBytes : LawfulBEq ByteArray where
  eq_of_beq h := (MapKept.bytes_beq _ _).1 h
  rfl := (MapKept.bytes_beq _ _).2 rfl

theorem bytes_ne {f g : ByteArray} (h : ¬ f = g) : (f.toList == g.toList) = false := by
  rw [beq_eq_false_iff_ne]
  intro e
  rw [ByteArray.toList_eq, ByteArray.toList_eq] at e
  apply h
  obtain ⟨⟨f⟩⟩ := f
  obtain ⟨⟨g⟩⟩ := g
  simpa using e

/-! Blocks known whole. -/
def Blk (w : World) (b : Nat) (c : Array Value) (t : TypeId) : Prop := w.heap[b]? = some (.cells c t (0, 0))
theorem Blk.cell {w : World} {b : Nat} {c : Array Value} {t : TypeId} (h : Blk w b c t) (i : Nat) : w.cell? ⟨b, i, none⟩ = c[i]? := cell_of_row w b i c t (0, 0) h
theorem Blk.frozen {w : World} {b : Nat} {c : Array Value} {t : TypeId} (h : Blk w b c t) (i : Nat) : w.frozen? ⟨b, i, none⟩ = false := frozen_of_row w b i c t h
theorem Blk.lt {w : World} {b : Nat} {c : Array Value} {t : TypeId} (h : Blk w b c t) : b < w.heap.size := (Array.getElem?_eq_some_iff.1 h).1
theorem Blk.new (w : World) (c : Array Value) (t : TypeId) : Blk (w.alloc (.cells c t)) w.heap.size c t := heap_alloc_new w _
theorem Blk.alloc {w : World} {b : Nat} {c : Array Value} {t : TypeId} (h : Blk w b c t) (o : Obj) : Blk (w.alloc o) b c t := (Below.heap_alloc w o b h.lt).trans h
theorem Blk.set {w : World} {b : Nat} {c : Array Value} {t : TypeId} (h : Blk w b c t) (i : Nat) (v : Value) : Blk (w.setCell ⟨b, i, none⟩ v) b (c.setIfInBounds i v) t := heap_setCell_same w b i c t v h
theorem Blk.keep {w : World} {b : Nat} {c : Array Value} {t : TypeId} (h : Blk w b c t) {a : Addr} (hne : b ≠ a.block) (v : Value) : Blk (w.setCell a v) b c t := (heap_setCell_other w a b v hne).trans h
theorem Blk.below {w w' : World} {b : Nat} {c : Array Value} {t : TypeId} (h : Blk w b c t) {B : Nat} (hb : Below B w w') (hlt : b < B) : Blk w' b c t := (hb.block b hlt).trans h
theorem Blk.drew {w : World} {b : Nat} {c : Array Value} {t : TypeId} (h : Blk w b c t) : Blk w.drew b c t := h
theorem Blk.grown {W W' : World} {row : Option Nat} {b : Nat} {c : Array Value} {t : TypeId} (h : Blk W b c t) (hg : W.grownBy W' row) (hne : some b ≠ row) : Blk W' b c t := (hg.block b h.lt hne).trans h

/-! What cells read as: a list of cells against a datum; it may lead to memory, and lives on in later worlds. -/
abbrev Rep (α : Type) := World → List Value → α → Prop
def Stab {α : Type} (R : Rep α) : Prop := ∀ (w w' : World) (cs : List Value) (x : α), R w cs x → Below w.heap.size w w' → R w' cs x
/-- what a slice's array reads as: element i, n cells each -/
def Sl {α : Type} (n : Nat) (R : Rep α) (w : World) (a : Option Addr) (l : List α) : Prop :=
  ∀ i (h : i < l.length), ∃ b off, a = some ⟨b, off, none⟩ ∧ b < w.heap.size ∧ ∃ es, R w es l[i] ∧ ∀ j, j < n → w.cell? ⟨b, off + i * n + j, none⟩ = es[j]?
theorem Sl.below {α : Type} {n : Nat} {R : Rep α} (hR : Stab R) {w w' : World} {a : Option Addr} {l : List α} (h : Sl n R w a l) (hb : Below w.heap.size w w') : Sl n R w' a l := fun i hi => by
  obtain ⟨b, off, h1, h2, es, h3, h4⟩ := h i hi
  exact ⟨b, off, h1, Nat.lt_of_lt_of_le h2 hb.size, es, hR w w' es _ h3 hb, fun j hj => (hb.cell (p := ⟨b, _, none⟩) h2).trans (h4 j hj)⟩
theorem Sl.nil {α : Type} {n : Nat} {R : Rep α} {w : World} {a : Option Addr} : Sl n R w a ([] : List α) := fun i hi => by simp at hi
/-- two elements of one slice lie in one block -/
theorem Sl.one {α : Type} {n : Nat} {R : Rep α} {w : World} {b off : Nat} {l : List α} (h : Sl n R w (some ⟨b, off, none⟩) l) (i : Nat) (hi : i < l.length) :
    b < w.heap.size ∧ ∃ es, R w es l[i] ∧ ∀ j, j < n → w.cell? ⟨b, off + i * n + j, none⟩ = es[j]? := by
  obtain ⟨b', off', h1, h2, h3⟩ := h i hi
  simp only [Option.some.injEq, Addr.mk.injEq, and_true] at h1
  obtain ⟨rfl, rfl⟩ := h1
  exact ⟨h2, h3⟩
/-- a slice that begins at element k -/
theorem add_none (b o j : Nat) : (⟨b, o, none⟩ : Addr).add j = ⟨b, o + j, none⟩ := by unfold Addr.add; split <;> simp_all
/-- the slice's own cell -/
def RSl {α : Type} (n : Nat) (R : Rep α) : Rep (List α) := fun w cs l => ∃ a cap, cs = [.slice a l.length cap] ∧ Sl n R w a l
theorem RSl.stab {α : Type} {n : Nat} {R : Rep α} (hR : Stab R) : Stab (RSl n R) := fun _ _ _ _ ⟨a, cap, h1, h2⟩ hb => ⟨a, cap, h1, h2.below hR hb⟩
def RInt : Rep Int := fun _ cs n => cs = [.int .i64 n] ∧ (Lit.int .i64 n).wf = true
def RStr : Rep ByteArray := fun _ cs s => cs = [.string s] ∧ s.size ≤ maxLen
def RBool : Rep Bool := fun _ cs b => cs = [.bool b]
theorem RInt.stab : Stab RInt := fun _ _ _ _ h _ => h
theorem RStr.stab : Stab RStr := fun _ _ _ _ h _ => h
theorem RBool.stab : Stab RBool := fun _ _ _ _ h _ => h

/-! From the form's reading to ours. -/
/-- every reading of type t by the form gives one of ours -/
def Opens {α : Type} (P : Program) (t : TypeId) (R : Rep α) : Prop :=
  ∀ {H : Type} (enc : TypeId × Value → H) (w : World) (spare : Nat → Bool) (held : Bool) (fuel : Nat) (cs : List Value) (x : DataW H × List MemPlace),
    DataW.trod enc P w 0 spare held fuel t cs = some x → ∃ y, R w cs y
theorem opens_int {P : Program} {t : TypeId} (ht : P.underlying t = some (.int .i64)) : Opens P t RInt := fun enc w spare held fuel cs x h => by
  obtain ⟨z, h1, _, h2⟩ := DataW.trod_int ht h
  exact ⟨z, h1, h2⟩
theorem opens_str {P : Program} {t : TypeId} (ht : P.underlying t = some .string) : Opens P t RStr := fun enc w spare held fuel cs x h => by
  obtain ⟨s, h1, h2, h3⟩ := DataW.trod_string ht h
  exact ⟨s, h1, by first | exact h3 | exact h2⟩
theorem opens_slice {α : Type} {P : Program} {t e : TypeId} {n : Nat} {R : Rep α} (ht : P.underlying t = some (.slice e)) (hn : P.cellsOf e = n) (hpos : 0 < n) (hR : Opens P e R) : Opens P t (RSl n R) := fun enc w spare held fuel cs x h => by
  rcases Go.Deep.open_slice ht h with ⟨rfl, _⟩ | ⟨a, len, cap, m, k, D, Pl, rfl, _, hl, hm, hmm, _, hx⟩
  · exact ⟨[], none, 0, rfl, Sl.nil⟩
  · have hlm : len ≤ m := by rw [hmm]; split <;> omega
    have e0 : ∀ i, i < m → ∃ z : α, ∃ es, R w es z ∧ w.cells? 0 (a.add (i * n)) n = some es := fun i hi => by
      obtain ⟨es, h2, h3⟩ := hx i hi
      rw [hn] at h2
      obtain ⟨z, hz⟩ := hR enc w spare held k es _ h3
      exact ⟨z, es, hz, h2⟩
    by_cases h0 : len = 0
    · subst h0
      exact ⟨[], some a, cap, rfl, Sl.nil⟩
    · obtain ⟨z0, _⟩ := e0 0 (by omega)
      have : Inhabited α := ⟨z0⟩
      obtain ⟨z, hz⟩ := Go.Deep.choose_lt e0
      refine ⟨(List.range len).map z, some a, cap, by simp, fun i hi => ?_⟩
      have hi' : i < len := by simpa using hi
      obtain ⟨b, off, spot⟩ := a
      obtain ⟨es0, _, hc0⟩ := hz 0 (by omega)
      obtain ⟨_, hlen0, hcell0⟩ := World.cells?_some hc0
      have hspot : spot = none := by
        have this := hcell0 0 hpos
        rw [List.getElem?_eq_getElem (by omega)] at this
        have h9 := World.cell?_spot this
        simpa [Addr.add] using h9
      subst hspot
      obtain ⟨es, hr, hc⟩ := hz i (by omega)
      obtain ⟨_, hlen, hcell⟩ := World.cells?_some hc
      have hc1 := hcell 0 hpos
      rw [add_none, add_none, List.getElem?_eq_getElem (by omega)] at hc1
      refine ⟨b, off, rfl, World.block_lt_of_cell? w ⟨b, _, none⟩ hc1, es, by simpa using hr, fun j hj => ?_⟩
      have := hcell j hj
      rw [add_none, add_none] at this
      rw [this]

/-! A property of all elements, as a loop finds it. -/
def PreP {α : Type} (p : α → Bool) (L : List α) (k : Nat) : Prop := ∀ i (h : i < L.length), i < k → p L[i] = true
theorem PreP.zero {α : Type} {p : α → Bool} {L : List α} : PreP p L 0 := fun i _ hk => absurd hk (Nat.not_lt_zero i)
theorem PreP.succ {α : Type} {p : α → Bool} {L : List α} {k : Nat} (h : PreP p L k) (hk : k < L.length) (h' : p L[k] = true) : PreP p L (k + 1) := by
  intro i hi hik
  by_cases e : i = k
  · subst e; exact h'
  · exact h i hi (by omega)
theorem PreP.all {α : Type} {p : α → Bool} {L : List α} {k : Nat} (h : PreP p L k) (hk : L.length ≤ k) : L.all p = true := by
  rw [List.all_eq_true]
  intro s hs
  obtain ⟨i, hi, rfl⟩ := List.getElem_of_mem hs
  exact h i hi (by omega)
theorem not_all {α : Type} {p : α → Bool} {L : List α} {k : Nat} (hk : k < L.length) (h' : p L[k] = false) : L.all p = false := by
  rw [List.all_eq_false]
  exact ⟨L[k], List.getElem_mem hk, by simp [h']⟩
theorem take_succ' {α : Type} {L : List α} {k : Nat} (h : k < L.length) : L.take (k + 1) = L.take k ++ [L[k]] := by
  rw [List.take_add_one, List.getElem?_eq_getElem h]; rfl
theorem take_nodup_succ {α : Type} [DecidableEq α] {L : List α} {k : Nat} (hk : k < L.length) (h : (L.take k).Nodup) (hn : L[k] ∉ L.take k) : (L.take (k + 1)).Nodup := by
  rw [take_succ' hk, List.nodup_append]
  exact ⟨h, by simp, fun a ha b hb => by simp at hb; subst hb; intro e; exact hn (e ▸ ha)⟩
theorem not_nodup_take {α : Type} {L : List α} {k : Nat} (hk : k < L.length) (hn : L[k] ∈ L.take k) : ¬ L.Nodup := by
  intro h
  obtain ⟨i, hi, he⟩ := List.getElem_of_mem hn
  simp at hi he
  have := (List.getElem_inj h (i := i) (j := k) (h₀ := by omega) (h₁ := hk)).1 he
  omega
end Go.Proofs.Ytogenjbabgibbaa
namespace Go.Proofs.Ytogenjbabgibbaa
open Go.RowKit

/-- a slice that nobody looks into: its length alone -/
def RRaw : Rep Nat := fun _ cs n => ∃ a cap, cs = [.slice a n cap]
theorem RRaw.stab : Stab RRaw := fun _ _ _ _ h _ => h
theorem opens_raw {P : Program} {t e : TypeId} (ht : P.underlying t = some (.slice e)) : Opens P t RRaw := fun enc w spare held fuel cs x h => by
  rcases Go.Deep.open_slice ht h with ⟨rfl, _⟩ | ⟨a, len, cap, m, k, D, Pl, rfl, _⟩
  · exact ⟨0, none, 0, rfl⟩
  · exact ⟨len, some a, cap, rfl⟩

structure UnitD where
  name : ByteArray
  of_ : ByteArray
  factor : Int
  base : Int
  scale : Int
def RUnitD : Rep UnitD := fun w cs x => ∃ c0 c1 c2 c3 c4 : List Value, cs = c0 ++ c1 ++ c2 ++ c3 ++ c4 ∧ RStr w c0 x.name ∧ RStr w c1 x.of_ ∧ RInt w c2 x.factor ∧ RInt w c3 x.base ∧ RInt w c4 x.scale
theorem RUnitD.stab : Stab RUnitD := fun w w' _ _ ⟨c0, c1, c2, c3, c4, h, h0, h1, h2, h3, h4⟩ hb => ⟨c0, c1, c2, c3, c4, h, (RStr.stab) w w' _ _ h0 hb, (RStr.stab) w w' _ _ h1 hb, (RInt.stab) w w' _ _ h2 hb, (RInt.stab) w w' _ _ h3 hb, (RInt.stab) w w' _ _ h4 hb⟩
def UnitD.wf (x : UnitD) : Prop := x.name.size ≤ maxLen ∧ x.of_.size ≤ maxLen ∧ (Lit.int .i64 x.factor).wf = true ∧ (Lit.int .i64 x.base).wf = true ∧ (Lit.int .i64 x.scale).wf = true
theorem RUnitD.flat {w : World} {cs : List Value} {x : UnitD} (h : RUnitD w cs x) : cs = [.string x.name, .string x.of_, .int .i64 x.factor, .int .i64 x.base, .int .i64 x.scale] ∧ x.wf := by
  obtain ⟨c0, c1, c2, c3, c4, rfl, h0, h1, h2, h3, h4⟩ := h
  obtain ⟨rfl, w0⟩ := h0
  obtain ⟨rfl, w1⟩ := h1
  obtain ⟨rfl, w2⟩ := h2
  obtain ⟨rfl, w3⟩ := h3
  obtain ⟨rfl, w4⟩ := h4
  refine ⟨by simp, by simp only [UnitD.wf] at *; grind⟩
theorem UnitD.out {w : World} {a : Option Addr} {l : List UnitD} (H : Sl 5 RUnitD w a l) (i : Nat) (hi : i < l.length) : ∃ (b off : Nat), a = some ⟨b, off, none⟩ ∧ b < w.heap.size ∧ l[i].wf ∧ w.cell? ⟨b, off + i * 5, none⟩ = some (.string l[i].name) ∧ w.cell? ⟨b, off + i * 5 + 1, none⟩ = some (.string l[i].of_) ∧ w.cell? ⟨b, off + i * 5 + 2, none⟩ = some (.int .i64 l[i].factor) ∧ w.cell? ⟨b, off + i * 5 + 3, none⟩ = some (.int .i64 l[i].base) ∧ w.cell? ⟨b, off + i * 5 + 4, none⟩ = some (.int .i64 l[i].scale) := by
  obtain ⟨b, off, h1, h2, es, h3, h4⟩ := H i hi
  obtain ⟨rfl, hw⟩ := h3.flat
  exact ⟨b, off, h1, h2, hw, h4 0 (by decide), h4 1 (by decide), h4 2 (by decide), h4 3 (by decide), h4 4 (by decide)⟩

structure TyD where
  kind : Int
  lo : Int
  hi : Int
  of_ : ByteArray
  unit : Int
  names : List ByteArray
def RTyD : Rep TyD := fun w cs x => ∃ c0 c1 c2 c3 c4 c5 : List Value, cs = c0 ++ c1 ++ c2 ++ c3 ++ c4 ++ c5 ∧ RInt w c0 x.kind ∧ RInt w c1 x.lo ∧ RInt w c2 x.hi ∧ RStr w c3 x.of_ ∧ RInt w c4 x.unit ∧ (RSl 1 RStr) w c5 x.names
theorem RTyD.stab : Stab RTyD := fun w w' _ _ ⟨c0, c1, c2, c3, c4, c5, h, h0, h1, h2, h3, h4, h5⟩ hb => ⟨c0, c1, c2, c3, c4, c5, h, (RInt.stab) w w' _ _ h0 hb, (RInt.stab) w w' _ _ h1 hb, (RInt.stab) w w' _ _ h2 hb, (RStr.stab) w w' _ _ h3 hb, (RInt.stab) w w' _ _ h4 hb, (RSl.stab RStr.stab) w w' _ _ h5 hb⟩
def TyD.wf (x : TyD) : Prop := (Lit.int .i64 x.kind).wf = true ∧ (Lit.int .i64 x.lo).wf = true ∧ (Lit.int .i64 x.hi).wf = true ∧ x.of_.size ≤ maxLen ∧ (Lit.int .i64 x.unit).wf = true
theorem RTyD.flat {w : World} {cs : List Value} {x : TyD} (h : RTyD w cs x) : ∃ (a0 : Option Addr) (k0 : Nat), cs = [.int .i64 x.kind, .int .i64 x.lo, .int .i64 x.hi, .string x.of_, .int .i64 x.unit, .slice a0 x.names.length k0] ∧ Sl 1 RStr w a0 x.names ∧ x.wf := by
  obtain ⟨c0, c1, c2, c3, c4, c5, rfl, h0, h1, h2, h3, h4, h5⟩ := h
  obtain ⟨rfl, w0⟩ := h0
  obtain ⟨rfl, w1⟩ := h1
  obtain ⟨rfl, w2⟩ := h2
  obtain ⟨rfl, w3⟩ := h3
  obtain ⟨rfl, w4⟩ := h4
  obtain ⟨p5, q5, rfl, s5⟩ := h5
  refine ⟨p5, q5, by simp, s5, by simp only [TyD.wf] at *; grind⟩
theorem TyD.out {w : World} {a : Option Addr} {l : List TyD} (H : Sl 6 RTyD w a l) (i : Nat) (hi : i < l.length) : ∃ (b off : Nat), a = some ⟨b, off, none⟩ ∧ b < w.heap.size ∧ l[i].wf ∧ ∃ (a0 : Option Addr) (k0 : Nat), w.cell? ⟨b, off + i * 6, none⟩ = some (.int .i64 l[i].kind) ∧ w.cell? ⟨b, off + i * 6 + 1, none⟩ = some (.int .i64 l[i].lo) ∧ w.cell? ⟨b, off + i * 6 + 2, none⟩ = some (.int .i64 l[i].hi) ∧ w.cell? ⟨b, off + i * 6 + 3, none⟩ = some (.string l[i].of_) ∧ w.cell? ⟨b, off + i * 6 + 4, none⟩ = some (.int .i64 l[i].unit) ∧ w.cell? ⟨b, off + i * 6 + 5, none⟩ = some (.slice a0 l[i].names.length k0) ∧ Sl 1 RStr w a0 l[i].names := by
  obtain ⟨b, off, h1, h2, es, h3, h4⟩ := H i hi
  obtain ⟨a0, k0, rfl, s0, hw⟩ := h3.flat
  exact ⟨b, off, h1, h2, hw, a0, k0, h4 0 (by decide), h4 1 (by decide), h4 2 (by decide), h4 3 (by decide), h4 4 (by decide), h4 5 (by decide), s0⟩

structure FieldD where
  name : ByteArray
  ty : TyD
  w0 : Int
  w1 : Int
  w2 : Int
  w3 : Int
def RFieldD : Rep FieldD := fun w cs x => ∃ c0 c1 c2 c3 c4 c5 : List Value, cs = c0 ++ c1 ++ c2 ++ c3 ++ c4 ++ c5 ∧ RStr w c0 x.name ∧ RTyD w c1 x.ty ∧ RInt w c2 x.w0 ∧ RInt w c3 x.w1 ∧ RInt w c4 x.w2 ∧ RInt w c5 x.w3
theorem RFieldD.stab : Stab RFieldD := fun w w' _ _ ⟨c0, c1, c2, c3, c4, c5, h, h0, h1, h2, h3, h4, h5⟩ hb => ⟨c0, c1, c2, c3, c4, c5, h, (RStr.stab) w w' _ _ h0 hb, (RTyD.stab) w w' _ _ h1 hb, (RInt.stab) w w' _ _ h2 hb, (RInt.stab) w w' _ _ h3 hb, (RInt.stab) w w' _ _ h4 hb, (RInt.stab) w w' _ _ h5 hb⟩
def FieldD.wf (x : FieldD) : Prop := x.name.size ≤ maxLen ∧ (Lit.int .i64 x.ty.kind).wf = true ∧ (Lit.int .i64 x.ty.lo).wf = true ∧ (Lit.int .i64 x.ty.hi).wf = true ∧ x.ty.of_.size ≤ maxLen ∧ (Lit.int .i64 x.ty.unit).wf = true ∧ (Lit.int .i64 x.w0).wf = true ∧ (Lit.int .i64 x.w1).wf = true ∧ (Lit.int .i64 x.w2).wf = true ∧ (Lit.int .i64 x.w3).wf = true
theorem RFieldD.flat {w : World} {cs : List Value} {x : FieldD} (h : RFieldD w cs x) : ∃ (a0 : Option Addr) (k0 : Nat), cs = [.string x.name, .int .i64 x.ty.kind, .int .i64 x.ty.lo, .int .i64 x.ty.hi, .string x.ty.of_, .int .i64 x.ty.unit, .slice a0 x.ty.names.length k0, .int .i64 x.w0, .int .i64 x.w1, .int .i64 x.w2, .int .i64 x.w3] ∧ Sl 1 RStr w a0 x.ty.names ∧ x.wf := by
  obtain ⟨c0, c1, c2, c3, c4, c5, rfl, h0, h1, h2, h3, h4, h5⟩ := h
  obtain ⟨rfl, w0⟩ := h0
  obtain ⟨p1_0, q1_0, rfl, s1_0, w1⟩ := h1.flat
  obtain ⟨rfl, w2⟩ := h2
  obtain ⟨rfl, w3⟩ := h3
  obtain ⟨rfl, w4⟩ := h4
  obtain ⟨rfl, w5⟩ := h5
  refine ⟨p1_0, q1_0, by simp, s1_0, by simp only [FieldD.wf, TyD.wf] at *; grind⟩
theorem FieldD.out {w : World} {a : Option Addr} {l : List FieldD} (H : Sl 11 RFieldD w a l) (i : Nat) (hi : i < l.length) : ∃ (b off : Nat), a = some ⟨b, off, none⟩ ∧ b < w.heap.size ∧ l[i].wf ∧ ∃ (a0 : Option Addr) (k0 : Nat), w.cell? ⟨b, off + i * 11, none⟩ = some (.string l[i].name) ∧ w.cell? ⟨b, off + i * 11 + 1, none⟩ = some (.int .i64 l[i].ty.kind) ∧ w.cell? ⟨b, off + i * 11 + 2, none⟩ = some (.int .i64 l[i].ty.lo) ∧ w.cell? ⟨b, off + i * 11 + 3, none⟩ = some (.int .i64 l[i].ty.hi) ∧ w.cell? ⟨b, off + i * 11 + 4, none⟩ = some (.string l[i].ty.of_) ∧ w.cell? ⟨b, off + i * 11 + 5, none⟩ = some (.int .i64 l[i].ty.unit) ∧ w.cell? ⟨b, off + i * 11 + 6, none⟩ = some (.slice a0 l[i].ty.names.length k0) ∧ w.cell? ⟨b, off + i * 11 + 7, none⟩ = some (.int .i64 l[i].w0) ∧ w.cell? ⟨b, off + i * 11 + 8, none⟩ = some (.int .i64 l[i].w1) ∧ w.cell? ⟨b, off + i * 11 + 9, none⟩ = some (.int .i64 l[i].w2) ∧ w.cell? ⟨b, off + i * 11 + 10, none⟩ = some (.int .i64 l[i].w3) ∧ Sl 1 RStr w a0 l[i].ty.names := by
  obtain ⟨b, off, h1, h2, es, h3, h4⟩ := H i hi
  obtain ⟨a0, k0, rfl, s0, hw⟩ := h3.flat
  exact ⟨b, off, h1, h2, hw, a0, k0, h4 0 (by decide), h4 1 (by decide), h4 2 (by decide), h4 3 (by decide), h4 4 (by decide), h4 5 (by decide), h4 6 (by decide), h4 7 (by decide), h4 8 (by decide), h4 9 (by decide), h4 10 (by decide), s0⟩

structure SchemaD where
  name : ByteArray
  by_ : ByteArray
  issuer : Int
  version : Int
  fields : List FieldD
  depends : Nat
def RSchemaD : Rep SchemaD := fun w cs x => ∃ c0 c1 c2 c3 c4 c5 : List Value, cs = c0 ++ c1 ++ c2 ++ c3 ++ c4 ++ c5 ∧ RStr w c0 x.name ∧ RStr w c1 x.by_ ∧ RInt w c2 x.issuer ∧ RInt w c3 x.version ∧ (RSl 11 RFieldD) w c4 x.fields ∧ RRaw w c5 x.depends
theorem RSchemaD.stab : Stab RSchemaD := fun w w' _ _ ⟨c0, c1, c2, c3, c4, c5, h, h0, h1, h2, h3, h4, h5⟩ hb => ⟨c0, c1, c2, c3, c4, c5, h, (RStr.stab) w w' _ _ h0 hb, (RStr.stab) w w' _ _ h1 hb, (RInt.stab) w w' _ _ h2 hb, (RInt.stab) w w' _ _ h3 hb, (RSl.stab RFieldD.stab) w w' _ _ h4 hb, (RRaw.stab) w w' _ _ h5 hb⟩
def SchemaD.wf (x : SchemaD) : Prop := x.name.size ≤ maxLen ∧ x.by_.size ≤ maxLen ∧ (Lit.int .i64 x.issuer).wf = true ∧ (Lit.int .i64 x.version).wf = true
theorem RSchemaD.flat {w : World} {cs : List Value} {x : SchemaD} (h : RSchemaD w cs x) : ∃ (a0 : Option Addr) (k0 : Nat) (a1 : Option Addr) (k1 : Nat), cs = [.string x.name, .string x.by_, .int .i64 x.issuer, .int .i64 x.version, .slice a0 x.fields.length k0, .slice a1 x.depends k1] ∧ Sl 11 RFieldD w a0 x.fields ∧ x.wf := by
  obtain ⟨c0, c1, c2, c3, c4, c5, rfl, h0, h1, h2, h3, h4, h5⟩ := h
  obtain ⟨rfl, w0⟩ := h0
  obtain ⟨rfl, w1⟩ := h1
  obtain ⟨rfl, w2⟩ := h2
  obtain ⟨rfl, w3⟩ := h3
  obtain ⟨p4, q4, rfl, s4⟩ := h4
  obtain ⟨p5, q5, rfl⟩ := h5
  refine ⟨p4, q4, p5, q5, by simp, s4, by simp only [SchemaD.wf] at *; grind⟩
theorem SchemaD.out {w : World} {a : Option Addr} {l : List SchemaD} (H : Sl 6 RSchemaD w a l) (i : Nat) (hi : i < l.length) : ∃ (b off : Nat), a = some ⟨b, off, none⟩ ∧ b < w.heap.size ∧ l[i].wf ∧ ∃ (a0 : Option Addr) (k0 : Nat) (a1 : Option Addr) (k1 : Nat), w.cell? ⟨b, off + i * 6, none⟩ = some (.string l[i].name) ∧ w.cell? ⟨b, off + i * 6 + 1, none⟩ = some (.string l[i].by_) ∧ w.cell? ⟨b, off + i * 6 + 2, none⟩ = some (.int .i64 l[i].issuer) ∧ w.cell? ⟨b, off + i * 6 + 3, none⟩ = some (.int .i64 l[i].version) ∧ w.cell? ⟨b, off + i * 6 + 4, none⟩ = some (.slice a0 l[i].fields.length k0) ∧ w.cell? ⟨b, off + i * 6 + 5, none⟩ = some (.slice a1 l[i].depends k1) ∧ Sl 11 RFieldD w a0 l[i].fields := by
  obtain ⟨b, off, h1, h2, es, h3, h4⟩ := H i hi
  obtain ⟨a0, k0, a1, k1, rfl, s0, hw⟩ := h3.flat
  exact ⟨b, off, h1, h2, hw, a0, k0, a1, k1, h4 0 (by decide), h4 1 (by decide), h4 2 (by decide), h4 3 (by decide), h4 4 (by decide), h4 5 (by decide), s0⟩

structure TermD where
  name : ByteArray
  path : ByteArray
  var : Int
  field : Int
  n : Int
def RTermD : Rep TermD := fun w cs x => ∃ c0 c1 c2 c3 c4 : List Value, cs = c0 ++ c1 ++ c2 ++ c3 ++ c4 ∧ RStr w c0 x.name ∧ RStr w c1 x.path ∧ RInt w c2 x.var ∧ RInt w c3 x.field ∧ RInt w c4 x.n
theorem RTermD.stab : Stab RTermD := fun w w' _ _ ⟨c0, c1, c2, c3, c4, h, h0, h1, h2, h3, h4⟩ hb => ⟨c0, c1, c2, c3, c4, h, (RStr.stab) w w' _ _ h0 hb, (RStr.stab) w w' _ _ h1 hb, (RInt.stab) w w' _ _ h2 hb, (RInt.stab) w w' _ _ h3 hb, (RInt.stab) w w' _ _ h4 hb⟩
def TermD.wf (x : TermD) : Prop := x.name.size ≤ maxLen ∧ x.path.size ≤ maxLen ∧ (Lit.int .i64 x.var).wf = true ∧ (Lit.int .i64 x.field).wf = true ∧ (Lit.int .i64 x.n).wf = true
theorem RTermD.flat {w : World} {cs : List Value} {x : TermD} (h : RTermD w cs x) : cs = [.string x.name, .string x.path, .int .i64 x.var, .int .i64 x.field, .int .i64 x.n] ∧ x.wf := by
  obtain ⟨c0, c1, c2, c3, c4, rfl, h0, h1, h2, h3, h4⟩ := h
  obtain ⟨rfl, w0⟩ := h0
  obtain ⟨rfl, w1⟩ := h1
  obtain ⟨rfl, w2⟩ := h2
  obtain ⟨rfl, w3⟩ := h3
  obtain ⟨rfl, w4⟩ := h4
  refine ⟨by simp, by simp only [TermD.wf] at *; grind⟩
theorem TermD.out {w : World} {a : Option Addr} {l : List TermD} (H : Sl 5 RTermD w a l) (i : Nat) (hi : i < l.length) : ∃ (b off : Nat), a = some ⟨b, off, none⟩ ∧ b < w.heap.size ∧ l[i].wf ∧ w.cell? ⟨b, off + i * 5, none⟩ = some (.string l[i].name) ∧ w.cell? ⟨b, off + i * 5 + 1, none⟩ = some (.string l[i].path) ∧ w.cell? ⟨b, off + i * 5 + 2, none⟩ = some (.int .i64 l[i].var) ∧ w.cell? ⟨b, off + i * 5 + 3, none⟩ = some (.int .i64 l[i].field) ∧ w.cell? ⟨b, off + i * 5 + 4, none⟩ = some (.int .i64 l[i].n) := by
  obtain ⟨b, off, h1, h2, es, h3, h4⟩ := H i hi
  obtain ⟨rfl, hw⟩ := h3.flat
  exact ⟨b, off, h1, h2, hw, h4 0 (by decide), h4 1 (by decide), h4 2 (by decide), h4 3 (by decide), h4 4 (by decide)⟩

structure FromD where
  name : ByteArray
  kind : ByteArray
  schema : Int
  of_ : TermD
def RFromD : Rep FromD := fun w cs x => ∃ c0 c1 c2 c3 : List Value, cs = c0 ++ c1 ++ c2 ++ c3 ∧ RStr w c0 x.name ∧ RStr w c1 x.kind ∧ RInt w c2 x.schema ∧ RTermD w c3 x.of_
theorem RFromD.stab : Stab RFromD := fun w w' _ _ ⟨c0, c1, c2, c3, h, h0, h1, h2, h3⟩ hb => ⟨c0, c1, c2, c3, h, (RStr.stab) w w' _ _ h0 hb, (RStr.stab) w w' _ _ h1 hb, (RInt.stab) w w' _ _ h2 hb, (RTermD.stab) w w' _ _ h3 hb⟩
def FromD.wf (x : FromD) : Prop := x.name.size ≤ maxLen ∧ x.kind.size ≤ maxLen ∧ (Lit.int .i64 x.schema).wf = true ∧ x.of_.name.size ≤ maxLen ∧ x.of_.path.size ≤ maxLen ∧ (Lit.int .i64 x.of_.var).wf = true ∧ (Lit.int .i64 x.of_.field).wf = true ∧ (Lit.int .i64 x.of_.n).wf = true
theorem RFromD.flat {w : World} {cs : List Value} {x : FromD} (h : RFromD w cs x) : cs = [.string x.name, .string x.kind, .int .i64 x.schema, .string x.of_.name, .string x.of_.path, .int .i64 x.of_.var, .int .i64 x.of_.field, .int .i64 x.of_.n] ∧ x.wf := by
  obtain ⟨c0, c1, c2, c3, rfl, h0, h1, h2, h3⟩ := h
  obtain ⟨rfl, w0⟩ := h0
  obtain ⟨rfl, w1⟩ := h1
  obtain ⟨rfl, w2⟩ := h2
  obtain ⟨rfl, w3⟩ := h3.flat
  refine ⟨by simp, by simp only [FromD.wf, TermD.wf] at *; grind⟩
theorem FromD.out {w : World} {a : Option Addr} {l : List FromD} (H : Sl 8 RFromD w a l) (i : Nat) (hi : i < l.length) : ∃ (b off : Nat), a = some ⟨b, off, none⟩ ∧ b < w.heap.size ∧ l[i].wf ∧ w.cell? ⟨b, off + i * 8, none⟩ = some (.string l[i].name) ∧ w.cell? ⟨b, off + i * 8 + 1, none⟩ = some (.string l[i].kind) ∧ w.cell? ⟨b, off + i * 8 + 2, none⟩ = some (.int .i64 l[i].schema) ∧ w.cell? ⟨b, off + i * 8 + 3, none⟩ = some (.string l[i].of_.name) ∧ w.cell? ⟨b, off + i * 8 + 4, none⟩ = some (.string l[i].of_.path) ∧ w.cell? ⟨b, off + i * 8 + 5, none⟩ = some (.int .i64 l[i].of_.var) ∧ w.cell? ⟨b, off + i * 8 + 6, none⟩ = some (.int .i64 l[i].of_.field) ∧ w.cell? ⟨b, off + i * 8 + 7, none⟩ = some (.int .i64 l[i].of_.n) := by
  obtain ⟨b, off, h1, h2, es, h3, h4⟩ := H i hi
  obtain ⟨rfl, hw⟩ := h3.flat
  exact ⟨b, off, h1, h2, hw, h4 0 (by decide), h4 1 (by decide), h4 2 (by decide), h4 3 (by decide), h4 4 (by decide), h4 5 (by decide), h4 6 (by decide), h4 7 (by decide)⟩

structure AtomD where
  op : Int
  a : TermD
  b : TermD
def RAtomD : Rep AtomD := fun w cs x => ∃ c0 c1 c2 : List Value, cs = c0 ++ c1 ++ c2 ∧ RInt w c0 x.op ∧ RTermD w c1 x.a ∧ RTermD w c2 x.b
theorem RAtomD.stab : Stab RAtomD := fun w w' _ _ ⟨c0, c1, c2, h, h0, h1, h2⟩ hb => ⟨c0, c1, c2, h, (RInt.stab) w w' _ _ h0 hb, (RTermD.stab) w w' _ _ h1 hb, (RTermD.stab) w w' _ _ h2 hb⟩
def AtomD.wf (x : AtomD) : Prop := (Lit.int .i64 x.op).wf = true ∧ x.a.name.size ≤ maxLen ∧ x.a.path.size ≤ maxLen ∧ (Lit.int .i64 x.a.var).wf = true ∧ (Lit.int .i64 x.a.field).wf = true ∧ (Lit.int .i64 x.a.n).wf = true ∧ x.b.name.size ≤ maxLen ∧ x.b.path.size ≤ maxLen ∧ (Lit.int .i64 x.b.var).wf = true ∧ (Lit.int .i64 x.b.field).wf = true ∧ (Lit.int .i64 x.b.n).wf = true
theorem RAtomD.flat {w : World} {cs : List Value} {x : AtomD} (h : RAtomD w cs x) : cs = [.int .i64 x.op, .string x.a.name, .string x.a.path, .int .i64 x.a.var, .int .i64 x.a.field, .int .i64 x.a.n, .string x.b.name, .string x.b.path, .int .i64 x.b.var, .int .i64 x.b.field, .int .i64 x.b.n] ∧ x.wf := by
  obtain ⟨c0, c1, c2, rfl, h0, h1, h2⟩ := h
  obtain ⟨rfl, w0⟩ := h0
  obtain ⟨rfl, w1⟩ := h1.flat
  obtain ⟨rfl, w2⟩ := h2.flat
  refine ⟨by simp, by simp only [AtomD.wf, TermD.wf, TermD.wf] at *; grind⟩
theorem AtomD.out {w : World} {a : Option Addr} {l : List AtomD} (H : Sl 11 RAtomD w a l) (i : Nat) (hi : i < l.length) : ∃ (b off : Nat), a = some ⟨b, off, none⟩ ∧ b < w.heap.size ∧ l[i].wf ∧ w.cell? ⟨b, off + i * 11, none⟩ = some (.int .i64 l[i].op) ∧ w.cell? ⟨b, off + i * 11 + 1, none⟩ = some (.string l[i].a.name) ∧ w.cell? ⟨b, off + i * 11 + 2, none⟩ = some (.string l[i].a.path) ∧ w.cell? ⟨b, off + i * 11 + 3, none⟩ = some (.int .i64 l[i].a.var) ∧ w.cell? ⟨b, off + i * 11 + 4, none⟩ = some (.int .i64 l[i].a.field) ∧ w.cell? ⟨b, off + i * 11 + 5, none⟩ = some (.int .i64 l[i].a.n) ∧ w.cell? ⟨b, off + i * 11 + 6, none⟩ = some (.string l[i].b.name) ∧ w.cell? ⟨b, off + i * 11 + 7, none⟩ = some (.string l[i].b.path) ∧ w.cell? ⟨b, off + i * 11 + 8, none⟩ = some (.int .i64 l[i].b.var) ∧ w.cell? ⟨b, off + i * 11 + 9, none⟩ = some (.int .i64 l[i].b.field) ∧ w.cell? ⟨b, off + i * 11 + 10, none⟩ = some (.int .i64 l[i].b.n) := by
  obtain ⟨b, off, h1, h2, es, h3, h4⟩ := H i hi
  obtain ⟨rfl, hw⟩ := h3.flat
  exact ⟨b, off, h1, h2, hw, h4 0 (by decide), h4 1 (by decide), h4 2 (by decide), h4 3 (by decide), h4 4 (by decide), h4 5 (by decide), h4 6 (by decide), h4 7 (by decide), h4 8 (by decide), h4 9 (by decide), h4 10 (by decide)⟩

structure SetD where
  path : ByteArray
  field : Int
  term : TermD
def RSetD : Rep SetD := fun w cs x => ∃ c0 c1 c2 : List Value, cs = c0 ++ c1 ++ c2 ∧ RStr w c0 x.path ∧ RInt w c1 x.field ∧ RTermD w c2 x.term
theorem RSetD.stab : Stab RSetD := fun w w' _ _ ⟨c0, c1, c2, h, h0, h1, h2⟩ hb => ⟨c0, c1, c2, h, (RStr.stab) w w' _ _ h0 hb, (RInt.stab) w w' _ _ h1 hb, (RTermD.stab) w w' _ _ h2 hb⟩
def SetD.wf (x : SetD) : Prop := x.path.size ≤ maxLen ∧ (Lit.int .i64 x.field).wf = true ∧ x.term.name.size ≤ maxLen ∧ x.term.path.size ≤ maxLen ∧ (Lit.int .i64 x.term.var).wf = true ∧ (Lit.int .i64 x.term.field).wf = true ∧ (Lit.int .i64 x.term.n).wf = true
theorem RSetD.flat {w : World} {cs : List Value} {x : SetD} (h : RSetD w cs x) : cs = [.string x.path, .int .i64 x.field, .string x.term.name, .string x.term.path, .int .i64 x.term.var, .int .i64 x.term.field, .int .i64 x.term.n] ∧ x.wf := by
  obtain ⟨c0, c1, c2, rfl, h0, h1, h2⟩ := h
  obtain ⟨rfl, w0⟩ := h0
  obtain ⟨rfl, w1⟩ := h1
  obtain ⟨rfl, w2⟩ := h2.flat
  refine ⟨by simp, by simp only [SetD.wf, TermD.wf] at *; grind⟩
theorem SetD.out {w : World} {a : Option Addr} {l : List SetD} (H : Sl 7 RSetD w a l) (i : Nat) (hi : i < l.length) : ∃ (b off : Nat), a = some ⟨b, off, none⟩ ∧ b < w.heap.size ∧ l[i].wf ∧ w.cell? ⟨b, off + i * 7, none⟩ = some (.string l[i].path) ∧ w.cell? ⟨b, off + i * 7 + 1, none⟩ = some (.int .i64 l[i].field) ∧ w.cell? ⟨b, off + i * 7 + 2, none⟩ = some (.string l[i].term.name) ∧ w.cell? ⟨b, off + i * 7 + 3, none⟩ = some (.string l[i].term.path) ∧ w.cell? ⟨b, off + i * 7 + 4, none⟩ = some (.int .i64 l[i].term.var) ∧ w.cell? ⟨b, off + i * 7 + 5, none⟩ = some (.int .i64 l[i].term.field) ∧ w.cell? ⟨b, off + i * 7 + 6, none⟩ = some (.int .i64 l[i].term.n) := by
  obtain ⟨b, off, h1, h2, es, h3, h4⟩ := H i hi
  obtain ⟨rfl, hw⟩ := h3.flat
  exact ⟨b, off, h1, h2, hw, h4 0 (by decide), h4 1 (by decide), h4 2 (by decide), h4 3 (by decide), h4 4 (by decide), h4 5 (by decide), h4 6 (by decide)⟩

structure RuleD where
  head : ByteArray
  schema : Int
  froms : List FromD
  where_ : List AtomD
  sets : List SetD
def RRuleD : Rep RuleD := fun w cs x => ∃ c0 c1 c2 c3 c4 : List Value, cs = c0 ++ c1 ++ c2 ++ c3 ++ c4 ∧ RStr w c0 x.head ∧ RInt w c1 x.schema ∧ (RSl 8 RFromD) w c2 x.froms ∧ (RSl 11 RAtomD) w c3 x.where_ ∧ (RSl 7 RSetD) w c4 x.sets
theorem RRuleD.stab : Stab RRuleD := fun w w' _ _ ⟨c0, c1, c2, c3, c4, h, h0, h1, h2, h3, h4⟩ hb => ⟨c0, c1, c2, c3, c4, h, (RStr.stab) w w' _ _ h0 hb, (RInt.stab) w w' _ _ h1 hb, (RSl.stab RFromD.stab) w w' _ _ h2 hb, (RSl.stab RAtomD.stab) w w' _ _ h3 hb, (RSl.stab RSetD.stab) w w' _ _ h4 hb⟩
def RuleD.wf (x : RuleD) : Prop := x.head.size ≤ maxLen ∧ (Lit.int .i64 x.schema).wf = true
theorem RRuleD.flat {w : World} {cs : List Value} {x : RuleD} (h : RRuleD w cs x) : ∃ (a0 : Option Addr) (k0 : Nat) (a1 : Option Addr) (k1 : Nat) (a2 : Option Addr) (k2 : Nat), cs = [.string x.head, .int .i64 x.schema, .slice a0 x.froms.length k0, .slice a1 x.where_.length k1, .slice a2 x.sets.length k2] ∧ Sl 8 RFromD w a0 x.froms ∧ Sl 11 RAtomD w a1 x.where_ ∧ Sl 7 RSetD w a2 x.sets ∧ x.wf := by
  obtain ⟨c0, c1, c2, c3, c4, rfl, h0, h1, h2, h3, h4⟩ := h
  obtain ⟨rfl, w0⟩ := h0
  obtain ⟨rfl, w1⟩ := h1
  obtain ⟨p2, q2, rfl, s2⟩ := h2
  obtain ⟨p3, q3, rfl, s3⟩ := h3
  obtain ⟨p4, q4, rfl, s4⟩ := h4
  refine ⟨p2, q2, p3, q3, p4, q4, by simp, s2, s3, s4, by simp only [RuleD.wf] at *; grind⟩
theorem RuleD.out {w : World} {a : Option Addr} {l : List RuleD} (H : Sl 5 RRuleD w a l) (i : Nat) (hi : i < l.length) : ∃ (b off : Nat), a = some ⟨b, off, none⟩ ∧ b < w.heap.size ∧ l[i].wf ∧ ∃ (a0 : Option Addr) (k0 : Nat) (a1 : Option Addr) (k1 : Nat) (a2 : Option Addr) (k2 : Nat), w.cell? ⟨b, off + i * 5, none⟩ = some (.string l[i].head) ∧ w.cell? ⟨b, off + i * 5 + 1, none⟩ = some (.int .i64 l[i].schema) ∧ w.cell? ⟨b, off + i * 5 + 2, none⟩ = some (.slice a0 l[i].froms.length k0) ∧ w.cell? ⟨b, off + i * 5 + 3, none⟩ = some (.slice a1 l[i].where_.length k1) ∧ w.cell? ⟨b, off + i * 5 + 4, none⟩ = some (.slice a2 l[i].sets.length k2) ∧ Sl 8 RFromD w a0 l[i].froms ∧ Sl 11 RAtomD w a1 l[i].where_ ∧ Sl 7 RSetD w a2 l[i].sets := by
  obtain ⟨b, off, h1, h2, es, h3, h4⟩ := H i hi
  obtain ⟨a0, k0, a1, k1, a2, k2, rfl, s0, s1, s2, hw⟩ := h3.flat
  exact ⟨b, off, h1, h2, hw, a0, k0, a1, k1, a2, k2, h4 0 (by decide), h4 1 (by decide), h4 2 (by decide), h4 3 (by decide), h4 4 (by decide), s0, s1, s2⟩

structure RefD where
  name : ByteArray
  path : ByteArray
  schema : Int
  field : Int
def RRefD : Rep RefD := fun w cs x => ∃ c0 c1 c2 c3 : List Value, cs = c0 ++ c1 ++ c2 ++ c3 ∧ RStr w c0 x.name ∧ RStr w c1 x.path ∧ RInt w c2 x.schema ∧ RInt w c3 x.field
theorem RRefD.stab : Stab RRefD := fun w w' _ _ ⟨c0, c1, c2, c3, h, h0, h1, h2, h3⟩ hb => ⟨c0, c1, c2, c3, h, (RStr.stab) w w' _ _ h0 hb, (RStr.stab) w w' _ _ h1 hb, (RInt.stab) w w' _ _ h2 hb, (RInt.stab) w w' _ _ h3 hb⟩
def RefD.wf (x : RefD) : Prop := x.name.size ≤ maxLen ∧ x.path.size ≤ maxLen ∧ (Lit.int .i64 x.schema).wf = true ∧ (Lit.int .i64 x.field).wf = true
theorem RRefD.flat {w : World} {cs : List Value} {x : RefD} (h : RRefD w cs x) : cs = [.string x.name, .string x.path, .int .i64 x.schema, .int .i64 x.field] ∧ x.wf := by
  obtain ⟨c0, c1, c2, c3, rfl, h0, h1, h2, h3⟩ := h
  obtain ⟨rfl, w0⟩ := h0
  obtain ⟨rfl, w1⟩ := h1
  obtain ⟨rfl, w2⟩ := h2
  obtain ⟨rfl, w3⟩ := h3
  refine ⟨by simp, by simp only [RefD.wf] at *; grind⟩
theorem RefD.out {w : World} {a : Option Addr} {l : List RefD} (H : Sl 4 RRefD w a l) (i : Nat) (hi : i < l.length) : ∃ (b off : Nat), a = some ⟨b, off, none⟩ ∧ b < w.heap.size ∧ l[i].wf ∧ w.cell? ⟨b, off + i * 4, none⟩ = some (.string l[i].name) ∧ w.cell? ⟨b, off + i * 4 + 1, none⟩ = some (.string l[i].path) ∧ w.cell? ⟨b, off + i * 4 + 2, none⟩ = some (.int .i64 l[i].schema) ∧ w.cell? ⟨b, off + i * 4 + 3, none⟩ = some (.int .i64 l[i].field) := by
  obtain ⟨b, off, h1, h2, es, h3, h4⟩ := H i hi
  obtain ⟨rfl, hw⟩ := h3.flat
  exact ⟨b, off, h1, h2, hw, h4 0 (by decide), h4 1 (by decide), h4 2 (by decide), h4 3 (by decide)⟩

structure PurposeD where
  name : ByteArray
  may : List RefD
  most : Int
def RPurposeD : Rep PurposeD := fun w cs x => ∃ c0 c1 c2 : List Value, cs = c0 ++ c1 ++ c2 ∧ RStr w c0 x.name ∧ (RSl 4 RRefD) w c1 x.may ∧ RInt w c2 x.most
theorem RPurposeD.stab : Stab RPurposeD := fun w w' _ _ ⟨c0, c1, c2, h, h0, h1, h2⟩ hb => ⟨c0, c1, c2, h, (RStr.stab) w w' _ _ h0 hb, (RSl.stab RRefD.stab) w w' _ _ h1 hb, (RInt.stab) w w' _ _ h2 hb⟩
def PurposeD.wf (x : PurposeD) : Prop := x.name.size ≤ maxLen ∧ (Lit.int .i64 x.most).wf = true
theorem RPurposeD.flat {w : World} {cs : List Value} {x : PurposeD} (h : RPurposeD w cs x) : ∃ (a0 : Option Addr) (k0 : Nat), cs = [.string x.name, .slice a0 x.may.length k0, .int .i64 x.most] ∧ Sl 4 RRefD w a0 x.may ∧ x.wf := by
  obtain ⟨c0, c1, c2, rfl, h0, h1, h2⟩ := h
  obtain ⟨rfl, w0⟩ := h0
  obtain ⟨p1, q1, rfl, s1⟩ := h1
  obtain ⟨rfl, w2⟩ := h2
  refine ⟨p1, q1, by simp, s1, by simp only [PurposeD.wf] at *; grind⟩
theorem PurposeD.out {w : World} {a : Option Addr} {l : List PurposeD} (H : Sl 3 RPurposeD w a l) (i : Nat) (hi : i < l.length) : ∃ (b off : Nat), a = some ⟨b, off, none⟩ ∧ b < w.heap.size ∧ l[i].wf ∧ ∃ (a0 : Option Addr) (k0 : Nat), w.cell? ⟨b, off + i * 3, none⟩ = some (.string l[i].name) ∧ w.cell? ⟨b, off + i * 3 + 1, none⟩ = some (.slice a0 l[i].may.length k0) ∧ w.cell? ⟨b, off + i * 3 + 2, none⟩ = some (.int .i64 l[i].most) ∧ Sl 4 RRefD w a0 l[i].may := by
  obtain ⟨b, off, h1, h2, es, h3, h4⟩ := H i hi
  obtain ⟨a0, k0, rfl, s0, hw⟩ := h3.flat
  exact ⟨b, off, h1, h2, hw, a0, k0, h4 0 (by decide), h4 1 (by decide), h4 2 (by decide), s0⟩

structure SourceD where
  issuers : List ByteArray
  units : List UnitD
  schemas : List SchemaD
  rules : List RuleD
  converts : Nat
  purposes : List PurposeD
def RSourceD : Rep SourceD := fun w cs x => ∃ c0 c1 c2 c3 c4 c5 : List Value, cs = c0 ++ c1 ++ c2 ++ c3 ++ c4 ++ c5 ∧ (RSl 1 RStr) w c0 x.issuers ∧ (RSl 5 RUnitD) w c1 x.units ∧ (RSl 6 RSchemaD) w c2 x.schemas ∧ (RSl 5 RRuleD) w c3 x.rules ∧ RRaw w c4 x.converts ∧ (RSl 3 RPurposeD) w c5 x.purposes
theorem RSourceD.stab : Stab RSourceD := fun w w' _ _ ⟨c0, c1, c2, c3, c4, c5, h, h0, h1, h2, h3, h4, h5⟩ hb => ⟨c0, c1, c2, c3, c4, c5, h, (RSl.stab RStr.stab) w w' _ _ h0 hb, (RSl.stab RUnitD.stab) w w' _ _ h1 hb, (RSl.stab RSchemaD.stab) w w' _ _ h2 hb, (RSl.stab RRuleD.stab) w w' _ _ h3 hb, (RRaw.stab) w w' _ _ h4 hb, (RSl.stab RPurposeD.stab) w w' _ _ h5 hb⟩
def SourceD.wf (_ : SourceD) : Prop := True
theorem RSourceD.flat {w : World} {cs : List Value} {x : SourceD} (h : RSourceD w cs x) : ∃ (a0 : Option Addr) (k0 : Nat) (a1 : Option Addr) (k1 : Nat) (a2 : Option Addr) (k2 : Nat) (a3 : Option Addr) (k3 : Nat) (a4 : Option Addr) (k4 : Nat) (a5 : Option Addr) (k5 : Nat), cs = [.slice a0 x.issuers.length k0, .slice a1 x.units.length k1, .slice a2 x.schemas.length k2, .slice a3 x.rules.length k3, .slice a4 x.converts k4, .slice a5 x.purposes.length k5] ∧ Sl 1 RStr w a0 x.issuers ∧ Sl 5 RUnitD w a1 x.units ∧ Sl 6 RSchemaD w a2 x.schemas ∧ Sl 5 RRuleD w a3 x.rules ∧ Sl 3 RPurposeD w a5 x.purposes ∧ x.wf := by
  obtain ⟨c0, c1, c2, c3, c4, c5, rfl, h0, h1, h2, h3, h4, h5⟩ := h
  obtain ⟨p0, q0, rfl, s0⟩ := h0
  obtain ⟨p1, q1, rfl, s1⟩ := h1
  obtain ⟨p2, q2, rfl, s2⟩ := h2
  obtain ⟨p3, q3, rfl, s3⟩ := h3
  obtain ⟨p4, q4, rfl⟩ := h4
  obtain ⟨p5, q5, rfl, s5⟩ := h5
  refine ⟨p0, q0, p1, q1, p2, q2, p3, q3, p4, q4, p5, q5, by simp, s0, s1, s2, s3, s5, trivial⟩
theorem SourceD.out {w : World} {a : Option Addr} {l : List SourceD} (H : Sl 6 RSourceD w a l) (i : Nat) (hi : i < l.length) : ∃ (b off : Nat), a = some ⟨b, off, none⟩ ∧ b < w.heap.size ∧ l[i].wf ∧ ∃ (a0 : Option Addr) (k0 : Nat) (a1 : Option Addr) (k1 : Nat) (a2 : Option Addr) (k2 : Nat) (a3 : Option Addr) (k3 : Nat) (a4 : Option Addr) (k4 : Nat) (a5 : Option Addr) (k5 : Nat), w.cell? ⟨b, off + i * 6, none⟩ = some (.slice a0 l[i].issuers.length k0) ∧ w.cell? ⟨b, off + i * 6 + 1, none⟩ = some (.slice a1 l[i].units.length k1) ∧ w.cell? ⟨b, off + i * 6 + 2, none⟩ = some (.slice a2 l[i].schemas.length k2) ∧ w.cell? ⟨b, off + i * 6 + 3, none⟩ = some (.slice a3 l[i].rules.length k3) ∧ w.cell? ⟨b, off + i * 6 + 4, none⟩ = some (.slice a4 l[i].converts k4) ∧ w.cell? ⟨b, off + i * 6 + 5, none⟩ = some (.slice a5 l[i].purposes.length k5) ∧ Sl 1 RStr w a0 l[i].issuers ∧ Sl 5 RUnitD w a1 l[i].units ∧ Sl 6 RSchemaD w a2 l[i].schemas ∧ Sl 5 RRuleD w a3 l[i].rules ∧ Sl 3 RPurposeD w a5 l[i].purposes := by
  obtain ⟨b, off, h1, h2, es, h3, h4⟩ := H i hi
  obtain ⟨a0, k0, a1, k1, a2, k2, a3, k3, a4, k4, a5, k5, rfl, s0, s1, s2, s3, s4, hw⟩ := h3.flat
  exact ⟨b, off, h1, h2, hw, a0, k0, a1, k1, a2, k2, a3, k3, a4, k4, a5, k5, h4 0 (by decide), h4 1 (by decide), h4 2 (by decide), h4 3 (by decide), h4 4 (by decide), h4 5 (by decide), s0, s1, s2, s3, s4⟩
theorem str_out {w : World} {a : Option Addr} {l : List ByteArray} (H : Sl 1 RStr w a l) (i : Nat) (hi : i < l.length) : ∃ (b off : Nat), a = some ⟨b, off, none⟩ ∧ b < w.heap.size ∧ l[i].size ≤ maxLen ∧ w.cell? ⟨b, off + i, none⟩ = some (.string l[i]) := by
  obtain ⟨b, off, h1, h2, es, ⟨rfl, h3⟩, h4⟩ := H i hi
  exact ⟨b, off, h1, h2, h3, by have := h4 0 (by decide); simpa using this⟩
theorem int_out {w : World} {a : Option Addr} {l : List Int} (H : Sl 1 RInt w a l) (i : Nat) (hi : i < l.length) : ∃ (b off : Nat), a = some ⟨b, off, none⟩ ∧ b < w.heap.size ∧ (Lit.int .i64 l[i]).wf = true ∧ w.cell? ⟨b, off + i, none⟩ = some (.int .i64 l[i]) := by
  obtain ⟨b, off, h1, h2, es, ⟨rfl, h3⟩, h4⟩ := H i hi
  exact ⟨b, off, h1, h2, h3, by have := h4 0 (by decide); simpa using this⟩

end Go.Proofs.Ytogenjbabgibbaa
namespace Go.Proofs.Ytogenjbabgibbaa
open Go.RowKit

/-! What the code computes (booleans over the data). -/
def unitB (us : List UnitD) (u : UnitD) : Bool :=
  decide (1 ≤ u.scale) && decide (u.scale ≤ 1099511627776) && decide (0 ≤ u.base) && (decide (u.base < us.length) && match us[u.base.toNat]? with | some v => decide (v.scale = 1) | none => false)

def kind1 (t : TyD) (n : Int) : Bool := decide (0 ≤ t.lo) && decide (t.lo ≤ t.hi) && decide (t.hi ≤ 1048576) && decide (-1 ≤ t.unit) && decide (t.unit < n) && decide (t.names.length = 0)
def kind2 (t : TyD) : Bool := decide (t.lo = 0) && decide (t.hi = 1023) && decide (t.unit = -1) && decide (t.names.length = 0)
def kind3 (t : TyD) : Bool := decide (t.lo = 0) && decide (t.hi = 4095) && decide (t.unit = -1) && decide (t.names.length = 0)
abbrev TyD.val (t : TyD) (an : Option Addr) (kn : Nat) : Value := .agg #[.int .i64 t.kind, .int .i64 t.lo, .int .i64 t.hi, .string t.of_, .int .i64 t.unit, .slice an t.names.length kn]
abbrev UnitD.val (u : UnitD) : Value := .agg #[.string u.name, .string u.of_, .int .i64 u.factor, .int .i64 u.base, .int .i64 u.scale]
/-- a source as a value: the places and capacities of its slices -/
structure SrcAt where
  a0 : Option Addr
  k0 : Nat
  a1 : Option Addr
  k1 : Nat
  a2 : Option Addr
  k2 : Nat
  a3 : Option Addr
  k3 : Nat
  a4 : Option Addr
  k4 : Nat
  a5 : Option Addr
  k5 : Nat
abbrev SourceD.val (s : SourceD) (p : SrcAt) : Value := .agg #[.slice p.a0 s.issuers.length p.k0, .slice p.a1 s.units.length p.k1, .slice p.a2 s.schemas.length p.k2, .slice p.a3 s.rules.length p.k3, .slice p.a4 s.converts p.k4, .slice p.a5 s.purposes.length p.k5]
/-- what the slices of a source read as -/
structure Src (w : World) (s : SourceD) (p : SrcAt) : Prop where
  h0 : Sl 1 RStr w p.a0 s.issuers
  h1 : Sl 5 RUnitD w p.a1 s.units
  h2 : Sl 6 RSchemaD w p.a2 s.schemas
  h3 : Sl 5 RRuleD w p.a3 s.rules
  h5 : Sl 3 RPurposeD w p.a5 s.purposes
theorem Src.below {w w' : World} {s : SourceD} {p : SrcAt} (h : Src w s p) (hb : Below w.heap.size w w') : Src w' s p :=
  ⟨h.h0.below RStr.stab hb, h.h1.below RUnitD.stab hb, h.h2.below RSchemaD.stab hb, h.h3.below RRuleD.stab hb, h.h5.below RPurposeD.stab hb⟩
theorem RSourceD.src {w : World} {cs : List Value} {s : SourceD} (h : RSourceD w cs s) : ∃ p, Value.agg cs.toArray = s.val p ∧ Src w s p := by
  obtain ⟨a0, k0, a1, k1, a2, k2, a3, k3, a4, k4, a5, k5, rfl, h0, h1, h2, h3, h5, _⟩ := h.flat
  exact ⟨⟨a0, k0, a1, k1, a2, k2, a3, k3, a4, k4, a5, k5⟩, rfl, h0, h1, h2, h3, h5⟩

theorem len_beq {α : Type} (l : List α) : ((l.length : Int) == 0) = decide (l = []) := by cases l <;> simp; omega
theorem kind1_any (t : TyD) (n : Int) (an : Option Addr) (kn : Nat) (w : World) :
    Calls Try.prog 79 #[t.val an kn, .int .i64 n] w fun e w' => e = .returned (.bool (kind1 t n)) ∧ Below w.heap.size w w' := by
  go_enter Try.func79, Try.ntmps79
  go_wp2
  all_goals go_ret
  all_goals exact ⟨ret_bool (by simp [kind1, len_beq, *]; try grind), (Below.refl _ _).alloc (Nat.le_refl _) _⟩
theorem kind2_any (t : TyD) (n : Int) (an : Option Addr) (kn : Nat) (w : World) :
    Calls Try.prog 80 #[t.val an kn, .int .i64 n] w fun e w' => e = .returned (.bool (kind2 t)) ∧ Below w.heap.size w w' := by
  go_enter Try.func80, Try.ntmps80
  go_wp2
  all_goals go_ret
  all_goals exact ⟨ret_bool (by simp [kind2, len_beq, *]; try grind), (Below.refl _ _).alloc (Nat.le_refl _) _⟩
theorem kind3_any (t : TyD) (n : Int) (an : Option Addr) (kn : Nat) (w : World) :
    Calls Try.prog 81 #[t.val an kn, .int .i64 n] w fun e w' => e = .returned (.bool (kind3 t)) ∧ Below w.heap.size w w' := by
  go_enter Try.func81, Try.ntmps81
  go_wp2
  all_goals go_ret
  all_goals exact ⟨ret_bool (by simp [kind3, len_beq, *]; try grind), (Below.refl _ _).alloc (Nat.le_refl _) _⟩
theorem unitOK_any (s : SourceD) (p : SrcAt) (u : UnitD) (w : World) (hs : Src w s p) :
    Calls Try.prog 27 #[s.val p, u.val] w fun e w' => e = .returned (.bool (unitB s.units u)) ∧ Below w.heap.size w w' := by
  have hw0 : Below w.heap.size w ((w.alloc (.cells #[.slice p.a0 s.issuers.length p.k0, .slice p.a1 s.units.length p.k1, .slice p.a2 s.schemas.length p.k2, .slice p.a3 s.rules.length p.k3, .slice p.a4 s.converts p.k4, .slice p.a5 s.purposes.length p.k5] 81)).alloc (.cells #[.string u.name, .string u.of_, .int .i64 u.factor, .int .i64 u.base, .int .i64 u.scale] 69)) := ((Below.refl _ _).alloc (Nat.le_refl _) _).alloc (by simp) _
  by_cases hin : 0 ≤ u.base ∧ u.base < s.units.length
  case neg =>
    have hw0 := Lib.hid hw0
    have hin := Lib.hid hin
    go_enter Try.func27, Try.ntmps27
    go_wp2
    all_goals (try (exfalso; have := hin.out; omega))
    all_goals go_ret
    all_goals exact ⟨ret_bool (by have := hin.out; simp [unitB]; try grind), hw0.out⟩
  obtain ⟨hi0, hi1⟩ := hin
  obtain ⟨b, off, e1, hb, _, c0, c1, c2, c3, c4⟩ := UnitD.out (hs.h1) u.base.toNat (by omega)
  have hx := Lib.hid (show (match s.units[u.base.toNat]? with | some v => decide (v.scale = 1) | none => false) = decide (s.units[u.base.toNat].scale = 1) by rw [List.getElem?_eq_getElem (by omega)])
  generalize s.units[u.base.toNat].scale = z at hx c4
  clear hw0 hs c0 c1 c2 c3
  go_enter Try.func27, Try.ntmps27
  go_wp2
  all_goals go_ret
  all_goals exact ⟨ret_bool (by have h1 := hx.out; simp only [unitB, h1]; simp [*]; try grind), ((Below.refl _ _).alloc (Nat.le_refl _) _).alloc (by simp) _⟩
end Go.Proofs.Ytogenjbabgibbaa
namespace Go.Proofs.Ytogenjbabgibbaa
open Go.RowKit

/-! A map of the call's own, whose keys and elements are plain: said key by key. -/
def GM (P : Program) (k e : TypeId) (w : World) (b n : Nat) (S : Lit → Option Lit) : Prop :=
  ∃ D : DataW Unit, w.ownsMap P k (plainElem P e) b n D ∧ Maps.IsMap D ∧ ∀ kl, Maps.has D kl = (S kl).isSome ∧ ∀ zd, D.atKey kl zd = match S kl with | some l => .lit l | none => zd
theorem GM.lt {P : Program} {k e : TypeId} {w : World} {b n : Nat} {S : Lit → Option Lit} (h : GM P k e w b n S) : b < w.heap.size := h.choose_spec.1.lt
theorem GM.made (P : Program) (k e : TypeId) (w : World) : GM P k e (w.alloc (.map #[] 0)) w.heap.size 0 (fun _ => none) :=
  ⟨.map [], World.ownsMap_made _ _ _ _, Maps.isMap_empty, fun _ => ⟨rfl, fun _ => rfl⟩⟩
theorem GM.kept {P : Program} {k e : TypeId} {w w' : World} {b n : Nat} {S : Lit → Option Lit} (h : GM P k e w b n S) {row : Option Nat} (hg : w.grownBy w' row) (hne : some b ≠ row) : GM P k e w' b n S :=
  let ⟨D, h1, h2⟩ := h; ⟨D, h1.kept hg hne, h2⟩
theorem GM.alloc {P : Program} {k e : TypeId} {w : World} {b n : Nat} {S : Lit → Option Lit} (h : GM P k e w b n S) (o : Obj) : GM P k e (w.alloc o) b n S := h.kept (World.grownBy_alloc w o none) (by simp)
theorem GM.drew {P : Program} {k e : TypeId} {w : World} {b n : Nat} {S : Lit → Option Lit} (h : GM P k e w b n S) : GM P k e w.drew b n S := h
theorem GM.ext {P : Program} {k e : TypeId} {w : World} {b n : Nat} {S S' : Lit → Option Lit} (h : GM P k e w b n S) (hS : ∀ l, S l = S' l) : GM P k e w b n S' := by
  have : S = S' := funext hS
  exact this ▸ h
theorem GM.mono {P : Program} {k e : TypeId} {w : World} {b n : Nat} {S : Lit → Option Lit} (h : GM P k e w b n S) {n' : Nat} (hn : n ≤ n') : GM P k e w b n' S :=
  let ⟨D, h1, h2⟩ := h; ⟨D, h1.mono hn, h2⟩
theorem GM.below {P : Program} {k e : TypeId} {w w' : World} {b n : Nat} {S : Lit → Option Lit} (h : GM P k e w b n S) {B : Nat} (hb : Below B w w') (hlt : b < B) : GM P k e w' b n S := by
  obtain ⟨D, ⟨es, clock, h1, h2⟩, h3⟩ := h
  exact ⟨D, ⟨es, clock, (hb.block b hlt).trans h1, h2⟩, h3⟩
/-- what a boolean element reads as -/
theorem plainElem_bool_inv {H : Type} {P : Program} {e : TypeId} (he : P.underlying e = some .bool) {v : Value} {z : DataW H × List MemPlace} (h : plainElem P e v = some z) : ∃ x, v = .bool x ∧ z = (.lit (.bool x), []) := by
  unfold plainElem at h
  rw [he] at h
  split at h
  · cases h; exact ⟨_, rfl, rfl⟩
  · rename_i h1; simp at h1
  · rename_i h1; simp at h1
  · cases h

section
variable {P : Program} (w : World) {ops : Array Oper} {rest : List Oper} {o : Oper} {a : Act} {Q : Exit → Act → World → Prop}
/-- 'm[k]' at boolean elements -/
theorem wpList_lookup_gm_bool (hg : o.guard = none) (m x : Operand) (t : TypeId) (hop : o.op = Op.lookup t m x false)
    (k e : TypeId) (K : Maps.Keyed P k) (ht : P.underlying t = some (.map k e)) (he : P.underlying e = some .bool) (hz : (zeroValue e).run P w = .ok (.bool false) w) (b n : Nat) (S : Lit → Option Lit)
    (hm : a.eval m = .map (some b)) (hown : GM P k e w b n S) (key : Value) (kl : Lit) (hx : a.eval x = key) (hkey : keyOf P k key = some kl) (c : Bool)
    (hc : (match S kl with | some l => l | none => .bool false) = .bool c)
    (hK : wpList P ops Q rest (a.put o.dst (.bool c)) w) : wpList P ops Q (o :: rest) a w := by
  refine wpList_plain hg fun K' hK' => ?_
  obtain ⟨D, h1, h2, h3⟩ := hown
  obtain ⟨v, ps, hrun, hv⟩ := h1.lookup K ht hz (plainElem_bool he false) hkey
  obtain ⟨x', rfl, hx'⟩ := plainElem_bool_inv he hv
  rw [(h3 kl).2] at hx'
  have hcx : x' = c := by
    cases hS : S kl with
    | none => rw [hS] at hc hx'; simp at hc hx'; rw [hx'.1, hc]
    | some l => rw [hS] at hc hx'; simp at hc hx'; simp [hc] at hx'; exact hx'.1.symm
  subst hcx
  unfold Oper.wp
  simp [execOp, hop, hm, hx, hrun, Result.andThen]
  exact hK' _ _ hK
/-- 'm[k]' at integer elements -/
theorem wpList_lookup_gm_int (hg : o.guard = none) (m x : Operand) (t : TypeId) (hop : o.op = Op.lookup t m x false)
    (k e : TypeId) (K : Maps.Keyed P k) (ht : P.underlying t = some (.map k e)) {q : IntKind} (he : P.underlying e = some (.int q)) (hz : (zeroValue e).run P w = .ok (.int q 0) w) (b n : Nat) (S : Lit → Option Lit)
    (hm : a.eval m = .map (some b)) (hown : GM P k e w b n S) (key : Value) (kl : Lit) (hx : a.eval x = key) (hkey : keyOf P k key = some kl) (c : Int)
    (hc : (match S kl with | some l => l | none => .int q 0) = .int q c)
    (hK : wpList P ops Q rest (a.put o.dst (.int q c)) w) : wpList P ops Q (o :: rest) a w := by
  refine wpList_plain hg fun K' hK' => ?_
  obtain ⟨D, h1, h2, h3⟩ := hown
  obtain ⟨v, ps, hrun, hv⟩ := h1.lookup K ht hz (plainElem_int he (by cases q <;> decide)) hkey
  obtain ⟨x', rfl, hx', _⟩ := plainElem_int_inv he hv
  rw [(h3 kl).2] at hx'
  have hcx : x' = c := by
    cases hS : S kl with
    | none => rw [hS] at hc hx'; simp at hc hx'; omega
    | some l => rw [hS] at hc hx'; simp at hc hx'; simp [hc] at hx'; omega
  subst hcx
  unfold Oper.wp
  simp [execOp, hop, hm, hx, hrun, Result.andThen]
  exact hK' _ _ hK
/-- 'm[k] = v' -/
theorem wpList_mapUpdate_gm (hg : o.guard = none) (m x v : Operand) (t : TypeId) (hop : o.op = Op.mapUpdate t m x v)
    (k e : TypeId) (K : Maps.Keyed P k) (ht : P.underlying t = some (.map k e)) (b n : Nat) (S : Lit → Option Lit)
    (hm : a.eval m = .map (some b)) (hown : GM P k e w b n S) (hn : n < maxLen) (key val : Value) (kl : Lit) (hx : a.eval x = key) (hv : a.eval v = val) (hkey : keyOf P k key = some kl) (hkl : WideAt.IsKeyLit kl)
    (vl : Lit) (ps : List MemPlace) (hval : plainElem P e val = some ((.lit vl : DataW Unit), ps))
    (hK : ∀ w', GM P k e w' b (n + 1) (fun l => if l.sameKey kl then some vl else S l) → w.grownBy w' (some b) → wpList P ops Q rest (a.put o.dst undef) w') :
    wpList P ops Q (o :: rest) a w := by
  obtain ⟨D, h1, h2, h3⟩ := hown
  refine wpList_mapUpdate_own w hg m x v t hop k e K ht _ b n D hm h1 hn key val kl hx hv hkey _ ps hval fun w' h4 h5 => hK w' ⟨_, h4, h2.put _ _, fun l => ?_⟩ h5
  by_cases hl : l = kl
  · subst hl
    simp [Maps.has_put_same h2 hkl, Maps.atKey_put_same h2 hkl, WideAt.sameKey_self hkl]
  · have e1 : l.sameKey kl = false := Bool.eq_false_iff.2 fun h => hl (WideAt.sameKey_eq h)
    simp [Maps.has_put_other hl, Maps.atKey_put_other hl, h3 l, e1]
end
/-- 'make(map[K]V, hint)' -/
theorem run_makeMap_hint {P : Program} {t k e : TypeId} (ht : P.underlying t = some (.map k e)) (q : IntKind) (z : Int) (w : World) :
    (Instr.makeMap t (some (.int q z))).run P w = .ok (.map (some w.heap.size)) (w.alloc (.map #[] 0)) := by
  have h1 : (asIntOf (.int q z)).run P w = .ok (q, z) w := rfl
  simp [Instr.makeMap, run_underlying ht, asInt, h1]
end Go.Proofs.Ytogenjbabgibbaa
namespace Go.Proofs.Ytogenjbabgibbaa
open Go.RowKit

theorem keyS : Maps.Keyed Try.prog 9 := Maps.string_keyed Try.underlying9
theorem keyI : Maps.Keyed Try.prog 3 := Maps.int_keyed Try.underlying3
theorem zero4 (w : World) : (zeroValue 4).run Try.prog w = .ok (.bool false) w := by kernel_rfl
/-- the strings seen -/
def seenS (L : List ByteArray) (k : Nat) (l : Lit) : Option Lit := if (L.take k).any (fun s => l.sameKey (.string s.data.toList)) then some (.bool true) else none
theorem seenS_at {L : List ByteArray} {k : Nat} (s : ByteArray) : seenS L k (.string s.data.toList) = if s ∈ L.take k then some (.bool true) else none := by
  unfold seenS
  have hiff : (L.take k).any (fun x => (Lit.string s.data.toList).sameKey (.string x.data.toList)) = true ↔ s ∈ L.take k := by
   simp only [List.any_eq_true, Lit.sameKey]
   constructor
   · rintro ⟨x, hx, he⟩
     have : s = x := by
       obtain ⟨⟨s⟩⟩ := s
       obtain ⟨⟨x⟩⟩ := x
       simpa using he
     exact this ▸ hx
   · intro h
     exact ⟨s, h, by simp⟩
  by_cases h : s ∈ L.take k
  · rw [if_pos h, if_pos (hiff.2 h)]
  · rw [if_neg h, if_neg (fun h2 => h (hiff.1 h2))]
theorem seenS_succ {L : List ByteArray} {k : Nat} (hk : k < L.length) (l : Lit) : (if l.sameKey (.string L[k].data.toList) then some (.bool true) else seenS L k l) = seenS L (k + 1) l := by
  unfold seenS
  rw [take_succ' hk, List.any_append]
  simp only [List.any_cons, List.any_nil, Bool.or_false]
  cases l.sameKey (.string L[k].data.toList) <;> simp

set_option maxRecDepth 20000 in
set_option maxHeartbeats 2000000 in
theorem diffS_any (a : Option Addr) (cap : Nat) (L : List ByteArray) (w : World) (hs : Sl 1 RStr w a L) (hl : L.length ≤ 100000) :
    Calls Try.prog 83 #[.slice a L.length cap] w fun e w' => e = .returned (.bool (decide L.Nodup)) ∧ Below w.heap.size w w' := by
  have Hs := Lib.hid hs
  clear hs
  have hmm := @run_makeMap_hint Try.prog 129 9 4 Try.underlying129 .i64 L.length
  go_enter Try.func83, Try.ntmps83
  go_wp2
  go_loopw [11] (fun i wr => ∃ k : Nat, k ≤ L.length ∧ i = .int .i64 k ∧ GM Try.prog 9 4 wr w.heap.size k (seenS L k) ∧ Hid ((L.take k).Nodup) ∧ Below w.heap.size w wr) (fun i _ => L.length - (intOf i).toNat)
  case atStart => exact ⟨0, Nat.zero_le _, rfl, (GM.made ..).ext (fun l => by simp [seenS]), Lib.hid (by simp), (Below.refl _ _).alloc (Nat.le_refl _) _⟩
  case round =>
    obtain ⟨k, hk, rfl, hm, Hn, hbw⟩ := hrel
    have hsz := hbw.size
    by_cases hlt : k < L.length
    · obtain ⟨b, off, rfl, hb, hsl, c0⟩ := str_out Hs.out k hlt
      rw [← hbw.cell (p := ⟨b, _, none⟩) hb] at c0
      have hat := seenS_at (L := L) (k := k) L[k]
      have hsc := seenS_succ hlt
      generalize hf : L[k] = f at *
      have Hf := Lib.hid hf
      have Hsc := Lib.hid hsc
      have hkey := Lib.hid (WideMaps.keyOf_string_mk Try.underlying9 hsl)
      clear hsl
      by_cases hin : f ∈ L.take k
      · rw [if_pos hin] at hat
        have Hat := Lib.hid hat
        have Hin := Lib.hid hin
        clear hf hsc hat hin hmm
        go_wp2_with (first | (at_lookup; refine wpList_lookup_gm_bool _ rfl _ _ 129 rfl 9 4 keyS Try.underlying129 Try.underlying4 (zero4 _) _ k _ rfl hm _ _ rfl hkey.out true (by rw [Hat.out]) ?_) | go_in)
        go_ret
        exact ⟨ret_bool (by rw [← Hf.out] at Hin; simp [not_nodup_take hlt Hin.out]), hbw⟩
      · rw [if_neg hin] at hat
        have Hat := Lib.hid hat
        have Hin := Lib.hid hin
        clear hf hsc hat hin hmm
        go_wp2_with (first | (at_lookup; refine wpList_lookup_gm_bool _ rfl _ _ 129 rfl 9 4 keyS Try.underlying129 Try.underlying4 (zero4 _) _ k _ rfl hm _ _ rfl hkey.out false (by rw [Hat.out]) ?_) | (at_mapUpdate; refine wpList_mapUpdate_gm _ rfl _ _ _ 129 rfl 9 4 keyS Try.underlying129 _ k _ rfl hm (by unfold maxLen; omega) _ _ _ rfl rfl hkey.out trivial (.bool true) [] (plainElem_bool Try.underlying4 true) ?_; intro w1 hm1 hg1) | go_in)
        go_roundw
        case rel => exact ⟨k + 1, by omega, by go_num, hm1.ext Hsc.out, Lib.hid (take_nodup_succ hlt Hn.out (by rw [Hf.out]; exact Hin.out)), hbw.grown hg1 hsz (fun j hj => by cases hj; exact Nat.le_refl _)⟩
        case measure => simp [intOf]; omega
    · have hq : k = L.length := by omega
      subst hq
      go_wp2
      go_ret
      exact ⟨ret_bool (by have := Hn.out; simpa using this), hbw⟩
/-- the numbers seen -/
def seenI (L : List Int) (k : Nat) (l : Lit) : Option Lit := if (L.take k).any (fun s => l.sameKey (.int .i64 s)) then some (.bool true) else none
theorem seenI_at {L : List Int} {k : Nat} (s : Int) : seenI L k (.int .i64 s) = if s ∈ L.take k then some (.bool true) else none := by
  unfold seenI
  have hiff : (L.take k).any (fun x => (Lit.int .i64 s).sameKey (.int .i64 x)) = true ↔ s ∈ L.take k := by simp [Lit.sameKey]
  by_cases h : s ∈ L.take k
  · rw [if_pos h, if_pos (hiff.2 h)]
  · rw [if_neg h, if_neg (fun h2 => h (hiff.1 h2))]
theorem seenI_succ {L : List Int} {k : Nat} (hk : k < L.length) (l : Lit) : (if l.sameKey (.int .i64 L[k]) then some (.bool true) else seenI L k l) = seenI L (k + 1) l := by
  unfold seenI
  rw [take_succ' hk, List.any_append]
  simp only [List.any_cons, List.any_nil, Bool.or_false]
  cases l.sameKey (.int .i64 L[k]) <;> simp
set_option maxRecDepth 20000 in
set_option maxHeartbeats 2000000 in
theorem diffI_any (a : Option Addr) (cap : Nat) (L : List Int) (w : World) (hs : Sl 1 RInt w a L) (hl : L.length ≤ 100000) :
    Calls Try.prog 56 #[.slice a L.length cap] w fun e w' => e = .returned (.bool (decide L.Nodup)) ∧ Below w.heap.size w w' := by
  have Hs := Lib.hid hs
  clear hs
  have hmm := @run_makeMap_hint Try.prog 59 3 4 Try.underlying59 .i64 L.length
  go_enter Try.func56, Try.ntmps56
  go_wp2
  go_loopw [11] (fun i wr => ∃ k : Nat, k ≤ L.length ∧ i = .int .i64 k ∧ GM Try.prog 3 4 wr w.heap.size k (seenI L k) ∧ Hid ((L.take k).Nodup) ∧ Below w.heap.size w wr) (fun i _ => L.length - (intOf i).toNat)
  case atStart => exact ⟨0, Nat.zero_le _, rfl, (GM.made ..).ext (fun l => by simp [seenI]), Lib.hid (by simp), (Below.refl _ _).alloc (Nat.le_refl _) _⟩
  case round =>
    obtain ⟨k, hk, rfl, hm, Hn, hbw⟩ := hrel
    have hsz := hbw.size
    by_cases hlt : k < L.length
    · obtain ⟨b, off, rfl, hb, hsl, c0⟩ := int_out Hs.out k hlt
      rw [← hbw.cell (p := ⟨b, _, none⟩) hb] at c0
      have hat := seenI_at (L := L) (k := k) L[k]
      have hsc := seenI_succ hlt
      generalize hf : L[k] = f at *
      have Hf := Lib.hid hf
      have Hsc := Lib.hid hsc
      have hkey := Lib.hid (Maps.keyOf_int_mk Try.underlying3 hsl)
      clear hsl
      by_cases hin : f ∈ L.take k
      · rw [if_pos hin] at hat
        have Hat := Lib.hid hat
        have Hin := Lib.hid hin
        clear hf hsc hat hin hmm
        go_wp2_with (first | (at_lookup; refine wpList_lookup_gm_bool _ rfl _ _ 59 rfl 3 4 keyI Try.underlying59 Try.underlying4 (zero4 _) _ k _ rfl hm _ _ rfl hkey.out true (by rw [Hat.out]) ?_) | go_in)
        go_ret
        exact ⟨ret_bool (by rw [← Hf.out] at Hin; simp [not_nodup_take hlt Hin.out]), hbw⟩
      · rw [if_neg hin] at hat
        have Hat := Lib.hid hat
        have Hin := Lib.hid hin
        clear hf hsc hat hin hmm
        go_wp2_with (first | (at_lookup; refine wpList_lookup_gm_bool _ rfl _ _ 59 rfl 3 4 keyI Try.underlying59 Try.underlying4 (zero4 _) _ k _ rfl hm _ _ rfl hkey.out false (by rw [Hat.out]) ?_) | (at_mapUpdate; refine wpList_mapUpdate_gm _ rfl _ _ _ 59 rfl 3 4 keyI Try.underlying59 _ k _ rfl hm (by unfold maxLen; omega) _ _ _ rfl rfl hkey.out trivial (.bool true) [] (plainElem_bool Try.underlying4 true) ?_; intro w1 hm1 hg1) | go_in)
        go_roundw
        case rel => exact ⟨k + 1, by omega, by go_num, hm1.ext Hsc.out, Lib.hid (take_nodup_succ hlt Hn.out (by rw [Hf.out]; exact Hin.out)), hbw.grown hg1 hsz (fun j hj => by cases hj; exact Nat.le_refl _)⟩
        case measure => simp [intOf]; omega
    · have hq : k = L.length := by omega
      subst hq
      go_wp2
      go_ret
      exact ⟨ret_bool (by have := Hn.out; simpa using this), hbw⟩

def SameUpto {α : Type} (A B : List α) (k : Nat) : Prop := ∀ i, i < k → A[i]? = B[i]?
theorem SameUpto.succ {α : Type} {A B : List α} {k : Nat} (h : SameUpto A B k) (ha : k < A.length) (hb : k < B.length) (he : A[k] = B[k]) : SameUpto A B (k + 1) := fun i hi => by
  by_cases e : i = k
  · subst e; rw [List.getElem?_eq_getElem ha, List.getElem?_eq_getElem hb, he]
  · exact h i (by omega)
theorem SameUpto.all {α : Type} {A B : List α} {k : Nat} (h : SameUpto A B k) (ha : A.length ≤ k) (hb : B.length ≤ k) : A = B := List.ext_getElem? fun i => by
  by_cases e : i < k
  · exact h i e
  · rw [List.getElem?_eq_none (by omega), List.getElem?_eq_none (by omega)]
theorem not_same {α : Type} {A B : List α} {k : Nat} (ha : k < A.length) (hb : k < B.length) (he : A[k] ≠ B[k]) : A ≠ B := fun h => by subst h; exact he rfl

set_option maxRecDepth 20000 in
set_option maxHeartbeats 2000000 in
theorem equal_any (a b : Option Addr) (ca cb : Nat) (A B : List ByteArray) (w : World) (ha : Sl 1 RStr w a A) (hb : Sl 1 RStr w b B) (hl : A.length ≤ 100000) :
    Calls Try.prog 69 #[.slice a A.length ca, .slice b B.length cb] w fun e w' => e = .returned (.bool (decide (A = B))) ∧ Below w.heap.size w w' := by
  by_cases hlen : A.length = B.length
  case neg =>
    have hne := Lib.hid (show ¬ A = B from fun h => hlen (by rw [h]))
    clear ha hb
    go_enter Try.func69, Try.ntmps69
    go_wp2
    go_ret
    exact ⟨ret_bool (by simp [hne.out]), Below.refl _ _⟩
  have Ha := Lib.hid ha
  have Hb := Lib.hid hb
  clear ha hb
  go_enter Try.func69, Try.ntmps69
  go_wp2
  go_loopw [13] (fun i wr => ∃ k : Nat, k ≤ A.length ∧ i = .int .i64 k ∧ Hid (SameUpto A B k) ∧ Below w.heap.size w wr) (fun i _ => A.length - (intOf i).toNat)
  case atStart => exact ⟨0, Nat.zero_le _, rfl, Lib.hid (fun i hi => by omega), Below.refl _ _⟩
  case round =>
    obtain ⟨k, hk, rfl, Hn, hbw⟩ := hrel
    have hsz := hbw.size
    by_cases hlt : k < A.length
    · have hlt2 : k < B.length := by omega
      obtain ⟨ba, oa, rfl, hba, hsa, c0⟩ := str_out Ha.out k hlt
      obtain ⟨bb, ob, rfl, hbb, hsb, d0⟩ := str_out Hb.out k hlt2
      rw [← hbw.cell (p := ⟨ba, _, none⟩) hba] at c0
      rw [← hbw.cell (p := ⟨bb, _, none⟩) hbb] at d0
      generalize hf : A[k] = f at *
      generalize hg : B[k] = g at *
      have Hf := Lib.hid hf
      have Hg := Lib.hid hg
      have hw1 : IntKind.i64.wrap ((k : Int) + 1) = (k : Int) + 1 := IntWalk.i64_in _ (by omega)
      clear hf hg hsa hsb
      by_cases hfg : f = g
      · subst hfg
        go_wp2_with fail
        go_quiet (fail)
        go_wp2
        go_roundw
        case rel => exact ⟨k + 1, by omega, by go_num, Lib.hid (Hn.out.succ hlt hlt2 (Hf.out.trans Hg.out.symm)), below_drewN hbw _⟩
        case measure => simp [intOf]; omega
      · have hfl := bytes_ne hfg
        have Hfg := Lib.hid hfg
        clear hfg
        go_wp2_with fail
        go_quiet (fail)
        go_wp2
        go_ret
        exact ⟨ret_bool (by simp [not_same hlt hlt2 (by rw [Hf.out, Hg.out]; exact Hfg.out)]), below_drewN hbw _⟩
    · have hq : k = A.length := by omega
      subst hq
      go_wp2
      go_ret
      exact ⟨ret_bool (by simp [Hn.out.all (Nat.le_refl _) (by omega)]), hbw⟩
set_option maxRecDepth 20000 in
set_option maxHeartbeats 2000000 in
theorem same_any (a b : Option Addr) (ca cb : Nat) (A B : List ByteArray) (w : World) (ha : Sl 1 RStr w a A) (hb : Sl 1 RStr w b B) (hl : A.length ≤ 100000) :
    Calls Try.prog 70 #[.slice a A.length ca, .slice b B.length cb] w fun e w' => e = .returned (.bool (decide (A = B))) ∧ Below w.heap.size w w' := by
  by_cases hlen : A.length = B.length
  case neg =>
    have hne := Lib.hid (show ¬ A = B from fun h => hlen (by rw [h]))
    clear ha hb
    go_enter Try.func70, Try.ntmps70
    go_wp2
    go_ret
    exact ⟨ret_bool (by simp [hne.out]), Below.refl _ _⟩
  have Ha := Lib.hid ha
  have Hb := Lib.hid hb
  clear ha hb
  go_enter Try.func70, Try.ntmps70
  go_wp2
  go_loopw [5] (fun i wr => ∃ k : Nat, k ≤ A.length ∧ i = .int .i64 k ∧ Hid (SameUpto A B k) ∧ Below w.heap.size w wr) (fun i _ => A.length - (intOf i).toNat)
  case atStart => exact ⟨0, Nat.zero_le _, rfl, Lib.hid (fun i hi => by omega), Below.refl _ _⟩
  case round =>
    obtain ⟨k, hk, rfl, Hn, hbw⟩ := hrel
    have hsz := hbw.size
    by_cases hlt : k < A.length
    · have hlt2 : k < B.length := by omega
      obtain ⟨ba, oa, rfl, hba, hsa, c0⟩ := str_out Ha.out k hlt
      obtain ⟨bb, ob, rfl, hbb, hsb, d0⟩ := str_out Hb.out k hlt2
      rw [← hbw.cell (p := ⟨ba, _, none⟩) hba] at c0
      rw [← hbw.cell (p := ⟨bb, _, none⟩) hbb] at d0
      generalize hf : A[k] = f at *
      generalize hg : B[k] = g at *
      have Hf := Lib.hid hf
      have Hg := Lib.hid hg
      have hw1 : IntKind.i64.wrap ((k : Int) + 1) = (k : Int) + 1 := IntWalk.i64_in _ (by omega)
      clear hf hg hsa hsb
      by_cases hfg : f = g
      · subst hfg
        go_wp2_with fail
        go_quiet (fail)
        go_wp2
        go_roundw
        case rel => exact ⟨k + 1, by omega, by go_num, Lib.hid (Hn.out.succ hlt hlt2 (Hf.out.trans Hg.out.symm)), below_drewN hbw _⟩
        case measure => simp [intOf]; omega
      · have hfl := bytes_ne hfg
        have Hfg := Lib.hid hfg
        clear hfg
        go_wp2_with fail
        go_quiet (fail)
        go_wp2
        go_ret
        exact ⟨ret_bool (by simp [not_same hlt hlt2 (by rw [Hf.out, Hg.out]; exact Hfg.out)]), below_drewN hbw _⟩
    · have hq : k = A.length := by omega
      subst hq
      go_wp2
      go_ret
      exact ⟨ret_bool (by simp [Hn.out.all (Nat.le_refl _) (by omega)]), hbw⟩

set_option maxRecDepth 20000 in
set_option maxHeartbeats 2000000 in
theorem rdiff_any (a : Option Addr) (ca : Nat) (A : List ByteArray) (w : World) (ha : Sl 1 RStr w a A) (hl : A.length ≤ 100000) :
    Calls Try.prog 68 #[.slice a A.length ca] w fun e w' => e = .returned (.bool (decide A.Nodup)) ∧ Below w.heap.size w w' := by
  have Ha := Lib.hid ha
  clear ha
  go_enter Try.func68, Try.ntmps68
  go_wp2
  go_loopw [3] (fun i wr => ∃ k : Nat, k ≤ A.length ∧ i = .int .i64 k ∧ Hid ((A.take k).Nodup) ∧ Below w.heap.size w wr) (fun i _ => A.length - (intOf i).toNat)
  case atStart => exact ⟨0, Nat.zero_le _, rfl, Lib.hid (by simp), Below.refl _ _⟩
  case round =>
    obtain ⟨k, hk, rfl, Hn, hbw⟩ := hrel
    obtain ⟨wo, rfl⟩ : ∃ wo : World, wo = wr := ⟨_, rfl⟩
    by_cases hlt : k < A.length
    · go_wp2
      go_loopw [4] (fun i wr => ∃ j : Nat, j ≤ k ∧ i = .int .i64 j ∧ Hid (∀ x, x < j → A[x]? ≠ A[k]?) ∧ Below w.heap.size w wr) (fun i _ => k - (intOf i).toNat)
      case atStart => exact ⟨0, Nat.zero_le _, rfl, Lib.hid (fun x hx => by omega), hbw⟩
      case round =>
        obtain ⟨j, hj, rfl, Hm, hbr⟩ := hrel
        by_cases hlj : j < k
        · have hlt2 : j < A.length := by omega
          obtain ⟨ba, oa, rfl, hba, hsa, c0⟩ := str_out Ha.out j hlt2
          obtain ⟨bb, ob, hab, hbb, hsb, d0⟩ := str_out Ha.out k hlt
          simp only [Option.some.injEq, Addr.mk.injEq, and_true] at hab
          obtain ⟨rfl, rfl⟩ := hab
          rw [← hbr.cell (p := ⟨ba, _, none⟩) hba] at c0
          rw [← hbr.cell (p := ⟨ba, _, none⟩) hbb] at d0
          generalize hf : A[j] = f at *
          generalize hg : A[k] = g at *
          have Hf := Lib.hid hf
          have Hg := Lib.hid hg
          clear hf hg hsa hsb
          by_cases hfg : f = g
          · subst hfg
            go_wp2_with fail
            go_quiet (fail)
            go_wp2
            go_ret
            exact ⟨ret_bool (by
              have : ¬ A.Nodup := fun h => by
                have := (List.getElem_inj h (i := j) (j := k) (h₀ := hlt2) (h₁ := hlt)).1 (Hf.out.trans Hg.out.symm)
                omega
              simp [this]), below_drewN hbr _⟩
          · have hfl := bytes_ne hfg
            have Hfg := Lib.hid hfg
            clear hfg
            go_wp2_with fail
            go_quiet (fail)
            go_wp2
            go_roundw
            case rel => exact ⟨j + 1, by omega, by go_num, Lib.hid (fun x hx => by
              by_cases e : x = j
              · subst e
                rw [List.getElem?_eq_getElem hlt2, List.getElem?_eq_getElem hlt, Hf.out, Hg.out]
                simpa using Hfg.out
              · exact Hm.out x (by omega)), below_drewN hbr _⟩
            case measure => simp [intOf]; omega
        · have hq : j = k := by omega
          subst hq
          go_wp2
          go_roundw
          case rel => exact ⟨j + 1, by omega, by go_num, Lib.hid (take_nodup_succ hlt Hn.out (fun h => by
            obtain ⟨x, hx, he⟩ := List.getElem_of_mem h
            simp at hx he
            refine Hm.out x (by omega) ?_
            rw [List.getElem?_eq_getElem (by omega), List.getElem?_eq_getElem hlt, he])), hbr⟩
          case measure => simp [intOf]; omega
    · have hq : k = A.length := by omega
      subst hq
      go_wp2
      go_ret
      exact ⟨ret_bool (by have := Hn.out; simpa using this), hbw⟩
end Go.Proofs.Ytogenjbabgibbaa
namespace Go.Proofs.Ytogenjbabgibbaa
open Go.RowKit

def kind4 (t : TyD) : Bool := decide (t.lo = 0) && decide (t.hi = (t.names.length : Int) - 1) && decide (t.unit = -1) && decide (1 ≤ t.names.length) && decide (t.names.length ≤ 16) && decide t.names.Nodup
def kindB (t : TyD) (n : Int) : Bool := if t.kind = 1 then kind1 t n else if t.kind = 2 then kind2 t else if t.kind = 3 then kind3 t else if t.kind = 4 then kind4 t else false

theorem alloc1 (w : World) (c : Array Value) (t : TypeId) : Below w.heap.size w (w.alloc (.cells c t)) := (Below.refl _ _).alloc (Nat.le_refl _) _
theorem alloc2 (w : World) (c c' : Array Value) (t t' : TypeId) : Below w.heap.size w ((w.alloc (.cells c t)).alloc (.cells c' t')) := (alloc1 w c t).alloc (by simp) _

set_option maxRecDepth 20000 in
set_option maxHeartbeats 1000000 in
theorem kind4_any (t : TyD) (n : Int) (an : Option Addr) (kn : Nat) (w : World) (hn : Sl 1 RStr w an t.names) (hl : t.names.length ≤ 100000) :
    Calls Try.prog 82 #[t.val an kn, .int .i64 n] w fun e w' => e = .returned (.bool (kind4 t)) ∧ Below w.heap.size w w' := by
  have Hn := Lib.hid (hn.below RStr.stab (alloc1 w #[.int .i64 t.kind, .int .i64 t.lo, .int .i64 t.hi, .string t.of_, .int .i64 t.unit, .slice an t.names.length kn] 71))
  clear hn
  by_cases hall : t.lo = 0 ∧ t.hi = (t.names.length : Int) - 1 ∧ t.unit = -1 ∧ 1 ≤ t.names.length ∧ t.names.length ≤ 16
  case pos =>
    obtain ⟨h1, h2, h3, h4, h5⟩ := hall
    obtain ⟨tk, lo, hi, of_, un, names⟩ := t
    simp only at h1 h2 h3 h4 h5 Hn ⊢
    subst h1 h2 h3
    go_enter Try.func82, Try.ntmps82
    go_wp2_with fail
    refine (diffS_any an kn names _ Hn.out (by omega)).mono ?_
    rintro e w1 ⟨rfl, hb1⟩
    go_wp2
    go_ret
    exact ⟨ret_bool (by simp only [kind4]; simp [h4, h5]), (alloc1 w _ _).trans (hb1.mono (by simp))⟩
  case neg =>
    have Hall := Lib.hid hall
    clear hall
    go_enter Try.func82, Try.ntmps82
    go_wp2
    all_goals (try (exfalso; have := Hall.out; omega))
    all_goals go_ret
    all_goals exact ⟨ret_bool (by have := Hall.out; simp only [kind4]; simp; try grind), alloc1 w _ _⟩

abbrev fnK (i : Nat) : Value := .func (.func i) #[] #[]
theorem size116 : (Try.prog.info? 116).map (·.size) = some 5 := by kernel_rfl
theorem kinds_any (w : World) : Calls Try.prog 67 #[] w fun e w' => e = .returned (.agg #[.nilFunc, fnK 79, fnK 80, fnK 81, fnK 82]) ∧ Below w.heap.size w w' := by
  go_enter Try.func67, Try.ntmps67
  go_wp2_with (refine wpList_store_row rfl 116 _ _ rfl w.heap.size #[.nilFunc, fnK 79, fnK 80, fnK 81, fnK 82] rfl rfl 116 _ (heap_alloc_new w _) size116 rfl (by simp [Value.oneCell']) ?_; rw [World.setRow_alloc_new])
  exact bodyPost_ret (results_cell_row rfl _ _ _ 116 #[.nilFunc, fnK 79, fnK 80, fnK 81, fnK 82] (0, 0) _ rfl (heap_alloc_new w _) Try.underlying116 rfl size116) rfl ⟨rfl, alloc1 w _ _⟩

theorem typeOK_out (s : SourceD) (p : SrcAt) (t : TyD) (an : Option Addr) (kn : Nat) (w : World) (h : ¬ (1 ≤ t.kind ∧ t.kind ≤ 4)) :
    Calls Try.prog 41 #[s.val p, t.val an kn] w fun e w' => e = .returned (.bool (kindB t s.units.length)) ∧ Below w.heap.size w w' := by
  have H := Lib.hid h
  clear h
  go_enter Try.func41, Try.ntmps41
  go_wp2_with fail
  all_goals (try (exfalso; have := H.out; omega))
  all_goals go_ret
  all_goals exact ⟨ret_bool (by have := H.out; unfold kindB; rw [if_neg (by omega), if_neg (by omega), if_neg (by omega), if_neg (by omega)]), alloc2 w _ _ _ _⟩

end Go.Proofs.Ytogenjbabgibbaa
namespace Go.Proofs.Ytogenjbabgibbaa
open Go.RowKit

set_option maxRecDepth 20000 in
set_option maxHeartbeats 4000000 in
theorem typeOK_1 (s : SourceD) (p : SrcAt) (lo hi un : Int) (of_ : ByteArray) (names : List ByteArray) (an : Option Addr) (kn : Nat) (w : World) (r : Bool)
    (hc : ∀ w', Below w.heap.size w w' → Calls Try.prog 79 #[.agg #[.int .i64 1, .int .i64 lo, .int .i64 hi, .string of_, .int .i64 un, .slice an names.length kn], .int .i64 s.units.length] w' fun e w'' => e = .returned (.bool r) ∧ Below w'.heap.size w' w'') :
    Calls Try.prog 41 #[s.val p, .agg #[.int .i64 1, .int .i64 lo, .int .i64 hi, .string of_, .int .i64 un, .slice an names.length kn]] w fun e w' => e = .returned (.bool r) ∧ Below w.heap.size w w' := by
  have Hc := Lib.hid hc
  clear hc
  have hb0 := Lib.hid (alloc2 w #[.slice p.a0 s.issuers.length p.k0, .slice p.a1 s.units.length p.k1, .slice p.a2 s.schemas.length p.k2, .slice p.a3 s.rules.length p.k3, .slice p.a4 s.converts p.k4, .slice p.a5 s.purposes.length p.k5] #[.int .i64 1, .int .i64 lo, .int .i64 hi, .string of_, .int .i64 un, .slice an names.length kn] 81 71)
  go_enter Try.func41, Try.ntmps41
  go_wp2_with fail
  obtain ⟨w0, hw0⟩ : ∃ w0 : World, w0 = ((w.alloc (.cells #[.slice p.a0 s.issuers.length p.k0, .slice p.a1 s.units.length p.k1, .slice p.a2 s.schemas.length p.k2, .slice p.a3 s.rules.length p.k3, .slice p.a4 s.converts p.k4, .slice p.a5 s.purposes.length p.k5] 81)).alloc (.cells #[.int .i64 1, .int .i64 lo, .int .i64 hi, .string of_, .int .i64 un, .slice an names.length kn] 71)) := ⟨_, rfl⟩
  have hsz : w0.heap.size = w.heap.size + 2 := by rw [hw0]; simp
  have X1 : Blk w0 w.heap.size #[.slice p.a0 s.issuers.length p.k0, .slice p.a1 s.units.length p.k1, .slice p.a2 s.schemas.length p.k2, .slice p.a3 s.rules.length p.k3, .slice p.a4 s.converts p.k4, .slice p.a5 s.purposes.length p.k5] 81 := by rw [hw0]; exact (Blk.new _ _ _).alloc _
  have X2 : Blk w0 (w.heap.size + 1) #[.int .i64 1, .int .i64 lo, .int .i64 hi, .string of_, .int .i64 un, .slice an names.length kn] 71 := by rw [hw0]; have := Blk.new (w.alloc (.cells #[.slice p.a0 s.issuers.length p.k0, .slice p.a1 s.units.length p.k1, .slice p.a2 s.schemas.length p.k2, .slice p.a3 s.rules.length p.k3, .slice p.a4 s.converts p.k4, .slice p.a5 s.purposes.length p.k5] 81)) #[.int .i64 1, .int .i64 lo, .int .i64 hi, .string of_, .int .i64 un, .slice an names.length kn] 71; simpa using this
  rw [← hw0] at hb0 ⊢
  clear hw0
  have hix : ∀ w' : World, (Instr.index 116 (.agg #[.nilFunc, fnK 79, fnK 80, fnK 81, fnK 82]) (.int .i64 1)).run Try.prog w' = .ok (fnK 79) w' := fun w' => by kernel_rfl
  have x1 := X1.cell 1
  have y0 := X2.cell 0
  have y1 := X2.cell 1
  have y2 := X2.cell 2
  have y3 := X2.cell 3
  have y4 := X2.cell 4
  have y5 := X2.cell 5
  simp at x1 y0 y1 y2 y3 y4 y5
  have X1 := Lib.hid X1
  have X2 := Lib.hid X2
  go_region_held3 (fun w' => w'.cell? ⟨w.heap.size, 1, none⟩ = some (.slice p.a1 s.units.length p.k1) ∧ w'.cell? ⟨w.heap.size + 1, 0, none⟩ = some (.int .i64 1) ∧ w'.cell? ⟨w.heap.size + 1, 1, none⟩ = some (.int .i64 lo) ∧ w'.cell? ⟨w.heap.size + 1, 2, none⟩ = some (.int .i64 hi) ∧ w'.cell? ⟨w.heap.size + 1, 3, none⟩ = some (.string of_) ∧ w'.cell? ⟨w.heap.size + 1, 4, none⟩ = some (.int .i64 un) ∧ w'.cell? ⟨w.heap.size + 1, 5, none⟩ = some (.slice an names.length kn))
    (first
      | go_keep
      | exact HS2.out
      | exact HS1.out)
    ((first
      | (go_at_call 67; refine (kinds_any w0.drew).mono ?_; rintro e w1 ⟨rfl, hb1⟩; have HS1 := Lib.hid (show w1.cell? ⟨w.heap.size, 1, none⟩ = some (.slice p.a1 s.units.length p.k1) ∧ w1.cell? ⟨w.heap.size + 1, 0, none⟩ = some (.int .i64 1) ∧ w1.cell? ⟨w.heap.size + 1, 1, none⟩ = some (.int .i64 lo) ∧ w1.cell? ⟨w.heap.size + 1, 2, none⟩ = some (.int .i64 hi) ∧ w1.cell? ⟨w.heap.size + 1, 3, none⟩ = some (.string of_) ∧ w1.cell? ⟨w.heap.size + 1, 4, none⟩ = some (.int .i64 un) ∧ w1.cell? ⟨w.heap.size + 1, 5, none⟩ = some (.slice an names.length kn) from ⟨(hb1.cell (p := ⟨w.heap.size, _, none⟩) X1.out.lt).trans x1, (hb1.cell (p := ⟨w.heap.size + 1, _, none⟩) X2.out.lt).trans y0, (hb1.cell (p := ⟨w.heap.size + 1, _, none⟩) X2.out.lt).trans y1, (hb1.cell (p := ⟨w.heap.size + 1, _, none⟩) X2.out.lt).trans y2, (hb1.cell (p := ⟨w.heap.size + 1, _, none⟩) X2.out.lt).trans y3, (hb1.cell (p := ⟨w.heap.size + 1, _, none⟩) X2.out.lt).trans y4, (hb1.cell (p := ⟨w.heap.size + 1, _, none⟩) X2.out.lt).trans y5⟩); have hsz1 := Lib.hid hb1.size; have B1 := Lib.hid (hb0.out.drew.trans (hb1.mono (by simp [hsz]))); clear hb1)
      | (go_at_call 79; refine (Hc.out _ B1.out).mono ?_; rintro e w2 ⟨rfl, hb2⟩; have hl1 := Nat.lt_of_lt_of_le X1.out.lt hsz1.out; have hl2 := Nat.lt_of_lt_of_le X2.out.lt hsz1.out; obtain ⟨s0, s1, s2, s3, s4, s5, s6⟩ := HS1.out; have HS2 := Lib.hid (show w2.cell? ⟨w.heap.size, 1, none⟩ = some (.slice p.a1 s.units.length p.k1) ∧ w2.cell? ⟨w.heap.size + 1, 0, none⟩ = some (.int .i64 1) ∧ w2.cell? ⟨w.heap.size + 1, 1, none⟩ = some (.int .i64 lo) ∧ w2.cell? ⟨w.heap.size + 1, 2, none⟩ = some (.int .i64 hi) ∧ w2.cell? ⟨w.heap.size + 1, 3, none⟩ = some (.string of_) ∧ w2.cell? ⟨w.heap.size + 1, 4, none⟩ = some (.int .i64 un) ∧ w2.cell? ⟨w.heap.size + 1, 5, none⟩ = some (.slice an names.length kn) from ⟨(hb2.cell (p := ⟨w.heap.size, _, none⟩) hl1).trans s0, (hb2.cell (p := ⟨w.heap.size + 1, _, none⟩) hl2).trans s1, (hb2.cell (p := ⟨w.heap.size + 1, _, none⟩) hl2).trans s2, (hb2.cell (p := ⟨w.heap.size + 1, _, none⟩) hl2).trans s3, (hb2.cell (p := ⟨w.heap.size + 1, _, none⟩) hl2).trans s4, (hb2.cell (p := ⟨w.heap.size + 1, _, none⟩) hl2).trans s5, (hb2.cell (p := ⟨w.heap.size + 1, _, none⟩) hl2).trans s6⟩); clear s0 s1 s2 s3 s4 s5 s6 hl1 hl2; have B2 := Lib.hid (B1.out.trans (hb2.mono B1.out.size)); clear hb2)))
  go_wp2
  go_ret
  exact ⟨rfl, B2.out⟩

set_option maxRecDepth 20000 in
set_option maxHeartbeats 4000000 in
theorem typeOK_2 (s : SourceD) (p : SrcAt) (lo hi un : Int) (of_ : ByteArray) (names : List ByteArray) (an : Option Addr) (kn : Nat) (w : World) (r : Bool)
    (hc : ∀ w', Below w.heap.size w w' → Calls Try.prog 80 #[.agg #[.int .i64 2, .int .i64 lo, .int .i64 hi, .string of_, .int .i64 un, .slice an names.length kn], .int .i64 s.units.length] w' fun e w'' => e = .returned (.bool r) ∧ Below w'.heap.size w' w'') :
    Calls Try.prog 41 #[s.val p, .agg #[.int .i64 2, .int .i64 lo, .int .i64 hi, .string of_, .int .i64 un, .slice an names.length kn]] w fun e w' => e = .returned (.bool r) ∧ Below w.heap.size w w' := by
  have Hc := Lib.hid hc
  clear hc
  have hb0 := Lib.hid (alloc2 w #[.slice p.a0 s.issuers.length p.k0, .slice p.a1 s.units.length p.k1, .slice p.a2 s.schemas.length p.k2, .slice p.a3 s.rules.length p.k3, .slice p.a4 s.converts p.k4, .slice p.a5 s.purposes.length p.k5] #[.int .i64 2, .int .i64 lo, .int .i64 hi, .string of_, .int .i64 un, .slice an names.length kn] 81 71)
  go_enter Try.func41, Try.ntmps41
  go_wp2_with fail
  obtain ⟨w0, hw0⟩ : ∃ w0 : World, w0 = ((w.alloc (.cells #[.slice p.a0 s.issuers.length p.k0, .slice p.a1 s.units.length p.k1, .slice p.a2 s.schemas.length p.k2, .slice p.a3 s.rules.length p.k3, .slice p.a4 s.converts p.k4, .slice p.a5 s.purposes.length p.k5] 81)).alloc (.cells #[.int .i64 2, .int .i64 lo, .int .i64 hi, .string of_, .int .i64 un, .slice an names.length kn] 71)) := ⟨_, rfl⟩
  have hsz : w0.heap.size = w.heap.size + 2 := by rw [hw0]; simp
  have X1 : Blk w0 w.heap.size #[.slice p.a0 s.issuers.length p.k0, .slice p.a1 s.units.length p.k1, .slice p.a2 s.schemas.length p.k2, .slice p.a3 s.rules.length p.k3, .slice p.a4 s.converts p.k4, .slice p.a5 s.purposes.length p.k5] 81 := by rw [hw0]; exact (Blk.new _ _ _).alloc _
  have X2 : Blk w0 (w.heap.size + 1) #[.int .i64 2, .int .i64 lo, .int .i64 hi, .string of_, .int .i64 un, .slice an names.length kn] 71 := by rw [hw0]; have := Blk.new (w.alloc (.cells #[.slice p.a0 s.issuers.length p.k0, .slice p.a1 s.units.length p.k1, .slice p.a2 s.schemas.length p.k2, .slice p.a3 s.rules.length p.k3, .slice p.a4 s.converts p.k4, .slice p.a5 s.purposes.length p.k5] 81)) #[.int .i64 2, .int .i64 lo, .int .i64 hi, .string of_, .int .i64 un, .slice an names.length kn] 71; simpa using this
  rw [← hw0] at hb0 ⊢
  clear hw0
  have hix : ∀ w' : World, (Instr.index 116 (.agg #[.nilFunc, fnK 79, fnK 80, fnK 81, fnK 82]) (.int .i64 2)).run Try.prog w' = .ok (fnK 80) w' := fun w' => by kernel_rfl
  have x1 := X1.cell 1
  have y0 := X2.cell 0
  have y1 := X2.cell 1
  have y2 := X2.cell 2
  have y3 := X2.cell 3
  have y4 := X2.cell 4
  have y5 := X2.cell 5
  simp at x1 y0 y1 y2 y3 y4 y5
  have X1 := Lib.hid X1
  have X2 := Lib.hid X2
  go_region_held3 (fun w' => w'.cell? ⟨w.heap.size, 1, none⟩ = some (.slice p.a1 s.units.length p.k1) ∧ w'.cell? ⟨w.heap.size + 1, 0, none⟩ = some (.int .i64 2) ∧ w'.cell? ⟨w.heap.size + 1, 1, none⟩ = some (.int .i64 lo) ∧ w'.cell? ⟨w.heap.size + 1, 2, none⟩ = some (.int .i64 hi) ∧ w'.cell? ⟨w.heap.size + 1, 3, none⟩ = some (.string of_) ∧ w'.cell? ⟨w.heap.size + 1, 4, none⟩ = some (.int .i64 un) ∧ w'.cell? ⟨w.heap.size + 1, 5, none⟩ = some (.slice an names.length kn))
    (first
      | go_keep
      | exact HS2.out
      | exact HS1.out)
    ((first
      | (go_at_call 67; refine (kinds_any w0.drew).mono ?_; rintro e w1 ⟨rfl, hb1⟩; have HS1 := Lib.hid (show w1.cell? ⟨w.heap.size, 1, none⟩ = some (.slice p.a1 s.units.length p.k1) ∧ w1.cell? ⟨w.heap.size + 1, 0, none⟩ = some (.int .i64 2) ∧ w1.cell? ⟨w.heap.size + 1, 1, none⟩ = some (.int .i64 lo) ∧ w1.cell? ⟨w.heap.size + 1, 2, none⟩ = some (.int .i64 hi) ∧ w1.cell? ⟨w.heap.size + 1, 3, none⟩ = some (.string of_) ∧ w1.cell? ⟨w.heap.size + 1, 4, none⟩ = some (.int .i64 un) ∧ w1.cell? ⟨w.heap.size + 1, 5, none⟩ = some (.slice an names.length kn) from ⟨(hb1.cell (p := ⟨w.heap.size, _, none⟩) X1.out.lt).trans x1, (hb1.cell (p := ⟨w.heap.size + 1, _, none⟩) X2.out.lt).trans y0, (hb1.cell (p := ⟨w.heap.size + 1, _, none⟩) X2.out.lt).trans y1, (hb1.cell (p := ⟨w.heap.size + 1, _, none⟩) X2.out.lt).trans y2, (hb1.cell (p := ⟨w.heap.size + 1, _, none⟩) X2.out.lt).trans y3, (hb1.cell (p := ⟨w.heap.size + 1, _, none⟩) X2.out.lt).trans y4, (hb1.cell (p := ⟨w.heap.size + 1, _, none⟩) X2.out.lt).trans y5⟩); have hsz1 := Lib.hid hb1.size; have B1 := Lib.hid (hb0.out.drew.trans (hb1.mono (by simp [hsz]))); clear hb1)
      | (go_at_call 80; refine (Hc.out _ B1.out).mono ?_; rintro e w2 ⟨rfl, hb2⟩; have hl1 := Nat.lt_of_lt_of_le X1.out.lt hsz1.out; have hl2 := Nat.lt_of_lt_of_le X2.out.lt hsz1.out; obtain ⟨s0, s1, s2, s3, s4, s5, s6⟩ := HS1.out; have HS2 := Lib.hid (show w2.cell? ⟨w.heap.size, 1, none⟩ = some (.slice p.a1 s.units.length p.k1) ∧ w2.cell? ⟨w.heap.size + 1, 0, none⟩ = some (.int .i64 2) ∧ w2.cell? ⟨w.heap.size + 1, 1, none⟩ = some (.int .i64 lo) ∧ w2.cell? ⟨w.heap.size + 1, 2, none⟩ = some (.int .i64 hi) ∧ w2.cell? ⟨w.heap.size + 1, 3, none⟩ = some (.string of_) ∧ w2.cell? ⟨w.heap.size + 1, 4, none⟩ = some (.int .i64 un) ∧ w2.cell? ⟨w.heap.size + 1, 5, none⟩ = some (.slice an names.length kn) from ⟨(hb2.cell (p := ⟨w.heap.size, _, none⟩) hl1).trans s0, (hb2.cell (p := ⟨w.heap.size + 1, _, none⟩) hl2).trans s1, (hb2.cell (p := ⟨w.heap.size + 1, _, none⟩) hl2).trans s2, (hb2.cell (p := ⟨w.heap.size + 1, _, none⟩) hl2).trans s3, (hb2.cell (p := ⟨w.heap.size + 1, _, none⟩) hl2).trans s4, (hb2.cell (p := ⟨w.heap.size + 1, _, none⟩) hl2).trans s5, (hb2.cell (p := ⟨w.heap.size + 1, _, none⟩) hl2).trans s6⟩); clear s0 s1 s2 s3 s4 s5 s6 hl1 hl2; have B2 := Lib.hid (B1.out.trans (hb2.mono B1.out.size)); clear hb2)))
  go_wp2
  go_ret
  exact ⟨rfl, B2.out⟩

set_option maxRecDepth 20000 in
set_option maxHeartbeats 4000000 in
theorem typeOK_3 (s : SourceD) (p : SrcAt) (lo hi un : Int) (of_ : ByteArray) (names : List ByteArray) (an : Option Addr) (kn : Nat) (w : World) (r : Bool)
    (hc : ∀ w', Below w.heap.size w w' → Calls Try.prog 81 #[.agg #[.int .i64 3, .int .i64 lo, .int .i64 hi, .string of_, .int .i64 un, .slice an names.length kn], .int .i64 s.units.length] w' fun e w'' => e = .returned (.bool r) ∧ Below w'.heap.size w' w'') :
    Calls Try.prog 41 #[s.val p, .agg #[.int .i64 3, .int .i64 lo, .int .i64 hi, .string of_, .int .i64 un, .slice an names.length kn]] w fun e w' => e = .returned (.bool r) ∧ Below w.heap.size w w' := by
  have Hc := Lib.hid hc
  clear hc
  have hb0 := Lib.hid (alloc2 w #[.slice p.a0 s.issuers.length p.k0, .slice p.a1 s.units.length p.k1, .slice p.a2 s.schemas.length p.k2, .slice p.a3 s.rules.length p.k3, .slice p.a4 s.converts p.k4, .slice p.a5 s.purposes.length p.k5] #[.int .i64 3, .int .i64 lo, .int .i64 hi, .string of_, .int .i64 un, .slice an names.length kn] 81 71)
  go_enter Try.func41, Try.ntmps41
  go_wp2_with fail
  obtain ⟨w0, hw0⟩ : ∃ w0 : World, w0 = ((w.alloc (.cells #[.slice p.a0 s.issuers.length p.k0, .slice p.a1 s.units.length p.k1, .slice p.a2 s.schemas.length p.k2, .slice p.a3 s.rules.length p.k3, .slice p.a4 s.converts p.k4, .slice p.a5 s.purposes.length p.k5] 81)).alloc (.cells #[.int .i64 3, .int .i64 lo, .int .i64 hi, .string of_, .int .i64 un, .slice an names.length kn] 71)) := ⟨_, rfl⟩
  have hsz : w0.heap.size = w.heap.size + 2 := by rw [hw0]; simp
  have X1 : Blk w0 w.heap.size #[.slice p.a0 s.issuers.length p.k0, .slice p.a1 s.units.length p.k1, .slice p.a2 s.schemas.length p.k2, .slice p.a3 s.rules.length p.k3, .slice p.a4 s.converts p.k4, .slice p.a5 s.purposes.length p.k5] 81 := by rw [hw0]; exact (Blk.new _ _ _).alloc _
  have X2 : Blk w0 (w.heap.size + 1) #[.int .i64 3, .int .i64 lo, .int .i64 hi, .string of_, .int .i64 un, .slice an names.length kn] 71 := by rw [hw0]; have := Blk.new (w.alloc (.cells #[.slice p.a0 s.issuers.length p.k0, .slice p.a1 s.units.length p.k1, .slice p.a2 s.schemas.length p.k2, .slice p.a3 s.rules.length p.k3, .slice p.a4 s.converts p.k4, .slice p.a5 s.purposes.length p.k5] 81)) #[.int .i64 3, .int .i64 lo, .int .i64 hi, .string of_, .int .i64 un, .slice an names.length kn] 71; simpa using this
  rw [← hw0] at hb0 ⊢
  clear hw0
  have hix : ∀ w' : World, (Instr.index 116 (.agg #[.nilFunc, fnK 79, fnK 80, fnK 81, fnK 82]) (.int .i64 3)).run Try.prog w' = .ok (fnK 81) w' := fun w' => by kernel_rfl
  have x1 := X1.cell 1
  have y0 := X2.cell 0
  have y1 := X2.cell 1
  have y2 := X2.cell 2
  have y3 := X2.cell 3
  have y4 := X2.cell 4
  have y5 := X2.cell 5
  simp at x1 y0 y1 y2 y3 y4 y5
  have X1 := Lib.hid X1
  have X2 := Lib.hid X2
  go_region_held3 (fun w' => w'.cell? ⟨w.heap.size, 1, none⟩ = some (.slice p.a1 s.units.length p.k1) ∧ w'.cell? ⟨w.heap.size + 1, 0, none⟩ = some (.int .i64 3) ∧ w'.cell? ⟨w.heap.size + 1, 1, none⟩ = some (.int .i64 lo) ∧ w'.cell? ⟨w.heap.size + 1, 2, none⟩ = some (.int .i64 hi) ∧ w'.cell? ⟨w.heap.size + 1, 3, none⟩ = some (.string of_) ∧ w'.cell? ⟨w.heap.size + 1, 4, none⟩ = some (.int .i64 un) ∧ w'.cell? ⟨w.heap.size + 1, 5, none⟩ = some (.slice an names.length kn))
    (first
      | go_keep
      | exact HS2.out
      | exact HS1.out)
    ((first
      | (go_at_call 67; refine (kinds_any w0.drew).mono ?_; rintro e w1 ⟨rfl, hb1⟩; have HS1 := Lib.hid (show w1.cell? ⟨w.heap.size, 1, none⟩ = some (.slice p.a1 s.units.length p.k1) ∧ w1.cell? ⟨w.heap.size + 1, 0, none⟩ = some (.int .i64 3) ∧ w1.cell? ⟨w.heap.size + 1, 1, none⟩ = some (.int .i64 lo) ∧ w1.cell? ⟨w.heap.size + 1, 2, none⟩ = some (.int .i64 hi) ∧ w1.cell? ⟨w.heap.size + 1, 3, none⟩ = some (.string of_) ∧ w1.cell? ⟨w.heap.size + 1, 4, none⟩ = some (.int .i64 un) ∧ w1.cell? ⟨w.heap.size + 1, 5, none⟩ = some (.slice an names.length kn) from ⟨(hb1.cell (p := ⟨w.heap.size, _, none⟩) X1.out.lt).trans x1, (hb1.cell (p := ⟨w.heap.size + 1, _, none⟩) X2.out.lt).trans y0, (hb1.cell (p := ⟨w.heap.size + 1, _, none⟩) X2.out.lt).trans y1, (hb1.cell (p := ⟨w.heap.size + 1, _, none⟩) X2.out.lt).trans y2, (hb1.cell (p := ⟨w.heap.size + 1, _, none⟩) X2.out.lt).trans y3, (hb1.cell (p := ⟨w.heap.size + 1, _, none⟩) X2.out.lt).trans y4, (hb1.cell (p := ⟨w.heap.size + 1, _, none⟩) X2.out.lt).trans y5⟩); have hsz1 := Lib.hid hb1.size; have B1 := Lib.hid (hb0.out.drew.trans (hb1.mono (by simp [hsz]))); clear hb1)
      | (go_at_call 81; refine (Hc.out _ B1.out).mono ?_; rintro e w2 ⟨rfl, hb2⟩; have hl1 := Nat.lt_of_lt_of_le X1.out.lt hsz1.out; have hl2 := Nat.lt_of_lt_of_le X2.out.lt hsz1.out; obtain ⟨s0, s1, s2, s3, s4, s5, s6⟩ := HS1.out; have HS2 := Lib.hid (show w2.cell? ⟨w.heap.size, 1, none⟩ = some (.slice p.a1 s.units.length p.k1) ∧ w2.cell? ⟨w.heap.size + 1, 0, none⟩ = some (.int .i64 3) ∧ w2.cell? ⟨w.heap.size + 1, 1, none⟩ = some (.int .i64 lo) ∧ w2.cell? ⟨w.heap.size + 1, 2, none⟩ = some (.int .i64 hi) ∧ w2.cell? ⟨w.heap.size + 1, 3, none⟩ = some (.string of_) ∧ w2.cell? ⟨w.heap.size + 1, 4, none⟩ = some (.int .i64 un) ∧ w2.cell? ⟨w.heap.size + 1, 5, none⟩ = some (.slice an names.length kn) from ⟨(hb2.cell (p := ⟨w.heap.size, _, none⟩) hl1).trans s0, (hb2.cell (p := ⟨w.heap.size + 1, _, none⟩) hl2).trans s1, (hb2.cell (p := ⟨w.heap.size + 1, _, none⟩) hl2).trans s2, (hb2.cell (p := ⟨w.heap.size + 1, _, none⟩) hl2).trans s3, (hb2.cell (p := ⟨w.heap.size + 1, _, none⟩) hl2).trans s4, (hb2.cell (p := ⟨w.heap.size + 1, _, none⟩) hl2).trans s5, (hb2.cell (p := ⟨w.heap.size + 1, _, none⟩) hl2).trans s6⟩); clear s0 s1 s2 s3 s4 s5 s6 hl1 hl2; have B2 := Lib.hid (B1.out.trans (hb2.mono B1.out.size)); clear hb2)))
  go_wp2
  go_ret
  exact ⟨rfl, B2.out⟩

set_option maxRecDepth 20000 in
set_option maxHeartbeats 4000000 in
theorem typeOK_4 (s : SourceD) (p : SrcAt) (lo hi un : Int) (of_ : ByteArray) (names : List ByteArray) (an : Option Addr) (kn : Nat) (w : World) (r : Bool)
    (hc : ∀ w', Below w.heap.size w w' → Calls Try.prog 82 #[.agg #[.int .i64 4, .int .i64 lo, .int .i64 hi, .string of_, .int .i64 un, .slice an names.length kn], .int .i64 s.units.length] w' fun e w'' => e = .returned (.bool r) ∧ Below w'.heap.size w' w'') :
    Calls Try.prog 41 #[s.val p, .agg #[.int .i64 4, .int .i64 lo, .int .i64 hi, .string of_, .int .i64 un, .slice an names.length kn]] w fun e w' => e = .returned (.bool r) ∧ Below w.heap.size w w' := by
  have Hc := Lib.hid hc
  clear hc
  have hb0 := Lib.hid (alloc2 w #[.slice p.a0 s.issuers.length p.k0, .slice p.a1 s.units.length p.k1, .slice p.a2 s.schemas.length p.k2, .slice p.a3 s.rules.length p.k3, .slice p.a4 s.converts p.k4, .slice p.a5 s.purposes.length p.k5] #[.int .i64 4, .int .i64 lo, .int .i64 hi, .string of_, .int .i64 un, .slice an names.length kn] 81 71)
  go_enter Try.func41, Try.ntmps41
  go_wp2_with fail
  obtain ⟨w0, hw0⟩ : ∃ w0 : World, w0 = ((w.alloc (.cells #[.slice p.a0 s.issuers.length p.k0, .slice p.a1 s.units.length p.k1, .slice p.a2 s.schemas.length p.k2, .slice p.a3 s.rules.length p.k3, .slice p.a4 s.converts p.k4, .slice p.a5 s.purposes.length p.k5] 81)).alloc (.cells #[.int .i64 4, .int .i64 lo, .int .i64 hi, .string of_, .int .i64 un, .slice an names.length kn] 71)) := ⟨_, rfl⟩
  have hsz : w0.heap.size = w.heap.size + 2 := by rw [hw0]; simp
  have X1 : Blk w0 w.heap.size #[.slice p.a0 s.issuers.length p.k0, .slice p.a1 s.units.length p.k1, .slice p.a2 s.schemas.length p.k2, .slice p.a3 s.rules.length p.k3, .slice p.a4 s.converts p.k4, .slice p.a5 s.purposes.length p.k5] 81 := by rw [hw0]; exact (Blk.new _ _ _).alloc _
  have X2 : Blk w0 (w.heap.size + 1) #[.int .i64 4, .int .i64 lo, .int .i64 hi, .string of_, .int .i64 un, .slice an names.length kn] 71 := by rw [hw0]; have := Blk.new (w.alloc (.cells #[.slice p.a0 s.issuers.length p.k0, .slice p.a1 s.units.length p.k1, .slice p.a2 s.schemas.length p.k2, .slice p.a3 s.rules.length p.k3, .slice p.a4 s.converts p.k4, .slice p.a5 s.purposes.length p.k5] 81)) #[.int .i64 4, .int .i64 lo, .int .i64 hi, .string of_, .int .i64 un, .slice an names.length kn] 71; simpa using this
  rw [← hw0] at hb0 ⊢
  clear hw0
  have hix : ∀ w' : World, (Instr.index 116 (.agg #[.nilFunc, fnK 79, fnK 80, fnK 81, fnK 82]) (.int .i64 4)).run Try.prog w' = .ok (fnK 82) w' := fun w' => by kernel_rfl
  have x1 := X1.cell 1
  have y0 := X2.cell 0
  have y1 := X2.cell 1
  have y2 := X2.cell 2
  have y3 := X2.cell 3
  have y4 := X2.cell 4
  have y5 := X2.cell 5
  simp at x1 y0 y1 y2 y3 y4 y5
  have X1 := Lib.hid X1
  have X2 := Lib.hid X2
  go_region_held3 (fun w' => w'.cell? ⟨w.heap.size, 1, none⟩ = some (.slice p.a1 s.units.length p.k1) ∧ w'.cell? ⟨w.heap.size + 1, 0, none⟩ = some (.int .i64 4) ∧ w'.cell? ⟨w.heap.size + 1, 1, none⟩ = some (.int .i64 lo) ∧ w'.cell? ⟨w.heap.size + 1, 2, none⟩ = some (.int .i64 hi) ∧ w'.cell? ⟨w.heap.size + 1, 3, none⟩ = some (.string of_) ∧ w'.cell? ⟨w.heap.size + 1, 4, none⟩ = some (.int .i64 un) ∧ w'.cell? ⟨w.heap.size + 1, 5, none⟩ = some (.slice an names.length kn))
    (first
      | go_keep
      | exact HS2.out
      | exact HS1.out)
    ((first
      | (go_at_call 67; refine (kinds_any w0.drew).mono ?_; rintro e w1 ⟨rfl, hb1⟩; have HS1 := Lib.hid (show w1.cell? ⟨w.heap.size, 1, none⟩ = some (.slice p.a1 s.units.length p.k1) ∧ w1.cell? ⟨w.heap.size + 1, 0, none⟩ = some (.int .i64 4) ∧ w1.cell? ⟨w.heap.size + 1, 1, none⟩ = some (.int .i64 lo) ∧ w1.cell? ⟨w.heap.size + 1, 2, none⟩ = some (.int .i64 hi) ∧ w1.cell? ⟨w.heap.size + 1, 3, none⟩ = some (.string of_) ∧ w1.cell? ⟨w.heap.size + 1, 4, none⟩ = some (.int .i64 un) ∧ w1.cell? ⟨w.heap.size + 1, 5, none⟩ = some (.slice an names.length kn) from ⟨(hb1.cell (p := ⟨w.heap.size, _, none⟩) X1.out.lt).trans x1, (hb1.cell (p := ⟨w.heap.size + 1, _, none⟩) X2.out.lt).trans y0, (hb1.cell (p := ⟨w.heap.size + 1, _, none⟩) X2.out.lt).trans y1, (hb1.cell (p := ⟨w.heap.size + 1, _, none⟩) X2.out.lt).trans y2, (hb1.cell (p := ⟨w.heap.size + 1, _, none⟩) X2.out.lt).trans y3, (hb1.cell (p := ⟨w.heap.size + 1, _, none⟩) X2.out.lt).trans y4, (hb1.cell (p := ⟨w.heap.size + 1, _, none⟩) X2.out.lt).trans y5⟩); have hsz1 := Lib.hid hb1.size; have B1 := Lib.hid (hb0.out.drew.trans (hb1.mono (by simp [hsz]))); clear hb1)
      | (go_at_call 82; refine (Hc.out _ B1.out).mono ?_; rintro e w2 ⟨rfl, hb2⟩; have hl1 := Nat.lt_of_lt_of_le X1.out.lt hsz1.out; have hl2 := Nat.lt_of_lt_of_le X2.out.lt hsz1.out; obtain ⟨s0, s1, s2, s3, s4, s5, s6⟩ := HS1.out; have HS2 := Lib.hid (show w2.cell? ⟨w.heap.size, 1, none⟩ = some (.slice p.a1 s.units.length p.k1) ∧ w2.cell? ⟨w.heap.size + 1, 0, none⟩ = some (.int .i64 4) ∧ w2.cell? ⟨w.heap.size + 1, 1, none⟩ = some (.int .i64 lo) ∧ w2.cell? ⟨w.heap.size + 1, 2, none⟩ = some (.int .i64 hi) ∧ w2.cell? ⟨w.heap.size + 1, 3, none⟩ = some (.string of_) ∧ w2.cell? ⟨w.heap.size + 1, 4, none⟩ = some (.int .i64 un) ∧ w2.cell? ⟨w.heap.size + 1, 5, none⟩ = some (.slice an names.length kn) from ⟨(hb2.cell (p := ⟨w.heap.size, _, none⟩) hl1).trans s0, (hb2.cell (p := ⟨w.heap.size + 1, _, none⟩) hl2).trans s1, (hb2.cell (p := ⟨w.heap.size + 1, _, none⟩) hl2).trans s2, (hb2.cell (p := ⟨w.heap.size + 1, _, none⟩) hl2).trans s3, (hb2.cell (p := ⟨w.heap.size + 1, _, none⟩) hl2).trans s4, (hb2.cell (p := ⟨w.heap.size + 1, _, none⟩) hl2).trans s5, (hb2.cell (p := ⟨w.heap.size + 1, _, none⟩) hl2).trans s6⟩); clear s0 s1 s2 s3 s4 s5 s6 hl1 hl2; have B2 := Lib.hid (B1.out.trans (hb2.mono B1.out.size)); clear hb2)))
  go_wp2
  go_ret
  exact ⟨rfl, B2.out⟩
end Go.Proofs.Ytogenjbabgibbaa
namespace Go.Proofs.Ytogenjbabgibbaa
open Go.RowKit

/-- the names of a type that stands in memory -/
theorem typeOK_any (s : SourceD) (p : SrcAt) (t : TyD) (an : Option Addr) (kn : Nat) (w : World) (hn : Sl 1 RStr w an t.names) (hl : t.names.length ≤ 100000) :
    Calls Try.prog 41 #[s.val p, t.val an kn] w fun e w' => e = .returned (.bool (kindB t s.units.length)) ∧ Below w.heap.size w w' := by
  by_cases h : 1 ≤ t.kind ∧ t.kind ≤ 4
  case neg => exact typeOK_out s p t an kn w h
  have h' : t.kind = 1 ∨ t.kind = 2 ∨ t.kind = 3 ∨ t.kind = 4 := by omega
  clear h
  obtain ⟨kd, lo, hi, of_, un, names⟩ := t
  simp only at hn hl h'
  rcases h' with rfl | rfl | rfl | rfl
  · exact typeOK_1 s p lo hi un of_ names an kn w _ fun w' _ => kind1_any ⟨1, lo, hi, of_, un, names⟩ _ an kn w'
  · exact typeOK_2 s p lo hi un of_ names an kn w _ fun w' _ => kind2_any ⟨2, lo, hi, of_, un, names⟩ _ an kn w'
  · exact typeOK_3 s p lo hi un of_ names an kn w _ fun w' _ => kind3_any ⟨3, lo, hi, of_, un, names⟩ _ an kn w'
  · exact typeOK_4 s p lo hi un of_ names an kn w _ fun w' hb => kind4_any ⟨4, lo, hi, of_, un, names⟩ _ an kn w' (hn.below RStr.stab hb) hl

def isNumB (t : TermD) : Bool := decide (t.var = -1) && decide (0 ≤ t.n) && decide (t.n ≤ 1048576)
def ordB (t : TyD) : Bool := decide (t.kind = 1) || decide (t.kind = 2)
abbrev TermD.val (t : TermD) : Value := .agg #[.string t.name, .string t.path, .int .i64 t.var, .int .i64 t.field, .int .i64 t.n]
theorem isNum_any (t : TermD) (w : World) : Calls Try.prog 73 #[t.val] w fun e w' => e = .returned (.bool (isNumB t)) ∧ Below w.heap.size w w' := by
  go_enter Try.func73, Try.ntmps73
  go_wp2
  all_goals go_ret
  all_goals exact ⟨ret_bool (by simp [isNumB, *]; try grind), alloc1 w _ _⟩
theorem ord_any (t : TyD) (an : Option Addr) (kn : Nat) (w : World) : Calls Try.prog 78 #[t.val an kn] w fun e w' => e = .returned (.bool (ordB t)) ∧ Below w.heap.size w w' := by
  go_enter Try.func78, Try.ntmps78
  go_wp2
  all_goals go_ret
  all_goals exact ⟨ret_bool (by simp [ordB, *]; try grind), alloc1 w _ _⟩

/-- the type of a field, if it is there -/
def typeOf? (s : SourceD) (i j : Int) : Option TyD :=
  if 0 ≤ i ∧ 0 ≤ j then (match s.schemas[i.toNat]? with | some x => (match x.fields[j.toNat]? with | some f => some f.ty | none => none) | none => none) else none
def thereB (s : SourceD) (i j : Int) : Bool := (typeOf? s i j).isSome
theorem typeOf?_in {s : SourceD} {i j : Int} (hi : 0 ≤ i) (hj : 0 ≤ j) (h1 : i.toNat < s.schemas.length) (h2 : j.toNat < s.schemas[i.toNat].fields.length) : typeOf? s i j = some (s.schemas[i.toNat].fields[j.toNat]).ty := by
  unfold typeOf?
  rw [if_pos ⟨hi, hj⟩, List.getElem?_eq_getElem h1]
  simp only
  rw [List.getElem?_eq_getElem h2]
theorem typeOf?_out1 {s : SourceD} {i j : Int} (h : ¬ (0 ≤ i ∧ i < s.schemas.length ∧ 0 ≤ j)) : typeOf? s i j = none := by
  unfold typeOf?
  by_cases h0 : 0 ≤ i ∧ 0 ≤ j
  · rw [if_pos h0, List.getElem?_eq_none (by omega)]
  · rw [if_neg h0]
theorem typeOf?_out2 {s : SourceD} {i j : Int} (h1 : i.toNat < s.schemas.length) (h2 : ¬ j < s.schemas[i.toNat].fields.length) : typeOf? s i j = none := by
  unfold typeOf?
  by_cases h0 : 0 ≤ i ∧ 0 ≤ j
  · rw [if_pos h0, List.getElem?_eq_getElem h1]
    simp only
    rw [List.getElem?_eq_none (by omega)]
  · rw [if_neg h0]

set_option maxRecDepth 20000 in
set_option maxHeartbeats 1000000 in
theorem there_any (s : SourceD) (p : SrcAt) (i j : Int) (w : World) (hs : Src w s p) :
    Calls Try.prog 36 #[s.val p, .int .i64 i, .int .i64 j] w fun e w' => e = .returned (.bool (thereB s i j)) ∧ Below w.heap.size w w' := by
  by_cases hin : 0 ≤ i ∧ i < s.schemas.length ∧ 0 ≤ j
  case neg =>
    have Hin := Lib.hid hin
    clear hin hs
    go_enter Try.func36, Try.ntmps36
    go_wp2
    all_goals (try (exfalso; have := Hin.out; omega))
    all_goals go_ret
    all_goals exact ⟨ret_bool (by simp [thereB, typeOf?_out1 Hin.out]), alloc1 w _ _⟩
  obtain ⟨hi0, hi1, hj0⟩ := hin
  obtain ⟨b, off, e1, hb, _, a0, k0, a1, k1, c0, c1, c2, c3, c4, c5, hf⟩ := SchemaD.out hs.h2 i.toNat (by omega)
  have hin := typeOf?_in hi0 hj0 (s := s) (by omega)
  have hout := typeOf?_out2 (s := s) (i := i) (j := j) (by omega)
  generalize s.schemas[i.toNat] = x at *
  have Hin := Lib.hid hin
  have Hout := Lib.hid hout
  clear hin hout hf c0 c1 c2 c3 c5 hs
  go_enter Try.func36, Try.ntmps36
  go_wp2
  all_goals go_ret
  all_goals exact ⟨ret_bool (by
    unfold thereB
    by_cases hj : j < x.fields.length
    · rw [Hin.out (by omega)]; simpa using hj
    · rw [Hout.out (by omega)]; simpa using hj), alloc1 w _ _⟩

/-- a type as typeOf returns it -/
def RTy (w : World) (v : Value) (t : TyD) : Prop := ∃ an kn, v = t.val an kn ∧ Sl 1 RStr w an t.names
theorem RTy.below {w w' : World} {v : Value} {t : TyD} (h : RTy w v t) (hb : Below w.heap.size w w') : RTy w' v t := let ⟨an, kn, h1, h2⟩ := h; ⟨an, kn, h1, h2.below RStr.stab hb⟩
def tyZero : TyD := ⟨0, 0, 0, ⟨#[]⟩, 0, []⟩

/-- where a field's type stands -/
theorem typeOf_mem {s : SourceD} {p : SrcAt} {i j : Int} {t : TyD} (ht : typeOf? s i j = some t) {w : World} (hs : Src w s p) :
    ∃ (b off nf k0 b2 off2 : Nat) (an : Option Addr) (kn : Nat), p.a2 = some ⟨b, off, none⟩ ∧ b < w.heap.size ∧ b2 < w.heap.size ∧ (0 ≤ i ∧ i < s.schemas.length ∧ 0 ≤ j ∧ j < nf) ∧
      w.cell? ⟨b, off + i.toNat * 6 + 4, none⟩ = some (.slice (some ⟨b2, off2, none⟩) nf k0) ∧
      w.cell? ⟨b2, off2 + j.toNat * 11 + 1, none⟩ = some (.int .i64 t.kind) ∧ w.cell? ⟨b2, off2 + j.toNat * 11 + 2, none⟩ = some (.int .i64 t.lo) ∧
      w.cell? ⟨b2, off2 + j.toNat * 11 + 3, none⟩ = some (.int .i64 t.hi) ∧ w.cell? ⟨b2, off2 + j.toNat * 11 + 4, none⟩ = some (.string t.of_) ∧
      w.cell? ⟨b2, off2 + j.toNat * 11 + 5, none⟩ = some (.int .i64 t.unit) ∧ w.cell? ⟨b2, off2 + j.toNat * 11 + 6, none⟩ = some (.slice an t.names.length kn) ∧ Sl 1 RStr w an t.names := by
  by_cases hin : 0 ≤ i ∧ i < s.schemas.length ∧ 0 ≤ j
  case neg => rw [typeOf?_out1 hin] at ht; cases ht
  obtain ⟨hi0, hi1, hj0⟩ := hin
  have hlt : i.toNat < s.schemas.length := by omega
  by_cases hj1 : j.toNat < s.schemas[i.toNat].fields.length
  case neg => rw [typeOf?_out2 hlt (by omega)] at ht; cases ht
  rw [typeOf?_in hi0 hj0 hlt hj1] at ht
  simp only [Option.some.injEq] at ht
  obtain ⟨b, off, e1, hb, _, a0, k0, a1, k1, c0, c1, c2, c3, c4, c5, hf⟩ := SchemaD.out hs.h2 i.toNat hlt
  obtain ⟨b2, off2, e2, hb2, _, an, kn, d0, d1, d2, d3, d4, d5, d6, d7, d8, d9, d10, hn⟩ := FieldD.out hf j.toNat hj1
  subst e2 ht
  exact ⟨b, off, _, k0, b2, off2, an, kn, e1, hb, hb2, ⟨hi0, hi1, hj0, by omega⟩, c4, d1, d2, d3, d4, d5, d6, hn⟩

set_option maxRecDepth 20000 in
set_option maxHeartbeats 1000000 in
/-- typeOf where the field is there -/
theorem typeOf_in (s : SourceD) (p : SrcAt) (i j : Int) (t : TyD) (ht : typeOf? s i j = some t) (w : World) (hs : Src w s p) :
    Calls Try.prog 40 #[s.val p, .int .i64 i, .int .i64 j] w fun e w' => (∃ v, e = .returned (.tuple #[v, .bool true]) ∧ RTy w' v t) ∧ Below w.heap.size w w' := by
  obtain ⟨b, off, nf, k0, b2, off2, an, kn, e1, hb, hb2, ⟨hi0, hi1, hj0, hj1⟩, c4, d1, d2, d3, d4, d5, d6, hn⟩ := typeOf_mem ht hs
  have Hn := Lib.hid hn
  clear hn hs ht
  go_enter Try.func40, Try.ntmps40
  go_wp2
  refine bodyPost_ret (v := .tuple #[t.val an kn, .bool true]) (by simp [results, Try.f40, go_sem]) rfl ?_
  refine ⟨⟨_, rfl, an, kn, rfl, Hn.out.below RStr.stab ?_⟩, ?_⟩
  all_goals (repeat (first | exact Below.refl _ _ | refine Below.alloc ?_ (by simp) _ | refine Below.setCell ?_ (by simp) _))
set_option maxRecDepth 20000 in
set_option maxHeartbeats 1000000 in
/-- typeOf where the field is not there -/
theorem typeOf_no (s : SourceD) (p : SrcAt) (i j : Int) (ht : typeOf? s i j = none) (w : World) (hs : Src w s p) :
    Calls Try.prog 40 #[s.val p, .int .i64 i, .int .i64 j] w fun e w' => e = .returned (.tuple #[tyZero.val none 0, .bool false]) ∧ Below w.heap.size w w' := by
  by_cases hin : 0 ≤ i ∧ i < s.schemas.length ∧ 0 ≤ j
  case neg =>
    have Hin := Lib.hid hin
    clear hin hs
    go_enter Try.func40, Try.ntmps40
    go_wp2
    all_goals (try (exfalso; have := Hin.out; omega))
    all_goals refine bodyPost_ret (v := .tuple #[tyZero.val none 0, .bool false]) (by simp [results, Try.f40, go_sem, tyZero]) rfl ⟨rfl, ?_⟩
    all_goals (repeat (first | exact Below.refl _ _ | refine Below.alloc ?_ (by simp) _ | refine Below.setCell ?_ (by simp) _))
  obtain ⟨hi0, hi1, hj0⟩ := hin
  have hlt : i.toNat < s.schemas.length := by omega
  by_cases hj1 : j.toNat < s.schemas[i.toNat].fields.length
  case pos => rw [typeOf?_in hi0 hj0 hlt hj1] at ht; cases ht
  obtain ⟨b, off, e1, hb, _, a0, k0, a1, k1, c0, c1, c2, c3, c4, c5, hf⟩ := SchemaD.out hs.h2 i.toNat hlt
  generalize s.schemas[i.toNat].fields.length = nf at hj1 c4
  clear c0 c1 c2 c3 c5 hf hs ht
  have hj2 : (nf : Int) ≤ j := by omega
  go_enter Try.func40, Try.ntmps40
  go_wp2
  refine bodyPost_ret (v := .tuple #[tyZero.val none 0, .bool false]) (by simp [results, Try.f40, go_sem, tyZero]) rfl ⟨rfl, ?_⟩
  (repeat (first | exact Below.refl _ _ | refine Below.alloc ?_ (by simp) _ | refine Below.setCell ?_ (by simp) _))
end Go.Proofs.Ytogenjbabgibbaa
namespace Go.Proofs.Ytogenjbabgibbaa
open Go.RowKit

/-! A world behind fresh blocks, made opaque. -/
theorem blk1 {w w0 : World} {c0 : Array Value} {t0 : TypeId} (h : w.alloc (.cells c0 t0) = w0) :
    Blk w0 w.heap.size c0 t0 ∧ w0.heap.size = w.heap.size + 1 ∧ Below w.heap.size w w0 := by
  subst h
  exact ⟨Blk.new _ _ _, by simp, (Below.refl _ _).alloc (Nat.le_refl _) _⟩
theorem blk2 {w w0 : World} {c0 c1 : Array Value} {t0 t1 : TypeId} (h : (w.alloc (.cells c0 t0)).alloc (.cells c1 t1) = w0) :
    Blk w0 w.heap.size c0 t0 ∧ Blk w0 (w.heap.size + 1) c1 t1 ∧ w0.heap.size = w.heap.size + 2 ∧ Below w.heap.size w w0 := by
  subst h
  obtain ⟨x0, s0, b0⟩ := blk1 (w := w) (c0 := c0) (t0 := t0) rfl
  have x := Blk.new (w.alloc (.cells c0 t0)) c1 t1
  rw [s0] at x
  exact ⟨x0.alloc _, x, by simp, b0.alloc (by simp; try omega) _⟩
theorem blk3 {w w0 : World} {c0 c1 c2 : Array Value} {t0 t1 t2 : TypeId} (h : ((w.alloc (.cells c0 t0)).alloc (.cells c1 t1)).alloc (.cells c2 t2) = w0) :
    Blk w0 w.heap.size c0 t0 ∧ Blk w0 (w.heap.size + 1) c1 t1 ∧ Blk w0 (w.heap.size + 2) c2 t2 ∧ w0.heap.size = w.heap.size + 3 ∧ Below w.heap.size w w0 := by
  subst h
  obtain ⟨x0, x1, s0, b0⟩ := blk2 (w := w) (c0 := c0) (t0 := t0) (c1 := c1) (t1 := t1) rfl
  have x := Blk.new ((w.alloc (.cells c0 t0)).alloc (.cells c1 t1)) c2 t2
  rw [s0] at x
  exact ⟨x0.alloc _, x1.alloc _, x, by simp, b0.alloc (by simp; try omega) _⟩
theorem blk4 {w w0 : World} {c0 c1 c2 c3 : Array Value} {t0 t1 t2 t3 : TypeId} (h : (((w.alloc (.cells c0 t0)).alloc (.cells c1 t1)).alloc (.cells c2 t2)).alloc (.cells c3 t3) = w0) :
    Blk w0 w.heap.size c0 t0 ∧ Blk w0 (w.heap.size + 1) c1 t1 ∧ Blk w0 (w.heap.size + 2) c2 t2 ∧ Blk w0 (w.heap.size + 3) c3 t3 ∧ w0.heap.size = w.heap.size + 4 ∧ Below w.heap.size w w0 := by
  subst h
  obtain ⟨x0, x1, x2, s0, b0⟩ := blk3 (w := w) (c0 := c0) (t0 := t0) (c1 := c1) (t1 := t1) (c2 := c2) (t2 := t2) rfl
  have x := Blk.new (((w.alloc (.cells c0 t0)).alloc (.cells c1 t1)).alloc (.cells c2 t2)) c3 t3
  rw [s0] at x
  exact ⟨x0.alloc _, x1.alloc _, x2.alloc _, x, by simp, b0.alloc (by simp; try omega) _⟩
/-- an old place's cell in a later world -/
theorem cell_kept {w w' : World} (hb : Below w.heap.size w w') {b o : Nat} {v : Value} (h : w.cell? ⟨b, o, none⟩ = some v) (hlt : b < w.heap.size) : w'.cell? ⟨b, o, none⟩ = some v :=
  (hb.cell (p := ⟨b, o, none⟩) hlt).trans h
theorem blk_setCells {b : Nat} {t : TypeId} : ∀ (vs : List Value) (o : Nat) (w : World) (c : Array Value), Blk w b c t → o + vs.length ≤ c.size →
    ∃ c', Blk (w.setCells b o vs) b c' t ∧ c'.size = c.size ∧ (∀ j, j < o → c'[j]? = c[j]?) ∧ ∀ j, j < vs.length → c'[o + j]? = vs[j]?
  | [], o, w, c, h, _ => ⟨c, h, rfl, fun _ _ => rfl, fun j hj => by simp at hj⟩
  | v :: vs, o, w, c, h, hl => by
    simp only [List.length_cons] at hl
    obtain ⟨c', h1, h2, h3, h4⟩ := blk_setCells vs (o + 1) (w.setCell ⟨b, o, none⟩ v) _ (h.set o v) (by simp; omega)
    refine ⟨c', h1, by simpa using h2, fun j hj => ?_, fun j hj => ?_⟩
    · rw [h3 j (by omega), Array.getElem?_setIfInBounds_ne (by omega)]
    · cases j with
      | zero =>
        have := h3 o (by omega)
        rw [Array.getElem?_setIfInBounds_self_of_lt (by omega)] at this
        simpa using this
      | succ j =>
        have := h4 j (by simpa using hj)
        rw [show o + (j + 1) = o + 1 + j by omega, this]
        simp
theorem below_setCells {b B : Nat} (hB : B ≤ b) : ∀ (vs : List Value) (o : Nat) (w : World), Below B w (w.setCells b o vs)
  | [], _, _ => Below.refl _ _
  | v :: vs, o, w => ((Below.refl B w).setCell hB v).trans (below_setCells hB vs (o + 1) _)
theorem blk_setCells_other {b b' : Nat} (hne : b' ≠ b) {c : Array Value} {t : TypeId} : ∀ (vs : List Value) (o : Nat) (w : World), Blk w b' c t → Blk (w.setCells b o vs) b' c t
  | [], _, _, h => h
  | v :: vs, o, w, h => blk_setCells_other hne vs (o + 1) _ (h.keep (a := ⟨b, o, none⟩) hne v)
/-- a whole block of the call's own is written -/
theorem stored {w w0 : World} {b : Nat} {c : Array Value} {t : TypeId} {vs : List Value} (hb : Blk w b c t) (hc : c.size = vs.length) (h : w.setCells b 0 vs = w0) :
    Blk w0 b vs.toArray t ∧ (∀ {b' o : Nat} {v : Value}, w.cell? ⟨b', o, none⟩ = some v → b' ≠ b → w0.cell? ⟨b', o, none⟩ = some v) ∧ w0.heap.size = w.heap.size ∧ (∀ B, B ≤ b → Below B w w0) ∧
      ∀ {b' : Nat} {c' : Array Value} {t' : TypeId}, Blk w b' c' t' → b' ≠ b → Blk w0 b' c' t' := by
  subst h
  obtain ⟨c', h1, h2, _, h4⟩ := blk_setCells vs 0 w c hb (by omega)
  have e : c' = vs.toArray := by
    apply Array.ext_getElem?
    intro j
    by_cases hj : j < vs.length
    · have := h4 j hj
      simpa using this
    · rw [Array.getElem?_eq_none (by omega), Array.getElem?_eq_none (by simp; omega)]
  subst e
  refine ⟨h1, fun h' hne => (World.cell?_setCells_out b vs 0 w _ (fun e => absurd e hne)).trans h', ?_, fun B hB => below_setCells hB vs 0 w, fun hb' hne => blk_setCells_other hne vs 0 w hb'⟩
  have a1 := (below_setCells (B := 0) (Nat.zero_le b) vs 0 w).size
  have a2 : ∀ (vs : List Value) (o : Nat) (w : World), (w.setCells b o vs).heap.size = w.heap.size := by
    intro vs
    induction vs with
    | nil => intro o w; rfl
    | cons v vs ih => intro o w; show ((w.setCell ⟨b, o, none⟩ v).setCells b (o + 1) vs).heap.size = _; rw [ih]; simp
  exact a2 vs 0 w

/-! A region that draws its order, whose operations read old memory and whose calls make new memory: one walk. -/
/-- the worlds grown out of one -/
def GW (w : World) : Type := {w' : World // Below w.heap.size w w'}
instance instGW (w : World) : Inhabited (GW w) := ⟨⟨w, Below.refl _ _⟩⟩
def grown (w : World) (n : GW w) : World := n.1
theorem grown_below (w : World) (n : GW w) : Below w.heap.size w (grown w n) := n.2
@[simp] theorem cell?_grown (w : World) (n : GW w) (p : Addr) (h : (w.cell? p).isSome = true) : (grown w n).cell? p = w.cell? p := by
  obtain ⟨v, hv⟩ := Option.isSome_iff_exists.1 h
  exact n.2.cell (World.block_lt_of_cell? w p hv)
theorem wp_region_grown {P : Program} {id : Nat} {Q : Exit → Act → World → Prop} {a : Act} {w : World} {l : List Oper} (hm : P.follows .mixedOrders = true) (hB : Region.lexB .any l.toArray = true)
    (h : wpQuiet P l.toArray (fun w' => ∃ n : GW w, w' = grown w n) (fun a' => ∀ w', (∃ n : GW w, w' = grown w n) → Q .normal a' w') l a) : (Code.region id l.toArray true).wp P Q a w :=
  wp_region_quiet (C := fun w' => ∃ n : GW w, w' = grown w n) hm hB ⟨⟨w.drew, (Below.refl _ _).drew⟩, rfl⟩ (by simpa using h)
/-- a callee's contract, met in a grown world -/
theorem calls_grown {P : Program} {f : FuncId} {args : Array Value} {w : World} {n : GW w} {v : Value}
    (h : Calls P f args (grown w n) fun e w' => e = .returned v ∧ Below (Go.Proofs.Ytogenjbabgibbaa.grown w n).heap.size (Go.Proofs.Ytogenjbabgibbaa.grown w n) w') : Calls P f args (Go.Proofs.Ytogenjbabgibbaa.grown w n) fun e w'' => e = .returned v ∧ ∃ m : GW w, w'' = Go.Proofs.Ytogenjbabgibbaa.grown w m :=
  h.mono fun _ w' ⟨he, hb⟩ => ⟨he, ⟨w', n.2.trans (hb.mono n.2.size)⟩, rfl⟩
end Go.Proofs.Ytogenjbabgibbaa
namespace Go.Proofs.Ytogenjbabgibbaa
open Go.RowKit

set_option maxRecDepth 20000 in
set_option maxHeartbeats 1000000 in
theorem rtypeOf_in (s : SourceD) (p : SrcAt) (i j : Int) (t : TyD) (ht : typeOf? s i j = some t) (w : World) (hs : Src w s p) :
    Calls Try.prog 39 #[s.val p, .int .i64 i, .int .i64 j] w fun e w' => (∃ v, e = .returned v ∧ RTy w' v t) ∧ Below w.heap.size w w' := by
  obtain ⟨b, off, nf, k0, b2, off2, an, kn, e1, hb, hb2, ⟨hi0, hi1, hj0, hj1⟩, c4, d1, d2, d3, d4, d5, d6, hn⟩ := typeOf_mem ht hs
  have Hn := Lib.hid hn
  clear hn hs ht
  go_enter Try.func39, Try.ntmps39
  go_wp2
  refine bodyPost_ret (v := t.val an kn) (by simp [results, Try.f39, go_sem]) rfl ?_
  refine ⟨⟨_, rfl, an, kn, rfl, Hn.out.below RStr.stab ?_⟩, ?_⟩
  all_goals (repeat (first | exact Below.refl _ _ | refine Below.alloc ?_ (by simp) _ | refine Below.setCell ?_ (by simp) _))

theorem beq_dec (x y : Int) : (x == y) = decide (x = y) := by by_cases h : x = y <;> simp [h]
/-- the base unit of a unit -/
def baseOf (us : List UnitD) (n : Int) : Option Int := if 0 ≤ n then (us[n.toNat]?).map (·.base) else none
def cmpB (us : List UnitD) (a b : TyD) : Bool :=
  if a.kind ≠ b.kind then false else if a.kind = 4 then decide (a.names = b.names) else if a.kind ≠ 1 ∨ a.unit = -1 ∨ b.unit = -1 then decide (a.unit = b.unit) else decide (baseOf us a.unit = baseOf us b.unit)
/-- a number's unit is there -/
def unitIn (us : List UnitD) (t : TyD) : Prop := t.kind = 1 → -1 ≤ t.unit ∧ t.unit < us.length

set_option maxRecDepth 20000 in
set_option maxHeartbeats 2000000 in
theorem cmp_any (s : SourceD) (p : SrcAt) (a b : TyD) (aa ab : Option Addr) (ka kb : Nat) (w : World) (hs : Src w s p) (ha : Sl 1 RStr w aa a.names) (hb : Sl 1 RStr w ab b.names) (hl : a.names.length ≤ 100000)
    (ua : unitIn s.units a) (ub : unitIn s.units b) :
    Calls Try.prog 43 #[s.val p, a.val aa ka, b.val ab kb] w fun e w' => e = .returned (.bool (cmpB s.units a b)) ∧ Below w.heap.size w w' := by
  by_cases hk : a.kind = b.kind
  case neg =>
    have Hk := Lib.hid hk
    clear hs ha hb ua ub
    go_enter Try.func43, Try.ntmps43
    go_wp2
    go_ret
    exact ⟨ret_bool (by unfold cmpB; rw [if_pos Hk.out]), by (repeat (first | exact Below.refl _ _ | refine Below.alloc ?_ (by first | (simp; done) | (simp; omega)) _))⟩
  have Ha := Lib.hid (ha.below RStr.stab (Below.refl w.heap.size w))
  have Hb := Lib.hid (hb.below RStr.stab (Below.refl w.heap.size w))
  by_cases h4 : a.kind = 4
  case pos =>
    have h4b : b.kind = 4 := by omega
    have Hk := Lib.hid (show cmpB s.units a b = decide (a.names = b.names) by unfold cmpB; rw [if_neg (by simpa using hk), if_pos h4])
    clear hs ha hb ua ub hk
    go_enter Try.func43, Try.ntmps43
    go_wp2_with fail
    refine (equal_any aa ab ka kb a.names b.names _ (Ha.out.below RStr.stab ?_) (Hb.out.below RStr.stab ?_) hl).mono ?_
    case refine_1 => (repeat (first | exact Below.refl _ _ | refine Below.alloc ?_ (by first | (simp; done) | (simp; omega)) _))
    case refine_2 => (repeat (first | exact Below.refl _ _ | refine Below.alloc ?_ (by first | (simp; done) | (simp; omega)) _))
    rintro e w1 ⟨rfl, hb1⟩
    go_wp2
    go_ret
    refine ⟨ret_bool Hk.out.symm, Below.trans ?_ (hb1.mono (by simp; omega))⟩
    (repeat (first | exact Below.refl _ _ | refine Below.alloc ?_ (by first | (simp; done) | (simp; omega)) _))
  by_cases h1 : a.kind = 1 ∧ a.unit ≠ -1 ∧ b.unit ≠ -1
  case neg =>
    have Hk := Lib.hid (show cmpB s.units a b = decide (a.unit = b.unit) by unfold cmpB; rw [if_neg (by simpa using hk), if_neg h4, if_pos (by omega)])
    have H1 := Lib.hid h1
    clear hs ha hb ua ub h1
    go_enter Try.func43, Try.ntmps43
    go_wp2
    all_goals (try (exfalso; have := H1.out; simp at *; omega))
    all_goals go_ret
    all_goals exact ⟨ret_bool (by rw [Hk.out]; first | exact beq_dec .. | (simp [*, beq_dec])), by (repeat (first | exact Below.refl _ _ | refine Below.alloc ?_ (by first | (simp; done) | (simp; omega)) _))⟩
  obtain ⟨h1, h2, h3⟩ := h1
  have u1 := ua h1
  have u2 := ub (by omega)
  obtain ⟨b1, o1, e1, hb1, z1, c0, c1, c2, c3, c4⟩ := UnitD.out hs.h1 a.unit.toNat (by omega)
  obtain ⟨b2, o2, e2, hb2, z2, d0, d1, d2, d3, d4⟩ := UnitD.out hs.h1 b.unit.toNat (by omega)
  rw [e1] at e2
  simp only [Option.some.injEq, Addr.mk.injEq, and_true] at e2
  obtain ⟨rfl, rfl⟩ := e2
  have Hk := Lib.hid (show cmpB s.units a b = decide (s.units[a.unit.toNat].base = s.units[b.unit.toNat].base) by
    unfold cmpB
    rw [if_neg (by simpa using hk), if_neg h4, if_neg (by omega)]
    unfold baseOf
    rw [if_pos (by omega), if_pos (by omega), List.getElem?_eq_getElem (by omega), List.getElem?_eq_getElem (by omega)]
    simp)
  generalize s.units[a.unit.toNat].base = x at *
  generalize s.units[b.unit.toNat].base = y at *
  have v1 : 0 ≤ a.unit := by omega
  have v2 : 0 ≤ b.unit := by omega
  have v3 := u1.2
  have v4 := u2.2
  clear c0 c1 c2 c4 d0 d1 d2 d4 hs ha hb ua ub z1 z2 u1 u2
  go_enter Try.func43, Try.ntmps43
  go_wp2_with fail
  all_goals (try (exfalso; rename_i hx; simp at hx; omega))
  generalize hw0 : World.alloc _ _ = w0
  obtain ⟨X0, X1, X2, hsz, hb0⟩ := blk3 hw0
  have c3 := cell_kept hb0 c3 hb1
  have d3 := cell_kept hb0 d3 hb1
  have x1 := X0.cell 1
  have y4 := X1.cell 4
  have z4 := X2.cell 4
  simp at x1 y4 z4
  clear hw0 X0 X1 X2
  go_quiet (fail)
  go_wp2
  go_ret
  exact ⟨ret_bool (by rw [Hk.out]; first | rfl | exact beq_dec .. | (simp [*, beq_dec])), below_drewN hb0 _⟩
end Go.Proofs.Ytogenjbabgibbaa
namespace Go.Proofs.Ytogenjbabgibbaa
open Go.RowKit
theorem run_loadFrom (W : World) (a : Addr) (cs : List Value) (k : Nat) (hk : cs.length = k) (h : ∀ j v, cs[j]? = some v → W.cell? (a.add j) = some v) :
    Sem.run Try.prog (loadCellsFrom a 0 k #[]) W = .ok cs.toArray W := by
  have := run_loadCells_list (P := Try.prog) (w := W) a cs h
  rw [hk] at this
  simpa [loadCells] using this
/-- a predicate called with elements of a list, in worlds grown from w -/
def PredI {α : Type} (g : Nat) (pre post : Array Value) (R : Rep α) (l : List α) (p : α → Bool) (w : World) : Prop :=
  ∀ (W : World) (x : α) (es : List Value), x ∈ l → Below w.heap.size w W → R W es x → Calls Try.prog g (pre ++ #[.agg es.toArray] ++ post) W fun e w' => e = .returned (.bool (p x)) ∧ Below W.heap.size W w'
theorem idx_hit {α : Type} {p : α → Bool} {l : List α} {k : Nat} (hk : k < l.length) (h : p l[k] = true) : decide ((0 : Int) ≤ (k : Int)) = l.any p := by
  rw [decide_eq_true (by omega)]
  exact (List.any_eq_true.2 ⟨l[k], List.getElem_mem hk, h⟩).symm
theorem idx_miss {α : Type} {p : α → Bool} {l : List α} (h : PreP (fun x => !p x) l l.length) : decide ((0 : Int) ≤ (-1 : Int)) = l.any p := by
  have := h.all (Nat.le_refl _)
  rw [List.any_eq_not_all_not, this]; rfl
theorem idxU_len {w : World} {es : List Value} {x : UnitD} (h : RUnitD w es x) : es.length = 5 := by
  obtain ⟨rfl, _⟩ := h.flat; rfl
set_option maxRecDepth 20000 in
set_option maxHeartbeats 4000000 in
theorem idxU (a : Option Addr) (cap : Nat) (l : List UnitD) (g : Nat) (pre post : Array Value) (p : UnitD → Bool) (w : World) (hl : Sl 5 RUnitD w a l) (hp : PredI g pre post RUnitD l p w) (hlen : l.length ≤ 100000)
    (eg : ∀ args w, (callFunc g args).run Try.prog w = .ok (.enter g args) w) :
    Calls Try.prog 74 #[.slice a l.length cap, .func (.func g) pre post] w fun e w' => (∃ r : Int, e = .returned (.int .i64 r) ∧ decide (0 ≤ r) = l.any p) ∧ Below w.heap.size w w' := by
  have Hl := Lib.hid hl
  have Hp := Lib.hid hp
  clear hl hp
  go_enter Try.func74, Try.ntmps74
  go_wp2_with fail
  go_loopw [8] (fun i wr => ∃ k : Nat, k ≤ l.length ∧ i = .int .i64 k ∧ Hid (PreP (fun x => !p x) l k) ∧ Hid (Below w.heap.size w wr)) (fun i _ => l.length - (intOf i).toNat)
  case atStart => exact ⟨0, Nat.zero_le _, rfl, Lib.hid PreP.zero, Lib.hid (Below.refl _ _)⟩
  case round =>
    obtain ⟨k, hk, rfl, Hn, Hb⟩ := hrel
    by_cases hlt : k < l.length
    case pos =>
      have hlt' : (k : Int) < (l.length : Int) := by omega
      obtain ⟨b, off, e1, hb2, es, hr, hc⟩ := Hl.out k hlt
      subst e1
      have hmem := List.getElem_mem hlt
      have hsuc := fun h => Hn.out.succ hlt h
      have hhit := fun h => idx_hit (p := p) hlt h
      generalize l[k] = x at *
      obtain ⟨rfl, _⟩ := RUnitD.flat hr
      have c0 : wr.cell? ⟨b, off + k * 5, none⟩ = some (.string x.name) := (Hb.out.cell (p := ⟨b, off + k * 5 + 0, none⟩) hb2).trans (hc 0 (by decide))
      have c1 : wr.cell? ⟨b, off + k * 5 + 1, none⟩ = some (.string x.of_) := (Hb.out.cell (p := ⟨b, off + k * 5 + 1, none⟩) hb2).trans (hc 1 (by decide))
      have c2 : wr.cell? ⟨b, off + k * 5 + 2, none⟩ = some (.int .i64 x.factor) := (Hb.out.cell (p := ⟨b, off + k * 5 + 2, none⟩) hb2).trans (hc 2 (by decide))
      have c3 : wr.cell? ⟨b, off + k * 5 + 3, none⟩ = some (.int .i64 x.base) := (Hb.out.cell (p := ⟨b, off + k * 5 + 3, none⟩) hb2).trans (hc 3 (by decide))
      have c4 : wr.cell? ⟨b, off + k * 5 + 4, none⟩ = some (.int .i64 x.scale) := (Hb.out.cell (p := ⟨b, off + k * 5 + 4, none⟩) hb2).trans (hc 4 (by decide))
      have hcall : Calls Try.prog g (pre ++ #[.agg #[.string x.name, .string x.of_, .int .i64 x.factor, .int .i64 x.base, .int .i64 x.scale]] ++ post) wr _ := Hp.out wr x _ hmem Hb.out (RUnitD.stab _ _ _ _ hr Hb.out)
      clear hr hc hmem
      cases hq : p x with
      | true =>
        have Hh := Lib.hid (hhit hq)
        rw [hq] at hcall
        clear hsuc hhit hq
        go_wp2_with (go_at_fn g; refine hcall.mono ?_; rintro e w' ⟨rfl, hb'⟩)
        go_ret
        exact ⟨⟨_, rfl, Hh.out⟩, Hb.out.trans (hb'.mono Hb.out.size)⟩
      | false =>
        have Hs := Lib.hid (hsuc (by simp [hq]))
        rw [hq] at hcall
        clear hsuc hhit hq
        go_wp2_with (go_at_fn g; refine hcall.mono ?_; rintro e w' ⟨rfl, hb'⟩)
        go_roundw
        case rel => exact ⟨k + 1, by omega, by go_num, Hs, Lib.hid (Hb.out.trans (hb'.mono Hb.out.size))⟩
        case measure => simp [intOf]; omega
    case neg =>
      have hltz : ¬ (k : Int) < (l.length : Int) := by omega
      have : k = l.length := by omega
      subst this
      have Hm := Lib.hid (idx_miss Hn.out)
      clear Hn
      go_wp2_with fail
      go_ret
      exact ⟨⟨_, rfl, Hm.out⟩, Hb.out⟩
theorem conU (a : Option Addr) (cap : Nat) (l : List UnitD) (g : Nat) (pre post : Array Value) (p : UnitD → Bool) (w : World) (hl : Sl 5 RUnitD w a l) (hp : PredI g pre post RUnitD l p w) (hlen : l.length ≤ 100000)
    (eg : ∀ args w, (callFunc g args).run Try.prog w = .ok (.enter g args) w) :
    Calls Try.prog 57 #[.slice a l.length cap, .func (.func g) pre post] w fun e w' => e = .returned (.bool (l.any p)) ∧ Below w.heap.size w w' := by
  have Hc := Lib.hid (idxU a cap l g pre post p w hl hp hlen eg)
  clear hl hp
  go_enter Try.func57, Try.ntmps57
  go_wp2_with (go_at_call 74; refine Hc.out.mono ?_; rintro e w' ⟨⟨r, rfl, hr⟩, hb'⟩)
  go_ret
  exact ⟨by first | rfl | simp [hr], hb'⟩
theorem idxS_len {w : World} {es : List Value} {x : SchemaD} (h : RSchemaD w es x) : es.length = 6 := by
  obtain ⟨_, _, _, _, rfl, _⟩ := h.flat; rfl
set_option maxRecDepth 20000 in
set_option maxHeartbeats 4000000 in
theorem idxS (a : Option Addr) (cap : Nat) (l : List SchemaD) (g : Nat) (pre post : Array Value) (p : SchemaD → Bool) (w : World) (hl : Sl 6 RSchemaD w a l) (hp : PredI g pre post RSchemaD l p w) (hlen : l.length ≤ 100000)
    (eg : ∀ args w, (callFunc g args).run Try.prog w = .ok (.enter g args) w) :
    Calls Try.prog 75 #[.slice a l.length cap, .func (.func g) pre post] w fun e w' => (∃ r : Int, e = .returned (.int .i64 r) ∧ decide (0 ≤ r) = l.any p) ∧ Below w.heap.size w w' := by
  have Hl := Lib.hid hl
  have Hp := Lib.hid hp
  clear hl hp
  go_enter Try.func75, Try.ntmps75
  go_wp2_with fail
  go_loopw [8] (fun i wr => ∃ k : Nat, k ≤ l.length ∧ i = .int .i64 k ∧ Hid (PreP (fun x => !p x) l k) ∧ Hid (Below w.heap.size w wr)) (fun i _ => l.length - (intOf i).toNat)
  case atStart => exact ⟨0, Nat.zero_le _, rfl, Lib.hid PreP.zero, Lib.hid (Below.refl _ _)⟩
  case round =>
    obtain ⟨k, hk, rfl, Hn, Hb⟩ := hrel
    by_cases hlt : k < l.length
    case pos =>
      have hlt' : (k : Int) < (l.length : Int) := by omega
      obtain ⟨b, off, e1, hb2, es, hr, hc⟩ := Hl.out k hlt
      subst e1
      have hmem := List.getElem_mem hlt
      have hsuc := fun h => Hn.out.succ hlt h
      have hhit := fun h => idx_hit (p := p) hlt h
      generalize l[k] = x at *
      obtain ⟨a0, k0, a1, k1, rfl, _⟩ := RSchemaD.flat hr
      have c0 : wr.cell? ⟨b, off + k * 6, none⟩ = some (.string x.name) := (Hb.out.cell (p := ⟨b, off + k * 6 + 0, none⟩) hb2).trans (hc 0 (by decide))
      have c1 : wr.cell? ⟨b, off + k * 6 + 1, none⟩ = some (.string x.by_) := (Hb.out.cell (p := ⟨b, off + k * 6 + 1, none⟩) hb2).trans (hc 1 (by decide))
      have c2 : wr.cell? ⟨b, off + k * 6 + 2, none⟩ = some (.int .i64 x.issuer) := (Hb.out.cell (p := ⟨b, off + k * 6 + 2, none⟩) hb2).trans (hc 2 (by decide))
      have c3 : wr.cell? ⟨b, off + k * 6 + 3, none⟩ = some (.int .i64 x.version) := (Hb.out.cell (p := ⟨b, off + k * 6 + 3, none⟩) hb2).trans (hc 3 (by decide))
      have c4 : wr.cell? ⟨b, off + k * 6 + 4, none⟩ = some (.slice a0 x.fields.length k0) := (Hb.out.cell (p := ⟨b, off + k * 6 + 4, none⟩) hb2).trans (hc 4 (by decide))
      have c5 : wr.cell? ⟨b, off + k * 6 + 5, none⟩ = some (.slice a1 x.depends k1) := (Hb.out.cell (p := ⟨b, off + k * 6 + 5, none⟩) hb2).trans (hc 5 (by decide))
      have hcall : Calls Try.prog g (pre ++ #[.agg #[.string x.name, .string x.by_, .int .i64 x.issuer, .int .i64 x.version, .slice a0 x.fields.length k0, .slice a1 x.depends k1]] ++ post) wr _ := Hp.out wr x _ hmem Hb.out (RSchemaD.stab _ _ _ _ hr Hb.out)
      clear hr hc hmem
      cases hq : p x with
      | true =>
        have Hh := Lib.hid (hhit hq)
        rw [hq] at hcall
        clear hsuc hhit hq
        go_wp2_with (go_at_fn g; refine hcall.mono ?_; rintro e w' ⟨rfl, hb'⟩)
        go_ret
        exact ⟨⟨_, rfl, Hh.out⟩, Hb.out.trans (hb'.mono Hb.out.size)⟩
      | false =>
        have Hs := Lib.hid (hsuc (by simp [hq]))
        rw [hq] at hcall
        clear hsuc hhit hq
        go_wp2_with (go_at_fn g; refine hcall.mono ?_; rintro e w' ⟨rfl, hb'⟩)
        go_roundw
        case rel => exact ⟨k + 1, by omega, by go_num, Hs, Lib.hid (Hb.out.trans (hb'.mono Hb.out.size))⟩
        case measure => simp [intOf]; omega
    case neg =>
      have hltz : ¬ (k : Int) < (l.length : Int) := by omega
      have : k = l.length := by omega
      subst this
      have Hm := Lib.hid (idx_miss Hn.out)
      clear Hn
      go_wp2_with fail
      go_ret
      exact ⟨⟨_, rfl, Hm.out⟩, Hb.out⟩
theorem conS (a : Option Addr) (cap : Nat) (l : List SchemaD) (g : Nat) (pre post : Array Value) (p : SchemaD → Bool) (w : World) (hl : Sl 6 RSchemaD w a l) (hp : PredI g pre post RSchemaD l p w) (hlen : l.length ≤ 100000)
    (eg : ∀ args w, (callFunc g args).run Try.prog w = .ok (.enter g args) w) :
    Calls Try.prog 59 #[.slice a l.length cap, .func (.func g) pre post] w fun e w' => e = .returned (.bool (l.any p)) ∧ Below w.heap.size w w' := by
  have Hc := Lib.hid (idxS a cap l g pre post p w hl hp hlen eg)
  clear hl hp
  go_enter Try.func59, Try.ntmps59
  go_wp2_with (go_at_call 75; refine Hc.out.mono ?_; rintro e w' ⟨⟨r, rfl, hr⟩, hb'⟩)
  go_ret
  exact ⟨by first | rfl | simp [hr], hb'⟩
theorem idxR_len {w : World} {es : List Value} {x : RuleD} (h : RRuleD w es x) : es.length = 5 := by
  obtain ⟨_, _, _, _, _, _, rfl, _⟩ := h.flat; rfl
set_option maxRecDepth 20000 in
set_option maxHeartbeats 4000000 in
theorem idxR (a : Option Addr) (cap : Nat) (l : List RuleD) (g : Nat) (pre post : Array Value) (p : RuleD → Bool) (w : World) (hl : Sl 5 RRuleD w a l) (hp : PredI g pre post RRuleD l p w) (hlen : l.length ≤ 100000)
    (eg : ∀ args w, (callFunc g args).run Try.prog w = .ok (.enter g args) w) :
    Calls Try.prog 76 #[.slice a l.length cap, .func (.func g) pre post] w fun e w' => (∃ r : Int, e = .returned (.int .i64 r) ∧ decide (0 ≤ r) = l.any p) ∧ Below w.heap.size w w' := by
  have Hl := Lib.hid hl
  have Hp := Lib.hid hp
  clear hl hp
  go_enter Try.func76, Try.ntmps76
  go_wp2_with fail
  go_loopw [8] (fun i wr => ∃ k : Nat, k ≤ l.length ∧ i = .int .i64 k ∧ Hid (PreP (fun x => !p x) l k) ∧ Hid (Below w.heap.size w wr)) (fun i _ => l.length - (intOf i).toNat)
  case atStart => exact ⟨0, Nat.zero_le _, rfl, Lib.hid PreP.zero, Lib.hid (Below.refl _ _)⟩
  case round =>
    obtain ⟨k, hk, rfl, Hn, Hb⟩ := hrel
    by_cases hlt : k < l.length
    case pos =>
      have hlt' : (k : Int) < (l.length : Int) := by omega
      obtain ⟨b, off, e1, hb2, es, hr, hc⟩ := Hl.out k hlt
      subst e1
      have hmem := List.getElem_mem hlt
      have hsuc := fun h => Hn.out.succ hlt h
      have hhit := fun h => idx_hit (p := p) hlt h
      generalize l[k] = x at *
      obtain ⟨a0, k0, a1, k1, a2, k2, rfl, _⟩ := RRuleD.flat hr
      have c0 : wr.cell? ⟨b, off + k * 5, none⟩ = some (.string x.head) := (Hb.out.cell (p := ⟨b, off + k * 5 + 0, none⟩) hb2).trans (hc 0 (by decide))
      have c1 : wr.cell? ⟨b, off + k * 5 + 1, none⟩ = some (.int .i64 x.schema) := (Hb.out.cell (p := ⟨b, off + k * 5 + 1, none⟩) hb2).trans (hc 1 (by decide))
      have c2 : wr.cell? ⟨b, off + k * 5 + 2, none⟩ = some (.slice a0 x.froms.length k0) := (Hb.out.cell (p := ⟨b, off + k * 5 + 2, none⟩) hb2).trans (hc 2 (by decide))
      have c3 : wr.cell? ⟨b, off + k * 5 + 3, none⟩ = some (.slice a1 x.where_.length k1) := (Hb.out.cell (p := ⟨b, off + k * 5 + 3, none⟩) hb2).trans (hc 3 (by decide))
      have c4 : wr.cell? ⟨b, off + k * 5 + 4, none⟩ = some (.slice a2 x.sets.length k2) := (Hb.out.cell (p := ⟨b, off + k * 5 + 4, none⟩) hb2).trans (hc 4 (by decide))
      have hcall : Calls Try.prog g (pre ++ #[.agg #[.string x.head, .int .i64 x.schema, .slice a0 x.froms.length k0, .slice a1 x.where_.length k1, .slice a2 x.sets.length k2]] ++ post) wr _ := Hp.out wr x _ hmem Hb.out (RRuleD.stab _ _ _ _ hr Hb.out)
      clear hr hc hmem
      cases hq : p x with
      | true =>
        have Hh := Lib.hid (hhit hq)
        rw [hq] at hcall
        clear hsuc hhit hq
        go_wp2_with (go_at_fn g; refine hcall.mono ?_; rintro e w' ⟨rfl, hb'⟩)
        go_ret
        exact ⟨⟨_, rfl, Hh.out⟩, Hb.out.trans (hb'.mono Hb.out.size)⟩
      | false =>
        have Hs := Lib.hid (hsuc (by simp [hq]))
        rw [hq] at hcall
        clear hsuc hhit hq
        go_wp2_with (go_at_fn g; refine hcall.mono ?_; rintro e w' ⟨rfl, hb'⟩)
        go_roundw
        case rel => exact ⟨k + 1, by omega, by go_num, Hs, Lib.hid (Hb.out.trans (hb'.mono Hb.out.size))⟩
        case measure => simp [intOf]; omega
    case neg =>
      have hltz : ¬ (k : Int) < (l.length : Int) := by omega
      have : k = l.length := by omega
      subst this
      have Hm := Lib.hid (idx_miss Hn.out)
      clear Hn
      go_wp2_with fail
      go_ret
      exact ⟨⟨_, rfl, Hm.out⟩, Hb.out⟩
theorem conR (a : Option Addr) (cap : Nat) (l : List RuleD) (g : Nat) (pre post : Array Value) (p : RuleD → Bool) (w : World) (hl : Sl 5 RRuleD w a l) (hp : PredI g pre post RRuleD l p w) (hlen : l.length ≤ 100000)
    (eg : ∀ args w, (callFunc g args).run Try.prog w = .ok (.enter g args) w) :
    Calls Try.prog 61 #[.slice a l.length cap, .func (.func g) pre post] w fun e w' => e = .returned (.bool (l.any p)) ∧ Below w.heap.size w w' := by
  have Hc := Lib.hid (idxR a cap l g pre post p w hl hp hlen eg)
  clear hl hp
  go_enter Try.func61, Try.ntmps61
  go_wp2_with (go_at_call 76; refine Hc.out.mono ?_; rintro e w' ⟨⟨r, rfl, hr⟩, hb'⟩)
  go_ret
  exact ⟨by first | rfl | simp [hr], hb'⟩
theorem idxP_len {w : World} {es : List Value} {x : PurposeD} (h : RPurposeD w es x) : es.length = 3 := by
  obtain ⟨_, _, rfl, _⟩ := h.flat; rfl
set_option maxRecDepth 20000 in
set_option maxHeartbeats 4000000 in
theorem idxP (a : Option Addr) (cap : Nat) (l : List PurposeD) (g : Nat) (pre post : Array Value) (p : PurposeD → Bool) (w : World) (hl : Sl 3 RPurposeD w a l) (hp : PredI g pre post RPurposeD l p w) (hlen : l.length ≤ 100000)
    (eg : ∀ args w, (callFunc g args).run Try.prog w = .ok (.enter g args) w) :
    Calls Try.prog 71 #[.slice a l.length cap, .func (.func g) pre post] w fun e w' => (∃ r : Int, e = .returned (.int .i64 r) ∧ decide (0 ≤ r) = l.any p) ∧ Below w.heap.size w w' := by
  have Hl := Lib.hid hl
  have Hp := Lib.hid hp
  clear hl hp
  go_enter Try.func71, Try.ntmps71
  go_wp2_with fail
  go_loopw [8] (fun i wr => ∃ k : Nat, k ≤ l.length ∧ i = .int .i64 k ∧ Hid (PreP (fun x => !p x) l k) ∧ Hid (Below w.heap.size w wr)) (fun i _ => l.length - (intOf i).toNat)
  case atStart => exact ⟨0, Nat.zero_le _, rfl, Lib.hid PreP.zero, Lib.hid (Below.refl _ _)⟩
  case round =>
    obtain ⟨k, hk, rfl, Hn, Hb⟩ := hrel
    by_cases hlt : k < l.length
    case pos =>
      have hlt' : (k : Int) < (l.length : Int) := by omega
      obtain ⟨b, off, e1, hb2, es, hr, hc⟩ := Hl.out k hlt
      subst e1
      have hmem := List.getElem_mem hlt
      have hsuc := fun h => Hn.out.succ hlt h
      have hhit := fun h => idx_hit (p := p) hlt h
      generalize l[k] = x at *
      obtain ⟨a0, k0, rfl, _⟩ := RPurposeD.flat hr
      have c0 : wr.cell? ⟨b, off + k * 3, none⟩ = some (.string x.name) := (Hb.out.cell (p := ⟨b, off + k * 3 + 0, none⟩) hb2).trans (hc 0 (by decide))
      have c1 : wr.cell? ⟨b, off + k * 3 + 1, none⟩ = some (.slice a0 x.may.length k0) := (Hb.out.cell (p := ⟨b, off + k * 3 + 1, none⟩) hb2).trans (hc 1 (by decide))
      have c2 : wr.cell? ⟨b, off + k * 3 + 2, none⟩ = some (.int .i64 x.most) := (Hb.out.cell (p := ⟨b, off + k * 3 + 2, none⟩) hb2).trans (hc 2 (by decide))
      have hcall : Calls Try.prog g (pre ++ #[.agg #[.string x.name, .slice a0 x.may.length k0, .int .i64 x.most]] ++ post) wr _ := Hp.out wr x _ hmem Hb.out (RPurposeD.stab _ _ _ _ hr Hb.out)
      clear hr hc hmem
      cases hq : p x with
      | true =>
        have Hh := Lib.hid (hhit hq)
        rw [hq] at hcall
        clear hsuc hhit hq
        go_wp2_with (go_at_fn g; refine hcall.mono ?_; rintro e w' ⟨rfl, hb'⟩)
        go_ret
        exact ⟨⟨_, rfl, Hh.out⟩, Hb.out.trans (hb'.mono Hb.out.size)⟩
      | false =>
        have Hs := Lib.hid (hsuc (by simp [hq]))
        rw [hq] at hcall
        clear hsuc hhit hq
        go_wp2_with (go_at_fn g; refine hcall.mono ?_; rintro e w' ⟨rfl, hb'⟩)
        go_roundw
        case rel => exact ⟨k + 1, by omega, by go_num, Hs, Lib.hid (Hb.out.trans (hb'.mono Hb.out.size))⟩
        case measure => simp [intOf]; omega
    case neg =>
      have hltz : ¬ (k : Int) < (l.length : Int) := by omega
      have : k = l.length := by omega
      subst this
      have Hm := Lib.hid (idx_miss Hn.out)
      clear Hn
      go_wp2_with fail
      go_ret
      exact ⟨⟨_, rfl, Hm.out⟩, Hb.out⟩
theorem conP (a : Option Addr) (cap : Nat) (l : List PurposeD) (g : Nat) (pre post : Array Value) (p : PurposeD → Bool) (w : World) (hl : Sl 3 RPurposeD w a l) (hp : PredI g pre post RPurposeD l p w) (hlen : l.length ≤ 100000)
    (eg : ∀ args w, (callFunc g args).run Try.prog w = .ok (.enter g args) w) :
    Calls Try.prog 51 #[.slice a l.length cap, .func (.func g) pre post] w fun e w' => e = .returned (.bool (l.any p)) ∧ Below w.heap.size w w' := by
  have Hc := Lib.hid (idxP a cap l g pre post p w hl hp hlen eg)
  clear hl hp
  go_enter Try.func51, Try.ntmps51
  go_wp2_with (go_at_call 71; refine Hc.out.mono ?_; rintro e w' ⟨⟨r, rfl, hr⟩, hb'⟩)
  go_ret
  exact ⟨by first | rfl | simp [hr], hb'⟩

end Go.Proofs.Ytogenjbabgibbaa
namespace Go.Proofs.Ytogenjbabgibbaa
open Go.RowKit
theorem all_not {α : Type} (l : List α) (p : α → Bool) : (!l.any (fun x => !p x)) = l.all p := by rw [List.any_eq_not_all_not]; simp
theorem PredI.mono {α : Type} {g : Nat} {pre post : Array Value} {R : Rep α} {l : List α} {p : α → Bool} {w w' : World} (h : PredI g pre post R l p w) (hb : Below w.heap.size w w') : PredI g pre post R l p w' :=
  fun W x es hx hb' hr => h W x es hx (hb.trans (hb'.mono hb.size)) hr

set_option maxRecDepth 20000 in
theorem notU (b0 : Nat) (l : List UnitD) (g : Nat) (pre post : Array Value) (p : UnitD → Bool) (w : World) (hb0 : b0 < w.heap.size) (hc : w.cell? ⟨b0, 0, none⟩ = some (.func (.func g) pre post)) (hp : PredI g pre post RUnitD l p w)
    (eg : ∀ args w, (callFunc g args).run Try.prog w = .ok (.enter g args) w) :
    PredI 58 #[] #[.pointer (some ⟨b0, 0, none⟩)] RUnitD l (fun x => !p x) w := fun W x es hx hb hr => by
  obtain ⟨rfl, _⟩ := RUnitD.flat hr
  have hW : W.cell? ⟨b0, 0, none⟩ = some (.func (.func g) pre post) := (hb.cell (p := ⟨b0, 0, none⟩) hb0).trans hc
  have hb1 : b0 < W.heap.size := Nat.lt_of_lt_of_le hb0 hb.size
  have hne : b0 ≠ W.heap.size := by omega
  have Hb := Lib.hid hb
  have Hr := Lib.hid hr
  have Hp := Lib.hid hp
  clear hb hr hp
  show Calls Try.prog 58 #[.agg #[.string x.name, .string x.of_, .int .i64 x.factor, .int .i64 x.base, .int .i64 x.scale], .pointer (some ⟨b0, 0, none⟩)] W _
  go_enter Try.func58, Try.ntmps58
  go_wp2_with (go_at_fn g; refine (Hp.out _ x [.string x.name, .string x.of_, .int .i64 x.factor, .int .i64 x.base, .int .i64 x.scale] hx (Hb.out.alloc Hb.out.size _) (RUnitD.stab _ _ _ _ Hr.out (alloc1 _ _ _))).mono ?_; rintro e w' ⟨rfl, hb'⟩)
  go_ret
  exact ⟨by first | rfl | simp, (alloc1 _ _ _).trans (hb'.mono (by simp))⟩
set_option maxRecDepth 20000 in
theorem allU (a : Option Addr) (cap : Nat) (l : List UnitD) (g : Nat) (pre post : Array Value) (p : UnitD → Bool) (w : World) (hl : Sl 5 RUnitD w a l) (hp : PredI g pre post RUnitD l p w) (hlen : l.length ≤ 100000)
    (eg : ∀ args w, (callFunc g args).run Try.prog w = .ok (.enter g args) w) (r : Bool) (hr : l.all p = r) :
    Calls Try.prog 26 #[.slice a l.length cap, .func (.func g) pre post] w fun e w' => e = .returned (.bool r) ∧ Below w.heap.size w w' := by
  subst hr
  have Hc := Lib.hid (conU a cap l 58 #[] #[.pointer (some ⟨w.heap.size, 0, none⟩)] (fun x => !p x) (w.alloc (.cells #[.func (.func g) pre post] 86)) (hl.below RUnitD.stab (alloc1 _ _ _))
    (notU w.heap.size l g pre post p _ (by simp) (by simp) (hp.mono (alloc1 _ _ _)) eg) hlen (enters_of Try.func58 (by kernel_rfl) rfl))
  rw [← all_not]
  clear hl hp
  go_enter Try.func26, Try.ntmps26
  go_wp2_with (go_at_call 57; refine Hc.out.mono ?_; rintro e w' ⟨rfl, hb'⟩)
  go_ret
  exact ⟨by first | rfl | simp, (alloc1 _ _ _).trans (hb'.mono (by simp))⟩

set_option maxRecDepth 20000 in
theorem notS (b0 : Nat) (l : List SchemaD) (g : Nat) (pre post : Array Value) (p : SchemaD → Bool) (w : World) (hb0 : b0 < w.heap.size) (hc : w.cell? ⟨b0, 0, none⟩ = some (.func (.func g) pre post)) (hp : PredI g pre post RSchemaD l p w)
    (eg : ∀ args w, (callFunc g args).run Try.prog w = .ok (.enter g args) w) :
    PredI 60 #[] #[.pointer (some ⟨b0, 0, none⟩)] RSchemaD l (fun x => !p x) w := fun W x es hx hb hr => by
  obtain ⟨a0, k0, a1, k1, rfl, _⟩ := RSchemaD.flat hr
  have hW : W.cell? ⟨b0, 0, none⟩ = some (.func (.func g) pre post) := (hb.cell (p := ⟨b0, 0, none⟩) hb0).trans hc
  have hb1 : b0 < W.heap.size := Nat.lt_of_lt_of_le hb0 hb.size
  have hne : b0 ≠ W.heap.size := by omega
  have Hb := Lib.hid hb
  have Hr := Lib.hid hr
  have Hp := Lib.hid hp
  clear hb hr hp
  show Calls Try.prog 60 #[.agg #[.string x.name, .string x.by_, .int .i64 x.issuer, .int .i64 x.version, .slice a0 x.fields.length k0, .slice a1 x.depends k1], .pointer (some ⟨b0, 0, none⟩)] W _
  go_enter Try.func60, Try.ntmps60
  go_wp2_with (go_at_fn g; refine (Hp.out _ x [.string x.name, .string x.by_, .int .i64 x.issuer, .int .i64 x.version, .slice a0 x.fields.length k0, .slice a1 x.depends k1] hx (Hb.out.alloc Hb.out.size _) (RSchemaD.stab _ _ _ _ Hr.out (alloc1 _ _ _))).mono ?_; rintro e w' ⟨rfl, hb'⟩)
  go_ret
  exact ⟨by first | rfl | simp, (alloc1 _ _ _).trans (hb'.mono (by simp))⟩
set_option maxRecDepth 20000 in
theorem allS (a : Option Addr) (cap : Nat) (l : List SchemaD) (g : Nat) (pre post : Array Value) (p : SchemaD → Bool) (w : World) (hl : Sl 6 RSchemaD w a l) (hp : PredI g pre post RSchemaD l p w) (hlen : l.length ≤ 100000)
    (eg : ∀ args w, (callFunc g args).run Try.prog w = .ok (.enter g args) w) (r : Bool) (hr : l.all p = r) :
    Calls Try.prog 28 #[.slice a l.length cap, .func (.func g) pre post] w fun e w' => e = .returned (.bool r) ∧ Below w.heap.size w w' := by
  subst hr
  have Hc := Lib.hid (conS a cap l 60 #[] #[.pointer (some ⟨w.heap.size, 0, none⟩)] (fun x => !p x) (w.alloc (.cells #[.func (.func g) pre post] 88)) (hl.below RSchemaD.stab (alloc1 _ _ _))
    (notS w.heap.size l g pre post p _ (by simp) (by simp) (hp.mono (alloc1 _ _ _)) eg) hlen (enters_of Try.func60 (by kernel_rfl) rfl))
  rw [← all_not]
  clear hl hp
  go_enter Try.func28, Try.ntmps28
  go_wp2_with (go_at_call 59; refine Hc.out.mono ?_; rintro e w' ⟨rfl, hb'⟩)
  go_ret
  exact ⟨by first | rfl | simp, (alloc1 _ _ _).trans (hb'.mono (by simp))⟩

set_option maxRecDepth 20000 in
theorem notR (b0 : Nat) (l : List RuleD) (g : Nat) (pre post : Array Value) (p : RuleD → Bool) (w : World) (hb0 : b0 < w.heap.size) (hc : w.cell? ⟨b0, 0, none⟩ = some (.func (.func g) pre post)) (hp : PredI g pre post RRuleD l p w)
    (eg : ∀ args w, (callFunc g args).run Try.prog w = .ok (.enter g args) w) :
    PredI 62 #[] #[.pointer (some ⟨b0, 0, none⟩)] RRuleD l (fun x => !p x) w := fun W x es hx hb hr => by
  obtain ⟨a0, k0, a1, k1, a2, k2, rfl, _⟩ := RRuleD.flat hr
  have hW : W.cell? ⟨b0, 0, none⟩ = some (.func (.func g) pre post) := (hb.cell (p := ⟨b0, 0, none⟩) hb0).trans hc
  have hb1 : b0 < W.heap.size := Nat.lt_of_lt_of_le hb0 hb.size
  have hne : b0 ≠ W.heap.size := by omega
  have Hb := Lib.hid hb
  have Hr := Lib.hid hr
  have Hp := Lib.hid hp
  clear hb hr hp
  show Calls Try.prog 62 #[.agg #[.string x.head, .int .i64 x.schema, .slice a0 x.froms.length k0, .slice a1 x.where_.length k1, .slice a2 x.sets.length k2], .pointer (some ⟨b0, 0, none⟩)] W _
  go_enter Try.func62, Try.ntmps62
  go_wp2_with (go_at_fn g; refine (Hp.out _ x [.string x.head, .int .i64 x.schema, .slice a0 x.froms.length k0, .slice a1 x.where_.length k1, .slice a2 x.sets.length k2] hx (Hb.out.alloc Hb.out.size _) (RRuleD.stab _ _ _ _ Hr.out (alloc1 _ _ _))).mono ?_; rintro e w' ⟨rfl, hb'⟩)
  go_ret
  exact ⟨by first | rfl | simp, (alloc1 _ _ _).trans (hb'.mono (by simp))⟩
set_option maxRecDepth 20000 in
theorem allR (a : Option Addr) (cap : Nat) (l : List RuleD) (g : Nat) (pre post : Array Value) (p : RuleD → Bool) (w : World) (hl : Sl 5 RRuleD w a l) (hp : PredI g pre post RRuleD l p w) (hlen : l.length ≤ 100000)
    (eg : ∀ args w, (callFunc g args).run Try.prog w = .ok (.enter g args) w) (r : Bool) (hr : l.all p = r) :
    Calls Try.prog 30 #[.slice a l.length cap, .func (.func g) pre post] w fun e w' => e = .returned (.bool r) ∧ Below w.heap.size w w' := by
  subst hr
  have Hc := Lib.hid (conR a cap l 62 #[] #[.pointer (some ⟨w.heap.size, 0, none⟩)] (fun x => !p x) (w.alloc (.cells #[.func (.func g) pre post] 84)) (hl.below RRuleD.stab (alloc1 _ _ _))
    (notR w.heap.size l g pre post p _ (by simp) (by simp) (hp.mono (alloc1 _ _ _)) eg) hlen (enters_of Try.func62 (by kernel_rfl) rfl))
  rw [← all_not]
  clear hl hp
  go_enter Try.func30, Try.ntmps30
  go_wp2_with (go_at_call 61; refine Hc.out.mono ?_; rintro e w' ⟨rfl, hb'⟩)
  go_ret
  exact ⟨by first | rfl | simp, (alloc1 _ _ _).trans (hb'.mono (by simp))⟩

set_option maxRecDepth 20000 in
theorem notP (b0 : Nat) (l : List PurposeD) (g : Nat) (pre post : Array Value) (p : PurposeD → Bool) (w : World) (hb0 : b0 < w.heap.size) (hc : w.cell? ⟨b0, 0, none⟩ = some (.func (.func g) pre post)) (hp : PredI g pre post RPurposeD l p w)
    (eg : ∀ args w, (callFunc g args).run Try.prog w = .ok (.enter g args) w) :
    PredI 63 #[] #[.pointer (some ⟨b0, 0, none⟩)] RPurposeD l (fun x => !p x) w := fun W x es hx hb hr => by
  obtain ⟨a0, k0, rfl, _⟩ := RPurposeD.flat hr
  have hW : W.cell? ⟨b0, 0, none⟩ = some (.func (.func g) pre post) := (hb.cell (p := ⟨b0, 0, none⟩) hb0).trans hc
  have hb1 : b0 < W.heap.size := Nat.lt_of_lt_of_le hb0 hb.size
  have hne : b0 ≠ W.heap.size := by omega
  have Hb := Lib.hid hb
  have Hr := Lib.hid hr
  have Hp := Lib.hid hp
  clear hb hr hp
  show Calls Try.prog 63 #[.agg #[.string x.name, .slice a0 x.may.length k0, .int .i64 x.most], .pointer (some ⟨b0, 0, none⟩)] W _
  go_enter Try.func63, Try.ntmps63
  go_wp2_with (go_at_fn g; refine (Hp.out _ x [.string x.name, .slice a0 x.may.length k0, .int .i64 x.most] hx (Hb.out.alloc Hb.out.size _) (RPurposeD.stab _ _ _ _ Hr.out (alloc1 _ _ _))).mono ?_; rintro e w' ⟨rfl, hb'⟩)
  go_ret
  exact ⟨by first | rfl | simp, (alloc1 _ _ _).trans (hb'.mono (by simp))⟩
set_option maxRecDepth 20000 in
theorem allP (a : Option Addr) (cap : Nat) (l : List PurposeD) (g : Nat) (pre post : Array Value) (p : PurposeD → Bool) (w : World) (hl : Sl 3 RPurposeD w a l) (hp : PredI g pre post RPurposeD l p w) (hlen : l.length ≤ 100000)
    (eg : ∀ args w, (callFunc g args).run Try.prog w = .ok (.enter g args) w) (r : Bool) (hr : l.all p = r) :
    Calls Try.prog 31 #[.slice a l.length cap, .func (.func g) pre post] w fun e w' => e = .returned (.bool r) ∧ Below w.heap.size w w' := by
  subst hr
  have Hc := Lib.hid (conP a cap l 63 #[] #[.pointer (some ⟨w.heap.size, 0, none⟩)] (fun x => !p x) (w.alloc (.cells #[.func (.func g) pre post] 91)) (hl.below RPurposeD.stab (alloc1 _ _ _))
    (notP w.heap.size l g pre post p _ (by simp) (by simp) (hp.mono (alloc1 _ _ _)) eg) hlen (enters_of Try.func63 (by kernel_rfl) rfl))
  rw [← all_not]
  clear hl hp
  go_enter Try.func31, Try.ntmps31
  go_wp2_with (go_at_call 51; refine Hc.out.mono ?_; rintro e w' ⟨rfl, hb'⟩)
  go_ret
  exact ⟨by first | rfl | simp, (alloc1 _ _ _).trans (hb'.mono (by simp))⟩

end Go.Proofs.Ytogenjbabgibbaa
