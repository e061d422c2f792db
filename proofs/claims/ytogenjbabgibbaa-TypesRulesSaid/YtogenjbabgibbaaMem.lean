import Derived.Test.YtogenjbabgibbaaRows
import Derived.WalkKit
import Derived.WalkSpells
import Derived.WalkLawsBesides
import Derived.Lib.Hide
import Derived.Deep.WholeRow
import Derived.ProofKit
import Derived.OpenShut
import Derived.ShutString
import Derived.ChangeOld
import Derived.Deep.Slices
namespace Go.Proofs.Ytogenjbabgibbaa
open Go.RowKit

theorem ret_bool {a b : Bool} (h : a = b) : Ending.returned (.bool a) = Ending.returned (.bool b) := by rw [h]
theorem ret_int {k : IntKind} {a b : Int} (h : a = b) : Ending.returned (.int k a) = .returned (.int k b) := by rw [h]

instance decBytes : DecidableEq ByteArray := fun a b => decidable_of_iff (a.data = b.data) ⟨fun h => by cases a; cases b; simpa using h, fun h => by rw [h]⟩

instance lawBytes : LawfulBEq ByteArray where
  eq_of_beq h := (MapKept.bytes_beq _ _).1 h
  rfl := (MapKept.bytes_beq _ _).2 rfl

theorem bytes_ne {f g : ByteArray} (h : ¬ f = g) : (f.toList == g.toList) = false := by
  rw [beq_eq_false_iff_ne]
  intro e
  rw [ByteArray.toList_eq, ByteArray.toList_eq] at e
  apply h
  obtain ⟨⟨f⟩⟩ := f
  obtain ⟨⟨g⟩⟩ := g
  simpa using e

/-! Blocks known whole. -/
def Blk (w : World) (b : Nat) (c : Array Value) (t : TypeId) : Prop := w.heap[b]? = some (.cells c t (0, 0))
theorem Blk.cell {w : World} {b : Nat} {c : Array Value} {t : TypeId} (h : Blk w b c t) (i : Nat) : w.cell? ⟨b, i, none⟩ = c[i]? := cell_of_row w b i c t (0, 0) h
theorem Blk.frozen {w : World} {b : Nat} {c : Array Value} {t : TypeId} (h : Blk w b c t) (i : Nat) : w.frozen? ⟨b, i, none⟩ = false := frozen_of_row w b i c t h
theorem Blk.lt {w : World} {b : Nat} {c : Array Value} {t : TypeId} (h : Blk w b c t) : b < w.heap.size := (Array.getElem?_eq_some_iff.1 h).1
theorem Blk.new (w : World) (c : Array Value) (t : TypeId) : Blk (w.alloc (.cells c t)) w.heap.size c t := heap_alloc_new w _
theorem Blk.alloc {w : World} {b : Nat} {c : Array Value} {t : TypeId} (h : Blk w b c t) (o : Obj) : Blk (w.alloc o) b c t := (Below.heap_alloc w o b h.lt).trans h
theorem Blk.set {w : World} {b : Nat} {c : Array Value} {t : TypeId} (h : Blk w b c t) (i : Nat) (v : Value) : Blk (w.setCell ⟨b, i, none⟩ v) b (c.setIfInBounds i v) t := heap_setCell_same w b i c t v h
theorem Blk.keep {w : World} {b : Nat} {c : Array Value} {t : TypeId} (h : Blk w b c t) {a : Addr} (hne : b ≠ a.block) (v : Value) : Blk (w.setCell a v) b c t := (heap_setCell_other w a b v hne).trans h
theorem Blk.below {w w' : World} {b : Nat} {c : Array Value} {t : TypeId} (h : Blk w b c t) {B : Nat} (hb : Below B w w') (hlt : b < B) : Blk w' b c t := (hb.block b hlt).trans h
theorem Blk.drew {w : World} {b : Nat} {c : Array Value} {t : TypeId} (h : Blk w b c t) : Blk w.drew b c t := h
theorem Blk.grown {W W' : World} {row : Option Nat} {b : Nat} {c : Array Value} {t : TypeId} (h : Blk W b c t) (hg : W.grownBy W' row) (hne : some b ≠ row) : Blk W' b c t := (hg.block b h.lt hne).trans h

/-! What cells read as: a list of cells against a datum; it may lead to memory, and lives on in later worlds. -/
abbrev Rep (α : Type) := World → List Value → α → Prop
def Stab {α : Type} (R : Rep α) : Prop := ∀ (w w' : World) (cs : List Value) (x : α), R w cs x → Below w.heap.size w w' → R w' cs x
/-- what a slice's array reads as: element i, n cells each -/
def Sl {α : Type} (n : Nat) (R : Rep α) (w : World) (a : Option Addr) (l : List α) : Prop :=
  ∀ i (h : i < l.length), ∃ b off, a = some ⟨b, off, none⟩ ∧ b < w.heap.size ∧ ∃ es, R w es l[i] ∧ ∀ j, j < n → w.cell? ⟨b, off + i * n + j, none⟩ = es[j]?
theorem Sl.below {α : Type} {n : Nat} {R : Rep α} (hR : Stab R) {w w' : World} {a : Option Addr} {l : List α} (h : Sl n R w a l) (hb : Below w.heap.size w w') : Sl n R w' a l := fun i hi => by
  obtain ⟨b, off, h1, h2, es, h3, h4⟩ := h i hi
  exact ⟨b, off, h1, Nat.lt_of_lt_of_le h2 hb.size, es, hR w w' es _ h3 hb, fun j hj => (hb.cell (p := ⟨b, _, none⟩) h2).trans (h4 j hj)⟩
theorem Sl.nil {α : Type} {n : Nat} {R : Rep α} {w : World} {a : Option Addr} : Sl n R w a ([] : List α) := fun i hi => by simp at hi
/-- two elements of one slice lie in one block -/
theorem Sl.one {α : Type} {n : Nat} {R : Rep α} {w : World} {b off : Nat} {l : List α} (h : Sl n R w (some ⟨b, off, none⟩) l) (i : Nat) (hi : i < l.length) :
    b < w.heap.size ∧ ∃ es, R w es l[i] ∧ ∀ j, j < n → w.cell? ⟨b, off + i * n + j, none⟩ = es[j]? := by
  obtain ⟨b', off', h1, h2, h3⟩ := h i hi
  simp only [Option.some.injEq, Addr.mk.injEq, and_true] at h1
  obtain ⟨rfl, rfl⟩ := h1
  exact ⟨h2, h3⟩
/-- a slice that begins at element k -/
theorem add_none (b o j : Nat) : (⟨b, o, none⟩ : Addr).add j = ⟨b, o + j, none⟩ := by unfold Addr.add; split <;> simp_all
/-- the slice's own cell -/
def RSl {α : Type} (n : Nat) (R : Rep α) : Rep (List α) := fun w cs l => ∃ a cap, cs = [.slice a l.length cap] ∧ Sl n R w a l
theorem RSl.stab {α : Type} {n : Nat} {R : Rep α} (hR : Stab R) : Stab (RSl n R) := fun _ _ _ _ ⟨a, cap, h1, h2⟩ hb => ⟨a, cap, h1, h2.below hR hb⟩
def RInt : Rep Int := fun _ cs n => cs = [.int .i64 n] ∧ (Lit.int .i64 n).wf = true
def RStr : Rep ByteArray := fun _ cs s => cs = [.string s] ∧ s.size ≤ maxLen
def RBool : Rep Bool := fun _ cs b => cs = [.bool b]
theorem RInt.stab : Stab RInt := fun _ _ _ _ h _ => h
theorem RStr.stab : Stab RStr := fun _ _ _ _ h _ => h
theorem RBool.stab : Stab RBool := fun _ _ _ _ h _ => h

/-! From the form's reading to ours. -/
/-- every reading of type t by the form gives one of ours -/
def Opens {α : Type} (P : Program) (t : TypeId) (R : Rep α) : Prop :=
  ∀ {H : Type} (enc : TypeId × Value → H) (w : World) (spare : Nat → Bool) (held : Bool) (fuel : Nat) (cs : List Value) (x : DataW H × List MemPlace),
    DataW.trod enc P w 0 spare held fuel t cs = some x → ∃ y, R w cs y
theorem opens_int {P : Program} {t : TypeId} (ht : P.underlying t = some (.int .i64)) : Opens P t RInt := fun enc w spare held fuel cs x h => by
  obtain ⟨z, h1, _, h2⟩ := DataW.trod_int ht h
  exact ⟨z, h1, h2⟩
theorem opens_str {P : Program} {t : TypeId} (ht : P.underlying t = some .string) : Opens P t RStr := fun enc w spare held fuel cs x h => by
  obtain ⟨s, h1, h2, h3⟩ := DataW.trod_string ht h
  exact ⟨s, h1, by first | exact h3 | exact h2⟩
theorem opens_slice {α : Type} {P : Program} {t e : TypeId} {n : Nat} {R : Rep α} (ht : P.underlying t = some (.slice e)) (hn : P.cellsOf e = n) (hpos : 0 < n) (hR : Opens P e R) : Opens P t (RSl n R) := fun enc w spare held fuel cs x h => by
  rcases Go.Deep.open_slice ht h with ⟨rfl, _⟩ | ⟨a, len, cap, m, k, D, Pl, rfl, _, hl, hm, hmm, _, hx⟩
  · exact ⟨[], none, 0, rfl, Sl.nil⟩
  · have hlm : len ≤ m := by rw [hmm]; split <;> omega
    have e0 : ∀ i, i < m → ∃ z : α, ∃ es, R w es z ∧ w.cells? 0 (a.add (i * n)) n = some es := fun i hi => by
      obtain ⟨es, h2, h3⟩ := hx i hi
      rw [hn] at h2
      obtain ⟨z, hz⟩ := hR enc w spare held k es _ h3
      exact ⟨z, es, hz, h2⟩
    by_cases h0 : len = 0
    · subst h0
      exact ⟨[], some a, cap, rfl, Sl.nil⟩
    · obtain ⟨z0, _⟩ := e0 0 (by omega)
      have : Inhabited α := ⟨z0⟩
      obtain ⟨z, hz⟩ := Go.Deep.choose_lt e0
      refine ⟨(List.range len).map z, some a, cap, by simp, fun i hi => ?_⟩
      have hi' : i < len := by simpa using hi
      obtain ⟨b, off, spot⟩ := a
      obtain ⟨es0, _, hc0⟩ := hz 0 (by omega)
      obtain ⟨_, hlen0, hcell0⟩ := World.cells?_some hc0
      have hspot : spot = none := by
        have this := hcell0 0 hpos
        rw [List.getElem?_eq_getElem (by omega)] at this
        have h9 := World.cell?_spot this
        simpa [Addr.add] using h9
      subst hspot
      obtain ⟨es, hr, hc⟩ := hz i (by omega)
      obtain ⟨_, hlen, hcell⟩ := World.cells?_some hc
      have hc1 := hcell 0 hpos
      rw [add_none, add_none, List.getElem?_eq_getElem (by omega)] at hc1
      refine ⟨b, off, rfl, World.block_lt_of_cell? w ⟨b, _, none⟩ hc1, es, by simpa using hr, fun j hj => ?_⟩
      have := hcell j hj
      rw [add_none, add_none] at this
      rw [this]

/-! A property of all elements, as a loop finds it. -/
def PreP {α : Type} (p : α → Bool) (L : List α) (k : Nat) : Prop := ∀ i (h : i < L.length), i < k → p L[i] = true
theorem PreP.zero {α : Type} {p : α → Bool} {L : List α} : PreP p L 0 := fun i _ hk => absurd hk (Nat.not_lt_zero i)
theorem PreP.succ {α : Type} {p : α → Bool} {L : List α} {k : Nat} (h : PreP p L k) (hk : k < L.length) (h' : p L[k] = true) : PreP p L (k + 1) := by
  intro i hi hik
  by_cases e : i = k
  · subst e; exact h'
  · exact h i hi (by omega)
theorem PreP.all {α : Type} {p : α → Bool} {L : List α} {k : Nat} (h : PreP p L k) (hk : L.length ≤ k) : L.all p = true := by
  rw [List.all_eq_true]
  intro s hs
  obtain ⟨i, hi, rfl⟩ := List.getElem_of_mem hs
  exact h i hi (by omega)
theorem not_all {α : Type} {p : α → Bool} {L : List α} {k : Nat} (hk : k < L.length) (h' : p L[k] = false) : L.all p = false := by
  rw [List.all_eq_false]
  exact ⟨L[k], List.getElem_mem hk, by simp [h']⟩
theorem take_succ' {α : Type} {L : List α} {k : Nat} (h : k < L.length) : L.take (k + 1) = L.take k ++ [L[k]] := by
  rw [List.take_add_one, List.getElem?_eq_getElem h]; rfl
theorem take_nodup_succ {α : Type} [DecidableEq α] {L : List α} {k : Nat} (hk : k < L.length) (h : (L.take k).Nodup) (hn : L[k] ∉ L.take k) : (L.take (k + 1)).Nodup := by
  rw [take_succ' hk, List.nodup_append]
  exact ⟨h, by simp, fun a ha b hb => by simp at hb; subst hb; intro e; exact hn (e ▸ ha)⟩
theorem not_nodup_take {α : Type} {L : List α} {k : Nat} (hk : k < L.length) (hn : L[k] ∈ L.take k) : ¬ L.Nodup := by
  intro h
  obtain ⟨i, hi, he⟩ := List.getElem_of_mem hn
  simp at hi he
  have := (List.getElem_inj h (i := i) (j := k) (h₀ := by omega) (h₁ := hk)).1 he
  omega
end Go.Proofs.Ytogenjbabgibbaa
