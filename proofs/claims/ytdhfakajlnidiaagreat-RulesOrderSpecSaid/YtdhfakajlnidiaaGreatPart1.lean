/- Part 1 of the walks and laws that these claims rest on. No condition. -/
import Derived.Test.YtdhfakajlnidiaaGreatRows
import Derived.WalkKit
import Derived.WalkSpells
import Derived.WalkLawsBesides
import Derived.Lib.Hide
import Derived.Deep.WholeRow
import Derived.ProofKit
import Derived.OpenShut
import Derived.ShutString
import Derived.ChangeOld
import Derived.Deep.Slices
import Derived.Laws.IdiomCopy
import Derived.BigQuiet
import Derived.Deep.QuietTactic
import Derived.Deep.MidRow
import Derived.Laws.MakeOwn
import Derived.ChangeKeysEq
set_option linter.all false
set_option linter.unusedSimpArgs false
set_option linter.unusedVariables false
set_option linter.unnecessarySimpa false
namespace Go.Proofs.YtdhfakajlnidiaaGreat
open Go.RowKit

theorem ret_bool {a b : Bool} (h : a = b) : Ending.returned (.bool a) = Ending.returned (.bool b) := by rw [h]
theorem ret_int {k : IntKind} {a b : Int} (h : a = b) : Ending.returned (.int k a) = .returned (.int k b) := by rw [h]

instance decBytes : DecidableEq ByteArray := fun a b => decidable_of_iff (a.data = b.data) ⟨fun h => by cases a; cases b; simpa using h, fun h => by rw [h]⟩

instance lawBytes : LawfulBEq ByteArray where
  eq_of_beq h := (MapKept.bytes_beq _ _).1 h
  rfl := (MapKept.bytes_beq _ _).2 rfl

theorem bytes_ne {f g : ByteArray} (h : ¬ f = g) : (f.toList == g.toList) = false := by
  rw [beq_eq_false_iff_ne]
  intro e
  rw [ByteArray.toList_eq, ByteArray.toList_eq] at e
  apply h
  obtain ⟨⟨f⟩⟩ := f
  obtain ⟨⟨g⟩⟩ := g
  simpa using e

/-! Blocks known whole. -/
def Blk (w : World) (b : Nat) (c : Array Value) (t : TypeId) : Prop := w.heap[b]? = some (.cells c t (0, 0))
theorem Blk.cell {w : World} {b : Nat} {c : Array Value} {t : TypeId} (h : Blk w b c t) (i : Nat) : w.cell? ⟨b, i, none⟩ = c[i]? := cell_of_row w b i c t (0, 0) h
theorem Blk.frozen {w : World} {b : Nat} {c : Array Value} {t : TypeId} (h : Blk w b c t) (i : Nat) : w.frozen? ⟨b, i, none⟩ = false := frozen_of_row w b i c t h
theorem Blk.lt {w : World} {b : Nat} {c : Array Value} {t : TypeId} (h : Blk w b c t) : b < w.heap.size := (Array.getElem?_eq_some_iff.1 h).1
theorem Blk.new (w : World) (c : Array Value) (t : TypeId) : Blk (w.alloc (.cells c t)) w.heap.size c t := heap_alloc_new w _
theorem Blk.alloc {w : World} {b : Nat} {c : Array Value} {t : TypeId} (h : Blk w b c t) (o : Obj) : Blk (w.alloc o) b c t := (Below.heap_alloc w o b h.lt).trans h
theorem Blk.set {w : World} {b : Nat} {c : Array Value} {t : TypeId} (h : Blk w b c t) (i : Nat) (v : Value) : Blk (w.setCell ⟨b, i, none⟩ v) b (c.setIfInBounds i v) t := heap_setCell_same w b i c t v h
theorem Blk.keep {w : World} {b : Nat} {c : Array Value} {t : TypeId} (h : Blk w b c t) {a : Addr} (hne : b ≠ a.block) (v : Value) : Blk (w.setCell a v) b c t := (heap_setCell_other w a b v hne).trans h
theorem Blk.below {w w' : World} {b : Nat} {c : Array Value} {t : TypeId} (h : Blk w b c t) {B : Nat} (hb : Below B w w') (hlt : b < B) : Blk w' b c t := (hb.block b hlt).trans h
theorem Blk.drew {w : World} {b : Nat} {c : Array Value} {t : TypeId} (h : Blk w b c t) : Blk w.drew b c t := h
theorem Blk.grown {W W' : World} {row : Option Nat} {b : Nat} {c : Array Value} {t : TypeId} (h : Blk W b c t) (hg : W.grownBy W' row) (hne : some b ≠ row) : Blk W' b c t := (hg.block b h.lt hne).trans h

/-! What cells read as: a list of cells against a datum; it may lead to memory, and lives on in later worlds. -/
abbrev Rep (α : Type) := World → List Value → α → Prop
def Stab {α : Type} (R : Rep α) : Prop := ∀ (w w' : World) (cs : List Value) (x : α), R w cs x → Below w.heap.size w w' → R w' cs x
/-- what a slice's array reads as: element i, n cells each -/
def Sl {α : Type} (n : Nat) (R : Rep α) (w : World) (a : Option Addr) (l : List α) : Prop :=
  ∀ i (h : i < l.length), ∃ b off, a = some ⟨b, off, none⟩ ∧ b < w.heap.size ∧ ∃ es, R w es l[i] ∧ ∀ j, j < n → w.cell? ⟨b, off + i * n + j, none⟩ = es[j]?
theorem Sl.below {α : Type} {n : Nat} {R : Rep α} (hR : Stab R) {w w' : World} {a : Option Addr} {l : List α} (h : Sl n R w a l) (hb : Below w.heap.size w w') : Sl n R w' a l := fun i hi => by
  obtain ⟨b, off, h1, h2, es, h3, h4⟩ := h i hi
  exact ⟨b, off, h1, Nat.lt_of_lt_of_le h2 hb.size, es, hR w w' es _ h3 hb, fun j hj => (hb.cell (p := ⟨b, _, none⟩) h2).trans (h4 j hj)⟩
theorem Sl.nil {α : Type} {n : Nat} {R : Rep α} {w : World} {a : Option Addr} : Sl n R w a ([] : List α) := fun i hi => by simp at hi
/-- two elements of one slice lie in one block -/
theorem Sl.one {α : Type} {n : Nat} {R : Rep α} {w : World} {b off : Nat} {l : List α} (h : Sl n R w (some ⟨b, off, none⟩) l) (i : Nat) (hi : i < l.length) :
    b < w.heap.size ∧ ∃ es, R w es l[i] ∧ ∀ j, j < n → w.cell? ⟨b, off + i * n + j, none⟩ = es[j]? := by
  obtain ⟨b', off', h1, h2, h3⟩ := h i hi
  simp only [Option.some.injEq, Addr.mk.injEq, and_true] at h1
  obtain ⟨rfl, rfl⟩ := h1
  exact ⟨h2, h3⟩
/-- a slice that begins at element k -/
theorem add_none (b o j : Nat) : (⟨b, o, none⟩ : Addr).add j = ⟨b, o + j, none⟩ := by unfold Addr.add; split <;> simp_all
/-- the slice's own cell -/
def RSl {α : Type} (n : Nat) (R : Rep α) : Rep (List α) := fun w cs l => ∃ a cap, cs = [.slice a l.length cap] ∧ Sl n R w a l
theorem RSl.stab {α : Type} {n : Nat} {R : Rep α} (hR : Stab R) : Stab (RSl n R) := fun _ _ _ _ ⟨a, cap, h1, h2⟩ hb => ⟨a, cap, h1, h2.below hR hb⟩
def RInt : Rep Int := fun _ cs n => cs = [.int .i64 n] ∧ (Lit.int .i64 n).wf = true
def RStr : Rep ByteArray := fun _ cs s => cs = [.string s] ∧ s.size ≤ maxLen
def RBool : Rep Bool := fun _ cs b => cs = [.bool b]
theorem RInt.stab : Stab RInt := fun _ _ _ _ h _ => h
theorem RStr.stab : Stab RStr := fun _ _ _ _ h _ => h
theorem RBool.stab : Stab RBool := fun _ _ _ _ h _ => h

/-! From the form's reading to ours. -/
/-- every reading of type t by the form gives one of ours -/
def Opens {α : Type} (P : Program) (t : TypeId) (R : Rep α) : Prop :=
  ∀ {H : Type} (enc : TypeId × Value → H) (w : World) (spare : Nat → Bool) (held : Bool) (fuel : Nat) (cs : List Value) (x : DataW H × List MemPlace),
    DataW.trod enc P w 0 spare held fuel t cs = some x → ∃ y, R w cs y
theorem opens_int {P : Program} {t : TypeId} (ht : P.underlying t = some (.int .i64)) : Opens P t RInt := fun enc w spare held fuel cs x h => by
  obtain ⟨z, h1, _, h2⟩ := DataW.trod_int ht h
  exact ⟨z, h1, h2⟩
theorem opens_str {P : Program} {t : TypeId} (ht : P.underlying t = some .string) : Opens P t RStr := fun enc w spare held fuel cs x h => by
  obtain ⟨s, h1, h2, h3⟩ := DataW.trod_string ht h
  exact ⟨s, h1, by first | exact h3 | exact h2⟩
theorem opens_slice {α : Type} {P : Program} {t e : TypeId} {n : Nat} {R : Rep α} (ht : P.underlying t = some (.slice e)) (hn : P.cellsOf e = n) (hpos : 0 < n) (hR : Opens P e R) : Opens P t (RSl n R) := fun enc w spare held fuel cs x h => by
  rcases Go.Deep.open_slice ht h with ⟨rfl, _⟩ | ⟨a, len, cap, m, k, D, Pl, rfl, _, hl, hm, hmm, _, hx⟩
  · exact ⟨[], none, 0, rfl, Sl.nil⟩
  · have hlm : len ≤ m := by rw [hmm]; split <;> omega
    have e0 : ∀ i, i < m → ∃ z : α, ∃ es, R w es z ∧ w.cells? 0 (a.add (i * n)) n = some es := fun i hi => by
      obtain ⟨es, h2, h3⟩ := hx i hi
      rw [hn] at h2
      obtain ⟨z, hz⟩ := hR enc w spare held k es _ h3
      exact ⟨z, es, hz, h2⟩
    by_cases h0 : len = 0
    · subst h0
      exact ⟨[], some a, cap, rfl, Sl.nil⟩
    · obtain ⟨z0, _⟩ := e0 0 (by omega)
      have : Inhabited α := ⟨z0⟩
      obtain ⟨z, hz⟩ := Go.Deep.choose_lt e0
      refine ⟨(List.range len).map z, some a, cap, by simp, fun i hi => ?_⟩
      have hi' : i < len := by simpa using hi
      obtain ⟨b, off, spot⟩ := a
      obtain ⟨es0, _, hc0⟩ := hz 0 (by omega)
      obtain ⟨_, hlen0, hcell0⟩ := World.cells?_some hc0
      have hspot : spot = none := by
        have this := hcell0 0 hpos
        rw [List.getElem?_eq_getElem (by omega)] at this
        have h9 := World.cell?_spot this
        simpa [Addr.add] using h9
      subst hspot
      obtain ⟨es, hr, hc⟩ := hz i (by omega)
      obtain ⟨_, hlen, hcell⟩ := World.cells?_some hc
      have hc1 := hcell 0 hpos
      rw [add_none, add_none, List.getElem?_eq_getElem (by omega)] at hc1
      refine ⟨b, off, rfl, World.block_lt_of_cell? w ⟨b, _, none⟩ hc1, es, by simpa using hr, fun j hj => ?_⟩
      have := hcell j hj
      rw [add_none, add_none] at this
      rw [this]

/-! A property of all elements, as a loop finds it. -/
def PreP {α : Type} (p : α → Bool) (L : List α) (k : Nat) : Prop := ∀ i (h : i < L.length), i < k → p L[i] = true
theorem PreP.zero {α : Type} {p : α → Bool} {L : List α} : PreP p L 0 := fun i _ hk => absurd hk (Nat.not_lt_zero i)
theorem PreP.succ {α : Type} {p : α → Bool} {L : List α} {k : Nat} (h : PreP p L k) (hk : k < L.length) (h' : p L[k] = true) : PreP p L (k + 1) := by
  intro i hi hik
  by_cases e : i = k
  · subst e; exact h'
  · exact h i hi (by omega)
theorem PreP.all {α : Type} {p : α → Bool} {L : List α} {k : Nat} (h : PreP p L k) (hk : L.length ≤ k) : L.all p = true := by
  rw [List.all_eq_true]
  intro s hs
  obtain ⟨i, hi, rfl⟩ := List.getElem_of_mem hs
  exact h i hi (by omega)
theorem not_all {α : Type} {p : α → Bool} {L : List α} {k : Nat} (hk : k < L.length) (h' : p L[k] = false) : L.all p = false := by
  rw [List.all_eq_false]
  exact ⟨L[k], List.getElem_mem hk, by simp [h']⟩
theorem take_succ' {α : Type} {L : List α} {k : Nat} (h : k < L.length) : L.take (k + 1) = L.take k ++ [L[k]] := by
  rw [List.take_add_one, List.getElem?_eq_getElem h]; rfl
theorem take_nodup_succ {α : Type} [DecidableEq α] {L : List α} {k : Nat} (hk : k < L.length) (h : (L.take k).Nodup) (hn : L[k] ∉ L.take k) : (L.take (k + 1)).Nodup := by
  rw [take_succ' hk, List.nodup_append]
  exact ⟨h, by simp, fun a ha b hb => by simp at hb; subst hb; intro e; exact hn (e ▸ ha)⟩
theorem not_nodup_take {α : Type} {L : List α} {k : Nat} (hk : k < L.length) (hn : L[k] ∈ L.take k) : ¬ L.Nodup := by
  intro h
  obtain ⟨i, hi, he⟩ := List.getElem_of_mem hn
  simp at hi he
  have := (List.getElem_inj h (i := i) (j := k) (h₀ := by omega) (h₁ := hk)).1 he
  omega
end Go.Proofs.YtdhfakajlnidiaaGreat
namespace Go.Proofs.YtdhfakajlnidiaaGreat
open Go.RowKit

/-! A world behind fresh blocks, made opaque. -/
theorem blk1 {w w0 : World} {c0 : Array Value} {t0 : TypeId} (h : w.alloc (.cells c0 t0) = w0) :
    Blk w0 w.heap.size c0 t0 ∧ w0.heap.size = w.heap.size + 1 ∧ Below w.heap.size w w0 := by
  subst h
  exact ⟨Blk.new _ _ _, by simp, (Below.refl _ _).alloc (Nat.le_refl _) _⟩
theorem blk2 {w w0 : World} {c0 c1 : Array Value} {t0 t1 : TypeId} (h : (w.alloc (.cells c0 t0)).alloc (.cells c1 t1) = w0) :
    Blk w0 w.heap.size c0 t0 ∧ Blk w0 (w.heap.size + 1) c1 t1 ∧ w0.heap.size = w.heap.size + 2 ∧ Below w.heap.size w w0 := by
  subst h
  obtain ⟨x0, s0, b0⟩ := blk1 (w := w) (c0 := c0) (t0 := t0) rfl
  have x := Blk.new (w.alloc (.cells c0 t0)) c1 t1
  rw [s0] at x
  exact ⟨x0.alloc _, x, by simp, b0.alloc (by simp; try omega) _⟩
theorem blk3 {w w0 : World} {c0 c1 c2 : Array Value} {t0 t1 t2 : TypeId} (h : ((w.alloc (.cells c0 t0)).alloc (.cells c1 t1)).alloc (.cells c2 t2) = w0) :
    Blk w0 w.heap.size c0 t0 ∧ Blk w0 (w.heap.size + 1) c1 t1 ∧ Blk w0 (w.heap.size + 2) c2 t2 ∧ w0.heap.size = w.heap.size + 3 ∧ Below w.heap.size w w0 := by
  subst h
  obtain ⟨x0, x1, s0, b0⟩ := blk2 (w := w) (c0 := c0) (t0 := t0) (c1 := c1) (t1 := t1) rfl
  have x := Blk.new ((w.alloc (.cells c0 t0)).alloc (.cells c1 t1)) c2 t2
  rw [s0] at x
  exact ⟨x0.alloc _, x1.alloc _, x, by simp, b0.alloc (by simp; try omega) _⟩
theorem blk4 {w w0 : World} {c0 c1 c2 c3 : Array Value} {t0 t1 t2 t3 : TypeId} (h : (((w.alloc (.cells c0 t0)).alloc (.cells c1 t1)).alloc (.cells c2 t2)).alloc (.cells c3 t3) = w0) :
    Blk w0 w.heap.size c0 t0 ∧ Blk w0 (w.heap.size + 1) c1 t1 ∧ Blk w0 (w.heap.size + 2) c2 t2 ∧ Blk w0 (w.heap.size + 3) c3 t3 ∧ w0.heap.size = w.heap.size + 4 ∧ Below w.heap.size w w0 := by
  subst h
  obtain ⟨x0, x1, x2, s0, b0⟩ := blk3 (w := w) (c0 := c0) (t0 := t0) (c1 := c1) (t1 := t1) (c2 := c2) (t2 := t2) rfl
  have x := Blk.new (((w.alloc (.cells c0 t0)).alloc (.cells c1 t1)).alloc (.cells c2 t2)) c3 t3
  rw [s0] at x
  exact ⟨x0.alloc _, x1.alloc _, x2.alloc _, x, by simp, b0.alloc (by simp; try omega) _⟩
/-- an old place's cell in a later world -/
theorem cell_kept {w w' : World} (hb : Below w.heap.size w w') {b o : Nat} {v : Value} (h : w.cell? ⟨b, o, none⟩ = some v) (hlt : b < w.heap.size) : w'.cell? ⟨b, o, none⟩ = some v :=
  (hb.cell (p := ⟨b, o, none⟩) hlt).trans h
theorem blk_setCells {b : Nat} {t : TypeId} : ∀ (vs : List Value) (o : Nat) (w : World) (c : Array Value), Blk w b c t → o + vs.length ≤ c.size →
    ∃ c', Blk (w.setCells b o vs) b c' t ∧ c'.size = c.size ∧ (∀ j, j < o → c'[j]? = c[j]?) ∧ ∀ j, j < vs.length → c'[o + j]? = vs[j]?
  | [], o, w, c, h, _ => ⟨c, h, rfl, fun _ _ => rfl, fun j hj => by simp at hj⟩
  | v :: vs, o, w, c, h, hl => by
    simp only [List.length_cons] at hl
    obtain ⟨c', h1, h2, h3, h4⟩ := blk_setCells vs (o + 1) (w.setCell ⟨b, o, none⟩ v) _ (h.set o v) (by simp; omega)
    refine ⟨c', h1, by simpa using h2, fun j hj => ?_, fun j hj => ?_⟩
    · rw [h3 j (by omega), Array.getElem?_setIfInBounds_ne (by omega)]
    · cases j with
      | zero =>
        have := h3 o (by omega)
        rw [Array.getElem?_setIfInBounds_self_of_lt (by omega)] at this
        simpa using this
      | succ j =>
        have := h4 j (by simpa using hj)
        rw [show o + (j + 1) = o + 1 + j by omega, this]
        simp
theorem below_setCells {b B : Nat} (hB : B ≤ b) : ∀ (vs : List Value) (o : Nat) (w : World), Below B w (w.setCells b o vs)
  | [], _, _ => Below.refl _ _
  | v :: vs, o, w => ((Below.refl B w).setCell hB v).trans (below_setCells hB vs (o + 1) _)
theorem blk_setCells_other {b b' : Nat} (hne : b' ≠ b) {c : Array Value} {t : TypeId} : ∀ (vs : List Value) (o : Nat) (w : World), Blk w b' c t → Blk (w.setCells b o vs) b' c t
  | [], _, _, h => h
  | v :: vs, o, w, h => blk_setCells_other hne vs (o + 1) _ (h.keep (a := ⟨b, o, none⟩) hne v)
/-- a whole block of the call's own is written -/
theorem stored {w w0 : World} {b : Nat} {c : Array Value} {t : TypeId} {vs : List Value} (hb : Blk w b c t) (hc : c.size = vs.length) (h : w.setCells b 0 vs = w0) :
    Blk w0 b vs.toArray t ∧ (∀ {b' o : Nat} {v : Value}, w.cell? ⟨b', o, none⟩ = some v → b' ≠ b → w0.cell? ⟨b', o, none⟩ = some v) ∧ w0.heap.size = w.heap.size ∧ (∀ B, B ≤ b → Below B w w0) ∧
      ∀ {b' : Nat} {c' : Array Value} {t' : TypeId}, Blk w b' c' t' → b' ≠ b → Blk w0 b' c' t' := by
  subst h
  obtain ⟨c', h1, h2, _, h4⟩ := blk_setCells vs 0 w c hb (by omega)
  have e : c' = vs.toArray := by
    apply Array.ext_getElem?
    intro j
    by_cases hj : j < vs.length
    · have := h4 j hj
      simpa using this
    · rw [Array.getElem?_eq_none (by omega), Array.getElem?_eq_none (by simp; omega)]
  subst e
  refine ⟨h1, fun h' hne => (World.cell?_setCells_out b vs 0 w _ (fun e => absurd e hne)).trans h', ?_, fun B hB => below_setCells hB vs 0 w, fun hb' hne => blk_setCells_other hne vs 0 w hb'⟩
  have a1 := (below_setCells (B := 0) (Nat.zero_le b) vs 0 w).size
  have a2 : ∀ (vs : List Value) (o : Nat) (w : World), (w.setCells b o vs).heap.size = w.heap.size := by
    intro vs
    induction vs with
    | nil => intro o w; rfl
    | cons v vs ih => intro o w; show ((w.setCell ⟨b, o, none⟩ v).setCells b (o + 1) vs).heap.size = _; rw [ih]; simp
  exact a2 vs 0 w

/-! A region that draws its order, whose operations read old memory and whose calls make new memory: one walk. -/
/-- the worlds grown out of one -/
def GW (w : World) : Type := {w' : World // Below w.heap.size w w'}
instance instGW (w : World) : Inhabited (GW w) := ⟨⟨w, Below.refl _ _⟩⟩
def grown (w : World) (n : GW w) : World := n.1
theorem grown_below (w : World) (n : GW w) : Below w.heap.size w (grown w n) := n.2
@[simp] theorem cell?_grown (w : World) (n : GW w) (p : Addr) (h : (w.cell? p).isSome = true) : (grown w n).cell? p = w.cell? p := by
  obtain ⟨v, hv⟩ := Option.isSome_iff_exists.1 h
  exact n.2.cell (World.block_lt_of_cell? w p hv)
theorem wp_region_grown {P : Program} {id : Nat} {Q : Exit → Act → World → Prop} {a : Act} {w : World} {l : List Oper} (hm : P.follows .mixedOrders = true) (hB : Region.lexB .any l.toArray = true)
    (h : wpQuiet P l.toArray (fun w' => ∃ n : GW w, w' = grown w n) (fun a' => ∀ w', (∃ n : GW w, w' = grown w n) → Q .normal a' w') l a) : (Code.region id l.toArray true).wp P Q a w :=
  wp_region_quiet (C := fun w' => ∃ n : GW w, w' = grown w n) hm hB ⟨⟨w.drew, (Below.refl _ _).drew⟩, rfl⟩ (by simpa using h)
/-- a callee's contract, met in a grown world -/
theorem calls_grown {P : Program} {f : FuncId} {args : Array Value} {w : World} {n : GW w} {v : Value}
    (h : Calls P f args (grown w n) fun e w' => e = .returned v ∧ Below (Go.Proofs.YtdhfakajlnidiaaGreat.grown w n).heap.size (Go.Proofs.YtdhfakajlnidiaaGreat.grown w n) w') : Calls P f args (Go.Proofs.YtdhfakajlnidiaaGreat.grown w n) fun e w'' => e = .returned v ∧ ∃ m : GW w, w'' = Go.Proofs.YtdhfakajlnidiaaGreat.grown w m :=
  h.mono fun _ w' ⟨he, hb⟩ => ⟨he, ⟨w', n.2.trans (hb.mono n.2.size)⟩, rfl⟩
end Go.Proofs.YtdhfakajlnidiaaGreat
namespace Go.Proofs.YtdhfakajlnidiaaGreat
open Go.RowKit

/-! A region that draws its order: first operations that read and call, then (behind all of them) a tail in one forced order. -/
def waitsOn (md : Region.Mode) (o : Oper) (i : Nat) : Bool := o.after.any fun e => Region.binds md e && e.on == i
def tailOK (md : Region.Mode) (n t : Nat) (o : Oper) : Bool :=
  o.after.all (fun e => !Region.binds md e || decide (e.on < t)) && (match o.guard with | some (j, _) => decide (j < t) | none => true) &&
    (decide (t < n) || ((List.range n).all (waitsOn md o) && (decide (t = n) || waitsOn md o (t - 1))))
def tailB (md : Region.Mode) (ops : Array Oper) (n : Nat) : Bool := decide (n ≤ ops.size) && (List.range ops.size).all fun t => match ops[t]? with | some o => tailOK md n t o | none => true

section
variable {P : Program} {ops : Array Oper} {md : Region.Mode} {C : World → Prop} {n : Nat}
theorem waitsOn_spec {o : Oper} {i : Nat} (h : waitsOn md o i = true) : ∃ e ∈ o.after, Region.binds md e = true ∧ e.on = i := by
  obtain ⟨e, he, hb⟩ := Array.any_eq_true'.1 h
  simp only [Bool.and_eq_true, beq_iff_eq] at hb
  exact ⟨e, he, hb.1, hb.2⟩
structure TailFacts (md : Region.Mode) (ops : Array Oper) (n : Nat) : Prop where
  le : n ≤ ops.size
  back : ∀ (t : Nat) (o : Oper), ops[t]? = some o → ∀ e ∈ o.after, Region.binds md e = true → e.on < t
  guard : ∀ (t : Nat) (o : Oper) (j : Nat) (b : Bool), ops[t]? = some o → o.guard = some (j, b) → j < t
  all : ∀ (t : Nat) (o : Oper), ops[t]? = some o → n ≤ t → ∀ i, i < n → waitsOn md o i = true
  seq : ∀ (t : Nat) (o : Oper), ops[t]? = some o → n < t → waitsOn md o (t - 1) = true
theorem tailB_spec (h : tailB md ops n = true) : TailFacts md ops n := by
  unfold tailB at h
  simp only [Bool.and_eq_true, decide_eq_true_eq] at h
  have key : ∀ t o, ops[t]? = some o → tailOK md n t o = true := fun t o ho => by
    have hlt : t < ops.size := (Array.getElem?_eq_some_iff.1 ho).1
    have := List.all_eq_true.1 h.2 t (List.mem_range.2 hlt)
    simpa [ho] using this
  have key2 : ∀ t o, ops[t]? = some o → (∀ e ∈ o.after, Region.binds md e = true → e.on < t) ∧ (match o.guard with | some (j, _) => decide (j < t) | none => true) = true ∧ (t < n ∨ ((∀ i, i < n → waitsOn md o i = true) ∧ (t = n ∨ waitsOn md o (t - 1) = true))) := fun t o ho => by
    have := key t o ho
    unfold tailOK at this
    simp only [Bool.and_eq_true, Bool.or_eq_true, decide_eq_true_eq] at this
    refine ⟨fun e he hbd => ?_, this.1.2, this.2.imp id fun q => ⟨fun i hi => List.all_eq_true.1 q.1 i (List.mem_range.2 hi), q.2⟩⟩
    have := Array.all_eq_true_iff_forall_mem.1 this.1.1 e he
    simpa [hbd] using this
  refine ⟨h.1, fun t o ho => (key2 t o ho).1, fun t o j b ho hg => ?_, fun t o ho ht => ?_, fun t o ho ht => ?_⟩
  · have := (key2 t o ho).2.1
    rw [hg] at this
    simpa using this
  · rcases (key2 t o ho).2.2 with q | q
    · omega
    · exact q.1
  · rcases (key2 t o ho).2.2 with q | q
    · omega
    · rcases q.2 with q | q
      · omega
      · exact q
theorem getD_flip {l : Array Bool} {i : Nat} (hi : i < l.size) (h : ¬ l.getD i true = false) : l.getD i false = true := by
  simp [hi] at h ⊢; exact h
theorem getD_flip' {l : Array Bool} {i : Nat} (h : l.getD i true = false) : l.getD i false = false := by
  rcases Nat.lt_or_ge i l.size with h' | h'
  · simp [h'] at h ⊢; exact h
  · simp [Array.getElem?_eq_none h'] at h
/-- the weaker form: the tail's first operation waits for the front by way of others -/
structure TailW (md : Region.Mode) (ops : Array Oper) (n : Nat) : Prop where
  le : n ≤ ops.size
  back : ∀ (t : Nat) (o : Oper), ops[t]? = some o → ∀ e ∈ o.after, Region.binds md e = true → e.on < t
  guard : ∀ (t : Nat) (o : Oper) (j : Nat) (b : Bool), ops[t]? = some o → o.guard = some (j, b) → j < t
  reach : n < ops.size → ∀ i, i < n → ∃ (t : Nat) (o : Oper), i < t ∧ t ≤ n ∧ ops[t]? = some o ∧ waitsOn md o i = true
  seq : ∀ (t : Nat) (o : Oper), ops[t]? = some o → n < t → waitsOn md o (t - 1) = true
theorem TailFacts.w (T : TailFacts md ops n) : TailW md ops n := ⟨T.le, T.back, T.guard, fun hn i hi => ⟨n, ops[n], hi, Nat.le_refl _, Array.getElem?_eq_getElem hn, T.all n _ (Array.getElem?_eq_getElem hn) (Nat.le_refl _) i hi⟩, T.seq⟩
def reachB (md : Region.Mode) (ops : Array Oper) (n i : Nat) : Bool := (List.range (n + 1)).any fun t => decide (i < t) && match ops[t]? with | some o => waitsOn md o i | none => false
def tailWOK (md : Region.Mode) (n t : Nat) (o : Oper) : Bool :=
  o.after.all (fun e => !Region.binds md e || decide (e.on < t)) && (match o.guard with | some (j, _) => decide (j < t) | none => true) && (decide (t ≤ n) || waitsOn md o (t - 1))
def tailWB (md : Region.Mode) (ops : Array Oper) (n : Nat) : Bool :=
  decide (n ≤ ops.size) && ((List.range ops.size).all fun t => match ops[t]? with | some o => tailWOK md n t o | none => true) && (decide (ops.size ≤ n) || (List.range n).all (reachB md ops n))
theorem tailWB_spec (h : tailWB md ops n = true) : TailW md ops n := by
  unfold tailWB at h
  simp only [Bool.and_eq_true, decide_eq_true_eq, Bool.or_eq_true] at h
  have key : ∀ t o, ops[t]? = some o → tailWOK md n t o = true := fun t o ho => by
    have hlt : t < ops.size := (Array.getElem?_eq_some_iff.1 ho).1
    have := List.all_eq_true.1 h.1.2 t (List.mem_range.2 hlt)
    simpa [ho] using this
  have key2 : ∀ t o, ops[t]? = some o → (∀ e ∈ o.after, Region.binds md e = true → e.on < t) ∧ (match o.guard with | some (j, _) => decide (j < t) | none => true) = true ∧ (t ≤ n ∨ waitsOn md o (t - 1) = true) := fun t o ho => by
    have := key t o ho
    unfold tailWOK at this
    simp only [Bool.and_eq_true, Bool.or_eq_true, decide_eq_true_eq] at this
    refine ⟨fun e he hbd => ?_, this.1.2, this.2⟩
    have := Array.all_eq_true_iff_forall_mem.1 this.1.1 e he
    simpa [hbd] using this
  refine ⟨h.1.1, fun t o ho => (key2 t o ho).1, fun t o j b ho hg => ?_, fun hn i hi => ?_, fun t o ho ht => ?_⟩
  · have := (key2 t o ho).2.1
    rw [hg] at this
    simpa using this
  · rcases h.2 with q | q
    · omega
    · have q2 := List.all_eq_true.1 q i (List.mem_range.2 hi)
      unfold reachB at q2
      obtain ⟨t, ht, h3⟩ := List.any_eq_true.1 q2
      simp only [Bool.and_eq_true, decide_eq_true_eq] at h3
      have ht := List.mem_range.1 ht
      have hlt : t < ops.size := by omega
      rw [Array.getElem?_eq_getElem hlt] at h3
      exact ⟨t, ops[t], h3.1, by omega, Array.getElem?_eq_getElem hlt, h3.2⟩
  · rcases (key2 t o ho).2.2 with q | q
    · omega
    · exact q
/-- the tail comes up only when the front is through -/
theorem TailW.through (T : TailW md ops n) {U : List Nat} {i : Nat} {o : Oper} (ho : ops[i]? = some o) (hin : n ≤ i) (hcl : ∀ (j : Nat) (o' : Oper), j < n → j ∉ U → ops[j]? = some o' → ∀ e ∈ o'.after, Region.binds md e = true → e.on ∉ U)
    (hU : ∀ t ∈ U, t < n) (hd : ∀ e ∈ o.after, Region.binds md e = true → e.on ∉ U ∧ e.on < n) : ∀ j, j ∉ U := by
  have hin2 : i = n := by
    rcases Nat.lt_or_ge n i with q | q
    · obtain ⟨e, he, hb, hon⟩ := waitsOn_spec (T.seq i o ho q)
      have := (hd e he hb).2
      omega
    · omega
  subst hin2
  have hlt := (Array.getElem?_eq_some_iff.1 ho).1
  have key : ∀ k j, i - j = k → j < i → j ∉ U := by
    intro k
    induction k using Nat.strongRecOn with
    | _ k ih =>
      intro j hk hj
      obtain ⟨t, o', h1, h2, h3, h4⟩ := T.reach hlt j hj
      obtain ⟨e, he, hb, hon⟩ := waitsOn_spec h4
      rcases Nat.lt_or_ge t i with q | q
      · have := hcl t o' q (ih (i - t) (by omega) t rfl q) h3 e he hb
        rwa [hon] at this
      · have : t = i := by omega
        subst this
        rw [ho] at h3
        cases h3
        have := (hd e he hb).1
        rwa [hon] at this
  exact fun j hj => key _ j rfl (hU j hj) hj
/-- the tail: one order -/
theorem wpAny_tail (T : TailW md ops n) {Q : Exit → Act → World → Prop} : ∀ (l : List Oper) (k : Nat) (listed : Array Bool) (a : Act) (w : World), n ≤ k → (∀ j, l[j]? = ops[k + j]?) → listed.size = ops.size →
    (∀ t, listed.getD t true = false ↔ k ≤ t ∧ t < ops.size) → wpList P ops Q l a w → wpAny P md ops Q l.length listed a w
  | [], k, listed, a, w, _, hl, hs, hu, h => by
    refine ⟨List.eq_nil_iff_forall_not_mem.2 fun t ht => ?_, h⟩
    obtain ⟨h1, o, ho, _⟩ := mem_ready.1 ht
    have h2 := (hu t).1 h1
    have h3 := hl (t - k)
    rw [show k + (t - k) = t by omega, ho] at h3
    cases h3
  | o :: l, k, listed, a, w, hn, hl, hs, hu, h => by
    have h0 : ops[k]? = some o := by simpa using (hl 0).symm
    have hk : k < ops.size := (Array.getElem?_eq_some_iff.1 h0).1
    have hr : k ∈ Region.ready md ops listed := mem_ready.2 ⟨(hu k).2 ⟨Nat.le_refl _, hk⟩, o, h0, fun e he hbd => by
      have hb := T.back k o h0 e he hbd
      exact getD_flip (by omega) fun q => by have := (hu e.on).1 q; omega⟩
    refine ⟨fun h1 => (by rw [h1] at hr; cases hr), fun i hi => ?_⟩
    have hik : i = k := by
      obtain ⟨h1, o', ho', hall⟩ := mem_ready.1 hi
      have h2 := (hu i).1 h1
      rcases Nat.lt_or_ge k i with q | q
      · obtain ⟨e, he, hb, hon⟩ := waitsOn_spec (T.seq i o' ho' (by omega))
        have h3 := hall e he hb
        rw [hon, getD_flip' ((hu (i - 1)).2 (by omega))] at h3
        cases h3
      · omega
    subst hik
    have hw : wpOp P ops Q i (wpList P ops Q l) a w := by unfold wpOp; simp only [h0]; exact h
    refine wpOp_mono (fun a' w' h' => wpAny_tail T l (i + 1) _ a' w' (by omega) (fun j => by have := hl (j + 1); simpa [Nat.add_assoc, Nat.add_comm 1 j] using this) (by simpa using hs) (fun t => ?_) h') hw
    by_cases e : i = t
    · subst e
      have : i < listed.size := by omega
      simp [this]
      try omega
    · rw [getD_set_ne true e, hu t]; omega
theorem yielded_same {ops1 : Array Oper} {tm : Array Value} {j : Nat} (h : ops1[j]? = ops[j]?) : yielded ops1 tm j = yielded ops tm j := by unfold yielded; rw [h]
theorem wanted_same {ops1 : Array Oper} (hsame : ∀ j, j < n → ops1[j]? = ops[j]?) {tm : Array Value} {o : Oper} (hg : ∀ j b, o.guard = some (j, b) → j < n) : Region.wanted o (yielded ops1 tm) = Region.wanted o (yielded ops tm) := by
  unfold Region.wanted
  cases hgo : o.guard with
  | none => rfl
  | some jb =>
    obtain ⟨j, b⟩ := jb
    simp only [yielded_same (tm := tm) (hsame j (hg j b hgo))]
/-- the first operations, in whatever order -/
theorem wpAny_front (T : TailFacts md ops n) {ops1 : Array Oper} (h1s : ops1.size = n) (hsame : ∀ j, j < n → ops1[j]? = ops[j]?) {Q : Exit → Act → World → Prop} {QQ : Act → Prop} {g : Nat}
    (hend : ∀ (listed : Array Bool) (a : Act) (w : World), listed.size = ops.size → (∀ t, listed.getD t true = false ↔ n ≤ t ∧ t < ops.size) → C w → QQ a → wpAny P md ops Q g listed a w) :
    ∀ (f : Nat) (U : List Nat) (listed listed1 : Array Bool) (a : Act) (w : World), U.length = f → U.Nodup → listed.size = ops.size → listed1.size = n → (∀ j, j < n → listed1[j]? = listed[j]?) →
      (∀ t, listed.getD t true = false ↔ t ∈ U ∨ (n ≤ t ∧ t < ops.size)) → (∀ t ∈ U, t < n) → C w → wpAnyQ P md ops1 C QQ f listed1 a → wpAny P md ops Q (f + g) listed a w
  | 0, U, listed, listed1, a, w, hU, _, hs, hs1, _, hu, _, hC, h => by
    rw [Nat.zero_add]
    have : U = [] := List.length_eq_zero_iff.1 hU
    subst this
    exact hend listed a w hs (fun t => by simpa using hu t) hC h.2
  | f + 1, U, listed, listed1, a, w, hU, hnd, hs, hs1, hl1, hu, hUn, hC, h => by
    rw [show f + 1 + g = (f + g) + 1 by omega]
    have hn := T.le
    have hg1 : ∀ j d, j < n → listed1.getD j d = listed.getD j d := fun j d hj => by simp [hl1 j hj]
    -- something of the front may come up
    have hex : ∀ (j : Nat), j ∈ U → ∃ r ∈ U, r ∈ Region.ready md ops listed := by
      intro j
      induction j using Nat.strongRecOn with
      | _ j ih =>
        intro hj
        have hjn := hUn j hj
        obtain ⟨o, ho⟩ : ∃ o, ops[j]? = some o := ⟨_, Array.getElem?_eq_getElem (by omega)⟩
        by_cases hall : ∀ e ∈ o.after, Region.binds md e = true → listed.getD e.on false = true
        · exact ⟨j, hj, mem_ready.2 ⟨(hu j).2 (.inl hj), o, ho, hall⟩⟩
        · simp only [Classical.not_forall] at hall
          obtain ⟨e, he, hb, hne⟩ := hall
          have hlt := T.back j o ho e he hb
          have : listed.getD e.on true = false := by
            have hsz : e.on < listed.size := by omega
            simp [hsz] at hne ⊢; exact hne
          rcases (hu e.on).1 this with q | q
          · exact ih e.on hlt q
          · omega
    obtain ⟨j0, hj0⟩ : ∃ j0, j0 ∈ U := by
      cases U with
      | nil => simp at hU
      | cons x xs => exact ⟨x, by simp⟩
    obtain ⟨r, hrU, hr⟩ := hex j0 hj0
    refine ⟨fun h0 => (by rw [h0] at hr; cases hr), fun i hi => ?_⟩
    obtain ⟨hun, o, ho, hall⟩ := mem_ready.1 hi
    have hin : i < n := by
      rcases Nat.lt_or_ge i n with q | q
      · exact q
      · obtain ⟨e, he, hb, hon⟩ := waitsOn_spec (T.all i o ho q r (hUn r hrU))
        have h3 := hall e he hb
        rw [hon, getD_flip' ((hu r).2 (.inl hrU))] at h3
        cases h3
    have hiU : i ∈ U := by
      rcases (hu i).1 hun with q | q
      · exact q
      · omega
    have ho1 : ops1[i]? = some o := (hsame i hin).trans ho
    have hi1 : i ∈ Region.ready md ops1 listed1 := mem_ready.2 ⟨by rw [hg1 i true hin]; exact hun, o, ho1, fun e he hb => by
      have := T.back i o ho e he hb
      rw [hg1 e.on false (by omega)]; exact hall e he hb⟩
    have hq := h.2 i hi1
    have hq2 : qOp P ops C i (wpAnyQ P md ops1 C QQ f (listed1.setIfInBounds i true)) a := by
      unfold qOp at hq ⊢
      rw [ho1] at hq
      rw [ho]
      simp only at hq ⊢
      rw [wanted_same hsame (fun j b hgd => Nat.lt_trans (T.guard i o j b ho hgd) hin)] at hq
      exact hq
    refine wpOp_of_qOp hC (fun a' w' hC' h' => ?_) hq2
    refine wpAny_front T h1s hsame hend f (U.erase i) _ _ a' w' ?_ (hnd.erase i) (by simpa using hs) (by simpa using hs1) (fun j hj => ?_) (fun t => ?_) (fun t ht => hUn t (List.mem_of_mem_erase ht)) hC' h'
    · rw [List.length_erase_of_mem hiU]; omega
    · by_cases e : i = j
      · subst e
        rw [Array.getElem?_setIfInBounds_self_of_lt (by omega), Array.getElem?_setIfInBounds_self_of_lt (by omega)]
      · rw [Array.getElem?_setIfInBounds_ne e, Array.getElem?_setIfInBounds_ne e, hl1 j hj]
    · by_cases e : i = t
      · subst e
        have hsz : i < listed.size := by omega
        have : i ∉ U.erase i := fun q => by rw [hnd.mem_erase_iff] at q; exact q.1 rfl
        simp [hsz, this]; omega
      · rw [getD_set_ne true e, hu t, hnd.mem_erase_iff]
        constructor
        · rintro (q | q)
          · exact .inl ⟨fun q2 => e q2.symm, q⟩
          · exact .inr q
        · rintro (q | q)
          · exact .inl q.2
          · exact .inr q
end

theorem wp_region_grown_tail {P : Program} {id : Nat} {Q : Exit → Act → World → Prop} {a : Act} {w : World} {l : List Oper} (n : Nat) (hm : P.follows .mixedOrders = true) (hB : Region.lexB .any (l.take n).toArray = true)
    (hT : tailB .any l.toArray n = true)
    (h : wpQuiet P (l.take n).toArray (fun w' => ∃ n : GW w, w' = grown w n) (fun a' => ∀ w', (∃ n : GW w, w' = grown w n) → wpList P l.toArray Q (l.drop n) a' w') (l.take n) a) : (Code.region id l.toArray true).wp P Q a w := by
  have T := tailB_spec hT
  have hn := T.le
  simp only [List.size_toArray] at hn
  have hsz : (l.take n).toArray.size = n := by simp; omega
  refine wp_region_any hm ?_
  have hlex := hB
  simp only [Region.lexB, Bool.and_eq_true] at hlex
  have hq := wpAnyQ_lex (C := fun w' => ∃ n : GW w, w' = grown w n) (md := .any) hlex.1 (l.take n) 0 (Array.replicate (l.take n).toArray.size false) a (by simp) (by simpa using hlex.2) h
  have e1 : (l.take n).length = n := by simp; omega
  have e2 : l.toArray.size = n + (l.drop n).length := by simp; omega
  rw [e1] at hq
  rw [show (Array.replicate l.toArray.size false) = Array.replicate l.toArray.size false from rfl, show wpAny P .any l.toArray Q l.toArray.size = wpAny P .any l.toArray Q (n + (l.drop n).length) by rw [e2]]
  refine wpAny_front (n := n) (C := fun w' => ∃ n : GW w, w' = grown w n) T hsz (fun j hj => by simp [hj]) (QQ := fun a' => ∀ w', (∃ n : GW w, w' = grown w n) → wpList P l.toArray Q (l.drop n) a' w')
    (fun listed a' w' hs hu hC hQ => wpAny_tail T.w (l.drop n) n listed a' w' (Nat.le_refl _) (fun j => by simp [List.getElem?_drop]) hs hu (hQ w' hC)) n (List.range n) _ _ a _ (by simp) List.nodup_range (by simp) (by simp; omega) (fun j hj => ?_) (fun t => ?_) (fun t ht => by simpa using ht) ⟨⟨w.drew, (Below.refl _ _).drew⟩, rfl⟩ hq
  · have : j < l.length := by omega
    simp [Array.getElem?_replicate, this]
    omega
  · simp only [List.mem_range]
    rcases Nat.lt_or_ge t l.toArray.size with q | q
    · simp at q ⊢; simp [q]; omega
    · have q' : l.length ≤ t := by simpa using q
      have q2 : ¬ t < l.length := by omega
      simp [Array.getElem?_replicate, q2]
      omega
end Go.Proofs.YtdhfakajlnidiaaGreat
namespace Go.Proofs.YtdhfakajlnidiaaGreat
open Go.RowKit

/-! A region that draws its order, whose first operations read, call and lay new blocks: each leaves a value that represents something for good; then a tail in one forced order. -/
def repUpon (P : Program) (w : World) (Φ : Value → World → Prop) : Result Next → Prop
  | .ok (.value u) w' => Below w.heap.size w w' ∧ Φ u w'
  | .ok .skip w' => Below w.heap.size w w' ∧ Φ undef w'
  | .ok (.enter f args) w' => w' = w ∧ Calls P f args w (fun e w'' => ∃ v, e = .returned v ∧ Below w.heap.size w w'' ∧ Φ v w'')
  | _ => False
/-- what the front's operations look like: each has its own slot, none is guarded -/
def frontB (ops : Array Oper) (ds : List Nat) (sz : Nat) : Bool := decide ds.Nodup && (List.range ds.length).all fun i => match ops[i]? with | some o => (o.dst == some ds[i]!) && o.guard.isNone && decide (ds[i]! < sz) | none => false
def puts : Act → List Nat → (Nat → Value) → Act
  | a, [], _ => a
  | a, d :: ds, f => puts (a.put (some d) (f d)) ds f

theorem frontB_spec {ops : Array Oper} {ds : List Nat} {sz : Nat} (h : frontB ops ds sz = true) : ds.Nodup ∧ ∀ i, i < ds.length → ∃ o, ops[i]? = some o ∧ o.dst = some ds[i]! ∧ o.guard = none ∧ ds[i]! < sz := by
  unfold frontB at h
  simp only [Bool.and_eq_true, decide_eq_true_eq] at h
  refine ⟨h.1, fun i hi => ?_⟩
  have := List.all_eq_true.1 h.2 i (List.mem_range.2 hi)
  cases ho : ops[i]? with
  | none => simp [ho] at this
  | some o =>
    simp only [ho, Bool.and_eq_true, beq_iff_eq, decide_eq_true_eq, Option.isNone_iff_eq_none] at this
    exact ⟨o, rfl, this.1.1, this.1.2, this.2⟩
theorem eval_put_same {a : Act} {d : Nat} {v : Value} (h : d < a.tmps.size) : (a.put (some d) v).eval (.tmp d) = v := by
  simp [Act.eval, Act.put, h]
theorem eval_put_ne {a : Act} {d k : Nat} {v : Value} (h : d ≠ k) : (a.put (some d) v).eval (.tmp k) = a.eval (.tmp k) :=
  Act.eval_put fun d' hd he => by cases hd; cases he; exact h rfl
theorem put_size {a : Act} {d : Option Nat} {v : Value} : (a.put d v).tmps.size = a.tmps.size := by cases d <;> simp [Act.put]
theorem put_defers' {a : Act} {d : Option Nat} {v : Value} : (a.put d v).defers = a.defers := by cases d <;> simp [Act.put]
theorem puts_spec (f : Nat → Value) : ∀ (ds : List Nat) (a0 : Act), (puts a0 ds f).tmps.size = a0.tmps.size ∧ (puts a0 ds f).defers = a0.defers ∧
    ∀ k, k < a0.tmps.size → (puts a0 ds f).eval (.tmp k) = if k ∈ ds then f k else a0.eval (.tmp k)
  | [], a0 => ⟨rfl, rfl, fun k _ => by simp [puts]⟩
  | d :: ds, a0 => by
    obtain ⟨h1, h2, h3⟩ := puts_spec f ds (a0.put (some d) (f d))
    refine ⟨h1.trans put_size, h2.trans put_defers', fun k hk => ?_⟩
    show (puts (a0.put (some d) (f d)) ds f).eval (.tmp k) = _
    rw [h3 k (by rw [put_size]; exact hk)]
    by_cases e : k ∈ ds
    · simp [e]
    · by_cases e2 : d = k
      · subst e2; simp [e, eval_put_same hk]
      · rw [if_neg e, eval_put_ne e2, if_neg (by simp [e]; exact fun q => e2 q.symm)]
theorem puts_eq {a a0 : Act} {ds : List Nat} (hs : a.tmps.size = a0.tmps.size) (hd : a.defers = a0.defers) (ho : ∀ d, d ∉ ds → a.eval (.tmp d) = a0.eval (.tmp d)) : puts a0 ds (fun d => a.eval (.tmp d)) = a := by
  obtain ⟨h1, h2, h3⟩ := puts_spec (fun d => a.eval (.tmp d)) ds a0
  have key : (puts a0 ds (fun d => a.eval (.tmp d))).tmps = a.tmps := by
    apply Array.ext
    · rw [h1, hs]
    · intro k hk hk'
      have h4 := h3 k (by omega)
      have h5 : (puts a0 ds (fun d => a.eval (.tmp d))).eval (.tmp k) = a.eval (.tmp k) := by
        rw [h4]
        by_cases e : k ∈ ds
        · simp [e]
        · rw [if_neg e, ho k e]
      clear h4
      generalize puts a0 ds (fun d => a.eval (.tmp d)) = b at *
      have h6 : b.tmps.getD k undef = a.tmps.getD k undef := h5
      simpa [hk, hk'] using h6
  generalize puts a0 ds (fun d => a.eval (.tmp d)) = b at *
  obtain ⟨bt, bd⟩ := b
  obtain ⟨t, d⟩ := a
  simp only at key h2 hd
  rw [key, h2, hd]

section
variable {P : Program} {ops : Array Oper} {md : Region.Mode}
theorem wp_of_rep {o : Oper} {a : Act} {w : World} {Φ : Value → World → Prop} {K : Act → World → Prop} {Q' : Exit → Act → World → Prop} (h : repUpon P w Φ ((execOp a.eval o).run P w))
    (hk : ∀ v w', Below w.heap.size w w' → Φ v w' → K (a.put o.dst v) w') : o.wp P a w K Q' := by
  unfold Oper.wp
  generalize (execOp a.eval o).run P w = r at *
  cases r with
  | ok nx w' =>
    cases nx <;> simp only [repUpon] at h <;> simp only [Oper.upon]
    case value u => exact hk _ _ h.1 h.2
    case skip => exact hk _ _ h.1 h.2
    case enter f args =>
      obtain ⟨e1, hc⟩ := h
      rw [e1]
      exact hc.mono fun e w'' ⟨v, he, hb, hv⟩ => by subst he; exact hk _ _ hb hv
  | halt x w' => simp only [repUpon] at h

theorem wpAny_reps {n : Nat} (T : TailFacts md ops n) {ds : List Nat} (hn : ds.length = n) {a0 : Act} {w0 : World} (hf : frontB ops ds a0.tmps.size = true) (Φ : Nat → Value → World → Prop)
    (stab : ∀ i v w w', Φ i v w → Below w.heap.size w w' → Φ i v w')
    (step : ∀ i o, i < n → ops[i]? = some o → ∀ (a : Act) (w : World), Below w0.heap.size w0 w → (∀ d, d ∉ ds → a.eval (.tmp d) = a0.eval (.tmp d)) →
      (∀ e ∈ o.after, Region.binds md e = true → Φ e.on (a.eval (.tmp ds[e.on]!)) w) → repUpon P w (Φ i) ((execOp a.eval o).run P w))
    {Q : Exit → Act → World → Prop} {g : Nat}
    (hend : ∀ (listed : Array Bool) (a : Act) (w : World), listed.size = ops.size → (∀ t, listed.getD t true = false ↔ n ≤ t ∧ t < ops.size) → Below w0.heap.size w0 w → a.tmps.size = a0.tmps.size → a.defers = a0.defers →
      (∀ d, d ∉ ds → a.eval (.tmp d) = a0.eval (.tmp d)) → (∀ j, j < n → Φ j (a.eval (.tmp ds[j]!)) w) → wpAny P md ops Q g listed a w) :
    ∀ (f : Nat) (U : List Nat) (listed : Array Bool) (a : Act) (w : World), U.length = f → U.Nodup → listed.size = ops.size → (∀ t, listed.getD t true = false ↔ t ∈ U ∨ (n ≤ t ∧ t < ops.size)) → (∀ t ∈ U, t < n) →
      Below w0.heap.size w0 w → a.tmps.size = a0.tmps.size → a.defers = a0.defers → (∀ d, d ∉ ds → a.eval (.tmp d) = a0.eval (.tmp d)) → (∀ j, j < n → j ∉ U → Φ j (a.eval (.tmp ds[j]!)) w) → wpAny P md ops Q (f + g) listed a w
  | 0, U, listed, a, w, hU, _, hs, hu, _, hB, hsz, hdf, ho, hp => by
    rw [Nat.zero_add]
    have : U = [] := List.length_eq_zero_iff.1 hU
    subst this
    exact hend listed a w hs (fun t => by simpa using hu t) hB hsz hdf ho (fun j hj => hp j hj (by simp))
  | f + 1, U, listed, a, w, hU, hnd, hs, hu, hUn, hB, hsz, hdf, ho, hp => by
    rw [show f + 1 + g = (f + g) + 1 by omega]
    have hnn := T.le
    obtain ⟨hdn, hfr⟩ := frontB_spec hf
    have hex : ∀ (j : Nat), j ∈ U → ∃ r ∈ U, r ∈ Region.ready md ops listed := by
      intro j
      induction j using Nat.strongRecOn with
      | _ j ih =>
        intro hj
        have hjn := hUn j hj
        obtain ⟨o, ho⟩ : ∃ o, ops[j]? = some o := ⟨_, Array.getElem?_eq_getElem (by omega)⟩
        by_cases hall : ∀ e ∈ o.after, Region.binds md e = true → listed.getD e.on false = true
        · exact ⟨j, hj, mem_ready.2 ⟨(hu j).2 (.inl hj), o, ho, hall⟩⟩
        · simp only [Classical.not_forall] at hall
          obtain ⟨e, he, hb, hne⟩ := hall
          have hlt := T.back j o ho e he hb
          have : listed.getD e.on true = false := by
            have hsz : e.on < listed.size := by omega
            simp [hsz] at hne ⊢; exact hne
          rcases (hu e.on).1 this with q | q
          · exact ih e.on hlt q
          · omega
    obtain ⟨j0, hj0⟩ : ∃ j0, j0 ∈ U := by
      cases U with
      | nil => simp at hU
      | cons x xs => exact ⟨x, by simp⟩
    obtain ⟨r, hrU, hr⟩ := hex j0 hj0
    refine ⟨fun h0 => (by rw [h0] at hr; cases hr), fun i hi => ?_⟩
    obtain ⟨hun, o, hoi, hall⟩ := mem_ready.1 hi
    have hin : i < n := by
      rcases Nat.lt_or_ge i n with q | q
      · exact q
      · obtain ⟨e, he, hb, hon⟩ := waitsOn_spec (T.all i o hoi q r (hUn r hrU))
        have h3 := hall e he hb
        rw [hon, getD_flip' ((hu r).2 (.inl hrU))] at h3
        cases h3
    have hiU : i ∈ U := by
      rcases (hu i).1 hun with q | q
      · exact q
      · omega
    obtain ⟨o2, ho2, hdst, hgd, hdl⟩ := hfr i (by omega)
    rw [hoi] at ho2
    cases ho2
    have hrun := step i o hin hoi a w hB ho (fun e he hb => by
      have hlt := T.back i o hoi e he hb
      refine hp e.on (by omega) fun q => ?_
      have h1 := hall e he hb
      rw [getD_flip' ((hu e.on).2 (.inl q))] at h1
      cases h1)
    unfold wpOp
    rw [hoi]
    simp only
    rw [if_pos (by unfold Region.wanted; rw [hgd])]
    refine .inl (wp_of_rep hrun fun v w' hb hv => ?_)
    have hne : ∀ j, j < n → j ≠ i → ds[i]! ≠ ds[j]! := fun j hj hji he => by
      have h1 : ds[i]! = ds[i]'(by omega) := by simp [show i < ds.length by omega]
      have h2 : ds[j]! = ds[j]'(by omega) := by simp [show j < ds.length by omega]
      rw [h1, h2] at he
      exact hji ((List.getElem_inj hdn).1 he).symm
    rw [hdst]
    refine wpAny_reps T hn hf Φ stab step hend f (U.erase i) _ _ w' ?_ (hnd.erase i) (by simpa using hs) (fun t => ?_) (fun t ht => hUn t (List.mem_of_mem_erase ht)) (hB.trans (hb.mono hB.size)) (put_size.trans hsz) (put_defers'.trans hdf) (fun d hd => ?_) (fun j hj hjU => ?_)
    · rw [List.length_erase_of_mem hiU]; omega
    · by_cases e : i = t
      · subst e
        have hsz : i < listed.size := by omega
        have : i ∉ U.erase i := fun q => by rw [hnd.mem_erase_iff] at q; exact q.1 rfl
        simp [hsz, this]; omega
      · rw [getD_set_ne true e, hu t, hnd.mem_erase_iff]
        constructor
        · rintro (q | q)
          · exact .inl ⟨fun q2 => e q2.symm, q⟩
          · exact .inr q
        · rintro (q | q)
          · exact .inl q.2
          · exact .inr q
    · rw [eval_put_ne (fun q => hd (by rw [← q]; simp [show i < ds.length by omega]))]
      exact ho d hd
    · by_cases e : j = i
      · subst e
        rw [eval_put_same (by omega)]
        exact hv
      · rw [eval_put_ne (hne j hj e)]
        exact stab _ _ _ _ (hp j hj fun q => hjU ((hnd.mem_erase_iff).2 ⟨e, q⟩)) hb
end

/-- the region: each operation of the front in whatever order; behind it the tail in the order of the text, in a frame that is written out -/
theorem wp_region_reps {P : Program} {id : Nat} {Q : Exit → Act → World → Prop} {a : Act} {w : World} {l : List Oper} (ds : List Nat) (Φ : Nat → Value → World → Prop) (hm : P.follows .mixedOrders = true)
    (hT : tailB .any l.toArray ds.length = true) (hf : frontB l.toArray ds a.tmps.size = true) (stab : ∀ i v w w', Φ i v w → Below w.heap.size w w' → Φ i v w')
    (step : ∀ i o, i < ds.length → l[i]? = some o → ∀ (a' : Act) (w' : World), Below w.heap.size w w' → (∀ d, d ∉ ds → a'.eval (.tmp d) = a.eval (.tmp d)) →
      (∀ e ∈ o.after, Region.binds .any e = true → Φ e.on (a'.eval (.tmp ds[e.on]!)) w') → repUpon P w' (Φ i) ((execOp a'.eval o).run P w'))
    (h : ∀ (f : Nat → Value) (w' : World), Below w.heap.size w w' → (∀ j, j < ds.length → Φ j (f ds[j]!) w') → wpList P l.toArray Q (l.drop ds.length) (puts a ds f) w') : (Code.region id l.toArray true).wp P Q a w := by
  have T := tailB_spec hT
  have hn := T.le
  simp only [List.size_toArray] at hn
  refine wp_region_any hm ?_
  have e2 : l.toArray.size = ds.length + (l.drop ds.length).length := by simp; omega
  rw [show wpAny P .any l.toArray Q l.toArray.size = wpAny P .any l.toArray Q (ds.length + (l.drop ds.length).length) by rw [e2]]
  refine wpAny_reps (w0 := w) (a0 := a) T rfl hf Φ stab (fun i o hi ho => step i o hi (by simpa using ho))
    (fun listed a' w' hs hu hB hsz hdf hoth hp => ?_) ds.length (List.range ds.length) _ a w.drew (by simp) List.nodup_range (by simp) (fun t => ?_) (fun t ht => by simpa using ht) (Below.refl _ _).drew rfl rfl (fun _ _ => rfl) (fun j hj hjn => absurd (List.mem_range.2 hj) hjn)
  · have := h (fun d => a'.eval (.tmp d)) w' hB hp
    rw [puts_eq hsz hdf hoth] at this
    exact wpAny_tail T.w (l.drop ds.length) ds.length listed a' w' (Nat.le_refl _) (fun j => by simp [List.getElem?_drop]) hs hu this
  · simp only [List.mem_range]
    rcases Nat.lt_or_ge t l.toArray.size with q | q
    · simp at q ⊢; simp [q]; omega
    · have q' : l.length ≤ t := by simpa using q
      have q2 : ¬ t < l.length := by omega
      simp [q2]
      omega
end Go.Proofs.YtdhfakajlnidiaaGreat
namespace Go.Proofs.YtdhfakajlnidiaaGreat
open Go.RowKit

/-! Symbolic data: what a Go value is, without a heap: numbers and truth values as expressions, slices that nobody writes as lists, own blocks by number. -/

/-- what an operator on two integers gives -/
def binDen (op : BinOp) (k : IntKind) (x y : Int) : Int :=
  match op with
  | .add => k.wrap (x + y)
  | .sub => k.wrap (x - y)
  | .mul => k.wrap (x * y)
  | .quo => k.wrap (x.tdiv y)
  | .rem => x.tmod y
  | .and => k.wrap ((BitVec.ofInt k.bits x &&& BitVec.ofInt k.bits y).toNat : Int)
  | .or => k.wrap ((BitVec.ofInt k.bits x ||| BitVec.ofInt k.bits y).toNat : Int)
  | .xor => k.wrap ((BitVec.ofInt k.bits x ^^^ BitVec.ofInt k.bits y).toNat : Int)
  | .andNot => k.wrap ((BitVec.ofInt k.bits x &&& ~~~ BitVec.ofInt k.bits y).toNat : Int)
  | .shl => k.wrap (x * 2 ^ (min y.toNat k.bits))
  | .shr => x.fdiv (2 ^ (min y.toNat k.bits))
  | _ => 0
def cmpDen (op : BinOp) (x y : Int) : Bool :=
  match op with
  | .eql => x == y
  | .neq => x != y
  | .lss => decide (x < y)
  | .leq => decide (x ≤ y)
  | .gtr => decide (x > y)
  | .geq => decide (x ≥ y)
  | _ => false
inductive IE : Type 1
  | lit (n : Int)
  | var (x : Int)
  | nat (n : Nat)
  | u8 (b : BitVec 8)
  | len {α : Type} (l : List α)
  | bin (op : BinOp) (k : IntKind) (a b : IE)
  | conv (k : IntKind) (a : IE)
  | sum (a b : IE)
  | dif (a b : IE)
  | mn (a b : IE)
  | mx (a b : IE)
  | at (f : Nat → Int) (i : IE)
inductive BE : Type 1
  | lit (b : Bool)
  | var (b : Bool)
  | cmp (op : BinOp) (a b : IE)
  | not (a : BE)
  | seq (s t : ByteArray)
  | beq (a b : BE)
  | and (a b : BE)
  | eqs (a b : List IE)
def IE.den : IE → Int
  | .lit n => n
  | .var x => x
  | .nat n => n
  | .u8 b => (b.toNat : Int)
  | .len l => l.length
  | .bin op k a b => binDen op k a.den b.den
  | .conv k a => k.wrap a.den
  | .sum a b => a.den + b.den
  | .dif a b => a.den - b.den
  | .mn a b => min a.den b.den
  | .mx a b => max a.den b.den
  | .at f i => f i.den.toNat
def BE.den : BE → Bool
  | .lit b => b
  | .var b => b
  | .cmp op a b => cmpDen op a.den b.den
  | .not a => !a.den
  | .seq s t => s == t
  | .beq a b => a.den == b.den
  | .and a b => a.den && b.den
  | .eqs a b => decide (a.map IE.den = b.map IE.den)
/-- literals are worked out at once -/
def IE.mk2 (op : BinOp) (k : IntKind) (a b : IE) : IE := match a, b with
  | .lit x, .lit y => .lit (binDen op k x y)
  | a, b => .bin op k a b
def BE.mk2 (op : BinOp) (a b : IE) : BE := match a, b with
  | .lit x, .lit y => .lit (cmpDen op x y)
  | a, b => .cmp op a b
def BE.mkAnd : BE → BE → BE
  | .lit false, _ => .lit false
  | _, .lit false => .lit false
  | .lit true, b => b
  | a, .lit true => a
  | a, b => .and a b
def BE.mkNot : BE → BE
  | .lit b => .lit (!b)
  | .not a => a
  | a => .not a
def IE.mkConv (k : IntKind) : IE → IE
  | .lit x => .lit (k.wrap x)
  | a => .conv k a
def IE.mkSum (a b : IE) : IE := match a, b with
  | .lit 0, b => b
  | .lit x, .lit y => .lit (x + y)
  | a, b => .sum a b
def IE.mkDif (a b : IE) : IE := match a, b with
  | .lit x, .lit y => .lit (x - y)
  | a, b => .dif a b
theorem IE.mkDif_den (a b : IE) : (IE.mkDif a b).den = a.den - b.den := by
  unfold IE.mkDif
  split <;> simp [IE.den]
theorem IE.mkSum_den (a b : IE) : (IE.mkSum a b).den = a.den + b.den := by
  unfold IE.mkSum
  split <;> simp [IE.den]
theorem IE.mk2_den (op : BinOp) (k : IntKind) (a b : IE) : (IE.mk2 op k a b).den = binDen op k a.den b.den := by
  unfold IE.mk2; split <;> rfl
theorem BE.mk2_den (op : BinOp) (a b : IE) : (BE.mk2 op a b).den = cmpDen op a.den b.den := by
  unfold BE.mk2; split <;> rfl
theorem BE.mkAnd_den (a b : BE) : (BE.mkAnd a b).den = (a.den && b.den) := by
  unfold BE.mkAnd; split <;> simp [BE.den]
theorem BE.mkNot_den (a : BE) : (BE.mkNot a).den = !a.den := by
  unfold BE.mkNot; split <;> simp [BE.den]
theorem IE.mkConv_den (k : IntKind) (a : IE) : (IE.mkConv k a).den = k.wrap a.den := by
  unfold IE.mkConv; split <;> rfl

inductive D : Type 1
  | junk
  | int (k : IntKind) (e : IE)
  | bool (e : BE)
  | str (s : ByteArray)
  | agg (l : List D)
  | tup (l : List D)
  | nils
  | slm {α : Type} (n : Nat) (nb : Option BE) (c : α → List D) (l : List α)
  | sll (n : Nat) (es : List (List D))
  | dp (cells : List D) (off : Nat)
  | ptr (b ver off : Nat)
  | rp (n b ver : Nat) (i : IE) (off : Nat)
  | nilp
  | osl (n b ver : Nat) (nb : BE) (lo len : IE)
  | mapr (b : Nat)
  | nilm
  | fn (f : Fn) (first cap : List D)
  | nilf
  | nilI
  | arr (k : IntKind) (m : Nat) (f : Nat → Int)
  | dpa (k : IntKind) (m : Nat) (f : Nat → Int)
  | mapd (kk k : IntKind) (F : Int → Option Int) (n : IE)
  | ap (m b : Nat) (i : IE)
  | mg (kk : IntKind) (F : Int → Option D) (n : IE)
  | ifc (t : Nat) (d : D)
  | svl (a : Option Addr) (n c : Nat)

/-- rows of own blocks -/
inductive RE : Type 1
  | map {α : Type} (c : α → List D) (l : List α)
  | lits (es : List (List D))
  | app (r : RE) (e : List D)
  | apps (r s : RE)
  | upd (r : RE) (i : IE) (off : Nat) (m : List D)
  | rep (n : IE) (z : List D)
  | cut (r : RE) (n : IE)
  | splice (r : RE) (lo : IE) (s : RE) (k : IE)
def over (cells : List D) (off : Nat) (l : List D) : List D := cells.take off ++ l ++ cells.drop (off + l.length)
def RE.den : RE → List (List D)
  | .map c l => l.map c
  | .lits es => es
  | .app r e => r.den ++ [e]
  | .apps r s => r.den ++ s.den
  | .upd r i off m => r.den.modify i.den.toNat fun cs => over cs off m
  | .rep n z => List.replicate n.den.toNat z
  | .cut r n => r.den.take n.den.toNat
  | .splice r lo s k => r.den.take lo.den.toNat ++ s.den.take k.den.toNat ++ r.den.drop (lo.den.toNat + k.den.toNat)
/-- what a map of the call's own with integers as keys holds -/
inductive ME : Type 1
  | lits (es : List (Int × D))
  | setb (S : Int → Bool) (n : IE)
  | fi (k : IntKind) (F : Int → Option Int) (n : IE)
def findE : List (Int × D) → Int → Option D
  | [], _ => none
  | (y, d) :: r, x => if y = x then some d else findE r x
def ME.den : ME → Int → Option D
  | .lits es => findE es
  | .setb S _ => fun x => if S x then some (.bool (.lit true)) else none
  | .fi k F _ => fun x => match F x with | some y => some (.int k (.var y)) | none => none
def ME.size : ME → Int
  | .lits es => es.length
  | .setb _ n => n.den
  | .fi _ _ n => n.den
inductive Bk : Type 1
  | cells (l : List D)
  | row (ty n ver : Nat) (r : RE)
  | mp (kk : IntKind) (m : ME)
  | mpk (ks : List IntKind) (k2 : IntKind) (F : List Int → Option Int) (n : IE)
  | arr (k : IntKind) (m : Nat) (f : Nat → Int)
  | dead

/-- where things lie: the blocks that nobody writes, the own blocks, and how often a row has been moved -/
structure Env where
  G : Nat → Prop
  σ : Nat → Option Nat
  κ : Nat → Nat
  ζ : Nat → Nat
def Env.data (E : Env) : Env := ⟨E.G, fun _ => none, fun _ => 0, fun _ => 0⟩
def InR (k : IntKind) (n : Int) : Prop := k.min ≤ n ∧ n ≤ k.max
theorem InR.wrap (k : IntKind) (n : Int) : InR k (k.wrap n) := by
  unfold InR IntKind.wrap IntKind.min IntKind.max
  cases k <;> simp [IntKind.signed, IntKind.bits] <;> (try split) <;> omega

inductive DRep (w : World) : Env → D → Value → Prop
  | junk {E v} : DRep w E .junk v
  | int {E k e} (h : InR k e.den) : DRep w E (.int k e) (.int k e.den)
  | bool {E e} : DRep w E (.bool e) (.bool e.den)
  | str {E s} (h : s.size ≤ maxLen) : DRep w E (.str s) (.string s)
  | agg {E l vs} (hs : l.length = vs.size) (h : ∀ (i : Nat) d v, l[i]? = some d → vs[i]? = some v → DRep w E d v) : DRep w E (.agg l) (.agg vs)
  | tup {E l vs} (hs : l.length = vs.size) (h : ∀ (i : Nat) d v, l[i]? = some d → vs[i]? = some v → DRep w E d v) : DRep w E (.tup l) (.tuple vs)
  | nils {E} : DRep w E .nils (.slice none 0 0)
  | slm {E} {α : Type} {n nb} {c : α → List D} {l : List α} {a cap} (u : Nat → Nat → Value) (hnb : ∀ e, nb = some e → e.den = a.isNone) (hc : l.length ≤ cap) (hm : cap ≤ maxLen) (hx : ∀ x, x ∈ l → (c x).length = n)
      (ha : l ≠ [] → ∃ b base, a = some ⟨b, base, none⟩ ∧ E.G b ∧ ∀ i j, i < l.length → j < n → w.cell? ⟨b, base + i * n + j, none⟩ = some (u i j))
      (h : ∀ (i : Nat) x (j : Nat) d, l[i]? = some x → (c x)[j]? = some d → DRep w E.data d (u i j)) : DRep w E (.slm n nb c l) (.slice a l.length cap)
  | sll {E} {n} {es : List (List D)} {a cap} (u : Nat → Nat → Value) (hc : es.length ≤ cap) (hm : cap ≤ maxLen) (hx : ∀ x, x ∈ es → x.length = n)
      (ha : ∃ b base, a = some ⟨b, base, none⟩ ∧ E.G b ∧ ∀ i j, i < es.length → j < n → w.cell? ⟨b, base + i * n + j, none⟩ = some (u i j))
      (h : ∀ (i : Nat) x (j : Nat) d, es[i]? = some x → x[j]? = some d → DRep w E.data d (u i j)) : DRep w E (.sll n es) (.slice a es.length cap)
  | dp {E cells off b base} (u : Nat → Value) (hg : E.G b) (hu : ∀ j, j < cells.length → w.cell? ⟨b, base + j, none⟩ = some (u j))
      (h : ∀ (j : Nat) d, cells[j]? = some d → DRep w E.data d (u j)) : DRep w E (.dp cells off) (.pointer (some ⟨b, base + off, none⟩))
  | ptr {E : Env} {b ver off c} (hk : E.κ b = ver) (h : E.σ b = some c) : DRep w E (.ptr b ver off) (.pointer (some ⟨c, off, none⟩))
  | ptrs {E : Env} {b ver off a} (hk : ver < E.κ b) : DRep w E (.ptr b ver off) (.pointer a)
  | rp {E : Env} {n b ver : Nat} {i off c} (hk : E.κ b = ver) (h : E.σ b = some c) (hi : 0 ≤ i.den) : DRep w E (.rp n b ver i off) (.pointer (some ⟨c, i.den.toNat * n + off, none⟩))
  | rps {E : Env} {n b ver i off a} (hk : ver < E.κ b) : DRep w E (.rp n b ver i off) (.pointer a)
  | nilp {E} : DRep w E .nilp (.pointer none)
  | oslc {E : Env} {n b ver : Nat} {nb lo len} {c m cap : Nat} (hk : E.κ b = ver) (h : E.σ b = some c) (hnb : nb.den = false) (hl : 0 ≤ lo.den) (hn : len.den = (m : Int)) (hc : m ≤ cap) (hm : cap ≤ maxLen)
      (hsz : (lo.den.toNat + cap) * n = E.ζ b) : DRep w E (.osl n b ver nb lo len) (.slice (some ⟨c, lo.den.toNat * n, none⟩) m cap)
  | osln {E : Env} {n b ver nb lo len} (hk : E.κ b = ver) (h : E.σ b = none) (hnb : nb.den = true) (hl : lo.den = 0) (hn : len.den = 0) : DRep w E (.osl n b ver nb lo len) (.slice none 0 0)
  | osls {E : Env} {n b ver nb lo len a m c} (hk : ver < E.κ b) : DRep w E (.osl n b ver nb lo len) (.slice a m c)
  | mapr {E : Env} {b c} (hk : E.κ b = 1) (h : E.σ b = some c) : DRep w E (.mapr b) (.map (some c))
  | maps {E : Env} {b a} (hk : 1 < E.κ b) : DRep w E (.mapr b) (.map a)
  | nilm {E} : DRep w E .nilm (.map none)
  | fn {E f l0 l1 a0 a1} (hs0 : l0.length = a0.size) (hs1 : l1.length = a1.size) (h0 : ∀ (i : Nat) d v, l0[i]? = some d → a0[i]? = some v → DRep w E d v) (h1 : ∀ (i : Nat) d v, l1[i]? = some d → a1[i]? = some v → DRep w E d v) :
      DRep w E (.fn f l0 l1) (.func f a0 a1)
  | nilf {E} : DRep w E .nilf .nilFunc
  | nilI {E} : DRep w E .nilI .nilIface
  | arr {E k m f vs} (hs : vs.size = m) (h : ∀ i, i < m → vs[i]? = some (.int k (f i)) ∧ InR k (f i)) : DRep w E (.arr k m f) (.agg vs)
  | dpa {E : Env} {k m f b base} (hg : E.G b) (h : ∀ i, i < m → w.cell? ⟨b, base + i, none⟩ = some (.int k (f i)) ∧ InR k (f i)) : DRep w E (.dpa k m f) (.pointer (some ⟨b, base, none⟩))
  | mapd {E : Env} {kk k F n c es clock} (hg : E.G c) (hb : w.heap[c]? = some (.map es clock)) (hn : (es.size : Int) = n.den) (hm : es.size ≤ maxLen)
      (hv : ∀ e, e ∈ es.toList → ∃ x y, e.key = .int kk x ∧ InR kk x ∧ F x = some y ∧ InR k y ∧ e.val = .int k y) (hh : ∀ x y, F x = some y → ∃ e, e ∈ es.toList ∧ e.key = .int kk x)
      (ha : es.toList.Pairwise fun a b => a.key ≠ b.key ∧ a.born ≠ b.born) (hc : ∀ e, e ∈ es.toList → e.born < clock) : DRep w E (.mapd kk k F n) (.map (some c))
  | ap {E : Env} {m b : Nat} {i c} (hk : E.κ b = 1) (h : E.σ b = some c) (hi : 0 ≤ i.den ∧ i.den < (m : Int)) : DRep w E (.ap m b i) (.pointer (some ⟨c, i.den.toNat, none⟩))
  | aps {E : Env} {m b : Nat} {i a} (hk : 1 < E.κ b) : DRep w E (.ap m b i) (.pointer a)
  | mg {E : Env} {kk F n c es clock} (hg : E.G c) (hb : w.heap[c]? = some (.map es clock)) (hn : (es.size : Int) = n.den) (hm : es.size ≤ maxLen)
      (hk : ∀ e, e ∈ es.toList → ∃ x d, e.key = .int kk x ∧ InR kk x ∧ F x = some d) (hh : ∀ x d, F x = some d → ∃ e, e ∈ es.toList ∧ e.key = .int kk x)
      (ha : es.toList.Pairwise fun a b => a.key ≠ b.key ∧ a.born ≠ b.born) (hc : ∀ e, e ∈ es.toList → e.born < clock)
      (hv : ∀ e x d, e ∈ es.toList → e.key = .int kk x → F x = some d → DRep w E.data d e.val) : DRep w E (.mg kk F n) (.map (some c))
  | ifc {E t d v} (h : DRep w E d v) : DRep w E (.ifc t d) (.iface t v)
  | svl {E a n c} : DRep w E (.svl a n c) (.slice a n c)

/-- one environment behind another: what was known of the data stays -/
structure Env.le (w : World) (E : Env) (w' : World) (E' : Env) : Prop where
  G : ∀ b, E.G b → E'.G b
  heap : ∀ b, E.G b → w'.heap[b]? = w.heap[b]?
theorem Env.le.cell {w w' : World} {E E' : Env} (h : E.le w w' E') (b off : Nat) (hb : E.G b) : w'.cell? ⟨b, off, none⟩ = w.cell? ⟨b, off, none⟩ := by
  unfold World.cell?
  rw [h.heap b hb]
theorem Env.le.data {w w' : World} {E E' : Env} (h : E.le w w' E') : E.data.le w w' E'.data := ⟨h.G, h.heap⟩
/-- the own blocks, too: what stays where it was; what was moved has a greater count -/
structure Env.own (E E' : Env) : Prop where
  κ : ∀ b, E.κ b ≤ E'.κ b
  σ : ∀ b, E.κ b = E'.κ b → E'.σ b = E.σ b ∧ ∀ c, E.σ b = some c → E'.ζ b = E.ζ b
theorem Env.own.refl (E : Env) : E.own E := ⟨fun _ => Nat.le_refl _, fun _ _ => ⟨rfl, fun _ _ => rfl⟩⟩
theorem Env.own.data {E E' : Env} : E.data.own E'.data := ⟨fun _ => Nat.le_refl _, fun _ _ => ⟨rfl, fun _ _ => rfl⟩⟩
theorem Env.le.refl (w : World) (E : Env) : E.le w w E := ⟨fun _ h => h, fun _ _ => rfl⟩
theorem DRep.move {w w' : World} {E E' : Env} {d : D} {v : Value} (h : DRep w E d v) (hle : E.le w w' E') (hown : E.own E') : DRep w' E' d v := by
  induction h generalizing E' with
  | junk => exact .junk
  | int h => exact .int h
  | bool => exact .bool
  | str h => exact .str h
  | agg hs _ ih => exact .agg hs fun i d v h1 h2 => ih i d v h1 h2 hle hown
  | tup hs _ ih => exact .tup hs fun i d v h1 h2 => ih i d v h1 h2 hle hown
  | nils => exact .nils
  | slm u hnb hc hm hx ha _ ih =>
    refine .slm u hnb hc hm hx (fun hne => ?_) fun i x j d h1 h2 => ih i x j d h1 h2 hle.data Env.own.data
    obtain ⟨b, base, h1, h2, h3⟩ := ha hne
    exact ⟨b, base, h1, hle.G _ h2, fun i j hi hj => (hle.cell _ _ h2).trans (h3 i j hi hj)⟩
  | sll u hc hm hx ha _ ih =>
    refine .sll u hc hm hx ?_ fun i x j d h1 h2 => ih i x j d h1 h2 hle.data Env.own.data
    obtain ⟨b, base, h1, h2, h3⟩ := ha
    exact ⟨b, base, h1, hle.G _ h2, fun i j hi hj => (hle.cell _ _ h2).trans (h3 i j hi hj)⟩
  | dp u hg hu _ ih => exact .dp u (hle.G _ hg) (fun j hj => (hle.cell _ _ hg).trans (hu j hj)) fun j d h1 => ih j d h1 hle.data Env.own.data
  | @ptr E b ver off c hk h =>
    by_cases e : E.κ b = E'.κ b
    · exact .ptr (e.symm.trans hk) ((hown.σ b e).1.trans h)
    · exact .ptrs (by have := hown.κ b; omega)
  | @ptrs E b ver off a hk => exact .ptrs (by have := hown.κ b; omega)
  | @rp E n b ver i off c hk h hi =>
    by_cases e : E.κ b = E'.κ b
    · exact .rp (e.symm.trans hk) ((hown.σ b e).1.trans h) hi
    · exact .rps (by have := hown.κ b; omega)
  | @rps E n b ver i off a hk => exact .rps (by have := hown.κ b; omega)
  | nilp => exact .nilp
  | @oslc E n b ver nb lo len c m cap hk h hnb hl hn hc hm hsz =>
    by_cases e : E.κ b = E'.κ b
    · exact .oslc (e.symm.trans hk) ((hown.σ b e).1.trans h) hnb hl hn hc hm (by rw [(hown.σ b e).2 c h]; exact hsz)
    · exact .osls (by have := hown.κ b; omega)
  | @osln E n b ver nb lo len hk h hnb hl hn =>
    by_cases e : E.κ b = E'.κ b
    · exact .osln (e.symm.trans hk) ((hown.σ b e).1.trans h) hnb hl hn
    · exact .osls (by have := hown.κ b; omega)
  | @osls E n b ver nb lo len a m c hk => exact .osls (by have := hown.κ b; omega)
  | @mapr E b c hk h =>
    by_cases e : E.κ b = E'.κ b
    · exact .mapr (e.symm.trans hk) ((hown.σ b e).1.trans h)
    · exact .maps (by have := hown.κ b; omega)
  | @maps E b a hk => exact .maps (by have := hown.κ b; omega)
  | nilm => exact .nilm
  | fn hs0 hs1 _ _ ih0 ih1 => exact .fn hs0 hs1 (fun i d v h1 h2 => ih0 i d v h1 h2 hle hown) (fun i d v h1 h2 => ih1 i d v h1 h2 hle hown)
  | nilf => exact .nilf
  | nilI => exact .nilI
  | arr hs h => exact .arr hs h
  | dpa hg h => exact .dpa (hle.G _ hg) fun i hi => ⟨(hle.cell _ _ hg).trans (h i hi).1, (h i hi).2⟩
  | mapd hg hb hn hm hv hh ha hc => exact .mapd (hle.G _ hg) ((hle.heap _ hg).trans hb) hn hm hv hh ha hc
  | @ap E m b i c hk h hi =>
    by_cases e : E.κ b = E'.κ b
    · exact .ap (e.symm.trans hk) ((hown.σ b e).1.trans h) hi
    · exact .aps (by have := hown.κ b; omega)
  | @aps E m b i a hk => exact .aps (by have := hown.κ b; omega)
  | mg hg hb hn hm hk hh ha hc _ ih => exact .mg (hle.G _ hg) ((hle.heap _ hg).trans hb) hn hm hk hh ha hc fun e x d h1 h2 h3 => ih e x d h1 h2 h3 hle.data Env.own.data
  | ifc _ ih => exact .ifc (ih hle hown)
  | svl => exact .svl

def Env.wf (E : Env) : Prop := ∀ b, E.κ b = 0 → E.σ b = none
theorem DRep.undata {w : World} {E : Env} {d : D} {v : Value} (hE : E.wf) (h : DRep w E.data d v) : DRep w E d v :=
  h.move ⟨fun _ h => h, fun _ _ => rfl⟩ ⟨fun _ => Nat.zero_le _, fun b e => ⟨hE b e.symm, fun c hc => by cases hc⟩⟩

/-- the entries of a map stand for a function -/
structure MapOK (w : World) (E : Env) (kk : IntKind) (es : List MapEntry) (clock : Nat) (F : Int → Option D) : Prop where
  val : ∀ e ∈ es, ∃ x d, e.key = .int kk x ∧ InR kk x ∧ F x = some d ∧ DRep w E d e.val
  has : ∀ x d, F x = some d → ∃ e ∈ es, e.key = .int kk x
  apart : es.Pairwise fun a b => a.key ≠ b.key ∧ a.born ≠ b.born
  clock : ∀ e ∈ es, e.born < clock
/-- keys that are structures of numbers -/
def keyV (ks : List IntKind) (L : List Int) : Value := .agg (List.zipWith Value.int ks L).toArray
def KeyIn (ks : List IntKind) (L : List Int) : Prop := L.length = ks.length ∧ ∀ (i : Nat) k x, ks[i]? = some k → L[i]? = some x → InR k x
structure MapKK (ks : List IntKind) (k2 : IntKind) (es : List MapEntry) (clock : Nat) (F : List Int → Option Int) : Prop where
  val : ∀ e ∈ es, ∃ L y, e.key = keyV ks L ∧ KeyIn ks L ∧ F L = some y ∧ InR k2 y ∧ e.val = .int k2 y
  has : ∀ L y, F L = some y → KeyIn ks L → ∃ e ∈ es, e.key = keyV ks L
  apart : es.Pairwise fun a b => a.key ≠ b.key ∧ a.born ≠ b.born
  clock : ∀ e ∈ es, e.born < clock
/-! What a block holds; what a state says of a frame and a world. -/
def BRep (w : World) (E : Env) (x c : Nat) : Bk → Prop
  | .cells l => ∃ cs t, w.heap[c]? = some (.cells cs t (0, 0)) ∧ cs.size = l.length ∧ l.length = E.ζ x ∧ ∀ (i : Nat) d, l[i]? = some d → ∃ v, cs[i]? = some v ∧ DRep w E d v
  | .row ty n _ r => ∃ cs t, (ty = 1000000 ∨ t = ty) ∧ w.heap[c]? = some (.cells cs t (0, 0)) ∧ cs.size = E.ζ x ∧ r.den.length * n ≤ cs.size ∧ ∀ (i : Nat) e, r.den[i]? = some e → e.length = n ∧ ∀ (j : Nat) d, e[j]? = some d → ∃ v, cs[i * n + j]? = some v ∧ DRep w E.data d v
  | .mp kk m => ∃ es clock, w.heap[c]? = some (.map es clock) ∧ (es.size : Int) = m.size ∧ es.size ≤ maxLen ∧ MapOK w E.data kk es.toList clock m.den
  | .mpk ks k2 F n => ∃ es clock, w.heap[c]? = some (.map es clock) ∧ (es.size : Int) = n.den ∧ es.size ≤ maxLen ∧ MapKK ks k2 es.toList clock F
  | .arr k m f => ∃ cs t, w.heap[c]? = some (.cells cs t (0, 0)) ∧ cs.size = m ∧ m = E.ζ x ∧ ∀ i, i < m → cs[i]? = some (.int k (f i)) ∧ InR k (f i)
  | .dead => True
/-- a row that lies nowhere yet is empty -/
def Bk.virt : Bk → Prop
  | .cells _ => False
  | .row _ _ _ r => r.den = []
  | .arr .. => False
  | _ => True
def Bk.ver : Bk → Nat → Prop
  | .cells _, k => k = 1
  | .row _ _ ver _, k => k = ver
  | .mp _ _, k => k = 1
  | .mpk .., k => k = 1
  | .arr .., k => k = 1
  | .dead, _ => True
def Bk.at (H : List Bk) (b ver : Nat) : Bool := match H[b]? with
  | some (.cells _) => decide (ver = 1)
  | some (.row _ _ v _) => decide (ver = v)
  | some (.mp _ _) => decide (ver = 1)
  | some (.mpk ..) => decide (ver = 1)
  | some (.arr ..) => decide (ver = 1)
  | _ => false
/-- the own blocks: each is not laid yet, or lies somewhere as it says -/
def HRep (w : World) (E : Env) (H : List Bk) : Prop := ∀ x b, H[x]? = some b → (E.κ x = 0 ∧ E.σ x = none) ∨ (b.ver (E.κ x) ∧ (∀ c, E.σ x = some c → BRep w E x c b) ∧ (E.σ x = none → b.virt))
abbrev Fr := List (Nat × D)
def Fr.get : Fr → Nat → D
  | [], _ => .junk
  | (m, d) :: r, n => if m = n then d else Fr.get r n
def Fr.set : Fr → Nat → D → Fr
  | [], n, d => [(n, d)]
  | (m, e) :: r, n, d => if m = n then (m, d) :: r else (m, e) :: Fr.set r n d
theorem Fr.get_set (fr : Fr) (n m : Nat) (d : D) : (fr.set n d).get m = if n = m then d else fr.get m := by
  induction fr with
  | nil => simp [Fr.set, Fr.get]
  | cons a r ih =>
    obtain ⟨k, e⟩ := a
    simp only [Fr.set]
    by_cases h : k = n
    · subst h
      simp only [if_true, Fr.get]
      by_cases h2 : k = m <;> simp [h2]
    · rw [if_neg h]
      simp only [Fr.get, ih]
      by_cases h2 : k = m
      · subst h2; simp [show ¬ n = k from fun q => h q.symm]
      · simp [h2]
structure St where
  fr : Fr
  heap : List Bk
def D.undr : Nat → Nat → D → Bool
  | 0, _, _ => false
  | f + 1, n, d => match d with
    | .agg l | .tup l => l.all (D.undr f n)
    | .ptr b _ _ | .rp _ b _ _ _ | .osl _ b _ _ _ _ | .mapr b | .ap _ b _ => decide (b < n)
    | .fn _ a b => a.all (D.undr f n) && b.all (D.undr f n)
    | .ifc _ e => D.undr f n e
    | _ => true
def Env.trunc (E : Env) (n : Nat) : Env := ⟨E.G, fun x => if x < n then E.σ x else none, fun x => if x < n then E.κ x else 0, E.ζ⟩
theorem DRep.trunc {w : World} {E : Env} {n : Nat} : ∀ (f : Nat) {d : D} {v : Value}, d.undr f n = true → DRep w E d v → DRep w (E.trunc n) d v
  | 0, _, _, h, _ => by cases h
  | f + 1, d, v, h, hr => by
    cases hr with
    | junk => exact .junk
    | int h' => exact .int h'
    | bool => exact .bool
    | str h' => exact .str h'
    | agg hs hh =>
      simp only [D.undr, List.all_eq_true] at h
      exact .agg hs fun i d v h1 h2 => DRep.trunc f (h d (List.mem_of_getElem? h1)) (hh i d v h1 h2)
    | tup hs hh =>
      simp only [D.undr, List.all_eq_true] at h
      exact .tup hs fun i d v h1 h2 => DRep.trunc f (h d (List.mem_of_getElem? h1)) (hh i d v h1 h2)
    | nils => exact .nils
    | slm u hnb hc hm hx ha hh => exact .slm u hnb hc hm hx ha hh
    | sll u hc hm hx ha hh => exact .sll u hc hm hx ha hh
    | dp u hg hu hh => exact .dp u hg hu hh
    | ptr hk hs => simp only [D.undr, decide_eq_true_eq] at h; exact .ptr (by simp [Env.trunc, h, hk]) (by simp [Env.trunc, h, hs])
    | ptrs hk => simp only [D.undr, decide_eq_true_eq] at h; exact .ptrs (by simp [Env.trunc, h, hk])
    | rp hk hs hi => simp only [D.undr, decide_eq_true_eq] at h; exact .rp (by simp [Env.trunc, h, hk]) (by simp [Env.trunc, h, hs]) hi
    | rps hk => simp only [D.undr, decide_eq_true_eq] at h; exact .rps (by simp [Env.trunc, h, hk])
    | nilp => exact .nilp
    | oslc hk hs hnb hl hn hc hm hsz => simp only [D.undr, decide_eq_true_eq] at h; exact .oslc (by simp [Env.trunc, h, hk]) (by simp [Env.trunc, h, hs]) hnb hl hn hc hm hsz
    | osln hk hs hnb hl hn => simp only [D.undr, decide_eq_true_eq] at h; exact .osln (by simp [Env.trunc, h, hk]) (by simp [Env.trunc, h, hs]) hnb hl hn
    | osls hk => simp only [D.undr, decide_eq_true_eq] at h; exact .osls (by simp [Env.trunc, h, hk])
    | mapr hk hs => simp only [D.undr, decide_eq_true_eq] at h; exact .mapr (by simp [Env.trunc, h, hk]) (by simp [Env.trunc, h, hs])
    | maps hk => simp only [D.undr, decide_eq_true_eq] at h; exact .maps (by simp [Env.trunc, h, hk])
    | nilm => exact .nilm
    | fn hs0 hs1 h0 h1 =>
      simp only [D.undr, Bool.and_eq_true, List.all_eq_true] at h
      exact .fn hs0 hs1 (fun i d v h2 h3 => DRep.trunc f (h.1 d (List.mem_of_getElem? h2)) (h0 i d v h2 h3)) (fun i d v h2 h3 => DRep.trunc f (h.2 d (List.mem_of_getElem? h2)) (h1 i d v h2 h3))
    | nilf => exact .nilf
    | nilI => exact .nilI
    | arr hs hh => exact .arr hs hh
    | dpa hg hh => exact .dpa hg hh
    | mapd hg hb hn hm hv hh ha hc => exact .mapd hg hb hn hm hv hh ha hc
    | ap hk hs hi => simp only [D.undr, decide_eq_true_eq] at h; exact .ap (by simp [Env.trunc, h, hk]) (by simp [Env.trunc, h, hs]) hi
    | aps hk => simp only [D.undr, decide_eq_true_eq] at h; exact .aps (by simp [Env.trunc, h, hk])
    | mg hg hb hn hm hk hh ha hc hv => exact .mg hg hb hn hm hk hh ha hc hv
    | ifc hh => simp only [D.undr] at h; exact .ifc (DRep.trunc f h hh)
    | svl => exact .svl
theorem D.undr_mono : ∀ (f : Nat) {n m : Nat} {d : D}, n ≤ m → d.undr f n = true → d.undr f m = true
  | 0, _, _, _, _, h => by cases h
  | f + 1, n, m, d, hnm, h => by
    cases d <;> simp only [D.undr, List.all_eq_true, Bool.and_eq_true, decide_eq_true_eq] at h ⊢ <;> first | omega | (intro x hx; exact D.undr_mono f hnm (h x hx)) | (exact ⟨fun x hx => D.undr_mono f hnm (h.1 x hx), fun x hx => D.undr_mono f hnm (h.2 x hx)⟩) | (exact D.undr_mono f hnm h) | trivial
def Env.of (G : Nat → Prop) : Env := ⟨G, fun _ => none, fun _ => 0, fun _ => 0⟩

/-- the program's variables that are read: what each points at -/
def laidL : List (Nat × D) := []
def Laid (w : World) (G : Nat → Prop) : Prop := ∀ p, p ∈ laidL → DRep w (Env.of G) p.2 (.pointer (some ⟨p.1, 0, none⟩))
theorem Laid.le {w w' : World} {E E' : Env} (h : Laid w E.G) (hle : E.le w w' E') : Laid w' E'.G := fun p hp => (h p hp).move (E' := Env.of E'.G) ⟨hle.G, hle.heap⟩ ⟨fun _ => Nat.le_refl _, fun _ _ => ⟨rfl, fun _ _ => rfl⟩⟩
theorem Laid.below {w w' : World} {G G' : Nat → Prop} (h : Laid w G) (hb : Below w.heap.size w w') (hg : ∀ b, G b → b < w.heap.size) (hG : ∀ b, G b → G' b) : Laid w' G' :=
  h.le (E := Env.of G) (E' := Env.of G') ⟨hG, fun b hb' => hb.block b (hg b hb')⟩
def laidD : List (Nat × D) → Nat → D
  | [], _ => .junk
  | (m, d) :: r, n => if m = n then d else laidD r n
theorem Laid.get {w : World} {G : Nat → Prop} (h : Laid w G) (n : Nat) : DRep w (Env.of G) (laidD laidL n) (.pointer (some ⟨n, 0, none⟩)) := by
  have key : ∀ L : List (Nat × D), (∀ p, p ∈ L → DRep w (Env.of G) p.2 (.pointer (some ⟨p.1, 0, none⟩))) → DRep w (Env.of G) (laidD L n) (.pointer (some ⟨n, 0, none⟩)) := by
    intro L
    induction L with
    | nil => exact fun _ => .junk
    | cons p L ih =>
      intro hL
      obtain ⟨m, d⟩ := p
      simp only [laidD]
      split
      · next e => subst e; exact hL (m, d) (by simp)
      · exact ih fun p hp => hL p (by simp [hp])
  exact key _ h
/-- what a function, or a piece of one, starts from: the world, its data, how many slots, how many own blocks; and what is to stay true of the world all along -/
structure Base where
  w0 : World
  G0 : Nat → Prop
  nt : Nat
  h0 : Nat
  Φ : World → Env → Prop
  stab : ∀ (w : World) (E : Env) (w' : World) (E' : Env), E.le w w' E' → E.own E' → Φ w E → Φ w' E'
  cut : ∀ (w : World) (E : Env) (n : Nat), h0 ≤ n → Φ w E → Φ w (E.trunc n)
  df : List Deferred
  gl : ∀ (w : World) (E : Env), Φ w E → Laid w E.G
structure WRel (B : Base) (H : List Bk) (E : Env) (w : World) : Prop where
  inj : ∀ x y c, E.σ x = some c → E.σ y = some c → x = y
  own : ∀ x c, E.σ x = some c → B.w0.heap.size ≤ c ∧ c < w.heap.size ∧ ¬ E.G c
  wf : E.wf
  heap : HRep w E H
  out : ∀ x, H.length ≤ x → E.σ x = none ∧ E.κ x = 0
  good : ∀ b, E.G b → b < w.heap.size
  g0 : ∀ b, B.G0 b → E.G b
  gn : ∀ b, E.G b → B.G0 b ∨ B.w0.heap.size ≤ b
  bel : Below B.w0.heap.size B.w0 w
  phi : B.Φ w E
theorem WRel.laid {B : Base} {H : List Bk} {E : Env} {w : World} (h : WRel B H E w) : Laid w E.G := B.gl _ _ h.phi
structure Rel (B : Base) (st : St) (E : Env) (a : Act) (w : World) : Prop where
  sz : a.tmps.size = B.nt
  df : a.defers = B.df
  fr : ∀ t, DRep w E (st.fr.get t) (a.tmps.getD t undef)
  wr : WRel B st.heap E w
end Go.Proofs.YtdhfakajlnidiaaGreat
namespace Go.Proofs.YtdhfakajlnidiaaGreat
open Go.RowKit

/-! The types that a program names, as a list; an operation that only reads, at symbolic data. -/
inductive TK where
  | bool | int (k : IntKind) | str | ptr (e : Nat) | slice (e : Nat) | arr (n e : Nat) | struct (fs : List (Nat × Nat × Bool)) | map (k e : Nat) | func | other
structure TI where
  kind : TK
  size : Nat
  bytes : Nat
  zero : Value
def TK.agg : TK → Bool
  | .arr .. | .struct _ => true
  | _ => false
abbrev TabL := List (Nat × TI)
def TabL.get : TabL → Nat → Option TI
  | [], _ => none
  | (m, i) :: r, n => if m = n then some i else TabL.get r n
abbrev Tab := Nat → Option TI
abbrev Tab.get (T : Tab) (t : Nat) : Option TI := T t
def TK.of (P : Program) : TypeDesc → TK
  | .bool => .bool
  | .int k => .int k
  | .string => .str
  | .pointer e => .ptr e
  | .slice e => .slice e
  | .array n e => .arr n e
  | .struct fs => .struct (fs.toList.map fun f => (f.offset, P.cellsOf f.type, match P.underlying f.type with | some (.struct _) | some (.array ..) => true | _ => false))
  | .map k e => .map k e
  | .func .. => .func
  | _ => .other
def fieldsOK (P : Program) : TypeDesc → Bool
  | .struct fs => fs.all fun f => (P.underlying f.type).isSome
  | _ => true
def TI.of (P : Program) (t : Nat) : Option TI :=
  match P.info? t, P.underlying t with
  | some i, some d => match i.zero with
    | some z => if fieldsOK P d then some ⟨TK.of P d, i.size, i.bytes, z⟩ else none
    | none => none
  | _, _ => none
def Tab.ok (P : Program) (T : Tab) : Prop := ∀ t i, T t = some i → TI.of P t = some i
theorem TabL.ok {P : Program} {L : TabL} (h : ∀ p ∈ L, TI.of P p.1 = some p.2) : Tab.ok P (TabL.get L) := by
  induction L with
  | nil => intro t i hg; simp [TabL.get] at hg
  | cons a r ih =>
    intro n i hg
    obtain ⟨m, j⟩ := a
    simp only [TabL.get] at hg
    by_cases e : m = n
    · subst e
      rw [if_pos rfl] at hg
      cases hg
      exact h (m, i) (by simp)
    · rw [if_neg e] at hg
      exact ih (fun p hp => h p (by simp [hp])) n i hg
theorem Tab.get_ok {P : Program} {T : Tab} (h : T.ok P) {n : Nat} {i : TI} (hg : T.get n = some i) : TI.of P n = some i := h n i hg
theorem TI.of_spec {P : Program} {t : Nat} {i : TI} (h : TI.of P t = some i) : ∃ ti d, P.info? t = some ti ∧ P.underlying t = some d ∧ ti.zero = some i.zero ∧ ti.size = i.size ∧ ti.bytes = i.bytes ∧ i.kind = TK.of P d := by
  unfold TI.of at h
  cases h1 : P.info? t with
  | none => simp [h1] at h
  | some ti =>
    cases h2 : P.underlying t with
    | none => simp [h1, h2] at h
    | some d =>
      cases h3 : ti.zero with
      | none => simp [h1, h2, h3] at h
      | some z =>
        simp only [h1, h2, h3] at h
        split at h
        · simp only [Option.some.injEq] at h
          subst h
          exact ⟨ti, d, rfl, rfl, h3, rfl, rfl, rfl⟩
        · cases h
theorem TI.of_fields {P : Program} {t : Nat} {i : TI} (h : TI.of P t = some i) {fds : Array Field} (hd : P.underlying t = some (.struct fds)) : ∀ f ∈ fds, (P.underlying f.type).isSome = true := by
  unfold TI.of at h
  cases h1 : P.info? t with
  | none => simp [h1] at h
  | some ti =>
    cases h3 : ti.zero with
    | none => simp [h1, hd, h3] at h
    | some z =>
      simp only [h1, hd, h3] at h
      split at h
      · next hh => exact fun f hf => Array.all_eq_true_iff_forall_mem.1 hh f hf
      · cases h

def D.ofV1 : Value → D
  | .bool b => .bool (.lit b)
  | .int k n => if k.min ≤ n ∧ n ≤ k.max then .int k (.lit n) else .junk
  | .string s => if s.size ≤ maxLen then .str s else .junk
  | .pointer none => .nilp
  | .slice none 0 0 => .nils
  | .map none => .nilm
  | .nilFunc => .nilf
  | .nilIface => .nilI
  | .func f a b => if a.size = 0 ∧ b.size = 0 then .fn f [] [] else .junk
  | _ => .junk
def D.ofV : Value → D
  | .agg cs => .agg (cs.toList.map D.ofV1)
  | .tuple cs => .tup (cs.toList.map D.ofV1)
  | v => D.ofV1 v
theorem D.ofV1_rep {w : World} {E : Env} (v : Value) : DRep w E (D.ofV1 v) v := by
  unfold D.ofV1
  split
  · exact .bool
  · split
    · next h => exact .int h
    · exact .junk
  · split
    · next h => exact .str h
    · exact .junk
  · exact .nilp
  · exact .nils
  · exact .nilm
  · exact .nilf
  · exact .nilI
  · next f a b =>
    split
    · next h =>
      obtain ⟨h1, h2⟩ := h
      exact .fn (by simp [h1]) (by simp [h2]) (fun i d v h => by simp at h) (fun i d v h => by simp at h)
    · exact .junk
  · exact .junk
theorem D.ofV_rep {w : World} {E : Env} (v : Value) : DRep w E (D.ofV v) v := by
  unfold D.ofV
  split
  · refine .agg (by simp) fun i d u h1 h2 => ?_
    simp only [List.getElem?_map, Option.map_eq_some_iff] at h1
    obtain ⟨x, hx, rfl⟩ := h1
    rw [Array.getElem?_toList] at hx
    rw [hx] at h2
    cases h2
    exact D.ofV1_rep _
  · refine .tup (by simp) fun i d u h1 h2 => ?_
    simp only [List.getElem?_map, Option.map_eq_some_iff] at h1
    obtain ⟨x, hx, rfl⟩ := h1
    rw [Array.getElem?_toList] at hx
    rw [hx] at h2
    cases h2
    exact D.ofV1_rep _
  · exact D.ofV1_rep _
/-- the cells that a value is laid in -/
def D.cells : D → Option (List D)
  | .agg l => some l
  | .junk | .tup _ | .arr .. => none
  | d => some [d]
theorem DRep.cells {w : World} {E : Env} {d : D} {v : Value} {l : List D} (h : DRep w E d v) (hl : d.cells = some l) : v.cells.size = l.length ∧ ∀ (i : Nat) e, l[i]? = some e → ∃ u, v.cells[i]? = some u ∧ DRep w E e u := by
  have one : ∀ v : Value, v.cells = #[v] → DRep w E d v → l = [d] → v.cells.size = l.length ∧ ∀ (i : Nat) e, l[i]? = some e → ∃ u, v.cells[i]? = some u ∧ DRep w E e u := fun v hv hd he => by
    subst he
    refine ⟨by simp [hv], fun i e hi => ?_⟩
    cases i with
    | zero => simp at hi; subst hi; exact ⟨v, by simp [hv], hd⟩
    | succ i => simp at hi
  cases h with
  | junk => simp [D.cells] at hl
  | tup _ _ => simp [D.cells] at hl
  | @agg _ _ vs hs hh =>
    simp only [D.cells, Option.some.injEq] at hl
    subst hl
    refine ⟨by simp [Value.cells, hs], fun i e hi => ?_⟩
    have hlt := (List.getElem?_eq_some_iff.1 hi).1
    have hu : vs[i]? = some (vs[i]'(by omega)) := Array.getElem?_eq_getElem (by omega)
    exact ⟨_, hu, hh i e _ hi hu⟩
  | int h => exact one _ rfl (.int h) (by simpa [D.cells] using hl.symm)
  | bool => exact one _ rfl .bool (by simpa [D.cells] using hl.symm)
  | str h => exact one _ rfl (.str h) (by simpa [D.cells] using hl.symm)
  | nils => exact one _ rfl .nils (by simpa [D.cells] using hl.symm)
  | slm u hnb hc hm hx ha h => exact one _ rfl (.slm u hnb hc hm hx ha h) (by simpa [D.cells] using hl.symm)
  | sll u hc hm hx ha h => exact one _ rfl (.sll u hc hm hx ha h) (by simpa [D.cells] using hl.symm)
  | dp u hg hu h => exact one _ rfl (.dp u hg hu h) (by simpa [D.cells] using hl.symm)
  | ptr hk h => exact one _ rfl (.ptr hk h) (by simpa [D.cells] using hl.symm)
  | ptrs hk => exact one _ rfl (.ptrs hk) (by simpa [D.cells] using hl.symm)
  | rp hk h hi => exact one _ rfl (.rp hk h hi) (by simpa [D.cells] using hl.symm)
  | rps hk => exact one _ rfl (.rps hk) (by simpa [D.cells] using hl.symm)
  | nilp => exact one _ rfl .nilp (by simpa [D.cells] using hl.symm)
  | oslc hk h hnb hl' hn hc hm hsz => exact one _ rfl (.oslc hk h hnb hl' hn hc hm hsz) (by simpa [D.cells] using hl.symm)
  | osln hk h hnb hl' hn => exact one _ rfl (.osln hk h hnb hl' hn) (by simpa [D.cells] using hl.symm)
  | osls hk => exact one _ rfl (.osls hk) (by simpa [D.cells] using hl.symm)
  | mapr hk h => exact one _ rfl (.mapr hk h) (by simpa [D.cells] using hl.symm)
  | maps hk => exact one _ rfl (.maps hk) (by simpa [D.cells] using hl.symm)
  | nilm => exact one _ rfl .nilm (by simpa [D.cells] using hl.symm)
  | fn a b c d => exact one _ rfl (.fn a b c d) (by simpa [D.cells] using hl.symm)
  | nilf => exact one _ rfl .nilf (by simpa [D.cells] using hl.symm)
  | nilI => exact one _ rfl .nilI (by simpa [D.cells] using hl.symm)
  | arr _ _ => simp [D.cells] at hl
  | dpa hg h => exact one _ rfl (.dpa hg h) (by simpa [D.cells] using hl.symm)
  | mapd hg hb hn hm hv hh ha hc => exact one _ rfl (.mapd hg hb hn hm hv hh ha hc) (by simpa [D.cells] using hl.symm)
  | ap hk h hi => exact one _ rfl (.ap hk h hi) (by simpa [D.cells] using hl.symm)
  | aps hk => exact one _ rfl (.aps hk) (by simpa [D.cells] using hl.symm)
  | mg hg hb hn hm hk hh ha hc hv => exact one _ rfl (.mg hg hb hn hm hk hh ha hc hv) (by simpa [D.cells] using hl.symm)
  | ifc h => exact one _ rfl (.ifc h) (by simpa [D.cells] using hl.symm)
  | svl => exact one _ rfl .svl (by simpa [D.cells] using hl.symm)
end Go.Proofs.YtdhfakajlnidiaaGreat
namespace Go.Proofs.YtdhfakajlnidiaaGreat
open Go.RowKit

/-! An operation that leaves every block as it is, at symbolic data: what it gives. -/
inductive QR : Type 1
  | ret (d : D)
  | req (p : Unit → Prop) (r : QR)
  | elem {α : Type} (c : α → List D) (l : List α) (i : IE) (k : List D → D)
  | elemL (es : List (List D)) (i : IE) (k : List D → D)
  | newc (l : List D)
  | newd (ty n : Nat) (es : List (List D))
  | newr (ty n : Nat) (r : RE) (len : IE)
  | letl {α : Type} (f : Unit → List α) (k : List α → D)
  | letb (f : Unit → Bool) (k : Bool → D)
  | lets (f : Unit → ByteArray) (k : ByteArray → D)
  | elemR (r : RE) (i : IE) (k : List D → D)
  | leto (f : Unit → Option Int) (k0 : D) (k : Int → D)
  | letd (f : Unit → Option D) (k0 : D) (k : D → D)
  | newm (kk : IntKind)
  | newa (k : IntKind) (m : Nat) (f : Nat → Int)
  | stuck
def OpRet (P : Program) (H : List Bk) (ρ : Operand → D) (o : Oper) (d : D) : Prop :=
  ∀ (w : World) (E : Env) (ev : Operand → Value), (∀ x, DRep w E (ρ x) (ev x)) → E.wf → HRep w E H → ∃ v, (execOp ev o).run P w = .ok (.value v) w ∧ DRep w E d v
def QR.good (P : Program) (H : List Bk) (ρ : Operand → D) (o : Oper) : QR → Prop
  | .ret d => OpRet P H ρ o d
  | .req p r => p () → r.good P H ρ o
  | .elem c l i k => 0 ≤ i.den → ∀ x, l[i.den.toNat]? = some x → OpRet P H ρ o (k (c x))
  | .elemL es i k => 0 ≤ i.den → ∀ x, es[i.den.toNat]? = some x → OpRet P H ρ o (k x)
  | .newc l => ∀ (w : World) (E : Env) (ev : Operand → Value), (∀ x, DRep w E (ρ x) (ev x)) → E.wf → HRep w E H → ∃ cs t, (execOp ev o).run P w = .ok (.value (.pointer (some ⟨w.heap.size, 0, none⟩))) (w.alloc (.cells cs t)) ∧
      cs.size = l.length ∧ ∀ (i : Nat) d, l[i]? = some d → ∃ v, cs[i]? = some v ∧ DRep w E d v
  | .newd ty n es => ∀ (w : World) (E : Env) (ev : Operand → Value), (∀ x, DRep w E (ρ x) (ev x)) → E.wf → HRep w E H → ∃ cs, (execOp ev o).run P w = .ok (.value (.slice (some ⟨w.heap.size, 0, none⟩) es.length es.length)) (w.alloc (.cells cs ty)) ∧
      es.length ≤ maxLen ∧ cs.size = es.length * n ∧ ∀ (i : Nat) e, es[i]? = some e → e.length = n ∧ ∀ (j : Nat) d, e[j]? = some d → ∃ v, cs[i * n + j]? = some v ∧ DRep w E.data d v
  | .newr ty n r len => ∀ (w : World) (E : Env) (ev : Operand → Value), (∀ x, DRep w E (ρ x) (ev x)) → E.wf → HRep w E H → ∃ (cs : Array Value) (m cap : Nat), (execOp ev o).run P w = .ok (.value (.slice (some ⟨w.heap.size, 0, none⟩) m cap)) (w.alloc (.cells cs ty)) ∧
      m ≤ cap ∧ cap ≤ maxLen ∧ len.den = (m : Int) ∧ r.den.length = m ∧ cs.size = cap * n ∧ ∀ (i : Nat) e, r.den[i]? = some e → e.length = n ∧ ∀ (j : Nat) d, e[j]? = some d → ∃ v, cs[i * n + j]? = some v ∧ DRep w E.data d v
  | .letl f k => OpRet P H ρ o (k (f ()))
  | .letb f k => OpRet P H ρ o (k (f ()))
  | .lets f k => OpRet P H ρ o (k (f ()))
  | .elemR r i k => 0 ≤ i.den → ∀ x, r.den[i.den.toNat]? = some x → OpRet P H ρ o (k x)
  | .leto f k0 k => (f () = none → OpRet P H ρ o k0) ∧ ∀ y, f () = some y → OpRet P H ρ o (k y)
  | .letd f k0 k => (f () = none → OpRet P H ρ o k0) ∧ ∀ y, f () = some y → OpRet P H ρ o (k y)
  | .newm _ => ∀ (w : World) (E : Env) (ev : Operand → Value), (∀ x, DRep w E (ρ x) (ev x)) → E.wf → HRep w E H → (execOp ev o).run P w = .ok (.value (.map (some w.heap.size))) (w.alloc (.map #[] 0))
  | .newa k m f => ∀ (w : World) (E : Env) (ev : Operand → Value), (∀ x, DRep w E (ρ x) (ev x)) → E.wf → HRep w E H → ∃ cs t, (execOp ev o).run P w = .ok (.value (.pointer (some ⟨w.heap.size, 0, none⟩))) (w.alloc (.cells cs t)) ∧
      cs.size = m ∧ ∀ i, i < m → cs[i]? = some (.int k (f i)) ∧ InR k (f i)
  | .stuck => True

/-- a literal slice as a row of the call's own -/
def QR.own : QR → QR
  | .newd ty n es => .newr ty n (.lits es) (.lit es.length)
  | q => q
theorem QR.own_good {P : Program} {H : List Bk} {ρ : Operand → D} {o : Oper} {q : QR} (h : q.good P H ρ o) : q.own.good P H ρ o := by
  cases q with
  | newd ty n es =>
    intro w E ev hev hwf hH
    obtain ⟨cs, h1, h2, h3, h4⟩ := h w E ev hev hwf hH
    exact ⟨cs, es.length, es.length, h1, Nat.le_refl _, h2, rfl, rfl, h3, h4⟩
  | _ => exact h
/-- a side condition that may be plain -/
def QR.reqQ (b : Bool) (p : Unit → Prop) (r : QR) : QR := match b with
  | true => r
  | false => .req p r
theorem QR.reqQ_good {P : Program} {H : List Bk} {ρ : Operand → D} {o : Oper} {b : Bool} {p : Unit → Prop} {r : QR} (hb : b = true → p ()) (h : p () → r.good P H ρ o) : (QR.reqQ b p r).good P H ρ o := by
  unfold QR.reqQ
  cases b with
  | true => exact h (hb rfl)
  | false => exact h
/-- a part of cells as a value -/
def ldV (ti : TI) (cells : List D) (off : Nat) : D := if ti.kind.agg then .agg ((cells.drop off).take ti.size) else (cells[off]?).getD .junk
section
variable {P : Program} {w : World} {E : Env}
theorem run_load_ti {t : Nat} {ti : TI} (hT : TI.of P t = some ti) {b o : Nat} {cs : List Value} (hc : ∀ (j : Nat) v, cs[j]? = some v → w.cell? ⟨b, o + j, none⟩ = some v) (hl : cs.length = ti.size) (h1 : ti.kind.agg = false → 0 < ti.size) :
    (Instr.loadAt t (.pointer (some ⟨b, o, none⟩))).run P w = .ok (if ti.kind.agg then .agg cs.toArray else cs.headD undef) w := by
  obtain ⟨i, d, hi, hd, _, hs, _, hk⟩ := TI.of_spec hT
  by_cases ha : ti.kind.agg = true
  · rw [if_pos ha]
    refine run_loadAt_mid w b o t cs d hc hd ?_ (by simp [hi, hs, hl])
    rw [hk] at ha
    cases d <;> simp_all [TK.of, TK.agg]
  · rw [if_neg ha]
    have hf : ti.kind.agg = false := by simpa using ha
    have hagg : (isAgg t).run P w = .ok false w := by
      unfold isAgg
      rw [Sem.run_bind, run_underlying hd w]
      rw [hk] at hf
      cases d <;> simp_all [TK.of, TK.agg]
    have h0 := h1 hf
    cases cs with
    | nil => simp at hl; omega
    | cons v r =>
      have hv := hc 0 v rfl
      simp only [Nat.add_zero] at hv
      simp [Instr.loadAt, Instr.sureAddr, loadVar, hagg, hv]
/-- what is read of cells that stand for symbolic cells -/
theorem load_rep {t : Nat} {ti : TI} (hT : TI.of P t = some ti) {F : Env} {b base off : Nat} {cells : List D} (hcell : ∀ (j : Nat) d, cells[j]? = some d → ∃ v, w.cell? ⟨b, base + j, none⟩ = some v ∧ DRep w F d v)
    (hle : off + ti.size ≤ cells.length) (h1 : ti.kind.agg = false → 0 < ti.size) :
    ∃ v, (Instr.loadAt t (.pointer (some ⟨b, base + off, none⟩))).run P w = .ok v w ∧ DRep w F (ldV ti cells off) v := by
  have hall : ∀ j, j < ti.size → ∃ v, w.cell? ⟨b, base + (off + j), none⟩ = some v ∧ DRep w F (cells[off + j]?.getD .junk) v := fun j hj => by
    have hlt : off + j < cells.length := by omega
    obtain ⟨v, h2, h3⟩ := hcell (off + j) cells[off + j] (List.getElem?_eq_getElem hlt)
    exact ⟨v, h2, by rw [List.getElem?_eq_getElem hlt]; exact h3⟩
  let f : Nat → Value := fun j => if h : j < ti.size then (hall j h).choose else undef
  have hf : ∀ j, j < ti.size → w.cell? ⟨b, base + (off + j), none⟩ = some (f j) ∧ DRep w F (cells[off + j]?.getD .junk) (f j) := fun j hj => by
    have := (hall j hj).choose_spec
    simp only [f, dif_pos hj]
    exact this
  clear_value f
  have hrun := run_load_ti (w := w) hT (b := b) (o := base + off) (cs := (List.range ti.size).map f) (fun j v hv => by
    simp only [List.getElem?_map, Option.map_eq_some_iff] at hv
    obtain ⟨k, hk, rfl⟩ := hv
    obtain ⟨hk1, hk2⟩ := List.getElem?_eq_some_iff.1 hk
    simp at hk1 hk2
    subst hk2
    rw [Nat.add_assoc]
    exact (hf j hk1).1) (by simp) h1
  refine ⟨_, hrun, ?_⟩
  unfold ldV
  by_cases ha : ti.kind.agg = true
  · rw [if_pos ha, if_pos ha]
    refine .agg (by simp; omega) fun i d v hd hv => ?_
    simp only [List.getElem?_take, List.getElem?_drop] at hd
    split at hd
    · next hi =>
      simp [hi] at hv
      subst hv
      have := (hf i hi).2
      rw [hd] at this
      exact this
    · cases hd
  · rw [if_neg ha, if_neg ha]
    have h0 := h1 (by simpa using ha)
    have := (hf 0 h0).2
    simp only [Nat.add_zero] at this
    have e : ((List.range ti.size).map f).headD undef = f 0 := by
      cases hn : ti.size with
      | zero => omega
      | succ n => simp [List.range_succ_eq_map]
    rw [e]
    exact this
end
end Go.Proofs.YtdhfakajlnidiaaGreat
namespace Go.Proofs.YtdhfakajlnidiaaGreat
open Go.RowKit

/-! The operations one by one: loads. -/
def TI.fine (ti : TI) : Bool := ti.kind.agg || decide (0 < ti.size)
theorem TI.fine_spec {ti : TI} (h : ti.fine = true) : ti.kind.agg = false → 0 < ti.size := fun ha => by
  unfold TI.fine at h
  simpa [ha] using h
def ldQ (T : Tab) (t : Nat) (cells : List D) (off : Nat) : QR := match T.get t with
  | some ti => if ti.fine && decide (off + ti.size ≤ cells.length) then .ret (ldV ti cells off) else .stuck
  | none => .stuck
def ldLits (ti : TI) (es : List (List D)) (i : IE) (off : Nat) : QR := match i with
  | .lit k => (match decide (0 ≤ k), es[k.toNat]? with
    | true, some cs => .ret (ldV ti cs off)
    | _, _ => .stuck)
  | i => .elemL es i (fun cs => ldV ti cs off)
def qLoad (T : Tab) (H : List Bk) (t : Nat) (d : D) : QR := match d with
  | .ptr b ver off => (match H[b]? with
    | some (.cells l) => if ver = 1 then ldQ T t l off else .stuck
    | _ => .stuck)
  | .dp cells off => ldQ T t cells off
  | .rp n b ver i off => (match H[b]?, T.get t with
    | some (.row _ n' ver' (.map c l)), some ti => if ti.fine && decide (n' = n) && decide (ver' = ver) && decide (off + ti.size ≤ n) then .elem c l i (fun cs => ldV ti cs off) else .stuck
    | some (.row _ n' ver' (.lits es)), some ti => if ti.fine && decide (n' = n) && decide (ver' = ver) && decide (off + ti.size ≤ n) then ldLits ti es i off else .stuck
    | some (.row _ n' ver' r), some ti => if ti.fine && decide (n' = n) && decide (ver' = ver) && decide (off + ti.size ≤ n) then .elemR r i (fun cs => ldV ti cs off) else .stuck
    | _, _ => .stuck)
  | _ => .stuck
section
variable {P : Program} {T : Tab} {H : List Bk} {ρ : Operand → D} {o : Oper}
theorem execOp_load {ev : Operand → Value} {t : Nat} {a : Operand} (ho : o.op = .load t a) : execOp ev o = (do pure (.value (← Instr.loadAt t (ev a)))) := by
  unfold execOp; rw [ho]
theorem row_elem {w : World} {E : Env} {x c ty n k : Nat} {r : RE} (h : BRep w E x c (.row ty n k r)) {i : Nat} {cs : List D} (hi : r.den[i]? = some cs) : cs.length = n ∧ ∀ (j : Nat) d, cs[j]? = some d → ∃ v, w.cell? ⟨c, i * n + j, none⟩ = some v ∧ DRep w E.data d v := by
  obtain ⟨vs, tt, _, h1, h2, h3, h4⟩ := h
  obtain ⟨h5, h6⟩ := h4 i cs hi
  refine ⟨h5, fun j d hd => ?_⟩
  obtain ⟨v, h7, h8⟩ := h6 j d hd
  exact ⟨v, by simp [World.cell?, h1, h7], h8⟩
theorem qLoad_good (hT : T.ok P) {t : Nat} {a : Operand} (ho : o.op = .load t a) : (qLoad T H t (ρ a)).good P H ρ o := by
  have fin : ∀ {ti : TI} (_ : TI.of P t = some ti) {w : World} {E F : Env} {ev : Operand → Value} {b base off : Nat} {cells : List D} (_ : ∀ (j : Nat) d, cells[j]? = some d → ∃ v, w.cell? ⟨b, base + j, none⟩ = some v ∧ DRep w F d v)
    (_ : off + ti.size ≤ cells.length) (_ : ti.fine = true) (_ : ev a = .pointer (some ⟨b, base + off, none⟩)) (_ : ∀ d v, DRep w F d v → DRep w E d v), ∃ v, (execOp ev o).run P w = .ok (.value v) w ∧ DRep w E (ldV ti cells off) v := by
    intro ti hti w E F ev b base off cells hc hle hf he hFE
    obtain ⟨v, h1, h2⟩ := load_rep hti hc hle (TI.fine_spec hf)
    refine ⟨v, ?_, hFE _ _ h2⟩
    rw [execOp_load ho, he]
    simp [h1]
  have ldq : ∀ {cells : List D} {off : Nat}, (∀ (w : World) (E : Env) (ev : Operand → Value), DRep w E (ρ a) (ev a) → E.wf → HRep w E H → ∃ (F : Env) (b base : Nat), (∀ (j : Nat) d, cells[j]? = some d → ∃ v, w.cell? ⟨b, base + j, none⟩ = some v ∧ DRep w F d v) ∧
      ev a = .pointer (some ⟨b, base + off, none⟩) ∧ (∀ d v, DRep w F d v → DRep w E d v)) → (ldQ T t cells off).good P H ρ o := fun h => by
    unfold ldQ
    split
    · next ti hti =>
      split
      · next hc =>
        simp only [Bool.and_eq_true, decide_eq_true_eq] at hc
        intro w E ev hev hwf hH
        obtain ⟨F, b, base, h1, h2, h3⟩ := h w E ev (hev a) hwf hH
        exact fin (Tab.get_ok hT hti) h1 hc.2 hc.1 h2 h3
      · trivial
    · trivial
  unfold qLoad
  split
  · next b ver off hd =>
    split
    · next l hl =>
      split
      · next hv =>
        subst hv
        refine ldq fun w E ev hev hwf hH => ?_
        rw [hd] at hev
        generalize ev a = va at hev
        have hb := hH b _ hl
        cases hev with
        | @ptr _ _ _ _ c hk hs =>
          rcases hb with hb | ⟨_, hb, _⟩
          · omega
          · obtain ⟨cs, t', h1, h2, _, h3⟩ := hb c hs
            refine ⟨E, c, 0, fun j d hd => ?_, by rw [Nat.zero_add], fun _ _ h => h⟩
            obtain ⟨v, h4, h5⟩ := h3 j d hd
            exact ⟨v, by simp [World.cell?, h1, h4], h5⟩
        | ptrs hk =>
          rcases hb with hb | ⟨hb, _, _⟩
          · omega
          · simp only [Bk.ver] at hb; omega
      · trivial
    · trivial
  · next cells off hd =>
    refine ldq fun w E ev hev hwf hH => ?_
    rw [hd] at hev
    generalize ev a = va at hev
    cases hev with
    | dp u hg hu h =>
      refine ⟨E.data, _, _, fun j d hd => ⟨u j, hu j (List.getElem?_eq_some_iff.1 hd).1, h j d hd⟩, rfl, fun _ _ h => h.undata hwf⟩
  · next n b ver i off hd =>
    have rowfin : ∀ {ty n' ver' : Nat} {r : RE} {ti : TI}, H[b]? = some (.row ty n' ver' r) → T.get t = some ti → (ti.fine && decide (n' = n) && decide (ver' = ver) && decide (off + ti.size ≤ n)) = true → 0 ≤ i.den → ∀ cs, r.den[i.den.toNat]? = some cs → OpRet P H ρ o (ldV ti cs off) := by
      intro ty n' ver' r ti hb hti hc h0 cs hcs w E ev hev hwf hH
      simp only [Bool.and_eq_true, decide_eq_true_eq] at hc
      obtain ⟨⟨⟨hf, rfl⟩, rfl⟩, hle⟩ := hc
      have hva := hev a
      rw [hd] at hva
      have hbb := hH b _ hb
      generalize hv : ev a = va at hva
      cases hva with
      | @rp _ _ _ _ _ _ c hk hs hi =>
        rcases hbb with hbb | ⟨_, hbb, _⟩
        · rw [hbb.2] at hs; cases hs
        · obtain ⟨h1, h2⟩ := row_elem (hbb c hs) hcs
          exact fin (Tab.get_ok hT hti) h2 (by omega) hf hv fun _ _ h => h.undata hwf
      | rps hk =>
        rcases hbb with hbb | ⟨hbb, _, _⟩
        · omega
        · simp only [Bk.ver] at hbb; omega
    split
    · next n' ver' α c l ti hb hti =>
      split
      · next hc =>
        intro h0 x hx
        exact rowfin hb hti hc h0 _ (by simp [RE.den, hx])
      · trivial
    · next n' ver' es ti hb hti =>
      split
      · next hc =>
        unfold ldLits
        split
        · next k =>
          split
          · next cs h0 hx => exact rowfin hb hti hc (by simpa [IE.den] using h0) _ (by simpa [RE.den, IE.den] using hx)
          · trivial
        · exact fun h0 x hx => rowfin hb hti hc h0 _ (by simpa [RE.den] using hx)
      · trivial
    · next n' ver' r ti _ _ hb hti =>
      split
      · next hc =>
        intro h0 x hx
        exact rowfin hb hti hc h0 _ hx
      · trivial
    · trivial
  · trivial
end
end Go.Proofs.YtdhfakajlnidiaaGreat
namespace Go.Proofs.YtdhfakajlnidiaaGreat
open Go.RowKit

/-! The operations one by one: numbers, truth values, places. -/
theorem InR.zero (k : IntKind) : InR k 0 := by cases k <;> simp [InR, IntKind.min, IntKind.max, IntKind.signed, IntKind.bits]
theorem InR.between {k : IntKind} {x z : Int} (h : InR k x) (h1 : 0 ≤ x → 0 ≤ z ∧ z ≤ x) (h2 : x < 0 → x ≤ z ∧ z ≤ 0) : InR k z := by
  have h0 := InR.zero k
  obtain ⟨h3, h4⟩ := h
  obtain ⟨h5, h6⟩ := h0
  rcases Int.lt_or_le x 0 with q | q
  · have := h2 q; exact ⟨by omega, by omega⟩
  · have := h1 q; exact ⟨by omega, by omega⟩
theorem InR.tmod {k : IntKind} {x : Int} (y : Int) (h : InR k x) : InR k (x.tmod y) := by
  refine h.between (fun hx => ⟨Int.tmod_nonneg _ hx, ?_⟩) fun hx => ?_
  · obtain ⟨n, rfl⟩ := Int.eq_ofNat_of_zero_le hx
    have e : ((n : Int).tmod y) = ((n % y.natAbs : Nat) : Int) := by cases y <;> rfl
    rw [e]
    have := Nat.mod_le n y.natAbs
    omega
  · obtain ⟨n, hn⟩ := Int.eq_ofNat_of_zero_le (show 0 ≤ -x by omega)
    have e : x.tmod y = -((n % y.natAbs : Nat) : Int) := by
      rw [show x = -(n : Int) by omega, Int.neg_tmod]
      cases y <;> rfl
    rw [e]
    have := Nat.mod_le n y.natAbs
    omega
theorem InR.fdiv {k : IntKind} {x : Int} (n : Nat) (h : InR k x) : InR k (x.fdiv (2 ^ n)) := by
  have hp : (0 : Int) < 2 ^ n := Int.pow_pos (by decide)
  rw [Int.fdiv_eq_ediv_of_nonneg _ (Int.le_of_lt hp)]
  refine h.between (fun hx => ⟨Int.ediv_nonneg hx (Int.le_of_lt hp), Int.ediv_le_self _ hx⟩) fun hx => ⟨?_, ?_⟩
  · rw [Int.le_ediv_iff_mul_le hp]
    have : x * 2 ^ n ≤ x * 1 := Int.mul_le_mul_of_nonpos_left (by omega) (by omega)
    simpa using this
  · have : x / 2 ^ n < 0 := Int.ediv_neg_of_neg_of_pos hx hp
    omega
theorem InR.binDen {op : BinOp} {k : IntKind} {x y : Int} (h : InR k x) : InR k (binDen op k x y) := by
  unfold Go.Proofs.YtdhfakajlnidiaaGreat.binDen
  cases op <;> first | exact InR.wrap _ _ | exact InR.tmod _ h | exact InR.fdiv _ h | exact InR.zero _

def boolT (T : Tab) (t : Nat) : Bool := match T.get t with | some ⟨.bool, _, _, _⟩ => true | _ => false
def sliceT (T : Tab) (t : Nat) : Bool := match T.get t with | some ⟨.slice _, _, _, _⟩ => true | _ => false
def mapT (T : Tab) (t : Nat) : Bool := match T.get t with | some ⟨.map _ _, _, _, _⟩ => true | _ => false
def retEq (op : BinOp) (b : BE) : QR := match op with
  | .eql => .ret (.bool b)
  | .neq => .ret (.bool b.mkNot)
  | _ => .stuck
def intBin (op : BinOp) (k : IntKind) (a b : IE) : QR := match op with
  | .add | .sub | .mul | .and | .or | .xor | .andNot => .ret (.int k (IE.mk2 op k a b))
  | .quo | .rem => (match b with
    | .lit n => if n = 0 then .stuck else .ret (.int k (IE.mk2 op k a b))
    | _ => .req (fun _ => b.den ≠ 0) (.ret (.int k (IE.mk2 op k a b))))
  | .eql | .neq | .lss | .leq | .gtr | .geq => .ret (.bool (BE.mk2 op a b))
  | _ => .stuck
def shBin (op : BinOp) (k : IntKind) (a b : IE) : QR := match op with
  | .shl | .shr => (match b with
    | .lit n => if n < 0 then .stuck else .ret (.int k (IE.mk2 op k a b))
    | _ => .req (fun _ => 0 ≤ b.den) (.ret (.int k (IE.mk2 op k a b))))
  | _ => .stuck
def isSh : BinOp → Bool
  | .shl | .shr => true
  | _ => false
/-- the numbers of an array value -/
def intsOf (k : IntKind) : List D → Option (List IE)
  | [] => some []
  | d :: r => match d with
    | .int k' e => if k' = k then (match intsOf k r with | some l => some (e :: l) | none => none) else none
    | _ => none
def arrK (T : Tab) (t n : Nat) : Option IntKind := match T.get t with
  | some ⟨.arr m e, _, _, _⟩ => if m = n then (match T.get e with | some ⟨.int k, sz, _, _⟩ => if sz = 1 then some k else none | _ => none) else none
  | _ => none
def qBin (T : Tab) (H : List Bk) (op : BinOp) (t : Nat) (x y : D) : QR := match x, y with
  | .agg la, .agg lb => (match arrK T t la.length with
    | some k => (match intsOf k la, intsOf k lb with
      | some a, some b => if a.length = b.length then retEq op (.eqs a b) else .stuck
      | _, _ => .stuck)
    | none => .stuck)
  | .int k a, .int k' b => if isSh op then shBin op k a b else if k = k' then intBin op k a b else .stuck
  | .bool a, .bool b => if boolT T t then retEq op (BE.beq a b) else .stuck
  | .str a, .str b => retEq op (.seq a b)
  | .slm _ (some nb) _ _, .nils => if sliceT T t then retEq op nb else .stuck
  | .nils, .slm _ (some nb) _ _ => if sliceT T t then retEq op nb else .stuck
  | .sll _ _, .nils => if sliceT T t then retEq op (.lit false) else .stuck
  | .nils, .nils => if sliceT T t then retEq op (.lit true) else .stuck
  | .osl _ b ver nb _ _, .nils => if sliceT T t && Bk.at H b ver then retEq op nb else .stuck
  | .mapr b, .nilm => if mapT T t && Bk.at H b 1 then retEq op (.lit false) else .stuck
  | .nilm, .nilm => if mapT T t then retEq op (.lit true) else .stuck
  | _, _ => .stuck
section
variable {P : Program} {T : Tab} {H : List Bk} {ρ : Operand → D} {o : Oper}
theorem execOp_bin {ev : Operand → Value} {op : BinOp} {t ty : Nat} {x y : Operand} (ho : o.op = .binOp op t x y ty) : execOp ev o = (do pure (.value (← (do eqGuard op t x y (ev x) (ev y); binOp op t (ev x) (ev y))))) := by
  unfold execOp; rw [ho]
/-- an operation whose run does not look at the world -/
theorem ret_of {d : D} (h : ∀ (w : World) (E : Env) (ev : Operand → Value), (∀ x, DRep w E (ρ x) (ev x)) → E.wf → HRep w E H → ∃ v, (execOp ev o).run P w = .ok (.value v) w ∧ DRep w E d v) : OpRet P H ρ o d := h
section
variable {op : BinOp} {t ty : Nat} {x y : Operand}
theorem bin_key (ho : o.op = .binOp op t x y ty) {dx dy d : D} (hx : ρ x = dx) (hy : ρ y = dy) (h : ∀ (w : World) (E : Env) (vx vy : Value), DRep w E dx vx → DRep w E dy vy → E.wf → HRep w E H → ∃ v, (eqGuard op t x y vx vy).run P w = .ok () w ∧ (binOp op t vx vy).run P w = .ok v w ∧ DRep w E d v) : OpRet P H ρ o d := fun w E ev hev hwf hH => by
  have h1 := hev x
  have h2 := hev y
  rw [hx] at h1
  rw [hy] at h2
  obtain ⟨v, h3, h4, h5⟩ := h w E _ _ h1 h2 hwf hH
  refine ⟨v, ?_, h5⟩
  rw [execOp_bin ho]
  simp [h3, h4]
theorem guard_int (ho : o.op = .binOp op t x y ty) {k k' : IntKind} {a b : Int} {w : World} : (eqGuard op t x y (.int k a) (.int k' b)).run P w = .ok () w := by cases op <;> rfl
theorem bin_int (ho : o.op = .binOp op t x y ty) {k k' : IntKind} {a b : IE} (hx : ρ x = .int k a) (hy : ρ y = .int k' b) (h : ∀ w : World, (binOp op t (.int k a.den) (.int k' b.den)).run P w = .ok (.int k (binDen op k a.den b.den)) w) : OpRet P H ρ o (.int k (IE.mk2 op k a b)) :=
  bin_key ho hx hy fun w E vx vy h1 h2 _ _ => by
    cases h1 with | int i1 => cases h2 with | int i2 =>
    refine ⟨_, guard_int ho, h w, ?_⟩
    have := DRep.int (w := w) (E := E) (k := k) (e := IE.mk2 op k a b) (by rw [IE.mk2_den]; exact InR.binDen i1)
    rwa [IE.mk2_den] at this
theorem bin_cmp (ho : o.op = .binOp op t x y ty) {k : IntKind} {a b : IE} (hx : ρ x = .int k a) (hy : ρ y = .int k b) (h : ∀ w : World, (binOp op t (.int k a.den) (.int k b.den)).run P w = .ok (.bool (cmpDen op a.den b.den)) w) : OpRet P H ρ o (.bool (BE.mk2 op a b)) :=
  bin_key ho hx hy fun w E vx vy h1 h2 _ _ => by
    cases h1 with | int i1 => cases h2 with | int i2 =>
    refine ⟨_, guard_int ho, h w, ?_⟩
    have := DRep.bool (w := w) (E := E) (e := BE.mk2 op a b)
    rwa [BE.mk2_den] at this
theorem intBin_good (ho : o.op = .binOp op t x y ty) {k : IntKind} {a b : IE} (hx : ρ x = .int k a) (hy : ρ y = .int k b) : (intBin op k a b).good P H ρ o := by
  have dv : b.den ≠ 0 → ∀ w : World, (op = .quo ∨ op = .rem) → (binOp op t (.int k a.den) (.int k b.den)).run P w = .ok (.int k (binDen op k a.den b.den)) w := fun h w hop => by
    rcases hop with rfl | rfl <;> simp [binOp, Op.intDiv, binDen, h]
  unfold intBin
  split
  iterate 7 exact bin_int ho hx hy fun w => by simp [binOp, Op.intArith, Op.intBits, binDen]
  iterate 2
    split
    · split
      · trivial
      · next n hn => exact bin_int ho hx hy fun w => dv hn w (by simp)
    · exact fun h => bin_int ho hx hy fun w => dv h w (by simp)
  iterate 6 exact bin_cmp ho hx hy fun w => by simp [binOp, Op.intCmp, cmpDen]
  · trivial
theorem shBin_good (ho : o.op = .binOp op t x y ty) {k k' : IntKind} {a b : IE} (hx : ρ x = .int k a) (hy : ρ y = .int k' b) : (shBin op k a b).good P H ρ o := by
  have sh : 0 ≤ b.den → ∀ w : World, (op = .shl ∨ op = .shr) → (binOp op t (.int k a.den) (.int k' b.den)).run P w = .ok (.int k (binDen op k a.den b.den)) w := fun h w hop => by
    have : ¬ b.den < 0 := by omega
    rcases hop with rfl | rfl <;> simp [binOp, Op.shift, binDen, this]
  unfold shBin
  split
  iterate 2
    split
    · split
      · trivial
      · next n hn => exact bin_int ho hx hy fun w => sh (Int.not_lt.1 hn) w (by simp)
    · exact fun h => bin_int ho hx hy fun w => sh h w (by simp)
  · trivial
theorem retEq_good (ho : o.op = .binOp op t x y ty) {b : BE} (h1 : op = .eql → OpRet P H ρ o (.bool b)) (h2 : op = .neq → OpRet P H ρ o (.bool b.mkNot)) : (retEq op b).good P H ρ o := by
  unfold retEq
  split
  · exact h1 rfl
  · exact h2 rfl
  · trivial
/-- two values whose comparison is decided -/
theorem eq_good (ho : o.op = .binOp op t x y ty) {dx dy : D} {b : BE} (hx : ρ x = dx) (hy : ρ y = dy) (h : ∀ (w : World) (E : Env) (vx vy : Value), DRep w E dx vx → DRep w E dy vy → E.wf → HRep w E H → (∀ op, (eqGuard op t x y vx vy).run P w = .ok () w) ∧ (binOp .eql t vx vy).run P w = .ok (.bool b.den) w ∧ (binOp .neq t vx vy).run P w = .ok (.bool (!b.den)) w) : (retEq op b).good P H ρ o :=
  retEq_good ho (fun e => by
    subst e
    exact bin_key ho hx hy fun w E vx vy h1 h2 h3 h4 => ⟨_, (h w E vx vy h1 h2 h3 h4).1 _, (h w E vx vy h1 h2 h3 h4).2.1, .bool⟩) (fun e => by
    subst e
    exact bin_key ho hx hy fun w E vx vy h1 h2 h3 h4 => ⟨_, (h w E vx vy h1 h2 h3 h4).1 _, (h w E vx vy h1 h2 h3 h4).2.2, by rw [← BE.mkNot_den]; exact .bool⟩)
end
theorem guard_else {op : BinOp} {t : Nat} {x y : Operand} {vx vy : Value} {w : World} (h1 : ∀ l m, ¬ (vx = .agg l ∧ vy = .agg m)) (h2 : ¬ (vx = .nilIface ∧ vy = .nilIface)) : (eqGuard op t x y vx vy).run P w = .ok () w := by
  unfold eqGuard
  cases op <;> simp <;> (cases vx <;> simp_all <;> cases vy <;> simp_all)
theorem bytes_beq' (a b : ByteArray) : (a.toList == b.toList) = (a == b) := by
  by_cases h : a = b
  · subst h; simp
  · rw [bytes_ne h]
    exact (beq_eq_false_iff_ne.2 h).symm
theorem boolT_spec {t : Nat} (hT : T.ok P) (h : boolT T t = true) : P.underlying t = some .bool := by
  unfold boolT at h
  split at h
  · next z _ _ he =>
    obtain ⟨ti, d, h1, h2, _, _, _, h6⟩ := TI.of_spec (Tab.get_ok hT he)
    rw [h2]
    cases d <;> simp_all [TK.of]
  · cases h
theorem sliceT_spec {t : Nat} (hT : T.ok P) (h : sliceT T t = true) : ∃ e, P.underlying t = some (.slice e) := by
  unfold sliceT at h
  split at h
  · next z _ _ he =>
    obtain ⟨ti, d, h1, h2, _, _, _, h6⟩ := TI.of_spec (Tab.get_ok hT he)
    rw [h2]
    cases d <;> simp_all [TK.of]
  · cases h
theorem mapT_spec {t : Nat} (hT : T.ok P) (h : mapT T t = true) : ∃ k e, P.underlying t = some (.map k e) := by
  unfold mapT at h
  split at h
  · next z _ _ he =>
    obtain ⟨ti, d, h1, h2, _, _, _, h6⟩ := TI.of_spec (Tab.get_ok hT he)
    rw [h2]
    cases d <;> simp_all [TK.of]
  · cases h
theorem at_spec {w : World} {E : Env} {b ver : Nat} (h : Bk.at H b ver = true) (hH : HRep w E H) : (E.κ b = 0 ∧ E.σ b = none) ∨ E.κ b = ver := by
  unfold Bk.at at h
  split at h
  · next l hl =>
    rcases hH b _ hl with q | ⟨q, _⟩
    · exact .inl q
    · simp only [Bk.ver] at q; simp only [decide_eq_true_eq] at h; exact .inr (by omega)
  · next ty n v r hl =>
    rcases hH b _ hl with q | ⟨q, _⟩
    · exact .inl q
    · simp only [Bk.ver] at q; simp only [decide_eq_true_eq] at h; exact .inr (by omega)
  · next kk m hl =>
    rcases hH b _ hl with q | ⟨q, _⟩
    · exact .inl q
    · simp only [Bk.ver] at q; simp only [decide_eq_true_eq] at h; exact .inr (by omega)
  · next ks k2 F n hl =>
    rcases hH b _ hl with q | ⟨q, _⟩
    · exact .inl q
    · simp only [Bk.ver] at q; simp only [decide_eq_true_eq] at h; exact .inr (by omega)
  · next kk m f hl =>
    rcases hH b _ hl with q | ⟨q, _⟩
    · exact .inl q
    · simp only [Bk.ver] at q; simp only [decide_eq_true_eq] at h; exact .inr (by omega)
  · cases h
theorem run_eq_slice {t e : Nat} {a b : Option Addr} {n m k j : Nat} {w : World} (ht : P.underlying t = some (.slice e)) (h : a = none ∨ b = none) : (binOp .eql t (.slice a n k) (.slice b m j)).run P w = .ok (.bool (a.isNone && b.isNone)) w ∧ (binOp .neq t (.slice a n k) (.slice b m j)).run P w = .ok (.bool (!(a.isNone && b.isNone))) w := by
  have : (Op.equal t (.slice a n k) (.slice b m j)).run P w = .ok (a.isNone && b.isNone) w := by
    unfold Op.equal
    rw [show Op.maxDepth = 9999 + 1 from rfl]
    unfold Op.equalIn
    simp only [Sem.run_bind, run_underlying ht, Result.andThen_ok]
    rcases h with rfl | rfl
    · simp
    · cases a <;> simp
  simp [binOp, this]
theorem run_eq_bool {t : Nat} {a b : Bool} {w : World} (ht : P.underlying t = some .bool) : (binOp .eql t (.bool a) (.bool b)).run P w = .ok (.bool (a == b)) w ∧ (binOp .neq t (.bool a) (.bool b)).run P w = .ok (.bool (!(a == b))) w := by
  have : (Op.equal t (.bool a) (.bool b)).run P w = .ok (a == b) w := by
    unfold Op.equal
    rw [show Op.maxDepth = 9999 + 1 from rfl]
    unfold Op.equalIn
    simp only [Sem.run_bind, run_underlying ht, Result.andThen_ok]
    simp
  simp [binOp, this]
theorem run_eq_map {t k e : Nat} {a b : Option Nat} {w : World} (ht : P.underlying t = some (.map k e)) (h : a = none ∨ b = none) : (binOp .eql t (.map a) (.map b)).run P w = .ok (.bool (a.isNone && b.isNone)) w ∧ (binOp .neq t (.map a) (.map b)).run P w = .ok (.bool (!(a.isNone && b.isNone))) w := by
  have : (Op.equal t (.map a) (.map b)).run P w = .ok (a.isNone && b.isNone) w := by
    unfold Op.equal
    rw [show Op.maxDepth = 9999 + 1 from rfl]
    unfold Op.equalIn
    simp only [Sem.run_bind, run_underlying ht, Result.andThen_ok]
    rcases h with rfl | rfl
    · cases b <;> simp
    · cases a <;> simp
  simp [binOp, this]
theorem intsOf_spec {k : IntKind} : ∀ {l : List D} {es : List IE}, intsOf k l = some es → l = es.map (.int k)
  | [], es, h => by cases h; rfl
  | d :: r, es, h => by
    unfold intsOf at h
    split at h
    · next k' e =>
      split at h
      · next hk =>
        subst hk
        split at h
        · next l hl =>
          cases h
          rw [intsOf_spec hl]
          rfl
        · cases h
      · cases h
    · cases h
theorem agg_ints {w : World} {E : Env} {k : IntKind} {es : List IE} {v : Value} (h : DRep w E (.agg (es.map (.int k))) v) : v = .agg ((es.map IE.den).map (.int k)).toArray := by
  cases h with
  | agg hs hh =>
    next vs =>
    congr 1
    refine Array.ext (by simpa using hs.symm) fun i h1 h2 => ?_
    have hi : i < es.length := by simpa using h2
    have := hh i (.int k es[i]) vs[i] (by rw [List.getElem?_map, List.getElem?_eq_getElem hi]; rfl) (Array.getElem?_eq_getElem h1)
    generalize vs[i] = u at this
    cases this
    simp
theorem arrK_spec {t n : Nat} {k : IntKind} (hT : T.ok P) (h : arrK T t n = some k) : ∃ e i, P.underlying t = some (.array n e) ∧ P.underlying e = some (.int k) ∧ P.info? e = some i ∧ P.cellsOf e = 1 := by
  unfold arrK at h
  split at h
  · next m e _ _ _ ht =>
    split at h
    · next hm =>
      subst hm
      split at h
      · next k' sz _ _ he =>
        split at h
        · next hsz =>
          cases h
          subst hsz
          obtain ⟨ti, d, h1, h2, _, _, _, h6⟩ := TI.of_spec (Tab.get_ok hT ht)
          obtain ⟨ti', d', g1, g2, _, g4, _, g6⟩ := TI.of_spec (Tab.get_ok hT he)
          refine ⟨e, ti', ?_, ?_, g1, ?_⟩
          · rw [h2]; cases d <;> simp_all [TK.of]
          · rw [g2]; cases d' <;> simp_all [TK.of]
          · unfold Program.cellsOf
            rw [g1]
            simpa using g4
        · cases h
      · cases h
    · cases h
  · cases h
theorem run_items {d : Nat} {e : TypeId} {k : IntKind} (he : P.underlying e = some (.int k)) {xs ys : List Int} {w : World} : ∀ (is : List Nat), (∀ i ∈ is, i < xs.length ∧ i < ys.length) →
    (Op.eqItems (d + 1) e 1 (xs.map (Value.int k)).toArray (ys.map (Value.int k)).toArray is).run P w = .ok (is.all fun i => xs[i]? == ys[i]?) w
  | [], _ => by simp [Op.eqItems]
  | i :: is, h => by
    obtain ⟨hx, hy⟩ := h i (by simp)
    have hp : P.plainKey e = true := by unfold Program.plainKey; rw [he]
    have h1 : (part e (xs.map (Value.int k)).toArray i).run P w = .ok (.int k xs[i]) w := run_part_plain w hp (by simp [hx])
    have h2 : (part e (ys.map (Value.int k)).toArray i).run P w = .ok (.int k ys[i]) w := run_part_plain w hp (by simp [hy])
    have ih := run_items (d := d) he (xs := xs) (ys := ys) (w := w) is fun j hj => h j (by simp [hj])
    simp only [Op.eqItems, Sem.run_bind, Nat.mul_one, h1, h2, run_equalIn_int w d e k k xs[i] ys[i] he, Result.andThen_ok]
    have e1 : (xs[i]? == ys[i]?) = (xs[i] == ys[i]) := by rw [List.getElem?_eq_getElem hx, List.getElem?_eq_getElem hy]; rfl
    rw [List.all_cons, e1]
    cases hc : xs[i] == ys[i]
    · simp [hc]
    · simp [hc, ih]
theorem run_eq_arr {t e n : Nat} {k : IntKind} {i : TypeInfo} (ht : P.underlying t = some (.array n e)) (he : P.underlying e = some (.int k)) (hi : P.info? e = some i) (hc : P.cellsOf e = 1) {xs ys : List Int} (hx : xs.length = n) (hy : ys.length = n) {w : World} :
    (binOp .eql t (.agg (xs.map (Value.int k)).toArray) (.agg (ys.map (Value.int k)).toArray)).run P w = .ok (.bool (decide (xs = ys))) w ∧ (binOp .neq t (.agg (xs.map (Value.int k)).toArray) (.agg (ys.map (Value.int k)).toArray)).run P w = .ok (.bool (!decide (xs = ys))) w := by
  have e1 : ((List.range n).all fun i => xs[i]? == ys[i]?) = decide (xs = ys) := by
    rw [Bool.eq_iff_iff, List.all_eq_true, decide_eq_true_eq]
    constructor
    · intro h
      refine List.ext_getElem? fun j => ?_
      by_cases hj : j < n
      · simpa using h j (List.mem_range.2 hj)
      · rw [List.getElem?_eq_none (by omega), List.getElem?_eq_none (by omega)]
    · intro h j _
      rw [h]; simp
  have : (Op.equal t (.agg (xs.map (Value.int k)).toArray) (.agg (ys.map (Value.int k)).toArray)).run P w = .ok (decide (xs = ys)) w := by
    unfold Op.equal
    rw [show Op.maxDepth = 9998 + 1 + 1 from rfl, run_equalIn_array w (9998 + 1) _ _ ht hi, hc, run_items he _ (fun j hj => by have := List.mem_range.1 hj; omega), e1]
  simp [binOp, this]
theorem guard_arr {op : BinOp} {t e n : Nat} {k : IntKind} {x y : Operand} (ht : P.underlying t = some (.array n e)) (he : P.underlying e = some (.int k)) {xs ys : Array Value} {w : World} : (eqGuard op t x y (.agg xs) (.agg ys)).run P w = .ok () w := by
  have hd : ∃ d, P.depth = d + 1 + 1 := ⟨2 * (P.types.size + Made.depth), rfl⟩
  obtain ⟨d, hd⟩ := hd
  have hg : P.eqGuardType P.depth t = false := by
    rw [hd]
    unfold Program.eqGuardType
    simp only [ht]
    unfold Program.eqGuardType
    simp only [he]
  unfold eqGuard
  cases op <;> simp [hg, Result.andThen]
theorem qBin_good (hT : T.ok P) {op : BinOp} {t ty : Nat} {x y : Operand} (ho : o.op = .binOp op t x y ty) : (qBin T H op t (ρ x) (ρ y)).good P H ρ o := by
  have gs : ∀ {a b : Option Addr} {n m k j : Nat} {w : World} (op : BinOp), (eqGuard op t x y (.slice a n k) (.slice b m j)).run P w = .ok () w := fun op => by cases op <;> rfl
  have gm : ∀ {a b : Option Nat} {w : World} (op : BinOp), (eqGuard op t x y (.map a) (.map b)).run P w = .ok () w := fun op => by cases op <;> rfl
  unfold qBin
  split
  · next la lb hx hy =>
    split
    · next k hk =>
      split
      · next a b ha hb =>
        split
        · next hl =>
          obtain ⟨e, i, h1, h2, h3, h4⟩ := arrK_spec hT hk
          have ea := intsOf_spec ha
          have eb := intsOf_spec hb
          have hn : la.length = a.length := by rw [ea]; simp
          rw [hn] at h1
          rw [ea] at hx
          rw [eb] at hy
          refine eq_good ho hx hy fun w E vx vy g1 g2 _ _ => ?_
          rw [agg_ints g1, agg_ints g2]
          obtain ⟨g3, g4⟩ := run_eq_arr h1 h2 h3 h4 (xs := a.map IE.den) (ys := b.map IE.den) (by simp) (by simp [hl]) (w := w)
          exact ⟨fun op => guard_arr h1 h2, g3, g4⟩
        · trivial
      · trivial
    · trivial
  · next k a k' b hx hy =>
    split
    · exact shBin_good ho hx hy
    · split
      · next e => subst e; exact intBin_good ho hx hy
      · trivial
  · next a b hx hy =>
    split
    · next h =>
      refine eq_good ho hx hy fun w E vx vy h1 h2 _ _ => ?_
      cases h1; cases h2
      obtain ⟨h3, h4⟩ := run_eq_bool (a := a.den) (b := b.den) (w := w) (boolT_spec hT h)
      exact ⟨fun op => by cases op <;> rfl, h3, h4⟩
    · trivial
  · next a b hx hy =>
    refine eq_good ho hx hy fun w E vx vy h1 h2 _ _ => ?_
    cases h1; cases h2
    exact ⟨fun op => by cases op <;> rfl, by simp [binOp, Op.stringOp, BE.den, bytes_beq'], by simp [binOp, Op.stringOp, BE.den, bytes_beq']⟩
  · next hx hy =>
    split
    · next h =>
      obtain ⟨e, he⟩ := sliceT_spec hT h
      refine eq_good ho hx hy fun w E vx vy h1 h2 _ _ => ?_
      cases h2
      cases h1 with | @slm _ _ _ _ _ _ a cap u hnb =>
      have hnb := hnb _ rfl
      exact ⟨gs, (run_eq_slice he (.inr rfl)).1.trans (by simp [hnb]), (run_eq_slice he (.inr rfl)).2.trans (by simp [hnb])⟩
    · trivial
  · next hx hy =>
    split
    · next h =>
      obtain ⟨e, he⟩ := sliceT_spec hT h
      refine eq_good ho hx hy fun w E vx vy h1 h2 _ _ => ?_
      cases h1
      cases h2 with | @slm _ _ _ _ _ _ a cap u hnb =>
      have hnb := hnb _ rfl
      exact ⟨gs, (run_eq_slice he (.inl rfl)).1.trans (by simp [hnb]), (run_eq_slice he (.inl rfl)).2.trans (by simp [hnb])⟩
    · trivial
  · next hx hy =>
    split
    · next h =>
      obtain ⟨e, he⟩ := sliceT_spec hT h
      refine eq_good ho hx hy fun w E vx vy h1 h2 _ _ => ?_
      cases h2
      cases h1 with | @sll _ _ _ a cap u _ _ _ ha =>
      obtain ⟨b, base, rfl, _⟩ := ha
      exact ⟨gs, (run_eq_slice he (.inr rfl)).1.trans (by simp [BE.den]), (run_eq_slice he (.inr rfl)).2.trans (by simp [BE.den])⟩
    · trivial
  · next hx hy =>
    split
    · next h =>
      obtain ⟨e, he⟩ := sliceT_spec hT h
      refine eq_good ho hx hy fun w E vx vy h1 h2 _ _ => ?_
      cases h2
      cases h1
      exact ⟨gs, (run_eq_slice he (.inr rfl)).1.trans (by simp [BE.den]), (run_eq_slice he (.inr rfl)).2.trans (by simp [BE.den])⟩
    · trivial
  · next b ver nb _ _ hx hy =>
    split
    · next h =>
      rw [Bool.and_eq_true] at h
      obtain ⟨e, he⟩ := sliceT_spec hT h.1
      refine eq_good ho hx hy fun w E vx vy h1 h2 _ hH => ?_
      have hat := at_spec h.2 hH
      cases h2
      cases h1 with
      | oslc hk hs hnb => exact ⟨gs, (run_eq_slice he (.inr rfl)).1.trans (by simp [hnb]), (run_eq_slice he (.inr rfl)).2.trans (by simp [hnb])⟩
      | osln hk hs hnb => exact ⟨gs, (run_eq_slice he (.inr rfl)).1.trans (by simp [hnb]), (run_eq_slice he (.inr rfl)).2.trans (by simp [hnb])⟩
      | osls hk => rcases hat with q | q <;> omega
    · trivial
  · next b hx hy =>
    split
    · next h =>
      rw [Bool.and_eq_true] at h
      obtain ⟨k, e, he⟩ := mapT_spec hT h.1
      refine eq_good ho hx hy fun w E vx vy h1 h2 _ hH => ?_
      have hat := at_spec h.2 hH
      cases h2
      cases h1 with
      | mapr hk hs => exact ⟨gm, (run_eq_map he (.inr rfl)).1.trans (by simp [BE.den]), (run_eq_map he (.inr rfl)).2.trans (by simp [BE.den])⟩
      | maps hk => rcases hat with q | q <;> omega
    · trivial
  · next hx hy =>
    split
    · next h =>
      obtain ⟨k, e, he⟩ := mapT_spec hT h
      refine eq_good ho hx hy fun w E vx vy h1 h2 _ hH => ?_
      cases h2
      cases h1
      exact ⟨gm, (run_eq_map he (.inr rfl)).1.trans (by simp [BE.den]), (run_eq_map he (.inr rfl)).2.trans (by simp [BE.den])⟩
    · trivial
  · trivial
end
end Go.Proofs.YtdhfakajlnidiaaGreat
