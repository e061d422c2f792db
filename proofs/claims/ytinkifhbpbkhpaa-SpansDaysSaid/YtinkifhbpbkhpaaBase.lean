import Derived.Test.YtinkifhbpbkhpaaRows
import Derived.WalkKit
import Derived.WalkSpells
import Derived.WalkLawsBesides
import Derived.Lib.Hide
import Derived.Deep.WholeRow
namespace Go.Proofs.Ytinkifhbpbkhpaa
open Go.RowKit

/-! Blocks known whole. -/
def Blk (w : World) (b : Nat) (c : Array Value) (t : TypeId) : Prop := w.heap[b]? = some (.cells c t (0, 0))
theorem Blk.cell {w : World} {b : Nat} {c : Array Value} {t : TypeId} (h : Blk w b c t) (i : Nat) : w.cell? ⟨b, i, none⟩ = c[i]? := cell_of_row w b i c t (0, 0) h
theorem Blk.frozen {w : World} {b : Nat} {c : Array Value} {t : TypeId} (h : Blk w b c t) (i : Nat) : w.frozen? ⟨b, i, none⟩ = false := frozen_of_row w b i c t h
theorem Blk.lt {w : World} {b : Nat} {c : Array Value} {t : TypeId} (h : Blk w b c t) : b < w.heap.size := (Array.getElem?_eq_some_iff.1 h).1
theorem Blk.new (w : World) (c : Array Value) (t : TypeId) : Blk (w.alloc (.cells c t)) w.heap.size c t := heap_alloc_new w _
theorem Blk.alloc {w : World} {b : Nat} {c : Array Value} {t : TypeId} (h : Blk w b c t) (o : Obj) : Blk (w.alloc o) b c t := (Below.heap_alloc w o b h.lt).trans h
theorem Blk.set {w : World} {b : Nat} {c : Array Value} {t : TypeId} (h : Blk w b c t) (i : Nat) (v : Value) : Blk (w.setCell ⟨b, i, none⟩ v) b (c.setIfInBounds i v) t := heap_setCell_same w b i c t v h
theorem Blk.keep {w : World} {b : Nat} {c : Array Value} {t : TypeId} (h : Blk w b c t) {a : Addr} (hne : b ≠ a.block) (v : Value) : Blk (w.setCell a v) b c t := (heap_setCell_other w a b v hne).trans h
theorem Blk.below {w w' : World} {b : Nat} {c : Array Value} {t : TypeId} (h : Blk w b c t) {B : Nat} (hb : Below B w w') (hlt : b < B) : Blk w' b c t := (hb.block b hlt).trans h
theorem Blk.drew {w : World} {b : Nat} {c : Array Value} {t : TypeId} (h : Blk w b c t) : Blk w.drew b c t := h

/-! Lists of spans. -/
abbrev SL := List (Int × Int)
def Sp (w : World) (a : Option Addr) (L : SL) : Prop :=
  ∀ i (h : i < L.length), ∃ b off, a = some ⟨b, off, none⟩ ∧ b < w.heap.size ∧ w.cell? ⟨b, off + i * 2, none⟩ = some (.int .i64 L[i].1) ∧ w.cell? ⟨b, off + i * 2 + 1, none⟩ = some (.int .i64 L[i].2)
theorem Sp.below {w w' : World} {a : Option Addr} {L : SL} (h : Sp w a L) (hb : Below w.heap.size w w') : Sp w' a L := fun i hi => by
  obtain ⟨b, off, h1, h2, h3, h4⟩ := h i hi
  exact ⟨b, off, h1, Nat.lt_of_lt_of_le h2 hb.size, (hb.cell (p := ⟨b, _, none⟩) h2).trans h3, (hb.cell (p := ⟨b, _, none⟩) h2).trans h4⟩

/-- a row of truth values, 1024 long -/
def dz (f : Nat → Bool) : Array Value := ((List.range 1024).map fun i => Value.bool (f i)).toArray
theorem dz_size (f : Nat → Bool) : (dz f).size = 1024 := by simp [dz]
theorem dz_get (f : Nat → Bool) (i : Nat) (h : i < 1024) : (dz f)[i]? = some (.bool (f i)) := by simp [dz, h]
theorem dz_set (f : Nat → Bool) (i : Nat) (v : Bool) : (dz f).setIfInBounds i (.bool v) = dz (fun j => if j = i then v else f j) := by
  apply Array.ext_getElem?
  intro j
  rw [Array.getElem?_setIfInBounds]
  by_cases hj : j < 1024
  · rw [dz_get _ j hj, dz_get _ j hj]
    by_cases e : i = j
    · subst e; simp [dz_size, hj]
    · have e' : ¬ j = i := fun h => e h.symm
      simp [e, e']
  · have h1 : (dz f)[j]? = none := by simp [dz]; omega
    have h2 : (dz (fun j => if j = i then v else f j))[j]? = none := by simp [dz]; omega
    rw [h1, h2]; split
    · rename_i e; subst e; simp [dz_size]; omega
    · rfl
theorem dz_congr {f g : Nat → Bool} (h : ∀ i, i < 1024 → f i = g i) : dz f = dz g := by
  have : (List.range 1024).map (fun i => Value.bool (f i)) = (List.range 1024).map (fun i => Value.bool (g i)) :=
    List.map_congr_left fun i hi => by rw [h i (List.mem_range.1 hi)]
  unfold dz
  rw [this]
theorem dz_one (f : Nat → Bool) : (dz f).all (·.oneCell') = true := by
  rw [Array.all_eq_true_iff_forall_mem]
  intro v hv
  simp only [dz, List.mem_toArray, List.mem_map] at hv
  obtain ⟨i, _, rfl⟩ := hv
  rfl
def zd : Array Value := dz fun _ => false
theorem zero48 (w : World) : (zeroValue 48).run Try.prog w = .ok (.agg zd) w := by kernel_rfl
theorem size48 (f : Nat → Bool) : (Try.prog.info? 48).map (·.size) = some (dz f).size := by rw [dz_size]; kernel_rfl

/-! Days of a list. -/
def anyB (L : SL) (d : Int) : Bool := L.any fun s => decide (s.1 ≤ d) && decide (d < s.2)
def dayF (L : SL) : Nat → Bool := fun d => anyB L d
theorem anyB_nil (d : Int) : anyB [] d = false := rfl
theorem anyB_take {L : SL} {k : Nat} (h : k < L.length) (d : Int) : anyB (L.take (k + 1)) d = (anyB (L.take k) d || (decide (L[k].1 ≤ d) && decide (d < L[k].2))) := by
  rw [List.take_succ_eq_append_getElem h]
  simp only [anyB, List.any_append, List.any_cons, List.any_nil, Bool.or_false]

#print axioms dz_set
end Go.Proofs.Ytinkifhbpbkhpaa
