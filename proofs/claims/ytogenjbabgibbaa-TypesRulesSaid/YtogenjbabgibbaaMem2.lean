import Derived.Test.YtogenjbabgibbaaMem
import Derived.Laws.IdiomCopy
import Derived.BigQuiet
import Derived.Deep.QuietTactic
namespace Go.Proofs.Ytogenjbabgibbaa
open Go.RowKit

/-! A world behind fresh blocks, made opaque. -/
theorem blk1 {w w0 : World} {c0 : Array Value} {t0 : TypeId} (h : w.alloc (.cells c0 t0) = w0) :
    Blk w0 w.heap.size c0 t0 ∧ w0.heap.size = w.heap.size + 1 ∧ Below w.heap.size w w0 := by
  subst h
  exact ⟨Blk.new _ _ _, by simp, (Below.refl _ _).alloc (Nat.le_refl _) _⟩
theorem blk2 {w w0 : World} {c0 c1 : Array Value} {t0 t1 : TypeId} (h : (w.alloc (.cells c0 t0)).alloc (.cells c1 t1) = w0) :
    Blk w0 w.heap.size c0 t0 ∧ Blk w0 (w.heap.size + 1) c1 t1 ∧ w0.heap.size = w.heap.size + 2 ∧ Below w.heap.size w w0 := by
  subst h
  obtain ⟨x0, s0, b0⟩ := blk1 (w := w) (c0 := c0) (t0 := t0) rfl
  have x := Blk.new (w.alloc (.cells c0 t0)) c1 t1
  rw [s0] at x
  exact ⟨x0.alloc _, x, by simp, b0.alloc (by simp; try omega) _⟩
theorem blk3 {w w0 : World} {c0 c1 c2 : Array Value} {t0 t1 t2 : TypeId} (h : ((w.alloc (.cells c0 t0)).alloc (.cells c1 t1)).alloc (.cells c2 t2) = w0) :
    Blk w0 w.heap.size c0 t0 ∧ Blk w0 (w.heap.size + 1) c1 t1 ∧ Blk w0 (w.heap.size + 2) c2 t2 ∧ w0.heap.size = w.heap.size + 3 ∧ Below w.heap.size w w0 := by
  subst h
  obtain ⟨x0, x1, s0, b0⟩ := blk2 (w := w) (c0 := c0) (t0 := t0) (c1 := c1) (t1 := t1) rfl
  have x := Blk.new ((w.alloc (.cells c0 t0)).alloc (.cells c1 t1)) c2 t2
  rw [s0] at x
  exact ⟨x0.alloc _, x1.alloc _, x, by simp, b0.alloc (by simp; try omega) _⟩
theorem blk4 {w w0 : World} {c0 c1 c2 c3 : Array Value} {t0 t1 t2 t3 : TypeId} (h : (((w.alloc (.cells c0 t0)).alloc (.cells c1 t1)).alloc (.cells c2 t2)).alloc (.cells c3 t3) = w0) :
    Blk w0 w.heap.size c0 t0 ∧ Blk w0 (w.heap.size + 1) c1 t1 ∧ Blk w0 (w.heap.size + 2) c2 t2 ∧ Blk w0 (w.heap.size + 3) c3 t3 ∧ w0.heap.size = w.heap.size + 4 ∧ Below w.heap.size w w0 := by
  subst h
  obtain ⟨x0, x1, x2, s0, b0⟩ := blk3 (w := w) (c0 := c0) (t0 := t0) (c1 := c1) (t1 := t1) (c2 := c2) (t2 := t2) rfl
  have x := Blk.new (((w.alloc (.cells c0 t0)).alloc (.cells c1 t1)).alloc (.cells c2 t2)) c3 t3
  rw [s0] at x
  exact ⟨x0.alloc _, x1.alloc _, x2.alloc _, x, by simp, b0.alloc (by simp; try omega) _⟩
/-- an old place's cell in a later world -/
theorem cell_kept {w w' : World} (hb : Below w.heap.size w w') {b o : Nat} {v : Value} (h : w.cell? ⟨b, o, none⟩ = some v) (hlt : b < w.heap.size) : w'.cell? ⟨b, o, none⟩ = some v :=
  (hb.cell (p := ⟨b, o, none⟩) hlt).trans h
theorem blk_setCells {b : Nat} {t : TypeId} : ∀ (vs : List Value) (o : Nat) (w : World) (c : Array Value), Blk w b c t → o + vs.length ≤ c.size →
    ∃ c', Blk (w.setCells b o vs) b c' t ∧ c'.size = c.size ∧ (∀ j, j < o → c'[j]? = c[j]?) ∧ ∀ j, j < vs.length → c'[o + j]? = vs[j]?
  | [], o, w, c, h, _ => ⟨c, h, rfl, fun _ _ => rfl, fun j hj => by simp at hj⟩
  | v :: vs, o, w, c, h, hl => by
    simp only [List.length_cons] at hl
    obtain ⟨c', h1, h2, h3, h4⟩ := blk_setCells vs (o + 1) (w.setCell ⟨b, o, none⟩ v) _ (h.set o v) (by simp; omega)
    refine ⟨c', h1, by simpa using h2, fun j hj => ?_, fun j hj => ?_⟩
    · rw [h3 j (by omega), Array.getElem?_setIfInBounds_ne (by omega)]
    · cases j with
      | zero =>
        have := h3 o (by omega)
        rw [Array.getElem?_setIfInBounds_self_of_lt (by omega)] at this
        simpa using this
      | succ j =>
        have := h4 j (by simpa using hj)
        rw [show o + (j + 1) = o + 1 + j by omega, this]
        simp
theorem below_setCells {b B : Nat} (hB : B ≤ b) : ∀ (vs : List Value) (o : Nat) (w : World), Below B w (w.setCells b o vs)
  | [], _, _ => Below.refl _ _
  | v :: vs, o, w => ((Below.refl B w).setCell hB v).trans (below_setCells hB vs (o + 1) _)
theorem blk_setCells_other {b b' : Nat} (hne : b' ≠ b) {c : Array Value} {t : TypeId} : ∀ (vs : List Value) (o : Nat) (w : World), Blk w b' c t → Blk (w.setCells b o vs) b' c t
  | [], _, _, h => h
  | v :: vs, o, w, h => blk_setCells_other hne vs (o + 1) _ (h.keep (a := ⟨b, o, none⟩) hne v)
/-- a whole block of the call's own is written -/
theorem stored {w w0 : World} {b : Nat} {c : Array Value} {t : TypeId} {vs : List Value} (hb : Blk w b c t) (hc : c.size = vs.length) (h : w.setCells b 0 vs = w0) :
    Blk w0 b vs.toArray t ∧ (∀ {b' o : Nat} {v : Value}, w.cell? ⟨b', o, none⟩ = some v → b' ≠ b → w0.cell? ⟨b', o, none⟩ = some v) ∧ w0.heap.size = w.heap.size ∧ (∀ B, B ≤ b → Below B w w0) ∧
      ∀ {b' : Nat} {c' : Array Value} {t' : TypeId}, Blk w b' c' t' → b' ≠ b → Blk w0 b' c' t' := by
  subst h
  obtain ⟨c', h1, h2, _, h4⟩ := blk_setCells vs 0 w c hb (by omega)
  have e : c' = vs.toArray := by
    apply Array.ext_getElem?
    intro j
    by_cases hj : j < vs.length
    · have := h4 j hj
      simpa using this
    · rw [Array.getElem?_eq_none (by omega), Array.getElem?_eq_none (by simp; omega)]
  subst e
  refine ⟨h1, fun h' hne => (World.cell?_setCells_out b vs 0 w _ (fun e => absurd e hne)).trans h', ?_, fun B hB => below_setCells hB vs 0 w, fun hb' hne => blk_setCells_other hne vs 0 w hb'⟩
  have a1 := (below_setCells (B := 0) (Nat.zero_le b) vs 0 w).size
  have a2 : ∀ (vs : List Value) (o : Nat) (w : World), (w.setCells b o vs).heap.size = w.heap.size := by
    intro vs
    induction vs with
    | nil => intro o w; rfl
    | cons v vs ih => intro o w; show ((w.setCell ⟨b, o, none⟩ v).setCells b (o + 1) vs).heap.size = _; rw [ih]; simp
  exact a2 vs 0 w

/-! A region that draws its order, whose operations read old memory and whose calls make new memory: one walk. -/
/-- the worlds grown out of one -/
def GW (w : World) : Type := {w' : World // Below w.heap.size w w'}
instance instGW (w : World) : Inhabited (GW w) := ⟨⟨w, Below.refl _ _⟩⟩
def grown (w : World) (n : GW w) : World := n.1
theorem grown_below (w : World) (n : GW w) : Below w.heap.size w (grown w n) := n.2
@[simp] theorem cell?_grown (w : World) (n : GW w) (p : Addr) (h : (w.cell? p).isSome = true) : (grown w n).cell? p = w.cell? p := by
  obtain ⟨v, hv⟩ := Option.isSome_iff_exists.1 h
  exact n.2.cell (World.block_lt_of_cell? w p hv)
theorem wp_region_grown {P : Program} {id : Nat} {Q : Exit → Act → World → Prop} {a : Act} {w : World} {l : List Oper} (hm : P.follows .mixedOrders = true) (hB : Region.lexB .any l.toArray = true)
    (h : wpQuiet P l.toArray (fun w' => ∃ n : GW w, w' = grown w n) (fun a' => ∀ w', (∃ n : GW w, w' = grown w n) → Q .normal a' w') l a) : (Code.region id l.toArray true).wp P Q a w :=
  wp_region_quiet (C := fun w' => ∃ n : GW w, w' = grown w n) hm hB ⟨⟨w.drew, (Below.refl _ _).drew⟩, rfl⟩ (by simpa using h)
/-- a callee's contract, met in a grown world -/
theorem calls_grown {P : Program} {f : FuncId} {args : Array Value} {w : World} {n : GW w} {v : Value}
    (h : Calls P f args (grown w n) fun e w' => e = .returned v ∧ Below (Go.Proofs.Ytogenjbabgibbaa.grown w n).heap.size (Go.Proofs.Ytogenjbabgibbaa.grown w n) w') : Calls P f args (Go.Proofs.Ytogenjbabgibbaa.grown w n) fun e w'' => e = .returned v ∧ ∃ m : GW w, w'' = Go.Proofs.Ytogenjbabgibbaa.grown w m :=
  h.mono fun _ w' ⟨he, hb⟩ => ⟨he, ⟨w', n.2.trans (hb.mono n.2.size)⟩, rfl⟩
end Go.Proofs.Ytogenjbabgibbaa
