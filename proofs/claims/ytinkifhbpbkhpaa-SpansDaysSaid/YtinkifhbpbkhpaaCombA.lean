import Derived.Test.YtinkifhbpbkhpaaIter
import Derived.Test.YtinkifhbpbkhpaaMark
import Derived.Test.YtinkifhbpbkhpaaRset
import Derived.StillTailTactics
import Derived.Laws.CopyOwn
namespace Go.Proofs.Ytinkifhbpbkhpaa
open Go.RowKit Go.Shelf
attribute [local go_sem] Oper.semAt_some

theorem mixed : Try.prog.follows .mixedOrders = true := by kernel_rfl
theorem cl29 (x y : Bool) (w : World) : Calls Try.prog 29 #[.bool x, .bool y] w fun e w' => e = .returned (.bool x) ∧ w' = w := by
  go_enter Try.func29, Try.ntmps29
  go_wp2
  go_ret
  exact ⟨rfl, rfl⟩
theorem cl32 (x y : Bool) (w : World) : Calls Try.prog 32 #[.bool x, .bool y] w fun e w' => e = .returned (.bool (x || y)) ∧ w' = w := by
  cases x <;> cases y
  all_goals
    go_enter Try.func32, Try.ntmps32
    go_wp2
    go_ret
    exact ⟨rfl, rfl⟩
theorem cl33 (x y : Bool) (w : World) : Calls Try.prog 33 #[.bool x, .bool y] w fun e w' => e = .returned (.bool (x && y)) ∧ w' = w := by
  cases x <;> cases y
  all_goals
    go_enter Try.func33, Try.ntmps33
    go_wp2
    go_ret
    exact ⟨rfl, rfl⟩
theorem cl34 (x y : Bool) (w : World) : Calls Try.prog 34 #[.bool x, .bool y] w fun e w' => e = .returned (.bool (x && !y)) ∧ w' = w := by
  cases x <;> cases y
  all_goals
    go_enter Try.func34, Try.ntmps34
    go_wp2
    go_ret
    exact ⟨rfl, rfl⟩
theorem runs_any (p : Option Addr) (w : World) : Calls Try.prog 36 #[.pointer p] w fun e w' => e = .returned (.func (.func 37) #[] #[.pointer (some ⟨w.heap.size, 0, none⟩)]) ∧ w' = w.alloc (.cells #[.pointer p] 53) := by
  go_enter Try.func36, Try.ntmps36
  go_wp2
  go_ret
  exact ⟨rfl, rfl⟩

theorem two_arrays {w2 W3 : World} {Z A B : Array Value} {T : TypeId} (h : World.setRow (World.setRow ((w2.alloc (.cells Z T)).alloc (.cells Z T)) w2.heap.size A) (w2.heap.size + 1) B = W3) :
    Blk W3 w2.heap.size A T ∧ Blk W3 (w2.heap.size + 1) B T ∧ Below w2.heap.size w2 W3 ∧ W3.heap.size = w2.heap.size + 2 := by
  subst h
  have h1 : ((w2.alloc (.cells Z T)).alloc (.cells Z T)).heap[w2.heap.size]? = some (.cells Z T (0, 0)) := heap_alloc2_old w2 _ _
  have h2 : ((w2.alloc (.cells Z T)).alloc (.cells Z T)).heap[w2.heap.size + 1]? = some (.cells Z T (0, 0)) := heap_alloc2_new w2 _ _
  refine ⟨?_, ?_, ?_, by simp⟩
  · exact (setRow_other _ _ _ _ (by omega)).trans (setRow_heap _ _ _ _ _ _ h1)
  · exact setRow_heap _ _ _ _ _ _ ((setRow_other _ _ _ _ (by omega)).trans h2)
  · exact below_setRow (below_setRow (((Below.refl _ _).alloc (Nat.le_refl _) _).alloc (by simp) _) (Nat.le_refl _) _) (by omega) _
theorem two_store {w2 : World} {Z A : Array Value} {T : TypeId} : ((((w2.alloc (.cells Z T)).alloc (.cells Z T)).setRow w2.heap.size A)).heap[w2.heap.size + 1]? = some (.cells Z T (0, 0)) :=
  (setRow_other _ _ _ _ (by omega)).trans (heap_alloc2_new w2 _ _)

theorem blk_own {β : Type} (b : Nat) (c : Array Value) (t : TypeId) : Own (fun (_ : β) W => Blk W b c t) := fun s X Y row hs hg hrow =>
  (hg.block b hs.lt (fun e' => by obtain ⟨o, ho, hc⟩ := hrow b e'.symm; rw [show X.heap[b]? = _ from hs] at ho; cases ho; cases hc)).trans hs
theorem runs_stops (P Bn : Nat) (f : Nat → Bool) (w : World) (hn : Blk w Bn #[.pointer (some ⟨P, 0, none⟩)] 53) (hp : Blk w P (dz f) 48) :
    SeqStopsK Fence.wide 2 Try.prog 37 #[.pointer (some ⟨Bn, 0, none⟩)] encs2 (KpB P Bn) (fun ys => ys = runsL (cal f)) (fun _ => True) 1024 w := fun l J Jx W hW hJ _ hY h0 =>
  runs1_in Fence.wide 2 trivial rfl (by omega) l Bn P f J Jx W hJ hY (hn.below hW hn.lt) (hp.below hW hp.lt) h0
theorem runsL_cal {f g : Nat → Bool} (h : ∀ i, i < 1024 → f i = g i) : runsL (cal f) = runsL g := runsL_congr fun i hi => by simp [cal, hi, h i hi]
/-- what lies between two rounds -/
def Iv (X P Bn B0 : Nat) (f : Nat → Bool) (w : World) (pre : List (Int × Int)) (W : World) : Prop :=
  (((∃ v, Boxed W X 22 v ∧ W.ownsRow B0 31 2 v pre.length (encS pre) ∧ True) ∧ Blk W P (dz f) 48) ∧ Blk W Bn #[.pointer (some ⟨P, 0, none⟩)] 53) ∧ Below B0 w W
theorem iv_own {X P Bn B0 B : Nat} {f : Nat → Bool} {w : World} (h1 : B0 ≤ w.heap.size) (h2 : B0 ≤ B) : OwnFrom B (Iv X P Bn B0 f w) :=
  OwnFrom.and (OwnFrom.and (OwnFrom.and (Own.from (holdsRow_own B0 X 22 31 2 (fun pre : List (Int × Int) => pre.length) (fun pre => encS pre) (fun _ _ => True)) _) (Own.from (blk_own _ _ _) _)) (Own.from (blk_own _ _ _) _)) (ownFrom_below h1 h2)
/-- a slice's own row of spans is no block of another type -/
theorem Blk.not_row {W : World} {b : Nat} {c : Array Value} {t e : TypeId} (h : Blk W b c t) (hte : t ≠ e) {base size k : Nat} {v : Value} {xs : List Value} (hr : W.ownsRow base e size v k xs) : some b ≠ v.ownBlock := by
  rcases hr.2 with ⟨rfl, _⟩ | ⟨g, cap, cur, rfl, _, hgb, _⟩
  · simp [Value.ownBlock]
  · intro e'
    obtain rfl : b = g := by simpa [Value.ownBlock] using e'
    have := (show W.heap[b]? = _ from h).symm.trans hgb
    simp at this
    exact hte this.2
theorem Blk.grown {W W' : World} {row : Option Nat} {b : Nat} {c : Array Value} {t : TypeId} (h : Blk W b c t) (hg : W.grownBy W' row) (hne : some b ≠ row) : Blk W' b c t := (hg.block b h.lt hne).trans h

end Go.Proofs.Ytinkifhbpbkhpaa
