import Derived.Test.YtogenjbabgibbaaKB
import Derived.Deep.RegionHeld3
namespace Go.Proofs.Ytogenjbabgibbaa
open Go.RowKit

def kind4 (t : TyD) : Bool := decide (t.lo = 0) && decide (t.hi = (t.names.length : Int) - 1) && decide (t.unit = -1) && decide (1 ≤ t.names.length) && decide (t.names.length ≤ 16) && decide t.names.Nodup
def kindB (t : TyD) (n : Int) : Bool := if t.kind = 1 then kind1 t n else if t.kind = 2 then kind2 t else if t.kind = 3 then kind3 t else if t.kind = 4 then kind4 t else false

theorem alloc1 (w : World) (c : Array Value) (t : TypeId) : Below w.heap.size w (w.alloc (.cells c t)) := (Below.refl _ _).alloc (Nat.le_refl _) _
theorem alloc2 (w : World) (c c' : Array Value) (t t' : TypeId) : Below w.heap.size w ((w.alloc (.cells c t)).alloc (.cells c' t')) := (alloc1 w c t).alloc (by simp) _

set_option maxRecDepth 20000 in
set_option maxHeartbeats 1000000 in
theorem kind4_any (t : TyD) (n : Int) (an : Option Addr) (kn : Nat) (w : World) (hn : Sl 1 RStr w an t.names) (hl : t.names.length ≤ 100000) :
    Calls Try.prog 82 #[t.val an kn, .int .i64 n] w fun e w' => e = .returned (.bool (kind4 t)) ∧ Below w.heap.size w w' := by
  have Hn := Lib.hid (hn.below RStr.stab (alloc1 w #[.int .i64 t.kind, .int .i64 t.lo, .int .i64 t.hi, .string t.of_, .int .i64 t.unit, .slice an t.names.length kn] 71))
  clear hn
  by_cases hall : t.lo = 0 ∧ t.hi = (t.names.length : Int) - 1 ∧ t.unit = -1 ∧ 1 ≤ t.names.length ∧ t.names.length ≤ 16
  case pos =>
    obtain ⟨h1, h2, h3, h4, h5⟩ := hall
    obtain ⟨tk, lo, hi, of_, un, names⟩ := t
    simp only at h1 h2 h3 h4 h5 Hn ⊢
    subst h1 h2 h3
    go_enter Try.func82, Try.ntmps82
    go_wp2_with fail
    refine (diffS_any an kn names _ Hn.out (by omega)).mono ?_
    rintro e w1 ⟨rfl, hb1⟩
    go_wp2
    go_ret
    exact ⟨ret_bool (by simp only [kind4]; simp [h4, h5]), (alloc1 w _ _).trans (hb1.mono (by simp))⟩
  case neg =>
    have Hall := Lib.hid hall
    clear hall
    go_enter Try.func82, Try.ntmps82
    go_wp2
    all_goals (try (exfalso; have := Hall.out; omega))
    all_goals go_ret
    all_goals exact ⟨ret_bool (by have := Hall.out; simp only [kind4]; simp; try grind), alloc1 w _ _⟩

abbrev fnK (i : Nat) : Value := .func (.func i) #[] #[]
theorem size116 : (Try.prog.info? 116).map (·.size) = some 5 := by kernel_rfl
theorem kinds_any (w : World) : Calls Try.prog 67 #[] w fun e w' => e = .returned (.agg #[.nilFunc, fnK 79, fnK 80, fnK 81, fnK 82]) ∧ Below w.heap.size w w' := by
  go_enter Try.func67, Try.ntmps67
  go_wp2_with (refine wpList_store_row rfl 116 _ _ rfl w.heap.size #[.nilFunc, fnK 79, fnK 80, fnK 81, fnK 82] rfl rfl 116 _ (heap_alloc_new w _) size116 rfl (by simp [Value.oneCell']) ?_; rw [World.setRow_alloc_new])
  exact bodyPost_ret (results_cell_row rfl _ _ _ 116 #[.nilFunc, fnK 79, fnK 80, fnK 81, fnK 82] (0, 0) _ rfl (heap_alloc_new w _) Try.underlying116 rfl size116) rfl ⟨rfl, alloc1 w _ _⟩

theorem typeOK_out (s : SourceD) (p : SrcAt) (t : TyD) (an : Option Addr) (kn : Nat) (w : World) (h : ¬ (1 ≤ t.kind ∧ t.kind ≤ 4)) :
    Calls Try.prog 41 #[s.val p, t.val an kn] w fun e w' => e = .returned (.bool (kindB t s.units.length)) ∧ Below w.heap.size w w' := by
  have H := Lib.hid h
  clear h
  go_enter Try.func41, Try.ntmps41
  go_wp2_with fail
  all_goals (try (exfalso; have := H.out; omega))
  all_goals go_ret
  all_goals exact ⟨ret_bool (by have := H.out; unfold kindB; rw [if_neg (by omega), if_neg (by omega), if_neg (by omega), if_neg (by omega)]), alloc2 w _ _ _ _⟩

end Go.Proofs.Ytogenjbabgibbaa
