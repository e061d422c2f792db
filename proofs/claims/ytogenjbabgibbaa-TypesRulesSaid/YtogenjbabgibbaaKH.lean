import Derived.Test.YtogenjbabgibbaaKF
namespace Go.Proofs.Ytogenjbabgibbaa
open Go.RowKit

set_option maxRecDepth 20000 in
set_option maxHeartbeats 2000000 in
theorem runit_in (s : SourceD) (p : SrcAt) (i : Nat) (w : World) (hs : Src w s p) (hi : i < s.units.length) :
    Calls Try.prog 33 #[s.val p, .int .i64 i] w fun e w' => e = .returned (.bool (unitB s.units s.units[i])) ∧ Below w.heap.size w w' := by
  obtain ⟨b, off, e1, hb, _, c0, c1, c2, c3, c4⟩ := UnitD.out (hs.h1) i hi
  have hu : s.units[i] = s.units[i] := rfl
  generalize hv : s.units[i] = u at c0 c1 c2 c3 c4 ⊢
  have hi' : (i : Int) < s.units.length := by omega
  by_cases hin : 0 ≤ u.base ∧ u.base < s.units.length
  case neg =>
    have hin := Lib.hid hin
    clear hs hv hu
    go_enter Try.func33, Try.ntmps33
    go_wp2
    all_goals (try (exfalso; have := hin.out; omega))
    all_goals go_ret
    all_goals exact ⟨ret_bool (by have := hin.out; simp [unitB]; try grind), by (repeat (first | exact Below.refl _ _ | refine Below.alloc ?_ (by first | (simp; done) | (simp; omega)) _ | refine Below.setCell ?_ (by first | (simp; done) | (simp; omega)) _ | refine below_drewN ?_ _))⟩
  obtain ⟨hi0, hi1⟩ := hin
  obtain ⟨b', off', e1', hb', _, d0, d1, d2, d3, d4⟩ := UnitD.out (hs.h1) u.base.toNat (by omega)
  rw [e1] at e1'
  simp only [Option.some.injEq, Addr.mk.injEq, and_true] at e1'
  obtain ⟨rfl, rfl⟩ := e1'
  have hx := Lib.hid (show (match s.units[u.base.toNat]? with | some v => decide (v.scale = 1) | none => false) = decide (s.units[u.base.toNat].scale = 1) by rw [List.getElem?_eq_getElem (by omega)])
  generalize s.units[u.base.toNat].scale = z at hx d4
  clear hs d0 d1 d2 d3 hv hu
  go_enter Try.func33, Try.ntmps33
  go_wp2
  all_goals go_ret
  all_goals exact ⟨ret_bool (by have h1 := hx.out; simp only [unitB, h1]; simp [*]; try grind), by (repeat (first | exact Below.refl _ _ | refine Below.alloc ?_ (by first | (simp; done) | (simp; omega)) _ | refine Below.setCell ?_ (by first | (simp; done) | (simp; omega)) _ | refine below_drewN ?_ _))⟩
end Go.Proofs.Ytogenjbabgibbaa
