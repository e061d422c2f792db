import Derived.Test.YtogenjbabgibbaaKF
namespace Go.Proofs.Ytogenjbabgibbaa
open Go.RowKit

set_option maxRecDepth 20000 in
set_option maxHeartbeats 4000000 in
theorem rtype_any (s : SourceD) (p : SrcAt) (t : TyD) (an : Option Addr) (kn : Nat) (w : World) (hn : Sl 1 RStr w an t.names) (hl : t.names.length ≤ 100000) :
    Calls Try.prog 42 #[s.val p, t.val an kn] w fun e w' => e = .returned (.bool (kindB t s.units.length)) ∧ Below w.heap.size w w' := by
  by_cases hall : t.kind = 4 ∧ t.lo = 0 ∧ t.hi = (t.names.length : Int) - 1 ∧ t.unit = -1 ∧ 1 ≤ t.names.length ∧ t.names.length ≤ 16
  case pos =>
    obtain ⟨h0, h1, h2, h3, h4, h5⟩ := hall
    have Hn := Lib.hid hn
    clear hn
    obtain ⟨tk, lo, hi, of_, un, names⟩ := t
    simp only at h0 h1 h2 h3 h4 h5 Hn ⊢
    have hx : IntKind.i64.wrap ((names.length : Int) - 1) = (names.length : Int) - 1 := IntWalk.i64_in _ (by omega)
    subst h0 h1 h2 h3
    go_enter Try.func42, Try.ntmps42
    go_wp2_with fail
    refine (rdiff_any an kn names _ (Hn.out.below RStr.stab ?_) (by omega)).mono ?_
    case refine_1 => (repeat (first | exact Below.refl _ _ | refine Below.alloc ?_ (by first | (simp; done) | (simp; omega)) _ | refine Below.setCell ?_ (by first | (simp; done) | (simp; omega)) _ | refine below_drewN ?_ _))
    rintro e w1 ⟨rfl, hb1⟩
    go_wp2
    go_ret
    refine ⟨ret_bool (by simp only [kindB, kind4]; simp [h4, h5]), Below.trans ?_ (hb1.mono (by simp; omega))⟩
    (repeat (first | exact Below.refl _ _ | refine Below.alloc ?_ (by first | (simp; done) | (simp; omega)) _ | refine Below.setCell ?_ (by first | (simp; done) | (simp; omega)) _ | refine below_drewN ?_ _))
  case neg =>
    have Hall := Lib.hid hall
    clear hall hn
    have hx : IntKind.i64.wrap ((t.names.length : Int) - 1) = (t.names.length : Int) - 1 := IntWalk.i64_in _ (by omega)
    go_enter Try.func42, Try.ntmps42
    go_wp2_with fail
    all_goals (try (exfalso; have := Hall.out; simp at *; omega))
    all_goals go_ret
    all_goals exact ⟨ret_bool (by have := Hall.out; simp only [kindB, kind1, kind2, kind3, kind4]; simp [len_beq, *]; try grind), by (repeat (first | exact Below.refl _ _ | refine Below.alloc ?_ (by first | (simp; done) | (simp; omega)) _ | refine Below.setCell ?_ (by first | (simp; done) | (simp; omega)) _ | refine below_drewN ?_ _))⟩
end Go.Proofs.Ytogenjbabgibbaa
