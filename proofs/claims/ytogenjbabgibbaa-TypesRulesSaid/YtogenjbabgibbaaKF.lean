import Derived.Test.YtogenjbabgibbaaKE
import Derived.Test.YtogenjbabgibbaaMem2
namespace Go.Proofs.Ytogenjbabgibbaa
open Go.RowKit

set_option maxRecDepth 20000 in
set_option maxHeartbeats 1000000 in
theorem rtypeOf_in (s : SourceD) (p : SrcAt) (i j : Int) (t : TyD) (ht : typeOf? s i j = some t) (w : World) (hs : Src w s p) :
    Calls Try.prog 39 #[s.val p, .int .i64 i, .int .i64 j] w fun e w' => (∃ v, e = .returned v ∧ RTy w' v t) ∧ Below w.heap.size w w' := by
  obtain ⟨b, off, nf, k0, b2, off2, an, kn, e1, hb, hb2, ⟨hi0, hi1, hj0, hj1⟩, c4, d1, d2, d3, d4, d5, d6, hn⟩ := typeOf_mem ht hs
  have Hn := Lib.hid hn
  clear hn hs ht
  go_enter Try.func39, Try.ntmps39
  go_wp2
  refine bodyPost_ret (v := t.val an kn) (by simp [results, Try.f39, go_sem]) rfl ?_
  refine ⟨⟨_, rfl, an, kn, rfl, Hn.out.below RStr.stab ?_⟩, ?_⟩
  all_goals (repeat (first | exact Below.refl _ _ | refine Below.alloc ?_ (by simp) _ | refine Below.setCell ?_ (by simp) _))

theorem beq_dec (x y : Int) : (x == y) = decide (x = y) := by by_cases h : x = y <;> simp [h]
/-- the base unit of a unit -/
def baseOf (us : List UnitD) (n : Int) : Option Int := if 0 ≤ n then (us[n.toNat]?).map (·.base) else none
def cmpB (us : List UnitD) (a b : TyD) : Bool :=
  if a.kind ≠ b.kind then false else if a.kind = 4 then decide (a.names = b.names) else if a.kind ≠ 1 ∨ a.unit = -1 ∨ b.unit = -1 then decide (a.unit = b.unit) else decide (baseOf us a.unit = baseOf us b.unit)
/-- a number's unit is there -/
def unitIn (us : List UnitD) (t : TyD) : Prop := t.kind = 1 → -1 ≤ t.unit ∧ t.unit < us.length

set_option maxRecDepth 20000 in
set_option maxHeartbeats 2000000 in
theorem cmp_any (s : SourceD) (p : SrcAt) (a b : TyD) (aa ab : Option Addr) (ka kb : Nat) (w : World) (hs : Src w s p) (ha : Sl 1 RStr w aa a.names) (hb : Sl 1 RStr w ab b.names) (hl : a.names.length ≤ 100000)
    (ua : unitIn s.units a) (ub : unitIn s.units b) :
    Calls Try.prog 43 #[s.val p, a.val aa ka, b.val ab kb] w fun e w' => e = .returned (.bool (cmpB s.units a b)) ∧ Below w.heap.size w w' := by
  by_cases hk : a.kind = b.kind
  case neg =>
    have Hk := Lib.hid hk
    clear hs ha hb ua ub
    go_enter Try.func43, Try.ntmps43
    go_wp2
    go_ret
    exact ⟨ret_bool (by unfold cmpB; rw [if_pos Hk.out]), by (repeat (first | exact Below.refl _ _ | refine Below.alloc ?_ (by first | (simp; done) | (simp; omega)) _))⟩
  have Ha := Lib.hid (ha.below RStr.stab (Below.refl w.heap.size w))
  have Hb := Lib.hid (hb.below RStr.stab (Below.refl w.heap.size w))
  by_cases h4 : a.kind = 4
  case pos =>
    have h4b : b.kind = 4 := by omega
    have Hk := Lib.hid (show cmpB s.units a b = decide (a.names = b.names) by unfold cmpB; rw [if_neg (by simpa using hk), if_pos h4])
    clear hs ha hb ua ub hk
    go_enter Try.func43, Try.ntmps43
    go_wp2_with fail
    refine (equal_any aa ab ka kb a.names b.names _ (Ha.out.below RStr.stab ?_) (Hb.out.below RStr.stab ?_) hl).mono ?_
    case refine_1 => (repeat (first | exact Below.refl _ _ | refine Below.alloc ?_ (by first | (simp; done) | (simp; omega)) _))
    case refine_2 => (repeat (first | exact Below.refl _ _ | refine Below.alloc ?_ (by first | (simp; done) | (simp; omega)) _))
    rintro e w1 ⟨rfl, hb1⟩
    go_wp2
    go_ret
    refine ⟨ret_bool Hk.out.symm, Below.trans ?_ (hb1.mono (by simp; omega))⟩
    (repeat (first | exact Below.refl _ _ | refine Below.alloc ?_ (by first | (simp; done) | (simp; omega)) _))
  by_cases h1 : a.kind = 1 ∧ a.unit ≠ -1 ∧ b.unit ≠ -1
  case neg =>
    have Hk := Lib.hid (show cmpB s.units a b = decide (a.unit = b.unit) by unfold cmpB; rw [if_neg (by simpa using hk), if_neg h4, if_pos (by omega)])
    have H1 := Lib.hid h1
    clear hs ha hb ua ub h1
    go_enter Try.func43, Try.ntmps43
    go_wp2
    all_goals (try (exfalso; have := H1.out; simp at *; omega))
    all_goals go_ret
    all_goals exact ⟨ret_bool (by rw [Hk.out]; first | exact beq_dec .. | (simp [*, beq_dec])), by (repeat (first | exact Below.refl _ _ | refine Below.alloc ?_ (by first | (simp; done) | (simp; omega)) _))⟩
  obtain ⟨h1, h2, h3⟩ := h1
  have u1 := ua h1
  have u2 := ub (by omega)
  obtain ⟨b1, o1, e1, hb1, z1, c0, c1, c2, c3, c4⟩ := UnitD.out hs.h1 a.unit.toNat (by omega)
  obtain ⟨b2, o2, e2, hb2, z2, d0, d1, d2, d3, d4⟩ := UnitD.out hs.h1 b.unit.toNat (by omega)
  rw [e1] at e2
  simp only [Option.some.injEq, Addr.mk.injEq, and_true] at e2
  obtain ⟨rfl, rfl⟩ := e2
  have Hk := Lib.hid (show cmpB s.units a b = decide (s.units[a.unit.toNat].base = s.units[b.unit.toNat].base) by
    unfold cmpB
    rw [if_neg (by simpa using hk), if_neg h4, if_neg (by omega)]
    unfold baseOf
    rw [if_pos (by omega), if_pos (by omega), List.getElem?_eq_getElem (by omega), List.getElem?_eq_getElem (by omega)]
    simp)
  generalize s.units[a.unit.toNat].base = x at *
  generalize s.units[b.unit.toNat].base = y at *
  have v1 : 0 ≤ a.unit := by omega
  have v2 : 0 ≤ b.unit := by omega
  have v3 := u1.2
  have v4 := u2.2
  clear c0 c1 c2 c4 d0 d1 d2 d4 hs ha hb ua ub z1 z2 u1 u2
  go_enter Try.func43, Try.ntmps43
  go_wp2_with fail
  all_goals (try (exfalso; rename_i hx; simp at hx; omega))
  generalize hw0 : World.alloc _ _ = w0
  obtain ⟨X0, X1, X2, hsz, hb0⟩ := blk3 hw0
  have c3 := cell_kept hb0 c3 hb1
  have d3 := cell_kept hb0 d3 hb1
  have x1 := X0.cell 1
  have y4 := X1.cell 4
  have z4 := X2.cell 4
  simp at x1 y4 z4
  clear hw0 X0 X1 X2
  go_quiet (fail)
  go_wp2
  go_ret
  exact ⟨ret_bool (by rw [Hk.out]; first | rfl | exact beq_dec .. | (simp [*, beq_dec])), below_drewN hb0 _⟩
end Go.Proofs.Ytogenjbabgibbaa
