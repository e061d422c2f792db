import Derived.Test.YtogenjbabgibbaaKF
namespace Go.Proofs.Ytogenjbabgibbaa
open Go.RowKit

/-- can types be compared, by the reference -/
def rcmpB (us : List UnitD) (a b : TyD) : Bool :=
  if a.kind ≠ b.kind then false else if a.kind = 1 then (if a.unit = -1 then decide (b.unit = -1) else (decide (0 ≤ b.unit) && decide (baseOf us a.unit = baseOf us b.unit))) else if a.kind ≠ 4 then true else decide (a.names = b.names)

set_option maxRecDepth 20000 in
set_option maxHeartbeats 2000000 in
theorem rcmp_any (s : SourceD) (p : SrcAt) (a b : TyD) (aa ab : Option Addr) (ka kb : Nat) (w : World) (hs : Src w s p) (ha : Sl 1 RStr w aa a.names) (hb : Sl 1 RStr w ab b.names) (hl : a.names.length ≤ 100000)
    (ua : unitIn s.units a) (ub : unitIn s.units b) :
    Calls Try.prog 44 #[s.val p, a.val aa ka, b.val ab kb] w fun e w' => e = .returned (.bool (rcmpB s.units a b)) ∧ Below w.heap.size w w' := by
  by_cases hk : a.kind = b.kind
  case neg =>
    have Hk := Lib.hid hk
    clear hs ha hb ua ub
    go_enter Try.func44, Try.ntmps44
    go_wp2
    go_ret
    exact ⟨ret_bool (by unfold rcmpB; rw [if_pos Hk.out]), by (repeat (first | exact Below.refl _ _ | refine Below.alloc ?_ (by first | (simp; done) | (simp; omega)) _ | refine Below.setCell ?_ (by first | (simp; done) | (simp; omega)) _ | refine below_drewN ?_ _))⟩
  have Ha := Lib.hid (ha.below RStr.stab (Below.refl w.heap.size w))
  have Hb := Lib.hid (hb.below RStr.stab (Below.refl w.heap.size w))
  by_cases h1 : a.kind = 1
  case neg =>
    by_cases h4 : a.kind = 4
    case pos =>
      have h4b : b.kind = 4 := by omega
      have Hk := Lib.hid (show rcmpB s.units a b = decide (a.names = b.names) by unfold rcmpB; rw [if_neg (by simpa using hk), if_neg h1, if_neg (by simpa using h4)])
      clear hs ha hb ua ub hk h1
      go_enter Try.func44, Try.ntmps44
      go_wp2_with fail
      refine (same_any aa ab ka kb a.names b.names _ (Ha.out.below RStr.stab ?_) (Hb.out.below RStr.stab ?_) hl).mono ?_
      case refine_1 => (repeat (first | exact Below.refl _ _ | refine Below.alloc ?_ (by first | (simp; done) | (simp; omega)) _ | refine Below.setCell ?_ (by first | (simp; done) | (simp; omega)) _ | refine below_drewN ?_ _))
      case refine_2 => (repeat (first | exact Below.refl _ _ | refine Below.alloc ?_ (by first | (simp; done) | (simp; omega)) _ | refine Below.setCell ?_ (by first | (simp; done) | (simp; omega)) _ | refine below_drewN ?_ _))
      rintro e w1 ⟨rfl, hb1⟩
      go_wp2
      go_ret
      refine ⟨ret_bool Hk.out.symm, Below.trans ?_ (hb1.mono (by simp; omega))⟩
      (repeat (first | exact Below.refl _ _ | refine Below.alloc ?_ (by first | (simp; done) | (simp; omega)) _ | refine Below.setCell ?_ (by first | (simp; done) | (simp; omega)) _ | refine below_drewN ?_ _))
    case neg =>
      have Hk := Lib.hid (show rcmpB s.units a b = true by unfold rcmpB; rw [if_neg (by simpa using hk), if_neg h1, if_pos (by simpa using h4)])
      have h4 := Lib.hid h4
      have h1 := Lib.hid h1
      clear hs ha hb ua ub
      go_enter Try.func44, Try.ntmps44
      go_wp2
      all_goals (try (exfalso; have := h1.out; have := h4.out; simp at *; omega))
      all_goals go_ret
      all_goals exact ⟨ret_bool (by rw [Hk.out]), by (repeat (first | exact Below.refl _ _ | refine Below.alloc ?_ (by first | (simp; done) | (simp; omega)) _ | refine Below.setCell ?_ (by first | (simp; done) | (simp; omega)) _ | refine below_drewN ?_ _))⟩
  have u1 := ua h1
  have u2 := ub (by omega)
  by_cases hm : a.unit = -1
  case pos =>
    by_cases hn : b.unit = -1
    case pos =>
      have Hk := Lib.hid (show rcmpB s.units a b = true by unfold rcmpB; rw [if_neg (by simpa using hk), if_pos h1, if_pos hm]; simpa using hn)
      clear hs ha hb ua ub u1 u2 Ha Hb
      go_enter Try.func44, Try.ntmps44
      go_wp2_with fail
      generalize hw0 : World.alloc _ _ = w0
      obtain ⟨X0, X1, X2, hsz, hb0⟩ := blk3 hw0
      have x1 := X0.cell 1
      have y4 := X1.cell 4
      have z4 := X2.cell 4
      simp at x1 y4 z4
      try rw [hm] at y4
      try rw [hn] at z4
      clear hw0 X0 X1 X2
      go_quiet (fail)
      go_wp2
      go_ret
      exact ⟨ret_bool (by rw [Hk.out]; try rfl), below_drewN hb0 _⟩
    case neg =>
      have Hk := Lib.hid (show rcmpB s.units a b = false by unfold rcmpB; rw [if_neg (by simpa using hk), if_pos h1, if_pos hm]; simpa using hn)
      have d1 : (b.unit == -1) = false := by simpa using hn
      clear hs ha hb ua ub u1 u2 Ha Hb
      go_enter Try.func44, Try.ntmps44
      go_wp2_with fail
      generalize hw0 : World.alloc _ _ = w0
      obtain ⟨X0, X1, X2, hsz, hb0⟩ := blk3 hw0
      have x1 := X0.cell 1
      have y4 := X1.cell 4
      have z4 := X2.cell 4
      simp at x1 y4 z4
      try rw [hm] at y4
      clear hw0 X0 X1 X2
      go_quiet (fail)
      go_wp2
      go_ret
      exact ⟨ret_bool (by rw [Hk.out]; try rfl), below_drewN hb0 _⟩
  have d1 : (a.unit == -1) = false := by simpa using hm
  have d2 : (0 : Int) ≤ a.unit := by omega
  have d2' : decide ((0 : Int) ≤ a.unit) = true := decide_eq_true d2
  by_cases hn : b.unit = -1
  case pos =>
    have Hk := Lib.hid (show rcmpB s.units a b = false by unfold rcmpB; rw [if_neg (by simpa using hk), if_pos h1, if_neg hm, hn]; simp)
    clear hs ha hb ua ub u1 u2 Ha Hb
    go_enter Try.func44, Try.ntmps44
    go_wp2_with fail
    generalize hw0 : World.alloc _ _ = w0
    obtain ⟨X0, X1, X2, hsz, hb0⟩ := blk3 hw0
    have x1 := X0.cell 1
    have y4 := X1.cell 4
    have z4 := X2.cell 4
    simp at x1 y4 z4
    try rw [hn] at z4
    clear hw0 X0 X1 X2
    go_quiet (fail)
    go_wp2
    go_ret
    exact ⟨ret_bool (by rw [Hk.out]; try rfl), below_drewN hb0 _⟩
  have d3 : (0 : Int) ≤ b.unit := by omega
  have d3' : decide ((0 : Int) ≤ b.unit) = true := decide_eq_true d3
  obtain ⟨b1, o1, e1, hb1, z1, c0, c1, c2, c3, c4⟩ := UnitD.out hs.h1 a.unit.toNat (by omega)
  obtain ⟨b2, o2, e2, hb2, z2, d0, d1', d2', d3'', d4⟩ := UnitD.out hs.h1 b.unit.toNat (by omega)
  rw [e1] at e2
  simp only [Option.some.injEq, Addr.mk.injEq, and_true] at e2
  obtain ⟨rfl, rfl⟩ := e2
  have Hk := Lib.hid (show rcmpB s.units a b = decide (s.units[a.unit.toNat].base = s.units[b.unit.toNat].base) by
    unfold rcmpB
    rw [if_neg (by simpa using hk), if_pos h1, if_neg hm]
    unfold baseOf
    rw [if_pos (by omega), if_pos (by omega), List.getElem?_eq_getElem (by omega), List.getElem?_eq_getElem (by omega)]
    simp [d3])
  generalize s.units[a.unit.toNat].base = x at *
  generalize s.units[b.unit.toNat].base = y at *
  have v3 := u1.2
  have v4 := u2.2
  clear c0 c1 c2 c4 d0 d1' d2' d4 hs ha hb ua ub z1 z2 u1 u2 Ha Hb hm hn
  go_enter Try.func44, Try.ntmps44
  go_wp2_with fail
  generalize hw0 : World.alloc _ _ = w0
  obtain ⟨X0, X1, X2, hsz, hb0⟩ := blk3 hw0
  have c3 := cell_kept hb0 c3 hb1
  have d3'' := cell_kept hb0 d3'' hb1
  have x1 := X0.cell 1
  have y4 := X1.cell 4
  have z4 := X2.cell 4
  simp at x1 y4 z4
  clear hw0 X0 X1 X2
  go_quiet (fail)
  go_wp2
  go_ret
  exact ⟨ret_bool (by rw [Hk.out]; first | rfl | exact beq_dec .. | (simp [*, beq_dec])), below_drewN hb0 _⟩
end Go.Proofs.Ytogenjbabgibbaa
