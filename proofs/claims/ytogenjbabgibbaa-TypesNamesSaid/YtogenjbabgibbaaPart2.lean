/- Part 2 of the walks and laws that these claims rest on. No condition. -/
import Derived.Test.YtogenjbabgibbaaPart1
set_option linter.all false
set_option linter.unusedSimpArgs false
set_option linter.unusedVariables false
set_option linter.unnecessarySimpa false
namespace Go.Proofs.Ytogenjbabgibbaa
open Go.RowKit

/-- can types be compared, by the reference -/
def rcmpB (us : List UnitD) (a b : TyD) : Bool :=
  if a.kind ≠ b.kind then false else if a.kind = 1 then (if a.unit = -1 then decide (b.unit = -1) else (decide (0 ≤ b.unit) && decide (baseOf us a.unit = baseOf us b.unit))) else if a.kind ≠ 4 then true else decide (a.names = b.names)

set_option maxRecDepth 20000 in
set_option maxHeartbeats 2000000 in
theorem rcmp_any (s : SourceD) (p : SrcAt) (a b : TyD) (aa ab : Option Addr) (ka kb : Nat) (w : World) (hs : Src w s p) (ha : Sl 1 RStr w aa a.names) (hb : Sl 1 RStr w ab b.names) (hl : a.names.length ≤ 100000)
    (ua : unitIn s.units a) (ub : unitIn s.units b) :
    Calls Try.prog 44 #[s.val p, a.val aa ka, b.val ab kb] w fun e w' => e = .returned (.bool (rcmpB s.units a b)) ∧ Below w.heap.size w w' := by
  by_cases hk : a.kind = b.kind
  case neg =>
    have Hk := Lib.hid hk
    clear hs ha hb ua ub
    go_enter Try.func44, Try.ntmps44
    go_wp2
    go_ret
    exact ⟨ret_bool (by unfold rcmpB; rw [if_pos Hk.out]), by (repeat (first | exact Below.refl _ _ | refine Below.alloc ?_ (by first | (simp; done) | (simp; omega)) _ | refine Below.setCell ?_ (by first | (simp; done) | (simp; omega)) _ | refine below_drewN ?_ _))⟩
  have Ha := Lib.hid (ha.below RStr.stab (Below.refl w.heap.size w))
  have Hb := Lib.hid (hb.below RStr.stab (Below.refl w.heap.size w))
  by_cases h1 : a.kind = 1
  case neg =>
    by_cases h4 : a.kind = 4
    case pos =>
      have h4b : b.kind = 4 := by omega
      have Hk := Lib.hid (show rcmpB s.units a b = decide (a.names = b.names) by unfold rcmpB; rw [if_neg (by simpa using hk), if_neg h1, if_neg (by simpa using h4)])
      clear hs ha hb ua ub hk h1
      go_enter Try.func44, Try.ntmps44
      go_wp2_with fail
      refine (same_any aa ab ka kb a.names b.names _ (Ha.out.below RStr.stab ?_) (Hb.out.below RStr.stab ?_) hl).mono ?_
      case refine_1 => (repeat (first | exact Below.refl _ _ | refine Below.alloc ?_ (by first | (simp; done) | (simp; omega)) _ | refine Below.setCell ?_ (by first | (simp; done) | (simp; omega)) _ | refine below_drewN ?_ _))
      case refine_2 => (repeat (first | exact Below.refl _ _ | refine Below.alloc ?_ (by first | (simp; done) | (simp; omega)) _ | refine Below.setCell ?_ (by first | (simp; done) | (simp; omega)) _ | refine below_drewN ?_ _))
      rintro e w1 ⟨rfl, hb1⟩
      go_wp2
      go_ret
      refine ⟨ret_bool Hk.out.symm, Below.trans ?_ (hb1.mono (by simp; omega))⟩
      (repeat (first | exact Below.refl _ _ | refine Below.alloc ?_ (by first | (simp; done) | (simp; omega)) _ | refine Below.setCell ?_ (by first | (simp; done) | (simp; omega)) _ | refine below_drewN ?_ _))
    case neg =>
      have Hk := Lib.hid (show rcmpB s.units a b = true by unfold rcmpB; rw [if_neg (by simpa using hk), if_neg h1, if_pos (by simpa using h4)])
      have h4 := Lib.hid h4
      have h1 := Lib.hid h1
      clear hs ha hb ua ub
      go_enter Try.func44, Try.ntmps44
      go_wp2
      all_goals (try (exfalso; have := h1.out; have := h4.out; simp at *; omega))
      all_goals go_ret
      all_goals exact ⟨ret_bool (by rw [Hk.out]), by (repeat (first | exact Below.refl _ _ | refine Below.alloc ?_ (by first | (simp; done) | (simp; omega)) _ | refine Below.setCell ?_ (by first | (simp; done) | (simp; omega)) _ | refine below_drewN ?_ _))⟩
  have u1 := ua h1
  have u2 := ub (by omega)
  by_cases hm : a.unit = -1
  case pos =>
    by_cases hn : b.unit = -1
    case pos =>
      have Hk := Lib.hid (show rcmpB s.units a b = true by unfold rcmpB; rw [if_neg (by simpa using hk), if_pos h1, if_pos hm]; simpa using hn)
      clear hs ha hb ua ub u1 u2 Ha Hb
      go_enter Try.func44, Try.ntmps44
      go_wp2_with fail
      generalize hw0 : World.alloc _ _ = w0
      obtain ⟨X0, X1, X2, hsz, hb0⟩ := blk3 hw0
      have x1 := X0.cell 1
      have y4 := X1.cell 4
      have z4 := X2.cell 4
      simp at x1 y4 z4
      try rw [hm] at y4
      try rw [hn] at z4
      clear hw0 X0 X1 X2
      go_quiet (fail)
      go_wp2
      go_ret
      exact ⟨ret_bool (by rw [Hk.out]; try rfl), below_drewN hb0 _⟩
    case neg =>
      have Hk := Lib.hid (show rcmpB s.units a b = false by unfold rcmpB; rw [if_neg (by simpa using hk), if_pos h1, if_pos hm]; simpa using hn)
      have d1 : (b.unit == -1) = false := by simpa using hn
      clear hs ha hb ua ub u1 u2 Ha Hb
      go_enter Try.func44, Try.ntmps44
      go_wp2_with fail
      generalize hw0 : World.alloc _ _ = w0
      obtain ⟨X0, X1, X2, hsz, hb0⟩ := blk3 hw0
      have x1 := X0.cell 1
      have y4 := X1.cell 4
      have z4 := X2.cell 4
      simp at x1 y4 z4
      try rw [hm] at y4
      clear hw0 X0 X1 X2
      go_quiet (fail)
      go_wp2
      go_ret
      exact ⟨ret_bool (by rw [Hk.out]; try rfl), below_drewN hb0 _⟩
  have d1 : (a.unit == -1) = false := by simpa using hm
  have d2 : (0 : Int) ≤ a.unit := by omega
  have d2' : decide ((0 : Int) ≤ a.unit) = true := decide_eq_true d2
  by_cases hn : b.unit = -1
  case pos =>
    have Hk := Lib.hid (show rcmpB s.units a b = false by unfold rcmpB; rw [if_neg (by simpa using hk), if_pos h1, if_neg hm, hn]; simp)
    clear hs ha hb ua ub u1 u2 Ha Hb
    go_enter Try.func44, Try.ntmps44
    go_wp2_with fail
    generalize hw0 : World.alloc _ _ = w0
    obtain ⟨X0, X1, X2, hsz, hb0⟩ := blk3 hw0
    have x1 := X0.cell 1
    have y4 := X1.cell 4
    have z4 := X2.cell 4
    simp at x1 y4 z4
    try rw [hn] at z4
    clear hw0 X0 X1 X2
    go_quiet (fail)
    go_wp2
    go_ret
    exact ⟨ret_bool (by rw [Hk.out]; try rfl), below_drewN hb0 _⟩
  have d3 : (0 : Int) ≤ b.unit := by omega
  have d3' : decide ((0 : Int) ≤ b.unit) = true := decide_eq_true d3
  obtain ⟨b1, o1, e1, hb1, z1, c0, c1, c2, c3, c4⟩ := UnitD.out hs.h1 a.unit.toNat (by omega)
  obtain ⟨b2, o2, e2, hb2, z2, d0, d1', d2', d3'', d4⟩ := UnitD.out hs.h1 b.unit.toNat (by omega)
  rw [e1] at e2
  simp only [Option.some.injEq, Addr.mk.injEq, and_true] at e2
  obtain ⟨rfl, rfl⟩ := e2
  have Hk := Lib.hid (show rcmpB s.units a b = decide (s.units[a.unit.toNat].base = s.units[b.unit.toNat].base) by
    unfold rcmpB
    rw [if_neg (by simpa using hk), if_pos h1, if_neg hm]
    unfold baseOf
    rw [if_pos (by omega), if_pos (by omega), List.getElem?_eq_getElem (by omega), List.getElem?_eq_getElem (by omega)]
    simp [d3])
  generalize s.units[a.unit.toNat].base = x at *
  generalize s.units[b.unit.toNat].base = y at *
  have v3 := u1.2
  have v4 := u2.2
  clear c0 c1 c2 c4 d0 d1' d2' d4 hs ha hb ua ub z1 z2 u1 u2 Ha Hb hm hn
  go_enter Try.func44, Try.ntmps44
  go_wp2_with fail
  generalize hw0 : World.alloc _ _ = w0
  obtain ⟨X0, X1, X2, hsz, hb0⟩ := blk3 hw0
  have c3 := cell_kept hb0 c3 hb1
  have d3'' := cell_kept hb0 d3'' hb1
  have x1 := X0.cell 1
  have y4 := X1.cell 4
  have z4 := X2.cell 4
  simp at x1 y4 z4
  clear hw0 X0 X1 X2
  go_quiet (fail)
  go_wp2
  go_ret
  exact ⟨ret_bool (by rw [Hk.out]; first | rfl | exact beq_dec .. | (simp [*, beq_dec])), below_drewN hb0 _⟩
end Go.Proofs.Ytogenjbabgibbaa
namespace Go.Proofs.Ytogenjbabgibbaa
open Go.RowKit

set_option maxRecDepth 20000 in
set_option maxHeartbeats 2000000 in
theorem runit_in (s : SourceD) (p : SrcAt) (i : Nat) (w : World) (hs : Src w s p) (hi : i < s.units.length) :
    Calls Try.prog 33 #[s.val p, .int .i64 i] w fun e w' => e = .returned (.bool (unitB s.units s.units[i])) ∧ Below w.heap.size w w' := by
  obtain ⟨b, off, e1, hb, _, c0, c1, c2, c3, c4⟩ := UnitD.out (hs.h1) i hi
  have hu : s.units[i] = s.units[i] := rfl
  generalize hv : s.units[i] = u at c0 c1 c2 c3 c4 ⊢
  have hi' : (i : Int) < s.units.length := by omega
  by_cases hin : 0 ≤ u.base ∧ u.base < s.units.length
  case neg =>
    have hin := Lib.hid hin
    clear hs hv hu
    go_enter Try.func33, Try.ntmps33
    go_wp2
    all_goals (try (exfalso; have := hin.out; omega))
    all_goals go_ret
    all_goals exact ⟨ret_bool (by have := hin.out; simp [unitB]; try grind), by (repeat (first | exact Below.refl _ _ | refine Below.alloc ?_ (by first | (simp; done) | (simp; omega)) _ | refine Below.setCell ?_ (by first | (simp; done) | (simp; omega)) _ | refine below_drewN ?_ _))⟩
  obtain ⟨hi0, hi1⟩ := hin
  obtain ⟨b', off', e1', hb', _, d0, d1, d2, d3, d4⟩ := UnitD.out (hs.h1) u.base.toNat (by omega)
  rw [e1] at e1'
  simp only [Option.some.injEq, Addr.mk.injEq, and_true] at e1'
  obtain ⟨rfl, rfl⟩ := e1'
  have hx := Lib.hid (show (match s.units[u.base.toNat]? with | some v => decide (v.scale = 1) | none => false) = decide (s.units[u.base.toNat].scale = 1) by rw [List.getElem?_eq_getElem (by omega)])
  generalize s.units[u.base.toNat].scale = z at hx d4
  clear hs d0 d1 d2 d3 hv hu
  go_enter Try.func33, Try.ntmps33
  go_wp2
  all_goals go_ret
  all_goals exact ⟨ret_bool (by have h1 := hx.out; simp only [unitB, h1]; simp [*]; try grind), by (repeat (first | exact Below.refl _ _ | refine Below.alloc ?_ (by first | (simp; done) | (simp; omega)) _ | refine Below.setCell ?_ (by first | (simp; done) | (simp; omega)) _ | refine below_drewN ?_ _))⟩
end Go.Proofs.Ytogenjbabgibbaa
namespace Go.Proofs.Ytogenjbabgibbaa
open Go.RowKit

set_option maxRecDepth 20000 in
set_option maxHeartbeats 4000000 in
theorem rtype_any (s : SourceD) (p : SrcAt) (t : TyD) (an : Option Addr) (kn : Nat) (w : World) (hn : Sl 1 RStr w an t.names) (hl : t.names.length ≤ 100000) :
    Calls Try.prog 42 #[s.val p, t.val an kn] w fun e w' => e = .returned (.bool (kindB t s.units.length)) ∧ Below w.heap.size w w' := by
  by_cases hall : t.kind = 4 ∧ t.lo = 0 ∧ t.hi = (t.names.length : Int) - 1 ∧ t.unit = -1 ∧ 1 ≤ t.names.length ∧ t.names.length ≤ 16
  case pos =>
    obtain ⟨h0, h1, h2, h3, h4, h5⟩ := hall
    have Hn := Lib.hid hn
    clear hn
    obtain ⟨tk, lo, hi, of_, un, names⟩ := t
    simp only at h0 h1 h2 h3 h4 h5 Hn ⊢
    have hx : IntKind.i64.wrap ((names.length : Int) - 1) = (names.length : Int) - 1 := IntWalk.i64_in _ (by omega)
    subst h0 h1 h2 h3
    go_enter Try.func42, Try.ntmps42
    go_wp2_with fail
    refine (rdiff_any an kn names _ (Hn.out.below RStr.stab ?_) (by omega)).mono ?_
    case refine_1 => (repeat (first | exact Below.refl _ _ | refine Below.alloc ?_ (by first | (simp; done) | (simp; omega)) _ | refine Below.setCell ?_ (by first | (simp; done) | (simp; omega)) _ | refine below_drewN ?_ _))
    rintro e w1 ⟨rfl, hb1⟩
    go_wp2
    go_ret
    refine ⟨ret_bool (by simp only [kindB, kind4]; simp [h4, h5]), Below.trans ?_ (hb1.mono (by simp; omega))⟩
    (repeat (first | exact Below.refl _ _ | refine Below.alloc ?_ (by first | (simp; done) | (simp; omega)) _ | refine Below.setCell ?_ (by first | (simp; done) | (simp; omega)) _ | refine below_drewN ?_ _))
  case neg =>
    have Hall := Lib.hid hall
    clear hall hn
    have hx : IntKind.i64.wrap ((t.names.length : Int) - 1) = (t.names.length : Int) - 1 := IntWalk.i64_in _ (by omega)
    go_enter Try.func42, Try.ntmps42
    go_wp2_with fail
    all_goals (try (exfalso; have := Hall.out; simp at *; omega))
    all_goals go_ret
    all_goals exact ⟨ret_bool (by have := Hall.out; simp only [kindB, kind1, kind2, kind3, kind4]; simp [len_beq, *]; try grind), by (repeat (first | exact Below.refl _ _ | refine Below.alloc ?_ (by first | (simp; done) | (simp; omega)) _ | refine Below.setCell ?_ (by first | (simp; done) | (simp; omega)) _ | refine below_drewN ?_ _))⟩
end Go.Proofs.Ytogenjbabgibbaa
namespace Go.Proofs.Ytogenjbabgibbaa
open Go.RowKit

abbrev RefD.val (r : RefD) : Value := .agg #[.string r.name, .string r.path, .int .i64 r.schema, .int .i64 r.field]
/-- names of types are few -/
def Short (s : SourceD) : Prop := ∀ i j t, typeOf? s i j = some t → t.names.length ≤ 100000
def unitAt (us : List UnitD) (n : Int) : Bool := match us[n.toNat]? with | some u => unitB us u | none => false
/-- a type is valid, and its unit -/
def goodT (s : SourceD) (t : TyD) : Bool := kindB t s.units.length && (decide (t.unit = -1) || unitAt s.units t.unit)
def soundB (s : SourceD) (r : RefD) : Bool := match typeOf? s r.schema r.field with | some t => goodT s t | none => false
theorem kindB_unit {t : TyD} {n : Nat} (h : kindB t n = true) : -1 ≤ t.unit ∧ t.unit < n := by
  unfold kindB at h
  split at h
  · simp [kind1] at h; omega
  split at h
  · simp [kind2] at h; omega
  split at h
  · simp [kind3] at h; omega
  split at h
  · simp [kind4] at h; omega
  · cases h
theorem unitAt_in {us : List UnitD} {n : Int} (h : n.toNat < us.length) : unitAt us n = unitB us us[n.toNat] := by
  unfold unitAt; rw [List.getElem?_eq_getElem h]

theorem runit_at (s : SourceD) (p : SrcAt) (n : Int) (w : World) (hs : Src w s p) (h0 : 0 ≤ n) (h1 : n < s.units.length) :
    Calls Try.prog 33 #[s.val p, .int .i64 n] w fun e w' => e = .returned (.bool (unitAt s.units n)) ∧ Below w.heap.size w w' := by
  obtain ⟨k, rfl⟩ := Int.eq_ofNat_of_zero_le h0
  have hk : k < s.units.length := by omega
  have := runit_in s p k w hs hk
  rw [unitAt_in (by simpa using hk)]
  simpa using this
set_option maxRecDepth 20000 in
set_option maxHeartbeats 2000000 in
theorem rsound_any (s : SourceD) (p : SrcAt) (r : RefD) (w : World) (hs : Src w s p) (hsh : Short s) :
    Calls Try.prog 38 #[s.val p, r.val] w fun e w' => e = .returned (.bool (soundB s r)) ∧ Below w.heap.size w w' := by
  have Hs := Lib.hid hs
  clear hs
  cases ht : typeOf? s r.schema r.field with
  | none =>
    have hth : thereB s r.schema r.field = false := by simp [thereB, ht]
    have Ht := Lib.hid ht
    clear ht
    go_enter Try.func38, Try.ntmps38
    go_wp2_with fail
    generalize hw0 : World.alloc _ _ = w0
    obtain ⟨X0, X1, hsz, hb0⟩ := blk2 hw0
    have x0 : w0.cell? ⟨w.heap.size, 0, none⟩ = some (.slice p.a0 s.issuers.length p.k0) := X0.cell 0
    have x1 : w0.cell? ⟨w.heap.size, 1, none⟩ = some (.slice p.a1 s.units.length p.k1) := X0.cell 1
    have x2 : w0.cell? ⟨w.heap.size, 2, none⟩ = some (.slice p.a2 s.schemas.length p.k2) := X0.cell 2
    have x3 : w0.cell? ⟨w.heap.size, 3, none⟩ = some (.slice p.a3 s.rules.length p.k3) := X0.cell 3
    have x4 : w0.cell? ⟨w.heap.size, 4, none⟩ = some (.slice p.a4 s.converts p.k4) := X0.cell 4
    have x5 : w0.cell? ⟨w.heap.size, 5, none⟩ = some (.slice p.a5 s.purposes.length p.k5) := X0.cell 5
    have hl_x : w.heap.size < w0.heap.size := by omega
    have y0 : w0.cell? ⟨w.heap.size + 1, 0, none⟩ = some (.string r.name) := X1.cell 0
    have y1 : w0.cell? ⟨w.heap.size + 1, 1, none⟩ = some (.string r.path) := X1.cell 1
    have y2 : w0.cell? ⟨w.heap.size + 1, 2, none⟩ = some (.int .i64 r.schema) := X1.cell 2
    have y3 : w0.cell? ⟨w.heap.size + 1, 3, none⟩ = some (.int .i64 r.field) := X1.cell 3
    have hl_y : w.heap.size + 1 < w0.heap.size := by omega
    have hwl : w.heap.size ≤ w0.heap.size := hb0.size
    have Hb := Lib.hid hb0
    clear hw0 hb0 hsz X0 X1
    refine (there_any s p r.schema r.field _ (Hs.out.below Hb.out)).mono ?_
    rintro e w1 ⟨rfl, hb1⟩
    rw [hth]
    replace x0 := cell_kept hb1 x0 hl_x
    replace x1 := cell_kept hb1 x1 hl_x
    replace x2 := cell_kept hb1 x2 hl_x
    replace x3 := cell_kept hb1 x3 hl_x
    replace x4 := cell_kept hb1 x4 hl_x
    replace x5 := cell_kept hb1 x5 hl_x
    replace y0 := cell_kept hb1 y0 hl_y
    replace y1 := cell_kept hb1 y1 hl_y
    replace y2 := cell_kept hb1 y2 hl_y
    replace y3 := cell_kept hb1 y3 hl_y
    replace Hb := Lib.hid (Hb.out.trans (hb1.mono hwl))
    replace hl_x := Nat.lt_of_lt_of_le hl_x hb1.size
    replace hl_y := Nat.lt_of_lt_of_le hl_y hb1.size
    replace hwl := Nat.le_trans hwl hb1.size
    clear hb1
    go_wp2
    go_ret
    exact ⟨ret_bool (by simp [soundB, Ht.out]), Hb.out⟩
  | some t =>
    have hth : thereB s r.schema r.field = true := by simp [thereB, ht]
    have Ht := Lib.hid ht
    have hl := hsh _ _ _ ht
    clear ht hsh
    go_enter Try.func38, Try.ntmps38
    go_wp2_with fail
    generalize hw0 : World.alloc _ _ = w0
    obtain ⟨X0, X1, hsz, hb0⟩ := blk2 hw0
    have x0 : w0.cell? ⟨w.heap.size, 0, none⟩ = some (.slice p.a0 s.issuers.length p.k0) := X0.cell 0
    have x1 : w0.cell? ⟨w.heap.size, 1, none⟩ = some (.slice p.a1 s.units.length p.k1) := X0.cell 1
    have x2 : w0.cell? ⟨w.heap.size, 2, none⟩ = some (.slice p.a2 s.schemas.length p.k2) := X0.cell 2
    have x3 : w0.cell? ⟨w.heap.size, 3, none⟩ = some (.slice p.a3 s.rules.length p.k3) := X0.cell 3
    have x4 : w0.cell? ⟨w.heap.size, 4, none⟩ = some (.slice p.a4 s.converts p.k4) := X0.cell 4
    have x5 : w0.cell? ⟨w.heap.size, 5, none⟩ = some (.slice p.a5 s.purposes.length p.k5) := X0.cell 5
    have hl_x : w.heap.size < w0.heap.size := by omega
    have y0 : w0.cell? ⟨w.heap.size + 1, 0, none⟩ = some (.string r.name) := X1.cell 0
    have y1 : w0.cell? ⟨w.heap.size + 1, 1, none⟩ = some (.string r.path) := X1.cell 1
    have y2 : w0.cell? ⟨w.heap.size + 1, 2, none⟩ = some (.int .i64 r.schema) := X1.cell 2
    have y3 : w0.cell? ⟨w.heap.size + 1, 3, none⟩ = some (.int .i64 r.field) := X1.cell 3
    have hl_y : w.heap.size + 1 < w0.heap.size := by omega
    have hwl : w.heap.size ≤ w0.heap.size := hb0.size
    have Hb := Lib.hid hb0
    clear hw0 hb0 hsz X0 X1
    refine (there_any s p r.schema r.field _ (Hs.out.below Hb.out)).mono ?_
    rintro e w1 ⟨rfl, hb1⟩
    rw [hth]
    replace x0 := cell_kept hb1 x0 hl_x
    replace x1 := cell_kept hb1 x1 hl_x
    replace x2 := cell_kept hb1 x2 hl_x
    replace x3 := cell_kept hb1 x3 hl_x
    replace x4 := cell_kept hb1 x4 hl_x
    replace x5 := cell_kept hb1 x5 hl_x
    replace y0 := cell_kept hb1 y0 hl_y
    replace y1 := cell_kept hb1 y1 hl_y
    replace y2 := cell_kept hb1 y2 hl_y
    replace y3 := cell_kept hb1 y3 hl_y
    replace Hb := Lib.hid (Hb.out.trans (hb1.mono hwl))
    replace hl_x := Nat.lt_of_lt_of_le hl_x hb1.size
    replace hl_y := Nat.lt_of_lt_of_le hl_y hb1.size
    replace hwl := Nat.le_trans hwl hb1.size
    clear hb1
    go_wp2_with fail
    refine (rtypeOf_in s p r.schema r.field t Ht.out _ (Hs.out.below Hb.out)).mono ?_
    rintro e w1 ⟨⟨_, rfl, an, kn, rfl, hn⟩, hb1⟩
    replace x0 := cell_kept hb1 x0 hl_x
    replace x1 := cell_kept hb1 x1 hl_x
    replace x2 := cell_kept hb1 x2 hl_x
    replace x3 := cell_kept hb1 x3 hl_x
    replace x4 := cell_kept hb1 x4 hl_x
    replace x5 := cell_kept hb1 x5 hl_x
    replace y0 := cell_kept hb1 y0 hl_y
    replace y1 := cell_kept hb1 y1 hl_y
    replace y2 := cell_kept hb1 y2 hl_y
    replace y3 := cell_kept hb1 y3 hl_y
    replace Hb := Lib.hid (Hb.out.trans (hb1.mono hwl))
    replace hl_x := Nat.lt_of_lt_of_le hl_x hb1.size
    replace hl_y := Nat.lt_of_lt_of_le hl_y hb1.size
    replace hwl := Nat.le_trans hwl hb1.size
    clear hb1
    have Hn := Lib.hid hn
    clear hn
    go_wp2_with fail
    generalize hw0 : World.alloc _ _ = w2
    obtain ⟨X0, hsz, hb1⟩ := blk1 hw0
    have z0 : w2.cell? ⟨w1.heap.size, 0, none⟩ = some (.int .i64 t.kind) := X0.cell 0
    have z1 : w2.cell? ⟨w1.heap.size, 1, none⟩ = some (.int .i64 t.lo) := X0.cell 1
    have z2 : w2.cell? ⟨w1.heap.size, 2, none⟩ = some (.int .i64 t.hi) := X0.cell 2
    have z3 : w2.cell? ⟨w1.heap.size, 3, none⟩ = some (.string t.of_) := X0.cell 3
    have z4 : w2.cell? ⟨w1.heap.size, 4, none⟩ = some (.int .i64 t.unit) := X0.cell 4
    have z5 : w2.cell? ⟨w1.heap.size, 5, none⟩ = some (.slice an t.names.length kn) := X0.cell 5
    have hl_z : w1.heap.size < w2.heap.size := by omega
    replace x0 := cell_kept hb1 x0 hl_x
    replace x1 := cell_kept hb1 x1 hl_x
    replace x2 := cell_kept hb1 x2 hl_x
    replace x3 := cell_kept hb1 x3 hl_x
    replace x4 := cell_kept hb1 x4 hl_x
    replace x5 := cell_kept hb1 x5 hl_x
    replace y0 := cell_kept hb1 y0 hl_y
    replace y1 := cell_kept hb1 y1 hl_y
    replace y2 := cell_kept hb1 y2 hl_y
    replace y3 := cell_kept hb1 y3 hl_y
    replace Hb := Lib.hid (Hb.out.trans (hb1.mono hwl))
    replace hl_x := Nat.lt_of_lt_of_le hl_x hb1.size
    replace hl_y := Nat.lt_of_lt_of_le hl_y hb1.size
    replace hwl := Nat.le_trans hwl hb1.size
    replace Hn := Lib.hid (Hn.out.below RStr.stab hb1)
    clear hb1
    clear hw0 hsz X0
    refine (rtype_any s p t an kn _ Hn.out hl).mono ?_
    rintro e w3 ⟨rfl, hb1⟩
    replace x0 := cell_kept hb1 x0 hl_x
    replace x1 := cell_kept hb1 x1 hl_x
    replace x2 := cell_kept hb1 x2 hl_x
    replace x3 := cell_kept hb1 x3 hl_x
    replace x4 := cell_kept hb1 x4 hl_x
    replace x5 := cell_kept hb1 x5 hl_x
    replace y0 := cell_kept hb1 y0 hl_y
    replace y1 := cell_kept hb1 y1 hl_y
    replace y2 := cell_kept hb1 y2 hl_y
    replace y3 := cell_kept hb1 y3 hl_y
    replace z0 := cell_kept hb1 z0 hl_z
    replace z1 := cell_kept hb1 z1 hl_z
    replace z2 := cell_kept hb1 z2 hl_z
    replace z3 := cell_kept hb1 z3 hl_z
    replace z4 := cell_kept hb1 z4 hl_z
    replace z5 := cell_kept hb1 z5 hl_z
    replace Hb := Lib.hid (Hb.out.trans (hb1.mono hwl))
    replace hl_x := Nat.lt_of_lt_of_le hl_x hb1.size
    replace hl_y := Nat.lt_of_lt_of_le hl_y hb1.size
    replace hl_z := Nat.lt_of_lt_of_le hl_z hb1.size
    replace hwl := Nat.le_trans hwl hb1.size
    clear Hn
    clear hb1
    cases hkb : kindB t s.units.length with
    | false =>
      go_wp2
      go_ret
      exact ⟨ret_bool (by simp [soundB, Ht.out, goodT, hkb]), Hb.out⟩
    | true =>
      have hku := kindB_unit hkb
      by_cases hu : t.unit = -1
      · go_wp2
        go_ret
        exact ⟨ret_bool (by simp [soundB, Ht.out, goodT, hkb, hu]), Hb.out⟩
      · have d1 : (t.unit == -1) = false := by simpa using hu
        go_wp2_with fail
        refine (runit_at s p t.unit _ (Hs.out.below Hb.out) (by omega) (by omega)).mono ?_
        rintro e w4 ⟨rfl, hb1⟩
        replace x0 := cell_kept hb1 x0 hl_x
        replace x1 := cell_kept hb1 x1 hl_x
        replace x2 := cell_kept hb1 x2 hl_x
        replace x3 := cell_kept hb1 x3 hl_x
        replace x4 := cell_kept hb1 x4 hl_x
        replace x5 := cell_kept hb1 x5 hl_x
        replace y0 := cell_kept hb1 y0 hl_y
        replace y1 := cell_kept hb1 y1 hl_y
        replace y2 := cell_kept hb1 y2 hl_y
        replace y3 := cell_kept hb1 y3 hl_y
        replace z0 := cell_kept hb1 z0 hl_z
        replace z1 := cell_kept hb1 z1 hl_z
        replace z2 := cell_kept hb1 z2 hl_z
        replace z3 := cell_kept hb1 z3 hl_z
        replace z4 := cell_kept hb1 z4 hl_z
        replace z5 := cell_kept hb1 z5 hl_z
        replace Hb := Lib.hid (Hb.out.trans (hb1.mono hwl))
        replace hl_x := Nat.lt_of_lt_of_le hl_x hb1.size
        replace hl_y := Nat.lt_of_lt_of_le hl_y hb1.size
        replace hl_z := Nat.lt_of_lt_of_le hl_z hb1.size
        replace hwl := Nat.le_trans hwl hb1.size
        clear hb1
        go_wp2
        go_ret
        exact ⟨ret_bool (by simp [soundB, Ht.out, goodT, hkb, hu]), Hb.out⟩
end Go.Proofs.Ytogenjbabgibbaa
namespace Go.Proofs.Ytogenjbabgibbaa
open Go.RowKit
set_option maxRecDepth 20000 in
set_option maxHeartbeats 1000000 in
/-- typeOf where the field is there, in a later world -/
theorem typeOf_fix (s : SourceD) (p : SrcAt) (i j : Int) (t : TyD) (ht : typeOf? s i j = some t) (w0 : World) (hs : Src w0 s p) : ∃ an kn, Sl 1 RStr w0 an t.names ∧ ∀ w, Below w0.heap.size w0 w →
    Calls Try.prog 40 #[s.val p, .int .i64 i, .int .i64 j] w fun e w' => e = .returned (.tuple #[t.val an kn, .bool true]) ∧ Below w.heap.size w w' := by
  obtain ⟨b, off, nf, k0, b2, off2, an, kn, e1, hb, hb2, ⟨hi0, hi1, hj0, hj1⟩, c4, d1, d2, d3, d4, d5, d6, hn⟩ := typeOf_mem ht hs
  refine ⟨an, kn, hn, fun w hb0 => ?_⟩
  clear hn hs ht
  replace c4 := cell_kept hb0 c4 hb
  replace d1 := cell_kept hb0 d1 hb2
  replace d2 := cell_kept hb0 d2 hb2
  replace d3 := cell_kept hb0 d3 hb2
  replace d4 := cell_kept hb0 d4 hb2
  replace d5 := cell_kept hb0 d5 hb2
  replace d6 := cell_kept hb0 d6 hb2
  replace hb := Nat.lt_of_lt_of_le hb hb0.size
  replace hb2 := Nat.lt_of_lt_of_le hb2 hb0.size
  clear hb0
  go_enter Try.func40, Try.ntmps40
  go_wp2
  refine bodyPost_ret (v := .tuple #[t.val an kn, .bool true]) (by simp [results, Try.f40, go_sem]) rfl ?_
  refine ⟨rfl, ?_⟩
  all_goals (repeat (first | exact Below.refl _ _ | refine Below.alloc ?_ (by simp) _ | refine Below.setCell ?_ (by simp) _))

set_option maxRecDepth 20000 in
set_option maxHeartbeats 1000000 in
theorem rtypeOf_fix (s : SourceD) (p : SrcAt) (i j : Int) (t : TyD) (ht : typeOf? s i j = some t) (w0 : World) (hs : Src w0 s p) : ∃ an kn, Sl 1 RStr w0 an t.names ∧ ∀ w, Below w0.heap.size w0 w →
    Calls Try.prog 39 #[s.val p, .int .i64 i, .int .i64 j] w fun e w' => e = .returned (t.val an kn) ∧ Below w.heap.size w w' := by
  obtain ⟨b, off, nf, k0, b2, off2, an, kn, e1, hb, hb2, ⟨hi0, hi1, hj0, hj1⟩, c4, d1, d2, d3, d4, d5, d6, hn⟩ := typeOf_mem ht hs
  refine ⟨an, kn, hn, fun w hb0 => ?_⟩
  clear hn hs ht
  replace c4 := cell_kept hb0 c4 hb
  replace d1 := cell_kept hb0 d1 hb2
  replace d2 := cell_kept hb0 d2 hb2
  replace d3 := cell_kept hb0 d3 hb2
  replace d4 := cell_kept hb0 d4 hb2
  replace d5 := cell_kept hb0 d5 hb2
  replace d6 := cell_kept hb0 d6 hb2
  replace hb := Nat.lt_of_lt_of_le hb hb0.size
  replace hb2 := Nat.lt_of_lt_of_le hb2 hb0.size
  clear hb0
  go_enter Try.func39, Try.ntmps39
  go_wp2
  refine bodyPost_ret (v := t.val an kn) (by simp [results, Try.f39, go_sem]) rfl ?_
  refine ⟨rfl, ?_⟩
  all_goals (repeat (first | exact Below.refl _ _ | refine Below.alloc ?_ (by simp) _ | refine Below.setCell ?_ (by simp) _))
theorem typeOf_at (s : SourceD) (p : SrcAt) (i j : Int) (t : TyD) (ht : typeOf? s i j = some t) (w0 : World) (hs : Src w0 s p) (w : World) (hb0 : Below w0.heap.size w0 w) :
    Calls Try.prog 40 #[s.val p, .int .i64 i, .int .i64 j] w fun e w' => (∃ an kn, e = .returned (.tuple #[t.val an kn, .bool true]) ∧ Sl 1 RStr w0 an t.names) ∧ Below w.heap.size w w' := by
  obtain ⟨an, kn, hn, h⟩ := typeOf_fix s p i j t ht w0 hs
  exact (h w hb0).mono fun e w' ⟨h1, h2⟩ => ⟨⟨an, kn, h1, hn⟩, h2⟩
theorem rtypeOf_at (s : SourceD) (p : SrcAt) (i j : Int) (t : TyD) (ht : typeOf? s i j = some t) (w0 : World) (hs : Src w0 s p) (w : World) (hb0 : Below w0.heap.size w0 w) :
    Calls Try.prog 39 #[s.val p, .int .i64 i, .int .i64 j] w fun e w' => (∃ an kn, e = .returned (t.val an kn) ∧ Sl 1 RStr w0 an t.names) ∧ Below w.heap.size w w' := by
  obtain ⟨an, kn, hn, h⟩ := rtypeOf_fix s p i j t ht w0 hs
  exact (h w hb0).mono fun e w' ⟨h1, h2⟩ => ⟨⟨an, kn, h1, hn⟩, h2⟩
end Go.Proofs.Ytogenjbabgibbaa
namespace Go.Proofs.Ytogenjbabgibbaa
open Go.RowKit
def goodO (s : SourceD) (t : TyD) : Option TyD := if goodT s t then some t else none
def usable? (s : SourceD) (r : RefD) : Option TyD := match typeOf? s r.schema r.field with | some t => goodO s t | none => none
/-- what usable returns -/
def UsRes (w : World) (e : Ending) : Option TyD → Prop
  | some t => ∃ an kn, e = .returned (.tuple #[t.val an kn, .bool true]) ∧ Sl 1 RStr w an t.names
  | none => ∃ (t : TyD) (an : Option Addr) (kn : Nat), e = .returned (.tuple #[t.val an kn, .bool false])
theorem typeOK_eq (s : SourceD) (p : SrcAt) (t : TyD) (an : Option Addr) (kn : Nat) (w : World) (hn : Sl 1 RStr w an t.names) (hl : t.names.length ≤ 100000) (r : Bool) (hr : kindB t s.units.length = r) :
    Calls Try.prog 41 #[s.val p, t.val an kn] w fun e w' => e = .returned (.bool r) ∧ Below w.heap.size w w' := by
  subst hr
  exact typeOK_any s p t an kn w hn hl
theorem unitOK_eq (s : SourceD) (p : SrcAt) (u : UnitD) (w : World) (hs : Src w s p) (r : Bool) (hr : unitB s.units u = r) :
    Calls Try.prog 27 #[s.val p, u.val] w fun e w' => e = .returned (.bool r) ∧ Below w.heap.size w w' := by
  subst hr
  exact unitOK_any s p u w hs
set_option maxRecDepth 20000 in
set_option maxHeartbeats 2000000 in
theorem usable_no (s : SourceD) (p : SrcAt) (r : RefD) (wb : World) (hs : Src wb s p) (w : World) (hbb : Below wb.heap.size wb w) (ht : typeOf? s r.schema r.field = none) :
    Calls Try.prog 37 #[s.val p, r.val] w fun e w' => UsRes wb e none ∧ Below w.heap.size w w' := by
  have Hs := Lib.hid (hs.below hbb)
  clear hs hbb
  have Ht := Lib.hid ht
  clear ht
  go_enter Try.func37, Try.ntmps37
  go_wp2_with fail
  generalize hw0 : World.alloc _ _ = w0
  obtain ⟨X0, X1, X2, hsz, hb0⟩ := blk3 hw0
  have x0 : w0.cell? ⟨w.heap.size, 0, none⟩ = some (.slice p.a0 s.issuers.length p.k0) := X0.cell 0
  have x1 : w0.cell? ⟨w.heap.size, 1, none⟩ = some (.slice p.a1 s.units.length p.k1) := X0.cell 1
  have x2 : w0.cell? ⟨w.heap.size, 2, none⟩ = some (.slice p.a2 s.schemas.length p.k2) := X0.cell 2
  have x3 : w0.cell? ⟨w.heap.size, 3, none⟩ = some (.slice p.a3 s.rules.length p.k3) := X0.cell 3
  have x4 : w0.cell? ⟨w.heap.size, 4, none⟩ = some (.slice p.a4 s.converts p.k4) := X0.cell 4
  have x5 : w0.cell? ⟨w.heap.size, 5, none⟩ = some (.slice p.a5 s.purposes.length p.k5) := X0.cell 5
  have hl_x : w.heap.size < w0.heap.size := by omega
  have y0 : w0.cell? ⟨w.heap.size + 1, 0, none⟩ = some (.string r.name) := X1.cell 0
  have y1 : w0.cell? ⟨w.heap.size + 1, 1, none⟩ = some (.string r.path) := X1.cell 1
  have y2 : w0.cell? ⟨w.heap.size + 1, 2, none⟩ = some (.int .i64 r.schema) := X1.cell 2
  have y3 : w0.cell? ⟨w.heap.size + 1, 3, none⟩ = some (.int .i64 r.field) := X1.cell 3
  have hl_y : w.heap.size + 1 < w0.heap.size := by omega
  have z0 : w0.cell? ⟨w.heap.size + 1 + 1, 0, none⟩ = some (.int .i64 0) := X2.cell 0
  have z1 : w0.cell? ⟨w.heap.size + 1 + 1, 1, none⟩ = some (.int .i64 0) := X2.cell 1
  have z2 : w0.cell? ⟨w.heap.size + 1 + 1, 2, none⟩ = some (.int .i64 0) := X2.cell 2
  have z3 : w0.cell? ⟨w.heap.size + 1 + 1, 3, none⟩ = some (.string ⟨#[]⟩) := X2.cell 3
  have z4 : w0.cell? ⟨w.heap.size + 1 + 1, 4, none⟩ = some (.int .i64 0) := X2.cell 4
  have z5 : w0.cell? ⟨w.heap.size + 1 + 1, 5, none⟩ = some (.slice none 0 0) := X2.cell 5
  have hl_z : w.heap.size + 1 + 1 < w0.heap.size := by omega
  have HBz := Lib.hid X2
  have hwl : w.heap.size ≤ w0.heap.size := hb0.size
  have Hb := Lib.hid hb0
  clear hw0 hb0 hsz X0 X1 X2
  refine (typeOf_no s p r.schema r.field Ht.out _ (Hs.out.below Hb.out)).mono ?_
  rintro e w1 ⟨rfl, hb1⟩
  replace x0 := cell_kept hb1 x0 hl_x
  replace x1 := cell_kept hb1 x1 hl_x
  replace x2 := cell_kept hb1 x2 hl_x
  replace x3 := cell_kept hb1 x3 hl_x
  replace x4 := cell_kept hb1 x4 hl_x
  replace x5 := cell_kept hb1 x5 hl_x
  replace y0 := cell_kept hb1 y0 hl_y
  replace y1 := cell_kept hb1 y1 hl_y
  replace y2 := cell_kept hb1 y2 hl_y
  replace y3 := cell_kept hb1 y3 hl_y
  replace z0 := cell_kept hb1 z0 hl_z
  replace z1 := cell_kept hb1 z1 hl_z
  replace z2 := cell_kept hb1 z2 hl_z
  replace z3 := cell_kept hb1 z3 hl_z
  replace z4 := cell_kept hb1 z4 hl_z
  replace z5 := cell_kept hb1 z5 hl_z
  replace HBz := Lib.hid (HBz.out.below hb1 hl_z)
  replace Hb := Lib.hid (Hb.out.trans (hb1.mono hwl))
  replace hl_x := Nat.lt_of_lt_of_le hl_x hb1.size
  replace hl_y := Nat.lt_of_lt_of_le hl_y hb1.size
  replace hl_z := Nat.lt_of_lt_of_le hl_z hb1.size
  replace hwl := Nat.le_trans hwl hb1.size
  clear hb1
  have z_0 := HBz.out.frozen 0
  have z_1 := HBz.out.frozen 1
  have z_2 := HBz.out.frozen 2
  have z_3 := HBz.out.frozen 3
  have z_4 := HBz.out.frozen 4
  have z_5 := HBz.out.frozen 5
  go_wp2_with fail
  clear z_0 z_1 z_2 z_3 z_4 z_5
  generalize hw0 : World.setCell _ _ _ = w2
  obtain ⟨X0, hoth, hsz, hbel, hblk⟩ := stored (vs := [.int .i64 0, .int .i64 0, .int .i64 0, .string ⟨#[]⟩, .int .i64 0, .slice none 0 0]) HBz.out rfl hw0
  replace x0 := hoth x0 (by omega)
  replace x1 := hoth x1 (by omega)
  replace x2 := hoth x2 (by omega)
  replace x3 := hoth x3 (by omega)
  replace x4 := hoth x4 (by omega)
  replace x5 := hoth x5 (by omega)
  replace y0 := hoth y0 (by omega)
  replace y1 := hoth y1 (by omega)
  replace y2 := hoth y2 (by omega)
  replace y3 := hoth y3 (by omega)
  replace z0 : w2.cell? ⟨w.heap.size + 1 + 1, 0, none⟩ = some (.int .i64 0) := X0.cell 0
  replace z1 : w2.cell? ⟨w.heap.size + 1 + 1, 1, none⟩ = some (.int .i64 0) := X0.cell 1
  replace z2 : w2.cell? ⟨w.heap.size + 1 + 1, 2, none⟩ = some (.int .i64 0) := X0.cell 2
  replace z3 : w2.cell? ⟨w.heap.size + 1 + 1, 3, none⟩ = some (.string ⟨#[]⟩) := X0.cell 3
  replace z4 : w2.cell? ⟨w.heap.size + 1 + 1, 4, none⟩ = some (.int .i64 0) := X0.cell 4
  replace z5 : w2.cell? ⟨w.heap.size + 1 + 1, 5, none⟩ = some (.slice none 0 0) := X0.cell 5
  replace HBz := Lib.hid X0
  have hb1 := hbel w.heap.size (by omega)
  replace Hb := Lib.hid (Hb.out.trans hb1)
  replace hl_x : w.heap.size < w2.heap.size := by omega
  replace hl_y : w.heap.size + 1 < w2.heap.size := by omega
  replace hl_z : w.heap.size + 1 + 1 < w2.heap.size := by omega
  replace hwl : w.heap.size ≤ w2.heap.size := by omega
  clear hw0 hoth hsz hbel hblk X0 hb1
  go_quiet (fail)
  generalize hw0 : World.drewN _ _ = w3
  have hb1 : Below w2.heap.size w2 w3 := hw0 ▸ below_drewN (Below.refl _ _) _
  clear hw0
  replace x0 := cell_kept hb1 x0 hl_x
  replace x1 := cell_kept hb1 x1 hl_x
  replace x2 := cell_kept hb1 x2 hl_x
  replace x3 := cell_kept hb1 x3 hl_x
  replace x4 := cell_kept hb1 x4 hl_x
  replace x5 := cell_kept hb1 x5 hl_x
  replace y0 := cell_kept hb1 y0 hl_y
  replace y1 := cell_kept hb1 y1 hl_y
  replace y2 := cell_kept hb1 y2 hl_y
  replace y3 := cell_kept hb1 y3 hl_y
  replace z0 := cell_kept hb1 z0 hl_z
  replace z1 := cell_kept hb1 z1 hl_z
  replace z2 := cell_kept hb1 z2 hl_z
  replace z3 := cell_kept hb1 z3 hl_z
  replace z4 := cell_kept hb1 z4 hl_z
  replace z5 := cell_kept hb1 z5 hl_z
  replace HBz := Lib.hid (HBz.out.below hb1 hl_z)
  replace Hb := Lib.hid (Hb.out.trans (hb1.mono hwl))
  replace hl_x := Nat.lt_of_lt_of_le hl_x hb1.size
  replace hl_y := Nat.lt_of_lt_of_le hl_y hb1.size
  replace hl_z := Nat.lt_of_lt_of_le hl_z hb1.size
  replace hwl := Nat.le_trans hwl hb1.size
  clear hb1
  have z_0 := HBz.out.frozen 0
  have z_1 := HBz.out.frozen 1
  have z_2 := HBz.out.frozen 2
  have z_3 := HBz.out.frozen 3
  have z_4 := HBz.out.frozen 4
  have z_5 := HBz.out.frozen 5
  go_wp2_with fail
  clear z_0 z_1 z_2 z_3 z_4 z_5
  generalize hw0 : World.setCell _ _ _ = w4
  obtain ⟨X0, hoth, hsz, hbel, hblk⟩ := stored (vs := [.int .i64 0, .int .i64 0, .int .i64 0, .string ⟨#[]⟩, .int .i64 0, .slice none 0 0]) HBz.out rfl hw0
  replace x0 := hoth x0 (by omega)
  replace x1 := hoth x1 (by omega)
  replace x2 := hoth x2 (by omega)
  replace x3 := hoth x3 (by omega)
  replace x4 := hoth x4 (by omega)
  replace x5 := hoth x5 (by omega)
  replace y0 := hoth y0 (by omega)
  replace y1 := hoth y1 (by omega)
  replace y2 := hoth y2 (by omega)
  replace y3 := hoth y3 (by omega)
  replace z0 : w4.cell? ⟨w.heap.size + 1 + 1, 0, none⟩ = some (.int .i64 0) := X0.cell 0
  replace z1 : w4.cell? ⟨w.heap.size + 1 + 1, 1, none⟩ = some (.int .i64 0) := X0.cell 1
  replace z2 : w4.cell? ⟨w.heap.size + 1 + 1, 2, none⟩ = some (.int .i64 0) := X0.cell 2
  replace z3 : w4.cell? ⟨w.heap.size + 1 + 1, 3, none⟩ = some (.string ⟨#[]⟩) := X0.cell 3
  replace z4 : w4.cell? ⟨w.heap.size + 1 + 1, 4, none⟩ = some (.int .i64 0) := X0.cell 4
  replace z5 : w4.cell? ⟨w.heap.size + 1 + 1, 5, none⟩ = some (.slice none 0 0) := X0.cell 5
  replace HBz := Lib.hid X0
  have hb1 := hbel w.heap.size (by omega)
  replace Hb := Lib.hid (Hb.out.trans hb1)
  replace hl_x : w.heap.size < w4.heap.size := by omega
  replace hl_y : w.heap.size + 1 < w4.heap.size := by omega
  replace hl_z : w.heap.size + 1 + 1 < w4.heap.size := by omega
  replace hwl : w.heap.size ≤ w4.heap.size := by omega
  clear hw0 hoth hsz hbel hblk X0 hb1
  refine bodyPost_ret (v := .tuple #[tyZero.val none 0, .bool false]) (by simp [results, Try.f37, go_sem, tyZero, *]) rfl ⟨⟨tyZero, none, 0, rfl⟩, Hb.out⟩
set_option maxRecDepth 20000 in
set_option maxHeartbeats 4000000 in
theorem usable_unit (s : SourceD) (p : SrcAt) (r : RefD) (wb : World) (hs : Src wb s p) (w : World) (hbb : Below wb.heap.size wb w) (t : TyD) (ht : typeOf? s r.schema r.field = some t) (hl : t.names.length ≤ 100000) (hk : kindB t s.units.length = true) (hu : ¬ t.unit = -1) :
    Calls Try.prog 37 #[s.val p, r.val] w fun e w' => UsRes wb e (goodO s t) ∧ Below w.heap.size w w' := by
  have hku := kindB_unit hk
  have d0 : (0 : Int) ≤ t.unit := by omega
  have d1 : decide ((0 : Int) ≤ t.unit) = true := decide_eq_true d0
  have d2 : t.unit < (s.units.length : Int) := hku.2
  have hui : t.unit.toNat < s.units.length := by omega
  have Hu := Lib.hid hu
  clear hu
  obtain ⟨b, off, e1, hl_c, _, c0, c1, c2, c3, c4⟩ := UnitD.out ((hs.below hbb).h1) t.unit.toNat hui
  obtain ⟨a0, k0, a1, k1, a2, k2, a3, k3, a4, k4, a5, k5⟩ := p
  simp only at e1
  subst e1
  have hua := Lib.hid (unitAt_in hui)
  generalize s.units[t.unit.toNat] = u at *
  have Hs := Lib.hid (hs.below hbb)
  have Hsb := Lib.hid hs
  have Hbb := Lib.hid hbb
  have Ht := Lib.hid ht
  clear hs hbb ht
  go_enter Try.func37, Try.ntmps37
  go_wp2_with fail
  generalize hw0 : World.alloc _ _ = w0
  obtain ⟨X0, X1, X2, hsz, hb0⟩ := blk3 hw0
  replace c0 := cell_kept hb0 c0 hl_c
  replace c1 := cell_kept hb0 c1 hl_c
  replace c2 := cell_kept hb0 c2 hl_c
  replace c3 := cell_kept hb0 c3 hl_c
  replace c4 := cell_kept hb0 c4 hl_c
  have hw_c := hl_c
  replace hl_c := Nat.lt_of_lt_of_le hl_c hb0.size
  have x0 : w0.cell? ⟨w.heap.size, 0, none⟩ = some (.slice a0 s.issuers.length k0) := X0.cell 0
  have x1 : w0.cell? ⟨w.heap.size, 1, none⟩ = some (.slice (some ⟨b, off, none⟩) s.units.length k1) := X0.cell 1
  have x2 : w0.cell? ⟨w.heap.size, 2, none⟩ = some (.slice a2 s.schemas.length k2) := X0.cell 2
  have x3 : w0.cell? ⟨w.heap.size, 3, none⟩ = some (.slice a3 s.rules.length k3) := X0.cell 3
  have x4 : w0.cell? ⟨w.heap.size, 4, none⟩ = some (.slice a4 s.converts k4) := X0.cell 4
  have x5 : w0.cell? ⟨w.heap.size, 5, none⟩ = some (.slice a5 s.purposes.length k5) := X0.cell 5
  have hl_x : w.heap.size < w0.heap.size := by omega
  have y0 : w0.cell? ⟨w.heap.size + 1, 0, none⟩ = some (.string r.name) := X1.cell 0
  have y1 : w0.cell? ⟨w.heap.size + 1, 1, none⟩ = some (.string r.path) := X1.cell 1
  have y2 : w0.cell? ⟨w.heap.size + 1, 2, none⟩ = some (.int .i64 r.schema) := X1.cell 2
  have y3 : w0.cell? ⟨w.heap.size + 1, 3, none⟩ = some (.int .i64 r.field) := X1.cell 3
  have hl_y : w.heap.size + 1 < w0.heap.size := by omega
  have z0 : w0.cell? ⟨w.heap.size + 1 + 1, 0, none⟩ = some (.int .i64 0) := X2.cell 0
  have z1 : w0.cell? ⟨w.heap.size + 1 + 1, 1, none⟩ = some (.int .i64 0) := X2.cell 1
  have z2 : w0.cell? ⟨w.heap.size + 1 + 1, 2, none⟩ = some (.int .i64 0) := X2.cell 2
  have z3 : w0.cell? ⟨w.heap.size + 1 + 1, 3, none⟩ = some (.string ⟨#[]⟩) := X2.cell 3
  have z4 : w0.cell? ⟨w.heap.size + 1 + 1, 4, none⟩ = some (.int .i64 0) := X2.cell 4
  have z5 : w0.cell? ⟨w.heap.size + 1 + 1, 5, none⟩ = some (.slice none 0 0) := X2.cell 5
  have hl_z : w.heap.size + 1 + 1 < w0.heap.size := by omega
  have HBz := Lib.hid X2
  have hwl : w.heap.size ≤ w0.heap.size := hb0.size
  have Hb := Lib.hid hb0
  clear hw0 hb0 hsz X0 X1 X2
  refine (typeOf_at s ⟨a0, k0, some ⟨b, off, none⟩, k1, a2, k2, a3, k3, a4, k4, a5, k5⟩ r.schema r.field t Ht.out wb Hsb.out _ (Hbb.out.trans (Hb.out.mono Hbb.out.size))).mono ?_
  rintro e w1 ⟨⟨an, kn, rfl, hn⟩, hb1⟩
  have Hn := Lib.hid hn
  clear hn
  replace x0 := cell_kept hb1 x0 hl_x
  replace x1 := cell_kept hb1 x1 hl_x
  replace x2 := cell_kept hb1 x2 hl_x
  replace x3 := cell_kept hb1 x3 hl_x
  replace x4 := cell_kept hb1 x4 hl_x
  replace x5 := cell_kept hb1 x5 hl_x
  replace y0 := cell_kept hb1 y0 hl_y
  replace y1 := cell_kept hb1 y1 hl_y
  replace y2 := cell_kept hb1 y2 hl_y
  replace y3 := cell_kept hb1 y3 hl_y
  replace z0 := cell_kept hb1 z0 hl_z
  replace z1 := cell_kept hb1 z1 hl_z
  replace z2 := cell_kept hb1 z2 hl_z
  replace z3 := cell_kept hb1 z3 hl_z
  replace z4 := cell_kept hb1 z4 hl_z
  replace z5 := cell_kept hb1 z5 hl_z
  replace c0 := cell_kept hb1 c0 hl_c
  replace c1 := cell_kept hb1 c1 hl_c
  replace c2 := cell_kept hb1 c2 hl_c
  replace c3 := cell_kept hb1 c3 hl_c
  replace c4 := cell_kept hb1 c4 hl_c
  replace HBz := Lib.hid (HBz.out.below hb1 hl_z)
  replace Hb := Lib.hid (Hb.out.trans (hb1.mono hwl))
  replace hl_x := Nat.lt_of_lt_of_le hl_x hb1.size
  replace hl_y := Nat.lt_of_lt_of_le hl_y hb1.size
  replace hl_z := Nat.lt_of_lt_of_le hl_z hb1.size
  replace hl_c := Nat.lt_of_lt_of_le hl_c hb1.size
  replace hwl := Nat.le_trans hwl hb1.size
  clear hb1
  have z_0 := HBz.out.frozen 0
  have z_1 := HBz.out.frozen 1
  have z_2 := HBz.out.frozen 2
  have z_3 := HBz.out.frozen 3
  have z_4 := HBz.out.frozen 4
  have z_5 := HBz.out.frozen 5
  go_wp2_with fail
  clear z_0 z_1 z_2 z_3 z_4 z_5
  generalize hw0 : World.setCell _ _ _ = w2
  obtain ⟨X0, hoth, hsz, hbel, hblk⟩ := stored (vs := [.int .i64 t.kind, .int .i64 t.lo, .int .i64 t.hi, .string t.of_, .int .i64 t.unit, .slice an t.names.length kn]) HBz.out rfl hw0
  replace x0 := hoth x0 (by omega)
  replace x1 := hoth x1 (by omega)
  replace x2 := hoth x2 (by omega)
  replace x3 := hoth x3 (by omega)
  replace x4 := hoth x4 (by omega)
  replace x5 := hoth x5 (by omega)
  replace y0 := hoth y0 (by omega)
  replace y1 := hoth y1 (by omega)
  replace y2 := hoth y2 (by omega)
  replace y3 := hoth y3 (by omega)
  replace c0 := hoth c0 (by omega)
  replace c1 := hoth c1 (by omega)
  replace c2 := hoth c2 (by omega)
  replace c3 := hoth c3 (by omega)
  replace c4 := hoth c4 (by omega)
  replace z0 : w2.cell? ⟨w.heap.size + 1 + 1, 0, none⟩ = some (.int .i64 t.kind) := X0.cell 0
  replace z1 : w2.cell? ⟨w.heap.size + 1 + 1, 1, none⟩ = some (.int .i64 t.lo) := X0.cell 1
  replace z2 : w2.cell? ⟨w.heap.size + 1 + 1, 2, none⟩ = some (.int .i64 t.hi) := X0.cell 2
  replace z3 : w2.cell? ⟨w.heap.size + 1 + 1, 3, none⟩ = some (.string t.of_) := X0.cell 3
  replace z4 : w2.cell? ⟨w.heap.size + 1 + 1, 4, none⟩ = some (.int .i64 t.unit) := X0.cell 4
  replace z5 : w2.cell? ⟨w.heap.size + 1 + 1, 5, none⟩ = some (.slice an t.names.length kn) := X0.cell 5
  replace HBz := Lib.hid X0
  have hb1 := hbel w.heap.size (by omega)
  replace Hb := Lib.hid (Hb.out.trans hb1)
  replace hl_x : w.heap.size < w2.heap.size := by omega
  replace hl_y : w.heap.size + 1 < w2.heap.size := by omega
  replace hl_z : w.heap.size + 1 + 1 < w2.heap.size := by omega
  replace hl_c : b < w2.heap.size := by omega
  replace hwl : w.heap.size ≤ w2.heap.size := by omega
  clear hw0 hoth hsz hbel hblk X0 hb1
  have Hnw := Lib.hid (Hn.out.below RStr.stab Hbb.out)
  cases hub : unitB s.units u with
  | false =>
    refine wp_region_grown (by kernel_rfl) (by kernel_rfl) ?_
    repeat (go_big_quiet_step (first | (go_at_call 41; exact calls_grown (typeOK_eq s ⟨a0, k0, some ⟨b, off, none⟩, k1, a2, k2, a3, k3, a4, k4, a5, k5⟩ t an kn _ (Hnw.out.below RStr.stab (Hb.out.trans ((grown_below _ _).mono hwl))) hl true hk)) | (go_at_call 27; exact calls_grown (unitOK_eq s ⟨a0, k0, some ⟨b, off, none⟩, k1, a2, k2, a3, k3, a4, k4, a5, k5⟩ u _ (Hs.out.below (Hb.out.trans ((grown_below _ _).mono hwl))) false hub))))
    refine wpQuiet_nil ?_
    intro w3 hw0
    have hb1 : Below w2.heap.size w2 w3 := by obtain ⟨n, rfl⟩ := hw0; exact grown_below _ n
    clear hw0
    replace x0 := cell_kept hb1 x0 hl_x
    replace x1 := cell_kept hb1 x1 hl_x
    replace x2 := cell_kept hb1 x2 hl_x
    replace x3 := cell_kept hb1 x3 hl_x
    replace x4 := cell_kept hb1 x4 hl_x
    replace x5 := cell_kept hb1 x5 hl_x
    replace y0 := cell_kept hb1 y0 hl_y
    replace y1 := cell_kept hb1 y1 hl_y
    replace y2 := cell_kept hb1 y2 hl_y
    replace y3 := cell_kept hb1 y3 hl_y
    replace z0 := cell_kept hb1 z0 hl_z
    replace z1 := cell_kept hb1 z1 hl_z
    replace z2 := cell_kept hb1 z2 hl_z
    replace z3 := cell_kept hb1 z3 hl_z
    replace z4 := cell_kept hb1 z4 hl_z
    replace z5 := cell_kept hb1 z5 hl_z
    replace c0 := cell_kept hb1 c0 hl_c
    replace c1 := cell_kept hb1 c1 hl_c
    replace c2 := cell_kept hb1 c2 hl_c
    replace c3 := cell_kept hb1 c3 hl_c
    replace c4 := cell_kept hb1 c4 hl_c
    replace HBz := Lib.hid (HBz.out.below hb1 hl_z)
    replace Hb := Lib.hid (Hb.out.trans (hb1.mono hwl))
    replace hl_x := Nat.lt_of_lt_of_le hl_x hb1.size
    replace hl_y := Nat.lt_of_lt_of_le hl_y hb1.size
    replace hl_z := Nat.lt_of_lt_of_le hl_z hb1.size
    replace hl_c := Nat.lt_of_lt_of_le hl_c hb1.size
    replace hwl := Nat.le_trans hwl hb1.size
    clear hb1
    have z_0 := HBz.out.frozen 0
    have z_1 := HBz.out.frozen 1
    have z_2 := HBz.out.frozen 2
    have z_3 := HBz.out.frozen 3
    have z_4 := HBz.out.frozen 4
    have z_5 := HBz.out.frozen 5
    go_wp2_with fail
    clear z_0 z_1 z_2 z_3 z_4 z_5
    generalize hw0 : World.setCell _ _ _ = w5
    obtain ⟨X0, hoth, hsz, hbel, hblk⟩ := stored (vs := [.int .i64 t.kind, .int .i64 t.lo, .int .i64 t.hi, .string t.of_, .int .i64 t.unit, .slice an t.names.length kn]) HBz.out rfl hw0
    replace x0 := hoth x0 (by omega)
    replace x1 := hoth x1 (by omega)
    replace x2 := hoth x2 (by omega)
    replace x3 := hoth x3 (by omega)
    replace x4 := hoth x4 (by omega)
    replace x5 := hoth x5 (by omega)
    replace y0 := hoth y0 (by omega)
    replace y1 := hoth y1 (by omega)
    replace y2 := hoth y2 (by omega)
    replace y3 := hoth y3 (by omega)
    replace z0 : w5.cell? ⟨w.heap.size + 1 + 1, 0, none⟩ = some (.int .i64 t.kind) := X0.cell 0
    replace z1 : w5.cell? ⟨w.heap.size + 1 + 1, 1, none⟩ = some (.int .i64 t.lo) := X0.cell 1
    replace z2 : w5.cell? ⟨w.heap.size + 1 + 1, 2, none⟩ = some (.int .i64 t.hi) := X0.cell 2
    replace z3 : w5.cell? ⟨w.heap.size + 1 + 1, 3, none⟩ = some (.string t.of_) := X0.cell 3
    replace z4 : w5.cell? ⟨w.heap.size + 1 + 1, 4, none⟩ = some (.int .i64 t.unit) := X0.cell 4
    replace z5 : w5.cell? ⟨w.heap.size + 1 + 1, 5, none⟩ = some (.slice an t.names.length kn) := X0.cell 5
    replace HBz := Lib.hid X0
    have hb1 := hbel w.heap.size (by omega)
    replace Hb := Lib.hid (Hb.out.trans hb1)
    replace hl_x : w.heap.size < w5.heap.size := by omega
    replace hl_y : w.heap.size + 1 < w5.heap.size := by omega
    replace hl_z : w.heap.size + 1 + 1 < w5.heap.size := by omega
    replace hwl : w.heap.size ≤ w5.heap.size := by omega
    clear hw0 hoth hsz hbel hblk X0 hb1
    refine bodyPost_ret (v := .tuple #[t.val an kn, .bool false]) (by simp [results, Try.f37, go_sem, *]) rfl ⟨?_, Hb.out⟩
    unfold goodO; rw [if_neg (by simp [goodT, hk, Hu.out, hua.out, hub])]
    exact ⟨t, an, kn, rfl⟩
  | true =>
    refine wp_region_grown (by kernel_rfl) (by kernel_rfl) ?_
    repeat (go_big_quiet_step (first | (go_at_call 41; exact calls_grown (typeOK_eq s ⟨a0, k0, some ⟨b, off, none⟩, k1, a2, k2, a3, k3, a4, k4, a5, k5⟩ t an kn _ (Hnw.out.below RStr.stab (Hb.out.trans ((grown_below _ _).mono hwl))) hl true hk)) | (go_at_call 27; exact calls_grown (unitOK_eq s ⟨a0, k0, some ⟨b, off, none⟩, k1, a2, k2, a3, k3, a4, k4, a5, k5⟩ u _ (Hs.out.below (Hb.out.trans ((grown_below _ _).mono hwl))) true hub))))
    refine wpQuiet_nil ?_
    intro w3 hw0
    have hb1 : Below w2.heap.size w2 w3 := by obtain ⟨n, rfl⟩ := hw0; exact grown_below _ n
    clear hw0
    replace x0 := cell_kept hb1 x0 hl_x
    replace x1 := cell_kept hb1 x1 hl_x
    replace x2 := cell_kept hb1 x2 hl_x
    replace x3 := cell_kept hb1 x3 hl_x
    replace x4 := cell_kept hb1 x4 hl_x
    replace x5 := cell_kept hb1 x5 hl_x
    replace y0 := cell_kept hb1 y0 hl_y
    replace y1 := cell_kept hb1 y1 hl_y
    replace y2 := cell_kept hb1 y2 hl_y
    replace y3 := cell_kept hb1 y3 hl_y
    replace z0 := cell_kept hb1 z0 hl_z
    replace z1 := cell_kept hb1 z1 hl_z
    replace z2 := cell_kept hb1 z2 hl_z
    replace z3 := cell_kept hb1 z3 hl_z
    replace z4 := cell_kept hb1 z4 hl_z
    replace z5 := cell_kept hb1 z5 hl_z
    replace c0 := cell_kept hb1 c0 hl_c
    replace c1 := cell_kept hb1 c1 hl_c
    replace c2 := cell_kept hb1 c2 hl_c
    replace c3 := cell_kept hb1 c3 hl_c
    replace c4 := cell_kept hb1 c4 hl_c
    replace HBz := Lib.hid (HBz.out.below hb1 hl_z)
    replace Hb := Lib.hid (Hb.out.trans (hb1.mono hwl))
    replace hl_x := Nat.lt_of_lt_of_le hl_x hb1.size
    replace hl_y := Nat.lt_of_lt_of_le hl_y hb1.size
    replace hl_z := Nat.lt_of_lt_of_le hl_z hb1.size
    replace hl_c := Nat.lt_of_lt_of_le hl_c hb1.size
    replace hwl := Nat.le_trans hwl hb1.size
    clear hb1
    have z_0 := HBz.out.frozen 0
    have z_1 := HBz.out.frozen 1
    have z_2 := HBz.out.frozen 2
    have z_3 := HBz.out.frozen 3
    have z_4 := HBz.out.frozen 4
    have z_5 := HBz.out.frozen 5
    go_wp2_with fail
    clear z_0 z_1 z_2 z_3 z_4 z_5
    generalize hw0 : World.setCell _ _ _ = w5
    obtain ⟨X0, hoth, hsz, hbel, hblk⟩ := stored (vs := [.int .i64 t.kind, .int .i64 t.lo, .int .i64 t.hi, .string t.of_, .int .i64 t.unit, .slice an t.names.length kn]) HBz.out rfl hw0
    replace x0 := hoth x0 (by omega)
    replace x1 := hoth x1 (by omega)
    replace x2 := hoth x2 (by omega)
    replace x3 := hoth x3 (by omega)
    replace x4 := hoth x4 (by omega)
    replace x5 := hoth x5 (by omega)
    replace y0 := hoth y0 (by omega)
    replace y1 := hoth y1 (by omega)
    replace y2 := hoth y2 (by omega)
    replace y3 := hoth y3 (by omega)
    replace z0 : w5.cell? ⟨w.heap.size + 1 + 1, 0, none⟩ = some (.int .i64 t.kind) := X0.cell 0
    replace z1 : w5.cell? ⟨w.heap.size + 1 + 1, 1, none⟩ = some (.int .i64 t.lo) := X0.cell 1
    replace z2 : w5.cell? ⟨w.heap.size + 1 + 1, 2, none⟩ = some (.int .i64 t.hi) := X0.cell 2
    replace z3 : w5.cell? ⟨w.heap.size + 1 + 1, 3, none⟩ = some (.string t.of_) := X0.cell 3
    replace z4 : w5.cell? ⟨w.heap.size + 1 + 1, 4, none⟩ = some (.int .i64 t.unit) := X0.cell 4
    replace z5 : w5.cell? ⟨w.heap.size + 1 + 1, 5, none⟩ = some (.slice an t.names.length kn) := X0.cell 5
    replace HBz := Lib.hid X0
    have hb1 := hbel w.heap.size (by omega)
    replace Hb := Lib.hid (Hb.out.trans hb1)
    replace hl_x : w.heap.size < w5.heap.size := by omega
    replace hl_y : w.heap.size + 1 < w5.heap.size := by omega
    replace hl_z : w.heap.size + 1 + 1 < w5.heap.size := by omega
    replace hwl : w.heap.size ≤ w5.heap.size := by omega
    clear hw0 hoth hsz hbel hblk X0 hb1
    refine bodyPost_ret (v := .tuple #[t.val an kn, .bool true]) (by simp [results, Try.f37, go_sem, *]) rfl ⟨?_, Hb.out⟩
    unfold goodO; rw [if_pos (by simp [goodT, hk, Hu.out, hua.out, hub])]
    exact ⟨an, kn, rfl, Hn.out⟩
set_option maxRecDepth 20000 in
set_option maxHeartbeats 4000000 in
theorem usable_in (s : SourceD) (p : SrcAt) (r : RefD) (wb : World) (hs : Src wb s p) (w : World) (hbb : Below wb.heap.size wb w) (t : TyD) (ht : typeOf? s r.schema r.field = some t) (hl : t.names.length ≤ 100000) :
    Calls Try.prog 37 #[s.val p, r.val] w fun e w' => UsRes wb e (goodO s t) ∧ Below w.heap.size w w' := by
  by_cases hcase : kindB t s.units.length = true ∧ ¬ t.unit = -1
  case pos => exact usable_unit s p r wb hs w hbb t ht hl hcase.1 hcase.2
  have Hcase := Lib.hid hcase
  clear hcase
  have Hs := Lib.hid (hs.below hbb)
  have Hsb := Lib.hid hs
  have Hbb := Lib.hid hbb
  have Ht := Lib.hid ht
  clear hs hbb ht
  go_enter Try.func37, Try.ntmps37
  go_wp2_with fail
  generalize hw0 : World.alloc _ _ = w0
  obtain ⟨X0, X1, X2, hsz, hb0⟩ := blk3 hw0
  have x0 : w0.cell? ⟨w.heap.size, 0, none⟩ = some (.slice p.a0 s.issuers.length p.k0) := X0.cell 0
  have x1 : w0.cell? ⟨w.heap.size, 1, none⟩ = some (.slice p.a1 s.units.length p.k1) := X0.cell 1
  have x2 : w0.cell? ⟨w.heap.size, 2, none⟩ = some (.slice p.a2 s.schemas.length p.k2) := X0.cell 2
  have x3 : w0.cell? ⟨w.heap.size, 3, none⟩ = some (.slice p.a3 s.rules.length p.k3) := X0.cell 3
  have x4 : w0.cell? ⟨w.heap.size, 4, none⟩ = some (.slice p.a4 s.converts p.k4) := X0.cell 4
  have x5 : w0.cell? ⟨w.heap.size, 5, none⟩ = some (.slice p.a5 s.purposes.length p.k5) := X0.cell 5
  have hl_x : w.heap.size < w0.heap.size := by omega
  have y0 : w0.cell? ⟨w.heap.size + 1, 0, none⟩ = some (.string r.name) := X1.cell 0
  have y1 : w0.cell? ⟨w.heap.size + 1, 1, none⟩ = some (.string r.path) := X1.cell 1
  have y2 : w0.cell? ⟨w.heap.size + 1, 2, none⟩ = some (.int .i64 r.schema) := X1.cell 2
  have y3 : w0.cell? ⟨w.heap.size + 1, 3, none⟩ = some (.int .i64 r.field) := X1.cell 3
  have hl_y : w.heap.size + 1 < w0.heap.size := by omega
  have z0 : w0.cell? ⟨w.heap.size + 1 + 1, 0, none⟩ = some (.int .i64 0) := X2.cell 0
  have z1 : w0.cell? ⟨w.heap.size + 1 + 1, 1, none⟩ = some (.int .i64 0) := X2.cell 1
  have z2 : w0.cell? ⟨w.heap.size + 1 + 1, 2, none⟩ = some (.int .i64 0) := X2.cell 2
  have z3 : w0.cell? ⟨w.heap.size + 1 + 1, 3, none⟩ = some (.string ⟨#[]⟩) := X2.cell 3
  have z4 : w0.cell? ⟨w.heap.size + 1 + 1, 4, none⟩ = some (.int .i64 0) := X2.cell 4
  have z5 : w0.cell? ⟨w.heap.size + 1 + 1, 5, none⟩ = some (.slice none 0 0) := X2.cell 5
  have hl_z : w.heap.size + 1 + 1 < w0.heap.size := by omega
  have HBz := Lib.hid X2
  have hwl : w.heap.size ≤ w0.heap.size := hb0.size
  have Hb := Lib.hid hb0
  clear hw0 hb0 hsz X0 X1 X2
  refine (typeOf_at s p r.schema r.field t Ht.out wb Hsb.out _ (Hbb.out.trans (Hb.out.mono Hbb.out.size))).mono ?_
  rintro e w1 ⟨⟨an, kn, rfl, hn⟩, hb1⟩
  have Hn := Lib.hid hn
  clear hn
  replace x0 := cell_kept hb1 x0 hl_x
  replace x1 := cell_kept hb1 x1 hl_x
  replace x2 := cell_kept hb1 x2 hl_x
  replace x3 := cell_kept hb1 x3 hl_x
  replace x4 := cell_kept hb1 x4 hl_x
  replace x5 := cell_kept hb1 x5 hl_x
  replace y0 := cell_kept hb1 y0 hl_y
  replace y1 := cell_kept hb1 y1 hl_y
  replace y2 := cell_kept hb1 y2 hl_y
  replace y3 := cell_kept hb1 y3 hl_y
  replace z0 := cell_kept hb1 z0 hl_z
  replace z1 := cell_kept hb1 z1 hl_z
  replace z2 := cell_kept hb1 z2 hl_z
  replace z3 := cell_kept hb1 z3 hl_z
  replace z4 := cell_kept hb1 z4 hl_z
  replace z5 := cell_kept hb1 z5 hl_z
  replace HBz := Lib.hid (HBz.out.below hb1 hl_z)
  replace Hb := Lib.hid (Hb.out.trans (hb1.mono hwl))
  replace hl_x := Nat.lt_of_lt_of_le hl_x hb1.size
  replace hl_y := Nat.lt_of_lt_of_le hl_y hb1.size
  replace hl_z := Nat.lt_of_lt_of_le hl_z hb1.size
  replace hwl := Nat.le_trans hwl hb1.size
  clear hb1
  have z_0 := HBz.out.frozen 0
  have z_1 := HBz.out.frozen 1
  have z_2 := HBz.out.frozen 2
  have z_3 := HBz.out.frozen 3
  have z_4 := HBz.out.frozen 4
  have z_5 := HBz.out.frozen 5
  go_wp2_with fail
  clear z_0 z_1 z_2 z_3 z_4 z_5
  generalize hw0 : World.setCell _ _ _ = w2
  obtain ⟨X0, hoth, hsz, hbel, hblk⟩ := stored (vs := [.int .i64 t.kind, .int .i64 t.lo, .int .i64 t.hi, .string t.of_, .int .i64 t.unit, .slice an t.names.length kn]) HBz.out rfl hw0
  replace x0 := hoth x0 (by omega)
  replace x1 := hoth x1 (by omega)
  replace x2 := hoth x2 (by omega)
  replace x3 := hoth x3 (by omega)
  replace x4 := hoth x4 (by omega)
  replace x5 := hoth x5 (by omega)
  replace y0 := hoth y0 (by omega)
  replace y1 := hoth y1 (by omega)
  replace y2 := hoth y2 (by omega)
  replace y3 := hoth y3 (by omega)
  replace z0 : w2.cell? ⟨w.heap.size + 1 + 1, 0, none⟩ = some (.int .i64 t.kind) := X0.cell 0
  replace z1 : w2.cell? ⟨w.heap.size + 1 + 1, 1, none⟩ = some (.int .i64 t.lo) := X0.cell 1
  replace z2 : w2.cell? ⟨w.heap.size + 1 + 1, 2, none⟩ = some (.int .i64 t.hi) := X0.cell 2
  replace z3 : w2.cell? ⟨w.heap.size + 1 + 1, 3, none⟩ = some (.string t.of_) := X0.cell 3
  replace z4 : w2.cell? ⟨w.heap.size + 1 + 1, 4, none⟩ = some (.int .i64 t.unit) := X0.cell 4
  replace z5 : w2.cell? ⟨w.heap.size + 1 + 1, 5, none⟩ = some (.slice an t.names.length kn) := X0.cell 5
  replace HBz := Lib.hid X0
  have hb1 := hbel w.heap.size (by omega)
  replace Hb := Lib.hid (Hb.out.trans hb1)
  replace hl_x : w.heap.size < w2.heap.size := by omega
  replace hl_y : w.heap.size + 1 < w2.heap.size := by omega
  replace hl_z : w.heap.size + 1 + 1 < w2.heap.size := by omega
  replace hwl : w.heap.size ≤ w2.heap.size := by omega
  clear hw0 hoth hsz hbel hblk X0 hb1
  have Hnw := Lib.hid (Hn.out.below RStr.stab Hbb.out)
  cases hk : kindB t s.units.length with
  | false =>
    refine wp_region_grown (by kernel_rfl) (by kernel_rfl) ?_
    repeat (go_big_quiet_step (first | (go_at_call 41; exact calls_grown (typeOK_eq s p t an kn _ (Hnw.out.below RStr.stab (Hb.out.trans ((grown_below _ _).mono hwl))) hl false hk))))
    refine wpQuiet_nil ?_
    intro w3 hw0
    have hb1 : Below w2.heap.size w2 w3 := by obtain ⟨n, rfl⟩ := hw0; exact grown_below _ n
    clear hw0
    replace x0 := cell_kept hb1 x0 hl_x
    replace x1 := cell_kept hb1 x1 hl_x
    replace x2 := cell_kept hb1 x2 hl_x
    replace x3 := cell_kept hb1 x3 hl_x
    replace x4 := cell_kept hb1 x4 hl_x
    replace x5 := cell_kept hb1 x5 hl_x
    replace y0 := cell_kept hb1 y0 hl_y
    replace y1 := cell_kept hb1 y1 hl_y
    replace y2 := cell_kept hb1 y2 hl_y
    replace y3 := cell_kept hb1 y3 hl_y
    replace z0 := cell_kept hb1 z0 hl_z
    replace z1 := cell_kept hb1 z1 hl_z
    replace z2 := cell_kept hb1 z2 hl_z
    replace z3 := cell_kept hb1 z3 hl_z
    replace z4 := cell_kept hb1 z4 hl_z
    replace z5 := cell_kept hb1 z5 hl_z
    replace HBz := Lib.hid (HBz.out.below hb1 hl_z)
    replace Hb := Lib.hid (Hb.out.trans (hb1.mono hwl))
    replace hl_x := Nat.lt_of_lt_of_le hl_x hb1.size
    replace hl_y := Nat.lt_of_lt_of_le hl_y hb1.size
    replace hl_z := Nat.lt_of_lt_of_le hl_z hb1.size
    replace hwl := Nat.le_trans hwl hb1.size
    clear hb1
    have z_0 := HBz.out.frozen 0
    have z_1 := HBz.out.frozen 1
    have z_2 := HBz.out.frozen 2
    have z_3 := HBz.out.frozen 3
    have z_4 := HBz.out.frozen 4
    have z_5 := HBz.out.frozen 5
    go_wp2_with fail
    clear z_0 z_1 z_2 z_3 z_4 z_5
    generalize hw0 : World.setCell _ _ _ = w4
    obtain ⟨X0, hoth, hsz, hbel, hblk⟩ := stored (vs := [.int .i64 t.kind, .int .i64 t.lo, .int .i64 t.hi, .string t.of_, .int .i64 t.unit, .slice an t.names.length kn]) HBz.out rfl hw0
    replace x0 := hoth x0 (by omega)
    replace x1 := hoth x1 (by omega)
    replace x2 := hoth x2 (by omega)
    replace x3 := hoth x3 (by omega)
    replace x4 := hoth x4 (by omega)
    replace x5 := hoth x5 (by omega)
    replace y0 := hoth y0 (by omega)
    replace y1 := hoth y1 (by omega)
    replace y2 := hoth y2 (by omega)
    replace y3 := hoth y3 (by omega)
    replace z0 : w4.cell? ⟨w.heap.size + 1 + 1, 0, none⟩ = some (.int .i64 t.kind) := X0.cell 0
    replace z1 : w4.cell? ⟨w.heap.size + 1 + 1, 1, none⟩ = some (.int .i64 t.lo) := X0.cell 1
    replace z2 : w4.cell? ⟨w.heap.size + 1 + 1, 2, none⟩ = some (.int .i64 t.hi) := X0.cell 2
    replace z3 : w4.cell? ⟨w.heap.size + 1 + 1, 3, none⟩ = some (.string t.of_) := X0.cell 3
    replace z4 : w4.cell? ⟨w.heap.size + 1 + 1, 4, none⟩ = some (.int .i64 t.unit) := X0.cell 4
    replace z5 : w4.cell? ⟨w.heap.size + 1 + 1, 5, none⟩ = some (.slice an t.names.length kn) := X0.cell 5
    replace HBz := Lib.hid X0
    have hb1 := hbel w.heap.size (by omega)
    replace Hb := Lib.hid (Hb.out.trans hb1)
    replace hl_x : w.heap.size < w4.heap.size := by omega
    replace hl_y : w.heap.size + 1 < w4.heap.size := by omega
    replace hl_z : w.heap.size + 1 + 1 < w4.heap.size := by omega
    replace hwl : w.heap.size ≤ w4.heap.size := by omega
    clear hw0 hoth hsz hbel hblk X0 hb1
    refine bodyPost_ret (v := .tuple #[t.val an kn, .bool false]) (by simp [results, Try.f37, go_sem, *]) rfl ⟨?_, Hb.out⟩
    unfold goodO; rw [if_neg (by simp [goodT, hk])]
    exact ⟨t, an, kn, rfl⟩
  | true =>
    have hku := kindB_unit hk
    by_cases hu : t.unit = -1
    · have d1 : decide ((0 : Int) ≤ t.unit) = false := by rw [hu]; rfl
      have Hu := Lib.hid hu
      clear hu
      refine wp_region_grown (by kernel_rfl) (by kernel_rfl) ?_
      repeat (go_big_quiet_step (first | (go_at_call 41; exact calls_grown (typeOK_eq s p t an kn _ (Hnw.out.below RStr.stab (Hb.out.trans ((grown_below _ _).mono hwl))) hl true hk))))
      refine wpQuiet_nil ?_
      intro w3 hw0
      have hb1 : Below w2.heap.size w2 w3 := by obtain ⟨n, rfl⟩ := hw0; exact grown_below _ n
      clear hw0
      replace x0 := cell_kept hb1 x0 hl_x
      replace x1 := cell_kept hb1 x1 hl_x
      replace x2 := cell_kept hb1 x2 hl_x
      replace x3 := cell_kept hb1 x3 hl_x
      replace x4 := cell_kept hb1 x4 hl_x
      replace x5 := cell_kept hb1 x5 hl_x
      replace y0 := cell_kept hb1 y0 hl_y
      replace y1 := cell_kept hb1 y1 hl_y
      replace y2 := cell_kept hb1 y2 hl_y
      replace y3 := cell_kept hb1 y3 hl_y
      replace z0 := cell_kept hb1 z0 hl_z
      replace z1 := cell_kept hb1 z1 hl_z
      replace z2 := cell_kept hb1 z2 hl_z
      replace z3 := cell_kept hb1 z3 hl_z
      replace z4 := cell_kept hb1 z4 hl_z
      replace z5 := cell_kept hb1 z5 hl_z
      replace HBz := Lib.hid (HBz.out.below hb1 hl_z)
      replace Hb := Lib.hid (Hb.out.trans (hb1.mono hwl))
      replace hl_x := Nat.lt_of_lt_of_le hl_x hb1.size
      replace hl_y := Nat.lt_of_lt_of_le hl_y hb1.size
      replace hl_z := Nat.lt_of_lt_of_le hl_z hb1.size
      replace hwl := Nat.le_trans hwl hb1.size
      clear hb1
      have z_0 := HBz.out.frozen 0
      have z_1 := HBz.out.frozen 1
      have z_2 := HBz.out.frozen 2
      have z_3 := HBz.out.frozen 3
      have z_4 := HBz.out.frozen 4
      have z_5 := HBz.out.frozen 5
      go_wp2_with fail
      clear z_0 z_1 z_2 z_3 z_4 z_5
      generalize hw0 : World.setCell _ _ _ = w4
      obtain ⟨X0, hoth, hsz, hbel, hblk⟩ := stored (vs := [.int .i64 t.kind, .int .i64 t.lo, .int .i64 t.hi, .string t.of_, .int .i64 t.unit, .slice an t.names.length kn]) HBz.out rfl hw0
      replace x0 := hoth x0 (by omega)
      replace x1 := hoth x1 (by omega)
      replace x2 := hoth x2 (by omega)
      replace x3 := hoth x3 (by omega)
      replace x4 := hoth x4 (by omega)
      replace x5 := hoth x5 (by omega)
      replace y0 := hoth y0 (by omega)
      replace y1 := hoth y1 (by omega)
      replace y2 := hoth y2 (by omega)
      replace y3 := hoth y3 (by omega)
      replace z0 : w4.cell? ⟨w.heap.size + 1 + 1, 0, none⟩ = some (.int .i64 t.kind) := X0.cell 0
      replace z1 : w4.cell? ⟨w.heap.size + 1 + 1, 1, none⟩ = some (.int .i64 t.lo) := X0.cell 1
      replace z2 : w4.cell? ⟨w.heap.size + 1 + 1, 2, none⟩ = some (.int .i64 t.hi) := X0.cell 2
      replace z3 : w4.cell? ⟨w.heap.size + 1 + 1, 3, none⟩ = some (.string t.of_) := X0.cell 3
      replace z4 : w4.cell? ⟨w.heap.size + 1 + 1, 4, none⟩ = some (.int .i64 t.unit) := X0.cell 4
      replace z5 : w4.cell? ⟨w.heap.size + 1 + 1, 5, none⟩ = some (.slice an t.names.length kn) := X0.cell 5
      replace HBz := Lib.hid X0
      have hb1 := hbel w.heap.size (by omega)
      replace Hb := Lib.hid (Hb.out.trans hb1)
      replace hl_x : w.heap.size < w4.heap.size := by omega
      replace hl_y : w.heap.size + 1 < w4.heap.size := by omega
      replace hl_z : w.heap.size + 1 + 1 < w4.heap.size := by omega
      replace hwl : w.heap.size ≤ w4.heap.size := by omega
      clear hw0 hoth hsz hbel hblk X0 hb1
      refine bodyPost_ret (v := .tuple #[t.val an kn, .bool true]) (by simp [results, Try.f37, go_sem, *]) rfl ⟨?_, Hb.out⟩
      unfold goodO; rw [if_pos (by simp [goodT, hk, Hu.out])]
      exact ⟨an, kn, rfl, Hn.out⟩
    · exact absurd ⟨hk, hu⟩ Hcase.out
theorem usable_any (s : SourceD) (p : SrcAt) (r : RefD) (wb : World) (hs : Src wb s p) (w : World) (hbb : Below wb.heap.size wb w) (hsh : Short s) :
    Calls Try.prog 37 #[s.val p, r.val] w fun e w' => UsRes wb e (usable? s r) ∧ Below w.heap.size w w' := by
  unfold usable?
  cases ht : typeOf? s r.schema r.field with
  | none => exact usable_no s p r wb hs w hbb ht
  | some t => exact usable_in s p r wb hs w hbb t ht (hsh _ _ _ ht)
end Go.Proofs.Ytogenjbabgibbaa
namespace Go.Proofs.Ytogenjbabgibbaa
open Go.RowKit

/-! A region that draws its order: first operations that read and call, then (behind all of them) a tail in one forced order. -/
def waitsOn (md : Region.Mode) (o : Oper) (i : Nat) : Bool := o.after.any fun e => Region.binds md e && e.on == i
def tailOK (md : Region.Mode) (n t : Nat) (o : Oper) : Bool :=
  o.after.all (fun e => !Region.binds md e || decide (e.on < t)) && (match o.guard with | some (j, _) => decide (j < t) | none => true) &&
    (decide (t < n) || ((List.range n).all (waitsOn md o) && (decide (t = n) || waitsOn md o (t - 1))))
def tailB (md : Region.Mode) (ops : Array Oper) (n : Nat) : Bool := decide (n ≤ ops.size) && (List.range ops.size).all fun t => match ops[t]? with | some o => tailOK md n t o | none => true

section
variable {P : Program} {ops : Array Oper} {md : Region.Mode} {C : World → Prop} {n : Nat}
theorem waitsOn_spec {o : Oper} {i : Nat} (h : waitsOn md o i = true) : ∃ e ∈ o.after, Region.binds md e = true ∧ e.on = i := by
  obtain ⟨e, he, hb⟩ := Array.any_eq_true'.1 h
  simp only [Bool.and_eq_true, beq_iff_eq] at hb
  exact ⟨e, he, hb.1, hb.2⟩
structure TailFacts (md : Region.Mode) (ops : Array Oper) (n : Nat) : Prop where
  le : n ≤ ops.size
  back : ∀ (t : Nat) (o : Oper), ops[t]? = some o → ∀ e ∈ o.after, Region.binds md e = true → e.on < t
  guard : ∀ (t : Nat) (o : Oper) (j : Nat) (b : Bool), ops[t]? = some o → o.guard = some (j, b) → j < t
  all : ∀ (t : Nat) (o : Oper), ops[t]? = some o → n ≤ t → ∀ i, i < n → waitsOn md o i = true
  seq : ∀ (t : Nat) (o : Oper), ops[t]? = some o → n < t → waitsOn md o (t - 1) = true
theorem tailB_spec (h : tailB md ops n = true) : TailFacts md ops n := by
  unfold tailB at h
  simp only [Bool.and_eq_true, decide_eq_true_eq] at h
  have key : ∀ t o, ops[t]? = some o → tailOK md n t o = true := fun t o ho => by
    have hlt : t < ops.size := (Array.getElem?_eq_some_iff.1 ho).1
    have := List.all_eq_true.1 h.2 t (List.mem_range.2 hlt)
    simpa [ho] using this
  have key2 : ∀ t o, ops[t]? = some o → (∀ e ∈ o.after, Region.binds md e = true → e.on < t) ∧ (match o.guard with | some (j, _) => decide (j < t) | none => true) = true ∧ (t < n ∨ ((∀ i, i < n → waitsOn md o i = true) ∧ (t = n ∨ waitsOn md o (t - 1) = true))) := fun t o ho => by
    have := key t o ho
    unfold tailOK at this
    simp only [Bool.and_eq_true, Bool.or_eq_true, decide_eq_true_eq] at this
    refine ⟨fun e he hbd => ?_, this.1.2, this.2.imp id fun q => ⟨fun i hi => List.all_eq_true.1 q.1 i (List.mem_range.2 hi), q.2⟩⟩
    have := Array.all_eq_true_iff_forall_mem.1 this.1.1 e he
    simpa [hbd] using this
  refine ⟨h.1, fun t o ho => (key2 t o ho).1, fun t o j b ho hg => ?_, fun t o ho ht => ?_, fun t o ho ht => ?_⟩
  · have := (key2 t o ho).2.1
    rw [hg] at this
    simpa using this
  · rcases (key2 t o ho).2.2 with q | q
    · omega
    · exact q.1
  · rcases (key2 t o ho).2.2 with q | q
    · omega
    · rcases q.2 with q | q
      · omega
      · exact q
theorem getD_flip {l : Array Bool} {i : Nat} (hi : i < l.size) (h : ¬ l.getD i true = false) : l.getD i false = true := by
  simp [hi] at h ⊢; exact h
theorem getD_flip' {l : Array Bool} {i : Nat} (h : l.getD i true = false) : l.getD i false = false := by
  rcases Nat.lt_or_ge i l.size with h' | h'
  · simp [h'] at h ⊢; exact h
  · simp [Array.getElem?_eq_none h'] at h
/-- the weaker form: the tail's first operation waits for the front by way of others -/
structure TailW (md : Region.Mode) (ops : Array Oper) (n : Nat) : Prop where
  le : n ≤ ops.size
  back : ∀ (t : Nat) (o : Oper), ops[t]? = some o → ∀ e ∈ o.after, Region.binds md e = true → e.on < t
  guard : ∀ (t : Nat) (o : Oper) (j : Nat) (b : Bool), ops[t]? = some o → o.guard = some (j, b) → j < t
  reach : n < ops.size → ∀ i, i < n → ∃ (t : Nat) (o : Oper), i < t ∧ t ≤ n ∧ ops[t]? = some o ∧ waitsOn md o i = true
  seq : ∀ (t : Nat) (o : Oper), ops[t]? = some o → n < t → waitsOn md o (t - 1) = true
theorem TailFacts.w (T : TailFacts md ops n) : TailW md ops n := ⟨T.le, T.back, T.guard, fun hn i hi => ⟨n, ops[n], hi, Nat.le_refl _, Array.getElem?_eq_getElem hn, T.all n _ (Array.getElem?_eq_getElem hn) (Nat.le_refl _) i hi⟩, T.seq⟩
def reachB (md : Region.Mode) (ops : Array Oper) (n i : Nat) : Bool := (List.range (n + 1)).any fun t => decide (i < t) && match ops[t]? with | some o => waitsOn md o i | none => false
def tailWOK (md : Region.Mode) (n t : Nat) (o : Oper) : Bool :=
  o.after.all (fun e => !Region.binds md e || decide (e.on < t)) && (match o.guard with | some (j, _) => decide (j < t) | none => true) && (decide (t ≤ n) || waitsOn md o (t - 1))
def tailWB (md : Region.Mode) (ops : Array Oper) (n : Nat) : Bool :=
  decide (n ≤ ops.size) && ((List.range ops.size).all fun t => match ops[t]? with | some o => tailWOK md n t o | none => true) && (decide (ops.size ≤ n) || (List.range n).all (reachB md ops n))
theorem tailWB_spec (h : tailWB md ops n = true) : TailW md ops n := by
  unfold tailWB at h
  simp only [Bool.and_eq_true, decide_eq_true_eq, Bool.or_eq_true] at h
  have key : ∀ t o, ops[t]? = some o → tailWOK md n t o = true := fun t o ho => by
    have hlt : t < ops.size := (Array.getElem?_eq_some_iff.1 ho).1
    have := List.all_eq_true.1 h.1.2 t (List.mem_range.2 hlt)
    simpa [ho] using this
  have key2 : ∀ t o, ops[t]? = some o → (∀ e ∈ o.after, Region.binds md e = true → e.on < t) ∧ (match o.guard with | some (j, _) => decide (j < t) | none => true) = true ∧ (t ≤ n ∨ waitsOn md o (t - 1) = true) := fun t o ho => by
    have := key t o ho
    unfold tailWOK at this
    simp only [Bool.and_eq_true, Bool.or_eq_true, decide_eq_true_eq] at this
    refine ⟨fun e he hbd => ?_, this.1.2, this.2⟩
    have := Array.all_eq_true_iff_forall_mem.1 this.1.1 e he
    simpa [hbd] using this
  refine ⟨h.1.1, fun t o ho => (key2 t o ho).1, fun t o j b ho hg => ?_, fun hn i hi => ?_, fun t o ho ht => ?_⟩
  · have := (key2 t o ho).2.1
    rw [hg] at this
    simpa using this
  · rcases h.2 with q | q
    · omega
    · have q2 := List.all_eq_true.1 q i (List.mem_range.2 hi)
      unfold reachB at q2
      obtain ⟨t, ht, h3⟩ := List.any_eq_true.1 q2
      simp only [Bool.and_eq_true, decide_eq_true_eq] at h3
      have ht := List.mem_range.1 ht
      have hlt : t < ops.size := by omega
      rw [Array.getElem?_eq_getElem hlt] at h3
      exact ⟨t, ops[t], h3.1, by omega, Array.getElem?_eq_getElem hlt, h3.2⟩
  · rcases (key2 t o ho).2.2 with q | q
    · omega
    · exact q
/-- the tail comes up only when the front is through -/
theorem TailW.through (T : TailW md ops n) {U : List Nat} {i : Nat} {o : Oper} (ho : ops[i]? = some o) (hin : n ≤ i) (hcl : ∀ (j : Nat) (o' : Oper), j < n → j ∉ U → ops[j]? = some o' → ∀ e ∈ o'.after, Region.binds md e = true → e.on ∉ U)
    (hU : ∀ t ∈ U, t < n) (hd : ∀ e ∈ o.after, Region.binds md e = true → e.on ∉ U ∧ e.on < n) : ∀ j, j ∉ U := by
  have hin2 : i = n := by
    rcases Nat.lt_or_ge n i with q | q
    · obtain ⟨e, he, hb, hon⟩ := waitsOn_spec (T.seq i o ho q)
      have := (hd e he hb).2
      omega
    · omega
  subst hin2
  have hlt := (Array.getElem?_eq_some_iff.1 ho).1
  have key : ∀ k j, i - j = k → j < i → j ∉ U := by
    intro k
    induction k using Nat.strongRecOn with
    | _ k ih =>
      intro j hk hj
      obtain ⟨t, o', h1, h2, h3, h4⟩ := T.reach hlt j hj
      obtain ⟨e, he, hb, hon⟩ := waitsOn_spec h4
      rcases Nat.lt_or_ge t i with q | q
      · have := hcl t o' q (ih (i - t) (by omega) t rfl q) h3 e he hb
        rwa [hon] at this
      · have : t = i := by omega
        subst this
        rw [ho] at h3
        cases h3
        have := (hd e he hb).1
        rwa [hon] at this
  exact fun j hj => key _ j rfl (hU j hj) hj
/-- the tail: one order -/
theorem wpAny_tail (T : TailW md ops n) {Q : Exit → Act → World → Prop} : ∀ (l : List Oper) (k : Nat) (listed : Array Bool) (a : Act) (w : World), n ≤ k → (∀ j, l[j]? = ops[k + j]?) → listed.size = ops.size →
    (∀ t, listed.getD t true = false ↔ k ≤ t ∧ t < ops.size) → wpList P ops Q l a w → wpAny P md ops Q l.length listed a w
  | [], k, listed, a, w, _, hl, hs, hu, h => by
    refine ⟨List.eq_nil_iff_forall_not_mem.2 fun t ht => ?_, h⟩
    obtain ⟨h1, o, ho, _⟩ := mem_ready.1 ht
    have h2 := (hu t).1 h1
    have h3 := hl (t - k)
    rw [show k + (t - k) = t by omega, ho] at h3
    cases h3
  | o :: l, k, listed, a, w, hn, hl, hs, hu, h => by
    have h0 : ops[k]? = some o := by simpa using (hl 0).symm
    have hk : k < ops.size := (Array.getElem?_eq_some_iff.1 h0).1
    have hr : k ∈ Region.ready md ops listed := mem_ready.2 ⟨(hu k).2 ⟨Nat.le_refl _, hk⟩, o, h0, fun e he hbd => by
      have hb := T.back k o h0 e he hbd
      exact getD_flip (by omega) fun q => by have := (hu e.on).1 q; omega⟩
    refine ⟨fun h1 => (by rw [h1] at hr; cases hr), fun i hi => ?_⟩
    have hik : i = k := by
      obtain ⟨h1, o', ho', hall⟩ := mem_ready.1 hi
      have h2 := (hu i).1 h1
      rcases Nat.lt_or_ge k i with q | q
      · obtain ⟨e, he, hb, hon⟩ := waitsOn_spec (T.seq i o' ho' (by omega))
        have h3 := hall e he hb
        rw [hon, getD_flip' ((hu (i - 1)).2 (by omega))] at h3
        cases h3
      · omega
    subst hik
    have hw : wpOp P ops Q i (wpList P ops Q l) a w := by unfold wpOp; simp only [h0]; exact h
    refine wpOp_mono (fun a' w' h' => wpAny_tail T l (i + 1) _ a' w' (by omega) (fun j => by have := hl (j + 1); simpa [Nat.add_assoc, Nat.add_comm 1 j] using this) (by simpa using hs) (fun t => ?_) h') hw
    by_cases e : i = t
    · subst e
      have : i < listed.size := by omega
      simp [this]
      try omega
    · rw [getD_set_ne true e, hu t]; omega
theorem yielded_same {ops1 : Array Oper} {tm : Array Value} {j : Nat} (h : ops1[j]? = ops[j]?) : yielded ops1 tm j = yielded ops tm j := by unfold yielded; rw [h]
theorem wanted_same {ops1 : Array Oper} (hsame : ∀ j, j < n → ops1[j]? = ops[j]?) {tm : Array Value} {o : Oper} (hg : ∀ j b, o.guard = some (j, b) → j < n) : Region.wanted o (yielded ops1 tm) = Region.wanted o (yielded ops tm) := by
  unfold Region.wanted
  cases hgo : o.guard with
  | none => rfl
  | some jb =>
    obtain ⟨j, b⟩ := jb
    simp only [yielded_same (tm := tm) (hsame j (hg j b hgo))]
/-- the first operations, in whatever order -/
theorem wpAny_front (T : TailFacts md ops n) {ops1 : Array Oper} (h1s : ops1.size = n) (hsame : ∀ j, j < n → ops1[j]? = ops[j]?) {Q : Exit → Act → World → Prop} {QQ : Act → Prop} {g : Nat}
    (hend : ∀ (listed : Array Bool) (a : Act) (w : World), listed.size = ops.size → (∀ t, listed.getD t true = false ↔ n ≤ t ∧ t < ops.size) → C w → QQ a → wpAny P md ops Q g listed a w) :
    ∀ (f : Nat) (U : List Nat) (listed listed1 : Array Bool) (a : Act) (w : World), U.length = f → U.Nodup → listed.size = ops.size → listed1.size = n → (∀ j, j < n → listed1[j]? = listed[j]?) →
      (∀ t, listed.getD t true = false ↔ t ∈ U ∨ (n ≤ t ∧ t < ops.size)) → (∀ t ∈ U, t < n) → C w → wpAnyQ P md ops1 C QQ f listed1 a → wpAny P md ops Q (f + g) listed a w
  | 0, U, listed, listed1, a, w, hU, _, hs, hs1, _, hu, _, hC, h => by
    rw [Nat.zero_add]
    have : U = [] := List.length_eq_zero_iff.1 hU
    subst this
    exact hend listed a w hs (fun t => by simpa using hu t) hC h.2
  | f + 1, U, listed, listed1, a, w, hU, hnd, hs, hs1, hl1, hu, hUn, hC, h => by
    rw [show f + 1 + g = (f + g) + 1 by omega]
    have hn := T.le
    have hg1 : ∀ j d, j < n → listed1.getD j d = listed.getD j d := fun j d hj => by simp [hl1 j hj]
    -- something of the front may come up
    have hex : ∀ (j : Nat), j ∈ U → ∃ r ∈ U, r ∈ Region.ready md ops listed := by
      intro j
      induction j using Nat.strongRecOn with
      | _ j ih =>
        intro hj
        have hjn := hUn j hj
        obtain ⟨o, ho⟩ : ∃ o, ops[j]? = some o := ⟨_, Array.getElem?_eq_getElem (by omega)⟩
        by_cases hall : ∀ e ∈ o.after, Region.binds md e = true → listed.getD e.on false = true
        · exact ⟨j, hj, mem_ready.2 ⟨(hu j).2 (.inl hj), o, ho, hall⟩⟩
        · simp only [Classical.not_forall] at hall
          obtain ⟨e, he, hb, hne⟩ := hall
          have hlt := T.back j o ho e he hb
          have : listed.getD e.on true = false := by
            have hsz : e.on < listed.size := by omega
            simp [hsz] at hne ⊢; exact hne
          rcases (hu e.on).1 this with q | q
          · exact ih e.on hlt q
          · omega
    obtain ⟨j0, hj0⟩ : ∃ j0, j0 ∈ U := by
      cases U with
      | nil => simp at hU
      | cons x xs => exact ⟨x, by simp⟩
    obtain ⟨r, hrU, hr⟩ := hex j0 hj0
    refine ⟨fun h0 => (by rw [h0] at hr; cases hr), fun i hi => ?_⟩
    obtain ⟨hun, o, ho, hall⟩ := mem_ready.1 hi
    have hin : i < n := by
      rcases Nat.lt_or_ge i n with q | q
      · exact q
      · obtain ⟨e, he, hb, hon⟩ := waitsOn_spec (T.all i o ho q r (hUn r hrU))
        have h3 := hall e he hb
        rw [hon, getD_flip' ((hu r).2 (.inl hrU))] at h3
        cases h3
    have hiU : i ∈ U := by
      rcases (hu i).1 hun with q | q
      · exact q
      · omega
    have ho1 : ops1[i]? = some o := (hsame i hin).trans ho
    have hi1 : i ∈ Region.ready md ops1 listed1 := mem_ready.2 ⟨by rw [hg1 i true hin]; exact hun, o, ho1, fun e he hb => by
      have := T.back i o ho e he hb
      rw [hg1 e.on false (by omega)]; exact hall e he hb⟩
    have hq := h.2 i hi1
    have hq2 : qOp P ops C i (wpAnyQ P md ops1 C QQ f (listed1.setIfInBounds i true)) a := by
      unfold qOp at hq ⊢
      rw [ho1] at hq
      rw [ho]
      simp only at hq ⊢
      rw [wanted_same hsame (fun j b hgd => Nat.lt_trans (T.guard i o j b ho hgd) hin)] at hq
      exact hq
    refine wpOp_of_qOp hC (fun a' w' hC' h' => ?_) hq2
    refine wpAny_front T h1s hsame hend f (U.erase i) _ _ a' w' ?_ (hnd.erase i) (by simpa using hs) (by simpa using hs1) (fun j hj => ?_) (fun t => ?_) (fun t ht => hUn t (List.mem_of_mem_erase ht)) hC' h'
    · rw [List.length_erase_of_mem hiU]; omega
    · by_cases e : i = j
      · subst e
        rw [Array.getElem?_setIfInBounds_self_of_lt (by omega), Array.getElem?_setIfInBounds_self_of_lt (by omega)]
      · rw [Array.getElem?_setIfInBounds_ne e, Array.getElem?_setIfInBounds_ne e, hl1 j hj]
    · by_cases e : i = t
      · subst e
        have hsz : i < listed.size := by omega
        have : i ∉ U.erase i := fun q => by rw [hnd.mem_erase_iff] at q; exact q.1 rfl
        simp [hsz, this]; omega
      · rw [getD_set_ne true e, hu t, hnd.mem_erase_iff]
        constructor
        · rintro (q | q)
          · exact .inl ⟨fun q2 => e q2.symm, q⟩
          · exact .inr q
        · rintro (q | q)
          · exact .inl q.2
          · exact .inr q
end

theorem wp_region_grown_tail {P : Program} {id : Nat} {Q : Exit → Act → World → Prop} {a : Act} {w : World} {l : List Oper} (n : Nat) (hm : P.follows .mixedOrders = true) (hB : Region.lexB .any (l.take n).toArray = true)
    (hT : tailB .any l.toArray n = true)
    (h : wpQuiet P (l.take n).toArray (fun w' => ∃ n : GW w, w' = grown w n) (fun a' => ∀ w', (∃ n : GW w, w' = grown w n) → wpList P l.toArray Q (l.drop n) a' w') (l.take n) a) : (Code.region id l.toArray true).wp P Q a w := by
  have T := tailB_spec hT
  have hn := T.le
  simp only [List.size_toArray] at hn
  have hsz : (l.take n).toArray.size = n := by simp; omega
  refine wp_region_any hm ?_
  have hlex := hB
  simp only [Region.lexB, Bool.and_eq_true] at hlex
  have hq := wpAnyQ_lex (C := fun w' => ∃ n : GW w, w' = grown w n) (md := .any) hlex.1 (l.take n) 0 (Array.replicate (l.take n).toArray.size false) a (by simp) (by simpa using hlex.2) h
  have e1 : (l.take n).length = n := by simp; omega
  have e2 : l.toArray.size = n + (l.drop n).length := by simp; omega
  rw [e1] at hq
  rw [show (Array.replicate l.toArray.size false) = Array.replicate l.toArray.size false from rfl, show wpAny P .any l.toArray Q l.toArray.size = wpAny P .any l.toArray Q (n + (l.drop n).length) by rw [e2]]
  refine wpAny_front (n := n) (C := fun w' => ∃ n : GW w, w' = grown w n) T hsz (fun j hj => by simp [hj]) (QQ := fun a' => ∀ w', (∃ n : GW w, w' = grown w n) → wpList P l.toArray Q (l.drop n) a' w')
    (fun listed a' w' hs hu hC hQ => wpAny_tail T.w (l.drop n) n listed a' w' (Nat.le_refl _) (fun j => by simp [List.getElem?_drop]) hs hu (hQ w' hC)) n (List.range n) _ _ a _ (by simp) List.nodup_range (by simp) (by simp; omega) (fun j hj => ?_) (fun t => ?_) (fun t ht => by simpa using ht) ⟨⟨w.drew, (Below.refl _ _).drew⟩, rfl⟩ hq
  · have : j < l.length := by omega
    simp [Array.getElem?_replicate, this]
    omega
  · simp only [List.mem_range]
    rcases Nat.lt_or_ge t l.toArray.size with q | q
    · simp at q ⊢; simp [q]; omega
    · have q' : l.length ≤ t := by simpa using q
      have q2 : ¬ t < l.length := by omega
      simp [Array.getElem?_replicate, q2]
      omega
end Go.Proofs.Ytogenjbabgibbaa
namespace Go.Proofs.Ytogenjbabgibbaa
open Go.RowKit
structure RuleAt where
  a2 : Option Addr
  k2 : Nat
  a3 : Option Addr
  k3 : Nat
  a4 : Option Addr
  k4 : Nat
abbrev RuleD.val (r : RuleD) (q : RuleAt) : Value := .agg #[.string r.head, .int .i64 r.schema, .slice q.a2 r.froms.length q.k2, .slice q.a3 r.where_.length q.k3, .slice q.a4 r.sets.length q.k4]
abbrev rcVal (s : SourceD) (p : SrcAt) (r : RuleD) (q : RuleAt) : Value := .agg #[.slice p.a0 s.issuers.length p.k0, .slice p.a1 s.units.length p.k1, .slice p.a2 s.schemas.length p.k2, .slice p.a3 s.rules.length p.k3, .slice p.a4 s.converts p.k4, .slice p.a5 s.purposes.length p.k5, .string r.head, .int .i64 r.schema, .slice q.a2 r.froms.length q.k2, .slice q.a3 r.where_.length q.k3, .slice q.a4 r.sets.length q.k4]
abbrev TermD.val' (t : TermD) : Value := .agg #[.string t.name, .string t.path, .int .i64 t.var, .int .i64 t.field, .int .i64 t.n]
structure Rul (w : World) (r : RuleD) (q : RuleAt) : Prop where
  h2 : Sl 8 RFromD w q.a2 r.froms
  h3 : Sl 11 RAtomD w q.a3 r.where_
  h4 : Sl 7 RSetD w q.a4 r.sets
theorem Rul.below {w w' : World} {r : RuleD} {q : RuleAt} (h : Rul w r q) (hb : Below w.heap.size w w') : Rul w' r q :=
  ⟨h.h2.below RFromD.stab hb, h.h3.below RAtomD.stab hb, h.h4.below RSetD.stab hb⟩
/-- the type of a term that is a field of one of the first n variables -/
def termTy? (s : SourceD) (fs : List FromD) (t : TermD) (n : Int) : Option TyD := if 0 ≤ t.var ∧ t.var < n then (match fs[t.var.toNat]? with | some f => typeOf? s f.schema t.field | none => none) else none
set_option maxRecDepth 20000 in
set_option maxHeartbeats 2000000 in
theorem termType_out (s : SourceD) (p : SrcAt) (r : RuleD) (q : RuleAt) (t : TermD) (n : Int) (w : World) (h : ¬ (0 ≤ t.var ∧ t.var < n)) :
    Calls Try.prog 72 #[rcVal s p r q, t.val', .int .i64 n] w fun e w' => (∃ (y : TyD) (an : Option Addr) (kn : Nat), e = .returned (.tuple #[y.val an kn, .bool false])) ∧ Below w.heap.size w w' := by
  have H := Lib.hid h
  clear h
  go_enter Try.func72, Try.ntmps72
  go_wp2_with fail
  all_goals (try (exfalso; have := H.out; omega))
  all_goals go_wp2
  all_goals (refine bodyPost_ret (v := .tuple #[tyZero.val none 0, .bool false]) (by simp [results, Try.f72, go_sem, tyZero]) rfl ⟨⟨tyZero, none, 0, rfl⟩, ?_⟩)
  all_goals (repeat (first | exact Below.refl _ _ | refine Below.alloc ?_ (by first | (simp; done) | (simp; omega)) _ | refine Below.setCell ?_ (by first | (simp; done) | (simp; omega)) _ | refine below_drewN ?_ _))
set_option maxRecDepth 20000 in
set_option maxHeartbeats 2000000 in
theorem termType_in (s : SourceD) (p : SrcAt) (r : RuleD) (q : RuleAt) (t : TermD) (n : Int) (wb : World) (hs : Src wb s p) (hr : Rul wb r q) (w : World) (hbb : Below wb.heap.size wb w)
    (h0 : 0 ≤ t.var) (h1 : t.var < n) (h2 : n ≤ r.froms.length) (f : FromD) (hf : r.froms[t.var.toNat]? = some f) :
    Calls Try.prog 72 #[rcVal s p r q, t.val', .int .i64 n] w fun e w' => UsRes wb e (typeOf? s f.schema t.field) ∧ Below w.heap.size w w' := by
  have hlt : t.var.toNat < r.froms.length := by omega
  have h3 : t.var < (r.froms.length : Int) := by omega
  obtain ⟨b, off, e1, hl_c, _, c0, c1, c2, c3, c4, c5, c6, c7⟩ := FromD.out ((hr.below hbb).h2) t.var.toNat hlt
  rw [List.getElem?_eq_getElem hlt, Option.some.injEq] at hf
  rw [hf] at c0 c1 c2 c3 c4 c5 c6 c7
  obtain ⟨f2, l2, f3, l3, f4, l4⟩ := q
  simp only at e1
  subst e1
  have Hbb := Lib.hid hbb
  have Hsb := Lib.hid hs
  clear hs hr hbb hf
  cases hty : typeOf? s f.schema t.field with
  | none =>
    have hno := fun w' h' => typeOf_no s p f.schema t.field hty w' h'
    have Hno := Lib.hid hno
    clear hno hty
    go_enter Try.func72, Try.ntmps72
    go_wp2_with fail
    generalize hw0 : World.alloc _ _ = w0
    obtain ⟨X0, X1, X2, hsz, hb0⟩ := blk3 hw0
    replace c0 := cell_kept hb0 c0 hl_c
    replace c1 := cell_kept hb0 c1 hl_c
    replace c2 := cell_kept hb0 c2 hl_c
    replace c3 := cell_kept hb0 c3 hl_c
    replace c4 := cell_kept hb0 c4 hl_c
    replace c5 := cell_kept hb0 c5 hl_c
    replace c6 := cell_kept hb0 c6 hl_c
    replace c7 := cell_kept hb0 c7 hl_c
    have hw_c := hl_c
    replace hl_c := Nat.lt_of_lt_of_le hl_c hb0.size
    have x0 : w0.cell? ⟨w.heap.size, 0, none⟩ = some (.slice p.a0 s.issuers.length p.k0) := X0.cell 0
    have x1 : w0.cell? ⟨w.heap.size, 1, none⟩ = some (.slice p.a1 s.units.length p.k1) := X0.cell 1
    have x2 : w0.cell? ⟨w.heap.size, 2, none⟩ = some (.slice p.a2 s.schemas.length p.k2) := X0.cell 2
    have x3 : w0.cell? ⟨w.heap.size, 3, none⟩ = some (.slice p.a3 s.rules.length p.k3) := X0.cell 3
    have x4 : w0.cell? ⟨w.heap.size, 4, none⟩ = some (.slice p.a4 s.converts p.k4) := X0.cell 4
    have x5 : w0.cell? ⟨w.heap.size, 5, none⟩ = some (.slice p.a5 s.purposes.length p.k5) := X0.cell 5
    have x6 : w0.cell? ⟨w.heap.size, 6, none⟩ = some (.string r.head) := X0.cell 6
    have x7 : w0.cell? ⟨w.heap.size, 7, none⟩ = some (.int .i64 r.schema) := X0.cell 7
    have x8 : w0.cell? ⟨w.heap.size, 8, none⟩ = some (.slice (some ⟨b, off, none⟩) r.froms.length l2) := X0.cell 8
    have x9 : w0.cell? ⟨w.heap.size, 9, none⟩ = some (.slice f3 r.where_.length l3) := X0.cell 9
    have x10 : w0.cell? ⟨w.heap.size, 10, none⟩ = some (.slice f4 r.sets.length l4) := X0.cell 10
    have hl_x : w.heap.size < w0.heap.size := by omega
    have y0 : w0.cell? ⟨w.heap.size + 1, 0, none⟩ = some (.string t.name) := X1.cell 0
    have y1 : w0.cell? ⟨w.heap.size + 1, 1, none⟩ = some (.string t.path) := X1.cell 1
    have y2 : w0.cell? ⟨w.heap.size + 1, 2, none⟩ = some (.int .i64 t.var) := X1.cell 2
    have y3 : w0.cell? ⟨w.heap.size + 1, 3, none⟩ = some (.int .i64 t.field) := X1.cell 3
    have y4 : w0.cell? ⟨w.heap.size + 1, 4, none⟩ = some (.int .i64 t.n) := X1.cell 4
    have hl_y : w.heap.size + 1 < w0.heap.size := by omega
    have z0 : w0.cell? ⟨w.heap.size + 1 + 1, 0, none⟩ = some (.int .i64 0) := X2.cell 0
    have z1 : w0.cell? ⟨w.heap.size + 1 + 1, 1, none⟩ = some (.int .i64 0) := X2.cell 1
    have z2 : w0.cell? ⟨w.heap.size + 1 + 1, 2, none⟩ = some (.int .i64 0) := X2.cell 2
    have z3 : w0.cell? ⟨w.heap.size + 1 + 1, 3, none⟩ = some (.string ⟨#[]⟩) := X2.cell 3
    have z4 : w0.cell? ⟨w.heap.size + 1 + 1, 4, none⟩ = some (.int .i64 0) := X2.cell 4
    have z5 : w0.cell? ⟨w.heap.size + 1 + 1, 5, none⟩ = some (.slice none 0 0) := X2.cell 5
    have hl_z : w.heap.size + 1 + 1 < w0.heap.size := by omega
    have HBz := Lib.hid X2
    have hwl : w.heap.size ≤ w0.heap.size := hb0.size
    have Hb := Lib.hid hb0
    clear hw0 hb0 hsz X0 X1 X2
    refine wp_region_grown_tail 15 (by kernel_rfl) (by kernel_rfl) (by kernel_rfl) ?_
    simp only [List.take_succ_cons, List.take_zero, List.drop_succ_cons, List.drop_zero]
    repeat (go_big_quiet_step (first | (go_at_call 40; exact calls_grown (Hno.out _ (Hsb.out.below (Hbb.out.trans (Below.mono (Hb.out.trans ((grown_below _ _).mono hwl)) Hbb.out.size)))))))
    refine wpQuiet_nil ?_
    intro w1 hw0
    have hb1 : Below w0.heap.size w0 w1 := by obtain ⟨n, rfl⟩ := hw0; exact grown_below _ n
    clear hw0
    replace x0 := cell_kept hb1 x0 hl_x
    replace x1 := cell_kept hb1 x1 hl_x
    replace x2 := cell_kept hb1 x2 hl_x
    replace x3 := cell_kept hb1 x3 hl_x
    replace x4 := cell_kept hb1 x4 hl_x
    replace x5 := cell_kept hb1 x5 hl_x
    replace x6 := cell_kept hb1 x6 hl_x
    replace x7 := cell_kept hb1 x7 hl_x
    replace x8 := cell_kept hb1 x8 hl_x
    replace x9 := cell_kept hb1 x9 hl_x
    replace x10 := cell_kept hb1 x10 hl_x
    replace y0 := cell_kept hb1 y0 hl_y
    replace y1 := cell_kept hb1 y1 hl_y
    replace y2 := cell_kept hb1 y2 hl_y
    replace y3 := cell_kept hb1 y3 hl_y
    replace y4 := cell_kept hb1 y4 hl_y
    replace z0 := cell_kept hb1 z0 hl_z
    replace z1 := cell_kept hb1 z1 hl_z
    replace z2 := cell_kept hb1 z2 hl_z
    replace z3 := cell_kept hb1 z3 hl_z
    replace z4 := cell_kept hb1 z4 hl_z
    replace z5 := cell_kept hb1 z5 hl_z
    replace c0 := cell_kept hb1 c0 hl_c
    replace c1 := cell_kept hb1 c1 hl_c
    replace c2 := cell_kept hb1 c2 hl_c
    replace c3 := cell_kept hb1 c3 hl_c
    replace c4 := cell_kept hb1 c4 hl_c
    replace c5 := cell_kept hb1 c5 hl_c
    replace c6 := cell_kept hb1 c6 hl_c
    replace c7 := cell_kept hb1 c7 hl_c
    replace HBz := Lib.hid (HBz.out.below hb1 hl_z)
    replace Hb := Lib.hid (Hb.out.trans (hb1.mono hwl))
    replace hl_x := Nat.lt_of_lt_of_le hl_x hb1.size
    replace hl_y := Nat.lt_of_lt_of_le hl_y hb1.size
    replace hl_z := Nat.lt_of_lt_of_le hl_z hb1.size
    replace hl_c := Nat.lt_of_lt_of_le hl_c hb1.size
    replace hwl := Nat.le_trans hwl hb1.size
    clear hb1
    have z_0 := HBz.out.frozen 0
    have z_1 := HBz.out.frozen 1
    have z_2 := HBz.out.frozen 2
    have z_3 := HBz.out.frozen 3
    have z_4 := HBz.out.frozen 4
    have z_5 := HBz.out.frozen 5
    go_wp2_with fail
    clear z_0 z_1 z_2 z_3 z_4 z_5
    generalize hw0 : World.setCell _ _ _ = w2
    obtain ⟨X0, hoth, hsz, hbel, hblk⟩ := stored (vs := [.int .i64 0, .int .i64 0, .int .i64 0, .string ⟨#[]⟩, .int .i64 0, .slice none 0 0]) HBz.out rfl hw0
    replace x0 := hoth x0 (by omega)
    replace x1 := hoth x1 (by omega)
    replace x2 := hoth x2 (by omega)
    replace x3 := hoth x3 (by omega)
    replace x4 := hoth x4 (by omega)
    replace x5 := hoth x5 (by omega)
    replace x6 := hoth x6 (by omega)
    replace x7 := hoth x7 (by omega)
    replace x8 := hoth x8 (by omega)
    replace x9 := hoth x9 (by omega)
    replace x10 := hoth x10 (by omega)
    replace y0 := hoth y0 (by omega)
    replace y1 := hoth y1 (by omega)
    replace y2 := hoth y2 (by omega)
    replace y3 := hoth y3 (by omega)
    replace y4 := hoth y4 (by omega)
    replace c0 := hoth c0 (by omega)
    replace c1 := hoth c1 (by omega)
    replace c2 := hoth c2 (by omega)
    replace c3 := hoth c3 (by omega)
    replace c4 := hoth c4 (by omega)
    replace c5 := hoth c5 (by omega)
    replace c6 := hoth c6 (by omega)
    replace c7 := hoth c7 (by omega)
    replace z0 : w2.cell? ⟨w.heap.size + 1 + 1, 0, none⟩ = some (.int .i64 0) := X0.cell 0
    replace z1 : w2.cell? ⟨w.heap.size + 1 + 1, 1, none⟩ = some (.int .i64 0) := X0.cell 1
    replace z2 : w2.cell? ⟨w.heap.size + 1 + 1, 2, none⟩ = some (.int .i64 0) := X0.cell 2
    replace z3 : w2.cell? ⟨w.heap.size + 1 + 1, 3, none⟩ = some (.string ⟨#[]⟩) := X0.cell 3
    replace z4 : w2.cell? ⟨w.heap.size + 1 + 1, 4, none⟩ = some (.int .i64 0) := X0.cell 4
    replace z5 : w2.cell? ⟨w.heap.size + 1 + 1, 5, none⟩ = some (.slice none 0 0) := X0.cell 5
    replace HBz := Lib.hid X0
    have hb1 := hbel w.heap.size (by omega)
    replace Hb := Lib.hid (Hb.out.trans hb1)
    replace hl_x : w.heap.size < w2.heap.size := by omega
    replace hl_y : w.heap.size + 1 < w2.heap.size := by omega
    replace hl_z : w.heap.size + 1 + 1 < w2.heap.size := by omega
    replace hl_c : b < w2.heap.size := by omega
    replace hwl : w.heap.size ≤ w2.heap.size := by omega
    clear hw0 hoth hsz hbel hblk X0 hb1
    refine bodyPost_ret (v := .tuple #[tyZero.val none 0, .bool false]) (by simp [results, Try.f72, go_sem, tyZero, *]) rfl ⟨⟨tyZero, none, 0, rfl⟩, Hb.out⟩
  | some ty =>
    obtain ⟨an, kn, hn, hc⟩ := typeOf_fix s p f.schema t.field ty hty wb Hsb.out
    have Hn := Lib.hid hn
    have Hc := Lib.hid hc
    clear hn hc hty
    go_enter Try.func72, Try.ntmps72
    go_wp2_with fail
    generalize hw0 : World.alloc _ _ = w0
    obtain ⟨X0, X1, X2, hsz, hb0⟩ := blk3 hw0
    replace c0 := cell_kept hb0 c0 hl_c
    replace c1 := cell_kept hb0 c1 hl_c
    replace c2 := cell_kept hb0 c2 hl_c
    replace c3 := cell_kept hb0 c3 hl_c
    replace c4 := cell_kept hb0 c4 hl_c
    replace c5 := cell_kept hb0 c5 hl_c
    replace c6 := cell_kept hb0 c6 hl_c
    replace c7 := cell_kept hb0 c7 hl_c
    have hw_c := hl_c
    replace hl_c := Nat.lt_of_lt_of_le hl_c hb0.size
    have x0 : w0.cell? ⟨w.heap.size, 0, none⟩ = some (.slice p.a0 s.issuers.length p.k0) := X0.cell 0
    have x1 : w0.cell? ⟨w.heap.size, 1, none⟩ = some (.slice p.a1 s.units.length p.k1) := X0.cell 1
    have x2 : w0.cell? ⟨w.heap.size, 2, none⟩ = some (.slice p.a2 s.schemas.length p.k2) := X0.cell 2
    have x3 : w0.cell? ⟨w.heap.size, 3, none⟩ = some (.slice p.a3 s.rules.length p.k3) := X0.cell 3
    have x4 : w0.cell? ⟨w.heap.size, 4, none⟩ = some (.slice p.a4 s.converts p.k4) := X0.cell 4
    have x5 : w0.cell? ⟨w.heap.size, 5, none⟩ = some (.slice p.a5 s.purposes.length p.k5) := X0.cell 5
    have x6 : w0.cell? ⟨w.heap.size, 6, none⟩ = some (.string r.head) := X0.cell 6
    have x7 : w0.cell? ⟨w.heap.size, 7, none⟩ = some (.int .i64 r.schema) := X0.cell 7
    have x8 : w0.cell? ⟨w.heap.size, 8, none⟩ = some (.slice (some ⟨b, off, none⟩) r.froms.length l2) := X0.cell 8
    have x9 : w0.cell? ⟨w.heap.size, 9, none⟩ = some (.slice f3 r.where_.length l3) := X0.cell 9
    have x10 : w0.cell? ⟨w.heap.size, 10, none⟩ = some (.slice f4 r.sets.length l4) := X0.cell 10
    have hl_x : w.heap.size < w0.heap.size := by omega
    have y0 : w0.cell? ⟨w.heap.size + 1, 0, none⟩ = some (.string t.name) := X1.cell 0
    have y1 : w0.cell? ⟨w.heap.size + 1, 1, none⟩ = some (.string t.path) := X1.cell 1
    have y2 : w0.cell? ⟨w.heap.size + 1, 2, none⟩ = some (.int .i64 t.var) := X1.cell 2
    have y3 : w0.cell? ⟨w.heap.size + 1, 3, none⟩ = some (.int .i64 t.field) := X1.cell 3
    have y4 : w0.cell? ⟨w.heap.size + 1, 4, none⟩ = some (.int .i64 t.n) := X1.cell 4
    have hl_y : w.heap.size + 1 < w0.heap.size := by omega
    have z0 : w0.cell? ⟨w.heap.size + 1 + 1, 0, none⟩ = some (.int .i64 0) := X2.cell 0
    have z1 : w0.cell? ⟨w.heap.size + 1 + 1, 1, none⟩ = some (.int .i64 0) := X2.cell 1
    have z2 : w0.cell? ⟨w.heap.size + 1 + 1, 2, none⟩ = some (.int .i64 0) := X2.cell 2
    have z3 : w0.cell? ⟨w.heap.size + 1 + 1, 3, none⟩ = some (.string ⟨#[]⟩) := X2.cell 3
    have z4 : w0.cell? ⟨w.heap.size + 1 + 1, 4, none⟩ = some (.int .i64 0) := X2.cell 4
    have z5 : w0.cell? ⟨w.heap.size + 1 + 1, 5, none⟩ = some (.slice none 0 0) := X2.cell 5
    have hl_z : w.heap.size + 1 + 1 < w0.heap.size := by omega
    have HBz := Lib.hid X2
    have hwl : w.heap.size ≤ w0.heap.size := hb0.size
    have Hb := Lib.hid hb0
    clear hw0 hb0 hsz X0 X1 X2
    refine wp_region_grown_tail 15 (by kernel_rfl) (by kernel_rfl) (by kernel_rfl) ?_
    simp only [List.take_succ_cons, List.take_zero, List.drop_succ_cons, List.drop_zero]
    repeat (go_big_quiet_step (first | (go_at_call 40; exact calls_grown (Hc.out _ (Hbb.out.trans (Below.mono (Hb.out.trans ((grown_below _ _).mono hwl)) Hbb.out.size))))))
    refine wpQuiet_nil ?_
    intro w1 hw0
    have hb1 : Below w0.heap.size w0 w1 := by obtain ⟨n, rfl⟩ := hw0; exact grown_below _ n
    clear hw0
    replace x0 := cell_kept hb1 x0 hl_x
    replace x1 := cell_kept hb1 x1 hl_x
    replace x2 := cell_kept hb1 x2 hl_x
    replace x3 := cell_kept hb1 x3 hl_x
    replace x4 := cell_kept hb1 x4 hl_x
    replace x5 := cell_kept hb1 x5 hl_x
    replace x6 := cell_kept hb1 x6 hl_x
    replace x7 := cell_kept hb1 x7 hl_x
    replace x8 := cell_kept hb1 x8 hl_x
    replace x9 := cell_kept hb1 x9 hl_x
    replace x10 := cell_kept hb1 x10 hl_x
    replace y0 := cell_kept hb1 y0 hl_y
    replace y1 := cell_kept hb1 y1 hl_y
    replace y2 := cell_kept hb1 y2 hl_y
    replace y3 := cell_kept hb1 y3 hl_y
    replace y4 := cell_kept hb1 y4 hl_y
    replace z0 := cell_kept hb1 z0 hl_z
    replace z1 := cell_kept hb1 z1 hl_z
    replace z2 := cell_kept hb1 z2 hl_z
    replace z3 := cell_kept hb1 z3 hl_z
    replace z4 := cell_kept hb1 z4 hl_z
    replace z5 := cell_kept hb1 z5 hl_z
    replace c0 := cell_kept hb1 c0 hl_c
    replace c1 := cell_kept hb1 c1 hl_c
    replace c2 := cell_kept hb1 c2 hl_c
    replace c3 := cell_kept hb1 c3 hl_c
    replace c4 := cell_kept hb1 c4 hl_c
    replace c5 := cell_kept hb1 c5 hl_c
    replace c6 := cell_kept hb1 c6 hl_c
    replace c7 := cell_kept hb1 c7 hl_c
    replace HBz := Lib.hid (HBz.out.below hb1 hl_z)
    replace Hb := Lib.hid (Hb.out.trans (hb1.mono hwl))
    replace hl_x := Nat.lt_of_lt_of_le hl_x hb1.size
    replace hl_y := Nat.lt_of_lt_of_le hl_y hb1.size
    replace hl_z := Nat.lt_of_lt_of_le hl_z hb1.size
    replace hl_c := Nat.lt_of_lt_of_le hl_c hb1.size
    replace hwl := Nat.le_trans hwl hb1.size
    clear hb1
    have z_0 := HBz.out.frozen 0
    have z_1 := HBz.out.frozen 1
    have z_2 := HBz.out.frozen 2
    have z_3 := HBz.out.frozen 3
    have z_4 := HBz.out.frozen 4
    have z_5 := HBz.out.frozen 5
    go_wp2_with fail
    clear z_0 z_1 z_2 z_3 z_4 z_5
    generalize hw0 : World.setCell _ _ _ = w2
    obtain ⟨X0, hoth, hsz, hbel, hblk⟩ := stored (vs := [.int .i64 ty.kind, .int .i64 ty.lo, .int .i64 ty.hi, .string ty.of_, .int .i64 ty.unit, .slice an ty.names.length kn]) HBz.out rfl hw0
    replace x0 := hoth x0 (by omega)
    replace x1 := hoth x1 (by omega)
    replace x2 := hoth x2 (by omega)
    replace x3 := hoth x3 (by omega)
    replace x4 := hoth x4 (by omega)
    replace x5 := hoth x5 (by omega)
    replace x6 := hoth x6 (by omega)
    replace x7 := hoth x7 (by omega)
    replace x8 := hoth x8 (by omega)
    replace x9 := hoth x9 (by omega)
    replace x10 := hoth x10 (by omega)
    replace y0 := hoth y0 (by omega)
    replace y1 := hoth y1 (by omega)
    replace y2 := hoth y2 (by omega)
    replace y3 := hoth y3 (by omega)
    replace y4 := hoth y4 (by omega)
    replace c0 := hoth c0 (by omega)
    replace c1 := hoth c1 (by omega)
    replace c2 := hoth c2 (by omega)
    replace c3 := hoth c3 (by omega)
    replace c4 := hoth c4 (by omega)
    replace c5 := hoth c5 (by omega)
    replace c6 := hoth c6 (by omega)
    replace c7 := hoth c7 (by omega)
    replace z0 : w2.cell? ⟨w.heap.size + 1 + 1, 0, none⟩ = some (.int .i64 ty.kind) := X0.cell 0
    replace z1 : w2.cell? ⟨w.heap.size + 1 + 1, 1, none⟩ = some (.int .i64 ty.lo) := X0.cell 1
    replace z2 : w2.cell? ⟨w.heap.size + 1 + 1, 2, none⟩ = some (.int .i64 ty.hi) := X0.cell 2
    replace z3 : w2.cell? ⟨w.heap.size + 1 + 1, 3, none⟩ = some (.string ty.of_) := X0.cell 3
    replace z4 : w2.cell? ⟨w.heap.size + 1 + 1, 4, none⟩ = some (.int .i64 ty.unit) := X0.cell 4
    replace z5 : w2.cell? ⟨w.heap.size + 1 + 1, 5, none⟩ = some (.slice an ty.names.length kn) := X0.cell 5
    replace HBz := Lib.hid X0
    have hb1 := hbel w.heap.size (by omega)
    replace Hb := Lib.hid (Hb.out.trans hb1)
    replace hl_x : w.heap.size < w2.heap.size := by omega
    replace hl_y : w.heap.size + 1 < w2.heap.size := by omega
    replace hl_z : w.heap.size + 1 + 1 < w2.heap.size := by omega
    replace hl_c : b < w2.heap.size := by omega
    replace hwl : w.heap.size ≤ w2.heap.size := by omega
    clear hw0 hoth hsz hbel hblk X0 hb1
    refine bodyPost_ret (v := .tuple #[ty.val an kn, .bool true]) (by simp [results, Try.f72, go_sem, *]) rfl ⟨⟨an, kn, rfl, Hn.out⟩, Hb.out⟩
theorem termType_any (s : SourceD) (p : SrcAt) (r : RuleD) (q : RuleAt) (t : TermD) (n : Int) (wb : World) (hs : Src wb s p) (hr : Rul wb r q) (w : World) (hbb : Below wb.heap.size wb w) (h2 : n ≤ r.froms.length) :
    Calls Try.prog 72 #[rcVal s p r q, t.val', .int .i64 n] w fun e w' => UsRes wb e (termTy? s r.froms t n) ∧ Below w.heap.size w w' := by
  unfold termTy?
  by_cases h : 0 ≤ t.var ∧ t.var < n
  · rw [if_pos h]
    have hlt : t.var.toNat < r.froms.length := by omega
    rw [List.getElem?_eq_getElem hlt]
    exact termType_in s p r q t n wb hs hr w hbb h.1 h.2 h2 _ (List.getElem?_eq_getElem hlt)
  · rw [if_neg h]
    exact termType_out s p r q t n w h
end Go.Proofs.Ytogenjbabgibbaa
namespace Go.Proofs.Ytogenjbabgibbaa
open Go.RowKit
def schIn (s : SourceD) (n : Int) : Bool := decide (0 ≤ n) && decide (n < s.schemas.length)
/-- is variable i of a rule valid -/
def fromB (s : SourceD) (fs : List FromD) (i : Nat) : Bool := match fs[i]? with
  | some f => schIn s f.schema && (decide (f.of_.var = -1) || match termTy? s fs f.of_ i with | some t => decide (t.kind = 3) | none => false)
  | none => true
def fromsB (s : SourceD) (fs : List FromD) : Bool := decide (1 ≤ fs.length) && decide (fs.length ≤ 3) && (List.range fs.length).all (fromB s fs)
theorem range_all {n : Nat} {f : Nat → Bool} (h : ∀ j, j < n → f j = true) : (List.range n).all f = true := by
  rw [List.all_eq_true]; intro x hx; exact h x (List.mem_range.1 hx)
theorem range_not {n k : Nat} {f : Nat → Bool} (hk : k < n) (h : f k = false) : (List.range n).all f = false := by
  rw [List.all_eq_false]; exact ⟨k, List.mem_range.2 hk, by simp [h]⟩
set_option maxRecDepth 20000 in
set_option maxHeartbeats 4000000 in
theorem fromsOK_any (s : SourceD) (p : SrcAt) (r : RuleD) (q : RuleAt) (wb : World) (hs : Src wb s p) (hr : Rul wb r q) (w : World) (hbb : Below wb.heap.size wb w) :
    Calls Try.prog 53 #[rcVal s p r q] w fun e w' => e = .returned (.bool (fromsB s r.froms)) ∧ Below w.heap.size w w' := by
  by_cases hlen : 1 ≤ r.froms.length ∧ r.froms.length ≤ 3
  case neg =>
    have H := Lib.hid hlen
    clear hs hr hbb hlen
    go_enter Try.func53, Try.ntmps53
    go_wp2
    all_goals (try (exfalso; have := H.out; omega))
    all_goals go_ret
    all_goals exact ⟨ret_bool (by have := H.out; simp [fromsB]; intros; omega), by (repeat (first | exact Below.refl _ _ | refine Below.alloc ?_ (by first | (simp; done) | (simp; omega)) _ | refine Below.setCell ?_ (by first | (simp; done) | (simp; omega)) _ | refine below_drewN ?_ _))⟩
  obtain ⟨hl1, hl3⟩ := hlen
  obtain ⟨b, off, e1, -⟩ := FromD.out hr.h2 0 (by omega)
  obtain ⟨f2, l2, f3, l3, f4, l4⟩ := q
  simp only at e1
  subst e1
  have hfb : ∀ k (h : k < r.froms.length), fromB s r.froms k = (schIn s r.froms[k].schema && (decide (r.froms[k].of_.var = -1) || match termTy? s r.froms r.froms[k].of_ k with | some t => decide (t.kind = 3) | none => false)) := fun k h => by
    unfold fromB; rw [List.getElem?_eq_getElem h]
  have Hfb := Lib.hid hfb
  have Hs := Lib.hid hs
  have Hr := Lib.hid hr
  have Hbb := Lib.hid hbb
  clear hs hr hbb hfb
  go_enter Try.func53, Try.ntmps53
  go_wp2_with fail
  all_goals (try (exfalso; omega))
  generalize hw0 : World.alloc _ _ = w0
  obtain ⟨X0, hsz, hb0⟩ := blk1 hw0
  have x0 : w0.cell? ⟨w.heap.size, 0, none⟩ = some (.slice p.a0 s.issuers.length p.k0) := X0.cell 0
  have x1 : w0.cell? ⟨w.heap.size, 1, none⟩ = some (.slice p.a1 s.units.length p.k1) := X0.cell 1
  have x2 : w0.cell? ⟨w.heap.size, 2, none⟩ = some (.slice p.a2 s.schemas.length p.k2) := X0.cell 2
  have x3 : w0.cell? ⟨w.heap.size, 3, none⟩ = some (.slice p.a3 s.rules.length p.k3) := X0.cell 3
  have x4 : w0.cell? ⟨w.heap.size, 4, none⟩ = some (.slice p.a4 s.converts p.k4) := X0.cell 4
  have x5 : w0.cell? ⟨w.heap.size, 5, none⟩ = some (.slice p.a5 s.purposes.length p.k5) := X0.cell 5
  have x6 : w0.cell? ⟨w.heap.size, 6, none⟩ = some (.string r.head) := X0.cell 6
  have x7 : w0.cell? ⟨w.heap.size, 7, none⟩ = some (.int .i64 r.schema) := X0.cell 7
  have x8 : w0.cell? ⟨w.heap.size, 8, none⟩ = some (.slice (some ⟨b, off, none⟩) r.froms.length l2) := X0.cell 8
  have x9 : w0.cell? ⟨w.heap.size, 9, none⟩ = some (.slice f3 r.where_.length l3) := X0.cell 9
  have x10 : w0.cell? ⟨w.heap.size, 10, none⟩ = some (.slice f4 r.sets.length l4) := X0.cell 10
  have hl_x : w.heap.size < w0.heap.size := by omega
  have hwl : w.heap.size ≤ w0.heap.size := hb0.size
  have Hb := Lib.hid hb0
  clear hw0 hb0 hsz X0
  go_loopw [23] (fun i wr => ∃ k : Nat, k ≤ r.froms.length ∧ i = .int .i64 k ∧ Hid (∀ j, j < k → fromB s r.froms j = true) ∧ Below w0.heap.size w0 wr) (fun i _ => r.froms.length - (intOf i).toNat)
  case atStart => exact ⟨0, Nat.zero_le _, rfl, Lib.hid (fun j hj => absurd hj (Nat.not_lt_zero j)), Below.refl _ _⟩
  case round =>
    obtain ⟨k, hk, rfl, Hn, hb1⟩ := hrel
    have Hb1 := Lib.hid hb1
    have hwl1 := hb1.size
    replace x0 := cell_kept hb1 x0 hl_x
    replace x1 := cell_kept hb1 x1 hl_x
    replace x2 := cell_kept hb1 x2 hl_x
    replace x3 := cell_kept hb1 x3 hl_x
    replace x4 := cell_kept hb1 x4 hl_x
    replace x5 := cell_kept hb1 x5 hl_x
    replace x6 := cell_kept hb1 x6 hl_x
    replace x7 := cell_kept hb1 x7 hl_x
    replace x8 := cell_kept hb1 x8 hl_x
    replace x9 := cell_kept hb1 x9 hl_x
    replace x10 := cell_kept hb1 x10 hl_x
    replace Hb := Lib.hid (Hb.out.trans (hb1.mono hwl))
    replace hl_x := Nat.lt_of_lt_of_le hl_x hb1.size
    replace hwl := Nat.le_trans hwl hb1.size
    clear hb1
    by_cases hlt : k < r.froms.length
    case neg =>
      go_wp2
      go_ret
      exact ⟨ret_bool (by simp only [fromsB, range_all (n := r.froms.length) (f := fromB s r.froms) (fun j hj => Hn.out j (by omega))]; simp [hl1, hl3]), Hb.out⟩
    have hlt' : (k : Int) < (r.froms.length : Int) := by omega
    obtain ⟨b', off', e1, hl_c, _, c0, c1, c2, c3, c4, c5, c6, c7⟩ := FromD.out ((Hr.out.below Hbb.out).h2.below RFromD.stab Hb.out) k hlt
    simp only [Option.some.injEq, Addr.mk.injEq, and_true] at e1
    obtain ⟨rfl, rfl⟩ := e1
    have Hv := Lib.hid (Hfb.out k hlt)
    generalize r.froms[k] = f at *
    by_cases hsc : 0 ≤ f.schema ∧ f.schema < s.schemas.length
    case neg =>
      have Hsc := Lib.hid hsc
      clear hsc
      go_wp2_with fail
      all_goals (try (exfalso; have := Hsc.out; omega))
      all_goals go_ret
      all_goals (refine ⟨ret_bool ?_, Hb.out.alloc hwl _⟩)
      all_goals (have hno : fromB s r.froms k = false := by rw [Hv.out]; have := Hsc.out; simp [schIn]; intros; omega)
      all_goals (simp [fromsB, range_not hlt hno])
    have hsi : schIn s f.schema = true := by simp [schIn, hsc]
    obtain ⟨hsc0, hsc1⟩ := hsc
    have Hsi := Lib.hid hsi
    clear hsi
    by_cases hm : f.of_.var = -1
    case pos =>
      have Hm := Lib.hid hm
      clear hm
      go_wp2_with fail
      all_goals (try (exfalso; have := Hm.out; simp at *; omega))
      all_goals go_roundw
      case rel => exact ⟨k + 1, by omega, by go_num, Lib.hid (fun j hj => by
        by_cases e : j = k
        · subst e; rw [Hv.out, Hsi.out, Hm.out]; simp
        · exact Hn.out j (by omega)), Hb1.out.alloc hwl1 _⟩
      case measure => simp [intOf]; omega
    have dm : (f.of_.var == -1) = false := by simpa using hm
    have Hm := Lib.hid hm
    clear hm
    go_wp2_with fail
    generalize hw0 : World.alloc _ _ = w2
    obtain ⟨X0, hsz, hb1⟩ := blk1 hw0
    have y0 : w2.cell? ⟨wr.heap.size, 0, none⟩ = some (.string f.name) := X0.cell 0
    have y1 : w2.cell? ⟨wr.heap.size, 1, none⟩ = some (.string f.kind) := X0.cell 1
    have y2 : w2.cell? ⟨wr.heap.size, 2, none⟩ = some (.int .i64 f.schema) := X0.cell 2
    have y3 : w2.cell? ⟨wr.heap.size, 3, none⟩ = some (.string f.of_.name) := X0.cell 3
    have y4 : w2.cell? ⟨wr.heap.size, 4, none⟩ = some (.string f.of_.path) := X0.cell 4
    have y5 : w2.cell? ⟨wr.heap.size, 5, none⟩ = some (.int .i64 f.of_.var) := X0.cell 5
    have y6 : w2.cell? ⟨wr.heap.size, 6, none⟩ = some (.int .i64 f.of_.field) := X0.cell 6
    have y7 : w2.cell? ⟨wr.heap.size, 7, none⟩ = some (.int .i64 f.of_.n) := X0.cell 7
    have hl_y : wr.heap.size < w2.heap.size := by omega
    replace x0 := cell_kept hb1 x0 hl_x
    replace x1 := cell_kept hb1 x1 hl_x
    replace x2 := cell_kept hb1 x2 hl_x
    replace x3 := cell_kept hb1 x3 hl_x
    replace x4 := cell_kept hb1 x4 hl_x
    replace x5 := cell_kept hb1 x5 hl_x
    replace x6 := cell_kept hb1 x6 hl_x
    replace x7 := cell_kept hb1 x7 hl_x
    replace x8 := cell_kept hb1 x8 hl_x
    replace x9 := cell_kept hb1 x9 hl_x
    replace x10 := cell_kept hb1 x10 hl_x
    replace c0 := cell_kept hb1 c0 hl_c
    replace c1 := cell_kept hb1 c1 hl_c
    replace c2 := cell_kept hb1 c2 hl_c
    replace c3 := cell_kept hb1 c3 hl_c
    replace c4 := cell_kept hb1 c4 hl_c
    replace c5 := cell_kept hb1 c5 hl_c
    replace c6 := cell_kept hb1 c6 hl_c
    replace c7 := cell_kept hb1 c7 hl_c
    replace Hb := Lib.hid (Hb.out.trans (hb1.mono hwl))
    replace Hb1 := Lib.hid (Hb1.out.trans (hb1.mono hwl1))
    replace hl_x := Nat.lt_of_lt_of_le hl_x hb1.size
    replace hl_c := Nat.lt_of_lt_of_le hl_c hb1.size
    replace hwl := Nat.le_trans hwl hb1.size
    replace hwl1 := Nat.le_trans hwl1 hb1.size
    clear hb1
    clear hw0 hsz X0
    refine (termType_any s p r ⟨some ⟨b, off, none⟩, l2, f3, l3, f4, l4⟩ f.of_ k wb Hs.out Hr.out _ (Hbb.out.trans (Hb.out.mono Hbb.out.size)) (by omega)).mono ?_
    cases htt : termTy? s r.froms f.of_ k with
    | none =>
      rintro e w3 ⟨⟨ty, an, kn, rfl⟩, hb1⟩
      replace x0 := cell_kept hb1 x0 hl_x
      replace x1 := cell_kept hb1 x1 hl_x
      replace x2 := cell_kept hb1 x2 hl_x
      replace x3 := cell_kept hb1 x3 hl_x
      replace x4 := cell_kept hb1 x4 hl_x
      replace x5 := cell_kept hb1 x5 hl_x
      replace x6 := cell_kept hb1 x6 hl_x
      replace x7 := cell_kept hb1 x7 hl_x
      replace x8 := cell_kept hb1 x8 hl_x
      replace x9 := cell_kept hb1 x9 hl_x
      replace x10 := cell_kept hb1 x10 hl_x
      replace c0 := cell_kept hb1 c0 hl_c
      replace c1 := cell_kept hb1 c1 hl_c
      replace c2 := cell_kept hb1 c2 hl_c
      replace c3 := cell_kept hb1 c3 hl_c
      replace c4 := cell_kept hb1 c4 hl_c
      replace c5 := cell_kept hb1 c5 hl_c
      replace c6 := cell_kept hb1 c6 hl_c
      replace c7 := cell_kept hb1 c7 hl_c
      replace Hb := Lib.hid (Hb.out.trans (hb1.mono hwl))
      replace Hb1 := Lib.hid (Hb1.out.trans (hb1.mono hwl1))
      replace hl_x := Nat.lt_of_lt_of_le hl_x hb1.size
      replace hl_c := Nat.lt_of_lt_of_le hl_c hb1.size
      replace hwl := Nat.le_trans hwl hb1.size
      replace hwl1 := Nat.le_trans hwl1 hb1.size
      clear hb1
      go_wp2_with fail
      go_ret
      refine ⟨ret_bool ?_, Hb.out.alloc hwl _⟩
      have hno : fromB s r.froms k = false := by rw [Hv.out, htt]; simp [Hm.out]
      simp [fromsB, range_not hlt hno]
    | some ty =>
      rintro e w3 ⟨⟨an, kn, rfl, hn⟩, hb1⟩
      replace x0 := cell_kept hb1 x0 hl_x
      replace x1 := cell_kept hb1 x1 hl_x
      replace x2 := cell_kept hb1 x2 hl_x
      replace x3 := cell_kept hb1 x3 hl_x
      replace x4 := cell_kept hb1 x4 hl_x
      replace x5 := cell_kept hb1 x5 hl_x
      replace x6 := cell_kept hb1 x6 hl_x
      replace x7 := cell_kept hb1 x7 hl_x
      replace x8 := cell_kept hb1 x8 hl_x
      replace x9 := cell_kept hb1 x9 hl_x
      replace x10 := cell_kept hb1 x10 hl_x
      replace c0 := cell_kept hb1 c0 hl_c
      replace c1 := cell_kept hb1 c1 hl_c
      replace c2 := cell_kept hb1 c2 hl_c
      replace c3 := cell_kept hb1 c3 hl_c
      replace c4 := cell_kept hb1 c4 hl_c
      replace c5 := cell_kept hb1 c5 hl_c
      replace c6 := cell_kept hb1 c6 hl_c
      replace c7 := cell_kept hb1 c7 hl_c
      replace Hb := Lib.hid (Hb.out.trans (hb1.mono hwl))
      replace Hb1 := Lib.hid (Hb1.out.trans (hb1.mono hwl1))
      replace hl_x := Nat.lt_of_lt_of_le hl_x hb1.size
      replace hl_c := Nat.lt_of_lt_of_le hl_c hb1.size
      replace hwl := Nat.le_trans hwl hb1.size
      replace hwl1 := Nat.le_trans hwl1 hb1.size
      clear hb1
      clear hn
      by_cases h3 : ty.kind = 3
      · have Hk := Lib.hid h3
        go_wp2_with fail
        all_goals (try (exfalso; simp at *; omega))
        go_roundw
        case rel => exact ⟨k + 1, by omega, by go_num, Lib.hid (fun j hj => by
          by_cases e : j = k
          · subst e; rw [Hv.out, htt, Hsi.out]; simp [Hk.out]
          · exact Hn.out j (by omega)), Hb1.out.alloc hwl1 _⟩
        case measure => simp [intOf]; omega
      · go_wp2_with fail
        all_goals (try (exfalso; simp at *; omega))
        go_ret
        refine ⟨ret_bool ?_, Hb.out.alloc hwl _⟩
        have hno : fromB s r.froms k = false := by rw [Hv.out, htt]; simp [Hm.out, h3]
        simp [fromsB, range_not hlt hno]
end Go.Proofs.Ytogenjbabgibbaa
namespace Go.Proofs.Ytogenjbabgibbaa
open Go.RowKit
def refIn (s : SourceD) (r : RefD) : Bool := (typeOf? s r.schema r.field).isSome
def purpB (s : SourceD) (pu : PurposeD) : Bool := pu.may.all (refIn s) && (decide (0 ≤ pu.most) && decide (pu.most ≤ 64))
abbrev PurposeD.val (pu : PurposeD) (pa : Option Addr) (pk : Nat) : Value := .agg #[.string pu.name, .slice pa pu.may.length pk, .int .i64 pu.most]
set_option maxRecDepth 20000 in
set_option maxHeartbeats 4000000 in
theorem purposeOK_any (s : SourceD) (p : SrcAt) (pu : PurposeD) (pa : Option Addr) (pk : Nat) (wb : World) (hs : Src wb s p) (hp : Sl 4 RRefD wb pa pu.may) (w : World) (hbb : Below wb.heap.size wb w) (hl : pu.may.length ≤ 100000) :
    Calls Try.prog 32 #[s.val p, pu.val pa pk] w fun e w' => e = .returned (.bool (purpB s pu)) ∧ Below w.heap.size w w' := by
  have Hs := Lib.hid hs
  have Hp := Lib.hid (hp.below RRefD.stab hbb)
  have Hbb := Lib.hid hbb
  clear hs hp hbb
  go_enter Try.func32, Try.ntmps32
  go_wp2_with fail
  generalize hw0 : World.alloc _ _ = w0
  obtain ⟨X0, X1, hsz, hb0⟩ := blk2 hw0
  have x0 : w0.cell? ⟨w.heap.size, 0, none⟩ = some (.slice p.a0 s.issuers.length p.k0) := X0.cell 0
  have x1 : w0.cell? ⟨w.heap.size, 1, none⟩ = some (.slice p.a1 s.units.length p.k1) := X0.cell 1
  have x2 : w0.cell? ⟨w.heap.size, 2, none⟩ = some (.slice p.a2 s.schemas.length p.k2) := X0.cell 2
  have x3 : w0.cell? ⟨w.heap.size, 3, none⟩ = some (.slice p.a3 s.rules.length p.k3) := X0.cell 3
  have x4 : w0.cell? ⟨w.heap.size, 4, none⟩ = some (.slice p.a4 s.converts p.k4) := X0.cell 4
  have x5 : w0.cell? ⟨w.heap.size, 5, none⟩ = some (.slice p.a5 s.purposes.length p.k5) := X0.cell 5
  have hl_x : w.heap.size < w0.heap.size := by omega
  have y0 : w0.cell? ⟨w.heap.size + 1, 0, none⟩ = some (.string pu.name) := X1.cell 0
  have y1 : w0.cell? ⟨w.heap.size + 1, 1, none⟩ = some (.slice pa pu.may.length pk) := X1.cell 1
  have y2 : w0.cell? ⟨w.heap.size + 1, 2, none⟩ = some (.int .i64 pu.most) := X1.cell 2
  have hl_y : w.heap.size + 1 < w0.heap.size := by omega
  have hwl : w.heap.size ≤ w0.heap.size := hb0.size
  have Hb := Lib.hid hb0
  clear hw0 hb0 hsz X0 X1
  go_loopw [12] (fun i wr => ∃ k : Nat, k ≤ pu.may.length ∧ i = .int .i64 k ∧ Hid (PreP (refIn s) pu.may k) ∧ Below w0.heap.size w0 wr) (fun i _ => pu.may.length - (intOf i).toNat)
  case atStart => exact ⟨0, Nat.zero_le _, rfl, Lib.hid PreP.zero, Below.refl _ _⟩
  case round =>
    obtain ⟨k, hk, rfl, Hn, hb1⟩ := hrel
    have Hb1 := Lib.hid hb1
    have hwl1 := hb1.size
    replace x0 := cell_kept hb1 x0 hl_x
    replace x1 := cell_kept hb1 x1 hl_x
    replace x2 := cell_kept hb1 x2 hl_x
    replace x3 := cell_kept hb1 x3 hl_x
    replace x4 := cell_kept hb1 x4 hl_x
    replace x5 := cell_kept hb1 x5 hl_x
    replace y0 := cell_kept hb1 y0 hl_y
    replace y1 := cell_kept hb1 y1 hl_y
    replace y2 := cell_kept hb1 y2 hl_y
    replace Hb := Lib.hid (Hb.out.trans (hb1.mono hwl))
    replace hl_x := Nat.lt_of_lt_of_le hl_x hb1.size
    replace hl_y := Nat.lt_of_lt_of_le hl_y hb1.size
    replace hwl := Nat.le_trans hwl hb1.size
    clear hb1
    by_cases hlt : k < pu.may.length
    case neg =>
      have Hall := Lib.hid (Hn.out.all (by omega))
      go_wp2
      all_goals go_ret
      all_goals exact ⟨ret_bool (by unfold purpB; rw [Hall.out]; symm; simp; omega), Hb.out⟩
    have hlt' : (k : Int) < (pu.may.length : Int) := by omega
    obtain ⟨b, off, e1, hl_c, _, c0, c1, c2, c3⟩ := RefD.out (Hp.out.below RRefD.stab Hb.out) k hlt
    subst e1
    have hsuc := fun h => Hn.out.succ hlt h
    have hno := fun h => not_all (p := refIn s) hlt h
    generalize pu.may[k] = r at *
    have Hsuc := Lib.hid hsuc
    have Hno := Lib.hid hno
    clear hsuc hno
    go_wp2_with fail
    generalize hw0 : World.alloc _ _ = w2
    obtain ⟨X0, hsz, hb1⟩ := blk1 hw0
    have v0 : w2.cell? ⟨wr.heap.size, 0, none⟩ = some (.string r.name) := X0.cell 0
    have v1 : w2.cell? ⟨wr.heap.size, 1, none⟩ = some (.string r.path) := X0.cell 1
    have v2 : w2.cell? ⟨wr.heap.size, 2, none⟩ = some (.int .i64 r.schema) := X0.cell 2
    have v3 : w2.cell? ⟨wr.heap.size, 3, none⟩ = some (.int .i64 r.field) := X0.cell 3
    have hl_v : wr.heap.size < w2.heap.size := by omega
    replace x0 := cell_kept hb1 x0 hl_x
    replace x1 := cell_kept hb1 x1 hl_x
    replace x2 := cell_kept hb1 x2 hl_x
    replace x3 := cell_kept hb1 x3 hl_x
    replace x4 := cell_kept hb1 x4 hl_x
    replace x5 := cell_kept hb1 x5 hl_x
    replace y0 := cell_kept hb1 y0 hl_y
    replace y1 := cell_kept hb1 y1 hl_y
    replace y2 := cell_kept hb1 y2 hl_y
    replace c0 := cell_kept hb1 c0 hl_c
    replace c1 := cell_kept hb1 c1 hl_c
    replace c2 := cell_kept hb1 c2 hl_c
    replace c3 := cell_kept hb1 c3 hl_c
    replace Hb := Lib.hid (Hb.out.trans (hb1.mono hwl))
    replace Hb1 := Lib.hid (Hb1.out.trans (hb1.mono hwl1))
    replace hl_x := Nat.lt_of_lt_of_le hl_x hb1.size
    replace hl_y := Nat.lt_of_lt_of_le hl_y hb1.size
    replace hl_c := Nat.lt_of_lt_of_le hl_c hb1.size
    replace hwl := Nat.le_trans hwl hb1.size
    replace hwl1 := Nat.le_trans hwl1 hb1.size
    clear hb1
    clear hw0 hsz X0
    cases ht : typeOf? s r.schema r.field with
    | none =>
      refine (typeOf_no s p r.schema r.field ht _ (Hs.out.below (Hbb.out.trans (Hb.out.mono Hbb.out.size)))).mono ?_
      rintro e w3 ⟨rfl, hb1⟩
      replace x0 := cell_kept hb1 x0 hl_x
      replace x1 := cell_kept hb1 x1 hl_x
      replace x2 := cell_kept hb1 x2 hl_x
      replace x3 := cell_kept hb1 x3 hl_x
      replace x4 := cell_kept hb1 x4 hl_x
      replace x5 := cell_kept hb1 x5 hl_x
      replace y0 := cell_kept hb1 y0 hl_y
      replace y1 := cell_kept hb1 y1 hl_y
      replace y2 := cell_kept hb1 y2 hl_y
      replace v0 := cell_kept hb1 v0 hl_v
      replace v1 := cell_kept hb1 v1 hl_v
      replace v2 := cell_kept hb1 v2 hl_v
      replace v3 := cell_kept hb1 v3 hl_v
      replace Hb := Lib.hid (Hb.out.trans (hb1.mono hwl))
      replace Hb1 := Lib.hid (Hb1.out.trans (hb1.mono hwl1))
      replace hl_x := Nat.lt_of_lt_of_le hl_x hb1.size
      replace hl_y := Nat.lt_of_lt_of_le hl_y hb1.size
      replace hl_v := Nat.lt_of_lt_of_le hl_v hb1.size
      replace hwl := Nat.le_trans hwl hb1.size
      replace hwl1 := Nat.le_trans hwl1 hb1.size
      clear hb1
      go_wp2_with fail
      go_ret
      exact ⟨ret_bool (by unfold purpB; rw [Hno.out (by simp [refIn, ht])]; rfl), Hb.out.alloc hwl _⟩
    | some t =>
      refine (typeOf_at s p r.schema r.field t ht wb Hs.out _ (Hbb.out.trans (Hb.out.mono Hbb.out.size))).mono ?_
      rintro e w3 ⟨⟨an, kn, rfl, hn⟩, hb1⟩
      replace x0 := cell_kept hb1 x0 hl_x
      replace x1 := cell_kept hb1 x1 hl_x
      replace x2 := cell_kept hb1 x2 hl_x
      replace x3 := cell_kept hb1 x3 hl_x
      replace x4 := cell_kept hb1 x4 hl_x
      replace x5 := cell_kept hb1 x5 hl_x
      replace y0 := cell_kept hb1 y0 hl_y
      replace y1 := cell_kept hb1 y1 hl_y
      replace y2 := cell_kept hb1 y2 hl_y
      replace v0 := cell_kept hb1 v0 hl_v
      replace v1 := cell_kept hb1 v1 hl_v
      replace v2 := cell_kept hb1 v2 hl_v
      replace v3 := cell_kept hb1 v3 hl_v
      replace Hb := Lib.hid (Hb.out.trans (hb1.mono hwl))
      replace Hb1 := Lib.hid (Hb1.out.trans (hb1.mono hwl1))
      replace hl_x := Nat.lt_of_lt_of_le hl_x hb1.size
      replace hl_y := Nat.lt_of_lt_of_le hl_y hb1.size
      replace hl_v := Nat.lt_of_lt_of_le hl_v hb1.size
      replace hwl := Nat.le_trans hwl hb1.size
      replace hwl1 := Nat.le_trans hwl1 hb1.size
      clear hb1
      clear hn
      go_wp2_with fail
      go_roundw
      case rel => exact ⟨k + 1, by omega, by go_num, Lib.hid (Hsuc.out (by simp [refIn, ht])), Hb1.out.alloc hwl1 _⟩
      case measure => simp [intOf]; omega
end Go.Proofs.Ytogenjbabgibbaa
namespace Go.Proofs.Ytogenjbabgibbaa
open Go.RowKit
def wOK (n : Int) : Bool := decide (0 ≤ n) && decide (n ≤ 9)
def fieldB (s : SourceD) (f : FieldD) : Bool := kindB f.ty s.units.length && [f.w0, f.w1, f.w2, f.w3].all wOK
def selfB (l : List FieldD) : Bool := match l[0]? with | some f => decide (f.ty.kind = 3) | none => false
def schB (s : SourceD) (x : SchemaD) : Bool :=
  (decide (0 ≤ x.issuer) && decide (x.issuer < s.issuers.length) && decide (1 ≤ x.version) && decide (x.version ≤ 255) && decide (1 ≤ x.fields.length) && decide (x.fields.length ≤ 12)) && (selfB x.fields && x.fields.all (fieldB s))
abbrev SchemaD.val (x : SchemaD) (fa : Option Addr) (fk : Nat) (da : Option Addr) (dk : Nat) : Value := .agg #[.string x.name, .string x.by_, .int .i64 x.issuer, .int .i64 x.version, .slice fa x.fields.length fk, .slice da x.depends dk]
set_option maxRecDepth 20000 in
set_option maxHeartbeats 8000000 in
theorem schemaOK_any (s : SourceD) (p : SrcAt) (x : SchemaD) (fa : Option Addr) (fk : Nat) (da : Option Addr) (dk : Nat) (wb : World) (hf : Sl 11 RFieldD wb fa x.fields) (w : World) (hbb : Below wb.heap.size wb w) (hsn : ∀ f ∈ x.fields, f.ty.names.length ≤ 100000) :
    Calls Try.prog 29 #[s.val p, x.val fa fk da dk] w fun e w' => e = .returned (.bool (schB s x)) ∧ Below w.heap.size w w' := by
  by_cases hd : 0 ≤ x.issuer ∧ x.issuer < s.issuers.length ∧ 1 ≤ x.version ∧ x.version ≤ 255 ∧ 1 ≤ x.fields.length ∧ x.fields.length ≤ 12
  case neg =>
    have Hd := Lib.hid hd
    clear hf hbb hsn hd
    go_enter Try.func29, Try.ntmps29
    go_wp2_with fail
    all_goals (try (exfalso; have := Hd.out; omega))
    all_goals go_ret
    all_goals exact ⟨ret_bool (by have := Hd.out; simp [schB]; intros; omega), by (repeat (first | exact Below.refl _ _ | refine Below.alloc ?_ (by first | (simp; done) | (simp; omega)) _ | refine Below.setCell ?_ (by first | (simp; done) | (simp; omega)) _ | refine below_drewN ?_ _))⟩
  have hv : schB s x = (selfB x.fields && x.fields.all (fieldB s)) := by unfold schB; simp [hd]
  have Hv := Lib.hid hv
  clear hv
  obtain ⟨h1, h2, h3, h4, h5, h6⟩ := hd
  obtain ⟨b, off, e1, hl_d, _, a0, k0, d0, d1, -⟩ := FieldD.out (hf.below RFieldD.stab hbb) 0 (by omega)
  subst e1
  have Hsn := Lib.hid hsn
  have Hf := Lib.hid (hf.below RFieldD.stab hbb)
  have hself : selfB x.fields = decide (x.fields[0].ty.kind = 3) := by unfold selfB; rw [List.getElem?_eq_getElem (by omega)]
  generalize x.fields[0].ty.kind = kd at *
  have Hself := Lib.hid hself
  simp only [Nat.zero_mul, Nat.add_zero] at d1
  clear hf hbb hsn d0 hself
  have h5' : (0 : Int) < (x.fields.length : Int) := by omega
  by_cases hk3 : kd = 3
  case neg =>
    have q1 : (kd == 3) = false := by simpa using hk3
    have Hk3 := Lib.hid hk3
    clear hk3
    go_enter Try.func29, Try.ntmps29
    go_wp2_with fail
    all_goals (try (exfalso; omega))
    all_goals (try (exfalso; simp at *; omega))
    all_goals go_ret
    all_goals exact ⟨ret_bool (by rw [Hv.out, Hself.out]; simp [Hk3.out]), by (repeat (first | exact Below.refl _ _ | refine Below.alloc ?_ (by first | (simp; done) | (simp; omega)) _ | refine Below.setCell ?_ (by first | (simp; done) | (simp; omega)) _ | refine below_drewN ?_ _))⟩
  subst hk3
  rw [Hself.out, decide_eq_true rfl, Bool.true_and] at Hv
  go_enter Try.func29, Try.ntmps29
  go_wp2_with fail
  all_goals (try (exfalso; omega))
  all_goals (try (exfalso; simp at *; omega))
  clear d1 hl_d
  generalize hw0 : World.alloc _ _ = w0
  obtain ⟨X0, X1, hsz, hb0⟩ := blk2 hw0
  have x0 : w0.cell? ⟨w.heap.size, 0, none⟩ = some (.slice p.a0 s.issuers.length p.k0) := X0.cell 0
  have x1 : w0.cell? ⟨w.heap.size, 1, none⟩ = some (.slice p.a1 s.units.length p.k1) := X0.cell 1
  have x2 : w0.cell? ⟨w.heap.size, 2, none⟩ = some (.slice p.a2 s.schemas.length p.k2) := X0.cell 2
  have x3 : w0.cell? ⟨w.heap.size, 3, none⟩ = some (.slice p.a3 s.rules.length p.k3) := X0.cell 3
  have x4 : w0.cell? ⟨w.heap.size, 4, none⟩ = some (.slice p.a4 s.converts p.k4) := X0.cell 4
  have x5 : w0.cell? ⟨w.heap.size, 5, none⟩ = some (.slice p.a5 s.purposes.length p.k5) := X0.cell 5
  have hl_x : w.heap.size < w0.heap.size := by omega
  have y0 : w0.cell? ⟨w.heap.size + 1, 0, none⟩ = some (.string x.name) := X1.cell 0
  have y1 : w0.cell? ⟨w.heap.size + 1, 1, none⟩ = some (.string x.by_) := X1.cell 1
  have y2 : w0.cell? ⟨w.heap.size + 1, 2, none⟩ = some (.int .i64 x.issuer) := X1.cell 2
  have y3 : w0.cell? ⟨w.heap.size + 1, 3, none⟩ = some (.int .i64 x.version) := X1.cell 3
  have y4 : w0.cell? ⟨w.heap.size + 1, 4, none⟩ = some (.slice (some ⟨b, off, none⟩) x.fields.length fk) := X1.cell 4
  have y5 : w0.cell? ⟨w.heap.size + 1, 5, none⟩ = some (.slice da x.depends dk) := X1.cell 5
  have hl_y : w.heap.size + 1 < w0.heap.size := by omega
  have hwl : w.heap.size ≤ w0.heap.size := hb0.size
  have Hb := Lib.hid hb0
  clear hw0 hb0 hsz X0 X1
  go_loopw [55] (fun i wr => ∃ k : Nat, k ≤ x.fields.length ∧ i = .int .i64 k ∧ Hid (PreP (fieldB s) x.fields k) ∧ Below w0.heap.size w0 wr) (fun i _ => x.fields.length - (intOf i).toNat)
  case atStart => exact ⟨0, Nat.zero_le _, rfl, Lib.hid PreP.zero, Below.refl _ _⟩
  case round =>
    obtain ⟨k, hk, rfl, Hn, hb1⟩ := hrel
    have Hb1 := Lib.hid hb1
    have hwl1 := hb1.size
    replace x0 := cell_kept hb1 x0 hl_x
    replace x1 := cell_kept hb1 x1 hl_x
    replace x2 := cell_kept hb1 x2 hl_x
    replace x3 := cell_kept hb1 x3 hl_x
    replace x4 := cell_kept hb1 x4 hl_x
    replace x5 := cell_kept hb1 x5 hl_x
    replace y0 := cell_kept hb1 y0 hl_y
    replace y1 := cell_kept hb1 y1 hl_y
    replace y2 := cell_kept hb1 y2 hl_y
    replace y3 := cell_kept hb1 y3 hl_y
    replace y4 := cell_kept hb1 y4 hl_y
    replace y5 := cell_kept hb1 y5 hl_y
    replace Hb := Lib.hid (Hb.out.trans (hb1.mono hwl))
    replace hl_x := Nat.lt_of_lt_of_le hl_x hb1.size
    replace hl_y := Nat.lt_of_lt_of_le hl_y hb1.size
    replace hwl := Nat.le_trans hwl hb1.size
    clear hb1
    by_cases hlt : k < x.fields.length
    case neg =>
      have Hall := Lib.hid (Hn.out.all (by omega))
      go_wp2
      go_ret
      exact ⟨ret_bool (by rw [Hv.out, Hall.out]), Hb.out⟩
    have hlt' : (k : Int) < (x.fields.length : Int) := by omega
    obtain ⟨b', off', e1, hl_c, _, an, kn, c0, c1, c2, c3, c4, c5, c6, c7, c8, c9, c10, hnn⟩ := FieldD.out (Hf.out.below RFieldD.stab Hb.out) k hlt
    simp only [Option.some.injEq, Addr.mk.injEq, and_true] at e1
    obtain ⟨rfl, rfl⟩ := e1
    have hsuc := fun h => Hn.out.succ hlt h
    have hno := fun h => not_all (p := fieldB s) hlt h
    have hln := Hsn.out x.fields[k] (List.getElem_mem hlt)
    generalize x.fields[k] = f at *
    have Hsuc := Lib.hid hsuc
    have Hno := Lib.hid hno
    have Hnn := Lib.hid hnn
    clear hsuc hno hnn
    go_wp2_with fail
    generalize hw0 : World.alloc _ _ = w2
    obtain ⟨X0, hsz, hb1⟩ := blk1 hw0
    have v0 : w2.cell? ⟨wr.heap.size, 0, none⟩ = some (.string f.name) := X0.cell 0
    have v1 : w2.cell? ⟨wr.heap.size, 1, none⟩ = some (.int .i64 f.ty.kind) := X0.cell 1
    have v2 : w2.cell? ⟨wr.heap.size, 2, none⟩ = some (.int .i64 f.ty.lo) := X0.cell 2
    have v3 : w2.cell? ⟨wr.heap.size, 3, none⟩ = some (.int .i64 f.ty.hi) := X0.cell 3
    have v4 : w2.cell? ⟨wr.heap.size, 4, none⟩ = some (.string f.ty.of_) := X0.cell 4
    have v5 : w2.cell? ⟨wr.heap.size, 5, none⟩ = some (.int .i64 f.ty.unit) := X0.cell 5
    have v6 : w2.cell? ⟨wr.heap.size, 6, none⟩ = some (.slice an f.ty.names.length kn) := X0.cell 6
    have v7 : w2.cell? ⟨wr.heap.size, 7, none⟩ = some (.int .i64 f.w0) := X0.cell 7
    have v8 : w2.cell? ⟨wr.heap.size, 8, none⟩ = some (.int .i64 f.w1) := X0.cell 8
    have v9 : w2.cell? ⟨wr.heap.size, 9, none⟩ = some (.int .i64 f.w2) := X0.cell 9
    have v10 : w2.cell? ⟨wr.heap.size, 10, none⟩ = some (.int .i64 f.w3) := X0.cell 10
    have hl_v : wr.heap.size < w2.heap.size := by omega
    replace x0 := cell_kept hb1 x0 hl_x
    replace x1 := cell_kept hb1 x1 hl_x
    replace x2 := cell_kept hb1 x2 hl_x
    replace x3 := cell_kept hb1 x3 hl_x
    replace x4 := cell_kept hb1 x4 hl_x
    replace x5 := cell_kept hb1 x5 hl_x
    replace y0 := cell_kept hb1 y0 hl_y
    replace y1 := cell_kept hb1 y1 hl_y
    replace y2 := cell_kept hb1 y2 hl_y
    replace y3 := cell_kept hb1 y3 hl_y
    replace y4 := cell_kept hb1 y4 hl_y
    replace y5 := cell_kept hb1 y5 hl_y
    replace Hb := Lib.hid (Hb.out.trans (hb1.mono hwl))
    replace Hb1 := Lib.hid (Hb1.out.trans (hb1.mono hwl1))
    replace hl_x := Nat.lt_of_lt_of_le hl_x hb1.size
    replace hl_y := Nat.lt_of_lt_of_le hl_y hb1.size
    replace hwl := Nat.le_trans hwl hb1.size
    replace hwl1 := Nat.le_trans hwl1 hb1.size
    replace Hnn := Lib.hid (Hnn.out.below RStr.stab hb1)
    clear hb1
    clear hw0 hsz X0
    clear c0 c1 c2 c3 c4 c5 c6 c7 c8 c9 c10
    refine (typeOK_any s p f.ty an kn _ Hnn.out hln).mono ?_
    rintro e w3 ⟨rfl, hb1⟩
    replace x0 := cell_kept hb1 x0 hl_x
    replace x1 := cell_kept hb1 x1 hl_x
    replace x2 := cell_kept hb1 x2 hl_x
    replace x3 := cell_kept hb1 x3 hl_x
    replace x4 := cell_kept hb1 x4 hl_x
    replace x5 := cell_kept hb1 x5 hl_x
    replace y0 := cell_kept hb1 y0 hl_y
    replace y1 := cell_kept hb1 y1 hl_y
    replace y2 := cell_kept hb1 y2 hl_y
    replace y3 := cell_kept hb1 y3 hl_y
    replace y4 := cell_kept hb1 y4 hl_y
    replace y5 := cell_kept hb1 y5 hl_y
    replace v0 := cell_kept hb1 v0 hl_v
    replace v1 := cell_kept hb1 v1 hl_v
    replace v2 := cell_kept hb1 v2 hl_v
    replace v3 := cell_kept hb1 v3 hl_v
    replace v4 := cell_kept hb1 v4 hl_v
    replace v5 := cell_kept hb1 v5 hl_v
    replace v6 := cell_kept hb1 v6 hl_v
    replace v7 := cell_kept hb1 v7 hl_v
    replace v8 := cell_kept hb1 v8 hl_v
    replace v9 := cell_kept hb1 v9 hl_v
    replace v10 := cell_kept hb1 v10 hl_v
    replace Hb := Lib.hid (Hb.out.trans (hb1.mono hwl))
    replace Hb1 := Lib.hid (Hb1.out.trans (hb1.mono hwl1))
    replace hl_x := Nat.lt_of_lt_of_le hl_x hb1.size
    replace hl_y := Nat.lt_of_lt_of_le hl_y hb1.size
    replace hl_v := Nat.lt_of_lt_of_le hl_v hb1.size
    replace hwl := Nat.le_trans hwl hb1.size
    replace hwl1 := Nat.le_trans hwl1 hb1.size
    clear hb1
    cases hkb : kindB f.ty s.units.length with
    | false =>
      go_wp2
      go_ret
      exact ⟨ret_bool (by rw [Hv.out, Hno.out (by simp [fieldB, hkb])]), Hb.out⟩
    | true =>
      have Hkb := Lib.hid hkb
      clear hkb
      go_wp2_with fail
      obtain ⟨wo, rfl⟩ : ∃ wo : World, wo = wr := ⟨_, rfl⟩
      go_loopw [66] (fun i wr => ∃ j : Nat, j ≤ 4 ∧ i = .int .i64 j ∧ Hid (([f.w0, f.w1, f.w2, f.w3].take j).all wOK = true) ∧ Below w3.heap.size w3 wr) (fun i _ => 4 - (intOf i).toNat)
      case atStart => exact ⟨0, Nat.zero_le _, rfl, Lib.hid rfl, Below.refl _ _⟩
      case round =>
        obtain ⟨j, hj, rfl, HQ, hb1⟩ := hrel
        have Hb2 := Lib.hid hb1
        have hwl2 := hb1.size
        replace x0 := cell_kept hb1 x0 hl_x
        replace x1 := cell_kept hb1 x1 hl_x
        replace x2 := cell_kept hb1 x2 hl_x
        replace x3 := cell_kept hb1 x3 hl_x
        replace x4 := cell_kept hb1 x4 hl_x
        replace x5 := cell_kept hb1 x5 hl_x
        replace y0 := cell_kept hb1 y0 hl_y
        replace y1 := cell_kept hb1 y1 hl_y
        replace y2 := cell_kept hb1 y2 hl_y
        replace y3 := cell_kept hb1 y3 hl_y
        replace y4 := cell_kept hb1 y4 hl_y
        replace y5 := cell_kept hb1 y5 hl_y
        replace v0 := cell_kept hb1 v0 hl_v
        replace v1 := cell_kept hb1 v1 hl_v
        replace v2 := cell_kept hb1 v2 hl_v
        replace v3 := cell_kept hb1 v3 hl_v
        replace v4 := cell_kept hb1 v4 hl_v
        replace v5 := cell_kept hb1 v5 hl_v
        replace v6 := cell_kept hb1 v6 hl_v
        replace v7 := cell_kept hb1 v7 hl_v
        replace v8 := cell_kept hb1 v8 hl_v
        replace v9 := cell_kept hb1 v9 hl_v
        replace v10 := cell_kept hb1 v10 hl_v
        replace Hb := Lib.hid (Hb.out.trans (hb1.mono hwl))
        replace Hb1 := Lib.hid (Hb1.out.trans (hb1.mono hwl1))
        replace hl_x := Nat.lt_of_lt_of_le hl_x hb1.size
        replace hl_y := Nat.lt_of_lt_of_le hl_y hb1.size
        replace hl_v := Nat.lt_of_lt_of_le hl_v hb1.size
        replace hwl := Nat.le_trans hwl hb1.size
        replace hwl1 := Nat.le_trans hwl1 hb1.size
        clear hb1
        have hix0 : ∀ w' : World, (Instr.index 72 (.agg #[.int .i64 f.w0, .int .i64 f.w1, .int .i64 f.w2, .int .i64 f.w3]) (.int .i64 0)).run Try.prog w' = .ok (.int .i64 f.w0) w' := fun w' => by kernel_rfl
        have hix1 : ∀ w' : World, (Instr.index 72 (.agg #[.int .i64 f.w0, .int .i64 f.w1, .int .i64 f.w2, .int .i64 f.w3]) (.int .i64 1)).run Try.prog w' = .ok (.int .i64 f.w1) w' := fun w' => by kernel_rfl
        have hix2 : ∀ w' : World, (Instr.index 72 (.agg #[.int .i64 f.w0, .int .i64 f.w1, .int .i64 f.w2, .int .i64 f.w3]) (.int .i64 2)).run Try.prog w' = .ok (.int .i64 f.w2) w' := fun w' => by kernel_rfl
        have hix3 : ∀ w' : World, (Instr.index 72 (.agg #[.int .i64 f.w0, .int .i64 f.w1, .int .i64 f.w2, .int .i64 f.w3]) (.int .i64 3)).run Try.prog w' = .ok (.int .i64 f.w3) w' := fun w' => by kernel_rfl
        rcases (show j = 0 ∨ j = 1 ∨ j = 2 ∨ j = 3 ∨ j = 4 by omega) with rfl | rfl | rfl | rfl | rfl
        · by_cases hw : 0 ≤ f.w0 ∧ f.w0 ≤ 9
          · obtain ⟨hw0, hw1⟩ := hw
            go_wp2_with fail
            all_goals (try (exfalso; omega))
            go_roundw
            case rel => exact ⟨1, by omega, by go_num, Lib.hid (by have e : [f.w0, f.w1, f.w2, f.w3].take 1 = [f.w0, f.w1, f.w2, f.w3].take 0 ++ [f.w0] := rfl; rw [e, List.all_append, HQ.out]; simp [wOK, hw0, hw1]), Hb2.out⟩
            case measure => simp [intOf]
          · have hq : wOK f.w0 = false := by simp [wOK]; omega
            have hfb : fieldB s f = false := by simp [fieldB, hq]
            have Hfb := Lib.hid (Hno.out hfb)
            have Hw := Lib.hid hw
            clear hw hq hfb
            go_wp2_with fail
            all_goals (try (exfalso; have := Hw.out; omega))
            all_goals go_ret
            all_goals exact ⟨ret_bool (by rw [Hv.out, Hfb.out]), Hb.out⟩
        · by_cases hw : 0 ≤ f.w1 ∧ f.w1 ≤ 9
          · obtain ⟨hw0, hw1⟩ := hw
            go_wp2_with fail
            all_goals (try (exfalso; omega))
            go_roundw
            case rel => exact ⟨2, by omega, by go_num, Lib.hid (by have e : [f.w0, f.w1, f.w2, f.w3].take 2 = [f.w0, f.w1, f.w2, f.w3].take 1 ++ [f.w1] := rfl; rw [e, List.all_append, HQ.out]; simp [wOK, hw0, hw1]), Hb2.out⟩
            case measure => simp [intOf]
          · have hq : wOK f.w1 = false := by simp [wOK]; omega
            have hfb : fieldB s f = false := by simp [fieldB, hq]
            have Hfb := Lib.hid (Hno.out hfb)
            have Hw := Lib.hid hw
            clear hw hq hfb
            go_wp2_with fail
            all_goals (try (exfalso; have := Hw.out; omega))
            all_goals go_ret
            all_goals exact ⟨ret_bool (by rw [Hv.out, Hfb.out]), Hb.out⟩
        · by_cases hw : 0 ≤ f.w2 ∧ f.w2 ≤ 9
          · obtain ⟨hw0, hw1⟩ := hw
            go_wp2_with fail
            all_goals (try (exfalso; omega))
            go_roundw
            case rel => exact ⟨3, by omega, by go_num, Lib.hid (by have e : [f.w0, f.w1, f.w2, f.w3].take 3 = [f.w0, f.w1, f.w2, f.w3].take 2 ++ [f.w2] := rfl; rw [e, List.all_append, HQ.out]; simp [wOK, hw0, hw1]), Hb2.out⟩
            case measure => simp [intOf]
          · have hq : wOK f.w2 = false := by simp [wOK]; omega
            have hfb : fieldB s f = false := by simp [fieldB, hq]
            have Hfb := Lib.hid (Hno.out hfb)
            have Hw := Lib.hid hw
            clear hw hq hfb
            go_wp2_with fail
            all_goals (try (exfalso; have := Hw.out; omega))
            all_goals go_ret
            all_goals exact ⟨ret_bool (by rw [Hv.out, Hfb.out]), Hb.out⟩
        · by_cases hw : 0 ≤ f.w3 ∧ f.w3 ≤ 9
          · obtain ⟨hw0, hw1⟩ := hw
            go_wp2_with fail
            all_goals (try (exfalso; omega))
            go_roundw
            case rel => exact ⟨4, by omega, by go_num, Lib.hid (by have e : [f.w0, f.w1, f.w2, f.w3].take 4 = [f.w0, f.w1, f.w2, f.w3].take 3 ++ [f.w3] := rfl; rw [e, List.all_append, HQ.out]; simp [wOK, hw0, hw1]), Hb2.out⟩
            case measure => simp [intOf]
          · have hq : wOK f.w3 = false := by simp [wOK]; omega
            have hfb : fieldB s f = false := by simp [fieldB, hq]
            have Hfb := Lib.hid (Hno.out hfb)
            have Hw := Lib.hid hw
            clear hw hq hfb
            go_wp2_with fail
            all_goals (try (exfalso; have := Hw.out; omega))
            all_goals go_ret
            all_goals exact ⟨ret_bool (by rw [Hv.out, Hfb.out]), Hb.out⟩
        · have hq : [f.w0, f.w1, f.w2, f.w3].all wOK = true := HQ.out
          go_wp2_with fail
          go_roundw
          case rel => exact ⟨k + 1, by omega, by go_num, Lib.hid (Hsuc.out (by rw [fieldB, Hkb.out, hq]; rfl)), Hb1.out⟩
          case measure => simp [intOf]; omega
end Go.Proofs.Ytogenjbabgibbaa
