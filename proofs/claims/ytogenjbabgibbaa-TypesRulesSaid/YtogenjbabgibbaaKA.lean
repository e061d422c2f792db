import Derived.Test.YtogenjbabgibbaaData
namespace Go.Proofs.Ytogenjbabgibbaa
open Go.RowKit

/-! What the code computes (booleans over the data). -/
def unitB (us : List UnitD) (u : UnitD) : Bool :=
  decide (1 ≤ u.scale) && decide (u.scale ≤ 1099511627776) && decide (0 ≤ u.base) && (decide (u.base < us.length) && match us[u.base.toNat]? with | some v => decide (v.scale = 1) | none => false)

def kind1 (t : TyD) (n : Int) : Bool := decide (0 ≤ t.lo) && decide (t.lo ≤ t.hi) && decide (t.hi ≤ 1048576) && decide (-1 ≤ t.unit) && decide (t.unit < n) && decide (t.names.length = 0)
def kind2 (t : TyD) : Bool := decide (t.lo = 0) && decide (t.hi = 1023) && decide (t.unit = -1) && decide (t.names.length = 0)
def kind3 (t : TyD) : Bool := decide (t.lo = 0) && decide (t.hi = 4095) && decide (t.unit = -1) && decide (t.names.length = 0)
abbrev TyD.val (t : TyD) (an : Option Addr) (kn : Nat) : Value := .agg #[.int .i64 t.kind, .int .i64 t.lo, .int .i64 t.hi, .string t.of_, .int .i64 t.unit, .slice an t.names.length kn]
abbrev UnitD.val (u : UnitD) : Value := .agg #[.string u.name, .string u.of_, .int .i64 u.factor, .int .i64 u.base, .int .i64 u.scale]
/-- a source as a value: the places and capacities of its slices -/
structure SrcAt where
  a0 : Option Addr
  k0 : Nat
  a1 : Option Addr
  k1 : Nat
  a2 : Option Addr
  k2 : Nat
  a3 : Option Addr
  k3 : Nat
  a4 : Option Addr
  k4 : Nat
  a5 : Option Addr
  k5 : Nat
abbrev SourceD.val (s : SourceD) (p : SrcAt) : Value := .agg #[.slice p.a0 s.issuers.length p.k0, .slice p.a1 s.units.length p.k1, .slice p.a2 s.schemas.length p.k2, .slice p.a3 s.rules.length p.k3, .slice p.a4 s.converts p.k4, .slice p.a5 s.purposes.length p.k5]
/-- what the slices of a source read as -/
structure Src (w : World) (s : SourceD) (p : SrcAt) : Prop where
  h0 : Sl 1 RStr w p.a0 s.issuers
  h1 : Sl 5 RUnitD w p.a1 s.units
  h2 : Sl 6 RSchemaD w p.a2 s.schemas
  h3 : Sl 5 RRuleD w p.a3 s.rules
  h5 : Sl 3 RPurposeD w p.a5 s.purposes
theorem Src.below {w w' : World} {s : SourceD} {p : SrcAt} (h : Src w s p) (hb : Below w.heap.size w w') : Src w' s p :=
  ⟨h.h0.below RStr.stab hb, h.h1.below RUnitD.stab hb, h.h2.below RSchemaD.stab hb, h.h3.below RRuleD.stab hb, h.h5.below RPurposeD.stab hb⟩
theorem RSourceD.src {w : World} {cs : List Value} {s : SourceD} (h : RSourceD w cs s) : ∃ p, Value.agg cs.toArray = s.val p ∧ Src w s p := by
  obtain ⟨a0, k0, a1, k1, a2, k2, a3, k3, a4, k4, a5, k5, rfl, h0, h1, h2, h3, h5, _⟩ := h.flat
  exact ⟨⟨a0, k0, a1, k1, a2, k2, a3, k3, a4, k4, a5, k5⟩, rfl, h0, h1, h2, h3, h5⟩

theorem len_beq {α : Type} (l : List α) : ((l.length : Int) == 0) = decide (l = []) := by cases l <;> simp; omega
theorem kind1_any (t : TyD) (n : Int) (an : Option Addr) (kn : Nat) (w : World) :
    Calls Try.prog 79 #[t.val an kn, .int .i64 n] w fun e w' => e = .returned (.bool (kind1 t n)) ∧ Below w.heap.size w w' := by
  go_enter Try.func79, Try.ntmps79
  go_wp2
  all_goals go_ret
  all_goals exact ⟨ret_bool (by simp [kind1, len_beq, *]; try grind), (Below.refl _ _).alloc (Nat.le_refl _) _⟩
theorem kind2_any (t : TyD) (n : Int) (an : Option Addr) (kn : Nat) (w : World) :
    Calls Try.prog 80 #[t.val an kn, .int .i64 n] w fun e w' => e = .returned (.bool (kind2 t)) ∧ Below w.heap.size w w' := by
  go_enter Try.func80, Try.ntmps80
  go_wp2
  all_goals go_ret
  all_goals exact ⟨ret_bool (by simp [kind2, len_beq, *]; try grind), (Below.refl _ _).alloc (Nat.le_refl _) _⟩
theorem kind3_any (t : TyD) (n : Int) (an : Option Addr) (kn : Nat) (w : World) :
    Calls Try.prog 81 #[t.val an kn, .int .i64 n] w fun e w' => e = .returned (.bool (kind3 t)) ∧ Below w.heap.size w w' := by
  go_enter Try.func81, Try.ntmps81
  go_wp2
  all_goals go_ret
  all_goals exact ⟨ret_bool (by simp [kind3, len_beq, *]; try grind), (Below.refl _ _).alloc (Nat.le_refl _) _⟩
theorem unitOK_any (s : SourceD) (p : SrcAt) (u : UnitD) (w : World) (hs : Src w s p) :
    Calls Try.prog 27 #[s.val p, u.val] w fun e w' => e = .returned (.bool (unitB s.units u)) ∧ Below w.heap.size w w' := by
  have hw0 : Below w.heap.size w ((w.alloc (.cells #[.slice p.a0 s.issuers.length p.k0, .slice p.a1 s.units.length p.k1, .slice p.a2 s.schemas.length p.k2, .slice p.a3 s.rules.length p.k3, .slice p.a4 s.converts p.k4, .slice p.a5 s.purposes.length p.k5] 81)).alloc (.cells #[.string u.name, .string u.of_, .int .i64 u.factor, .int .i64 u.base, .int .i64 u.scale] 69)) := ((Below.refl _ _).alloc (Nat.le_refl _) _).alloc (by simp) _
  by_cases hin : 0 ≤ u.base ∧ u.base < s.units.length
  case neg =>
    have hw0 := Lib.hid hw0
    have hin := Lib.hid hin
    go_enter Try.func27, Try.ntmps27
    go_wp2
    all_goals (try (exfalso; have := hin.out; omega))
    all_goals go_ret
    all_goals exact ⟨ret_bool (by have := hin.out; simp [unitB]; try grind), hw0.out⟩
  obtain ⟨hi0, hi1⟩ := hin
  obtain ⟨b, off, e1, hb, _, c0, c1, c2, c3, c4⟩ := UnitD.out (hs.h1) u.base.toNat (by omega)
  have hx := Lib.hid (show (match s.units[u.base.toNat]? with | some v => decide (v.scale = 1) | none => false) = decide (s.units[u.base.toNat].scale = 1) by rw [List.getElem?_eq_getElem (by omega)])
  generalize s.units[u.base.toNat].scale = z at hx c4
  clear hw0 hs c0 c1 c2 c3
  go_enter Try.func27, Try.ntmps27
  go_wp2
  all_goals go_ret
  all_goals exact ⟨ret_bool (by have h1 := hx.out; simp only [unitB, h1]; simp [*]; try grind), ((Below.refl _ _).alloc (Nat.le_refl _) _).alloc (by simp) _⟩
end Go.Proofs.Ytogenjbabgibbaa
