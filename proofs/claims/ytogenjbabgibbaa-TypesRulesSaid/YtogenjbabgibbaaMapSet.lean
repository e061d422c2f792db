import Derived.Test.YtogenjbabgibbaaMapMem
namespace Go.Proofs.Ytogenjbabgibbaa
open Go.RowKit

/-! A map of the call's own with its size: said key by key; n bounds the entries, m counts them. -/
def GZ (P : Program) (k e : TypeId) (w : World) (b n m : Nat) (S : Lit → Option Lit) : Prop :=
  ∃ D : DataW Unit, w.ownsMap P k (plainElem P e) b n D ∧ Maps.Tidy D ∧ Maps.size D = m ∧ ∀ kl, Maps.has D kl = (S kl).isSome ∧ ∀ zd, D.atKey kl zd = match S kl with | some l => .lit l | none => zd
theorem GZ.gm {P : Program} {k e : TypeId} {w : World} {b n m : Nat} {S : Lit → Option Lit} (h : GZ P k e w b n m S) : GM P k e w b n S := by
  obtain ⟨D, h1, h2, _, h3⟩ := h
  exact ⟨D, h1, h2.isMap, h3⟩
theorem GZ.lt {P : Program} {k e : TypeId} {w : World} {b n m : Nat} {S : Lit → Option Lit} (h : GZ P k e w b n m S) : b < w.heap.size := h.gm.lt
theorem GZ.made (P : Program) (k e : TypeId) (w : World) : GZ P k e (w.alloc (.map #[] 0)) w.heap.size 0 0 (fun _ => none) :=
  ⟨.map [], World.ownsMap_made _ _ _ _, Maps.tidy_empty, rfl, fun _ => ⟨rfl, fun _ => rfl⟩⟩
theorem GZ.ext {P : Program} {k e : TypeId} {w : World} {b n m : Nat} {S S' : Lit → Option Lit} (h : GZ P k e w b n m S) (hS : ∀ l, S l = S' l) : GZ P k e w b n m S' := by
  have : S = S' := funext hS
  exact this ▸ h
theorem GZ.below {P : Program} {k e : TypeId} {w w' : World} {b n m : Nat} {S : Lit → Option Lit} (h : GZ P k e w b n m S) {B : Nat} (hb : Below B w w') (hlt : b < B) : GZ P k e w' b n m S := by
  obtain ⟨D, ⟨es, clock, h1, h2⟩, h3⟩ := h
  exact ⟨D, ⟨es, clock, (hb.block b hlt).trans h1, h2⟩, h3⟩
theorem GZ.keep {P : Program} {k e : TypeId} {w : World} {b n m : Nat} {S : Lit → Option Lit} (h : GZ P k e w b n m S) {a : Addr} (hne : b ≠ a.block) (v : Value) : GZ P k e (w.setCell a v) b n m S := by
  obtain ⟨D, ⟨es, clock, h1, h2⟩, h3⟩ := h
  exact ⟨D, ⟨es, clock, (heap_setCell_other w a b v hne).trans h1, h2⟩, h3⟩
section
variable {P : Program} (w : World) {ops : Array Oper} {rest : List Oper} {o : Oper} {a : Act} {Q : Exit → Act → World → Prop}
/-- 'm[k] = v' -/
theorem wpList_mapUpdate_gz (hg : o.guard = none) (m x v : Operand) (t : TypeId) (hop : o.op = Op.mapUpdate t m x v)
    (k e : TypeId) (K : Maps.Keyed P k) (ht : P.underlying t = some (.map k e)) (b n z : Nat) (S : Lit → Option Lit)
    (hm : a.eval m = .map (some b)) (hown : GZ P k e w b n z S) (hn : n < maxLen) (key val : Value) (kl : Lit) (hx : a.eval x = key) (hv : a.eval v = val) (hkey : keyOf P k key = some kl) (hkl : WideAt.IsKeyLit kl)
    (vl : Lit) (ps : List MemPlace) (hval : plainElem P e val = some ((.lit vl : DataW Unit), ps))
    (hK : ∀ w', GZ P k e w' b (n + 1) (if (S kl).isSome then z else z + 1) (fun l => if l.sameKey kl then some vl else S l) → w.grownBy w' (some b) → wpList P ops Q rest (a.put o.dst undef) w') :
    wpList P ops Q (o :: rest) a w := by
  obtain ⟨D, h1, h2, hz, h3⟩ := hown
  refine wpList_mapUpdate_own w hg m x v t hop k e K ht _ b n D hm h1 hn key val kl hx hv hkey _ ps hval fun w' h4 h5 => hK w' ⟨_, h4, h2.put hkl _, ?_, fun l => ?_⟩ h5
  · rw [Maps.size_put h2, hz, (h3 kl).1]
  · by_cases hl : l = kl
    · subst hl
      simp [Maps.has_put_same h2.isMap hkl, Maps.atKey_put_same h2.isMap hkl, WideAt.sameKey_self hkl]
    · have e1 : l.sameKey kl = false := Bool.eq_false_iff.2 fun h => hl (WideAt.sameKey_eq h)
      simp [Maps.has_put_other hl, Maps.atKey_put_other hl, h3 l, e1]
/-- 'len(m)' -/
theorem wpList_len_gz (hg : o.guard = none) (m : Operand) (t : TypeId) (hop : o.op = Op.call { callee := Callee.builtin Builtin.len, args := #[m], argTypes := #[t] })
    (k e : TypeId) (ht : P.underlying t = some (.map k e)) (b n z : Nat) (S : Lit → Option Lit) (hm : a.eval m = .map (some b)) (hown : GZ P k e w b n z S)
    (hK : wpList P ops Q rest (a.put o.dst (.int .i64 z)) w) : wpList P ops Q (o :: rest) a w := by
  obtain ⟨D, h1, _, hz, _⟩ := hown
  exact wpList_len_own w hg m t hop k e ht _ b n D hm h1 (by rw [hz]; exact hK)
end
/-- 'len(m)', as the walk of a drawn region asks it -/
theorem run_len_gz {P : Program} {t k e : TypeId} (ht : P.underlying t = some (.map k e)) {w : World} {b n z : Nat} {S : Lit → Option Lit} (hown : GZ P k e w b n z S) (ty : TypeId) :
    (Builtin.len_ #[t] ty #[.map (some b)]).run P w = .ok (.int .i64 z) w := by
  obtain ⟨D, h1, _, hz, _⟩ := hown
  rw [← hz]
  exact h1.len ht ty
/-- 'm[k]' at boolean elements, as an equation -/
theorem run_look_gz {P : Program} {t k e : TypeId} (K : Maps.Keyed P k) (ht : P.underlying t = some (.map k e)) (he : P.underlying e = some .bool) {w : World} (hz : (zeroValue e).run P w = .ok (.bool false) w) {b n z : Nat} {S : Lit → Option Lit}
    (hown : GZ P k e w b n z S) {key : Value} {kl : Lit} (hkey : keyOf P k key = some kl) {c : Bool} (hc : (match S kl with | some l => l | none => .bool false) = .bool c) :
    (Instr.lookup t (.map (some b)) key false).run P w = .ok (.bool c) w := by
  obtain ⟨D, h1, _, _, h3⟩ := hown
  obtain ⟨v, ps, hrun, hv⟩ := h1.lookup K ht hz (plainElem_bool he false) hkey
  obtain ⟨x', rfl, hx'⟩ := plainElem_bool_inv he hv
  rw [(h3 kl).2] at hx'
  have hcx : x' = c := by
    cases hS : S kl with
    | none => rw [hS] at hc hx'; simp at hc hx'; rw [hx'.1, hc]
    | some l => rw [hS] at hc hx'; simp at hc hx'; simp [hc] at hx'; exact hx'.1.symm
  rw [← hcx]
  exact hrun
/-- the keys of a set of integers -/
def intSet (l : List Int) : Lit → Option Lit
  | .int .i64 n => if n ∈ l then some (.bool true) else none
  | _ => none
theorem intSet_at (l : List Int) (n : Int) : intSet l (.int .i64 n) = if n ∈ l then some (.bool true) else none := rfl
theorem intSet_put (l : List Int) (n : Int) (x : Lit) : (if x.sameKey (.int .i64 n) then some (Lit.bool true) else intSet l x) = intSet (l ++ [n]) x := by
  by_cases h : x = .int .i64 n
  · subst h
    rw [if_pos (WideAt.sameKey_self (by simp [WideAt.IsKeyLit]))]
    simp [intSet]
  · rw [if_neg (by rw [Maps.sameKey_ne h]; simp)]
    unfold intSet
    cases x with
    | int k m =>
      cases k <;> try rfl
      have : m ≠ n := fun e => h (by rw [e])
      simp [this]
    | _ => rfl
end Go.Proofs.Ytogenjbabgibbaa
