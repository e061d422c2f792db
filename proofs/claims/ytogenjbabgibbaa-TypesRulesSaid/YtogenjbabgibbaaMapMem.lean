import Derived.Test.YtogenjbabgibbaaMem
import Derived.Maps.OwnSet
import Derived.Maps.Views
import Derived.Maps.OwnOps
namespace Go.Proofs.Ytogenjbabgibbaa
open Go.RowKit

/-! A map of the call's own, whose keys and elements are plain: said key by key. -/
def GM (P : Program) (k e : TypeId) (w : World) (b n : Nat) (S : Lit → Option Lit) : Prop :=
  ∃ D : DataW Unit, w.ownsMap P k (plainElem P e) b n D ∧ Maps.IsMap D ∧ ∀ kl, Maps.has D kl = (S kl).isSome ∧ ∀ zd, D.atKey kl zd = match S kl with | some l => .lit l | none => zd
theorem GM.lt {P : Program} {k e : TypeId} {w : World} {b n : Nat} {S : Lit → Option Lit} (h : GM P k e w b n S) : b < w.heap.size := h.choose_spec.1.lt
theorem GM.made (P : Program) (k e : TypeId) (w : World) : GM P k e (w.alloc (.map #[] 0)) w.heap.size 0 (fun _ => none) :=
  ⟨.map [], World.ownsMap_made _ _ _ _, Maps.isMap_empty, fun _ => ⟨rfl, fun _ => rfl⟩⟩
theorem GM.kept {P : Program} {k e : TypeId} {w w' : World} {b n : Nat} {S : Lit → Option Lit} (h : GM P k e w b n S) {row : Option Nat} (hg : w.grownBy w' row) (hne : some b ≠ row) : GM P k e w' b n S :=
  let ⟨D, h1, h2⟩ := h; ⟨D, h1.kept hg hne, h2⟩
theorem GM.alloc {P : Program} {k e : TypeId} {w : World} {b n : Nat} {S : Lit → Option Lit} (h : GM P k e w b n S) (o : Obj) : GM P k e (w.alloc o) b n S := h.kept (World.grownBy_alloc w o none) (by simp)
theorem GM.drew {P : Program} {k e : TypeId} {w : World} {b n : Nat} {S : Lit → Option Lit} (h : GM P k e w b n S) : GM P k e w.drew b n S := h
theorem GM.ext {P : Program} {k e : TypeId} {w : World} {b n : Nat} {S S' : Lit → Option Lit} (h : GM P k e w b n S) (hS : ∀ l, S l = S' l) : GM P k e w b n S' := by
  have : S = S' := funext hS
  exact this ▸ h
theorem GM.mono {P : Program} {k e : TypeId} {w : World} {b n : Nat} {S : Lit → Option Lit} (h : GM P k e w b n S) {n' : Nat} (hn : n ≤ n') : GM P k e w b n' S :=
  let ⟨D, h1, h2⟩ := h; ⟨D, h1.mono hn, h2⟩
theorem GM.below {P : Program} {k e : TypeId} {w w' : World} {b n : Nat} {S : Lit → Option Lit} (h : GM P k e w b n S) {B : Nat} (hb : Below B w w') (hlt : b < B) : GM P k e w' b n S := by
  obtain ⟨D, ⟨es, clock, h1, h2⟩, h3⟩ := h
  exact ⟨D, ⟨es, clock, (hb.block b hlt).trans h1, h2⟩, h3⟩
/-- what a boolean element reads as -/
theorem plainElem_bool_inv {H : Type} {P : Program} {e : TypeId} (he : P.underlying e = some .bool) {v : Value} {z : DataW H × List MemPlace} (h : plainElem P e v = some z) : ∃ x, v = .bool x ∧ z = (.lit (.bool x), []) := by
  unfold plainElem at h
  rw [he] at h
  split at h
  · cases h; exact ⟨_, rfl, rfl⟩
  · rename_i h1; simp at h1
  · rename_i h1; simp at h1
  · cases h

section
variable {P : Program} (w : World) {ops : Array Oper} {rest : List Oper} {o : Oper} {a : Act} {Q : Exit → Act → World → Prop}
/-- 'm[k]' at boolean elements -/
theorem wpList_lookup_gm_bool (hg : o.guard = none) (m x : Operand) (t : TypeId) (hop : o.op = Op.lookup t m x false)
    (k e : TypeId) (K : Maps.Keyed P k) (ht : P.underlying t = some (.map k e)) (he : P.underlying e = some .bool) (hz : (zeroValue e).run P w = .ok (.bool false) w) (b n : Nat) (S : Lit → Option Lit)
    (hm : a.eval m = .map (some b)) (hown : GM P k e w b n S) (key : Value) (kl : Lit) (hx : a.eval x = key) (hkey : keyOf P k key = some kl) (c : Bool)
    (hc : (match S kl with | some l => l | none => .bool false) = .bool c)
    (hK : wpList P ops Q rest (a.put o.dst (.bool c)) w) : wpList P ops Q (o :: rest) a w := by
  refine wpList_plain hg fun K' hK' => ?_
  obtain ⟨D, h1, h2, h3⟩ := hown
  obtain ⟨v, ps, hrun, hv⟩ := h1.lookup K ht hz (plainElem_bool he false) hkey
  obtain ⟨x', rfl, hx'⟩ := plainElem_bool_inv he hv
  rw [(h3 kl).2] at hx'
  have hcx : x' = c := by
    cases hS : S kl with
    | none => rw [hS] at hc hx'; simp at hc hx'; rw [hx'.1, hc]
    | some l => rw [hS] at hc hx'; simp at hc hx'; simp [hc] at hx'; exact hx'.1.symm
  subst hcx
  unfold Oper.wp
  simp [execOp, hop, hm, hx, hrun, Result.andThen]
  exact hK' _ _ hK
/-- 'm[k]' at integer elements -/
theorem wpList_lookup_gm_int (hg : o.guard = none) (m x : Operand) (t : TypeId) (hop : o.op = Op.lookup t m x false)
    (k e : TypeId) (K : Maps.Keyed P k) (ht : P.underlying t = some (.map k e)) {q : IntKind} (he : P.underlying e = some (.int q)) (hz : (zeroValue e).run P w = .ok (.int q 0) w) (b n : Nat) (S : Lit → Option Lit)
    (hm : a.eval m = .map (some b)) (hown : GM P k e w b n S) (key : Value) (kl : Lit) (hx : a.eval x = key) (hkey : keyOf P k key = some kl) (c : Int)
    (hc : (match S kl with | some l => l | none => .int q 0) = .int q c)
    (hK : wpList P ops Q rest (a.put o.dst (.int q c)) w) : wpList P ops Q (o :: rest) a w := by
  refine wpList_plain hg fun K' hK' => ?_
  obtain ⟨D, h1, h2, h3⟩ := hown
  obtain ⟨v, ps, hrun, hv⟩ := h1.lookup K ht hz (plainElem_int he (by cases q <;> decide)) hkey
  obtain ⟨x', rfl, hx', _⟩ := plainElem_int_inv he hv
  rw [(h3 kl).2] at hx'
  have hcx : x' = c := by
    cases hS : S kl with
    | none => rw [hS] at hc hx'; simp at hc hx'; omega
    | some l => rw [hS] at hc hx'; simp at hc hx'; simp [hc] at hx'; omega
  subst hcx
  unfold Oper.wp
  simp [execOp, hop, hm, hx, hrun, Result.andThen]
  exact hK' _ _ hK
/-- 'm[k] = v' -/
theorem wpList_mapUpdate_gm (hg : o.guard = none) (m x v : Operand) (t : TypeId) (hop : o.op = Op.mapUpdate t m x v)
    (k e : TypeId) (K : Maps.Keyed P k) (ht : P.underlying t = some (.map k e)) (b n : Nat) (S : Lit → Option Lit)
    (hm : a.eval m = .map (some b)) (hown : GM P k e w b n S) (hn : n < maxLen) (key val : Value) (kl : Lit) (hx : a.eval x = key) (hv : a.eval v = val) (hkey : keyOf P k key = some kl) (hkl : WideAt.IsKeyLit kl)
    (vl : Lit) (ps : List MemPlace) (hval : plainElem P e val = some ((.lit vl : DataW Unit), ps))
    (hK : ∀ w', GM P k e w' b (n + 1) (fun l => if l.sameKey kl then some vl else S l) → w.grownBy w' (some b) → wpList P ops Q rest (a.put o.dst undef) w') :
    wpList P ops Q (o :: rest) a w := by
  obtain ⟨D, h1, h2, h3⟩ := hown
  refine wpList_mapUpdate_own w hg m x v t hop k e K ht _ b n D hm h1 hn key val kl hx hv hkey _ ps hval fun w' h4 h5 => hK w' ⟨_, h4, h2.put _ _, fun l => ?_⟩ h5
  by_cases hl : l = kl
  · subst hl
    simp [Maps.has_put_same h2 hkl, Maps.atKey_put_same h2 hkl, WideAt.sameKey_self hkl]
  · have e1 : l.sameKey kl = false := Bool.eq_false_iff.2 fun h => hl (WideAt.sameKey_eq h)
    simp [Maps.has_put_other hl, Maps.atKey_put_other hl, h3 l, e1]
end
/-- 'make(map[K]V, hint)' -/
theorem run_makeMap_hint {P : Program} {t k e : TypeId} (ht : P.underlying t = some (.map k e)) (q : IntKind) (z : Int) (w : World) :
    (Instr.makeMap t (some (.int q z))).run P w = .ok (.map (some w.heap.size)) (w.alloc (.map #[] 0)) := by
  have h1 : (asIntOf (.int q z)).run P w = .ok (q, z) w := rfl
  simp [Instr.makeMap, run_underlying ht, asInt, h1]
end Go.Proofs.Ytogenjbabgibbaa
