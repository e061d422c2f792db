import Derived.Test.YtogenjbabgibbaaKZ8
import Derived.Test.YtogenjbabgibbaaKZ3
namespace Go.Proofs.Ytogenjbabgibbaa
open Go.RowKit
theorem cmp_symm (us : List UnitD) (a b : TyD) : cmpB us a b = cmpB us b a := by
  unfold cmpB
  grind
theorem cmp_refl (us : List UnitD) (a : TyD) : cmpB us a a = true := by
  unfold cmpB
  simp
theorem cmp_trans {us : List UnitD} {a b c : TyD} (h1 : cmpB us a b = true) (h2 : cmpB us b c = true) : cmpB us a c = true := by
  unfold cmpB at *
  grind
theorem alike_symm (s : SourceD) (a b : RefD) : alikeB s a b = alikeB s b a := by
  unfold alikeB
  cases usable? s a <;> cases usable? s b <;> simp [cmp_symm]
theorem alike_trans {s : SourceD} {a b c : RefD} (h1 : alikeB s a b = true) (h2 : alikeB s b c = true) : alikeB s a c = true := by
  unfold alikeB at *
  cases ha : usable? s a with
  | none => simp [ha] at h1
  | some t =>
    cases hb : usable? s b with
    | none => simp [ha, hb] at h1
    | some u =>
      cases hc : usable? s c with
      | none => simp [hb, hc] at h2
      | some v =>
        simp only [ha, hb, hc] at *
        exact cmp_trans h1 h2
theorem alike_left {s : SourceD} {a b : RefD} (h : alikeB s a b = true) : alikeB s a a = true := by
  unfold alikeB at *
  cases ha : usable? s a with
  | none => simp [ha] at h
  | some t => simp only; exact cmp_refl _ _
theorem alike_out {s : SourceD} {a b : RefD} (h : typeOf? s a.schema a.field = none) : alikeB s a b = false := by
  unfold alikeB usable?
  rw [h]
theorem check_zero {s : SourceD} (h : checkB s = 0) : s.units.all (unitB s.units) = true ∧ s.schemas.all (schB s) = true ∧ s.rules.all (ruleB s) = true ∧ s.purposes.all (purpB s) = true ∧ limB s = true := by
  unfold checkB at h
  split at h
  · next hl =>
    split at h
    · next hc =>
      simp only [Bool.and_eq_true] at hc
      exact ⟨hc.1, hc.2.1, hc.2.2.1, hc.2.2.2, hl⟩
    · cases h
  · cases h
theorem good_usable {s : SourceD} (h : checkB s = 0) {i j : Int} {t : TyD} (ht : typeOf? s i j = some t) : goodT s t = true := by
  obtain ⟨hu, hs, _⟩ := check_zero h
  have hk := good_of hs i j t ht
  have hku := kindB_unit hk
  unfold goodT
  rw [hk, Bool.true_and]
  by_cases h1 : t.unit = -1
  · simp [h1]
  · have hlt : t.unit.toNat < s.units.length := by omega
    rw [unitAt_in hlt, List.all_eq_true.1 hu _ (List.getElem_mem hlt)]
    simp
theorem alike_ok {s : SourceD} (h : checkB s = 0) {a : RefD} {t : TyD} (ht : typeOf? s a.schema a.field = some t) : alikeB s a a = true := by
  have hu : usable? s a = some t := by unfold usable? goodO; rw [ht]; simp only; rw [if_pos (good_usable h ht)]
  unfold alikeB
  rw [hu]
  exact cmp_refl _ _
theorem alike_eq (s : SourceD) (p : SrcAt) (ra rb : RefD) (w : World) (hs : Src w s p) (hsh : Short s) (r : Bool) (hr : alikeB s ra rb = r) :
    Calls Try.prog 17 #[s.val p, ra.val, rb.val] w fun e w' => e = .returned (.bool r) ∧ Below w.heap.size w w' := by
  subst hr
  exact alike_any s p ra rb w hs hsh
end Go.Proofs.Ytogenjbabgibbaa
