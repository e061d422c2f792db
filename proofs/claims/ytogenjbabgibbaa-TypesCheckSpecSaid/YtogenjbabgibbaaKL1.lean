import Derived.Test.YtogenjbabgibbaaKZ5
namespace Go.Proofs.Ytogenjbabgibbaa
open Go.RowKit
theorem cmp_law {us : List UnitD} {a b : TyD} (ha : kindB a us.length = true) (hb : kindB b us.length = true) : cmpB us a b = rcmpB us a b := by
  have ua := kindB_unit ha
  have ub := kindB_unit hb
  unfold cmpB rcmpB
  by_cases hk : a.kind ≠ b.kind
  · rw [if_pos hk, if_pos hk]
  · rw [if_neg hk, if_neg hk]
    have hk' : a.kind = b.kind := Classical.not_not.1 hk
    by_cases h4 : a.kind = 4
    · rw [if_pos h4, if_neg (by omega), if_neg (by omega)]
    · rw [if_neg h4]
      by_cases h1 : a.kind = 1
      · rw [if_pos h1]
        by_cases hu : a.unit = -1
        · rw [if_pos hu, if_pos (by simp [hu])]
          simp only [hu]
          exact decide_eq_decide.2 ⟨fun h => h.symm, fun h => h.symm⟩
        · rw [if_neg hu]
          by_cases hv : b.unit = -1
          · rw [if_pos (by simp [hv]), decide_eq_false (by omega), decide_eq_false (by omega)]; rfl
          · rw [if_neg (by simp [hu, hv, h1]), decide_eq_true (show 0 ≤ b.unit by omega), Bool.true_and]
      · rw [if_neg h1, if_pos (by simp [h1]), if_pos h4]
        have ea : a.unit = -1 := by
          unfold kindB at ha
          rw [if_neg h1] at ha
          split at ha
          · simp [kind2] at ha; omega
          · split at ha
            · simp [kind3] at ha; omega
            · simp at ha
        have eb : b.unit = -1 := by
          unfold kindB at hb
          rw [if_neg (by omega)] at hb
          split at hb
          · simp [kind2] at hb; omega
          · split at hb
            · simp [kind3] at hb; omega
            · simp [show ¬ b.kind = 4 by omega] at hb
        rw [ea, eb]; rfl
theorem kindB_le {t : TyD} {n : Nat} (h : kindB t n = true) : t.lo ≤ t.hi := by
  unfold kindB at h
  split at h
  · simp [kind1] at h; omega
  split at h
  · simp [kind2] at h; omega
  split at h
  · simp [kind3] at h; omega
  split at h
  · simp [kind4] at h; omega
  · cases h
theorem inTy_law {us : List UnitD} {fd y : TyD} (hy : kindB y us.length = true) : inTy fd y = rinTy fd y := by
  have := kindB_le hy
  unfold inTy rinTy
  rw [Bool.eq_iff_iff]
  simp
  omega
theorem ok_law (s : SourceD) (fs : List FromD) (t : TermD) : okT s fs t = rtermB s fs t := by
  unfold okT rtermB isNumB numB termTy?
  by_cases h : t.var = -1
  · simp [h]
  · simp [h]
theorem atomTys_good {s : SourceD} {fs : List FromD} {m : AtomD} (hg : Good s) {y : TyD} (h : y ∈ atomTys s fs m) : kindB y s.units.length = true := by
  obtain ⟨t, ht⟩ := atomTys_mem h
  unfold termTy? at ht
  split at ht
  · split at ht
    · exact hg _ _ _ ht
    · cases ht
  · cases ht
theorem atom_law {s : SourceD} (hg : Good s) (fs : List FromD) (m : AtomD) : atomB s fs m = ratomB s fs m := by
  unfold atomB ratomB
  have h1 : okT s fs = rtermB s fs := funext fun t => ok_law s fs t
  have h2 : pairOK s.units (atomTys s fs m) = rpairOK s.units (atomTys s fs m) := by
    have hm := fun y h => atomTys_good (fs := fs) (m := m) hg (y := y) h
    generalize atomTys s fs m = l at *
    match l with
    | [] => rfl
    | [y] => rfl
    | [y, z] => exact cmp_law (hm y (by simp)) (hm z (by simp))
    | _ :: _ :: _ :: _ => rfl
  rw [h1, h2]
theorem set_law {s : SourceD} (hg : Good s) (fs : List FromD) (fd : TyD) (t : TermD) : setB s fs fd t = rsetB s fs fd t := by
  unfold setB rsetB
  by_cases h : t.var = -1
  · rw [if_pos h]
    have hn : isNumB t = numB t := by unfold isNumB numB; simp [h]
    rw [hn]
    cases hq : numB t with
    | true => rw [if_pos rfl, Bool.true_and]
    | false =>
      rw [if_neg (by simp), Bool.false_and]
      have : termTy? s fs t fs.length = none := by unfold termTy?; rw [if_neg (by omega)]
      rw [this]
  · rw [if_neg h]
    have hn : isNumB t = false := by unfold isNumB; simp [h]
    rw [hn, if_neg (by simp)]
    cases hy : termTy? s fs t fs.length with
    | none => rfl
    | some y =>
      refine inTy_law (us := s.units) ?_
      unfold termTy? at hy
      split at hy
      · split at hy
        · exact hg _ _ _ hy
        · cases hy
      · cases hy
theorem typeOf?_nonneg {s : SourceD} {i j : Int} {t : TyD} (h : typeOf? s i j = some t) : 0 ≤ i ∧ 0 ≤ j := by
  unfold typeOf? at h
  split at h
  · assumption
  · cases h
theorem setIn_law {s : SourceD} (hg : Good s) (r : RuleD) (x : SetD) : setIn s r x = rsetIn s r x := by
  unfold setIn rsetIn
  cases ht : typeOf? s r.schema x.field with
  | none => simp
  | some fd =>
    have := typeOf?_nonneg ht
    simp only
    rw [set_law hg]
    by_cases h : x.field = 0
    · simp [h]
    · have : 1 ≤ x.field := by omega
      simp [h, this]
theorem rule_law {s : SourceD} (hg : Good s) (r : RuleD) : ruleB s r = rruleB s r := by
  unfold ruleB rruleB fromsB
  have h1 : atomB s r.froms = ratomB s r.froms := funext fun m => atom_law hg _ m
  have h2 : setIn s r = rsetIn s r := funext fun x => setIn_law hg r x
  rw [h1, h2]
  generalize (List.range r.froms.length).all (fromB s r.froms) = b1
  generalize r.where_.all (ratomB s r.froms) = b2
  generalize r.sets.all (rsetIn s r) = b3
  generalize schIn s r.schema = b4
  generalize decide (1 ≤ r.froms.length) = b5
  generalize decide (r.froms.length ≤ 3) = b6
  generalize decide (r.where_.length ≤ 8) = b7
  generalize decide ((r.sets.length : Int) = headLen s r.schema - 1) = b8
  generalize decide (List.map (fun x => x.field) r.sets).Nodup = b9
  cases b1 <;> cases b2 <;> cases b3 <;> cases b4 <;> cases b5 <;> cases b6 <;> cases b7 <;> rfl
theorem purp_law (s : SourceD) (pu : PurposeD) : purpB s pu = rpurpB s pu := by
  unfold purpB rpurpB
  rw [Bool.and_comm]
theorem check_law (s : SourceD) : checkB s = rcheckB s := by
  unfold checkB rcheckB restB
  cases hs : s.schemas.all (schB s) with
  | false => simp
  | true =>
    have hg := good_of hs
    have h1 : ruleB s = rruleB s := funext fun r => rule_law hg r
    have h2 : purpB s = rpurpB s := funext fun p => purp_law s p
    rw [h1, h2]
end Go.Proofs.Ytogenjbabgibbaa
