/- Part 8 of the walks and laws that these claims rest on. No condition. -/
import Derived.Test.YtdhfakajlnidiaaGreatPart7
set_option linter.all false
set_option linter.unusedSimpArgs false
set_option linter.unusedVariables false
set_option linter.unnecessarySimpa false
namespace Go.Proofs.YtdhfakajlnidiaaGreat
open Go.RowKit

/-! The check of the types: the variables of a rule. -/
def schIn (s : SourceD) (n : Int) : Bool := decide (0 ≤ n) && decide (n < s.schemas.length)
def fromB (s : SourceD) (fs : List FromD) (i : Nat) : Bool := match fs[i]? with
  | some f => schIn s f.schema && (decide (f.of.vr = -1) || match termTy? s fs f.of i with | some t => decide (t.kind = 3) | none => false)
  | none => true
def fromsB (s : SourceD) (fs : List FromD) : Bool := decide (1 ≤ fs.length) && decide (fs.length ≤ 3) && (List.range fs.length).all (fromB s fs)
set_option maxRecDepth 100000 in
set_option maxHeartbeats 4000000 in
theorem fromsOK_pure (S : SourceD) (R : RuleD) : Pure Tryz.prog 56 [.agg (S.c ++ R.c)] (boolD (fromsB S R.froms)) := by
  obtain ⟨r, hr⟩ : ∃ r, r = fromsB S R.froms := ⟨_, rfl⟩
  rw [← hr]
  unfold fromsB at hr
  have hFB : ∀ (k : Nat) (f : FromD), R.froms[k]? = some f → ∃ t b, fromB S R.froms k = ((decide (0 ≤ f.schema) && decide (f.schema < S.schemas.length)) && (decide (f.of.vr = -1) || (b && decide (t.kind = 3)))) ∧ Pure Tryz.prog 76 [.agg (S.c ++ R.c), .agg f.of.c, .int .i64 (.nat k)] (.tup [.agg (TypeD.c t), boolD b]) := fun k f hf => by
    have hk := (List.getElem?_eq_some_iff.1 hf).1
    obtain ⟨t, b, h1, h2⟩ := termTy_ex S R f.of k (by omega)
    replace h2 := Pure.args (args := [.agg (S.c ++ R.c), .agg f.of.c, .int .i64 (.nat k)]) (args' := [.agg (S.c ++ R.c), .agg f.of.c, i64 k]) (.cons (.refl _) (.cons (.refl _) (.cons (.int (e := .nat k) (e' := .var (k : Int)) rfl) .nil))) h2
    refine ⟨t, b, ?_, h2⟩
    unfold fromB schIn
    rw [hf]
    simp only
    rw [h1]
    cases b <;> simp
  obtain ⟨FB, hF⟩ : ∃ f : Nat → Bool, f = fun k => fromB S R.froms k := ⟨_, rfl⟩
  obtain ⟨ALL, hA⟩ : ∃ f : Nat → Bool, f = fun k => (List.range' k (R.froms.length - k)).all (fromB S R.froms) := ⟨_, rfl⟩
  have hA0 : (List.range R.froms.length).all (fromB S R.froms) = ALL 0 := by rw [hA]; simp only [Nat.sub_zero]; rw [List.range_eq_range']
  have hAs : ∀ k, k < R.froms.length → ALL k = (FB k && ALL (k + 1)) := fun k hk => by
    rw [hA, hF]
    simp only
    rw [show R.froms.length - k = (R.froms.length - (k + 1)) + 1 by omega, List.range'_succ, List.all_cons]
  have hAe : ALL R.froms.length = true := by rw [hA]; simp
  replace hFB : ∀ (k : Nat) (f : FromD), R.froms[k]? = some f → ∃ t b, FB k = ((decide (0 ≤ f.schema) && decide (f.schema < S.schemas.length)) && (decide (f.of.vr = -1) || (b && decide (t.kind = 3)))) ∧ Pure Tryz.prog 76 [.agg (S.c ++ R.c), .agg f.of.c, .int .i64 (.nat k)] (.tup [.agg (TypeD.c t), boolD b]) := fun k f hf => by
    rw [hF]
    exact hFB k f hf
  rw [hA0] at hr
  clear hA hF hA0
  obtain ⟨ni, is, nu, us, ns, ss, nr, rs, nc, cs, np, ps⟩ := S
  obtain ⟨x1, x2, x3, l, x5, x6, x7, x8⟩ := R
  simp only at hr hFB hAs hAe
  obtain ⟨n, hn⟩ : ∃ n : Nat, n = l.length := ⟨_, rfl⟩
  refine Pure.intro (want := [boolD r]) T_ok follows Tryz.func56 rfl (by kernel_rfl) (rs := [.tmp 2]) rfl (by kernel_rfl) ?_
  generalize hP : Tryz.prog = P at *
  have hT : T.ok P := hP ▸ T_ok
  have hm : P.follows .mixedOrders = true := hP ▸ follows
  unfold Tryz.f56
  dsimp only
  cbv
  refine SplitP.mk (fun g => ?_) (fun g => ?_)
  · have g' : ¬ 1 ≤ l.length := by have h := of_decide_eq_true (show decide ((l.length : Int) < 1) = true from g); omega
    rw [decide_eq_false g'] at hr
    refine .mk (.cons (.eq (.bool ?_)) .nil) rfl
    rw [BE.lit_d, BE.var_d]
    rw [hr]; simp
  have g1 : 1 ≤ l.length := by have h := of_decide_eq_false (show decide ((l.length : Int) < 1) = false from g); omega
  rw [decide_eq_true g1, Bool.true_and] at hr
  clear g
  refine SplitP.mk (fun g => ?_) (fun g => ?_)
  · have g' : ¬ l.length ≤ 3 := by have h := of_decide_eq_true (show decide ((l.length : Int) > 3) = true from g); omega
    rw [decide_eq_false g'] at hr
    refine .mk (.cons (.eq (.bool ?_)) .nil) rfl
    rw [BE.lit_d, BE.var_d]
    rw [hr]; simp
  have g2 : l.length ≤ 3 := by have h := of_decide_eq_false (show decide ((l.length : Int) > 3) = false from g); omega
  rw [decide_eq_true g2, Bool.true_and] at hr
  clear g
  refine CodeP.loopc hT hm (X := Nat) (fun k => [(23, .int .i64 (.nat k))]) (fun k => k ≤ l.length ∧ r = ALL k) (fun k => n - k) 0 ⟨by simp, hr⟩ (Nat.zero_le _) ?_ rfl ?_
  · (cbv; (repeat' (first | exact SnD.refl _ | exact trivial | exact SnD.nat0 | refine And.intro ?_ ?_)))
  clear hr
  intro k ⟨hk, hq⟩
  cbv
  refine SplitP.mk (fun hs => ?_) (fun hs => ?_)
  · have hkn : k < l.length := by
      have h5 : decide ((k : Int) < (l.length : Int)) = true := hs
      have := of_decide_eq_true h5
      omega
    clear hs
    refine ElemP.mk (by show (0 : Int) ≤ (k : Int) ∧ (k : Int) < (l.length : Int); omega) (fun y hy => ?_)
    replace hy : l[k]? = some y := hy
    rw [hAs k hkn] at hq
    obtain ⟨ty, b, hb, hp⟩ := hFB k y hy
    rw [hb] at hq
    clear hFB hb hAs hAe
    obtain ⟨y1, y2, y3, ⟨y4, y5, y6, y7, y8⟩⟩ := y
    obtain ⟨t1, t2, t3, t4, t5, t6, t7⟩ := ty
    simp only at hq
    cbv
    refine SplitP.mk (fun g => ?_) (fun g => ?_)
    · have g' : ¬ 0 ≤ y3 := by have h := of_decide_eq_true (show decide (y3 < 0) = true from g); omega
      rw [decide_eq_false g'] at hq
      refine .mk (.cons (.eq (.bool ?_)) .nil) rfl
      rw [BE.lit_d, BE.var_d]
      rw [hq]; simp
    have g3 : 0 ≤ y3 := by have h := of_decide_eq_false (show decide (y3 < 0) = false from g); omega
    rw [decide_eq_true g3, Bool.true_and] at hq
    clear g
    refine SplitP.mk (fun g => ?_) (fun g => ?_)
    · have g' : ¬ y3 < (ss.length : Int) := by have h := of_decide_eq_true (show decide (y3 ≥ (ss.length : Int)) = true from g); omega
      rw [decide_eq_false g'] at hq
      refine .mk (.cons (.eq (.bool ?_)) .nil) rfl
      rw [BE.lit_d, BE.var_d]
      rw [hq]; simp
    have g4 : y3 < (ss.length : Int) := by have h := of_decide_eq_false (show decide (y3 ≥ (ss.length : Int)) = false from g); omega
    rw [decide_eq_true g4, Bool.true_and] at hq
    clear g
    refine SplitP.mk (fun g => ?_) (fun g => ?_)
    · have g3' : (y6 == -1) = true := g
      have g4' : y6 = -1 := by simpa using g3'
      rw [decide_eq_true g4', Bool.true_or, Bool.true_and] at hq
      refine BackP.intro (k + 1) ⟨by omega, hq⟩ (by show n - (k + 1) < n - k; omega) ⟨?_, ?_, rfl⟩
      · (cbv; (repeat' (first | exact SnD.refl _ | exact trivial | exact SnD.nat0 | refine And.intro ?_ ?_)))
        exact .inc (by omega)
      · (cbv; (repeat' (first | exact trivial | exact BkEq.refl _ | exact SnD.refl _ | exact SnDs.nil | refine BkEq.cells ?_ | refine SnDs.cons ?_ ?_ | refine And.intro ?_ ?_)))
    have g3' : (y6 == -1) = false := g
    have g4' : y6 ≠ -1 := by simpa using g3'
    rw [decide_eq_false g4', Bool.false_or] at hq
    clear g3' g
    refine CallP.pure _ hp rfl ?_
    clear hp
    cbv
    refine SplitP.mk (fun h => ?_) (fun h => ?_)
    · have h3 : (!b) = true := h
      refine .mk (.cons (.eq (.bool ?_)) .nil) rfl
      rw [BE.lit_d, BE.var_d]
      rw [hq]; cases b <;> simp_all
    have h3 : (!b) = false := h
    have h4 : b = true := by simpa using h3
    rw [h4, Bool.true_and] at hq
    clear h3 h
    refine SplitP.mk (fun h => ?_) (fun h => ?_)
    · have h3 : (t1 != 3) = true := h
      have h4 : t1 ≠ 3 := by simpa using h3
      rw [decide_eq_false h4] at hq
      refine .mk (.cons (.eq (.bool ?_)) .nil) rfl
      rw [BE.lit_d, BE.var_d]
      rw [hq]; simp
    have h3 : (t1 != 3) = false := h
    have h4 : t1 = 3 := by simpa using h3
    rw [decide_eq_true h4, Bool.true_and] at hq
    refine BackP.intro (k + 1) ⟨by omega, hq⟩ (by show n - (k + 1) < n - k; omega) ⟨?_, ?_, rfl⟩
    · (cbv; (repeat' (first | exact SnD.refl _ | exact trivial | exact SnD.nat0 | refine And.intro ?_ ?_)))
      exact .inc (by omega)
    · (cbv; (repeat' (first | exact trivial | exact BkEq.refl _ | exact SnD.refl _ | exact SnDs.nil | refine BkEq.cells ?_ | refine SnDs.cons ?_ ?_ | refine And.intro ?_ ?_)))
  · have hkn : l.length ≤ k := by
      have h5 : decide ((k : Int) < (l.length : Int)) = false := hs
      have := of_decide_eq_false h5
      omega
    clear hs
    have hkl : k = l.length := by omega
    rw [hkl, hAe] at hq
    refine .mk (.cons (.eq (.bool ?_)) .nil) rfl
    rw [BE.lit_d, BE.var_d]
    exact hq.symm
end Go.Proofs.YtdhfakajlnidiaaGreat
namespace Go.Proofs.YtdhfakajlnidiaaGreat
open Go.RowKit

/-! The check of the types: what a rule sets. -/
def inTy (fd y : TypeD) : Bool := decide (y.kind = fd.kind) && decide (y.unit = fd.unit) && decide (y.names = fd.names) && (decide (fd.lo ≤ y.lo) && decide (y.lo ≤ fd.hi) && decide (fd.lo ≤ y.hi) && decide (y.hi ≤ fd.hi))
def setB (s : SourceD) (fs : List FromD) (fd : TypeD) (t : TermD) : Bool := if isNumB t then decide (fd.lo ≤ t.n) && decide (t.n ≤ fd.hi) else match termTy? s fs t fs.length with | some y => inTy fd y | none => false
set_option maxRecDepth 100000 in
set_option maxHeartbeats 4000000 in
theorem setOK_pure (S : SourceD) (R : RuleD) (fd : TypeD) (t : TermD) (hlF : ∀ i j y, typeOf? S i j = some y → y.names.length ≤ 100000) : Pure Tryz.prog 59 [.agg (S.c ++ R.c), .agg fd.c, .agg t.c] (boolD (setB S R.froms fd t)) := by
  have hnum := isNumber_pure t
  obtain ⟨y, yb, hy, hp⟩ := termTy_ex S R t R.froms.length (Int.le_refl _)
  have hyl : yb = true → y.names.length ≤ 100000 := fun e => by
    rw [e, if_pos rfl] at hy
    unfold termTy? at hy
    split at hy
    · split at hy
      · exact hlF _ _ _ hy
      · cases hy
    · cases hy
  obtain ⟨r, hr⟩ : ∃ r, r = setB S R.froms fd t := ⟨_, rfl⟩
  rw [← hr]
  unfold setB at hr
  rw [hy] at hr
  clear hlF hy
  replace hp := Pure.args (args := [.agg (S.c ++ R.c), .agg t.c, .int .i64 (.len R.froms)]) (args' := [.agg (S.c ++ R.c), .agg t.c, i64 R.froms.length]) (.cons (.refl _) (.cons (.refl _) (.cons (.int (e := .len R.froms) (e' := .var (R.froms.length : Int)) rfl) .nil))) hp
  obtain ⟨nb, hnb⟩ : ∃ b, b = isNumB t := ⟨_, rfl⟩
  rw [← hnb] at hnum hr
  clear hnb
  have hE : yb = true → Pure Tryz.prog 79 [.slm 1 (some (.var y.nnames)) strC y.names, .slm 1 (some (.var fd.nnames)) strC fd.names] (boolD (decide (y.names = fd.names))) := fun e => Equal_pure y.names fd.names (some (.var y.nnames)) (some (.var fd.nnames)) (by have := hyl e; omega)
  clear hyl
  obtain ⟨ni, is, nu, us, ns, ss, nr, rs, nc, cs, np, ps⟩ := S
  obtain ⟨x1, x2, x3, fl, x5, x6, x7, x8⟩ := R
  obtain ⟨a1, a2, a3, a4, a5, a6, a7⟩ := fd
  obtain ⟨b1, b2, b3, b4, b5, b6, b7⟩ := y
  obtain ⟨u1, u2, u3, u4, u5⟩ := t
  simp only [inTy] at hr hE
  obtain ⟨eq, heq⟩ : ∃ e, e = decide (b7 = a7) := ⟨_, rfl⟩
  rw [← heq] at hE
  replace hr : r = if nb = true then (decide (a2 ≤ u5) && decide (u5 ≤ a3)) else (yb && (decide (b1 = a1) && decide (b5 = a5) && eq && (decide (a2 ≤ b2) && decide (b2 ≤ a3) && decide (a2 ≤ b3) && decide (b3 ≤ a3)))) := by
    rw [hr, heq]
    cases yb <;> rfl
  clear heq
  refine Pure.intro (want := [boolD r]) T_ok follows Tryz.func59 rfl (by kernel_rfl) (rs := [.tmp 6]) rfl (by kernel_rfl) ?_
  generalize hP : Tryz.prog = P at *
  have hT : T.ok P := hP ▸ T_ok
  have hm : P.follows .mixedOrders = true := hP ▸ follows
  unfold Tryz.f59
  dsimp only
  cbv
  refine CallP.pure _ hnum rfl ?_
  clear hnum
  cbv
  refine SplitP.mk (fun g => ?_) (fun g => ?_)
  · have g' : nb = true := g
    rw [if_pos g'] at hr
    clear g hp hE
    ((repeat' (refine SplitP.mk (fun _ => ?_) (fun _ => ?_))); all_goals (try simp only [BE.den, IE.den, cmpDen, Bool.not_eq_true, Bool.not_eq_false, Bool.not_eq_eq_eq_not, Bool.not_true, Bool.not_false, dec_t, dec_f, beq_iff_eq, beq_eq_false_iff_ne, bne_iff_ne, ne_eq, bne_eq_false_iff_eq, ge_iff_le, gt_iff_lt, Int.not_lt, Int.not_le] at *); all_goals (refine .mk (.cons (.eq (.bool ?_)) .nil) rfl; simp only [BE.den, IE.den, cmpDen]; rw [hr, Bool.eq_iff_iff]; simp only [Bool.and_eq_true, Bool.or_eq_true, dec_t, dec_f, beq_iff_eq, bne_iff_ne, ge_iff_le, gt_iff_lt, Bool.false_eq_true, false_iff, true_iff]; first | omega | grind))
  have g' : nb = false := g
  rw [g', if_neg (by decide)] at hr
  clear g g'
  refine CallP.pure _ hp rfl ?_
  clear hp
  cbv
  refine SplitP.mk (fun g => ?_) (fun g => ?_)
  · have g' : yb = true := g
    replace hE := hE g'
    rw [g', Bool.true_and] at hr
    clear g g'
    repeat' (first | refine SplitP.mk (fun _ => ?_) (fun _ => ?_) | (refine CallP.pure _ hE rfl ?_; cbv) | (refine OpsP.go hT ?_; cbv))
    all_goals clear hE
    all_goals (try simp only [BE.den, IE.den, cmpDen, Bool.not_eq_true, Bool.not_eq_false, Bool.not_eq_eq_eq_not, Bool.not_true, Bool.not_false, dec_t, dec_f, beq_iff_eq, beq_eq_false_iff_ne, bne_iff_ne, ne_eq, bne_eq_false_iff_eq, ge_iff_le, gt_iff_lt, Int.not_lt, Int.not_le] at *)
    all_goals (refine .mk (.cons (.eq (.bool ?_)) .nil) rfl; simp only [BE.den, IE.den, cmpDen]; rw [hr, Bool.eq_iff_iff]; simp only [Bool.and_eq_true, Bool.or_eq_true, dec_t, dec_f, beq_iff_eq, bne_iff_ne, ge_iff_le, gt_iff_lt, Bool.false_eq_true, false_iff, true_iff]; first | omega | grind)
  · have g' : yb = false := g
    rw [g', Bool.false_and] at hr
    clear hE
    (repeat (refine OpsP.go hT ?_; cbv))
    refine .mk (.cons (.eq (.bool ?_)) .nil) rfl
    rw [BE.lit_d, BE.var_d]
    rw [hr]
end Go.Proofs.YtdhfakajlnidiaaGreat
namespace Go.Proofs.YtdhfakajlnidiaaGreat
open Go.RowKit

/-! The check of the types: conditions of a rule. -/
def ordB (y : TypeD) : Bool := decide (y.kind = 1) || decide (y.kind = 2)
def opOK (op : Int) (y : TypeD) : Bool := !(decide (op = 2) || decide (op = 3)) || ordB y
def atomTys (s : SourceD) (fs : List FromD) (m : AtomD) : List TypeD := [m.a, m.b].filterMap fun t => termTy? s fs t fs.length
def okT (s : SourceD) (fs : List FromD) (t : TermD) : Bool := (termTy? s fs t fs.length).isSome || isNumB t
def pairOK (us : List UnitD) : List TypeD → Bool
  | [] => false
  | [y, z] => cmpB us y z
  | _ => true
def atomB (s : SourceD) (fs : List FromD) (m : AtomD) : Bool :=
  decide (1 ≤ m.op) && decide (m.op ≤ 4) && ([m.a, m.b].all (okT s fs) && (pairOK s.units (atomTys s fs m) && (atomTys s fs m).all (opOK m.op)))
def Good (s : SourceD) : Prop := ∀ i j t, typeOf? s i j = some t → kindB t s.units.length = true
theorem kindB_unit {t : TypeD} {n : Int} (h : kindB t n = true) : t.kind = 1 → -1 ≤ t.unit ∧ t.unit < n := fun h1 => by
  unfold kindB at h
  rw [if_pos h1] at h
  simp only [kind1, Bool.and_eq_true, decide_eq_true_eq] at h
  exact ⟨h.2.2.2.1, h.2.2.2.2.1⟩
theorem kindB_names {t : TypeD} {n : Int} (h : kindB t n = true) : t.names.length ≤ 16 := by
  unfold kindB at h
  split at h
  · simp only [kind1, Bool.and_eq_true, decide_eq_true_eq] at h; omega
  split at h
  · simp only [kindQ, Bool.and_eq_true, decide_eq_true_eq] at h; omega
  split at h
  · simp only [kindQ, Bool.and_eq_true, decide_eq_true_eq] at h; omega
  split at h
  · simp only [kind4, Bool.and_eq_true, decide_eq_true_eq] at h; omega
  · cases h
theorem termTy_good {s : SourceD} (h : Good s) {fs : List FromD} {t : TermD} {n : Int} {y : TypeD} (hy : termTy? s fs t n = some y) : kindB y s.units.length = true := by
  unfold termTy? at hy
  split at hy
  · split at hy
    · exact h _ _ _ hy
    · cases hy
  · cases hy
def atomV (op : Int) (ba bb na nb cm : Bool) (ka kb : Int) : Bool :=
  (decide (1 ≤ op) && decide (op ≤ 4)) && (((ba || na) && (bb || nb)) && ((match ba, bb with | false, false => false | true, true => cm | _, _ => true) && ((!ba || (!(decide (op = 2) || decide (op = 3)) || (decide (ka = 1) || decide (ka = 2)))) && (!bb || (!(decide (op = 2) || decide (op = 3)) || (decide (kb = 1) || decide (kb = 2)))))))
theorem atom_v {s : SourceD} {fs : List FromD} {m : AtomD} {ya yb : TypeD} {ba bb : Bool} (ha : termTy? s fs m.a fs.length = if ba = true then some ya else none) (hb : termTy? s fs m.b fs.length = if bb = true then some yb else none) : atomB s fs m = atomV m.op ba bb (isNumB m.a) (isNumB m.b) (cmpB s.units ya yb) ya.kind yb.kind := by
  unfold atomB atomV atomTys okT
  simp only [List.all_cons, List.all_nil, Bool.and_true, List.filterMap_cons, List.filterMap_nil, ha, hb]
  cases ba <;> cases bb <;> simp [pairOK, opOK, ordB]
set_option maxRecDepth 100000 in
set_option maxHeartbeats 4000000 in
theorem atomOK_pure (S : SourceD) (R : RuleD) (m : AtomD) (hG : Good S) : Pure Tryz.prog 57 [.agg (S.c ++ R.c), .agg m.c] (boolD (atomB S R.froms m)) := by
  have hna := isNumber_pure m.a
  have hnb := isNumber_pure m.b
  obtain ⟨ya, ba, hya, hpa⟩ := termTy_ex S R m.a R.froms.length (Int.le_refl _)
  obtain ⟨yb, bb, hyb, hpb⟩ := termTy_ex S R m.b R.froms.length (Int.le_refl _)
  have hC : ba = true → bb = true → Pure Tryz.prog 78 [.agg S.c, .agg ya.c, .agg yb.c] (boolD (cmpB S.units ya yb)) := fun e1 e2 => by
    rw [e1, if_pos rfl] at hya
    rw [e2, if_pos rfl] at hyb
    have g1 := termTy_good hG hya
    have g2 := termTy_good hG hyb
    exact comparable_pure S ya yb (kindB_unit g1) (kindB_unit g2) (by have := kindB_names g1; omega)
  rw [atom_v hya hyb]
  clear hya hyb hG
  replace hpa := Pure.args (args := [.agg (S.c ++ R.c), .agg m.a.c, .int .i64 (.len R.froms)]) (args' := [.agg (S.c ++ R.c), .agg m.a.c, i64 R.froms.length]) (.cons (.refl _) (.cons (.refl _) (.cons (.int (e := .len R.froms) (e' := .var (R.froms.length : Int)) rfl) .nil))) hpa
  replace hpb := Pure.args (args := [.agg (S.c ++ R.c), .agg m.b.c, .int .i64 (.len R.froms)]) (args' := [.agg (S.c ++ R.c), .agg m.b.c, i64 R.froms.length]) (.cons (.refl _) (.cons (.refl _) (.cons (.int (e := .len R.froms) (e' := .var (R.froms.length : Int)) rfl) .nil))) hpb
  obtain ⟨na, hnae⟩ : ∃ b, b = isNumB m.a := ⟨_, rfl⟩
  obtain ⟨nb, hnbe⟩ : ∃ b, b = isNumB m.b := ⟨_, rfl⟩
  obtain ⟨cm, hcm⟩ : ∃ b, b = cmpB S.units ya yb := ⟨_, rfl⟩
  rw [← hnae] at hna ⊢
  rw [← hnbe] at hnb ⊢
  rw [← hcm] at hC ⊢
  clear hnae hnbe hcm
  obtain ⟨ni, is, nu, us, ns, ss, nr, rs, nc, cs, np, ps⟩ := S
  obtain ⟨x1, x2, x3, fl, x5, x6, x7, x8⟩ := R
  obtain ⟨a1, a2, a3, a4, a5, a6, a7⟩ := ya
  obtain ⟨b1, b2, b3, b4, b5, b6, b7⟩ := yb
  obtain ⟨op, ⟨u1, u2, u3, u4, u5⟩, ⟨v1, v2, v3, v4, v5⟩⟩ := m
  simp only
  obtain ⟨r, hr⟩ : ∃ r, r = atomV op ba bb na nb cm a1 b1 := ⟨_, rfl⟩
  rw [← hr]
  unfold atomV at hr
  refine Pure.intro (want := [boolD r]) T_ok follows Tryz.func57 rfl (by kernel_rfl) (rs := [.tmp 4]) rfl (by kernel_rfl) ?_
  generalize hP : Tryz.prog = P at *
  have hT : T.ok P := hP ▸ T_ok
  have hm : P.follows .mixedOrders = true := hP ▸ follows
  unfold Tryz.f57
  dsimp only
  cbv
  refine SplitP.mk (fun _ => ?_) (fun _ => ?_)
  · clear hna hnb hpa hpb hC
    (try simp only [BE.den, IE.den, cmpDen, Bool.not_eq_true, Bool.not_eq_false, Bool.not_eq_eq_eq_not, Bool.not_true, Bool.not_false, dec_t, dec_f, beq_iff_eq, beq_eq_false_iff_ne, bne_iff_ne, ne_eq, bne_eq_false_iff_eq, ge_iff_le, gt_iff_lt, Int.not_lt, Int.not_le] at *)
    (refine .mk (.cons (.eq (.bool ?_)) .nil) rfl; simp only [BE.den, IE.den, cmpDen]; rw [hr, Bool.eq_iff_iff]; simp only [Bool.and_eq_true, Bool.or_eq_true, dec_t, dec_f, beq_iff_eq, bne_iff_ne, ge_iff_le, gt_iff_lt, Bool.false_eq_true, false_iff, true_iff]; first | omega | grind)
  refine SplitP.mk (fun _ => ?_) (fun _ => ?_)
  · clear hna hnb hpa hpb hC
    (try simp only [BE.den, IE.den, cmpDen, Bool.not_eq_true, Bool.not_eq_false, Bool.not_eq_eq_eq_not, Bool.not_true, Bool.not_false, dec_t, dec_f, beq_iff_eq, beq_eq_false_iff_ne, bne_iff_ne, ne_eq, bne_eq_false_iff_eq, ge_iff_le, gt_iff_lt, Int.not_lt, Int.not_le] at *)
    (refine .mk (.cons (.eq (.bool ?_)) .nil) rfl; simp only [BE.den, IE.den, cmpDen]; rw [hr, Bool.eq_iff_iff]; simp only [Bool.and_eq_true, Bool.or_eq_true, dec_t, dec_f, beq_iff_eq, bne_iff_ne, ge_iff_le, gt_iff_lt, Bool.false_eq_true, false_iff, true_iff]; first | omega | grind)
  refine CodeP.rounds hT hm 3 ?_
  cbv
  cases ba <;> cases bb
  all_goals simp only [Bool.false_or, Bool.true_or, Bool.true_and, Bool.false_and, Bool.and_true, Bool.and_false, Bool.not_true, Bool.not_false] at hr
  · repeat' (first | refine SplitP.mk (fun _ => ?_) (fun h => absurd (show true = false from h) (by decide)) | refine SplitP.mk (fun h => absurd (show false = true from h) (by decide)) (fun _ => ?_) | refine SplitP.mk (fun _ => ?_) (fun _ => ?_) | (refine CallP.pure _ hpa rfl ?_; cbv) | (refine CallP.pure _ hpb rfl ?_; cbv) | (refine CallP.pure _ hna rfl ?_; cbv) | (refine CallP.pure _ hnb rfl ?_; cbv) | (refine PureP.mk _ (hC rfl rfl) rfl ?_; cbv) | (refine CallP.pure _ (hC rfl rfl) rfl ?_; cbv) | (refine OpsP.go hT ?_; cbv) | (refine CodeP.rounds hT hm 3 ?_; cbv))
    all_goals clear hna hnb hpa hpb hC
    all_goals (refine .mk (.cons (.eq (.bool ?_)) .nil) rfl; rw [BE.lit_d, BE.var_d]; exact hr.symm)
  · repeat' (first | refine SplitP.mk (fun _ => ?_) (fun h => absurd (show true = false from h) (by decide)) | refine SplitP.mk (fun h => absurd (show false = true from h) (by decide)) (fun _ => ?_) | refine SplitP.mk (fun _ => ?_) (fun _ => ?_) | (refine CallP.pure _ hpa rfl ?_; cbv) | (refine CallP.pure _ hpb rfl ?_; cbv) | (refine CallP.pure _ hna rfl ?_; cbv) | (refine CallP.pure _ hnb rfl ?_; cbv) | (refine PureP.mk _ (hC rfl rfl) rfl ?_; cbv) | (refine CallP.pure _ (hC rfl rfl) rfl ?_; cbv) | (refine OpsP.go hT ?_; cbv) | (refine CodeP.rounds hT hm 3 ?_; cbv))
    all_goals clear hna hnb hpa hpb hC
    all_goals (try simp only [BE.den, IE.den, cmpDen, Bool.not_eq_true, Bool.not_eq_false, Bool.not_eq_eq_eq_not, Bool.not_true, Bool.not_false, dec_t, dec_f, beq_iff_eq, beq_eq_false_iff_ne, bne_iff_ne, ne_eq, bne_eq_false_iff_eq, ge_iff_le, gt_iff_lt, Int.not_lt, Int.not_le] at *)
    all_goals (refine .mk (.cons (.eq (.bool ?_)) .nil) rfl; simp only [BE.den, IE.den, cmpDen]; rw [hr, Bool.eq_iff_iff]; simp only [Bool.and_eq_true, Bool.or_eq_true, dec_t, dec_f, beq_iff_eq, bne_iff_ne, ge_iff_le, gt_iff_lt, Bool.false_eq_true, false_iff, true_iff]; first | omega | grind)
  · repeat' (first | refine SplitP.mk (fun _ => ?_) (fun h => absurd (show true = false from h) (by decide)) | refine SplitP.mk (fun h => absurd (show false = true from h) (by decide)) (fun _ => ?_) | refine SplitP.mk (fun _ => ?_) (fun _ => ?_) | (refine CallP.pure _ hpa rfl ?_; cbv) | (refine CallP.pure _ hpb rfl ?_; cbv) | (refine CallP.pure _ hna rfl ?_; cbv) | (refine CallP.pure _ hnb rfl ?_; cbv) | (refine PureP.mk _ (hC rfl rfl) rfl ?_; cbv) | (refine CallP.pure _ (hC rfl rfl) rfl ?_; cbv) | (refine OpsP.go hT ?_; cbv) | (refine CodeP.rounds hT hm 3 ?_; cbv))
    all_goals clear hna hnb hpa hpb hC
    all_goals (try simp only [BE.den, IE.den, cmpDen, Bool.not_eq_true, Bool.not_eq_false, Bool.not_eq_eq_eq_not, Bool.not_true, Bool.not_false, dec_t, dec_f, beq_iff_eq, beq_eq_false_iff_ne, bne_iff_ne, ne_eq, bne_eq_false_iff_eq, ge_iff_le, gt_iff_lt, Int.not_lt, Int.not_le] at *)
    all_goals (refine .mk (.cons (.eq (.bool ?_)) .nil) rfl; simp only [BE.den, IE.den, cmpDen]; rw [hr, Bool.eq_iff_iff]; simp only [Bool.and_eq_true, Bool.or_eq_true, dec_t, dec_f, beq_iff_eq, bne_iff_ne, ge_iff_le, gt_iff_lt, Bool.false_eq_true, false_iff, true_iff]; first | omega | grind)
  · repeat' (first | refine SplitP.mk (fun _ => ?_) (fun h => absurd (show true = false from h) (by decide)) | refine SplitP.mk (fun h => absurd (show false = true from h) (by decide)) (fun _ => ?_) | refine SplitP.mk (fun _ => ?_) (fun _ => ?_) | (refine CallP.pure _ hpa rfl ?_; cbv) | (refine CallP.pure _ hpb rfl ?_; cbv) | (refine CallP.pure _ hna rfl ?_; cbv) | (refine CallP.pure _ hnb rfl ?_; cbv) | (refine PureP.mk _ (hC rfl rfl) rfl ?_; cbv) | (refine CallP.pure _ (hC rfl rfl) rfl ?_; cbv) | (refine OpsP.go hT ?_; cbv) | (refine CodeP.rounds hT hm 3 ?_; cbv))
    all_goals clear hna hnb hpa hpb hC
    · (try simp only [BE.den, IE.den, cmpDen, Bool.not_eq_true, Bool.not_eq_false, Bool.not_eq_eq_eq_not, Bool.not_true, Bool.not_false, dec_t, dec_f, beq_iff_eq, beq_eq_false_iff_ne, bne_iff_ne, ne_eq, bne_eq_false_iff_eq, ge_iff_le, gt_iff_lt, Int.not_lt, Int.not_le] at *)
      (refine .mk (.cons (.eq (.bool ?_)) .nil) rfl; simp only [BE.den, IE.den, cmpDen]; rw [hr, Bool.eq_iff_iff]; simp only [Bool.and_eq_true, Bool.or_eq_true, dec_t, dec_f, beq_iff_eq, bne_iff_ne, ge_iff_le, gt_iff_lt, Bool.false_eq_true, false_iff, true_iff]; first | omega | grind)
    · refine CodeP.pre [(3, _), (4, _), (74, _), (75, _), (76, _)] [.dead, _, .dead, .dead, _, .dead, .dead] ⟨⟨.refl _, .refl _, .refl _, .refl _, .refl _, trivial⟩, ⟨.dead _, .refl _, .dead _, .dead _, .refl _, .dead _, .dead _, trivial⟩, rfl⟩ (Nat.zero_le _) ?_
      refine CodeP.rounds hT hm 3 ?_
      cbv
      repeat' (first | refine SplitP.mk (fun _ => ?_) (fun h => absurd (show true = false from h) (by decide)) | refine SplitP.mk (fun h => absurd (show false = true from h) (by decide)) (fun _ => ?_) | refine SplitP.mk (fun _ => ?_) (fun _ => ?_) | (refine OpsP.go hT ?_; cbv))
      all_goals (try simp only [BE.den, IE.den, cmpDen, Bool.not_eq_true, Bool.not_eq_false, Bool.not_eq_eq_eq_not, Bool.not_true, Bool.not_false, dec_t, dec_f, beq_iff_eq, beq_eq_false_iff_ne, bne_iff_ne, ne_eq, bne_eq_false_iff_eq, ge_iff_le, gt_iff_lt, Int.not_lt, Int.not_le] at *)
      all_goals (refine .mk (.cons (.eq (.bool ?_)) .nil) rfl; simp only [BE.den, IE.den, cmpDen]; rw [hr, Bool.eq_iff_iff]; simp only [Bool.and_eq_true, Bool.or_eq_true, dec_t, dec_f, beq_iff_eq, bne_iff_ne, ge_iff_le, gt_iff_lt, Bool.false_eq_true, false_iff, true_iff]; first | omega | grind)
end Go.Proofs.YtdhfakajlnidiaaGreat
namespace Go.Proofs.YtdhfakajlnidiaaGreat
open Go.RowKit

/-! Rows in other words. -/
theorem row_app {H H' : List Bk} {α : Type} {ty n ver : Nat} {c : α → List D} {cur cur' : List α} {e : List D} (z : α) (hc : cur' = cur ++ [z]) (he : DsEq e (c z)) : BkEq H H' (.row ty n ver (.app (.map c cur) e)) (.row ty n ver (.map c cur')) := by
  subst hc
  refine .rowe (by simp [RE.den]) fun i a b h1 h2 => ?_
  simp only [RE.den, List.map_append, List.map_cons, List.map_nil] at h1 h2
  rcases Nat.lt_or_ge i cur.length with q | q
  · rw [List.getElem?_append_left (by simpa using q)] at h1 h2
    rw [h1] at h2
    cases h2
    exact ⟨rfl, fun j d d' h3 h4 => by rw [h3] at h4; cases h4; exact .refl _⟩
  · rw [List.getElem?_append_right (by simpa using q)] at h1 h2
    have hi : i - (cur.map c).length = 0 := by
      have := (List.getElem?_eq_some_iff.1 h1).1
      simpa using this
    rw [hi] at h1 h2
    simp at h1 h2
    subst h1 h2
    exact he.get
theorem map_cells {α : Type} {c : α → List D} {cur : List α} (h : ∀ a, (c a).all D.cellB = true) : ∀ e ∈ (RE.map c cur).den, e.all D.cellB = true := fun e he => by
  simp only [RE.den, List.mem_map] at he
  obtain ⟨a, _, rfl⟩ := he
  exact h a
theorem osl_start {H H' : List Bk} {n b v : Nat} : SnD H H' (.osl n b v (.lit true) (.lit 0) (.lit 0)) (.osl n b v (.cmp .eql (.nat 0) (.lit 0)) (.lit 0) (.nat 0)) := .eq (.osl rfl rfl rfl)
theorem osl_inc {H H' : List Bk} {n b v : Nat} (k : Nat) : SnD H H' (.osl n b v (.lit false) (.lit 0) (.sum (.nat k) (.lit 1))) (.osl n b v (.lit false) (.lit 0) (.nat (k + 1))) := by
  refine .eq (.osl rfl rfl ?_)
  show (k : Int) + 1 = ((k + 1 : Nat) : Int)
  omega
theorem osl_step {H H' : List Bk} {n b v : Nat} (k : Nat) : SnD H H' (.osl n b v (.lit false) (.lit 0) (.sum (.nat k) (.lit 1))) (.osl n b v (.cmp .eql (.nat (k + 1)) (.lit 0)) (.lit 0) (.nat (k + 1))) := by
  refine .eq (.osl ?_ rfl ?_)
  · show false = (((k + 1 : Nat) : Int) == 0)
    exact (beq_eq_false_iff_ne.2 (by omega)).symm
  · show (k : Int) + 1 = ((k + 1 : Nat) : Int)
    omega
theorem rep_row {H H' : List Bk} {ty ver m : Nat} {l : List Int} {n : IE} (hl : l = List.replicate m 0) (hn : n.den = (m : Int)) : BkEq H H' (.row ty 1 ver (.rep n [.int .i64 (.lit 0)])) (.row ty 1 ver (.map intC l)) := by
  subst hl
  have h1 : (RE.rep n [.int .i64 (.lit 0)]).den = List.replicate m [.int .i64 (.lit 0)] := by simp only [RE.den, hn, Int.toNat_natCast]
  have h2 : (RE.map intC (List.replicate m (0 : Int))).den = List.replicate m (intC 0) := List.map_replicate
  refine .rowe (by rw [h1, h2, List.length_replicate, List.length_replicate]) fun i e e' he he' => ?_
  rw [h1, List.getElem?_replicate] at he
  rw [h2, List.getElem?_replicate] at he'
  split at he
  · next q =>
    rw [if_pos q] at he'
    simp only [Option.some.injEq] at he he'
    subst he
    subst he'
    refine ⟨rfl, fun j d d' hd hd' => ?_⟩
    cases j with
    | zero =>
      simp only [intC, List.getElem?_cons_zero, Option.some.injEq] at hd hd'
      subst hd
      subst hd'
      exact .int rfl
    | succ j => simp at hd
  · cases he
theorem upd_row {H H' : List Bk} {ty ver k : Nat} {l l' : List Int} {i e : IE} {v : Int} (hk : i.den.toNat = k) (he : e.den = v) (hl : l.set k v = l') : BkEq H H' (.row ty 1 ver (.upd (.map intC l) i 0 [.int .i64 e])) (.row ty 1 ver (.map intC l')) := by
  subst hl
  have h1 : (RE.upd (.map intC l) i 0 [.int .i64 e]).den = (l.map intC).modify k (fun cs => over cs 0 [.int .i64 e]) := by simp only [RE.den, hk]
  have h2 : (RE.map intC (l.set k v)).den = (l.set k v).map intC := rfl
  refine .rowe (by rw [h1, h2]; simp) fun j a b ha hb => ?_
  rw [h1, List.getElem?_modify, List.getElem?_map] at ha
  rw [h2, List.getElem?_map, List.getElem?_set] at hb
  by_cases q : k = j
  · subst q
    cases hx : l[k]? with
    | none => rw [hx] at ha; simp at ha
    | some x =>
      have hlt := (List.getElem?_eq_some_iff.1 hx).1
      rw [hx] at ha
      simp only [Option.map_some, Option.map_eq_map, if_true, Option.some.injEq] at ha
      simp only [if_true, hlt, Option.map_some, Option.some.injEq] at hb
      subst ha
      subst hb
      refine ⟨rfl, fun j d d' hd hd' => ?_⟩
      cases j with
      | zero =>
        simp only [over, intC, List.take_zero, List.nil_append, List.cons_append, List.getElem?_cons_zero, Option.some.injEq] at hd hd'
        subst hd
        subst hd'
        exact .int he
      | succ j => simp [over, intC] at hd
  · rw [if_neg q] at hb
    simp only [q, if_false, Option.map_eq_map, Option.map_id_fun', id_eq] at ha
    rw [ha] at hb
    cases hb
    exact ⟨rfl, fun j d d' hd hd' => by rw [hd] at hd'; cases hd'; exact .refl _⟩
theorem app_ok {α : Type} {c : α → List D} {cur : List α} {k : Nat} {e : List D} {by_ : Nat} (hk : cur.length = k) (hk2 : k ≤ 1000000) (hc : ∀ a, (c a).all D.cellB = true) (he : e.all D.cellB = true) (hby : by_ ≤ 10000000) :
    (IE.lit 1).den = (RE.lits [e]).den.length ∧ (IE.nat k).den = (RE.map c cur).den.length ∧ (∀ e' ∈ (RE.lits [e]).den, e'.all D.cellB = true) ∧ (∀ e' ∈ (RE.map c cur).den, e'.all D.cellB = true) ∧ (IE.nat k).den + (IE.lit 1).den ≤ 9223372036854775807 ∧ ((IE.nat k).den + (IE.lit 1).den) * (by_ : Int) ≤ 140737488355328 := by
  refine ⟨rfl, ?_, fun e' he' => ?_, map_cells hc, ?_, ?_⟩
  · simp [IE.den, RE.den, hk]
  · simp [RE.den] at he'
    subst he'
    exact he
  · simp only [IE.den]; omega
  · simp only [IE.den]
    have h1 : (k : Int) + 1 ≤ 1000001 := by omega
    have h2 : (0 : Int) ≤ (k : Int) + 1 := by omega
    have h3 : (by_ : Int) ≤ 10000000 := by omega
    calc ((k : Int) + 1) * (by_ : Int) ≤ ((k : Int) + 1) * 10000000 := Int.mul_le_mul_of_nonneg_left h3 h2
      _ ≤ 1000001 * 10000000 := Int.mul_le_mul_of_nonneg_right h1 (by omega)
      _ ≤ _ := by omega
end Go.Proofs.YtdhfakajlnidiaaGreat
namespace Go.Proofs.YtdhfakajlnidiaaGreat
open Go.RowKit

/-! The check of the types: rules. -/
def headLen (s : SourceD) (n : Int) : Int := match s.schemas[n.toNat]? with | some x => x.fields.length | none => 0
def setIn (s : SourceD) (r : RuleD) (x : SetD) : Bool := match typeOf? s r.schema x.field with | some fd => !decide (x.field = 0) && setB s r.froms fd x.term | none => false
def ruleB (s : SourceD) (r : RuleD) : Bool :=
  fromsB s r.froms && (decide (r.where_.length ≤ 8) && (r.where_.all (atomB s r.froms) && (schIn s r.schema && (decide ((r.sets.length : Int) = headLen s r.schema - 1) && (r.sets.all (setIn s r) && decide (r.sets.map (·.field)).Nodup)))))
theorem Good.names {S : SourceD} (hG : Good S) (i j : Int) (y : TypeD) (h : typeOf? S i j = some y) : y.names.length ≤ 100000 := by
  have := kindB_names (hG i j y h)
  omega
set_option maxRecDepth 100000 in
set_option maxHeartbeats 4000000 in
theorem ruleOK_pure (S : SourceD) (R : RuleD) (hG : Good S) (hF : ∀ x ∈ S.schemas, x.fields.length ≤ 100000) : Pure Tryz.prog 37 [.agg (S.c ++ R.c)] (boolD (ruleB S R)) := by
  have hfr := fromsOK_pure S R
  have hat : ∀ m : AtomD, Pure Tryz.prog 57 [.agg (S.c ++ R.c), .agg m.c] (boolD (atomB S R.froms m)) := fun m => atomOK_pure S R m hG
  have hset : ∀ x : SetD, ∃ t b sb, setIn S R x = (b && (!decide (x.field = 0) && sb)) ∧ Pure Tryz.prog 58 [.agg S.c, i64 R.schema, i64 x.field] (.tup [.agg (TypeD.c t), boolD b]) ∧ Pure Tryz.prog 59 [.agg (S.c ++ R.c), .agg t.c, .agg x.term.c] (boolD sb) := fun x => by
    obtain ⟨t, b, h1, h2⟩ := typeOf_ex S R.schema x.field
    refine ⟨t, b, _, ?_, h2, setOK_pure S R t x.term hG.names⟩
    unfold setIn
    rw [h1]
    cases b <;> simp
  have hdf : ∀ L : List Int, L.length ≤ 100000 → Pure Tryz.prog 60 [.slm 1 none intC L] (boolD (decide L.Nodup)) := fun L hL => diffI_pure L none hL
  obtain ⟨r, hr⟩ : ∃ r, r = ruleB S R := ⟨_, rfl⟩
  rw [← hr]
  unfold ruleB schIn headLen at hr
  obtain ⟨fb, hfb⟩ : ∃ b, b = fromsB S R.froms := ⟨_, rfl⟩
  obtain ⟨AB, hAB⟩ : ∃ b, b = atomB S R.froms := ⟨_, rfl⟩
  obtain ⟨SB, hSB⟩ : ∃ b, b = setIn S R := ⟨_, rfl⟩
  rw [← hfb] at hfr hr
  rw [← hAB] at hat hr
  rw [← hSB] at hset hr
  clear hfb hAB hSB hG
  obtain ⟨ni, is, nu, us, ns, ss, nr, rs, nc, cs, np, ps⟩ := S
  obtain ⟨x1, x2, x3, fl, x5, wl, x7, sl⟩ := R
  simp only at hr hF hset
  obtain ⟨wn, hwn⟩ : ∃ n : Nat, n = wl.length := ⟨_, rfl⟩
  obtain ⟨sn, hsn⟩ : ∃ n : Nat, n = sl.length := ⟨_, rfl⟩
  obtain ⟨FF, hFF⟩ : ∃ f : Nat → List Int, f = fun k => (sl.take k).map (·.field) := ⟨_, rfl⟩
  have hF0 : FF 0 = [] := by rw [hFF]; simp
  have hFs : ∀ k x, sl[k]? = some x → FF (k + 1) = FF k ++ [x.field] := fun k x h => by
    rw [hFF]
    simp only
    rw [List.take_add_one, h]
    simp
  have hFl : ∀ k, k ≤ sl.length → (FF k).length = k := fun k h => by rw [hFF]; simp; omega
  have hFe : FF sl.length = sl.map (·.field) := by rw [hFF]; simp
  rw [← hFe] at hr
  clear hFF hFe
  refine Pure.intro (want := [boolD r]) T_ok follows Tryz.func37 rfl (by kernel_rfl) (rs := [.tmp 2]) rfl (by kernel_rfl) ?_
  generalize hP : Tryz.prog = P at *
  have hT : T.ok P := hP ▸ T_ok
  have hm : P.follows .mixedOrders = true := hP ▸ follows
  unfold Tryz.f37
  dsimp only
  cbv
  refine CallP.pure _ hfr rfl ?_
  clear hfr
  cbv
  refine SplitP.mk (fun g => ?_) (fun g => ?_)
  · have g' : (!fb) = true := g
    have g2 : fb = false := by simpa using g'
    rw [g2, Bool.false_and] at hr
    refine .mk (.cons (.eq (.bool ?_)) .nil) rfl
    rw [BE.lit_d, BE.var_d]
    exact hr.symm
  have g' : (!fb) = false := g
  have g2 : fb = true := by simpa using g'
  rw [g2, Bool.true_and] at hr
  clear g g' g2
  refine SplitP.mk (fun g => ?_) (fun g => ?_)
  · have g' : ¬ wl.length ≤ 8 := by have h := of_decide_eq_true (show decide ((wl.length : Int) > 8) = true from g); omega
    rw [decide_eq_false g', Bool.false_and] at hr
    refine .mk (.cons (.eq (.bool ?_)) .nil) rfl
    rw [BE.lit_d, BE.var_d]
    exact hr.symm
  have g2 : wl.length ≤ 8 := by have h := of_decide_eq_false (show decide ((wl.length : Int) > 8) = false from g); omega
  rw [decide_eq_true g2, Bool.true_and] at hr
  clear g
  obtain ⟨r2, hr2⟩ : ∃ q, q = (decide (0 ≤ x2) && decide (x2 < (ss.length : Int)) && (decide ((sl.length : Int) = (match ss[x2.toNat]? with | some x => (x.fields.length : Int) | none => 0) - 1) && (sl.all SB && decide (FF sl.length).Nodup))) := ⟨_, rfl⟩
  replace hr : r = (wl.all AB && r2) := by rw [hr, hr2]
  refine CodeP.loopc hT hm (X := Nat) (fun k => [(25, .int .i64 (.nat k))]) (fun k => k ≤ wl.length ∧ r = ((wl.drop k).all AB && r2)) (fun k => wn - k) 0 ⟨by simp, hr⟩ (Nat.zero_le _) ?_ rfl ?_
  · (cbv; (repeat' (first | exact SnD.refl _ | exact trivial | exact SnD.nat0 | refine And.intro ?_ ?_)))
  clear hr
  intro k ⟨hk, hq⟩
  cbv
  refine SplitP.mk (fun hs => ?_) (fun hs => ?_)
  · have hkn : k < wl.length := by
      have h5 : decide ((k : Int) < (wl.length : Int)) = true := hs
      have := of_decide_eq_true h5
      omega
    clear hs
    refine ElemP.mk (by show (0 : Int) ≤ (k : Int) ∧ (k : Int) < (wl.length : Int); omega) (fun y hy => ?_)
    replace hy : wl[k]? = some y := hy
    rw [drop_cons hy, List.all_cons] at hq
    obtain ⟨b, hb⟩ : ∃ b, b = AB y := ⟨_, rfl⟩
    have hp := hat y
    rw [← hb] at hq hp
    clear hat hset hdf hb
    obtain ⟨y1, ⟨y2, y3, y4, y5, y6⟩, ⟨y7, y8, y9, y10, y11⟩⟩ := y
    cbv
    refine CallP.pure _ hp rfl ?_
    clear hp
    cbv
    refine SplitP.mk (fun g => ?_) (fun g => ?_)
    · have g' : (!b) = true := g
      have g2 : b = false := by simpa using g'
      rw [g2, Bool.false_and, Bool.false_and] at hq
      refine .mk (.cons (.eq (.bool ?_)) .nil) rfl
      rw [BE.lit_d, BE.var_d]
      exact hq.symm
    have g' : (!b) = false := g
    have g2 : b = true := by simpa using g'
    rw [g2, Bool.true_and] at hq
    refine BackP.intro (k + 1) ⟨by omega, hq⟩ (by show wn - (k + 1) < wn - k; omega) ⟨?_, ?_, rfl⟩
    · (cbv; (repeat' (first | exact SnD.refl _ | exact trivial | exact SnD.nat0 | refine And.intro ?_ ?_)))
      exact .inc (by omega)
    · (cbv; (repeat' (first | exact trivial | exact BkEq.refl _ | exact SnD.refl _ | exact SnDs.nil | refine BkEq.cells ?_ | refine SnDs.cons ?_ ?_ | refine And.intro ?_ ?_)))
  have hkn : wl.length ≤ k := by
    have h5 : decide ((k : Int) < (wl.length : Int)) = false := hs
    have := of_decide_eq_false h5
    omega
  clear hs
  rw [List.drop_of_length_le (by omega), List.all_nil, Bool.true_and] at hq
  have hr := hq.trans hr2
  clear hq hr2 hk hkn hat
  refine ⟨by kernel_rfl, ?_⟩
  cbv
  refine SplitP.mk (fun g => ?_) (fun g => ?_)
  · have g' : ¬ 0 ≤ x2 := by have h := of_decide_eq_true (show decide (x2 < 0) = true from g); omega
    rw [decide_eq_false g', Bool.false_and, Bool.false_and] at hr
    refine .mk (.cons (.eq (.bool ?_)) .nil) rfl
    rw [BE.lit_d, BE.var_d]
    exact hr.symm
  have g3 : 0 ≤ x2 := by have h := of_decide_eq_false (show decide (x2 < 0) = false from g); omega
  rw [decide_eq_true g3, Bool.true_and] at hr
  clear g
  refine SplitP.mk (fun g => ?_) (fun g => ?_)
  · have g' : ¬ x2 < (ss.length : Int) := by have h := of_decide_eq_true (show decide (x2 ≥ (ss.length : Int)) = true from g); omega
    rw [decide_eq_false g', Bool.false_and] at hr
    refine .mk (.cons (.eq (.bool ?_)) .nil) rfl
    rw [BE.lit_d, BE.var_d]
    exact hr.symm
  have g4 : x2 < (ss.length : Int) := by have h := of_decide_eq_false (show decide (x2 ≥ (ss.length : Int)) = false from g); omega
  rw [decide_eq_true g4, Bool.true_and] at hr
  clear g
  refine ElemP.mk ⟨g3, g4⟩ (fun z hz => ?_)
  replace hz : ss[x2.toNat]? = some z := hz
  rw [hz] at hr
  have hzF := hF z (List.mem_of_getElem? hz)
  clear hF hz
  obtain ⟨z1, z2, z3, z4, z5, zf, z7, z8⟩ := z
  simp only at hr hzF
  have hsub : binDen .sub .i64 (zf.length : Int) 1 = (zf.length : Int) - 1 := sub64 (by omega) (by omega)
  cbv
  refine SplitP.mk (fun g => ?_) (fun g => ?_)
  · have h3 : ((sl.length : Int) != binDen .sub .i64 (zf.length : Int) 1) = true := g
    rw [hsub] at h3
    have h4 : ¬ (sl.length : Int) = (zf.length : Int) - 1 := by simpa using h3
    rw [decide_eq_false h4, Bool.false_and] at hr
    refine .mk (.cons (.eq (.bool ?_)) .nil) rfl
    rw [BE.lit_d, BE.var_d]
    exact hr.symm
  have h3 : ((sl.length : Int) != binDen .sub .i64 (zf.length : Int) 1) = false := g
  rw [hsub] at h3
  have h4 : (sl.length : Int) = (zf.length : Int) - 1 := by simpa using h3
  rw [decide_eq_true h4, Bool.true_and] at hr
  have hsl : sl.length ≤ 100000 := by omega
  clear g h3 h4 hsub hzF
  obtain ⟨du, hdu⟩ : ∃ b, b = decide (FF sl.length).Nodup := ⟨_, rfl⟩
  have hD := hdf (FF sl.length) (by rw [hFl _ (Nat.le_refl _)]; exact hsl)
  rw [← hdu] at hr hD
  clear hdf hdu
  refine CodeP.virt 6 3 1 rfl ?_
  refine CodeP.loopm hT hm (X := Nat) (fun k => [(69, .int .i64 (.nat k)), (6, .osl 1 1 (k + 1) (.cmp .eql (.nat k) (.lit 0)) (.lit 0) (.nat k))])
    (fun k => [.cells (SourceD.c ⟨ni, is, nu, us, ns, ss, nr, rs, nc, cs, np, ps⟩ ++ RuleD.c ⟨x1, x2, x3, fl, x5, wl, x7, sl⟩), .row 3 1 (k + 1) (.map intC (FF k))])
    (fun k => k ≤ sl.length ∧ r = ((sl.drop k).all SB && du)) (fun k => sn - k) 0 ⟨Nat.zero_le _, hr⟩ (fun _ => by simp) ⟨?_, ?_, rfl⟩ ?_
  · refine ⟨.nat0, osl_start, ?_⟩
    (cbv; (repeat' (first | exact SnD.refl _ | exact trivial | exact SnD.nat0 | refine And.intro ?_ ?_)))
  · rw [hF0]
    exact ⟨.refl _, .row rfl, trivial⟩
  clear hr
  intro k ⟨hk, hq⟩
  cbv
  refine SplitP.mk (fun hs => ?_) (fun hs => ?_)
  · have hkn : k < sl.length := by
      have h5 : decide ((k : Int) < (sl.length : Int)) = true := hs
      have := of_decide_eq_true h5
      omega
    clear hs
    refine ElemP.mk (by show (0 : Int) ≤ (k : Int) ∧ (k : Int) < (sl.length : Int); omega) (fun y hy => ?_)
    replace hy : sl[k]? = some y := hy
    have hFk := hFs k y hy
    have hFn := hFl k hk
    rw [drop_cons hy, List.all_cons] at hq
    obtain ⟨t, b, sb, h1, h2, h5⟩ := hset y
    rw [h1] at hq
    clear hset hy h1
    obtain ⟨y1, y2, ⟨y3, y4, y5, y6, y7⟩⟩ := y
    obtain ⟨t1, t2, t3, t4, t5, t6, t7⟩ := t
    simp only at hq hFk
    cbv
    refine CallP.pure _ h2 rfl ?_
    clear h2
    cbv
    refine SplitP.mk (fun g => ?_) (fun g => ?_)
    · have g' : (!b) = true := g
      have g2 : b = false := by simpa using g'
      rw [g2, Bool.false_and, Bool.false_and] at hq
      refine .mk (.cons (.eq (.bool ?_)) .nil) rfl
      rw [BE.lit_d, BE.var_d]
      exact hq.symm
    have g' : (!b) = false := g
    have g2 : b = true := by simpa using g'
    rw [g2, Bool.true_and] at hq
    clear g g' g2
    refine SplitP.mk (fun g => ?_) (fun g => ?_)
    · have g' : (y2 == 0) = true := g
      have g2 : y2 = 0 := by simpa using g'
      rw [decide_eq_true g2] at hq
      refine .mk (.cons (.eq (.bool ?_)) .nil) rfl
      rw [BE.lit_d, BE.var_d]
      rw [hq]; simp
    have g' : (y2 == 0) = false := g
    have g2 : y2 ≠ 0 := by simpa using g'
    rw [decide_eq_false g2, Bool.not_false, Bool.true_and] at hq
    clear g g' g2
    refine CallP.pure _ h5 rfl ?_
    clear h5
    cbv
    refine SplitP.mk (fun g => ?_) (fun g => ?_)
    · have g' : (!sb) = true := g
      have g2 : sb = false := by simpa using g'
      rw [g2, Bool.false_and, Bool.false_and] at hq
      refine .mk (.cons (.eq (.bool ?_)) .nil) rfl
      rw [BE.lit_d, BE.var_d]
      exact hq.symm
    have g' : (!sb) = false := g
    have g2 : sb = true := by simpa using g'
    rw [g2, Bool.true_and] at hq
    clear g g' g2
    refine ReqP.mk (app_ok hFn (by omega) (fun _ => rfl) rfl (by decide)) (fun _ => ?_)
    refine BackP.intro (k + 1) ⟨by omega, hq⟩ (by show sn - (k + 1) < sn - k; omega) ⟨?_, ⟨.refl _, row_app y2 hFk (.cons (.refl _) .nil), trivial⟩, rfl⟩
    refine ⟨.inc (by omega), osl_step k, ?_⟩
    (cbv; (repeat' (first | exact SnD.refl _ | exact trivial | exact SnD.nat0 | refine And.intro ?_ ?_)))
  · have hkn : sl.length ≤ k := by
      have h5 : decide ((k : Int) < (sl.length : Int)) = false := hs
      have := of_decide_eq_false h5
      omega
    clear hs
    have hkl : k = sl.length := by omega
    subst hkl
    rw [List.drop_of_length_le (Nat.le_refl _), List.all_nil, Bool.true_and] at hq
    have hFn := hFl sl.length (Nat.le_refl _)
    refine CallP.lend _ _ hD (.cons (.slm rfl (.inl ⟨_, _, rfl, rfl⟩) rfl (by show (sl.length : Int) = ((FF sl.length).length : Int); rw [hFn]) (fun e h => by cases h)) .nil) rfl rfl ?_
    cbv
    refine .mk (.cons (.eq (.bool ?_)) .nil) rfl
    show du = r
    exact hq.symm
end Go.Proofs.YtdhfakajlnidiaaGreat
namespace Go.Proofs.YtdhfakajlnidiaaGreat
open Go.RowKit

/-! The check of the types: all, ContainsFunc, IndexFunc (printed by gen_DK.py). -/
def idxF {α : Type} (p : α → Bool) : Nat → List α → Int
  | _, [] => -1
  | k, x :: l => if p x = true then (k : Int) else idxF p (k + 1) l
theorem idxF_any {α : Type} (p : α → Bool) : ∀ (l : List α) (k : Nat), decide (idxF p k l ≥ 0) = l.any p
  | [], _ => rfl
  | x :: l, k => by
    rw [idxF, List.any_cons]
    cases h : p x with
    | true => rw [if_pos rfl, Bool.true_or]; exact decide_eq_true (by omega)
    | false => rw [if_neg (by decide), Bool.false_or]; exact idxF_any p l (k + 1)
set_option maxRecDepth 100000 in
set_option maxHeartbeats 4000000 in
theorem idxU_pure (S : SourceD) (l : List UnitD) (nb : Option BE) (p : UnitD → Bool) (hl : l.length < 9223372036854775807) (hp : ∀ x ∈ l, Pure Tryz.prog 62 [.agg (UnitD.c x), .dp [.fn (.func 39) [.agg S.c] []] 0] (boolD (p x))) : Pure Tryz.prog 80 [.slm 5 nb UnitD.c l, .fn (.func 62) [] [.dp [.fn (.func 39) [.agg S.c] []] 0]] (i64 (idxF p 0 l)) := by
  obtain ⟨r, hr⟩ : ∃ r, r = idxF p 0 l := ⟨_, rfl⟩
  rw [← hr]
  obtain ⟨n, hn⟩ : ∃ n : Nat, n = l.length := ⟨_, rfl⟩
  obtain ⟨ni, is, nu, us, ns, ss, nr, rs, nc, cs, np, ps⟩ := S
  refine Pure.intro (want := [i64 r]) T_ok follows Tryz.func80 rfl (by kernel_rfl) (rs := [.tmp 4]) rfl (by kernel_rfl) ?_
  generalize hP : Tryz.prog = P at *
  have hT : T.ok P := hP ▸ T_ok
  have hm : P.follows .mixedOrders = true := hP ▸ follows
  unfold Tryz.f80
  dsimp only
  cbv
  refine CodeP.loopc hT hm (X := Nat) (fun k => [(8, .int .i64 (.nat k))]) (fun k => k ≤ l.length ∧ r = idxF p k (l.drop k)) (fun k => n - k) 0 ⟨by simp, hr⟩ (Nat.zero_le _) ?_ rfl ?_
  · (cbv; (repeat' (first | exact SnD.refl _ | exact trivial | exact SnD.nat0 | refine And.intro ?_ ?_)))
  clear hr
  intro k ⟨hk, hq⟩
  cbv
  refine SplitP.mk (fun hs => ?_) (fun hs => ?_)
  · have hkn : k < l.length := by
      have h5 : decide ((k : Int) < (l.length : Int)) = true := hs
      have := of_decide_eq_true h5
      omega
    clear hs
    refine ElemP.mk (by show (0 : Int) ≤ (k : Int) ∧ (k : Int) < (l.length : Int); omega) (fun y hy => ?_)
    replace hy : l[k]? = some y := hy
    rw [drop_cons hy, idxF] at hq
    have h1 := hp y (List.mem_of_getElem? hy)
    obtain ⟨b, hb⟩ : ∃ b, b = p y := ⟨_, rfl⟩
    rw [← hb] at hq h1
    clear hp hb hy
    obtain ⟨y1, y2, y3, y4, y5⟩ := y
    cbv
    refine CallP.pure _ h1 rfl ?_
    clear h1
    cbv
    refine SplitP.mk (fun g => ?_) (fun g => ?_)
    · have g2 : b = true := g
      rw [g2, if_pos rfl] at hq
      refine .mk (.cons (.eq (.int ?_)) .nil) rfl
      show (k : Int) = r
      exact hq.symm
    · have g2 : b = false := g
      rw [g2, if_neg (by decide)] at hq
      refine BackP.intro (k + 1) ⟨by omega, hq⟩ (by show n - (k + 1) < n - k; omega) ⟨?_, ?_, rfl⟩
      · (cbv; (repeat' (first | exact SnD.refl _ | exact trivial | exact SnD.nat0 | refine And.intro ?_ ?_)))
        exact .inc (by omega)
      · (cbv; (repeat' (first | exact trivial | exact BkEq.refl _ | exact SnD.refl _ | exact SnDs.nil | refine BkEq.cells ?_ | refine SnDs.cons ?_ ?_ | refine And.intro ?_ ?_)))
  · have hkn : l.length ≤ k := by
      have h5 : decide ((k : Int) < (l.length : Int)) = false := hs
      have := of_decide_eq_false h5
      omega
    clear hs
    rw [List.drop_of_length_le (by omega), idxF] at hq
    refine .mk (.cons (.eq (.int ?_)) .nil) rfl
    show (-1 : Int) = r
    exact hq.symm
set_option maxRecDepth 100000 in
set_option maxHeartbeats 4000000 in
theorem conU_pure (S : SourceD) (l : List UnitD) (nb : Option BE) (p : UnitD → Bool) (hl : l.length < 9223372036854775807) (hp : ∀ x ∈ l, Pure Tryz.prog 62 [.agg (UnitD.c x), .dp [.fn (.func 39) [.agg S.c] []] 0] (boolD (p x))) : Pure Tryz.prog 61 [.slm 5 nb UnitD.c l, .fn (.func 62) [] [.dp [.fn (.func 39) [.agg S.c] []] 0]] (boolD (l.any p)) := by
  have hi := idxU_pure S l nb p hl hp
  obtain ⟨r, hr⟩ : ∃ r, r = l.any p := ⟨_, rfl⟩
  rw [← hr]
  have hv := idxF_any p l 0
  rw [← hr] at hv
  obtain ⟨v, hv2⟩ : ∃ r, r = idxF p 0 l := ⟨_, rfl⟩
  rw [← hv2] at hi hv
  clear hp hr hv2
  obtain ⟨ni, is, nu, us, ns, ss, nr, rs, nc, cs, np, ps⟩ := S
  refine Pure.intro (want := [boolD r]) T_ok follows Tryz.func61 rfl (by kernel_rfl) (rs := [.tmp 4]) rfl (by kernel_rfl) ?_
  generalize hP : Tryz.prog = P at *
  have hT : T.ok P := hP ▸ T_ok
  have hm : P.follows .mixedOrders = true := hP ▸ follows
  unfold Tryz.f61
  dsimp only
  cbv
  refine CallP.pure _ hi rfl ?_
  clear hi
  cbv
  refine .mk (.cons (.eq (.bool ?_)) .nil) rfl
  show decide (v ≥ 0) = r
  exact hv
set_option maxRecDepth 100000 in
set_option maxHeartbeats 4000000 in
theorem clU_pure (S : SourceD) (x : UnitD) (b : Bool) (hp : Pure Tryz.prog 39 [.agg S.c, .agg (UnitD.c x)] (boolD b)) : Pure Tryz.prog 62 [.agg (UnitD.c x), .dp [.fn (.func 39) [.agg S.c] []] 0] (boolD (!b)) := by
  obtain ⟨r, hr⟩ : ∃ r, r = !b := ⟨_, rfl⟩
  rw [← hr]
  obtain ⟨ni, is, nu, us, ns, ss, nr, rs, nc, cs, np, ps⟩ := S
  obtain ⟨y1, y2, y3, y4, y5⟩ := x
  refine Pure.intro (want := [boolD r]) T_ok follows Tryz.func62 rfl (by kernel_rfl) (rs := [.tmp 3]) rfl (by kernel_rfl) ?_
  generalize hP : Tryz.prog = P at *
  have hT : T.ok P := hP ▸ T_ok
  have hm : P.follows .mixedOrders = true := hP ▸ follows
  unfold Tryz.f62
  dsimp only
  cbv
  refine CallP.pure _ hp rfl ?_
  clear hp
  cbv
  refine .mk (.cons (.eq (.bool ?_)) .nil) rfl
  show (!b) = r
  exact hr.symm
set_option maxRecDepth 100000 in
set_option maxHeartbeats 4000000 in
theorem allU_pure (S : SourceD) (l : List UnitD) (nb : Option BE) (q : UnitD → Bool) (hl : l.length < 9223372036854775807) (hp : ∀ x ∈ l, Pure Tryz.prog 39 [.agg S.c, .agg (UnitD.c x)] (boolD (q x))) : Pure Tryz.prog 38 [.slm 5 nb UnitD.c l, .fn (.func 39) [.agg S.c] []] (boolD (l.all q)) := by
  have hc := conU_pure S l nb (fun x => !q x) hl (fun x hx => clU_pure S x (q x) (hp x hx))
  obtain ⟨r, hr⟩ : ∃ r, r = l.all q := ⟨_, rfl⟩
  rw [← hr]
  obtain ⟨v, hv⟩ : ∃ r, r = l.any (fun x => !q x) := ⟨_, rfl⟩
  rw [← hv] at hc
  have hvr : (!v) = r := by rw [hv, hr, List.not_any_eq_all_not]; simp
  clear hp hv hr
  obtain ⟨ni, is, nu, us, ns, ss, nr, rs, nc, cs, np, ps⟩ := S
  refine Pure.intro (want := [boolD r]) T_ok follows Tryz.func38 rfl (by kernel_rfl) (rs := [.tmp 4]) rfl (by kernel_rfl) ?_
  generalize hP : Tryz.prog = P at *
  have hT : T.ok P := hP ▸ T_ok
  have hm : P.follows .mixedOrders = true := hP ▸ follows
  unfold Tryz.f38
  dsimp only
  cbv
  refine CallP.lend _ _ hc (.cons (.eq (.refl _)) (.cons (.fns .nil (.cons (.dp rfl rfl rfl) .nil)) .nil)) rfl rfl ?_
  clear hc
  cbv
  refine .mk (.cons (.eq (.bool ?_)) .nil) rfl
  show (!v) = r
  exact hvr
set_option maxRecDepth 100000 in
set_option maxHeartbeats 4000000 in
theorem idxS_pure (S : SourceD) (l : List SchemaD) (nb : Option BE) (p : SchemaD → Bool) (hl : l.length < 9223372036854775807) (hp : ∀ x ∈ l, Pure Tryz.prog 64 [.agg (SchemaD.c x), .dp [.fn (.func 41) [.agg S.c] []] 0] (boolD (p x))) : Pure Tryz.prog 81 [.slm 6 nb SchemaD.c l, .fn (.func 64) [] [.dp [.fn (.func 41) [.agg S.c] []] 0]] (i64 (idxF p 0 l)) := by
  obtain ⟨r, hr⟩ : ∃ r, r = idxF p 0 l := ⟨_, rfl⟩
  rw [← hr]
  obtain ⟨n, hn⟩ : ∃ n : Nat, n = l.length := ⟨_, rfl⟩
  obtain ⟨ni, is, nu, us, ns, ss, nr, rs, nc, cs, np, ps⟩ := S
  refine Pure.intro (want := [i64 r]) T_ok follows Tryz.func81 rfl (by kernel_rfl) (rs := [.tmp 4]) rfl (by kernel_rfl) ?_
  generalize hP : Tryz.prog = P at *
  have hT : T.ok P := hP ▸ T_ok
  have hm : P.follows .mixedOrders = true := hP ▸ follows
  unfold Tryz.f81
  dsimp only
  cbv
  refine CodeP.loopc hT hm (X := Nat) (fun k => [(8, .int .i64 (.nat k))]) (fun k => k ≤ l.length ∧ r = idxF p k (l.drop k)) (fun k => n - k) 0 ⟨by simp, hr⟩ (Nat.zero_le _) ?_ rfl ?_
  · (cbv; (repeat' (first | exact SnD.refl _ | exact trivial | exact SnD.nat0 | refine And.intro ?_ ?_)))
  clear hr
  intro k ⟨hk, hq⟩
  cbv
  refine SplitP.mk (fun hs => ?_) (fun hs => ?_)
  · have hkn : k < l.length := by
      have h5 : decide ((k : Int) < (l.length : Int)) = true := hs
      have := of_decide_eq_true h5
      omega
    clear hs
    refine ElemP.mk (by show (0 : Int) ≤ (k : Int) ∧ (k : Int) < (l.length : Int); omega) (fun y hy => ?_)
    replace hy : l[k]? = some y := hy
    rw [drop_cons hy, idxF] at hq
    have h1 := hp y (List.mem_of_getElem? hy)
    obtain ⟨b, hb⟩ : ∃ b, b = p y := ⟨_, rfl⟩
    rw [← hb] at hq h1
    clear hp hb hy
    obtain ⟨y1, y2, y3, y4, y5, y6, y7, y8⟩ := y
    cbv
    refine CallP.pure _ h1 rfl ?_
    clear h1
    cbv
    refine SplitP.mk (fun g => ?_) (fun g => ?_)
    · have g2 : b = true := g
      rw [g2, if_pos rfl] at hq
      refine .mk (.cons (.eq (.int ?_)) .nil) rfl
      show (k : Int) = r
      exact hq.symm
    · have g2 : b = false := g
      rw [g2, if_neg (by decide)] at hq
      refine BackP.intro (k + 1) ⟨by omega, hq⟩ (by show n - (k + 1) < n - k; omega) ⟨?_, ?_, rfl⟩
      · (cbv; (repeat' (first | exact SnD.refl _ | exact trivial | exact SnD.nat0 | refine And.intro ?_ ?_)))
        exact .inc (by omega)
      · (cbv; (repeat' (first | exact trivial | exact BkEq.refl _ | exact SnD.refl _ | exact SnDs.nil | refine BkEq.cells ?_ | refine SnDs.cons ?_ ?_ | refine And.intro ?_ ?_)))
  · have hkn : l.length ≤ k := by
      have h5 : decide ((k : Int) < (l.length : Int)) = false := hs
      have := of_decide_eq_false h5
      omega
    clear hs
    rw [List.drop_of_length_le (by omega), idxF] at hq
    refine .mk (.cons (.eq (.int ?_)) .nil) rfl
    show (-1 : Int) = r
    exact hq.symm
set_option maxRecDepth 100000 in
set_option maxHeartbeats 4000000 in
theorem conS_pure (S : SourceD) (l : List SchemaD) (nb : Option BE) (p : SchemaD → Bool) (hl : l.length < 9223372036854775807) (hp : ∀ x ∈ l, Pure Tryz.prog 64 [.agg (SchemaD.c x), .dp [.fn (.func 41) [.agg S.c] []] 0] (boolD (p x))) : Pure Tryz.prog 63 [.slm 6 nb SchemaD.c l, .fn (.func 64) [] [.dp [.fn (.func 41) [.agg S.c] []] 0]] (boolD (l.any p)) := by
  have hi := idxS_pure S l nb p hl hp
  obtain ⟨r, hr⟩ : ∃ r, r = l.any p := ⟨_, rfl⟩
  rw [← hr]
  have hv := idxF_any p l 0
  rw [← hr] at hv
  obtain ⟨v, hv2⟩ : ∃ r, r = idxF p 0 l := ⟨_, rfl⟩
  rw [← hv2] at hi hv
  clear hp hr hv2
  obtain ⟨ni, is, nu, us, ns, ss, nr, rs, nc, cs, np, ps⟩ := S
  refine Pure.intro (want := [boolD r]) T_ok follows Tryz.func63 rfl (by kernel_rfl) (rs := [.tmp 4]) rfl (by kernel_rfl) ?_
  generalize hP : Tryz.prog = P at *
  have hT : T.ok P := hP ▸ T_ok
  have hm : P.follows .mixedOrders = true := hP ▸ follows
  unfold Tryz.f63
  dsimp only
  cbv
  refine CallP.pure _ hi rfl ?_
  clear hi
  cbv
  refine .mk (.cons (.eq (.bool ?_)) .nil) rfl
  show decide (v ≥ 0) = r
  exact hv
set_option maxRecDepth 100000 in
set_option maxHeartbeats 4000000 in
theorem clS_pure (S : SourceD) (x : SchemaD) (b : Bool) (hp : Pure Tryz.prog 41 [.agg S.c, .agg (SchemaD.c x)] (boolD b)) : Pure Tryz.prog 64 [.agg (SchemaD.c x), .dp [.fn (.func 41) [.agg S.c] []] 0] (boolD (!b)) := by
  obtain ⟨r, hr⟩ : ∃ r, r = !b := ⟨_, rfl⟩
  rw [← hr]
  obtain ⟨ni, is, nu, us, ns, ss, nr, rs, nc, cs, np, ps⟩ := S
  obtain ⟨y1, y2, y3, y4, y5, y6, y7, y8⟩ := x
  refine Pure.intro (want := [boolD r]) T_ok follows Tryz.func64 rfl (by kernel_rfl) (rs := [.tmp 3]) rfl (by kernel_rfl) ?_
  generalize hP : Tryz.prog = P at *
  have hT : T.ok P := hP ▸ T_ok
  have hm : P.follows .mixedOrders = true := hP ▸ follows
  unfold Tryz.f64
  dsimp only
  cbv
  refine CallP.pure _ hp rfl ?_
  clear hp
  cbv
  refine .mk (.cons (.eq (.bool ?_)) .nil) rfl
  show (!b) = r
  exact hr.symm
set_option maxRecDepth 100000 in
set_option maxHeartbeats 4000000 in
theorem allS_pure (S : SourceD) (l : List SchemaD) (nb : Option BE) (q : SchemaD → Bool) (hl : l.length < 9223372036854775807) (hp : ∀ x ∈ l, Pure Tryz.prog 41 [.agg S.c, .agg (SchemaD.c x)] (boolD (q x))) : Pure Tryz.prog 40 [.slm 6 nb SchemaD.c l, .fn (.func 41) [.agg S.c] []] (boolD (l.all q)) := by
  have hc := conS_pure S l nb (fun x => !q x) hl (fun x hx => clS_pure S x (q x) (hp x hx))
  obtain ⟨r, hr⟩ : ∃ r, r = l.all q := ⟨_, rfl⟩
  rw [← hr]
  obtain ⟨v, hv⟩ : ∃ r, r = l.any (fun x => !q x) := ⟨_, rfl⟩
  rw [← hv] at hc
  have hvr : (!v) = r := by rw [hv, hr, List.not_any_eq_all_not]; simp
  clear hp hv hr
  obtain ⟨ni, is, nu, us, ns, ss, nr, rs, nc, cs, np, ps⟩ := S
  refine Pure.intro (want := [boolD r]) T_ok follows Tryz.func40 rfl (by kernel_rfl) (rs := [.tmp 4]) rfl (by kernel_rfl) ?_
  generalize hP : Tryz.prog = P at *
  have hT : T.ok P := hP ▸ T_ok
  have hm : P.follows .mixedOrders = true := hP ▸ follows
  unfold Tryz.f40
  dsimp only
  cbv
  refine CallP.lend _ _ hc (.cons (.eq (.refl _)) (.cons (.fns .nil (.cons (.dp rfl rfl rfl) .nil)) .nil)) rfl rfl ?_
  clear hc
  cbv
  refine .mk (.cons (.eq (.bool ?_)) .nil) rfl
  show (!v) = r
  exact hvr
set_option maxRecDepth 100000 in
set_option maxHeartbeats 4000000 in
theorem idxR_pure (S : SourceD) (l : List RuleD) (nb : Option BE) (p : RuleD → Bool) (hl : l.length < 9223372036854775807) (hp : ∀ x ∈ l, Pure Tryz.prog 67 [.agg (RuleD.c x), .dp [.fn (.func 36) [] [.dp S.c 0]] 0] (boolD (p x))) : Pure Tryz.prog 83 [.slm 5 nb RuleD.c l, .fn (.func 67) [] [.dp [.fn (.func 36) [] [.dp S.c 0]] 0]] (i64 (idxF p 0 l)) := by
  obtain ⟨r, hr⟩ : ∃ r, r = idxF p 0 l := ⟨_, rfl⟩
  rw [← hr]
  obtain ⟨n, hn⟩ : ∃ n : Nat, n = l.length := ⟨_, rfl⟩
  obtain ⟨ni, is, nu, us, ns, ss, nr, rs, nc, cs, np, ps⟩ := S
  refine Pure.intro (want := [i64 r]) T_ok follows Tryz.func83 rfl (by kernel_rfl) (rs := [.tmp 4]) rfl (by kernel_rfl) ?_
  generalize hP : Tryz.prog = P at *
  have hT : T.ok P := hP ▸ T_ok
  have hm : P.follows .mixedOrders = true := hP ▸ follows
  unfold Tryz.f83
  dsimp only
  cbv
  refine CodeP.loopc hT hm (X := Nat) (fun k => [(8, .int .i64 (.nat k))]) (fun k => k ≤ l.length ∧ r = idxF p k (l.drop k)) (fun k => n - k) 0 ⟨by simp, hr⟩ (Nat.zero_le _) ?_ rfl ?_
  · (cbv; (repeat' (first | exact SnD.refl _ | exact trivial | exact SnD.nat0 | refine And.intro ?_ ?_)))
  clear hr
  intro k ⟨hk, hq⟩
  cbv
  refine SplitP.mk (fun hs => ?_) (fun hs => ?_)
  · have hkn : k < l.length := by
      have h5 : decide ((k : Int) < (l.length : Int)) = true := hs
      have := of_decide_eq_true h5
      omega
    clear hs
    refine ElemP.mk (by show (0 : Int) ≤ (k : Int) ∧ (k : Int) < (l.length : Int); omega) (fun y hy => ?_)
    replace hy : l[k]? = some y := hy
    rw [drop_cons hy, idxF] at hq
    have h1 := hp y (List.mem_of_getElem? hy)
    obtain ⟨b, hb⟩ : ∃ b, b = p y := ⟨_, rfl⟩
    rw [← hb] at hq h1
    clear hp hb hy
    obtain ⟨y1, y2, y3, y4, y5, y6, y7, y8⟩ := y
    cbv
    refine CallP.pure _ h1 rfl ?_
    clear h1
    cbv
    refine SplitP.mk (fun g => ?_) (fun g => ?_)
    · have g2 : b = true := g
      rw [g2, if_pos rfl] at hq
      refine .mk (.cons (.eq (.int ?_)) .nil) rfl
      show (k : Int) = r
      exact hq.symm
    · have g2 : b = false := g
      rw [g2, if_neg (by decide)] at hq
      refine BackP.intro (k + 1) ⟨by omega, hq⟩ (by show n - (k + 1) < n - k; omega) ⟨?_, ?_, rfl⟩
      · (cbv; (repeat' (first | exact SnD.refl _ | exact trivial | exact SnD.nat0 | refine And.intro ?_ ?_)))
        exact .inc (by omega)
      · (cbv; (repeat' (first | exact trivial | exact BkEq.refl _ | exact SnD.refl _ | exact SnDs.nil | refine BkEq.cells ?_ | refine SnDs.cons ?_ ?_ | refine And.intro ?_ ?_)))
  · have hkn : l.length ≤ k := by
      have h5 : decide ((k : Int) < (l.length : Int)) = false := hs
      have := of_decide_eq_false h5
      omega
    clear hs
    rw [List.drop_of_length_le (by omega), idxF] at hq
    refine .mk (.cons (.eq (.int ?_)) .nil) rfl
    show (-1 : Int) = r
    exact hq.symm
set_option maxRecDepth 100000 in
set_option maxHeartbeats 4000000 in
theorem conR_pure (S : SourceD) (l : List RuleD) (nb : Option BE) (p : RuleD → Bool) (hl : l.length < 9223372036854775807) (hp : ∀ x ∈ l, Pure Tryz.prog 67 [.agg (RuleD.c x), .dp [.fn (.func 36) [] [.dp S.c 0]] 0] (boolD (p x))) : Pure Tryz.prog 66 [.slm 5 nb RuleD.c l, .fn (.func 67) [] [.dp [.fn (.func 36) [] [.dp S.c 0]] 0]] (boolD (l.any p)) := by
  have hi := idxR_pure S l nb p hl hp
  obtain ⟨r, hr⟩ : ∃ r, r = l.any p := ⟨_, rfl⟩
  rw [← hr]
  have hv := idxF_any p l 0
  rw [← hr] at hv
  obtain ⟨v, hv2⟩ : ∃ r, r = idxF p 0 l := ⟨_, rfl⟩
  rw [← hv2] at hi hv
  clear hp hr hv2
  obtain ⟨ni, is, nu, us, ns, ss, nr, rs, nc, cs, np, ps⟩ := S
  refine Pure.intro (want := [boolD r]) T_ok follows Tryz.func66 rfl (by kernel_rfl) (rs := [.tmp 4]) rfl (by kernel_rfl) ?_
  generalize hP : Tryz.prog = P at *
  have hT : T.ok P := hP ▸ T_ok
  have hm : P.follows .mixedOrders = true := hP ▸ follows
  unfold Tryz.f66
  dsimp only
  cbv
  refine CallP.pure _ hi rfl ?_
  clear hi
  cbv
  refine .mk (.cons (.eq (.bool ?_)) .nil) rfl
  show decide (v ≥ 0) = r
  exact hv
set_option maxRecDepth 100000 in
set_option maxHeartbeats 4000000 in
theorem clR_pure (S : SourceD) (x : RuleD) (b : Bool) (hp : Pure Tryz.prog 36 [.agg (RuleD.c x), .dp S.c 0] (boolD b)) : Pure Tryz.prog 67 [.agg (RuleD.c x), .dp [.fn (.func 36) [] [.dp S.c 0]] 0] (boolD (!b)) := by
  obtain ⟨r, hr⟩ : ∃ r, r = !b := ⟨_, rfl⟩
  rw [← hr]
  obtain ⟨ni, is, nu, us, ns, ss, nr, rs, nc, cs, np, ps⟩ := S
  obtain ⟨y1, y2, y3, y4, y5, y6, y7, y8⟩ := x
  refine Pure.intro (want := [boolD r]) T_ok follows Tryz.func67 rfl (by kernel_rfl) (rs := [.tmp 3]) rfl (by kernel_rfl) ?_
  generalize hP : Tryz.prog = P at *
  have hT : T.ok P := hP ▸ T_ok
  have hm : P.follows .mixedOrders = true := hP ▸ follows
  unfold Tryz.f67
  dsimp only
  cbv
  refine CallP.pure _ hp rfl ?_
  clear hp
  cbv
  refine .mk (.cons (.eq (.bool ?_)) .nil) rfl
  show (!b) = r
  exact hr.symm
set_option maxRecDepth 100000 in
set_option maxHeartbeats 4000000 in
theorem allR_pure (S : SourceD) (l : List RuleD) (nb : Option BE) (q : RuleD → Bool) (hl : l.length < 9223372036854775807) (hp : ∀ x ∈ l, Pure Tryz.prog 36 [.agg (RuleD.c x), .dp S.c 0] (boolD (q x))) : Pure Tryz.prog 42 [.slm 5 nb RuleD.c l, .fn (.func 36) [] [.dp S.c 0]] (boolD (l.all q)) := by
  have hc := conR_pure S l nb (fun x => !q x) hl (fun x hx => clR_pure S x (q x) (hp x hx))
  obtain ⟨r, hr⟩ : ∃ r, r = l.all q := ⟨_, rfl⟩
  rw [← hr]
  obtain ⟨v, hv⟩ : ∃ r, r = l.any (fun x => !q x) := ⟨_, rfl⟩
  rw [← hv] at hc
  have hvr : (!v) = r := by rw [hv, hr, List.not_any_eq_all_not]; simp
  clear hp hv hr
  obtain ⟨ni, is, nu, us, ns, ss, nr, rs, nc, cs, np, ps⟩ := S
  refine Pure.intro (want := [boolD r]) T_ok follows Tryz.func42 rfl (by kernel_rfl) (rs := [.tmp 4]) rfl (by kernel_rfl) ?_
  generalize hP : Tryz.prog = P at *
  have hT : T.ok P := hP ▸ T_ok
  have hm : P.follows .mixedOrders = true := hP ▸ follows
  unfold Tryz.f42
  dsimp only
  cbv
  refine CallP.lend _ _ hc (.cons (.eq (.refl _)) (.cons (.fns .nil (.cons (.dp rfl rfl rfl) .nil)) .nil)) rfl rfl ?_
  clear hc
  cbv
  refine .mk (.cons (.eq (.bool ?_)) .nil) rfl
  show (!v) = r
  exact hvr
set_option maxRecDepth 100000 in
set_option maxHeartbeats 4000000 in
theorem idxP_pure (S : SourceD) (l : List PurposeD) (nb : Option BE) (p : PurposeD → Bool) (hl : l.length < 9223372036854775807) (hp : ∀ x ∈ l, Pure Tryz.prog 68 [.agg (PurposeD.c x), .dp [.fn (.func 44) [.agg S.c] []] 0] (boolD (p x))) : Pure Tryz.prog 75 [.slm 3 nb PurposeD.c l, .fn (.func 68) [] [.dp [.fn (.func 44) [.agg S.c] []] 0]] (i64 (idxF p 0 l)) := by
  obtain ⟨r, hr⟩ : ∃ r, r = idxF p 0 l := ⟨_, rfl⟩
  rw [← hr]
  obtain ⟨n, hn⟩ : ∃ n : Nat, n = l.length := ⟨_, rfl⟩
  obtain ⟨ni, is, nu, us, ns, ss, nr, rs, nc, cs, np, ps⟩ := S
  refine Pure.intro (want := [i64 r]) T_ok follows Tryz.func75 rfl (by kernel_rfl) (rs := [.tmp 4]) rfl (by kernel_rfl) ?_
  generalize hP : Tryz.prog = P at *
  have hT : T.ok P := hP ▸ T_ok
  have hm : P.follows .mixedOrders = true := hP ▸ follows
  unfold Tryz.f75
  dsimp only
  cbv
  refine CodeP.loopc hT hm (X := Nat) (fun k => [(8, .int .i64 (.nat k))]) (fun k => k ≤ l.length ∧ r = idxF p k (l.drop k)) (fun k => n - k) 0 ⟨by simp, hr⟩ (Nat.zero_le _) ?_ rfl ?_
  · (cbv; (repeat' (first | exact SnD.refl _ | exact trivial | exact SnD.nat0 | refine And.intro ?_ ?_)))
  clear hr
  intro k ⟨hk, hq⟩
  cbv
  refine SplitP.mk (fun hs => ?_) (fun hs => ?_)
  · have hkn : k < l.length := by
      have h5 : decide ((k : Int) < (l.length : Int)) = true := hs
      have := of_decide_eq_true h5
      omega
    clear hs
    refine ElemP.mk (by show (0 : Int) ≤ (k : Int) ∧ (k : Int) < (l.length : Int); omega) (fun y hy => ?_)
    replace hy : l[k]? = some y := hy
    rw [drop_cons hy, idxF] at hq
    have h1 := hp y (List.mem_of_getElem? hy)
    obtain ⟨b, hb⟩ : ∃ b, b = p y := ⟨_, rfl⟩
    rw [← hb] at hq h1
    clear hp hb hy
    obtain ⟨y1, y2, y3, y4⟩ := y
    cbv
    refine CallP.pure _ h1 rfl ?_
    clear h1
    cbv
    refine SplitP.mk (fun g => ?_) (fun g => ?_)
    · have g2 : b = true := g
      rw [g2, if_pos rfl] at hq
      refine .mk (.cons (.eq (.int ?_)) .nil) rfl
      show (k : Int) = r
      exact hq.symm
    · have g2 : b = false := g
      rw [g2, if_neg (by decide)] at hq
      refine BackP.intro (k + 1) ⟨by omega, hq⟩ (by show n - (k + 1) < n - k; omega) ⟨?_, ?_, rfl⟩
      · (cbv; (repeat' (first | exact SnD.refl _ | exact trivial | exact SnD.nat0 | refine And.intro ?_ ?_)))
        exact .inc (by omega)
      · (cbv; (repeat' (first | exact trivial | exact BkEq.refl _ | exact SnD.refl _ | exact SnDs.nil | refine BkEq.cells ?_ | refine SnDs.cons ?_ ?_ | refine And.intro ?_ ?_)))
  · have hkn : l.length ≤ k := by
      have h5 : decide ((k : Int) < (l.length : Int)) = false := hs
      have := of_decide_eq_false h5
      omega
    clear hs
    rw [List.drop_of_length_le (by omega), idxF] at hq
    refine .mk (.cons (.eq (.int ?_)) .nil) rfl
    show (-1 : Int) = r
    exact hq.symm
set_option maxRecDepth 100000 in
set_option maxHeartbeats 4000000 in
theorem conP_pure (S : SourceD) (l : List PurposeD) (nb : Option BE) (p : PurposeD → Bool) (hl : l.length < 9223372036854775807) (hp : ∀ x ∈ l, Pure Tryz.prog 68 [.agg (PurposeD.c x), .dp [.fn (.func 44) [.agg S.c] []] 0] (boolD (p x))) : Pure Tryz.prog 54 [.slm 3 nb PurposeD.c l, .fn (.func 68) [] [.dp [.fn (.func 44) [.agg S.c] []] 0]] (boolD (l.any p)) := by
  have hi := idxP_pure S l nb p hl hp
  obtain ⟨r, hr⟩ : ∃ r, r = l.any p := ⟨_, rfl⟩
  rw [← hr]
  have hv := idxF_any p l 0
  rw [← hr] at hv
  obtain ⟨v, hv2⟩ : ∃ r, r = idxF p 0 l := ⟨_, rfl⟩
  rw [← hv2] at hi hv
  clear hp hr hv2
  obtain ⟨ni, is, nu, us, ns, ss, nr, rs, nc, cs, np, ps⟩ := S
  refine Pure.intro (want := [boolD r]) T_ok follows Tryz.func54 rfl (by kernel_rfl) (rs := [.tmp 4]) rfl (by kernel_rfl) ?_
  generalize hP : Tryz.prog = P at *
  have hT : T.ok P := hP ▸ T_ok
  have hm : P.follows .mixedOrders = true := hP ▸ follows
  unfold Tryz.f54
  dsimp only
  cbv
  refine CallP.pure _ hi rfl ?_
  clear hi
  cbv
  refine .mk (.cons (.eq (.bool ?_)) .nil) rfl
  show decide (v ≥ 0) = r
  exact hv
set_option maxRecDepth 100000 in
set_option maxHeartbeats 4000000 in
theorem clP_pure (S : SourceD) (x : PurposeD) (b : Bool) (hp : Pure Tryz.prog 44 [.agg S.c, .agg (PurposeD.c x)] (boolD b)) : Pure Tryz.prog 68 [.agg (PurposeD.c x), .dp [.fn (.func 44) [.agg S.c] []] 0] (boolD (!b)) := by
  obtain ⟨r, hr⟩ : ∃ r, r = !b := ⟨_, rfl⟩
  rw [← hr]
  obtain ⟨ni, is, nu, us, ns, ss, nr, rs, nc, cs, np, ps⟩ := S
  obtain ⟨y1, y2, y3, y4⟩ := x
  refine Pure.intro (want := [boolD r]) T_ok follows Tryz.func68 rfl (by kernel_rfl) (rs := [.tmp 3]) rfl (by kernel_rfl) ?_
  generalize hP : Tryz.prog = P at *
  have hT : T.ok P := hP ▸ T_ok
  have hm : P.follows .mixedOrders = true := hP ▸ follows
  unfold Tryz.f68
  dsimp only
  cbv
  refine CallP.pure _ hp rfl ?_
  clear hp
  cbv
  refine .mk (.cons (.eq (.bool ?_)) .nil) rfl
  show (!b) = r
  exact hr.symm
set_option maxRecDepth 100000 in
set_option maxHeartbeats 4000000 in
theorem allP_pure (S : SourceD) (l : List PurposeD) (nb : Option BE) (q : PurposeD → Bool) (hl : l.length < 9223372036854775807) (hp : ∀ x ∈ l, Pure Tryz.prog 44 [.agg S.c, .agg (PurposeD.c x)] (boolD (q x))) : Pure Tryz.prog 43 [.slm 3 nb PurposeD.c l, .fn (.func 44) [.agg S.c] []] (boolD (l.all q)) := by
  have hc := conP_pure S l nb (fun x => !q x) hl (fun x hx => clP_pure S x (q x) (hp x hx))
  obtain ⟨r, hr⟩ : ∃ r, r = l.all q := ⟨_, rfl⟩
  rw [← hr]
  obtain ⟨v, hv⟩ : ∃ r, r = l.any (fun x => !q x) := ⟨_, rfl⟩
  rw [← hv] at hc
  have hvr : (!v) = r := by rw [hv, hr, List.not_any_eq_all_not]; simp
  clear hp hv hr
  obtain ⟨ni, is, nu, us, ns, ss, nr, rs, nc, cs, np, ps⟩ := S
  refine Pure.intro (want := [boolD r]) T_ok follows Tryz.func43 rfl (by kernel_rfl) (rs := [.tmp 4]) rfl (by kernel_rfl) ?_
  generalize hP : Tryz.prog = P at *
  have hT : T.ok P := hP ▸ T_ok
  have hm : P.follows .mixedOrders = true := hP ▸ follows
  unfold Tryz.f43
  dsimp only
  cbv
  refine CallP.lend _ _ hc (.cons (.eq (.refl _)) (.cons (.fns .nil (.cons (.dp rfl rfl rfl) .nil)) .nil)) rfl rfl ?_
  clear hc
  cbv
  refine .mk (.cons (.eq (.bool ?_)) .nil) rfl
  show (!v) = r
  exact hvr
set_option maxRecDepth 100000 in
set_option maxHeartbeats 4000000 in
theorem idxL_pure (l : List PurposeD) (nb : Option BE) (p : PurposeD → Bool) (hl : l.length < 9223372036854775807) (hp : ∀ x ∈ l, Pure Tryz.prog 55 [.agg (PurposeD.c x)] (boolD (p x))) : Pure Tryz.prog 75 [.slm 3 nb PurposeD.c l, .fn (.func 55) [] []] (i64 (idxF p 0 l)) := by
  obtain ⟨r, hr⟩ : ∃ r, r = idxF p 0 l := ⟨_, rfl⟩
  rw [← hr]
  obtain ⟨n, hn⟩ : ∃ n : Nat, n = l.length := ⟨_, rfl⟩
  refine Pure.intro (want := [i64 r]) T_ok follows Tryz.func75 rfl (by kernel_rfl) (rs := [.tmp 4]) rfl (by kernel_rfl) ?_
  generalize hP : Tryz.prog = P at *
  have hT : T.ok P := hP ▸ T_ok
  have hm : P.follows .mixedOrders = true := hP ▸ follows
  unfold Tryz.f75
  dsimp only
  cbv
  refine CodeP.loopc hT hm (X := Nat) (fun k => [(8, .int .i64 (.nat k))]) (fun k => k ≤ l.length ∧ r = idxF p k (l.drop k)) (fun k => n - k) 0 ⟨by simp, hr⟩ (Nat.zero_le _) ?_ rfl ?_
  · (cbv; (repeat' (first | exact SnD.refl _ | exact trivial | exact SnD.nat0 | refine And.intro ?_ ?_)))
  clear hr
  intro k ⟨hk, hq⟩
  cbv
  refine SplitP.mk (fun hs => ?_) (fun hs => ?_)
  · have hkn : k < l.length := by
      have h5 : decide ((k : Int) < (l.length : Int)) = true := hs
      have := of_decide_eq_true h5
      omega
    clear hs
    refine ElemP.mk (by show (0 : Int) ≤ (k : Int) ∧ (k : Int) < (l.length : Int); omega) (fun y hy => ?_)
    replace hy : l[k]? = some y := hy
    rw [drop_cons hy, idxF] at hq
    have h1 := hp y (List.mem_of_getElem? hy)
    obtain ⟨b, hb⟩ : ∃ b, b = p y := ⟨_, rfl⟩
    rw [← hb] at hq h1
    clear hp hb hy
    obtain ⟨y1, y2, y3, y4⟩ := y
    cbv
    refine CallP.pure _ h1 rfl ?_
    clear h1
    cbv
    refine SplitP.mk (fun g => ?_) (fun g => ?_)
    · have g2 : b = true := g
      rw [g2, if_pos rfl] at hq
      refine .mk (.cons (.eq (.int ?_)) .nil) rfl
      show (k : Int) = r
      exact hq.symm
    · have g2 : b = false := g
      rw [g2, if_neg (by decide)] at hq
      refine BackP.intro (k + 1) ⟨by omega, hq⟩ (by show n - (k + 1) < n - k; omega) ⟨?_, ?_, rfl⟩
      · (cbv; (repeat' (first | exact SnD.refl _ | exact trivial | exact SnD.nat0 | refine And.intro ?_ ?_)))
        exact .inc (by omega)
      · (cbv; (repeat' (first | exact trivial | exact BkEq.refl _ | exact SnD.refl _ | exact SnDs.nil | refine BkEq.cells ?_ | refine SnDs.cons ?_ ?_ | refine And.intro ?_ ?_)))
  · have hkn : l.length ≤ k := by
      have h5 : decide ((k : Int) < (l.length : Int)) = false := hs
      have := of_decide_eq_false h5
      omega
    clear hs
    rw [List.drop_of_length_le (by omega), idxF] at hq
    refine .mk (.cons (.eq (.int ?_)) .nil) rfl
    show (-1 : Int) = r
    exact hq.symm
set_option maxRecDepth 100000 in
set_option maxHeartbeats 4000000 in
theorem conL_pure (l : List PurposeD) (nb : Option BE) (p : PurposeD → Bool) (hl : l.length < 9223372036854775807) (hp : ∀ x ∈ l, Pure Tryz.prog 55 [.agg (PurposeD.c x)] (boolD (p x))) : Pure Tryz.prog 54 [.slm 3 nb PurposeD.c l, .fn (.func 55) [] []] (boolD (l.any p)) := by
  have hi := idxL_pure l nb p hl hp
  obtain ⟨r, hr⟩ : ∃ r, r = l.any p := ⟨_, rfl⟩
  rw [← hr]
  have hv := idxF_any p l 0
  rw [← hr] at hv
  obtain ⟨v, hv2⟩ : ∃ r, r = idxF p 0 l := ⟨_, rfl⟩
  rw [← hv2] at hi hv
  clear hp hr hv2
  refine Pure.intro (want := [boolD r]) T_ok follows Tryz.func54 rfl (by kernel_rfl) (rs := [.tmp 4]) rfl (by kernel_rfl) ?_
  generalize hP : Tryz.prog = P at *
  have hT : T.ok P := hP ▸ T_ok
  have hm : P.follows .mixedOrders = true := hP ▸ follows
  unfold Tryz.f54
  dsimp only
  cbv
  refine CallP.pure _ hi rfl ?_
  clear hi
  cbv
  refine .mk (.cons (.eq (.bool ?_)) .nil) rfl
  show decide (v ≥ 0) = r
  exact hv
end Go.Proofs.YtdhfakajlnidiaaGreat
namespace Go.Proofs.YtdhfakajlnidiaaGreat
open Go.RowKit

/-! Lengths of what an argument holds; the reference's Few of chapter 10. -/
structure SourceD.lens (S : SourceD) : Prop where
  ss : S.schemas.length ≤ 9223372036854775807
  rs : S.rules.length ≤ 9223372036854775807
  cs : S.converts.length ≤ 9223372036854775807
  ps : S.purposes.length ≤ 9223372036854775807
  fs : ∀ x ∈ S.schemas, x.fields.length ≤ 9223372036854775807
  ds : ∀ x ∈ S.schemas, x.depends.length ≤ 9223372036854775807
  ns : ∀ x ∈ S.schemas, ∀ f ∈ x.fields, f.type.names.length ≤ 9223372036854775807
theorem DRep.slm_len {w : World} {E : Env} {α : Type} {n : Nat} {nb : Option BE} {c : α → List D} {l : List α} {v : Value} (h : DRep w E (.slm n nb c l) v) : l.length ≤ 9223372036854775807 ∧ ∀ x ∈ l, ∀ (j : Nat) d, (c x)[j]? = some d → ∃ E' u, DRep w E' d u := by
  cases h with
  | @slm _ _ _ _ _ _ a cap u hnb hc hm hx ha hh =>
    refine ⟨by unfold maxLen at hm; omega, fun x hx2 j d hd => ?_⟩
    obtain ⟨i, hi, rfl⟩ := List.mem_iff_getElem.1 hx2
    exact ⟨_, _, hh i _ j d (List.getElem?_eq_getElem hi) hd⟩
theorem DRep.agg_at {w : World} {E : Env} {l : List D} {v : Value} (h : DRep w E (.agg l) v) (j : Nat) (d : D) (hd : l[j]? = some d) : ∃ u, DRep w E d u := by
  cases h with
  | @agg _ _ vs hs hh =>
    have hj : j < l.length := (List.getElem?_eq_some_iff.1 hd).1
    exact ⟨_, hh j d _ hd (Array.getElem?_eq_getElem (by omega))⟩
theorem lens_of {w : World} {E : Env} {S : SourceD} {v : Value} (h : DRep w E (.agg S.c) v) : S.lens := by
  obtain ⟨u2, h2⟩ := h.agg_at 2 _ rfl
  obtain ⟨u3, h3⟩ := h.agg_at 3 _ rfl
  obtain ⟨u4, h4⟩ := h.agg_at 4 _ rfl
  obtain ⟨u5, h5⟩ := h.agg_at 5 _ rfl
  have g2 := h2.slm_len
  have gf : ∀ x ∈ S.schemas, x.fields.length ≤ 9223372036854775807 ∧ ∀ f ∈ x.fields, ∀ (j : Nat) d, (FieldD.c f)[j]? = some d → ∃ E' u, DRep w E' d u := fun x hx => by
    obtain ⟨_, u, hu⟩ := g2.2 x hx 4 _ rfl
    exact hu.slm_len
  have gd : ∀ x ∈ S.schemas, x.depends.length ≤ 9223372036854775807 := fun x hx => by
    obtain ⟨_, u, hu⟩ := g2.2 x hx 5 _ rfl
    exact hu.slm_len.1
  refine ⟨g2.1, h3.slm_len.1, h4.slm_len.1, h5.slm_len.1, fun x hx => (gf x hx).1, fun x hx => gd x hx, fun x hx f hf => ?_⟩
  obtain ⟨_, u, hu⟩ := (gf x hx).2 f hf 6 _ rfl
  exact hu.slm_len.1
theorem Pure.lens {f : Nat} {S : SourceD} {d : D} (h1 : Here Tryz.prog f) (h : S.lens → Pure Tryz.prog f [.agg S.c] d) : Pure Tryz.prog f [.agg S.c] d := by
  refine ⟨h1, fun w G vs hL hG hv => ?_⟩
  have hl : S.lens := by
    obtain ⟨h1, h2⟩ := hv
    obtain ⟨vl⟩ := vs
    match vl, h1 with
    | [v], _ => exact lens_of (h2 0 _ v rfl rfl)
  exact (h hl).2 w G vs hL hG hv
def ad (a b : Int) : Int := binDen .add .i64 a b
def fF (a : Int) (f : FieldD) : Int := ad (ad a 1) (f.type.names.length : Int)
def dF (a : Int) (d : DependD) : Int := ad (ad a (d.names.length : Int)) (d.from_.length : Int)
def sF (a : Int) (x : SchemaD) : Int := x.depends.foldl dF (x.fields.foldl fF (ad (ad a 1) (x.depends.length : Int)))
def rF (a : Int) (r : RuleD) : Int := ad (ad (ad (ad a 1) (r.froms.length : Int)) (r.where_.length : Int)) (r.sets.length : Int)
def cF (a : Int) (c : ConvertD) : Int := ad (ad a 1) (c.moves.length : Int)
def pF (a : Int) (p : PurposeD) : Int := ad (ad a 1) (p.may.length : Int)
def few10 (S : SourceD) : Bool := decide (S.purposes.foldl pF (S.converts.foldl cF (S.rules.foldl rF (S.schemas.foldl sF (ad S.issuers.length S.units.length)))) ≤ 160)
theorem Few10_lens (S : SourceD) (hL : S.lens) : Pure Tryz.prog 6 [.agg S.c] (boolD (few10 S)) := by
  obtain ⟨r, hr⟩ : ∃ r, r = few10 S := ⟨_, rfl⟩
  rw [← hr]
  unfold few10 at hr
  obtain ⟨AD, hAD⟩ : ∃ f, f = ad := ⟨_, rfl⟩
  obtain ⟨FF, hFF⟩ : ∃ f, f = fF := ⟨_, rfl⟩
  obtain ⟨DF, hDF⟩ : ∃ f, f = dF := ⟨_, rfl⟩
  obtain ⟨SF, hSF⟩ : ∃ f, f = sF := ⟨_, rfl⟩
  obtain ⟨RF, hRF⟩ : ∃ f, f = rF := ⟨_, rfl⟩
  obtain ⟨CF, hCF⟩ : ∃ f, f = cF := ⟨_, rfl⟩
  obtain ⟨PF, hPF⟩ : ∃ f, f = pF := ⟨_, rfl⟩
  have eF : ∀ a f, FF a f = AD (AD a 1) (f.type.names.length : Int) := fun a f => by rw [hFF, hAD]; rfl
  have eD : ∀ a (f : DependD), DF a f = AD (AD a (f.names.length : Int)) (f.from_.length : Int) := fun a f => by rw [hDF, hAD]; rfl
  have eS : ∀ a (x : SchemaD), SF a x = x.depends.foldl DF (x.fields.foldl FF (AD (AD a 1) (x.depends.length : Int))) := fun a f => by rw [hSF, hDF, hFF, hAD]; rfl
  have eR : ∀ a (r : RuleD), RF a r = AD (AD (AD (AD a 1) (r.froms.length : Int)) (r.where_.length : Int)) (r.sets.length : Int) := fun a f => by rw [hRF, hAD]; rfl
  have eC : ∀ a (r : ConvertD), CF a r = AD (AD a 1) (r.moves.length : Int) := fun a f => by rw [hCF, hAD]; rfl
  have eP : ∀ a (r : PurposeD), PF a r = AD (AD a 1) (r.may.length : Int) := fun a f => by rw [hPF, hAD]; rfl
  have eA : ∀ a b, binDen .add .i64 a b = AD a b := fun a b => by rw [hAD]; rfl
  rw [← hAD, ← hSF, ← hRF, ← hCF, ← hPF] at hr
  clear hAD hFF hDF hSF hRF hCF hPF
  obtain ⟨lss, lrs, lcs, lps, lfs, lds, -⟩ := hL
  obtain ⟨ni, is, nu, us, nsc, ss, nru, rs, ncv, cs, npu, ps⟩ := S
  simp only at hr lss lrs lcs lps lfs lds
  obtain ⟨G4, h4⟩ : ∃ f : Int → Bool, f = fun a => decide (a ≤ 160) := ⟨_, rfl⟩
  obtain ⟨G3, h3⟩ : ∃ f : Int → Bool, f = fun a => G4 (ps.foldl PF a) := ⟨_, rfl⟩
  obtain ⟨G2, h2⟩ : ∃ f : Int → Bool, f = fun a => G3 (cs.foldl CF a) := ⟨_, rfl⟩
  obtain ⟨G1, h1⟩ : ∃ f : Int → Bool, f = fun a => G2 (rs.foldl RF a) := ⟨_, rfl⟩
  have q4 : ∀ a, G4 a = decide (a ≤ 160) := fun a => by rw [h4]
  have q3 : ∀ a, G3 a = G4 (ps.foldl PF a) := fun a => by rw [h3]
  have q2 : ∀ a, G2 a = G3 (cs.foldl CF a) := fun a => by rw [h2]
  have q1 : ∀ a, G1 a = G2 (rs.foldl RF a) := fun a => by rw [h1]
  rw [← q4, ← q3, ← q2, ← q1] at hr
  clear h1 h2 h3 h4
  obtain ⟨n1, hn1⟩ : ∃ n : Nat, n = ss.length := ⟨_, rfl⟩
  obtain ⟨n2, hn2⟩ : ∃ n : Nat, n = rs.length := ⟨_, rfl⟩
  obtain ⟨n3, hn3⟩ : ∃ n : Nat, n = cs.length := ⟨_, rfl⟩
  obtain ⟨n4, hn4⟩ : ∃ n : Nat, n = ps.length := ⟨_, rfl⟩
  refine Pure.intro (want := [boolD r]) T_ok follows Tryz.func6 rfl (by kernel_rfl) (rs := [.tmp 2]) rfl (by kernel_rfl) ?_
  generalize hP : Tryz.prog = P at *
  have hT : T.ok P := hP ▸ T_ok
  have hm : P.follows .mixedOrders = true := hP ▸ follows
  unfold Tryz.f6
  dsimp only
  cbv
  refine CodeP.loopc hT hm (X := Nat × Int) (fun x => [(4, .int .i64 (.nat x.1)), (3, .int .i64 (.var x.2))]) (fun x => x.1 ≤ ss.length ∧ r = G1 (List.foldl SF x.2 (ss.drop x.1))) (fun x => n1 - x.1) (0, AD (is.length : Int) (us.length : Int)) ⟨Nat.zero_le _, hr⟩ (Nat.zero_le _) ?_ rfl ?_
  · refine ⟨.nat0, ?_, ?_⟩
    · first
        | exact .refl _
        | exact .eq (.int (by show binDen .add .i64 _ _ = _; rw [eA]; rfl))
        | exact .eq (.int (by show binDen .add .i64 (binDen .add .i64 _ _) _ = _; rw [eA, eA]; rfl))
    · (cbv; (repeat' (first | exact SnD.refl _ | exact trivial | exact SnD.nat0 | refine And.intro ?_ ?_)))
  clear hr
  intro ⟨k, a⟩ ⟨hk, hq⟩
  simp only at hk hq
  cbv
  refine SplitP.mk (fun hs => ?_) (fun hs => ?_)
  · have hkn : k < ss.length := by
      have h5 : decide ((k : Int) < (ss.length : Int)) = true := hs
      have := of_decide_eq_true h5
      omega
    clear hs
    refine ElemP.mk (by show (0 : Int) ≤ (k : Int) ∧ (k : Int) < (ss.length : Int); omega) (fun x hx => ?_)
    replace hx : ss[k]? = some x := hx
    rw [drop_cons hx, List.foldl_cons, eS] at hq
    have lf := lfs x (List.mem_of_getElem? hx)
    have ld := lds x (List.mem_of_getElem? hx)
    clear lfs lds
    obtain ⟨x1, x2, x3, x4, x5, fl, x7, dl⟩ := x
    simp only at hq lf ld
    obtain ⟨m1, hm1⟩ : ∃ n : Nat, n = fl.length := ⟨_, rfl⟩
    obtain ⟨m2, hm2⟩ : ∃ n : Nat, n = dl.length := ⟨_, rfl⟩
    obtain ⟨G5, h5⟩ : ∃ f : Int → Bool, f = fun a => G1 (List.foldl SF a (ss.drop (k + 1))) := ⟨_, rfl⟩
    obtain ⟨G6, h6⟩ : ∃ f : Int → Bool, f = fun a => G5 (dl.foldl DF a) := ⟨_, rfl⟩
    have q5 : ∀ a, G5 a = G1 (List.foldl SF a (ss.drop (k + 1))) := fun a => by rw [h5]
    have q6 : ∀ a, G6 a = G5 (dl.foldl DF a) := fun a => by rw [h6]
    rw [← q5, ← q6] at hq
    clear h5 h6
    cbv
    refine CodeP.loopc hT hm (X := Nat × Int) (fun x => [(5, .int .i64 (.nat x.1)), (3, .int .i64 (.var x.2))]) (fun x => x.1 ≤ fl.length ∧ r = G6 (List.foldl FF x.2 (fl.drop x.1))) (fun x => m1 - x.1) (0, AD (AD a 1) (dl.length : Int)) ⟨Nat.zero_le _, hq⟩ (Nat.zero_le _) ?_ rfl ?_
    · refine ⟨.nat0, ?_, ?_⟩
      · first
          | exact .refl _
          | exact .eq (.int (by show binDen .add .i64 _ _ = _; rw [eA]; rfl))
          | exact .eq (.int (by show binDen .add .i64 (binDen .add .i64 _ _) _ = _; rw [eA, eA]; rfl))
      · (cbv; (repeat' (first | exact SnD.refl _ | exact trivial | exact SnD.nat0 | refine And.intro ?_ ?_)))
    clear hq
    intro ⟨j, b⟩ ⟨hj, hq⟩
    simp only at hj hq
    cbv
    refine ElemP.mk (by show (0 : Int) ≤ (k : Int) ∧ (k : Int) < (ss.length : Int); omega) (fun zz hzz => ?_)
    replace hzz : ss[k]? = some zz := hzz
    rw [hx] at hzz
    cases hzz
    cbv
    refine SplitP.mk (fun hs => ?_) (fun hs => ?_)
    · have hjn : j < fl.length := by
        have := of_decide_eq_true (show decide ((j : Int) < (fl.length : Int)) = true from hs)
        omega
      clear hs
      refine ElemP.mk (by show (0 : Int) ≤ (k : Int) ∧ (k : Int) < (ss.length : Int); omega) (fun zz hzz => ?_)
      replace hzz : ss[k]? = some zz := hzz
      rw [hx] at hzz
      cases hzz
      cbv
      refine ElemP.mk (by show (0 : Int) ≤ (j : Int) ∧ (j : Int) < (fl.length : Int); omega) (fun f hf => ?_)
      replace hf : fl[j]? = some f := hf
      rw [drop_cons hf, List.foldl_cons, eF] at hq
      clear hf
      obtain ⟨y1, ⟨y2, y3, y4, y5, y6, y7, y8⟩, y9, y10, y11, y12⟩ := f
      simp only at hq
      cbv
      refine BackP.intro (j + 1, AD (AD b 1) (y8.length : Int)) ⟨by show j + 1 ≤ fl.length; omega, hq⟩ (by show m1 - (j + 1) < m1 - j; omega) ⟨?_, ?_, rfl⟩
      · refine ⟨.inc (by omega), .eq (.int (by show binDen .add .i64 (binDen .add .i64 _ _) _ = _; rw [eA, eA]; rfl)), ?_⟩
        (cbv; (repeat' (first | exact SnD.refl _ | exact trivial | exact SnD.nat0 | refine And.intro ?_ ?_)))
      · (cbv; (repeat' (first | exact trivial | exact BkEq.refl _ | exact SnD.refl _ | exact SnDs.nil | refine BkEq.cells ?_ | refine SnDs.cons ?_ ?_ | refine And.intro ?_ ?_)))
    have hjn : j = fl.length := by
      have := of_decide_eq_false (show decide ((j : Int) < (fl.length : Int)) = false from hs)
      omega
    rw [List.drop_of_length_le (by omega), List.foldl_nil, q6] at hq
    clear hs
    refine CodeP.loopc hT hm (X := Nat × Int) (fun x => [(6, .int .i64 (.nat x.1)), (3, .int .i64 (.var x.2))]) (fun x => x.1 ≤ dl.length ∧ r = G5 (List.foldl DF x.2 (dl.drop x.1))) (fun x => m2 - x.1) (0, b) ⟨Nat.zero_le _, hq⟩ (Nat.zero_le _) ?_ rfl ?_
    · refine ⟨.nat0, ?_, ?_⟩
      · first
          | exact .refl _
          | exact .eq (.int (by show binDen .add .i64 _ _ = _; rw [eA]; rfl))
          | exact .eq (.int (by show binDen .add .i64 (binDen .add .i64 _ _) _ = _; rw [eA, eA]; rfl))
      · (cbv; (repeat' (first | exact SnD.refl _ | exact trivial | exact SnD.nat0 | refine And.intro ?_ ?_)))
    clear hq
    intro ⟨j2, c⟩ ⟨hj2, hq⟩
    simp only at hj2 hq
    cbv
    refine ElemP.mk (by show (0 : Int) ≤ (k : Int) ∧ (k : Int) < (ss.length : Int); omega) (fun zz hzz => ?_)
    replace hzz : ss[k]? = some zz := hzz
    rw [hx] at hzz
    cases hzz
    cbv
    refine SplitP.mk (fun hs => ?_) (fun hs => ?_)
    · have hjn2 : j2 < dl.length := by
        have := of_decide_eq_true (show decide ((j2 : Int) < (dl.length : Int)) = true from hs)
        omega
      clear hs
      obtain ⟨f, hf⟩ : ∃ f, dl[j2]? = some f := ⟨_, List.getElem?_eq_getElem hjn2⟩
      rw [drop_cons hf, List.foldl_cons, eD] at hq
      obtain ⟨y1, y2, y3, y4, y5, y6⟩ := f
      simp only at hq
      refine ⟨by kernel_rfl, ?_⟩
      cbv
      refine ElemP.mk (by show (0 : Int) ≤ (k : Int) ∧ (k : Int) < (ss.length : Int); omega) (fun zz hzz => ?_)
      replace hzz : ss[k]? = some zz := hzz
      rw [hx] at hzz
      cases hzz
      cbv
      refine ElemP.mk (by show (0 : Int) ≤ (j2 : Int) ∧ (j2 : Int) < (dl.length : Int); omega) (fun zz hzz => ?_)
      replace hzz : dl[j2]? = some zz := hzz
      rw [hf] at hzz
      cases hzz
      cbv
      refine ElemP.mk (by show (0 : Int) ≤ (k : Int) ∧ (k : Int) < (ss.length : Int); omega) (fun zz hzz => ?_)
      replace hzz : ss[k]? = some zz := hzz
      rw [hx] at hzz
      cases hzz
      cbv
      refine ElemP.mk (by show (0 : Int) ≤ (j2 : Int) ∧ (j2 : Int) < (dl.length : Int); omega) (fun zz hzz => ?_)
      replace hzz : dl[j2]? = some zz := hzz
      rw [hf] at hzz
      cases hzz
      cbv
      refine BackP.intro (j2 + 1, AD (AD c (y2.length : Int)) (y5.length : Int)) ⟨by show j2 + 1 ≤ dl.length; omega, hq⟩ (by show m2 - (j2 + 1) < m2 - j2; omega) ⟨?_, ?_, rfl⟩
      · refine ⟨.inc (by omega), .eq (.int (by show binDen .add .i64 (binDen .add .i64 _ _) _ = _; rw [eA, eA]; rfl)), ?_⟩
        (cbv; (repeat' (first | exact SnD.refl _ | exact trivial | exact SnD.nat0 | refine And.intro ?_ ?_)))
      · (cbv; (repeat' (first | exact trivial | exact BkEq.refl _ | exact SnD.refl _ | exact SnDs.nil | refine BkEq.cells ?_ | refine SnDs.cons ?_ ?_ | refine And.intro ?_ ?_)))
    have hjn2 : j2 = dl.length := by
      have := of_decide_eq_false (show decide ((j2 : Int) < (dl.length : Int)) = false from hs)
      omega
    rw [List.drop_of_length_le (by omega), List.foldl_nil, q5] at hq
    refine BackP.intro (k + 1, c) ⟨by show k + 1 ≤ ss.length; omega, hq⟩ (by show n1 - (k + 1) < n1 - k; omega) ⟨?_, ?_, rfl⟩
    · refine ⟨.inc (by omega), .refl _, ?_⟩
      (cbv; (repeat' (first | exact SnD.refl _ | exact trivial | exact SnD.nat0 | refine And.intro ?_ ?_)))
    · (cbv; (repeat' (first | exact trivial | exact BkEq.refl _ | exact SnD.refl _ | exact SnDs.nil | refine BkEq.cells ?_ | refine SnDs.cons ?_ ?_ | refine And.intro ?_ ?_)))
  have hkn : k = ss.length := by
    have := of_decide_eq_false (show decide ((k : Int) < (ss.length : Int)) = false from hs)
    omega
  rw [List.drop_of_length_le (by omega), List.foldl_nil, q1] at hq
  clear hs hkn hk lfs lds
  refine CodeP.loopc hT hm (X := Nat × Int) (fun x => [(7, .int .i64 (.nat x.1)), (3, .int .i64 (.var x.2))]) (fun x => x.1 ≤ rs.length ∧ r = G2 (List.foldl RF x.2 (rs.drop x.1))) (fun x => n2 - x.1) (0, a) ⟨Nat.zero_le _, hq⟩ (Nat.zero_le _) ?_ rfl ?_
  · refine ⟨.nat0, ?_, ?_⟩
    · first
        | exact .refl _
        | exact .eq (.int (by show binDen .add .i64 _ _ = _; rw [eA]))
        | exact .eq (.int (by show binDen .add .i64 (binDen .add .i64 _ _) _ = _; rw [eA, eA]))
    · (cbv; (repeat' (first | exact SnD.refl _ | exact trivial | exact SnD.nat0 | refine And.intro ?_ ?_)))
  clear hq
  intro ⟨k2, a2⟩ ⟨hk, hq⟩
  simp only at hk hq
  cbv
  refine SplitP.mk (fun hs => ?_) (fun hs => ?_)
  · have hkn : k2 < rs.length := by
      have := of_decide_eq_true (show decide ((k2 : Int) < (rs.length : Int)) = true from hs)
      omega
    clear hs
    obtain ⟨f, hf⟩ : ∃ f, rs[k2]? = some f := ⟨_, List.getElem?_eq_getElem hkn⟩
    rw [drop_cons hf, List.foldl_cons, eR] at hq
    obtain ⟨y1, y2, y3, y4, y5, y6, y7, y8⟩ := f
    simp only at hq
    refine ⟨by kernel_rfl, ?_⟩
    cbv
    refine ElemP.mk (by show (0 : Int) ≤ (k2 : Int) ∧ (k2 : Int) < (rs.length : Int); omega) (fun zz hzz => ?_)
    replace hzz : rs[k2]? = some zz := hzz
    rw [hf] at hzz
    cases hzz
    cbv
    refine ElemP.mk (by show (0 : Int) ≤ (k2 : Int) ∧ (k2 : Int) < (rs.length : Int); omega) (fun zz hzz => ?_)
    replace hzz : rs[k2]? = some zz := hzz
    rw [hf] at hzz
    cases hzz
    cbv
    refine ElemP.mk (by show (0 : Int) ≤ (k2 : Int) ∧ (k2 : Int) < (rs.length : Int); omega) (fun zz hzz => ?_)
    replace hzz : rs[k2]? = some zz := hzz
    rw [hf] at hzz
    cases hzz
    cbv
    refine BackP.intro (k2 + 1, AD (AD (AD (AD a2 1) (y4.length : Int)) (y6.length : Int)) (y8.length : Int)) ⟨by show k2 + 1 ≤ rs.length; omega, hq⟩ (by show n2 - (k2 + 1) < n2 - k2; omega) ⟨?_, ?_, rfl⟩
    · refine ⟨.inc (by omega), .eq (.int (by show binDen .add .i64 (binDen .add .i64 (binDen .add .i64 (binDen .add .i64 _ _) _) _) _ = _; rw [eA, eA, eA, eA]; rfl)), ?_⟩
      (cbv; (repeat' (first | exact SnD.refl _ | exact trivial | exact SnD.nat0 | refine And.intro ?_ ?_)))
    · (cbv; (repeat' (first | exact trivial | exact BkEq.refl _ | exact SnD.refl _ | exact SnDs.nil | refine BkEq.cells ?_ | refine SnDs.cons ?_ ?_ | refine And.intro ?_ ?_)))
  have hkn : k2 = rs.length := by
    have := of_decide_eq_false (show decide ((k2 : Int) < (rs.length : Int)) = false from hs)
    omega
  rw [List.drop_of_length_le (by omega), List.foldl_nil, q2] at hq
  clear hs hkn hk
  refine CodeP.loopc hT hm (X := Nat × Int) (fun x => [(8, .int .i64 (.nat x.1)), (3, .int .i64 (.var x.2))]) (fun x => x.1 ≤ cs.length ∧ r = G3 (List.foldl CF x.2 (cs.drop x.1))) (fun x => n3 - x.1) (0, a2) ⟨Nat.zero_le _, hq⟩ (Nat.zero_le _) ?_ rfl ?_
  · refine ⟨.nat0, ?_, ?_⟩
    · first
        | exact .refl _
        | exact .eq (.int (by show binDen .add .i64 _ _ = _; rw [eA]))
        | exact .eq (.int (by show binDen .add .i64 (binDen .add .i64 _ _) _ = _; rw [eA, eA]))
    · (cbv; (repeat' (first | exact SnD.refl _ | exact trivial | exact SnD.nat0 | refine And.intro ?_ ?_)))
  clear hq
  intro ⟨k3, a22⟩ ⟨hk, hq⟩
  simp only at hk hq
  cbv
  refine SplitP.mk (fun hs => ?_) (fun hs => ?_)
  · have hkn : k3 < cs.length := by
      have := of_decide_eq_true (show decide ((k3 : Int) < (cs.length : Int)) = true from hs)
      omega
    clear hs
    obtain ⟨f, hf⟩ : ∃ f, cs[k3]? = some f := ⟨_, List.getElem?_eq_getElem hkn⟩
    rw [drop_cons hf, List.foldl_cons, eC] at hq
    obtain ⟨y1, y2, y3, y4, y5, y6⟩ := f
    simp only at hq
    refine ElemP.mk (by show (0 : Int) ≤ (k3 : Int) ∧ (k3 : Int) < (cs.length : Int); omega) (fun zz hzz => ?_)
    replace hzz : cs[k3]? = some zz := hzz
    rw [hf] at hzz
    cases hzz
    cbv
    refine BackP.intro (k3 + 1, AD (AD a22 1) (y6.length : Int)) ⟨by show k3 + 1 ≤ cs.length; omega, hq⟩ (by show n3 - (k3 + 1) < n3 - k3; omega) ⟨?_, ?_, rfl⟩
    · refine ⟨.inc (by omega), .eq (.int (by show binDen .add .i64 (binDen .add .i64 _ _) _ = _; rw [eA, eA]; rfl)), ?_⟩
      (cbv; (repeat' (first | exact SnD.refl _ | exact trivial | exact SnD.nat0 | refine And.intro ?_ ?_)))
    · (cbv; (repeat' (first | exact trivial | exact BkEq.refl _ | exact SnD.refl _ | exact SnDs.nil | refine BkEq.cells ?_ | refine SnDs.cons ?_ ?_ | refine And.intro ?_ ?_)))
  have hkn : k3 = cs.length := by
    have := of_decide_eq_false (show decide ((k3 : Int) < (cs.length : Int)) = false from hs)
    omega
  rw [List.drop_of_length_le (by omega), List.foldl_nil, q3] at hq
  clear hs hkn hk
  refine CodeP.loopc hT hm (X := Nat × Int) (fun x => [(9, .int .i64 (.nat x.1)), (3, .int .i64 (.var x.2))]) (fun x => x.1 ≤ ps.length ∧ r = G4 (List.foldl PF x.2 (ps.drop x.1))) (fun x => n4 - x.1) (0, a22) ⟨Nat.zero_le _, hq⟩ (Nat.zero_le _) ?_ rfl ?_
  · refine ⟨.nat0, ?_, ?_⟩
    · first
        | exact .refl _
        | exact .eq (.int (by show binDen .add .i64 _ _ = _; rw [eA]))
        | exact .eq (.int (by show binDen .add .i64 (binDen .add .i64 _ _) _ = _; rw [eA, eA]))
    · (cbv; (repeat' (first | exact SnD.refl _ | exact trivial | exact SnD.nat0 | refine And.intro ?_ ?_)))
  clear hq
  intro ⟨k4, a222⟩ ⟨hk, hq⟩
  simp only at hk hq
  cbv
  refine SplitP.mk (fun hs => ?_) (fun hs => ?_)
  · have hkn : k4 < ps.length := by
      have := of_decide_eq_true (show decide ((k4 : Int) < (ps.length : Int)) = true from hs)
      omega
    clear hs
    obtain ⟨f, hf⟩ : ∃ f, ps[k4]? = some f := ⟨_, List.getElem?_eq_getElem hkn⟩
    rw [drop_cons hf, List.foldl_cons, eP] at hq
    obtain ⟨y1, y2, y3, y4⟩ := f
    simp only at hq
    refine ElemP.mk (by show (0 : Int) ≤ (k4 : Int) ∧ (k4 : Int) < (ps.length : Int); omega) (fun zz hzz => ?_)
    replace hzz : ps[k4]? = some zz := hzz
    rw [hf] at hzz
    cases hzz
    cbv
    refine BackP.intro (k4 + 1, AD (AD a222 1) (y3.length : Int)) ⟨by show k4 + 1 ≤ ps.length; omega, hq⟩ (by show n4 - (k4 + 1) < n4 - k4; omega) ⟨?_, ?_, rfl⟩
    · refine ⟨.inc (by omega), .eq (.int (by show binDen .add .i64 (binDen .add .i64 _ _) _ = _; rw [eA, eA]; rfl)), ?_⟩
      (cbv; (repeat' (first | exact SnD.refl _ | exact trivial | exact SnD.nat0 | refine And.intro ?_ ?_)))
    · (cbv; (repeat' (first | exact trivial | exact BkEq.refl _ | exact SnD.refl _ | exact SnDs.nil | refine BkEq.cells ?_ | refine SnDs.cons ?_ ?_ | refine And.intro ?_ ?_)))
  have hkn : k4 = ps.length := by
    have := of_decide_eq_false (show decide ((k4 : Int) < (ps.length : Int)) = false from hs)
    omega
  rw [List.drop_of_length_le (by omega), List.foldl_nil, q4] at hq
  clear hs hkn hk
  refine .mk (.cons (.eq (.bool ?_)) .nil) rfl
  show decide (a222 ≤ 160) = r
  exact hq.symm
set_option maxRecDepth 100000 in
set_option maxHeartbeats 4000000 in
theorem Few10_pure (S : SourceD) : Pure Tryz.prog 6 [.agg S.c] (boolD (few10 S)) :=
  Pure.lens ⟨_, _, Tryz.func6, rfl, by kernel_rfl⟩ (Few10_lens S)
end Go.Proofs.YtdhfakajlnidiaaGreat
namespace Go.Proofs.YtdhfakajlnidiaaGreat
open Go.RowKit

/-! The check of the types: limits, the whole. -/
def limB (s : SourceD) : Bool := (decide (s.issuers.length ≤ 8) && (decide (s.units.length ≤ 64) && (decide (s.schemas.length ≤ 16) && (decide (s.rules.length ≤ 16) && (decide (s.converts.length ≤ 16) && decide (s.purposes.length ≤ 8)))))) && !(s.purposes.any fun x => decide (64 < x.may.length))
def checkB (s : SourceD) : Int := if limB s then (if s.units.all (unitB s.units) && (s.schemas.all (schB s) && (s.rules.all (ruleB s) && s.purposes.all (purpB s))) then 0 else 120) else 2
set_option maxRecDepth 100000 in
set_option maxHeartbeats 4000000 in
theorem clL_pure (x : PurposeD) : Pure Tryz.prog 55 [.agg (PurposeD.c x)] (boolD (decide (64 < x.may.length))) := by
  obtain ⟨r, hr⟩ : ∃ r, r = decide (64 < x.may.length) := ⟨_, rfl⟩
  rw [← hr]
  obtain ⟨x1, x2, x3, x4⟩ := x
  simp only at hr
  refine Pure.intro (want := [boolD r]) T_ok follows Tryz.func55 rfl (by kernel_rfl) (rs := [.tmp 2]) rfl (by kernel_rfl) ?_
  generalize hP : Tryz.prog = P at *
  have hT : T.ok P := hP ▸ T_ok
  have hm : P.follows .mixedOrders = true := hP ▸ follows
  unfold Tryz.f55
  dsimp only
  cbv
  refine .mk (.cons (.eq (.bool ?_)) .nil) rfl
  show decide ((x3.length : Int) > 64) = r
  rw [hr]
  exact decide_eq_decide.2 (by omega)
set_option maxRecDepth 100000 in
set_option maxHeartbeats 4000000 in
theorem limited_pure (S : SourceD) : Pure Tryz.prog 35 [.agg S.c] (boolD (limB S)) := by
  have hc : S.purposes.length ≤ 8 → Pure Tryz.prog 54 [.slm 3 (some (.var S.npurposes)) PurposeD.c S.purposes, .fn (.func 55) [] []] (boolD (S.purposes.any fun x => decide (64 < x.may.length))) := fun h => conL_pure S.purposes (some (.var S.npurposes)) (fun x => decide (64 < x.may.length)) (by omega) (fun x _ => clL_pure x)
  obtain ⟨r, hr⟩ : ∃ r, r = limB S := ⟨_, rfl⟩
  rw [← hr]
  unfold limB at hr
  obtain ⟨b, hb⟩ : ∃ r, r = S.purposes.any fun x => decide (64 < x.may.length) := ⟨_, rfl⟩
  rw [← hb] at hr hc
  clear hb
  obtain ⟨ni, is, nu, us, ns, ss, nr, rs, nc, cs, np, ps⟩ := S
  simp only at hr hc
  refine Pure.intro (want := [boolD r]) T_ok follows Tryz.func35 rfl (by kernel_rfl) (rs := [.tmp 2]) rfl (by kernel_rfl) ?_
  generalize hP : Tryz.prog = P at *
  have hT : T.ok P := hP ▸ T_ok
  have hm : P.follows .mixedOrders = true := hP ▸ follows
  unfold Tryz.f35
  dsimp only
  cbv
  refine SplitP.mk (fun g => ?_) (fun g => ?_)
  · have g' : ¬ is.length ≤ 8 := by have h := of_decide_eq_true (show decide ((is.length : Int) > 8) = true from g); omega
    rw [decide_eq_false g'] at hr
    (repeat (refine OpsP.go hT ?_; cbv))
    refine .mk (.cons (.eq (.bool ?_)) .nil) rfl
    show false = r
    rw [hr]
    simp
  have g0 : is.length ≤ 8 := by have h := of_decide_eq_false (show decide ((is.length : Int) > 8) = false from g); omega
  rw [decide_eq_true g0] at hr
  clear g
  refine SplitP.mk (fun g => ?_) (fun g => ?_)
  · have g' : ¬ us.length ≤ 64 := by have h := of_decide_eq_true (show decide ((us.length : Int) > 64) = true from g); omega
    rw [decide_eq_false g'] at hr
    (repeat (refine OpsP.go hT ?_; cbv))
    refine .mk (.cons (.eq (.bool ?_)) .nil) rfl
    show false = r
    rw [hr]
    simp
  have g1 : us.length ≤ 64 := by have h := of_decide_eq_false (show decide ((us.length : Int) > 64) = false from g); omega
  rw [decide_eq_true g1] at hr
  clear g
  refine SplitP.mk (fun g => ?_) (fun g => ?_)
  · have g' : ¬ ss.length ≤ 16 := by have h := of_decide_eq_true (show decide ((ss.length : Int) > 16) = true from g); omega
    rw [decide_eq_false g'] at hr
    (repeat (refine OpsP.go hT ?_; cbv))
    refine .mk (.cons (.eq (.bool ?_)) .nil) rfl
    show false = r
    rw [hr]
    simp
  have g2 : ss.length ≤ 16 := by have h := of_decide_eq_false (show decide ((ss.length : Int) > 16) = false from g); omega
  rw [decide_eq_true g2] at hr
  clear g
  refine SplitP.mk (fun g => ?_) (fun g => ?_)
  · have g' : ¬ rs.length ≤ 16 := by have h := of_decide_eq_true (show decide ((rs.length : Int) > 16) = true from g); omega
    rw [decide_eq_false g'] at hr
    (repeat (refine OpsP.go hT ?_; cbv))
    refine .mk (.cons (.eq (.bool ?_)) .nil) rfl
    show false = r
    rw [hr]
    simp
  have g3 : rs.length ≤ 16 := by have h := of_decide_eq_false (show decide ((rs.length : Int) > 16) = false from g); omega
  rw [decide_eq_true g3] at hr
  clear g
  refine SplitP.mk (fun g => ?_) (fun g => ?_)
  · have g' : ¬ cs.length ≤ 16 := by have h := of_decide_eq_true (show decide ((cs.length : Int) > 16) = true from g); omega
    rw [decide_eq_false g'] at hr
    (repeat (refine OpsP.go hT ?_; cbv))
    refine .mk (.cons (.eq (.bool ?_)) .nil) rfl
    show false = r
    rw [hr]
    simp
  have g4 : cs.length ≤ 16 := by have h := of_decide_eq_false (show decide ((cs.length : Int) > 16) = false from g); omega
  rw [decide_eq_true g4] at hr
  clear g
  refine SplitP.mk (fun g => ?_) (fun g => ?_)
  · have g' : ¬ ps.length ≤ 8 := by have h := of_decide_eq_true (show decide ((ps.length : Int) > 8) = true from g); omega
    rw [decide_eq_false g'] at hr
    (repeat (refine OpsP.go hT ?_; cbv))
    refine .mk (.cons (.eq (.bool ?_)) .nil) rfl
    show false = r
    rw [hr]
    simp
  have g5 : ps.length ≤ 8 := by have h := of_decide_eq_false (show decide ((ps.length : Int) > 8) = false from g); omega
  rw [decide_eq_true g5] at hr
  clear g
  simp only [Bool.true_and] at hr
  (repeat (refine OpsP.go hT ?_; cbv))
  refine CallP.pure _ (hc g5) rfl ?_
  cbv
  refine .mk (.cons (.eq (.bool ?_)) .nil) rfl
  show (!b) = r
  exact hr.symm
set_option maxRecDepth 100000 in
set_option maxHeartbeats 4000000 in
theorem cl36_pure (S : SourceD) (R : RuleD) (hG : Good S) (hF : ∀ x ∈ S.schemas, x.fields.length ≤ 100000) : Pure Tryz.prog 36 [.agg R.c, .dp S.c 0] (boolD (ruleB S R)) := by
  have h := ruleOK_pure S R hG hF
  obtain ⟨r, hr⟩ : ∃ r, r = ruleB S R := ⟨_, rfl⟩
  rw [← hr] at h ⊢
  clear hr hG hF
  obtain ⟨ni, is, nu, us, ns, ss, nr, rs, nc, cs, np, ps⟩ := S
  obtain ⟨x1, x2, x3, fl, x5, wl, x7, sl⟩ := R
  refine Pure.intro (want := [boolD r]) T_ok follows Tryz.func36 rfl (by kernel_rfl) (rs := [.tmp 3]) rfl (by kernel_rfl) ?_
  generalize hP : Tryz.prog = P at *
  have hT : T.ok P := hP ▸ T_ok
  have hm : P.follows .mixedOrders = true := hP ▸ follows
  unfold Tryz.f36
  dsimp only
  cbv
  refine CallP.pure _ h rfl ?_
  cbv
  exact .mk (.cons (.eq (.refl _)) .nil) rfl
theorem schB_head {S : SourceD} {x : SchemaD} (h : schB S x = true) : x.fields.length ≤ 12 ∧ ∀ f ∈ x.fields, kindB f.type S.units.length = true := by
  unfold schB at h
  simp only [Bool.and_eq_true, decide_eq_true_eq] at h
  refine ⟨h.1.2, fun f hf => ?_⟩
  have h2 := List.all_eq_true.1 h.2.2 f hf
  unfold fieldB at h2
  rw [Bool.and_eq_true] at h2
  exact h2.1
theorem good_of {S : SourceD} (h : S.schemas.all (schB S) = true) : Good S := fun i j t ht => by
  unfold typeOf? at ht
  split at ht
  · split at ht
    · next x hx =>
      have hx2 := schB_head (List.all_eq_true.1 h x (List.mem_of_getElem? hx))
      split at ht
      · split at ht
        · next f hf =>
          cases ht
          exact hx2.2 f (List.mem_of_getElem? hf)
        · cases ht
      · cases ht
    · cases ht
  · cases ht
theorem lim_of {S : SourceD} (h : limB S = true) : S.units.length ≤ 64 ∧ S.schemas.length ≤ 16 ∧ S.rules.length ≤ 16 ∧ S.purposes.length ≤ 8 ∧ ∀ p ∈ S.purposes, p.may.length ≤ 64 := by
  unfold limB at h
  simp only [Bool.and_eq_true, decide_eq_true_eq, Bool.not_eq_true'] at h
  refine ⟨h.1.2.1, h.1.2.2.1, h.1.2.2.2.1, h.1.2.2.2.2.2, fun p hp => ?_⟩
  have := List.any_eq_false.1 h.2 p hp
  simp only [decide_eq_true_eq] at this
  omega
theorem Check_lens (S : SourceD) (hL : S.lens) : Pure Tryz.prog 21 [.agg S.c] (i64 (checkB S)) := by
  have hlim := limited_pure S
  have hU : limB S = true → Pure Tryz.prog 38 [.slm 5 (some (.var S.nunits)) UnitD.c S.units, .fn (.func 39) [.agg S.c] []] (boolD (S.units.all (unitB S.units))) := fun h => allU_pure S S.units (some (.var S.nunits)) (unitB S.units) (by have := (lim_of h).1; omega) (fun x _ => unitOK_pure S x)
  have hS : limB S = true → Pure Tryz.prog 40 [.slm 6 (some (.var S.nschemas)) SchemaD.c S.schemas, .fn (.func 41) [.agg S.c] []] (boolD (S.schemas.all (schB S))) := fun h => allS_pure S S.schemas (some (.var S.nschemas)) (schB S) (by have := (lim_of h).2.1; omega) (fun x hx => schemaOK_pure S x (fun f hf => hL.ns x hx f hf))
  have hR : limB S = true → S.schemas.all (schB S) = true → Pure Tryz.prog 42 [.slm 5 (some (.var S.nrules)) RuleD.c S.rules, .fn (.func 36) [] [.dp S.c 0]] (boolD (S.rules.all (ruleB S))) := fun h h2 => allR_pure S S.rules (some (.var S.nrules)) (ruleB S) (by have := (lim_of h).2.2.1; omega) (fun x _ => cl36_pure S x (good_of h2) (fun y hy => by have := (schB_head (List.all_eq_true.1 h2 y hy)).1; omega))
  have hPu : limB S = true → Pure Tryz.prog 43 [.slm 3 (some (.var S.npurposes)) PurposeD.c S.purposes, .fn (.func 44) [.agg S.c] []] (boolD (S.purposes.all (purpB S))) := fun h => allP_pure S S.purposes (some (.var S.npurposes)) (purpB S) (by have := (lim_of h).2.2.2.1; omega) (fun x hx => purposeOK_pure S x (by have := (lim_of h).2.2.2.2 x hx; omega))
  obtain ⟨r, hr⟩ : ∃ r, r = checkB S := ⟨_, rfl⟩
  rw [← hr]
  unfold checkB at hr
  obtain ⟨lm, hlm⟩ : ∃ b, b = limB S := ⟨_, rfl⟩
  obtain ⟨u, hu⟩ : ∃ b, b = S.units.all (unitB S.units) := ⟨_, rfl⟩
  obtain ⟨sb, hsb⟩ : ∃ b, b = S.schemas.all (schB S) := ⟨_, rfl⟩
  obtain ⟨rb, hrb⟩ : ∃ b, b = S.rules.all (ruleB S) := ⟨_, rfl⟩
  obtain ⟨pb, hpb⟩ : ∃ b, b = S.purposes.all (purpB S) := ⟨_, rfl⟩
  rw [← hlm] at hlim hU hS hR hPu hr
  rw [← hu] at hU hr
  rw [← hsb] at hS hR hr
  rw [← hrb] at hR hr
  rw [← hpb] at hPu hr
  clear hlm hu hsb hrb hpb hL
  obtain ⟨ni, is, nu, us, ns, ss, nr, rs, nc, cs, np, ps⟩ := S
  simp only at hU hS hR hPu
  refine Pure.intro (want := [i64 r]) T_ok follows Tryz.func21 rfl (by kernel_rfl) (rs := [.tmp 2]) rfl (by kernel_rfl) ?_
  generalize hP : Tryz.prog = P at *
  have hT : T.ok P := hP ▸ T_ok
  have hm : P.follows .mixedOrders = true := hP ▸ follows
  unfold Tryz.f21
  dsimp only
  cbv
  refine CallP.pure _ hlim rfl ?_
  clear hlim
  cbv
  refine SplitP.mk (fun g => ?_) (fun g => ?_)
  · have g' : (!lm) = true := g
    have g2 : lm = false := by simpa using g'
    rw [g2, if_neg (by decide)] at hr
    refine .mk (.cons (.eq (.int ?_)) .nil) rfl
    show (2 : Int) = r
    exact hr.symm
  have g' : (!lm) = false := g
  have g2 : lm = true := by simpa using g'
  rw [g2, if_pos rfl] at hr
  replace hU := hU g2
  replace hS := hS g2
  replace hR := hR g2
  replace hPu := hPu g2
  clear g g' g2
  refine CallP.pure _ hU rfl ?_
  clear hU
  cbv
  refine SplitP.mk (fun g => ?_) (fun g => ?_)
  · have g' : (!u) = true := g
    have g2 : u = false := by simpa using g'
    rw [g2, Bool.false_and, if_neg (by decide)] at hr
    clear hS hR hPu
    (repeat (refine OpsP.go hT ?_; cbv))
    refine .mk (.cons (.eq (.int ?_)) .nil) rfl
    show (120 : Int) = r
    exact hr.symm
  have g' : (!u) = false := g
  have g2 : u = true := by simpa using g'
  rw [g2, Bool.true_and] at hr
  clear g g' g2
  (repeat (refine OpsP.go hT ?_; cbv))
  refine CallP.pure _ hS rfl ?_
  clear hS
  cbv
  refine SplitP.mk (fun g => ?_) (fun g => ?_)
  · have g' : (!sb) = true := g
    have g2 : sb = false := by simpa using g'
    rw [g2, Bool.false_and, if_neg (by decide)] at hr
    clear hR hPu
    (repeat (refine OpsP.go hT ?_; cbv))
    refine .mk (.cons (.eq (.int ?_)) .nil) rfl
    show (120 : Int) = r
    exact hr.symm
  have g' : (!sb) = false := g
  have g2 : sb = true := by simpa using g'
  rw [g2, Bool.true_and] at hr
  replace hR := hR g2
  clear g g' g2
  (repeat (refine OpsP.go hT ?_; cbv))
  refine CallP.lend _ _ hR (.cons (.eq (.refl _)) (.cons (.fns .nil (.cons (.dp rfl rfl rfl) .nil)) .nil)) rfl rfl ?_
  clear hR
  cbv
  refine SplitP.mk (fun g => ?_) (fun g => ?_)
  · have g' : (!rb) = true := g
    have g2 : rb = false := by simpa using g'
    rw [g2, Bool.false_and, if_neg (by decide)] at hr
    clear hPu
    (repeat (refine OpsP.go hT ?_; cbv))
    refine .mk (.cons (.eq (.int ?_)) .nil) rfl
    show (120 : Int) = r
    exact hr.symm
  have g' : (!rb) = false := g
  have g2 : rb = true := by simpa using g'
  rw [g2, Bool.true_and] at hr
  clear g g' g2
  (repeat (refine OpsP.go hT ?_; cbv))
  refine CallP.pure _ hPu rfl ?_
  clear hPu
  cbv
  refine SplitP.mk (fun g => ?_) (fun g => ?_)
  · have g' : (!pb) = true := g
    have g2 : pb = false := by simpa using g'
    rw [g2, if_neg (by decide)] at hr
    (repeat (refine OpsP.go hT ?_; cbv))
    refine .mk (.cons (.eq (.int ?_)) .nil) rfl
    show (120 : Int) = r
    exact hr.symm
  have g' : (!pb) = false := g
  have g2 : pb = true := by simpa using g'
  rw [g2, if_pos rfl] at hr
  (repeat (refine OpsP.go hT ?_; cbv))
  refine .mk (.cons (.eq (.int ?_)) .nil) rfl
  show (0 : Int) = r
  exact hr.symm
set_option maxRecDepth 100000 in
set_option maxHeartbeats 4000000 in
theorem Check12_pure (S : SourceD) : Pure Tryz.prog 21 [.agg S.c] (i64 (checkB S)) :=
  Pure.lens ⟨_, _, Tryz.func21, rfl, by kernel_rfl⟩ (Check_lens S)
end Go.Proofs.YtdhfakajlnidiaaGreat
namespace Go.Proofs.YtdhfakajlnidiaaGreat
open Go.RowKit

/-! Methods of interface values: whom a call leads to. -/
theorem depth_succ (P : Program) : ∃ n, P.types.size + Made.depth = n + 1 := ⟨P.types.size + (Made.depth - 1), by unfold Made.depth; omega⟩
theorem run_program (P : Program) (w : World) : (program).run P w = .ok P w := rfl
theorem run_typeInfo {P : Program} {t : TypeId} {i : TypeInfo} (h : P.info? t = some i) (w : World) : (typeInfo t).run P w = .ok i w := by
  simp [typeInfo, h]
theorem lrep_front {w : World} {E : Env} {d : D} {l : List D} {v : Value} {vs : Array Value} (hd : DRep w E d v) (hl : LRep w E l vs) : LRep w E (d :: l) (#[v] ++ vs) := by
  obtain ⟨vl⟩ := vs
  refine ⟨by have := hl.1; simp at this ⊢; omega, fun k x y h1 h2 => ?_⟩
  have h3 : (v :: vl)[k]? = some y := by simpa using h2
  cases k with
  | zero =>
    simp at h1 h3
    subst h1
    subst h3
    exact hd
  | succ k => exact hl.2 k x y (by simpa using h1) (by simpa using h3)
/-- a method of a pointer's own type -/
theorem InvP.direct {P : Program} {t : Nat} {d : D} {m : String} {args : List D} {H : List Bk} {K : D → List Bk → Prop} {i : TypeInfo} {e f : Nat} {r : Method} (hi : P.info? t = some i) (hm : i.methods.find? (fun x => x.name == m) = some r)
    (hp : r.path = #[]) (hf : r.func = some (f, true)) (hu : P.underlying t = some (.pointer e)) (h : CallP P f (d :: args) H K) : InvP P t d m args H K := by
  refine ⟨fun B w E v vs hh hd hl hw => ⟨f, v, ?_, h.here, h.run B w E _ hh (lrep_front hd hl) hw⟩⟩
  · obtain ⟨n, hn⟩ := depth_succ P
    rw [hn]
    unfold method
    simp only [Sem.run_bind, run_typeInfo hi, Result.andThen_ok, hm, hp, hf, follow, Sem.run_pure, receiverAt, run_underlying hu, Place.get]
/-- a method of a type whose value lies in the first field of what the pointer leads to -/
theorem InvP.field {P : Program} {T : Tab} (hT : T.ok P) {t : Nat} {b : Nat} {l : List D} {m : String} {args : List D} {H : List Bk} {K : D → List Bk → Prop} {i : TypeInfo} {s f ft : Nat} {r : Method} {ti : TI} {fs : Array Field} {fd : Field} (hi : P.info? t = some i) (hm : i.methods.find? (fun x => x.name == m) = some r)
    (hp : r.path = #[⟨s, 0, true⟩]) (hf : r.func = some (f, false)) (hs : P.underlying s = some (.struct fs)) (hfd : fs[0]? = some fd) (hty : fd.type = ft) (hoff : fd.offset = 0) (hte : T.get ft = some ti) (hfine : ti.fine = true) (hne : ti.size ≠ 0) (hsz : ti.size ≤ l.length)
    (hnp : ∃ e, P.underlying ft = some (.slice e)) (hb : H[b]? = some (.cells l)) (h : CallP P f (ldV ti l 0 :: args) H K) : InvP P t (.ptr b 1 0) m args H K := by
  refine ⟨fun B w E v vs hh hd hl hw => ?_⟩
  obtain ⟨c, hκ, hσ, rfl⟩ := ptr_at (by unfold Bk.at; rw [hb]; simp) hw.heap hd
  rcases hw.heap b _ hb with q | ⟨_, q, _⟩
  · omega
  obtain ⟨cs, tt, h1, h2, h2', h3⟩ := q c hσ
  obtain ⟨u, hu1, hu2⟩ := load_rep (w := w) (t := ft) (Tab.get_ok hT hte) (F := E) (b := c) (base := 0) (off := 0) (cells := l) (fun j d hd => by
    obtain ⟨v, h4, h5⟩ := h3 j d hd
    exact ⟨v, by simp [World.cell?, h1, h4], h5⟩) (by omega) (TI.fine_spec hfine)
  refine ⟨f, u, ?_, h.here, h.run B w E _ hh (lrep_front hu2 hl) hw⟩
  · obtain ⟨n, hn⟩ := depth_succ P
    obtain ⟨e, hnp⟩ := hnp
    have hlv : (loadVar ft ⟨c, 0, none⟩).run P w = .ok u w := by
      have := loadVar_of hu1
      simpa [asAddr] using this
    have hfp : (fieldPlace ⟨c, 0, none⟩ fd).run P w = .ok ⟨c, 0, none⟩ w := by
      have hz : (sizeOf fd.type).run P w = .ok ti.size w := by
        rw [hty]
        obtain ⟨i2, d2, g1, _, _, g4, _⟩ := TI.of_spec (Tab.get_ok hT hte)
        simp [sizeOf, run_typeInfo g1, g4]
      have h0 : ti.size ≠ 0 := hne
      simp [fieldPlace, hoff, Addr.add, hz, h0]
    rw [hn]
    unfold method
    simp only [Sem.run_bind, run_typeInfo hi, Result.andThen_ok, hm, hp, hf, follow, Sem.run_pure, receiverAt, run_underlying hs, hfd, Place.get, asAddr, hfp, hty, run_underlying hnp, hlv, if_true]
end Go.Proofs.YtdhfakajlnidiaaGreat
namespace Go.Proofs.YtdhfakajlnidiaaGreat
open Go.RowKit

/-! The queue: its methods. -/
theorem meth_of {P : Program} {t : Nat} {m : String} {path : Array FieldStep} {func : Option (FuncId × Bool)} (h : ((P.info? t).bind fun i => (i.methods.find? (fun x => x.name == m)).map fun r => (r.path, r.func)) = some (path, func)) :
    ∃ i r, P.info? t = some i ∧ i.methods.find? (fun x => x.name == m) = some r ∧ r.path = path ∧ r.func = func := by
  cases h1 : P.info? t with
  | none => rw [h1] at h; cases h
  | some i =>
    rw [h1] at h
    simp only [Option.bind_some, Option.map_eq_some_iff, Prod.mk.injEq] at h
    obtain ⟨r, h2, h3, h4⟩ := h
    exact ⟨i, r, rfl, h2, h3, h4⟩
theorem inv_push {d : D} {args : List D} {H : List Bk} {K : D → List Bk → Prop} (h : CallP Tryz.prog 131 (d :: args) H K) : InvP Tryz.prog 88 d "Push" args H K := by
  obtain ⟨i, r, h1, h2, h3, h4⟩ := meth_of (P := Tryz.prog) (t := 88) (m := "Push") (path := #[]) (func := some (131, true)) (by kernel_rfl)
  exact InvP.direct h1 h2 h3 h4 Tryz.underlying88 h
theorem inv_pop {d : D} {args : List D} {H : List Bk} {K : D → List Bk → Prop} (h : CallP Tryz.prog 130 (d :: args) H K) : InvP Tryz.prog 88 d "Pop" args H K := by
  obtain ⟨i, r, h1, h2, h3, h4⟩ := meth_of (P := Tryz.prog) (t := 88) (m := "Pop") (path := #[]) (func := some (130, true)) (by kernel_rfl)
  exact InvP.direct h1 h2 h3 h4 Tryz.underlying88 h
theorem inv_prom {m : String} {f : Nat} (hm : ((Tryz.prog.info? 88).bind fun i => (i.methods.find? (fun x => x.name == m)).map fun r => (r.path, r.func)) = some (#[⟨91, 0, true⟩], some (f, false))) {b : Nat} {x : D} {l : List D} {args : List D} {H : List Bk} {K : D → List Bk → Prop}
    (hb : H[b]? = some (.cells (x :: l))) (h : CallP Tryz.prog f (x :: args) H K) : InvP Tryz.prog 88 (.ptr b 1 0) m args H K := by
  obtain ⟨i, r, h1, h2, h3, h4⟩ := meth_of hm
  have hu : ∃ fs fd, Tryz.prog.underlying 91 = some (.struct fs) ∧ fs[0]? = some fd ∧ fd.type = 89 ∧ fd.offset = 0 := by
    have := Tryz.underlying91
    exact ⟨_, _, this, rfl, rfl, rfl⟩
  obtain ⟨fs, fd, g1, g2, g3, g4⟩ := hu
  exact InvP.field (ft := 89) T_ok h1 h2 h3 h4 g1 g2 g3 g4 (show T.get 89 = some ⟨.slice 3, 1, 24, .slice none 0 0⟩ from rfl) rfl (by decide) (by simp) ⟨_, Tryz.underlying89⟩ hb h
theorem inv_len {b : Nat} {x : D} {l : List D} {args : List D} {H : List Bk} {K : D → List Bk → Prop} (hb : H[b]? = some (.cells (x :: l))) (h : CallP Tryz.prog 32 (x :: args) H K) : InvP Tryz.prog 88 (.ptr b 1 0) "Len" args H K := inv_prom (by kernel_rfl) hb h
theorem inv_less {b : Nat} {x : D} {l : List D} {args : List D} {H : List Bk} {K : D → List Bk → Prop} (hb : H[b]? = some (.cells (x :: l))) (h : CallP Tryz.prog 129 (x :: args) H K) : InvP Tryz.prog 88 (.ptr b 1 0) "Less" args H K := inv_prom (by kernel_rfl) hb h
theorem inv_swap {b : Nat} {x : D} {l : List D} {args : List D} {H : List Bk} {K : D → List Bk → Prop} (hb : H[b]? = some (.cells (x :: l))) (h : CallP Tryz.prog 133 (x :: args) H K) : InvP Tryz.prog 88 (.ptr b 1 0) "Swap" args H K := inv_prom (by kernel_rfl) hb h
/-- the queue's blocks: what it points at, and its row -/
abbrev QH (nb : Bool) (ver : Nat) (L : List Int) (n : Nat) : List Bk := [.cells [.osl 1 1 ver (.var nb) (.lit 0) (.nat n)], .row 3 1 ver (.map intC L)]
set_option maxRecDepth 100000 in
set_option maxHeartbeats 4000000 in
theorem Len_call (nb : Bool) (ver : Nat) (L : List Int) (n : Nat) {K : D → List Bk → Prop} (hK : K (.int .i64 (.nat n)) (QH nb ver L n)) : CallP Tryz.prog 32 [.osl 1 1 ver (.var nb) (.lit 0) (.nat n)] (QH nb ver L n) K := by
  generalize hP : Tryz.prog = P
  have hT : T.ok P := hP ▸ T_ok
  have hm : P.follows .mixedOrders = true := hP ▸ follows
  refine (CallP.inl hT hm (hP ▸ Tryz.func32) rfl (by kernel_rfl) (rs := [.tmp 2]) rfl (by kernel_rfl) ?_)
  unfold Tryz.f32
  dsimp only
  cbv
  exact hK
set_option maxRecDepth 100000 in
set_option maxHeartbeats 4000000 in
theorem Less_call (nb : Bool) (ver : Nat) (L : List Int) (n i j : Nat) (hi : i < n) (hj : j < n) (hn : n ≤ L.length) {K : D → List Bk → Prop} (x y : Int) (hx : L[i]? = some x) (hy : L[j]? = some y) (hK : K (.bool (.cmp .lss (.var x) (.var y))) (QH nb ver L n)) :
    CallP Tryz.prog 129 [.osl 1 1 ver (.var nb) (.lit 0) (.nat n), .int .i64 (.nat i), .int .i64 (.nat j)] (QH nb ver L n) K := by
  generalize hP : Tryz.prog = P
  have hT : T.ok P := hP ▸ T_ok
  have hm : P.follows .mixedOrders = true := hP ▸ follows
  refine (CallP.inl hT hm (hP ▸ Tryz.func129) rfl (by kernel_rfl) (rs := [.tmp 6]) rfl (by kernel_rfl) ?_)
  unfold Tryz.f129
  dsimp only
  cbv
  refine ReqP.mk ⟨by show (0 : Int) ≤ (i : Int); omega, by show (i : Int) < (n : Int); omega⟩ (fun _ => ?_)
  refine ElemP.mk (by show (0 : Int) ≤ (i : Int) ∧ (i : Int) < (L.length : Int); omega) (fun x' hx' => ?_)
  obtain rfl : x' = x := by have h : L[i]? = some x' := hx'; rw [hx] at h; exact (Option.some.inj h).symm
  cbv
  refine ReqP.mk ⟨by show (0 : Int) ≤ (j : Int); omega, by show (j : Int) < (n : Int); omega⟩ (fun _ => ?_)
  refine ElemP.mk (by show (0 : Int) ≤ (j : Int) ∧ (j : Int) < (L.length : Int); omega) (fun y' hy' => ?_)
  obtain rfl : y' = y := by have h : L[j]? = some y' := hy'; rw [hy] at h; exact (Option.some.inj h).symm
  cbv
  exact hK
theorem upd_den {r : RE} {l : List Int} (hr : r.den = l.map intC) {i : IE} {k : Nat} (hk : i.den.toNat = k) (v : Int) : (RE.upd r i 0 (intC v)).den = (l.set k v).map intC := by
  simp only [RE.den, hr, hk]
  refine List.ext_getElem? fun j => ?_
  rw [List.getElem?_modify, List.getElem?_map, List.getElem?_map, List.getElem?_set]
  by_cases q : k = j
  · subst q
    cases hx : l[k]? with
    | none =>
      have := List.getElem?_eq_none_iff.1 hx
      simp [show ¬ k < l.length by omega]
    | some x =>
      have hlt := (List.getElem?_eq_some_iff.1 hx).1
      simp [hlt, over]
  · simp [q]
set_option maxRecDepth 100000 in
set_option maxHeartbeats 4000000 in
theorem Swap_call (nb : Bool) (ver : Nat) (L : List Int) (n i j : Nat) (hi : i < n) (hj : j < n) (hn : n ≤ L.length) {K : D → List Bk → Prop} (x y : Int) (hx : L[i]? = some x) (hy : L[j]? = some y) (hK : K (.tup []) (QH nb ver ((L.set i y).set j x) n)) :
    CallP Tryz.prog 133 [.osl 1 1 ver (.var nb) (.lit 0) (.nat n), .int .i64 (.nat i), .int .i64 (.nat j)] (QH nb ver L n) K := by
  refine CallP.post ?_
  generalize hP : Tryz.prog = P
  have hT : T.ok P := hP ▸ T_ok
  have hm : P.follows .mixedOrders = true := hP ▸ follows
  refine (CallP.inl hT hm (hP ▸ Tryz.func133) rfl (by kernel_rfl) (rs := []) rfl (by kernel_rfl) ?_)
  unfold Tryz.f133
  dsimp only
  cbv
  refine FootP.intro2 hT hm [(6, [1]), (7, [1]), (10, [1]), (11, [1]), (12, [1]), (13, [1]), (14, [1]), (15, [1])] (by kernel_rfl) ?_
  cbv
  refine ReqP.mk ⟨by show (0 : Int) ≤ (j : Int); omega, by show (j : Int) < (n : Int); omega⟩ (fun _ => ?_)
  refine ElemP.mk (by show (0 : Int) ≤ (j : Int) ∧ (j : Int) < (L.length : Int); omega) (fun y' hy' => ?_)
  obtain rfl : y' = y := by have h : L[j]? = some y' := hy'; rw [hy] at h; exact (Option.some.inj h).symm
  cbv
  refine ReqP.mk ⟨by show (0 : Int) ≤ (i : Int); omega, by show (i : Int) < (n : Int); omega⟩ (fun _ => ?_)
  refine ElemP.mk (by show (0 : Int) ≤ (i : Int) ∧ (i : Int) < (L.length : Int); omega) (fun x' hx' => ?_)
  obtain rfl : x' = x := by have h : L[i]? = some x' := hx'; rw [hx] at h; exact (Option.some.inj h).symm
  cbv
  refine ReqP.mk ⟨by show (0 : Int) ≤ (i : Int); omega, by show (i : Int) < (n : Int); omega⟩ (fun _ => ?_)
  refine ReqP.mk (by show i < _; simp [RE.den]; omega) (fun _ => ?_)
  refine ReqP.mk ⟨by show (0 : Int) ≤ (j : Int); omega, by show (j : Int) < (n : Int); omega⟩ (fun _ => ?_)
  refine ReqP.mk (by show j < _; simp [RE.den]; omega) (fun _ => ?_)
  refine ⟨_, [.cells [.osl 1 1 ver (.var nb) (.lit 0) (.nat n)], .row 3 1 ver (.map intC ((L.set i y').set j x'))], .eq (.refl _), ⟨.refl _, .row ?_, trivial⟩, Nat.le_refl _, rfl, hK⟩
  exact upd_den (upd_den rfl rfl _) rfl _
end Go.Proofs.YtdhfakajlnidiaaGreat
