/- Part 12 of the walks and laws that these claims rest on. No condition. -/
import Derived.Test.YtdhfakajlnidiaaGreatPart11
set_option linter.all false
set_option linter.unusedSimpArgs false
set_option linter.unusedVariables false
set_option linter.unnecessarySimpa false
namespace Go.Proofs.YtdhfakajlnidiaaGreat
open Go.RowKit

/-! The reference of chapter 12: terms, units, comparing, one variable of a rule. -/
set_option maxRecDepth 100000 in
set_option maxHeartbeats 4000000 in
theorem rterm_pure (S : SourceD) (fs : List FromD) (nb : Option BE) (t : TermD) : Pure Tryz.prog 86 [.agg S.c, .slm 8 nb FromD.c fs, .agg t.c] (boolD (rtermB S fs t)) := by
  have hty := fun i j => There_pure S i j
  obtain ⟨r, hr⟩ : ∃ r, r = rtermB S fs t := ⟨_, rfl⟩
  rw [← hr]
  unfold rtermB numTB termTy? at hr
  obtain ⟨TO, hTO⟩ : ∃ f, f = fun i j => (typeOf? S i j).isSome := ⟨_, rfl⟩
  have hTO2 : ∀ i j, (typeOf? S i j).isSome = TO i j := fun i j => by rw [hTO]
  replace hty : ∀ i j, Pure Tryz.prog 48 [.agg S.c, i64 i, i64 j] (boolD (TO i j)) := fun i j => by rw [hTO]; exact hty i j
  obtain ⟨u1, u2, u3, u4, u5⟩ := t
  simp only at hr
  replace hr : r = if u3 = -1 then (decide (0 ≤ u5) && decide (u5 ≤ 1048576)) else if 0 ≤ u3 ∧ u3 < (fs.length : Int) then (match fs[u3.toNat]? with | some f => TO f.schema u4 | none => false) else false := by
    rw [hr]
    by_cases h1 : u3 = -1
    · rw [if_pos h1, if_pos h1]
    rw [if_neg h1, if_neg h1]
    by_cases h2 : 0 ≤ u3 ∧ u3 < (fs.length : Int)
    · rw [if_pos h2, if_pos h2]
      cases hq : fs[u3.toNat]? with
      | none => rfl
      | some f => exact hTO2 _ _
    · rw [if_neg h2, if_neg h2]
      rfl
  clear hTO hTO2
  obtain ⟨ni, is, nu, us, ns, ss, nr, rs, nc, cs, np, ps⟩ := S
  refine Pure.intro (want := [boolD r]) T_ok follows Tryz.func86 rfl (by kernel_rfl) (rs := [.tmp 6]) rfl (by kernel_rfl) ?_
  generalize hP : Tryz.prog = P at *
  have hT : T.ok P := hP ▸ T_ok
  have hm : P.follows .mixedOrders = true := hP ▸ follows
  unfold Tryz.f86
  dsimp only
  cbv
  refine SplitP.mk (fun g => ?_) (fun g => ?_)
  · have g' : (u3 == -1) = true := g
    have g2 : u3 = -1 := by simpa using g'
    rw [if_pos g2] at hr
    clear hty g g'
    ((repeat' (refine SplitP.mk (fun _ => ?_) (fun _ => ?_))); all_goals (try simp only [BE.den, IE.den, cmpDen, Bool.not_eq_true, Bool.not_eq_false, Bool.not_eq_eq_eq_not, Bool.not_true, Bool.not_false, dec_t, dec_f, beq_iff_eq, beq_eq_false_iff_ne, bne_iff_ne, ne_eq, bne_eq_false_iff_eq, ge_iff_le, gt_iff_lt, Int.not_lt, Int.not_le] at *); all_goals (refine .mk (.cons (.eq (.bool ?_)) .nil) rfl; simp only [BE.den, IE.den, cmpDen]; rw [hr, Bool.eq_iff_iff]; simp only [Bool.and_eq_true, Bool.or_eq_true, dec_t, dec_f, beq_iff_eq, bne_iff_ne, ge_iff_le, gt_iff_lt, Bool.false_eq_true, false_iff, true_iff]; first | omega | grind))
  have g' : (u3 == -1) = false := g
  have g2 : u3 ≠ -1 := by simpa using g'
  rw [if_neg g2] at hr
  clear g g'
  refine SplitP.mk (fun g => ?_) (fun g => ?_)
  · have g3 : 0 ≤ u3 := of_decide_eq_true (show decide (u3 ≥ 0) = true from g)
    clear g
    refine SplitP.mk (fun g => ?_) (fun g => ?_)
    · have g4 : u3 < (fs.length : Int) := of_decide_eq_true (show decide (u3 < (fs.length : Int)) = true from g)
      rw [if_pos ⟨g3, g4⟩] at hr
      clear g
      refine ElemP.mk ⟨g3, g4⟩ (fun f hf => ?_)
      replace hf : fs[u3.toNat]? = some f := hf
      rw [hf] at hr
      simp only at hr
      obtain ⟨b, hb⟩ : ∃ b, b = TO f.schema u4 := ⟨_, rfl⟩
      have h1 := hty f.schema u4
      rw [← hb] at h1 hr
      clear hty hb
      obtain ⟨f1, f2, f3, ⟨f4, f5, f6, f7, f8⟩⟩ := f
      cbv
      first
        | refine CallP.pure _ h1 rfl ?_
        | refine PureP.mk _ h1 rfl ?_
      cbv
      refine .mk (.cons (.eq (.bool ?_)) .nil) rfl
      show b = r
      exact hr.symm
    · have g4 : ¬ u3 < (fs.length : Int) := of_decide_eq_false (show decide (u3 < (fs.length : Int)) = false from g)
      rw [if_neg (fun q => g4 q.2)] at hr
      refine .mk (.cons (.eq (.bool ?_)) .nil) rfl
      rw [BE.lit_d, BE.var_d]
      exact hr.symm
  · have g3 : ¬ 0 ≤ u3 := of_decide_eq_false (show decide (u3 ≥ 0) = false from g)
    rw [if_neg (fun q => g3 q.1)] at hr
    refine .mk (.cons (.eq (.bool ?_)) .nil) rfl
    rw [BE.lit_d, BE.var_d]
    exact hr.symm
set_option maxRecDepth 100000 in
set_option maxHeartbeats 4000000 in
theorem runit_pure (S : SourceD) (i : Nat) (u : UnitD) (hi : S.units[i]? = some u) : Pure Tryz.prog 45 [.agg S.c, .int .i64 (.nat i)] (boolD (unitB S.units u)) := by
  obtain ⟨r, hr⟩ : ∃ r, r = unitB S.units u := ⟨_, rfl⟩
  rw [← hr]
  unfold unitB at hr
  obtain ⟨ni, is, nu, us, ns, ss, nr, rs, nc, cs, np, ps⟩ := S
  obtain ⟨u1, u2, u3, u4, u5⟩ := u
  simp only at hr hi
  have hin : i < us.length := (List.getElem?_eq_some_iff.1 hi).1
  refine Pure.intro (want := [boolD r]) T_ok follows Tryz.func45 rfl (by kernel_rfl) (rs := [.tmp 4]) rfl (by kernel_rfl) ?_
  generalize hP : Tryz.prog = P at *
  have hT : T.ok P := hP ▸ T_ok
  have hm : P.follows .mixedOrders = true := hP ▸ follows
  unfold Tryz.f45
  dsimp only
  cbv
  refine ElemP.mk (by show (0 : Int) ≤ (i : Int) ∧ (i : Int) < (us.length : Int); omega) (fun z hz => ?_)
  replace hz : us[i]? = some z := hz
  rw [hi] at hz
  cases hz
  cbv
  refine SplitP.mk (fun h => ?_) (fun h => ?_)
  · have h1 : 1 ≤ u5 := of_decide_eq_true (show decide (u5 ≥ 1) = true from h)
    refine SplitP.mk (fun h => ?_) (fun h => ?_)
    · have h2 : u5 ≤ 1099511627776 := of_decide_eq_true (show decide (u5 ≤ 1099511627776) = true from h)
      refine SplitP.mk (fun h => ?_) (fun h => ?_)
      · have h3 : 0 ≤ u4 := of_decide_eq_true (show decide (u4 ≥ 0) = true from h)
        refine SplitP.mk (fun h => ?_) (fun h => ?_)
        · have h4 : u4 < (us.length : Int) := of_decide_eq_true (show decide (u4 < (us.length : Int)) = true from h)
          (repeat (refine OpsP.go hT ?_; cbv))
          refine ElemP.mk ⟨h3, h4⟩ (fun v hv => ?_)
          replace hv : us[u4.toNat]? = some v := hv
          rw [hv, decide_eq_true h1, decide_eq_true h2, decide_eq_true h3, decide_eq_true h4] at hr
          obtain ⟨v1, v2, v3, v4, v5⟩ := v
          cbv
          (repeat (refine OpsP.go hT ?_; cbv))
          refine .mk (.cons (.eq (.bool ?_)) .nil) rfl
          show (v5 == 1) = r
          rw [hr]
          rfl
        · have h4 : ¬ u4 < (us.length : Int) := of_decide_eq_false (show decide (u4 < (us.length : Int)) = false from h)
          (repeat (refine OpsP.go hT ?_; cbv))
          refine .mk (.cons (.eq (.bool ?_)) .nil) rfl
          show false = r
          rw [hr, decide_eq_false h4]
          simp
      · have h3 : ¬ 0 ≤ u4 := by have := of_decide_eq_false (show decide (u4 ≥ 0) = false from h); exact this
        (repeat (refine OpsP.go hT ?_; cbv))
        refine .mk (.cons (.eq (.bool ?_)) .nil) rfl
        show false = r
        rw [hr, decide_eq_false h3]
        simp
    · have h2 : ¬ u5 ≤ 1099511627776 := of_decide_eq_false (show decide (u5 ≤ 1099511627776) = false from h)
      (repeat (refine OpsP.go hT ?_; cbv))
      refine .mk (.cons (.eq (.bool ?_)) .nil) rfl
      show false = r
      rw [hr, decide_eq_false h2]
      simp
  · have h1 : ¬ 1 ≤ u5 := by have := of_decide_eq_false (show decide (u5 ≥ 1) = false from h); exact this
    (repeat (refine OpsP.go hT ?_; cbv))
    refine .mk (.cons (.eq (.bool ?_)) .nil) rfl
    show false = r
    rw [hr, decide_eq_false h1]
    rfl
set_option maxRecDepth 100000 in
set_option maxHeartbeats 4000000 in
theorem rcomparable_pure (S : SourceD) (a b : TypeD) (ha : a.kind = 1 → -1 ≤ a.unit ∧ a.unit < (S.units.length : Int)) (hb : b.kind = 1 → -1 ≤ b.unit ∧ b.unit < (S.units.length : Int)) (hl : a.names.length < 9223372036854775807) : Pure Tryz.prog 88 [.agg S.c, .agg a.c, .agg b.c] (boolD (rcmpB S.units a b)) := by
  have hE := sameNames_pure a.names b.names (some (.var a.nnames)) (some (.var b.nnames)) hl
  obtain ⟨r, hr⟩ : ∃ r, r = rcmpB S.units a b := ⟨_, rfl⟩
  rw [← hr]
  unfold rcmpB at hr
  obtain ⟨ni, is, nu, us, ns, ss, nr, rs, nc, cs, np, ps⟩ := S
  obtain ⟨a1, a2, a3, a4, a5, a6, a7⟩ := a
  obtain ⟨b1, b2, b3, b4, b5, b6, b7⟩ := b
  simp only at hr ha hb hE hl
  obtain ⟨eq, heq⟩ : ∃ e, e = decide (a7 = b7) := ⟨_, rfl⟩
  rw [← heq] at hE hr
  clear heq
  refine Pure.intro (want := [boolD r]) T_ok follows Tryz.func88 rfl (by kernel_rfl) (rs := [.tmp 6]) rfl (by kernel_rfl) ?_
  generalize hP : Tryz.prog = P at *
  have hT : T.ok P := hP ▸ T_ok
  have hm : P.follows .mixedOrders = true := hP ▸ follows
  unfold Tryz.f88
  dsimp only
  cbv
  refine SplitP.mk (fun h1 => ?_) (fun h1 => ?_)
  · have h3 : (a1 != b1) = true := h1
    have h4 : a1 ≠ b1 := by simpa using h3
    rw [if_pos h4] at hr
    refine .mk (.cons (.eq (.bool ?_)) .nil) rfl
    rw [BE.lit_d, BE.var_d]
    exact hr.symm
  have h3 : (a1 != b1) = false := h1
  have h4 : ¬ a1 ≠ b1 := by simpa using h3
  rw [if_neg h4] at hr
  replace h4 : a1 = b1 := Classical.not_not.1 h4
  clear h1 h3
  refine SplitP.mk (fun h1 => ?_) (fun h1 => ?_)
  · have h3 : (a1 == 1) = true := h1
    have h5 : a1 = 1 := by simpa using h3
    rw [if_pos h5] at hr
    replace ha := ha h5
    replace hb := hb (h4.symm.trans h5)
    clear h1 h3 hE
    refine ⟨by kernel_rfl, ?_⟩
    cbv
    refine SplitP.mk (fun g => ?_) (fun g => ?_)
    · have g' : (a5 == -1) = true := g
      have g2 : a5 = -1 := by simpa using g'
      rw [if_pos g2] at hr
      refine SplitP.mk (fun q => ?_) (fun q => ?_)
      · have q' : (b5 == -1) = true := q
        have q2 : b5 = -1 := by simpa using q'
        rw [decide_eq_true q2] at hr
        refine .mk (.cons (.eq (.bool ?_)) .nil) rfl
        rw [BE.lit_d, BE.var_d]
        exact hr.symm
      · have q' : (b5 == -1) = false := q
        have q2 : b5 ≠ -1 := by simpa using q'
        rw [decide_eq_false q2] at hr
        refine SplitP.mk (fun q => ?_) (fun q => ?_)
        · have := of_decide_eq_true (show decide (a5 ≥ 0) = true from q)
          omega
        · refine .mk (.cons (.eq (.bool ?_)) .nil) rfl
          rw [BE.lit_d, BE.var_d]
          exact hr.symm
    have g' : (a5 == -1) = false := g
    have g2 : a5 ≠ -1 := by simpa using g'
    rw [if_neg g2] at hr
    clear g g'
    refine SplitP.mk (fun g => ?_) (fun g => ?_)
    · have g3 : 0 ≤ a5 := of_decide_eq_true (show decide (a5 ≥ 0) = true from g)
      clear g
      refine SplitP.mk (fun g => ?_) (fun g => ?_)
      · have g4 : 0 ≤ b5 := of_decide_eq_true (show decide (b5 ≥ 0) = true from g)
        clear g
        rw [decide_eq_true g4, Bool.true_and] at hr
        have ha2 : 0 ≤ a5 ∧ a5 < (us.length : Int) := ⟨g3, ha.2⟩
        have hb2 : 0 ≤ b5 ∧ b5 < (us.length : Int) := ⟨g4, hb.2⟩
        refine ElemP.mk ha2 (fun x hx => ?_)
        replace hx : us[a5.toNat]? = some x := hx
        have ex : baseOf us a5 = x.base := by unfold baseOf; rw [hx]
        obtain ⟨v1, v2, v3, v4, v5⟩ := x
        cbv
        refine ElemP.mk hb2 (fun y hy => ?_)
        replace hy : us[b5.toNat]? = some y := hy
        have ey : baseOf us b5 = y.base := by unfold baseOf; rw [hy]
        obtain ⟨w1, w2, w3, w4, w5⟩ := y
        rw [ex, ey] at hr
        cbv
        refine .mk (.cons (.eq (.bool ?_)) .nil) rfl
        show (v4 == w4) = r
        rw [hr]
        rfl
      · have g4 : ¬ 0 ≤ b5 := of_decide_eq_false (show decide (b5 ≥ 0) = false from g)
        rw [decide_eq_false g4, Bool.false_and] at hr
        refine .mk (.cons (.eq (.bool ?_)) .nil) rfl
        rw [BE.lit_d, BE.var_d]
        exact hr.symm
    · have g3 : ¬ 0 ≤ a5 := of_decide_eq_false (show decide (a5 ≥ 0) = false from g)
      omega
  have h3 : (a1 == 1) = false := h1
  have h5 : a1 ≠ 1 := by simpa using h3
  rw [if_neg h5] at hr
  clear h1 h3
  refine SplitP.mk (fun h1 => ?_) (fun h1 => ?_)
  · have h3 : (a1 != 4) = true := h1
    have h6 : a1 ≠ 4 := by simpa using h3
    rw [if_pos h6] at hr
    refine .mk (.cons (.eq (.bool ?_)) .nil) rfl
    rw [BE.lit_d, BE.var_d]
    exact hr.symm
  have h3 : (a1 != 4) = false := h1
  have h6 : ¬ a1 ≠ 4 := by simpa using h3
  rw [if_neg h6] at hr
  refine CallP.pure _ hE rfl ?_
  cbv
  refine .mk (.cons (.eq (.bool ?_)) .nil) rfl
  show eq = r
  exact hr.symm
end Go.Proofs.YtdhfakajlnidiaaGreat
namespace Go.Proofs.YtdhfakajlnidiaaGreat
open Go.RowKit

/-! The reference of chapter 12: types of fields, schemas. -/
set_option maxRecDepth 100000 in
set_option maxHeartbeats 4000000 in
theorem rType_pure (S : SourceD) (t : TypeD) (hl : t.names.length ≤ 9223372036854775807) : Pure Tryz.prog 69 [.agg S.c, .agg t.c] (boolD (kindB t S.units.length)) := by
  have hd : (BE.cmp .leq (.len t.names) (.lit 16)).den = true → Pure Tryz.prog 84 [.slm 1 (some (.var t.nnames)) strC t.names] (boolD (decide t.names.Nodup)) := fun h => different_pure t.names (some (.var t.nnames)) (by have := of_decide_eq_true (show decide ((t.names.length : Int) ≤ 16) = true from h); omega)
  obtain ⟨r, hr⟩ : ∃ r, r = kindB t S.units.length := ⟨_, rfl⟩
  rw [← hr]
  unfold kindB kind1 kindQ kind4 at hr
  obtain ⟨ni, is, nu, us, ns, ss, nr, rs, nc, cs, np, ps⟩ := S
  obtain ⟨t1, t2, t3, t4, t5, t6, t7⟩ := t
  simp only at hr hd hl
  obtain ⟨df, hdf⟩ : ∃ d, d = decide t7.Nodup := ⟨_, rfl⟩
  rw [← hdf] at hd hr
  clear hdf
  have hsub : binDen .sub .i64 (t7.length : Int) 1 = (t7.length : Int) - 1 := sub64 (by omega) (by omega)
  have HS := Lib.hid hsub
  clear hsub
  refine Pure.intro (want := [boolD r]) T_ok follows Tryz.func69 rfl (by kernel_rfl) (rs := [.tmp 4]) rfl (by kernel_rfl) ?_
  generalize hP : Tryz.prog = P at *
  have hT : T.ok P := hP ▸ T_ok
  have hm : P.follows .mixedOrders = true := hP ▸ follows
  unfold Tryz.f69
  dsimp only
  cbv
  refine SplitP.mk (fun g => ?_) (fun g => ?_)
  · have g' : (t1 == 1) = true := g
    have g2 : t1 = 1 := by simpa using g'
    rw [if_pos g2] at hr
    clear g g' g2 HS hd hl
    repeat' (first | refine SplitP.mk (fun _ => ?_) (fun _ => ?_) | (refine OpsP.go hT ?_; cbv))
    all_goals (try simp only [BE.den, IE.den, cmpDen, Bool.not_eq_true, Bool.not_eq_false, Bool.not_eq_eq_eq_not, Bool.not_true, Bool.not_false, dec_t, dec_f, beq_iff_eq, beq_eq_false_iff_ne, bne_iff_ne, ne_eq, bne_eq_false_iff_eq, ge_iff_le, gt_iff_lt, Int.not_lt, Int.not_le] at *)
    all_goals (refine .mk (.cons (.eq (.bool ?_)) .nil) rfl; simp only [BE.den, IE.den, cmpDen]; rw [hr, Bool.eq_iff_iff]; simp only [Bool.and_eq_true, Bool.or_eq_true, dec_t, dec_f, beq_iff_eq, bne_iff_ne, ge_iff_le, gt_iff_lt, Bool.false_eq_true, false_iff, true_iff]; first | omega | grind)
  have g' : (t1 == 1) = false := g
  have g2 : t1 ≠ 1 := by simpa using g'
  rw [if_neg g2] at hr
  clear g g' g2
  refine SplitP.mk (fun g => ?_) (fun g => ?_)
  · have g' : (t1 == 2) = true := g
    have g2 : t1 = 2 := by simpa using g'
    rw [if_pos g2] at hr
    clear g g' g2 HS hd hl
    repeat' (first | refine SplitP.mk (fun _ => ?_) (fun _ => ?_) | (refine OpsP.go hT ?_; cbv))
    all_goals (try simp only [BE.den, IE.den, cmpDen, Bool.not_eq_true, Bool.not_eq_false, Bool.not_eq_eq_eq_not, Bool.not_true, Bool.not_false, dec_t, dec_f, beq_iff_eq, beq_eq_false_iff_ne, bne_iff_ne, ne_eq, bne_eq_false_iff_eq, ge_iff_le, gt_iff_lt, Int.not_lt, Int.not_le] at *)
    all_goals (refine .mk (.cons (.eq (.bool ?_)) .nil) rfl; simp only [BE.den, IE.den, cmpDen]; rw [hr, Bool.eq_iff_iff]; simp only [Bool.and_eq_true, Bool.or_eq_true, dec_t, dec_f, beq_iff_eq, bne_iff_ne, ge_iff_le, gt_iff_lt, Bool.false_eq_true, false_iff, true_iff]; first | omega | grind)
  have g' : (t1 == 2) = false := g
  have g2 : t1 ≠ 2 := by simpa using g'
  rw [if_neg g2] at hr
  clear g g' g2
  refine SplitP.mk (fun g => ?_) (fun g => ?_)
  · have g' : (t1 == 3) = true := g
    have g2 : t1 = 3 := by simpa using g'
    rw [if_pos g2] at hr
    clear g g' g2 HS hd hl
    repeat' (first | refine SplitP.mk (fun _ => ?_) (fun _ => ?_) | (refine OpsP.go hT ?_; cbv))
    all_goals (try simp only [BE.den, IE.den, cmpDen, Bool.not_eq_true, Bool.not_eq_false, Bool.not_eq_eq_eq_not, Bool.not_true, Bool.not_false, dec_t, dec_f, beq_iff_eq, beq_eq_false_iff_ne, bne_iff_ne, ne_eq, bne_eq_false_iff_eq, ge_iff_le, gt_iff_lt, Int.not_lt, Int.not_le] at *)
    all_goals (refine .mk (.cons (.eq (.bool ?_)) .nil) rfl; simp only [BE.den, IE.den, cmpDen]; rw [hr, Bool.eq_iff_iff]; simp only [Bool.and_eq_true, Bool.or_eq_true, dec_t, dec_f, beq_iff_eq, bne_iff_ne, ge_iff_le, gt_iff_lt, Bool.false_eq_true, false_iff, true_iff]; first | omega | grind)
  have g' : (t1 == 3) = false := g
  have g2 : t1 ≠ 3 := by simpa using g'
  rw [if_neg g2] at hr
  clear g g' g2
  refine SplitP.mk (fun g => ?_) (fun g => ?_)
  · have g' : (t1 == 4) = true := g
    have g2 : t1 = 4 := by simpa using g'
    rw [if_pos g2] at hr
    clear g g' g2
    have hsub : binDen .sub .i64 (t7.length : Int) 1 = (t7.length : Int) - 1 := HS.out
    clear HS
    repeat' (first | refine SplitP.mk (fun _ => ?_) (fun _ => ?_) | (refine CallP.pure _ (hd (by assumption)) rfl ?_; cbv) | (refine OpsP.go hT ?_; cbv))
    all_goals clear hd
    all_goals (try simp only [BE.den, IE.den, cmpDen, Bool.not_eq_true, Bool.not_eq_false, Bool.not_eq_eq_eq_not, Bool.not_true, Bool.not_false, dec_t, dec_f, beq_iff_eq, beq_eq_false_iff_ne, bne_iff_ne, ne_eq, bne_eq_false_iff_eq, ge_iff_le, gt_iff_lt, Int.not_lt, Int.not_le] at *)
    all_goals (try simp only [hsub] at *)
    all_goals (refine .mk (.cons (.eq (.bool ?_)) .nil) rfl; simp only [BE.den, IE.den, cmpDen]; rw [hr, Bool.eq_iff_iff]; simp only [Bool.and_eq_true, Bool.or_eq_true, dec_t, dec_f, beq_iff_eq, bne_iff_ne, ge_iff_le, gt_iff_lt, Bool.false_eq_true, false_iff, true_iff]; first | omega | grind)
  have g' : (t1 == 4) = false := g
  have g2 : t1 ≠ 4 := by simpa using g'
  rw [if_neg g2] at hr
  refine .mk (.cons (.eq (.bool ?_)) .nil) rfl
  rw [BE.lit_d, BE.var_d]
  exact hr.symm
end Go.Proofs.YtdhfakajlnidiaaGreat
namespace Go.Proofs.YtdhfakajlnidiaaGreat
open Go.RowKit

/-! The reference of chapter 12: what a rule sets, its variables. -/
theorem termTy_at {S : SourceD} {fs : List FromD} {t : TermD} {n : Int} {y : TypeD} (h : termTy? S fs t n = some y) : 0 ≤ t.vr ∧ t.vr < n ∧ ∃ f, fs[t.vr.toNat]? = some f ∧ typeOf? S f.schema t.field = some y := by
  unfold termTy? at h
  split at h
  · next h1 =>
    split at h
    · next f hf => exact ⟨h1.1, h1.2, f, hf, h⟩
    · cases h
  · cases h
set_option maxRecDepth 100000 in
set_option maxHeartbeats 4000000 in
theorem rset_pure (S : SourceD) (fs : List FromD) (nb : Option BE) (t : TermD) (fd : TypeD) (hlF : ∀ i j y, typeOf? S i j = some y → y.names.length ≤ 100000) : Pure Tryz.prog 72 [.agg S.c, .slm 8 nb FromD.c fs, .agg t.c, .agg fd.c] (boolD (rsetB S fs fd t)) := by
  have hterm := rterm_pure S fs nb t
  obtain ⟨tb, htb⟩ : ∃ b, b = rtermB S fs t := ⟨_, rfl⟩
  rw [← htb] at hterm
  unfold rtermB at htb
  have hy : tb = true → t.vr ≠ -1 → ∃ f y, (0 ≤ t.vr ∧ t.vr < (fs.length : Int)) ∧ fs[t.vr.toNat]? = some f ∧ rsetB S fs fd t = rinTy fd y ∧ Pure Tryz.prog 85 [.agg S.c, i64 f.schema, i64 t.field] (.agg y.c) ∧ Pure Tryz.prog 89 [.slm 1 (some (.var y.nnames)) strC y.names, .slm 1 (some (.var fd.nnames)) strC fd.names] (boolD (decide (y.names = fd.names))) := fun h1 h2 => by
    rw [if_neg h2, h1] at htb
    cases hq : termTy? S fs t fs.length with
    | none => rw [hq] at htb; cases htb
    | some y =>
      obtain ⟨g1, g2, f, g3, g4⟩ := termTy_at hq
      exact ⟨f, y, ⟨g1, g2⟩, g3, by unfold rsetB; rw [if_neg h2, hq], rtypeOf_pure S _ _ y g4, sameNames_pure _ _ _ _ (by have := hlF _ _ _ g4; omega)⟩
  have hn : tb = false → rsetB S fs fd t = false := fun h => by
    unfold rsetB
    rw [h] at htb
    by_cases h2 : t.vr = -1
    · rw [if_pos h2] at htb ⊢
      rw [← htb, Bool.false_and]
    · rw [if_neg h2] at htb ⊢
      cases hq : termTy? S fs t fs.length with
      | none => rfl
      | some y => rw [hq] at htb; cases htb
  have h0 : tb = true → t.vr = -1 → rsetB S fs fd t = (decide (fd.lo ≤ t.n) && decide (t.n ≤ fd.hi)) := fun h h2 => by
    unfold rsetB
    rw [if_pos h2] at htb ⊢
    rw [← htb, h, Bool.true_and]
  clear htb hlF
  obtain ⟨r, hr⟩ : ∃ r, r = rsetB S fs fd t := ⟨_, rfl⟩
  rw [← hr] at hn h0 hy ⊢
  clear hr
  obtain ⟨ni, is, nu, us, ns, ss, nr, rs, nc, cs, np, ps⟩ := S
  obtain ⟨u1, u2, u3, u4, u5⟩ := t
  obtain ⟨a1, a2, a3, a4, a5, a6, a7⟩ := fd
  simp only at hy h0
  refine Pure.intro (want := [boolD r]) T_ok follows Tryz.func72 rfl (by kernel_rfl) (rs := [.tmp 8]) rfl (by kernel_rfl) ?_
  generalize hP : Tryz.prog = P at *
  have hT : T.ok P := hP ▸ T_ok
  have hm : P.follows .mixedOrders = true := hP ▸ follows
  unfold Tryz.f72
  dsimp only
  cbv
  refine CallP.pure _ hterm rfl ?_
  clear hterm
  cbv
  refine SplitP.mk (fun g => ?_) (fun g => ?_)
  · have g' : (!tb) = true := g
    have g2 : tb = false := by simpa using g'
    refine .mk (.cons (.eq (.bool ?_)) .nil) rfl
    rw [BE.lit_d, BE.var_d]
    exact (hn g2).symm
  have g' : (!tb) = false := g
  have g2 : tb = true := by simpa using g'
  replace hy := hy g2
  replace h0 := h0 g2
  clear g g' g2 hn
  refine SplitP.mk (fun g => ?_) (fun g => ?_)
  · have g' : (u3 == -1) = true := g
    have g2 : u3 = -1 := by simpa using g'
    have hr := h0 g2
    clear hy h0 g g'
    ((repeat' (refine SplitP.mk (fun _ => ?_) (fun _ => ?_))); all_goals (try simp only [BE.den, IE.den, cmpDen, Bool.not_eq_true, Bool.not_eq_false, Bool.not_eq_eq_eq_not, Bool.not_true, Bool.not_false, dec_t, dec_f, beq_iff_eq, beq_eq_false_iff_ne, bne_iff_ne, ne_eq, bne_eq_false_iff_eq, ge_iff_le, gt_iff_lt, Int.not_lt, Int.not_le] at *); all_goals (refine .mk (.cons (.eq (.bool ?_)) .nil) rfl; simp only [BE.den, IE.den, cmpDen]; rw [hr, Bool.eq_iff_iff]; simp only [Bool.and_eq_true, Bool.or_eq_true, dec_t, dec_f, beq_iff_eq, bne_iff_ne, ge_iff_le, gt_iff_lt, Bool.false_eq_true, false_iff, true_iff]; first | omega | grind))
  have g' : (u3 == -1) = false := g
  have g2 : u3 ≠ -1 := by simpa using g'
  obtain ⟨f, y, hb, hf, hr, h1, hE⟩ := hy g2
  clear h0 hy g g'
  obtain ⟨f1, f2, f3, ⟨f4, f5, f6, f7, f8⟩⟩ := f
  obtain ⟨b1, b2, b3, b4, b5, b6, b7⟩ := y
  simp only [rinTy] at hr hE
  obtain ⟨eq, heq⟩ : ∃ e, e = decide (b7 = a7) := ⟨_, rfl⟩
  rw [← heq] at hE hr
  clear heq
  refine ElemP.mk hb (fun z hz => ?_)
  replace hz : fs[u3.toNat]? = some z := hz
  rw [hf] at hz
  cases hz
  cbv
  first
    | refine CallP.pure _ h1 rfl ?_
    | refine PureP.mk _ h1 rfl ?_
  clear h1
  cbv
  repeat' (first | refine SplitP.mk (fun _ => ?_) (fun _ => ?_) | (refine CallP.pure _ hE rfl ?_; cbv) | (refine OpsP.go hT ?_; cbv))
  all_goals clear hE hf hb
  all_goals (try simp only [BE.den, IE.den, cmpDen, Bool.not_eq_true, Bool.not_eq_false, Bool.not_eq_eq_eq_not, Bool.not_true, Bool.not_false, dec_t, dec_f, beq_iff_eq, beq_eq_false_iff_ne, bne_iff_ne, ne_eq, bne_eq_false_iff_eq, ge_iff_le, gt_iff_lt, Int.not_lt, Int.not_le] at *)
  all_goals (refine .mk (.cons (.eq (.bool ?_)) .nil) rfl; simp only [BE.den, IE.den, cmpDen]; rw [hr, Bool.eq_iff_iff]; simp only [Bool.and_eq_true, Bool.or_eq_true, dec_t, dec_f, beq_iff_eq, bne_iff_ne, ge_iff_le, gt_iff_lt, Bool.false_eq_true, false_iff, true_iff]; first | omega | grind)
set_option maxRecDepth 100000 in
set_option maxHeartbeats 4000000 in
theorem rfrom_pure (S : SourceD) (fs : List FromD) (nb : Option BE) (k : Nat) (hk : k < fs.length) : Pure Tryz.prog 70 [.agg S.c, .slm 8 nb FromD.c fs, .int .i64 (.nat k)] (boolD (fromB S fs k)) := by
  obtain ⟨f, hf⟩ : ∃ f, fs[k]? = some f := ⟨_, List.getElem?_eq_getElem hk⟩
  have hth := fun i j => There_pure S i j
  obtain ⟨r, hr⟩ : ∃ r, r = fromB S fs k := ⟨_, rfl⟩
  rw [← hr]
  unfold fromB schIn termTy? at hr
  rw [hf] at hr
  simp only at hr
  have hT2 := fun i j t h => rtypeOf_pure S i j t h
  obtain ⟨TO, hTO⟩ : ∃ f, f = typeOf? S := ⟨_, rfl⟩
  rw [← hTO] at hth hT2 hr
  clear hTO
  obtain ⟨ni, is, nu, us, ns, ss, nr, rs, nc, cs, np, ps⟩ := S
  obtain ⟨f1, f2, f3, ⟨f4, f5, f6, f7, f8⟩⟩ := f
  simp only at hr
  refine Pure.intro (want := [boolD r]) T_ok follows Tryz.func70 rfl (by kernel_rfl) (rs := [.tmp 6]) rfl (by kernel_rfl) ?_
  generalize hP : Tryz.prog = P at *
  have hT : T.ok P := hP ▸ T_ok
  have hm : P.follows .mixedOrders = true := hP ▸ follows
  unfold Tryz.f70
  dsimp only
  cbv
  refine ElemP.mk (by show (0 : Int) ≤ (k : Int) ∧ (k : Int) < (fs.length : Int); omega) (fun z hz => ?_)
  replace hz : fs[k]? = some z := hz
  rw [hf] at hz
  cases hz
  cbv
  refine SplitP.mk (fun g => ?_) (fun g => ?_)
  · have g' : ¬ 0 ≤ f3 := by have h := of_decide_eq_true (show decide (f3 < 0) = true from g); omega
    rw [decide_eq_false g', Bool.false_and, Bool.false_and] at hr
    refine .mk (.cons (.eq (.bool ?_)) .nil) rfl
    rw [BE.lit_d, BE.var_d]
    exact hr.symm
  have g3 : 0 ≤ f3 := by have h := of_decide_eq_false (show decide (f3 < 0) = false from g); omega
  rw [decide_eq_true g3, Bool.true_and] at hr
  clear g
  refine SplitP.mk (fun g => ?_) (fun g => ?_)
  · have g' : ¬ f3 < (ss.length : Int) := by have h := of_decide_eq_true (show decide (f3 ≥ (ss.length : Int)) = true from g); omega
    rw [decide_eq_false g', Bool.false_and] at hr
    refine .mk (.cons (.eq (.bool ?_)) .nil) rfl
    rw [BE.lit_d, BE.var_d]
    exact hr.symm
  have g4 : f3 < (ss.length : Int) := by have h := of_decide_eq_false (show decide (f3 ≥ (ss.length : Int)) = false from g); omega
  rw [decide_eq_true g4, Bool.true_and] at hr
  clear g
  refine SplitP.mk (fun g => ?_) (fun g => ?_)
  · have g' : (f6 == -1) = true := g
    have g2 : f6 = -1 := by simpa using g'
    rw [decide_eq_true g2, Bool.true_or] at hr
    refine .mk (.cons (.eq (.bool ?_)) .nil) rfl
    rw [BE.lit_d, BE.var_d]
    exact hr.symm
  have g' : (f6 == -1) = false := g
  have g2 : f6 ≠ -1 := by simpa using g'
  rw [decide_eq_false g2, Bool.false_or] at hr
  clear g g'
  refine ⟨by kernel_rfl, ?_⟩
  cbv
  refine SplitP.mk (fun g => ?_) (fun g => ?_)
  · have q1 : 0 ≤ f6 := of_decide_eq_true (show decide (f6 ≥ 0) = true from g)
    clear g
    refine SplitP.mk (fun g => ?_) (fun g => ?_)
    · have q2 : f6 < (k : Int) := of_decide_eq_true (show decide (f6 < (k : Int)) = true from g)
      rw [if_pos ⟨q1, q2⟩] at hr
      clear g
      have hin : 0 ≤ f6 ∧ f6 < (fs.length : Int) := by omega
      refine ElemP.mk hin (fun z hz => ?_)
      replace hz : fs[f6.toNat]? = some z := hz
      rw [hz] at hr
      simp only at hr
      have h1 := hth z.schema f7
      cases hq : TO z.schema f7 with
      | none =>
        rw [hq] at hr h1
        clear hth hT2 hq
        obtain ⟨w1, w2, w3, ⟨w4, w5, w6, w7, w8⟩⟩ := z
        cbv
        first
          | refine PureP.mk _ h1 rfl ?_
          | refine CallP.pure _ h1 rfl ?_
        cbv
        refine SplitP.mk (fun h => absurd (show false = true from h) (by decide)) (fun _ => ?_)
        refine .mk (.cons (.eq (.bool ?_)) .nil) rfl
        rw [BE.lit_d, BE.var_d]
        exact hr.symm
      | some y =>
        have h2 := hT2 z.schema f7 y hq
        rw [hq] at hr h1
        clear hth hT2 hq
        obtain ⟨w1, w2, w3, ⟨w4, w5, w6, w7, w8⟩⟩ := z
        obtain ⟨t1, t2, t3, t4, t5, t6, t7⟩ := y
        simp only at hr
        cbv
        first
          | refine PureP.mk _ h1 rfl ?_
          | refine CallP.pure _ h1 rfl ?_
        clear h1
        cbv
        refine SplitP.mk (fun _ => ?_) (fun h => absurd (show true = false from h) (by decide))
        refine ElemP.mk hin (fun zz hzz => ?_)
        replace hzz : fs[f6.toNat]? = some zz := hzz
        rw [hz] at hzz
        cases hzz
        cbv
        first
          | refine PureP.mk _ h2 rfl ?_
          | refine CallP.pure _ h2 rfl ?_
        cbv
        refine .mk (.cons (.eq (.bool ?_)) .nil) rfl
        show (t1 == 3) = r
        rw [hr]
        rfl
    · have q2 : ¬ f6 < (k : Int) := of_decide_eq_false (show decide (f6 < (k : Int)) = false from g)
      rw [if_neg (fun q => q2 q.2)] at hr
      refine .mk (.cons (.eq (.bool ?_)) .nil) rfl
      rw [BE.lit_d, BE.var_d]
      exact hr.symm
  · have q1 : ¬ 0 ≤ f6 := of_decide_eq_false (show decide (f6 ≥ 0) = false from g)
    rw [if_neg (fun q => q1 q.1)] at hr
    refine .mk (.cons (.eq (.bool ?_)) .nil) rfl
    rw [BE.lit_d, BE.var_d]
    exact hr.symm
end Go.Proofs.YtdhfakajlnidiaaGreat
namespace Go.Proofs.YtdhfakajlnidiaaGreat
open Go.RowKit

/-! The reference of chapter 12: conditions of a rule. -/
theorem DrawP.front {P : Program} {cx : Cx} {ops : Array Oper} {fr : Fr} {H : List Bk} {K : Fr → List Bk → Prop} (n : Nat) (hok : drawOK ops = true) (hn : frontLenA ops = n)
    (h : vopsq P cx ops (ops.toList.take n) fr H fun fr H => vops P cx ops (ops.toList.drop n) fr H K) :
    DrawP ops fun _ => vopsq P cx ops (ops.toList.take (frontLenA ops)) fr H fun fr H => vops P cx ops (ops.toList.drop (frontLenA ops)) fr H K := ⟨hok, by rw [hn]; exact h⟩
theorem DrawP.frontz {P : Program} {cx : Cx} {ops : Array Oper} {fr : Fr} {H : List Bk} {K : Fr → List Bk → Prop} (n z : Nat) (_hz : ops.size = z) (hok : drawOK ops = true) (hn : frontLenA ops = n)
    (h : vopsq P cx ops (ops.toList.take n) fr H fun fr H => vops P cx ops (ops.toList.drop n) fr H K) :
    DrawP ops fun _ => vopsq P cx ops (ops.toList.take (frontLenA ops)) fr H fun fr H => vops P cx ops (ops.toList.drop (frontLenA ops)) fr H K := DrawP.front n hok hn h
def ratomV (op : Int) (ra rb A B cm oa ob : Bool) : Bool :=
  (decide (1 ≤ op) && decide (op ≤ 4)) && ((ra && rb) && ((match A, B with | true, true => false | false, false => cm | _, _ => true) && ((A || (!(decide (op = 2) || decide (op = 3)) || oa)) && (B || (!(decide (op = 2) || decide (op = 3)) || ob)))))
theorem rterm_ex {S : SourceD} (hG : Good S) (fs : List FromD) (t : TermD) : (t.vr = -1 ∧ termTy? S fs t fs.length = none) ∨ (t.vr ≠ -1 ∧ rtermB S fs t = false ∧ termTy? S fs t fs.length = none) ∨ (t.vr ≠ -1 ∧ rtermB S fs t = true ∧ ∃ f y, (0 ≤ t.vr ∧ t.vr < (fs.length : Int)) ∧ fs[t.vr.toNat]? = some f ∧ termTy? S fs t fs.length = some y ∧ kindB y S.units.length = true ∧ Pure Tryz.prog 85 [.agg S.c, i64 f.schema, i64 t.field] (.agg y.c) ∧ Pure Tryz.prog 87 [.agg y.c] (boolD (ordB y))) := by
  by_cases h : t.vr = -1
  · refine .inl ⟨h, ?_⟩
    unfold termTy?
    rw [if_neg (by omega)]
  · cases hq : termTy? S fs t fs.length with
    | none => exact .inr (.inl ⟨h, by unfold rtermB; rw [if_neg h, hq]; rfl, rfl⟩)
    | some y =>
      obtain ⟨g1, g2, f, g3, g4⟩ := termTy_at hq
      exact .inr (.inr ⟨h, by unfold rtermB; rw [if_neg h, hq]; rfl, f, y, ⟨g1, g2⟩, g3, rfl, hG _ _ _ g4, rtypeOf_pure S _ _ y g4, ordered_pure y⟩)
set_option maxRecDepth 100000 in
set_option maxHeartbeats 4000000 in
theorem ratomNN_pure (S : SourceD) (fs : List FromD) (nb : Option BE) (m : AtomD) (ra rb : Bool) (hA : m.a.vr = -1) (hB : m.b.vr = -1) (hta : Pure Tryz.prog 86 [.agg S.c, .slm 8 nb FromD.c fs, .agg m.a.c] (boolD ra)) (htb : Pure Tryz.prog 86 [.agg S.c, .slm 8 nb FromD.c fs, .agg m.b.c] (boolD rb)) : Pure Tryz.prog 71 [.agg S.c, .slm 8 nb FromD.c fs, .agg m.c] (boolD false) := by
  obtain ⟨op, ⟨u1, u2, u3, u4, u5⟩, ⟨v1, v2, v3, v4, v5⟩⟩ := m
  simp only at hA hB
  obtain ⟨ni, is, nu, us, ns, ss, nr, rs, nc, cs, np, ps⟩ := S
  refine Pure.intro (want := [boolD false]) T_ok follows Tryz.func71 rfl (by kernel_rfl) (rs := [.tmp 6]) rfl (by kernel_rfl) ?_
  generalize hP : Tryz.prog = P at *
  have hT : T.ok P := hP ▸ T_ok
  have hm : P.follows .mixedOrders = true := hP ▸ follows
  unfold Tryz.f71
  dsimp only
  cbv
  repeat' (first | refine SplitP.mk (fun _ => ?_) (fun h => absurd (show true = false from h) (by decide)) | refine SplitP.mk (fun h => absurd (show false = true from h) (by decide)) (fun _ => ?_) | refine SplitP.mk (fun _ => ?_) (fun h => absurd hA (ne_of_beq_false (show (u3 == -1) = false from h))) | refine SplitP.mk (fun _ => ?_) (fun h => absurd hB (ne_of_beq_false (show (v3 == -1) = false from h))) | refine SplitP.mk (fun _ => ?_) (fun _ => ?_) | (refine CallP.pure _ hta rfl ?_; cbv) | (refine CallP.pure _ htb rfl ?_; cbv) | (refine OpsP.go hT ?_; cbv))
  all_goals (refine .mk (.cons (.eq (.bool ?_)) .nil) rfl; rfl)
set_option maxRecDepth 100000 in
set_option maxHeartbeats 4000000 in
theorem ratomF_pure (S : SourceD) (fs : List FromD) (nb : Option BE) (m : AtomD) (ra rb : Bool) (hF : (ra && rb) = false) (hta : Pure Tryz.prog 86 [.agg S.c, .slm 8 nb FromD.c fs, .agg m.a.c] (boolD ra)) (htb : Pure Tryz.prog 86 [.agg S.c, .slm 8 nb FromD.c fs, .agg m.b.c] (boolD rb)) : Pure Tryz.prog 71 [.agg S.c, .slm 8 nb FromD.c fs, .agg m.c] (boolD false) := by
  obtain ⟨op, ⟨u1, u2, u3, u4, u5⟩, ⟨v1, v2, v3, v4, v5⟩⟩ := m
  obtain ⟨ni, is, nu, us, ns, ss, nr, rs, nc, cs, np, ps⟩ := S
  refine Pure.intro (want := [boolD false]) T_ok follows Tryz.func71 rfl (by kernel_rfl) (rs := [.tmp 6]) rfl (by kernel_rfl) ?_
  generalize hP : Tryz.prog = P at *
  have hT : T.ok P := hP ▸ T_ok
  have hm : P.follows .mixedOrders = true := hP ▸ follows
  unfold Tryz.f71
  dsimp only
  cbv
  cases ra with
  | false =>
    repeat' (first | refine SplitP.mk (fun _ => ?_) (fun h => absurd (show true = false from h) (by decide)) | refine SplitP.mk (fun h => absurd (show false = true from h) (by decide)) (fun _ => ?_) | refine SplitP.mk (fun _ => ?_) (fun _ => ?_) | (refine CallP.pure _ hta rfl ?_; cbv) | (refine CallP.pure _ htb rfl ?_; cbv) | (refine OpsP.go hT ?_; cbv))
    all_goals (refine .mk (.cons (.eq (.bool ?_)) .nil) rfl; rfl)
  | true =>
    obtain rfl : rb = false := hF
    repeat' (first | refine SplitP.mk (fun _ => ?_) (fun h => absurd (show true = false from h) (by decide)) | refine SplitP.mk (fun h => absurd (show false = true from h) (by decide)) (fun _ => ?_) | refine SplitP.mk (fun _ => ?_) (fun _ => ?_) | (refine CallP.pure _ hta rfl ?_; cbv) | (refine CallP.pure _ htb rfl ?_; cbv) | (refine OpsP.go hT ?_; cbv))
    all_goals (refine .mk (.cons (.eq (.bool ?_)) .nil) rfl; rfl)
set_option maxRecDepth 100000 in
set_option maxHeartbeats 4000000 in
theorem ratomS1_pure (S : SourceD) (fs : List FromD) (nb : Option BE) (m : AtomD) (f : FromD) (y : TypeD) (oa : Bool) (hA : m.a.vr ≠ -1) (hB : m.b.vr = -1) (har : 0 ≤ m.a.vr ∧ m.a.vr < (fs.length : Int)) (haf : fs[m.a.vr.toNat]? = some f) (ha1 : Pure Tryz.prog 85 [.agg S.c, i64 f.schema, i64 m.a.field] (.agg y.c)) (ha2 : Pure Tryz.prog 87 [.agg y.c] (boolD oa)) (hta : Pure Tryz.prog 86 [.agg S.c, .slm 8 nb FromD.c fs, .agg m.a.c] (boolD true)) (htb : Pure Tryz.prog 86 [.agg S.c, .slm 8 nb FromD.c fs, .agg m.b.c] (boolD true)) : Pure Tryz.prog 71 [.agg S.c, .slm 8 nb FromD.c fs, .agg m.c] (boolD (ratomV m.op true true false true false oa false)) := by
  obtain ⟨op, ⟨u1, u2, u3, u4, u5⟩, ⟨v1, v2, v3, v4, v5⟩⟩ := m
  simp only at hA hB har haf
  subst hB
  obtain ⟨r, hr⟩ : ∃ r, r = ratomV op true true false true false oa false := ⟨_, rfl⟩
  show Pure Tryz.prog 71 _ (boolD (ratomV op true true false true false oa false))
  rw [← hr]
  unfold ratomV at hr
  obtain ⟨ni, is, nu, us, ns, ss, nr, rs, nc, cs, np, ps⟩ := S
  obtain ⟨f1, f2, f3, ⟨f4, f5, f6, f7, f8⟩⟩ := f
  obtain ⟨t1, t2, t3, t4, t5, t6, t7⟩ := y
  refine Pure.intro (want := [boolD r]) T_ok follows Tryz.func71 rfl (by kernel_rfl) (rs := [.tmp 6]) rfl (by kernel_rfl) ?_
  generalize hP : Tryz.prog = P at *
  have hT : T.ok P := hP ▸ T_ok
  have hm : P.follows .mixedOrders = true := hP ▸ follows
  unfold Tryz.f71
  dsimp only
  cbv
  repeat' (first | refine SplitP.mk (fun _ => ?_) (fun h => absurd (show true = false from h) (by decide)) | refine SplitP.mk (fun h => absurd (show false = true from h) (by decide)) (fun _ => ?_) | refine SplitP.mk (fun h => absurd (eq_of_beq (show (u3 == -1) = true from h)) hA) (fun _ => ?_) | refine SplitP.mk (fun _ => ?_) (fun h => absurd (of_decide_eq_false (show decide (u3 ≥ 0) = false from h)) (fun q => q har.1)) | refine SplitP.mk (fun _ => ?_) (fun _ => ?_) | (refine CallP.pure _ hta rfl ?_; cbv) | (refine CallP.pure _ htb rfl ?_; cbv) | (refine OpsP.go hT ?_; cbv) | (refine ElemP.mk har (fun zz hzz => ?_); replace hzz : fs[u3.toNat]? = some zz := hzz; rw [haf] at hzz; cases hzz; cbv) | (refine PureP.mk _ ha1 rfl ?_; cbv) | (refine CallP.pure _ ha1 rfl ?_; cbv) | (refine PureP.mk _ ha2 rfl ?_; cbv) | (refine CallP.pure _ ha2 rfl ?_; cbv) | (refine DrawP.frontz 43 48 rfl ?_ ?_ ?_; kernel_rfl; kernel_rfl; cbv) | (refine DrawP.frontz 36 39 rfl ?_ ?_ ?_; kernel_rfl; kernel_rfl; cbv))
  all_goals clear hta htb ha1 ha2
  all_goals (try simp only [BE.den, IE.den, cmpDen, Bool.not_eq_true, Bool.not_eq_false, Bool.not_eq_eq_eq_not, Bool.not_true, Bool.not_false, dec_t, dec_f, beq_iff_eq, beq_eq_false_iff_ne, bne_iff_ne, ne_eq, bne_eq_false_iff_eq, ge_iff_le, gt_iff_lt, Int.not_lt, Int.not_le] at *)
  all_goals (refine .mk (.cons (.eq (.bool ?_)) .nil) rfl; simp only [BE.den, IE.den, cmpDen]; rw [hr, Bool.eq_iff_iff]; simp only [Bool.and_eq_true, Bool.or_eq_true, dec_t, dec_f, beq_iff_eq, bne_iff_ne, ge_iff_le, gt_iff_lt, Bool.false_eq_true, false_iff, true_iff]; first | omega | grind)
end Go.Proofs.YtdhfakajlnidiaaGreat
namespace Go.Proofs.YtdhfakajlnidiaaGreat
open Go.RowKit

/-! The reference of chapter 12: conditions with the second term a field. -/
set_option maxRecDepth 100000 in
set_option maxHeartbeats 4000000 in
theorem ratomS2_pure (S : SourceD) (fs : List FromD) (nb : Option BE) (m : AtomD) (f : FromD) (y : TypeD) (oa : Bool) (hA : m.b.vr ≠ -1) (hB : m.a.vr = -1) (har : 0 ≤ m.b.vr ∧ m.b.vr < (fs.length : Int)) (haf : fs[m.b.vr.toNat]? = some f) (ha1 : Pure Tryz.prog 85 [.agg S.c, i64 f.schema, i64 m.b.field] (.agg y.c)) (ha2 : Pure Tryz.prog 87 [.agg y.c] (boolD oa)) (hta : Pure Tryz.prog 86 [.agg S.c, .slm 8 nb FromD.c fs, .agg m.a.c] (boolD true)) (htb : Pure Tryz.prog 86 [.agg S.c, .slm 8 nb FromD.c fs, .agg m.b.c] (boolD true)) : Pure Tryz.prog 71 [.agg S.c, .slm 8 nb FromD.c fs, .agg m.c] (boolD (ratomV m.op true true true false false false oa)) := by
  obtain ⟨op, ⟨u1, u2, u3, u4, u5⟩, ⟨v1, v2, v3, v4, v5⟩⟩ := m
  simp only at hA hB har haf
  subst hB
  obtain ⟨r, hr⟩ : ∃ r, r = ratomV op true true true false false false oa := ⟨_, rfl⟩
  show Pure Tryz.prog 71 _ (boolD (ratomV op true true true false false false oa))
  rw [← hr]
  unfold ratomV at hr
  obtain ⟨ni, is, nu, us, ns, ss, nr, rs, nc, cs, np, ps⟩ := S
  obtain ⟨f1, f2, f3, ⟨f4, f5, f6, f7, f8⟩⟩ := f
  obtain ⟨t1, t2, t3, t4, t5, t6, t7⟩ := y
  refine Pure.intro (want := [boolD r]) T_ok follows Tryz.func71 rfl (by kernel_rfl) (rs := [.tmp 6]) rfl (by kernel_rfl) ?_
  generalize hP : Tryz.prog = P at *
  have hT : T.ok P := hP ▸ T_ok
  have hm : P.follows .mixedOrders = true := hP ▸ follows
  unfold Tryz.f71
  dsimp only
  cbv
  repeat' (first | refine SplitP.mk (fun _ => ?_) (fun h => absurd (show true = false from h) (by decide)) | refine SplitP.mk (fun h => absurd (show false = true from h) (by decide)) (fun _ => ?_) | refine SplitP.mk (fun h => absurd (eq_of_beq (show (v3 == -1) = true from h)) hA) (fun _ => ?_) | refine SplitP.mk (fun _ => ?_) (fun h => absurd (of_decide_eq_false (show decide (v3 ≥ 0) = false from h)) (fun q => q har.1)) | refine SplitP.mk (fun _ => ?_) (fun _ => ?_) | (refine CallP.pure _ hta rfl ?_; cbv) | (refine CallP.pure _ htb rfl ?_; cbv) | (refine OpsP.go hT ?_; cbv) | (refine ElemP.mk har (fun zz hzz => ?_); replace hzz : fs[v3.toNat]? = some zz := hzz; rw [haf] at hzz; cases hzz; cbv) | (refine PureP.mk _ ha1 rfl ?_; cbv) | (refine CallP.pure _ ha1 rfl ?_; cbv) | (refine PureP.mk _ ha2 rfl ?_; cbv) | (refine CallP.pure _ ha2 rfl ?_; cbv) | (refine DrawP.frontz 43 48 rfl ?_ ?_ ?_; kernel_rfl; kernel_rfl; cbv) | (refine DrawP.frontz 36 39 rfl ?_ ?_ ?_; kernel_rfl; kernel_rfl; cbv))
  all_goals clear hta htb ha1 ha2
  all_goals (try simp only [BE.den, IE.den, cmpDen, Bool.not_eq_true, Bool.not_eq_false, Bool.not_eq_eq_eq_not, Bool.not_true, Bool.not_false, dec_t, dec_f, beq_iff_eq, beq_eq_false_iff_ne, bne_iff_ne, ne_eq, bne_eq_false_iff_eq, ge_iff_le, gt_iff_lt, Int.not_lt, Int.not_le] at *)
  all_goals (refine .mk (.cons (.eq (.bool ?_)) .nil) rfl; simp only [BE.den, IE.den, cmpDen]; rw [hr, Bool.eq_iff_iff]; simp only [Bool.and_eq_true, Bool.or_eq_true, dec_t, dec_f, beq_iff_eq, bne_iff_ne, ge_iff_le, gt_iff_lt, Bool.false_eq_true, false_iff, true_iff]; first | omega | grind)
end Go.Proofs.YtdhfakajlnidiaaGreat
namespace Go.Proofs.YtdhfakajlnidiaaGreat
open Go.RowKit

/-! The reference of chapter 12: conditions of a rule, both terms fields; all conditions. -/
set_option maxRecDepth 100000 in
set_option maxHeartbeats 4000000 in
theorem ratomS3_pure (S : SourceD) (fs : List FromD) (nb : Option BE) (m : AtomD) (f g : FromD) (y z : TypeD) (oa ob cm : Bool) (hA : m.a.vr ≠ -1) (hB : m.b.vr ≠ -1) (har : 0 ≤ m.a.vr ∧ m.a.vr < (fs.length : Int)) (haf : fs[m.a.vr.toNat]? = some f) (hbr : 0 ≤ m.b.vr ∧ m.b.vr < (fs.length : Int)) (hbf : fs[m.b.vr.toNat]? = some g) (ha1 : Pure Tryz.prog 85 [.agg S.c, i64 f.schema, i64 m.a.field] (.agg y.c)) (ha2 : Pure Tryz.prog 87 [.agg y.c] (boolD oa)) (hb1 : Pure Tryz.prog 85 [.agg S.c, i64 g.schema, i64 m.b.field] (.agg z.c)) (hb2 : Pure Tryz.prog 87 [.agg z.c] (boolD ob)) (hcm : Pure Tryz.prog 88 [.agg S.c, .agg y.c, .agg z.c] (boolD cm)) (hta : Pure Tryz.prog 86 [.agg S.c, .slm 8 nb FromD.c fs, .agg m.a.c] (boolD true)) (htb : Pure Tryz.prog 86 [.agg S.c, .slm 8 nb FromD.c fs, .agg m.b.c] (boolD true)) : Pure Tryz.prog 71 [.agg S.c, .slm 8 nb FromD.c fs, .agg m.c] (boolD (ratomV m.op true true false false cm oa ob)) := by
  obtain ⟨op, ⟨u1, u2, u3, u4, u5⟩, ⟨v1, v2, v3, v4, v5⟩⟩ := m
  simp only at hA hB har haf hbr hbf
  obtain ⟨r, hr⟩ : ∃ r, r = ratomV op true true false false cm oa ob := ⟨_, rfl⟩
  show Pure Tryz.prog 71 _ (boolD (ratomV op true true false false cm oa ob))
  rw [← hr]
  unfold ratomV at hr
  obtain ⟨ni, is, nu, us, ns, ss, nr, rs, nc, cs, np, ps⟩ := S
  obtain ⟨f1, f2, f3, ⟨f4, f5, f6, f7, f8⟩⟩ := f
  obtain ⟨g1, g2, g3, ⟨g4, g5, g6, g7, g8⟩⟩ := g
  obtain ⟨t1, t2, t3, t4, t5, t6, t7⟩ := y
  obtain ⟨z1, z2, z3, z4, z5, z6, z7⟩ := z
  refine Pure.intro (want := [boolD r]) T_ok follows Tryz.func71 rfl (by kernel_rfl) (rs := [.tmp 6]) rfl (by kernel_rfl) ?_
  generalize hP : Tryz.prog = P at *
  have hT : T.ok P := hP ▸ T_ok
  have hm : P.follows .mixedOrders = true := hP ▸ follows
  unfold Tryz.f71
  dsimp only
  cbv
  repeat' (first | refine SplitP.mk (fun _ => ?_) (fun h => absurd (show true = false from h) (by decide)) | refine SplitP.mk (fun h => absurd (show false = true from h) (by decide)) (fun _ => ?_) | refine SplitP.mk (fun h => absurd (eq_of_beq (show (u3 == -1) = true from h)) hA) (fun _ => ?_) | refine SplitP.mk (fun h => absurd (eq_of_beq (show (v3 == -1) = true from h)) hB) (fun _ => ?_) | refine SplitP.mk (fun _ => ?_) (fun h => absurd (of_decide_eq_false (show decide (u3 ≥ 0) = false from h)) (fun q => q har.1)) | refine SplitP.mk (fun _ => ?_) (fun h => absurd (of_decide_eq_false (show decide (v3 ≥ 0) = false from h)) (fun q => q hbr.1)) | refine SplitP.mk (fun _ => ?_) (fun _ => ?_) | (refine CallP.pure _ hta rfl ?_; cbv) | (refine CallP.pure _ htb rfl ?_; cbv) | (refine OpsP.go hT ?_; cbv) | (refine ElemP.mk har (fun zz hzz => ?_); replace hzz : fs[u3.toNat]? = some zz := hzz; rw [haf] at hzz; cases hzz; cbv) | (refine ElemP.mk hbr (fun zz hzz => ?_); replace hzz : fs[v3.toNat]? = some zz := hzz; rw [hbf] at hzz; cases hzz; cbv) | (refine PureP.mk _ ha1 rfl ?_; cbv) | (refine CallP.pure _ ha1 rfl ?_; cbv) | (refine PureP.mk _ ha2 rfl ?_; cbv) | (refine CallP.pure _ ha2 rfl ?_; cbv) | (refine PureP.mk _ hb1 rfl ?_; cbv) | (refine CallP.pure _ hb1 rfl ?_; cbv) | (refine PureP.mk _ hb2 rfl ?_; cbv) | (refine CallP.pure _ hb2 rfl ?_; cbv) | (refine PureP.mk _ hcm rfl ?_; cbv) | (refine CallP.pure _ hcm rfl ?_; cbv) | (refine DrawP.frontz 43 48 rfl ?_ ?_ ?_; kernel_rfl; kernel_rfl; cbv) | (refine DrawP.frontz 36 39 rfl ?_ ?_ ?_; kernel_rfl; kernel_rfl; cbv))
  all_goals clear hta htb ha1 ha2 hb1 hb2 hcm
  all_goals (try simp only [BE.den, IE.den, cmpDen, Bool.not_eq_true, Bool.not_eq_false, Bool.not_eq_eq_eq_not, Bool.not_true, Bool.not_false, dec_t, dec_f, beq_iff_eq, beq_eq_false_iff_ne, bne_iff_ne, ne_eq, bne_eq_false_iff_eq, ge_iff_le, gt_iff_lt, Int.not_lt, Int.not_le] at *)
  all_goals (refine .mk (.cons (.eq (.bool ?_)) .nil) rfl; simp only [BE.den, IE.den, cmpDen]; rw [hr, Bool.eq_iff_iff]; simp only [Bool.and_eq_true, Bool.or_eq_true, dec_t, dec_f, beq_iff_eq, bne_iff_ne, ge_iff_le, gt_iff_lt, Bool.false_eq_true, false_iff, true_iff]; first | omega | grind)
set_option maxRecDepth 100000 in
set_option maxHeartbeats 4000000 in
theorem ratom_pure (S : SourceD) (fs : List FromD) (nb : Option BE) (m : AtomD) (hG : Good S) : Pure Tryz.prog 71 [.agg S.c, .slm 8 nb FromD.c fs, .agg m.c] (boolD (ratomB S fs m)) := by
  have hta := rterm_pure S fs nb m.a
  have htb := rterm_pure S fs nb m.b
  by_cases hF : (rtermB S fs m.a && rtermB S fs m.b) = true
  case neg =>
    have hF := Bool.eq_false_iff.2 hF
    rw [show ratomB S fs m = false by unfold ratomB; rw [show [m.a, m.b].all (rtermB S fs) = false by simpa using hF]; simp]
    exact ratomF_pure S fs nb m _ _ hF hta htb
  rw [Bool.and_eq_true] at hF
  obtain ⟨h1, h2⟩ := hF
  rw [h1] at hta
  rw [h2] at htb
  have ht : [m.a, m.b].all (rtermB S fs) = true := by simp [h1, h2]
  rcases rterm_ex hG fs m.a with ⟨hA, tA⟩ | ⟨_, q, _⟩ | ⟨hA, _, f, y, har, haf, tA, ka, pa1, pa2⟩
  · rcases rterm_ex hG fs m.b with ⟨hB, tB⟩ | ⟨_, q, _⟩ | ⟨hB, _, g, z, hbr, hbf, tB, kb, pb1, pb2⟩
    · rw [show ratomB S fs m = false by unfold ratomB atomTys; simp [tA, tB, rpairOK]]
      exact ratomNN_pure S fs nb m _ _ hA hB hta htb
    · rw [h2] at q
      cases q
    · rw [show ratomB S fs m = ratomV m.op true true true false false false (ordB z) by unfold ratomB ratomV atomTys; rw [ht]; simp [tA, tB, rpairOK, opOK]]
      exact ratomS2_pure S fs nb m g z (ordB z) hB hA hbr hbf pb1 pb2 hta htb
  · rw [h1] at q
    cases q
  · rcases rterm_ex hG fs m.b with ⟨hB, tB⟩ | ⟨_, q, _⟩ | ⟨hB, _, g, z, hbr, hbf, tB, kb, pb1, pb2⟩
    · rw [show ratomB S fs m = ratomV m.op true true false true false (ordB y) false by unfold ratomB ratomV atomTys; rw [ht]; simp [tA, tB, rpairOK, opOK]]
      exact ratomS1_pure S fs nb m f y (ordB y) hA hB har haf pa1 pa2 hta htb
    · rw [h2] at q
      cases q
    · rw [show ratomB S fs m = ratomV m.op true true false false (rcmpB S.units y z) (ordB y) (ordB z) by unfold ratomB ratomV atomTys; rw [ht]; simp [tA, tB, rpairOK, opOK]]
      exact ratomS3_pure S fs nb m f g y z (ordB y) (ordB z) _ hA hB har haf hbr hbf pa1 pa2 pb1 pb2 (rcomparable_pure S y z (kindB_unit ka) (kindB_unit kb) (by have := kindB_names ka; omega)) hta htb
end Go.Proofs.YtdhfakajlnidiaaGreat
namespace Go.Proofs.YtdhfakajlnidiaaGreat
open Go.RowKit

/-! The reference of chapter 12: schemas. -/
set_option maxRecDepth 100000 in
set_option maxHeartbeats 4000000 in
theorem rschema_pure (S : SourceD) (x : SchemaD) (hN : ∀ f ∈ x.fields, f.type.names.length ≤ 9223372036854775807) : Pure Tryz.prog 46 [.agg S.c, .agg x.c] (boolD (schB S x)) := by
  obtain ⟨r, hr⟩ : ∃ r, r = schB S x := ⟨_, rfl⟩
  rw [← hr]
  unfold schB at hr
  have hKO : ∀ f : FieldD, f ∈ x.fields → ∃ b, kindB f.type S.units.length = b ∧ Pure Tryz.prog 69 [.agg S.c, .agg f.type.c] (boolD b) := fun f hf => ⟨_, rfl, rType_pure S f.type (hN f hf)⟩
  have hFB : ∀ f, fieldB S f = (kindB f.type S.units.length && [f.w0, f.w1, f.w2, f.w3].all wOK) := fun f => rfl
  clear hN
  obtain ⟨KO, hK⟩ : ∃ f : FieldD → Bool, f = fun f => kindB f.type S.units.length := ⟨_, rfl⟩
  obtain ⟨FB, hF⟩ : ∃ f, f = fieldB S := ⟨_, rfl⟩
  replace hKO : ∀ f : FieldD, f ∈ x.fields → ∃ b, KO f = b ∧ Pure Tryz.prog 69 [.agg S.c, .agg f.type.c] (boolD b) := fun f hf => by rw [hK]; exact hKO f hf
  replace hFB : ∀ f, FB f = (KO f && [f.w0, f.w1, f.w2, f.w3].all wOK) := fun f => by rw [hF, hK]; exact hFB f
  rw [← hF] at hr
  clear hF hK
  obtain ⟨ni, is, nu, us, ns, ss, nr, rs, nc, cs, np, ps⟩ := S
  obtain ⟨x1, x2, x3, x4, x5, l, x7, x8⟩ := x
  simp only at hr hKO
  obtain ⟨n, hn⟩ : ∃ n : Nat, n = l.length := ⟨_, rfl⟩
  obtain ⟨sb, hsb⟩ : ∃ b, b = selfB l := ⟨_, rfl⟩
  rw [← hsb] at hr
  unfold selfB at hsb
  refine Pure.intro (want := [boolD r]) T_ok follows Tryz.func46 rfl (by kernel_rfl) (rs := [.tmp 4]) rfl (by kernel_rfl) ?_
  generalize hP : Tryz.prog = P at *
  have hT : T.ok P := hP ▸ T_ok
  have hm : P.follows .mixedOrders = true := hP ▸ follows
  unfold Tryz.f46
  dsimp only
  cbv
  refine SplitP.mk (fun g => ?_) (fun g => ?_)
  · clear hKO hFB
    have g' : x3 < 0 := of_decide_eq_true g
    clear g
    refine .mk (.cons (.eq (.bool ?_)) .nil) rfl
    show false = r
    rw [hr]
    symm
    rw [Bool.and_eq_false_iff]
    refine .inl ?_
    rw [Bool.eq_false_iff]
    intro e
    simp only [Bool.and_eq_true, decide_eq_true_eq] at e
    first
      | omega
      | exact absurd e.1.1.1.1.2 (Int.not_lt.2 g')
  have g1 : ¬ x3 < 0 := of_decide_eq_false g
  clear g
  refine SplitP.mk (fun g => ?_) (fun g => ?_)
  · clear hKO hFB
    have g' : x3 ≥ (is.length : Int) := of_decide_eq_true g
    clear g
    refine .mk (.cons (.eq (.bool ?_)) .nil) rfl
    show false = r
    rw [hr]
    symm
    rw [Bool.and_eq_false_iff]
    refine .inl ?_
    rw [Bool.eq_false_iff]
    intro e
    simp only [Bool.and_eq_true, decide_eq_true_eq] at e
    first
      | omega
      | exact absurd e.1.1.1.1.2 (Int.not_lt.2 g')
  have g2 : ¬ x3 ≥ (is.length : Int) := of_decide_eq_false g
  clear g
  refine SplitP.mk (fun g => ?_) (fun g => ?_)
  · clear hKO hFB
    have g' : x4 < 1 := of_decide_eq_true g
    clear g
    refine .mk (.cons (.eq (.bool ?_)) .nil) rfl
    show false = r
    rw [hr]
    symm
    rw [Bool.and_eq_false_iff]
    refine .inl ?_
    rw [Bool.eq_false_iff]
    intro e
    simp only [Bool.and_eq_true, decide_eq_true_eq] at e
    first
      | omega
      | exact absurd e.1.1.1.1.2 (Int.not_lt.2 g')
  have g3 : ¬ x4 < 1 := of_decide_eq_false g
  clear g
  refine SplitP.mk (fun g => ?_) (fun g => ?_)
  · clear hKO hFB
    have g' : x4 > 255 := of_decide_eq_true g
    clear g
    refine .mk (.cons (.eq (.bool ?_)) .nil) rfl
    show false = r
    rw [hr]
    symm
    rw [Bool.and_eq_false_iff]
    refine .inl ?_
    rw [Bool.eq_false_iff]
    intro e
    simp only [Bool.and_eq_true, decide_eq_true_eq] at e
    first
      | omega
      | exact absurd e.1.1.1.1.2 (Int.not_lt.2 g')
  have g4 : ¬ x4 > 255 := of_decide_eq_false g
  clear g
  refine SplitP.mk (fun g => ?_) (fun g => ?_)
  · clear hKO hFB
    have g' : (l.length : Int) < 1 := of_decide_eq_true g
    clear g
    refine .mk (.cons (.eq (.bool ?_)) .nil) rfl
    show false = r
    rw [hr]
    symm
    rw [Bool.and_eq_false_iff]
    refine .inl ?_
    rw [Bool.eq_false_iff]
    intro e
    simp only [Bool.and_eq_true, decide_eq_true_eq] at e
    first
      | omega
      | exact absurd e.1.1.1.1.2 (Int.not_lt.2 g')
  have g5 : ¬ (l.length : Int) < 1 := of_decide_eq_false g
  clear g
  refine SplitP.mk (fun g => ?_) (fun g => ?_)
  · clear hKO hFB
    have g' : (l.length : Int) > 12 := of_decide_eq_true g
    clear g
    refine .mk (.cons (.eq (.bool ?_)) .nil) rfl
    show false = r
    rw [hr]
    symm
    rw [Bool.and_eq_false_iff]
    refine .inl ?_
    rw [Bool.eq_false_iff]
    intro e
    simp only [Bool.and_eq_true, decide_eq_true_eq] at e
    first
      | omega
      | exact absurd e.1.1.1.1.2 (Int.not_lt.2 g')
  have g6 : ¬ (l.length : Int) > 12 := of_decide_eq_false g
  clear g
  have hlen : 1 ≤ l.length ∧ l.length ≤ 12 := by omega
  have hpre : ((decide (0 ≤ x3) && decide (x3 < (is.length : Int)) && decide (1 ≤ x4) && decide (x4 ≤ 255) && decide (1 ≤ l.length) && decide (l.length ≤ 12)) : Bool) = true := by
    simp only [Bool.and_eq_true, decide_eq_true_eq]
    exact ⟨⟨⟨⟨⟨Int.not_lt.1 g1, Int.not_le.1 g2⟩, by omega⟩, by omega⟩, by omega⟩, by omega⟩
  rw [hpre, Bool.true_and] at hr
  clear hpre
  refine ElemP.mk (by show (0 : Int) ≤ 0 ∧ (0 : Int) < (l.length : Int); omega) (fun f0 hf0 => ?_)
  replace hf0 : l[0]? = some f0 := hf0
  rw [hf0] at hsb
  simp only at hsb
  obtain ⟨z1, ⟨z2, z3, z4, z5, z6, z7, z8⟩, z9, z10, z11, z12⟩ := f0
  simp only at hsb
  cbv
  refine SplitP.mk (fun g => ?_) (fun g => ?_)
  · clear hKO hFB
    have h3 : (z2 != 3) = true := g
    have h4 : z2 ≠ 3 := by simpa using h3
    rw [hsb, decide_eq_false h4] at hr
    refine .mk (.cons (.eq (.bool ?_)) .nil) rfl
    rw [BE.lit_d, BE.var_d]
    exact hr.symm
  have h3 : (z2 != 3) = false := g
  have h4 : z2 = 3 := by simpa using h3
  rw [hsb, decide_eq_true h4, Bool.true_and] at hr
  clear h3 g hf0 hsb h4
  refine CodeP.loopc hT hm (X := Nat) (fun k => [(5, .int .i64 (.nat k))]) (fun k => k ≤ l.length ∧ r = (l.drop k).all FB) (fun k => n - k) 0 ⟨by simp, hr⟩ (Nat.zero_le _) ?_ rfl ?_
  · (cbv; (repeat' (first | exact SnD.refl _ | exact trivial | exact SnD.nat0 | refine And.intro ?_ ?_)))
  intro k ⟨hk, hq⟩
  cbv
  refine SplitP.mk (fun hs => ?_) (fun hs => ?_)
  · have hkn : k < l.length := by
      have h5 : decide ((k : Int) < (l.length : Int)) = true := hs
      have := of_decide_eq_true h5
      omega
    clear hs
    refine ElemP.mk (by show (0 : Int) ≤ (k : Int) ∧ (k : Int) < (l.length : Int); omega) (fun y hy => ?_)
    replace hy : l[k]? = some y := hy
    rw [drop_cons hy, List.all_cons, hFB] at hq
    obtain ⟨b, hb, hp⟩ := hKO y (List.mem_of_getElem? hy)
    rw [hb] at hq
    clear hKO hb hFB
    obtain ⟨y1, ⟨y2, y3, y4, y5, y6, y7, y8⟩, y9, y10, y11, y12⟩ := y
    cbv
    first
      | refine PureP.mk _ hp rfl ?_
      | refine CallP.pure _ hp rfl ?_
    clear hp
    cbv
    refine SplitP.mk (fun h => ?_) (fun h => ?_)
    · have h3 : (!b) = true := h
      refine .mk (.cons (.eq (.bool ?_)) .nil) rfl
      rw [BE.lit_d, BE.var_d]
      rw [hq]; cases b <;> simp_all
    have h3 : (!b) = false := h
    have h4 : b = true := by simpa using h3
    rw [h4, Bool.true_and] at hq
    simp only [List.all_cons, List.all_nil, Bool.and_true, wOK] at hq
    clear h h3 h4
    refine CodeP.rounds hT hm 5 ?_
    cbv
    refine ElemP.mk (by show (0 : Int) ≤ (k : Int) ∧ (k : Int) < (l.length : Int); omega) (fun zz hzz => ?_)
    replace hzz : l[k]? = some zz := hzz
    rw [hy] at hzz
    cases hzz
    cbv
    refine SplitP.mk (fun g => ?_) (fun g => ?_)
    · have g' : ¬ 0 ≤ y9 := by have h := of_decide_eq_true (show decide (y9 < 0) = true from g); omega
      rw [decide_eq_false g'] at hq
      refine .mk (.cons (.eq (.bool ?_)) .nil) rfl
      rw [BE.lit_d, BE.var_d]
      rw [hq]; simp
    have gay9 : 0 ≤ y9 := by have h := of_decide_eq_false (show decide (y9 < 0) = false from g); omega
    clear g
    refine ElemP.mk (by show (0 : Int) ≤ (k : Int) ∧ (k : Int) < (l.length : Int); omega) (fun zz hzz => ?_)
    replace hzz : l[k]? = some zz := hzz
    rw [hy] at hzz
    cases hzz
    cbv
    refine SplitP.mk (fun g => ?_) (fun g => ?_)
    · have g' : ¬ y9 ≤ 9 := by have h := of_decide_eq_true (show decide (y9 > 9) = true from g); omega
      rw [decide_eq_false g'] at hq
      refine .mk (.cons (.eq (.bool ?_)) .nil) rfl
      rw [BE.lit_d, BE.var_d]
      rw [hq]; simp
    have gby9 : y9 ≤ 9 := by have h := of_decide_eq_false (show decide (y9 > 9) = false from g); omega
    clear g
    refine ElemP.mk (by show (0 : Int) ≤ (k : Int) ∧ (k : Int) < (l.length : Int); omega) (fun zz hzz => ?_)
    replace hzz : l[k]? = some zz := hzz
    rw [hy] at hzz
    cases hzz
    cbv
    refine SplitP.mk (fun g => ?_) (fun g => ?_)
    · have g' : ¬ 0 ≤ y10 := by have h := of_decide_eq_true (show decide (y10 < 0) = true from g); omega
      rw [decide_eq_false g'] at hq
      refine .mk (.cons (.eq (.bool ?_)) .nil) rfl
      rw [BE.lit_d, BE.var_d]
      rw [hq]; simp
    have gay10 : 0 ≤ y10 := by have h := of_decide_eq_false (show decide (y10 < 0) = false from g); omega
    clear g
    refine ElemP.mk (by show (0 : Int) ≤ (k : Int) ∧ (k : Int) < (l.length : Int); omega) (fun zz hzz => ?_)
    replace hzz : l[k]? = some zz := hzz
    rw [hy] at hzz
    cases hzz
    cbv
    refine SplitP.mk (fun g => ?_) (fun g => ?_)
    · have g' : ¬ y10 ≤ 9 := by have h := of_decide_eq_true (show decide (y10 > 9) = true from g); omega
      rw [decide_eq_false g'] at hq
      refine .mk (.cons (.eq (.bool ?_)) .nil) rfl
      rw [BE.lit_d, BE.var_d]
      rw [hq]; simp
    have gby10 : y10 ≤ 9 := by have h := of_decide_eq_false (show decide (y10 > 9) = false from g); omega
    clear g
    refine ElemP.mk (by show (0 : Int) ≤ (k : Int) ∧ (k : Int) < (l.length : Int); omega) (fun zz hzz => ?_)
    replace hzz : l[k]? = some zz := hzz
    rw [hy] at hzz
    cases hzz
    cbv
    refine SplitP.mk (fun g => ?_) (fun g => ?_)
    · have g' : ¬ 0 ≤ y11 := by have h := of_decide_eq_true (show decide (y11 < 0) = true from g); omega
      rw [decide_eq_false g'] at hq
      refine .mk (.cons (.eq (.bool ?_)) .nil) rfl
      rw [BE.lit_d, BE.var_d]
      rw [hq]; simp
    have gay11 : 0 ≤ y11 := by have h := of_decide_eq_false (show decide (y11 < 0) = false from g); omega
    clear g
    refine ElemP.mk (by show (0 : Int) ≤ (k : Int) ∧ (k : Int) < (l.length : Int); omega) (fun zz hzz => ?_)
    replace hzz : l[k]? = some zz := hzz
    rw [hy] at hzz
    cases hzz
    cbv
    refine SplitP.mk (fun g => ?_) (fun g => ?_)
    · have g' : ¬ y11 ≤ 9 := by have h := of_decide_eq_true (show decide (y11 > 9) = true from g); omega
      rw [decide_eq_false g'] at hq
      refine .mk (.cons (.eq (.bool ?_)) .nil) rfl
      rw [BE.lit_d, BE.var_d]
      rw [hq]; simp
    have gby11 : y11 ≤ 9 := by have h := of_decide_eq_false (show decide (y11 > 9) = false from g); omega
    clear g
    refine ElemP.mk (by show (0 : Int) ≤ (k : Int) ∧ (k : Int) < (l.length : Int); omega) (fun zz hzz => ?_)
    replace hzz : l[k]? = some zz := hzz
    rw [hy] at hzz
    cases hzz
    cbv
    refine SplitP.mk (fun g => ?_) (fun g => ?_)
    · have g' : ¬ 0 ≤ y12 := by have h := of_decide_eq_true (show decide (y12 < 0) = true from g); omega
      rw [decide_eq_false g'] at hq
      refine .mk (.cons (.eq (.bool ?_)) .nil) rfl
      rw [BE.lit_d, BE.var_d]
      rw [hq]; simp
    have gay12 : 0 ≤ y12 := by have h := of_decide_eq_false (show decide (y12 < 0) = false from g); omega
    clear g
    refine ElemP.mk (by show (0 : Int) ≤ (k : Int) ∧ (k : Int) < (l.length : Int); omega) (fun zz hzz => ?_)
    replace hzz : l[k]? = some zz := hzz
    rw [hy] at hzz
    cases hzz
    cbv
    refine SplitP.mk (fun g => ?_) (fun g => ?_)
    · have g' : ¬ y12 ≤ 9 := by have h := of_decide_eq_true (show decide (y12 > 9) = true from g); omega
      rw [decide_eq_false g'] at hq
      refine .mk (.cons (.eq (.bool ?_)) .nil) rfl
      rw [BE.lit_d, BE.var_d]
      rw [hq]; simp
    have gby12 : y12 ≤ 9 := by have h := of_decide_eq_false (show decide (y12 > 9) = false from g); omega
    clear g
    refine BackP.intro (k + 1) ⟨by omega, by rw [hq]; simp only [decide_eq_true, Bool.true_and, Bool.and_true, *]⟩ (by show n - (k + 1) < n - k; omega) ⟨?_, ?_, rfl⟩
    · (cbv; (repeat' (first | exact SnD.refl _ | exact trivial | exact SnD.nat0 | refine And.intro ?_ ?_)))
      exact .inc (by omega)
    · (cbv; (repeat' (first | exact trivial | exact BkEq.refl _ | exact SnD.refl _ | exact SnDs.nil | refine BkEq.cells ?_ | refine SnDs.cons ?_ ?_ | refine And.intro ?_ ?_)))
  · have hkn : l.length ≤ k := by
      have h5 : decide ((k : Int) < (l.length : Int)) = false := hs
      have := of_decide_eq_false h5
      omega
    clear hs
    rw [List.drop_of_length_le (by omega), List.all_nil] at hq
    refine .mk (.cons (.eq (.bool ?_)) .nil) rfl
    rw [BE.lit_d, BE.var_d]
    exact hq.symm
end Go.Proofs.YtdhfakajlnidiaaGreat
namespace Go.Proofs.YtdhfakajlnidiaaGreat
open Go.RowKit

/-! The reference of chapter 12: rules. -/
theorem rsetIn_at {S : SourceD} {R : RuleD} {z : SchemaD} (hz : S.schemas[R.schema.toNat]? = some z) (h0 : 0 ≤ R.schema) : (∀ x : SetD, x.field < 1 → rsetIn S R x = false) ∧ (∀ x : SetD, (z.fields.length : Int) ≤ x.field → rsetIn S R x = false) ∧ (∀ (x : SetD) (f : FieldD), 1 ≤ x.field → z.fields[x.field.toNat]? = some f → rsetIn S R x = rsetB S R.froms f.type x.term) := by
  have ht : ∀ j : Int, typeOf? S R.schema j = if 0 ≤ j then (match z.fields[j.toNat]? with | some f => some f.type | none => none) else none := fun j => by
    unfold typeOf?
    rw [if_pos h0, hz]
    rfl
  refine ⟨fun x h => ?_, fun x h => ?_, fun x f h hf => ?_⟩ <;> unfold rsetIn <;> rw [ht]
  · rw [decide_eq_false (show ¬ 1 ≤ x.field by omega), Bool.false_and]
  · by_cases h1 : 0 ≤ x.field
    · rw [if_pos h1, List.getElem?_eq_none (by omega)]
      simp
    · rw [if_neg h1]
      simp
  · rw [if_pos (show 0 ≤ x.field by omega), hf, decide_eq_true h, Bool.true_and]
set_option maxRecDepth 100000 in
set_option maxHeartbeats 4000000 in
theorem rrule_pure (S : SourceD) (R : RuleD) (hG : Good S) (hF : ∀ x ∈ S.schemas, x.fields.length ≤ 100000) : Pure Tryz.prog 47 [.agg S.c, .agg R.c] (boolD (rruleB S R)) := by
  have hfr : ∀ (nb : Option BE) (k : Nat), k < R.froms.length → Pure Tryz.prog 70 [.agg S.c, .slm 8 nb FromD.c R.froms, .int .i64 (.nat k)] (boolD (fromB S R.froms k)) := fun nb k hk => rfrom_pure S R.froms nb k hk
  have hat : ∀ (nb : Option BE) (m : AtomD), Pure Tryz.prog 71 [.agg S.c, .slm 8 nb FromD.c R.froms, .agg m.c] (boolD (ratomB S R.froms m)) := fun nb m => ratom_pure S R.froms nb m hG
  have hset : ∀ (nb : Option BE) (x : SetD) (f : FieldD), Pure Tryz.prog 72 [.agg S.c, .slm 8 nb FromD.c R.froms, .agg x.term.c, .agg f.type.c] (boolD (rsetB S R.froms f.type x.term)) := fun nb x f => rset_pure S R.froms nb x.term f.type hG.names
  have hSB : ∀ z : SchemaD, S.schemas[R.schema.toNat]? = some z → 0 ≤ R.schema → (∀ x : SetD, x.field < 1 → rsetIn S R x = false) ∧ (∀ x : SetD, (z.fields.length : Int) ≤ x.field → rsetIn S R x = false) ∧ (∀ (x : SetD) (f : FieldD), 1 ≤ x.field → z.fields[x.field.toNat]? = some f → rsetIn S R x = rsetB S R.froms f.type x.term) := fun z hz h0 => rsetIn_at hz h0
  obtain ⟨r, hr⟩ : ∃ r, r = rruleB S R := ⟨_, rfl⟩
  rw [← hr]
  unfold rruleB schIn headLen at hr
  obtain ⟨FB, hFB⟩ : ∃ f : Nat → Bool, f = fun k => fromB S R.froms k := ⟨_, rfl⟩
  obtain ⟨ALL, hA⟩ : ∃ f : Nat → Bool, f = fun k => (List.range' k (R.froms.length - k)).all (fromB S R.froms) := ⟨_, rfl⟩
  have hA0 : (List.range R.froms.length).all (fromB S R.froms) = ALL 0 := by rw [hA]; simp only [Nat.sub_zero]; rw [List.range_eq_range']
  have hAs : ∀ k, k < R.froms.length → ALL k = (FB k && ALL (k + 1)) := fun k hk => by
    rw [hA, hFB]
    simp only
    rw [show R.froms.length - k = (R.froms.length - (k + 1)) + 1 by omega, List.range'_succ, List.all_cons]
  have hAe : ALL R.froms.length = true := by rw [hA]; simp
  replace hfr : ∀ (nb : Option BE) (k : Nat), k < R.froms.length → ∃ b, FB k = b ∧ Pure Tryz.prog 70 [.agg S.c, .slm 8 nb FromD.c R.froms, .int .i64 (.nat k)] (boolD b) := fun nb k hk => ⟨_, by rw [hFB], hfr nb k hk⟩
  rw [hA0] at hr
  clear hA hFB hA0
  obtain ⟨AB, hAB⟩ : ∃ b, b = ratomB S R.froms := ⟨_, rfl⟩
  obtain ⟨SB, hSB2⟩ : ∃ b, b = rsetIn S R := ⟨_, rfl⟩
  obtain ⟨RS, hRS⟩ : ∃ f : SetD → FieldD → Bool, f = fun x f => rsetB S R.froms f.type x.term := ⟨_, rfl⟩
  replace hset : ∀ (nb : Option BE) (x : SetD) (f : FieldD), Pure Tryz.prog 72 [.agg S.c, .slm 8 nb FromD.c R.froms, .agg x.term.c, .agg f.type.c] (boolD (RS x f)) := fun nb x f => by rw [hRS]; exact hset nb x f
  replace hSB : ∀ z : SchemaD, S.schemas[R.schema.toNat]? = some z → 0 ≤ R.schema → (∀ x : SetD, x.field < 1 → SB x = false) ∧ (∀ x : SetD, (z.fields.length : Int) ≤ x.field → SB x = false) ∧ (∀ (x : SetD) (f : FieldD), 1 ≤ x.field → z.fields[x.field.toNat]? = some f → SB x = RS x f) := fun z hz h0 => by rw [hRS, hSB2]; exact hSB z hz h0
  rw [← hAB] at hat hr
  rw [← hSB2] at hr
  clear hAB hSB2 hRS hG
  obtain ⟨ni, is, nu, us, ns, ss, nr, rs, nc, cs, np, ps⟩ := S
  obtain ⟨x1, x2, x3, fl, x5, wl, x7, sl⟩ := R
  simp only at hr hF hset hSB hfr hat hAs hAe
  obtain ⟨fn, hfn⟩ : ∃ n : Nat, n = fl.length := ⟨_, rfl⟩
  obtain ⟨wn, hwn⟩ : ∃ n : Nat, n = wl.length := ⟨_, rfl⟩
  obtain ⟨sn, hsn⟩ : ∃ n : Nat, n = sl.length := ⟨_, rfl⟩
  obtain ⟨FF, hFF⟩ : ∃ f : Nat → List Int, f = fun k => (sl.take k).map (·.field) := ⟨_, rfl⟩
  have hF0 : FF 0 = [] := by rw [hFF]; simp
  have hFs : ∀ k x, sl[k]? = some x → FF (k + 1) = FF k ++ [x.field] := fun k x h => by
    rw [hFF]
    simp only
    rw [List.take_add_one, h]
    simp
  have hFm : ∀ j k x, sl[j]? = some x → j < k → x.field ∈ FF k := fun j k x h hjk => by
    rw [hFF]
    simp only
    refine List.mem_map.2 ⟨x, List.mem_iff_getElem?.2 ⟨j, ?_⟩, rfl⟩
    rw [List.getElem?_take_of_lt hjk]
    exact h
  have hFe : FF sl.length = sl.map (·.field) := by rw [hFF]; simp
  have hFp : ∀ k, ∃ t, FF sl.length = FF k ++ t := fun k => by
    rw [hFF]
    refine ⟨(sl.drop k).map (·.field), ?_⟩
    simp only
    rw [← List.map_append, List.take_append_drop, List.take_length]
  rw [← hFe] at hr
  obtain ⟨du, hdu⟩ : ∃ b, b = decide (FF sl.length).Nodup := ⟨_, rfl⟩
  rw [← hdu] at hr
  have hD0 : ∀ k x, sl[k]? = some x → x.field ∈ FF k → du = false := fun k x h hm => by
    rw [hdu]
    refine decide_eq_false fun hn => ?_
    obtain ⟨t, ht⟩ := hFp (k + 1)
    rw [ht, hFs k x h] at hn
    have := (List.nodup_append.1 (List.nodup_append.1 hn).1).2.2 _ hm _ (List.mem_singleton.2 rfl)
    exact this rfl
  have hD1 : (FF sl.length).Nodup → du = true := fun h => by rw [hdu]; exact decide_eq_true h
  have hDs : ∀ k x, sl[k]? = some x → (FF k).Nodup → x.field ∉ FF k → (FF (k + 1)).Nodup := fun k x h hn hm => by
    rw [hFs k x h, List.nodup_append]
    refine ⟨hn, by simp, fun a ha b hb => ?_⟩
    simp at hb
    subst hb
    exact fun e => hm (e ▸ ha)
  clear hFF hFe hFp hdu
  refine Pure.intro (want := [boolD r]) T_ok follows Tryz.func47 rfl (by kernel_rfl) (rs := [.tmp 4]) rfl (by kernel_rfl) ?_
  generalize hP : Tryz.prog = P at *
  have hT : T.ok P := hP ▸ T_ok
  have hm : P.follows .mixedOrders = true := hP ▸ follows
  unfold Tryz.f47
  dsimp only
  cbv
  refine SplitP.mk (fun g => ?_) (fun g => ?_)
  · have g' : ¬ 1 ≤ fl.length := by have h := of_decide_eq_true (show decide ((fl.length : Int) < 1) = true from g); omega
    rw [decide_eq_false g'] at hr
    simp only [Bool.false_and, Bool.and_false] at hr
    refine .mk (.cons (.eq (.bool ?_)) .nil) rfl
    rw [BE.lit_d, BE.var_d]
    exact hr.symm
  have g1 : 1 ≤ fl.length := by have h := of_decide_eq_false (show decide ((fl.length : Int) < 1) = false from g); omega
  rw [decide_eq_true g1, Bool.true_and] at hr
  clear g
  refine SplitP.mk (fun g => ?_) (fun g => ?_)
  · have g' : ¬ fl.length ≤ 3 := by have h := of_decide_eq_true (show decide ((fl.length : Int) > 3) = true from g); omega
    rw [decide_eq_false g'] at hr
    simp only [Bool.false_and, Bool.and_false] at hr
    refine .mk (.cons (.eq (.bool ?_)) .nil) rfl
    rw [BE.lit_d, BE.var_d]
    exact hr.symm
  have g2 : fl.length ≤ 3 := by have h := of_decide_eq_false (show decide ((fl.length : Int) > 3) = false from g); omega
  rw [decide_eq_true g2, Bool.true_and] at hr
  clear g
  refine SplitP.mk (fun g => ?_) (fun g => ?_)
  · have g' : ¬ wl.length ≤ 8 := by have h := of_decide_eq_true (show decide ((wl.length : Int) > 8) = true from g); omega
    rw [decide_eq_false g'] at hr
    simp only [Bool.false_and, Bool.and_false] at hr
    refine .mk (.cons (.eq (.bool ?_)) .nil) rfl
    rw [BE.lit_d, BE.var_d]
    exact hr.symm
  have g3 : wl.length ≤ 8 := by have h := of_decide_eq_false (show decide ((wl.length : Int) > 8) = false from g); omega
  rw [decide_eq_true g3, Bool.true_and] at hr
  clear g
  refine SplitP.mk (fun g => ?_) (fun g => ?_)
  · have g' : ¬ 0 ≤ x2 := by have h := of_decide_eq_true (show decide (x2 < 0) = true from g); omega
    rw [decide_eq_false g'] at hr
    simp only [Bool.false_and, Bool.and_false] at hr
    refine .mk (.cons (.eq (.bool ?_)) .nil) rfl
    rw [BE.lit_d, BE.var_d]
    exact hr.symm
  have g4 : 0 ≤ x2 := by have h := of_decide_eq_false (show decide (x2 < 0) = false from g); omega
  rw [decide_eq_true g4, Bool.true_and] at hr
  clear g
  refine SplitP.mk (fun g => ?_) (fun g => ?_)
  · have g' : ¬ x2 < (ss.length : Int) := by have h := of_decide_eq_true (show decide (x2 ≥ (ss.length : Int)) = true from g); omega
    rw [decide_eq_false g'] at hr
    simp only [Bool.false_and, Bool.and_false] at hr
    refine .mk (.cons (.eq (.bool ?_)) .nil) rfl
    rw [BE.lit_d, BE.var_d]
    exact hr.symm
  have g5 : x2 < (ss.length : Int) := by have h := of_decide_eq_false (show decide (x2 ≥ (ss.length : Int)) = false from g); omega
  rw [decide_eq_true g5, Bool.true_and] at hr
  clear g
  obtain ⟨r2, hr2⟩ : ∃ q, q = (decide ((sl.length : Int) = (match ss[x2.toNat]? with | some x => (x.fields.length : Int) | none => 0) - 1) && (sl.all SB && du)) := ⟨_, rfl⟩
  replace hr : r = (ALL 0 && (wl.all AB && r2)) := by
    rw [hr, hr2]
    rfl
  refine CodeP.loopc hT hm (X := Nat) (fun k => [(5, .int .i64 (.nat k))]) (fun k => k ≤ fl.length ∧ r = (ALL k && (wl.all AB && r2))) (fun k => fn - k) 0 ⟨Nat.zero_le _, hr⟩ (Nat.zero_le _) ?_ rfl ?_
  · (cbv; (repeat' (first | exact SnD.refl _ | exact trivial | exact SnD.nat0 | refine And.intro ?_ ?_)))
  clear hr
  intro k ⟨hk, hq⟩
  cbv
  refine SplitP.mk (fun hs => ?_) (fun hs => ?_)
  · have hkn : k < fl.length := by
      have h5 : decide ((k : Int) < (fl.length : Int)) = true := hs
      have := of_decide_eq_true h5
      omega
    clear hs
    rw [hAs k hkn] at hq
    obtain ⟨b, hb, hp⟩ := hfr (some (.var x3)) k hkn
    rw [hb] at hq
    clear hfr hb hAs hAe
    refine CallP.pure _ hp rfl ?_
    clear hp
    cbv
    refine SplitP.mk (fun g => ?_) (fun g => ?_)
    · have g' : (!b) = true := g
      have g2 : b = false := by simpa using g'
      rw [g2, Bool.false_and, Bool.false_and] at hq
      refine .mk (.cons (.eq (.bool ?_)) .nil) rfl
      rw [BE.lit_d, BE.var_d]
      exact hq.symm
    have g' : (!b) = false := g
    have g2 : b = true := by simpa using g'
    rw [g2, Bool.true_and] at hq
    refine BackP.intro (k + 1) ⟨by omega, hq⟩ (by show fn - (k + 1) < fn - k; omega) ⟨?_, ?_, rfl⟩
    · (cbv; (repeat' (first | exact SnD.refl _ | exact trivial | exact SnD.nat0 | refine And.intro ?_ ?_)))
      exact .inc (by omega)
    · (cbv; (repeat' (first | exact trivial | exact BkEq.refl _ | exact SnD.refl _ | exact SnDs.nil | refine BkEq.cells ?_ | refine SnDs.cons ?_ ?_ | refine And.intro ?_ ?_)))
  have hkn : fl.length ≤ k := by
    have h5 : decide ((k : Int) < (fl.length : Int)) = false := hs
    have := of_decide_eq_false h5
    omega
  clear hs
  have hkl : k = fl.length := by omega
  rw [hkl, hAe, Bool.true_and] at hq
  have hr := hq
  clear hq hk hkn hkl hAs hAe hfr
  refine CodeP.loopc hT hm (X := Nat) (fun k => [(6, .int .i64 (.nat k))]) (fun k => k ≤ wl.length ∧ r = ((wl.drop k).all AB && r2)) (fun k => wn - k) 0 ⟨Nat.zero_le _, hr⟩ (Nat.zero_le _) ?_ rfl ?_
  · (cbv; (repeat' (first | exact SnD.refl _ | exact trivial | exact SnD.nat0 | refine And.intro ?_ ?_)))
  clear hr
  intro k ⟨hk, hq⟩
  cbv
  refine SplitP.mk (fun hs => ?_) (fun hs => ?_)
  · have hkn : k < wl.length := by
      have h5 : decide ((k : Int) < (wl.length : Int)) = true := hs
      have := of_decide_eq_true h5
      omega
    clear hs
    refine ElemP.mk (by show (0 : Int) ≤ (k : Int) ∧ (k : Int) < (wl.length : Int); omega) (fun y hy => ?_)
    replace hy : wl[k]? = some y := hy
    rw [drop_cons hy, List.all_cons] at hq
    obtain ⟨b, hb⟩ : ∃ b, b = AB y := ⟨_, rfl⟩
    have hp := hat (some (.var x3)) y
    rw [← hb] at hq hp
    clear hat hset hSB hb
    obtain ⟨y1, ⟨y2, y3, y4, y5, y6⟩, ⟨y7, y8, y9, y10, y11⟩⟩ := y
    cbv
    first
      | refine PureP.mk _ hp rfl ?_
      | refine CallP.pure _ hp rfl ?_
    clear hp
    cbv
    refine SplitP.mk (fun g => ?_) (fun g => ?_)
    · have g' : (!b) = true := g
      have g2 : b = false := by simpa using g'
      rw [g2, Bool.false_and, Bool.false_and] at hq
      refine .mk (.cons (.eq (.bool ?_)) .nil) rfl
      rw [BE.lit_d, BE.var_d]
      exact hq.symm
    have g' : (!b) = false := g
    have g2 : b = true := by simpa using g'
    rw [g2, Bool.true_and] at hq
    refine BackP.intro (k + 1) ⟨by omega, hq⟩ (by show wn - (k + 1) < wn - k; omega) ⟨?_, ?_, rfl⟩
    · (cbv; (repeat' (first | exact SnD.refl _ | exact trivial | exact SnD.nat0 | refine And.intro ?_ ?_)))
      exact .inc (by omega)
    · (cbv; (repeat' (first | exact trivial | exact BkEq.refl _ | exact SnD.refl _ | exact SnDs.nil | refine BkEq.cells ?_ | refine SnDs.cons ?_ ?_ | refine And.intro ?_ ?_)))
  have hkn : wl.length ≤ k := by
    have h5 : decide ((k : Int) < (wl.length : Int)) = false := hs
    have := of_decide_eq_false h5
    omega
  clear hs
  rw [List.drop_of_length_le (by omega), List.all_nil, Bool.true_and] at hq
  have hr := hq.trans hr2
  clear hq hr2 hk hkn hat
  refine ElemP.mk ⟨g4, g5⟩ (fun z hz => ?_)
  replace hz : ss[x2.toNat]? = some z := hz
  rw [hz] at hr
  have hzF := hF z (List.mem_of_getElem? hz)
  obtain ⟨hS0, hS1, hS2⟩ := hSB z hz g4
  clear hF hz hSB
  obtain ⟨z1, z2, z3, z4, z5, zf, z7, z8⟩ := z
  simp only at hr hzF hS1 hS2
  have hsub : binDen .sub .i64 (zf.length : Int) 1 = (zf.length : Int) - 1 := sub64 (by omega) (by omega)
  cbv
  refine SplitP.mk (fun g => ?_) (fun g => ?_)
  · have h3 : ((sl.length : Int) != binDen .sub .i64 (zf.length : Int) 1) = true := g
    rw [hsub] at h3
    have h4 : ¬ (sl.length : Int) = (zf.length : Int) - 1 := by simpa using h3
    rw [decide_eq_false h4, Bool.false_and] at hr
    refine .mk (.cons (.eq (.bool ?_)) .nil) rfl
    rw [BE.lit_d, BE.var_d]
    exact hr.symm
  have h3 : ((sl.length : Int) != binDen .sub .i64 (zf.length : Int) 1) = false := g
  rw [hsub] at h3
  have h4 : (sl.length : Int) = (zf.length : Int) - 1 := by simpa using h3
  rw [decide_eq_true h4, Bool.true_and] at hr
  have hsl : sl.length ≤ 100000 := by omega
  clear g h3 h4 hsub hzF
  refine CodeP.loopc hT hm (X := Nat) (fun k => [(8, .int .i64 (.nat k))]) (fun k => k ≤ sl.length ∧ (FF k).Nodup ∧ r = ((sl.drop k).all SB && du)) (fun k => sn - k) 0 ⟨Nat.zero_le _, by rw [hF0]; exact List.nodup_nil, hr⟩ (Nat.zero_le _) ?_ rfl ?_
  · (cbv; (repeat' (first | exact SnD.refl _ | exact trivial | exact SnD.nat0 | refine And.intro ?_ ?_)))
  clear hr
  intro k ⟨hk, hnd, hq⟩
  cbv
  refine SplitP.mk (fun hs => ?_) (fun hs => ?_)
  · have hkn : k < sl.length := by
      have h5 : decide ((k : Int) < (sl.length : Int)) = true := hs
      have := of_decide_eq_true h5
      omega
    clear hs
    refine ElemP.mk (by show (0 : Int) ≤ (k : Int) ∧ (k : Int) < (sl.length : Int); omega) (fun y hy => ?_)
    replace hy : sl[k]? = some y := hy
    rw [drop_cons hy, List.all_cons] at hq
    have q0 := hS0 y
    have q1 := hS1 y
    have q2 := hS2 y
    have q3 := hset (some (.var x3)) y
    have q4 := hD0 k y hy
    have q5 := hDs k y hy hnd
    obtain ⟨sb, hsb⟩ : ∃ b, b = SB y := ⟨_, rfl⟩
    obtain ⟨RY, hRY⟩ : ∃ f, f = RS y := ⟨_, rfl⟩
    rw [← hsb] at hq q0 q1 q2
    rw [← hRY] at q2 q3
    clear hset hsb hRY hS0 hS1 hS2 hDs hD0
    obtain ⟨y1, y2, ⟨y3, y4, y5, y6, y7⟩⟩ := y
    simp only at q0 q1 q2 q4 q5
    cbv
    refine ⟨by kernel_rfl, ?_⟩
    cbv
    refine SplitP.mk (fun g => ?_) (fun g => ?_)
    · have g' : y2 < 1 := of_decide_eq_true (show decide (y2 < 1) = true from g)
      rw [q0 g', Bool.false_and, Bool.false_and] at hq
      refine .mk (.cons (.eq (.bool ?_)) .nil) rfl
      rw [BE.lit_d, BE.var_d]
      exact hq.symm
    have f1 : 1 ≤ y2 := by have h := of_decide_eq_false (show decide (y2 < 1) = false from g); omega
    clear g q0
    refine SplitP.mk (fun g => ?_) (fun g => ?_)
    · have g' : (zf.length : Int) ≤ y2 := of_decide_eq_true (show decide (y2 ≥ (zf.length : Int)) = true from g)
      rw [q1 g', Bool.false_and, Bool.false_and] at hq
      refine .mk (.cons (.eq (.bool ?_)) .nil) rfl
      rw [BE.lit_d, BE.var_d]
      exact hq.symm
    have f2 : y2 < (zf.length : Int) := by have h := of_decide_eq_false (show decide (y2 ≥ (zf.length : Int)) = false from g); omega
    clear g q1
    refine ElemP.mk (by show (0 : Int) ≤ (k : Int) ∧ (k : Int) < (sl.length : Int); omega) (fun zz hzz => ?_)
    replace hzz : sl[k]? = some zz := hzz
    rw [hy] at hzz
    cases hzz
    cbv
    refine ElemP.mk ⟨show 0 ≤ y2 by omega, f2⟩ (fun v hv => ?_)
    replace hv : zf[y2.toNat]? = some v := hv
    have q2 := q2 v f1 hv
    have q3 := q3 v
    obtain ⟨b, hb⟩ : ∃ b, b = RY v := ⟨_, rfl⟩
    rw [← hb] at q2 q3
    rw [q2] at hq
    clear hb hv q2
    obtain ⟨v1, ⟨v2, v3, v4, v5, v6, v7, v8⟩, v9, v10, v11, v12⟩ := v
    cbv
    first
      | refine PureP.mk _ q3 rfl ?_
      | refine CallP.pure _ q3 rfl ?_
    clear q3
    cbv
    refine SplitP.mk (fun g => ?_) (fun g => ?_)
    · have g' : (!b) = true := g
      have g2 : b = false := by simpa using g'
      rw [g2, Bool.false_and, Bool.false_and] at hq
      refine .mk (.cons (.eq (.bool ?_)) .nil) rfl
      rw [BE.lit_d, BE.var_d]
      exact hq.symm
    have g' : (!b) = false := g
    have g2 : b = true := by simpa using g'
    rw [g2, Bool.true_and] at hq
    clear g g' g2
    refine CodeP.loopc hT hm (X := Nat) (fun j => [(10, .int .i64 (.nat j))]) (fun j => j ≤ k ∧ y2 ∉ FF j) (fun j => k - j) 0 ⟨Nat.zero_le _, by rw [hF0]; simp⟩ (Nat.zero_le _) ?_ rfl ?_
    · (cbv; (repeat' (first | exact SnD.refl _ | exact trivial | exact SnD.nat0 | refine And.intro ?_ ?_)))
    intro j ⟨hj, hnm⟩
    cbv
    refine SplitP.mk (fun hs => ?_) (fun hs => ?_)
    · have hjk : j < k := by have h := of_decide_eq_true (show decide ((j : Int) < (k : Int)) = true from hs); omega
      clear hs
      have hjl : j < sl.length := by omega
      refine ElemP.mk (by show (0 : Int) ≤ (j : Int) ∧ (j : Int) < (sl.length : Int); omega) (fun w hw => ?_)
      replace hw : sl[j]? = some w := hw
      have e1 := hFs j w hw
      have e2 := hFm j k w hw hjk
      clear hw
      obtain ⟨w1, w2, ⟨w3, w4, w5, w6, w7⟩⟩ := w
      simp only at e1 e2
      cbv
      refine SplitP.mk (fun h => ?_) (fun h => ?_)
      · have h3 : (w2 == y2) = true := h
        have h4 : w2 = y2 := by simpa using h3
        rw [h4] at e2
        rw [q4 e2, Bool.and_false] at hq
        refine .mk (.cons (.eq (.bool ?_)) .nil) rfl
        rw [BE.lit_d, BE.var_d]
        exact hq.symm
      have h3 : (w2 == y2) = false := h
      have h4 : w2 ≠ y2 := by simpa using h3
      refine BackP.intro (j + 1) ⟨by omega, by rw [e1]; simp only [List.mem_append, List.mem_singleton]; rintro (q | q); exact hnm q; exact h4 q.symm⟩ (by show k - (j + 1) < k - j; omega) ⟨?_, ?_, rfl⟩
      · (cbv; (repeat' (first | exact SnD.refl _ | exact trivial | exact SnD.nat0 | refine And.intro ?_ ?_)))
        exact .inc (by omega)
      · (cbv; (repeat' (first | exact trivial | exact BkEq.refl _ | exact SnD.refl _ | exact SnDs.nil | refine BkEq.cells ?_ | refine SnDs.cons ?_ ?_ | refine And.intro ?_ ?_)))
    have hjk : j = k := by have h := of_decide_eq_false (show decide ((j : Int) < (k : Int)) = false from hs); omega
    clear hs
    rw [hjk] at hnm
    refine BackP.intro (k + 1) ⟨by omega, q5 hnm, hq⟩ (by show sn - (k + 1) < sn - k; omega) ⟨?_, ?_, rfl⟩
    · (cbv; (repeat' (first | exact SnD.refl _ | exact trivial | exact SnD.nat0 | refine And.intro ?_ ?_)))
      exact .inc (by omega)
    · (cbv; (repeat' (first | exact trivial | exact BkEq.refl _ | exact SnD.refl _ | exact SnDs.nil | refine BkEq.cells ?_ | refine SnDs.cons ?_ ?_ | refine And.intro ?_ ?_)))
  · have hkn : sl.length ≤ k := by
      have h5 : decide ((k : Int) < (sl.length : Int)) = false := hs
      have := of_decide_eq_false h5
      omega
    clear hs
    have hkl : k = sl.length := by omega
    rw [hkl] at hnd
    rw [List.drop_of_length_le (by omega), List.all_nil, Bool.true_and, hD1 hnd] at hq
    refine .mk (.cons (.eq (.bool ?_)) .nil) rfl
    rw [BE.lit_d, BE.var_d]
    exact hq.symm
end Go.Proofs.YtdhfakajlnidiaaGreat
namespace Go.Proofs.YtdhfakajlnidiaaGreat
open Go.RowKit

/-! The reference of chapter 12: Check. -/
set_option maxRecDepth 100000 in
set_option maxHeartbeats 4000000 in
theorem rCheck12L_pure (S : SourceD) (hL : S.lens) : Pure Tryz.prog 22 [.agg S.c] (i64 (rcheckB S)) := by
  have hU : ∀ (k : Nat) (u : UnitD), S.units[k]? = some u → Pure Tryz.prog 45 [.agg S.c, .int .i64 (.nat k)] (boolD (unitB S.units u)) := fun k u h => runit_pure S k u h
  have hS : ∀ (k : Nat) (x : SchemaD), S.schemas[k]? = some x → Pure Tryz.prog 46 [.agg S.c, .agg x.c] (boolD (schB S x)) := fun k x h => rschema_pure S x (fun f hf => hL.ns x (List.mem_of_getElem? h) f hf)
  have hR : S.schemas.all (schB S) = true → ∀ x : RuleD, Pure Tryz.prog 47 [.agg S.c, .agg x.c] (boolD (rruleB S x)) := fun h2 x => rrule_pure S x (good_of h2) (fun y hy => by have := (schB_head (List.all_eq_true.1 h2 y hy)).1; omega)
  have hT2 : ∀ x : RefD, Pure Tryz.prog 48 [.agg S.c, i64 x.schema, i64 x.field] (boolD (refIn S x)) := fun x => There_pure S x.schema x.field
  obtain ⟨r, hr⟩ : ∃ r, r = rcheckB S := ⟨_, rfl⟩
  rw [← hr]
  unfold rcheckB restB at hr
  obtain ⟨lm, hlm⟩ : ∃ b, b = limB S := ⟨_, rfl⟩
  obtain ⟨UB, hUB⟩ : ∃ b, b = unitB S.units := ⟨_, rfl⟩
  obtain ⟨SB, hSB⟩ : ∃ b, b = schB S := ⟨_, rfl⟩
  obtain ⟨RB, hRB⟩ : ∃ b, b = rruleB S := ⟨_, rfl⟩
  obtain ⟨PB, hPB⟩ : ∃ b, b = rpurpB S := ⟨_, rfl⟩
  have hPe : ∀ x : PurposeD, rpurpB S x = ((decide (0 ≤ x.most) && decide (x.most ≤ 64)) && x.may.all (refIn S)) := fun x => rfl
  obtain ⟨RI, hRI⟩ : ∃ b, b = refIn S := ⟨_, rfl⟩
  rw [← hPB, ← hRI] at hPe
  rw [← hRI] at hT2
  rw [← hlm, ← hUB, ← hSB, ← hRB, ← hPB] at hr
  rw [← hUB] at hU
  rw [← hSB] at hS hR
  rw [← hRB] at hR
  unfold limB at hlm
  clear hUB hSB hRB hPB hRI hL
  obtain ⟨u, hu⟩ : ∃ b, b = S.units.all UB := ⟨_, rfl⟩
  obtain ⟨sb, hsb⟩ : ∃ b, b = S.schemas.all SB := ⟨_, rfl⟩
  obtain ⟨rb, hrb⟩ : ∃ b, b = S.rules.all RB := ⟨_, rfl⟩
  obtain ⟨pb, hpb⟩ : ∃ b, b = S.purposes.all PB := ⟨_, rfl⟩
  obtain ⟨an, han⟩ : ∃ b, b = S.purposes.any fun x => decide (64 < x.may.length) := ⟨_, rfl⟩
  have hpl : an = false → ∀ x ∈ S.purposes, x.may.length ≤ 64 := fun h x hx => by
    rw [han] at h
    have := List.any_eq_false.1 h x hx
    simp only [decide_eq_true_eq] at this
    omega
  rw [← hu, ← hsb, ← hrb, ← hpb] at hr
  rw [← hsb] at hR
  rw [← han] at hlm
  obtain ⟨ni, is, nu, us, ns, ss, nr, rs, nc, cs, np, ps⟩ := S
  simp only at hU hS hR hT2 hu hsb hrb hpb han hlm hpl
  obtain ⟨un, hun⟩ : ∃ n : Nat, n = us.length := ⟨_, rfl⟩
  obtain ⟨sn, hsn⟩ : ∃ n : Nat, n = ss.length := ⟨_, rfl⟩
  obtain ⟨rn, hrn⟩ : ∃ n : Nat, n = rs.length := ⟨_, rfl⟩
  obtain ⟨pn, hpn⟩ : ∃ n : Nat, n = ps.length := ⟨_, rfl⟩
  refine Pure.intro (want := [i64 r]) T_ok follows Tryz.func22 rfl (by kernel_rfl) (rs := [.tmp 2]) rfl (by kernel_rfl) ?_
  generalize hP : Tryz.prog = P at *
  have hT : T.ok P := hP ▸ T_ok
  have hm : P.follows .mixedOrders = true := hP ▸ follows
  unfold Tryz.f22
  dsimp only
  cbv
  refine SplitP.mk (fun g => ?_) (fun g => ?_)
  · have g' : ¬ is.length ≤ 8 := by have h := of_decide_eq_true (show decide ((is.length : Int) > 8) = true from g); omega
    rw [decide_eq_false g'] at hlm
    simp only [Bool.false_and, Bool.and_false] at hlm
    rw [hlm, if_neg (by decide)] at hr
    refine .mk (.cons (.eq (.int ?_)) .nil) rfl
    show (2 : Int) = r
    exact hr.symm
  have l0 : is.length ≤ 8 := by have h := of_decide_eq_false (show decide ((is.length : Int) > 8) = false from g); omega
  rw [decide_eq_true l0] at hlm
  clear g
  refine SplitP.mk (fun g => ?_) (fun g => ?_)
  · have g' : ¬ us.length ≤ 64 := by have h := of_decide_eq_true (show decide ((us.length : Int) > 64) = true from g); omega
    rw [decide_eq_false g'] at hlm
    simp only [Bool.false_and, Bool.and_false] at hlm
    rw [hlm, if_neg (by decide)] at hr
    refine .mk (.cons (.eq (.int ?_)) .nil) rfl
    show (2 : Int) = r
    exact hr.symm
  have l1 : us.length ≤ 64 := by have h := of_decide_eq_false (show decide ((us.length : Int) > 64) = false from g); omega
  rw [decide_eq_true l1] at hlm
  clear g
  refine SplitP.mk (fun g => ?_) (fun g => ?_)
  · have g' : ¬ ss.length ≤ 16 := by have h := of_decide_eq_true (show decide ((ss.length : Int) > 16) = true from g); omega
    rw [decide_eq_false g'] at hlm
    simp only [Bool.false_and, Bool.and_false] at hlm
    rw [hlm, if_neg (by decide)] at hr
    refine .mk (.cons (.eq (.int ?_)) .nil) rfl
    show (2 : Int) = r
    exact hr.symm
  have l2 : ss.length ≤ 16 := by have h := of_decide_eq_false (show decide ((ss.length : Int) > 16) = false from g); omega
  rw [decide_eq_true l2] at hlm
  clear g
  refine SplitP.mk (fun g => ?_) (fun g => ?_)
  · have g' : ¬ rs.length ≤ 16 := by have h := of_decide_eq_true (show decide ((rs.length : Int) > 16) = true from g); omega
    rw [decide_eq_false g'] at hlm
    simp only [Bool.false_and, Bool.and_false] at hlm
    rw [hlm, if_neg (by decide)] at hr
    refine .mk (.cons (.eq (.int ?_)) .nil) rfl
    show (2 : Int) = r
    exact hr.symm
  have l3 : rs.length ≤ 16 := by have h := of_decide_eq_false (show decide ((rs.length : Int) > 16) = false from g); omega
  rw [decide_eq_true l3] at hlm
  clear g
  refine SplitP.mk (fun g => ?_) (fun g => ?_)
  · have g' : ¬ cs.length ≤ 16 := by have h := of_decide_eq_true (show decide ((cs.length : Int) > 16) = true from g); omega
    rw [decide_eq_false g'] at hlm
    simp only [Bool.false_and, Bool.and_false] at hlm
    rw [hlm, if_neg (by decide)] at hr
    refine .mk (.cons (.eq (.int ?_)) .nil) rfl
    show (2 : Int) = r
    exact hr.symm
  have l4 : cs.length ≤ 16 := by have h := of_decide_eq_false (show decide ((cs.length : Int) > 16) = false from g); omega
  rw [decide_eq_true l4] at hlm
  clear g
  refine SplitP.mk (fun g => ?_) (fun g => ?_)
  · have g' : ¬ ps.length ≤ 8 := by have h := of_decide_eq_true (show decide ((ps.length : Int) > 8) = true from g); omega
    rw [decide_eq_false g'] at hlm
    simp only [Bool.false_and, Bool.and_false] at hlm
    rw [hlm, if_neg (by decide)] at hr
    refine .mk (.cons (.eq (.int ?_)) .nil) rfl
    show (2 : Int) = r
    exact hr.symm
  have l5 : ps.length ≤ 8 := by have h := of_decide_eq_false (show decide ((ps.length : Int) > 8) = false from g); omega
  rw [decide_eq_true l5] at hlm
  clear g
  simp only [Bool.true_and] at hlm
  refine CodeP.loopc hT hm (X := Nat) (fun k => [(3, .int .i64 (.nat k))]) (fun k => k ≤ ps.length ∧ an = (ps.drop k).any fun x => decide (64 < x.may.length)) (fun k => pn - k) 0 ⟨Nat.zero_le _, han⟩ (Nat.zero_le _) ?_ rfl ?_
  · (cbv; (repeat' (first | exact SnD.refl _ | exact trivial | exact SnD.nat0 | refine And.intro ?_ ?_)))
  clear han
  intro k ⟨hk, hq⟩
  cbv
  refine SplitP.mk (fun hs => ?_) (fun hs => ?_)
  · have hkn : k < ps.length := by
      have h5 : decide ((k : Int) < (ps.length : Int)) = true := hs
      have := of_decide_eq_true h5
      omega
    clear hs
    refine ElemP.mk (by show (0 : Int) ≤ (k : Int) ∧ (k : Int) < (ps.length : Int); omega) (fun y hy => ?_)
    replace hy : ps[k]? = some y := hy
    rw [drop_cons hy, List.any_cons] at hq
    clear hU hS hR hT2 hPe hpl hy
    obtain ⟨y1, y2, ml, y4⟩ := y
    simp only at hq
    cbv
    refine SplitP.mk (fun g => ?_) (fun g => ?_)
    · have g' : 64 < ml.length := by have h := of_decide_eq_true (show decide ((ml.length : Int) > 64) = true from g); omega
      rw [decide_eq_true g', Bool.true_or] at hq
      rw [hq] at hlm
      rw [hlm, if_neg (by decide)] at hr
      refine .mk (.cons (.eq (.int ?_)) .nil) rfl
      show (2 : Int) = r
      exact hr.symm
    have g' : ¬ 64 < ml.length := by have h := of_decide_eq_false (show decide ((ml.length : Int) > 64) = false from g); omega
    rw [decide_eq_false g', Bool.false_or] at hq
    refine BackP.intro (k + 1) ⟨by omega, hq⟩ (by show pn - (k + 1) < pn - k; omega) ⟨?_, ?_, rfl⟩
    · (cbv; (repeat' (first | exact SnD.refl _ | exact trivial | exact SnD.nat0 | refine And.intro ?_ ?_)))
      exact .inc (by omega)
    · (cbv; (repeat' (first | exact trivial | exact BkEq.refl _ | exact SnD.refl _ | exact SnDs.nil | refine BkEq.cells ?_ | refine SnDs.cons ?_ ?_ | refine And.intro ?_ ?_)))
  have hkn : ps.length ≤ k := by
    have h5 : decide ((k : Int) < (ps.length : Int)) = false := hs
    have := of_decide_eq_false h5
    omega
  clear hs
  rw [List.drop_of_length_le (by omega), List.any_nil] at hq
  replace hpl := hpl hq
  rw [hq, Bool.not_false] at hlm
  rw [hlm, if_pos rfl] at hr
  clear hq hlm hk hkn
  refine CodeP.loopc hT hm (X := Nat) (fun k => [(4, .int .i64 (.nat k))]) (fun k => k ≤ us.length ∧ u = (us.drop k).all UB) (fun k => un - k) 0 ⟨Nat.zero_le _, hu⟩ (Nat.zero_le _) ?_ rfl ?_
  · (cbv; (repeat' (first | exact SnD.refl _ | exact trivial | exact SnD.nat0 | refine And.intro ?_ ?_)))
  clear hu
  intro k ⟨hk, hq⟩
  cbv
  refine SplitP.mk (fun hs => ?_) (fun hs => ?_)
  · have hkn : k < us.length := by
      have h5 : decide ((k : Int) < (us.length : Int)) = true := hs
      have := of_decide_eq_true h5
      omega
    clear hs
    obtain ⟨y, hy⟩ : ∃ y, us[k]? = some y := ⟨_, List.getElem?_eq_getElem hkn⟩
    rw [drop_cons hy, List.all_cons] at hq
    have hp := hU k y hy
    obtain ⟨b, hb⟩ : ∃ b, b = UB y := ⟨_, rfl⟩
    rw [← hb] at hp hq
    clear hU hS hR hT2 hPe hpl hy hb
    refine CallP.pure _ hp rfl ?_
    clear hp
    cbv
    refine SplitP.mk (fun g => ?_) (fun g => ?_)
    · have g' : (!b) = true := g
      have g2 : b = false := by simpa using g'
      rw [g2, Bool.false_and] at hq
      rw [hq, Bool.false_and, if_neg (by decide)] at hr
      refine .mk (.cons (.eq (.int ?_)) .nil) rfl
      show (120 : Int) = r
      exact hr.symm
    have g' : (!b) = false := g
    have g2 : b = true := by simpa using g'
    rw [g2, Bool.true_and] at hq
    refine BackP.intro (k + 1) ⟨by omega, hq⟩ (by show un - (k + 1) < un - k; omega) ⟨?_, ?_, rfl⟩
    · (cbv; (repeat' (first | exact SnD.refl _ | exact trivial | exact SnD.nat0 | refine And.intro ?_ ?_)))
      exact .inc (by omega)
    · (cbv; (repeat' (first | exact trivial | exact BkEq.refl _ | exact SnD.refl _ | exact SnDs.nil | refine BkEq.cells ?_ | refine SnDs.cons ?_ ?_ | refine And.intro ?_ ?_)))
  have hkn : us.length ≤ k := by
    have h5 : decide ((k : Int) < (us.length : Int)) = false := hs
    have := of_decide_eq_false h5
    omega
  clear hs
  rw [List.drop_of_length_le (by omega), List.all_nil] at hq
  clear hk hkn
  rw [hq, Bool.true_and] at hr
  clear hq hU
  refine CodeP.loopc hT hm (X := Nat) (fun k => [(5, .int .i64 (.nat k))]) (fun k => k ≤ ss.length ∧ sb = (ss.drop k).all SB) (fun k => sn - k) 0 ⟨Nat.zero_le _, hsb⟩ (Nat.zero_le _) ?_ rfl ?_
  · (cbv; (repeat' (first | exact SnD.refl _ | exact trivial | exact SnD.nat0 | refine And.intro ?_ ?_)))
  clear hsb
  intro k ⟨hk, hq⟩
  cbv
  refine SplitP.mk (fun hs => ?_) (fun hs => ?_)
  · have hkn : k < ss.length := by
      have h5 : decide ((k : Int) < (ss.length : Int)) = true := hs
      have := of_decide_eq_true h5
      omega
    clear hs
    refine ElemP.mk (by show (0 : Int) ≤ (k : Int) ∧ (k : Int) < (ss.length : Int); omega) (fun y hy => ?_)
    replace hy : ss[k]? = some y := hy
    rw [drop_cons hy, List.all_cons] at hq
    have hp := hS k y hy
    obtain ⟨b, hb⟩ : ∃ b, b = SB y := ⟨_, rfl⟩
    rw [← hb] at hp hq
    clear hS hR hT2 hPe hpl hy hb
    obtain ⟨y1, y2, y3, y4, y5, y6, y7, y8⟩ := y
    cbv
    first
      | refine PureP.mk _ hp rfl ?_
      | refine CallP.pure _ hp rfl ?_
    clear hp
    cbv
    refine SplitP.mk (fun g => ?_) (fun g => ?_)
    · have g' : (!b) = true := g
      have g2 : b = false := by simpa using g'
      rw [g2, Bool.false_and] at hq
      rw [hq, Bool.false_and, if_neg (by decide)] at hr
      refine .mk (.cons (.eq (.int ?_)) .nil) rfl
      show (120 : Int) = r
      exact hr.symm
    have g' : (!b) = false := g
    have g2 : b = true := by simpa using g'
    rw [g2, Bool.true_and] at hq
    refine BackP.intro (k + 1) ⟨by omega, hq⟩ (by show sn - (k + 1) < sn - k; omega) ⟨?_, ?_, rfl⟩
    · (cbv; (repeat' (first | exact SnD.refl _ | exact trivial | exact SnD.nat0 | refine And.intro ?_ ?_)))
      exact .inc (by omega)
    · (cbv; (repeat' (first | exact trivial | exact BkEq.refl _ | exact SnD.refl _ | exact SnDs.nil | refine BkEq.cells ?_ | refine SnDs.cons ?_ ?_ | refine And.intro ?_ ?_)))
  have hkn : ss.length ≤ k := by
    have h5 : decide ((k : Int) < (ss.length : Int)) = false := hs
    have := of_decide_eq_false h5
    omega
  clear hs
  rw [List.drop_of_length_le (by omega), List.all_nil] at hq
  clear hk hkn
  rw [hq, Bool.true_and] at hr
  replace hR := hR hq
  clear hq hS
  refine CodeP.loopc hT hm (X := Nat) (fun k => [(6, .int .i64 (.nat k))]) (fun k => k ≤ rs.length ∧ rb = (rs.drop k).all RB) (fun k => rn - k) 0 ⟨Nat.zero_le _, hrb⟩ (Nat.zero_le _) ?_ rfl ?_
  · (cbv; (repeat' (first | exact SnD.refl _ | exact trivial | exact SnD.nat0 | refine And.intro ?_ ?_)))
  clear hrb
  intro k ⟨hk, hq⟩
  cbv
  refine SplitP.mk (fun hs => ?_) (fun hs => ?_)
  · have hkn : k < rs.length := by
      have h5 : decide ((k : Int) < (rs.length : Int)) = true := hs
      have := of_decide_eq_true h5
      omega
    clear hs
    refine ElemP.mk (by show (0 : Int) ≤ (k : Int) ∧ (k : Int) < (rs.length : Int); omega) (fun y hy => ?_)
    replace hy : rs[k]? = some y := hy
    rw [drop_cons hy, List.all_cons] at hq
    have hp := hR y
    obtain ⟨b, hb⟩ : ∃ b, b = RB y := ⟨_, rfl⟩
    rw [← hb] at hp hq
    clear hR hT2 hPe hpl hy hb
    obtain ⟨y1, y2, y3, y4, y5, y6, y7, y8⟩ := y
    cbv
    first
      | refine PureP.mk _ hp rfl ?_
      | refine CallP.pure _ hp rfl ?_
    clear hp
    cbv
    refine SplitP.mk (fun g => ?_) (fun g => ?_)
    · have g' : (!b) = true := g
      have g2 : b = false := by simpa using g'
      rw [g2, Bool.false_and] at hq
      rw [hq, Bool.false_and, if_neg (by decide)] at hr
      refine .mk (.cons (.eq (.int ?_)) .nil) rfl
      show (120 : Int) = r
      exact hr.symm
    have g' : (!b) = false := g
    have g2 : b = true := by simpa using g'
    rw [g2, Bool.true_and] at hq
    refine BackP.intro (k + 1) ⟨by omega, hq⟩ (by show rn - (k + 1) < rn - k; omega) ⟨?_, ?_, rfl⟩
    · (cbv; (repeat' (first | exact SnD.refl _ | exact trivial | exact SnD.nat0 | refine And.intro ?_ ?_)))
      exact .inc (by omega)
    · (cbv; (repeat' (first | exact trivial | exact BkEq.refl _ | exact SnD.refl _ | exact SnDs.nil | refine BkEq.cells ?_ | refine SnDs.cons ?_ ?_ | refine And.intro ?_ ?_)))
  have hkn : rs.length ≤ k := by
    have h5 : decide ((k : Int) < (rs.length : Int)) = false := hs
    have := of_decide_eq_false h5
    omega
  clear hs
  rw [List.drop_of_length_le (by omega), List.all_nil] at hq
  clear hk hkn
  rw [hq, Bool.true_and] at hr
  clear hq hR
  refine CodeP.loopc hT hm (X := Nat) (fun k => [(7, .int .i64 (.nat k))]) (fun k => k ≤ ps.length ∧ pb = (ps.drop k).all PB) (fun k => pn - k) 0 ⟨Nat.zero_le _, hpb⟩ (Nat.zero_le _) ?_ rfl ?_
  · (cbv; (repeat' (first | exact SnD.refl _ | exact trivial | exact SnD.nat0 | refine And.intro ?_ ?_)))
  clear hpb
  intro k ⟨hk, hq⟩
  cbv
  refine SplitP.mk (fun hs => ?_) (fun hs => ?_)
  · have hkn : k < ps.length := by
      have h5 : decide ((k : Int) < (ps.length : Int)) = true := hs
      have := of_decide_eq_true h5
      omega
    clear hs
    refine ElemP.mk (by show (0 : Int) ≤ (k : Int) ∧ (k : Int) < (ps.length : Int); omega) (fun y hy => ?_)
    replace hy : ps[k]? = some y := hy
    rw [drop_cons hy, List.all_cons, hPe] at hq
    have hml := hpl y (List.mem_of_getElem? hy)
    clear hPe hpl hy
    obtain ⟨y1, y2, ml, y4⟩ := y
    simp only at hq hml
    obtain ⟨mn, hmn⟩ : ∃ n : Nat, n = ml.length := ⟨_, rfl⟩
    obtain ⟨pr, hpr⟩ : ∃ b, b = (ps.drop (k + 1)).all PB := ⟨_, rfl⟩
    rw [← hpr] at hq
    cbv
    refine SplitP.mk (fun g => ?_) (fun g => ?_)
    · have g' : ¬ 0 ≤ y4 := by have h := of_decide_eq_true (show decide (y4 < 0) = true from g); omega
      rw [decide_eq_false g', Bool.false_and, Bool.false_and, Bool.false_and] at hq
      rw [hq, if_neg (by decide)] at hr
      refine .mk (.cons (.eq (.int ?_)) .nil) rfl
      show (120 : Int) = r
      exact hr.symm
    have g1 : 0 ≤ y4 := by have h := of_decide_eq_false (show decide (y4 < 0) = false from g); omega
    rw [decide_eq_true g1, Bool.true_and] at hq
    clear g
    refine SplitP.mk (fun g => ?_) (fun g => ?_)
    · have g' : ¬ y4 ≤ 64 := by have h := of_decide_eq_true (show decide (y4 > 64) = true from g); omega
      rw [decide_eq_false g', Bool.false_and, Bool.false_and] at hq
      rw [hq, if_neg (by decide)] at hr
      refine .mk (.cons (.eq (.int ?_)) .nil) rfl
      show (120 : Int) = r
      exact hr.symm
    have g2 : y4 ≤ 64 := by have h := of_decide_eq_false (show decide (y4 > 64) = false from g); omega
    rw [decide_eq_true g2, Bool.true_and] at hq
    clear g
    refine CodeP.loopc hT hm (X := Nat) (fun j => [(9, .int .i64 (.nat j))]) (fun j => j ≤ ml.length ∧ pb = ((ml.drop j).all RI && pr)) (fun j => mn - j) 0 ⟨Nat.zero_le _, hq⟩ (Nat.zero_le _) ?_ rfl ?_
    · (cbv; (repeat' (first | exact SnD.refl _ | exact trivial | exact SnD.nat0 | refine And.intro ?_ ?_)))
    clear hq
    intro j ⟨hj, hq⟩
    cbv
    refine SplitP.mk (fun hs => ?_) (fun hs => ?_)
    · have hjn : j < ml.length := by have h := of_decide_eq_true (show decide ((j : Int) < (ml.length : Int)) = true from hs); omega
      clear hs
      refine ElemP.mk (by show (0 : Int) ≤ (j : Int) ∧ (j : Int) < (ml.length : Int); omega) (fun z hz => ?_)
      replace hz : ml[j]? = some z := hz
      rw [drop_cons hz, List.all_cons] at hq
      have hp := hT2 z
      obtain ⟨b, hb⟩ : ∃ b, b = RI z := ⟨_, rfl⟩
      rw [← hb] at hp hq
      clear hT2 hb
      obtain ⟨z1, z2, z3, z4⟩ := z
      cbv
      refine ElemP.mk (by show (0 : Int) ≤ (j : Int) ∧ (j : Int) < (ml.length : Int); omega) (fun zz hzz => ?_)
      replace hzz : ml[j]? = some zz := hzz
      rw [hz] at hzz
      cases hzz
      cbv
      first
        | refine PureP.mk _ hp rfl ?_
        | refine CallP.pure _ hp rfl ?_
      clear hp hz
      cbv
      refine SplitP.mk (fun g => ?_) (fun g => ?_)
      · have g' : (!b) = true := g
        have g2 : b = false := by simpa using g'
        rw [g2, Bool.false_and, Bool.false_and] at hq
        rw [hq, if_neg (by decide)] at hr
        refine .mk (.cons (.eq (.int ?_)) .nil) rfl
        show (120 : Int) = r
        exact hr.symm
      have g' : (!b) = false := g
      have g2 : b = true := by simpa using g'
      rw [g2, Bool.true_and] at hq
      refine BackP.intro (j + 1) ⟨by omega, hq⟩ (by show mn - (j + 1) < mn - j; omega) ⟨?_, ?_, rfl⟩
      · (cbv; (repeat' (first | exact SnD.refl _ | exact trivial | exact SnD.nat0 | refine And.intro ?_ ?_)))
        exact .inc (by omega)
      · (cbv; (repeat' (first | exact trivial | exact BkEq.refl _ | exact SnD.refl _ | exact SnDs.nil | refine BkEq.cells ?_ | refine SnDs.cons ?_ ?_ | refine And.intro ?_ ?_)))
    have hjn : ml.length ≤ j := by have h := of_decide_eq_false (show decide ((j : Int) < (ml.length : Int)) = false from hs); omega
    clear hs
    rw [List.drop_of_length_le hjn, List.all_nil, Bool.true_and] at hq
    refine BackP.intro (k + 1) ⟨by omega, hq.trans hpr⟩ (by show pn - (k + 1) < pn - k; omega) ⟨?_, ?_, rfl⟩
    · (cbv; (repeat' (first | exact SnD.refl _ | exact trivial | exact SnD.nat0 | refine And.intro ?_ ?_)))
      exact .inc (by omega)
    · (cbv; (repeat' (first | exact trivial | exact BkEq.refl _ | exact SnD.refl _ | exact SnDs.nil | refine BkEq.cells ?_ | refine SnDs.cons ?_ ?_ | refine And.intro ?_ ?_)))
  have hkn : ps.length ≤ k := by
    have h5 : decide ((k : Int) < (ps.length : Int)) = false := hs
    have := of_decide_eq_false h5
    omega
  clear hs
  rw [List.drop_of_length_le (by omega), List.all_nil] at hq
  rw [hq, if_pos rfl] at hr
  refine .mk (.cons (.eq (.int ?_)) .nil) rfl
  show (0 : Int) = r
  exact hr.symm
set_option maxRecDepth 100000 in
set_option maxHeartbeats 4000000 in
theorem rCheck12_pure (S : SourceD) : Pure Tryz.prog 22 [.agg S.c] (i64 (rcheckB S)) :=
  Pure.lens ⟨_, _, Tryz.func22, rfl, by kernel_rfl⟩ (rCheck12L_pure S)
end Go.Proofs.YtdhfakajlnidiaaGreat
namespace Go.Proofs.YtdhfakajlnidiaaGreat
open Go.RowKit

/-! The reference's order: again and again the least one that needs only what is in the list. -/
def canB (n : Nat) (nd : Int → Int → Bool) (l : List Int) (a : Int) : Bool := (List.range n).all fun b => !nd a (b : Int) || decide ((b : Int) ∈ l)
theorem canB_needC (n : Nat) (nd : Int → Int → Bool) (l : List Int) (a : Int) : canB n nd l a = decide (needC n nd l a = 0) := by
  rw [Bool.eq_iff_iff, decide_eq_true_eq, needC_zero]
  unfold canB
  rw [List.all_eq_true]
  refine ⟨fun h b hb hn => ?_, fun h b hb => ?_⟩
  · have := h b (List.mem_range.2 hb)
    rw [hn] at this
    simpa using this
  · cases hn : nd a (b : Int) with
    | false => rfl
    | true => simpa using h b (List.mem_range.1 hb) hn
theorem readyB_can (n : Nat) (nd : Int → Int → Bool) (l : List Int) (i : Nat) : readyB n nd l i = (!decide ((i : Int) ∈ l) && canB n nd l i) := by
  unfold readyB
  rw [canB_needC]
  simp
set_option maxRecDepth 100000 in
set_option maxHeartbeats 4000000 in
theorem can_pure (S : SourceD) (l : List Int) (nb : Option BE) (a : Int) (h : SmallS S) (hl : l.length < 9223372036854775807) : Pure Tryz.prog 20 [.agg S.c, .slm 1 nb intC l, i64 a] (boolD (canB S.schemas.length (needsB S.rules) l a)) := by
  have hN : ∀ k : Nat, Pure Tryz.prog 34 [.agg S.c, i64 a, .int .i64 (.nat k)] (boolD (needsB S.rules a k)) := fun k =>
    Pure.args (.cons (.refl _) (.cons (.refl _) (.cons (.int (e := .nat k) (e' := .var (k : Int)) rfl) .nil))) (Needs_pure S a k (by have := h.r; omega) (fun r hr => by have := h.f r hr; omega))
  have hH : ∀ k : Nat, Pure Tryz.prog 19 [.slm 1 nb intC l, .int .i64 (.nat k)] (boolD (decide ((k : Int) ∈ l))) := fun k =>
    Pure.args (.cons (.refl _) (.cons (.int (e := .nat k) (e' := .var (k : Int)) rfl) .nil)) (has_pure l nb k hl)
  have hn7 := h.n
  obtain ⟨r, hr⟩ : ∃ r, r = canB S.schemas.length (needsB S.rules) l a := ⟨_, rfl⟩
  rw [← hr]
  unfold canB at hr
  obtain ⟨NB, hNB⟩ : ∃ f : Nat → Bool, f = fun k : Nat => needsB S.rules a (k : Int) := ⟨_, rfl⟩
  obtain ⟨HB, hHB⟩ : ∃ f : Nat → Bool, f = fun k : Nat => decide ((k : Int) ∈ l) := ⟨_, rfl⟩
  obtain ⟨ALL, hA⟩ : ∃ f : Nat → Bool, f = fun k => (List.range' k (S.schemas.length - k)).all fun b => !NB b || HB b := ⟨_, rfl⟩
  replace hr : r = ALL 0 := by
    rw [hr, hA, hNB, hHB]
    simp only [Nat.sub_zero]
    rw [List.range_eq_range']
  have hAs : ∀ k, k < S.schemas.length → ALL k = ((!NB k || HB k) && ALL (k + 1)) := fun k hk => by
    rw [hA]
    simp only
    rw [show S.schemas.length - k = (S.schemas.length - (k + 1)) + 1 by omega, List.range'_succ, List.all_cons]
  have hAe : ALL S.schemas.length = true := by rw [hA]; simp
  replace hN : ∀ k : Nat, Pure Tryz.prog 34 [.agg S.c, i64 a, .int .i64 (.nat k)] (boolD (NB k)) := fun k => by rw [hNB]; exact hN k
  replace hH : ∀ k : Nat, Pure Tryz.prog 19 [.slm 1 nb intC l, .int .i64 (.nat k)] (boolD (HB k)) := fun k => by rw [hHB]; exact hH k
  clear hA hNB hHB h
  obtain ⟨ni, is, nu, us, ns, ss, nr, rs, nc, cs, np, ps⟩ := S
  simp only at hAs hAe hn7
  obtain ⟨n, hn⟩ : ∃ n : Nat, n = ss.length := ⟨_, rfl⟩
  refine Pure.intro (want := [boolD r]) T_ok follows Tryz.func20 rfl (by kernel_rfl) (rs := [.tmp 6]) rfl (by kernel_rfl) ?_
  generalize hP : Tryz.prog = P at *
  have hT : T.ok P := hP ▸ T_ok
  have hm : P.follows .mixedOrders = true := hP ▸ follows
  unfold Tryz.f20
  dsimp only
  cbv
  refine CodeP.loopc hT hm (X := Nat) (fun k => [(7, .int .i64 (.nat k))]) (fun k => k ≤ ss.length ∧ r = ALL k) (fun k => n - k) 0 ⟨Nat.zero_le _, hr⟩ (Nat.zero_le _) ?_ rfl ?_
  · (cbv; (repeat' (first | exact SnD.refl _ | exact trivial | exact SnD.nat0 | refine And.intro ?_ ?_)))
  clear hr
  intro k ⟨hk, hq⟩
  cbv
  refine SplitP.mk (fun hs => ?_) (fun hs => ?_)
  · have hkn : k < ss.length := by
      have h5 : decide ((k : Int) < (ss.length : Int)) = true := hs
      have := of_decide_eq_true h5
      omega
    clear hs
    rw [hAs k hkn] at hq
    have h1 := hN k
    have h2 := hH k
    obtain ⟨b1, hb1⟩ : ∃ b, b = NB k := ⟨_, rfl⟩
    obtain ⟨b2, hb2⟩ : ∃ b, b = HB k := ⟨_, rfl⟩
    rw [← hb1] at h1 hq
    rw [← hb2] at h2 hq
    clear hb1 hb2 hN hH hAs hAe
    refine CallP.pure _ h1 rfl ?_
    clear h1
    cbv
    cases b1 with
    | false =>
      refine SplitP.mk (fun h => absurd (show false = true from h) (by decide)) (fun _ => ?_)
      rw [Bool.not_false, Bool.true_or, Bool.true_and] at hq
      repeat' (first | refine SplitP.mk (fun h => absurd (show false = true from h) (by decide)) (fun _ => ?_) | refine SplitP.mk (fun _ => ?_) (fun h => absurd (show true = false from h) (by decide)))
      refine BackP.intro (k + 1) ⟨by omega, hq⟩ (by show n - (k + 1) < n - k; omega) ⟨?_, ?_, rfl⟩
      · (cbv; (repeat' (first | exact SnD.refl _ | exact trivial | exact SnD.nat0 | refine And.intro ?_ ?_)))
        exact .inc (by omega)
      · (cbv; (repeat' (first | exact trivial | exact BkEq.refl _ | exact SnD.refl _ | exact SnDs.nil | refine BkEq.cells ?_ | refine SnDs.cons ?_ ?_ | refine And.intro ?_ ?_)))
    | true =>
      refine SplitP.mk (fun _ => ?_) (fun h => absurd (show true = false from h) (by decide))
      rw [Bool.not_true, Bool.false_or] at hq
      refine CallP.pure _ h2 rfl ?_
      clear h2
      cbv
      cases b2 with
      | false =>
        repeat' (first | refine SplitP.mk (fun h => absurd (show false = true from h) (by decide)) (fun _ => ?_) | refine SplitP.mk (fun _ => ?_) (fun h => absurd (show true = false from h) (by decide)))
        rw [Bool.false_and] at hq
        refine .mk (.cons (.eq (.bool ?_)) .nil) rfl
        rw [BE.lit_d, BE.var_d]
        exact hq.symm
      | true =>
        repeat' (first | refine SplitP.mk (fun h => absurd (show false = true from h) (by decide)) (fun _ => ?_) | refine SplitP.mk (fun _ => ?_) (fun h => absurd (show true = false from h) (by decide)))
        rw [Bool.true_and] at hq
        refine BackP.intro (k + 1) ⟨by omega, hq⟩ (by show n - (k + 1) < n - k; omega) ⟨?_, ?_, rfl⟩
        · (cbv; (repeat' (first | exact SnD.refl _ | exact trivial | exact SnD.nat0 | refine And.intro ?_ ?_)))
          exact .inc (by omega)
        · (cbv; (repeat' (first | exact trivial | exact BkEq.refl _ | exact SnD.refl _ | exact SnDs.nil | refine BkEq.cells ?_ | refine SnDs.cons ?_ ?_ | refine And.intro ?_ ?_)))
  have hkn : ss.length ≤ k := by
    have h5 : decide ((k : Int) < (ss.length : Int)) = false := hs
    have := of_decide_eq_false h5
    omega
  clear hs
  have hkl : k = ss.length := by omega
  rw [hkl, hAe] at hq
  refine .mk (.cons (.eq (.bool ?_)) .nil) rfl
  rw [BE.lit_d, BE.var_d]
  exact hq.symm
/-- the least one behind place j that can be given out, -1 if there is none -/
def nxR (n : Nat) (nd : Int → Int → Bool) (l : List Int) (j : Nat) : Int := match (List.range' j (n - j)).find? (readyB n nd l) with
  | some x => (x : Int)
  | none => -1
theorem nxR_end (n : Nat) (nd : Int → Int → Bool) (l : List Int) : nxR n nd l n = -1 := by
  unfold nxR
  simp
theorem nxR_step {n : Nat} {nd : Int → Int → Bool} {l : List Int} {i : Nat} (h : i < n) : nxR n nd l i = if decide ((i : Int) ∈ l) = false ∧ canB n nd l i = true then (i : Int) else nxR n nd l (i + 1) := by
  unfold nxR
  rw [show n - i = (n - (i + 1)) + 1 by omega, List.range'_succ, List.find?_cons, readyB_can]
  cases h1 : decide ((i : Int) ∈ l) <;> cases h2 : canB n nd l i <;> simp
theorem nxR_zero (n : Nat) (nd : Int → Int → Bool) (l : List Int) : nxR n nd l 0 = match nextR n nd l with
  | some x => (x : Int)
  | none => -1 := by
  unfold nxR nextR
  rw [List.range_eq_range', Nat.sub_zero]
theorem seq_at_len {n : Nat} {nd : Int → Int → Bool} {k : Nat} (hk : (seqR n nd k).length = k) : (nxR n nd (seqR n nd k) 0 < 0 → k < n → (ordR n nd).length ≠ n) ∧ (0 ≤ nxR n nd (seqR n nd k) 0 → seqR n nd (k + 1) = seqR n nd k ++ [nxR n nd (seqR n nd k) 0] ∧ (seqR n nd (k + 1)).length = k + 1) := by
  rw [nxR_zero]
  refine ⟨fun h hkn => ?_, fun h => ?_⟩
  · cases hx : nextR n nd (seqR n nd k) with
    | some x => rw [hx] at h; simp only at h; omega
    | none =>
      have := seqR_stuck hx (n - k)
      rw [show k + (n - k) = n by omega] at this
      unfold ordR
      rw [this, hk]
      omega
  · cases hx : nextR n nd (seqR n nd k) with
    | none => rw [hx] at h; simp only at h; omega
    | some x =>
      have e : seqR n nd (k + 1) = seqR n nd k ++ [(x : Int)] := by rw [seqR, hx]
      exact ⟨e, by rw [e, List.length_append, hk]; rfl⟩
end Go.Proofs.YtdhfakajlnidiaaGreat
namespace Go.Proofs.YtdhfakajlnidiaaGreat
open Go.RowKit

/-! The reference's Order. -/
set_option maxRecDepth 100000 in
set_option maxHeartbeats 4000000 in
theorem rOrder_pure (S : SourceD) (h : SmallS S) : Pure Tryz.prog 8 [.agg S.c] (.tup [.slm 1 none intC (ordL S), boolD (ordOK S), i64 (numE S)]) := by
  have hn7 := h.n
  have hNum := numbered_pure S (by omega) (by have := h.r; omega) (fun r hr => by have := h.f r hr; omega)
  have hHas : ∀ (l : List Int) (a : Int), l.length ≤ 7 → Pure Tryz.prog 19 [.slm 1 none intC l, i64 a] (boolD (decide (a ∈ l))) := fun l a hl => has_pure l none a (by omega)
  have hCan : ∀ (l : List Int) (a : Int), l.length ≤ 7 → Pure Tryz.prog 20 [.agg S.c, .slm 1 none intC l, i64 a] (boolD (canB S.schemas.length (needsB S.rules) l a)) := fun l a hl => can_pure S l none a h (by omega)
  obtain ⟨l, hl⟩ : ∃ l, l = ordL S := ⟨_, rfl⟩
  obtain ⟨ok, hok⟩ : ∃ l, l = ordOK S := ⟨_, rfl⟩
  obtain ⟨e, he⟩ : ∃ l, l = numE S := ⟨_, rfl⟩
  rw [← hl, ← hok, ← he]
  unfold ordL at hl
  rw [← hok] at hl
  unfold ordOK at hok
  unfold numE at he
  unfold ordS at hl hok
  obtain ⟨rb, hrb⟩ : ∃ b, b = numberedB S.schemas.length S.rules := ⟨_, rfl⟩
  rw [← hrb] at hNum hok he
  obtain ⟨nd, hnd⟩ : ∃ b, b = needsB S.rules := ⟨_, rfl⟩
  rw [← hnd] at hl hok hCan
  clear h hrb hnd
  obtain ⟨ni, is, nu, us, ns, ss, nr, rs, nc, cs, np, ps⟩ := S
  simp only at hl hok hCan hn7
  obtain ⟨n, hn⟩ : ∃ n : Nat, n = ss.length := ⟨_, rfl⟩
  rw [← hn] at hl hok hCan hn7
  obtain ⟨LL, hLL⟩ : ∃ f, f = seqR n nd := ⟨_, rfl⟩
  obtain ⟨NX, hNX⟩ : ∃ f : Nat → Nat → Int, f = fun k => nxR n nd (LL k) := ⟨_, rfl⟩
  obtain ⟨AA, hAA⟩ : ∃ f : Nat → Int, f = fun j : Nat => (j : Int) - 1 := ⟨_, rfl⟩
  obtain ⟨B1, hB1⟩ : ∃ f : Nat → Nat → Bool, f = fun k i => decide (AA (i + 1) ∈ LL k) := ⟨_, rfl⟩
  obtain ⟨B2, hB2⟩ : ∃ f : Nat → Nat → Bool, f = fun k i => canB n nd (LL k) (AA (i + 1)) := ⟨_, rfl⟩
  have hAi : ∀ i : Nat, AA (i + 1) = (i : Int) := fun i => by rw [hAA]; show ((i + 1 : Nat) : Int) - 1 = (i : Int); omega
  have hA0 : AA 0 = -1 := by rw [hAA]; rfl
  have hL0 : LL 0 = [] := by rw [hLL]; rfl
  have hNe : ∀ k, NX k n = -1 := fun k => by rw [hNX]; exact nxR_end _ _ _
  have hNs : ∀ k i, i < n → NX k i = if B1 k i = false ∧ B2 k i = true then AA (i + 1) else NX k (i + 1) := fun k i hi => by
    rw [hB1, hB2, hNX]
    simp only
    rw [hAi, nxR_step hi]
  have hLt : ∀ k, (LL k).length = k → NX k 0 < 0 → k < n → l = [] ∧ ok = false := fun k hk hx hkn => by
    rw [hNX] at hx
    rw [hLL] at hk hx
    have := (seq_at_len hk).1 hx hkn
    have h2 : ok = false := by rw [hok, decide_eq_false this, Bool.and_false]
    exact ⟨by rw [hl, h2]; rfl, h2⟩
  have hLs : ∀ k, (LL k).length = k → 0 ≤ NX k 0 → LL (k + 1) = LL k ++ [NX k 0] ∧ (LL (k + 1)).length = k + 1 := fun k hk hx => by
    rw [hNX] at hx ⊢
    rw [hLL] at hk hx ⊢
    exact (seq_at_len hk).2 hx
  have hLn : rb = true → (LL n).length = n → l = LL n ∧ ok = true := fun hb hk => by
    rw [hLL] at hk ⊢
    have h2 : ok = true := by
      rw [hok, hb, Bool.true_and]
      exact decide_eq_true hk
    exact ⟨by rw [hl, h2]; rfl, h2⟩
  have hLf : rb = false → l = [] ∧ ok = false := fun hb => by
    have h2 : ok = false := by rw [hok, hb, Bool.false_and]
    exact ⟨by rw [hl, h2]; rfl, h2⟩
  replace hHas : ∀ k i : Nat, (LL k).length ≤ 7 → Pure Tryz.prog 19 [.slm 1 none intC (LL k), i64 (AA (i + 1))] (boolD (B1 k i)) := fun k i h => by rw [hB1]; exact hHas _ _ h
  replace hCan : ∀ k i : Nat, (LL k).length ≤ 7 → Pure Tryz.prog 20 [.agg (SourceD.c ⟨ni, is, nu, us, ns, ss, nr, rs, nc, cs, np, ps⟩), .slm 1 none intC (LL k), i64 (AA (i + 1))] (boolD (B2 k i)) := fun k i h => by rw [hB2]; exact hCan _ _ h
  have hsub : binDen .sub .i64 (ss.length : Int) 1 = AA n := by rw [hAA, hn]; exact sub64 (by omega) (by omega)
  have hsub2 : ∀ i, i < n → binDen .sub .i64 (AA (i + 1)) 1 = AA i := fun i hi => by rw [hAi, hAA]; exact sub64 (by omega) (by omega)
  clear hLL hNX hB1 hB2 hl hok
  refine Pure.introC (want := [.slm 1 none intC l, boolD ok, i64 e]) T_ok Tryz.func8 rfl (by kernel_rfl) (rs := [.tmp 2, .tmp 3, .tmp 4]) rfl (by kernel_rfl) ?_
  generalize hP : Tryz.prog = P at *
  have hT : T.ok P := hP ▸ T_ok
  have hm : P.follows .mixedOrders = true := hP ▸ follows
  unfold Tryz.f8
  dsimp only
  refine CodeP.seq (vc_sound hT hm _ ?_)
  cbv
  refine CodeP.seq (vc_sound hT hm _ ?_)
  cbv
  refine CallP.pure _ hNum rfl ?_
  clear hNum
  cbv
  cases rb with
  | false =>
    obtain ⟨h1, h2⟩ := hLf rfl
    refine SplitP.mk (fun hs => ?_) (fun hs => by cases hs)
    refine .mk (.cons (.eq (.nil0 h1)) (.cons (.eq (.bool ?_)) (.cons (.eq (.int ?_)) .nil))) rfl
    · rw [BE.lit_d, BE.var_d, h2]
    · rw [IE.lit_d, IE.var_d, he]; rfl
  | true =>
  refine SplitP.mk (fun hs => by cases hs) (fun hs => ?_)
  clear hs hLf
  replace hLn := hLn rfl
  replace he : e = 0 := he
  refine CodeP.seq (CodeP.ops ?_)
  refine OpsP.own hT rfl ?_
  cbv
  refine OpsP.rest hT ?_
  cbv
  refine CodeP.seq (vc_sound hT hm _ ?_)
  cbv
  refine CodeP.loopm hT hm (X := Nat) (fun k => [(5, .osl 1 1 (k + 1) (.lit false) (.lit 0) (.nat k))])
    (fun k => [.cells (SourceD.c ⟨ni, is, nu, us, ns, ss, nr, rs, nc, cs, np, ps⟩), .row 3 1 (k + 1) (.map intC (LL k))])
    (fun k => k ≤ n ∧ (LL k).length = k) (fun k => n - k) 0 ⟨Nat.zero_le _, by rw [hL0]; rfl⟩ (fun _ => by simp) ⟨?_, ?_, rfl⟩ ?_
  · (cbv; (repeat' (first | exact SnD.refl _ | exact trivial | exact SnD.nat0 | refine And.intro ?_ ?_)))
    all_goals exact .eq (.osl rfl rfl rfl)
  · rw [hL0]
    exact ⟨.refl _, .row rfl, trivial⟩
  intro k ⟨hk, hkl⟩
  have hk7 : (LL k).length ≤ 7 := by omega
  replace hNe := hNe k
  replace hNs := hNs k
  replace hLt := hLt k hkl
  replace hLs := hLs k hkl
  replace hHas := fun i => hHas k i hk7
  replace hCan := fun i => hCan k i hk7
  obtain ⟨NK, hNK⟩ : ∃ f, f = NX k := ⟨_, rfl⟩
  rw [← hNK] at hNe hNs hLt hLs
  clear hNK
  cbv
  refine SplitP.mk (fun hs => ?_) (fun hs => ?_)
  · have hkn : k < n := by have h := of_decide_eq_true (show decide ((k : Int) < (ss.length : Int)) = true from hs); omega
    clear hs hLn
    replace hLt := fun h => hLt h hkn
    refine CodeP.loopc hT hm (X := Nat) (fun j => [(6, .int .i64 (.var (NK j))), (7, .int .i64 (.var (AA j)))]) (fun j => j ≤ n) (fun j => j) n (Nat.le_refl _) (Nat.zero_le _) ?_ rfl ?_
    · (cbv; (repeat' (first | exact SnD.refl _ | exact trivial | exact SnD.nat0 | refine And.intro ?_ ?_)))
      · exact .eq (.int (show (-1 : Int) = NK n from hNe.symm))
      · exact .eq (.int hsub)
    intro j hj
    cbv
    refine SplitP.mk (fun hs => ?_) (fun hs => ?_)
    · have h0 : AA j ≥ 0 := of_decide_eq_true (show decide (AA j ≥ 0) = true from hs)
      clear hs
      obtain ⟨i, rfl⟩ : ∃ i, j = i + 1 := by
        cases j with
        | zero => rw [hA0] at h0; omega
        | succ i => exact ⟨i, rfl⟩
      have q1 := hHas i
      have q2 := hCan i
      have q3 := hNs i (by omega)
      have q4 := hsub2 i (by omega)
      obtain ⟨b1, hb1⟩ : ∃ b, b = B1 k i := ⟨_, rfl⟩
      obtain ⟨b2, hb2⟩ : ∃ b, b = B2 k i := ⟨_, rfl⟩
      rw [← hb1] at q1 q3
      rw [← hb2] at q2 q3
      clear hHas hCan hNs hsub2 hsub hb1 hb2 hNe
      refine CallP.lend _ _ q1 (.cons (.slm rfl (.inl ⟨_, _, rfl, rfl⟩) rfl (by show (k : Int) = ((LL k).length : Int); rw [hkl]) (fun e h => by cases h)) (.cons (.eq (.refl _)) .nil)) rfl rfl ?_
      clear q1
      cbv
      cases b1 with
      | true =>
        repeat' (first | refine SplitP.mk (fun h => absurd (show false = true from h) (by decide)) (fun _ => ?_) | refine SplitP.mk (fun _ => ?_) (fun h => absurd (show true = false from h) (by decide)))
        rw [if_neg (by simp)] at q3
        refine BackP.intro i (by omega) (by show i < i + 1; omega) ⟨?_, ?_, rfl⟩
        · (cbv; (repeat' (first | exact SnD.refl _ | exact trivial | exact SnD.nat0 | refine And.intro ?_ ?_)))
          · exact .eq (.int q3.symm)
          · exact .eq (.int q4)
        · (cbv; (repeat' (first | exact trivial | exact BkEq.refl _ | exact SnD.refl _ | exact SnDs.nil | refine BkEq.cells ?_ | refine SnDs.cons ?_ ?_ | refine And.intro ?_ ?_)))
      | false =>
        repeat' (first | refine SplitP.mk (fun h => absurd (show false = true from h) (by decide)) (fun _ => ?_) | refine SplitP.mk (fun _ => ?_) (fun h => absurd (show true = false from h) (by decide)))
        refine CallP.lend _ _ q2 (.cons (.eq (.refl _)) (.cons (.slm rfl (.inl ⟨_, _, rfl, rfl⟩) rfl (by show (k : Int) = ((LL k).length : Int); rw [hkl]) (fun e h => by cases h)) (.cons (.eq (.refl _)) .nil))) rfl rfl ?_
        clear q2
        cbv
        cases b2 with
        | true =>
          repeat' (first | refine SplitP.mk (fun h => absurd (show false = true from h) (by decide)) (fun _ => ?_) | refine SplitP.mk (fun _ => ?_) (fun h => absurd (show true = false from h) (by decide)))
          rw [if_pos ⟨rfl, rfl⟩] at q3
          refine BackP.intro i (by omega) (by show i < i + 1; omega) ⟨?_, ?_, rfl⟩
          · (cbv; (repeat' (first | exact SnD.refl _ | exact trivial | exact SnD.nat0 | refine And.intro ?_ ?_)))
            · exact .eq (.int q3.symm)
            · exact .eq (.int q4)
          · (cbv; (repeat' (first | exact trivial | exact BkEq.refl _ | exact SnD.refl _ | exact SnDs.nil | refine BkEq.cells ?_ | refine SnDs.cons ?_ ?_ | refine And.intro ?_ ?_)))
        | false =>
          repeat' (first | refine SplitP.mk (fun h => absurd (show false = true from h) (by decide)) (fun _ => ?_) | refine SplitP.mk (fun _ => ?_) (fun h => absurd (show true = false from h) (by decide)))
          rw [if_neg (by simp)] at q3
          refine BackP.intro i (by omega) (by show i < i + 1; omega) ⟨?_, ?_, rfl⟩
          · (cbv; (repeat' (first | exact SnD.refl _ | exact trivial | exact SnD.nat0 | refine And.intro ?_ ?_)))
            · exact .eq (.int q3.symm)
            · exact .eq (.int q4)
          · (cbv; (repeat' (first | exact trivial | exact BkEq.refl _ | exact SnD.refl _ | exact SnDs.nil | refine BkEq.cells ?_ | refine SnDs.cons ?_ ?_ | refine And.intro ?_ ?_)))
    have h0 : ¬ AA j ≥ 0 := of_decide_eq_false (show decide (AA j ≥ 0) = false from hs)
    clear hs
    obtain rfl : j = 0 := by
      cases j with
      | zero => rfl
      | succ i => rw [hAi] at h0; exact absurd (show (i : Int) ≥ 0 from Int.natCast_nonneg i) h0
    clear hHas hCan hNs hsub2 hsub hNe
    refine SplitP.mk (fun hs => ?_) (fun hs => ?_)
    · have h1 : NK 0 < 0 := of_decide_eq_true (show decide (NK 0 < 0) = true from hs)
      obtain ⟨g1, g2⟩ := hLt h1
      refine .mk (.cons (.eq (.nil0 g1)) (.cons (.eq (.bool ?_)) (.cons (.eq (.int ?_)) .nil))) rfl
      · rw [BE.lit_d, BE.var_d, g2]
      · rw [IE.lit_d, IE.var_d, he]
    have h1 : ¬ NK 0 < 0 := of_decide_eq_false (show decide (NK 0 < 0) = false from hs)
    clear hs
    obtain ⟨g1, g2⟩ := hLs (by omega)
    refine ReqP.mk (app_ok hkl (by omega) (fun _ => rfl) rfl (by decide)) (fun _ => ?_)
    refine BackP.intro (k + 1) ⟨by omega, g2⟩ (by show n - (k + 1) < n - k; omega) ⟨?_, ⟨.refl _, row_app (NK 0) g1 (.cons (.refl _) .nil), trivial⟩, rfl⟩
    (cbv; (repeat' (first | exact SnD.refl _ | exact trivial | exact SnD.nat0 | refine And.intro ?_ ?_)))
    all_goals exact osl_step1 _
  have hkn : k = n := by have h := of_decide_eq_false (show decide ((k : Int) < (ss.length : Int)) = false from hs); omega
  clear hs
  subst hkn
  obtain ⟨g1, g2⟩ := hLn hkl
  refine vc_sound hT hm _ ?_
  cbv
  refine .mk (.cons (.slm rfl (.inl ⟨_, _, rfl, ?_⟩) rfl ?_ (fun e he => by cases he)) (.cons (.eq (.bool ?_)) (.cons (.eq (.int ?_)) .nil))) rfl
  · show (LL k).map intC = l.map intC
    rw [g1]
  · show (k : Int) = (l.length : Int)
    rw [g1, hkl]
  · rw [BE.lit_d, BE.var_d, g2]
  · rw [IE.lit_d, IE.var_d, he]
end Go.Proofs.YtdhfakajlnidiaaGreat
