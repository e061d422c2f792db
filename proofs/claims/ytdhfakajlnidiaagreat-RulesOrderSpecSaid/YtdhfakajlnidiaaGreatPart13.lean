/- Part 13 of the walks and laws that these claims rest on. No condition. -/
import Derived.Test.YtdhfakajlnidiaaGreatRows
import Derived.LaidMore
import Derived.Stop.Joined
import Derived.ChangeArms
import Derived.Test.YtdhfakajlnidiaaGreatPart12
set_option linter.all false
set_option linter.unusedSimpArgs false
set_option linter.unusedVariables false
set_option linter.unnecessarySimpa false
namespace Go.Proofs.YtdhfakajlnidiaaGreat
open Go.RowKit

/-! The reference's Check, and the law. -/
set_option maxRecDepth 100000 in
set_option maxHeartbeats 4000000 in
theorem rCheck14_pure (S : SourceD) (h : SmallS S) : Pure Tryz.prog 11 [.agg S.c] (i64 (chk20 S)) := by
  have hC := rCheck12_pure S
  rw [← check_law] at hC
  have hO := rOrder_pure S h
  obtain ⟨r, hr⟩ : ∃ r, r = chk20 S := ⟨_, rfl⟩
  rw [← hr]
  unfold chk20 at hr
  obtain ⟨c, hc⟩ : ∃ l, l = checkB S := ⟨_, rfl⟩
  obtain ⟨l, hl⟩ : ∃ l, l = ordL S := ⟨_, rfl⟩
  obtain ⟨ok, hok⟩ : ∃ l, l = ordOK S := ⟨_, rfl⟩
  obtain ⟨e, he⟩ : ∃ l, l = numE S := ⟨_, rfl⟩
  rw [← hl, ← hok, ← he] at hO
  rw [← hc] at hC
  rw [← hc, ← hok, ← he] at hr
  clear h hc hl hok he
  obtain ⟨ni, is, nu, us, ns, ss, nr, rs, nc, cs, np, ps⟩ := S
  refine Pure.intro (want := [i64 r]) T_ok follows Tryz.func11 rfl (by kernel_rfl) (rs := [.tmp 2]) rfl (by kernel_rfl) ?_
  generalize hP : Tryz.prog = P at *
  have hT : T.ok P := hP ▸ T_ok
  have hm : P.follows .mixedOrders = true := hP ▸ follows
  unfold Tryz.f11
  dsimp only
  cbv
  refine CallP.pure _ hC rfl ?_
  clear hC
  cbv
  refine SplitP.mk (fun g => ?_) (fun g => ?_)
  · have h3 : (c != 0) = true := g
    have h4 : c ≠ 0 := by simpa using h3
    rw [if_pos h4] at hr
    refine .mk (.cons (.eq (.int ?_)) .nil) rfl
    show c = r
    exact hr.symm
  have h3 : (c != 0) = false := g
  have h4 : ¬ c ≠ 0 := by simpa using h3
  rw [if_neg h4] at hr
  clear g h3 h4
  refine CallP.pure _ hO rfl ?_
  clear hO
  cbv
  refine SplitP.mk (fun g => ?_) (fun g => ?_)
  · have h3 : (e != 0) = true := g
    have h4 : e ≠ 0 := by simpa using h3
    rw [if_pos h4] at hr
    refine .mk (.cons (.eq (.int ?_)) .nil) rfl
    show e = r
    exact hr.symm
  have h3 : (e != 0) = false := g
  have h4 : ¬ e ≠ 0 := by simpa using h3
  rw [if_neg h4] at hr
  clear g h3 h4
  refine SplitP.mk (fun g => ?_) (fun g => ?_)
  · have g' : (!ok) = true := g
    have g2 : ok = false := by simpa using g'
    rw [g2, if_neg (by decide)] at hr
    refine .mk (.cons (.eq (.int ?_)) .nil) rfl
    show (141 : Int) = r
    exact hr.symm
  have g' : (!ok) = false := g
  have g2 : ok = true := by simpa using g'
  rw [g2, if_pos rfl] at hr
  refine .mk (.cons (.eq (.int ?_)) .nil) rfl
  show (0 : Int) = r
  exact hr.symm
set_option maxRecDepth 100000 in
set_option maxHeartbeats 4000000 in
theorem orderLaw_pure (S : SourceD) (hl : S.rules.length ≤ 9223372036854775807) : Pure Tryz.prog 3 [.agg S.c] (boolD true) := by
  have h4 := sane_pure
  have h5 := Few_pure S hl
  have h6 := Few10_pure S
  have h7 : fewB S = true → Pure Tryz.prog 7 [.agg S.c] _ := fun h => Order_pure S (few_small h)
  have h8 : fewB S = true → Pure Tryz.prog 8 [.agg S.c] _ := fun h => rOrder_pure S (few_small h)
  have h10 : fewB S = true → Pure Tryz.prog 10 [.agg S.c] _ := fun h => Check20_pure S (few_small h)
  have h11 : fewB S = true → Pure Tryz.prog 11 [.agg S.c] _ := fun h => rCheck14_pure S (few_small h)
  have h9 : fewB S = true → ∀ na nb : Option BE, Pure Tryz.prog 9 [.slm 1 na intC (ordL S), .slm 1 nb intC (ordL S)] (boolD true) := fun h na nb => by
    have hlen : (ordL S).length < 9223372036854775807 := by
      have h1 := (few_small h).n
      have h2 := (seqR_inv (m := S.schemas.length) (nd := needsB S.rules) S.schemas.length).len
      unfold ordL
      split
      · show (seqR S.schemas.length (needsB S.rules) S.schemas.length).length < _
        omega
      · simp
    have := Same_pure (ordL S) (ordL S) na nb hlen
    rw [decide_eq_true rfl] at this
    exact this
  obtain ⟨fb, hfb⟩ : ∃ b, b = fewB S := ⟨_, rfl⟩
  obtain ⟨ft, hft⟩ : ∃ b, b = few10 S := ⟨_, rfl⟩
  obtain ⟨l, hl2⟩ : ∃ l, l = ordL S := ⟨_, rfl⟩
  obtain ⟨ok, hok⟩ : ∃ l, l = ordOK S := ⟨_, rfl⟩
  obtain ⟨e, he⟩ : ∃ l, l = numE S := ⟨_, rfl⟩
  obtain ⟨c, hc⟩ : ∃ l, l = chk20 S := ⟨_, rfl⟩
  rw [← hl2, ← hok, ← he, ← hfb] at h7 h8
  rw [← hl2, ← hfb] at h9
  rw [← hc, ← hfb] at h10 h11
  rw [← hfb] at h5
  rw [← hft] at h6
  obtain ⟨lb, hlb⟩ : ∃ b, b = l.isEmpty := ⟨_, rfl⟩
  rw [← hlb] at h7
  clear hl hl2 hok he hc hfb hft hlb
  obtain ⟨ni, is, nu, us, ns, ss, nr, rs, nc, cs, np, ps⟩ := S
  refine Pure.intro (want := [boolD true]) T_ok follows Tryz.func3 rfl (by kernel_rfl) (rs := [.tmp 2]) rfl (by kernel_rfl) ?_
  generalize hP : Tryz.prog = P at *
  have hT : T.ok P := hP ▸ T_ok
  have hm : P.follows .mixedOrders = true := hP ▸ follows
  unfold Tryz.f3
  dsimp only
  cbv
  refine CallP.pure _ h4 rfl ?_
  clear h4
  cbv
  repeat' (first | refine SplitP.mk (fun h => absurd (show false = true from h) (by decide)) (fun _ => ?_) | refine SplitP.mk (fun _ => ?_) (fun h => absurd (show true = false from h) (by decide)))
  refine CallP.pure _ h5 rfl ?_
  clear h5
  cbv
  cases fb with
  | false =>
    repeat' (first | refine SplitP.mk (fun h => absurd (show false = true from h) (by decide)) (fun _ => ?_) | refine SplitP.mk (fun _ => ?_) (fun h => absurd (show true = false from h) (by decide)))
    exact .mk (.cons (.eq (.bool rfl)) .nil) rfl
  | true =>
  replace h7 := h7 rfl
  replace h8 := h8 rfl
  replace h9 := h9 rfl
  replace h10 := h10 rfl
  replace h11 := h11 rfl
  repeat' (first | refine SplitP.mk (fun h => absurd (show false = true from h) (by decide)) (fun _ => ?_) | refine SplitP.mk (fun _ => ?_) (fun h => absurd (show true = false from h) (by decide)))
  refine CallP.pure _ h6 rfl ?_
  clear h6
  cbv
  cases ft with
  | false =>
    repeat' (first | refine SplitP.mk (fun h => absurd (show false = true from h) (by decide)) (fun _ => ?_) | refine SplitP.mk (fun _ => ?_) (fun h => absurd (show true = false from h) (by decide)))
    exact .mk (.cons (.eq (.bool rfl)) .nil) rfl
  | true =>
  repeat' (first | refine SplitP.mk (fun h => absurd (show false = true from h) (by decide)) (fun _ => ?_) | refine SplitP.mk (fun _ => ?_) (fun h => absurd (show true = false from h) (by decide)))
  refine CallP.pure _ h7 rfl ?_
  clear h7
  cbv
  refine CallP.pure _ h8 rfl ?_
  clear h8
  cbv
  repeat' (first | refine SplitP.mk (fun h => absurd (show false = true from h) (by decide)) (fun _ => ?_) | refine SplitP.mk (fun _ => ?_) (fun h => absurd (show true = false from h) (by decide)) | refine SplitP.mk (fun _ => ?_) (fun h => absurd (show (ok == ok) = false from h) (by simp)) | refine SplitP.mk (fun _ => ?_) (fun h => absurd (show (e == e) = false from h) (by simp)) | (refine PureP.mk _ (h9 _ _) rfl ?_; cbv) | (refine CallP.pure _ (h9 _ _) rfl ?_; cbv) | (refine PureP.mk _ h10 rfl ?_; cbv) | (refine CallP.pure _ h10 rfl ?_; cbv) | (refine PureP.mk _ h11 rfl ?_; cbv) | (refine CallP.pure _ h11 rfl ?_; cbv))
  all_goals (refine .mk (.cons (.eq (.bool ?_)) .nil) rfl)
  · show (c == c) = true
    simp
end Go.Proofs.YtdhfakajlnidiaaGreat
namespace Go.Proofs.YtdhfakajlnidiaaGreat
open Go.ChangeShapes Go.WideShapes Go.ChangeAt Go.RowKit

/-! The arguments of the laws: a source, as data. -/
theorem opd_str {P : Program} {t : TypeId} (ht : P.underlying t = some .string) : OpD P t strC (fun _ => True) := fun enc w spare held fuel cs x h => by
  obtain ⟨s, rfl, _, h2⟩ := DataW.trod_string ht h
  refine ⟨s, trivial, rfl, fun i d v hd hv => ?_⟩
  match i, hd, hv with
  | 0, hd, hv => cases hd; cases hv; exact .str h2
theorem opd_arr4 {P : Program} {t e : TypeId} (ht : P.underlying t = some (.array 4 e)) (he : P.underlying e = some (.int .i64)) (hc : P.cellsOf e = 1) (hct : P.cellsOf t = 4) :
    OpD P t (fun p : Int × Int × Int × Int => [i64 p.1, i64 p.2.1, i64 p.2.2.1, i64 p.2.2.2]) (fun _ => True) := fun enc w spare held fuel cs x h => by
  obtain ⟨xs, m, _, _, hl, hlen, hf⟩ := DataW.trod_array ht h
  rw [hct] at hl
  have hcell : ∀ i, i < 4 → ∃ z, cs[i]? = some (.int .i64 z) ∧ InR .i64 z := fun i hi => by
    have h0 := hf i hi
    rw [List.getElem?_eq_getElem (by omega), hc] at h0
    obtain ⟨k, e1, e2, e3⟩ := DataW.trod_int he h0
    have e5 := congrArg (·[0]?) e1
    rw [List.getElem?_take, if_pos (by decide), List.getElem?_drop] at e5
    simp at e5
    exact ⟨k, e5, InR.of_wf e3⟩
  obtain ⟨z0, a0, b0⟩ := hcell 0 (by decide)
  obtain ⟨z1, a1, b1⟩ := hcell 1 (by decide)
  obtain ⟨z2, a2, b2⟩ := hcell 2 (by decide)
  obtain ⟨z3, a3, b3⟩ := hcell 3 (by decide)
  refine ⟨(z0, z1, z2, z3), trivial, hl, fun i d v hd hv => ?_⟩
  match i, hd, hv with
  | 0, hd, hv => cases hd; rw [a0] at hv; cases hv; exact .int (e := .var z0) b0
  | 1, hd, hv => cases hd; rw [a1] at hv; cases hv; exact .int (e := .var z1) b1
  | 2, hd, hv => cases hd; rw [a2] at hv; cases hv; exact .int (e := .var z2) b2
  | 3, hd, hv => cases hd; rw [a3] at hv; cases hv; exact .int (e := .var z3) b3
def RuleD.fine (x : RuleD) : Prop := x.froms.length ≤ maxLen
structure SourceD.fine (s : SourceD) : Prop where
  ns : s.nschemas = true → s.schemas = []
  ls : s.schemas.length ≤ maxLen
  nr : s.nrules = true → s.rules = []
  lr : s.rules.length ≤ maxLen
  fr : ∀ r, r ∈ s.rules → r.froms.length ≤ maxLen
theorem opd_s22 : OpD Tryz.prog 22 (slC 1 strC) (fun p => (p.1 = true → p.2 = []) ∧ (∀ x ∈ p.2, (fun _ => True) x) ∧ p.2.length ≤ maxLen) := opd_slice (n := 1) (e := 9) (by kernel_rfl) (by kernel_rfl) (by decide) (opd_str (by kernel_rfl)) (fun _ => rfl)
set_option maxRecDepth 20000 in
theorem opd_unit : OpD Tryz.prog 103 UnitD.c (fun _ => True) := fun enc w spare held fuel cs x h => by
  obtain ⟨xs, m, _, _, hl, hlen, hf⟩ := DataW.trod_struct Tryz.underlying103 h
  replace hl : cs.length = 5 := hl.trans (by kernel_rfl)
  replace hlen : xs.length = 5 := hlen
  match cs, hl, hf with
  | [c0, c1, c2, c3, c4], _, hf =>
    have h0 := hf 0 _ rfl
    rw [List.getElem?_eq_getElem (by omega)] at h0
    obtain ⟨y0, q0, _, e0⟩ := (opd_str (P := Tryz.prog) (t := 9) (by kernel_rfl)) enc w spare held m [c0] _ h0
    have h1 := hf 1 _ rfl
    rw [List.getElem?_eq_getElem (by omega)] at h1
    obtain ⟨y1, q1, _, e1⟩ := (opd_str (P := Tryz.prog) (t := 9) (by kernel_rfl)) enc w spare held m [c1] _ h1
    have h2 := hf 2 _ rfl
    rw [List.getElem?_eq_getElem (by omega)] at h2
    obtain ⟨y2, q2, _, e2⟩ := (opd_int (P := Tryz.prog) (t := 3) (by kernel_rfl)) enc w spare held m [c2] _ h2
    have h3 := hf 3 _ rfl
    rw [List.getElem?_eq_getElem (by omega)] at h3
    obtain ⟨y3, q3, _, e3⟩ := (opd_int (P := Tryz.prog) (t := 3) (by kernel_rfl)) enc w spare held m [c3] _ h3
    have h4 := hf 4 _ rfl
    rw [List.getElem?_eq_getElem (by omega)] at h4
    obtain ⟨y4, q4, _, e4⟩ := (opd_int (P := Tryz.prog) (t := 3) (by kernel_rfl)) enc w spare held m [c4] _ h4
    refine ⟨⟨y0, y1, y2, y3, y4⟩, trivial, rfl, fun i d v hd hv => ?_⟩
    match i, hd, hv with
    | 0, hd, hv => cases hd; cases hv; exact e0 0 _ _ rfl rfl
    | 1, hd, hv => cases hd; cases hv; exact e1 0 _ _ rfl rfl
    | 2, hd, hv => cases hd; cases hv; exact e2 0 _ _ rfl rfl
    | 3, hd, hv => cases hd; cases hv; exact e3 0 _ _ rfl rfl
    | 4, hd, hv => cases hd; cases hv; exact e4 0 _ _ rfl rfl
theorem opd_s23 : OpD Tryz.prog 23 (slC 5 UnitD.c) (fun p => (p.1 = true → p.2 = []) ∧ (∀ x ∈ p.2, (fun _ => True) x) ∧ p.2.length ≤ maxLen) := opd_slice (n := 5) (e := 103) (by kernel_rfl) (by kernel_rfl) (by decide) opd_unit (fun _ => rfl)
set_option maxRecDepth 20000 in
theorem opd_type : OpD Tryz.prog 51 TypeD.c (fun _ => True) := fun enc w spare held fuel cs x h => by
  obtain ⟨xs, m, _, _, hl, hlen, hf⟩ := DataW.trod_struct Tryz.underlying51 h
  replace hl : cs.length = 6 := hl.trans (by kernel_rfl)
  replace hlen : xs.length = 6 := hlen
  match cs, hl, hf with
  | [c0, c1, c2, c3, c4, c5], _, hf =>
    have h0 := hf 0 _ rfl
    rw [List.getElem?_eq_getElem (by omega)] at h0
    obtain ⟨y0, q0, _, e0⟩ := (opd_int (P := Tryz.prog) (t := 3) (by kernel_rfl)) enc w spare held m [c0] _ h0
    have h1 := hf 1 _ rfl
    rw [List.getElem?_eq_getElem (by omega)] at h1
    obtain ⟨y1, q1, _, e1⟩ := (opd_int (P := Tryz.prog) (t := 3) (by kernel_rfl)) enc w spare held m [c1] _ h1
    have h2 := hf 2 _ rfl
    rw [List.getElem?_eq_getElem (by omega)] at h2
    obtain ⟨y2, q2, _, e2⟩ := (opd_int (P := Tryz.prog) (t := 3) (by kernel_rfl)) enc w spare held m [c2] _ h2
    have h3 := hf 3 _ rfl
    rw [List.getElem?_eq_getElem (by omega)] at h3
    obtain ⟨y3, q3, _, e3⟩ := (opd_str (P := Tryz.prog) (t := 9) (by kernel_rfl)) enc w spare held m [c3] _ h3
    have h4 := hf 4 _ rfl
    rw [List.getElem?_eq_getElem (by omega)] at h4
    obtain ⟨y4, q4, _, e4⟩ := (opd_int (P := Tryz.prog) (t := 3) (by kernel_rfl)) enc w spare held m [c4] _ h4
    have h5 := hf 5 _ rfl
    rw [List.getElem?_eq_getElem (by omega)] at h5
    obtain ⟨y5, q5, _, e5⟩ := opd_s22 enc w spare held m [c5] _ h5
    refine ⟨⟨y0, y1, y2, y3, y4, y5.1, y5.2⟩, trivial, rfl, fun i d v hd hv => ?_⟩
    match i, hd, hv with
    | 0, hd, hv => cases hd; cases hv; exact e0 0 _ _ rfl rfl
    | 1, hd, hv => cases hd; cases hv; exact e1 0 _ _ rfl rfl
    | 2, hd, hv => cases hd; cases hv; exact e2 0 _ _ rfl rfl
    | 3, hd, hv => cases hd; cases hv; exact e3 0 _ _ rfl rfl
    | 4, hd, hv => cases hd; cases hv; exact e4 0 _ _ rfl rfl
    | 5, hd, hv => cases hd; cases hv; exact e5 0 _ _ rfl rfl
set_option maxRecDepth 20000 in
theorem opd_field : OpD Tryz.prog 54 FieldD.c (fun _ => True) := fun enc w spare held fuel cs x h => by
  obtain ⟨xs, m, _, _, hl, hlen, hf⟩ := DataW.trod_struct Tryz.underlying54 h
  replace hl : cs.length = 11 := hl.trans (by kernel_rfl)
  replace hlen : xs.length = 3 := hlen
  match cs, hl, hf with
  | [c0, c1, c2, c3, c4, c5, c6, c7, c8, c9, c10], _, hf =>
    have h0 := hf 0 _ rfl
    rw [List.getElem?_eq_getElem (by omega)] at h0
    obtain ⟨y0, q0, _, e0⟩ := (opd_str (P := Tryz.prog) (t := 9) (by kernel_rfl)) enc w spare held m [c0] _ h0
    have h1 := hf 1 _ rfl
    rw [List.getElem?_eq_getElem (by omega)] at h1
    obtain ⟨y1, q1, _, e1⟩ := opd_type enc w spare held m [c1, c2, c3, c4, c5, c6] _ h1
    have h2 := hf 2 _ rfl
    rw [List.getElem?_eq_getElem (by omega)] at h2
    obtain ⟨y2, q2, _, e2⟩ := (opd_arr4 (t := 52) (e := 3) (by kernel_rfl) (by kernel_rfl) (by kernel_rfl) (by kernel_rfl)) enc w spare held m [c7, c8, c9, c10] _ h2
    refine ⟨⟨y0, y1, y2.1, y2.2.1, y2.2.2.1, y2.2.2.2⟩, trivial, rfl, fun i d v hd hv => ?_⟩
    match i, hd, hv with
    | 0, hd, hv => cases hd; cases hv; exact e0 0 _ _ rfl rfl
    | 1, hd, hv => cases hd; cases hv; exact e1 0 _ _ rfl rfl
    | 2, hd, hv => cases hd; cases hv; exact e1 1 _ _ rfl rfl
    | 3, hd, hv => cases hd; cases hv; exact e1 2 _ _ rfl rfl
    | 4, hd, hv => cases hd; cases hv; exact e1 3 _ _ rfl rfl
    | 5, hd, hv => cases hd; cases hv; exact e1 4 _ _ rfl rfl
    | 6, hd, hv => cases hd; cases hv; exact e1 5 _ _ rfl rfl
    | 7, hd, hv => cases hd; cases hv; exact e2 0 _ _ rfl rfl
    | 8, hd, hv => cases hd; cases hv; exact e2 1 _ _ rfl rfl
    | 9, hd, hv => cases hd; cases hv; exact e2 2 _ _ rfl rfl
    | 10, hd, hv => cases hd; cases hv; exact e2 3 _ _ rfl rfl
theorem opd_s46 : OpD Tryz.prog 46 (slC 11 FieldD.c) (fun p => (p.1 = true → p.2 = []) ∧ (∀ x ∈ p.2, (fun _ => True) x) ∧ p.2.length ≤ maxLen) := opd_slice (n := 11) (e := 54) (by kernel_rfl) (by kernel_rfl) (by decide) opd_field (fun _ => rfl)
theorem opd_s32 : OpD Tryz.prog 32 (slC 1 intC) (fun p => (p.1 = true → p.2 = []) ∧ (∀ x ∈ p.2, (fun _ => True) x) ∧ p.2.length ≤ maxLen) := opd_slice (n := 1) (e := 3) (by kernel_rfl) (by kernel_rfl) (by decide) (opd_int (by kernel_rfl)) (fun _ => rfl)
set_option maxRecDepth 20000 in
theorem opd_depend : OpD Tryz.prog 56 DependD.c (fun _ => True) := fun enc w spare held fuel cs x h => by
  obtain ⟨xs, m, _, _, hl, hlen, hf⟩ := DataW.trod_struct Tryz.underlying56 h
  replace hl : cs.length = 4 := hl.trans (by kernel_rfl)
  replace hlen : xs.length = 4 := hlen
  match cs, hl, hf with
  | [c0, c1, c2, c3], _, hf =>
    have h0 := hf 0 _ rfl
    rw [List.getElem?_eq_getElem (by omega)] at h0
    obtain ⟨y0, q0, _, e0⟩ := opd_s22 enc w spare held m [c0] _ h0
    have h1 := hf 1 _ rfl
    rw [List.getElem?_eq_getElem (by omega)] at h1
    obtain ⟨y1, q1, _, e1⟩ := (opd_str (P := Tryz.prog) (t := 9) (by kernel_rfl)) enc w spare held m [c1] _ h1
    have h2 := hf 2 _ rfl
    rw [List.getElem?_eq_getElem (by omega)] at h2
    obtain ⟨y2, q2, _, e2⟩ := opd_s32 enc w spare held m [c2] _ h2
    have h3 := hf 3 _ rfl
    rw [List.getElem?_eq_getElem (by omega)] at h3
    obtain ⟨y3, q3, _, e3⟩ := (opd_int (P := Tryz.prog) (t := 3) (by kernel_rfl)) enc w spare held m [c3] _ h3
    refine ⟨⟨y0.1, y0.2, y1, y2.1, y2.2, y3⟩, trivial, rfl, fun i d v hd hv => ?_⟩
    match i, hd, hv with
    | 0, hd, hv => cases hd; cases hv; exact e0 0 _ _ rfl rfl
    | 1, hd, hv => cases hd; cases hv; exact e1 0 _ _ rfl rfl
    | 2, hd, hv => cases hd; cases hv; exact e2 0 _ _ rfl rfl
    | 3, hd, hv => cases hd; cases hv; exact e3 0 _ _ rfl rfl
theorem opd_s47 : OpD Tryz.prog 47 (slC 4 DependD.c) (fun p => (p.1 = true → p.2 = []) ∧ (∀ x ∈ p.2, (fun _ => True) x) ∧ p.2.length ≤ maxLen) := opd_slice (n := 4) (e := 56) (by kernel_rfl) (by kernel_rfl) (by decide) opd_depend (fun _ => rfl)
set_option maxRecDepth 20000 in
theorem opd_schema : OpD Tryz.prog 49 SchemaD.c (fun _ => True) := fun enc w spare held fuel cs x h => by
  obtain ⟨xs, m, _, _, hl, hlen, hf⟩ := DataW.trod_struct Tryz.underlying49 h
  replace hl : cs.length = 6 := hl.trans (by kernel_rfl)
  replace hlen : xs.length = 6 := hlen
  match cs, hl, hf with
  | [c0, c1, c2, c3, c4, c5], _, hf =>
    have h0 := hf 0 _ rfl
    rw [List.getElem?_eq_getElem (by omega)] at h0
    obtain ⟨y0, q0, _, e0⟩ := (opd_str (P := Tryz.prog) (t := 9) (by kernel_rfl)) enc w spare held m [c0] _ h0
    have h1 := hf 1 _ rfl
    rw [List.getElem?_eq_getElem (by omega)] at h1
    obtain ⟨y1, q1, _, e1⟩ := (opd_str (P := Tryz.prog) (t := 9) (by kernel_rfl)) enc w spare held m [c1] _ h1
    have h2 := hf 2 _ rfl
    rw [List.getElem?_eq_getElem (by omega)] at h2
    obtain ⟨y2, q2, _, e2⟩ := (opd_int (P := Tryz.prog) (t := 3) (by kernel_rfl)) enc w spare held m [c2] _ h2
    have h3 := hf 3 _ rfl
    rw [List.getElem?_eq_getElem (by omega)] at h3
    obtain ⟨y3, q3, _, e3⟩ := (opd_int (P := Tryz.prog) (t := 3) (by kernel_rfl)) enc w spare held m [c3] _ h3
    have h4 := hf 4 _ rfl
    rw [List.getElem?_eq_getElem (by omega)] at h4
    obtain ⟨y4, q4, _, e4⟩ := opd_s46 enc w spare held m [c4] _ h4
    have h5 := hf 5 _ rfl
    rw [List.getElem?_eq_getElem (by omega)] at h5
    obtain ⟨y5, q5, _, e5⟩ := opd_s47 enc w spare held m [c5] _ h5
    refine ⟨⟨y0, y1, y2, y3, y4.1, y4.2, y5.1, y5.2⟩, trivial, rfl, fun i d v hd hv => ?_⟩
    match i, hd, hv with
    | 0, hd, hv => cases hd; cases hv; exact e0 0 _ _ rfl rfl
    | 1, hd, hv => cases hd; cases hv; exact e1 0 _ _ rfl rfl
    | 2, hd, hv => cases hd; cases hv; exact e2 0 _ _ rfl rfl
    | 3, hd, hv => cases hd; cases hv; exact e3 0 _ _ rfl rfl
    | 4, hd, hv => cases hd; cases hv; exact e4 0 _ _ rfl rfl
    | 5, hd, hv => cases hd; cases hv; exact e5 0 _ _ rfl rfl
theorem opd_s24 : OpD Tryz.prog 24 (slC 6 SchemaD.c) (fun p => (p.1 = true → p.2 = []) ∧ (∀ x ∈ p.2, (fun _ => True) x) ∧ p.2.length ≤ maxLen) := opd_slice (n := 6) (e := 49) (by kernel_rfl) (by kernel_rfl) (by decide) opd_schema (fun _ => rfl)
set_option maxRecDepth 20000 in
theorem opd_term : OpD Tryz.prog 76 TermD.c (fun _ => True) := fun enc w spare held fuel cs x h => by
  obtain ⟨xs, m, _, _, hl, hlen, hf⟩ := DataW.trod_struct Tryz.underlying76 h
  replace hl : cs.length = 5 := hl.trans (by kernel_rfl)
  replace hlen : xs.length = 5 := hlen
  match cs, hl, hf with
  | [c0, c1, c2, c3, c4], _, hf =>
    have h0 := hf 0 _ rfl
    rw [List.getElem?_eq_getElem (by omega)] at h0
    obtain ⟨y0, q0, _, e0⟩ := (opd_str (P := Tryz.prog) (t := 9) (by kernel_rfl)) enc w spare held m [c0] _ h0
    have h1 := hf 1 _ rfl
    rw [List.getElem?_eq_getElem (by omega)] at h1
    obtain ⟨y1, q1, _, e1⟩ := (opd_str (P := Tryz.prog) (t := 9) (by kernel_rfl)) enc w spare held m [c1] _ h1
    have h2 := hf 2 _ rfl
    rw [List.getElem?_eq_getElem (by omega)] at h2
    obtain ⟨y2, q2, _, e2⟩ := (opd_int (P := Tryz.prog) (t := 3) (by kernel_rfl)) enc w spare held m [c2] _ h2
    have h3 := hf 3 _ rfl
    rw [List.getElem?_eq_getElem (by omega)] at h3
    obtain ⟨y3, q3, _, e3⟩ := (opd_int (P := Tryz.prog) (t := 3) (by kernel_rfl)) enc w spare held m [c3] _ h3
    have h4 := hf 4 _ rfl
    rw [List.getElem?_eq_getElem (by omega)] at h4
    obtain ⟨y4, q4, _, e4⟩ := (opd_int (P := Tryz.prog) (t := 3) (by kernel_rfl)) enc w spare held m [c4] _ h4
    refine ⟨⟨y0, y1, y2, y3, y4⟩, trivial, rfl, fun i d v hd hv => ?_⟩
    match i, hd, hv with
    | 0, hd, hv => cases hd; cases hv; exact e0 0 _ _ rfl rfl
    | 1, hd, hv => cases hd; cases hv; exact e1 0 _ _ rfl rfl
    | 2, hd, hv => cases hd; cases hv; exact e2 0 _ _ rfl rfl
    | 3, hd, hv => cases hd; cases hv; exact e3 0 _ _ rfl rfl
    | 4, hd, hv => cases hd; cases hv; exact e4 0 _ _ rfl rfl
set_option maxRecDepth 20000 in
theorem opd_from : OpD Tryz.prog 78 FromD.c (fun _ => True) := fun enc w spare held fuel cs x h => by
  obtain ⟨xs, m, _, _, hl, hlen, hf⟩ := DataW.trod_struct Tryz.underlying78 h
  replace hl : cs.length = 8 := hl.trans (by kernel_rfl)
  replace hlen : xs.length = 4 := hlen
  match cs, hl, hf with
  | [c0, c1, c2, c3, c4, c5, c6, c7], _, hf =>
    have h0 := hf 0 _ rfl
    rw [List.getElem?_eq_getElem (by omega)] at h0
    obtain ⟨y0, q0, _, e0⟩ := (opd_str (P := Tryz.prog) (t := 9) (by kernel_rfl)) enc w spare held m [c0] _ h0
    have h1 := hf 1 _ rfl
    rw [List.getElem?_eq_getElem (by omega)] at h1
    obtain ⟨y1, q1, _, e1⟩ := (opd_str (P := Tryz.prog) (t := 9) (by kernel_rfl)) enc w spare held m [c1] _ h1
    have h2 := hf 2 _ rfl
    rw [List.getElem?_eq_getElem (by omega)] at h2
    obtain ⟨y2, q2, _, e2⟩ := (opd_int (P := Tryz.prog) (t := 3) (by kernel_rfl)) enc w spare held m [c2] _ h2
    have h3 := hf 3 _ rfl
    rw [List.getElem?_eq_getElem (by omega)] at h3
    obtain ⟨y3, q3, _, e3⟩ := opd_term enc w spare held m [c3, c4, c5, c6, c7] _ h3
    refine ⟨⟨y0, y1, y2, y3⟩, trivial, rfl, fun i d v hd hv => ?_⟩
    match i, hd, hv with
    | 0, hd, hv => cases hd; cases hv; exact e0 0 _ _ rfl rfl
    | 1, hd, hv => cases hd; cases hv; exact e1 0 _ _ rfl rfl
    | 2, hd, hv => cases hd; cases hv; exact e2 0 _ _ rfl rfl
    | 3, hd, hv => cases hd; cases hv; exact e3 0 _ _ rfl rfl
    | 4, hd, hv => cases hd; cases hv; exact e3 1 _ _ rfl rfl
    | 5, hd, hv => cases hd; cases hv; exact e3 2 _ _ rfl rfl
    | 6, hd, hv => cases hd; cases hv; exact e3 3 _ _ rfl rfl
    | 7, hd, hv => cases hd; cases hv; exact e3 4 _ _ rfl rfl
theorem opd_s41 : OpD Tryz.prog 41 (slC 8 FromD.c) (fun p => (p.1 = true → p.2 = []) ∧ (∀ x ∈ p.2, (fun _ => True) x) ∧ p.2.length ≤ maxLen) := opd_slice (n := 8) (e := 78) (by kernel_rfl) (by kernel_rfl) (by decide) opd_from (fun _ => rfl)
set_option maxRecDepth 20000 in
theorem opd_atom : OpD Tryz.prog 124 AtomD.c (fun _ => True) := fun enc w spare held fuel cs x h => by
  obtain ⟨xs, m, _, _, hl, hlen, hf⟩ := DataW.trod_struct Tryz.underlying124 h
  replace hl : cs.length = 11 := hl.trans (by kernel_rfl)
  replace hlen : xs.length = 3 := hlen
  match cs, hl, hf with
  | [c0, c1, c2, c3, c4, c5, c6, c7, c8, c9, c10], _, hf =>
    have h0 := hf 0 _ rfl
    rw [List.getElem?_eq_getElem (by omega)] at h0
    obtain ⟨y0, q0, _, e0⟩ := (opd_int (P := Tryz.prog) (t := 3) (by kernel_rfl)) enc w spare held m [c0] _ h0
    have h1 := hf 1 _ rfl
    rw [List.getElem?_eq_getElem (by omega)] at h1
    obtain ⟨y1, q1, _, e1⟩ := opd_term enc w spare held m [c1, c2, c3, c4, c5] _ h1
    have h2 := hf 2 _ rfl
    rw [List.getElem?_eq_getElem (by omega)] at h2
    obtain ⟨y2, q2, _, e2⟩ := opd_term enc w spare held m [c6, c7, c8, c9, c10] _ h2
    refine ⟨⟨y0, y1, y2⟩, trivial, rfl, fun i d v hd hv => ?_⟩
    match i, hd, hv with
    | 0, hd, hv => cases hd; cases hv; exact e0 0 _ _ rfl rfl
    | 1, hd, hv => cases hd; cases hv; exact e1 0 _ _ rfl rfl
    | 2, hd, hv => cases hd; cases hv; exact e1 1 _ _ rfl rfl
    | 3, hd, hv => cases hd; cases hv; exact e1 2 _ _ rfl rfl
    | 4, hd, hv => cases hd; cases hv; exact e1 3 _ _ rfl rfl
    | 5, hd, hv => cases hd; cases hv; exact e1 4 _ _ rfl rfl
    | 6, hd, hv => cases hd; cases hv; exact e2 0 _ _ rfl rfl
    | 7, hd, hv => cases hd; cases hv; exact e2 1 _ _ rfl rfl
    | 8, hd, hv => cases hd; cases hv; exact e2 2 _ _ rfl rfl
    | 9, hd, hv => cases hd; cases hv; exact e2 3 _ _ rfl rfl
    | 10, hd, hv => cases hd; cases hv; exact e2 4 _ _ rfl rfl
theorem opd_s42 : OpD Tryz.prog 42 (slC 11 AtomD.c) (fun p => (p.1 = true → p.2 = []) ∧ (∀ x ∈ p.2, (fun _ => True) x) ∧ p.2.length ≤ maxLen) := opd_slice (n := 11) (e := 124) (by kernel_rfl) (by kernel_rfl) (by decide) opd_atom (fun _ => rfl)
set_option maxRecDepth 20000 in
theorem opd_set : OpD Tryz.prog 127 SetD.c (fun _ => True) := fun enc w spare held fuel cs x h => by
  obtain ⟨xs, m, _, _, hl, hlen, hf⟩ := DataW.trod_struct Tryz.underlying127 h
  replace hl : cs.length = 7 := hl.trans (by kernel_rfl)
  replace hlen : xs.length = 3 := hlen
  match cs, hl, hf with
  | [c0, c1, c2, c3, c4, c5, c6], _, hf =>
    have h0 := hf 0 _ rfl
    rw [List.getElem?_eq_getElem (by omega)] at h0
    obtain ⟨y0, q0, _, e0⟩ := (opd_str (P := Tryz.prog) (t := 9) (by kernel_rfl)) enc w spare held m [c0] _ h0
    have h1 := hf 1 _ rfl
    rw [List.getElem?_eq_getElem (by omega)] at h1
    obtain ⟨y1, q1, _, e1⟩ := (opd_int (P := Tryz.prog) (t := 3) (by kernel_rfl)) enc w spare held m [c1] _ h1
    have h2 := hf 2 _ rfl
    rw [List.getElem?_eq_getElem (by omega)] at h2
    obtain ⟨y2, q2, _, e2⟩ := opd_term enc w spare held m [c2, c3, c4, c5, c6] _ h2
    refine ⟨⟨y0, y1, y2⟩, trivial, rfl, fun i d v hd hv => ?_⟩
    match i, hd, hv with
    | 0, hd, hv => cases hd; cases hv; exact e0 0 _ _ rfl rfl
    | 1, hd, hv => cases hd; cases hv; exact e1 0 _ _ rfl rfl
    | 2, hd, hv => cases hd; cases hv; exact e2 0 _ _ rfl rfl
    | 3, hd, hv => cases hd; cases hv; exact e2 1 _ _ rfl rfl
    | 4, hd, hv => cases hd; cases hv; exact e2 2 _ _ rfl rfl
    | 5, hd, hv => cases hd; cases hv; exact e2 3 _ _ rfl rfl
    | 6, hd, hv => cases hd; cases hv; exact e2 4 _ _ rfl rfl
theorem opd_s43 : OpD Tryz.prog 43 (slC 7 SetD.c) (fun p => (p.1 = true → p.2 = []) ∧ (∀ x ∈ p.2, (fun _ => True) x) ∧ p.2.length ≤ maxLen) := opd_slice (n := 7) (e := 127) (by kernel_rfl) (by kernel_rfl) (by decide) opd_set (fun _ => rfl)
set_option maxRecDepth 20000 in
theorem opd_rule : OpD Tryz.prog 45 RuleD.c RuleD.fine := fun enc w spare held fuel cs x h => by
  obtain ⟨xs, m, _, _, hl, hlen, hf⟩ := DataW.trod_struct Tryz.underlying45 h
  replace hl : cs.length = 5 := hl.trans (by kernel_rfl)
  replace hlen : xs.length = 5 := hlen
  match cs, hl, hf with
  | [c0, c1, c2, c3, c4], _, hf =>
    have h0 := hf 0 _ rfl
    rw [List.getElem?_eq_getElem (by omega)] at h0
    obtain ⟨y0, q0, _, e0⟩ := (opd_str (P := Tryz.prog) (t := 9) (by kernel_rfl)) enc w spare held m [c0] _ h0
    have h1 := hf 1 _ rfl
    rw [List.getElem?_eq_getElem (by omega)] at h1
    obtain ⟨y1, q1, _, e1⟩ := (opd_int (P := Tryz.prog) (t := 3) (by kernel_rfl)) enc w spare held m [c1] _ h1
    have h2 := hf 2 _ rfl
    rw [List.getElem?_eq_getElem (by omega)] at h2
    obtain ⟨y2, q2, _, e2⟩ := opd_s41 enc w spare held m [c2] _ h2
    have h3 := hf 3 _ rfl
    rw [List.getElem?_eq_getElem (by omega)] at h3
    obtain ⟨y3, q3, _, e3⟩ := opd_s42 enc w spare held m [c3] _ h3
    have h4 := hf 4 _ rfl
    rw [List.getElem?_eq_getElem (by omega)] at h4
    obtain ⟨y4, q4, _, e4⟩ := opd_s43 enc w spare held m [c4] _ h4
    refine ⟨⟨y0, y1, y2.1, y2.2, y3.1, y3.2, y4.1, y4.2⟩, q2.2.2, rfl, fun i d v hd hv => ?_⟩
    match i, hd, hv with
    | 0, hd, hv => cases hd; cases hv; exact e0 0 _ _ rfl rfl
    | 1, hd, hv => cases hd; cases hv; exact e1 0 _ _ rfl rfl
    | 2, hd, hv => cases hd; cases hv; exact e2 0 _ _ rfl rfl
    | 3, hd, hv => cases hd; cases hv; exact e3 0 _ _ rfl rfl
    | 4, hd, hv => cases hd; cases hv; exact e4 0 _ _ rfl rfl
theorem opd_s25 : OpD Tryz.prog 25 (slC 5 RuleD.c) (fun p => (p.1 = true → p.2 = []) ∧ (∀ x ∈ p.2, RuleD.fine x) ∧ p.2.length ≤ maxLen) := opd_slice (n := 5) (e := 45) (by kernel_rfl) (by kernel_rfl) (by decide) opd_rule (fun _ => rfl)
set_option maxRecDepth 20000 in
theorem opd_move : OpD Tryz.prog 194 MoveD.c (fun _ => True) := fun enc w spare held fuel cs x h => by
  obtain ⟨xs, m, _, _, hl, hlen, hf⟩ := DataW.trod_struct Tryz.underlying194 h
  replace hl : cs.length = 5 := hl.trans (by kernel_rfl)
  replace hlen : xs.length = 5 := hlen
  match cs, hl, hf with
  | [c0, c1, c2, c3, c4], _, hf =>
    have h0 := hf 0 _ rfl
    rw [List.getElem?_eq_getElem (by omega)] at h0
    obtain ⟨y0, q0, _, e0⟩ := (opd_str (P := Tryz.prog) (t := 9) (by kernel_rfl)) enc w spare held m [c0] _ h0
    have h1 := hf 1 _ rfl
    rw [List.getElem?_eq_getElem (by omega)] at h1
    obtain ⟨y1, q1, _, e1⟩ := (opd_str (P := Tryz.prog) (t := 9) (by kernel_rfl)) enc w spare held m [c1] _ h1
    have h2 := hf 2 _ rfl
    rw [List.getElem?_eq_getElem (by omega)] at h2
    obtain ⟨y2, q2, _, e2⟩ := (opd_int (P := Tryz.prog) (t := 3) (by kernel_rfl)) enc w spare held m [c2] _ h2
    have h3 := hf 3 _ rfl
    rw [List.getElem?_eq_getElem (by omega)] at h3
    obtain ⟨y3, q3, _, e3⟩ := (opd_int (P := Tryz.prog) (t := 3) (by kernel_rfl)) enc w spare held m [c3] _ h3
    have h4 := hf 4 _ rfl
    rw [List.getElem?_eq_getElem (by omega)] at h4
    obtain ⟨y4, q4, _, e4⟩ := (opd_int (P := Tryz.prog) (t := 3) (by kernel_rfl)) enc w spare held m [c4] _ h4
    refine ⟨⟨y0, y1, y2, y3, y4⟩, trivial, rfl, fun i d v hd hv => ?_⟩
    match i, hd, hv with
    | 0, hd, hv => cases hd; cases hv; exact e0 0 _ _ rfl rfl
    | 1, hd, hv => cases hd; cases hv; exact e1 0 _ _ rfl rfl
    | 2, hd, hv => cases hd; cases hv; exact e2 0 _ _ rfl rfl
    | 3, hd, hv => cases hd; cases hv; exact e3 0 _ _ rfl rfl
    | 4, hd, hv => cases hd; cases hv; exact e4 0 _ _ rfl rfl
theorem opd_s57 : OpD Tryz.prog 57 (slC 5 MoveD.c) (fun p => (p.1 = true → p.2 = []) ∧ (∀ x ∈ p.2, (fun _ => True) x) ∧ p.2.length ≤ maxLen) := opd_slice (n := 5) (e := 194) (by kernel_rfl) (by kernel_rfl) (by decide) opd_move (fun _ => rfl)
set_option maxRecDepth 20000 in
theorem opd_convert : OpD Tryz.prog 59 ConvertD.c (fun _ => True) := fun enc w spare held fuel cs x h => by
  obtain ⟨xs, m, _, _, hl, hlen, hf⟩ := DataW.trod_struct Tryz.underlying59 h
  replace hl : cs.length = 5 := hl.trans (by kernel_rfl)
  replace hlen : xs.length = 5 := hlen
  match cs, hl, hf with
  | [c0, c1, c2, c3, c4], _, hf =>
    have h0 := hf 0 _ rfl
    rw [List.getElem?_eq_getElem (by omega)] at h0
    obtain ⟨y0, q0, _, e0⟩ := (opd_str (P := Tryz.prog) (t := 9) (by kernel_rfl)) enc w spare held m [c0] _ h0
    have h1 := hf 1 _ rfl
    rw [List.getElem?_eq_getElem (by omega)] at h1
    obtain ⟨y1, q1, _, e1⟩ := (opd_str (P := Tryz.prog) (t := 9) (by kernel_rfl)) enc w spare held m [c1] _ h1
    have h2 := hf 2 _ rfl
    rw [List.getElem?_eq_getElem (by omega)] at h2
    obtain ⟨y2, q2, _, e2⟩ := (opd_int (P := Tryz.prog) (t := 3) (by kernel_rfl)) enc w spare held m [c2] _ h2
    have h3 := hf 3 _ rfl
    rw [List.getElem?_eq_getElem (by omega)] at h3
    obtain ⟨y3, q3, _, e3⟩ := (opd_int (P := Tryz.prog) (t := 3) (by kernel_rfl)) enc w spare held m [c3] _ h3
    have h4 := hf 4 _ rfl
    rw [List.getElem?_eq_getElem (by omega)] at h4
    obtain ⟨y4, q4, _, e4⟩ := opd_s57 enc w spare held m [c4] _ h4
    refine ⟨⟨y0, y1, y2, y3, y4.1, y4.2⟩, trivial, rfl, fun i d v hd hv => ?_⟩
    match i, hd, hv with
    | 0, hd, hv => cases hd; cases hv; exact e0 0 _ _ rfl rfl
    | 1, hd, hv => cases hd; cases hv; exact e1 0 _ _ rfl rfl
    | 2, hd, hv => cases hd; cases hv; exact e2 0 _ _ rfl rfl
    | 3, hd, hv => cases hd; cases hv; exact e3 0 _ _ rfl rfl
    | 4, hd, hv => cases hd; cases hv; exact e4 0 _ _ rfl rfl
theorem opd_s26 : OpD Tryz.prog 26 (slC 5 ConvertD.c) (fun p => (p.1 = true → p.2 = []) ∧ (∀ x ∈ p.2, (fun _ => True) x) ∧ p.2.length ≤ maxLen) := opd_slice (n := 5) (e := 59) (by kernel_rfl) (by kernel_rfl) (by decide) opd_convert (fun _ => rfl)
set_option maxRecDepth 20000 in
theorem opd_ref : OpD Tryz.prog 114 RefD.c (fun _ => True) := fun enc w spare held fuel cs x h => by
  obtain ⟨xs, m, _, _, hl, hlen, hf⟩ := DataW.trod_struct Tryz.underlying114 h
  replace hl : cs.length = 4 := hl.trans (by kernel_rfl)
  replace hlen : xs.length = 4 := hlen
  match cs, hl, hf with
  | [c0, c1, c2, c3], _, hf =>
    have h0 := hf 0 _ rfl
    rw [List.getElem?_eq_getElem (by omega)] at h0
    obtain ⟨y0, q0, _, e0⟩ := (opd_str (P := Tryz.prog) (t := 9) (by kernel_rfl)) enc w spare held m [c0] _ h0
    have h1 := hf 1 _ rfl
    rw [List.getElem?_eq_getElem (by omega)] at h1
    obtain ⟨y1, q1, _, e1⟩ := (opd_str (P := Tryz.prog) (t := 9) (by kernel_rfl)) enc w spare held m [c1] _ h1
    have h2 := hf 2 _ rfl
    rw [List.getElem?_eq_getElem (by omega)] at h2
    obtain ⟨y2, q2, _, e2⟩ := (opd_int (P := Tryz.prog) (t := 3) (by kernel_rfl)) enc w spare held m [c2] _ h2
    have h3 := hf 3 _ rfl
    rw [List.getElem?_eq_getElem (by omega)] at h3
    obtain ⟨y3, q3, _, e3⟩ := (opd_int (P := Tryz.prog) (t := 3) (by kernel_rfl)) enc w spare held m [c3] _ h3
    refine ⟨⟨y0, y1, y2, y3⟩, trivial, rfl, fun i d v hd hv => ?_⟩
    match i, hd, hv with
    | 0, hd, hv => cases hd; cases hv; exact e0 0 _ _ rfl rfl
    | 1, hd, hv => cases hd; cases hv; exact e1 0 _ _ rfl rfl
    | 2, hd, hv => cases hd; cases hv; exact e2 0 _ _ rfl rfl
    | 3, hd, hv => cases hd; cases hv; exact e3 0 _ _ rfl rfl
theorem opd_s60 : OpD Tryz.prog 60 (slC 4 RefD.c) (fun p => (p.1 = true → p.2 = []) ∧ (∀ x ∈ p.2, (fun _ => True) x) ∧ p.2.length ≤ maxLen) := opd_slice (n := 4) (e := 114) (by kernel_rfl) (by kernel_rfl) (by decide) opd_ref (fun _ => rfl)
set_option maxRecDepth 20000 in
theorem opd_purpose : OpD Tryz.prog 62 PurposeD.c (fun _ => True) := fun enc w spare held fuel cs x h => by
  obtain ⟨xs, m, _, _, hl, hlen, hf⟩ := DataW.trod_struct Tryz.underlying62 h
  replace hl : cs.length = 3 := hl.trans (by kernel_rfl)
  replace hlen : xs.length = 3 := hlen
  match cs, hl, hf with
  | [c0, c1, c2], _, hf =>
    have h0 := hf 0 _ rfl
    rw [List.getElem?_eq_getElem (by omega)] at h0
    obtain ⟨y0, q0, _, e0⟩ := (opd_str (P := Tryz.prog) (t := 9) (by kernel_rfl)) enc w spare held m [c0] _ h0
    have h1 := hf 1 _ rfl
    rw [List.getElem?_eq_getElem (by omega)] at h1
    obtain ⟨y1, q1, _, e1⟩ := opd_s60 enc w spare held m [c1] _ h1
    have h2 := hf 2 _ rfl
    rw [List.getElem?_eq_getElem (by omega)] at h2
    obtain ⟨y2, q2, _, e2⟩ := (opd_int (P := Tryz.prog) (t := 3) (by kernel_rfl)) enc w spare held m [c2] _ h2
    refine ⟨⟨y0, y1.1, y1.2, y2⟩, trivial, rfl, fun i d v hd hv => ?_⟩
    match i, hd, hv with
    | 0, hd, hv => cases hd; cases hv; exact e0 0 _ _ rfl rfl
    | 1, hd, hv => cases hd; cases hv; exact e1 0 _ _ rfl rfl
    | 2, hd, hv => cases hd; cases hv; exact e2 0 _ _ rfl rfl
theorem opd_s27 : OpD Tryz.prog 27 (slC 3 PurposeD.c) (fun p => (p.1 = true → p.2 = []) ∧ (∀ x ∈ p.2, (fun _ => True) x) ∧ p.2.length ≤ maxLen) := opd_slice (n := 3) (e := 62) (by kernel_rfl) (by kernel_rfl) (by decide) opd_purpose (fun _ => rfl)
set_option maxRecDepth 20000 in
theorem opd_source : OpD Tryz.prog 29 SourceD.c SourceD.fine := fun enc w spare held fuel cs x h => by
  obtain ⟨xs, m, _, _, hl, hlen, hf⟩ := DataW.trod_struct Tryz.underlying29 h
  replace hl : cs.length = 6 := hl.trans (by kernel_rfl)
  replace hlen : xs.length = 6 := hlen
  match cs, hl, hf with
  | [c0, c1, c2, c3, c4, c5], _, hf =>
    have h0 := hf 0 _ rfl
    rw [List.getElem?_eq_getElem (by omega)] at h0
    obtain ⟨y0, q0, _, e0⟩ := opd_s22 enc w spare held m [c0] _ h0
    have h1 := hf 1 _ rfl
    rw [List.getElem?_eq_getElem (by omega)] at h1
    obtain ⟨y1, q1, _, e1⟩ := opd_s23 enc w spare held m [c1] _ h1
    have h2 := hf 2 _ rfl
    rw [List.getElem?_eq_getElem (by omega)] at h2
    obtain ⟨y2, q2, _, e2⟩ := opd_s24 enc w spare held m [c2] _ h2
    have h3 := hf 3 _ rfl
    rw [List.getElem?_eq_getElem (by omega)] at h3
    obtain ⟨y3, q3, _, e3⟩ := opd_s25 enc w spare held m [c3] _ h3
    have h4 := hf 4 _ rfl
    rw [List.getElem?_eq_getElem (by omega)] at h4
    obtain ⟨y4, q4, _, e4⟩ := opd_s26 enc w spare held m [c4] _ h4
    have h5 := hf 5 _ rfl
    rw [List.getElem?_eq_getElem (by omega)] at h5
    obtain ⟨y5, q5, _, e5⟩ := opd_s27 enc w spare held m [c5] _ h5
    refine ⟨⟨y0.1, y0.2, y1.1, y1.2, y2.1, y2.2, y3.1, y3.2, y4.1, y4.2, y5.1, y5.2⟩, ⟨q2.1, q2.2.2, q3.1, q3.2.2, fun r hr => q3.2.1 r hr⟩, rfl, fun i d v hd hv => ?_⟩
    match i, hd, hv with
    | 0, hd, hv => cases hd; cases hv; exact e0 0 _ _ rfl rfl
    | 1, hd, hv => cases hd; cases hv; exact e1 0 _ _ rfl rfl
    | 2, hd, hv => cases hd; cases hv; exact e2 0 _ _ rfl rfl
    | 3, hd, hv => cases hd; cases hv; exact e3 0 _ _ rfl rfl
    | 4, hd, hv => cases hd; cases hv; exact e4 0 _ _ rfl rfl
    | 5, hd, hv => cases hd; cases hv; exact e5 0 _ _ rfl rfl
end Go.Proofs.YtdhfakajlnidiaaGreat
