/- Part 6 of the walks and laws that these claims rest on. No condition. -/
import Derived.Test.YtdhfakajlnidiaaRows
import Derived.LaidMore
import Derived.Stop.Joined
import Derived.ChangeArms
import Derived.Maps.OwnSet
import Derived.Maps.Views
import Derived.Maps.OwnOps
import Derived.BigQuiet
import Derived.Deep.QuietTactic
import Derived.Test.YtdhfakajlnidiaaPart5
set_option linter.all false
set_option linter.unusedSimpArgs false
set_option linter.unusedVariables false
set_option linter.unnecessarySimpa false
namespace Go.Proofs.Ytdhfakajlnidiaa
open Go.RowKit

/-! The chapter's examples. -/
abbrev litL (l : List Int) : D := .sll 1 (l.map fun z => [.int .i64 (.lit z)])
abbrev varL (l : List Int) : D := .sll 1 (l.map fun z => [.int .i64 (.var z)])
theorem lit_var (l : List Int) : DEq (litL l) (varL l) := by
  refine .slls (by simp) (fun i a b h1 h2 => ?_) fun i a b h1 h2 j d d' h3 h4 => ?_
  all_goals
    rw [List.getElem?_map, Option.map_eq_some_iff] at h1 h2
    obtain ⟨x, q1, rfl⟩ := h1
    obtain ⟨y, q2, rfl⟩ := h2
    rw [q1] at q2
    cases q2
  · rfl
  · match j with
    | 0 => cases h3; cases h4; exact .int rfl
    | j + 1 => simp at h3
theorem map1 {f g : List Int → D} (h : ∀ l, DEq (f l) (g l)) (L : List (List Int)) : DEq (.sll 1 (L.map fun l => [f l])) (.sll 1 (L.map fun l => [g l])) := by
  refine .slls (by simp) (fun i a b h1 h2 => ?_) fun i a b h1 h2 j d d' h3 h4 => ?_
  all_goals
    rw [List.getElem?_map, Option.map_eq_some_iff] at h1 h2
    obtain ⟨x, q1, rfl⟩ := h1
    obtain ⟨y, q2, rfl⟩ := h2
    rw [q1] at q2
    cases q2
  · rfl
  · match j with
    | 0 => cases h3; cases h4; exact h x
    | j + 1 => simp at h3
theorem src_lit (n : Nat) (L : List (List Int)) (hn : n ≤ 1000) (hL : L.length ≤ 1000) (hx : ∀ x, x ∈ L → x ≠ [] ∧ x.length ≤ 1000) : Pure Try.prog 22 [.int .i64 (.lit n), .sll 1 (L.map fun l => [litL l])] (.agg (srcOf n (L.map RowI.mk)).c) := by
  have h := source_pure n (L.map RowI.mk) hn (by simpa using hL) (fun x hx' => by
    obtain ⟨l, hl, rfl⟩ := List.mem_map.1 hx'
    exact hx l hl)
  refine Pure.args (.cons (.int (e' := .nat n) rfl) (.cons (map1 lit_var L) .nil)) ?_
  refine Pure.args (.cons (.refl _) (.cons (map1 (g := fun l => .slm 1 none intC l) (fun l => .sll rfl (fun e h => by cases h)) L) .nil)) ?_
  exact Pure.args (.cons (.refl _) (.cons (.sll (by rw [List.map_map]; rfl) (fun e h => by cases h)) .nil)) h
theorem same_lit (l m : List Int) (h : l.length < 9223372036854775807) : Pure Try.prog 15 [.slm 1 none intC l, litL m] (boolD (decide (l = m))) := by
  refine Pure.args (.cons (.refl _) (.cons (lit_var m) .nil)) ?_
  exact Pure.args (.cons (.refl _) (.cons (.sll (c := intC) (nb := none) rfl (fun e h => by cases h)) .nil)) (Same_pure l m none none h)
def S0 : SourceD := ⟨true, [], true, [], true, [], true, [], true, [], true, []⟩
abbrev nilS : D := .agg [.nils, .nils, .nils, .nils, .nils, .nils]
theorem nils_s0 : DEq nilS (.agg S0.c) := .aggs rfl fun i d d' h1 h2 => by
  match i with
  | 0 => cases h1; cases h2; exact .nilv rfl rfl
  | 1 => cases h1; cases h2; exact .nilv rfl rfl
  | 2 => cases h1; cases h2; exact .nilv rfl rfl
  | 3 => cases h1; cases h2; exact .nilv rfl rfl
  | 4 => cases h1; cases h2; exact .nilv rfl rfl
  | 5 => cases h1; cases h2; exact .nilv rfl rfl
  | i + 6 => simp at h1
theorem dtup3 {a b c a' b' c' : D} (h1 : DEq a a') (h2 : DEq b b') (h3 : DEq c c') : DEq (.tup [a, b, c]) (.tup [a', b', c']) := .tups rfl fun i d d' q1 q2 => by
  match i with
  | 0 => cases q1; cases q2; exact h1
  | 1 => cases q1; cases q2; exact h2
  | 2 => cases q1; cases q2; exact h3
  | i + 3 => simp at q1
theorem dtup2 {a b a' b' : D} (h1 : DEq a a') (h2 : DEq b b') : DEq (.tup [a, b]) (.tup [a', b']) := .tups rfl fun i d d' q1 q2 => by
  match i with
  | 0 => cases q1; cases q2; exact h1
  | 1 => cases q1; cases q2; exact h2
  | i + 2 => simp at q1
theorem order_at (S : SourceD) (h : SmallS S) (l : List Int) (ok : Bool) (e : Int) (hl : ordL S = l) (ho : ordOK S = ok) (he : numE S = e) : Pure Try.prog 16 [.agg S.c] (.tup [.slm 1 none intC l, .bool (.lit ok), .int .i64 (.lit e)]) := by
  refine (Order_pure S h).res (dtup3 (.slm (.inl rfl) hl) (.bool ho) (.int he))
theorem cycle_at (S : SourceD) (h : SmallS S) (l : List Int) (ok : Bool) (e : Int) (hl : cycL S = l) (ho : hasCyc S = ok) (he : numE S = e) : Pure Try.prog 11 [.agg S.c] (.tup [.slm 1 none intC l, .bool (.lit ok), .int .i64 (.lit e)]) := by
  refine (Cycle_pure S h).res (dtup3 (.slm (.inl rfl) hl) (.bool ho) (.int he))
theorem above_at (S : SourceD) (h : SmallS S) (x : Int) (l : List Int) (e : Int) (hl : aboveL S x = l) (he : aboveE S x = e) : Pure Try.prog 13 [.agg S.c, .int .i64 (.lit x)] (.tup [.slm 1 none intC l, .int .i64 (.lit e)]) := by
  have h1 : Pure Try.prog 13 [.agg S.c, .int .i64 (.lit x)] _ := Pure.args (args' := [.agg S.c, i64 x]) (.cons (.refl _) (.cons (.int rfl) .nil)) (Above_pure S h x)
  exact h1.res (dtup2 (.slm (.inl rfl) hl) (.int he))
theorem small_src (n : Nat) (L : List (List Int)) (hn : n ≤ 7) (hL : L.length ≤ 10) (hx : ∀ x, x ∈ L → x.length ≤ 7) : SmallS (srcOf n (L.map RowI.mk)) := by
  refine ⟨by simp [srcOf, hn], by simp [srcOf, hL], fun r hr => ?_⟩
  simp only [srcOf, List.mem_map] at hr
  obtain ⟨x, ⟨l, hl, rfl⟩, rfl⟩ := hr
  have := hx l hl
  simp only [rule0, List.length_map, List.length_tail]
  omega
theorem small_s0 : SmallS S0 := ⟨by decide, by decide, fun r hr => by cases hr⟩
theorem s1o : ordL (srcOf 4 ([[0, 2, 3], [2, 1]].map RowI.mk)) = [1, 2, 3, 0] ∧ ordOK (srcOf 4 ([[0, 2, 3], [2, 1]].map RowI.mk)) = true ∧ numE (srcOf 4 ([[0, 2, 3], [2, 1]].map RowI.mk)) = 0 := by
  refine ⟨by kernel_rfl, by kernel_rfl, by kernel_rfl⟩
theorem s2o : ordL (srcOf 3 ([[1, 2], [2, 1]].map RowI.mk)) = [] ∧ ordOK (srcOf 3 ([[1, 2], [2, 1]].map RowI.mk)) = false ∧ numE (srcOf 3 ([[1, 2], [2, 1]].map RowI.mk)) = 0 := by
  refine ⟨by kernel_rfl, by kernel_rfl, by kernel_rfl⟩
theorem s3c : cycL (srcOf 3 ([[2, 1], [1, 2]].map RowI.mk)) = [1, 2] ∧ hasCyc (srcOf 3 ([[2, 1], [1, 2]].map RowI.mk)) = true ∧ numE (srcOf 3 ([[2, 1], [1, 2]].map RowI.mk)) = 0 := by
  refine ⟨by kernel_rfl, by kernel_rfl, by kernel_rfl⟩
theorem s4c : cycL (srcOf 3 ([[2, 1]].map RowI.mk)) = [] ∧ hasCyc (srcOf 3 ([[2, 1]].map RowI.mk)) = false ∧ numE (srcOf 3 ([[2, 1]].map RowI.mk)) = 0 := by
  refine ⟨by kernel_rfl, by kernel_rfl, by kernel_rfl⟩
theorem s5a : aboveL (srcOf 4 ([[0, 2, 3], [2, 1]].map RowI.mk)) 1 = [0, 2] ∧ aboveE (srcOf 4 ([[0, 2, 3], [2, 1]].map RowI.mk)) 1 = 0 := by
  refine ⟨by kernel_rfl, by kernel_rfl⟩
theorem s6a : aboveL S0 0 = [] ∧ aboveE S0 0 = 1 := by
  refine ⟨by kernel_rfl, by kernel_rfl⟩
theorem s7o : ordL (srcOf 1 ([[1, 0]].map RowI.mk)) = [] ∧ ordOK (srcOf 1 ([[1, 0]].map RowI.mk)) = false ∧ numE (srcOf 1 ([[1, 0]].map RowI.mk)) = 140 := by
  refine ⟨by kernel_rfl, by kernel_rfl, by kernel_rfl⟩
theorem s8o : ordL S0 = [] ∧ ordOK S0 = true ∧ numE S0 = 0 := by
  refine ⟨by kernel_rfl, by kernel_rfl, by kernel_rfl⟩
set_option maxHeartbeats 8000000 in
set_option maxRecDepth 100000 in
set_option maxHeartbeats 4000000 in
theorem check20_pure : Pure Try.prog 20 [nilS] (.int .i64 (.lit 0)) := by
  have h1 := check0_pure
  have h2 := (order_at S0 small_s0 _ _ _ s8o.1 s8o.2.1 s8o.2.2).args (.cons nils_s0 .nil)
  refine Pure.intro (want := [.int .i64 (.lit 0)]) T_ok follows Try.func20 rfl (by kernel_rfl) (rs := [.tmp 2]) rfl (by kernel_rfl) ?_
  generalize hP : Try.prog = P at *
  have hT : T.ok P := hP ▸ T_ok
  have hm : P.follows .mixedOrders = true := hP ▸ follows
  unfold Try.f20
  dsimp only
  cbv
  refine CallP.pure _ h1 rfl ?_
  cbv
  refine CallP.pure _ h2 rfl ?_
  cbv
  exact .mk (.cons (.refl _) .nil) rfl
set_option maxHeartbeats 8000000 in
set_option maxRecDepth 100000 in
set_option maxHeartbeats 4000000 in
theorem sane_pure : Pure Try.prog 9 [] (boolD true) := by
  have a1 := src_lit 4 [[0, 2, 3], [2, 1]] (by decide) (by decide) (by decide)
  have a2 := src_lit 3 [[1, 2], [2, 1]] (by decide) (by decide) (by decide)
  have a3 := src_lit 3 [[2, 1], [1, 2]] (by decide) (by decide) (by decide)
  have a4 := src_lit 3 [[2, 1]] (by decide) (by decide) (by decide)
  have a7 := src_lit 1 [[1, 0]] (by decide) (by decide) (by decide)
  have b1 := order_at _ (small_src 4 [[0, 2, 3], [2, 1]] (by decide) (by decide) (by decide)) _ _ _ s1o.1 s1o.2.1 s1o.2.2
  have b2 := order_at _ (small_src 3 [[1, 2], [2, 1]] (by decide) (by decide) (by decide)) _ _ _ s2o.1 s2o.2.1 s2o.2.2
  have b3 := cycle_at _ (small_src 3 [[2, 1], [1, 2]] (by decide) (by decide) (by decide)) _ _ _ s3c.1 s3c.2.1 s3c.2.2
  have b4 := cycle_at _ (small_src 3 [[2, 1]] (by decide) (by decide) (by decide)) _ _ _ s4c.1 s4c.2.1 s4c.2.2
  have b5 := above_at _ (small_src 4 [[0, 2, 3], [2, 1]] (by decide) (by decide) (by decide)) 1 _ _ s5a.1 s5a.2
  have b6 := (above_at S0 small_s0 0 _ _ s6a.1 s6a.2).args (.cons nils_s0 (.cons (.refl _) .nil))
  have b7 := order_at _ (small_src 1 [[1, 0]] (by decide) (by decide) (by decide)) _ _ _ s7o.1 s7o.2.1 s7o.2.2
  have b8 := (order_at S0 small_s0 _ _ _ s8o.1 s8o.2.1 s8o.2.2).args (.cons nils_s0 .nil)
  have b9 := check20_pure
  have c1 := same_lit [1, 2, 3, 0] [1, 2, 3, 0] (by decide)
  have c2 := same_lit [1, 2] [1, 2] (by decide)
  have c3 := same_lit [0, 2] [0, 2] (by decide)
  obtain ⟨S1, hS1⟩ : ∃ s, s = srcOf 4 ([[0, 2, 3], [2, 1]].map RowI.mk) := ⟨_, rfl⟩
  obtain ⟨S2, hS2⟩ : ∃ s, s = srcOf 3 ([[1, 2], [2, 1]].map RowI.mk) := ⟨_, rfl⟩
  obtain ⟨S3, hS3⟩ : ∃ s, s = srcOf 3 ([[2, 1], [1, 2]].map RowI.mk) := ⟨_, rfl⟩
  obtain ⟨S4, hS4⟩ : ∃ s, s = srcOf 3 ([[2, 1]].map RowI.mk) := ⟨_, rfl⟩
  obtain ⟨S7, hS7⟩ : ∃ s, s = srcOf 1 ([[1, 0]].map RowI.mk) := ⟨_, rfl⟩
  rw [← hS1] at a1 b1 b5
  rw [← hS2] at a2 b2
  rw [← hS3] at a3 b3
  rw [← hS4] at a4 b4
  rw [← hS7] at a7 b7
  clear hS1 hS2 hS3 hS4 hS7
  rw [show decide ([1, 2, 3, 0] = ([1, 2, 3, 0] : List Int)) = true from rfl] at c1
  rw [show decide ([1, 2] = ([1, 2] : List Int)) = true from rfl] at c2
  rw [show decide ([0, 2] = ([0, 2] : List Int)) = true from rfl] at c3
  replace c1 := c1.res (.bool (e' := .lit true) rfl)
  replace c2 := c2.res (.bool (e' := .lit true) rfl)
  replace c3 := c3.res (.bool (e' := .lit true) rfl)
  refine Pure.intro (want := [boolD true]) T_ok follows Try.func9 rfl (by kernel_rfl) (rs := [.tmp 0]) rfl (by kernel_rfl) ?_
  generalize hP : Try.prog = P at *
  have hT : T.ok P := hP ▸ T_ok
  have hm : P.follows .mixedOrders = true := hP ▸ follows
  unfold Try.f9
  dsimp only
  cbv
  refine CallP.pure _ a1 rfl ?_
  cbv
  refine CallP.pure _ b1 rfl ?_
  cbv
  refine CallP.pure _ a2 rfl ?_
  cbv
  refine CallP.pure _ b2 rfl ?_
  cbv
  refine CallP.pure _ a3 rfl ?_
  cbv
  refine CallP.pure _ b3 rfl ?_
  cbv
  refine CallP.pure _ a4 rfl ?_
  cbv
  refine CallP.pure _ b4 rfl ?_
  cbv
  refine CallP.pure _ a1 rfl ?_
  cbv
  refine CallP.pure _ b5 rfl ?_
  cbv
  refine CallP.pure _ b6 rfl ?_
  cbv
  refine CallP.pure _ a7 rfl ?_
  cbv
  refine CallP.pure _ b7 rfl ?_
  cbv
  refine CallP.pure _ b8 rfl ?_
  cbv
  refine CallP.pure _ c1 rfl ?_
  cbv
  (repeat (refine OpsP.go hT ?_; cbv))
  refine SplitP.mk (fun h => ?_) (fun h => (by cases (show true = false from h)))
  clear h
  (repeat (refine OpsP.go hT ?_; cbv))
  refine CallP.pure _ c2 rfl ?_
  cbv
  (repeat (refine OpsP.go hT ?_; cbv))
  refine CallP.pure _ c3 rfl ?_
  cbv
  (repeat (refine OpsP.go hT ?_; cbv))
  refine SplitP.mk (fun h => ?_) (fun h => (by cases (show true = false from h)))
  (repeat (refine OpsP.go hT ?_; cbv))
  refine CallP.pure _ b9 rfl ?_
  cbv
  (repeat (refine OpsP.go hT ?_; cbv))
  exact .mk (.cons (.eq (.bool rfl)) .nil) rfl
end Go.Proofs.Ytdhfakajlnidiaa
namespace Go.Proofs.Ytdhfakajlnidiaa
open Go.ChangeShapes Go.WideShapes Go.ChangeAt Go.RowKit

/-! The arguments of the laws: a source, as data. -/
theorem opd_str {P : Program} {t : TypeId} (ht : P.underlying t = some .string) : OpD P t strC (fun _ => True) := fun enc w spare held fuel cs x h => by
  obtain ⟨s, rfl, _, h2⟩ := DataW.trod_string ht h
  refine ⟨s, trivial, rfl, fun i d v hd hv => ?_⟩
  match i, hd, hv with
  | 0, hd, hv => cases hd; cases hv; exact .str h2
theorem opd_arr4 {P : Program} {t e : TypeId} (ht : P.underlying t = some (.array 4 e)) (he : P.underlying e = some (.int .i64)) (hc : P.cellsOf e = 1) (hct : P.cellsOf t = 4) :
    OpD P t (fun p : Int × Int × Int × Int => [i64 p.1, i64 p.2.1, i64 p.2.2.1, i64 p.2.2.2]) (fun _ => True) := fun enc w spare held fuel cs x h => by
  obtain ⟨xs, m, _, _, hl, hlen, hf⟩ := DataW.trod_array ht h
  rw [hct] at hl
  have hcell : ∀ i, i < 4 → ∃ z, cs[i]? = some (.int .i64 z) ∧ InR .i64 z := fun i hi => by
    have h0 := hf i hi
    rw [List.getElem?_eq_getElem (by omega), hc] at h0
    obtain ⟨k, e1, e2, e3⟩ := DataW.trod_int he h0
    have e5 := congrArg (·[0]?) e1
    rw [List.getElem?_take, if_pos (by decide), List.getElem?_drop] at e5
    simp at e5
    exact ⟨k, e5, InR.of_wf e3⟩
  obtain ⟨z0, a0, b0⟩ := hcell 0 (by decide)
  obtain ⟨z1, a1, b1⟩ := hcell 1 (by decide)
  obtain ⟨z2, a2, b2⟩ := hcell 2 (by decide)
  obtain ⟨z3, a3, b3⟩ := hcell 3 (by decide)
  refine ⟨(z0, z1, z2, z3), trivial, hl, fun i d v hd hv => ?_⟩
  match i, hd, hv with
  | 0, hd, hv => cases hd; rw [a0] at hv; cases hv; exact .int (e := .var z0) b0
  | 1, hd, hv => cases hd; rw [a1] at hv; cases hv; exact .int (e := .var z1) b1
  | 2, hd, hv => cases hd; rw [a2] at hv; cases hv; exact .int (e := .var z2) b2
  | 3, hd, hv => cases hd; rw [a3] at hv; cases hv; exact .int (e := .var z3) b3
def RuleD.fine (x : RuleD) : Prop := x.froms.length ≤ maxLen
structure SourceD.fine (s : SourceD) : Prop where
  ns : s.nschemas = true → s.schemas = []
  ls : s.schemas.length ≤ maxLen
  nr : s.nrules = true → s.rules = []
  lr : s.rules.length ≤ maxLen
  fr : ∀ r, r ∈ s.rules → r.froms.length ≤ maxLen
theorem opd_s22 : OpD Try.prog 22 (slC 1 strC) (fun p => (p.1 = true → p.2 = []) ∧ (∀ x ∈ p.2, (fun _ => True) x) ∧ p.2.length ≤ maxLen) := opd_slice (n := 1) (e := 9) (by kernel_rfl) (by kernel_rfl) (by decide) (opd_str (by kernel_rfl)) (fun _ => rfl)
set_option maxRecDepth 20000 in
theorem opd_unit : OpD Try.prog 98 UnitD.c (fun _ => True) := fun enc w spare held fuel cs x h => by
  obtain ⟨xs, m, _, _, hl, hlen, hf⟩ := DataW.trod_struct Try.underlying98 h
  replace hl : cs.length = 5 := hl.trans (by kernel_rfl)
  replace hlen : xs.length = 5 := hlen
  match cs, hl, hf with
  | [c0, c1, c2, c3, c4], _, hf =>
    have h0 := hf 0 _ rfl
    rw [List.getElem?_eq_getElem (by omega)] at h0
    obtain ⟨y0, q0, _, e0⟩ := (opd_str (P := Try.prog) (t := 9) (by kernel_rfl)) enc w spare held m [c0] _ h0
    have h1 := hf 1 _ rfl
    rw [List.getElem?_eq_getElem (by omega)] at h1
    obtain ⟨y1, q1, _, e1⟩ := (opd_str (P := Try.prog) (t := 9) (by kernel_rfl)) enc w spare held m [c1] _ h1
    have h2 := hf 2 _ rfl
    rw [List.getElem?_eq_getElem (by omega)] at h2
    obtain ⟨y2, q2, _, e2⟩ := (opd_int (P := Try.prog) (t := 3) (by kernel_rfl)) enc w spare held m [c2] _ h2
    have h3 := hf 3 _ rfl
    rw [List.getElem?_eq_getElem (by omega)] at h3
    obtain ⟨y3, q3, _, e3⟩ := (opd_int (P := Try.prog) (t := 3) (by kernel_rfl)) enc w spare held m [c3] _ h3
    have h4 := hf 4 _ rfl
    rw [List.getElem?_eq_getElem (by omega)] at h4
    obtain ⟨y4, q4, _, e4⟩ := (opd_int (P := Try.prog) (t := 3) (by kernel_rfl)) enc w spare held m [c4] _ h4
    refine ⟨⟨y0, y1, y2, y3, y4⟩, trivial, rfl, fun i d v hd hv => ?_⟩
    match i, hd, hv with
    | 0, hd, hv => cases hd; cases hv; exact e0 0 _ _ rfl rfl
    | 1, hd, hv => cases hd; cases hv; exact e1 0 _ _ rfl rfl
    | 2, hd, hv => cases hd; cases hv; exact e2 0 _ _ rfl rfl
    | 3, hd, hv => cases hd; cases hv; exact e3 0 _ _ rfl rfl
    | 4, hd, hv => cases hd; cases hv; exact e4 0 _ _ rfl rfl
theorem opd_s23 : OpD Try.prog 23 (slC 5 UnitD.c) (fun p => (p.1 = true → p.2 = []) ∧ (∀ x ∈ p.2, (fun _ => True) x) ∧ p.2.length ≤ maxLen) := opd_slice (n := 5) (e := 98) (by kernel_rfl) (by kernel_rfl) (by decide) opd_unit (fun _ => rfl)
set_option maxRecDepth 20000 in
theorem opd_type : OpD Try.prog 79 TypeD.c (fun _ => True) := fun enc w spare held fuel cs x h => by
  obtain ⟨xs, m, _, _, hl, hlen, hf⟩ := DataW.trod_struct Try.underlying79 h
  replace hl : cs.length = 6 := hl.trans (by kernel_rfl)
  replace hlen : xs.length = 6 := hlen
  match cs, hl, hf with
  | [c0, c1, c2, c3, c4, c5], _, hf =>
    have h0 := hf 0 _ rfl
    rw [List.getElem?_eq_getElem (by omega)] at h0
    obtain ⟨y0, q0, _, e0⟩ := (opd_int (P := Try.prog) (t := 3) (by kernel_rfl)) enc w spare held m [c0] _ h0
    have h1 := hf 1 _ rfl
    rw [List.getElem?_eq_getElem (by omega)] at h1
    obtain ⟨y1, q1, _, e1⟩ := (opd_int (P := Try.prog) (t := 3) (by kernel_rfl)) enc w spare held m [c1] _ h1
    have h2 := hf 2 _ rfl
    rw [List.getElem?_eq_getElem (by omega)] at h2
    obtain ⟨y2, q2, _, e2⟩ := (opd_int (P := Try.prog) (t := 3) (by kernel_rfl)) enc w spare held m [c2] _ h2
    have h3 := hf 3 _ rfl
    rw [List.getElem?_eq_getElem (by omega)] at h3
    obtain ⟨y3, q3, _, e3⟩ := (opd_str (P := Try.prog) (t := 9) (by kernel_rfl)) enc w spare held m [c3] _ h3
    have h4 := hf 4 _ rfl
    rw [List.getElem?_eq_getElem (by omega)] at h4
    obtain ⟨y4, q4, _, e4⟩ := (opd_int (P := Try.prog) (t := 3) (by kernel_rfl)) enc w spare held m [c4] _ h4
    have h5 := hf 5 _ rfl
    rw [List.getElem?_eq_getElem (by omega)] at h5
    obtain ⟨y5, q5, _, e5⟩ := opd_s22 enc w spare held m [c5] _ h5
    refine ⟨⟨y0, y1, y2, y3, y4, y5.1, y5.2⟩, trivial, rfl, fun i d v hd hv => ?_⟩
    match i, hd, hv with
    | 0, hd, hv => cases hd; cases hv; exact e0 0 _ _ rfl rfl
    | 1, hd, hv => cases hd; cases hv; exact e1 0 _ _ rfl rfl
    | 2, hd, hv => cases hd; cases hv; exact e2 0 _ _ rfl rfl
    | 3, hd, hv => cases hd; cases hv; exact e3 0 _ _ rfl rfl
    | 4, hd, hv => cases hd; cases hv; exact e4 0 _ _ rfl rfl
    | 5, hd, hv => cases hd; cases hv; exact e5 0 _ _ rfl rfl
set_option maxRecDepth 20000 in
theorem opd_field : OpD Try.prog 82 FieldD.c (fun _ => True) := fun enc w spare held fuel cs x h => by
  obtain ⟨xs, m, _, _, hl, hlen, hf⟩ := DataW.trod_struct Try.underlying82 h
  replace hl : cs.length = 11 := hl.trans (by kernel_rfl)
  replace hlen : xs.length = 3 := hlen
  match cs, hl, hf with
  | [c0, c1, c2, c3, c4, c5, c6, c7, c8, c9, c10], _, hf =>
    have h0 := hf 0 _ rfl
    rw [List.getElem?_eq_getElem (by omega)] at h0
    obtain ⟨y0, q0, _, e0⟩ := (opd_str (P := Try.prog) (t := 9) (by kernel_rfl)) enc w spare held m [c0] _ h0
    have h1 := hf 1 _ rfl
    rw [List.getElem?_eq_getElem (by omega)] at h1
    obtain ⟨y1, q1, _, e1⟩ := opd_type enc w spare held m [c1, c2, c3, c4, c5, c6] _ h1
    have h2 := hf 2 _ rfl
    rw [List.getElem?_eq_getElem (by omega)] at h2
    obtain ⟨y2, q2, _, e2⟩ := (opd_arr4 (t := 80) (e := 3) (by kernel_rfl) (by kernel_rfl) (by kernel_rfl) (by kernel_rfl)) enc w spare held m [c7, c8, c9, c10] _ h2
    refine ⟨⟨y0, y1, y2.1, y2.2.1, y2.2.2.1, y2.2.2.2⟩, trivial, rfl, fun i d v hd hv => ?_⟩
    match i, hd, hv with
    | 0, hd, hv => cases hd; cases hv; exact e0 0 _ _ rfl rfl
    | 1, hd, hv => cases hd; cases hv; exact e1 0 _ _ rfl rfl
    | 2, hd, hv => cases hd; cases hv; exact e1 1 _ _ rfl rfl
    | 3, hd, hv => cases hd; cases hv; exact e1 2 _ _ rfl rfl
    | 4, hd, hv => cases hd; cases hv; exact e1 3 _ _ rfl rfl
    | 5, hd, hv => cases hd; cases hv; exact e1 4 _ _ rfl rfl
    | 6, hd, hv => cases hd; cases hv; exact e1 5 _ _ rfl rfl
    | 7, hd, hv => cases hd; cases hv; exact e2 0 _ _ rfl rfl
    | 8, hd, hv => cases hd; cases hv; exact e2 1 _ _ rfl rfl
    | 9, hd, hv => cases hd; cases hv; exact e2 2 _ _ rfl rfl
    | 10, hd, hv => cases hd; cases hv; exact e2 3 _ _ rfl rfl
theorem opd_s74 : OpD Try.prog 74 (slC 11 FieldD.c) (fun p => (p.1 = true → p.2 = []) ∧ (∀ x ∈ p.2, (fun _ => True) x) ∧ p.2.length ≤ maxLen) := opd_slice (n := 11) (e := 82) (by kernel_rfl) (by kernel_rfl) (by decide) opd_field (fun _ => rfl)
theorem opd_s32 : OpD Try.prog 32 (slC 1 intC) (fun p => (p.1 = true → p.2 = []) ∧ (∀ x ∈ p.2, (fun _ => True) x) ∧ p.2.length ≤ maxLen) := opd_slice (n := 1) (e := 3) (by kernel_rfl) (by kernel_rfl) (by decide) (opd_int (by kernel_rfl)) (fun _ => rfl)
set_option maxRecDepth 20000 in
theorem opd_depend : OpD Try.prog 84 DependD.c (fun _ => True) := fun enc w spare held fuel cs x h => by
  obtain ⟨xs, m, _, _, hl, hlen, hf⟩ := DataW.trod_struct Try.underlying84 h
  replace hl : cs.length = 4 := hl.trans (by kernel_rfl)
  replace hlen : xs.length = 4 := hlen
  match cs, hl, hf with
  | [c0, c1, c2, c3], _, hf =>
    have h0 := hf 0 _ rfl
    rw [List.getElem?_eq_getElem (by omega)] at h0
    obtain ⟨y0, q0, _, e0⟩ := opd_s22 enc w spare held m [c0] _ h0
    have h1 := hf 1 _ rfl
    rw [List.getElem?_eq_getElem (by omega)] at h1
    obtain ⟨y1, q1, _, e1⟩ := (opd_str (P := Try.prog) (t := 9) (by kernel_rfl)) enc w spare held m [c1] _ h1
    have h2 := hf 2 _ rfl
    rw [List.getElem?_eq_getElem (by omega)] at h2
    obtain ⟨y2, q2, _, e2⟩ := opd_s32 enc w spare held m [c2] _ h2
    have h3 := hf 3 _ rfl
    rw [List.getElem?_eq_getElem (by omega)] at h3
    obtain ⟨y3, q3, _, e3⟩ := (opd_int (P := Try.prog) (t := 3) (by kernel_rfl)) enc w spare held m [c3] _ h3
    refine ⟨⟨y0.1, y0.2, y1, y2.1, y2.2, y3⟩, trivial, rfl, fun i d v hd hv => ?_⟩
    match i, hd, hv with
    | 0, hd, hv => cases hd; cases hv; exact e0 0 _ _ rfl rfl
    | 1, hd, hv => cases hd; cases hv; exact e1 0 _ _ rfl rfl
    | 2, hd, hv => cases hd; cases hv; exact e2 0 _ _ rfl rfl
    | 3, hd, hv => cases hd; cases hv; exact e3 0 _ _ rfl rfl
theorem opd_s75 : OpD Try.prog 75 (slC 4 DependD.c) (fun p => (p.1 = true → p.2 = []) ∧ (∀ x ∈ p.2, (fun _ => True) x) ∧ p.2.length ≤ maxLen) := opd_slice (n := 4) (e := 84) (by kernel_rfl) (by kernel_rfl) (by decide) opd_depend (fun _ => rfl)
set_option maxRecDepth 20000 in
theorem opd_schema : OpD Try.prog 77 SchemaD.c (fun _ => True) := fun enc w spare held fuel cs x h => by
  obtain ⟨xs, m, _, _, hl, hlen, hf⟩ := DataW.trod_struct Try.underlying77 h
  replace hl : cs.length = 6 := hl.trans (by kernel_rfl)
  replace hlen : xs.length = 6 := hlen
  match cs, hl, hf with
  | [c0, c1, c2, c3, c4, c5], _, hf =>
    have h0 := hf 0 _ rfl
    rw [List.getElem?_eq_getElem (by omega)] at h0
    obtain ⟨y0, q0, _, e0⟩ := (opd_str (P := Try.prog) (t := 9) (by kernel_rfl)) enc w spare held m [c0] _ h0
    have h1 := hf 1 _ rfl
    rw [List.getElem?_eq_getElem (by omega)] at h1
    obtain ⟨y1, q1, _, e1⟩ := (opd_str (P := Try.prog) (t := 9) (by kernel_rfl)) enc w spare held m [c1] _ h1
    have h2 := hf 2 _ rfl
    rw [List.getElem?_eq_getElem (by omega)] at h2
    obtain ⟨y2, q2, _, e2⟩ := (opd_int (P := Try.prog) (t := 3) (by kernel_rfl)) enc w spare held m [c2] _ h2
    have h3 := hf 3 _ rfl
    rw [List.getElem?_eq_getElem (by omega)] at h3
    obtain ⟨y3, q3, _, e3⟩ := (opd_int (P := Try.prog) (t := 3) (by kernel_rfl)) enc w spare held m [c3] _ h3
    have h4 := hf 4 _ rfl
    rw [List.getElem?_eq_getElem (by omega)] at h4
    obtain ⟨y4, q4, _, e4⟩ := opd_s74 enc w spare held m [c4] _ h4
    have h5 := hf 5 _ rfl
    rw [List.getElem?_eq_getElem (by omega)] at h5
    obtain ⟨y5, q5, _, e5⟩ := opd_s75 enc w spare held m [c5] _ h5
    refine ⟨⟨y0, y1, y2, y3, y4.1, y4.2, y5.1, y5.2⟩, trivial, rfl, fun i d v hd hv => ?_⟩
    match i, hd, hv with
    | 0, hd, hv => cases hd; cases hv; exact e0 0 _ _ rfl rfl
    | 1, hd, hv => cases hd; cases hv; exact e1 0 _ _ rfl rfl
    | 2, hd, hv => cases hd; cases hv; exact e2 0 _ _ rfl rfl
    | 3, hd, hv => cases hd; cases hv; exact e3 0 _ _ rfl rfl
    | 4, hd, hv => cases hd; cases hv; exact e4 0 _ _ rfl rfl
    | 5, hd, hv => cases hd; cases hv; exact e5 0 _ _ rfl rfl
theorem opd_s24 : OpD Try.prog 24 (slC 6 SchemaD.c) (fun p => (p.1 = true → p.2 = []) ∧ (∀ x ∈ p.2, (fun _ => True) x) ∧ p.2.length ≤ maxLen) := opd_slice (n := 6) (e := 77) (by kernel_rfl) (by kernel_rfl) (by decide) opd_schema (fun _ => rfl)
set_option maxRecDepth 20000 in
theorem opd_term : OpD Try.prog 71 TermD.c (fun _ => True) := fun enc w spare held fuel cs x h => by
  obtain ⟨xs, m, _, _, hl, hlen, hf⟩ := DataW.trod_struct Try.underlying71 h
  replace hl : cs.length = 5 := hl.trans (by kernel_rfl)
  replace hlen : xs.length = 5 := hlen
  match cs, hl, hf with
  | [c0, c1, c2, c3, c4], _, hf =>
    have h0 := hf 0 _ rfl
    rw [List.getElem?_eq_getElem (by omega)] at h0
    obtain ⟨y0, q0, _, e0⟩ := (opd_str (P := Try.prog) (t := 9) (by kernel_rfl)) enc w spare held m [c0] _ h0
    have h1 := hf 1 _ rfl
    rw [List.getElem?_eq_getElem (by omega)] at h1
    obtain ⟨y1, q1, _, e1⟩ := (opd_str (P := Try.prog) (t := 9) (by kernel_rfl)) enc w spare held m [c1] _ h1
    have h2 := hf 2 _ rfl
    rw [List.getElem?_eq_getElem (by omega)] at h2
    obtain ⟨y2, q2, _, e2⟩ := (opd_int (P := Try.prog) (t := 3) (by kernel_rfl)) enc w spare held m [c2] _ h2
    have h3 := hf 3 _ rfl
    rw [List.getElem?_eq_getElem (by omega)] at h3
    obtain ⟨y3, q3, _, e3⟩ := (opd_int (P := Try.prog) (t := 3) (by kernel_rfl)) enc w spare held m [c3] _ h3
    have h4 := hf 4 _ rfl
    rw [List.getElem?_eq_getElem (by omega)] at h4
    obtain ⟨y4, q4, _, e4⟩ := (opd_int (P := Try.prog) (t := 3) (by kernel_rfl)) enc w spare held m [c4] _ h4
    refine ⟨⟨y0, y1, y2, y3, y4⟩, trivial, rfl, fun i d v hd hv => ?_⟩
    match i, hd, hv with
    | 0, hd, hv => cases hd; cases hv; exact e0 0 _ _ rfl rfl
    | 1, hd, hv => cases hd; cases hv; exact e1 0 _ _ rfl rfl
    | 2, hd, hv => cases hd; cases hv; exact e2 0 _ _ rfl rfl
    | 3, hd, hv => cases hd; cases hv; exact e3 0 _ _ rfl rfl
    | 4, hd, hv => cases hd; cases hv; exact e4 0 _ _ rfl rfl
set_option maxRecDepth 20000 in
theorem opd_from : OpD Try.prog 73 FromD.c (fun _ => True) := fun enc w spare held fuel cs x h => by
  obtain ⟨xs, m, _, _, hl, hlen, hf⟩ := DataW.trod_struct Try.underlying73 h
  replace hl : cs.length = 8 := hl.trans (by kernel_rfl)
  replace hlen : xs.length = 4 := hlen
  match cs, hl, hf with
  | [c0, c1, c2, c3, c4, c5, c6, c7], _, hf =>
    have h0 := hf 0 _ rfl
    rw [List.getElem?_eq_getElem (by omega)] at h0
    obtain ⟨y0, q0, _, e0⟩ := (opd_str (P := Try.prog) (t := 9) (by kernel_rfl)) enc w spare held m [c0] _ h0
    have h1 := hf 1 _ rfl
    rw [List.getElem?_eq_getElem (by omega)] at h1
    obtain ⟨y1, q1, _, e1⟩ := (opd_str (P := Try.prog) (t := 9) (by kernel_rfl)) enc w spare held m [c1] _ h1
    have h2 := hf 2 _ rfl
    rw [List.getElem?_eq_getElem (by omega)] at h2
    obtain ⟨y2, q2, _, e2⟩ := (opd_int (P := Try.prog) (t := 3) (by kernel_rfl)) enc w spare held m [c2] _ h2
    have h3 := hf 3 _ rfl
    rw [List.getElem?_eq_getElem (by omega)] at h3
    obtain ⟨y3, q3, _, e3⟩ := opd_term enc w spare held m [c3, c4, c5, c6, c7] _ h3
    refine ⟨⟨y0, y1, y2, y3⟩, trivial, rfl, fun i d v hd hv => ?_⟩
    match i, hd, hv with
    | 0, hd, hv => cases hd; cases hv; exact e0 0 _ _ rfl rfl
    | 1, hd, hv => cases hd; cases hv; exact e1 0 _ _ rfl rfl
    | 2, hd, hv => cases hd; cases hv; exact e2 0 _ _ rfl rfl
    | 3, hd, hv => cases hd; cases hv; exact e3 0 _ _ rfl rfl
    | 4, hd, hv => cases hd; cases hv; exact e3 1 _ _ rfl rfl
    | 5, hd, hv => cases hd; cases hv; exact e3 2 _ _ rfl rfl
    | 6, hd, hv => cases hd; cases hv; exact e3 3 _ _ rfl rfl
    | 7, hd, hv => cases hd; cases hv; exact e3 4 _ _ rfl rfl
theorem opd_s46 : OpD Try.prog 46 (slC 8 FromD.c) (fun p => (p.1 = true → p.2 = []) ∧ (∀ x ∈ p.2, (fun _ => True) x) ∧ p.2.length ≤ maxLen) := opd_slice (n := 8) (e := 73) (by kernel_rfl) (by kernel_rfl) (by decide) opd_from (fun _ => rfl)
set_option maxRecDepth 20000 in
theorem opd_atom : OpD Try.prog 115 AtomD.c (fun _ => True) := fun enc w spare held fuel cs x h => by
  obtain ⟨xs, m, _, _, hl, hlen, hf⟩ := DataW.trod_struct Try.underlying115 h
  replace hl : cs.length = 11 := hl.trans (by kernel_rfl)
  replace hlen : xs.length = 3 := hlen
  match cs, hl, hf with
  | [c0, c1, c2, c3, c4, c5, c6, c7, c8, c9, c10], _, hf =>
    have h0 := hf 0 _ rfl
    rw [List.getElem?_eq_getElem (by omega)] at h0
    obtain ⟨y0, q0, _, e0⟩ := (opd_int (P := Try.prog) (t := 3) (by kernel_rfl)) enc w spare held m [c0] _ h0
    have h1 := hf 1 _ rfl
    rw [List.getElem?_eq_getElem (by omega)] at h1
    obtain ⟨y1, q1, _, e1⟩ := opd_term enc w spare held m [c1, c2, c3, c4, c5] _ h1
    have h2 := hf 2 _ rfl
    rw [List.getElem?_eq_getElem (by omega)] at h2
    obtain ⟨y2, q2, _, e2⟩ := opd_term enc w spare held m [c6, c7, c8, c9, c10] _ h2
    refine ⟨⟨y0, y1, y2⟩, trivial, rfl, fun i d v hd hv => ?_⟩
    match i, hd, hv with
    | 0, hd, hv => cases hd; cases hv; exact e0 0 _ _ rfl rfl
    | 1, hd, hv => cases hd; cases hv; exact e1 0 _ _ rfl rfl
    | 2, hd, hv => cases hd; cases hv; exact e1 1 _ _ rfl rfl
    | 3, hd, hv => cases hd; cases hv; exact e1 2 _ _ rfl rfl
    | 4, hd, hv => cases hd; cases hv; exact e1 3 _ _ rfl rfl
    | 5, hd, hv => cases hd; cases hv; exact e1 4 _ _ rfl rfl
    | 6, hd, hv => cases hd; cases hv; exact e2 0 _ _ rfl rfl
    | 7, hd, hv => cases hd; cases hv; exact e2 1 _ _ rfl rfl
    | 8, hd, hv => cases hd; cases hv; exact e2 2 _ _ rfl rfl
    | 9, hd, hv => cases hd; cases hv; exact e2 3 _ _ rfl rfl
    | 10, hd, hv => cases hd; cases hv; exact e2 4 _ _ rfl rfl
theorem opd_s47 : OpD Try.prog 47 (slC 11 AtomD.c) (fun p => (p.1 = true → p.2 = []) ∧ (∀ x ∈ p.2, (fun _ => True) x) ∧ p.2.length ≤ maxLen) := opd_slice (n := 11) (e := 115) (by kernel_rfl) (by kernel_rfl) (by decide) opd_atom (fun _ => rfl)
set_option maxRecDepth 20000 in
theorem opd_set : OpD Try.prog 118 SetD.c (fun _ => True) := fun enc w spare held fuel cs x h => by
  obtain ⟨xs, m, _, _, hl, hlen, hf⟩ := DataW.trod_struct Try.underlying118 h
  replace hl : cs.length = 7 := hl.trans (by kernel_rfl)
  replace hlen : xs.length = 3 := hlen
  match cs, hl, hf with
  | [c0, c1, c2, c3, c4, c5, c6], _, hf =>
    have h0 := hf 0 _ rfl
    rw [List.getElem?_eq_getElem (by omega)] at h0
    obtain ⟨y0, q0, _, e0⟩ := (opd_str (P := Try.prog) (t := 9) (by kernel_rfl)) enc w spare held m [c0] _ h0
    have h1 := hf 1 _ rfl
    rw [List.getElem?_eq_getElem (by omega)] at h1
    obtain ⟨y1, q1, _, e1⟩ := (opd_int (P := Try.prog) (t := 3) (by kernel_rfl)) enc w spare held m [c1] _ h1
    have h2 := hf 2 _ rfl
    rw [List.getElem?_eq_getElem (by omega)] at h2
    obtain ⟨y2, q2, _, e2⟩ := opd_term enc w spare held m [c2, c3, c4, c5, c6] _ h2
    refine ⟨⟨y0, y1, y2⟩, trivial, rfl, fun i d v hd hv => ?_⟩
    match i, hd, hv with
    | 0, hd, hv => cases hd; cases hv; exact e0 0 _ _ rfl rfl
    | 1, hd, hv => cases hd; cases hv; exact e1 0 _ _ rfl rfl
    | 2, hd, hv => cases hd; cases hv; exact e2 0 _ _ rfl rfl
    | 3, hd, hv => cases hd; cases hv; exact e2 1 _ _ rfl rfl
    | 4, hd, hv => cases hd; cases hv; exact e2 2 _ _ rfl rfl
    | 5, hd, hv => cases hd; cases hv; exact e2 3 _ _ rfl rfl
    | 6, hd, hv => cases hd; cases hv; exact e2 4 _ _ rfl rfl
theorem opd_s48 : OpD Try.prog 48 (slC 7 SetD.c) (fun p => (p.1 = true → p.2 = []) ∧ (∀ x ∈ p.2, (fun _ => True) x) ∧ p.2.length ≤ maxLen) := opd_slice (n := 7) (e := 118) (by kernel_rfl) (by kernel_rfl) (by decide) opd_set (fun _ => rfl)
set_option maxRecDepth 20000 in
theorem opd_rule : OpD Try.prog 50 RuleD.c RuleD.fine := fun enc w spare held fuel cs x h => by
  obtain ⟨xs, m, _, _, hl, hlen, hf⟩ := DataW.trod_struct Try.underlying50 h
  replace hl : cs.length = 5 := hl.trans (by kernel_rfl)
  replace hlen : xs.length = 5 := hlen
  match cs, hl, hf with
  | [c0, c1, c2, c3, c4], _, hf =>
    have h0 := hf 0 _ rfl
    rw [List.getElem?_eq_getElem (by omega)] at h0
    obtain ⟨y0, q0, _, e0⟩ := (opd_str (P := Try.prog) (t := 9) (by kernel_rfl)) enc w spare held m [c0] _ h0
    have h1 := hf 1 _ rfl
    rw [List.getElem?_eq_getElem (by omega)] at h1
    obtain ⟨y1, q1, _, e1⟩ := (opd_int (P := Try.prog) (t := 3) (by kernel_rfl)) enc w spare held m [c1] _ h1
    have h2 := hf 2 _ rfl
    rw [List.getElem?_eq_getElem (by omega)] at h2
    obtain ⟨y2, q2, _, e2⟩ := opd_s46 enc w spare held m [c2] _ h2
    have h3 := hf 3 _ rfl
    rw [List.getElem?_eq_getElem (by omega)] at h3
    obtain ⟨y3, q3, _, e3⟩ := opd_s47 enc w spare held m [c3] _ h3
    have h4 := hf 4 _ rfl
    rw [List.getElem?_eq_getElem (by omega)] at h4
    obtain ⟨y4, q4, _, e4⟩ := opd_s48 enc w spare held m [c4] _ h4
    refine ⟨⟨y0, y1, y2.1, y2.2, y3.1, y3.2, y4.1, y4.2⟩, q2.2.2, rfl, fun i d v hd hv => ?_⟩
    match i, hd, hv with
    | 0, hd, hv => cases hd; cases hv; exact e0 0 _ _ rfl rfl
    | 1, hd, hv => cases hd; cases hv; exact e1 0 _ _ rfl rfl
    | 2, hd, hv => cases hd; cases hv; exact e2 0 _ _ rfl rfl
    | 3, hd, hv => cases hd; cases hv; exact e3 0 _ _ rfl rfl
    | 4, hd, hv => cases hd; cases hv; exact e4 0 _ _ rfl rfl
theorem opd_s25 : OpD Try.prog 25 (slC 5 RuleD.c) (fun p => (p.1 = true → p.2 = []) ∧ (∀ x ∈ p.2, RuleD.fine x) ∧ p.2.length ≤ maxLen) := opd_slice (n := 5) (e := 50) (by kernel_rfl) (by kernel_rfl) (by decide) opd_rule (fun _ => rfl)
set_option maxRecDepth 20000 in
theorem opd_move : OpD Try.prog 187 MoveD.c (fun _ => True) := fun enc w spare held fuel cs x h => by
  obtain ⟨xs, m, _, _, hl, hlen, hf⟩ := DataW.trod_struct Try.underlying187 h
  replace hl : cs.length = 5 := hl.trans (by kernel_rfl)
  replace hlen : xs.length = 5 := hlen
  match cs, hl, hf with
  | [c0, c1, c2, c3, c4], _, hf =>
    have h0 := hf 0 _ rfl
    rw [List.getElem?_eq_getElem (by omega)] at h0
    obtain ⟨y0, q0, _, e0⟩ := (opd_str (P := Try.prog) (t := 9) (by kernel_rfl)) enc w spare held m [c0] _ h0
    have h1 := hf 1 _ rfl
    rw [List.getElem?_eq_getElem (by omega)] at h1
    obtain ⟨y1, q1, _, e1⟩ := (opd_str (P := Try.prog) (t := 9) (by kernel_rfl)) enc w spare held m [c1] _ h1
    have h2 := hf 2 _ rfl
    rw [List.getElem?_eq_getElem (by omega)] at h2
    obtain ⟨y2, q2, _, e2⟩ := (opd_int (P := Try.prog) (t := 3) (by kernel_rfl)) enc w spare held m [c2] _ h2
    have h3 := hf 3 _ rfl
    rw [List.getElem?_eq_getElem (by omega)] at h3
    obtain ⟨y3, q3, _, e3⟩ := (opd_int (P := Try.prog) (t := 3) (by kernel_rfl)) enc w spare held m [c3] _ h3
    have h4 := hf 4 _ rfl
    rw [List.getElem?_eq_getElem (by omega)] at h4
    obtain ⟨y4, q4, _, e4⟩ := (opd_int (P := Try.prog) (t := 3) (by kernel_rfl)) enc w spare held m [c4] _ h4
    refine ⟨⟨y0, y1, y2, y3, y4⟩, trivial, rfl, fun i d v hd hv => ?_⟩
    match i, hd, hv with
    | 0, hd, hv => cases hd; cases hv; exact e0 0 _ _ rfl rfl
    | 1, hd, hv => cases hd; cases hv; exact e1 0 _ _ rfl rfl
    | 2, hd, hv => cases hd; cases hv; exact e2 0 _ _ rfl rfl
    | 3, hd, hv => cases hd; cases hv; exact e3 0 _ _ rfl rfl
    | 4, hd, hv => cases hd; cases hv; exact e4 0 _ _ rfl rfl
theorem opd_s85 : OpD Try.prog 85 (slC 5 MoveD.c) (fun p => (p.1 = true → p.2 = []) ∧ (∀ x ∈ p.2, (fun _ => True) x) ∧ p.2.length ≤ maxLen) := opd_slice (n := 5) (e := 187) (by kernel_rfl) (by kernel_rfl) (by decide) opd_move (fun _ => rfl)
set_option maxRecDepth 20000 in
theorem opd_convert : OpD Try.prog 87 ConvertD.c (fun _ => True) := fun enc w spare held fuel cs x h => by
  obtain ⟨xs, m, _, _, hl, hlen, hf⟩ := DataW.trod_struct Try.underlying87 h
  replace hl : cs.length = 5 := hl.trans (by kernel_rfl)
  replace hlen : xs.length = 5 := hlen
  match cs, hl, hf with
  | [c0, c1, c2, c3, c4], _, hf =>
    have h0 := hf 0 _ rfl
    rw [List.getElem?_eq_getElem (by omega)] at h0
    obtain ⟨y0, q0, _, e0⟩ := (opd_str (P := Try.prog) (t := 9) (by kernel_rfl)) enc w spare held m [c0] _ h0
    have h1 := hf 1 _ rfl
    rw [List.getElem?_eq_getElem (by omega)] at h1
    obtain ⟨y1, q1, _, e1⟩ := (opd_str (P := Try.prog) (t := 9) (by kernel_rfl)) enc w spare held m [c1] _ h1
    have h2 := hf 2 _ rfl
    rw [List.getElem?_eq_getElem (by omega)] at h2
    obtain ⟨y2, q2, _, e2⟩ := (opd_int (P := Try.prog) (t := 3) (by kernel_rfl)) enc w spare held m [c2] _ h2
    have h3 := hf 3 _ rfl
    rw [List.getElem?_eq_getElem (by omega)] at h3
    obtain ⟨y3, q3, _, e3⟩ := (opd_int (P := Try.prog) (t := 3) (by kernel_rfl)) enc w spare held m [c3] _ h3
    have h4 := hf 4 _ rfl
    rw [List.getElem?_eq_getElem (by omega)] at h4
    obtain ⟨y4, q4, _, e4⟩ := opd_s85 enc w spare held m [c4] _ h4
    refine ⟨⟨y0, y1, y2, y3, y4.1, y4.2⟩, trivial, rfl, fun i d v hd hv => ?_⟩
    match i, hd, hv with
    | 0, hd, hv => cases hd; cases hv; exact e0 0 _ _ rfl rfl
    | 1, hd, hv => cases hd; cases hv; exact e1 0 _ _ rfl rfl
    | 2, hd, hv => cases hd; cases hv; exact e2 0 _ _ rfl rfl
    | 3, hd, hv => cases hd; cases hv; exact e3 0 _ _ rfl rfl
    | 4, hd, hv => cases hd; cases hv; exact e4 0 _ _ rfl rfl
theorem opd_s26 : OpD Try.prog 26 (slC 5 ConvertD.c) (fun p => (p.1 = true → p.2 = []) ∧ (∀ x ∈ p.2, (fun _ => True) x) ∧ p.2.length ≤ maxLen) := opd_slice (n := 5) (e := 87) (by kernel_rfl) (by kernel_rfl) (by decide) opd_convert (fun _ => rfl)
set_option maxRecDepth 20000 in
theorem opd_ref : OpD Try.prog 125 RefD.c (fun _ => True) := fun enc w spare held fuel cs x h => by
  obtain ⟨xs, m, _, _, hl, hlen, hf⟩ := DataW.trod_struct Try.underlying125 h
  replace hl : cs.length = 4 := hl.trans (by kernel_rfl)
  replace hlen : xs.length = 4 := hlen
  match cs, hl, hf with
  | [c0, c1, c2, c3], _, hf =>
    have h0 := hf 0 _ rfl
    rw [List.getElem?_eq_getElem (by omega)] at h0
    obtain ⟨y0, q0, _, e0⟩ := (opd_str (P := Try.prog) (t := 9) (by kernel_rfl)) enc w spare held m [c0] _ h0
    have h1 := hf 1 _ rfl
    rw [List.getElem?_eq_getElem (by omega)] at h1
    obtain ⟨y1, q1, _, e1⟩ := (opd_str (P := Try.prog) (t := 9) (by kernel_rfl)) enc w spare held m [c1] _ h1
    have h2 := hf 2 _ rfl
    rw [List.getElem?_eq_getElem (by omega)] at h2
    obtain ⟨y2, q2, _, e2⟩ := (opd_int (P := Try.prog) (t := 3) (by kernel_rfl)) enc w spare held m [c2] _ h2
    have h3 := hf 3 _ rfl
    rw [List.getElem?_eq_getElem (by omega)] at h3
    obtain ⟨y3, q3, _, e3⟩ := (opd_int (P := Try.prog) (t := 3) (by kernel_rfl)) enc w spare held m [c3] _ h3
    refine ⟨⟨y0, y1, y2, y3⟩, trivial, rfl, fun i d v hd hv => ?_⟩
    match i, hd, hv with
    | 0, hd, hv => cases hd; cases hv; exact e0 0 _ _ rfl rfl
    | 1, hd, hv => cases hd; cases hv; exact e1 0 _ _ rfl rfl
    | 2, hd, hv => cases hd; cases hv; exact e2 0 _ _ rfl rfl
    | 3, hd, hv => cases hd; cases hv; exact e3 0 _ _ rfl rfl
theorem opd_s88 : OpD Try.prog 88 (slC 4 RefD.c) (fun p => (p.1 = true → p.2 = []) ∧ (∀ x ∈ p.2, (fun _ => True) x) ∧ p.2.length ≤ maxLen) := opd_slice (n := 4) (e := 125) (by kernel_rfl) (by kernel_rfl) (by decide) opd_ref (fun _ => rfl)
set_option maxRecDepth 20000 in
theorem opd_purpose : OpD Try.prog 90 PurposeD.c (fun _ => True) := fun enc w spare held fuel cs x h => by
  obtain ⟨xs, m, _, _, hl, hlen, hf⟩ := DataW.trod_struct Try.underlying90 h
  replace hl : cs.length = 3 := hl.trans (by kernel_rfl)
  replace hlen : xs.length = 3 := hlen
  match cs, hl, hf with
  | [c0, c1, c2], _, hf =>
    have h0 := hf 0 _ rfl
    rw [List.getElem?_eq_getElem (by omega)] at h0
    obtain ⟨y0, q0, _, e0⟩ := (opd_str (P := Try.prog) (t := 9) (by kernel_rfl)) enc w spare held m [c0] _ h0
    have h1 := hf 1 _ rfl
    rw [List.getElem?_eq_getElem (by omega)] at h1
    obtain ⟨y1, q1, _, e1⟩ := opd_s88 enc w spare held m [c1] _ h1
    have h2 := hf 2 _ rfl
    rw [List.getElem?_eq_getElem (by omega)] at h2
    obtain ⟨y2, q2, _, e2⟩ := (opd_int (P := Try.prog) (t := 3) (by kernel_rfl)) enc w spare held m [c2] _ h2
    refine ⟨⟨y0, y1.1, y1.2, y2⟩, trivial, rfl, fun i d v hd hv => ?_⟩
    match i, hd, hv with
    | 0, hd, hv => cases hd; cases hv; exact e0 0 _ _ rfl rfl
    | 1, hd, hv => cases hd; cases hv; exact e1 0 _ _ rfl rfl
    | 2, hd, hv => cases hd; cases hv; exact e2 0 _ _ rfl rfl
theorem opd_s27 : OpD Try.prog 27 (slC 3 PurposeD.c) (fun p => (p.1 = true → p.2 = []) ∧ (∀ x ∈ p.2, (fun _ => True) x) ∧ p.2.length ≤ maxLen) := opd_slice (n := 3) (e := 90) (by kernel_rfl) (by kernel_rfl) (by decide) opd_purpose (fun _ => rfl)
set_option maxRecDepth 20000 in
theorem opd_source : OpD Try.prog 29 SourceD.c SourceD.fine := fun enc w spare held fuel cs x h => by
  obtain ⟨xs, m, _, _, hl, hlen, hf⟩ := DataW.trod_struct Try.underlying29 h
  replace hl : cs.length = 6 := hl.trans (by kernel_rfl)
  replace hlen : xs.length = 6 := hlen
  match cs, hl, hf with
  | [c0, c1, c2, c3, c4, c5], _, hf =>
    have h0 := hf 0 _ rfl
    rw [List.getElem?_eq_getElem (by omega)] at h0
    obtain ⟨y0, q0, _, e0⟩ := opd_s22 enc w spare held m [c0] _ h0
    have h1 := hf 1 _ rfl
    rw [List.getElem?_eq_getElem (by omega)] at h1
    obtain ⟨y1, q1, _, e1⟩ := opd_s23 enc w spare held m [c1] _ h1
    have h2 := hf 2 _ rfl
    rw [List.getElem?_eq_getElem (by omega)] at h2
    obtain ⟨y2, q2, _, e2⟩ := opd_s24 enc w spare held m [c2] _ h2
    have h3 := hf 3 _ rfl
    rw [List.getElem?_eq_getElem (by omega)] at h3
    obtain ⟨y3, q3, _, e3⟩ := opd_s25 enc w spare held m [c3] _ h3
    have h4 := hf 4 _ rfl
    rw [List.getElem?_eq_getElem (by omega)] at h4
    obtain ⟨y4, q4, _, e4⟩ := opd_s26 enc w spare held m [c4] _ h4
    have h5 := hf 5 _ rfl
    rw [List.getElem?_eq_getElem (by omega)] at h5
    obtain ⟨y5, q5, _, e5⟩ := opd_s27 enc w spare held m [c5] _ h5
    refine ⟨⟨y0.1, y0.2, y1.1, y1.2, y2.1, y2.2, y3.1, y3.2, y4.1, y4.2, y5.1, y5.2⟩, ⟨q2.1, q2.2.2, q3.1, q3.2.2, fun r hr => q3.2.1 r hr⟩, rfl, fun i d v hd hv => ?_⟩
    match i, hd, hv with
    | 0, hd, hv => cases hd; cases hv; exact e0 0 _ _ rfl rfl
    | 1, hd, hv => cases hd; cases hv; exact e1 0 _ _ rfl rfl
    | 2, hd, hv => cases hd; cases hv; exact e2 0 _ _ rfl rfl
    | 3, hd, hv => cases hd; cases hv; exact e3 0 _ _ rfl rfl
    | 4, hd, hv => cases hd; cases hv; exact e4 0 _ _ rfl rfl
    | 5, hd, hv => cases hd; cases hv; exact e5 0 _ _ rfl rfl
end Go.Proofs.Ytdhfakajlnidiaa
namespace Go.Proofs.Ytdhfakajlnidiaa
open Go.RowKit

/-! Orders and cycles, in plain words. -/
section
variable {m : Nat} {nd : Int → Int → Bool}
theorem ord_at {k : Nat} (hk : k < (ordR m nd).length) : ∃ x : Nat, (ordR m nd)[k]? = some (x : Int) ∧ x < m ∧ (x : Int) ∉ (ordR m nd).take k ∧ (∀ b : Nat, b < m → nd x b = true → (b : Int) ∈ (ordR m nd).take k) ∧
    ∀ y : Nat, y < x → (y : Int) ∈ (ordR m nd).take k ∨ ∃ b : Nat, b < m ∧ nd y b = true ∧ (b : Int) ∉ (ordR m nd).take k := by
  obtain ⟨h1, h2, h3⟩ := seq_at (Nat.le_of_lt hk)
  cases hn : nextR m nd (seqR m nd k) with
  | none =>
    have := seq_end (Nat.le_of_lt hk) hn
    omega
  | some x =>
    obtain ⟨_, q2, _⟩ := seq_next (Nat.le_of_lt hk) hn
    obtain ⟨r1, r2, r3⟩ := nextR_some.1 hn
    obtain ⟨r4, r5⟩ := readyB_t.1 r1
    rw [h3] at r3 r4 r5
    refine ⟨x, q2, r2, r4, r5, fun y hy => ?_⟩
    have h5 := r3 y hy
    by_cases q : (y : Int) ∈ (ordR m nd).take k
    · exact .inl q
    · refine .inr (Classical.byContradiction fun hno => ?_)
      rw [← Bool.not_eq_true] at h5
      exact h5 (readyB_t.2 ⟨q, fun b hb hn => Classical.byContradiction fun q2 => hno ⟨b, hb, hn, q2⟩⟩)
theorem ord_inv : SInv m nd (ordR m nd) := seqR_inv m
theorem ord_full (h : (ordR m nd).length = m) {x : Nat} (hx : x < m) : (x : Int) ∈ ordR m nd := Classical.byContradiction fun hno => by
  have hi : SInv m nd (ordR m nd) := ord_inv
  have := nodup_len (m := m) (L := ordR m nd ++ [(x : Int)]) (by
    rw [List.nodup_append]
    refine ⟨hi.nodup, by simp, fun a ha b hb => ?_⟩
    simp at hb
    subst hb
    exact fun e => hno (e ▸ ha)) (fun z hz => by
    rw [List.mem_append] at hz
    rcases hz with hz | hz
    · exact hi.rng z hz
    · simp at hz
      exact ⟨x, hx, hz⟩)
  rw [List.length_append, h, List.length_singleton] at this
  omega
theorem ord_stuck {x : Nat} (hx : x < m) (hno : (x : Int) ∉ ordR m nd) : ∃ b : Nat, b < m ∧ nd x b = true ∧ (b : Int) ∉ ordR m nd := by
  obtain ⟨h1, h2, h3⟩ := seq_at (m := m) (nd := nd) (Nat.le_refl _)
  rw [List.take_length] at h3
  cases hn : nextR m nd (seqR m nd (ordR m nd).length) with
  | some y =>
    have := (seq_next (Nat.le_refl _) hn).1
    omega
  | none =>
    have h5 := nextR_none.1 hn x hx
    rw [h3] at h5
    refine Classical.byContradiction fun hn2 => ?_
    rw [← Bool.not_eq_true] at h5
    exact h5 (readyB_t.2 ⟨hno, fun b hb hn => Classical.byContradiction fun q2 => hn2 ⟨b, hb, hn, q2⟩⟩)
/-- a circle, if each of a set of numbers needs one of them -/
theorem circle_of {A : Nat → Prop} (hA : ∀ x, A x → x < m ∧ ∃ b : Nat, A b ∧ nd x b = true) {x0 : Nat} (h0 : A x0) : ∃ (y k : Nat), y < m ∧ k ≤ m ∧ Chn nd (y : Int) k (y : Int) := by
  have hf : ∀ x, ∃ b : Nat, A x → A b ∧ nd x b = true := fun x => by
    by_cases q : A x
    · obtain ⟨b, hb⟩ := (hA x q).2
      exact ⟨b, fun _ => hb⟩
    · exact ⟨0, fun h => absurd h q⟩
  obtain ⟨f, hf⟩ := Classical.axiomOfChoice hf
  obtain ⟨it, hi0, his⟩ : ∃ it : Nat → Nat, it 0 = x0 ∧ ∀ k, it (k + 1) = f (it k) := ⟨fun k => Nat.rec x0 (fun _ y => f y) k, rfl, fun _ => rfl⟩
  have hit : ∀ k, A (it k) := fun k => by
    induction k with
    | zero => rw [hi0]; exact h0
    | succ k ih => rw [his]; exact (hf _ ih).1
  have hst : ∀ k, nd (it k) (it (k + 1)) = true := fun k => by rw [his]; exact (hf _ (hit k)).2
  have hch : ∀ d i, Chn nd (it (i + d + 1) : Nat) (d + 1) (it i : Nat) := fun d => by
    induction d with
    | zero => exact fun i => .one (hst i)
    | succ d ih => exact fun i => .step (hst i) (by have := ih (i + 1); rw [show i + 1 + d + 1 = i + (d + 1) + 1 by omega] at this; exact this)
  have hrep : ∃ i j, i < j ∧ j ≤ m ∧ it i = it j := Classical.byContradiction fun hno => by
    have := nodup_len (m := m) (L := (List.range (m + 1)).map fun i => ((it i : Nat) : Int)) (by
      rw [List.nodup_iff_pairwise_ne, List.pairwise_iff_getElem]
      intro i j hi hj hij
      simp at hi hj ⊢
      exact fun e => hno ⟨i, j, hij, by omega, by omega⟩) (fun z hz => by
      obtain ⟨i, _, rfl⟩ := List.mem_map.1 hz
      exact ⟨it i, (hA _ (hit i)).1, rfl⟩)
    rw [List.length_map, List.length_range] at this
    omega
  obtain ⟨i, j, h1, h2, h3⟩ := hrep
  refine ⟨it i, j - i, (hA _ (hit i)).1, by omega, ?_⟩
  have := hch (j - i - 1) i
  rw [show i + (j - i - 1) + 1 = j by omega, show j - i - 1 + 1 = j - i by omega, ← h3] at this
  exact this
/-- in a full order what is above comes behind -/
theorem ord_rch (hin : ∀ a b, nd a b = true → (0 ≤ a ∧ a < (m : Int)) ∧ 0 ≤ b ∧ b < (m : Int)) (hfull : (ordR m nd).length = m) {to y : Int} (h : Rch nd to y) : ∀ k, (ordR m nd)[k]? = some y → to ∈ (ordR m nd).take k := by
  have step : ∀ {a b : Int}, nd a b = true → ∀ k, (ordR m nd)[k]? = some a → b ∈ (ordR m nd).take k := fun {a b} hn k hk => by
    obtain ⟨x, q1, _, _, q4, _⟩ := ord_at (List.getElem?_eq_some_iff.1 hk).1
    rw [hk] at q1
    cases q1
    obtain ⟨_, q5, q6⟩ := hin _ _ hn
    have := q4 b.toNat (by omega) (by rw [show ((b.toNat : Nat) : Int) = b by omega]; exact hn)
    rw [show ((b.toNat : Nat) : Int) = b by omega] at this
    exact this
  induction h with
  | one h => exact step h
  | @step y z h hr ih =>
    intro k hk
    have hz := step h k hk
    obtain ⟨j, hj, e⟩ := List.getElem_of_mem hz
    rw [List.length_take] at hj
    rw [List.getElem_take] at e
    have := ih j (by rw [List.getElem?_eq_getElem (by omega), e])
    rw [List.mem_take_iff_getElem] at this ⊢
    obtain ⟨i, hi, e2⟩ := this
    exact ⟨i, by omega, e2⟩
end
theorem chn_rch {N : Int → Int → Bool} {to : Int} {k : Nat} {y : Int} (h : Chn N to k y) : Rch N to y := by
  induction h with
  | one h => exact .one h
  | step h _ ih => exact .step h ih
theorem hasCyc_chn {S : SourceD} (hb : numberedB S.schemas.length S.rules = true) {y k : Nat} (hy : y < S.schemas.length) (hk : k ≤ S.schemas.length) (h : Chn (needsB S.rules) (y : Int) k (y : Int)) : hasCyc S = true := by
  obtain ⟨d, h1, h2⟩ := dist_of_chn hb (by omega) h
  have := (best_min (n := S.schemas.length) (D := distS S) S.schemas.length).1 y hy d h1
  unfold hasCyc bestS
  rw [hb]
  exact decide_eq_true (by omega)
theorem hasCyc_rch {S : SourceD} (h : hasCyc S = true) : ∃ y : Nat, y < S.schemas.length ∧ Rch (needsB S.rules) (y : Int) (y : Int) := by
  unfold hasCyc bestS at h
  rw [Bool.and_eq_true, decide_eq_true_eq] at h
  obtain ⟨i, hi, _, h3, _⟩ := (best_min (n := S.schemas.length) (D := distS S) S.schemas.length).2 h.2
  exact ⟨i, hi, (dist_rch h.1 (by omega) _).1 (by unfold fiB; rw [h3]; rfl)⟩
theorem ord_in {S : SourceD} (hb : numberedB S.schemas.length S.rules = true) : ∀ a b, needsB S.rules a b = true → (0 ≤ a ∧ a < (S.schemas.length : Int)) ∧ 0 ≤ b ∧ b < (S.schemas.length : Int) := fun _ _ h => numbered_in hb h
/-- there is an order exactly if there is no cycle -/
theorem ok_cyc {S : SourceD} (hb : numberedB S.schemas.length S.rules = true) : ordOK S = !hasCyc S := by
  have hlen : (ordS S).length ≤ S.schemas.length := (ord_inv (m := S.schemas.length) (nd := needsB S.rules)).len
  unfold ordOK
  rw [hb, Bool.true_and]
  by_cases hf : (ordS S).length = S.schemas.length
  · rw [decide_eq_true hf]
    cases hc : hasCyc S with
    | false => rfl
    | true =>
      exfalso
      obtain ⟨y, hy, hr⟩ := hasCyc_rch hc
      obtain ⟨k, hk, e⟩ := List.getElem_of_mem (ord_full hf hy)
      have hk' : (ordS S)[k]? = some (y : Int) := by rw [← e]; exact List.getElem?_eq_getElem hk
      have hm := ord_rch (ord_in hb) hf hr k hk'
      obtain ⟨x, q1, _, q3, _⟩ := ord_at (m := S.schemas.length) (nd := needsB S.rules) (List.getElem?_eq_some_iff.1 hk').1
      have q1' : (ordS S)[k]? = some (x : Int) := q1
      rw [hk'] at q1'
      cases q1'
      exact q3 hm
  · rw [decide_eq_false hf]
    obtain ⟨x0, hx0, hno⟩ : ∃ x : Nat, x < S.schemas.length ∧ (x : Int) ∉ ordS S := Classical.byContradiction fun hall => by
      have hp : (numsL S.schemas.length fun _ => true).length ≤ (ordS S).length := by
        have hsub : ∀ z, z ∈ (numsL S.schemas.length fun _ => true) → z ∈ ordS S := fun z hz => by
          obtain ⟨⟨h1, h2⟩, _⟩ := numsL_mem.1 hz
          refine Classical.byContradiction fun hn => hall ⟨z.toNat, by omega, ?_⟩
          rw [show ((z.toNat : Nat) : Int) = z by omega]
          exact hn
        have hperm : (ordS S).Perm (numsL S.schemas.length fun _ => true) := (List.perm_ext_iff_of_nodup (ord_inv (m := S.schemas.length) (nd := needsB S.rules)).nodup ((numsL_sorted _ _).imp fun h => by omega)).2 fun z => ⟨fun hz => by
          obtain ⟨i, h1, h2⟩ := (ord_inv (m := S.schemas.length) (nd := needsB S.rules)).rng z hz
          exact numsL_mem.2 ⟨by omega, rfl⟩, hsub z⟩
        rw [hperm.length_eq]
        exact Nat.le_refl _
      rw [numsL_len] at hp
      have : cnt S.schemas.length (fun _ => true) = S.schemas.length := by
        unfold cnt
        rw [List.filter_eq_self.2 fun _ _ => rfl, List.length_range]
      omega
    obtain ⟨y, k, h1, h2, h3⟩ := circle_of (m := S.schemas.length) (nd := needsB S.rules) (A := fun x => x < S.schemas.length ∧ (x : Int) ∉ ordS S) (fun x hx => by
      obtain ⟨b, q1, q2, q3⟩ := ord_stuck hx.1 hx.2
      exact ⟨hx.1, b, ⟨q1, q3⟩, q2⟩) ⟨hx0, hno⟩
    rw [hasCyc_chn hb h1 h2 h3]
    rfl
theorem cyc_none {S : SourceD} (h : hasCyc S = false) : cycL S = [] := by
  unfold cycL
  rw [h]
  rfl
/-- a list in which each needs the next -/
def Links (N : Int → Int → Bool) (l : List Int) : Prop := ∀ (i : Nat) a b, l[i]? = some a → l[i + 1]? = some b → N a b = true
theorem ext_links {N : Int → Int → Bool} {n : Nat} : ∀ (f : Nat) (cs l : List Int), extR N n f cs = some l → cs.Nodup → Links N cs → (f = 0 → cs ≠ []) → l.Nodup ∧ Links N l ∧ l ≠ [] ∧ N (lastI l) (l.getD 0 0) = true
  | 0, cs, l, h, hn, hl, h0 => by
    have h' : (if N (lastI cs) (cs.getD 0 0) then some cs else none) = some l := h
    split at h'
    · next q => cases h'; exact ⟨hn, hl, h0 rfl, q⟩
    · cases h'
  | f + 1, cs, l, h, hn, hl, _ => by
    have h' : findN (tryE N (extR N n f) cs) n 0 = some l := h
    obtain ⟨z, _, _, hz⟩ := findN_some _ _ h'
    unfold tryE at hz
    split at hz
    · cases hz
    next q1 =>
    split at hz
    · next q2 =>
      refine ext_links f (cs ++ [(z : Int)]) l hz ?_ ?_ (fun _ => by simp)
      · rw [List.nodup_append]
        refine ⟨hn, by simp, fun a ha b hb => ?_⟩
        simp at hb
        subst hb
        intro e
        subst e
        simp at q1
        exact q1 ha
      · intro i a b ha hb
        by_cases hi : i + 1 < cs.length
        · rw [List.getElem?_append_left (by omega)] at ha hb
          exact hl i a b ha hb
        · have hlt := (List.getElem?_eq_some_iff.1 hb).1
          simp at hlt
          have e : i + 1 = cs.length := by omega
          rw [List.getElem?_append_right (by omega), show i + 1 - cs.length = 0 by omega] at hb
          simp at hb
          subst hb
          rw [List.getElem?_append_left (by omega)] at ha
          simp at q2
          rcases q2 with q2 | q2
          · rw [q2] at e; simp at e
          · have : lastI cs = a := by
              unfold lastI
              rw [show cs.length - 1 = i by omega, List.getD_eq_getElem?_getD, ha]
              rfl
            rw [this] at q2
            exact q2
    · cases hz
theorem cyc_links {S : SourceD} (h : hasCyc S = true) : (cycL S).Nodup ∧ Links (needsB S.rules) (cycL S) ∧ cycL S ≠ [] ∧ needsB S.rules (lastI (cycL S)) ((cycL S).getD 0 0) = true := by
  obtain ⟨e1, e2⟩ := cyc_eq S
  rw [e1] at h
  rw [e2]
  unfold rcycB at h
  rw [Bool.and_eq_true] at h
  unfold rcycL
  rw [h.1]
  cases hr : rcycO S with
  | none => rw [hr] at h; cases h.2
  | some l =>
    have hr' : findN (fun k => extR (needsB S.rules) S.schemas.length (k + 1) []) S.schemas.length 0 = some l := hr
    obtain ⟨m, _, _, hm⟩ := findN_some _ _ hr'
    exact ext_links (m + 1) [] l hm List.nodup_nil (fun i a b ha => by simp at ha) (fun e => by omega)
end Go.Proofs.Ytdhfakajlnidiaa
namespace Go.Proofs.Ytdhfakajlnidiaa
open Go.RowKit

/-! RulesFirst. -/
theorem first_law {m : Nat} {nd : Int → Int → Bool} (hfull : (ordR m nd).length = m) {i j : Nat} {a b : Int} (ha : (ordR m nd)[i]? = some a) (hb : ((ordR m nd).drop (i + 1))[j]? = some b) (hle : b ≤ a) : ((ordR m nd).drop i).any (nd b) = true := by
  have hn := (ord_inv (m := m) (nd := nd)).nodup
  rw [List.getElem?_drop] at hb
  have hi := (List.getElem?_eq_some_iff.1 ha).1
  obtain ⟨x, q1, q2, q3, q4, q5⟩ := ord_at hi
  rw [ha] at q1
  cases q1
  obtain ⟨y, hy, rfl⟩ := (ord_inv (m := m) (nd := nd)).rng b (List.mem_of_getElem? hb)
  obtain ⟨hb1, hb2⟩ := List.getElem?_eq_some_iff.1 hb
  obtain ⟨ha1, ha2⟩ := List.getElem?_eq_some_iff.1 ha
  have hne : y ≠ x := fun e => by
    subst e
    have := (List.getElem_inj hn).1 (hb2.trans ha2.symm)
    omega
  rcases q5 y (by omega) with h | ⟨c, h1, h2, h3⟩
  · rw [List.mem_take_iff_getElem] at h
    obtain ⟨k, hk, e⟩ := h
    have := (List.getElem_inj hn).1 (e.trans hb2.symm)
    omega
  · rw [List.any_eq_true]
    refine ⟨c, ?_, h2⟩
    have hc := ord_full hfull h1
    rw [← List.take_append_drop i (ordR m nd), List.mem_append] at hc
    exact hc.resolve_left h3
set_option maxHeartbeats 8000000 in
set_option maxRecDepth 100000 in
set_option maxHeartbeats 4000000 in
theorem first_pure (S : SourceD) (hR : S.rules.length ≤ 9223372036854775807) : Pure Try.prog 5 [.agg S.c] (boolD true) := by
  have hs := sane_pure
  have hFew := Few_pure S hR
  obtain ⟨fw, hfw⟩ : ∃ b, b = fewB S := ⟨_, rfl⟩
  rw [← hfw] at hFew
  have hO := fun h : fw = true => Order_pure S (few_small (hfw.symm.trans h))
  have hN := fun (h : fw = true) (a b : Int) => law_needs_pure S a b (by have := (few_small (hfw.symm.trans h)).r; omega) (fun r hr => by have := (few_small (hfw.symm.trans h)).f r hr; omega)
  have hlaw : ∀ (i j : Nat) (a b : Int), ordOK S = true → (ordL S)[i]? = some a → ((ordL S).drop (i + 1))[j]? = some b → b ≤ a → ((ordL S).drop i).any (needsB S.rules b) = true := fun i j a b ho => by
    unfold ordL
    rw [if_pos ho]
    unfold ordOK at ho
    rw [Bool.and_eq_true, decide_eq_true_eq] at ho
    exact first_law ho.2
  have hlen : fw = true → (ordL S).length ≤ 7 := fun h => by
    have h7 := (few_small (hfw.symm.trans h)).n
    have : (ordS S).length ≤ S.schemas.length := (ord_inv (m := S.schemas.length) (nd := needsB S.rules)).len
    unfold ordL
    split
    · omega
    · simp
  have hz : ordOK S = false → ordL S = [] := fun h => by unfold ordL; rw [h]; rfl
  have he0 : numE S ≠ 0 → ordOK S = false := fun h => by
    unfold numE at h
    unfold ordOK
    split at h
    · omega
    · next q => simp only [Bool.not_eq_true] at q; rw [q]; rfl
  obtain ⟨l, hl⟩ : ∃ l, l = ordL S := ⟨_, rfl⟩
  obtain ⟨ok, hok⟩ : ∃ l, l = ordOK S := ⟨_, rfl⟩
  obtain ⟨e, he⟩ : ∃ l, l = numE S := ⟨_, rfl⟩
  obtain ⟨N, hN'⟩ : ∃ l, l = needsB S.rules := ⟨_, rfl⟩
  rw [← hl, ← hok, ← he] at hO
  rw [← hl, ← hok, ← hN'] at hlaw
  rw [← hl] at hlen
  rw [← hl, ← hok] at hz
  rw [← he, ← hok] at he0
  rw [← hN'] at hN
  obtain ⟨lb, hlb⟩ : ∃ b, b = l.isEmpty := ⟨_, rfl⟩
  rw [← hlb] at hO
  clear hfw hl hok he hN' hlb
  obtain ⟨ni, is, nu, us, ns, ss, nr, rs, nc, cs, np, ps⟩ := S
  refine Pure.intro (want := [boolD true]) T_ok follows Try.func5 rfl (by kernel_rfl) (rs := [.tmp 2]) rfl (by kernel_rfl) ?_
  generalize hP : Try.prog = P at *
  have hT : T.ok P := hP ▸ T_ok
  have hm : P.follows .mixedOrders = true := hP ▸ follows
  unfold Try.f5
  dsimp only
  cbv
  refine CallP.pure _ hs rfl ?_
  cbv
  refine SplitP.mk (fun h => ?_) (fun h => ?_)
  · cases (show (!true) = true from h)
  clear h
  refine CallP.pure _ hFew rfl ?_
  cbv
  refine SplitP.mk (fun h => ?_) (fun h => ?_) <;> simp only [BE.not_t, BE.not_f, BE.var_d] at h
  · exact .mk (.cons (.eq (.bool rfl)) .nil) rfl
  replace hO := hO h
  replace hN := hN h
  replace hlen := hlen h
  clear h
  refine CallP.pure _ hO rfl ?_
  cbv
  refine SplitP.mk (fun h => ?_) (fun h => ?_)
  · have h1 : (e != 0) = true := h
    have h2 := hz (he0 (by simpa using h1))
    subst h2
    exact .mk (.cons (.eq (.bool rfl)) .nil) rfl
  clear h
  refine SplitP.mk (fun h => ?_) (fun h => ?_)
  · have h1 : ok = false := by have h3 : (!ok) = true := h; simpa using h3
    have h2 := hz h1
    subst h2
    exact .mk (.cons (.eq (.bool rfl)) .nil) rfl
  · have h1 : ok = true := by have h3 : (!ok) = false := h; simpa using h3
    replace hlaw := fun i j a b => hlaw i j a b h1
    clear h hz he0
    obtain ⟨n, hn⟩ : ∃ n : Nat, n = l.length := ⟨_, rfl⟩
    refine CodeP.loopc hT hm (X := Nat) (fun k => [(35, .int .i64 (.nat k))]) (fun k => k ≤ l.length) (fun k => n - k) 0 (Nat.zero_le _) (Nat.zero_le _) ?_ rfl ?_
    · (cbv; (repeat' (first | exact SnD.refl _ | exact trivial | exact SnD.nat0 | refine And.intro ?_ ?_)))
    intro i hi
    replace hi : i ≤ l.length := hi
    cbv
    refine SplitP.mk (fun hs => ?_) (fun hs => ?_)
    · have hkn : i < l.length := by
        have h5 : decide ((i : Int) < (l.length : Int)) = true := hs
        have := of_decide_eq_true h5
        omega
      clear hs
      refine ElemP.mk (by show (0 : Int) ≤ (i : Int) ∧ (i : Int) < (l.length : Int); omega) (fun a ha => ?_)
      replace ha : l[i]? = some a := ha
      cbv
      have e1 : IE.den (.bin .add .i64 (.nat i) (.lit 1)) = ((i + 1 : Nat) : Int) := by
        have : binDen .add .i64 (i : Int) 1 = (i : Int) + 1 := add64 (by omega) (by omega)
        show binDen .add .i64 (i : Int) 1 = _
        omega
      refine ReqP.mk ⟨by show 0 ≤ IE.den (.bin .add .i64 (.nat i) (.lit 1)); omega, by show IE.den (.bin .add .i64 (.nat i) (.lit 1)) ≤ (l.length : Int); omega, Int.le_refl _, Int.le_refl _, fun h => h⟩ (fun _ => ?_)
      refine LetP.mk (fun l1 hl1 => ?_)
      replace hl1 : l1 = l.drop (i + 1) := by
        rw [hl1]
        show List.drop (IE.den (.bin .add .i64 (.nat i) (.lit 1))).toNat (List.take (l.length : Int).toNat l) = _
        rw [e1]
        simp
      have hl1l : l1.length ≤ 7 := by rw [hl1, List.length_drop]; omega
      obtain ⟨n1, hn1⟩ : ∃ n : Nat, n = l1.length := ⟨_, rfl⟩
      cbv
      refine CodeP.loopc hT hm (X := Nat) (fun k => [(45, .int .i64 (.nat k))]) (fun k => k ≤ l1.length) (fun k => n1 - k) 0 (Nat.zero_le _) (Nat.zero_le _) ?_ rfl ?_
      · (cbv; (repeat' (first | exact SnD.refl _ | exact trivial | exact SnD.nat0 | refine And.intro ?_ ?_)))
      intro j hj
      replace hj : j ≤ l1.length := hj
      cbv
      refine SplitP.mk (fun hs => ?_) (fun hs => ?_)
      · have hjn : j < l1.length := by
          have h5 := of_decide_eq_true (show decide ((j : Int) < (l1.length : Int)) = true from hs)
          omega
        refine ElemP.mk (by show (0 : Int) ≤ (j : Int) ∧ (j : Int) < (l1.length : Int); omega) (fun b hb => ?_)
        replace hb : l1[j]? = some b := hb
        cbv
        refine SplitP.mk (fun h => ?_) (fun h => ?_)
        · refine BackP.intro (j + 1) (by show j + 1 ≤ l1.length; omega) (by show n1 - (j + 1) < n1 - j; omega) ⟨?_, HEnt.refl _, rfl⟩
          (cbv; (repeat' (first | exact SnD.refl _ | exact trivial | exact SnD.nat0 | refine And.intro ?_ ?_)))
          exact .inc (by omega)
        · have hle : b ≤ a := by
            have h5 := of_decide_eq_false (show decide (b > a) = false from h)
            omega
          have hw := hlaw i j a b ha (by rw [← hl1]; exact hb) hle
          clear h
          refine ReqP.mk ⟨by show (0 : Int) ≤ (i : Int); omega, by show (i : Int) ≤ (l.length : Int); omega, Int.le_refl _, Int.le_refl _, fun h => h⟩ (fun _ => ?_)
          refine LetP.mk (fun l2 hl2 => ?_)
          replace hl2 : l2 = l.drop i := by
            rw [hl2]
            show List.drop (i : Int).toNat (List.take (l.length : Int).toNat l) = _
            simp
          have hl2l : l2.length ≤ 7 := by rw [hl2, List.length_drop]; omega
          rw [← hl2] at hw
          obtain ⟨n2, hn2⟩ : ∃ n : Nat, n = l2.length := ⟨_, rfl⟩
          obtain ⟨A, hA⟩ : ∃ A : Nat → Bool, A = fun q => (l2.take q).any (N b) := ⟨_, rfl⟩
          have hA0 : A 0 = false := by rw [hA]; rfl
          have hAs : ∀ q x, l2[q]? = some x → A (q + 1) = (A q || N b x) := fun q x h => by rw [hA]; simp [List.take_add_one, h]
          have hAl : A l2.length = true := by rw [hA]; simpa using hw
          clear hA
          have hNb := hN b
          cbv
          refine CodeP.loopc hT hm (X := Nat) (fun q => [(10, .bool (.var (A q))), (56, .int .i64 (.nat q))]) (fun q => q ≤ l2.length) (fun q => n2 - q) 0 (Nat.zero_le _) (Nat.zero_le _) ?_ rfl ?_
          · (cbv; (repeat' (first | exact SnD.refl _ | exact trivial | exact SnD.nat0 | refine And.intro ?_ ?_)))
            all_goals exact .eq (.bool hA0.symm)
          intro q hq
          replace hq : q ≤ l2.length := hq
          cbv
          refine SplitP.mk (fun hs => ?_) (fun hs => ?_)
          · have hqn : q < l2.length := by
              have h5 := of_decide_eq_true (show decide ((q : Int) < (l2.length : Int)) = true from hs)
              omega
            refine ElemP.mk (by show (0 : Int) ≤ (q : Int) ∧ (q : Int) < (l2.length : Int); omega) (fun c hc => ?_)
            replace hc : l2[q]? = some c := hc
            have hAq := hAs q c hc
            cbv
            refine SplitP.mk (fun h => ?_) (fun h => ?_) <;> simp only [BE.var_d] at h
            · refine BackP.intro (q + 1) (by show q + 1 ≤ l2.length; omega) (by show n2 - (q + 1) < n2 - q; omega) ⟨?_, HEnt.refl _, rfl⟩
              (cbv; (repeat' (first | exact SnD.refl _ | exact trivial | exact SnD.nat0 | refine And.intro ?_ ?_)))
              all_goals first | exact .inc (by omega) | exact .eq (.bool (by rw [BE.lit_d, BE.var_d, hAq, h]; rfl))
            · refine CallP.pure _ (hNb c) rfl ?_
              cbv
              refine BackP.intro (q + 1) (by show q + 1 ≤ l2.length; omega) (by show n2 - (q + 1) < n2 - q; omega) ⟨?_, HEnt.refl _, rfl⟩
              (cbv; (repeat' (first | exact SnD.refl _ | exact trivial | exact SnD.nat0 | refine And.intro ?_ ?_)))
              all_goals first | exact .inc (by omega) | exact .eq (.bool (by rw [BE.var_d, BE.var_d, hAq, h]; rfl))
          · have hqn : q = l2.length := by
              have h5 := of_decide_eq_false (show decide ((q : Int) < (l2.length : Int)) = false from hs)
              omega
            rw [← hqn] at hAl
            refine SplitP.mk (fun h => ?_) (fun h => ?_)
            · have h3 : (!(A q)) = true := h
              rw [hAl] at h3
              cases h3
            · refine BackP.intro (j + 1) (by show j + 1 ≤ l1.length; omega) (by show n1 - (j + 1) < n1 - j; omega) ⟨?_, HEnt.refl _, rfl⟩
              (cbv; (repeat' (first | exact SnD.refl _ | exact trivial | exact SnD.nat0 | refine And.intro ?_ ?_)))
              all_goals exact .inc (by omega)
      · refine BackP.intro (i + 1) (by show i + 1 ≤ l.length; omega) (by show n - (i + 1) < n - i; omega) ⟨?_, HEnt.refl _, rfl⟩
        (cbv; (repeat' (first | exact SnD.refl _ | exact trivial | exact SnD.nat0 | refine And.intro ?_ ?_)))
        exact .inc (by omega)
    · exact .mk (.cons (.eq (.bool rfl)) .nil) rfl
end Go.Proofs.Ytdhfakajlnidiaa
namespace Go.Proofs.Ytdhfakajlnidiaa
open Go.RowKit

/-! RulesAbove. -/
theorem rch_iff {N : Int → Int → Bool} {to y : Int} : Rch N to y ↔ N y to = true ∨ ∃ c, N y c = true ∧ Rch N to c := by
  constructor
  · intro h
    cases h with
    | one h => exact .inl h
    | @step _ z h k => exact .inr ⟨z, h, k⟩
  · rintro (h | ⟨c, h, k⟩)
    · exact .one h
    · exact .step h k
theorem above_mem {S : SourceD} {b : Int} (he : aboveE S b = 0) : numberedB S.schemas.length S.rules = true ∧ ∀ y, y ∈ aboveL S b ↔ Rch (needsB S.rules) b y := by
  unfold aboveE at he
  split at he
  · next h1 =>
    split at he
    · next h2 =>
      refine ⟨h1, fun y => ?_⟩
      unfold aboveL
      rw [h1, h2, Bool.true_and, if_pos rfl, numsL_mem]
      have hb : 0 ≤ b ∧ b < (S.schemas.length : Int) := of_decide_eq_true h2
      rw [dist_rch h1 hb y]
      refine ⟨fun h => h.2, fun h => ⟨?_, h⟩⟩
      rcases rch_iff.1 h with q | ⟨c, q, _⟩
      · exact (numbered_in h1 q).1
      · exact (numbered_in h1 q).1
    · omega
  · omega
theorem above_e {S : SourceD} {b : Int} (he : aboveE S b ≠ 0) : aboveL S b = [] ∧ (aboveE S b = 1 ∨ (aboveE S b = 140 ∧ numE S = 140)) := by
  unfold aboveE at he ⊢
  unfold aboveL numE
  cases h1 : numberedB S.schemas.length S.rules with
  | false => exact ⟨rfl, .inr ⟨rfl, rfl⟩⟩
  | true =>
    cases h2 : numB S.schemas.length b with
    | false => exact ⟨rfl, .inl rfl⟩
    | true =>
      rw [h1, h2] at he
      exact absurd rfl he
/-- what was found up to some place -/
def foundA (N : Int → Int → Bool) (al : List Int) (a b : Int) (k : Nat) : Bool := N a b || (List.range k).any fun c : Nat => N a c && decide ((c : Int) ∈ al)
theorem found_zero (N : Int → Int → Bool) (al : List Int) (a b : Int) : foundA N al a b 0 = N a b := by unfold foundA; simp
theorem found_succ (N : Int → Int → Bool) (al : List Int) (a b : Int) (k : Nat) : foundA N al a b (k + 1) = (foundA N al a b k || (N a k && decide ((k : Int) ∈ al))) := by
  unfold foundA
  rw [List.range_succ, List.any_append, Bool.or_assoc]
  simp
theorem found_law {S : SourceD} {a b : Int} (he : aboveE S b = 0) : foundA (needsB S.rules) (aboveL S b) a b S.schemas.length = decide (a ∈ aboveL S b) := by
  obtain ⟨hb, hm⟩ := above_mem he
  rw [Bool.eq_iff_iff, decide_eq_true_eq, hm, rch_iff]
  unfold foundA
  rw [Bool.or_eq_true, List.any_eq_true]
  constructor
  · rintro (h | ⟨c, _, h⟩)
    · exact .inl h
    · rw [Bool.and_eq_true, decide_eq_true_eq, hm] at h
      exact .inr ⟨c, h⟩
  · rintro (h | ⟨c, h1, h2⟩)
    · exact .inl h
    · have hc := (numbered_in hb h1).2
      refine .inr ⟨c.toNat, List.mem_range.2 (by omega), ?_⟩
      rw [show ((c.toNat : Nat) : Int) = c by omega, Bool.and_eq_true, decide_eq_true_eq, hm]
      exact ⟨h1, h2⟩
theorem self_law {S : SourceD} {b : Int} (he : aboveE S b = 0) (hb : b ∈ aboveL S b) : hasCyc S = true := by
  obtain ⟨hn, hm⟩ := above_mem he
  have hr := (hm b).1 hb
  have hbr : 0 ≤ b ∧ b < (S.schemas.length : Int) := by
    rcases rch_iff.1 hr with q | ⟨c, q, _⟩
    · exact (numbered_in hn q).1
    · exact (numbered_in hn q).1
  cases hc : hasCyc S with
  | true => rfl
  | false =>
    exfalso
    have hok := ok_cyc hn
    rw [hc] at hok
    unfold ordOK at hok
    rw [hn, Bool.true_and] at hok
    have hf : (ordS S).length = S.schemas.length := of_decide_eq_true hok
    obtain ⟨k, hk, e⟩ := List.getElem_of_mem (ord_full (m := S.schemas.length) (nd := needsB S.rules) hf (x := b.toNat) (by omega))
    have hk' : (ordS S)[k]? = some b := by
      rw [show b = ((b.toNat : Nat) : Int) by omega, ← e]
      exact List.getElem?_eq_getElem hk
    have hm := ord_rch (ord_in hn) hf hr k hk'
    obtain ⟨x, q1, _, q3, _⟩ := ord_at (m := S.schemas.length) (nd := needsB S.rules) (List.getElem?_eq_some_iff.1 hk').1
    have q1' : (ordS S)[k]? = some (x : Int) := q1
    rw [hk'] at q1'
    cases q1'
    exact q3 hm
theorem before_law {S : SourceD} {b : Int} (he : aboveE S b = 0) (ho : ordOK S = true) {k : Nat} {x : Int} (hk : (ordL S)[k]? = some x) (hx : x ∈ aboveL S b) : b ∈ (ordL S).take (k + 1) := by
  obtain ⟨hn, hm⟩ := above_mem he
  have hr := (hm x).1 hx
  unfold ordL at hk ⊢
  rw [if_pos ho] at hk ⊢
  unfold ordOK at ho
  rw [hn, Bool.true_and] at ho
  have hf : (ordS S).length = S.schemas.length := of_decide_eq_true ho
  have := ord_rch (ord_in hn) hf hr k hk
  have h2 := List.take_subset_take_left (ordS S) (Nat.le_succ k)
  exact h2 this
set_option maxHeartbeats 8000000 in
set_option maxRecDepth 100000 in
set_option maxHeartbeats 4000000 in
theorem above_pure (S : SourceD) (hR : S.rules.length ≤ 9223372036854775807) (hSl : S.schemas.length ≤ 9223372036854775807) (a b : Int) : Pure Try.prog 6 [.agg S.c, i64 a, i64 b] (boolD true) := by
  have hs := sane_pure
  have hFew := Few_pure S hR
  obtain ⟨fw, hfw⟩ : ∃ b, b = fewB S := ⟨_, rfl⟩
  rw [← hfw] at hFew
  have hA := fun h : fw = true => Above_pure S (few_small (hfw.symm.trans h)) b
  have hO := fun h : fw = true => Order_pure S (few_small (hfw.symm.trans h))
  have hC := fun h : fw = true => Cycle_pure S (few_small (hfw.symm.trans h))
  have hN := fun (h : fw = true) (a b : Int) => law_needs_pure S a b (by have := (few_small (hfw.symm.trans h)).r; omega) (fun r hr => by have := (few_small (hfw.symm.trans h)).f r hr; omega)
  have hI := fun (h : fw = true) (x : Int) => is_pure (aboveL S b) (some (.var (aboveL S b).isEmpty)) x (by
    have hn := (few_small (hfw.symm.trans h)).n
    unfold aboveL
    split
    · rw [numsL_len]
      have := cnt_le S.schemas.length (fiB (distS S b))
      omega
    · simp)
  have hlen : fw = true → (ordL S).length ≤ 7 := fun h => by
    have h7 := (few_small (hfw.symm.trans h)).n
    have : (ordS S).length ≤ S.schemas.length := (ord_inv (m := S.schemas.length) (nd := needsB S.rules)).len
    unfold ordL
    split
    · omega
    · simp
  have hn7 : fw = true → S.schemas.length ≤ 7 := fun h => (few_small (hfw.symm.trans h)).n
  have hae := @above_e S b
  have hE : aboveE S b = 0 → numE S = 0 := fun h => by unfold numE; rw [(above_mem h).1]; rfl
  have hF := @found_law S a b
  have hS1 := @self_law S b
  have hB := @before_law S b
  obtain ⟨l, hl⟩ : ∃ l, l = ordL S := ⟨_, rfl⟩
  obtain ⟨ok, hok⟩ : ∃ l, l = ordOK S := ⟨_, rfl⟩
  obtain ⟨e, he⟩ : ∃ l, l = numE S := ⟨_, rfl⟩
  obtain ⟨ae, hae2⟩ : ∃ l, l = aboveE S b := ⟨_, rfl⟩
  obtain ⟨al, hal⟩ : ∃ l, l = aboveL S b := ⟨_, rfl⟩
  obtain ⟨cl, hcl⟩ : ∃ l, l = cycL S := ⟨_, rfl⟩
  obtain ⟨hc, hhc⟩ : ∃ l, l = hasCyc S := ⟨_, rfl⟩
  obtain ⟨N, hN'⟩ : ∃ l, l = needsB S.rules := ⟨_, rfl⟩
  have hnum : ∀ S : SourceD, numE S = if numberedB S.schemas.length S.rules then 0 else 140 := fun _ => rfl
  rw [← hnum] at hC
  rw [← hl, ← hok, ← he] at hO
  rw [← hcl, ← hhc, ← he] at hC
  rw [← hal, ← hae2] at hA
  rw [← hal] at hI
  rw [← hl] at hlen
  rw [← hae2, ← hal, ← he] at hae
  rw [← hae2, ← he] at hE
  rw [← hae2, ← hal, ← hN'] at hF
  rw [← hae2, ← hal, ← hhc] at hS1
  rw [← hae2, ← hal, ← hok, ← hl] at hB
  rw [← hN'] at hN
  obtain ⟨lb, hlb⟩ : ∃ b, b = l.isEmpty := ⟨_, rfl⟩
  rw [← hlb] at hO
  obtain ⟨ab, hab⟩ : ∃ b, b = al.isEmpty := ⟨_, rfl⟩
  rw [← hab] at hA hI
  obtain ⟨cb, hcb⟩ : ∃ b, b = cl.isEmpty := ⟨_, rfl⟩
  rw [← hcb] at hC
  have hI2 : fw = true → ∀ x, Pure Try.prog 18 [.slm 1 (some (.var ab)) intC al, i64 x] (boolD (decide (x ∈ al))) := hI
  obtain ⟨FA, hFA⟩ : ∃ f, f = foundA N al a b := ⟨_, rfl⟩
  have hFA0 : FA 0 = N a b := by rw [hFA, found_zero]
  have hFAs : ∀ k, FA (k + 1) = (FA k || (N a k && decide ((k : Int) ∈ al))) := fun k => by rw [hFA, found_succ]
  rw [← hFA] at hF
  obtain ⟨M, hM⟩ : ∃ M : Int → Bool, M = fun x => decide (x ∈ al) := ⟨_, rfl⟩
  have hMx : ∀ x, decide (x ∈ al) = M x := fun x => by rw [hM]
  have hMi : ∀ x, x ∈ al ↔ M x = true := fun x => by rw [hM, decide_eq_true_eq]
  simp only [hMx] at hI2 hFAs hF
  simp only [hMi] at hS1 hB
  obtain ⟨Bf, hBf⟩ : ∃ f : Nat → Bool, f = fun k => decide (b ∈ l.take k) := ⟨_, rfl⟩
  have hBf0 : Bf 0 = false := by rw [hBf]; simp
  have hBfs : ∀ k x, l[k]? = some x → Bf (k + 1) = (Bf k || decide (x = b)) := fun k x h => by
    rw [hBf]
    rw [Bool.eq_iff_iff, Bool.or_eq_true, decide_eq_true_eq, decide_eq_true_eq, decide_eq_true_eq, List.take_add_one, h, List.mem_append, Option.toList_some, List.mem_singleton]
    exact or_congr Iff.rfl ⟨fun e => e.symm, fun e => e.symm⟩
  have hBfm : ∀ k, b ∈ l.take k ↔ Bf k = true := fun k => by rw [hBf, decide_eq_true_eq]
  simp only [hBfm] at hB
  clear hfw hl hok he hae2 hal hcl hhc hN' hlb hab hcb hFA hM hMx hMi hBf hBfm hI hnum
  obtain ⟨ni, is, nu, us, ns, ss, nr, rs, nc, cs, np, ps⟩ := S
  simp only at hn7 hF hSl
  obtain ⟨n, hn⟩ : ∃ n : Nat, n = ss.length := ⟨_, rfl⟩
  obtain ⟨n2, hn2⟩ : ∃ n : Nat, n = l.length := ⟨_, rfl⟩
  refine Pure.intro (want := [boolD true]) T_ok follows Try.func6 rfl (by kernel_rfl) (rs := [.tmp 6]) rfl (by kernel_rfl) ?_
  generalize hP : Try.prog = P at *
  have hT : T.ok P := hP ▸ T_ok
  have hm : P.follows .mixedOrders = true := hP ▸ follows
  unfold Try.f6
  dsimp only
  cbv
  refine CallP.pure _ hs rfl ?_
  cbv
  refine SplitP.mk (fun h => ?_) (fun h => ?_)
  · cases (show (!true) = true from h)
  clear h
  refine CallP.pure _ hFew rfl ?_
  cbv
  refine SplitP.mk (fun h => ?_) (fun h => ?_) <;> simp only [BE.not_t, BE.not_f, BE.var_d] at h
  · exact .mk (.cons (.eq (.bool rfl)) .nil) rfl
  replace hA := hA h
  replace hO := hO h
  replace hC := hC h
  replace hN := hN h
  replace hI2 := hI2 h
  replace hlen := hlen h
  replace hn7 := hn7 h
  clear h
  refine SplitP.mk (fun h => ?_) (fun h => ?_)
  · exact .mk (.cons (.eq (.bool rfl)) .nil) rfl
  have ha0 : 0 ≤ a := by
    have := of_decide_eq_false (show decide (a < 0) = false from h)
    omega
  clear h
  refine SplitP.mk (fun h => ?_) (fun h => ?_)
  · exact .mk (.cons (.eq (.bool rfl)) .nil) rfl
  have ha1 : a < (ss.length : Int) := by
    have := of_decide_eq_false (show decide (a ≥ (ss.length : Int)) = false from h)
    omega
  clear h
  refine CallP.pure _ hA rfl ?_
  cbv
  refine CallP.pure _ hO rfl ?_
  cbv
  refine CallP.pure _ hC rfl ?_
  cbv
  refine SplitP.mk (fun h => ?_) (fun h => ?_)
  · have h1 : (ae != 0) = true := h
    obtain ⟨q1, q2⟩ := hae (by simpa using h1)
    subst q1
    refine SplitP.mk (fun h => ?_) (fun h => by cases (show true = false from h))
    refine SplitP.mk (fun h => ?_) (fun h => ?_)
    · have h2 : ae = 140 := by
        have h3 : (ae == 140) = true := h
        simpa using h3
      have h4 : e = 140 := by rcases q2 with q | q <;> omega
      refine SplitP.mk (fun h => ?_) (fun h => ?_)
      · exact .mk (.cons (.eq (.bool rfl)) .nil) rfl
      · have h3 : (e == ae) = false := h
        rw [h2, h4] at h3
        cases h3
    · have h2 : ae = 1 := by
        have h3 : (ae == 140) = false := h
        have h4 : ae ≠ 140 := by simpa using h3
        rcases q2 with q | q <;> omega
      refine .mk (.cons (.eq (.bool ?_)) .nil) rfl
      show (ae == 1) = true
      rw [h2]
      rfl
  have hae0 : ae = 0 := by
    have h1 : (ae != 0) = false := h
    simpa using h1
  have he0 := hE hae0
  replace hF := hF hae0
  replace hS1 := hS1 hae0
  replace hB := fun ho k x => @hB hae0 ho k x
  clear h hae hE
  subst hae0 he0
  refine CallP.pure _ (hN a b) rfl ?_
  cbv
  refine CodeP.loopc hT hm (X := Nat) (fun k => [(16, .bool (.var (FA k))), (80, .int .i64 (.nat k))]) (fun k => k ≤ ss.length) (fun k => n - k) 0 (Nat.zero_le _) (Nat.zero_le _) ?_ rfl ?_
  · (cbv; (repeat' (first | exact SnD.refl _ | exact trivial | exact SnD.nat0 | refine And.intro ?_ ?_)))
    all_goals exact .eq (.bool hFA0.symm)
  intro k hk
  replace hk : k ≤ ss.length := hk
  have hFk := hFAs k
  cbv
  refine SplitP.mk (fun hs => ?_) (fun hs => ?_)
  · have hkn : k < ss.length := by
      have h5 := of_decide_eq_true (show decide ((k : Int) < (ss.length : Int)) = true from hs)
      omega
    refine SplitP.mk (fun h => ?_) (fun h => ?_) <;> simp only [BE.var_d] at h
    · refine BackP.intro (k + 1) (by show k + 1 ≤ ss.length; omega) (by show n - (k + 1) < n - k; omega) ⟨?_, HEnt.refl _, rfl⟩
      (cbv; (repeat' (first | exact SnD.refl _ | exact trivial | exact SnD.nat0 | refine And.intro ?_ ?_)))
      all_goals first | exact .inc (by omega) | exact .eq (.bool (by rw [BE.lit_d, BE.var_d, hFk, h]; rfl))
    · refine CallP.pure _ (Pure.args (args' := [_, i64 a, i64 (k : Int)]) (.cons (.refl _) (.cons (.refl _) (.cons (.int rfl) .nil))) (hN a k)) rfl ?_
      cbv
      refine SplitP.mk (fun h2 => ?_) (fun h2 => ?_) <;> simp only [BE.var_d] at h2
      · refine CallP.pure _ (Pure.args (args' := [_, i64 (k : Int)]) (.cons (.refl _) (.cons (.int rfl) .nil)) (hI2 k)) rfl ?_
        cbv
        refine BackP.intro (k + 1) (by show k + 1 ≤ ss.length; omega) (by show n - (k + 1) < n - k; omega) ⟨?_, HEnt.refl _, rfl⟩
        (cbv; (repeat' (first | exact SnD.refl _ | exact trivial | exact SnD.nat0 | refine And.intro ?_ ?_)))
        all_goals first | exact .inc (by omega) | exact .eq (.bool (by rw [BE.var_d, BE.var_d, hFk, h, h2]; rfl))
      · refine BackP.intro (k + 1) (by show k + 1 ≤ ss.length; omega) (by show n - (k + 1) < n - k; omega) ⟨?_, HEnt.refl _, rfl⟩
        (cbv; (repeat' (first | exact SnD.refl _ | exact trivial | exact SnD.nat0 | refine And.intro ?_ ?_)))
        all_goals first | exact .inc (by omega) | exact .eq (.bool (by rw [BE.lit_d, BE.var_d, hFk, h, h2]; rfl))
  · have hkn : k = ss.length := by
      have h5 := of_decide_eq_false (show decide ((k : Int) < (ss.length : Int)) = false from hs)
      omega
    rw [← hkn] at hF
    refine SplitP.mk (fun h => by cases (show false = true from h)) (fun h => ?_)
    clear h
    refine SplitP.mk (fun h => by cases (show false = true from h)) (fun h => ?_)
    clear h
    refine CallP.pure _ (hI2 a) rfl ?_
    cbv
    refine SplitP.mk (fun h => ?_) (fun h => ?_)
    · have h3 : (!(FA k == M a)) = true := h
      rw [hF] at h3
      simp at h3
    clear h
    refine CallP.pure _ (hI2 b) rfl ?_
    cbv
    refine SplitP.mk (fun h => SplitP.mk (fun h2 => ?_) (fun h2 => ?_)) (fun h => ?_)
    · have h3 : (!hc) = true := h2
      rw [hS1 h] at h3
      cases h3
    all_goals
      clear h
      refine CodeP.loopc hT hm (X := Nat) (fun k => [(18, .bool (.var (Bf k))), (123, .int .i64 (.nat k))]) (fun k => k ≤ l.length) (fun k => n2 - k) 0 (Nat.zero_le _) (Nat.zero_le _) ?_ rfl ?_
      · (cbv; (repeat' (first | exact SnD.refl _ | exact trivial | exact SnD.nat0 | refine And.intro ?_ ?_)))
        all_goals exact .eq (.bool hBf0.symm)
      intro j hj
      replace hj : j ≤ l.length := hj
      cbv
      refine SplitP.mk (fun hs => ?_) (fun hs => ?_)
      · have hjn : j < l.length := by
          have h5 := of_decide_eq_true (show decide ((j : Int) < (l.length : Int)) = true from hs)
          omega
        refine ElemP.mk (by show (0 : Int) ≤ (j : Int) ∧ (j : Int) < (l.length : Int); omega) (fun x hx => ?_)
        replace hx : l[j]? = some x := hx
        have hBj := hBfs j x hx
        have hBo := fun ho => hB ho j x hx
        cbv
        refine SplitP.mk (fun h => ?_) (fun h => ?_)
        · have hxb : x = b := by
            have h3 : (x == b) = true := h
            simpa using h3
          rw [decide_eq_true hxb, Bool.or_true] at hBj
          clear h
          refine SplitP.mk (fun h => ?_) (fun h => ?_) <;> simp only [BE.var_d] at h
          · refine CallP.pure _ (hI2 x) rfl ?_
            cbv
            refine SplitP.mk (fun h2 => ?_) (fun h2 => ?_)
            all_goals
              refine BackP.intro (j + 1) (by show j + 1 ≤ l.length; omega) (by show n2 - (j + 1) < n2 - j; omega) ⟨?_, HEnt.refl _, rfl⟩
              (cbv; (repeat' (first | exact SnD.refl _ | exact trivial | exact SnD.nat0 | refine And.intro ?_ ?_)))
              all_goals first | exact .inc (by omega) | exact .eq (.bool hBj.symm)
          · refine BackP.intro (j + 1) (by show j + 1 ≤ l.length; omega) (by show n2 - (j + 1) < n2 - j; omega) ⟨?_, HEnt.refl _, rfl⟩
            (cbv; (repeat' (first | exact SnD.refl _ | exact trivial | exact SnD.nat0 | refine And.intro ?_ ?_)))
            all_goals first | exact .inc (by omega) | exact .eq (.bool hBj.symm)
        · have hxb : ¬ x = b := by
            have h3 : (x == b) = false := h
            simpa using h3
          rw [decide_eq_false hxb, Bool.or_false] at hBj
          clear h
          refine SplitP.mk (fun h => ?_) (fun h => ?_) <;> simp only [BE.var_d] at h
          · refine CallP.pure _ (hI2 x) rfl ?_
            cbv
            refine SplitP.mk (fun h2 => ?_) (fun h2 => ?_) <;> simp only [BE.var_d] at h2
            · have hBt := hBo h h2
              rw [hBj] at hBt
              refine SplitP.mk (fun h3 => ?_) (fun h3 => ?_)
              · have h4 : (!(Bf j)) = true := h3
                rw [hBt] at h4
                cases h4
              · refine BackP.intro (j + 1) (by show j + 1 ≤ l.length; omega) (by show n2 - (j + 1) < n2 - j; omega) ⟨?_, HEnt.refl _, rfl⟩
                (cbv; (repeat' (first | exact SnD.refl _ | exact trivial | exact SnD.nat0 | refine And.intro ?_ ?_)))
                all_goals first | exact .inc (by omega) | exact .eq (.bool hBj.symm)
            · refine BackP.intro (j + 1) (by show j + 1 ≤ l.length; omega) (by show n2 - (j + 1) < n2 - j; omega) ⟨?_, HEnt.refl _, rfl⟩
              (cbv; (repeat' (first | exact SnD.refl _ | exact trivial | exact SnD.nat0 | refine And.intro ?_ ?_)))
              all_goals first | exact .inc (by omega) | exact .eq (.bool hBj.symm)
          · refine BackP.intro (j + 1) (by show j + 1 ≤ l.length; omega) (by show n2 - (j + 1) < n2 - j; omega) ⟨?_, HEnt.refl _, rfl⟩
            (cbv; (repeat' (first | exact SnD.refl _ | exact trivial | exact SnD.nat0 | refine And.intro ?_ ?_)))
            all_goals first | exact .inc (by omega) | exact .eq (.bool hBj.symm)
      · exact .mk (.cons (.eq (.bool rfl)) .nil) rfl
end Go.Proofs.Ytdhfakajlnidiaa
namespace Go.Proofs.Ytdhfakajlnidiaa
open Go.RowKit

/-! RulesFewer. -/
theorem rch_mono {N N' : Int → Int → Bool} (h : ∀ a b, N' a b = true → N a b = true) {to y : Int} (hr : Rch N' to y) : Rch N to y := by
  induction hr with
  | one q => exact .one (h _ _ q)
  | step q _ ih => exact .step (h _ _ q) ih
theorem no_self {S : SourceD} (ho : ordOK S = true) {y : Int} (hy : 0 ≤ y ∧ y < (S.schemas.length : Int)) : ¬ Rch (needsB S.rules) y y := fun hr => by
  unfold ordOK at ho
  rw [Bool.and_eq_true, decide_eq_true_eq] at ho
  obtain ⟨hn, hf⟩ := ho
  obtain ⟨k, hk, e⟩ := List.getElem_of_mem (ord_full (m := S.schemas.length) (nd := needsB S.rules) hf (x := y.toNat) (by omega))
  have hk' : (ordS S)[k]? = some y := by
    rw [show y = ((y.toNat : Nat) : Int) by omega, ← e]
    exact List.getElem?_eq_getElem hk
  have hm := ord_rch (ord_in hn) hf hr k hk'
  obtain ⟨x, q1, _, q3, _⟩ := ord_at (m := S.schemas.length) (nd := needsB S.rules) (List.getElem?_eq_some_iff.1 hk').1
  have q1' : (ordS S)[k]? = some (x : Int) := q1
  rw [hk'] at q1'
  cases q1'
  exact q3 hm
theorem fewer_ok {S S2 : SourceD} (ho : ordOK S = true) (hs : S2.schemas = S.schemas) (hr : ∀ r, r ∈ S2.rules → r ∈ S.rules) : ordOK S2 = true ∧ numE S2 = 0 := by
  have ho' := ho
  unfold ordOK at ho
  rw [Bool.and_eq_true] at ho
  have hn2 : numberedB S2.schemas.length S2.rules = true := by
    rw [hs]
    exact List.all_eq_true.2 fun r h => List.all_eq_true.1 ho.1 r (hr r h)
  have hmono : ∀ a b, needsB S2.rules a b = true → needsB S.rules a b = true := fun a b h => by
    unfold needsB at h ⊢
    rw [List.any_eq_true] at h ⊢
    obtain ⟨r, h1, h2⟩ := h
    exact ⟨r, hr r h1, h2⟩
  refine ⟨?_, by unfold numE; rw [hn2]; rfl⟩
  rw [ok_cyc hn2]
  cases hc : hasCyc S2 with
  | false => rfl
  | true =>
    obtain ⟨y, hy, hrch⟩ := hasCyc_rch hc
    rw [hs] at hy
    exact absurd (rch_mono hmono hrch) (no_self ho' (by omega))
theorem ok_len {S : SourceD} (ho : ordOK S = true) : (ordL S).length = S.schemas.length := by
  unfold ordL
  rw [if_pos ho]
  unfold ordOK at ho
  rw [Bool.and_eq_true, decide_eq_true_eq] at ho
  exact ho.2
abbrev bareS (ns : Bool) (ss : List SchemaD) (nr : Bool) (rs : List RuleD) : SourceD := ⟨true, [], true, [], ns, ss, nr, rs, true, [], true, []⟩
theorem bare_eq (ns : Bool) (ss : List SchemaD) (nr : Bool) (rs : List RuleD) (x : D) (hx : DEq x (.slm 5 (some (.var nr)) RuleD.c rs)) : DEq (.agg [.nils, .nils, .slm 6 (some (.var ns)) SchemaD.c ss, x, .nils, .nils]) (.agg (bareS ns ss nr rs).c) := .aggs rfl fun i d d' h1 h2 => by
  match i with
  | 0 => cases h1; cases h2; exact .nilv rfl rfl
  | 1 => cases h1; cases h2; exact .nilv rfl rfl
  | 2 => cases h1; cases h2; exact .refl _
  | 3 => cases h1; cases h2; exact hx
  | 4 => cases h1; cases h2; exact .nilv rfl rfl
  | 5 => cases h1; cases h2; exact .nilv rfl rfl
  | i + 6 => simp at h1
set_option maxHeartbeats 8000000 in
set_option maxRecDepth 100000 in
set_option maxHeartbeats 4000000 in
theorem fewer_pure (S : SourceD) (hR : S.rules.length ≤ 9223372036854775807) (at_ : BitVec 8) : Pure Try.prog 7 [.agg S.c, .int .u8 (.u8 at_)] (boolD true) := by
  have hs := sane_pure
  have hFew := Few_pure S hR
  obtain ⟨fw, hfw⟩ : ∃ b, b = fewB S := ⟨_, rfl⟩
  rw [← hfw] at hFew
  have hO := fun h : fw = true => Order_pure S (few_small (hfw.symm.trans h))
  have hB : fw = true → ∀ nr rs, (∀ r, r ∈ rs → r ∈ S.rules) → rs.length ≤ 10 → Pure Try.prog 16 [.agg (bareS S.nschemas S.schemas nr rs).c] (.tup [.slm 1 (some (.var (ordL (bareS S.nschemas S.schemas nr rs)).isEmpty)) intC (ordL (bareS S.nschemas S.schemas nr rs)), boolD (ordOK (bareS S.nschemas S.schemas nr rs)), i64 (numE (bareS S.nschemas S.schemas nr rs))]) := fun h nr rs h1 h2 =>
    Order_pure (bareS S.nschemas S.schemas nr rs) ⟨(few_small (hfw.symm.trans h)).n, h2, fun r hr => (few_small (hfw.symm.trans h)).f r (h1 r hr)⟩
  have hlen : fw = true → (ordL S).length ≤ 7 := fun h => by
    have h7 := (few_small (hfw.symm.trans h)).n
    have : (ordS S).length ≤ S.schemas.length := (ord_inv (m := S.schemas.length) (nd := needsB S.rules)).len
    unfold ordL
    split
    · omega
    · simp
  have hS := fun h : fw = true => Same_pure (ordL S) (ordL S) (some (.var (ordL S).isEmpty)) (some (.var (ordL S).isEmpty)) (by have := hlen h; omega)
  rw [decide_eq_true (rfl : ordL S = ordL S)] at hS
  have hr10 : fw = true → S.rules.length ≤ 10 := fun h => (few_small (hfw.symm.trans h)).r
  have hlaw := fun (nr : Bool) (rs : List RuleD) (h1 : ordOK S = true) (h2 : ∀ r, r ∈ rs → r ∈ S.rules) => fewer_ok (S2 := bareS S.nschemas S.schemas nr rs) h1 rfl h2
  have hll := fun (nr : Bool) (rs : List RuleD) (h1 : ordOK S = true) (h2 : ∀ r, r ∈ rs → r ∈ S.rules) => ok_len (hlaw nr rs h1 h2).1
  have he0 : numE S ≠ 0 → ordOK S = false := fun h => by
    unfold numE at h
    unfold ordOK
    split at h
    · omega
    · next q => simp only [Bool.not_eq_true] at q; rw [q]; rfl
  have hB1 : fw = true → Pure Try.prog 16 [.agg [.nils, .nils, .slm 6 (some (.var S.nschemas)) SchemaD.c S.schemas, .slm 5 (some (.var S.nrules)) RuleD.c S.rules, .nils, .nils]] (.tup [.slm 1 (some (.var (ordL S).isEmpty)) intC (ordL S), boolD (ordOK S), i64 (numE S)]) := fun h =>
    Pure.args (.cons (bare_eq _ _ _ _ _ (.refl _)) .nil) (hB h S.nrules S.rules (fun r h => h) (hr10 h))
  have hB2 : fw = true → ordOK S = true → ∀ rs, (∀ r, r ∈ rs → r ∈ S.rules) → rs.length ≤ 10 → ∃ l : List Int, l.length = S.schemas.length ∧ Pure Try.prog 16 [.agg [.nils, .nils, .slm 6 (some (.var S.nschemas)) SchemaD.c S.schemas, .slm 5 (some (.var false)) RuleD.c rs, .nils, .nils]] (.tup [.slm 1 none intC l, .bool (.lit true), .int .i64 (.lit 0)]) := fun h ho rs h1 h2 => by
    refine ⟨_, hll false rs ho h1, ?_⟩
    obtain ⟨q1, q2⟩ := hlaw false rs ho h1
    exact Pure.res (Pure.args (.cons (bare_eq _ _ _ _ _ (.refl _)) .nil) (hB h false rs h1 h2)) (.tups rfl fun i d d' e1 e2 => by
      match i with
      | 0 => cases e1; cases e2; exact .slm (.inl rfl) rfl
      | 1 => cases e1; cases e2; exact .bool q1
      | 2 => cases e1; cases e2; exact .int q2
      | i + 3 => simp at e1)
  clear hB hlaw hll
  obtain ⟨l, hl⟩ : ∃ l, l = ordL S := ⟨_, rfl⟩
  obtain ⟨ok, hok⟩ : ∃ l, l = ordOK S := ⟨_, rfl⟩
  obtain ⟨e, he⟩ : ∃ l, l = numE S := ⟨_, rfl⟩
  rw [← hl, ← hok, ← he] at hO hB1
  rw [← hl] at hS
  rw [← hok] at hB2
  rw [← he, ← hok] at he0
  obtain ⟨lb, hlb⟩ : ∃ b, b = l.isEmpty := ⟨_, rfl⟩
  rw [← hlb] at hO hB1 hS
  clear hfw hl hok he hlb hlen
  obtain ⟨ni, is, nu, us, ns, ss, nr, rs, nc, cs, np, ps⟩ := S
  simp only at hr10 hB1 hB2 hR
  refine Pure.intro (want := [boolD true]) T_ok follows Try.func7 rfl (by kernel_rfl) (rs := [.tmp 4]) rfl (by kernel_rfl) ?_
  generalize hP : Try.prog = P at *
  have hT : T.ok P := hP ▸ T_ok
  have hm : P.follows .mixedOrders = true := hP ▸ follows
  unfold Try.f7
  dsimp only
  cbv
  refine CallP.pure _ hs rfl ?_
  cbv
  refine SplitP.mk (fun h => ?_) (fun h => ?_)
  · cases (show (!true) = true from h)
  clear h
  refine CallP.pure _ hFew rfl ?_
  cbv
  refine SplitP.mk (fun h => ?_) (fun h => ?_) <;> simp only [BE.not_t, BE.not_f, BE.var_d] at h
  · exact .mk (.cons (.eq (.bool rfl)) .nil) rfl
  replace hO := hO h
  replace hB1 := hB1 h
  replace hB2 := hB2 h
  replace hS := hS h
  replace hr10 := hr10 h
  clear h
  refine CallP.pure _ hO rfl ?_
  cbv
  refine CallP.pure _ hB1 rfl ?_
  cbv
  refine SplitP.mk (fun h => ?_) (fun h => ?_)
  · have h3 : (e != e) = true := h
    simp at h3
  clear h
  refine SplitP.mk (fun h => ?_) (fun h => ?_)
  · have h3 : (!(ok == ok)) = true := h
    simp at h3
  clear h
  refine CallP.pure _ hS rfl ?_
  cbv
  refine SplitP.mk (fun h => by cases (show (!true) = true from h)) (fun h => ?_)
  clear h
  refine SplitP.mk (fun h => ?_) (fun h => ?_)
  · exact .mk (.cons (.eq (.bool rfl)) .nil) rfl
  clear h
  refine SplitP.mk (fun h => ?_) (fun h => ?_)
  · exact .mk (.cons (.eq (.bool rfl)) .nil) rfl
  have hokt : ok = true := by
    have h3 : (!ok) = false := h
    simpa using h3
  replace hB2 := hB2 hokt
  clear h
  refine SplitP.mk (fun h => ?_) (fun h => ?_)
  · exact .mk (.cons (.eq (.bool rfl)) .nil) rfl
  have hr0 : 0 < rs.length := by
    have h3 : ((rs.length : Int) == 0) = false := h
    simp at h3
    have : rs.length ≠ 0 := fun e => h3 (List.eq_nil_of_length_eq_zero e)
    omega
  clear h
  refine ReqP.mk (by show ¬ (rs.length : Int) = 0; omega) (fun _ => ?_)
  obtain ⟨k, hk⟩ : ∃ k, k = at_.toNat % rs.length := ⟨_, rfl⟩
  have hkl : k < rs.length := by rw [hk]; exact Nat.mod_lt _ hr0
  have hat : at_.toNat < 256 := at_.isLt
  have e1 : IE.den (.bin .rem .i64 (.conv .i64 (.u8 at_)) (.len rs)) = (k : Int) := by
    show (IntKind.i64.wrap (at_.toNat : Int)).tmod (rs.length : Int) = _
    rw [w64 (by omega) (by omega), hk, Int.tmod_eq_emod_of_nonneg (by omega)]
    rfl
  have e2 : IE.den (.bin .add .i64 (.bin .rem .i64 (.conv .i64 (.u8 at_)) (.len rs)) (.lit 1)) = ((k + 1 : Nat) : Int) := by
    show binDen .add .i64 (IE.den (.bin .rem .i64 (.conv .i64 (.u8 at_)) (.len rs))) 1 = _
    rw [e1, add64 (by omega) (by omega)]
    omega
  have HE1 := Lib.hid e1
  have HE2 := Lib.hid e2
  clear e1 e2
  refine FootP.intro2 hT hm [(5, [2]), (11, [2]), (12, [1]), (13, [1])] (by kernel_rfl) ?_
  cbv
  have e1 : IE.den (.bin .rem .i64 (.conv .i64 (.u8 at_)) (.len rs)) = (k : Int) := HE1.out
  refine ReqP.mk ⟨Int.le_refl _, by show (0 : Int) ≤ IE.den (.bin .rem .i64 (.conv .i64 (.u8 at_)) (.len rs)); omega, by show IE.den (.bin .rem .i64 (.conv .i64 (.u8 at_)) (.len rs)) ≤ (rs.length : Int); omega, Int.le_refl _, fun h => by cases h⟩ (fun _ => ?_)
  refine LetP.mk (fun l1 hl1 => ?_)
  replace hl1 : l1 = rs.take k := by
    rw [hl1]
    show List.drop (0 : Int).toNat (List.take (IE.den (.bin .rem .i64 (.conv .i64 (.u8 at_)) (.len rs))).toNat rs) = _
    rw [e1]
    simp
  have hl1l : l1.length = k := by rw [hl1, List.length_take]; omega
  clear e1
  cbv
  refine ReqP.mk ⟨by show (l1.length : Int) = (((RE.map RuleD.c l1).den.length : Nat) : Int); simp [RE.den], rfl, map_cells (fun _ => rfl), (by intro e he; cases he), by show (0 : Int) + (l1.length : Int) ≤ _; omega, by show ((0 : Int) + (l1.length : Int)) * ((96 : Nat) : Int) ≤ _; omega⟩ (fun _ => ?_)
  have e2 : IE.den (.bin .add .i64 (.bin .rem .i64 (.conv .i64 (.u8 at_)) (.len rs)) (.lit 1)) = ((k + 1 : Nat) : Int) := HE2.out
  refine ReqP.mk ⟨by show (0 : Int) ≤ IE.den (.bin .add .i64 (.bin .rem .i64 (.conv .i64 (.u8 at_)) (.len rs)) (.lit 1)); omega, by show IE.den (.bin .add .i64 (.bin .rem .i64 (.conv .i64 (.u8 at_)) (.len rs)) (.lit 1)) ≤ (rs.length : Int); omega, Int.le_refl _, Int.le_refl _, fun h => h⟩ (fun _ => ?_)
  refine LetP.mk (fun l2 hl2 => ?_)
  replace hl2 : l2 = rs.drop (k + 1) := by
    rw [hl2]
    show List.drop (IE.den (.bin .add .i64 (.bin .rem .i64 (.conv .i64 (.u8 at_)) (.len rs)) (.lit 1))).toNat (List.take (rs.length : Int).toNat rs) = _
    rw [e2]
    simp
  have hl2l : l2.length + (k + 1) = rs.length := by rw [hl2, List.length_drop]; omega
  clear e2
  cbv
  refine ReqP.mk ⟨by show (l2.length : Int) = (((RE.map RuleD.c l2).den.length : Nat) : Int); simp [RE.den], by show (l1.length : Int) = _; simp [RE.den], map_cells (fun _ => rfl), (by
    intro e he
    simp only [RE.den, List.nil_append, List.mem_map] at he
    obtain ⟨x, _, rfl⟩ := he
    rfl), by show (l1.length : Int) + (l2.length : Int) ≤ _; omega, by show ((l1.length : Int) + (l2.length : Int)) * ((96 : Nat) : Int) ≤ _; omega⟩ (fun _ => ?_)
  obtain ⟨RX, hRX⟩ : ∃ R, R = l1 ++ l2 := ⟨_, rfl⟩
  have hRXc : l1.map RuleD.c ++ l2.map RuleD.c = RX.map RuleD.c := by rw [hRX, List.map_append]
  have hRXl : RX.length = l1.length + l2.length := by rw [hRX, List.length_append]
  obtain ⟨lx, hlx, hB3⟩ := hB2 RX (fun r hr => by
    rw [hRX, List.mem_append, hl1, hl2] at hr
    rcases hr with h | h
    · exact List.mem_of_mem_take h
    · exact List.mem_of_mem_drop h) (by omega)
  clear hRX hl1 hl2 HE1 HE2
  have X : ∀ {H H' : List Bk}, goneB H' 2 = true → Holds H 2 3 5 (RX.map RuleD.c) → SnDs H H' [.nils, .nils, .slm 6 (some (.var ns)) SchemaD.c ss, .osl 5 2 3 (.lit false) (.lit 0) (.sum (.len l1) (.len l2)), .nils, .nils] [.nils, .nils, .slm 6 (some (.var ns)) SchemaD.c ss, .slm 5 (some (.var false)) RuleD.c RX, .nils, .nils] := fun h1 h2 =>
    .cons (.eq (.refl _)) (.cons (.eq (.refl _)) (.cons (.eq (.refl _)) (.cons (.slm h1 h2 rfl (by show (l1.length : Int) + (l2.length : Int) = (RX.length : Int); omega) (fun e he => by cases he; rfl)) (.cons (.eq (.refl _)) (.cons (.eq (.refl _)) .nil)))))
  have X2 : Holds [.cells [.slm 1 (some (.var ni)) strC is, .slm 5 (some (.var nu)) UnitD.c us, .slm 6 (some (.var ns)) SchemaD.c ss, .slm 5 (some (.var nr)) RuleD.c rs, .slm 5 (some (.var nc)) ConvertD.c cs, .slm 3 (some (.var np)) PurposeD.c ps], .cells [.nils, .nils, .slm 6 (some (.var ns)) SchemaD.c ss, .osl 5 2 3 (.lit false) (.lit 0) (.sum (.len l1) (.len l2)), .nils, .nils], .row 50 5 3 (.apps (.apps (.lits []) (.map RuleD.c l1)) (.map RuleD.c l2))] 2 3 5 (RX.map RuleD.c) := .inl ⟨_, _, rfl, by simp only [RE.den, List.nil_append]; exact hRXc⟩
  refine CallP.pre [.agg [.nils, .nils, .slm 6 (some (.var ns)) SchemaD.c ss, .slm 5 (some (.var false)) RuleD.c RX, .nils, .nils]]
    [.cells [.slm 1 (some (.var ni)) strC is, .slm 5 (some (.var nu)) UnitD.c us, .slm 6 (some (.var ns)) SchemaD.c ss, .slm 5 (some (.var nr)) RuleD.c rs, .slm 5 (some (.var nc)) ConvertD.c cs, .slm 3 (some (.var np)) PurposeD.c ps], .cells [.nils, .nils, .slm 6 (some (.var ns)) SchemaD.c ss, .slm 5 (some (.var false)) RuleD.c RX, .nils, .nils], .dead]
    (.cons (.aggs (X rfl X2)) .nil) ⟨.refl _, .cells (X rfl X2), .dead _, trivial⟩ rfl rfl (CallP.pure _ hB3 rfl ?_)
  cbv
  refine .mk (.cons (.eq (.bool ?_)) .nil) rfl
  show ((lx.length : Int) == (ss.length : Int)) = true
  rw [hlx]
  simp
end Go.Proofs.Ytdhfakajlnidiaa
namespace Go.Proofs.Ytdhfakajlnidiaa
open Go.RowKit

/-! RulesEnd. -/
theorem order_needs {S : SourceD} (ho : ordOK S = true) {k : Nat} {x : Int} (hk : (ordL S)[k]? = some x) : (0 ≤ x ∧ x < (S.schemas.length : Int)) ∧ x ∉ (ordL S).take k ∧ ∀ b, needsB S.rules x b = true → b ∈ (ordL S).take k := by
  unfold ordL at hk ⊢
  rw [if_pos ho] at hk ⊢
  unfold ordOK at ho
  rw [Bool.and_eq_true] at ho
  obtain ⟨y, q1, q2, q3, q4, _⟩ := ord_at (m := S.schemas.length) (nd := needsB S.rules) (List.getElem?_eq_some_iff.1 hk).1
  have q1' : (ordS S)[k]? = some (y : Int) := q1
  rw [hk] at q1'
  cases q1'
  refine ⟨by omega, q3, fun b hb => ?_⟩
  have hr := (numbered_in ho.1 hb).2
  have := q4 b.toNat (by omega) (by rw [show ((b.toNat : Nat) : Int) = b by omega]; exact hb)
  rw [show ((b.toNat : Nat) : Int) = b by omega] at this
  exact this
theorem cycle_needs {S : SourceD} (h : hasCyc S = true) {k : Nat} {x : Int} (hk : (cycL S)[k]? = some x) : x ∉ (cycL S).take k ∧ ∀ y, (cycL S)[(k + 1) % (cycL S).length]? = some y → needsB S.rules x y = true := by
  obtain ⟨h1, h2, h3, h4⟩ := cyc_links h
  have hlt := (List.getElem?_eq_some_iff.1 hk).1
  refine ⟨fun hm => ?_, fun y hy => ?_⟩
  · obtain ⟨q1, q2⟩ := List.getElem?_eq_some_iff.1 hk
    rw [List.mem_take_iff_getElem] at hm
    obtain ⟨i, hi, e⟩ := hm
    have := (List.getElem_inj h1).1 (e.trans q2.symm)
    omega
  · by_cases hl : k + 1 < (cycL S).length
    · rw [Nat.mod_eq_of_lt hl] at hy
      exact h2 k x y hk hy
    · have e : k + 1 = (cycL S).length := by omega
      rw [e, Nat.mod_self] at hy
      have hx : lastI (cycL S) = x := by
        show (cycL S).getD ((cycL S).length - 1) 0 = x
        rw [show (cycL S).length - 1 = k by omega, List.getD_eq_getElem?_getD, hk]
        rfl
      have hy' : (cycL S).getD 0 0 = y := by rw [List.getD_eq_getElem?_getD, hy]; rfl
      rw [hx, hy'] at h4
      exact h4
theorem cyc_len {S : SourceD} (h : S.schemas.length ≤ 7) : (cycL S).length ≤ 100 := by
  have hw : ∀ m (y : Int) DA, (walkP (needKs S) DA m y).length ≤ m := fun m => by
    induction m with
    | zero => exact fun y DA => Nat.le_refl _
    | succ m ih =>
      intro y DA
      simp only [walkP]
      split
      · have := ih ‹_› DA
        simp only [List.length_cons]
        omega
      · exact Nat.zero_le _
  unfold cycL
  split
  · next hc =>
    have := hw ((bestS S).1.toNat - 1) (bestS S).2 (distS S (bestS S).2)
    unfold hasCyc at hc
    simp only [Bool.and_eq_true, decide_eq_true_eq] at hc
    simp only [List.length_cons]
    omega
  · simp
theorem mp_start {H H' : List Bk} {S : Int → Bool} (hS : ∀ x, S x = false) : BkEq H H' (.mp .i64 (.lits [])) (.mp .i64 (.setb S (.nat 0))) := by
  refine .mp rfl fun x => ?_
  simp only [ME.den, findE, hS, Bool.false_eq_true, if_false]
  exact .none
theorem mp_start0 {H H' : List Bk} {S : Int → Bool} {n : Nat} (hS : ∀ x, S x = false) (hn : n = 0) : BkEq H H' (.mp .i64 (.lits [])) (.mp .i64 (.setb S (.nat n))) := by
  subst hn
  exact mp_start hS
/-- a row of zeros as a list of numbers -/
theorem mp_same {H H' : List Bk} {S S' : Int → Bool} {n n' : IE} (hn : n.den = n'.den) (hS : ∀ x, S x = S' x) : BkEq H H' (.mp .i64 (.setb S n)) (.mp .i64 (.setb S' n')) := by
  refine .mp hn fun x => ?_
  simp only [ME.den, hS]
  split
  · exact .some (.refl _)
  · exact .none
set_option maxHeartbeats 8000000 in
set_option maxRecDepth 100000 in
set_option maxHeartbeats 4000000 in
theorem end_pure (S : SourceD) (hR : S.rules.length ≤ 9223372036854775807) : Pure Try.prog 4 [.agg S.c] (boolD true) := by
  have hs := sane_pure
  have hFew := Few_pure S hR
  obtain ⟨fw, hfw⟩ : ∃ b, b = fewB S := ⟨_, rfl⟩
  rw [← hfw] at hFew
  have hO := fun h : fw = true => Order_pure S (few_small (hfw.symm.trans h))
  have hC := fun h : fw = true => Cycle_pure S (few_small (hfw.symm.trans h))
  have hN := fun (h : fw = true) (a b : Int) => law_needs_pure S a b (by have := (few_small (hfw.symm.trans h)).r; omega) (fun r hr => by have := (few_small (hfw.symm.trans h)).f r hr; omega)
  have hlen : fw = true → (ordL S).length ≤ 7 := fun h => by
    have h7 := (few_small (hfw.symm.trans h)).n
    have : (ordS S).length ≤ S.schemas.length := (ord_inv (m := S.schemas.length) (nd := needsB S.rules)).len
    unfold ordL
    split
    · omega
    · simp
  have hclen : fw = true → (cycL S).length ≤ 100 := fun h => cyc_len (few_small (hfw.symm.trans h)).n
  have hn7 : fw = true → S.schemas.length ≤ 7 := fun h => (few_small (hfw.symm.trans h)).n
  have he0 : numE S ≠ 0 → numE S = 140 ∧ ordL S = [] ∧ cycL S = [] := fun h => by
    unfold numE at h ⊢
    cases hb : numberedB S.schemas.length S.rules with
    | true => rw [hb] at h; exact absurd rfl h
    | false =>
      refine ⟨rfl, ?_, cyc_none (by unfold hasCyc; rw [hb]; rfl)⟩
      unfold ordL ordOK
      rw [hb]
      rfl
  have hoc : numE S = 0 → ordOK S = !hasCyc S := fun h => ok_cyc (by
    unfold numE at h
    cases hb : numberedB S.schemas.length S.rules with
    | true => rfl
    | false => rw [hb] at h; cases h)
  have hol : ordOK S = true → (ordL S).length = S.schemas.length := fun ho => by
    unfold ordL
    rw [if_pos ho]
    unfold ordOK at ho
    rw [Bool.and_eq_true, decide_eq_true_eq] at ho
    exact ho.2
  have hol0 : ordOK S = false → ordL S = [] := fun h => by unfold ordL; rw [h]; rfl
  have hcl0 : hasCyc S = false → cycL S = [] := cyc_none
  have hcl1 : hasCyc S = true → cycL S ≠ [] := fun h => (cyc_links h).2.2.1
  have hon := fun (k : Nat) (x : Int) (hk : (ordL S)[k]? = some x) => order_needs (S := S) (show ordOK S = true from by
    cases ho : ordOK S with
    | true => rfl
    | false => rw [hol0 ho] at hk; cases hk) hk
  have hcn := fun (k : Nat) (x : Int) (hk : (cycL S)[k]? = some x) => cycle_needs (S := S) (show hasCyc S = true from by
    cases ho : hasCyc S with
    | true => rfl
    | false => rw [hcl0 ho] at hk; cases hk) hk
  obtain ⟨l, hl⟩ : ∃ l, l = ordL S := ⟨_, rfl⟩
  obtain ⟨ok, hok⟩ : ∃ l, l = ordOK S := ⟨_, rfl⟩
  obtain ⟨e, he⟩ : ∃ l, l = numE S := ⟨_, rfl⟩
  obtain ⟨c, hcl⟩ : ∃ l, l = cycL S := ⟨_, rfl⟩
  obtain ⟨hc, hhc⟩ : ∃ l, l = hasCyc S := ⟨_, rfl⟩
  obtain ⟨N, hN'⟩ : ∃ l, l = needsB S.rules := ⟨_, rfl⟩
  have hnum : ∀ S : SourceD, numE S = if numberedB S.schemas.length S.rules then 0 else 140 := fun _ => rfl
  rw [← hnum] at hC
  rw [← hl, ← hok, ← he] at hO
  rw [← hcl, ← hhc, ← he] at hC
  rw [← hl] at hlen
  rw [← hcl] at hclen
  rw [← he, ← hl, ← hcl] at he0
  rw [← he, ← hok, ← hhc] at hoc
  rw [← hok, ← hl] at hol
  rw [← hok, ← hl] at hol0
  rw [← hhc, ← hcl] at hcl0 hcl1
  rw [← hl, ← hN'] at hon
  rw [← hcl, ← hN'] at hcn
  rw [← hN'] at hN
  obtain ⟨mB, hmB⟩ : ∃ f : Nat → Int → Bool, f = fun k z => decide (z ∈ l.take k) := ⟨_, rfl⟩
  have mB0 : ∀ z, mB 0 z = false := fun z => by rw [hmB]; simp
  have take_next : ∀ {l : List Int} {k : Nat} {x : Int}, l[k]? = some x → ∀ z, (z == x || decide (z ∈ l.take k)) = decide (z ∈ l.take (k + 1)) := fun {l k x} h z => by
    rw [Bool.eq_iff_iff, Bool.or_eq_true, decide_eq_true_eq, decide_eq_true_eq, List.take_add_one, h, List.mem_append, Option.toList_some, List.mem_singleton, beq_iff_eq, or_comm]
  have mBs : ∀ k x, l[k]? = some x → ∀ z, (z == x || mB k z) = mB (k + 1) z := fun k x h z => by rw [hmB]; exact take_next h z
  have hon2 : ∀ k x, l[k]? = some x → (0 ≤ x ∧ x < (S.schemas.length : Int)) ∧ mB k x = false ∧ ∀ b, N x b = true → mB k b = true := fun k x h => by
    obtain ⟨q1, q2, q3⟩ := hon k x h
    rw [hmB]
    exact ⟨q1, decide_eq_false q2, fun b hb => decide_eq_true (q3 b hb)⟩
  obtain ⟨cB, hcB⟩ : ∃ f : Nat → Int → Bool, f = fun k z => decide (z ∈ c.take k) := ⟨_, rfl⟩
  have cB0 : ∀ z, cB 0 z = false := fun z => by rw [hcB]; simp
  have cBs : ∀ k x, c[k]? = some x → ∀ z, (z == x || cB k z) = cB (k + 1) z := fun k x h z => by rw [hcB]; exact take_next h z
  have hcn2 : ∀ k x, c[k]? = some x → cB k x = false ∧ ∀ y, c[(k + 1) % c.length]? = some y → N x y = true := fun k x h => by
    obtain ⟨q1, q2⟩ := hcn k x h
    rw [hcB]
    exact ⟨decide_eq_false q1, q2⟩
  clear take_next hmB hcB hon hcn
  obtain ⟨lb, hlb⟩ : ∃ b, b = l.isEmpty := ⟨_, rfl⟩
  rw [← hlb] at hO
  obtain ⟨cb, hcb⟩ : ∃ b, b = c.isEmpty := ⟨_, rfl⟩
  rw [← hcb] at hC
  clear hfw hl hok he hcl hhc hN' hlb hcb hnum
  obtain ⟨ni, is, nu, us, ns, ss, nr, rs, nc, cs, np, ps⟩ := S
  simp only at hn7 hol hon2
  refine Pure.introC (want := [boolD true]) T_ok Try.func4 rfl (by kernel_rfl) (rs := [.tmp 2]) rfl (by kernel_rfl) ?_
  generalize hP : Try.prog = P at *
  have hT : T.ok P := hP ▸ T_ok
  have hm : P.follows .mixedOrders = true := hP ▸ follows
  unfold Try.f4
  dsimp only
  refine CodeP.seq (vc_sound hT hm _ ?_)
  cbv
  refine CodeP.seq (vc_sound hT hm _ ?_)
  cbv
  refine CallP.pure _ hs rfl ?_
  cbv
  refine SplitP.mk (fun h => ?_) (fun h => ?_)
  · cases (show (!true) = true from h)
  clear h
  refine CodeP.seq (vc_sound hT hm _ ?_)
  cbv
  refine CallP.pure _ hFew rfl ?_
  cbv
  refine SplitP.mk (fun h => ?_) (fun h => ?_) <;> simp only [BE.not_t, BE.not_f, BE.var_d] at h
  · exact .mk (.cons (.eq (.bool rfl)) .nil) rfl
  replace hO := hO h
  replace hC := hC h
  replace hN := hN h
  replace hlen := hlen h
  replace hclen := hclen h
  replace hn7 := hn7 h
  clear h
  refine CodeP.seq (vc_sound hT hm _ ?_)
  cbv
  refine CallP.pure _ hO rfl ?_
  cbv
  refine CodeP.seq (vc_sound hT hm _ ?_)
  cbv
  refine CallP.pure _ hC rfl ?_
  cbv
  refine CodeP.keep [1, 3, 4, 5, 6, 7, 8] ?_
  refine CodeP.seq (vc_sound hT hm _ ?_)
  cbv
  refine SplitP.mk (fun h => ?_) (fun h => ?_)
  · have h3 : (e != e) = true := h
    simp at h3
  clear h
  refine SplitP.mk (fun h => ?_) (fun h => ?_)
  · have h3 : (e != 0) = true := h
    obtain ⟨q1, q2, q3⟩ := he0 (by simpa using h3)
    subst q2 q3
    refine SplitP.mk (fun h => ?_) (fun h => ?_)
    · refine SplitP.mk (fun h => ?_) (fun h => ?_)
      · exact .mk (.cons (.eq (.bool rfl)) .nil) rfl
      · have h3 : (e == 140) = false := h
        rw [q1] at h3
        cases h3
    · have h3 : (e == e) = false := h
      simp at h3
  have he : e = 0 := by
    have h3 : (e != 0) = false := h
    simpa using h3
  replace hoc := hoc he
  clear h he0
  obtain ⟨SD, hSD⟩ : ∃ b : List D, b = SourceD.c ⟨ni, is, nu, us, ns, ss, nr, rs, nc, cs, np, ps⟩ := ⟨_, rfl⟩
  refine CodeP.seqTo [(1, .ptr 0 1 0), (3, .slm 1 (some (.var lb)) intC l), (6, .slm 1 (some (.var cb)) intC c)] [.cells (SourceD.c ⟨ni, is, nu, us, ns, ss, nr, rs, nc, cs, np, ps⟩)] (Nat.zero_le _) (vc_sound hT hm _ ?_) ?_
  · cbv
    refine SplitP.mk (fun h => ?_) (fun h => ?_)
    · have h3 : (ok == hc) = true := h
      rw [hoc] at h3
      cases hc <;> cases h3
    clear h
    cases hq : hc with
    | false =>
      rw [hq] at hoc
      have hok : ok = true := hoc
      have hc0 := hcl0 hq
      have hl1 := hol hok
      clear hoc hcl0 hcl1 hol0 hol hq hSD
      subst hok hc0
      refine SplitP.mk (fun h => ?_) (fun h => by cases (show true = false from h))
      clear h
      refine SplitP.mk (fun h => ?_) (fun h => ?_)
      · have h3 : ((l.length : Int) != (ss.length : Int)) = true := h
        rw [hl1] at h3
        simp at h3
      refine SplitP.mk (fun h => by cases (show false = true from h)) (fun h => ?_)
      clear h
      refine SplitP.mk (fun h => by cases (show false = true from h)) (fun h => ?_)
      exact ⟨⟨.refl _, .refl _, .refl _, trivial⟩, ⟨.refl _, trivial⟩, rfl⟩
    | true =>
      rw [hq] at hoc
      have hok : ok = false := hoc
      have hc1 := hcl1 hq
      have hl0 := hol0 hok
      clear hoc hcl0 hcl1 hol0 hol hq hSD
      subst hok hl0
      refine SplitP.mk (fun h => by cases (show false = true from h)) (fun h => ?_)
      clear h
      refine SplitP.mk (fun h => ?_) (fun h => by cases (show true = false from h))
      clear h
      refine SplitP.mk (fun h => by cases (show false = true from h)) (fun h => ?_)
      clear h
      refine SplitP.mk (fun h => ?_) (fun h => ?_)
      · have h3 : ((c.length : Int) == 0) = true := h
        simp at h3
        exact absurd h3 hc1
      exact ⟨⟨.refl _, .refl _, .refl _, trivial⟩, ⟨.refl _, trivial⟩, rfl⟩
  clear hoc hcl0 hcl1 hol0 hol
  refine CodeP.seq (vc_sound hT hm _ ?_)
  cbv
  clear hSD SD he hO hC
  obtain ⟨n, hn⟩ : ∃ n : Nat, n = l.length := ⟨_, rfl⟩
  obtain ⟨m, hmm⟩ : ∃ n : Nat, n = ss.length := ⟨_, rfl⟩
  obtain ⟨n2, hn2⟩ : ∃ n : Nat, n = c.length := ⟨_, rfl⟩
  refine CodeP.seq (vc_sound hT hm _ ?_)
  cbv
  refine CodeP.loopm hT hm (X := Nat) (fun k => [(91, .int .i64 (.nat k))]) (fun k => [.cells (SourceD.c ⟨ni, is, nu, us, ns, ss, nr, rs, nc, cs, np, ps⟩), .mp .i64 (.setb (mB k) (.nat k))]) (fun k => k ≤ l.length) (fun k => n - k) 0 (Nat.zero_le _) (fun _ => Nat.zero_le _) ⟨?_, ⟨.refl _, mp_start0 mB0 rfl, trivial⟩, rfl⟩ ?_
  · (cbv; (repeat' (first | exact SnD.refl _ | exact trivial | exact SnD.nat0 | refine And.intro ?_ ?_)))
  intro k hk
  replace hk : k ≤ l.length := hk
  cbv
  refine SplitP.mk (fun hs => ?_) (fun hs => ?_)
  · have hkn : k < l.length := by
      have h5 := of_decide_eq_true (show decide ((k : Int) < (l.length : Int)) = true from hs)
      omega
    refine ElemP.mk (by show (0 : Int) ≤ (k : Int) ∧ (k : Int) < (l.length : Int); omega) (fun x hx => ?_)
    replace hx : l[k]? = some x := hx
    obtain ⟨o1, o2, o3⟩ := hon2 k x hx
    have o4 := mBs k x hx
    cbv
    replace o1 : 0 ≤ x ∧ x < (ss.length : Int) := o1
    refine SplitP.mk (fun h => ?_) (fun h => ?_)
    · have := of_decide_eq_true (show decide (x < 0) = true from h)
      omega
    clear h
    refine SplitP.mk (fun h => ?_) (fun h => ?_)
    · have := of_decide_eq_true (show decide (x ≥ (ss.length : Int)) = true from h)
      omega
    clear h
    refine LetBP.mk (fun b hb => ?_)
    obtain rfl : b = false := by rw [hb]; exact o2
    clear hb
    have hNx := fun j : Nat => Pure.args (args' := [.agg (SourceD.c ⟨ni, is, nu, us, ns, ss, nr, rs, nc, cs, np, ps⟩), i64 x, i64 (j : Int)]) (.cons (.refl _) (.cons (.refl _) (.cons (.int (e := .nat j) rfl) .nil))) (hN x j)
    cbv
    refine SplitP.mk (fun h => by cases (show false = true from h)) (fun h => ?_)
    clear h
    refine CodeP.loopc hT hm (X := Nat) (fun j => [(112, .int .i64 (.nat j))]) (fun j => j ≤ ss.length) (fun j => m - j) 0 (Nat.zero_le _) (Nat.zero_le _) ?_ rfl ?_
    · (cbv; (repeat' (first | exact SnD.refl _ | exact trivial | exact SnD.nat0 | refine And.intro ?_ ?_)))
    intro j hj
    replace hj : j ≤ ss.length := hj
    cbv
    refine SplitP.mk (fun hs => ?_) (fun hs => ?_)
    · have hjn : j < ss.length := by
        have h5 := of_decide_eq_true (show decide ((j : Int) < (ss.length : Int)) = true from hs)
        omega
      clear hs
      refine CallP.pure _ (hNx j) rfl ?_
      cbv
      refine SplitP.mk (fun h => ?_) (fun h => ?_) <;> simp only [BE.var_d] at h
      · refine LetBP.mk (fun b hb => ?_)
        obtain rfl : b = true := by rw [hb]; exact o3 _ h
        clear hb
        cbv
        refine SplitP.mk (fun h => by cases (show false = true from h)) (fun h => ?_)
        refine BackP.intro (j + 1) (by show j + 1 ≤ ss.length; omega) (by show m - (j + 1) < m - j; omega) ⟨?_, HEnt.refl _, rfl⟩
        (cbv; (repeat' (first | exact SnD.refl _ | exact trivial | exact SnD.nat0 | refine And.intro ?_ ?_)))
        all_goals exact .inc (by omega)
      · refine BackP.intro (j + 1) (by show j + 1 ≤ ss.length; omega) (by show m - (j + 1) < m - j; omega) ⟨?_, HEnt.refl _, rfl⟩
        (cbv; (repeat' (first | exact SnD.refl _ | exact trivial | exact SnD.nat0 | refine And.intro ?_ ?_)))
        all_goals exact .inc (by omega)
    · clear hs
      refine SplitP.mk (fun h => ?_) (fun h => ?_)
      · have h3 : mB k x = true := h
        rw [o2] at h3
        cases h3
      clear h
      refine ReqP.mk ⟨by show (k : Int) < maxLen; simp only [maxLen]; omega⟩ (fun _ => ?_)
      cbv
      refine BackP.intro (k + 1) (by show k + 1 ≤ l.length; omega) (by show n - (k + 1) < n - k; omega) ⟨?_, ⟨.refl _, mp_same rfl o4, trivial⟩, rfl⟩
      (cbv; (repeat' (first | exact SnD.refl _ | exact trivial | exact SnD.nat0 | refine And.intro ?_ ?_)))
      all_goals exact .inc (by omega)
  · clear hs
    refine CodeP.keep [1, 6] ?_
    refine CodeP.seq (vc_sound hT hm _ ?_)
    cbv
    refine CodeP.seq (vc_sound hT hm _ ?_)
    cbv
    refine CodeP.loopm hT hm (X := Nat) (fun j => [(132, .int .i64 (.nat j))]) (fun j => [.cells (SourceD.c ⟨ni, is, nu, us, ns, ss, nr, rs, nc, cs, np, ps⟩), .mp .i64 (.setb (mB k) (.nat k)), .mp .i64 (.setb (cB j) (.nat j))]) (fun j => j ≤ c.length) (fun j => n2 - j) 0 (Nat.zero_le _) (fun _ => Nat.zero_le _) ⟨?_, ⟨.refl _, .refl _, mp_start0 cB0 rfl, trivial⟩, rfl⟩ ?_
    · (cbv; (repeat' (first | exact SnD.refl _ | exact trivial | exact SnD.nat0 | refine And.intro ?_ ?_)))
    intro j hj
    replace hj : j ≤ c.length := hj
    cbv
    refine SplitP.mk (fun hs => ?_) (fun hs => ?_)
    · have hjn : j < c.length := by
        have h5 := of_decide_eq_true (show decide ((j : Int) < (c.length : Int)) = true from hs)
        omega
      refine ElemP.mk (by show (0 : Int) ≤ (j : Int) ∧ (j : Int) < (c.length : Int); omega) (fun x hx => ?_)
      replace hx : c[j]? = some x := hx
      obtain ⟨o1, o2⟩ := hcn2 j x hx
      have o4 := cBs j x hx
      have e1 : IE.den (.bin .rem .i64 (.bin .add .i64 (.nat j) (.lit 1)) (.len c)) = (((j + 1) % c.length : Nat) : Int) := by
        show (binDen .add .i64 (j : Int) 1).tmod (c.length : Int) = _
        rw [add64 (by omega) (by omega), Int.tmod_eq_emod_of_nonneg (by omega), show (j : Int) + 1 = ((j + 1 : Nat) : Int) from by omega]
        rfl
      have hE := Lib.hid e1
      have hml : (j + 1) % c.length < c.length := Nat.mod_lt _ (by omega)
      have hML := Lib.hid hml
      clear e1 hml
      cbv
      refine LetBP.mk (fun b hb => ?_)
      obtain rfl : b = false := by rw [hb]; exact o1
      clear hb
      cbv
      refine SplitP.mk (fun h => by cases (show false = true from h)) (fun h => ?_)
      clear h
      refine ReqP.mk (by show ¬ (c.length : Int) = 0; omega) (fun _ => ?_)
      have e1 : IE.den (.bin .rem .i64 (.bin .add .i64 (.nat j) (.lit 1)) (.len c)) = (((j + 1) % c.length : Nat) : Int) := hE.out
      have hml := hML.out
      refine ElemP.mk (by show 0 ≤ IE.den (.bin .rem .i64 (.bin .add .i64 (.nat j) (.lit 1)) (.len c)) ∧ IE.den (.bin .rem .i64 (.bin .add .i64 (.nat j) (.lit 1)) (.len c)) < (c.length : Int); rw [e1]; omega) (fun y hy => ?_)
      replace hy : c[(IE.den (.bin .rem .i64 (.bin .add .i64 (.nat j) (.lit 1)) (.len c))).toNat]? = some y := hy
      rw [e1, Int.toNat_natCast] at hy
      have o5 := o2 y hy
      clear e1 hml hE hML hy
      cbv
      refine CallP.pure _ (hN x y) rfl ?_
      cbv
      refine SplitP.mk (fun h => ?_) (fun h => ?_)
      · have h3 : (!(N x y)) = true := h
        rw [o5] at h3
        cases h3
      clear h
      refine SplitP.mk (fun h => ?_) (fun h => ?_)
      · have h3 : cB j x = true := h
        rw [o1] at h3
        cases h3
      clear h
      refine ReqP.mk ⟨by show (j : Int) < maxLen; simp only [maxLen]; omega⟩ (fun _ => ?_)
      cbv
      refine BackP.intro (j + 1) (by show j + 1 ≤ c.length; omega) (by show n2 - (j + 1) < n2 - j; omega) ⟨?_, ⟨.refl _, .refl _, mp_same rfl o4, trivial⟩, rfl⟩
      (cbv; (repeat' (first | exact SnD.refl _ | exact trivial | exact SnD.nat0 | refine And.intro ?_ ?_)))
      all_goals exact .inc (by omega)
    · refine vc_sound hT hm _ ?_
      cbv
      exact .mk (.cons (.eq (.bool rfl)) .nil) rfl
end Go.Proofs.Ytdhfakajlnidiaa
namespace Go.Proofs.Ytdhfakajlnidiaa
open Go.RowKit

/-! The check of the types: units, types of fields, terms. -/
theorem dec_t {p : Prop} {i : Decidable p} : (@decide p i = true) = p := by cases i <;> simp [*]
theorem dec_f {p : Prop} {i : Decidable p} : (@decide p i = false) = ¬ p := by cases i <;> simp [*]
def ty0 : TypeD := ⟨0, 0, 0, ⟨#[]⟩, 0, true, []⟩
def unitB (us : List UnitD) (u : UnitD) : Bool := decide (1 ≤ u.scale) && (decide (u.scale ≤ 1099511627776) && (decide (0 ≤ u.base) && (decide (u.base < (us.length : Int)) && match us[u.base.toNat]? with | some v => decide (v.scale = 1) | none => false)))
def isNumB (t : TermD) : Bool := decide (t.vr = -1) && (decide (0 ≤ t.n) && decide (t.n ≤ 1048576))
def typeOf? (S : SourceD) (i j : Int) : Option TypeD := if 0 ≤ i then (match S.schemas[i.toNat]? with | some x => if 0 ≤ j then (match x.fields[j.toNat]? with | some f => some f.type | none => none) else none | none => none) else none
def termTy? (S : SourceD) (fs : List FromD) (t : TermD) (n : Int) : Option TypeD := if 0 ≤ t.vr ∧ t.vr < n then (match fs[t.vr.toNat]? with | some f => typeOf? S f.schema t.field | none => none) else none
abbrev tyR (o : Option TypeD) : D := .tup [.agg (o.getD ty0).c, boolD o.isSome]
theorem ty0_eq : DEq (.agg [.int .i64 (.lit 0), .int .i64 (.lit 0), .int .i64 (.lit 0), .str ⟨#[]⟩, .int .i64 (.lit 0), .nils]) (.agg ty0.c) := .aggs rfl fun i d d' h1 h2 => by
  match i with
  | 0 => cases h1; cases h2; exact .int rfl
  | 1 => cases h1; cases h2; exact .int rfl
  | 2 => cases h1; cases h2; exact .int rfl
  | 3 => cases h1; cases h2; exact .refl _
  | 4 => cases h1; cases h2; exact .int rfl
  | 5 => cases h1; cases h2; exact .nilv rfl rfl
  | i + 6 => simp at h1
set_option maxRecDepth 100000 in
set_option maxHeartbeats 4000000 in
theorem unitOK_pure (S : SourceD) (u : UnitD) : Pure Try.prog 39 [.agg S.c, .agg u.c] (boolD (unitB S.units u)) := by
  obtain ⟨r, hr⟩ : ∃ r, r = unitB S.units u := ⟨_, rfl⟩
  rw [← hr]
  unfold unitB at hr
  obtain ⟨ni, is, nu, us, ns, ss, nr, rs, nc, cs, np, ps⟩ := S
  obtain ⟨u1, u2, u3, u4, u5⟩ := u
  simp only at hr
  refine Pure.intro (want := [boolD r]) T_ok follows Try.func39 rfl (by kernel_rfl) (rs := [.tmp 4]) rfl (by kernel_rfl) ?_
  generalize hP : Try.prog = P at *
  have hT : T.ok P := hP ▸ T_ok
  have hm : P.follows .mixedOrders = true := hP ▸ follows
  unfold Try.f39
  dsimp only
  cbv
  refine SplitP.mk (fun h => ?_) (fun h => ?_)
  · have h1 : 1 ≤ u5 := of_decide_eq_true (show decide (u5 ≥ 1) = true from h)
    refine SplitP.mk (fun h => ?_) (fun h => ?_)
    · have h2 : u5 ≤ 1099511627776 := of_decide_eq_true (show decide (u5 ≤ 1099511627776) = true from h)
      refine SplitP.mk (fun h => ?_) (fun h => ?_)
      · have h3 : 0 ≤ u4 := of_decide_eq_true (show decide (u4 ≥ 0) = true from h)
        refine SplitP.mk (fun h => ?_) (fun h => ?_)
        · have h4 : u4 < (us.length : Int) := of_decide_eq_true (show decide (u4 < (us.length : Int)) = true from h)
          refine ElemP.mk ⟨h3, h4⟩ (fun v hv => ?_)
          replace hv : us[u4.toNat]? = some v := hv
          rw [hv, decide_eq_true h1, decide_eq_true h2, decide_eq_true h3, decide_eq_true h4] at hr
          obtain ⟨v1, v2, v3, v4, v5⟩ := v
          cbv
          refine .mk (.cons (.eq (.bool ?_)) .nil) rfl
          show (v5 == 1) = r
          rw [hr]
          rfl
        · have h4 : ¬ u4 < (us.length : Int) := of_decide_eq_false (show decide (u4 < (us.length : Int)) = false from h)
          refine .mk (.cons (.eq (.bool ?_)) .nil) rfl
          show false = r
          rw [hr, decide_eq_false h4]
          simp
      · have h3 : ¬ 0 ≤ u4 := by have := of_decide_eq_false (show decide (u4 ≥ 0) = false from h); exact this
        refine .mk (.cons (.eq (.bool ?_)) .nil) rfl
        show false = r
        rw [hr, decide_eq_false h3]
        simp
    · have h2 : ¬ u5 ≤ 1099511627776 := of_decide_eq_false (show decide (u5 ≤ 1099511627776) = false from h)
      refine .mk (.cons (.eq (.bool ?_)) .nil) rfl
      show false = r
      rw [hr, decide_eq_false h2]
      simp
  · have h1 : ¬ 1 ≤ u5 := by have := of_decide_eq_false (show decide (u5 ≥ 1) = false from h); exact this
    refine .mk (.cons (.eq (.bool ?_)) .nil) rfl
    show false = r
    rw [hr, decide_eq_false h1]
    rfl
set_option maxRecDepth 100000 in
set_option maxHeartbeats 4000000 in
theorem isNumber_pure (t : TermD) : Pure Try.prog 75 [.agg t.c] (boolD (isNumB t)) := by
  obtain ⟨r, hr⟩ : ∃ r, r = isNumB t := ⟨_, rfl⟩
  rw [← hr]
  unfold isNumB at hr
  obtain ⟨u1, u2, u3, u4, u5⟩ := t
  simp only at hr
  refine Pure.intro (want := [boolD r]) T_ok follows Try.func75 rfl (by kernel_rfl) (rs := [.tmp 2]) rfl (by kernel_rfl) ?_
  generalize hP : Try.prog = P at *
  have hT : T.ok P := hP ▸ T_ok
  have hm : P.follows .mixedOrders = true := hP ▸ follows
  unfold Try.f75
  dsimp only
  cbv
  refine SplitP.mk (fun h1 => ?_) (fun h1 => ?_)
  · refine SplitP.mk (fun h2 => ?_) (fun h2 => ?_) <;> (try simp only [BE.den, IE.den, cmpDen, Bool.not_eq_true, Bool.not_eq_false, Bool.not_eq_eq_eq_not, Bool.not_true, Bool.not_false, dec_t, dec_f, beq_iff_eq, beq_eq_false_iff_ne, bne_iff_ne, ne_eq, bne_eq_false_iff_eq, ge_iff_le, gt_iff_lt, Int.not_lt, Int.not_le] at *) <;> (refine .mk (.cons (.eq (.bool ?_)) .nil) rfl; simp only [BE.den, IE.den, cmpDen]; rw [hr, Bool.eq_iff_iff]; simp only [Bool.and_eq_true, Bool.or_eq_true, dec_t, dec_f, beq_iff_eq, bne_iff_ne, ge_iff_le, gt_iff_lt, Bool.false_eq_true, false_iff, true_iff]; first | omega | grind)
  · (try simp only [BE.den, IE.den, cmpDen, Bool.not_eq_true, Bool.not_eq_false, Bool.not_eq_eq_eq_not, Bool.not_true, Bool.not_false, dec_t, dec_f, beq_iff_eq, beq_eq_false_iff_ne, bne_iff_ne, ne_eq, bne_eq_false_iff_eq, ge_iff_le, gt_iff_lt, Int.not_lt, Int.not_le] at *)
    (refine .mk (.cons (.eq (.bool ?_)) .nil) rfl; simp only [BE.den, IE.den, cmpDen]; rw [hr, Bool.eq_iff_iff]; simp only [Bool.and_eq_true, Bool.or_eq_true, dec_t, dec_f, beq_iff_eq, bne_iff_ne, ge_iff_le, gt_iff_lt, Bool.false_eq_true, false_iff, true_iff]; first | omega | grind)
set_option maxRecDepth 100000 in
set_option maxHeartbeats 4000000 in
theorem typeOf_pure (S : SourceD) (i j : Int) : Pure Try.prog 58 [.agg S.c, i64 i, i64 j] (tyR (typeOf? S i j)) := by
  obtain ⟨o, ho⟩ : ∃ o, o = typeOf? S i j := ⟨_, rfl⟩
  rw [← ho]
  unfold typeOf? at ho
  obtain ⟨ni, is, nu, us, ns, ss, nr, rs, nc, cs, np, ps⟩ := S
  simp only at ho
  obtain ⟨t, ht⟩ : ∃ t, t = o.getD ty0 := ⟨_, rfl⟩
  obtain ⟨b, hb⟩ : ∃ b, b = o.isSome := ⟨_, rfl⟩
  show Pure Try.prog 58 _ (.tup [.agg (o.getD ty0).c, boolD o.isSome])
  rw [← ht, ← hb]
  obtain ⟨t1, t2, t3, t4, t5, t6, t7⟩ := t
  refine Pure.intro (want := [.agg [.int .i64 (.var t1), .int .i64 (.var t2), .int .i64 (.var t3), .str t4, .int .i64 (.var t5), .slm 1 (some (.var t6)) strC t7], boolD b]) T_ok follows Try.func58 rfl (by kernel_rfl) (rs := [.cell 6 79, .tmp 7]) rfl (by kernel_rfl) ?_
  generalize hP : Try.prog = P at *
  have hT : T.ok P := hP ▸ T_ok
  have hm : P.follows .mixedOrders = true := hP ▸ follows
  unfold Try.f58
  dsimp only
  cbv
  have hz : o = none → ∀ {H H' : List Bk}, SnDs H H' [.agg [.int .i64 (.lit 0), .int .i64 (.lit 0), .int .i64 (.lit 0), .str ⟨#[]⟩, .int .i64 (.lit 0), .nils], .bool (.lit false)] [.agg [.int .i64 (.var t1), .int .i64 (.var t2), .int .i64 (.var t3), .str t4, .int .i64 (.var t5), .slm 1 (some (.var t6)) strC t7], boolD b] := fun h {H H'} => by
    rw [h] at ht hb
    cases ht
    subst hb
    exact .cons (.eq ty0_eq) (.cons (.eq (.bool rfl)) .nil)
  refine SplitP.mk (fun h1 => ?_) (fun h1 => ?_)
  · replace h1 : i < 0 := of_decide_eq_true h1
    exact .mk (hz (by rw [ho, if_neg (by omega)])) rfl
  replace h1 : ¬ i < 0 := of_decide_eq_false h1
  rw [if_pos (by omega)] at ho
  refine SplitP.mk (fun h2 => ?_) (fun h2 => ?_)
  · replace h2 : i ≥ (ss.length : Int) := of_decide_eq_true h2
    exact .mk (hz (by rw [ho, List.getElem?_eq_none (by omega)])) rfl
  replace h2 : ¬ i ≥ (ss.length : Int) := of_decide_eq_false h2
  refine SplitP.mk (fun h3 => ?_) (fun h3 => ?_)
  · replace h3 : j < 0 := of_decide_eq_true h3
    refine .mk (hz ?_) rfl
    rw [ho]
    split
    · rw [if_neg (by omega)]
    · rfl
  replace h3 : ¬ j < 0 := of_decide_eq_false h3
  refine ElemP.mk (by show (0 : Int) ≤ i ∧ i < (ss.length : Int); omega) (fun x hx => ?_)
  replace hx : ss[i.toNat]? = some x := hx
  rw [hx] at ho
  simp only at ho
  rw [if_pos (by omega)] at ho
  obtain ⟨x1, x2, x3, x4, x5, fl, x7, x8⟩ := x
  simp only at ho
  cbv
  replace h2 : ¬ i ≥ (ss.length : Int) := h2
  refine SplitP.mk (fun h4 => ?_) (fun h4 => ?_)
  · replace h4 : j ≥ (fl.length : Int) := of_decide_eq_true h4
    exact .mk (hz (by rw [ho, List.getElem?_eq_none (by omega)])) rfl
  replace h4 : ¬ j ≥ (fl.length : Int) := of_decide_eq_false h4
  refine ElemP.mk (by show (0 : Int) ≤ i ∧ i < (ss.length : Int); omega) (fun z hz' => ?_)
  replace hz' : ss[i.toNat]? = some z := hz'
  rw [hx] at hz'
  cases hz'
  cbv
  replace h4 : ¬ j ≥ (fl.length : Int) := h4
  refine ElemP.mk (by show (0 : Int) ≤ j ∧ j < (fl.length : Int); omega) (fun y hy => ?_)
  replace hy : fl[j.toNat]? = some y := hy
  rw [hy] at ho
  simp only at ho
  obtain ⟨y1, ⟨y2, y3, y4, y5, y6, y7, y8⟩, y9, y10, y11, y12⟩ := y
  simp only at ho
  rw [ho] at ht hb
  cases ht
  subst hb
  cbv
  exact .mk (.cons (.eq (.refl _)) (.cons (.eq (.bool rfl)) .nil)) rfl
end Go.Proofs.Ytdhfakajlnidiaa
namespace Go.Proofs.Ytdhfakajlnidiaa
open Go.RowKit

/-! The check of the types: lists of names, terms' types, comparing. -/
def cmpB (us : List UnitD) (a b : TypeD) : Bool :=
  if a.kind = b.kind then
    if a.kind = 4 then decide (a.names = b.names)
    else if a.kind = 1 ∧ a.unit ≠ -1 ∧ b.unit ≠ -1 then (match us[a.unit.toNat]?, us[b.unit.toNat]? with | some u, some v => decide (u.base = v.base) | _, _ => false)
    else decide (a.unit = b.unit)
  else false
set_option maxRecDepth 100000 in
set_option maxHeartbeats 4000000 in
theorem Equal_pure (l m : List ByteArray) (na nb : Option BE) (hl : l.length < 9223372036854775807) : Pure Try.prog 77 [.slm 1 na strC l, .slm 1 nb strC m] (boolD (decide (l = m))) := by
  obtain ⟨r, hr⟩ : ∃ r, r = decide (l = m) := ⟨_, rfl⟩
  rw [← hr]
  obtain ⟨n, hn⟩ : ∃ n : Nat, n = l.length := ⟨_, rfl⟩
  refine Pure.intro (want := [boolD r]) T_ok follows Try.func77 rfl (by kernel_rfl) (rs := [.tmp 4]) rfl (by kernel_rfl) ?_
  generalize hP : Try.prog = P at *
  have hT : T.ok P := hP ▸ T_ok
  have hm : P.follows .mixedOrders = true := hP ▸ follows
  unfold Try.f77
  dsimp only
  cbv
  refine SplitP.mk (fun h => ?_) (fun h => ?_)
  · have h3 : ((l.length : Int) != (m.length : Int)) = true := h
    refine .mk (.cons (.eq (.bool ?_)) .nil) rfl
    rw [BE.lit_d, BE.var_d]
    rw [hr]; symm; exact decide_eq_false fun e => by rw [e] at h3; simp at h3
  have hlm : l.length = m.length := by
    have h3 : ((l.length : Int) != (m.length : Int)) = false := h
    simp at h3
    omega
  refine CodeP.loopc hT hm (X := Nat) (fun k => [(13, .int .i64 (.nat k))]) (fun k => k ≤ l.length ∧ r = decide (l.drop k = m.drop k)) (fun k => n - k) 0 ⟨by simp, hr⟩ (Nat.zero_le _) ?_ rfl ?_
  · (cbv; (repeat' (first | exact SnD.refl _ | exact trivial | exact SnD.nat0 | refine And.intro ?_ ?_)))
  intro k ⟨hk, hq⟩
  cbv
  refine SplitP.mk (fun hs => ?_) (fun hs => ?_)
  · have hkn : k < l.length := by
      have h5 := of_decide_eq_true (show decide ((k : Int) < (l.length : Int)) = true from hs)
      omega
    clear hs
    have hdx : ∀ {α : Type} {l : List α} {k : Nat} {x : α}, l[k]? = some x → l.drop k = x :: l.drop (k + 1) := fun {α l k x} h => by
      obtain ⟨h1, h2⟩ := List.getElem?_eq_some_iff.1 h
      rw [List.drop_eq_getElem_cons h1, h2]
    refine ElemP.mk (by show (0 : Int) ≤ (k : Int) ∧ (k : Int) < (l.length : Int); omega) (fun x hx => ?_)
    replace hx : l[k]? = some x := hx
    cbv
    refine ElemP.mk (by show (0 : Int) ≤ (k : Int) ∧ (k : Int) < (m.length : Int); omega) (fun y hy => ?_)
    replace hy : m[k]? = some y := hy
    rw [hdx hx, hdx hy] at hq
    clear hdx
    cbv
    refine SplitP.mk (fun h => ?_) (fun h => ?_)
    · have h3 : (!(x == y)) = true := h
      have hne : x ≠ y := by simpa using h3
      refine .mk (.cons (.eq (.bool ?_)) .nil) rfl
      rw [BE.lit_d, BE.var_d]
      rw [hq]; symm; exact decide_eq_false fun e => hne (List.cons.inj e).1
    · have h3 : (!(x == y)) = false := h
      have hxy : x = y := by simpa using h3
      refine BackP.intro (k + 1) ⟨by omega, by rw [hq, hxy]; exact decide_eq_decide.2 (by simp)⟩ (by show n - (k + 1) < n - k; omega) ⟨?_, HEnt.refl _, rfl⟩
      (cbv; (repeat' (first | exact SnD.refl _ | exact trivial | exact SnD.nat0 | refine And.intro ?_ ?_)))
      exact .inc (by omega)
  · have hkn : l.length ≤ k := by
      have h5 := of_decide_eq_false (show decide ((k : Int) < (l.length : Int)) = false from hs)
      omega
    refine .mk (.cons (.eq (.bool ?_)) .nil) rfl
    rw [BE.lit_d, BE.var_d]
    rw [hq, List.drop_of_length_le (by omega), List.drop_of_length_le (by omega)]; simp
set_option maxRecDepth 100000 in
set_option maxHeartbeats 4000000 in
theorem termType_pure (S : SourceD) (r : RuleD) (t : TermD) (n : Int) (hn : n ≤ (r.froms.length : Int)) : Pure Try.prog 74 [.agg (S.c ++ r.c), .agg t.c, i64 n] (tyR (termTy? S r.froms t n)) := by
  have hty := fun i j => typeOf_pure S i j
  obtain ⟨o, ho⟩ : ∃ o, o = termTy? S r.froms t n := ⟨_, rfl⟩
  rw [← ho]
  unfold termTy? at ho
  obtain ⟨TO, hTO⟩ : ∃ f, f = typeOf? S := ⟨_, rfl⟩
  rw [← hTO] at hty ho
  clear hTO
  obtain ⟨ni, is, nu, us, ns, ss, nr, rs, nc, cs, np, ps⟩ := S
  obtain ⟨r1, r2, r3, fl, r5, r6, r7, r8⟩ := r
  obtain ⟨u1, u2, u3, u4, u5⟩ := t
  simp only at ho hn
  obtain ⟨t, ht⟩ : ∃ t, t = o.getD ty0 := ⟨_, rfl⟩
  obtain ⟨b, hb⟩ : ∃ b, b = o.isSome := ⟨_, rfl⟩
  show Pure Try.prog 74 _ (.tup [.agg (o.getD ty0).c, boolD o.isSome])
  rw [← ht, ← hb]
  obtain ⟨t1, t2, t3, t4, t5, t6, t7⟩ := t
  refine Pure.intro (want := [.agg [.int .i64 (.var t1), .int .i64 (.var t2), .int .i64 (.var t3), .str t4, .int .i64 (.var t5), .slm 1 (some (.var t6)) strC t7], boolD b]) T_ok follows Try.func74 rfl (by kernel_rfl) (rs := [.cell 6 79, .tmp 7]) rfl (by kernel_rfl) ?_
  generalize hP : Try.prog = P at *
  have hT : T.ok P := hP ▸ T_ok
  have hm : P.follows .mixedOrders = true := hP ▸ follows
  unfold Try.f74
  dsimp only
  cbv
  have hz : o = none → ∀ {H H' : List Bk}, SnDs H H' [.agg [.int .i64 (.lit 0), .int .i64 (.lit 0), .int .i64 (.lit 0), .str ⟨#[]⟩, .int .i64 (.lit 0), .nils], .bool (.lit false)] [.agg [.int .i64 (.var t1), .int .i64 (.var t2), .int .i64 (.var t3), .str t4, .int .i64 (.var t5), .slm 1 (some (.var t6)) strC t7], boolD b] := fun h {H H'} => by
    rw [h] at ht hb
    cases ht
    subst hb
    exact .cons (.eq ty0_eq) (.cons (.eq (.bool rfl)) .nil)
  refine SplitP.mk (fun h1 => ?_) (fun h1 => ?_)
  · replace h1 : u3 < 0 := of_decide_eq_true h1
    exact .mk (hz (by rw [ho, if_neg (by omega)])) rfl
  replace h1 : ¬ u3 < 0 := of_decide_eq_false h1
  refine SplitP.mk (fun h2 => ?_) (fun h2 => ?_)
  · replace h2 : u3 ≥ n := of_decide_eq_true h2
    exact .mk (hz (by rw [ho, if_neg (by omega)])) rfl
  replace h2 : ¬ u3 ≥ n := of_decide_eq_false h2
  rw [if_pos (by omega)] at ho
  refine ElemP.mk (by show (0 : Int) ≤ u3 ∧ u3 < (fl.length : Int); have hn2 : n ≤ (fl.length : Int) := hn; omega) (fun f hf => ?_)
  replace hf : fl[u3.toNat]? = some f := hf
  rw [hf] at ho
  simp only at ho
  obtain ⟨f1, f2, f3, ⟨f4, f5, f6, f7, f8⟩⟩ := f
  simp only at ho
  have hty2 := hty f3 u4
  rw [← ho] at hty2
  replace hty2 : Pure P 58 [.agg (SourceD.c ⟨ni, is, nu, us, ns, ss, nr, rs, nc, cs, np, ps⟩), i64 f3, i64 u4] (.tup [.agg (o.getD ty0).c, boolD o.isSome]) := hty2
  rw [← ht, ← hb] at hty2
  cbv
  refine PureP.mk _ hty2 rfl ?_
  cbv
  exact .mk (.cons (.eq (.refl _)) (.cons (.eq (.refl _)) .nil)) rfl
set_option maxRecDepth 100000 in
set_option maxHeartbeats 4000000 in
theorem comparable_pure (S : SourceD) (a b : TypeD) (ha : a.kind = 1 → -1 ≤ a.unit ∧ a.unit < (S.units.length : Int)) (hb : b.kind = 1 → -1 ≤ b.unit ∧ b.unit < (S.units.length : Int)) (hl : a.names.length < 9223372036854775807) : Pure Try.prog 76 [.agg S.c, .agg a.c, .agg b.c] (boolD (cmpB S.units a b)) := by
  have hE := Equal_pure a.names b.names (some (.var a.nnames)) (some (.var b.nnames)) hl
  obtain ⟨r, hr⟩ : ∃ r, r = cmpB S.units a b := ⟨_, rfl⟩
  rw [← hr]
  unfold cmpB at hr
  obtain ⟨ni, is, nu, us, ns, ss, nr, rs, nc, cs, np, ps⟩ := S
  obtain ⟨a1, a2, a3, a4, a5, a6, a7⟩ := a
  obtain ⟨b1, b2, b3, b4, b5, b6, b7⟩ := b
  simp only at hr ha hb hE hl
  obtain ⟨eq, heq⟩ : ∃ e, e = decide (a7 = b7) := ⟨_, rfl⟩
  rw [← heq] at hE hr
  refine Pure.intro (want := [boolD r]) T_ok follows Try.func76 rfl (by kernel_rfl) (rs := [.tmp 6]) rfl (by kernel_rfl) ?_
  generalize hP : Try.prog = P at *
  have hT : T.ok P := hP ▸ T_ok
  have hm : P.follows .mixedOrders = true := hP ▸ follows
  unfold Try.f76
  dsimp only
  cbv
  refine SplitP.mk (fun h1 => ?_) (fun h1 => ?_)
  · have h3 : (a1 != b1) = true := h1
    have h4 : a1 ≠ b1 := by simpa using h3
    refine .mk (.cons (.eq (.bool ?_)) .nil) rfl
    show false = r
    rw [hr, if_neg h4]
  have h3 : (a1 != b1) = false := h1
  have h4 : a1 = b1 := by simpa using h3
  rw [if_pos h4] at hr
  clear h1 h3
  refine SplitP.mk (fun h1 => ?_) (fun h1 => ?_)
  · have h3 : (a1 == 4) = true := h1
    have h5 : a1 = 4 := by simpa using h3
    rw [if_pos h5] at hr
    refine CallP.pure _ hE rfl ?_
    cbv
    refine .mk (.cons (.eq (.bool ?_)) .nil) rfl
    show eq = r
    exact hr.symm
  have h3 : (a1 == 4) = false := h1
  have h5 : a1 ≠ 4 := by simpa using h3
  rw [if_neg h5] at hr
  clear h1 h3
  refine SplitP.mk (fun h1 => ?_) (fun h1 => ?_)
  · have h3 : (a1 != 1) = true := h1
    have h6 : a1 ≠ 1 := by simpa using h3
    rw [if_neg (fun q => h6 q.1)] at hr
    refine .mk (.cons (.eq (.bool ?_)) .nil) rfl
    show (a5 == b5) = r
    rw [hr]
    rfl
  have h3 : (a1 != 1) = false := h1
  have h6 : a1 = 1 := by simpa using h3
  replace ha := ha h6
  replace hb := hb (h4.symm.trans h6)
  clear h1 h3
  refine SplitP.mk (fun h1 => ?_) (fun h1 => ?_)
  · have h3 : (a5 == -1) = true := h1
    have h7 : a5 = -1 := by simpa using h3
    rw [if_neg (fun q => q.2.1 h7)] at hr
    refine .mk (.cons (.eq (.bool ?_)) .nil) rfl
    show (a5 == b5) = r
    rw [hr]
    rfl
  have h3 : (a5 == -1) = false := h1
  have h7 : a5 ≠ -1 := by simpa using h3
  clear h1 h3
  refine SplitP.mk (fun h1 => ?_) (fun h1 => ?_)
  · have h3 : (b5 == -1) = true := h1
    have h8 : b5 = -1 := by simpa using h3
    rw [if_neg (fun q => q.2.2 h8)] at hr
    refine .mk (.cons (.eq (.bool ?_)) .nil) rfl
    show (a5 == b5) = r
    rw [hr]
    rfl
  have h3 : (b5 == -1) = false := h1
  have h8 : b5 ≠ -1 := by simpa using h3
  clear h1 h3
  rw [if_pos ⟨h6, h7, h8⟩] at hr
  refine ElemP.mk (by show (0 : Int) ≤ a5 ∧ a5 < (us.length : Int); have ha2 : -1 ≤ a5 ∧ a5 < (us.length : Int) := ha; omega) (fun u hu => ?_)
  replace hu : us[a5.toNat]? = some u := hu
  have hb' := Lib.hid hb
  obtain ⟨u1, u2, u3, u4, u5⟩ := u
  cbv
  have hb := hb'.out
  refine ElemP.mk (by show (0 : Int) ≤ b5 ∧ b5 < (us.length : Int); have hb2 : -1 ≤ b5 ∧ b5 < (us.length : Int) := hb; omega) (fun v hv => ?_)
  replace hv : us[b5.toNat]? = some v := hv
  obtain ⟨v1, v2, v3, v4, v5⟩ := v
  cbv
  refine .mk (.cons (.eq (.bool ?_)) .nil) rfl
  show (u4 == v4) = r
  rw [hr, hu, hv]
  rfl
end Go.Proofs.Ytdhfakajlnidiaa
namespace Go.Proofs.Ytdhfakajlnidiaa
open Go.RowKit

/-! A map of the call's own, whose keys and elements are plain: said key by key. -/
def GM (P : Program) (k e : TypeId) (w : World) (b n : Nat) (S : Lit → Option Lit) : Prop :=
  ∃ D : DataW Unit, w.ownsMap P k (plainElem P e) b n D ∧ Maps.IsMap D ∧ ∀ kl, Maps.has D kl = (S kl).isSome ∧ ∀ zd, D.atKey kl zd = match S kl with | some l => .lit l | none => zd
theorem GM.lt {P : Program} {k e : TypeId} {w : World} {b n : Nat} {S : Lit → Option Lit} (h : GM P k e w b n S) : b < w.heap.size := h.choose_spec.1.lt
theorem GM.made (P : Program) (k e : TypeId) (w : World) : GM P k e (w.alloc (.map #[] 0)) w.heap.size 0 (fun _ => none) :=
  ⟨.map [], World.ownsMap_made _ _ _ _, Maps.isMap_empty, fun _ => ⟨rfl, fun _ => rfl⟩⟩
theorem GM.kept {P : Program} {k e : TypeId} {w w' : World} {b n : Nat} {S : Lit → Option Lit} (h : GM P k e w b n S) {row : Option Nat} (hg : w.grownBy w' row) (hne : some b ≠ row) : GM P k e w' b n S :=
  let ⟨D, h1, h2⟩ := h; ⟨D, h1.kept hg hne, h2⟩
theorem GM.alloc {P : Program} {k e : TypeId} {w : World} {b n : Nat} {S : Lit → Option Lit} (h : GM P k e w b n S) (o : Obj) : GM P k e (w.alloc o) b n S := h.kept (World.grownBy_alloc w o none) (by simp)
theorem GM.drew {P : Program} {k e : TypeId} {w : World} {b n : Nat} {S : Lit → Option Lit} (h : GM P k e w b n S) : GM P k e w.drew b n S := h
theorem GM.ext {P : Program} {k e : TypeId} {w : World} {b n : Nat} {S S' : Lit → Option Lit} (h : GM P k e w b n S) (hS : ∀ l, S l = S' l) : GM P k e w b n S' := by
  have : S = S' := funext hS
  exact this ▸ h
theorem GM.mono {P : Program} {k e : TypeId} {w : World} {b n : Nat} {S : Lit → Option Lit} (h : GM P k e w b n S) {n' : Nat} (hn : n ≤ n') : GM P k e w b n' S :=
  let ⟨D, h1, h2⟩ := h; ⟨D, h1.mono hn, h2⟩
theorem GM.below {P : Program} {k e : TypeId} {w w' : World} {b n : Nat} {S : Lit → Option Lit} (h : GM P k e w b n S) {B : Nat} (hb : Below B w w') (hlt : b < B) : GM P k e w' b n S := by
  obtain ⟨D, ⟨es, clock, h1, h2⟩, h3⟩ := h
  exact ⟨D, ⟨es, clock, (hb.block b hlt).trans h1, h2⟩, h3⟩
/-- what a boolean element reads as -/
theorem plainElem_bool_inv {H : Type} {P : Program} {e : TypeId} (he : P.underlying e = some .bool) {v : Value} {z : DataW H × List MemPlace} (h : plainElem P e v = some z) : ∃ x, v = .bool x ∧ z = (.lit (.bool x), []) := by
  unfold plainElem at h
  rw [he] at h
  split at h
  · cases h; exact ⟨_, rfl, rfl⟩
  · rename_i h1; simp at h1
  · rename_i h1; simp at h1
  · cases h

section
variable {P : Program} (w : World) {ops : Array Oper} {rest : List Oper} {o : Oper} {a : Act} {Q : Exit → Act → World → Prop}
/-- 'm[k]' at boolean elements -/
theorem wpList_lookup_gm_bool (hg : o.guard = none) (m x : Operand) (t : TypeId) (hop : o.op = Op.lookup t m x false)
    (k e : TypeId) (K : Maps.Keyed P k) (ht : P.underlying t = some (.map k e)) (he : P.underlying e = some .bool) (hz : (zeroValue e).run P w = .ok (.bool false) w) (b n : Nat) (S : Lit → Option Lit)
    (hm : a.eval m = .map (some b)) (hown : GM P k e w b n S) (key : Value) (kl : Lit) (hx : a.eval x = key) (hkey : keyOf P k key = some kl) (c : Bool)
    (hc : (match S kl with | some l => l | none => .bool false) = .bool c)
    (hK : wpList P ops Q rest (a.put o.dst (.bool c)) w) : wpList P ops Q (o :: rest) a w := by
  refine wpList_plain hg fun K' hK' => ?_
  obtain ⟨D, h1, h2, h3⟩ := hown
  obtain ⟨v, ps, hrun, hv⟩ := h1.lookup K ht hz (plainElem_bool he false) hkey
  obtain ⟨x', rfl, hx'⟩ := plainElem_bool_inv he hv
  rw [(h3 kl).2] at hx'
  have hcx : x' = c := by
    cases hS : S kl with
    | none => rw [hS] at hc hx'; simp at hc hx'; rw [hx'.1, hc]
    | some l => rw [hS] at hc hx'; simp at hc hx'; simp [hc] at hx'; exact hx'.1.symm
  subst hcx
  unfold Oper.wp
  simp [execOp, hop, hm, hx, hrun, Result.andThen]
  exact hK' _ _ hK
/-- 'm[k]' at integer elements -/
theorem wpList_lookup_gm_int (hg : o.guard = none) (m x : Operand) (t : TypeId) (hop : o.op = Op.lookup t m x false)
    (k e : TypeId) (K : Maps.Keyed P k) (ht : P.underlying t = some (.map k e)) {q : IntKind} (he : P.underlying e = some (.int q)) (hz : (zeroValue e).run P w = .ok (.int q 0) w) (b n : Nat) (S : Lit → Option Lit)
    (hm : a.eval m = .map (some b)) (hown : GM P k e w b n S) (key : Value) (kl : Lit) (hx : a.eval x = key) (hkey : keyOf P k key = some kl) (c : Int)
    (hc : (match S kl with | some l => l | none => .int q 0) = .int q c)
    (hK : wpList P ops Q rest (a.put o.dst (.int q c)) w) : wpList P ops Q (o :: rest) a w := by
  refine wpList_plain hg fun K' hK' => ?_
  obtain ⟨D, h1, h2, h3⟩ := hown
  obtain ⟨v, ps, hrun, hv⟩ := h1.lookup K ht hz (plainElem_int he (by cases q <;> decide)) hkey
  obtain ⟨x', rfl, hx', _⟩ := plainElem_int_inv he hv
  rw [(h3 kl).2] at hx'
  have hcx : x' = c := by
    cases hS : S kl with
    | none => rw [hS] at hc hx'; simp at hc hx'; omega
    | some l => rw [hS] at hc hx'; simp at hc hx'; simp [hc] at hx'; omega
  subst hcx
  unfold Oper.wp
  simp [execOp, hop, hm, hx, hrun, Result.andThen]
  exact hK' _ _ hK
/-- 'm[k] = v' -/
theorem wpList_mapUpdate_gm (hg : o.guard = none) (m x v : Operand) (t : TypeId) (hop : o.op = Op.mapUpdate t m x v)
    (k e : TypeId) (K : Maps.Keyed P k) (ht : P.underlying t = some (.map k e)) (b n : Nat) (S : Lit → Option Lit)
    (hm : a.eval m = .map (some b)) (hown : GM P k e w b n S) (hn : n < maxLen) (key val : Value) (kl : Lit) (hx : a.eval x = key) (hv : a.eval v = val) (hkey : keyOf P k key = some kl) (hkl : WideAt.IsKeyLit kl)
    (vl : Lit) (ps : List MemPlace) (hval : plainElem P e val = some ((.lit vl : DataW Unit), ps))
    (hK : ∀ w', GM P k e w' b (n + 1) (fun l => if l.sameKey kl then some vl else S l) → w.grownBy w' (some b) → wpList P ops Q rest (a.put o.dst undef) w') :
    wpList P ops Q (o :: rest) a w := by
  obtain ⟨D, h1, h2, h3⟩ := hown
  refine wpList_mapUpdate_own w hg m x v t hop k e K ht _ b n D hm h1 hn key val kl hx hv hkey _ ps hval fun w' h4 h5 => hK w' ⟨_, h4, h2.put _ _, fun l => ?_⟩ h5
  by_cases hl : l = kl
  · subst hl
    simp [Maps.has_put_same h2 hkl, Maps.atKey_put_same h2 hkl, WideAt.sameKey_self hkl]
  · have e1 : l.sameKey kl = false := Bool.eq_false_iff.2 fun h => hl (WideAt.sameKey_eq h)
    simp [Maps.has_put_other hl, Maps.atKey_put_other hl, h3 l, e1]
end
/-- 'make(map[K]V, hint)' -/
theorem run_makeMap_hint {P : Program} {t k e : TypeId} (ht : P.underlying t = some (.map k e)) (q : IntKind) (z : Int) (w : World) :
    (Instr.makeMap t (some (.int q z))).run P w = .ok (.map (some w.heap.size)) (w.alloc (.map #[] 0)) := by
  have h1 : (asIntOf (.int q z)).run P w = .ok (q, z) w := rfl
  simp [Instr.makeMap, run_underlying ht, asInt, h1]
end Go.Proofs.Ytdhfakajlnidiaa
namespace Go.Proofs.Ytdhfakajlnidiaa
open Go.RowKit

/-! The check of the types: different strings, by a walk over worlds. -/
def StrAt (w : World) (a : Option Addr) (L : List ByteArray) : Prop := ∀ k (hk : k < L.length), ∃ b off, a = some ⟨b, off, none⟩ ∧ b < w.heap.size ∧ L[k].size ≤ maxLen ∧ w.cell? ⟨b, off + k, none⟩ = some (.string L[k])
theorem keyS : Maps.Keyed Try.prog 9 := Maps.string_keyed Try.underlying9
theorem keyI : Maps.Keyed Try.prog 3 := Maps.int_keyed Try.underlying3
theorem zero4 (w : World) : (zeroValue 4).run Try.prog w = .ok (.bool false) w := by kernel_rfl
/-- the strings seen -/
def seenS (L : List ByteArray) (k : Nat) (l : Lit) : Option Lit := if (L.take k).any (fun s => l.sameKey (.string s.data.toList)) then some (.bool true) else none
theorem seenS_at {L : List ByteArray} {k : Nat} (s : ByteArray) : seenS L k (.string s.data.toList) = if s ∈ L.take k then some (.bool true) else none := by
  unfold seenS
  have hiff : (L.take k).any (fun x => (Lit.string s.data.toList).sameKey (.string x.data.toList)) = true ↔ s ∈ L.take k := by
   simp only [List.any_eq_true, Lit.sameKey]
   constructor
   · rintro ⟨x, hx, he⟩
     have : s = x := by
       obtain ⟨⟨s⟩⟩ := s
       obtain ⟨⟨x⟩⟩ := x
       simpa using he
     exact this ▸ hx
   · intro h
     exact ⟨s, h, by simp⟩
  by_cases h : s ∈ L.take k
  · rw [if_pos h, if_pos (hiff.2 h)]
  · rw [if_neg h, if_neg (fun h2 => h (hiff.1 h2))]
theorem seenS_succ {L : List ByteArray} {k : Nat} (hk : k < L.length) (l : Lit) : (if l.sameKey (.string L[k].data.toList) then some (.bool true) else seenS L k l) = seenS L (k + 1) l := by
  unfold seenS
  rw [take_succ' hk, List.any_append]
  simp only [List.any_cons, List.any_nil, Bool.or_false]
  cases l.sameKey (.string L[k].data.toList) <;> simp

set_option maxRecDepth 20000 in
set_option maxHeartbeats 2000000 in
theorem diffS_any (a : Option Addr) (cap : Nat) (L : List ByteArray) (w : World) (hs : StrAt w a L) (hl : L.length ≤ 100000) :
    Calls Try.prog 97 #[.slice a L.length cap] w fun e w' => e = .returned (.bool (decide L.Nodup)) ∧ Below w.heap.size w w' := by
  have Hs := Lib.hid hs
  clear hs
  have hmm := @run_makeMap_hint Try.prog 168 9 4 Try.underlying168 .i64 L.length
  go_enter Try.func97, Try.ntmps97
  go_wp2
  go_loopw [11] (fun i wr => ∃ k : Nat, k ≤ L.length ∧ i = .int .i64 k ∧ GM Try.prog 9 4 wr w.heap.size k (seenS L k) ∧ Hid ((L.take k).Nodup) ∧ Below w.heap.size w wr) (fun i _ => L.length - (intOf i).toNat)
  case atStart => exact ⟨0, Nat.zero_le _, rfl, (GM.made ..).ext (fun l => by simp [seenS]), Lib.hid (by simp), (Below.refl _ _).alloc (Nat.le_refl _) _⟩
  case round =>
    obtain ⟨k, hk, rfl, hm, Hn, hbw⟩ := hrel
    have hsz := hbw.size
    by_cases hlt : k < L.length
    · obtain ⟨b, off, rfl, hb, hsl, c0⟩ := Hs.out k hlt
      rw [← hbw.cell (p := ⟨b, _, none⟩) hb] at c0
      have hat := seenS_at (L := L) (k := k) L[k]
      have hsc := seenS_succ hlt
      generalize hf : L[k] = f at *
      have Hf := Lib.hid hf
      have Hsc := Lib.hid hsc
      have hkey := Lib.hid (WideMaps.keyOf_string_mk Try.underlying9 hsl)
      clear hsl
      by_cases hin : f ∈ L.take k
      · rw [if_pos hin] at hat
        have Hat := Lib.hid hat
        have Hin := Lib.hid hin
        clear hf hsc hat hin hmm
        go_wp2_with (first | (at_lookup; refine wpList_lookup_gm_bool _ rfl _ _ 168 rfl 9 4 keyS Try.underlying168 Try.underlying4 (zero4 _) _ k _ rfl hm _ _ rfl hkey.out true (by rw [Hat.out]) ?_) | go_in)
        go_ret
        exact ⟨ret_bool (by rw [← Hf.out] at Hin; simp [not_nodup_take hlt Hin.out]), hbw⟩
      · rw [if_neg hin] at hat
        have Hat := Lib.hid hat
        have Hin := Lib.hid hin
        clear hf hsc hat hin hmm
        go_wp2_with (first | (at_lookup; refine wpList_lookup_gm_bool _ rfl _ _ 168 rfl 9 4 keyS Try.underlying168 Try.underlying4 (zero4 _) _ k _ rfl hm _ _ rfl hkey.out false (by rw [Hat.out]) ?_) | (at_mapUpdate; refine wpList_mapUpdate_gm _ rfl _ _ _ 168 rfl 9 4 keyS Try.underlying168 _ k _ rfl hm (by unfold maxLen; omega) _ _ _ rfl rfl hkey.out trivial (.bool true) [] (plainElem_bool Try.underlying4 true) ?_; intro w1 hm1 hg1) | go_in)
        go_roundw
        case rel => exact ⟨k + 1, by omega, by go_num, hm1.ext Hsc.out, Lib.hid (take_nodup_succ hlt Hn.out (by rw [Hf.out]; exact Hin.out)), hbw.grown hg1 hsz (fun j hj => by cases hj; exact Nat.le_refl _)⟩
        case measure => simp [intOf]; omega
    · have hq : k = L.length := by omega
      subst hq
      go_wp2
      go_ret
      exact ⟨ret_bool (by have := Hn.out; simpa using this), hbw⟩
theorem strAt_of {w : World} {E : Env} {nb : Option BE} {L : List ByteArray} {v : Value} (h : DRep w E (.slm 1 nb strC L) v) (hG : ∀ b, E.G b → b < w.heap.size) : ∃ a cap, v = .slice a L.length cap ∧ StrAt w a L := by
  cases h with
  | @slm _ _ _ _ _ _ a cap u hnb hc hm hx ha hh =>
    refine ⟨a, cap, rfl, fun k hk => ?_⟩
    obtain ⟨b, o, rfl, hg, hcl⟩ := ha (fun e => by rw [e] at hk; cases hk)
    have h1 := hcl k 0 hk (by decide)
    have h2 := hh k L[k] 0 _ (List.getElem?_eq_getElem hk) rfl
    rw [show o + k * 1 + 0 = o + k by omega] at h1
    generalize u k 0 = x at h1 h2
    cases h2 with
    | str hs => exact ⟨b, o, rfl, hG b hg, hs, h1⟩
set_option maxRecDepth 100000 in
set_option maxHeartbeats 4000000 in
theorem diffS_pure (L : List ByteArray) (nb : Option BE) (hl : L.length ≤ 100000) : Pure Try.prog 97 [.slm 1 nb strC L] (boolD (decide L.Nodup)) := by
  refine ⟨⟨_, _, Try.func97, rfl, by kernel_rfl⟩, fun w G vs hL hG hv => ?_⟩
  obtain ⟨h1, h2⟩ := hv
  obtain ⟨vl⟩ := vs
  match vl, h1 with
  | [v], _ =>
    obtain ⟨a, cap, rfl, hs⟩ := strAt_of (h2 0 _ v rfl rfl) hG
    refine (diffS_any a cap L w hs hl).mono ?_
    rintro e w' ⟨rfl, hb⟩
    exact ⟨_, G, rfl, hb, fun _ h => h, fun _ h => .inl h, fun b h => Nat.lt_of_lt_of_le (hG b h) hb.size, .bool (e := .var (decide L.Nodup))⟩
end Go.Proofs.Ytdhfakajlnidiaa
namespace Go.Proofs.Ytdhfakajlnidiaa
open Go.RowKit

/-! The check of the types: kinds. -/
def kind1 (t : TypeD) (n : Int) : Bool := decide (0 ≤ t.lo) && (decide (t.lo ≤ t.hi) && (decide (t.hi ≤ 1048576) && (decide (-1 ≤ t.unit) && (decide (t.unit < n) && decide (t.names.length = 0)))))
def kind4 (t : TypeD) : Bool := decide (t.lo = 0) && (decide (t.hi = (t.names.length : Int) - 1) && (decide (t.unit = -1) && (decide (1 ≤ t.names.length) && (decide (t.names.length ≤ 16) && decide t.names.Nodup))))
set_option maxHeartbeats 4000000 in
set_option maxRecDepth 100000 in
set_option maxHeartbeats 4000000 in
theorem kind1_pure (t : TypeD) (n : Int) : Pure Try.prog 93 [.agg t.c, i64 n] (boolD (kind1 t n)) := by
  obtain ⟨r, hr⟩ : ∃ r, r = kind1 t n := ⟨_, rfl⟩
  rw [← hr]
  unfold kind1 at hr
  obtain ⟨t1, t2, t3, t4, t5, t6, t7⟩ := t
  simp only at hr
  refine Pure.intro (want := [boolD r]) T_ok follows Try.func93 rfl (by kernel_rfl) (rs := [.tmp 4]) rfl (by kernel_rfl) ?_
  generalize hP : Try.prog = P at *
  have hT : T.ok P := hP ▸ T_ok
  have hm : P.follows .mixedOrders = true := hP ▸ follows
  unfold Try.f93
  dsimp only
  cbv
  ((repeat' (refine SplitP.mk (fun _ => ?_) (fun _ => ?_))); all_goals (try simp only [BE.den, IE.den, cmpDen, Bool.not_eq_true, Bool.not_eq_false, Bool.not_eq_eq_eq_not, Bool.not_true, Bool.not_false, dec_t, dec_f, beq_iff_eq, beq_eq_false_iff_ne, bne_iff_ne, ne_eq, bne_eq_false_iff_eq, ge_iff_le, gt_iff_lt, Int.not_lt, Int.not_le] at *); all_goals (refine .mk (.cons (.eq (.bool ?_)) .nil) rfl; simp only [BE.den, IE.den, cmpDen]; rw [hr, Bool.eq_iff_iff]; simp only [Bool.and_eq_true, Bool.or_eq_true, dec_t, dec_f, beq_iff_eq, bne_iff_ne, ge_iff_le, gt_iff_lt, Bool.false_eq_true, false_iff, true_iff]; first | omega | grind))
def kindQ (h : Int) (t : TypeD) : Bool := decide (t.lo = 0) && (decide (t.hi = h) && (decide (t.unit = -1) && decide (t.names.length = 0)))
set_option maxHeartbeats 4000000 in
set_option maxRecDepth 100000 in
set_option maxHeartbeats 4000000 in
theorem kind2_pure (t : TypeD) (n : Int) : Pure Try.prog 94 [.agg t.c, i64 n] (boolD (kindQ 1023 t)) := by
  obtain ⟨r, hr⟩ : ∃ r, r = kindQ 1023 t := ⟨_, rfl⟩
  rw [← hr]
  unfold kindQ at hr
  obtain ⟨t1, t2, t3, t4, t5, t6, t7⟩ := t
  simp only at hr
  refine Pure.intro (want := [boolD r]) T_ok follows Try.func94 rfl (by kernel_rfl) (rs := [.tmp 4]) rfl (by kernel_rfl) ?_
  generalize hP : Try.prog = P at *
  have hT : T.ok P := hP ▸ T_ok
  have hm : P.follows .mixedOrders = true := hP ▸ follows
  unfold Try.f94
  dsimp only
  cbv
  ((repeat' (refine SplitP.mk (fun _ => ?_) (fun _ => ?_))); all_goals (try simp only [BE.den, IE.den, cmpDen, Bool.not_eq_true, Bool.not_eq_false, Bool.not_eq_eq_eq_not, Bool.not_true, Bool.not_false, dec_t, dec_f, beq_iff_eq, beq_eq_false_iff_ne, bne_iff_ne, ne_eq, bne_eq_false_iff_eq, ge_iff_le, gt_iff_lt, Int.not_lt, Int.not_le] at *); all_goals (refine .mk (.cons (.eq (.bool ?_)) .nil) rfl; simp only [BE.den, IE.den, cmpDen]; rw [hr, Bool.eq_iff_iff]; simp only [Bool.and_eq_true, Bool.or_eq_true, dec_t, dec_f, beq_iff_eq, bne_iff_ne, ge_iff_le, gt_iff_lt, Bool.false_eq_true, false_iff, true_iff]; first | omega | grind))
set_option maxHeartbeats 4000000 in
set_option maxRecDepth 100000 in
set_option maxHeartbeats 4000000 in
theorem kind3_pure (t : TypeD) (n : Int) : Pure Try.prog 95 [.agg t.c, i64 n] (boolD (kindQ 4095 t)) := by
  obtain ⟨r, hr⟩ : ∃ r, r = kindQ 4095 t := ⟨_, rfl⟩
  rw [← hr]
  unfold kindQ at hr
  obtain ⟨t1, t2, t3, t4, t5, t6, t7⟩ := t
  simp only at hr
  refine Pure.intro (want := [boolD r]) T_ok follows Try.func95 rfl (by kernel_rfl) (rs := [.tmp 4]) rfl (by kernel_rfl) ?_
  generalize hP : Try.prog = P at *
  have hT : T.ok P := hP ▸ T_ok
  have hm : P.follows .mixedOrders = true := hP ▸ follows
  unfold Try.f95
  dsimp only
  cbv
  ((repeat' (refine SplitP.mk (fun _ => ?_) (fun _ => ?_))); all_goals (try simp only [BE.den, IE.den, cmpDen, Bool.not_eq_true, Bool.not_eq_false, Bool.not_eq_eq_eq_not, Bool.not_true, Bool.not_false, dec_t, dec_f, beq_iff_eq, beq_eq_false_iff_ne, bne_iff_ne, ne_eq, bne_eq_false_iff_eq, ge_iff_le, gt_iff_lt, Int.not_lt, Int.not_le] at *); all_goals (refine .mk (.cons (.eq (.bool ?_)) .nil) rfl; simp only [BE.den, IE.den, cmpDen]; rw [hr, Bool.eq_iff_iff]; simp only [Bool.and_eq_true, Bool.or_eq_true, dec_t, dec_f, beq_iff_eq, bne_iff_ne, ge_iff_le, gt_iff_lt, Bool.false_eq_true, false_iff, true_iff]; first | omega | grind))
set_option maxHeartbeats 4000000 in
set_option maxRecDepth 100000 in
set_option maxHeartbeats 4000000 in
theorem kind4_pure (t : TypeD) (n : Int) (hl : t.names.length ≤ 9223372036854775807) : Pure Try.prog 96 [.agg t.c, i64 n] (boolD (kind4 t)) := by
  have hd : (BE.cmp .leq (.len t.names) (.lit 16)).den = true → Pure Try.prog 97 [.slm 1 (some (.var t.nnames)) strC t.names] (boolD (decide t.names.Nodup)) := fun h => diffS_pure t.names (some (.var t.nnames)) (by have := of_decide_eq_true (show decide ((t.names.length : Int) ≤ 16) = true from h); omega)
  obtain ⟨r, hr⟩ : ∃ r, r = kind4 t := ⟨_, rfl⟩
  rw [← hr]
  unfold kind4 at hr
  obtain ⟨t1, t2, t3, t4, t5, t6, t7⟩ := t
  simp only at hr hd hl
  obtain ⟨df, hdf⟩ : ∃ d, d = decide t7.Nodup := ⟨_, rfl⟩
  rw [← hdf] at hd hr
  have hsub : binDen .sub .i64 (t7.length : Int) 1 = (t7.length : Int) - 1 := sub64 (by omega) (by omega)
  have HS := Lib.hid hsub
  clear hsub
  refine Pure.intro (want := [boolD r]) T_ok follows Try.func96 rfl (by kernel_rfl) (rs := [.tmp 4]) rfl (by kernel_rfl) ?_
  generalize hP : Try.prog = P at *
  have hT : T.ok P := hP ▸ T_ok
  have hm : P.follows .mixedOrders = true := hP ▸ follows
  unfold Try.f96
  dsimp only
  cbv
  have hsub : binDen .sub .i64 (t7.length : Int) 1 = (t7.length : Int) - 1 := HS.out
  clear HS
  repeat' (first | refine SplitP.mk (fun _ => ?_) (fun _ => ?_) | (refine CallP.pure _ (hd (by assumption)) rfl ?_; cbv))
  all_goals (try simp only [BE.den, IE.den, cmpDen, Bool.not_eq_true, Bool.not_eq_false, Bool.not_eq_eq_eq_not, Bool.not_true, Bool.not_false, dec_t, dec_f, beq_iff_eq, beq_eq_false_iff_ne, bne_iff_ne, ne_eq, bne_eq_false_iff_eq, ge_iff_le, gt_iff_lt, Int.not_lt, Int.not_le] at *)
  all_goals (try simp only [hsub] at *)
  all_goals (refine .mk (.cons (.eq (.bool ?_)) .nil) rfl; simp only [BE.den, IE.den, cmpDen]; rw [hr, Bool.eq_iff_iff]; simp only [Bool.and_eq_true, Bool.or_eq_true, dec_t, dec_f, beq_iff_eq, bne_iff_ne, ge_iff_le, gt_iff_lt, Bool.false_eq_true, false_iff, true_iff]; first | omega | grind)
set_option maxRecDepth 100000 in
set_option maxHeartbeats 4000000 in
theorem kinds_pure : Pure Try.prog 80 [] (.agg [.nilf, .fn (.func 93) [] [], .fn (.func 94) [] [], .fn (.func 95) [] [], .fn (.func 96) [] []]) := by
  refine Pure.intro (want := [.agg [.nilf, .fn (.func 93) [] [], .fn (.func 94) [] [], .fn (.func 95) [] [], .fn (.func 96) [] []]]) T_ok follows Try.func80 rfl (by kernel_rfl) (rs := [.cell 0 146]) rfl (by kernel_rfl) ?_
  generalize hP : Try.prog = P
  have hT : T.ok P := hP ▸ T_ok
  have hm : P.follows .mixedOrders = true := hP ▸ follows
  unfold Try.f80
  dsimp only
  cbv
  exact .mk (.cons (.eq (.refl _)) .nil) rfl
def kindB (t : TypeD) (n : Int) : Bool := if t.kind = 1 then kind1 t n else if t.kind = 2 then kindQ 1023 t else if t.kind = 3 then kindQ 4095 t else if t.kind = 4 then kind4 t else false
abbrev kindL (c : Int) (t : TypeD) : List D := [.int .i64 (.lit c), .int .i64 (.var t.lo), .int .i64 (.var t.hi), .str t.of, .int .i64 (.var t.unit), .slm 1 (some (.var t.nnames)) strC t.names]
theorem agg_kind {t : TypeD} {c : Int} (h : t.kind = c) : DEq (.agg t.c) (.agg (kindL c t)) := .aggs rfl fun i d d' h1 h2 => by
  match i with
  | 0 => cases h1; cases h2; exact .int h
  | 1 => cases h1; cases h2; exact .refl _
  | 2 => cases h1; cases h2; exact .refl _
  | 3 => cases h1; cases h2; exact .refl _
  | 4 => cases h1; cases h2; exact .refl _
  | 5 => cases h1; cases h2; exact .refl _
  | i + 6 => simp at h1
theorem kind_agg {t : TypeD} {c : Int} (h : t.kind = c) : DEq (.agg (kindL c t)) (.agg t.c) := .aggs rfl fun i d d' h1 h2 => by
  match i with
  | 0 => cases h1; cases h2; exact .int h.symm
  | 1 => cases h1; cases h2; exact .refl _
  | 2 => cases h1; cases h2; exact .refl _
  | 3 => cases h1; cases h2; exact .refl _
  | 4 => cases h1; cases h2; exact .refl _
  | 5 => cases h1; cases h2; exact .refl _
  | i + 6 => simp at h1
theorem typeOK_lit1 (S : SourceD) (t : TypeD) (q : Bool) (hk : t.kind = 1) (h : Pure Try.prog 93 [.agg t.c, i64 S.units.length] (boolD q)) : Pure Try.prog 65 [.agg S.c, .agg t.c] (boolD q) := by
  have h0 := kinds_pure
  refine Pure.args (.cons (.refl _) (.cons (agg_kind hk) .nil)) ?_
  replace h := Pure.args (args' := [.agg t.c, i64 S.units.length]) (args := [.agg (kindL 1 t), .int .i64 (.len S.units)]) (.cons (kind_agg hk) (.cons (.int (e := .len S.units) (e' := .var (S.units.length : Int)) rfl) .nil)) h
  obtain ⟨ni, is, nu, us, ns, ss, nr, rs, nc, cs, np, ps⟩ := S
  obtain ⟨t1, t2, t3, t4, t5, t6, t7⟩ := t
  simp only at h
  clear hk
  refine Pure.intro (want := [boolD q]) T_ok follows Try.func65 rfl (by kernel_rfl) (rs := [.tmp 4]) rfl (by kernel_rfl) ?_
  generalize hP : Try.prog = P at *
  have hT : T.ok P := hP ▸ T_ok
  have hm : P.follows .mixedOrders = true := hP ▸ follows
  unfold Try.f65
  dsimp only
  cbv
  refine PureP.mk _ h0 rfl ?_
  cbv
  refine CallP.pure _ h rfl ?_
  cbv
  exact .mk (.cons (.eq (.refl _)) .nil) rfl
theorem typeOK_lit2 (S : SourceD) (t : TypeD) (q : Bool) (hk : t.kind = 2) (h : Pure Try.prog 94 [.agg t.c, i64 S.units.length] (boolD q)) : Pure Try.prog 65 [.agg S.c, .agg t.c] (boolD q) := by
  have h0 := kinds_pure
  refine Pure.args (.cons (.refl _) (.cons (agg_kind hk) .nil)) ?_
  replace h := Pure.args (args' := [.agg t.c, i64 S.units.length]) (args := [.agg (kindL 2 t), .int .i64 (.len S.units)]) (.cons (kind_agg hk) (.cons (.int (e := .len S.units) (e' := .var (S.units.length : Int)) rfl) .nil)) h
  obtain ⟨ni, is, nu, us, ns, ss, nr, rs, nc, cs, np, ps⟩ := S
  obtain ⟨t1, t2, t3, t4, t5, t6, t7⟩ := t
  simp only at h
  clear hk
  refine Pure.intro (want := [boolD q]) T_ok follows Try.func65 rfl (by kernel_rfl) (rs := [.tmp 4]) rfl (by kernel_rfl) ?_
  generalize hP : Try.prog = P at *
  have hT : T.ok P := hP ▸ T_ok
  have hm : P.follows .mixedOrders = true := hP ▸ follows
  unfold Try.f65
  dsimp only
  cbv
  refine PureP.mk _ h0 rfl ?_
  cbv
  refine CallP.pure _ h rfl ?_
  cbv
  exact .mk (.cons (.eq (.refl _)) .nil) rfl
theorem typeOK_lit3 (S : SourceD) (t : TypeD) (q : Bool) (hk : t.kind = 3) (h : Pure Try.prog 95 [.agg t.c, i64 S.units.length] (boolD q)) : Pure Try.prog 65 [.agg S.c, .agg t.c] (boolD q) := by
  have h0 := kinds_pure
  refine Pure.args (.cons (.refl _) (.cons (agg_kind hk) .nil)) ?_
  replace h := Pure.args (args' := [.agg t.c, i64 S.units.length]) (args := [.agg (kindL 3 t), .int .i64 (.len S.units)]) (.cons (kind_agg hk) (.cons (.int (e := .len S.units) (e' := .var (S.units.length : Int)) rfl) .nil)) h
  obtain ⟨ni, is, nu, us, ns, ss, nr, rs, nc, cs, np, ps⟩ := S
  obtain ⟨t1, t2, t3, t4, t5, t6, t7⟩ := t
  simp only at h
  clear hk
  refine Pure.intro (want := [boolD q]) T_ok follows Try.func65 rfl (by kernel_rfl) (rs := [.tmp 4]) rfl (by kernel_rfl) ?_
  generalize hP : Try.prog = P at *
  have hT : T.ok P := hP ▸ T_ok
  have hm : P.follows .mixedOrders = true := hP ▸ follows
  unfold Try.f65
  dsimp only
  cbv
  refine PureP.mk _ h0 rfl ?_
  cbv
  refine CallP.pure _ h rfl ?_
  cbv
  exact .mk (.cons (.eq (.refl _)) .nil) rfl
theorem typeOK_lit4 (S : SourceD) (t : TypeD) (q : Bool) (hk : t.kind = 4) (h : Pure Try.prog 96 [.agg t.c, i64 S.units.length] (boolD q)) : Pure Try.prog 65 [.agg S.c, .agg t.c] (boolD q) := by
  have h0 := kinds_pure
  refine Pure.args (.cons (.refl _) (.cons (agg_kind hk) .nil)) ?_
  replace h := Pure.args (args' := [.agg t.c, i64 S.units.length]) (args := [.agg (kindL 4 t), .int .i64 (.len S.units)]) (.cons (kind_agg hk) (.cons (.int (e := .len S.units) (e' := .var (S.units.length : Int)) rfl) .nil)) h
  obtain ⟨ni, is, nu, us, ns, ss, nr, rs, nc, cs, np, ps⟩ := S
  obtain ⟨t1, t2, t3, t4, t5, t6, t7⟩ := t
  simp only at h
  clear hk
  refine Pure.intro (want := [boolD q]) T_ok follows Try.func65 rfl (by kernel_rfl) (rs := [.tmp 4]) rfl (by kernel_rfl) ?_
  generalize hP : Try.prog = P at *
  have hT : T.ok P := hP ▸ T_ok
  have hm : P.follows .mixedOrders = true := hP ▸ follows
  unfold Try.f65
  dsimp only
  cbv
  refine PureP.mk _ h0 rfl ?_
  cbv
  refine CallP.pure _ h rfl ?_
  cbv
  exact .mk (.cons (.eq (.refl _)) .nil) rfl
set_option maxRecDepth 100000 in
set_option maxHeartbeats 4000000 in
theorem typeOK_pure (S : SourceD) (t : TypeD) (hl : t.names.length ≤ 9223372036854775807) : Pure Try.prog 65 [.agg S.c, .agg t.c] (boolD (kindB t S.units.length)) := by
  by_cases k1 : t.kind = 1
  · rw [show kindB t S.units.length = kind1 t S.units.length from by unfold kindB; rw [if_pos k1]]
    exact typeOK_lit1 S t _ k1 (kind1_pure t _)
  by_cases k2 : t.kind = 2
  · rw [show kindB t S.units.length = kindQ 1023 t from by unfold kindB; rw [if_neg k1, if_pos k2]]
    exact typeOK_lit2 S t _ k2 (kind2_pure t _)
  by_cases k3 : t.kind = 3
  · rw [show kindB t S.units.length = kindQ 4095 t from by unfold kindB; rw [if_neg k1, if_neg k2, if_pos k3]]
    exact typeOK_lit3 S t _ k3 (kind3_pure t _)
  by_cases k4 : t.kind = 4
  · rw [show kindB t S.units.length = kind4 t from by unfold kindB; rw [if_neg k1, if_neg k2, if_neg k3, if_pos k4]]
    exact typeOK_lit4 S t _ k4 (kind4_pure t _ hl)
  rw [show kindB t S.units.length = false from by unfold kindB; rw [if_neg k1, if_neg k2, if_neg k3, if_neg k4]]
  obtain ⟨ni, is, nu, us, ns, ss, nr, rs, nc, cs, np, ps⟩ := S
  obtain ⟨t1, t2, t3, t4, t5, t6, t7⟩ := t
  simp only at k1 k2 k3 k4
  refine Pure.intro (want := [boolD false]) T_ok follows Try.func65 rfl (by kernel_rfl) (rs := [.tmp 4]) rfl (by kernel_rfl) ?_
  generalize hP : Try.prog = P at *
  have hT : T.ok P := hP ▸ T_ok
  have hm : P.follows .mixedOrders = true := hP ▸ follows
  unfold Try.f65
  dsimp only
  cbv
  refine SplitP.mk (fun g1 => ?_) (fun g1 => ?_)
  · exact .mk (.cons (.eq (.bool rfl)) .nil) rfl
  have g2 : ¬ t1 < 1 := of_decide_eq_false g1
  refine SplitP.mk (fun g3 => ?_) (fun g3 => ?_)
  · exact .mk (.cons (.eq (.bool rfl)) .nil) rfl
  have g4 : ¬ t1 > 4 := of_decide_eq_false g3
  omega
end Go.Proofs.Ytdhfakajlnidiaa
namespace Go.Proofs.Ytdhfakajlnidiaa
open Go.RowKit

/-! The check of the types: different numbers. -/
def IntAt (w : World) (a : Option Addr) (L : List Int) : Prop := ∀ k (hk : k < L.length), ∃ b off, a = some ⟨b, off, none⟩ ∧ b < w.heap.size ∧ InR .i64 L[k] ∧ w.cell? ⟨b, off + k, none⟩ = some (.int .i64 L[k])
theorem wf_i {x : Int} (h : InR .i64 x) : (Lit.int .i64 x).wf = true := by
  simpa [Lit.wf, InR] using h
/-- the numbers seen -/
def seenI (L : List Int) (k : Nat) (l : Lit) : Option Lit := if (L.take k).any (fun s => l.sameKey (.int .i64 s)) then some (.bool true) else none
theorem seenI_at {L : List Int} {k : Nat} (s : Int) : seenI L k (.int .i64 s) = if s ∈ L.take k then some (.bool true) else none := by
  unfold seenI
  have hiff : (L.take k).any (fun x => (Lit.int .i64 s).sameKey (.int .i64 x)) = true ↔ s ∈ L.take k := by simp [Lit.sameKey]
  by_cases h : s ∈ L.take k
  · rw [if_pos h, if_pos (hiff.2 h)]
  · rw [if_neg h, if_neg (fun h2 => h (hiff.1 h2))]
theorem seenI_succ {L : List Int} {k : Nat} (hk : k < L.length) (l : Lit) : (if l.sameKey (.int .i64 L[k]) then some (.bool true) else seenI L k l) = seenI L (k + 1) l := by
  unfold seenI
  rw [take_succ' hk, List.any_append]
  simp only [List.any_cons, List.any_nil, Bool.or_false]
  cases l.sameKey (.int .i64 L[k]) <;> simp

set_option maxRecDepth 20000 in
set_option maxHeartbeats 2000000 in
theorem diffI_any (a : Option Addr) (cap : Nat) (L : List Int) (w : World) (hs : IntAt w a L) (hl : L.length ≤ 100000) :
    Calls Try.prog 60 #[.slice a L.length cap] w fun e w' => e = .returned (.bool (decide L.Nodup)) ∧ Below w.heap.size w w' := by
  have Hs := Lib.hid hs
  clear hs
  have hmm := @run_makeMap_hint Try.prog 40 3 4 Try.underlying40 .i64 L.length
  go_enter Try.func60, Try.ntmps60
  go_wp2
  go_loopw [11] (fun i wr => ∃ k : Nat, k ≤ L.length ∧ i = .int .i64 k ∧ GM Try.prog 3 4 wr w.heap.size k (seenI L k) ∧ Hid ((L.take k).Nodup) ∧ Below w.heap.size w wr) (fun i _ => L.length - (intOf i).toNat)
  case atStart => exact ⟨0, Nat.zero_le _, rfl, (GM.made ..).ext (fun l => by simp [seenI]), Lib.hid (by simp), (Below.refl _ _).alloc (Nat.le_refl _) _⟩
  case round =>
    obtain ⟨k, hk, rfl, hm, Hn, hbw⟩ := hrel
    have hsz := hbw.size
    by_cases hlt : k < L.length
    · obtain ⟨b, off, rfl, hb, hsl, c0⟩ := Hs.out k hlt
      rw [← hbw.cell (p := ⟨b, _, none⟩) hb] at c0
      have hat := seenI_at (L := L) (k := k) L[k]
      have hsc := seenI_succ hlt
      generalize hf : L[k] = f at *
      have Hf := Lib.hid hf
      have Hsc := Lib.hid hsc
      have hkey := Lib.hid (Maps.keyOf_int_mk Try.underlying3 (wf_i hsl))
      clear hsl
      by_cases hin : f ∈ L.take k
      · rw [if_pos hin] at hat
        have Hat := Lib.hid hat
        have Hin := Lib.hid hin
        clear hf hsc hat hin hmm
        go_wp2_with (first | (at_lookup; refine wpList_lookup_gm_bool _ rfl _ _ 40 rfl 3 4 keyI Try.underlying40 Try.underlying4 (zero4 _) _ k _ rfl hm _ _ rfl hkey.out true (by rw [Hat.out]) ?_) | go_in)
        go_ret
        exact ⟨ret_bool (by rw [← Hf.out] at Hin; simp [not_nodup_take hlt Hin.out]), hbw⟩
      · rw [if_neg hin] at hat
        have Hat := Lib.hid hat
        have Hin := Lib.hid hin
        clear hf hsc hat hin hmm
        go_wp2_with (first | (at_lookup; refine wpList_lookup_gm_bool _ rfl _ _ 40 rfl 3 4 keyI Try.underlying40 Try.underlying4 (zero4 _) _ k _ rfl hm _ _ rfl hkey.out false (by rw [Hat.out]) ?_) | (at_mapUpdate; refine wpList_mapUpdate_gm _ rfl _ _ _ 40 rfl 3 4 keyI Try.underlying40 _ k _ rfl hm (by unfold maxLen; omega) _ _ _ rfl rfl hkey.out trivial (.bool true) [] (plainElem_bool Try.underlying4 true) ?_; intro w1 hm1 hg1) | go_in)
        go_roundw
        case rel => exact ⟨k + 1, by omega, by go_num, hm1.ext Hsc.out, Lib.hid (take_nodup_succ hlt Hn.out (by rw [Hf.out]; exact Hin.out)), hbw.grown hg1 hsz (fun j hj => by cases hj; exact Nat.le_refl _)⟩
        case measure => simp [intOf]; omega
    · have hq : k = L.length := by omega
      subst hq
      go_wp2
      go_ret
      exact ⟨ret_bool (by have := Hn.out; simpa using this), hbw⟩
theorem intAt_of {w : World} {E : Env} {nb : Option BE} {L : List Int} {v : Value} (h : DRep w E (.slm 1 nb intC L) v) (hG : ∀ b, E.G b → b < w.heap.size) : ∃ a cap, v = .slice a L.length cap ∧ IntAt w a L := by
  cases h with
  | @slm _ _ _ _ _ _ a cap u hnb hc hm hx ha hh =>
    refine ⟨a, cap, rfl, fun k hk => ?_⟩
    obtain ⟨b, o, rfl, hg, hcl⟩ := ha (fun e => by rw [e] at hk; cases hk)
    have h1 := hcl k 0 hk (by decide)
    have h2 := hh k L[k] 0 _ (List.getElem?_eq_getElem hk) rfl
    rw [show o + k * 1 + 0 = o + k by omega] at h1
    generalize u k 0 = x at h1 h2
    cases h2 with
    | int hs => exact ⟨b, o, rfl, hG b hg, hs, h1⟩
set_option maxRecDepth 100000 in
set_option maxHeartbeats 4000000 in
theorem diffI_pure (L : List Int) (nb : Option BE) (hl : L.length ≤ 100000) : Pure Try.prog 60 [.slm 1 nb intC L] (boolD (decide L.Nodup)) := by
  refine ⟨⟨_, _, Try.func60, rfl, by kernel_rfl⟩, fun w G vs hL hG hv => ?_⟩
  obtain ⟨h1, h2⟩ := hv
  obtain ⟨vl⟩ := vs
  match vl, h1 with
  | [v], _ =>
    obtain ⟨a, cap, rfl, hs⟩ := intAt_of (h2 0 _ v rfl rfl) hG
    refine (diffI_any a cap L w hs hl).mono ?_
    rintro e w' ⟨rfl, hb⟩
    exact ⟨_, G, rfl, hb, fun _ h => h, fun _ h => .inl h, fun b h => Nat.lt_of_lt_of_le (hG b h) hb.size, .bool (e := .var (decide L.Nodup))⟩
end Go.Proofs.Ytdhfakajlnidiaa
namespace Go.Proofs.Ytdhfakajlnidiaa
open Go.RowKit

/-! The check of the types: purposes, schemas. -/
theorem typeOf_ex (S : SourceD) (i j : Int) : ∃ t b, typeOf? S i j = (if b = true then some t else none) ∧ Pure Try.prog 58 [.agg S.c, i64 i, i64 j] (.tup [.agg t.c, boolD b]) := by
  have h := typeOf_pure S i j
  cases ho : typeOf? S i j with
  | none => exact ⟨_, false, rfl, by rw [ho] at h; exact h⟩
  | some t => exact ⟨t, true, rfl, by rw [ho] at h; exact h⟩
theorem termTy_ex (S : SourceD) (r : RuleD) (t : TermD) (n : Int) (hn : n ≤ (r.froms.length : Int)) : ∃ y b, termTy? S r.froms t n = (if b = true then some y else none) ∧ Pure Try.prog 74 [.agg (S.c ++ r.c), .agg t.c, i64 n] (.tup [.agg y.c, boolD b]) := by
  have h := termType_pure S r t n hn
  cases ho : termTy? S r.froms t n with
  | none => exact ⟨_, false, rfl, by rw [ho] at h; exact h⟩
  | some y => exact ⟨y, true, rfl, by rw [ho] at h; exact h⟩
def refIn (S : SourceD) (r : RefD) : Bool := (typeOf? S r.schema r.field).isSome
def purpB (S : SourceD) (pu : PurposeD) : Bool := pu.may.all (refIn S) && (decide (0 ≤ pu.most) && decide (pu.most ≤ 64))
set_option maxRecDepth 100000 in
set_option maxHeartbeats 4000000 in
theorem purposeOK_pure (S : SourceD) (pu : PurposeD) (hl : pu.may.length < 9223372036854775807) : Pure Try.prog 44 [.agg S.c, .agg pu.c] (boolD (purpB S pu)) := by
  have hty := fun i j => typeOf_ex S i j
  obtain ⟨r, hr⟩ : ∃ r, r = purpB S pu := ⟨_, rfl⟩
  rw [← hr]
  unfold purpB at hr
  have hRI : ∀ x : RefD, ∃ t b, refIn S x = b ∧ Pure Try.prog 58 [.agg S.c, i64 x.schema, i64 x.field] (.tup [.agg (TypeD.c t), boolD b]) := fun x => by
    obtain ⟨t, b, h1, h2⟩ := hty x.schema x.field
    exact ⟨t, b, by unfold refIn; rw [h1]; cases b <;> rfl, h2⟩
  clear hty
  obtain ⟨RI, hR⟩ : ∃ f, f = refIn S := ⟨_, rfl⟩
  rw [← hR] at hRI hr
  clear hR
  obtain ⟨ni, is, nu, us, ns, ss, nr, rs, nc, cs, np, ps⟩ := S
  obtain ⟨p1, p2, l, p4⟩ := pu
  simp only at hr hl
  obtain ⟨n, hn⟩ : ∃ n : Nat, n = l.length := ⟨_, rfl⟩
  refine Pure.intro (want := [boolD r]) T_ok follows Try.func44 rfl (by kernel_rfl) (rs := [.tmp 4]) rfl (by kernel_rfl) ?_
  generalize hP : Try.prog = P at *
  have hT : T.ok P := hP ▸ T_ok
  have hm : P.follows .mixedOrders = true := hP ▸ follows
  unfold Try.f44
  dsimp only
  cbv
  refine CodeP.loopc hT hm (X := Nat) (fun k => [(12, .int .i64 (.nat k))]) (fun k => k ≤ l.length ∧ r = ((l.drop k).all RI && (decide (0 ≤ p4) && decide (p4 ≤ 64)))) (fun k => n - k) 0 ⟨by simp, hr⟩ (Nat.zero_le _) ?_ rfl ?_
  · (cbv; (repeat' (first | exact SnD.refl _ | exact trivial | exact SnD.nat0 | refine And.intro ?_ ?_)))
  intro k ⟨hk, hq⟩
  cbv
  refine SplitP.mk (fun hs => ?_) (fun hs => ?_)
  · have hkn : k < l.length := by
      have h5 : decide ((k : Int) < (l.length : Int)) = true := hs
      have := of_decide_eq_true h5
      omega
    clear hs
    refine ElemP.mk (by show (0 : Int) ≤ (k : Int) ∧ (k : Int) < (l.length : Int); omega) (fun y hy => ?_)
    replace hy : l[k]? = some y := hy
    rw [drop_cons hy, List.all_cons] at hq
    obtain ⟨ty, b, hb, hp⟩ := hRI y
    rw [hb] at hq
    clear hRI hb
    obtain ⟨y1, y2, y3, y4⟩ := y
    obtain ⟨t1, t2, t3, t4, t5, t6, t7⟩ := ty
    cbv
    refine CallP.pure _ hp rfl ?_
    cbv
    refine SplitP.mk (fun h => ?_) (fun h => ?_)
    · have h3 : (!b) = true := h
      refine .mk (.cons (.eq (.bool ?_)) .nil) rfl
      rw [BE.lit_d, BE.var_d]
      rw [hq]; cases b <;> simp_all
    · have h3 : (!b) = false := h
      refine BackP.intro (k + 1) ⟨by omega, by rw [hq]; cases b <;> simp_all⟩ (by show n - (k + 1) < n - k; omega) ⟨?_, ?_, rfl⟩
      · (cbv; (repeat' (first | exact SnD.refl _ | exact trivial | exact SnD.nat0 | refine And.intro ?_ ?_)))
        exact .inc (by omega)
      · (cbv; (repeat' (first | exact trivial | exact BkEq.refl _ | exact SnD.refl _ | exact SnDs.nil | refine BkEq.cells ?_ | refine SnDs.cons ?_ ?_ | refine And.intro ?_ ?_)))
  · have hkn : l.length ≤ k := by
      have h5 : decide ((k : Int) < (l.length : Int)) = false := hs
      have := of_decide_eq_false h5
      omega
    clear hs
    rw [List.drop_of_length_le (by omega), List.all_nil, Bool.true_and] at hq
    clear hr
    have hr := hq
    clear hq
    ((repeat' (refine SplitP.mk (fun _ => ?_) (fun _ => ?_))); all_goals (try simp only [BE.den, IE.den, cmpDen, Bool.not_eq_true, Bool.not_eq_false, Bool.not_eq_eq_eq_not, Bool.not_true, Bool.not_false, dec_t, dec_f, beq_iff_eq, beq_eq_false_iff_ne, bne_iff_ne, ne_eq, bne_eq_false_iff_eq, ge_iff_le, gt_iff_lt, Int.not_lt, Int.not_le] at *); all_goals (refine .mk (.cons (.eq (.bool ?_)) .nil) rfl; simp only [BE.den, IE.den, cmpDen]; rw [hr, Bool.eq_iff_iff]; simp only [Bool.and_eq_true, Bool.or_eq_true, dec_t, dec_f, beq_iff_eq, bne_iff_ne, ge_iff_le, gt_iff_lt, Bool.false_eq_true, false_iff, true_iff]; first | omega | grind))
def wOK (n : Int) : Bool := decide (0 ≤ n) && decide (n ≤ 9)
def fieldB (s : SourceD) (f : FieldD) : Bool := kindB f.type s.units.length && [f.w0, f.w1, f.w2, f.w3].all wOK
def selfB (l : List FieldD) : Bool := match l[0]? with | some f => decide (f.type.kind = 3) | none => false
def schB (s : SourceD) (x : SchemaD) : Bool :=
  (decide (0 ≤ x.issuer) && decide (x.issuer < s.issuers.length) && decide (1 ≤ x.version) && decide (x.version ≤ 255) && decide (1 ≤ x.fields.length) && decide (x.fields.length ≤ 12)) && (selfB x.fields && x.fields.all (fieldB s))
set_option maxRecDepth 100000 in
set_option maxHeartbeats 4000000 in
theorem schemaOK_pure (S : SourceD) (x : SchemaD) (hN : ∀ f ∈ x.fields, f.type.names.length ≤ 9223372036854775807) : Pure Try.prog 41 [.agg S.c, .agg x.c] (boolD (schB S x)) := by
  obtain ⟨r, hr⟩ : ∃ r, r = schB S x := ⟨_, rfl⟩
  rw [← hr]
  unfold schB at hr
  have hKO : ∀ f : FieldD, f ∈ x.fields → ∃ b, kindB f.type S.units.length = b ∧ Pure Try.prog 65 [.agg S.c, .agg f.type.c] (boolD b) := fun f hf => ⟨_, rfl, typeOK_pure S f.type (hN f hf)⟩
  have hFB : ∀ f, fieldB S f = (kindB f.type S.units.length && [f.w0, f.w1, f.w2, f.w3].all wOK) := fun f => rfl
  clear hN
  obtain ⟨KO, hK⟩ : ∃ f : FieldD → Bool, f = fun f => kindB f.type S.units.length := ⟨_, rfl⟩
  obtain ⟨FB, hF⟩ : ∃ f, f = fieldB S := ⟨_, rfl⟩
  replace hKO : ∀ f : FieldD, f ∈ x.fields → ∃ b, KO f = b ∧ Pure Try.prog 65 [.agg S.c, .agg f.type.c] (boolD b) := fun f hf => by rw [hK]; exact hKO f hf
  replace hFB : ∀ f, FB f = (KO f && [f.w0, f.w1, f.w2, f.w3].all wOK) := fun f => by rw [hF, hK]; exact hFB f
  rw [← hF] at hr
  clear hF hK
  obtain ⟨ni, is, nu, us, ns, ss, nr, rs, nc, cs, np, ps⟩ := S
  obtain ⟨x1, x2, x3, x4, x5, l, x7, x8⟩ := x
  simp only at hr hKO
  obtain ⟨n, hn⟩ : ∃ n : Nat, n = l.length := ⟨_, rfl⟩
  obtain ⟨sb, hsb⟩ : ∃ b, b = selfB l := ⟨_, rfl⟩
  rw [← hsb] at hr
  unfold selfB at hsb
  refine Pure.intro (want := [boolD r]) T_ok follows Try.func41 rfl (by kernel_rfl) (rs := [.tmp 4]) rfl (by kernel_rfl) ?_
  generalize hP : Try.prog = P at *
  have hT : T.ok P := hP ▸ T_ok
  have hm : P.follows .mixedOrders = true := hP ▸ follows
  unfold Try.f41
  dsimp only
  cbv
  refine SplitP.mk (fun g => ?_) (fun g => ?_)
  · clear hKO hFB
    have g' : x3 < 0 := of_decide_eq_true g
    clear g
    refine .mk (.cons (.eq (.bool ?_)) .nil) rfl
    show false = r
    rw [hr]
    symm
    rw [Bool.and_eq_false_iff]
    refine .inl ?_
    rw [Bool.eq_false_iff]
    intro e
    simp only [Bool.and_eq_true, decide_eq_true_eq] at e
    first
      | omega
      | exact absurd e.1.1.1.1.2 (Int.not_lt.2 g')
  have g1 : ¬ x3 < 0 := of_decide_eq_false g
  clear g
  refine SplitP.mk (fun g => ?_) (fun g => ?_)
  · clear hKO hFB
    have g' : x3 ≥ (is.length : Int) := of_decide_eq_true g
    clear g
    refine .mk (.cons (.eq (.bool ?_)) .nil) rfl
    show false = r
    rw [hr]
    symm
    rw [Bool.and_eq_false_iff]
    refine .inl ?_
    rw [Bool.eq_false_iff]
    intro e
    simp only [Bool.and_eq_true, decide_eq_true_eq] at e
    first
      | omega
      | exact absurd e.1.1.1.1.2 (Int.not_lt.2 g')
  have g2 : ¬ x3 ≥ (is.length : Int) := of_decide_eq_false g
  clear g
  refine SplitP.mk (fun g => ?_) (fun g => ?_)
  · clear hKO hFB
    have g' : x4 < 1 := of_decide_eq_true g
    clear g
    refine .mk (.cons (.eq (.bool ?_)) .nil) rfl
    show false = r
    rw [hr]
    symm
    rw [Bool.and_eq_false_iff]
    refine .inl ?_
    rw [Bool.eq_false_iff]
    intro e
    simp only [Bool.and_eq_true, decide_eq_true_eq] at e
    first
      | omega
      | exact absurd e.1.1.1.1.2 (Int.not_lt.2 g')
  have g3 : ¬ x4 < 1 := of_decide_eq_false g
  clear g
  refine SplitP.mk (fun g => ?_) (fun g => ?_)
  · clear hKO hFB
    have g' : x4 > 255 := of_decide_eq_true g
    clear g
    refine .mk (.cons (.eq (.bool ?_)) .nil) rfl
    show false = r
    rw [hr]
    symm
    rw [Bool.and_eq_false_iff]
    refine .inl ?_
    rw [Bool.eq_false_iff]
    intro e
    simp only [Bool.and_eq_true, decide_eq_true_eq] at e
    first
      | omega
      | exact absurd e.1.1.1.1.2 (Int.not_lt.2 g')
  have g4 : ¬ x4 > 255 := of_decide_eq_false g
  clear g
  refine SplitP.mk (fun g => ?_) (fun g => ?_)
  · clear hKO hFB
    have g' : (l.length : Int) < 1 := of_decide_eq_true g
    clear g
    refine .mk (.cons (.eq (.bool ?_)) .nil) rfl
    show false = r
    rw [hr]
    symm
    rw [Bool.and_eq_false_iff]
    refine .inl ?_
    rw [Bool.eq_false_iff]
    intro e
    simp only [Bool.and_eq_true, decide_eq_true_eq] at e
    first
      | omega
      | exact absurd e.1.1.1.1.2 (Int.not_lt.2 g')
  have g5 : ¬ (l.length : Int) < 1 := of_decide_eq_false g
  clear g
  refine SplitP.mk (fun g => ?_) (fun g => ?_)
  · clear hKO hFB
    have g' : (l.length : Int) > 12 := of_decide_eq_true g
    clear g
    refine .mk (.cons (.eq (.bool ?_)) .nil) rfl
    show false = r
    rw [hr]
    symm
    rw [Bool.and_eq_false_iff]
    refine .inl ?_
    rw [Bool.eq_false_iff]
    intro e
    simp only [Bool.and_eq_true, decide_eq_true_eq] at e
    first
      | omega
      | exact absurd e.1.1.1.1.2 (Int.not_lt.2 g')
  have g6 : ¬ (l.length : Int) > 12 := of_decide_eq_false g
  clear g
  have hlen : 1 ≤ l.length ∧ l.length ≤ 12 := by omega
  have hpre : ((decide (0 ≤ x3) && decide (x3 < (is.length : Int)) && decide (1 ≤ x4) && decide (x4 ≤ 255) && decide (1 ≤ l.length) && decide (l.length ≤ 12)) : Bool) = true := by
    simp only [Bool.and_eq_true, decide_eq_true_eq]
    exact ⟨⟨⟨⟨⟨Int.not_lt.1 g1, Int.not_le.1 g2⟩, by omega⟩, by omega⟩, by omega⟩, by omega⟩
  rw [hpre, Bool.true_and] at hr
  clear hpre
  refine ElemP.mk (by show (0 : Int) ≤ 0 ∧ (0 : Int) < (l.length : Int); omega) (fun f0 hf0 => ?_)
  replace hf0 : l[0]? = some f0 := hf0
  rw [hf0] at hsb
  simp only at hsb
  obtain ⟨z1, ⟨z2, z3, z4, z5, z6, z7, z8⟩, z9, z10, z11, z12⟩ := f0
  simp only at hsb
  cbv
  refine SplitP.mk (fun g => ?_) (fun g => ?_)
  · clear hKO hFB
    have h3 : (z2 != 3) = true := g
    have h4 : z2 ≠ 3 := by simpa using h3
    rw [hsb, decide_eq_false h4] at hr
    refine .mk (.cons (.eq (.bool ?_)) .nil) rfl
    rw [BE.lit_d, BE.var_d]
    exact hr.symm
  have h3 : (z2 != 3) = false := g
  have h4 : z2 = 3 := by simpa using h3
  rw [hsb, decide_eq_true h4, Bool.true_and] at hr
  clear h3 g hf0 hsb h4
  refine CodeP.loopc hT hm (X := Nat) (fun k => [(55, .int .i64 (.nat k))]) (fun k => k ≤ l.length ∧ r = (l.drop k).all FB) (fun k => n - k) 0 ⟨by simp, hr⟩ (Nat.zero_le _) ?_ rfl ?_
  · (cbv; (repeat' (first | exact SnD.refl _ | exact trivial | exact SnD.nat0 | refine And.intro ?_ ?_)))
  intro k ⟨hk, hq⟩
  cbv
  refine SplitP.mk (fun hs => ?_) (fun hs => ?_)
  · have hkn : k < l.length := by
      have h5 : decide ((k : Int) < (l.length : Int)) = true := hs
      have := of_decide_eq_true h5
      omega
    clear hs
    refine ElemP.mk (by show (0 : Int) ≤ (k : Int) ∧ (k : Int) < (l.length : Int); omega) (fun y hy => ?_)
    replace hy : l[k]? = some y := hy
    rw [drop_cons hy, List.all_cons, hFB] at hq
    obtain ⟨b, hb, hp⟩ := hKO y (List.mem_of_getElem? hy)
    rw [hb] at hq
    clear hKO hb hFB hy
    obtain ⟨y1, ⟨y2, y3, y4, y5, y6, y7, y8⟩, y9, y10, y11, y12⟩ := y
    cbv
    refine CallP.pure _ hp rfl ?_
    clear hp
    cbv
    refine SplitP.mk (fun h => ?_) (fun h => ?_)
    · have h3 : (!b) = true := h
      refine .mk (.cons (.eq (.bool ?_)) .nil) rfl
      rw [BE.lit_d, BE.var_d]
      rw [hq]; cases b <;> simp_all
    have h3 : (!b) = false := h
    have h4 : b = true := by simpa using h3
    rw [h4, Bool.true_and] at hq
    simp only [List.all_cons, List.all_nil, Bool.and_true, wOK] at hq
    clear h h3 h4
    refine CodeP.rounds hT hm 5 ?_
    cbv
    refine SplitP.mk (fun g => ?_) (fun g => ?_)
    · have g' : ¬ 0 ≤ y9 := by have h := of_decide_eq_true (show decide (y9 < 0) = true from g); omega
      rw [decide_eq_false g'] at hq
      refine .mk (.cons (.eq (.bool ?_)) .nil) rfl
      rw [BE.lit_d, BE.var_d]
      rw [hq]; simp
    have gay9 : 0 ≤ y9 := by have h := of_decide_eq_false (show decide (y9 < 0) = false from g); omega
    clear g
    refine SplitP.mk (fun g => ?_) (fun g => ?_)
    · have g' : ¬ y9 ≤ 9 := by have h := of_decide_eq_true (show decide (y9 > 9) = true from g); omega
      rw [decide_eq_false g'] at hq
      refine .mk (.cons (.eq (.bool ?_)) .nil) rfl
      rw [BE.lit_d, BE.var_d]
      rw [hq]; simp
    have gby9 : y9 ≤ 9 := by have h := of_decide_eq_false (show decide (y9 > 9) = false from g); omega
    clear g
    refine SplitP.mk (fun g => ?_) (fun g => ?_)
    · have g' : ¬ 0 ≤ y10 := by have h := of_decide_eq_true (show decide (y10 < 0) = true from g); omega
      rw [decide_eq_false g'] at hq
      refine .mk (.cons (.eq (.bool ?_)) .nil) rfl
      rw [BE.lit_d, BE.var_d]
      rw [hq]; simp
    have gay10 : 0 ≤ y10 := by have h := of_decide_eq_false (show decide (y10 < 0) = false from g); omega
    clear g
    refine SplitP.mk (fun g => ?_) (fun g => ?_)
    · have g' : ¬ y10 ≤ 9 := by have h := of_decide_eq_true (show decide (y10 > 9) = true from g); omega
      rw [decide_eq_false g'] at hq
      refine .mk (.cons (.eq (.bool ?_)) .nil) rfl
      rw [BE.lit_d, BE.var_d]
      rw [hq]; simp
    have gby10 : y10 ≤ 9 := by have h := of_decide_eq_false (show decide (y10 > 9) = false from g); omega
    clear g
    refine SplitP.mk (fun g => ?_) (fun g => ?_)
    · have g' : ¬ 0 ≤ y11 := by have h := of_decide_eq_true (show decide (y11 < 0) = true from g); omega
      rw [decide_eq_false g'] at hq
      refine .mk (.cons (.eq (.bool ?_)) .nil) rfl
      rw [BE.lit_d, BE.var_d]
      rw [hq]; simp
    have gay11 : 0 ≤ y11 := by have h := of_decide_eq_false (show decide (y11 < 0) = false from g); omega
    clear g
    refine SplitP.mk (fun g => ?_) (fun g => ?_)
    · have g' : ¬ y11 ≤ 9 := by have h := of_decide_eq_true (show decide (y11 > 9) = true from g); omega
      rw [decide_eq_false g'] at hq
      refine .mk (.cons (.eq (.bool ?_)) .nil) rfl
      rw [BE.lit_d, BE.var_d]
      rw [hq]; simp
    have gby11 : y11 ≤ 9 := by have h := of_decide_eq_false (show decide (y11 > 9) = false from g); omega
    clear g
    refine SplitP.mk (fun g => ?_) (fun g => ?_)
    · have g' : ¬ 0 ≤ y12 := by have h := of_decide_eq_true (show decide (y12 < 0) = true from g); omega
      rw [decide_eq_false g'] at hq
      refine .mk (.cons (.eq (.bool ?_)) .nil) rfl
      rw [BE.lit_d, BE.var_d]
      rw [hq]; simp
    have gay12 : 0 ≤ y12 := by have h := of_decide_eq_false (show decide (y12 < 0) = false from g); omega
    clear g
    refine SplitP.mk (fun g => ?_) (fun g => ?_)
    · have g' : ¬ y12 ≤ 9 := by have h := of_decide_eq_true (show decide (y12 > 9) = true from g); omega
      rw [decide_eq_false g'] at hq
      refine .mk (.cons (.eq (.bool ?_)) .nil) rfl
      rw [BE.lit_d, BE.var_d]
      rw [hq]; simp
    have gby12 : y12 ≤ 9 := by have h := of_decide_eq_false (show decide (y12 > 9) = false from g); omega
    clear g
    refine BackP.intro (k + 1) ⟨by omega, by rw [hq]; simp only [decide_eq_true, Bool.true_and, Bool.and_true, *]⟩ (by show n - (k + 1) < n - k; omega) ⟨?_, ?_, rfl⟩
    · (cbv; (repeat' (first | exact SnD.refl _ | exact trivial | exact SnD.nat0 | refine And.intro ?_ ?_)))
      exact .inc (by omega)
    · (cbv; (repeat' (first | exact trivial | exact BkEq.refl _ | exact SnD.refl _ | exact SnDs.nil | refine BkEq.cells ?_ | refine SnDs.cons ?_ ?_ | refine And.intro ?_ ?_)))
  · have hkn : l.length ≤ k := by
      have h5 : decide ((k : Int) < (l.length : Int)) = false := hs
      have := of_decide_eq_false h5
      omega
    clear hs
    rw [List.drop_of_length_le (by omega), List.all_nil] at hq
    refine .mk (.cons (.eq (.bool ?_)) .nil) rfl
    rw [BE.lit_d, BE.var_d]
    exact hq.symm
end Go.Proofs.Ytdhfakajlnidiaa
namespace Go.Proofs.Ytdhfakajlnidiaa
open Go.RowKit

/-! The check of the types: the variables of a rule. -/
def schIn (s : SourceD) (n : Int) : Bool := decide (0 ≤ n) && decide (n < s.schemas.length)
def fromB (s : SourceD) (fs : List FromD) (i : Nat) : Bool := match fs[i]? with
  | some f => schIn s f.schema && (decide (f.of.vr = -1) || match termTy? s fs f.of i with | some t => decide (t.kind = 3) | none => false)
  | none => true
def fromsB (s : SourceD) (fs : List FromD) : Bool := decide (1 ≤ fs.length) && decide (fs.length ≤ 3) && (List.range fs.length).all (fromB s fs)
set_option maxRecDepth 100000 in
set_option maxHeartbeats 4000000 in
theorem fromsOK_pure (S : SourceD) (R : RuleD) : Pure Try.prog 56 [.agg (S.c ++ R.c)] (boolD (fromsB S R.froms)) := by
  obtain ⟨r, hr⟩ : ∃ r, r = fromsB S R.froms := ⟨_, rfl⟩
  rw [← hr]
  unfold fromsB at hr
  have hFB : ∀ (k : Nat) (f : FromD), R.froms[k]? = some f → ∃ t b, fromB S R.froms k = ((decide (0 ≤ f.schema) && decide (f.schema < S.schemas.length)) && (decide (f.of.vr = -1) || (b && decide (t.kind = 3)))) ∧ Pure Try.prog 74 [.agg (S.c ++ R.c), .agg f.of.c, .int .i64 (.nat k)] (.tup [.agg (TypeD.c t), boolD b]) := fun k f hf => by
    have hk := (List.getElem?_eq_some_iff.1 hf).1
    obtain ⟨t, b, h1, h2⟩ := termTy_ex S R f.of k (by omega)
    replace h2 := Pure.args (args := [.agg (S.c ++ R.c), .agg f.of.c, .int .i64 (.nat k)]) (args' := [.agg (S.c ++ R.c), .agg f.of.c, i64 k]) (.cons (.refl _) (.cons (.refl _) (.cons (.int (e := .nat k) (e' := .var (k : Int)) rfl) .nil))) h2
    refine ⟨t, b, ?_, h2⟩
    unfold fromB schIn
    rw [hf]
    simp only
    rw [h1]
    cases b <;> simp
  obtain ⟨FB, hF⟩ : ∃ f : Nat → Bool, f = fun k => fromB S R.froms k := ⟨_, rfl⟩
  obtain ⟨ALL, hA⟩ : ∃ f : Nat → Bool, f = fun k => (List.range' k (R.froms.length - k)).all (fromB S R.froms) := ⟨_, rfl⟩
  have hA0 : (List.range R.froms.length).all (fromB S R.froms) = ALL 0 := by rw [hA]; simp only [Nat.sub_zero]; rw [List.range_eq_range']
  have hAs : ∀ k, k < R.froms.length → ALL k = (FB k && ALL (k + 1)) := fun k hk => by
    rw [hA, hF]
    simp only
    rw [show R.froms.length - k = (R.froms.length - (k + 1)) + 1 by omega, List.range'_succ, List.all_cons]
  have hAe : ALL R.froms.length = true := by rw [hA]; simp
  replace hFB : ∀ (k : Nat) (f : FromD), R.froms[k]? = some f → ∃ t b, FB k = ((decide (0 ≤ f.schema) && decide (f.schema < S.schemas.length)) && (decide (f.of.vr = -1) || (b && decide (t.kind = 3)))) ∧ Pure Try.prog 74 [.agg (S.c ++ R.c), .agg f.of.c, .int .i64 (.nat k)] (.tup [.agg (TypeD.c t), boolD b]) := fun k f hf => by
    rw [hF]
    exact hFB k f hf
  rw [hA0] at hr
  clear hA hF hA0
  obtain ⟨ni, is, nu, us, ns, ss, nr, rs, nc, cs, np, ps⟩ := S
  obtain ⟨x1, x2, x3, l, x5, x6, x7, x8⟩ := R
  simp only at hr hFB hAs hAe
  obtain ⟨n, hn⟩ : ∃ n : Nat, n = l.length := ⟨_, rfl⟩
  refine Pure.intro (want := [boolD r]) T_ok follows Try.func56 rfl (by kernel_rfl) (rs := [.tmp 2]) rfl (by kernel_rfl) ?_
  generalize hP : Try.prog = P at *
  have hT : T.ok P := hP ▸ T_ok
  have hm : P.follows .mixedOrders = true := hP ▸ follows
  unfold Try.f56
  dsimp only
  cbv
  refine SplitP.mk (fun g => ?_) (fun g => ?_)
  · have g' : ¬ 1 ≤ l.length := by have h := of_decide_eq_true (show decide ((l.length : Int) < 1) = true from g); omega
    rw [decide_eq_false g'] at hr
    refine .mk (.cons (.eq (.bool ?_)) .nil) rfl
    rw [BE.lit_d, BE.var_d]
    rw [hr]; simp
  have g1 : 1 ≤ l.length := by have h := of_decide_eq_false (show decide ((l.length : Int) < 1) = false from g); omega
  rw [decide_eq_true g1, Bool.true_and] at hr
  clear g
  refine SplitP.mk (fun g => ?_) (fun g => ?_)
  · have g' : ¬ l.length ≤ 3 := by have h := of_decide_eq_true (show decide ((l.length : Int) > 3) = true from g); omega
    rw [decide_eq_false g'] at hr
    refine .mk (.cons (.eq (.bool ?_)) .nil) rfl
    rw [BE.lit_d, BE.var_d]
    rw [hr]; simp
  have g2 : l.length ≤ 3 := by have h := of_decide_eq_false (show decide ((l.length : Int) > 3) = false from g); omega
  rw [decide_eq_true g2, Bool.true_and] at hr
  clear g
  refine CodeP.loopc hT hm (X := Nat) (fun k => [(23, .int .i64 (.nat k))]) (fun k => k ≤ l.length ∧ r = ALL k) (fun k => n - k) 0 ⟨by simp, hr⟩ (Nat.zero_le _) ?_ rfl ?_
  · (cbv; (repeat' (first | exact SnD.refl _ | exact trivial | exact SnD.nat0 | refine And.intro ?_ ?_)))
  clear hr
  intro k ⟨hk, hq⟩
  cbv
  refine SplitP.mk (fun hs => ?_) (fun hs => ?_)
  · have hkn : k < l.length := by
      have h5 : decide ((k : Int) < (l.length : Int)) = true := hs
      have := of_decide_eq_true h5
      omega
    clear hs
    refine ElemP.mk (by show (0 : Int) ≤ (k : Int) ∧ (k : Int) < (l.length : Int); omega) (fun y hy => ?_)
    replace hy : l[k]? = some y := hy
    rw [hAs k hkn] at hq
    obtain ⟨ty, b, hb, hp⟩ := hFB k y hy
    rw [hb] at hq
    clear hFB hb hAs hAe
    obtain ⟨y1, y2, y3, ⟨y4, y5, y6, y7, y8⟩⟩ := y
    obtain ⟨t1, t2, t3, t4, t5, t6, t7⟩ := ty
    simp only at hq
    cbv
    refine SplitP.mk (fun g => ?_) (fun g => ?_)
    · have g' : ¬ 0 ≤ y3 := by have h := of_decide_eq_true (show decide (y3 < 0) = true from g); omega
      rw [decide_eq_false g'] at hq
      refine .mk (.cons (.eq (.bool ?_)) .nil) rfl
      rw [BE.lit_d, BE.var_d]
      rw [hq]; simp
    have g3 : 0 ≤ y3 := by have h := of_decide_eq_false (show decide (y3 < 0) = false from g); omega
    rw [decide_eq_true g3, Bool.true_and] at hq
    clear g
    refine SplitP.mk (fun g => ?_) (fun g => ?_)
    · have g' : ¬ y3 < (ss.length : Int) := by have h := of_decide_eq_true (show decide (y3 ≥ (ss.length : Int)) = true from g); omega
      rw [decide_eq_false g'] at hq
      refine .mk (.cons (.eq (.bool ?_)) .nil) rfl
      rw [BE.lit_d, BE.var_d]
      rw [hq]; simp
    have g4 : y3 < (ss.length : Int) := by have h := of_decide_eq_false (show decide (y3 ≥ (ss.length : Int)) = false from g); omega
    rw [decide_eq_true g4, Bool.true_and] at hq
    clear g
    refine SplitP.mk (fun g => ?_) (fun g => ?_)
    · have g3' : (y6 == -1) = true := g
      have g4' : y6 = -1 := by simpa using g3'
      rw [decide_eq_true g4', Bool.true_or, Bool.true_and] at hq
      refine BackP.intro (k + 1) ⟨by omega, hq⟩ (by show n - (k + 1) < n - k; omega) ⟨?_, ?_, rfl⟩
      · (cbv; (repeat' (first | exact SnD.refl _ | exact trivial | exact SnD.nat0 | refine And.intro ?_ ?_)))
        exact .inc (by omega)
      · (cbv; (repeat' (first | exact trivial | exact BkEq.refl _ | exact SnD.refl _ | exact SnDs.nil | refine BkEq.cells ?_ | refine SnDs.cons ?_ ?_ | refine And.intro ?_ ?_)))
    have g3' : (y6 == -1) = false := g
    have g4' : y6 ≠ -1 := by simpa using g3'
    rw [decide_eq_false g4', Bool.false_or] at hq
    clear g3' g
    refine CallP.pure _ hp rfl ?_
    clear hp
    cbv
    refine SplitP.mk (fun h => ?_) (fun h => ?_)
    · have h3 : (!b) = true := h
      refine .mk (.cons (.eq (.bool ?_)) .nil) rfl
      rw [BE.lit_d, BE.var_d]
      rw [hq]; cases b <;> simp_all
    have h3 : (!b) = false := h
    have h4 : b = true := by simpa using h3
    rw [h4, Bool.true_and] at hq
    clear h3 h
    refine SplitP.mk (fun h => ?_) (fun h => ?_)
    · have h3 : (t1 != 3) = true := h
      have h4 : t1 ≠ 3 := by simpa using h3
      rw [decide_eq_false h4] at hq
      refine .mk (.cons (.eq (.bool ?_)) .nil) rfl
      rw [BE.lit_d, BE.var_d]
      rw [hq]; simp
    have h3 : (t1 != 3) = false := h
    have h4 : t1 = 3 := by simpa using h3
    rw [decide_eq_true h4, Bool.true_and] at hq
    refine BackP.intro (k + 1) ⟨by omega, hq⟩ (by show n - (k + 1) < n - k; omega) ⟨?_, ?_, rfl⟩
    · (cbv; (repeat' (first | exact SnD.refl _ | exact trivial | exact SnD.nat0 | refine And.intro ?_ ?_)))
      exact .inc (by omega)
    · (cbv; (repeat' (first | exact trivial | exact BkEq.refl _ | exact SnD.refl _ | exact SnDs.nil | refine BkEq.cells ?_ | refine SnDs.cons ?_ ?_ | refine And.intro ?_ ?_)))
  · have hkn : l.length ≤ k := by
      have h5 : decide ((k : Int) < (l.length : Int)) = false := hs
      have := of_decide_eq_false h5
      omega
    clear hs
    have hkl : k = l.length := by omega
    rw [hkl, hAe] at hq
    refine .mk (.cons (.eq (.bool ?_)) .nil) rfl
    rw [BE.lit_d, BE.var_d]
    exact hq.symm
end Go.Proofs.Ytdhfakajlnidiaa
namespace Go.Proofs.Ytdhfakajlnidiaa
open Go.RowKit

/-! The check of the types: what a rule sets. -/
def inTy (fd y : TypeD) : Bool := decide (y.kind = fd.kind) && decide (y.unit = fd.unit) && decide (y.names = fd.names) && (decide (fd.lo ≤ y.lo) && decide (y.lo ≤ fd.hi) && decide (fd.lo ≤ y.hi) && decide (y.hi ≤ fd.hi))
def setB (s : SourceD) (fs : List FromD) (fd : TypeD) (t : TermD) : Bool := if isNumB t then decide (fd.lo ≤ t.n) && decide (t.n ≤ fd.hi) else match termTy? s fs t fs.length with | some y => inTy fd y | none => false
set_option maxRecDepth 100000 in
set_option maxHeartbeats 4000000 in
theorem setOK_pure (S : SourceD) (R : RuleD) (fd : TypeD) (t : TermD) (hlF : ∀ i j y, typeOf? S i j = some y → y.names.length ≤ 100000) : Pure Try.prog 59 [.agg (S.c ++ R.c), .agg fd.c, .agg t.c] (boolD (setB S R.froms fd t)) := by
  have hnum := isNumber_pure t
  obtain ⟨y, yb, hy, hp⟩ := termTy_ex S R t R.froms.length (Int.le_refl _)
  have hyl : yb = true → y.names.length ≤ 100000 := fun e => by
    rw [e, if_pos rfl] at hy
    unfold termTy? at hy
    split at hy
    · split at hy
      · exact hlF _ _ _ hy
      · cases hy
    · cases hy
  obtain ⟨r, hr⟩ : ∃ r, r = setB S R.froms fd t := ⟨_, rfl⟩
  rw [← hr]
  unfold setB at hr
  rw [hy] at hr
  clear hlF hy
  replace hp := Pure.args (args := [.agg (S.c ++ R.c), .agg t.c, .int .i64 (.len R.froms)]) (args' := [.agg (S.c ++ R.c), .agg t.c, i64 R.froms.length]) (.cons (.refl _) (.cons (.refl _) (.cons (.int (e := .len R.froms) (e' := .var (R.froms.length : Int)) rfl) .nil))) hp
  obtain ⟨nb, hnb⟩ : ∃ b, b = isNumB t := ⟨_, rfl⟩
  rw [← hnb] at hnum hr
  clear hnb
  have hE : yb = true → Pure Try.prog 77 [.slm 1 (some (.var y.nnames)) strC y.names, .slm 1 (some (.var fd.nnames)) strC fd.names] (boolD (decide (y.names = fd.names))) := fun e => Equal_pure y.names fd.names (some (.var y.nnames)) (some (.var fd.nnames)) (by have := hyl e; omega)
  clear hyl
  obtain ⟨ni, is, nu, us, ns, ss, nr, rs, nc, cs, np, ps⟩ := S
  obtain ⟨x1, x2, x3, fl, x5, x6, x7, x8⟩ := R
  obtain ⟨a1, a2, a3, a4, a5, a6, a7⟩ := fd
  obtain ⟨b1, b2, b3, b4, b5, b6, b7⟩ := y
  obtain ⟨u1, u2, u3, u4, u5⟩ := t
  simp only [inTy] at hr hE
  obtain ⟨eq, heq⟩ : ∃ e, e = decide (b7 = a7) := ⟨_, rfl⟩
  rw [← heq] at hE
  replace hr : r = if nb = true then (decide (a2 ≤ u5) && decide (u5 ≤ a3)) else (yb && (decide (b1 = a1) && decide (b5 = a5) && eq && (decide (a2 ≤ b2) && decide (b2 ≤ a3) && decide (a2 ≤ b3) && decide (b3 ≤ a3)))) := by
    rw [hr, heq]
    cases yb <;> rfl
  clear heq
  refine Pure.intro (want := [boolD r]) T_ok follows Try.func59 rfl (by kernel_rfl) (rs := [.tmp 6]) rfl (by kernel_rfl) ?_
  generalize hP : Try.prog = P at *
  have hT : T.ok P := hP ▸ T_ok
  have hm : P.follows .mixedOrders = true := hP ▸ follows
  unfold Try.f59
  dsimp only
  cbv
  refine CallP.pure _ hnum rfl ?_
  clear hnum
  cbv
  refine SplitP.mk (fun g => ?_) (fun g => ?_)
  · have g' : nb = true := g
    rw [if_pos g'] at hr
    clear g hp hE
    ((repeat' (refine SplitP.mk (fun _ => ?_) (fun _ => ?_))); all_goals (try simp only [BE.den, IE.den, cmpDen, Bool.not_eq_true, Bool.not_eq_false, Bool.not_eq_eq_eq_not, Bool.not_true, Bool.not_false, dec_t, dec_f, beq_iff_eq, beq_eq_false_iff_ne, bne_iff_ne, ne_eq, bne_eq_false_iff_eq, ge_iff_le, gt_iff_lt, Int.not_lt, Int.not_le] at *); all_goals (refine .mk (.cons (.eq (.bool ?_)) .nil) rfl; simp only [BE.den, IE.den, cmpDen]; rw [hr, Bool.eq_iff_iff]; simp only [Bool.and_eq_true, Bool.or_eq_true, dec_t, dec_f, beq_iff_eq, bne_iff_ne, ge_iff_le, gt_iff_lt, Bool.false_eq_true, false_iff, true_iff]; first | omega | grind))
  have g' : nb = false := g
  rw [g', if_neg (by decide)] at hr
  clear g g'
  refine CallP.pure _ hp rfl ?_
  clear hp
  cbv
  refine SplitP.mk (fun g => ?_) (fun g => ?_)
  · have g' : yb = true := g
    replace hE := hE g'
    rw [g', Bool.true_and] at hr
    clear g g'
    repeat' (first | refine SplitP.mk (fun _ => ?_) (fun _ => ?_) | (refine CallP.pure _ hE rfl ?_; cbv) | (refine OpsP.go hT ?_; cbv))
    all_goals clear hE
    all_goals (try simp only [BE.den, IE.den, cmpDen, Bool.not_eq_true, Bool.not_eq_false, Bool.not_eq_eq_eq_not, Bool.not_true, Bool.not_false, dec_t, dec_f, beq_iff_eq, beq_eq_false_iff_ne, bne_iff_ne, ne_eq, bne_eq_false_iff_eq, ge_iff_le, gt_iff_lt, Int.not_lt, Int.not_le] at *)
    all_goals (refine .mk (.cons (.eq (.bool ?_)) .nil) rfl; simp only [BE.den, IE.den, cmpDen]; rw [hr, Bool.eq_iff_iff]; simp only [Bool.and_eq_true, Bool.or_eq_true, dec_t, dec_f, beq_iff_eq, bne_iff_ne, ge_iff_le, gt_iff_lt, Bool.false_eq_true, false_iff, true_iff]; first | omega | grind)
  · have g' : yb = false := g
    rw [g', Bool.false_and] at hr
    clear hE
    (repeat (refine OpsP.go hT ?_; cbv))
    refine .mk (.cons (.eq (.bool ?_)) .nil) rfl
    rw [BE.lit_d, BE.var_d]
    rw [hr]
end Go.Proofs.Ytdhfakajlnidiaa
namespace Go.Proofs.Ytdhfakajlnidiaa
open Go.RowKit

/-! The check of the types: conditions of a rule. -/
def ordB (y : TypeD) : Bool := decide (y.kind = 1) || decide (y.kind = 2)
def opOK (op : Int) (y : TypeD) : Bool := !(decide (op = 2) || decide (op = 3)) || ordB y
def atomTys (s : SourceD) (fs : List FromD) (m : AtomD) : List TypeD := [m.a, m.b].filterMap fun t => termTy? s fs t fs.length
def okT (s : SourceD) (fs : List FromD) (t : TermD) : Bool := (termTy? s fs t fs.length).isSome || isNumB t
def pairOK (us : List UnitD) : List TypeD → Bool
  | [] => false
  | [y, z] => cmpB us y z
  | _ => true
def atomB (s : SourceD) (fs : List FromD) (m : AtomD) : Bool :=
  decide (1 ≤ m.op) && decide (m.op ≤ 4) && ([m.a, m.b].all (okT s fs) && (pairOK s.units (atomTys s fs m) && (atomTys s fs m).all (opOK m.op)))
def Good (s : SourceD) : Prop := ∀ i j t, typeOf? s i j = some t → kindB t s.units.length = true
theorem kindB_unit {t : TypeD} {n : Int} (h : kindB t n = true) : t.kind = 1 → -1 ≤ t.unit ∧ t.unit < n := fun h1 => by
  unfold kindB at h
  rw [if_pos h1] at h
  simp only [kind1, Bool.and_eq_true, decide_eq_true_eq] at h
  exact ⟨h.2.2.2.1, h.2.2.2.2.1⟩
theorem kindB_names {t : TypeD} {n : Int} (h : kindB t n = true) : t.names.length ≤ 16 := by
  unfold kindB at h
  split at h
  · simp only [kind1, Bool.and_eq_true, decide_eq_true_eq] at h; omega
  split at h
  · simp only [kindQ, Bool.and_eq_true, decide_eq_true_eq] at h; omega
  split at h
  · simp only [kindQ, Bool.and_eq_true, decide_eq_true_eq] at h; omega
  split at h
  · simp only [kind4, Bool.and_eq_true, decide_eq_true_eq] at h; omega
  · cases h
theorem termTy_good {s : SourceD} (h : Good s) {fs : List FromD} {t : TermD} {n : Int} {y : TypeD} (hy : termTy? s fs t n = some y) : kindB y s.units.length = true := by
  unfold termTy? at hy
  split at hy
  · split at hy
    · exact h _ _ _ hy
    · cases hy
  · cases hy
def atomV (op : Int) (ba bb na nb cm : Bool) (ka kb : Int) : Bool :=
  (decide (1 ≤ op) && decide (op ≤ 4)) && (((ba || na) && (bb || nb)) && ((match ba, bb with | false, false => false | true, true => cm | _, _ => true) && ((!ba || (!(decide (op = 2) || decide (op = 3)) || (decide (ka = 1) || decide (ka = 2)))) && (!bb || (!(decide (op = 2) || decide (op = 3)) || (decide (kb = 1) || decide (kb = 2)))))))
theorem atom_v {s : SourceD} {fs : List FromD} {m : AtomD} {ya yb : TypeD} {ba bb : Bool} (ha : termTy? s fs m.a fs.length = if ba = true then some ya else none) (hb : termTy? s fs m.b fs.length = if bb = true then some yb else none) : atomB s fs m = atomV m.op ba bb (isNumB m.a) (isNumB m.b) (cmpB s.units ya yb) ya.kind yb.kind := by
  unfold atomB atomV atomTys okT
  simp only [List.all_cons, List.all_nil, Bool.and_true, List.filterMap_cons, List.filterMap_nil, ha, hb]
  cases ba <;> cases bb <;> simp [pairOK, opOK, ordB]
set_option maxRecDepth 100000 in
set_option maxHeartbeats 4000000 in
theorem atomOK_pure (S : SourceD) (R : RuleD) (m : AtomD) (hG : Good S) : Pure Try.prog 57 [.agg (S.c ++ R.c), .agg m.c] (boolD (atomB S R.froms m)) := by
  have hna := isNumber_pure m.a
  have hnb := isNumber_pure m.b
  obtain ⟨ya, ba, hya, hpa⟩ := termTy_ex S R m.a R.froms.length (Int.le_refl _)
  obtain ⟨yb, bb, hyb, hpb⟩ := termTy_ex S R m.b R.froms.length (Int.le_refl _)
  have hC : ba = true → bb = true → Pure Try.prog 76 [.agg S.c, .agg ya.c, .agg yb.c] (boolD (cmpB S.units ya yb)) := fun e1 e2 => by
    rw [e1, if_pos rfl] at hya
    rw [e2, if_pos rfl] at hyb
    have g1 := termTy_good hG hya
    have g2 := termTy_good hG hyb
    exact comparable_pure S ya yb (kindB_unit g1) (kindB_unit g2) (by have := kindB_names g1; omega)
  rw [atom_v hya hyb]
  clear hya hyb hG
  replace hpa := Pure.args (args := [.agg (S.c ++ R.c), .agg m.a.c, .int .i64 (.len R.froms)]) (args' := [.agg (S.c ++ R.c), .agg m.a.c, i64 R.froms.length]) (.cons (.refl _) (.cons (.refl _) (.cons (.int (e := .len R.froms) (e' := .var (R.froms.length : Int)) rfl) .nil))) hpa
  replace hpb := Pure.args (args := [.agg (S.c ++ R.c), .agg m.b.c, .int .i64 (.len R.froms)]) (args' := [.agg (S.c ++ R.c), .agg m.b.c, i64 R.froms.length]) (.cons (.refl _) (.cons (.refl _) (.cons (.int (e := .len R.froms) (e' := .var (R.froms.length : Int)) rfl) .nil))) hpb
  obtain ⟨na, hnae⟩ : ∃ b, b = isNumB m.a := ⟨_, rfl⟩
  obtain ⟨nb, hnbe⟩ : ∃ b, b = isNumB m.b := ⟨_, rfl⟩
  obtain ⟨cm, hcm⟩ : ∃ b, b = cmpB S.units ya yb := ⟨_, rfl⟩
  rw [← hnae] at hna ⊢
  rw [← hnbe] at hnb ⊢
  rw [← hcm] at hC ⊢
  clear hnae hnbe hcm
  obtain ⟨ni, is, nu, us, ns, ss, nr, rs, nc, cs, np, ps⟩ := S
  obtain ⟨x1, x2, x3, fl, x5, x6, x7, x8⟩ := R
  obtain ⟨a1, a2, a3, a4, a5, a6, a7⟩ := ya
  obtain ⟨b1, b2, b3, b4, b5, b6, b7⟩ := yb
  obtain ⟨op, ⟨u1, u2, u3, u4, u5⟩, ⟨v1, v2, v3, v4, v5⟩⟩ := m
  simp only
  obtain ⟨r, hr⟩ : ∃ r, r = atomV op ba bb na nb cm a1 b1 := ⟨_, rfl⟩
  rw [← hr]
  unfold atomV at hr
  refine Pure.intro (want := [boolD r]) T_ok follows Try.func57 rfl (by kernel_rfl) (rs := [.tmp 4]) rfl (by kernel_rfl) ?_
  generalize hP : Try.prog = P at *
  have hT : T.ok P := hP ▸ T_ok
  have hm : P.follows .mixedOrders = true := hP ▸ follows
  unfold Try.f57
  dsimp only
  cbv
  refine SplitP.mk (fun _ => ?_) (fun _ => ?_)
  · clear hna hnb hpa hpb hC
    (try simp only [BE.den, IE.den, cmpDen, Bool.not_eq_true, Bool.not_eq_false, Bool.not_eq_eq_eq_not, Bool.not_true, Bool.not_false, dec_t, dec_f, beq_iff_eq, beq_eq_false_iff_ne, bne_iff_ne, ne_eq, bne_eq_false_iff_eq, ge_iff_le, gt_iff_lt, Int.not_lt, Int.not_le] at *)
    (refine .mk (.cons (.eq (.bool ?_)) .nil) rfl; simp only [BE.den, IE.den, cmpDen]; rw [hr, Bool.eq_iff_iff]; simp only [Bool.and_eq_true, Bool.or_eq_true, dec_t, dec_f, beq_iff_eq, bne_iff_ne, ge_iff_le, gt_iff_lt, Bool.false_eq_true, false_iff, true_iff]; first | omega | grind)
  refine SplitP.mk (fun _ => ?_) (fun _ => ?_)
  · clear hna hnb hpa hpb hC
    (try simp only [BE.den, IE.den, cmpDen, Bool.not_eq_true, Bool.not_eq_false, Bool.not_eq_eq_eq_not, Bool.not_true, Bool.not_false, dec_t, dec_f, beq_iff_eq, beq_eq_false_iff_ne, bne_iff_ne, ne_eq, bne_eq_false_iff_eq, ge_iff_le, gt_iff_lt, Int.not_lt, Int.not_le] at *)
    (refine .mk (.cons (.eq (.bool ?_)) .nil) rfl; simp only [BE.den, IE.den, cmpDen]; rw [hr, Bool.eq_iff_iff]; simp only [Bool.and_eq_true, Bool.or_eq_true, dec_t, dec_f, beq_iff_eq, bne_iff_ne, ge_iff_le, gt_iff_lt, Bool.false_eq_true, false_iff, true_iff]; first | omega | grind)
  refine CodeP.rounds hT hm 3 ?_
  cbv
  cases ba <;> cases bb
  all_goals simp only [Bool.false_or, Bool.true_or, Bool.true_and, Bool.false_and, Bool.and_true, Bool.and_false, Bool.not_true, Bool.not_false] at hr
  · repeat' (first | refine SplitP.mk (fun _ => ?_) (fun h => absurd (show true = false from h) (by decide)) | refine SplitP.mk (fun h => absurd (show false = true from h) (by decide)) (fun _ => ?_) | refine SplitP.mk (fun _ => ?_) (fun _ => ?_) | (refine CallP.pure _ hpa rfl ?_; cbv) | (refine CallP.pure _ hpb rfl ?_; cbv) | (refine CallP.pure _ hna rfl ?_; cbv) | (refine CallP.pure _ hnb rfl ?_; cbv) | (refine PureP.mk _ (hC rfl rfl) rfl ?_; cbv) | (refine CallP.pure _ (hC rfl rfl) rfl ?_; cbv) | (refine OpsP.go hT ?_; cbv) | (refine CodeP.rounds hT hm 3 ?_; cbv))
    all_goals clear hna hnb hpa hpb hC
    all_goals (refine .mk (.cons (.eq (.bool ?_)) .nil) rfl; rw [BE.lit_d, BE.var_d]; exact hr.symm)
  · repeat' (first | refine SplitP.mk (fun _ => ?_) (fun h => absurd (show true = false from h) (by decide)) | refine SplitP.mk (fun h => absurd (show false = true from h) (by decide)) (fun _ => ?_) | refine SplitP.mk (fun _ => ?_) (fun _ => ?_) | (refine CallP.pure _ hpa rfl ?_; cbv) | (refine CallP.pure _ hpb rfl ?_; cbv) | (refine CallP.pure _ hna rfl ?_; cbv) | (refine CallP.pure _ hnb rfl ?_; cbv) | (refine PureP.mk _ (hC rfl rfl) rfl ?_; cbv) | (refine CallP.pure _ (hC rfl rfl) rfl ?_; cbv) | (refine OpsP.go hT ?_; cbv) | (refine CodeP.rounds hT hm 3 ?_; cbv))
    all_goals clear hna hnb hpa hpb hC
    all_goals (try simp only [BE.den, IE.den, cmpDen, Bool.not_eq_true, Bool.not_eq_false, Bool.not_eq_eq_eq_not, Bool.not_true, Bool.not_false, dec_t, dec_f, beq_iff_eq, beq_eq_false_iff_ne, bne_iff_ne, ne_eq, bne_eq_false_iff_eq, ge_iff_le, gt_iff_lt, Int.not_lt, Int.not_le] at *)
    all_goals (refine .mk (.cons (.eq (.bool ?_)) .nil) rfl; simp only [BE.den, IE.den, cmpDen]; rw [hr, Bool.eq_iff_iff]; simp only [Bool.and_eq_true, Bool.or_eq_true, dec_t, dec_f, beq_iff_eq, bne_iff_ne, ge_iff_le, gt_iff_lt, Bool.false_eq_true, false_iff, true_iff]; first | omega | grind)
  · repeat' (first | refine SplitP.mk (fun _ => ?_) (fun h => absurd (show true = false from h) (by decide)) | refine SplitP.mk (fun h => absurd (show false = true from h) (by decide)) (fun _ => ?_) | refine SplitP.mk (fun _ => ?_) (fun _ => ?_) | (refine CallP.pure _ hpa rfl ?_; cbv) | (refine CallP.pure _ hpb rfl ?_; cbv) | (refine CallP.pure _ hna rfl ?_; cbv) | (refine CallP.pure _ hnb rfl ?_; cbv) | (refine PureP.mk _ (hC rfl rfl) rfl ?_; cbv) | (refine CallP.pure _ (hC rfl rfl) rfl ?_; cbv) | (refine OpsP.go hT ?_; cbv) | (refine CodeP.rounds hT hm 3 ?_; cbv))
    all_goals clear hna hnb hpa hpb hC
    all_goals (try simp only [BE.den, IE.den, cmpDen, Bool.not_eq_true, Bool.not_eq_false, Bool.not_eq_eq_eq_not, Bool.not_true, Bool.not_false, dec_t, dec_f, beq_iff_eq, beq_eq_false_iff_ne, bne_iff_ne, ne_eq, bne_eq_false_iff_eq, ge_iff_le, gt_iff_lt, Int.not_lt, Int.not_le] at *)
    all_goals (refine .mk (.cons (.eq (.bool ?_)) .nil) rfl; simp only [BE.den, IE.den, cmpDen]; rw [hr, Bool.eq_iff_iff]; simp only [Bool.and_eq_true, Bool.or_eq_true, dec_t, dec_f, beq_iff_eq, bne_iff_ne, ge_iff_le, gt_iff_lt, Bool.false_eq_true, false_iff, true_iff]; first | omega | grind)
  · repeat' (first | refine SplitP.mk (fun _ => ?_) (fun h => absurd (show true = false from h) (by decide)) | refine SplitP.mk (fun h => absurd (show false = true from h) (by decide)) (fun _ => ?_) | refine SplitP.mk (fun _ => ?_) (fun _ => ?_) | (refine CallP.pure _ hpa rfl ?_; cbv) | (refine CallP.pure _ hpb rfl ?_; cbv) | (refine CallP.pure _ hna rfl ?_; cbv) | (refine CallP.pure _ hnb rfl ?_; cbv) | (refine PureP.mk _ (hC rfl rfl) rfl ?_; cbv) | (refine CallP.pure _ (hC rfl rfl) rfl ?_; cbv) | (refine OpsP.go hT ?_; cbv) | (refine CodeP.rounds hT hm 3 ?_; cbv))
    all_goals clear hna hnb hpa hpb hC
    · (try simp only [BE.den, IE.den, cmpDen, Bool.not_eq_true, Bool.not_eq_false, Bool.not_eq_eq_eq_not, Bool.not_true, Bool.not_false, dec_t, dec_f, beq_iff_eq, beq_eq_false_iff_ne, bne_iff_ne, ne_eq, bne_eq_false_iff_eq, ge_iff_le, gt_iff_lt, Int.not_lt, Int.not_le] at *)
      (refine .mk (.cons (.eq (.bool ?_)) .nil) rfl; simp only [BE.den, IE.den, cmpDen]; rw [hr, Bool.eq_iff_iff]; simp only [Bool.and_eq_true, Bool.or_eq_true, dec_t, dec_f, beq_iff_eq, bne_iff_ne, ge_iff_le, gt_iff_lt, Bool.false_eq_true, false_iff, true_iff]; first | omega | grind)
    · refine CodeP.pre [(3, _), (4, _), (74, _), (75, _), (76, _)] [.dead, _, .dead, .dead, _, .dead, .dead] ⟨⟨.refl _, .refl _, .refl _, .refl _, .refl _, trivial⟩, ⟨.dead _, .refl _, .dead _, .dead _, .refl _, .dead _, .dead _, trivial⟩, rfl⟩ (Nat.zero_le _) ?_
      refine CodeP.rounds hT hm 3 ?_
      cbv
      repeat' (first | refine SplitP.mk (fun _ => ?_) (fun h => absurd (show true = false from h) (by decide)) | refine SplitP.mk (fun h => absurd (show false = true from h) (by decide)) (fun _ => ?_) | refine SplitP.mk (fun _ => ?_) (fun _ => ?_) | (refine OpsP.go hT ?_; cbv))
      all_goals (try simp only [BE.den, IE.den, cmpDen, Bool.not_eq_true, Bool.not_eq_false, Bool.not_eq_eq_eq_not, Bool.not_true, Bool.not_false, dec_t, dec_f, beq_iff_eq, beq_eq_false_iff_ne, bne_iff_ne, ne_eq, bne_eq_false_iff_eq, ge_iff_le, gt_iff_lt, Int.not_lt, Int.not_le] at *)
      all_goals (refine .mk (.cons (.eq (.bool ?_)) .nil) rfl; simp only [BE.den, IE.den, cmpDen]; rw [hr, Bool.eq_iff_iff]; simp only [Bool.and_eq_true, Bool.or_eq_true, dec_t, dec_f, beq_iff_eq, bne_iff_ne, ge_iff_le, gt_iff_lt, Bool.false_eq_true, false_iff, true_iff]; first | omega | grind)
end Go.Proofs.Ytdhfakajlnidiaa
namespace Go.Proofs.Ytdhfakajlnidiaa
open Go.RowKit

/-! The check of the types: rules. -/
def headLen (s : SourceD) (n : Int) : Int := match s.schemas[n.toNat]? with | some x => x.fields.length | none => 0
def setIn (s : SourceD) (r : RuleD) (x : SetD) : Bool := match typeOf? s r.schema x.field with | some fd => !decide (x.field = 0) && setB s r.froms fd x.term | none => false
def ruleB (s : SourceD) (r : RuleD) : Bool :=
  fromsB s r.froms && (decide (r.where_.length ≤ 8) && (r.where_.all (atomB s r.froms) && (schIn s r.schema && (decide ((r.sets.length : Int) = headLen s r.schema - 1) && (r.sets.all (setIn s r) && decide (r.sets.map (·.field)).Nodup)))))
theorem Good.names {S : SourceD} (hG : Good S) (i j : Int) (y : TypeD) (h : typeOf? S i j = some y) : y.names.length ≤ 100000 := by
  have := kindB_names (hG i j y h)
  omega
set_option maxRecDepth 100000 in
set_option maxHeartbeats 4000000 in
theorem ruleOK_pure (S : SourceD) (R : RuleD) (hG : Good S) (hF : ∀ x ∈ S.schemas, x.fields.length ≤ 100000) : Pure Try.prog 37 [.agg (S.c ++ R.c)] (boolD (ruleB S R)) := by
  have hfr := fromsOK_pure S R
  have hat : ∀ m : AtomD, Pure Try.prog 57 [.agg (S.c ++ R.c), .agg m.c] (boolD (atomB S R.froms m)) := fun m => atomOK_pure S R m hG
  have hset : ∀ x : SetD, ∃ t b sb, setIn S R x = (b && (!decide (x.field = 0) && sb)) ∧ Pure Try.prog 58 [.agg S.c, i64 R.schema, i64 x.field] (.tup [.agg (TypeD.c t), boolD b]) ∧ Pure Try.prog 59 [.agg (S.c ++ R.c), .agg t.c, .agg x.term.c] (boolD sb) := fun x => by
    obtain ⟨t, b, h1, h2⟩ := typeOf_ex S R.schema x.field
    refine ⟨t, b, _, ?_, h2, setOK_pure S R t x.term hG.names⟩
    unfold setIn
    rw [h1]
    cases b <;> simp
  have hdf : ∀ L : List Int, L.length ≤ 100000 → Pure Try.prog 60 [.slm 1 none intC L] (boolD (decide L.Nodup)) := fun L hL => diffI_pure L none hL
  obtain ⟨r, hr⟩ : ∃ r, r = ruleB S R := ⟨_, rfl⟩
  rw [← hr]
  unfold ruleB schIn headLen at hr
  obtain ⟨fb, hfb⟩ : ∃ b, b = fromsB S R.froms := ⟨_, rfl⟩
  obtain ⟨AB, hAB⟩ : ∃ b, b = atomB S R.froms := ⟨_, rfl⟩
  obtain ⟨SB, hSB⟩ : ∃ b, b = setIn S R := ⟨_, rfl⟩
  rw [← hfb] at hfr hr
  rw [← hAB] at hat hr
  rw [← hSB] at hset hr
  clear hfb hAB hSB hG
  obtain ⟨ni, is, nu, us, ns, ss, nr, rs, nc, cs, np, ps⟩ := S
  obtain ⟨x1, x2, x3, fl, x5, wl, x7, sl⟩ := R
  simp only at hr hF hset
  obtain ⟨wn, hwn⟩ : ∃ n : Nat, n = wl.length := ⟨_, rfl⟩
  obtain ⟨sn, hsn⟩ : ∃ n : Nat, n = sl.length := ⟨_, rfl⟩
  obtain ⟨FF, hFF⟩ : ∃ f : Nat → List Int, f = fun k => (sl.take k).map (·.field) := ⟨_, rfl⟩
  have hF0 : FF 0 = [] := by rw [hFF]; simp
  have hFs : ∀ k x, sl[k]? = some x → FF (k + 1) = FF k ++ [x.field] := fun k x h => by
    rw [hFF]
    simp only
    rw [List.take_add_one, h]
    simp
  have hFl : ∀ k, k ≤ sl.length → (FF k).length = k := fun k h => by rw [hFF]; simp; omega
  have hFe : FF sl.length = sl.map (·.field) := by rw [hFF]; simp
  rw [← hFe] at hr
  clear hFF hFe
  refine Pure.intro (want := [boolD r]) T_ok follows Try.func37 rfl (by kernel_rfl) (rs := [.tmp 2]) rfl (by kernel_rfl) ?_
  generalize hP : Try.prog = P at *
  have hT : T.ok P := hP ▸ T_ok
  have hm : P.follows .mixedOrders = true := hP ▸ follows
  unfold Try.f37
  dsimp only
  cbv
  refine CallP.pure _ hfr rfl ?_
  clear hfr
  cbv
  refine SplitP.mk (fun g => ?_) (fun g => ?_)
  · have g' : (!fb) = true := g
    have g2 : fb = false := by simpa using g'
    rw [g2, Bool.false_and] at hr
    refine .mk (.cons (.eq (.bool ?_)) .nil) rfl
    rw [BE.lit_d, BE.var_d]
    exact hr.symm
  have g' : (!fb) = false := g
  have g2 : fb = true := by simpa using g'
  rw [g2, Bool.true_and] at hr
  clear g g' g2
  refine SplitP.mk (fun g => ?_) (fun g => ?_)
  · have g' : ¬ wl.length ≤ 8 := by have h := of_decide_eq_true (show decide ((wl.length : Int) > 8) = true from g); omega
    rw [decide_eq_false g', Bool.false_and] at hr
    refine .mk (.cons (.eq (.bool ?_)) .nil) rfl
    rw [BE.lit_d, BE.var_d]
    exact hr.symm
  have g2 : wl.length ≤ 8 := by have h := of_decide_eq_false (show decide ((wl.length : Int) > 8) = false from g); omega
  rw [decide_eq_true g2, Bool.true_and] at hr
  clear g
  obtain ⟨r2, hr2⟩ : ∃ q, q = (decide (0 ≤ x2) && decide (x2 < (ss.length : Int)) && (decide ((sl.length : Int) = (match ss[x2.toNat]? with | some x => (x.fields.length : Int) | none => 0) - 1) && (sl.all SB && decide (FF sl.length).Nodup))) := ⟨_, rfl⟩
  replace hr : r = (wl.all AB && r2) := by rw [hr, hr2]
  refine CodeP.loopc hT hm (X := Nat) (fun k => [(25, .int .i64 (.nat k))]) (fun k => k ≤ wl.length ∧ r = ((wl.drop k).all AB && r2)) (fun k => wn - k) 0 ⟨by simp, hr⟩ (Nat.zero_le _) ?_ rfl ?_
  · (cbv; (repeat' (first | exact SnD.refl _ | exact trivial | exact SnD.nat0 | refine And.intro ?_ ?_)))
  clear hr
  intro k ⟨hk, hq⟩
  cbv
  refine SplitP.mk (fun hs => ?_) (fun hs => ?_)
  · have hkn : k < wl.length := by
      have h5 : decide ((k : Int) < (wl.length : Int)) = true := hs
      have := of_decide_eq_true h5
      omega
    clear hs
    refine ElemP.mk (by show (0 : Int) ≤ (k : Int) ∧ (k : Int) < (wl.length : Int); omega) (fun y hy => ?_)
    replace hy : wl[k]? = some y := hy
    rw [drop_cons hy, List.all_cons] at hq
    obtain ⟨b, hb⟩ : ∃ b, b = AB y := ⟨_, rfl⟩
    have hp := hat y
    rw [← hb] at hq hp
    clear hat hset hdf hb
    obtain ⟨y1, ⟨y2, y3, y4, y5, y6⟩, ⟨y7, y8, y9, y10, y11⟩⟩ := y
    cbv
    refine CallP.pure _ hp rfl ?_
    clear hp
    cbv
    refine SplitP.mk (fun g => ?_) (fun g => ?_)
    · have g' : (!b) = true := g
      have g2 : b = false := by simpa using g'
      rw [g2, Bool.false_and, Bool.false_and] at hq
      refine .mk (.cons (.eq (.bool ?_)) .nil) rfl
      rw [BE.lit_d, BE.var_d]
      exact hq.symm
    have g' : (!b) = false := g
    have g2 : b = true := by simpa using g'
    rw [g2, Bool.true_and] at hq
    refine BackP.intro (k + 1) ⟨by omega, hq⟩ (by show wn - (k + 1) < wn - k; omega) ⟨?_, ?_, rfl⟩
    · (cbv; (repeat' (first | exact SnD.refl _ | exact trivial | exact SnD.nat0 | refine And.intro ?_ ?_)))
      exact .inc (by omega)
    · (cbv; (repeat' (first | exact trivial | exact BkEq.refl _ | exact SnD.refl _ | exact SnDs.nil | refine BkEq.cells ?_ | refine SnDs.cons ?_ ?_ | refine And.intro ?_ ?_)))
  have hkn : wl.length ≤ k := by
    have h5 : decide ((k : Int) < (wl.length : Int)) = false := hs
    have := of_decide_eq_false h5
    omega
  clear hs
  rw [List.drop_of_length_le (by omega), List.all_nil, Bool.true_and] at hq
  have hr := hq.trans hr2
  clear hq hr2 hk hkn hat
  refine ⟨by kernel_rfl, ?_⟩
  cbv
  refine SplitP.mk (fun g => ?_) (fun g => ?_)
  · have g' : ¬ 0 ≤ x2 := by have h := of_decide_eq_true (show decide (x2 < 0) = true from g); omega
    rw [decide_eq_false g', Bool.false_and, Bool.false_and] at hr
    refine .mk (.cons (.eq (.bool ?_)) .nil) rfl
    rw [BE.lit_d, BE.var_d]
    exact hr.symm
  have g3 : 0 ≤ x2 := by have h := of_decide_eq_false (show decide (x2 < 0) = false from g); omega
  rw [decide_eq_true g3, Bool.true_and] at hr
  clear g
  refine SplitP.mk (fun g => ?_) (fun g => ?_)
  · have g' : ¬ x2 < (ss.length : Int) := by have h := of_decide_eq_true (show decide (x2 ≥ (ss.length : Int)) = true from g); omega
    rw [decide_eq_false g', Bool.false_and] at hr
    refine .mk (.cons (.eq (.bool ?_)) .nil) rfl
    rw [BE.lit_d, BE.var_d]
    exact hr.symm
  have g4 : x2 < (ss.length : Int) := by have h := of_decide_eq_false (show decide (x2 ≥ (ss.length : Int)) = false from g); omega
  rw [decide_eq_true g4, Bool.true_and] at hr
  clear g
  refine ElemP.mk ⟨g3, g4⟩ (fun z hz => ?_)
  replace hz : ss[x2.toNat]? = some z := hz
  rw [hz] at hr
  have hzF := hF z (List.mem_of_getElem? hz)
  clear hF hz
  obtain ⟨z1, z2, z3, z4, z5, zf, z7, z8⟩ := z
  simp only at hr hzF
  have hsub : binDen .sub .i64 (zf.length : Int) 1 = (zf.length : Int) - 1 := sub64 (by omega) (by omega)
  cbv
  refine SplitP.mk (fun g => ?_) (fun g => ?_)
  · have h3 : ((sl.length : Int) != binDen .sub .i64 (zf.length : Int) 1) = true := g
    rw [hsub] at h3
    have h4 : ¬ (sl.length : Int) = (zf.length : Int) - 1 := by simpa using h3
    rw [decide_eq_false h4, Bool.false_and] at hr
    refine .mk (.cons (.eq (.bool ?_)) .nil) rfl
    rw [BE.lit_d, BE.var_d]
    exact hr.symm
  have h3 : ((sl.length : Int) != binDen .sub .i64 (zf.length : Int) 1) = false := g
  rw [hsub] at h3
  have h4 : (sl.length : Int) = (zf.length : Int) - 1 := by simpa using h3
  rw [decide_eq_true h4, Bool.true_and] at hr
  have hsl : sl.length ≤ 100000 := by omega
  clear g h3 h4 hsub hzF
  obtain ⟨du, hdu⟩ : ∃ b, b = decide (FF sl.length).Nodup := ⟨_, rfl⟩
  have hD := hdf (FF sl.length) (by rw [hFl _ (Nat.le_refl _)]; exact hsl)
  rw [← hdu] at hr hD
  clear hdf hdu
  refine CodeP.virt 6 3 1 rfl ?_
  refine CodeP.loopm hT hm (X := Nat) (fun k => [(69, .int .i64 (.nat k)), (6, .osl 1 1 (k + 1) (.cmp .eql (.nat k) (.lit 0)) (.lit 0) (.nat k))])
    (fun k => [.cells (SourceD.c ⟨ni, is, nu, us, ns, ss, nr, rs, nc, cs, np, ps⟩ ++ RuleD.c ⟨x1, x2, x3, fl, x5, wl, x7, sl⟩), .row 3 1 (k + 1) (.map intC (FF k))])
    (fun k => k ≤ sl.length ∧ r = ((sl.drop k).all SB && du)) (fun k => sn - k) 0 ⟨Nat.zero_le _, hr⟩ (fun _ => by simp) ⟨?_, ?_, rfl⟩ ?_
  · refine ⟨.nat0, osl_start, ?_⟩
    (cbv; (repeat' (first | exact SnD.refl _ | exact trivial | exact SnD.nat0 | refine And.intro ?_ ?_)))
  · rw [hF0]
    exact ⟨.refl _, .row rfl, trivial⟩
  clear hr
  intro k ⟨hk, hq⟩
  cbv
  refine SplitP.mk (fun hs => ?_) (fun hs => ?_)
  · have hkn : k < sl.length := by
      have h5 : decide ((k : Int) < (sl.length : Int)) = true := hs
      have := of_decide_eq_true h5
      omega
    clear hs
    refine ElemP.mk (by show (0 : Int) ≤ (k : Int) ∧ (k : Int) < (sl.length : Int); omega) (fun y hy => ?_)
    replace hy : sl[k]? = some y := hy
    have hFk := hFs k y hy
    have hFn := hFl k hk
    rw [drop_cons hy, List.all_cons] at hq
    obtain ⟨t, b, sb, h1, h2, h5⟩ := hset y
    rw [h1] at hq
    clear hset hy h1
    obtain ⟨y1, y2, ⟨y3, y4, y5, y6, y7⟩⟩ := y
    obtain ⟨t1, t2, t3, t4, t5, t6, t7⟩ := t
    simp only at hq hFk
    cbv
    refine CallP.pure _ h2 rfl ?_
    clear h2
    cbv
    refine SplitP.mk (fun g => ?_) (fun g => ?_)
    · have g' : (!b) = true := g
      have g2 : b = false := by simpa using g'
      rw [g2, Bool.false_and, Bool.false_and] at hq
      refine .mk (.cons (.eq (.bool ?_)) .nil) rfl
      rw [BE.lit_d, BE.var_d]
      exact hq.symm
    have g' : (!b) = false := g
    have g2 : b = true := by simpa using g'
    rw [g2, Bool.true_and] at hq
    clear g g' g2
    refine SplitP.mk (fun g => ?_) (fun g => ?_)
    · have g' : (y2 == 0) = true := g
      have g2 : y2 = 0 := by simpa using g'
      rw [decide_eq_true g2] at hq
      refine .mk (.cons (.eq (.bool ?_)) .nil) rfl
      rw [BE.lit_d, BE.var_d]
      rw [hq]; simp
    have g' : (y2 == 0) = false := g
    have g2 : y2 ≠ 0 := by simpa using g'
    rw [decide_eq_false g2, Bool.not_false, Bool.true_and] at hq
    clear g g' g2
    refine CallP.pure _ h5 rfl ?_
    clear h5
    cbv
    refine SplitP.mk (fun g => ?_) (fun g => ?_)
    · have g' : (!sb) = true := g
      have g2 : sb = false := by simpa using g'
      rw [g2, Bool.false_and, Bool.false_and] at hq
      refine .mk (.cons (.eq (.bool ?_)) .nil) rfl
      rw [BE.lit_d, BE.var_d]
      exact hq.symm
    have g' : (!sb) = false := g
    have g2 : sb = true := by simpa using g'
    rw [g2, Bool.true_and] at hq
    clear g g' g2
    refine ReqP.mk (app_ok hFn (by omega) (fun _ => rfl) rfl (by decide)) (fun _ => ?_)
    refine BackP.intro (k + 1) ⟨by omega, hq⟩ (by show sn - (k + 1) < sn - k; omega) ⟨?_, ⟨.refl _, row_app y2 hFk (.cons (.refl _) .nil), trivial⟩, rfl⟩
    refine ⟨.inc (by omega), osl_step k, ?_⟩
    (cbv; (repeat' (first | exact SnD.refl _ | exact trivial | exact SnD.nat0 | refine And.intro ?_ ?_)))
  · have hkn : sl.length ≤ k := by
      have h5 : decide ((k : Int) < (sl.length : Int)) = false := hs
      have := of_decide_eq_false h5
      omega
    clear hs
    have hkl : k = sl.length := by omega
    subst hkl
    rw [List.drop_of_length_le (Nat.le_refl _), List.all_nil, Bool.true_and] at hq
    have hFn := hFl sl.length (Nat.le_refl _)
    refine CallP.lend _ _ hD (.cons (.slm rfl (.inl ⟨_, _, rfl, rfl⟩) rfl (by show (sl.length : Int) = ((FF sl.length).length : Int); rw [hFn]) (fun e h => by cases h)) .nil) rfl rfl ?_
    cbv
    refine .mk (.cons (.eq (.bool ?_)) .nil) rfl
    show du = r
    exact hq.symm
end Go.Proofs.Ytdhfakajlnidiaa
