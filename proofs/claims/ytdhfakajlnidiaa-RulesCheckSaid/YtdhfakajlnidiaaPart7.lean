/- Part 7 of the walks and laws that these claims rest on. No condition. -/
import Derived.Test.YtdhfakajlnidiaaPart6
set_option linter.all false
set_option linter.unusedSimpArgs false
set_option linter.unusedVariables false
set_option linter.unnecessarySimpa false
namespace Go.Proofs.Ytdhfakajlnidiaa
open Go.RowKit

/-! The check of the types: all, ContainsFunc, IndexFunc (printed by gen_DK.py). -/
def idxF {α : Type} (p : α → Bool) : Nat → List α → Int
  | _, [] => -1
  | k, x :: l => if p x = true then (k : Int) else idxF p (k + 1) l
theorem idxF_any {α : Type} (p : α → Bool) : ∀ (l : List α) (k : Nat), decide (idxF p k l ≥ 0) = l.any p
  | [], _ => rfl
  | x :: l, k => by
    rw [idxF, List.any_cons]
    cases h : p x with
    | true => rw [if_pos rfl, Bool.true_or]; exact decide_eq_true (by omega)
    | false => rw [if_neg (by decide), Bool.false_or]; exact idxF_any p l (k + 1)
set_option maxRecDepth 100000 in
set_option maxHeartbeats 4000000 in
theorem idxU_pure (S : SourceD) (l : List UnitD) (nb : Option BE) (p : UnitD → Bool) (hl : l.length < 9223372036854775807) (hp : ∀ x ∈ l, Pure Try.prog 62 [.agg (UnitD.c x), .dp [.fn (.func 39) [.agg S.c] []] 0] (boolD (p x))) : Pure Try.prog 78 [.slm 5 nb UnitD.c l, .fn (.func 62) [] [.dp [.fn (.func 39) [.agg S.c] []] 0]] (i64 (idxF p 0 l)) := by
  obtain ⟨r, hr⟩ : ∃ r, r = idxF p 0 l := ⟨_, rfl⟩
  rw [← hr]
  obtain ⟨n, hn⟩ : ∃ n : Nat, n = l.length := ⟨_, rfl⟩
  obtain ⟨ni, is, nu, us, ns, ss, nr, rs, nc, cs, np, ps⟩ := S
  refine Pure.intro (want := [i64 r]) T_ok follows Try.func78 rfl (by kernel_rfl) (rs := [.tmp 4]) rfl (by kernel_rfl) ?_
  generalize hP : Try.prog = P at *
  have hT : T.ok P := hP ▸ T_ok
  have hm : P.follows .mixedOrders = true := hP ▸ follows
  unfold Try.f78
  dsimp only
  cbv
  refine CodeP.loopc hT hm (X := Nat) (fun k => [(8, .int .i64 (.nat k))]) (fun k => k ≤ l.length ∧ r = idxF p k (l.drop k)) (fun k => n - k) 0 ⟨by simp, hr⟩ (Nat.zero_le _) ?_ rfl ?_
  · (cbv; (repeat' (first | exact SnD.refl _ | exact trivial | exact SnD.nat0 | refine And.intro ?_ ?_)))
  clear hr
  intro k ⟨hk, hq⟩
  cbv
  refine SplitP.mk (fun hs => ?_) (fun hs => ?_)
  · have hkn : k < l.length := by
      have h5 : decide ((k : Int) < (l.length : Int)) = true := hs
      have := of_decide_eq_true h5
      omega
    clear hs
    refine ElemP.mk (by show (0 : Int) ≤ (k : Int) ∧ (k : Int) < (l.length : Int); omega) (fun y hy => ?_)
    replace hy : l[k]? = some y := hy
    rw [drop_cons hy, idxF] at hq
    have h1 := hp y (List.mem_of_getElem? hy)
    obtain ⟨b, hb⟩ : ∃ b, b = p y := ⟨_, rfl⟩
    rw [← hb] at hq h1
    clear hp hb hy
    obtain ⟨y1, y2, y3, y4, y5⟩ := y
    cbv
    refine CallP.pure _ h1 rfl ?_
    clear h1
    cbv
    refine SplitP.mk (fun g => ?_) (fun g => ?_)
    · have g2 : b = true := g
      rw [g2, if_pos rfl] at hq
      refine .mk (.cons (.eq (.int ?_)) .nil) rfl
      show (k : Int) = r
      exact hq.symm
    · have g2 : b = false := g
      rw [g2, if_neg (by decide)] at hq
      refine BackP.intro (k + 1) ⟨by omega, hq⟩ (by show n - (k + 1) < n - k; omega) ⟨?_, ?_, rfl⟩
      · (cbv; (repeat' (first | exact SnD.refl _ | exact trivial | exact SnD.nat0 | refine And.intro ?_ ?_)))
        exact .inc (by omega)
      · (cbv; (repeat' (first | exact trivial | exact BkEq.refl _ | exact SnD.refl _ | exact SnDs.nil | refine BkEq.cells ?_ | refine SnDs.cons ?_ ?_ | refine And.intro ?_ ?_)))
  · have hkn : l.length ≤ k := by
      have h5 : decide ((k : Int) < (l.length : Int)) = false := hs
      have := of_decide_eq_false h5
      omega
    clear hs
    rw [List.drop_of_length_le (by omega), idxF] at hq
    refine .mk (.cons (.eq (.int ?_)) .nil) rfl
    show (-1 : Int) = r
    exact hq.symm
set_option maxRecDepth 100000 in
set_option maxHeartbeats 4000000 in
theorem conU_pure (S : SourceD) (l : List UnitD) (nb : Option BE) (p : UnitD → Bool) (hl : l.length < 9223372036854775807) (hp : ∀ x ∈ l, Pure Try.prog 62 [.agg (UnitD.c x), .dp [.fn (.func 39) [.agg S.c] []] 0] (boolD (p x))) : Pure Try.prog 61 [.slm 5 nb UnitD.c l, .fn (.func 62) [] [.dp [.fn (.func 39) [.agg S.c] []] 0]] (boolD (l.any p)) := by
  have hi := idxU_pure S l nb p hl hp
  obtain ⟨r, hr⟩ : ∃ r, r = l.any p := ⟨_, rfl⟩
  rw [← hr]
  have hv := idxF_any p l 0
  rw [← hr] at hv
  obtain ⟨v, hv2⟩ : ∃ r, r = idxF p 0 l := ⟨_, rfl⟩
  rw [← hv2] at hi hv
  clear hp hr hv2
  obtain ⟨ni, is, nu, us, ns, ss, nr, rs, nc, cs, np, ps⟩ := S
  refine Pure.intro (want := [boolD r]) T_ok follows Try.func61 rfl (by kernel_rfl) (rs := [.tmp 4]) rfl (by kernel_rfl) ?_
  generalize hP : Try.prog = P at *
  have hT : T.ok P := hP ▸ T_ok
  have hm : P.follows .mixedOrders = true := hP ▸ follows
  unfold Try.f61
  dsimp only
  cbv
  refine CallP.pure _ hi rfl ?_
  clear hi
  cbv
  refine .mk (.cons (.eq (.bool ?_)) .nil) rfl
  show decide (v ≥ 0) = r
  exact hv
set_option maxRecDepth 100000 in
set_option maxHeartbeats 4000000 in
theorem clU_pure (S : SourceD) (x : UnitD) (b : Bool) (hp : Pure Try.prog 39 [.agg S.c, .agg (UnitD.c x)] (boolD b)) : Pure Try.prog 62 [.agg (UnitD.c x), .dp [.fn (.func 39) [.agg S.c] []] 0] (boolD (!b)) := by
  obtain ⟨r, hr⟩ : ∃ r, r = !b := ⟨_, rfl⟩
  rw [← hr]
  obtain ⟨ni, is, nu, us, ns, ss, nr, rs, nc, cs, np, ps⟩ := S
  obtain ⟨y1, y2, y3, y4, y5⟩ := x
  refine Pure.intro (want := [boolD r]) T_ok follows Try.func62 rfl (by kernel_rfl) (rs := [.tmp 3]) rfl (by kernel_rfl) ?_
  generalize hP : Try.prog = P at *
  have hT : T.ok P := hP ▸ T_ok
  have hm : P.follows .mixedOrders = true := hP ▸ follows
  unfold Try.f62
  dsimp only
  cbv
  refine CallP.pure _ hp rfl ?_
  clear hp
  cbv
  refine .mk (.cons (.eq (.bool ?_)) .nil) rfl
  show (!b) = r
  exact hr.symm
set_option maxRecDepth 100000 in
set_option maxHeartbeats 4000000 in
theorem allU_pure (S : SourceD) (l : List UnitD) (nb : Option BE) (q : UnitD → Bool) (hl : l.length < 9223372036854775807) (hp : ∀ x ∈ l, Pure Try.prog 39 [.agg S.c, .agg (UnitD.c x)] (boolD (q x))) : Pure Try.prog 38 [.slm 5 nb UnitD.c l, .fn (.func 39) [.agg S.c] []] (boolD (l.all q)) := by
  have hc := conU_pure S l nb (fun x => !q x) hl (fun x hx => clU_pure S x (q x) (hp x hx))
  obtain ⟨r, hr⟩ : ∃ r, r = l.all q := ⟨_, rfl⟩
  rw [← hr]
  obtain ⟨v, hv⟩ : ∃ r, r = l.any (fun x => !q x) := ⟨_, rfl⟩
  rw [← hv] at hc
  have hvr : (!v) = r := by rw [hv, hr, List.not_any_eq_all_not]; simp
  clear hp hv hr
  obtain ⟨ni, is, nu, us, ns, ss, nr, rs, nc, cs, np, ps⟩ := S
  refine Pure.intro (want := [boolD r]) T_ok follows Try.func38 rfl (by kernel_rfl) (rs := [.tmp 4]) rfl (by kernel_rfl) ?_
  generalize hP : Try.prog = P at *
  have hT : T.ok P := hP ▸ T_ok
  have hm : P.follows .mixedOrders = true := hP ▸ follows
  unfold Try.f38
  dsimp only
  cbv
  refine CallP.lend _ _ hc (.cons (.eq (.refl _)) (.cons (.fns .nil (.cons (.dp rfl rfl rfl) .nil)) .nil)) rfl rfl ?_
  clear hc
  cbv
  refine .mk (.cons (.eq (.bool ?_)) .nil) rfl
  show (!v) = r
  exact hvr
set_option maxRecDepth 100000 in
set_option maxHeartbeats 4000000 in
theorem idxS_pure (S : SourceD) (l : List SchemaD) (nb : Option BE) (p : SchemaD → Bool) (hl : l.length < 9223372036854775807) (hp : ∀ x ∈ l, Pure Try.prog 64 [.agg (SchemaD.c x), .dp [.fn (.func 41) [.agg S.c] []] 0] (boolD (p x))) : Pure Try.prog 79 [.slm 6 nb SchemaD.c l, .fn (.func 64) [] [.dp [.fn (.func 41) [.agg S.c] []] 0]] (i64 (idxF p 0 l)) := by
  obtain ⟨r, hr⟩ : ∃ r, r = idxF p 0 l := ⟨_, rfl⟩
  rw [← hr]
  obtain ⟨n, hn⟩ : ∃ n : Nat, n = l.length := ⟨_, rfl⟩
  obtain ⟨ni, is, nu, us, ns, ss, nr, rs, nc, cs, np, ps⟩ := S
  refine Pure.intro (want := [i64 r]) T_ok follows Try.func79 rfl (by kernel_rfl) (rs := [.tmp 4]) rfl (by kernel_rfl) ?_
  generalize hP : Try.prog = P at *
  have hT : T.ok P := hP ▸ T_ok
  have hm : P.follows .mixedOrders = true := hP ▸ follows
  unfold Try.f79
  dsimp only
  cbv
  refine CodeP.loopc hT hm (X := Nat) (fun k => [(8, .int .i64 (.nat k))]) (fun k => k ≤ l.length ∧ r = idxF p k (l.drop k)) (fun k => n - k) 0 ⟨by simp, hr⟩ (Nat.zero_le _) ?_ rfl ?_
  · (cbv; (repeat' (first | exact SnD.refl _ | exact trivial | exact SnD.nat0 | refine And.intro ?_ ?_)))
  clear hr
  intro k ⟨hk, hq⟩
  cbv
  refine SplitP.mk (fun hs => ?_) (fun hs => ?_)
  · have hkn : k < l.length := by
      have h5 : decide ((k : Int) < (l.length : Int)) = true := hs
      have := of_decide_eq_true h5
      omega
    clear hs
    refine ElemP.mk (by show (0 : Int) ≤ (k : Int) ∧ (k : Int) < (l.length : Int); omega) (fun y hy => ?_)
    replace hy : l[k]? = some y := hy
    rw [drop_cons hy, idxF] at hq
    have h1 := hp y (List.mem_of_getElem? hy)
    obtain ⟨b, hb⟩ : ∃ b, b = p y := ⟨_, rfl⟩
    rw [← hb] at hq h1
    clear hp hb hy
    obtain ⟨y1, y2, y3, y4, y5, y6, y7, y8⟩ := y
    cbv
    refine CallP.pure _ h1 rfl ?_
    clear h1
    cbv
    refine SplitP.mk (fun g => ?_) (fun g => ?_)
    · have g2 : b = true := g
      rw [g2, if_pos rfl] at hq
      refine .mk (.cons (.eq (.int ?_)) .nil) rfl
      show (k : Int) = r
      exact hq.symm
    · have g2 : b = false := g
      rw [g2, if_neg (by decide)] at hq
      refine BackP.intro (k + 1) ⟨by omega, hq⟩ (by show n - (k + 1) < n - k; omega) ⟨?_, ?_, rfl⟩
      · (cbv; (repeat' (first | exact SnD.refl _ | exact trivial | exact SnD.nat0 | refine And.intro ?_ ?_)))
        exact .inc (by omega)
      · (cbv; (repeat' (first | exact trivial | exact BkEq.refl _ | exact SnD.refl _ | exact SnDs.nil | refine BkEq.cells ?_ | refine SnDs.cons ?_ ?_ | refine And.intro ?_ ?_)))
  · have hkn : l.length ≤ k := by
      have h5 : decide ((k : Int) < (l.length : Int)) = false := hs
      have := of_decide_eq_false h5
      omega
    clear hs
    rw [List.drop_of_length_le (by omega), idxF] at hq
    refine .mk (.cons (.eq (.int ?_)) .nil) rfl
    show (-1 : Int) = r
    exact hq.symm
set_option maxRecDepth 100000 in
set_option maxHeartbeats 4000000 in
theorem conS_pure (S : SourceD) (l : List SchemaD) (nb : Option BE) (p : SchemaD → Bool) (hl : l.length < 9223372036854775807) (hp : ∀ x ∈ l, Pure Try.prog 64 [.agg (SchemaD.c x), .dp [.fn (.func 41) [.agg S.c] []] 0] (boolD (p x))) : Pure Try.prog 63 [.slm 6 nb SchemaD.c l, .fn (.func 64) [] [.dp [.fn (.func 41) [.agg S.c] []] 0]] (boolD (l.any p)) := by
  have hi := idxS_pure S l nb p hl hp
  obtain ⟨r, hr⟩ : ∃ r, r = l.any p := ⟨_, rfl⟩
  rw [← hr]
  have hv := idxF_any p l 0
  rw [← hr] at hv
  obtain ⟨v, hv2⟩ : ∃ r, r = idxF p 0 l := ⟨_, rfl⟩
  rw [← hv2] at hi hv
  clear hp hr hv2
  obtain ⟨ni, is, nu, us, ns, ss, nr, rs, nc, cs, np, ps⟩ := S
  refine Pure.intro (want := [boolD r]) T_ok follows Try.func63 rfl (by kernel_rfl) (rs := [.tmp 4]) rfl (by kernel_rfl) ?_
  generalize hP : Try.prog = P at *
  have hT : T.ok P := hP ▸ T_ok
  have hm : P.follows .mixedOrders = true := hP ▸ follows
  unfold Try.f63
  dsimp only
  cbv
  refine CallP.pure _ hi rfl ?_
  clear hi
  cbv
  refine .mk (.cons (.eq (.bool ?_)) .nil) rfl
  show decide (v ≥ 0) = r
  exact hv
set_option maxRecDepth 100000 in
set_option maxHeartbeats 4000000 in
theorem clS_pure (S : SourceD) (x : SchemaD) (b : Bool) (hp : Pure Try.prog 41 [.agg S.c, .agg (SchemaD.c x)] (boolD b)) : Pure Try.prog 64 [.agg (SchemaD.c x), .dp [.fn (.func 41) [.agg S.c] []] 0] (boolD (!b)) := by
  obtain ⟨r, hr⟩ : ∃ r, r = !b := ⟨_, rfl⟩
  rw [← hr]
  obtain ⟨ni, is, nu, us, ns, ss, nr, rs, nc, cs, np, ps⟩ := S
  obtain ⟨y1, y2, y3, y4, y5, y6, y7, y8⟩ := x
  refine Pure.intro (want := [boolD r]) T_ok follows Try.func64 rfl (by kernel_rfl) (rs := [.tmp 3]) rfl (by kernel_rfl) ?_
  generalize hP : Try.prog = P at *
  have hT : T.ok P := hP ▸ T_ok
  have hm : P.follows .mixedOrders = true := hP ▸ follows
  unfold Try.f64
  dsimp only
  cbv
  refine CallP.pure _ hp rfl ?_
  clear hp
  cbv
  refine .mk (.cons (.eq (.bool ?_)) .nil) rfl
  show (!b) = r
  exact hr.symm
set_option maxRecDepth 100000 in
set_option maxHeartbeats 4000000 in
theorem allS_pure (S : SourceD) (l : List SchemaD) (nb : Option BE) (q : SchemaD → Bool) (hl : l.length < 9223372036854775807) (hp : ∀ x ∈ l, Pure Try.prog 41 [.agg S.c, .agg (SchemaD.c x)] (boolD (q x))) : Pure Try.prog 40 [.slm 6 nb SchemaD.c l, .fn (.func 41) [.agg S.c] []] (boolD (l.all q)) := by
  have hc := conS_pure S l nb (fun x => !q x) hl (fun x hx => clS_pure S x (q x) (hp x hx))
  obtain ⟨r, hr⟩ : ∃ r, r = l.all q := ⟨_, rfl⟩
  rw [← hr]
  obtain ⟨v, hv⟩ : ∃ r, r = l.any (fun x => !q x) := ⟨_, rfl⟩
  rw [← hv] at hc
  have hvr : (!v) = r := by rw [hv, hr, List.not_any_eq_all_not]; simp
  clear hp hv hr
  obtain ⟨ni, is, nu, us, ns, ss, nr, rs, nc, cs, np, ps⟩ := S
  refine Pure.intro (want := [boolD r]) T_ok follows Try.func40 rfl (by kernel_rfl) (rs := [.tmp 4]) rfl (by kernel_rfl) ?_
  generalize hP : Try.prog = P at *
  have hT : T.ok P := hP ▸ T_ok
  have hm : P.follows .mixedOrders = true := hP ▸ follows
  unfold Try.f40
  dsimp only
  cbv
  refine CallP.lend _ _ hc (.cons (.eq (.refl _)) (.cons (.fns .nil (.cons (.dp rfl rfl rfl) .nil)) .nil)) rfl rfl ?_
  clear hc
  cbv
  refine .mk (.cons (.eq (.bool ?_)) .nil) rfl
  show (!v) = r
  exact hvr
set_option maxRecDepth 100000 in
set_option maxHeartbeats 4000000 in
theorem idxR_pure (S : SourceD) (l : List RuleD) (nb : Option BE) (p : RuleD → Bool) (hl : l.length < 9223372036854775807) (hp : ∀ x ∈ l, Pure Try.prog 67 [.agg (RuleD.c x), .dp [.fn (.func 36) [] [.dp S.c 0]] 0] (boolD (p x))) : Pure Try.prog 81 [.slm 5 nb RuleD.c l, .fn (.func 67) [] [.dp [.fn (.func 36) [] [.dp S.c 0]] 0]] (i64 (idxF p 0 l)) := by
  obtain ⟨r, hr⟩ : ∃ r, r = idxF p 0 l := ⟨_, rfl⟩
  rw [← hr]
  obtain ⟨n, hn⟩ : ∃ n : Nat, n = l.length := ⟨_, rfl⟩
  obtain ⟨ni, is, nu, us, ns, ss, nr, rs, nc, cs, np, ps⟩ := S
  refine Pure.intro (want := [i64 r]) T_ok follows Try.func81 rfl (by kernel_rfl) (rs := [.tmp 4]) rfl (by kernel_rfl) ?_
  generalize hP : Try.prog = P at *
  have hT : T.ok P := hP ▸ T_ok
  have hm : P.follows .mixedOrders = true := hP ▸ follows
  unfold Try.f81
  dsimp only
  cbv
  refine CodeP.loopc hT hm (X := Nat) (fun k => [(8, .int .i64 (.nat k))]) (fun k => k ≤ l.length ∧ r = idxF p k (l.drop k)) (fun k => n - k) 0 ⟨by simp, hr⟩ (Nat.zero_le _) ?_ rfl ?_
  · (cbv; (repeat' (first | exact SnD.refl _ | exact trivial | exact SnD.nat0 | refine And.intro ?_ ?_)))
  clear hr
  intro k ⟨hk, hq⟩
  cbv
  refine SplitP.mk (fun hs => ?_) (fun hs => ?_)
  · have hkn : k < l.length := by
      have h5 : decide ((k : Int) < (l.length : Int)) = true := hs
      have := of_decide_eq_true h5
      omega
    clear hs
    refine ElemP.mk (by show (0 : Int) ≤ (k : Int) ∧ (k : Int) < (l.length : Int); omega) (fun y hy => ?_)
    replace hy : l[k]? = some y := hy
    rw [drop_cons hy, idxF] at hq
    have h1 := hp y (List.mem_of_getElem? hy)
    obtain ⟨b, hb⟩ : ∃ b, b = p y := ⟨_, rfl⟩
    rw [← hb] at hq h1
    clear hp hb hy
    obtain ⟨y1, y2, y3, y4, y5, y6, y7, y8⟩ := y
    cbv
    refine CallP.pure _ h1 rfl ?_
    clear h1
    cbv
    refine SplitP.mk (fun g => ?_) (fun g => ?_)
    · have g2 : b = true := g
      rw [g2, if_pos rfl] at hq
      refine .mk (.cons (.eq (.int ?_)) .nil) rfl
      show (k : Int) = r
      exact hq.symm
    · have g2 : b = false := g
      rw [g2, if_neg (by decide)] at hq
      refine BackP.intro (k + 1) ⟨by omega, hq⟩ (by show n - (k + 1) < n - k; omega) ⟨?_, ?_, rfl⟩
      · (cbv; (repeat' (first | exact SnD.refl _ | exact trivial | exact SnD.nat0 | refine And.intro ?_ ?_)))
        exact .inc (by omega)
      · (cbv; (repeat' (first | exact trivial | exact BkEq.refl _ | exact SnD.refl _ | exact SnDs.nil | refine BkEq.cells ?_ | refine SnDs.cons ?_ ?_ | refine And.intro ?_ ?_)))
  · have hkn : l.length ≤ k := by
      have h5 : decide ((k : Int) < (l.length : Int)) = false := hs
      have := of_decide_eq_false h5
      omega
    clear hs
    rw [List.drop_of_length_le (by omega), idxF] at hq
    refine .mk (.cons (.eq (.int ?_)) .nil) rfl
    show (-1 : Int) = r
    exact hq.symm
set_option maxRecDepth 100000 in
set_option maxHeartbeats 4000000 in
theorem conR_pure (S : SourceD) (l : List RuleD) (nb : Option BE) (p : RuleD → Bool) (hl : l.length < 9223372036854775807) (hp : ∀ x ∈ l, Pure Try.prog 67 [.agg (RuleD.c x), .dp [.fn (.func 36) [] [.dp S.c 0]] 0] (boolD (p x))) : Pure Try.prog 66 [.slm 5 nb RuleD.c l, .fn (.func 67) [] [.dp [.fn (.func 36) [] [.dp S.c 0]] 0]] (boolD (l.any p)) := by
  have hi := idxR_pure S l nb p hl hp
  obtain ⟨r, hr⟩ : ∃ r, r = l.any p := ⟨_, rfl⟩
  rw [← hr]
  have hv := idxF_any p l 0
  rw [← hr] at hv
  obtain ⟨v, hv2⟩ : ∃ r, r = idxF p 0 l := ⟨_, rfl⟩
  rw [← hv2] at hi hv
  clear hp hr hv2
  obtain ⟨ni, is, nu, us, ns, ss, nr, rs, nc, cs, np, ps⟩ := S
  refine Pure.intro (want := [boolD r]) T_ok follows Try.func66 rfl (by kernel_rfl) (rs := [.tmp 4]) rfl (by kernel_rfl) ?_
  generalize hP : Try.prog = P at *
  have hT : T.ok P := hP ▸ T_ok
  have hm : P.follows .mixedOrders = true := hP ▸ follows
  unfold Try.f66
  dsimp only
  cbv
  refine CallP.pure _ hi rfl ?_
  clear hi
  cbv
  refine .mk (.cons (.eq (.bool ?_)) .nil) rfl
  show decide (v ≥ 0) = r
  exact hv
set_option maxRecDepth 100000 in
set_option maxHeartbeats 4000000 in
theorem clR_pure (S : SourceD) (x : RuleD) (b : Bool) (hp : Pure Try.prog 36 [.agg (RuleD.c x), .dp S.c 0] (boolD b)) : Pure Try.prog 67 [.agg (RuleD.c x), .dp [.fn (.func 36) [] [.dp S.c 0]] 0] (boolD (!b)) := by
  obtain ⟨r, hr⟩ : ∃ r, r = !b := ⟨_, rfl⟩
  rw [← hr]
  obtain ⟨ni, is, nu, us, ns, ss, nr, rs, nc, cs, np, ps⟩ := S
  obtain ⟨y1, y2, y3, y4, y5, y6, y7, y8⟩ := x
  refine Pure.intro (want := [boolD r]) T_ok follows Try.func67 rfl (by kernel_rfl) (rs := [.tmp 3]) rfl (by kernel_rfl) ?_
  generalize hP : Try.prog = P at *
  have hT : T.ok P := hP ▸ T_ok
  have hm : P.follows .mixedOrders = true := hP ▸ follows
  unfold Try.f67
  dsimp only
  cbv
  refine CallP.pure _ hp rfl ?_
  clear hp
  cbv
  refine .mk (.cons (.eq (.bool ?_)) .nil) rfl
  show (!b) = r
  exact hr.symm
set_option maxRecDepth 100000 in
set_option maxHeartbeats 4000000 in
theorem allR_pure (S : SourceD) (l : List RuleD) (nb : Option BE) (q : RuleD → Bool) (hl : l.length < 9223372036854775807) (hp : ∀ x ∈ l, Pure Try.prog 36 [.agg (RuleD.c x), .dp S.c 0] (boolD (q x))) : Pure Try.prog 42 [.slm 5 nb RuleD.c l, .fn (.func 36) [] [.dp S.c 0]] (boolD (l.all q)) := by
  have hc := conR_pure S l nb (fun x => !q x) hl (fun x hx => clR_pure S x (q x) (hp x hx))
  obtain ⟨r, hr⟩ : ∃ r, r = l.all q := ⟨_, rfl⟩
  rw [← hr]
  obtain ⟨v, hv⟩ : ∃ r, r = l.any (fun x => !q x) := ⟨_, rfl⟩
  rw [← hv] at hc
  have hvr : (!v) = r := by rw [hv, hr, List.not_any_eq_all_not]; simp
  clear hp hv hr
  obtain ⟨ni, is, nu, us, ns, ss, nr, rs, nc, cs, np, ps⟩ := S
  refine Pure.intro (want := [boolD r]) T_ok follows Try.func42 rfl (by kernel_rfl) (rs := [.tmp 4]) rfl (by kernel_rfl) ?_
  generalize hP : Try.prog = P at *
  have hT : T.ok P := hP ▸ T_ok
  have hm : P.follows .mixedOrders = true := hP ▸ follows
  unfold Try.f42
  dsimp only
  cbv
  refine CallP.lend _ _ hc (.cons (.eq (.refl _)) (.cons (.fns .nil (.cons (.dp rfl rfl rfl) .nil)) .nil)) rfl rfl ?_
  clear hc
  cbv
  refine .mk (.cons (.eq (.bool ?_)) .nil) rfl
  show (!v) = r
  exact hvr
set_option maxRecDepth 100000 in
set_option maxHeartbeats 4000000 in
theorem idxP_pure (S : SourceD) (l : List PurposeD) (nb : Option BE) (p : PurposeD → Bool) (hl : l.length < 9223372036854775807) (hp : ∀ x ∈ l, Pure Try.prog 68 [.agg (PurposeD.c x), .dp [.fn (.func 44) [.agg S.c] []] 0] (boolD (p x))) : Pure Try.prog 73 [.slm 3 nb PurposeD.c l, .fn (.func 68) [] [.dp [.fn (.func 44) [.agg S.c] []] 0]] (i64 (idxF p 0 l)) := by
  obtain ⟨r, hr⟩ : ∃ r, r = idxF p 0 l := ⟨_, rfl⟩
  rw [← hr]
  obtain ⟨n, hn⟩ : ∃ n : Nat, n = l.length := ⟨_, rfl⟩
  obtain ⟨ni, is, nu, us, ns, ss, nr, rs, nc, cs, np, ps⟩ := S
  refine Pure.intro (want := [i64 r]) T_ok follows Try.func73 rfl (by kernel_rfl) (rs := [.tmp 4]) rfl (by kernel_rfl) ?_
  generalize hP : Try.prog = P at *
  have hT : T.ok P := hP ▸ T_ok
  have hm : P.follows .mixedOrders = true := hP ▸ follows
  unfold Try.f73
  dsimp only
  cbv
  refine CodeP.loopc hT hm (X := Nat) (fun k => [(8, .int .i64 (.nat k))]) (fun k => k ≤ l.length ∧ r = idxF p k (l.drop k)) (fun k => n - k) 0 ⟨by simp, hr⟩ (Nat.zero_le _) ?_ rfl ?_
  · (cbv; (repeat' (first | exact SnD.refl _ | exact trivial | exact SnD.nat0 | refine And.intro ?_ ?_)))
  clear hr
  intro k ⟨hk, hq⟩
  cbv
  refine SplitP.mk (fun hs => ?_) (fun hs => ?_)
  · have hkn : k < l.length := by
      have h5 : decide ((k : Int) < (l.length : Int)) = true := hs
      have := of_decide_eq_true h5
      omega
    clear hs
    refine ElemP.mk (by show (0 : Int) ≤ (k : Int) ∧ (k : Int) < (l.length : Int); omega) (fun y hy => ?_)
    replace hy : l[k]? = some y := hy
    rw [drop_cons hy, idxF] at hq
    have h1 := hp y (List.mem_of_getElem? hy)
    obtain ⟨b, hb⟩ : ∃ b, b = p y := ⟨_, rfl⟩
    rw [← hb] at hq h1
    clear hp hb hy
    obtain ⟨y1, y2, y3, y4⟩ := y
    cbv
    refine CallP.pure _ h1 rfl ?_
    clear h1
    cbv
    refine SplitP.mk (fun g => ?_) (fun g => ?_)
    · have g2 : b = true := g
      rw [g2, if_pos rfl] at hq
      refine .mk (.cons (.eq (.int ?_)) .nil) rfl
      show (k : Int) = r
      exact hq.symm
    · have g2 : b = false := g
      rw [g2, if_neg (by decide)] at hq
      refine BackP.intro (k + 1) ⟨by omega, hq⟩ (by show n - (k + 1) < n - k; omega) ⟨?_, ?_, rfl⟩
      · (cbv; (repeat' (first | exact SnD.refl _ | exact trivial | exact SnD.nat0 | refine And.intro ?_ ?_)))
        exact .inc (by omega)
      · (cbv; (repeat' (first | exact trivial | exact BkEq.refl _ | exact SnD.refl _ | exact SnDs.nil | refine BkEq.cells ?_ | refine SnDs.cons ?_ ?_ | refine And.intro ?_ ?_)))
  · have hkn : l.length ≤ k := by
      have h5 : decide ((k : Int) < (l.length : Int)) = false := hs
      have := of_decide_eq_false h5
      omega
    clear hs
    rw [List.drop_of_length_le (by omega), idxF] at hq
    refine .mk (.cons (.eq (.int ?_)) .nil) rfl
    show (-1 : Int) = r
    exact hq.symm
set_option maxRecDepth 100000 in
set_option maxHeartbeats 4000000 in
theorem conP_pure (S : SourceD) (l : List PurposeD) (nb : Option BE) (p : PurposeD → Bool) (hl : l.length < 9223372036854775807) (hp : ∀ x ∈ l, Pure Try.prog 68 [.agg (PurposeD.c x), .dp [.fn (.func 44) [.agg S.c] []] 0] (boolD (p x))) : Pure Try.prog 54 [.slm 3 nb PurposeD.c l, .fn (.func 68) [] [.dp [.fn (.func 44) [.agg S.c] []] 0]] (boolD (l.any p)) := by
  have hi := idxP_pure S l nb p hl hp
  obtain ⟨r, hr⟩ : ∃ r, r = l.any p := ⟨_, rfl⟩
  rw [← hr]
  have hv := idxF_any p l 0
  rw [← hr] at hv
  obtain ⟨v, hv2⟩ : ∃ r, r = idxF p 0 l := ⟨_, rfl⟩
  rw [← hv2] at hi hv
  clear hp hr hv2
  obtain ⟨ni, is, nu, us, ns, ss, nr, rs, nc, cs, np, ps⟩ := S
  refine Pure.intro (want := [boolD r]) T_ok follows Try.func54 rfl (by kernel_rfl) (rs := [.tmp 4]) rfl (by kernel_rfl) ?_
  generalize hP : Try.prog = P at *
  have hT : T.ok P := hP ▸ T_ok
  have hm : P.follows .mixedOrders = true := hP ▸ follows
  unfold Try.f54
  dsimp only
  cbv
  refine CallP.pure _ hi rfl ?_
  clear hi
  cbv
  refine .mk (.cons (.eq (.bool ?_)) .nil) rfl
  show decide (v ≥ 0) = r
  exact hv
set_option maxRecDepth 100000 in
set_option maxHeartbeats 4000000 in
theorem clP_pure (S : SourceD) (x : PurposeD) (b : Bool) (hp : Pure Try.prog 44 [.agg S.c, .agg (PurposeD.c x)] (boolD b)) : Pure Try.prog 68 [.agg (PurposeD.c x), .dp [.fn (.func 44) [.agg S.c] []] 0] (boolD (!b)) := by
  obtain ⟨r, hr⟩ : ∃ r, r = !b := ⟨_, rfl⟩
  rw [← hr]
  obtain ⟨ni, is, nu, us, ns, ss, nr, rs, nc, cs, np, ps⟩ := S
  obtain ⟨y1, y2, y3, y4⟩ := x
  refine Pure.intro (want := [boolD r]) T_ok follows Try.func68 rfl (by kernel_rfl) (rs := [.tmp 3]) rfl (by kernel_rfl) ?_
  generalize hP : Try.prog = P at *
  have hT : T.ok P := hP ▸ T_ok
  have hm : P.follows .mixedOrders = true := hP ▸ follows
  unfold Try.f68
  dsimp only
  cbv
  refine CallP.pure _ hp rfl ?_
  clear hp
  cbv
  refine .mk (.cons (.eq (.bool ?_)) .nil) rfl
  show (!b) = r
  exact hr.symm
set_option maxRecDepth 100000 in
set_option maxHeartbeats 4000000 in
theorem allP_pure (S : SourceD) (l : List PurposeD) (nb : Option BE) (q : PurposeD → Bool) (hl : l.length < 9223372036854775807) (hp : ∀ x ∈ l, Pure Try.prog 44 [.agg S.c, .agg (PurposeD.c x)] (boolD (q x))) : Pure Try.prog 43 [.slm 3 nb PurposeD.c l, .fn (.func 44) [.agg S.c] []] (boolD (l.all q)) := by
  have hc := conP_pure S l nb (fun x => !q x) hl (fun x hx => clP_pure S x (q x) (hp x hx))
  obtain ⟨r, hr⟩ : ∃ r, r = l.all q := ⟨_, rfl⟩
  rw [← hr]
  obtain ⟨v, hv⟩ : ∃ r, r = l.any (fun x => !q x) := ⟨_, rfl⟩
  rw [← hv] at hc
  have hvr : (!v) = r := by rw [hv, hr, List.not_any_eq_all_not]; simp
  clear hp hv hr
  obtain ⟨ni, is, nu, us, ns, ss, nr, rs, nc, cs, np, ps⟩ := S
  refine Pure.intro (want := [boolD r]) T_ok follows Try.func43 rfl (by kernel_rfl) (rs := [.tmp 4]) rfl (by kernel_rfl) ?_
  generalize hP : Try.prog = P at *
  have hT : T.ok P := hP ▸ T_ok
  have hm : P.follows .mixedOrders = true := hP ▸ follows
  unfold Try.f43
  dsimp only
  cbv
  refine CallP.lend _ _ hc (.cons (.eq (.refl _)) (.cons (.fns .nil (.cons (.dp rfl rfl rfl) .nil)) .nil)) rfl rfl ?_
  clear hc
  cbv
  refine .mk (.cons (.eq (.bool ?_)) .nil) rfl
  show (!v) = r
  exact hvr
set_option maxRecDepth 100000 in
set_option maxHeartbeats 4000000 in
theorem idxL_pure (l : List PurposeD) (nb : Option BE) (p : PurposeD → Bool) (hl : l.length < 9223372036854775807) (hp : ∀ x ∈ l, Pure Try.prog 55 [.agg (PurposeD.c x)] (boolD (p x))) : Pure Try.prog 73 [.slm 3 nb PurposeD.c l, .fn (.func 55) [] []] (i64 (idxF p 0 l)) := by
  obtain ⟨r, hr⟩ : ∃ r, r = idxF p 0 l := ⟨_, rfl⟩
  rw [← hr]
  obtain ⟨n, hn⟩ : ∃ n : Nat, n = l.length := ⟨_, rfl⟩
  refine Pure.intro (want := [i64 r]) T_ok follows Try.func73 rfl (by kernel_rfl) (rs := [.tmp 4]) rfl (by kernel_rfl) ?_
  generalize hP : Try.prog = P at *
  have hT : T.ok P := hP ▸ T_ok
  have hm : P.follows .mixedOrders = true := hP ▸ follows
  unfold Try.f73
  dsimp only
  cbv
  refine CodeP.loopc hT hm (X := Nat) (fun k => [(8, .int .i64 (.nat k))]) (fun k => k ≤ l.length ∧ r = idxF p k (l.drop k)) (fun k => n - k) 0 ⟨by simp, hr⟩ (Nat.zero_le _) ?_ rfl ?_
  · (cbv; (repeat' (first | exact SnD.refl _ | exact trivial | exact SnD.nat0 | refine And.intro ?_ ?_)))
  clear hr
  intro k ⟨hk, hq⟩
  cbv
  refine SplitP.mk (fun hs => ?_) (fun hs => ?_)
  · have hkn : k < l.length := by
      have h5 : decide ((k : Int) < (l.length : Int)) = true := hs
      have := of_decide_eq_true h5
      omega
    clear hs
    refine ElemP.mk (by show (0 : Int) ≤ (k : Int) ∧ (k : Int) < (l.length : Int); omega) (fun y hy => ?_)
    replace hy : l[k]? = some y := hy
    rw [drop_cons hy, idxF] at hq
    have h1 := hp y (List.mem_of_getElem? hy)
    obtain ⟨b, hb⟩ : ∃ b, b = p y := ⟨_, rfl⟩
    rw [← hb] at hq h1
    clear hp hb hy
    obtain ⟨y1, y2, y3, y4⟩ := y
    cbv
    refine CallP.pure _ h1 rfl ?_
    clear h1
    cbv
    refine SplitP.mk (fun g => ?_) (fun g => ?_)
    · have g2 : b = true := g
      rw [g2, if_pos rfl] at hq
      refine .mk (.cons (.eq (.int ?_)) .nil) rfl
      show (k : Int) = r
      exact hq.symm
    · have g2 : b = false := g
      rw [g2, if_neg (by decide)] at hq
      refine BackP.intro (k + 1) ⟨by omega, hq⟩ (by show n - (k + 1) < n - k; omega) ⟨?_, ?_, rfl⟩
      · (cbv; (repeat' (first | exact SnD.refl _ | exact trivial | exact SnD.nat0 | refine And.intro ?_ ?_)))
        exact .inc (by omega)
      · (cbv; (repeat' (first | exact trivial | exact BkEq.refl _ | exact SnD.refl _ | exact SnDs.nil | refine BkEq.cells ?_ | refine SnDs.cons ?_ ?_ | refine And.intro ?_ ?_)))
  · have hkn : l.length ≤ k := by
      have h5 : decide ((k : Int) < (l.length : Int)) = false := hs
      have := of_decide_eq_false h5
      omega
    clear hs
    rw [List.drop_of_length_le (by omega), idxF] at hq
    refine .mk (.cons (.eq (.int ?_)) .nil) rfl
    show (-1 : Int) = r
    exact hq.symm
set_option maxRecDepth 100000 in
set_option maxHeartbeats 4000000 in
theorem conL_pure (l : List PurposeD) (nb : Option BE) (p : PurposeD → Bool) (hl : l.length < 9223372036854775807) (hp : ∀ x ∈ l, Pure Try.prog 55 [.agg (PurposeD.c x)] (boolD (p x))) : Pure Try.prog 54 [.slm 3 nb PurposeD.c l, .fn (.func 55) [] []] (boolD (l.any p)) := by
  have hi := idxL_pure l nb p hl hp
  obtain ⟨r, hr⟩ : ∃ r, r = l.any p := ⟨_, rfl⟩
  rw [← hr]
  have hv := idxF_any p l 0
  rw [← hr] at hv
  obtain ⟨v, hv2⟩ : ∃ r, r = idxF p 0 l := ⟨_, rfl⟩
  rw [← hv2] at hi hv
  clear hp hr hv2
  refine Pure.intro (want := [boolD r]) T_ok follows Try.func54 rfl (by kernel_rfl) (rs := [.tmp 4]) rfl (by kernel_rfl) ?_
  generalize hP : Try.prog = P at *
  have hT : T.ok P := hP ▸ T_ok
  have hm : P.follows .mixedOrders = true := hP ▸ follows
  unfold Try.f54
  dsimp only
  cbv
  refine CallP.pure _ hi rfl ?_
  clear hi
  cbv
  refine .mk (.cons (.eq (.bool ?_)) .nil) rfl
  show decide (v ≥ 0) = r
  exact hv
end Go.Proofs.Ytdhfakajlnidiaa
namespace Go.Proofs.Ytdhfakajlnidiaa
open Go.RowKit

/-! Lengths of what an argument holds; the reference's Few of chapter 10. -/
structure SourceD.lens (S : SourceD) : Prop where
  ss : S.schemas.length ≤ 9223372036854775807
  rs : S.rules.length ≤ 9223372036854775807
  cs : S.converts.length ≤ 9223372036854775807
  ps : S.purposes.length ≤ 9223372036854775807
  fs : ∀ x ∈ S.schemas, x.fields.length ≤ 9223372036854775807
  ds : ∀ x ∈ S.schemas, x.depends.length ≤ 9223372036854775807
  ns : ∀ x ∈ S.schemas, ∀ f ∈ x.fields, f.type.names.length ≤ 9223372036854775807
theorem DRep.slm_len {w : World} {E : Env} {α : Type} {n : Nat} {nb : Option BE} {c : α → List D} {l : List α} {v : Value} (h : DRep w E (.slm n nb c l) v) : l.length ≤ 9223372036854775807 ∧ ∀ x ∈ l, ∀ (j : Nat) d, (c x)[j]? = some d → ∃ E' u, DRep w E' d u := by
  cases h with
  | @slm _ _ _ _ _ _ a cap u hnb hc hm hx ha hh =>
    refine ⟨by unfold maxLen at hm; omega, fun x hx2 j d hd => ?_⟩
    obtain ⟨i, hi, rfl⟩ := List.mem_iff_getElem.1 hx2
    exact ⟨_, _, hh i _ j d (List.getElem?_eq_getElem hi) hd⟩
theorem DRep.agg_at {w : World} {E : Env} {l : List D} {v : Value} (h : DRep w E (.agg l) v) (j : Nat) (d : D) (hd : l[j]? = some d) : ∃ u, DRep w E d u := by
  cases h with
  | @agg _ _ vs hs hh =>
    have hj : j < l.length := (List.getElem?_eq_some_iff.1 hd).1
    exact ⟨_, hh j d _ hd (Array.getElem?_eq_getElem (by omega))⟩
theorem lens_of {w : World} {E : Env} {S : SourceD} {v : Value} (h : DRep w E (.agg S.c) v) : S.lens := by
  obtain ⟨u2, h2⟩ := h.agg_at 2 _ rfl
  obtain ⟨u3, h3⟩ := h.agg_at 3 _ rfl
  obtain ⟨u4, h4⟩ := h.agg_at 4 _ rfl
  obtain ⟨u5, h5⟩ := h.agg_at 5 _ rfl
  have g2 := h2.slm_len
  have gf : ∀ x ∈ S.schemas, x.fields.length ≤ 9223372036854775807 ∧ ∀ f ∈ x.fields, ∀ (j : Nat) d, (FieldD.c f)[j]? = some d → ∃ E' u, DRep w E' d u := fun x hx => by
    obtain ⟨_, u, hu⟩ := g2.2 x hx 4 _ rfl
    exact hu.slm_len
  have gd : ∀ x ∈ S.schemas, x.depends.length ≤ 9223372036854775807 := fun x hx => by
    obtain ⟨_, u, hu⟩ := g2.2 x hx 5 _ rfl
    exact hu.slm_len.1
  refine ⟨g2.1, h3.slm_len.1, h4.slm_len.1, h5.slm_len.1, fun x hx => (gf x hx).1, fun x hx => gd x hx, fun x hx f hf => ?_⟩
  obtain ⟨_, u, hu⟩ := (gf x hx).2 f hf 6 _ rfl
  exact hu.slm_len.1
theorem Pure.lens {f : Nat} {S : SourceD} {d : D} (h1 : Here Try.prog f) (h : S.lens → Pure Try.prog f [.agg S.c] d) : Pure Try.prog f [.agg S.c] d := by
  refine ⟨h1, fun w G vs hL hG hv => ?_⟩
  have hl : S.lens := by
    obtain ⟨h1, h2⟩ := hv
    obtain ⟨vl⟩ := vs
    match vl, h1 with
    | [v], _ => exact lens_of (h2 0 _ v rfl rfl)
  exact (h hl).2 w G vs hL hG hv
def ad (a b : Int) : Int := binDen .add .i64 a b
def fF (a : Int) (f : FieldD) : Int := ad (ad a 1) (f.type.names.length : Int)
def dF (a : Int) (d : DependD) : Int := ad (ad a (d.names.length : Int)) (d.from_.length : Int)
def sF (a : Int) (x : SchemaD) : Int := x.depends.foldl dF (x.fields.foldl fF (ad (ad a 1) (x.depends.length : Int)))
def rF (a : Int) (r : RuleD) : Int := ad (ad (ad (ad a 1) (r.froms.length : Int)) (r.where_.length : Int)) (r.sets.length : Int)
def cF (a : Int) (c : ConvertD) : Int := ad (ad a 1) (c.moves.length : Int)
def pF (a : Int) (p : PurposeD) : Int := ad (ad a 1) (p.may.length : Int)
def few10 (S : SourceD) : Bool := decide (S.purposes.foldl pF (S.converts.foldl cF (S.rules.foldl rF (S.schemas.foldl sF (ad S.issuers.length S.units.length)))) ≤ 160)
theorem Few10_lens (S : SourceD) (hL : S.lens) : Pure Try.prog 19 [.agg S.c] (boolD (few10 S)) := by
  obtain ⟨r, hr⟩ : ∃ r, r = few10 S := ⟨_, rfl⟩
  rw [← hr]
  unfold few10 at hr
  obtain ⟨AD, hAD⟩ : ∃ f, f = ad := ⟨_, rfl⟩
  obtain ⟨FF, hFF⟩ : ∃ f, f = fF := ⟨_, rfl⟩
  obtain ⟨DF, hDF⟩ : ∃ f, f = dF := ⟨_, rfl⟩
  obtain ⟨SF, hSF⟩ : ∃ f, f = sF := ⟨_, rfl⟩
  obtain ⟨RF, hRF⟩ : ∃ f, f = rF := ⟨_, rfl⟩
  obtain ⟨CF, hCF⟩ : ∃ f, f = cF := ⟨_, rfl⟩
  obtain ⟨PF, hPF⟩ : ∃ f, f = pF := ⟨_, rfl⟩
  have eF : ∀ a f, FF a f = AD (AD a 1) (f.type.names.length : Int) := fun a f => by rw [hFF, hAD]; rfl
  have eD : ∀ a (f : DependD), DF a f = AD (AD a (f.names.length : Int)) (f.from_.length : Int) := fun a f => by rw [hDF, hAD]; rfl
  have eS : ∀ a (x : SchemaD), SF a x = x.depends.foldl DF (x.fields.foldl FF (AD (AD a 1) (x.depends.length : Int))) := fun a f => by rw [hSF, hDF, hFF, hAD]; rfl
  have eR : ∀ a (r : RuleD), RF a r = AD (AD (AD (AD a 1) (r.froms.length : Int)) (r.where_.length : Int)) (r.sets.length : Int) := fun a f => by rw [hRF, hAD]; rfl
  have eC : ∀ a (r : ConvertD), CF a r = AD (AD a 1) (r.moves.length : Int) := fun a f => by rw [hCF, hAD]; rfl
  have eP : ∀ a (r : PurposeD), PF a r = AD (AD a 1) (r.may.length : Int) := fun a f => by rw [hPF, hAD]; rfl
  have eA : ∀ a b, binDen .add .i64 a b = AD a b := fun a b => by rw [hAD]; rfl
  rw [← hAD, ← hSF, ← hRF, ← hCF, ← hPF] at hr
  clear hAD hFF hDF hSF hRF hCF hPF
  obtain ⟨lss, lrs, lcs, lps, lfs, lds, -⟩ := hL
  obtain ⟨ni, is, nu, us, nsc, ss, nru, rs, ncv, cs, npu, ps⟩ := S
  simp only at hr lss lrs lcs lps lfs lds
  obtain ⟨G4, h4⟩ : ∃ f : Int → Bool, f = fun a => decide (a ≤ 160) := ⟨_, rfl⟩
  obtain ⟨G3, h3⟩ : ∃ f : Int → Bool, f = fun a => G4 (ps.foldl PF a) := ⟨_, rfl⟩
  obtain ⟨G2, h2⟩ : ∃ f : Int → Bool, f = fun a => G3 (cs.foldl CF a) := ⟨_, rfl⟩
  obtain ⟨G1, h1⟩ : ∃ f : Int → Bool, f = fun a => G2 (rs.foldl RF a) := ⟨_, rfl⟩
  have q4 : ∀ a, G4 a = decide (a ≤ 160) := fun a => by rw [h4]
  have q3 : ∀ a, G3 a = G4 (ps.foldl PF a) := fun a => by rw [h3]
  have q2 : ∀ a, G2 a = G3 (cs.foldl CF a) := fun a => by rw [h2]
  have q1 : ∀ a, G1 a = G2 (rs.foldl RF a) := fun a => by rw [h1]
  rw [← q4, ← q3, ← q2, ← q1] at hr
  clear h1 h2 h3 h4
  obtain ⟨n1, hn1⟩ : ∃ n : Nat, n = ss.length := ⟨_, rfl⟩
  obtain ⟨n2, hn2⟩ : ∃ n : Nat, n = rs.length := ⟨_, rfl⟩
  obtain ⟨n3, hn3⟩ : ∃ n : Nat, n = cs.length := ⟨_, rfl⟩
  obtain ⟨n4, hn4⟩ : ∃ n : Nat, n = ps.length := ⟨_, rfl⟩
  refine Pure.intro (want := [boolD r]) T_ok follows Try.func19 rfl (by kernel_rfl) (rs := [.tmp 2]) rfl (by kernel_rfl) ?_
  generalize hP : Try.prog = P at *
  have hT : T.ok P := hP ▸ T_ok
  have hm : P.follows .mixedOrders = true := hP ▸ follows
  unfold Try.f19
  dsimp only
  cbv
  refine CodeP.loopc hT hm (X := Nat × Int) (fun x => [(4, .int .i64 (.nat x.1)), (3, .int .i64 (.var x.2))]) (fun x => x.1 ≤ ss.length ∧ r = G1 (List.foldl SF x.2 (ss.drop x.1))) (fun x => n1 - x.1) (0, AD (is.length : Int) (us.length : Int)) ⟨Nat.zero_le _, hr⟩ (Nat.zero_le _) ?_ rfl ?_
  · refine ⟨.nat0, ?_, ?_⟩
    · first
        | exact .refl _
        | exact .eq (.int (by show binDen .add .i64 _ _ = _; rw [eA]; rfl))
        | exact .eq (.int (by show binDen .add .i64 (binDen .add .i64 _ _) _ = _; rw [eA, eA]; rfl))
    · (cbv; (repeat' (first | exact SnD.refl _ | exact trivial | exact SnD.nat0 | refine And.intro ?_ ?_)))
  clear hr
  intro ⟨k, a⟩ ⟨hk, hq⟩
  simp only at hk hq
  cbv
  refine SplitP.mk (fun hs => ?_) (fun hs => ?_)
  · have hkn : k < ss.length := by
      have h5 : decide ((k : Int) < (ss.length : Int)) = true := hs
      have := of_decide_eq_true h5
      omega
    clear hs
    refine ElemP.mk (by show (0 : Int) ≤ (k : Int) ∧ (k : Int) < (ss.length : Int); omega) (fun x hx => ?_)
    replace hx : ss[k]? = some x := hx
    rw [drop_cons hx, List.foldl_cons, eS] at hq
    have lf := lfs x (List.mem_of_getElem? hx)
    have ld := lds x (List.mem_of_getElem? hx)
    clear lfs lds
    obtain ⟨x1, x2, x3, x4, x5, fl, x7, dl⟩ := x
    simp only at hq lf ld
    obtain ⟨m1, hm1⟩ : ∃ n : Nat, n = fl.length := ⟨_, rfl⟩
    obtain ⟨m2, hm2⟩ : ∃ n : Nat, n = dl.length := ⟨_, rfl⟩
    obtain ⟨G5, h5⟩ : ∃ f : Int → Bool, f = fun a => G1 (List.foldl SF a (ss.drop (k + 1))) := ⟨_, rfl⟩
    obtain ⟨G6, h6⟩ : ∃ f : Int → Bool, f = fun a => G5 (dl.foldl DF a) := ⟨_, rfl⟩
    have q5 : ∀ a, G5 a = G1 (List.foldl SF a (ss.drop (k + 1))) := fun a => by rw [h5]
    have q6 : ∀ a, G6 a = G5 (dl.foldl DF a) := fun a => by rw [h6]
    rw [← q5, ← q6] at hq
    clear h5 h6
    cbv
    refine CodeP.loopc hT hm (X := Nat × Int) (fun x => [(5, .int .i64 (.nat x.1)), (3, .int .i64 (.var x.2))]) (fun x => x.1 ≤ fl.length ∧ r = G6 (List.foldl FF x.2 (fl.drop x.1))) (fun x => m1 - x.1) (0, AD (AD a 1) (dl.length : Int)) ⟨Nat.zero_le _, hq⟩ (Nat.zero_le _) ?_ rfl ?_
    · refine ⟨.nat0, ?_, ?_⟩
      · first
          | exact .refl _
          | exact .eq (.int (by show binDen .add .i64 _ _ = _; rw [eA]; rfl))
          | exact .eq (.int (by show binDen .add .i64 (binDen .add .i64 _ _) _ = _; rw [eA, eA]; rfl))
      · (cbv; (repeat' (first | exact SnD.refl _ | exact trivial | exact SnD.nat0 | refine And.intro ?_ ?_)))
    clear hq
    intro ⟨j, b⟩ ⟨hj, hq⟩
    simp only at hj hq
    cbv
    refine ElemP.mk (by show (0 : Int) ≤ (k : Int) ∧ (k : Int) < (ss.length : Int); omega) (fun zz hzz => ?_)
    replace hzz : ss[k]? = some zz := hzz
    rw [hx] at hzz
    cases hzz
    cbv
    refine SplitP.mk (fun hs => ?_) (fun hs => ?_)
    · have hjn : j < fl.length := by
        have := of_decide_eq_true (show decide ((j : Int) < (fl.length : Int)) = true from hs)
        omega
      clear hs
      refine ElemP.mk (by show (0 : Int) ≤ (k : Int) ∧ (k : Int) < (ss.length : Int); omega) (fun zz hzz => ?_)
      replace hzz : ss[k]? = some zz := hzz
      rw [hx] at hzz
      cases hzz
      cbv
      refine ElemP.mk (by show (0 : Int) ≤ (j : Int) ∧ (j : Int) < (fl.length : Int); omega) (fun f hf => ?_)
      replace hf : fl[j]? = some f := hf
      rw [drop_cons hf, List.foldl_cons, eF] at hq
      clear hf
      obtain ⟨y1, ⟨y2, y3, y4, y5, y6, y7, y8⟩, y9, y10, y11, y12⟩ := f
      simp only at hq
      cbv
      refine BackP.intro (j + 1, AD (AD b 1) (y8.length : Int)) ⟨by show j + 1 ≤ fl.length; omega, hq⟩ (by show m1 - (j + 1) < m1 - j; omega) ⟨?_, ?_, rfl⟩
      · refine ⟨.inc (by omega), .eq (.int (by show binDen .add .i64 (binDen .add .i64 _ _) _ = _; rw [eA, eA]; rfl)), ?_⟩
        (cbv; (repeat' (first | exact SnD.refl _ | exact trivial | exact SnD.nat0 | refine And.intro ?_ ?_)))
      · (cbv; (repeat' (first | exact trivial | exact BkEq.refl _ | exact SnD.refl _ | exact SnDs.nil | refine BkEq.cells ?_ | refine SnDs.cons ?_ ?_ | refine And.intro ?_ ?_)))
    have hjn : j = fl.length := by
      have := of_decide_eq_false (show decide ((j : Int) < (fl.length : Int)) = false from hs)
      omega
    rw [List.drop_of_length_le (by omega), List.foldl_nil, q6] at hq
    clear hs
    refine CodeP.loopc hT hm (X := Nat × Int) (fun x => [(6, .int .i64 (.nat x.1)), (3, .int .i64 (.var x.2))]) (fun x => x.1 ≤ dl.length ∧ r = G5 (List.foldl DF x.2 (dl.drop x.1))) (fun x => m2 - x.1) (0, b) ⟨Nat.zero_le _, hq⟩ (Nat.zero_le _) ?_ rfl ?_
    · refine ⟨.nat0, ?_, ?_⟩
      · first
          | exact .refl _
          | exact .eq (.int (by show binDen .add .i64 _ _ = _; rw [eA]; rfl))
          | exact .eq (.int (by show binDen .add .i64 (binDen .add .i64 _ _) _ = _; rw [eA, eA]; rfl))
      · (cbv; (repeat' (first | exact SnD.refl _ | exact trivial | exact SnD.nat0 | refine And.intro ?_ ?_)))
    clear hq
    intro ⟨j2, c⟩ ⟨hj2, hq⟩
    simp only at hj2 hq
    cbv
    refine ElemP.mk (by show (0 : Int) ≤ (k : Int) ∧ (k : Int) < (ss.length : Int); omega) (fun zz hzz => ?_)
    replace hzz : ss[k]? = some zz := hzz
    rw [hx] at hzz
    cases hzz
    cbv
    refine SplitP.mk (fun hs => ?_) (fun hs => ?_)
    · have hjn2 : j2 < dl.length := by
        have := of_decide_eq_true (show decide ((j2 : Int) < (dl.length : Int)) = true from hs)
        omega
      clear hs
      obtain ⟨f, hf⟩ : ∃ f, dl[j2]? = some f := ⟨_, List.getElem?_eq_getElem hjn2⟩
      rw [drop_cons hf, List.foldl_cons, eD] at hq
      obtain ⟨y1, y2, y3, y4, y5, y6⟩ := f
      simp only at hq
      refine ⟨by kernel_rfl, ?_⟩
      cbv
      refine ElemP.mk (by show (0 : Int) ≤ (k : Int) ∧ (k : Int) < (ss.length : Int); omega) (fun zz hzz => ?_)
      replace hzz : ss[k]? = some zz := hzz
      rw [hx] at hzz
      cases hzz
      cbv
      refine ElemP.mk (by show (0 : Int) ≤ (j2 : Int) ∧ (j2 : Int) < (dl.length : Int); omega) (fun zz hzz => ?_)
      replace hzz : dl[j2]? = some zz := hzz
      rw [hf] at hzz
      cases hzz
      cbv
      refine ElemP.mk (by show (0 : Int) ≤ (k : Int) ∧ (k : Int) < (ss.length : Int); omega) (fun zz hzz => ?_)
      replace hzz : ss[k]? = some zz := hzz
      rw [hx] at hzz
      cases hzz
      cbv
      refine ElemP.mk (by show (0 : Int) ≤ (j2 : Int) ∧ (j2 : Int) < (dl.length : Int); omega) (fun zz hzz => ?_)
      replace hzz : dl[j2]? = some zz := hzz
      rw [hf] at hzz
      cases hzz
      cbv
      refine BackP.intro (j2 + 1, AD (AD c (y2.length : Int)) (y5.length : Int)) ⟨by show j2 + 1 ≤ dl.length; omega, hq⟩ (by show m2 - (j2 + 1) < m2 - j2; omega) ⟨?_, ?_, rfl⟩
      · refine ⟨.inc (by omega), .eq (.int (by show binDen .add .i64 (binDen .add .i64 _ _) _ = _; rw [eA, eA]; rfl)), ?_⟩
        (cbv; (repeat' (first | exact SnD.refl _ | exact trivial | exact SnD.nat0 | refine And.intro ?_ ?_)))
      · (cbv; (repeat' (first | exact trivial | exact BkEq.refl _ | exact SnD.refl _ | exact SnDs.nil | refine BkEq.cells ?_ | refine SnDs.cons ?_ ?_ | refine And.intro ?_ ?_)))
    have hjn2 : j2 = dl.length := by
      have := of_decide_eq_false (show decide ((j2 : Int) < (dl.length : Int)) = false from hs)
      omega
    rw [List.drop_of_length_le (by omega), List.foldl_nil, q5] at hq
    refine BackP.intro (k + 1, c) ⟨by show k + 1 ≤ ss.length; omega, hq⟩ (by show n1 - (k + 1) < n1 - k; omega) ⟨?_, ?_, rfl⟩
    · refine ⟨.inc (by omega), .refl _, ?_⟩
      (cbv; (repeat' (first | exact SnD.refl _ | exact trivial | exact SnD.nat0 | refine And.intro ?_ ?_)))
    · (cbv; (repeat' (first | exact trivial | exact BkEq.refl _ | exact SnD.refl _ | exact SnDs.nil | refine BkEq.cells ?_ | refine SnDs.cons ?_ ?_ | refine And.intro ?_ ?_)))
  have hkn : k = ss.length := by
    have := of_decide_eq_false (show decide ((k : Int) < (ss.length : Int)) = false from hs)
    omega
  rw [List.drop_of_length_le (by omega), List.foldl_nil, q1] at hq
  clear hs hkn hk lfs lds
  refine CodeP.loopc hT hm (X := Nat × Int) (fun x => [(7, .int .i64 (.nat x.1)), (3, .int .i64 (.var x.2))]) (fun x => x.1 ≤ rs.length ∧ r = G2 (List.foldl RF x.2 (rs.drop x.1))) (fun x => n2 - x.1) (0, a) ⟨Nat.zero_le _, hq⟩ (Nat.zero_le _) ?_ rfl ?_
  · refine ⟨.nat0, ?_, ?_⟩
    · first
        | exact .refl _
        | exact .eq (.int (by show binDen .add .i64 _ _ = _; rw [eA]))
        | exact .eq (.int (by show binDen .add .i64 (binDen .add .i64 _ _) _ = _; rw [eA, eA]))
    · (cbv; (repeat' (first | exact SnD.refl _ | exact trivial | exact SnD.nat0 | refine And.intro ?_ ?_)))
  clear hq
  intro ⟨k2, a2⟩ ⟨hk, hq⟩
  simp only at hk hq
  cbv
  refine SplitP.mk (fun hs => ?_) (fun hs => ?_)
  · have hkn : k2 < rs.length := by
      have := of_decide_eq_true (show decide ((k2 : Int) < (rs.length : Int)) = true from hs)
      omega
    clear hs
    obtain ⟨f, hf⟩ : ∃ f, rs[k2]? = some f := ⟨_, List.getElem?_eq_getElem hkn⟩
    rw [drop_cons hf, List.foldl_cons, eR] at hq
    obtain ⟨y1, y2, y3, y4, y5, y6, y7, y8⟩ := f
    simp only at hq
    refine ⟨by kernel_rfl, ?_⟩
    cbv
    refine ElemP.mk (by show (0 : Int) ≤ (k2 : Int) ∧ (k2 : Int) < (rs.length : Int); omega) (fun zz hzz => ?_)
    replace hzz : rs[k2]? = some zz := hzz
    rw [hf] at hzz
    cases hzz
    cbv
    refine ElemP.mk (by show (0 : Int) ≤ (k2 : Int) ∧ (k2 : Int) < (rs.length : Int); omega) (fun zz hzz => ?_)
    replace hzz : rs[k2]? = some zz := hzz
    rw [hf] at hzz
    cases hzz
    cbv
    refine ElemP.mk (by show (0 : Int) ≤ (k2 : Int) ∧ (k2 : Int) < (rs.length : Int); omega) (fun zz hzz => ?_)
    replace hzz : rs[k2]? = some zz := hzz
    rw [hf] at hzz
    cases hzz
    cbv
    refine BackP.intro (k2 + 1, AD (AD (AD (AD a2 1) (y4.length : Int)) (y6.length : Int)) (y8.length : Int)) ⟨by show k2 + 1 ≤ rs.length; omega, hq⟩ (by show n2 - (k2 + 1) < n2 - k2; omega) ⟨?_, ?_, rfl⟩
    · refine ⟨.inc (by omega), .eq (.int (by show binDen .add .i64 (binDen .add .i64 (binDen .add .i64 (binDen .add .i64 _ _) _) _) _ = _; rw [eA, eA, eA, eA]; rfl)), ?_⟩
      (cbv; (repeat' (first | exact SnD.refl _ | exact trivial | exact SnD.nat0 | refine And.intro ?_ ?_)))
    · (cbv; (repeat' (first | exact trivial | exact BkEq.refl _ | exact SnD.refl _ | exact SnDs.nil | refine BkEq.cells ?_ | refine SnDs.cons ?_ ?_ | refine And.intro ?_ ?_)))
  have hkn : k2 = rs.length := by
    have := of_decide_eq_false (show decide ((k2 : Int) < (rs.length : Int)) = false from hs)
    omega
  rw [List.drop_of_length_le (by omega), List.foldl_nil, q2] at hq
  clear hs hkn hk
  refine CodeP.loopc hT hm (X := Nat × Int) (fun x => [(8, .int .i64 (.nat x.1)), (3, .int .i64 (.var x.2))]) (fun x => x.1 ≤ cs.length ∧ r = G3 (List.foldl CF x.2 (cs.drop x.1))) (fun x => n3 - x.1) (0, a2) ⟨Nat.zero_le _, hq⟩ (Nat.zero_le _) ?_ rfl ?_
  · refine ⟨.nat0, ?_, ?_⟩
    · first
        | exact .refl _
        | exact .eq (.int (by show binDen .add .i64 _ _ = _; rw [eA]))
        | exact .eq (.int (by show binDen .add .i64 (binDen .add .i64 _ _) _ = _; rw [eA, eA]))
    · (cbv; (repeat' (first | exact SnD.refl _ | exact trivial | exact SnD.nat0 | refine And.intro ?_ ?_)))
  clear hq
  intro ⟨k3, a22⟩ ⟨hk, hq⟩
  simp only at hk hq
  cbv
  refine SplitP.mk (fun hs => ?_) (fun hs => ?_)
  · have hkn : k3 < cs.length := by
      have := of_decide_eq_true (show decide ((k3 : Int) < (cs.length : Int)) = true from hs)
      omega
    clear hs
    obtain ⟨f, hf⟩ : ∃ f, cs[k3]? = some f := ⟨_, List.getElem?_eq_getElem hkn⟩
    rw [drop_cons hf, List.foldl_cons, eC] at hq
    obtain ⟨y1, y2, y3, y4, y5, y6⟩ := f
    simp only at hq
    refine ElemP.mk (by show (0 : Int) ≤ (k3 : Int) ∧ (k3 : Int) < (cs.length : Int); omega) (fun zz hzz => ?_)
    replace hzz : cs[k3]? = some zz := hzz
    rw [hf] at hzz
    cases hzz
    cbv
    refine BackP.intro (k3 + 1, AD (AD a22 1) (y6.length : Int)) ⟨by show k3 + 1 ≤ cs.length; omega, hq⟩ (by show n3 - (k3 + 1) < n3 - k3; omega) ⟨?_, ?_, rfl⟩
    · refine ⟨.inc (by omega), .eq (.int (by show binDen .add .i64 (binDen .add .i64 _ _) _ = _; rw [eA, eA]; rfl)), ?_⟩
      (cbv; (repeat' (first | exact SnD.refl _ | exact trivial | exact SnD.nat0 | refine And.intro ?_ ?_)))
    · (cbv; (repeat' (first | exact trivial | exact BkEq.refl _ | exact SnD.refl _ | exact SnDs.nil | refine BkEq.cells ?_ | refine SnDs.cons ?_ ?_ | refine And.intro ?_ ?_)))
  have hkn : k3 = cs.length := by
    have := of_decide_eq_false (show decide ((k3 : Int) < (cs.length : Int)) = false from hs)
    omega
  rw [List.drop_of_length_le (by omega), List.foldl_nil, q3] at hq
  clear hs hkn hk
  refine CodeP.loopc hT hm (X := Nat × Int) (fun x => [(9, .int .i64 (.nat x.1)), (3, .int .i64 (.var x.2))]) (fun x => x.1 ≤ ps.length ∧ r = G4 (List.foldl PF x.2 (ps.drop x.1))) (fun x => n4 - x.1) (0, a22) ⟨Nat.zero_le _, hq⟩ (Nat.zero_le _) ?_ rfl ?_
  · refine ⟨.nat0, ?_, ?_⟩
    · first
        | exact .refl _
        | exact .eq (.int (by show binDen .add .i64 _ _ = _; rw [eA]))
        | exact .eq (.int (by show binDen .add .i64 (binDen .add .i64 _ _) _ = _; rw [eA, eA]))
    · (cbv; (repeat' (first | exact SnD.refl _ | exact trivial | exact SnD.nat0 | refine And.intro ?_ ?_)))
  clear hq
  intro ⟨k4, a222⟩ ⟨hk, hq⟩
  simp only at hk hq
  cbv
  refine SplitP.mk (fun hs => ?_) (fun hs => ?_)
  · have hkn : k4 < ps.length := by
      have := of_decide_eq_true (show decide ((k4 : Int) < (ps.length : Int)) = true from hs)
      omega
    clear hs
    obtain ⟨f, hf⟩ : ∃ f, ps[k4]? = some f := ⟨_, List.getElem?_eq_getElem hkn⟩
    rw [drop_cons hf, List.foldl_cons, eP] at hq
    obtain ⟨y1, y2, y3, y4⟩ := f
    simp only at hq
    refine ElemP.mk (by show (0 : Int) ≤ (k4 : Int) ∧ (k4 : Int) < (ps.length : Int); omega) (fun zz hzz => ?_)
    replace hzz : ps[k4]? = some zz := hzz
    rw [hf] at hzz
    cases hzz
    cbv
    refine BackP.intro (k4 + 1, AD (AD a222 1) (y3.length : Int)) ⟨by show k4 + 1 ≤ ps.length; omega, hq⟩ (by show n4 - (k4 + 1) < n4 - k4; omega) ⟨?_, ?_, rfl⟩
    · refine ⟨.inc (by omega), .eq (.int (by show binDen .add .i64 (binDen .add .i64 _ _) _ = _; rw [eA, eA]; rfl)), ?_⟩
      (cbv; (repeat' (first | exact SnD.refl _ | exact trivial | exact SnD.nat0 | refine And.intro ?_ ?_)))
    · (cbv; (repeat' (first | exact trivial | exact BkEq.refl _ | exact SnD.refl _ | exact SnDs.nil | refine BkEq.cells ?_ | refine SnDs.cons ?_ ?_ | refine And.intro ?_ ?_)))
  have hkn : k4 = ps.length := by
    have := of_decide_eq_false (show decide ((k4 : Int) < (ps.length : Int)) = false from hs)
    omega
  rw [List.drop_of_length_le (by omega), List.foldl_nil, q4] at hq
  clear hs hkn hk
  refine .mk (.cons (.eq (.bool ?_)) .nil) rfl
  show decide (a222 ≤ 160) = r
  exact hq.symm
set_option maxRecDepth 100000 in
set_option maxHeartbeats 4000000 in
theorem Few10_pure (S : SourceD) : Pure Try.prog 19 [.agg S.c] (boolD (few10 S)) :=
  Pure.lens ⟨_, _, Try.func19, rfl, by kernel_rfl⟩ (Few10_lens S)
end Go.Proofs.Ytdhfakajlnidiaa
namespace Go.Proofs.Ytdhfakajlnidiaa
open Go.RowKit

/-! The check of the types: limits, the whole. -/
def limB (s : SourceD) : Bool := (decide (s.issuers.length ≤ 8) && (decide (s.units.length ≤ 64) && (decide (s.schemas.length ≤ 16) && (decide (s.rules.length ≤ 16) && (decide (s.converts.length ≤ 16) && decide (s.purposes.length ≤ 8)))))) && !(s.purposes.any fun x => decide (64 < x.may.length))
def checkB (s : SourceD) : Int := if limB s then (if s.units.all (unitB s.units) && (s.schemas.all (schB s) && (s.rules.all (ruleB s) && s.purposes.all (purpB s))) then 0 else 120) else 2
set_option maxRecDepth 100000 in
set_option maxHeartbeats 4000000 in
theorem clL_pure (x : PurposeD) : Pure Try.prog 55 [.agg (PurposeD.c x)] (boolD (decide (64 < x.may.length))) := by
  obtain ⟨r, hr⟩ : ∃ r, r = decide (64 < x.may.length) := ⟨_, rfl⟩
  rw [← hr]
  obtain ⟨x1, x2, x3, x4⟩ := x
  simp only at hr
  refine Pure.intro (want := [boolD r]) T_ok follows Try.func55 rfl (by kernel_rfl) (rs := [.tmp 2]) rfl (by kernel_rfl) ?_
  generalize hP : Try.prog = P at *
  have hT : T.ok P := hP ▸ T_ok
  have hm : P.follows .mixedOrders = true := hP ▸ follows
  unfold Try.f55
  dsimp only
  cbv
  refine .mk (.cons (.eq (.bool ?_)) .nil) rfl
  show decide ((x3.length : Int) > 64) = r
  rw [hr]
  exact decide_eq_decide.2 (by omega)
set_option maxRecDepth 100000 in
set_option maxHeartbeats 4000000 in
theorem limited_pure (S : SourceD) : Pure Try.prog 35 [.agg S.c] (boolD (limB S)) := by
  have hc : S.purposes.length ≤ 8 → Pure Try.prog 54 [.slm 3 (some (.var S.npurposes)) PurposeD.c S.purposes, .fn (.func 55) [] []] (boolD (S.purposes.any fun x => decide (64 < x.may.length))) := fun h => conL_pure S.purposes (some (.var S.npurposes)) (fun x => decide (64 < x.may.length)) (by omega) (fun x _ => clL_pure x)
  obtain ⟨r, hr⟩ : ∃ r, r = limB S := ⟨_, rfl⟩
  rw [← hr]
  unfold limB at hr
  obtain ⟨b, hb⟩ : ∃ r, r = S.purposes.any fun x => decide (64 < x.may.length) := ⟨_, rfl⟩
  rw [← hb] at hr hc
  clear hb
  obtain ⟨ni, is, nu, us, ns, ss, nr, rs, nc, cs, np, ps⟩ := S
  simp only at hr hc
  refine Pure.intro (want := [boolD r]) T_ok follows Try.func35 rfl (by kernel_rfl) (rs := [.tmp 2]) rfl (by kernel_rfl) ?_
  generalize hP : Try.prog = P at *
  have hT : T.ok P := hP ▸ T_ok
  have hm : P.follows .mixedOrders = true := hP ▸ follows
  unfold Try.f35
  dsimp only
  cbv
  refine SplitP.mk (fun g => ?_) (fun g => ?_)
  · have g' : ¬ is.length ≤ 8 := by have h := of_decide_eq_true (show decide ((is.length : Int) > 8) = true from g); omega
    rw [decide_eq_false g'] at hr
    (repeat (refine OpsP.go hT ?_; cbv))
    refine .mk (.cons (.eq (.bool ?_)) .nil) rfl
    show false = r
    rw [hr]
    simp
  have g0 : is.length ≤ 8 := by have h := of_decide_eq_false (show decide ((is.length : Int) > 8) = false from g); omega
  rw [decide_eq_true g0] at hr
  clear g
  refine SplitP.mk (fun g => ?_) (fun g => ?_)
  · have g' : ¬ us.length ≤ 64 := by have h := of_decide_eq_true (show decide ((us.length : Int) > 64) = true from g); omega
    rw [decide_eq_false g'] at hr
    (repeat (refine OpsP.go hT ?_; cbv))
    refine .mk (.cons (.eq (.bool ?_)) .nil) rfl
    show false = r
    rw [hr]
    simp
  have g1 : us.length ≤ 64 := by have h := of_decide_eq_false (show decide ((us.length : Int) > 64) = false from g); omega
  rw [decide_eq_true g1] at hr
  clear g
  refine SplitP.mk (fun g => ?_) (fun g => ?_)
  · have g' : ¬ ss.length ≤ 16 := by have h := of_decide_eq_true (show decide ((ss.length : Int) > 16) = true from g); omega
    rw [decide_eq_false g'] at hr
    (repeat (refine OpsP.go hT ?_; cbv))
    refine .mk (.cons (.eq (.bool ?_)) .nil) rfl
    show false = r
    rw [hr]
    simp
  have g2 : ss.length ≤ 16 := by have h := of_decide_eq_false (show decide ((ss.length : Int) > 16) = false from g); omega
  rw [decide_eq_true g2] at hr
  clear g
  refine SplitP.mk (fun g => ?_) (fun g => ?_)
  · have g' : ¬ rs.length ≤ 16 := by have h := of_decide_eq_true (show decide ((rs.length : Int) > 16) = true from g); omega
    rw [decide_eq_false g'] at hr
    (repeat (refine OpsP.go hT ?_; cbv))
    refine .mk (.cons (.eq (.bool ?_)) .nil) rfl
    show false = r
    rw [hr]
    simp
  have g3 : rs.length ≤ 16 := by have h := of_decide_eq_false (show decide ((rs.length : Int) > 16) = false from g); omega
  rw [decide_eq_true g3] at hr
  clear g
  refine SplitP.mk (fun g => ?_) (fun g => ?_)
  · have g' : ¬ cs.length ≤ 16 := by have h := of_decide_eq_true (show decide ((cs.length : Int) > 16) = true from g); omega
    rw [decide_eq_false g'] at hr
    (repeat (refine OpsP.go hT ?_; cbv))
    refine .mk (.cons (.eq (.bool ?_)) .nil) rfl
    show false = r
    rw [hr]
    simp
  have g4 : cs.length ≤ 16 := by have h := of_decide_eq_false (show decide ((cs.length : Int) > 16) = false from g); omega
  rw [decide_eq_true g4] at hr
  clear g
  refine SplitP.mk (fun g => ?_) (fun g => ?_)
  · have g' : ¬ ps.length ≤ 8 := by have h := of_decide_eq_true (show decide ((ps.length : Int) > 8) = true from g); omega
    rw [decide_eq_false g'] at hr
    (repeat (refine OpsP.go hT ?_; cbv))
    refine .mk (.cons (.eq (.bool ?_)) .nil) rfl
    show false = r
    rw [hr]
    simp
  have g5 : ps.length ≤ 8 := by have h := of_decide_eq_false (show decide ((ps.length : Int) > 8) = false from g); omega
  rw [decide_eq_true g5] at hr
  clear g
  simp only [Bool.true_and] at hr
  (repeat (refine OpsP.go hT ?_; cbv))
  refine CallP.pure _ (hc g5) rfl ?_
  cbv
  refine .mk (.cons (.eq (.bool ?_)) .nil) rfl
  show (!b) = r
  exact hr.symm
set_option maxRecDepth 100000 in
set_option maxHeartbeats 4000000 in
theorem cl36_pure (S : SourceD) (R : RuleD) (hG : Good S) (hF : ∀ x ∈ S.schemas, x.fields.length ≤ 100000) : Pure Try.prog 36 [.agg R.c, .dp S.c 0] (boolD (ruleB S R)) := by
  have h := ruleOK_pure S R hG hF
  obtain ⟨r, hr⟩ : ∃ r, r = ruleB S R := ⟨_, rfl⟩
  rw [← hr] at h ⊢
  clear hr hG hF
  obtain ⟨ni, is, nu, us, ns, ss, nr, rs, nc, cs, np, ps⟩ := S
  obtain ⟨x1, x2, x3, fl, x5, wl, x7, sl⟩ := R
  refine Pure.intro (want := [boolD r]) T_ok follows Try.func36 rfl (by kernel_rfl) (rs := [.tmp 3]) rfl (by kernel_rfl) ?_
  generalize hP : Try.prog = P at *
  have hT : T.ok P := hP ▸ T_ok
  have hm : P.follows .mixedOrders = true := hP ▸ follows
  unfold Try.f36
  dsimp only
  cbv
  refine CallP.pure _ h rfl ?_
  cbv
  exact .mk (.cons (.eq (.refl _)) .nil) rfl
theorem schB_head {S : SourceD} {x : SchemaD} (h : schB S x = true) : x.fields.length ≤ 12 ∧ ∀ f ∈ x.fields, kindB f.type S.units.length = true := by
  unfold schB at h
  simp only [Bool.and_eq_true, decide_eq_true_eq] at h
  refine ⟨h.1.2, fun f hf => ?_⟩
  have h2 := List.all_eq_true.1 h.2.2 f hf
  unfold fieldB at h2
  rw [Bool.and_eq_true] at h2
  exact h2.1
theorem good_of {S : SourceD} (h : S.schemas.all (schB S) = true) : Good S := fun i j t ht => by
  unfold typeOf? at ht
  split at ht
  · split at ht
    · next x hx =>
      have hx2 := schB_head (List.all_eq_true.1 h x (List.mem_of_getElem? hx))
      split at ht
      · split at ht
        · next f hf =>
          cases ht
          exact hx2.2 f (List.mem_of_getElem? hf)
        · cases ht
      · cases ht
    · cases ht
  · cases ht
theorem lim_of {S : SourceD} (h : limB S = true) : S.units.length ≤ 64 ∧ S.schemas.length ≤ 16 ∧ S.rules.length ≤ 16 ∧ S.purposes.length ≤ 8 ∧ ∀ p ∈ S.purposes, p.may.length ≤ 64 := by
  unfold limB at h
  simp only [Bool.and_eq_true, decide_eq_true_eq, Bool.not_eq_true'] at h
  refine ⟨h.1.2.1, h.1.2.2.1, h.1.2.2.2.1, h.1.2.2.2.2.2, fun p hp => ?_⟩
  have := List.any_eq_false.1 h.2 p hp
  simp only [decide_eq_true_eq] at this
  omega
theorem Check_lens (S : SourceD) (hL : S.lens) : Pure Try.prog 21 [.agg S.c] (i64 (checkB S)) := by
  have hlim := limited_pure S
  have hU : limB S = true → Pure Try.prog 38 [.slm 5 (some (.var S.nunits)) UnitD.c S.units, .fn (.func 39) [.agg S.c] []] (boolD (S.units.all (unitB S.units))) := fun h => allU_pure S S.units (some (.var S.nunits)) (unitB S.units) (by have := (lim_of h).1; omega) (fun x _ => unitOK_pure S x)
  have hS : limB S = true → Pure Try.prog 40 [.slm 6 (some (.var S.nschemas)) SchemaD.c S.schemas, .fn (.func 41) [.agg S.c] []] (boolD (S.schemas.all (schB S))) := fun h => allS_pure S S.schemas (some (.var S.nschemas)) (schB S) (by have := (lim_of h).2.1; omega) (fun x hx => schemaOK_pure S x (fun f hf => hL.ns x hx f hf))
  have hR : limB S = true → S.schemas.all (schB S) = true → Pure Try.prog 42 [.slm 5 (some (.var S.nrules)) RuleD.c S.rules, .fn (.func 36) [] [.dp S.c 0]] (boolD (S.rules.all (ruleB S))) := fun h h2 => allR_pure S S.rules (some (.var S.nrules)) (ruleB S) (by have := (lim_of h).2.2.1; omega) (fun x _ => cl36_pure S x (good_of h2) (fun y hy => by have := (schB_head (List.all_eq_true.1 h2 y hy)).1; omega))
  have hPu : limB S = true → Pure Try.prog 43 [.slm 3 (some (.var S.npurposes)) PurposeD.c S.purposes, .fn (.func 44) [.agg S.c] []] (boolD (S.purposes.all (purpB S))) := fun h => allP_pure S S.purposes (some (.var S.npurposes)) (purpB S) (by have := (lim_of h).2.2.2.1; omega) (fun x hx => purposeOK_pure S x (by have := (lim_of h).2.2.2.2 x hx; omega))
  obtain ⟨r, hr⟩ : ∃ r, r = checkB S := ⟨_, rfl⟩
  rw [← hr]
  unfold checkB at hr
  obtain ⟨lm, hlm⟩ : ∃ b, b = limB S := ⟨_, rfl⟩
  obtain ⟨u, hu⟩ : ∃ b, b = S.units.all (unitB S.units) := ⟨_, rfl⟩
  obtain ⟨sb, hsb⟩ : ∃ b, b = S.schemas.all (schB S) := ⟨_, rfl⟩
  obtain ⟨rb, hrb⟩ : ∃ b, b = S.rules.all (ruleB S) := ⟨_, rfl⟩
  obtain ⟨pb, hpb⟩ : ∃ b, b = S.purposes.all (purpB S) := ⟨_, rfl⟩
  rw [← hlm] at hlim hU hS hR hPu hr
  rw [← hu] at hU hr
  rw [← hsb] at hS hR hr
  rw [← hrb] at hR hr
  rw [← hpb] at hPu hr
  clear hlm hu hsb hrb hpb hL
  obtain ⟨ni, is, nu, us, ns, ss, nr, rs, nc, cs, np, ps⟩ := S
  simp only at hU hS hR hPu
  refine Pure.intro (want := [i64 r]) T_ok follows Try.func21 rfl (by kernel_rfl) (rs := [.tmp 2]) rfl (by kernel_rfl) ?_
  generalize hP : Try.prog = P at *
  have hT : T.ok P := hP ▸ T_ok
  have hm : P.follows .mixedOrders = true := hP ▸ follows
  unfold Try.f21
  dsimp only
  cbv
  refine CallP.pure _ hlim rfl ?_
  clear hlim
  cbv
  refine SplitP.mk (fun g => ?_) (fun g => ?_)
  · have g' : (!lm) = true := g
    have g2 : lm = false := by simpa using g'
    rw [g2, if_neg (by decide)] at hr
    refine .mk (.cons (.eq (.int ?_)) .nil) rfl
    show (2 : Int) = r
    exact hr.symm
  have g' : (!lm) = false := g
  have g2 : lm = true := by simpa using g'
  rw [g2, if_pos rfl] at hr
  replace hU := hU g2
  replace hS := hS g2
  replace hR := hR g2
  replace hPu := hPu g2
  clear g g' g2
  refine CallP.pure _ hU rfl ?_
  clear hU
  cbv
  refine SplitP.mk (fun g => ?_) (fun g => ?_)
  · have g' : (!u) = true := g
    have g2 : u = false := by simpa using g'
    rw [g2, Bool.false_and, if_neg (by decide)] at hr
    clear hS hR hPu
    (repeat (refine OpsP.go hT ?_; cbv))
    refine .mk (.cons (.eq (.int ?_)) .nil) rfl
    show (120 : Int) = r
    exact hr.symm
  have g' : (!u) = false := g
  have g2 : u = true := by simpa using g'
  rw [g2, Bool.true_and] at hr
  clear g g' g2
  (repeat (refine OpsP.go hT ?_; cbv))
  refine CallP.pure _ hS rfl ?_
  clear hS
  cbv
  refine SplitP.mk (fun g => ?_) (fun g => ?_)
  · have g' : (!sb) = true := g
    have g2 : sb = false := by simpa using g'
    rw [g2, Bool.false_and, if_neg (by decide)] at hr
    clear hR hPu
    (repeat (refine OpsP.go hT ?_; cbv))
    refine .mk (.cons (.eq (.int ?_)) .nil) rfl
    show (120 : Int) = r
    exact hr.symm
  have g' : (!sb) = false := g
  have g2 : sb = true := by simpa using g'
  rw [g2, Bool.true_and] at hr
  replace hR := hR g2
  clear g g' g2
  (repeat (refine OpsP.go hT ?_; cbv))
  refine CallP.lend _ _ hR (.cons (.eq (.refl _)) (.cons (.fns .nil (.cons (.dp rfl rfl rfl) .nil)) .nil)) rfl rfl ?_
  clear hR
  cbv
  refine SplitP.mk (fun g => ?_) (fun g => ?_)
  · have g' : (!rb) = true := g
    have g2 : rb = false := by simpa using g'
    rw [g2, Bool.false_and, if_neg (by decide)] at hr
    clear hPu
    (repeat (refine OpsP.go hT ?_; cbv))
    refine .mk (.cons (.eq (.int ?_)) .nil) rfl
    show (120 : Int) = r
    exact hr.symm
  have g' : (!rb) = false := g
  have g2 : rb = true := by simpa using g'
  rw [g2, Bool.true_and] at hr
  clear g g' g2
  (repeat (refine OpsP.go hT ?_; cbv))
  refine CallP.pure _ hPu rfl ?_
  clear hPu
  cbv
  refine SplitP.mk (fun g => ?_) (fun g => ?_)
  · have g' : (!pb) = true := g
    have g2 : pb = false := by simpa using g'
    rw [g2, if_neg (by decide)] at hr
    (repeat (refine OpsP.go hT ?_; cbv))
    refine .mk (.cons (.eq (.int ?_)) .nil) rfl
    show (120 : Int) = r
    exact hr.symm
  have g' : (!pb) = false := g
  have g2 : pb = true := by simpa using g'
  rw [g2, if_pos rfl] at hr
  (repeat (refine OpsP.go hT ?_; cbv))
  refine .mk (.cons (.eq (.int ?_)) .nil) rfl
  show (0 : Int) = r
  exact hr.symm
set_option maxRecDepth 100000 in
set_option maxHeartbeats 4000000 in
theorem Check12_pure (S : SourceD) : Pure Try.prog 21 [.agg S.c] (i64 (checkB S)) :=
  Pure.lens ⟨_, _, Try.func21, rfl, by kernel_rfl⟩ (Check_lens S)
end Go.Proofs.Ytdhfakajlnidiaa
namespace Go.Proofs.Ytdhfakajlnidiaa
open Go.RowKit

/-! rules.Check and the law of Check. -/
def chk20 (S : SourceD) : Int := if checkB S ≠ 0 then checkB S else if numE S ≠ 0 then numE S else if ordOK S then 0 else 141
set_option maxRecDepth 100000 in
set_option maxHeartbeats 4000000 in
theorem Check20_pure (S : SourceD) (h : SmallS S) : Pure Try.prog 20 [.agg S.c] (i64 (chk20 S)) := by
  have hC := Check12_pure S
  have hO := Order_pure S h
  obtain ⟨r, hr⟩ : ∃ r, r = chk20 S := ⟨_, rfl⟩
  rw [← hr]
  unfold chk20 at hr
  obtain ⟨c, hc⟩ : ∃ l, l = checkB S := ⟨_, rfl⟩
  obtain ⟨l, hl⟩ : ∃ l, l = ordL S := ⟨_, rfl⟩
  obtain ⟨ok, hok⟩ : ∃ l, l = ordOK S := ⟨_, rfl⟩
  obtain ⟨e, he⟩ : ∃ l, l = numE S := ⟨_, rfl⟩
  rw [← hl, ← hok, ← he] at hO
  rw [← hc] at hC
  rw [← hc, ← hok, ← he] at hr
  obtain ⟨lb, hlb⟩ : ∃ b, b = l.isEmpty := ⟨_, rfl⟩
  rw [← hlb] at hO
  clear h hc hl hok he hlb
  obtain ⟨ni, is, nu, us, ns, ss, nr, rs, nc, cs, np, ps⟩ := S
  refine Pure.intro (want := [i64 r]) T_ok follows Try.func20 rfl (by kernel_rfl) (rs := [.tmp 2]) rfl (by kernel_rfl) ?_
  generalize hP : Try.prog = P at *
  have hT : T.ok P := hP ▸ T_ok
  have hm : P.follows .mixedOrders = true := hP ▸ follows
  unfold Try.f20
  dsimp only
  cbv
  refine CallP.pure _ hC rfl ?_
  clear hC
  cbv
  refine SplitP.mk (fun g => ?_) (fun g => ?_)
  · have h3 : (c != 0) = true := g
    have h4 : c ≠ 0 := by simpa using h3
    rw [if_pos h4] at hr
    refine .mk (.cons (.eq (.int ?_)) .nil) rfl
    show c = r
    exact hr.symm
  have h3 : (c != 0) = false := g
  have h4 : ¬ c ≠ 0 := by simpa using h3
  rw [if_neg h4] at hr
  clear g h3 h4
  refine CallP.pure _ hO rfl ?_
  clear hO
  cbv
  refine SplitP.mk (fun g => ?_) (fun g => ?_)
  · have h3 : (e != 0) = true := g
    have h4 : e ≠ 0 := by simpa using h3
    rw [if_pos h4] at hr
    refine .mk (.cons (.eq (.int ?_)) .nil) rfl
    show e = r
    exact hr.symm
  have h3 : (e != 0) = false := g
  have h4 : ¬ e ≠ 0 := by simpa using h3
  rw [if_neg h4] at hr
  clear g h3 h4
  refine SplitP.mk (fun g => ?_) (fun g => ?_)
  · have g' : (!ok) = true := g
    have g2 : ok = false := by simpa using g'
    rw [g2, if_neg (by decide)] at hr
    refine .mk (.cons (.eq (.int ?_)) .nil) rfl
    show (141 : Int) = r
    exact hr.symm
  have g' : (!ok) = false := g
  have g2 : ok = true := by simpa using g'
  rw [g2, if_pos rfl] at hr
  refine .mk (.cons (.eq (.int ?_)) .nil) rfl
  show (0 : Int) = r
  exact hr.symm
theorem numbered_of {S : SourceD} (h : checkB S = 0) : numberedB S.schemas.length S.rules = true := by
  unfold checkB at h
  split at h
  · split at h
    · next hb =>
      rw [Bool.and_eq_true, Bool.and_eq_true, Bool.and_eq_true] at hb
      unfold numberedB
      rw [List.all_eq_true]
      intro r hr
      have h1 := List.all_eq_true.1 hb.2.2.1 r hr
      unfold ruleB at h1
      simp only [Bool.and_eq_true] at h1
      obtain ⟨h2, _, _, h5, _⟩ := h1
      unfold ruleNB
      rw [Bool.and_eq_true, List.all_eq_true]
      unfold schIn at h5
      rw [Bool.and_eq_true, decide_eq_true_eq, decide_eq_true_eq] at h5
      refine ⟨decide_eq_true h5, fun f hf => ?_⟩
      unfold fromsB at h2
      rw [Bool.and_eq_true, List.all_eq_true] at h2
      obtain ⟨i, hi, rfl⟩ := List.mem_iff_getElem.1 hf
      have h6 := h2.2 i (List.mem_range.2 hi)
      unfold fromB at h6
      rw [List.getElem?_eq_getElem hi] at h6
      simp only [Bool.and_eq_true] at h6
      have h7 := h6.1
      unfold schIn at h7
      rw [Bool.and_eq_true, decide_eq_true_eq, decide_eq_true_eq] at h7
      exact decide_eq_true h7
    · cases h
  · cases h
set_option maxRecDepth 100000 in
set_option maxHeartbeats 4000000 in
theorem checkLaw_pure (S : SourceD) (hR : S.rules.length ≤ 9223372036854775807) : Pure Try.prog 8 [.agg S.c] (boolD true) := by
  have hs := sane_pure
  have hFew := Few_pure S hR
  have hF10 := Few10_pure S
  have hT := Check12_pure S
  obtain ⟨fw, hfw⟩ : ∃ b, b = fewB S := ⟨_, rfl⟩
  rw [← hfw] at hFew
  have hO := fun h : fw = true => Check20_pure S (few_small (hfw.symm.trans h))
  have hC := fun h : fw = true => Cycle_pure S (few_small (hfw.symm.trans h))
  have hv : checkB S ≠ 0 → chk20 S = checkB S := fun h => by unfold chk20; rw [if_pos h]
  have hnum : checkB S = 0 → numberedB S.schemas.length S.rules = true := numbered_of
  have hv1 : checkB S = 0 → hasCyc S = true → chk20 S = 141 := fun h h2 => by
    unfold chk20 numE
    rw [if_neg (by simp [h]), hnum h, if_neg (by simp), ok_cyc (hnum h), h2]
    rfl
  have hv2 : checkB S = 0 → hasCyc S = false → chk20 S = 0 := fun h h2 => by
    unfold chk20 numE
    rw [if_neg (by simp [h]), hnum h, if_neg (by simp), ok_cyc (hnum h), h2]
    rfl
  have hg : checkB S = 0 → (if numberedB S.schemas.length S.rules then 0 else 140 : Int) = 0 := fun h => by rw [hnum h]; rfl
  obtain ⟨gg, hgg⟩ : ∃ x : Int, x = if numberedB S.schemas.length S.rules then 0 else 140 := ⟨_, rfl⟩
  rw [← hgg] at hC hg
  obtain ⟨c, hcl⟩ : ∃ l, l = cycL S := ⟨_, rfl⟩
  obtain ⟨cy, hhc⟩ : ∃ l, l = hasCyc S := ⟨_, rfl⟩
  obtain ⟨e, he⟩ : ∃ l, l = chk20 S := ⟨_, rfl⟩
  obtain ⟨f, hf⟩ : ∃ l, l = checkB S := ⟨_, rfl⟩
  obtain ⟨f10, hf10⟩ : ∃ l, l = few10 S := ⟨_, rfl⟩
  rw [← hcl, ← hhc] at hC
  rw [← hhc, ← he, ← hf] at hv1 hv2
  rw [← he, ← hf] at hv
  rw [← hf] at hg hT
  rw [← he] at hO
  rw [← hf10] at hF10
  obtain ⟨cb, hcb⟩ : ∃ b, b = c.isEmpty := ⟨_, rfl⟩
  rw [← hcb] at hC
  have hTT := hT
  clear hfw hcl hhc he hf hf10 hcb hgg hnum hT
  obtain ⟨ni, is, nu, us, ns, ss, nr, rs, nc, cs, np, ps⟩ := S
  refine Pure.intro (want := [boolD true]) T_ok follows Try.func8 rfl (by kernel_rfl) (rs := [.tmp 2]) rfl (by kernel_rfl) ?_
  generalize hP : Try.prog = P at *
  have hT : T.ok P := hP ▸ T_ok
  have hm : P.follows .mixedOrders = true := hP ▸ follows
  unfold Try.f8
  dsimp only
  cbv
  refine CallP.pure _ hs rfl ?_
  clear hs
  cbv
  refine SplitP.mk (fun h => by cases (show (!true) = true from h)) (fun _ => ?_)
  refine CallP.pure _ hFew rfl ?_
  clear hFew
  cbv
  refine SplitP.mk (fun g => ?_) (fun g => ?_)
  · exact .mk (.cons (.eq (.bool rfl)) .nil) rfl
  have g' : (!fw) = false := g
  have g2 : fw = true := by simpa using g'
  replace hO := hO g2
  replace hC := hC g2
  clear g g' g2
  refine CallP.pure _ hF10 rfl ?_
  clear hF10
  cbv
  refine SplitP.mk (fun g => ?_) (fun g => ?_)
  · exact .mk (.cons (.eq (.bool rfl)) .nil) rfl
  clear g
  refine CallP.pure _ hO rfl ?_
  clear hO
  cbv
  refine CallP.pure _ hTT rfl ?_
  clear hTT
  cbv
  refine SplitP.mk (fun g => ?_) (fun g => ?_)
  · have h3 : (f != 0) = true := g
    have h4 : f ≠ 0 := by simpa using h3
    refine .mk (.cons (.eq (.bool ?_)) .nil) rfl
    show (e == f) = true
    rw [hv h4]
    simp
  have h3 : (f != 0) = false := g
  have h4 : f = 0 := by simpa using h3
  replace hv1 := hv1 h4
  replace hv2 := hv2 h4
  replace hg := hg h4
  clear g h3 h4 hv
  refine CallP.pure _ hC rfl ?_
  clear hC
  cbv
  refine SplitP.mk (fun g => ?_) (fun g => ?_)
  · replace hv1 := hv1 g
    clear hv2 g
    refine SplitP.mk (fun g => ?_) (fun g => ?_)
    · refine .mk (.cons (.eq (.bool ?_)) .nil) rfl
      show (e == 141) = true
      rw [hv1]
      rfl
    · have h3 : (gg == 0) = false := g
      rw [hg] at h3
      cases h3
  · replace hv2 := hv2 g
    clear hv1 g
    refine SplitP.mk (fun g => ?_) (fun g => ?_)
    · refine .mk (.cons (.eq (.bool ?_)) .nil) rfl
      show (e == 0) = true
      rw [hv2]
      rfl
    · have h3 : (gg == 0) = false := g
      rw [hg] at h3
      cases h3
end Go.Proofs.Ytdhfakajlnidiaa
