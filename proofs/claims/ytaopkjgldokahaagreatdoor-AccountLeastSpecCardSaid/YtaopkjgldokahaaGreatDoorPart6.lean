/- Part 6 of the walks and laws that these claims rest on. No condition. -/
import Derived.ProofKit
import Derived.OpenShut
import Derived.ShutString
import Derived.ChangeOld
import Derived.Test.YtaopkjgldokahaaGreatDoorRows
import Derived.LaidMore
import Derived.Stop.Joined
import Derived.Test.YtaopkjgldokahaaGreatDoorPart5
set_option linter.all false
set_option linter.unusedSimpArgs false
set_option linter.unusedVariables false
set_option linter.unnecessarySimpa false
namespace Go.Proofs.YtaopkjgldokahaaGreatDoor
open Go.RowKit

/-! Clones, the least set, what is few. -/
set_option maxRecDepth 100000 in
set_option maxHeartbeats 4000000 in
theorem CloneI_pure (l : List IssuedD) (b : Bool) (hb : b = true → l = []) (hl : l.length ≤ 1000000) : Pure Tryz.prog 28 [.slm 3 (some (.var b)) IssuedD.c l] (.slm 3 (some (.var b)) IssuedD.c l) := by
  refine Pure.intro (want := [.slm 3 (some (.var b)) IssuedD.c l]) T_ok follows Tryz.func28 rfl (by kernel_rfl) (rs := [.tmp 2]) rfl (by kernel_rfl) ?_
  generalize hP : Tryz.prog = P
  have hT : T.ok P := hP ▸ T_ok
  have hm : P.follows .mixedOrders = true := hP ▸ follows
  unfold Tryz.f28
  dsimp only
  cbv
  refine SplitP.mk (fun hs => ?_) (fun hs => ?_)
  · have h1 : b = true := hs
    refine .mk (.cons (.eq (.nilv (hb h1) ?_)) .nil) rfl
    rw [BE.var_d, h1]
  · have h1 : b = false := hs
    refine ReqP.mk ⟨by show (l.length : Int) = (((RE.map IssuedD.c l).den.length : Nat) : Int); simp [RE.den], rfl, map_cells (fun _ => rfl), (by intro e he; cases he), by show (0 : Int) + (l.length : Int) ≤ _; omega, by show ((0 : Int) + (l.length : Int)) * ((40 : Nat) : Int) ≤ _; omega⟩ (fun _ => ?_)
    refine .mk (.cons (.slm rfl (.inl ⟨_, _, rfl, by simp [RE.den]⟩) rfl rfl (fun e h => by cases h; exact h1)) .nil) rfl
set_option maxRecDepth 100000 in
set_option maxHeartbeats 4000000 in
theorem CloneC_pure (l : List CoalD) (b : Bool) (hb : b = true → l = []) (hl : l.length ≤ 1000000) : Pure Tryz.prog 29 [.slm 1 (some (.var b)) CoalD.c l] (.slm 1 (some (.var b)) CoalD.c l) := by
  refine Pure.intro (want := [.slm 1 (some (.var b)) CoalD.c l]) T_ok follows Tryz.func29 rfl (by kernel_rfl) (rs := [.tmp 2]) rfl (by kernel_rfl) ?_
  generalize hP : Tryz.prog = P
  have hT : T.ok P := hP ▸ T_ok
  have hm : P.follows .mixedOrders = true := hP ▸ follows
  unfold Tryz.f29
  dsimp only
  cbv
  refine SplitP.mk (fun hs => ?_) (fun hs => ?_)
  · have h1 : b = true := hs
    refine .mk (.cons (.eq (.nilv (hb h1) ?_)) .nil) rfl
    rw [BE.var_d, h1]
  · have h1 : b = false := hs
    refine ReqP.mk ⟨by show (l.length : Int) = (((RE.map CoalD.c l).den.length : Nat) : Int); simp [RE.den], rfl, map_cells (fun _ => rfl), (by intro e he; cases he), by show (0 : Int) + (l.length : Int) ≤ _; omega, by show ((0 : Int) + (l.length : Int)) * ((24 : Nat) : Int) ≤ _; omega⟩ (fun _ => ?_)
    refine .mk (.cons (.slm rfl (.inl ⟨_, _, rfl, by simp [RE.den]⟩) rfl rfl (fun e h => by cases h; exact h1)) .nil) rfl
set_option maxRecDepth 100000 in
set_option maxHeartbeats 4000000 in
theorem CloneS_pure (l : List SightD) (b : Bool) (hb : b = true → l = []) (hl : l.length ≤ 1000000) : Pure Tryz.prog 55 [.slm 37 (some (.var b)) SightD.c l] (.slm 37 (some (.var b)) SightD.c l) := by
  refine Pure.intro (want := [.slm 37 (some (.var b)) SightD.c l]) T_ok follows Tryz.func55 rfl (by kernel_rfl) (rs := [.tmp 2]) rfl (by kernel_rfl) ?_
  generalize hP : Tryz.prog = P
  have hT : T.ok P := hP ▸ T_ok
  have hm : P.follows .mixedOrders = true := hP ▸ follows
  unfold Tryz.f55
  dsimp only
  cbv
  refine SplitP.mk (fun hs => ?_) (fun hs => ?_)
  · have h1 : b = true := hs
    refine .mk (.cons (.eq (.nilv (hb h1) ?_)) .nil) rfl
    rw [BE.var_d, h1]
  · have h1 : b = false := hs
    refine ReqP.mk ⟨by show (l.length : Int) = (((RE.map SightD.c l).den.length : Nat) : Int); simp [RE.den], rfl, map_cells (fun _ => rfl), (by intro e he; cases he), by show (0 : Int) + (l.length : Int) ≤ _; omega, by show ((0 : Int) + (l.length : Int)) * ((104 : Nat) : Int) ≤ _; omega⟩ (fun _ => ?_)
    refine .mk (.cons (.slm rfl (.inl ⟨_, _, rfl, by simp [RE.den]⟩) rfl rfl (fun e h => by cases h; exact h1)) .nil) rfl
def leastG (n : Int) (l : List GroupD) : Int := l.foldl (fun n g => min n (g.persons.length : Int)) n
def leastL (l : List GrpsD) : Int := l.foldl (fun n x => leastG n x.l) 4096
set_option maxRecDepth 100000 in
set_option maxHeartbeats 4000000 in
theorem Least_pure (a : AccountD) (hl : a.sets.length < 9223372036854775807) (hx : ∀ x ∈ a.sets, x.l.length < 9223372036854775807) : Pure Tryz.prog 20 [.agg a.c] (i64 (leastL a.sets)) := by
  obtain ⟨a1, a2, a3, a4, a5, a6, a7, l⟩ := a
  simp only at hl hx
  simp only
  obtain ⟨r, hr⟩ : ∃ r, r = leastL l := ⟨_, rfl⟩
  rw [← hr]
  obtain ⟨n, hn⟩ : ∃ n : Nat, n = l.length := ⟨_, rfl⟩
  unfold leastL at hr
  obtain ⟨g, hg⟩ : ∃ g, g = leastG := ⟨_, rfl⟩
  rw [← hg] at hr
  have g0 : ∀ v, g v [] = v := fun v => by rw [hg]; rfl
  have g1 : ∀ v x1 x2 x3 c, g v (⟨x1, x2, x3⟩ :: c) = g (min v (x3.length : Int)) c := fun v x1 x2 x3 c => by rw [hg]; rfl
  obtain ⟨f, hf⟩ : ∃ f : Int → List GrpsD → Int, f = fun v l => l.foldl (fun n x => g n x.l) v := ⟨_, rfl⟩
  have f0 : ∀ v, f v [] = v := fun v => by rw [hf]; rfl
  have f1 : ∀ v x1 x2 c, f v (⟨x1, x2⟩ :: c) = f (g v x2) c := fun v x1 x2 c => by rw [hf]; rfl
  replace hr : r = f 4096 l := by rw [hr, hf]
  clear hf hg
  refine Pure.intro (want := [i64 r]) T_ok follows Tryz.func20 rfl (by kernel_rfl) (rs := [.tmp 2]) rfl (by kernel_rfl) ?_
  generalize hP : Tryz.prog = P at *
  have hT : T.ok P := hP ▸ T_ok
  have hm : P.follows .mixedOrders = true := hP ▸ follows
  unfold Tryz.f20
  dsimp only
  cbv
  refine CodeP.loopc hT hm (X := Nat × Int) (fun x => [(10, .int .i64 (.nat x.1)), (2, i64 x.2)]) (fun x => x.1 ≤ l.length ∧ r = f x.2 (l.drop x.1)) (fun x => n - x.1) (0, 4096) ⟨by simp, hr⟩ (Nat.zero_le _) ?_ rfl ?_
  · (cbv; (repeat' (first | exact SnD.refl _ | exact trivial | exact SnD.nat0 | refine And.intro ?_ ?_)))
    exact .eq (.int rfl)
  intro ⟨k, v⟩ ⟨hk, hq⟩
  simp only at hk hq
  cbv
  refine SplitP.mk (fun hs => ?_) (fun hs => ?_)
  · have hkn : k < l.length := by
      have h5 : decide ((k : Int) < (l.length : Int)) = true := hs
      have := of_decide_eq_true h5
      omega
    clear hs
    refine ElemP.mk (by show (0 : Int) ≤ (k : Int) ∧ (k : Int) < (l.length : Int); omega) (fun x hxk => ?_)
    replace hxk : l[k]? = some x := hxk
    have hxl := hx x (List.mem_of_getElem? hxk)
    rw [drop_cons hxk] at hq
    obtain ⟨x1, c⟩ := x
    rw [f1] at hq
    simp only at hxl
    obtain ⟨m, hm'⟩ : ∃ m : Nat, m = c.length := ⟨_, rfl⟩
    obtain ⟨lr, hlr⟩ : ∃ x, x = l.drop (k + 1) := ⟨_, rfl⟩
    rw [← hlr] at hq
    cbv
    refine CodeP.loopc hT hm (X := Nat × Int) (fun x => [(16, .int .i64 (.nat x.1)), (2, i64 x.2)]) (fun x => x.1 ≤ c.length ∧ r = f (g x.2 (c.drop x.1)) lr) (fun x => m - x.1) (0, v) ⟨by simp, hq⟩ (Nat.zero_le _) ?_ rfl ?_
    · (cbv; (repeat' (first | exact SnD.refl _ | exact trivial | exact SnD.nat0 | refine And.intro ?_ ?_)))
    intro ⟨j, u⟩ ⟨hj, hq2⟩
    simp only at hj hq2
    cbv
    refine SplitP.mk (fun hs => ?_) (fun hs => ?_)
    · have hkn : j < c.length := by
        have h5 : decide ((j : Int) < (c.length : Int)) = true := hs
        have := of_decide_eq_true h5
        omega
      clear hs
      refine ElemP.mk (by show (0 : Int) ≤ (j : Int) ∧ (j : Int) < (c.length : Int); omega) (fun y hy => ?_)
      replace hy : c[j]? = some y := hy
      rw [drop_cons hy] at hq2
      obtain ⟨y1, y2, y3⟩ := y
      rw [g1] at hq2
      cbv
      refine BackP.intro (j + 1, min u (y3.length : Int)) ⟨by simp only; omega, hq2⟩ (by show m - (j + 1) < m - j; omega) ⟨?_, ⟨.refl _, trivial⟩, rfl⟩
      refine ⟨.inc (by omega), .eq (.int rfl), ?_⟩
      (cbv; (repeat' (first | exact SnD.refl _ | exact trivial | exact SnD.nat0 | refine And.intro ?_ ?_)))
    · have hkn : c.length ≤ j := by
        have h5 : decide ((j : Int) < (c.length : Int)) = false := hs
        have := of_decide_eq_false h5
        omega
      clear hs
      rw [List.drop_of_length_le (by omega), g0, hlr] at hq2
      refine BackP.intro (k + 1, u) ⟨by simp only; omega, hq2⟩ (by show n - (k + 1) < n - k; omega) ⟨?_, HEnt.refl _, rfl⟩
      refine ⟨.inc (by omega), .refl _, ?_⟩
      (cbv; (repeat' (first | exact SnD.refl _ | exact trivial | exact SnD.nat0 | refine And.intro ?_ ?_)))
  · have hkn : l.length ≤ k := by
      have h5 : decide ((k : Int) < (l.length : Int)) = false := hs
      have := of_decide_eq_false h5
      omega
    clear hs
    refine .mk (.cons (.eq (.int ?_)) .nil) rfl
    show v = r
    rw [hq, List.drop_of_length_le (by omega), f0]
set_option maxRecDepth 100000 in
set_option maxHeartbeats 4000000 in
theorem rall_pure (l : List SightD) (nb : Option BE) (hl : l.length ≤ 1000000) : Pure Tryz.prog 25 [.slm 37 nb SightD.c l] (.slm 4 none SeenD.c (viewsL l)) := by
  obtain ⟨V, hV⟩ : ∃ f : Nat → List SeenD, f = fun k => viewsL (l.take k) := ⟨_, rfl⟩
  have v0 : V 0 = [] := by rw [hV]; rfl
  have v1 : ∀ k s, l[k]? = some s → V (k + 1) = V k ++ [s.seen] := fun k s hs => by
    rw [hV]
    unfold viewsL
    simp only
    rw [List.take_add_one, hs, List.map_append]
    rfl
  obtain ⟨n, hn⟩ : ∃ n : Nat, n = l.length := ⟨_, rfl⟩
  have vl : ∀ k, k ≤ n → (V k).length = k := fun k hk => by
    rw [hV]
    unfold viewsL
    simp only
    rw [List.length_map, List.length_take]
    omega
  obtain ⟨r, hr⟩ : ∃ r, r = viewsL l := ⟨_, rfl⟩
  rw [← hr]
  have te : V n = r := by rw [hV, hn, hr]; simp
  clear hV hr
  refine Pure.intro (want := [.slm 4 none SeenD.c r]) T_ok follows Tryz.func25 rfl (by kernel_rfl) (rs := [.tmp 2]) rfl (by kernel_rfl) ?_
  generalize hP : Tryz.prog = P at *
  have hT : T.ok P := hP ▸ T_ok
  have hm : P.follows .mixedOrders = true := hP ▸ follows
  unfold Tryz.f25
  dsimp only
  cbv
  refine CodeP.loopm hT hm (X := Nat) (fun k => [(4, .int .i64 (.nat k)), (3, .osl 4 0 (k + 1) (.lit false) (.lit 0) (.nat k))]) (fun k => [.row 32 4 (k + 1) (.map SeenD.c (V k))]) (fun k => k ≤ n) (fun k => n - k) 0 (Nat.zero_le _) (fun _ => Nat.zero_le _) ⟨?_, ?_, rfl⟩ ?_
  · refine ⟨.nat0, .eq (.osl rfl rfl rfl), ?_⟩
    (cbv; (repeat' (first | exact SnD.refl _ | exact trivial | exact SnD.nat0 | refine And.intro ?_ ?_)))
  · rw [v0]
    exact ⟨.row rfl, trivial⟩
  intro k hk
  replace hk : k ≤ n := hk
  cbv
  refine SplitP.mk (fun hs => ?_) (fun hs => ?_)
  · have hkn : k < l.length := by
      have h5 : decide ((k : Int) < (l.length : Int)) = true := hs
      have := of_decide_eq_true h5
      omega
    clear hs
    refine ElemP.mk (by show (0 : Int) ≤ (k : Int) ∧ (k : Int) < (l.length : Int); omega) (fun s hx => ?_)
    replace hx : l[k]? = some s := hx
    have g1 := v1 k s hx
    have g3 := vl k hk
    obtain ⟨v, tk, ⟨y1, y2, y3, y4, y5, y6⟩⟩ := s
    cbv
    refine ReqP.mk (app_ok g3 (by omega) (fun _ => rfl) rfl (by decide)) (fun _ => ?_)
    refine BackP.intro (k + 1) (by show k + 1 ≤ n; omega) (by show n - (k + 1) < n - k; omega) ⟨?_, ⟨row_app _ g1 (.cons (.refl _) (.cons (.refl _) (.cons (.refl _) (.cons (.refl _) .nil)))), trivial⟩, rfl⟩
    refine ⟨.inc (by omega), .eq (.osl rfl rfl rfl), ?_⟩
    (cbv; (repeat' (first | exact SnD.refl _ | exact trivial | exact SnD.nat0 | refine And.intro ?_ ?_)))
  · have hkn : k = n := by
      have h5 : decide ((k : Int) < (l.length : Int)) = false := hs
      have := of_decide_eq_false h5
      omega
    refine .mk (.cons (.slm rfl (.inl ⟨_, _, rfl, by rw [← te, ← hkn]; rfl⟩) rfl (by simp only [IE.den]; rw [← te, ← hkn, vl k hk]) (fun e h => by cases h)) .nil) rfl
def fewS (s : SightD) : Bool := fewB [] [s.seen]
set_option maxRecDepth 100000 in
set_option maxHeartbeats 4000000 in
theorem FewSight_pure (s : SightD) : Pure Tryz.prog 7 [.agg s.c] (boolD (fewS s)) := by
  have hF := fun na nb => Few_pure [] [s.seen] na nb (by simp) (by simp)
  obtain ⟨r, hr⟩ : ∃ r, r = fewS s := ⟨_, rfl⟩
  rw [show fewB [] [s.seen] = r by rw [hr]; rfl] at hF
  rw [← hr]
  clear hr
  obtain ⟨v, tk, ⟨y1, y2, y3, y4, y5, y6⟩⟩ := s
  refine Pure.intro (want := [boolD r]) T_ok follows Tryz.func7 rfl (by kernel_rfl) (rs := [.tmp 2]) rfl (by kernel_rfl) ?_
  generalize hP : Tryz.prog = P at *
  have hT : T.ok P := hP ▸ T_ok
  have hm : P.follows .mixedOrders = true := hP ▸ follows
  unfold Tryz.f7
  dsimp only
  cbv
  refine CallP.pure _ (Pure.args (.cons (.nil0 rfl) (.cons (.sll rfl (fun e h => by cases h)) .nil)) (hF none none)) rfl ?_
  cbv
  exact .mk (.cons (.eq (.bool rfl)) .nil) rfl
def fewG (x : GrpsD) : Bool := decide (x.l.length ≤ 20) && x.l.all fun g => decide (g.persons.length ≤ 100)
def fewA (a : AccountD) : Bool := decide (a.coal.length ≤ 10 ∧ a.sights.length ≤ 5 ∧ a.sets.length ≤ 10) && (a.coal.all (fun x => decide (x.l.length ≤ 10)) && (a.sets.all fewG && fewB a.issued (viewsL a.sights)))
set_option maxRecDepth 100000 in
set_option maxHeartbeats 4000000 in
theorem Few31_pure (a : AccountD) (hi : a.issued.length ≤ 9223372036854775807) : Pure Tryz.prog 6 [.agg a.c] (boolD (fewA a)) := by
  obtain ⟨r, hr⟩ : ∃ r, r = fewA a := ⟨_, rfl⟩
  rw [← hr]
  have hW := fun h : a.sights.length ≤ 5 => rall_pure a.sights (some (.var a.ns)) (by omega)
  have hF := fun h : a.sights.length ≤ 5 => Few_pure a.issued (viewsL a.sights) (some (.var a.ni)) none hi (by unfold viewsL; rw [List.length_map]; omega)
  unfold fewA at hr
  obtain ⟨fw, hfw⟩ : ∃ b, b = fewB a.issued (viewsL a.sights) := ⟨_, rfl⟩
  rw [← hfw] at hF hr
  obtain ⟨W, hW'⟩ : ∃ b, b = viewsL a.sights := ⟨_, rfl⟩
  rw [← hW'] at hF hW
  clear hfw hW'
  obtain ⟨ai, aI, ac, C, as_, S, az, Z⟩ := a
  simp only at hr hW hF hi
  obtain ⟨g, hg⟩ : ∃ g, g = fewG := ⟨_, rfl⟩
  rw [← hg] at hr
  have g1 : ∀ n l, g ⟨n, l⟩ = (decide (l.length ≤ 20) && l.all fun g => decide (g.persons.length ≤ 100)) := fun n l => by rw [hg]; rfl
  clear hg
  obtain ⟨nC, hnC⟩ : ∃ n : Nat, n = C.length := ⟨_, rfl⟩
  obtain ⟨nZ, hnZ⟩ : ∃ n : Nat, n = Z.length := ⟨_, rfl⟩
  refine Pure.intro (want := [boolD r]) T_ok follows Tryz.func6 rfl (by kernel_rfl) (rs := [.tmp 2]) rfl (by kernel_rfl) ?_
  generalize hP : Tryz.prog = P at *
  have hT : T.ok P := hP ▸ T_ok
  have hm : P.follows .mixedOrders = true := hP ▸ follows
  unfold Tryz.f6
  dsimp only
  cbv
  refine SplitP.mk (fun h => ?_) (fun h => ?_)
  · have := of_decide_eq_true (show decide ((C.length : Int) > 10) = true from h)
    refine .mk (.cons (.eq (.bool ?_)) .nil) rfl
    rw [BE.lit_d, BE.var_d]
    rw [hr, decide_eq_false (by omega)]; rfl
  have c1 : C.length ≤ 10 := by have := of_decide_eq_false (show decide ((C.length : Int) > 10) = false from h); omega
  clear h
  refine SplitP.mk (fun h => ?_) (fun h => ?_)
  · have := of_decide_eq_true (show decide ((S.length : Int) > 5) = true from h)
    refine .mk (.cons (.eq (.bool ?_)) .nil) rfl
    rw [BE.lit_d, BE.var_d]
    rw [hr, decide_eq_false (by omega)]; rfl
  have c2 : S.length ≤ 5 := by have := of_decide_eq_false (show decide ((S.length : Int) > 5) = false from h); omega
  clear h
  refine SplitP.mk (fun h => ?_) (fun h => ?_)
  · have := of_decide_eq_true (show decide ((Z.length : Int) > 10) = true from h)
    refine .mk (.cons (.eq (.bool ?_)) .nil) rfl
    rw [BE.lit_d, BE.var_d]
    rw [hr, decide_eq_false (by omega)]; rfl
  have c3 : Z.length ≤ 10 := by have := of_decide_eq_false (show decide ((Z.length : Int) > 10) = false from h); omega
  clear h
  rw [decide_eq_true ⟨c1, c2, c3⟩, Bool.true_and] at hr
  replace hW := hW c2
  replace hF := hF c2
  refine CodeP.loopc hT hm (X := Nat) (fun k => [(3, .int .i64 (.nat k))]) (fun k => k ≤ C.length ∧ r = ((C.drop k).all (fun x => decide (x.l.length ≤ 10)) && (Z.all g && fw))) (fun k => nC - k) 0 ⟨by simp, hr⟩ (Nat.zero_le _) ?_ rfl ?_
  · (cbv; (repeat' (first | exact SnD.refl _ | exact trivial | exact SnD.nat0 | refine And.intro ?_ ?_)))
  intro k ⟨hk, hq⟩
  cbv
  refine SplitP.mk (fun hs => ?_) (fun hs => ?_)
  · have hkn : k < C.length := by
      have h5 : decide ((k : Int) < (C.length : Int)) = true := hs
      have := of_decide_eq_true h5
      omega
    clear hs
    refine ElemP.mk (by show (0 : Int) ≤ (k : Int) ∧ (k : Int) < (C.length : Int); omega) (fun x hx => ?_)
    replace hx : C[k]? = some x := hx
    rw [drop_cons hx] at hq
    obtain ⟨x1, x2⟩ := x
    simp only [List.all_cons] at hq
    cbv
    refine SplitP.mk (fun h => ?_) (fun h => ?_)
    · have := of_decide_eq_true (show decide ((x2.length : Int) > 10) = true from h)
      refine .mk (.cons (.eq (.bool ?_)) .nil) rfl
      rw [BE.lit_d, BE.var_d]
      rw [hq, decide_eq_false (by omega)]; rfl
    have c4 : x2.length ≤ 10 := by have := of_decide_eq_false (show decide ((x2.length : Int) > 10) = false from h); omega
    refine BackP.intro (k + 1) ⟨by omega, by rw [hq, decide_eq_true c4, Bool.true_and]⟩ (by show nC - (k + 1) < nC - k; omega) ⟨?_, HEnt.refl _, rfl⟩
    (cbv; (repeat' (first | exact SnD.refl _ | exact trivial | exact SnD.nat0 | refine And.intro ?_ ?_)))
    exact .inc (by omega)
  have hkn : C.length ≤ k := by
    have h5 : decide ((k : Int) < (C.length : Int)) = false := hs
    have := of_decide_eq_false h5
    omega
  clear hs
  rw [List.drop_of_length_le (by omega), List.all_nil, Bool.true_and] at hq
  clear hr
  refine CodeP.loopc hT hm (X := Nat) (fun k => [(4, .int .i64 (.nat k))]) (fun k => k ≤ Z.length ∧ r = ((Z.drop k).all g && fw)) (fun k => nZ - k) 0 ⟨by simp, hq⟩ (Nat.zero_le _) ?_ rfl ?_
  · (cbv; (repeat' (first | exact SnD.refl _ | exact trivial | exact SnD.nat0 | refine And.intro ?_ ?_)))
  clear hq hk hkn
  intro k ⟨hk, hq⟩
  cbv
  refine SplitP.mk (fun hs => ?_) (fun hs => ?_)
  · have hkn : k < Z.length := by
      have h5 : decide ((k : Int) < (Z.length : Int)) = true := hs
      have := of_decide_eq_true h5
      omega
    clear hs
    refine ElemP.mk (by show (0 : Int) ≤ (k : Int) ∧ (k : Int) < (Z.length : Int); omega) (fun x hx => ?_)
    replace hx : Z[k]? = some x := hx
    rw [drop_cons hx] at hq
    obtain ⟨x1, x2⟩ := x
    simp only [List.all_cons] at hq
    rw [g1] at hq
    cbv
    refine SplitP.mk (fun h => ?_) (fun h => ?_)
    · have := of_decide_eq_true (show decide ((x2.length : Int) > 20) = true from h)
      refine .mk (.cons (.eq (.bool ?_)) .nil) rfl
      rw [BE.lit_d, BE.var_d]
      rw [hq, decide_eq_false (by omega)]; rfl
    have c4 : x2.length ≤ 20 := by have := of_decide_eq_false (show decide ((x2.length : Int) > 20) = false from h); omega
    rw [decide_eq_true c4, Bool.true_and] at hq
    obtain ⟨m, hm'⟩ : ∃ n : Nat, n = x2.length := ⟨_, rfl⟩
    obtain ⟨rest, hrest⟩ : ∃ b, b = (Z.drop (k + 1)).all g := ⟨_, rfl⟩
    rw [← hrest] at hq
    refine CodeP.loopc hT hm (X := Nat) (fun j => [(5, .int .i64 (.nat j))]) (fun j => j ≤ x2.length ∧ r = (((x2.drop j).all fun g => decide (g.persons.length ≤ 100)) && rest && fw)) (fun j => m - j) 0 ⟨by simp, hq⟩ (Nat.zero_le _) ?_ rfl ?_
    · (cbv; (repeat' (first | exact SnD.refl _ | exact trivial | exact SnD.nat0 | refine And.intro ?_ ?_)))
    intro j ⟨hj, hq2⟩
    cbv
    refine ElemP.mk (by show (0 : Int) ≤ (k : Int) ∧ (k : Int) < (Z.length : Int); omega) (fun zz hzz => ?_)
    replace hzz : Z[k]? = some zz := hzz
    rw [hx] at hzz
    cases hzz
    cbv
    refine SplitP.mk (fun hs => ?_) (fun hs => ?_)
    · have hkn : j < x2.length := by
        have h5 : decide ((j : Int) < (x2.length : Int)) = true := hs
        have := of_decide_eq_true h5
        omega
      clear hs
      refine ElemP.mk (by show (0 : Int) ≤ (k : Int) ∧ (k : Int) < (Z.length : Int); omega) (fun zz hzz => ?_)
      replace hzz : Z[k]? = some zz := hzz
      rw [hx] at hzz
      cases hzz
      cbv
      refine ElemP.mk (by show (0 : Int) ≤ (j : Int) ∧ (j : Int) < (x2.length : Int); omega) (fun y hy => ?_)
      replace hy : x2[j]? = some y := hy
      rw [drop_cons hy] at hq2
      obtain ⟨y1, y2, y3⟩ := y
      simp only [List.all_cons] at hq2
      cbv
      refine SplitP.mk (fun h => ?_) (fun h => ?_)
      · have := of_decide_eq_true (show decide ((y3.length : Int) > 100) = true from h)
        refine .mk (.cons (.eq (.bool ?_)) .nil) rfl
        rw [BE.lit_d, BE.var_d]
        rw [hq2, decide_eq_false (by omega)]; rfl
      have c5 : y3.length ≤ 100 := by have := of_decide_eq_false (show decide ((y3.length : Int) > 100) = false from h); omega
      refine BackP.intro (j + 1) ⟨by omega, by rw [hq2, decide_eq_true c5, Bool.true_and]⟩ (by show m - (j + 1) < m - j; omega) ⟨?_, HEnt.refl _, rfl⟩
      (cbv; (repeat' (first | exact SnD.refl _ | exact trivial | exact SnD.nat0 | refine And.intro ?_ ?_)))
      exact .inc (by omega)
    · have hkn : x2.length ≤ j := by
        have h5 : decide ((j : Int) < (x2.length : Int)) = false := hs
        have := of_decide_eq_false h5
        omega
      clear hs
      rw [List.drop_of_length_le (by omega), List.all_nil, Bool.true_and, hrest] at hq2
      refine BackP.intro (k + 1) ⟨by omega, hq2⟩ (by show nZ - (k + 1) < nZ - k; omega) ⟨?_, HEnt.refl _, rfl⟩
      (cbv; (repeat' (first | exact SnD.refl _ | exact trivial | exact SnD.nat0 | refine And.intro ?_ ?_)))
      exact .inc (by omega)
  have hkn : Z.length ≤ k := by
    have h5 : decide ((k : Int) < (Z.length : Int)) = false := hs
    have := of_decide_eq_false h5
    omega
  clear hs
  rw [List.drop_of_length_le (by omega), List.all_nil, Bool.true_and] at hq
  refine PureP.mk _ hW rfl ?_
  cbv
  refine CallP.pure _ hF rfl ?_
  cbv
  exact .mk (.cons (.eq (.bool hq.symm)) .nil) rfl
end Go.Proofs.YtaopkjgldokahaaGreatDoor
namespace Go.Proofs.YtaopkjgldokahaaGreatDoor
open Go.RowKit

/-! The program's sets, Check, New, Extend, Add, Issue, After. -/
def grpsOf (I : List IssuedD) (L : List SightD) (x : CoalD) : GrpsD := ⟨(groupsL I L x.l).isEmpty, groupsL I L x.l⟩
def setsL (I : List IssuedD) (L : List SightD) (C : List CoalD) : List GrpsD := C.map (grpsOf I L)
structure BigV (l : List SightD) : Prop where
  fields : ∀ x ∈ l, x.seen.fields.length < 9223372036854775807
  vals : ∀ x ∈ l, x.seen.values.length < 9223372036854775807
theorem view_get {c : List Int} {L : List SightD} {s : SeenD} (h : s ∈ viewL c L) : ∃ x ∈ L, s.fields = x.seen.fields ∧ s.values = x.seen.values ∧ s.nilf = x.seen.nilf ∧ s.nilv = x.seen.nilv ∧ s.round = x.seen.round ∧ ∃ n : Nat, s.group = (n : Int) := by
  unfold viewL at h
  obtain ⟨i, hi, rfl⟩ := List.mem_map.1 h
  have hi2 := List.mem_range.1 hi
  have hm : getS (sightsL31 c L) i ∈ sightsL31 c L := by
    simp [getS, hi2]
  exact ⟨_, (List.mem_filter.1 hm).1, rfl, rfl, rfl, rfl, rfl, _, rfl⟩
theorem view_len (c : List Int) (L : List SightD) : (viewL c L).length ≤ L.length := by
  unfold viewL
  rw [List.length_map, List.length_range]
  exact List.length_filter_le _ _
theorem view_big {c : List Int} {L : List SightD} (h : BigV L) (hl : L.length ≤ 1000) : BigS (viewL c L) :=
  ⟨by have := view_len c L; omega, fun s hs => by obtain ⟨x, hx, h1, _⟩ := view_get hs; rw [h1]; exact h.fields x hx, fun s hs => by obtain ⟨x, hx, _, h1, _⟩ := view_get hs; rw [h1]; exact h.vals x hx⟩
theorem views_big {L : List SightD} (h : BigV L) (hl : L.length ≤ 1000000) : BigS (viewsL L) := by
  unfold viewsL
  refine ⟨by rw [List.length_map]; omega, fun s hs => ?_, fun s hs => ?_⟩ <;> obtain ⟨x, hx, rfl⟩ := List.mem_map.1 hs
  · exact h.fields x hx
  · exact h.vals x hx
set_option maxRecDepth 100000 in
set_option maxHeartbeats 4000000 in
theorem sets_pure (a : AccountD) (hI : BigI a.issued) (hV : BigV a.sights) (hl : a.sights.length ≤ 1000) (hc : a.coal.length ≤ 1000000) (hcl : ∀ x ∈ a.coal, x.l.length < 9223372036854775807) :
    Pure Tryz.prog 30 [.agg a.c] (.slm 1 (some (.var a.coal.isEmpty)) GrpsD.c (setsL a.issued a.sights a.coal)) := by
  have hG := fun (x : CoalD) (hx : x ∈ a.coal) => groups_pureF a.issued a.sights x.l (some (.var a.ni)) (some (.var a.ns)) (some (.var x.nil)) hI (view_big hV hl) (hcl x hx) hl
  obtain ⟨ai, aI, ac, C, as_, S, az, Z⟩ := a
  simp only at hG hc
  simp only
  obtain ⟨gl, hgl⟩ : ∃ f, f = groupsL aI S := ⟨_, rfl⟩
  obtain ⟨f, hf⟩ : ∃ f : CoalD → GrpsD, f = grpsOf aI S := ⟨_, rfl⟩
  have hfx : ∀ n l, f ⟨n, l⟩ = ⟨(gl l).isEmpty, gl l⟩ := fun n l => by rw [hf, hgl]; rfl
  rw [← hgl] at hG
  unfold setsL
  rw [← hf]
  obtain ⟨n, hn⟩ : ∃ n : Nat, n = C.length := ⟨_, rfl⟩
  obtain ⟨A, hA⟩ : ∃ A : Nat → List GrpsD, A = fun k => (C.take k).map f := ⟨_, rfl⟩
  have A0 : A 0 = [] := by rw [hA]; rfl
  have Al : ∀ k, k ≤ n → (A k).length = k := fun k hk => by rw [hA]; simp only; rw [List.length_map, List.length_take]; omega
  have As : ∀ k x, C[k]? = some x → A (k + 1) = A k ++ [f x] := fun k x hx => by
    rw [hA]
    simp only
    rw [List.take_add_one, hx, List.map_append]
    rfl
  obtain ⟨r, hr⟩ : ∃ r, r = C.map f := ⟨_, rfl⟩
  obtain ⟨rE, hrE⟩ : ∃ b, b = C.isEmpty := ⟨_, rfl⟩
  have Ae : A n = r := by rw [hA, hn, hr]; simp
  have hEe : rE = decide (n = 0) := by rw [hrE, hn]; cases C <;> simp
  rw [← hr, ← hrE]
  clear hA hr hrE hf hgl hcl hI hV
  refine Pure.intro (want := [.slm 1 (some (.var rE)) GrpsD.c r]) T_ok follows Tryz.func30 rfl (by kernel_rfl) (rs := [.tmp 2]) rfl (by kernel_rfl) ?_
  generalize hP : Tryz.prog = P at *
  have hT : T.ok P := hP ▸ T_ok
  have hm : P.follows .mixedOrders = true := hP ▸ follows
  unfold Tryz.f30
  dsimp only
  cbv
  refine CodeP.virt 2 58 1 rfl ?_
  refine CodeP.loopm hT hm (X := Nat) (fun k => [(8, .int .i64 (.nat k)), (2, .osl 1 1 (k + 1) (.cmp .eql (.nat k) (.lit 0)) (.lit 0) (.nat k))])
    (fun k => [.cells [.slm 3 (some (.var ai)) IssuedD.c aI, .slm 1 (some (.var ac)) CoalD.c C, .slm 37 (some (.var as_)) SightD.c S, .slm 1 (some (.var az)) GrpsD.c Z], .row 58 1 (k + 1) (.map GrpsD.c (A k))]) (fun k => k ≤ n) (fun k => n - k) 0 (Nat.zero_le _) (fun _ => Nat.zero_le _) ⟨?_, ?_, rfl⟩ ?_
  · refine ⟨.nat0, osl_start, ?_⟩
    (cbv; (repeat' (first | exact SnD.refl _ | exact trivial | exact SnD.nat0 | refine And.intro ?_ ?_)))
  · rw [A0]
    exact ⟨.refl _, .row rfl, trivial⟩
  intro k hk
  replace hk : k ≤ n := hk
  cbv
  refine SplitP.mk (fun hs => ?_) (fun hs => ?_)
  · have hkn : k < C.length := by
      have h5 : decide ((k : Int) < (C.length : Int)) = true := hs
      have := of_decide_eq_true h5
      omega
    clear hs
    refine ElemP.mk (by show (0 : Int) ≤ (k : Int) ∧ (k : Int) < (C.length : Int); omega) (fun x hx => ?_)
    replace hx : C[k]? = some x := hx
    have hGx := hG x (List.mem_of_getElem? hx)
    have g1 := As k x hx
    have g3 := Al k hk
    obtain ⟨x1, x2⟩ := x
    rw [hfx] at g1
    obtain ⟨gx, hgx⟩ : ∃ y, y = gl x2 := ⟨_, rfl⟩
    rw [← hgx] at g1 hGx
    obtain ⟨ge, hge⟩ : ∃ y, y = gx.isEmpty := ⟨_, rfl⟩
    rw [← hge] at g1 hGx
    clear hgx hge
    cbv
    refine (CallP.inl hT hm (hP ▸ Tryz.func49) rfl (by kernel_rfl) (rs := [.tmp 6]) rfl (by kernel_rfl) ?_)
    unfold Tryz.f49
    dsimp only
    cbv
    refine CallP.lendF _ _ hGx (.cons (.fns .nil (.cons (.dp rfl rfl rfl) (.cons (.dp rfl rfl rfl) (.cons (.dp rfl rfl rfl) .nil)))) .nil) rfl ?_
    cbv
    refine ReqP.mk (app_ok g3 (by omega) (fun _ => rfl) rfl (by decide)) (fun _ => ?_)
    refine BackP.intro (k + 1) (by show k + 1 ≤ n; omega) (by show n - (k + 1) < n - k; omega) ⟨?_, ⟨.refl _, row_app _ g1 (.cons (.refl _) .nil), trivial⟩, rfl⟩
    refine ⟨.inc (by omega), osl_step k, ?_⟩
    (cbv; (repeat' (first | exact SnD.refl _ | exact trivial | exact SnD.nat0 | refine And.intro ?_ ?_)))
  · have hkn : k = n := by
      have h5 : decide ((k : Int) < (C.length : Int)) = false := hs
      have := of_decide_eq_false h5
      omega
    refine .mk (.cons (.slm rfl (.inl ⟨_, _, rfl, by rw [← Ae, ← hkn]; rfl⟩) rfl (by simp only [IE.den]; rw [← Ae, ← hkn, Al k hk]) (fun e h => by cases h; rw [BE.var_d, hEe, hkn]; show decide (n = 0) = ((n : Int) == 0); rw [Bool.eq_iff_iff]; simp)) .nil) rfl
end Go.Proofs.YtaopkjgldokahaaGreatDoor
namespace Go.Proofs.YtaopkjgldokahaaGreatDoor
open Go.RowKit

/-! The reference's equality of accounts. -/
set_option maxRecDepth 100000 in
set_option maxHeartbeats 4000000 in
theorem SameSets_pure (l m : List GrpsD) (na nb : Option BE) (hl : l.length < 9223372036854775807) (hp : ∀ x ∈ l, x.l.length < 9223372036854775807 ∧ ∀ g ∈ x.l, g.persons.length < 9223372036854775807) : Pure Tryz.prog 24 [.slm 1 na GrpsD.c l, .slm 1 nb GrpsD.c m] (boolD (setsEqB l m)) := by
  have hI := fun (a b : List Int) na nb h => sameInts_pure a b na nb h
  obtain ⟨f, hf⟩ : ∃ f : GrpsD → GrpsD → Bool, f = fun x y => eqGL x.l y.l := ⟨_, rfl⟩
  unfold setsEqB
  rw [← hf]
  have e0 := fun (h : l.length ≠ m.length) => eqF_len f h
  obtain ⟨g, hg⟩ : ∃ g, g = eqF f := ⟨_, rfl⟩
  rw [← hg] at e0
  rw [← hg]
  have g0 : g [] [] = true := by rw [hg]; rfl
  have g1 : ∀ x a y b, g (x :: a) (y :: b) = (f x y && g a b) := fun x a y b => by rw [hg]; rfl
  obtain ⟨h, hh⟩ : ∃ h : List GroupD → List GroupD → Bool, h = eqGL := ⟨_, rfl⟩
  have f1 : ∀ n1 a n2 b, f ⟨n1, a⟩ ⟨n2, b⟩ = h a b := fun n1 a n2 b => by rw [hf, hh]
  have h0 : h [] [] = true := by rw [hh]; rfl
  have h1 : ∀ g1 n1 p1 a g2 n2 p2 b, h (⟨g1, n1, p1⟩ :: a) (⟨g2, n2, p2⟩ :: b) = ((decide (g1 = g2) && decide (p1 = p2)) && h a b) := fun g1 n1 p1 a g2 n2 p2 b => by
    rw [hh]
    show ((decide (keyG ⟨g1, n1, p1⟩ = keyG ⟨g2, n2, p2⟩)) && _) = _
    simp [keyG]
    rfl
  have hlen : ∀ a b : List GroupD, a.length ≠ b.length → h a b = false := fun a b q => by rw [hh]; exact eqF_len eqG q
  clear hf hg hh
  obtain ⟨r, hr⟩ : ∃ r, r = g l m := ⟨_, rfl⟩
  rw [← hr]
  rw [← hr] at e0
  obtain ⟨n, hn⟩ : ∃ n : Nat, n = l.length := ⟨_, rfl⟩
  refine Pure.intro (want := [boolD r]) T_ok follows Tryz.func24 rfl (by kernel_rfl) (rs := [.tmp 4]) rfl (by kernel_rfl) ?_
  generalize hP : Tryz.prog = P at *
  have hT : T.ok P := hP ▸ T_ok
  have hm : P.follows .mixedOrders = true := hP ▸ follows
  unfold Tryz.f24
  dsimp only
  cbv
  refine SplitP.mk (fun h2 => ?_) (fun h2 => ?_)
  · have h3 : ((l.length : Int) != (m.length : Int)) = true := h2
    refine .mk (.cons (.eq (.bool ?_)) .nil) rfl
    rw [BE.lit_d, BE.var_d]
    exact (e0 fun e => by rw [e] at h3; simp at h3).symm
  have h3 : l.length = m.length := by
    have h3 : ((l.length : Int) != (m.length : Int)) = false := h2
    simp at h3
    omega
  clear h2 e0
  refine CodeP.loopc hT hm (X := Nat) (fun k => [(5, .int .i64 (.nat k))]) (fun k => k ≤ l.length ∧ r = g (l.drop k) (m.drop k)) (fun k => n - k) 0 ⟨by simp, hr⟩ (Nat.zero_le _) ?_ rfl ?_
  · (cbv; (repeat' (first | exact SnD.refl _ | exact trivial | exact SnD.nat0 | refine And.intro ?_ ?_)))
  intro k ⟨hk, hq⟩
  cbv
  refine SplitP.mk (fun hs => ?_) (fun hs => ?_)
  · have hkn : k < l.length := by
      have h5 : decide ((k : Int) < (l.length : Int)) = true := hs
      have := of_decide_eq_true h5
      omega
    clear hs
    refine ElemP.mk (by show (0 : Int) ≤ (k : Int) ∧ (k : Int) < (l.length : Int); omega) (fun x hx => ?_)
    replace hx : l[k]? = some x := hx
    have hpx := hp x (List.mem_of_getElem? hx)
    rw [drop_cons hx] at hq
    obtain ⟨a1, a2⟩ := x
    simp only at hpx
    cbv
    refine ElemP.mk (by show (0 : Int) ≤ (k : Int) ∧ (k : Int) < (m.length : Int); omega) (fun y hy => ?_)
    replace hy : m[k]? = some y := hy
    rw [drop_cons hy, g1] at hq
    obtain ⟨b1, b2⟩ := y
    rw [f1] at hq
    obtain ⟨rest, hrest⟩ : ∃ b, b = g (l.drop (k + 1)) (m.drop (k + 1)) := ⟨_, rfl⟩
    rw [← hrest] at hq
    cbv
    refine SplitP.mk (fun h4 => ?_) (fun h4 => ?_)
    · have h5 : ((a2.length : Int) != (b2.length : Int)) = true := h4
      refine .mk (.cons (.eq (.bool ?_)) .nil) rfl
      rw [BE.lit_d, BE.var_d]
      rw [hq, hlen _ _ fun e => by rw [e] at h5; simp at h5]; rfl
    have h5 : a2.length = b2.length := by
      have h5 : ((a2.length : Int) != (b2.length : Int)) = false := h4
      simp at h5
      omega
    clear h4
    obtain ⟨na2, hna2⟩ : ∃ n : Nat, n = a2.length := ⟨_, rfl⟩
    refine CodeP.loopc hT hm (X := Nat) (fun j => [(6, .int .i64 (.nat j))]) (fun j => j ≤ a2.length ∧ r = (h (a2.drop j) (b2.drop j) && rest)) (fun j => na2 - j) 0 ⟨by simp, hq⟩ (Nat.zero_le _) ?_ rfl ?_
    · (cbv; (repeat' (first | exact SnD.refl _ | exact trivial | exact SnD.nat0 | refine And.intro ?_ ?_)))
    intro j ⟨hj, hq2⟩
    cbv
    refine ElemP.mk (by show (0 : Int) ≤ (k : Int) ∧ (k : Int) < (l.length : Int); omega) (fun zz hzz => ?_)
    replace hzz : l[k]? = some zz := hzz
    rw [hx] at hzz
    cases hzz
    cbv
    refine SplitP.mk (fun hs => ?_) (fun hs => ?_)
    · have hkn : j < a2.length := by
        have h5 : decide ((j : Int) < (a2.length : Int)) = true := hs
        have := of_decide_eq_true h5
        omega
      clear hs
      refine ⟨by kernel_rfl, ?_⟩
      cbv
      refine ElemP.mk (by show (0 : Int) ≤ (k : Int) ∧ (k : Int) < (l.length : Int); omega) (fun zz hzz => ?_)
      replace hzz : l[k]? = some zz := hzz
      rw [hx] at hzz
      cases hzz
      cbv
      refine ElemP.mk (by show (0 : Int) ≤ (j : Int) ∧ (j : Int) < (a2.length : Int); omega) (fun u hu => ?_)
      replace hu : a2[j]? = some u := hu
      have hpu := hpx.2 u (List.mem_of_getElem? hu)
      rw [drop_cons hu] at hq2
      obtain ⟨u1, u2, u3⟩ := u
      simp only at hpu
      cbv
      refine ElemP.mk (by show (0 : Int) ≤ (k : Int) ∧ (k : Int) < (m.length : Int); omega) (fun zz hzz => ?_)
      replace hzz : m[k]? = some zz := hzz
      rw [hy] at hzz
      cases hzz
      cbv
      refine ElemP.mk (by show (0 : Int) ≤ (j : Int) ∧ (j : Int) < (b2.length : Int); omega) (fun v hv => ?_)
      replace hv : b2[j]? = some v := hv
      rw [drop_cons hv] at hq2
      obtain ⟨v1, v2, v3⟩ := v
      rw [h1] at hq2
      cbv
      refine SplitP.mk (fun h6 => ?_) (fun h6 => ?_) <;> simp only [BE.neq_t, BE.neq_f, IE.var_d] at h6
      · refine .mk (.cons (.eq (.bool ?_)) .nil) rfl
        rw [BE.lit_d, BE.var_d]
        rw [hq2, decide_eq_false h6]; rfl
      rw [decide_eq_true h6, Bool.true_and] at hq2
      refine ElemP.mk (by show (0 : Int) ≤ (k : Int) ∧ (k : Int) < (l.length : Int); omega) (fun zz hzz => ?_)
      replace hzz : l[k]? = some zz := hzz
      rw [hx] at hzz
      cases hzz
      cbv
      refine ElemP.mk (by show (0 : Int) ≤ (j : Int) ∧ (j : Int) < (a2.length : Int); omega) (fun zz hzz => ?_)
      replace hzz : a2[j]? = some zz := hzz
      rw [hu] at hzz
      cases hzz
      cbv
      refine ElemP.mk (by show (0 : Int) ≤ (k : Int) ∧ (k : Int) < (m.length : Int); omega) (fun zz hzz => ?_)
      replace hzz : m[k]? = some zz := hzz
      rw [hy] at hzz
      cases hzz
      cbv
      refine ElemP.mk (by show (0 : Int) ≤ (j : Int) ∧ (j : Int) < (b2.length : Int); omega) (fun zz hzz => ?_)
      replace hzz : b2[j]? = some zz := hzz
      rw [hv] at hzz
      cases hzz
      have hI2 := hI u3 v3 (some (.var u2)) (some (.var v2)) hpu
      obtain ⟨b, hb⟩ : ∃ b, b = decide (u3 = v3) := ⟨_, rfl⟩
      rw [← hb] at hI2 hq2
      clear hb
      cbv
      refine CallP.pure _ hI2 rfl ?_
      cbv
      refine SplitP.mk (fun h7 => ?_) (fun h7 => ?_)
      · have h8 : b = false := by simpa using (show (!b) = true from h7)
        refine .mk (.cons (.eq (.bool ?_)) .nil) rfl
        rw [BE.lit_d, BE.var_d]
        rw [hq2, h8]; rfl
      have h8 : b = true := by simpa using (show (!b) = false from h7)
      refine BackP.intro (j + 1) ⟨by omega, by rw [hq2, h8, Bool.true_and]⟩ (by show na2 - (j + 1) < na2 - j; omega) ⟨?_, HEnt.refl _, rfl⟩
      (cbv; (repeat' (first | exact SnD.refl _ | exact trivial | exact SnD.nat0 | refine And.intro ?_ ?_)))
      exact .inc (by omega)
    · have hkn : a2.length ≤ j := by
        have h5 : decide ((j : Int) < (a2.length : Int)) = false := hs
        have := of_decide_eq_false h5
        omega
      clear hs
      rw [List.drop_of_length_le (by omega), List.drop_of_length_le (by omega), h0, Bool.true_and, hrest] at hq2
      refine BackP.intro (k + 1) ⟨by omega, hq2⟩ (by show n - (k + 1) < n - k; omega) ⟨?_, HEnt.refl _, rfl⟩
      (cbv; (repeat' (first | exact SnD.refl _ | exact trivial | exact SnD.nat0 | refine And.intro ?_ ?_)))
      exact .inc (by omega)
  · have hkn : l.length ≤ k := by
      have h5 : decide ((k : Int) < (l.length : Int)) = false := hs
      have := of_decide_eq_false h5
      omega
    clear hs
    refine .mk (.cons (.eq (.bool ?_)) .nil) rfl
    rw [BE.lit_d, BE.var_d]
    rw [hq, List.drop_of_length_le (by omega), List.drop_of_length_le (by omega), g0]
def keyS (s : SightD) : Int × List Int × Int × Int × List Int × List Int := (s.verifier, tokL s.token, s.seen.group, s.seen.round, s.seen.fields, s.seen.values)
def eqS (x y : SightD) : Bool := decide (keyS x = keyS y)
set_option maxRecDepth 100000 in
set_option maxHeartbeats 4000000 in
theorem sameSight_pure (x y : SightD) (hf : x.seen.fields.length < 9223372036854775807) (hv : x.seen.values.length < 9223372036854775807) : Pure Tryz.prog 39 [.agg x.c, .agg y.c] (boolD (eqS x y)) := by
  have hF := fun na nb => sameInts_pure x.seen.fields y.seen.fields na nb hf
  have hV := fun na nb => sameInts_pure x.seen.values y.seen.values na nb hv
  obtain ⟨r, hr⟩ : ∃ r, r = eqS x y := ⟨_, rfl⟩
  rw [← hr]
  unfold eqS keyS at hr
  obtain ⟨bf, hbf⟩ : ∃ b, b = decide (x.seen.fields = y.seen.fields) := ⟨_, rfl⟩
  obtain ⟨bv, hbv⟩ : ∃ b, b = decide (x.seen.values = y.seen.values) := ⟨_, rfl⟩
  have hr2 : r = (decide (x.verifier = y.verifier) && (decide (tokL x.token = tokL y.token) && (decide (x.seen.group = y.seen.group) && (decide (x.seen.round = y.seen.round) && (bf && bv))))) := by
    rw [hr, hbf, hbv]
    simp
  rw [← hbf] at hF
  rw [← hbv] at hV
  clear hr hbf hbv hf hv
  obtain ⟨v1, t1, ⟨g1, r1, nf1, fl1, nv1, vl1⟩⟩ := x
  obtain ⟨v2, t2, ⟨g2, r2, nf2, fl2, nv2, vl2⟩⟩ := y
  simp only at hr2 hF hV
  refine Pure.intro (want := [boolD r]) T_ok follows Tryz.func39 rfl (by kernel_rfl) (rs := [.tmp 4]) rfl (by kernel_rfl) ?_
  generalize hP : Tryz.prog = P at *
  have hT : T.ok P := hP ▸ T_ok
  have hm : P.follows .mixedOrders = true := hP ▸ follows
  unfold Tryz.f39
  dsimp only
  cbv
  refine SplitP.mk (fun h1 => ?_) (fun h1 => ?_) <;> simp only [BE.eql_t, BE.eql_f, IE.var_d] at h1
  rotate_left
  · rw [decide_eq_false h1] at hr2
    (repeat (refine OpsP.go hT ?_; cbv))
    exact .mk (.cons (.eq (.bool hr2.symm)) .nil) rfl
  rw [decide_eq_true h1, Bool.true_and] at hr2
  (repeat (refine OpsP.go hT ?_; cbv))
  refine SplitP.mk (fun h3 => ?_) (fun h3 => ?_)
  rotate_left
  · rw [show decide (tokL t1 = tokL t2) = false from (tok_den rfl).symm.trans h3] at hr2
    (repeat (refine OpsP.go hT ?_; cbv))
    exact .mk (.cons (.eq (.bool hr2.symm)) .nil) rfl
  rw [show decide (tokL t1 = tokL t2) = true from (tok_den rfl).symm.trans h3, Bool.true_and] at hr2
  clear h3
  (repeat (refine OpsP.go hT ?_; cbv))
  refine SplitP.mk (fun h1 => ?_) (fun h1 => ?_) <;> simp only [BE.eql_t, BE.eql_f, IE.var_d] at h1
  rotate_left
  · rw [decide_eq_false h1] at hr2
    (repeat (refine OpsP.go hT ?_; cbv))
    exact .mk (.cons (.eq (.bool hr2.symm)) .nil) rfl
  rw [decide_eq_true h1, Bool.true_and] at hr2
  (repeat (refine OpsP.go hT ?_; cbv))
  refine SplitP.mk (fun h1 => ?_) (fun h1 => ?_) <;> simp only [BE.eql_t, BE.eql_f, IE.var_d] at h1
  rotate_left
  · rw [decide_eq_false h1] at hr2
    (repeat (refine OpsP.go hT ?_; cbv))
    exact .mk (.cons (.eq (.bool hr2.symm)) .nil) rfl
  rw [decide_eq_true h1, Bool.true_and] at hr2
  (repeat (refine OpsP.go hT ?_; cbv))
  refine CallP.pure _ (hF _ _) rfl ?_
  cbv
  (repeat (refine OpsP.go hT ?_; cbv))
  refine SplitP.mk (fun h1 => ?_) (fun h1 => ?_)
  rotate_left
  · have h2 : bf = false := h1
    rw [h2] at hr2
    (repeat (refine OpsP.go hT ?_; cbv))
    exact .mk (.cons (.eq (.bool hr2.symm)) .nil) rfl
  have h2 : bf = true := h1
  rw [h2, Bool.true_and] at hr2
  (repeat (refine OpsP.go hT ?_; cbv))
  refine CallP.pure _ (hV _ _) rfl ?_
  cbv
  (repeat (refine OpsP.go hT ?_; cbv))
  exact .mk (.cons (.eq (.bool hr2.symm)) .nil) rfl
end Go.Proofs.YtaopkjgldokahaaGreatDoor
namespace Go.Proofs.YtaopkjgldokahaaGreatDoor
open Go.RowKit

/-! The reference's Same. -/
def keyI (x : IssuedD) : Int × Int × List Int := (x.round, x.person, x.values)
def eqI (x y : IssuedD) : Bool := decide (keyI x = keyI y)
def eqC (x y : CoalD) : Bool := decide (x.l = y.l)
def sameB (x y : AccountD) : Bool := eqF eqI x.issued y.issued && (eqF eqC x.coal y.coal && (eqF eqS x.sights y.sights && setsEqB x.sets y.sets))
/-- what fits into a machine -/
structure AccountD.big (a : AccountD) : Prop where
  iss : BigI a.issued
  coal : a.coal.length < 9223372036854775807
  cl : ∀ x ∈ a.coal, x.l.length < 9223372036854775807
  si : a.sights.length < 9223372036854775807
  sf : ∀ x ∈ a.sights, x.seen.fields.length < 9223372036854775807
  sv : ∀ x ∈ a.sights, x.seen.values.length < 9223372036854775807
  sets : a.sets.length < 9223372036854775807
  gl : ∀ x ∈ a.sets, x.l.length < 9223372036854775807 ∧ ∀ g ∈ x.l, g.persons.length < 9223372036854775807
set_option maxRecDepth 100000 in
set_option maxHeartbeats 4000000 in
theorem Same_pure (x y : AccountD) (hx : x.big) : Pure Tryz.prog 15 [.agg x.c, .agg y.c] (boolD (sameB x y)) := by
  have hSS := fun na nb => SameSets_pure x.sets y.sets na nb hx.sets hx.gl
  have hSi := fun s (hs : s ∈ x.sights) t => sameSight_pure s t (hx.sf s hs) (hx.sv s hs)
  have hIv := fun i (hi : i ∈ x.issued) => hx.iss.vals i hi
  have hCl := hx.cl
  have hI := fun (a b : List Int) na nb h => sameInts_pure a b na nb h
  have l1 := hx.iss.len
  have l2 := hx.coal
  have l3 := hx.si
  clear hx
  obtain ⟨xi, xI, xc, xC, xs, xS, xz, xZ⟩ := x
  obtain ⟨yi, yI, yc, yC, ys, yS, yz, yZ⟩ := y
  unfold sameB
  simp only at hSS hSi hIv hCl l1 l2 l3 ⊢
  obtain ⟨bz, hbz⟩ : ∃ b, b = setsEqB xZ yZ := ⟨_, rfl⟩
  rw [← hbz] at hSS
  rw [← hbz]
  clear hbz
  have li := fun (h : xI.length ≠ yI.length) => eqF_len eqI h
  have lc := fun (h : xC.length ≠ yC.length) => eqF_len eqC h
  have ls := fun (h : xS.length ≠ yS.length) => eqF_len eqS h
  obtain ⟨gi, hgi⟩ : ∃ g, g = eqF eqI := ⟨_, rfl⟩
  obtain ⟨gc, hgc⟩ : ∃ g, g = eqF eqC := ⟨_, rfl⟩
  obtain ⟨es, hes⟩ : ∃ g, g = eqS := ⟨_, rfl⟩
  rw [← hes] at hSi ls ⊢
  obtain ⟨gs, hgs⟩ : ∃ g, g = eqF es := ⟨_, rfl⟩
  rw [← hgi] at li ⊢
  rw [← hgc] at lc ⊢
  rw [← hgs] at ls ⊢
  have gi0 : gi [] [] = true := by rw [hgi]; rfl
  have gi1 : ∀ a1 a2 a3 a4 a b1 b2 b3 b4 b, gi (⟨a1, a2, a3, a4⟩ :: a) (⟨b1, b2, b3, b4⟩ :: b) = (decide (a1 = b1) && (decide (a2 = b2) && (decide (a4 = b4) && gi a b))) := fun a1 a2 a3 a4 a b1 b2 b3 b4 b => by
    rw [hgi]
    show (decide (keyI ⟨a1, a2, a3, a4⟩ = keyI ⟨b1, b2, b3, b4⟩) && eqF eqI a b) = _
    simp [keyI, Bool.and_assoc]
  have gc0 : gc [] [] = true := by rw [hgc]; rfl
  have gc1 : ∀ a1 a2 a b1 b2 b, gc (⟨a1, a2⟩ :: a) (⟨b1, b2⟩ :: b) = (decide (a2 = b2) && gc a b) := fun a1 a2 a b1 b2 b => by rw [hgc]; rfl
  have gs0 : gs [] [] = true := by rw [hgs]; rfl
  have gs1 : ∀ x a y b, gs (x :: a) (y :: b) = (es x y && gs a b) := fun x a y b => by rw [hgs]; rfl
  obtain ⟨r, hr⟩ : ∃ r, r = (gi xI yI && (gc xC yC && (gs xS yS && bz))) := ⟨_, rfl⟩
  rw [← hr]
  clear hgi hgc hes hgs
  obtain ⟨ni, hni⟩ : ∃ n : Nat, n = xI.length := ⟨_, rfl⟩
  obtain ⟨nc, hnc⟩ : ∃ n : Nat, n = xC.length := ⟨_, rfl⟩
  obtain ⟨ns, hns⟩ : ∃ n : Nat, n = xS.length := ⟨_, rfl⟩
  refine Pure.intro (want := [boolD r]) T_ok follows Tryz.func15 rfl (by kernel_rfl) (rs := [.tmp 4]) rfl (by kernel_rfl) ?_
  generalize hP : Tryz.prog = P at *
  have hT : T.ok P := hP ▸ T_ok
  have hm : P.follows .mixedOrders = true := hP ▸ follows
  unfold Tryz.f15
  dsimp only
  cbv
  refine SplitP.mk (fun h => ?_) (fun h => ?_)
  · have h3 : ((xI.length : Int) != (yI.length : Int)) = true := h
    refine .mk (.cons (.eq (.bool ?_)) .nil) rfl
    rw [BE.lit_d, BE.var_d]
    rw [hr, li fun e => by rw [e] at h3; simp at h3]; rfl
  have ei : xI.length = yI.length := by
    have h3 : ((xI.length : Int) != (yI.length : Int)) = false := h
    simp at h3
    omega
  clear h li
  refine SplitP.mk (fun h => ?_) (fun h => ?_)
  · have h3 : ((xC.length : Int) != (yC.length : Int)) = true := h
    refine .mk (.cons (.eq (.bool ?_)) .nil) rfl
    rw [BE.lit_d, BE.var_d]
    rw [hr, lc fun e => by rw [e] at h3; simp at h3]; simp
  have ec : xC.length = yC.length := by
    have h3 : ((xC.length : Int) != (yC.length : Int)) = false := h
    simp at h3
    omega
  clear h lc
  refine SplitP.mk (fun h => ?_) (fun h => ?_)
  · have h3 : ((xS.length : Int) != (yS.length : Int)) = true := h
    refine .mk (.cons (.eq (.bool ?_)) .nil) rfl
    rw [BE.lit_d, BE.var_d]
    rw [hr, ls fun e => by rw [e] at h3; simp at h3]; simp
  have es' : xS.length = yS.length := by
    have h3 : ((xS.length : Int) != (yS.length : Int)) = false := h
    simp at h3
    omega
  clear h ls
  refine CallP.pure _ (hSS _ _) rfl ?_
  cbv
  refine SplitP.mk (fun h => ?_) (fun h => ?_)
  · have h4 : bz = false := by simpa using (show (!bz) = true from h)
    refine .mk (.cons (.eq (.bool ?_)) .nil) rfl
    rw [BE.lit_d, BE.var_d]
    rw [hr, h4]; simp
  have h4 : bz = true := by simpa using (show (!bz) = false from h)
  rw [h4, Bool.and_true] at hr
  clear h h4 hSS
  refine CodeP.loopc hT hm (X := Nat) (fun k => [(5, .int .i64 (.nat k))]) (fun k => k ≤ xI.length ∧ r = (gi (xI.drop k) (yI.drop k) && (gc xC yC && gs xS yS))) (fun k => ni - k) 0 ⟨by simp, hr⟩ (Nat.zero_le _) ?_ rfl ?_
  · (cbv; (repeat' (first | exact SnD.refl _ | exact trivial | exact SnD.nat0 | refine And.intro ?_ ?_)))
  intro k ⟨hk, hq⟩
  cbv
  refine SplitP.mk (fun hs => ?_) (fun hs => ?_)
  · have hkn : k < xI.length := by
      have h5 : decide ((k : Int) < (xI.length : Int)) = true := hs
      have := of_decide_eq_true h5
      omega
    clear hs
    refine ⟨by kernel_rfl, ?_⟩
    cbv
    refine ElemP.mk (by show (0 : Int) ≤ (k : Int) ∧ (k : Int) < (xI.length : Int); omega) (fun u hu => ?_)
    replace hu : xI[k]? = some u := hu
    have hv := hIv u (List.mem_of_getElem? hu)
    rw [drop_cons hu] at hq
    obtain ⟨u1, u2, u3, u4⟩ := u
    simp only at hv
    cbv
    refine ElemP.mk (by show (0 : Int) ≤ (k : Int) ∧ (k : Int) < (yI.length : Int); omega) (fun v hw => ?_)
    replace hw : yI[k]? = some v := hw
    rw [drop_cons hw] at hq
    obtain ⟨v1, v2, v3, v4⟩ := v
    rw [gi1] at hq
    cbv
    refine SplitP.mk (fun h6 => ?_) (fun h6 => ?_) <;> simp only [BE.neq_t, BE.neq_f, IE.var_d] at h6
    · refine .mk (.cons (.eq (.bool ?_)) .nil) rfl
      rw [BE.lit_d, BE.var_d]
      rw [hq, decide_eq_false h6]; rfl
    rw [decide_eq_true h6, Bool.true_and] at hq
    refine ElemP.mk (by show (0 : Int) ≤ (k : Int) ∧ (k : Int) < (xI.length : Int); omega) (fun zz hzz => ?_)
    replace hzz : xI[k]? = some zz := hzz
    rw [hu] at hzz
    cases hzz
    cbv
    refine ElemP.mk (by show (0 : Int) ≤ (k : Int) ∧ (k : Int) < (yI.length : Int); omega) (fun zz hzz => ?_)
    replace hzz : yI[k]? = some zz := hzz
    rw [hw] at hzz
    cases hzz
    cbv
    refine SplitP.mk (fun h6 => ?_) (fun h6 => ?_) <;> simp only [BE.neq_t, BE.neq_f, IE.var_d] at h6
    · refine .mk (.cons (.eq (.bool ?_)) .nil) rfl
      rw [BE.lit_d, BE.var_d]
      rw [hq, decide_eq_false h6]; rfl
    rw [decide_eq_true h6, Bool.true_and] at hq
    refine ElemP.mk (by show (0 : Int) ≤ (k : Int) ∧ (k : Int) < (xI.length : Int); omega) (fun zz hzz => ?_)
    replace hzz : xI[k]? = some zz := hzz
    rw [hu] at hzz
    cases hzz
    cbv
    refine ElemP.mk (by show (0 : Int) ≤ (k : Int) ∧ (k : Int) < (yI.length : Int); omega) (fun zz hzz => ?_)
    replace hzz : yI[k]? = some zz := hzz
    rw [hw] at hzz
    cases hzz
    have hI2 := hI u4 v4 (some (.var u3)) (some (.var v3)) hv
    obtain ⟨b, hb⟩ : ∃ b, b = decide (u4 = v4) := ⟨_, rfl⟩
    rw [← hb] at hI2 hq
    clear hb
    cbv
    refine CallP.pure _ hI2 rfl ?_
    cbv
    refine SplitP.mk (fun h7 => ?_) (fun h7 => ?_)
    · have h8 : b = false := by simpa using (show (!b) = true from h7)
      refine .mk (.cons (.eq (.bool ?_)) .nil) rfl
      rw [BE.lit_d, BE.var_d]
      rw [hq, h8]; rfl
    have h8 : b = true := by simpa using (show (!b) = false from h7)
    refine BackP.intro (k + 1) ⟨by omega, by rw [hq, h8, Bool.true_and]⟩ (by show ni - (k + 1) < ni - k; omega) ⟨?_, HEnt.refl _, rfl⟩
    (cbv; (repeat' (first | exact SnD.refl _ | exact trivial | exact SnD.nat0 | refine And.intro ?_ ?_)))
    exact .inc (by omega)
  have hkn : xI.length ≤ k := by
    have h5 : decide ((k : Int) < (xI.length : Int)) = false := hs
    have := of_decide_eq_false h5
    omega
  clear hs
  rw [List.drop_of_length_le (by omega), List.drop_of_length_le (by omega), gi0, Bool.true_and] at hq
  clear hr
  refine CodeP.loopc hT hm (X := Nat) (fun k => [(6, .int .i64 (.nat k))]) (fun k => k ≤ xC.length ∧ r = (gc (xC.drop k) (yC.drop k) && gs xS yS)) (fun k => nc - k) 0 ⟨by simp, hq⟩ (Nat.zero_le _) ?_ rfl ?_
  · (cbv; (repeat' (first | exact SnD.refl _ | exact trivial | exact SnD.nat0 | refine And.intro ?_ ?_)))
  clear hq hk hkn
  intro k ⟨hk, hq⟩
  cbv
  refine SplitP.mk (fun hs => ?_) (fun hs => ?_)
  · have hkn : k < xC.length := by
      have h5 : decide ((k : Int) < (xC.length : Int)) = true := hs
      have := of_decide_eq_true h5
      omega
    clear hs
    refine ElemP.mk (by show (0 : Int) ≤ (k : Int) ∧ (k : Int) < (xC.length : Int); omega) (fun u hu => ?_)
    replace hu : xC[k]? = some u := hu
    have hv := hCl u (List.mem_of_getElem? hu)
    rw [drop_cons hu] at hq
    obtain ⟨u1, u2⟩ := u
    simp only at hv
    cbv
    refine ElemP.mk (by show (0 : Int) ≤ (k : Int) ∧ (k : Int) < (yC.length : Int); omega) (fun v hw => ?_)
    replace hw : yC[k]? = some v := hw
    rw [drop_cons hw] at hq
    obtain ⟨v1, v2⟩ := v
    rw [gc1] at hq
    have hI2 := hI u2 v2 (some (.var u1)) (some (.var v1)) hv
    obtain ⟨b, hb⟩ : ∃ b, b = decide (u2 = v2) := ⟨_, rfl⟩
    rw [← hb] at hI2 hq
    clear hb
    cbv
    refine CallP.pure _ hI2 rfl ?_
    cbv
    refine SplitP.mk (fun h7 => ?_) (fun h7 => ?_)
    · have h8 : b = false := by simpa using (show (!b) = true from h7)
      refine .mk (.cons (.eq (.bool ?_)) .nil) rfl
      rw [BE.lit_d, BE.var_d]
      rw [hq, h8]; rfl
    have h8 : b = true := by simpa using (show (!b) = false from h7)
    refine BackP.intro (k + 1) ⟨by omega, by rw [hq, h8, Bool.true_and]⟩ (by show nc - (k + 1) < nc - k; omega) ⟨?_, HEnt.refl _, rfl⟩
    (cbv; (repeat' (first | exact SnD.refl _ | exact trivial | exact SnD.nat0 | refine And.intro ?_ ?_)))
    exact .inc (by omega)
  have hkn : xC.length ≤ k := by
    have h5 : decide ((k : Int) < (xC.length : Int)) = false := hs
    have := of_decide_eq_false h5
    omega
  clear hs
  rw [List.drop_of_length_le (by omega), List.drop_of_length_le (by omega), gc0, Bool.true_and] at hq
  refine CodeP.loopc hT hm (X := Nat) (fun k => [(7, .int .i64 (.nat k))]) (fun k => k ≤ xS.length ∧ r = gs (xS.drop k) (yS.drop k)) (fun k => ns - k) 0 ⟨by simp, hq⟩ (Nat.zero_le _) ?_ rfl ?_
  · (cbv; (repeat' (first | exact SnD.refl _ | exact trivial | exact SnD.nat0 | refine And.intro ?_ ?_)))
  clear hq hk hkn
  intro k ⟨hk, hq⟩
  cbv
  refine SplitP.mk (fun hs => ?_) (fun hs => ?_)
  · have hkn : k < xS.length := by
      have h5 : decide ((k : Int) < (xS.length : Int)) = true := hs
      have := of_decide_eq_true h5
      omega
    clear hs
    refine ElemP.mk (by show (0 : Int) ≤ (k : Int) ∧ (k : Int) < (xS.length : Int); omega) (fun u hu => ?_)
    replace hu : xS[k]? = some u := hu
    have hv := hSi u (List.mem_of_getElem? hu)
    rw [drop_cons hu] at hq
    obtain ⟨u1, ut, ⟨u2, u3, u4, u5, u6, u7⟩⟩ := u
    cbv
    refine ElemP.mk (by show (0 : Int) ≤ (k : Int) ∧ (k : Int) < (yS.length : Int); omega) (fun v hw => ?_)
    replace hw : yS[k]? = some v := hw
    have hv := hv v
    rw [drop_cons hw, gs1] at hq
    obtain ⟨v1, vt, ⟨v2, v3, v4, v5, v6, v7⟩⟩ := v
    obtain ⟨b, hb⟩ : ∃ b, b = es ⟨u1, ut, ⟨u2, u3, u4, u5, u6, u7⟩⟩ ⟨v1, vt, ⟨v2, v3, v4, v5, v6, v7⟩⟩ := ⟨_, rfl⟩
    rw [← hb] at hv hq
    clear hb
    cbv
    refine CallP.pure _ hv rfl ?_
    cbv
    refine SplitP.mk (fun h7 => ?_) (fun h7 => ?_)
    · have h8 : b = false := by simpa using (show (!b) = true from h7)
      refine .mk (.cons (.eq (.bool ?_)) .nil) rfl
      rw [BE.lit_d, BE.var_d]
      rw [hq, h8]; rfl
    have h8 : b = true := by simpa using (show (!b) = false from h7)
    refine BackP.intro (k + 1) ⟨by omega, by rw [hq, h8, Bool.true_and]⟩ (by show ns - (k + 1) < ns - k; omega) ⟨?_, HEnt.refl _, rfl⟩
    (cbv; (repeat' (first | exact SnD.refl _ | exact trivial | exact SnD.nat0 | refine And.intro ?_ ?_)))
    exact .inc (by omega)
  have hkn : xS.length ≤ k := by
    have h5 : decide ((k : Int) < (xS.length : Int)) = false := hs
    have := of_decide_eq_false h5
    omega
  clear hs
  rw [List.drop_of_length_le (by omega), List.drop_of_length_le (by omega), gs0] at hq
  refine .mk (.cons (.eq (.bool ?_)) .nil) rfl
  rw [BE.lit_d, BE.var_d]
  exact hq.symm
end Go.Proofs.YtaopkjgldokahaaGreatDoor
namespace Go.Proofs.YtaopkjgldokahaaGreatDoor
open Go.RowKit

/-! The program's Check, New, Extend, Add, Issue, After. -/
def checkA (a : AccountD) : Bool := coalsB a.coal && (checkB a.issued (viewsL a.sights) && (a.sights.all verB && setsEqB a.sets (setsL a.issued a.sights a.coal)))
theorem AccountD.big.bigV {a : AccountD} (h : a.big) : BigV a.sights := ⟨h.sf, h.sv⟩
theorem any_notB {α : Type} (p : α → Bool) (l : List α) : (l.any fun x => !p x) = !l.all p := by
  rw [List.not_all_eq_any_not]
set_option maxRecDepth 100000 in
set_option maxHeartbeats 4000000 in
theorem Check31_pure (a : AccountD) (hb : a.big) (hl : a.sights.length ≤ 1000) : Pure Tryz.prog 16 [.agg a.c] (i64 (if checkA a then 0 else 310)) := by
  have h1 := coals_pure a.coal (some (.var a.nc)) hb.coal hb.cl
  have h2 := views_pure a.sights (some (.var a.ns)) (by omega)
  have h3 := Check_pure a.issued (viewsL a.sights) (some (.var a.ni)) none hb.iss (views_big hb.bigV (by omega))
  have h4 := HasV_pure a.sights (some (.var a.ns)) hb.si
  rw [any_notB] at h4
  have h5 := fun h : coalsB a.coal = true => sets_pure a hb.iss hb.bigV hl (by simp only [coalsB, Bool.and_eq_true, decide_eq_true_eq] at h; omega) hb.cl
  have h6 := fun nb => sameSets_pure a.sets (setsL a.issued a.sights a.coal) (some (.var a.nz)) nb hb.sets hb.gl
  obtain ⟨r, hr⟩ : ∃ r, r = checkA a := ⟨_, rfl⟩
  rw [← hr]
  unfold checkA at hr
  obtain ⟨b1, e1⟩ : ∃ b, b = coalsB a.coal := ⟨_, rfl⟩
  obtain ⟨b2, e2⟩ : ∃ b, b = checkB a.issued (viewsL a.sights) := ⟨_, rfl⟩
  obtain ⟨b3, e3⟩ : ∃ b, b = a.sights.all verB := ⟨_, rfl⟩
  obtain ⟨b4, e4⟩ : ∃ b, b = setsEqB a.sets (setsL a.issued a.sights a.coal) := ⟨_, rfl⟩
  rw [← e1] at h1 h5 hr
  rw [← e2] at h3 hr
  rw [← e3] at h4 hr
  rw [← e4] at h6 hr
  clear e1 e2 e3 e4 hb hl
  obtain ⟨W, eW⟩ : ∃ W, W = viewsL a.sights := ⟨_, rfl⟩
  rw [← eW] at h2 h3
  obtain ⟨Q, eQ⟩ : ∃ Q, Q = setsL a.issued a.sights a.coal := ⟨_, rfl⟩
  rw [← eQ] at h5 h6
  obtain ⟨qe, eqe⟩ : ∃ Q, Q = a.coal.isEmpty := ⟨_, rfl⟩
  rw [← eqe] at h5
  obtain ⟨c, ec⟩ : ∃ c : Int, c = if r then 0 else 310 := ⟨_, rfl⟩
  rw [← ec]
  obtain ⟨c2, ec2⟩ : ∃ c : Int, c = if b2 then 0 else 300 := ⟨_, rfl⟩
  rw [← ec2] at h3
  clear eW eQ eqe
  have bad : r = false → (310 : Int) = c := fun h => by rw [ec, h]; rfl
  have good : r = true → (0 : Int) = c := fun h => by rw [ec, h]; rfl
  obtain ⟨ai, aI, ac, C, as_, S, az, Z⟩ := a
  simp only at h1 h2 h3 h4 h5 h6
  refine Pure.intro (want := [i64 c]) T_ok follows Tryz.func16 rfl (by kernel_rfl) (rs := [.tmp 2]) rfl (by kernel_rfl) ?_
  generalize hP : Tryz.prog = P at *
  have hT : T.ok P := hP ▸ T_ok
  have hm : P.follows .mixedOrders = true := hP ▸ follows
  unfold Tryz.f16
  dsimp only
  cbv
  first
    | refine CallP.pure _ (h1) rfl ?_
    | refine PureP.mk _ (h1) rfl ?_
  cbv
  refine SplitP.mk (fun hs => ?_) (fun hs => ?_)
  · have q : b1 = false := by simpa using (show (!b1) = true from hs)
    refine .mk (.cons (.eq (.int ?_)) .nil) rfl
    rw [IE.lit_d, IE.var_d]
    exact bad (by rw [hr, q]; rfl)
  have q1 : b1 = true := by simpa using (show (!b1) = false from hs)
  replace h5 := h5 q1
  clear hs
  first
    | refine CallP.pure _ (h2) rfl ?_
    | refine PureP.mk _ (h2) rfl ?_
  cbv
  first
    | refine CallP.pure _ (h3) rfl ?_
    | refine PureP.mk _ (h3) rfl ?_
  cbv
  refine SplitP.mk (fun hs => ?_) (fun hs => ?_)
  · have h7 : (c2 != 0) = true := hs
    have q : b2 = false := by
      rw [ec2] at h7
      cases b2 with
      | false => rfl
      | true => cases h7
    refine .mk (.cons (.eq (.int ?_)) .nil) rfl
    rw [IE.lit_d, IE.var_d]
    exact bad (by rw [hr, q1, q]; rfl)
  have q2 : b2 = true := by
    have h7 : (c2 != 0) = false := hs
    rw [ec2] at h7
    cases b2 with
    | false => cases h7
    | true => rfl
  clear hs
  first
    | refine CallP.pure _ (h4) rfl ?_
    | refine PureP.mk _ (h4) rfl ?_
  cbv
  refine SplitP.mk (fun hs => ?_) (fun hs => ?_)
  · have q : b3 = false := by simpa using (show (!b3) = true from hs)
    refine .mk (.cons (.eq (.int ?_)) .nil) rfl
    rw [IE.lit_d, IE.var_d]
    exact bad (by rw [hr, q1, q2, q]; rfl)
  have q3 : b3 = true := by simpa using (show (!b3) = false from hs)
  clear hs
  first
    | refine CallP.pure _ (h5) rfl ?_
    | refine PureP.mk _ (h5) rfl ?_
  cbv
  first
    | refine CallP.pure _ ((h6 _)) rfl ?_
    | refine PureP.mk _ ((h6 _)) rfl ?_
  cbv
  refine SplitP.mk (fun hs => ?_) (fun hs => ?_)
  · have q : b4 = false := by simpa using (show (!b4) = true from hs)
    refine .mk (.cons (.eq (.int ?_)) .nil) rfl
    rw [IE.lit_d, IE.var_d]
    exact bad (by rw [hr, q1, q2, q3, q]; rfl)
  have q4 : b4 = true := by simpa using (show (!b4) = false from hs)
  refine .mk (.cons (.eq (.int ?_)) .nil) rfl
  rw [IE.lit_d, IE.var_d]
  exact good (by rw [hr, q1, q2, q3, q4]; rfl)
theorem acct_eq {a b c d a' b' c' d' : D} (h1 : DEq a a') (h2 : DEq b b') (h3 : DEq c c') (h4 : DEq d d') : DEq (.agg [a, b, c, d]) (.agg [a', b', c', d']) :=
  .aggs rfl fun i x x' q1 q2 => by
    match i with
    | 0 => cases q1; cases q2; exact h1
    | 1 => cases q1; cases q2; exact h2
    | 2 => cases q1; cases q2; exact h3
    | 3 => cases q1; cases q2; exact h4
    | i + 4 => simp at q1
abbrev zeroA : AccountD := ⟨true, [], true, [], true, [], true, []⟩
theorem zeroA_ret {H : List Bk} {x : AccountD} {e : Int} {re : IE} (h : x = zeroA ∧ e = re.den) : RetP H [.agg [.nils, .nils, .nils, .nils], .int .i64 re] [.agg x.c, i64 e] := by
  obtain ⟨rfl, rfl⟩ := h
  exact .mk (.cons (.eq (acct_eq (.nilv rfl rfl) (.nilv rfl rfl) (.nilv rfl rfl) (.nilv rfl rfl))) (.cons (.eq (.int rfl)) .nil)) rfl
def newE (I : List IssuedD) (C : List CoalD) : Int := if coalsB C then (if checkB I [] then 0 else 300) else 310
def newA (ni : Bool) (I : List IssuedD) (nc : Bool) (C : List CoalD) : AccountD := if newE I C = 0 then ⟨ni, I, nc, C, true, [], C.isEmpty, setsL I [] C⟩ else zeroA
set_option maxRecDepth 100000 in
set_option maxHeartbeats 4000000 in
theorem New_pure (ni : Bool) (I : List IssuedD) (nc : Bool) (C : List CoalD) (hi : ni = true → I = []) (hc : nc = true → C = []) (hI : BigI I) (hC : C.length < 9223372036854775807) (hcl : ∀ x ∈ C, x.l.length < 9223372036854775807) :
    Pure Tryz.prog 9 [.slm 3 (some (.var ni)) IssuedD.c I, .slm 1 (some (.var nc)) CoalD.c C] (.tup [.agg (newA ni I nc C).c, i64 (newE I C)]) := by
  have h1 := coals_pure C (some (.var nc)) hC hcl
  have h2 := Check_pure I [] (some (.var ni)) none hI ⟨by simp, by simp, by simp⟩
  have h3 := fun h : checkB I [] = true => CloneI_pure I ni hi (by simp only [checkB, Bool.and_eq_true, decide_eq_true_eq] at h; omega)
  have h4 := fun h : coalsB C = true => CloneC_pure C nc hc (by simp only [coalsB, Bool.and_eq_true, decide_eq_true_eq] at h; omega)
  have h5 := fun h : coalsB C = true => sets_pure ⟨ni, I, nc, C, true, [], true, []⟩ hI ⟨by simp, by simp⟩ (by simp) (by simp only [coalsB, Bool.and_eq_true, decide_eq_true_eq] at h; simp only; omega) hcl
  obtain ⟨b1, e1⟩ : ∃ b, b = coalsB C := ⟨_, rfl⟩
  obtain ⟨b2, e2⟩ : ∃ b, b = checkB I [] := ⟨_, rfl⟩
  obtain ⟨e, he⟩ : ∃ e, e = newE I C := ⟨_, rfl⟩
  obtain ⟨x, hx⟩ : ∃ e, e = newA ni I nc C := ⟨_, rfl⟩
  rw [← he, ← hx]
  unfold newA at hx
  rw [← he] at hx
  unfold newE at he
  rw [← e1] at h1 h4 h5 he
  rw [← e2] at h2 h3 he
  simp only at h5
  obtain ⟨Q, eQ⟩ : ∃ Q, Q = setsL I [] C := ⟨_, rfl⟩
  rw [← eQ] at h5 hx
  obtain ⟨qe, eqe⟩ : ∃ Q, Q = C.isEmpty := ⟨_, rfl⟩
  rw [← eqe] at h5 hx
  have r1 : b1 = false → x = zeroA ∧ e = 310 := fun h => by rw [h] at he; rw [hx, he]; exact ⟨rfl, rfl⟩
  have r2 : b1 = true → b2 = false → x = zeroA ∧ e = 300 := fun h h' => by rw [h, h'] at he; rw [hx, he]; exact ⟨rfl, rfl⟩
  have r3 : b1 = true → b2 = true → x = ⟨ni, I, nc, C, true, [], qe, Q⟩ ∧ e = 0 := fun h h' => by rw [h, h'] at he; rw [hx, he]; exact ⟨rfl, rfl⟩
  obtain ⟨c2, ec2⟩ : ∃ c : Int, c = if b2 then 0 else 300 := ⟨_, rfl⟩
  rw [← ec2] at h2
  clear e1 e2 he hx eQ eqe hI hcl hC hi hc
  refine Pure.intro (want := [.agg x.c, i64 e]) T_ok follows Tryz.func9 rfl (by kernel_rfl) (rs := [.cell 4 27, .tmp 5]) rfl (by kernel_rfl) ?_
  generalize hP : Tryz.prog = P at *
  have hT : T.ok P := hP ▸ T_ok
  have hm : P.follows .mixedOrders = true := hP ▸ follows
  unfold Tryz.f9
  dsimp only
  cbv
  first
    | refine CallP.pure _ (h1) rfl ?_
    | refine PureP.mk _ (h1) rfl ?_
  cbv
  refine SplitP.mk (fun hs => ?_) (fun hs => ?_)
  · have q : b1 = false := by simpa using (show (!b1) = true from hs)
    exact zeroA_ret (r1 q)
  have q1 : b1 = true := by simpa using (show (!b1) = false from hs)
  replace h4 := h4 q1
  replace h5 := h5 q1
  replace r2 := r2 q1
  replace r3 := r3 q1
  clear hs r1
  refine CallP.pure _ (Pure.args (.cons (.refl _) (.cons (.nil0 rfl) .nil)) h2) rfl ?_
  cbv
  refine SplitP.mk (fun hs => ?_) (fun hs => ?_)
  · have h7 : (c2 != 0) = true := hs
    have q : b2 = false := by
      rw [ec2] at h7
      cases b2 with
      | false => rfl
      | true => cases h7
    refine zeroA_ret ⟨(r2 q).1, ?_⟩
    rw [(r2 q).2]
    show (300 : Int) = c2
    rw [ec2, q]; rfl
  have q2 : b2 = true := by
    have h7 : (c2 != 0) = false := hs
    rw [ec2] at h7
    cases b2 with
    | false => cases h7
    | true => rfl
  replace h3 := h3 q2
  obtain ⟨rfl, rfl⟩ := r3 q2
  clear hs r2
  first
    | refine CallP.pure _ (h3) rfl ?_
    | refine PureP.mk _ (h3) rfl ?_
  cbv
  first
    | refine CallP.pure _ (h4) rfl ?_
    | refine PureP.mk _ (h4) rfl ?_
  cbv
  refine CallP.pure _ (Pure.args (.cons (acct_eq (.refl _) (.refl _) (.nilv rfl rfl) (.nilv rfl rfl)) .nil) h5) rfl ?_
  cbv
  exact .mk (.cons (.eq (acct_eq (.refl _) (.refl _) (.nilv rfl rfl) (.refl _))) (.cons (.eq (.int rfl)) .nil)) rfl
end Go.Proofs.YtaopkjgldokahaaGreatDoor
namespace Go.Proofs.YtaopkjgldokahaaGreatDoor
open Go.RowKit

/-! The program's Extend, Add, After. -/
def extE (a : AccountD) (s : SightD) : Int := if verB s then (if 16 ≤ a.sights.length then 2 else if checkB a.issued (viewsL (a.sights ++ [s])) then 0 else 300) else 310
def extA (a : AccountD) (s : SightD) : AccountD := if extE a s = 0 then ⟨a.ni, a.issued, a.nc, a.coal, false, a.sights ++ [s], a.coal.isEmpty, setsL a.issued (a.sights ++ [s]) a.coal⟩ else zeroA
theorem CloneS_new (l : List SightD) (hl : l.length ≤ 100000) : CallP Tryz.prog 55 [.slm 37 (some (.var false)) SightD.c l] [] fun d1 H1 => d1 = .osl 37 0 2 (.lit false) (.lit 0) (.len l) ∧ H1 = [.row 34 37 2 (.apps (.lits []) (.map SightD.c l))] := by
  generalize hP : Tryz.prog = P
  have hT : T.ok P := hP ▸ T_ok
  have hm : P.follows .mixedOrders = true := hP ▸ follows
  refine (CallP.inl hT hm (hP ▸ Tryz.func55) rfl (by kernel_rfl) (rs := [.tmp 2]) rfl (by kernel_rfl) ?_)
  unfold Tryz.f55
  dsimp only
  cbv
  refine SplitP.mk (fun hs => ?_) (fun hs => ?_) <;> simp only [BE.lss_t, BE.lss_f, BE.leq_t, BE.leq_f, BE.gtr_t, BE.gtr_f, BE.geq_t, BE.geq_f, BE.eql_t, BE.eql_f, BE.neq_t, BE.neq_f, BE.not_t, BE.not_f, BE.var_d, BE.lit_d, BE.seq_t, BE.seq_f, BE.beq_t, BE.beq_f, IE.var_d, IE.lit_d, IE.nat_d, IE.len_d, IE.sum_d, IE.u8_d, ncast, Int.ofNat_lt, Int.ofNat_le, Int.ofNat_inj] at hs
  · cases hs
  refine ReqP.mk ⟨by simp [IE.den, RE.den], rfl, map_cells (fun _ => rfl), (by intro e he; cases he), by show (0 : Int) + (l.length : Int) ≤ 9223372036854775807; omega, by show ((0 : Int) + (l.length : Int)) * ((104 : Nat) : Int) ≤ 140737488355328; omega⟩ (fun _ => ?_)
  cbv
theorem CloneS_nil (l : List SightD) (hl : l = []) : Pure Tryz.prog 55 [.slm 37 (some (.var true)) SightD.c l] .nils := by
  refine Pure.intro (want := [.nils]) T_ok follows Tryz.func55 rfl (by kernel_rfl) (rs := [.tmp 2]) rfl (by kernel_rfl) ?_
  generalize hP : Tryz.prog = P
  have hT : T.ok P := hP ▸ T_ok
  have hm : P.follows .mixedOrders = true := hP ▸ follows
  unfold Tryz.f55
  dsimp only
  cbv
  refine SplitP.mk (fun hs => ?_) (fun hs => ?_) <;> simp only [BE.lss_t, BE.lss_f, BE.leq_t, BE.leq_f, BE.gtr_t, BE.gtr_f, BE.geq_t, BE.geq_f, BE.eql_t, BE.eql_f, BE.neq_t, BE.neq_f, BE.not_t, BE.not_f, BE.var_d, BE.lit_d, BE.seq_t, BE.seq_f, BE.beq_t, BE.beq_f, IE.var_d, IE.lit_d, IE.nat_d, IE.len_d, IE.sum_d, IE.u8_d, ncast, Int.ofNat_lt, Int.ofNat_le, Int.ofNat_inj] at hs
  · exact .mk (SnDs.refl _) rfl
  · cases hs
set_option maxRecDepth 100000 in
set_option maxHeartbeats 4000000 in
theorem Extend_pure (a : AccountD) (s : SightD) (hb : a.big) (hl : a.sights.length ≤ 1000) (hC : a.coal.length ≤ 1000000) (hn : a.ns = true → a.sights = []) (hf : s.seen.fields.length < 9223372036854775807) (hv : s.seen.values.length < 9223372036854775807) :
    Pure Tryz.prog 34 [.agg a.c, .agg s.c] (.tup [.agg (extA a s).c, i64 (extE a s)]) := by
  have hbv : BigV (a.sights ++ [s]) := ⟨fun x hx => by
    rcases List.mem_append.1 hx with q | q
    · exact hb.sf x q
    · rw [List.mem_singleton.1 q]; exact hf, fun x hx => by
    rcases List.mem_append.1 hx with q | q
    · exact hb.sv x q
    · rw [List.mem_singleton.1 q]; exact hv⟩
  have hlx : (a.sights ++ [s]).length = a.sights.length + 1 := by simp
  have h1 := verOK_pure s
  have h2 := views_pure (a.sights ++ [s]) (some (.lit false)) (by omega)
  have h3 := Check_pure a.issued (viewsL (a.sights ++ [s])) (some (.var a.ni)) none hb.iss (views_big hbv (by omega))
  have h4 := fun h : a.sights.length < 16 => sets_pure ⟨a.ni, a.issued, a.nc, a.coal, false, a.sights ++ [s], true, []⟩ hb.iss hbv (by simp only; omega) hC hb.cl
  have hcn := CloneS_new a.sights (by omega)
  have hcz := fun h => CloneS_nil a.sights (hn h)
  obtain ⟨e, he⟩ : ∃ e, e = extE a s := ⟨_, rfl⟩
  obtain ⟨x, hx⟩ : ∃ e, e = extA a s := ⟨_, rfl⟩
  rw [← he, ← hx]
  unfold extA at hx
  rw [← he] at hx
  unfold extE at he
  obtain ⟨b1, e1⟩ : ∃ b, b = verB s := ⟨_, rfl⟩
  obtain ⟨b2, e2⟩ : ∃ b, b = checkB a.issued (viewsL (a.sights ++ [s])) := ⟨_, rfl⟩
  rw [← e1] at h1 he
  rw [← e2] at h3 he
  have hSXc : (a.sights ++ [s]).map SightD.c = a.sights.map SightD.c ++ [s.c] := by simp
  simp only at h4
  obtain ⟨SX, hSX⟩ : ∃ l, l = a.sights ++ [s] := ⟨_, rfl⟩
  rw [← hSX] at h2 h3 h4 hlx hSXc hx
  obtain ⟨W, eW⟩ : ∃ W, W = viewsL SX := ⟨_, rfl⟩
  rw [← eW] at h2 h3
  obtain ⟨Q, eQ⟩ : ∃ Q, Q = setsL a.issued SX a.coal := ⟨_, rfl⟩
  rw [← eQ] at h4 hx
  obtain ⟨qe, eqe⟩ : ∃ Q, Q = a.coal.isEmpty := ⟨_, rfl⟩
  rw [← eqe] at h4 hx
  have hSXl : (SX.length : Int) = (a.sights.length : Int) + 1 := by rw [hlx]; simp
  have r1 : b1 = false → x = zeroA ∧ e = 310 := fun h => by rw [h] at he; rw [hx, he]; exact ⟨rfl, rfl⟩
  have r2 : b1 = true → 16 ≤ a.sights.length → x = zeroA ∧ e = 2 := fun h h' => by rw [h, if_pos rfl, if_pos h'] at he; rw [hx, he]; exact ⟨rfl, rfl⟩
  have r3 : b1 = true → a.sights.length < 16 → b2 = false → x = zeroA ∧ e = 300 := fun h h' h2 => by rw [h, if_pos rfl, if_neg (by omega), h2] at he; rw [hx, he]; exact ⟨rfl, rfl⟩
  have r4 : b1 = true → a.sights.length < 16 → b2 = true → x = ⟨a.ni, a.issued, a.nc, a.coal, false, SX, qe, Q⟩ ∧ e = 0 := fun h h' h2 => by rw [h, if_pos rfl, if_neg (by omega), h2] at he; rw [hx, he]; exact ⟨rfl, rfl⟩
  obtain ⟨c2, ec2⟩ : ∃ c : Int, c = if b2 then 0 else 300 := ⟨_, rfl⟩
  rw [← ec2] at h3
  clear hbv e1 e2 he hx eQ eqe eW hSX hb hC hf hv
  obtain ⟨ai, aI, ac, C, as_, S, az, Z⟩ := a
  obtain ⟨v, tk, ⟨y1, y2, y3, y4, y5, y6⟩⟩ := s
  simp only at h2 h3 h4 hcn hcz hn hl hlx hSXc hSXl r2 r3 r4
  have e : (.tup [.agg x.c, i64 e] : D) = retD [.agg x.c, i64 e] := rfl
  rw [e]
  refine Pure.introC T_ok Tryz.func34 rfl (by kernel_rfl) (rs := [.cell 4 27, .tmp 5]) rfl (by kernel_rfl) ?_
  generalize hP : Tryz.prog = P at *
  have hT : T.ok P := hP ▸ T_ok
  have hm : P.follows .mixedOrders = true := hP ▸ follows
  unfold Tryz.f34
  dsimp only
  refine CodeP.seq (vc_sound hT hm _ ?_)
  cbv
  refine CodeP.seq (vc_sound hT hm _ ?_)
  cbv
  first
    | refine CallP.pure _ (h1) rfl ?_
    | refine PureP.mk _ (h1) rfl ?_
  cbv
  refine SplitP.mk (fun hs => ?_) (fun hs => ?_)
  · have q : b1 = false := by simpa using (show (!b1) = true from hs)
    exact zeroA_ret (r1 q)
  have q1 : b1 = true := by simpa using (show (!b1) = false from hs)
  replace r2 := r2 q1
  replace r3 := r3 q1
  replace r4 := r4 q1
  clear hs r1 q1
  refine CodeP.seq (vc_sound hT hm _ ?_)
  cbv
  refine SplitP.mk (fun hs => ?_) (fun hs => ?_)
  · have q : 16 ≤ S.length := by have := of_decide_eq_true (show decide ((S.length : Int) ≥ 16) = true from hs); omega
    exact zeroA_ret (r2 q)
  have q2 : S.length < 16 := by have := of_decide_eq_false (show decide ((S.length : Int) ≥ 16) = false from hs); omega
  replace r3 := r3 q2
  replace r4 := r4 q2
  replace h4 := h4 q2
  clear hs r2
  refine CodeP.seqTo [(2, .ptr 0 1 0), (3, .ptr 1 1 0), (4, .ptr 2 1 0), (6, .slm 37 (some (.lit false)) SightD.c SX)]
    [.cells [.slm 3 (some (.var ai)) IssuedD.c aI, .slm 1 (some (.var ac)) CoalD.c C, .slm 37 (some (.var as_)) SightD.c S, .slm 1 (some (.var az)) GrpsD.c Z], .cells (SightD.c ⟨v, tk, ⟨y1, y2, y3, y4, y5, y6⟩⟩), .cells [.nils, .nils, .nils, .nils]] (Nat.zero_le _) (vc_sound hT hm _ ?_) ?_
  · cases as_
    · cbv
      refine .newD hcn rfl (by decide) ?_
      cbv
      refine ReqP.mk ⟨rfl, by simp [IE.den, RE.den], (by intro e he; simp only [RE.den, List.mem_singleton] at he; subst he; rfl), (by intro e he; simp only [RE.den, List.nil_append, List.mem_map] at he; obtain ⟨x, _, rfl⟩ := he; rfl), by show (S.length : Int) + 1 ≤ _; omega, by show ((S.length : Int) + 1) * ((104 : Nat) : Int) ≤ _; omega⟩ (fun _ => ?_)
      refine ⟨⟨.refl _, .refl _, .refl _, .slm rfl (.inl ⟨_, _, rfl, by simp [RE.den]; simpa using hSXc.symm⟩) rfl (by simp only [IE.den]; exact hSXl.symm) (fun e h => by cases h; rfl), trivial⟩, ⟨.refl _, .refl _, .refl _, trivial⟩, rfl⟩
    · cbv
      refine .mk .nils (hcz rfl) rfl ?_
      cbv
      have hS0 := hn rfl
      subst hS0
      refine ⟨⟨.refl _, .refl _, .refl _, .slm rfl (.inl ⟨_, _, rfl, by simp [RE.den]; simpa using hSXc.symm⟩) rfl (by simp only [IE.den]; exact hSXl.symm) (fun e h => by cases h; rfl), trivial⟩, ⟨.refl _, .refl _, .refl _, trivial⟩, rfl⟩
  refine CodeP.seq (vc_sound hT hm _ ?_)
  cbv
  first
    | refine CallP.pure _ (h2) rfl ?_
    | refine PureP.mk _ (h2) rfl ?_
  cbv
  first
    | refine CallP.pure _ (h3) rfl ?_
    | refine PureP.mk _ (h3) rfl ?_
  cbv
  refine SplitP.mk (fun hs => ?_) (fun hs => ?_)
  · have h7 : (c2 != 0) = true := hs
    have q : b2 = false := by
      rw [ec2] at h7
      cases b2 with
      | false => rfl
      | true => cases h7
    refine zeroA_ret ⟨(r3 q).1, ?_⟩
    rw [(r3 q).2]
    show (300 : Int) = c2
    rw [ec2, q]; rfl
  have q2 : b2 = true := by
    have h7 : (c2 != 0) = false := hs
    rw [ec2] at h7
    cases b2 with
    | false => cases h7
    | true => rfl
  obtain ⟨rfl, rfl⟩ := r4 q2
  clear hs r3 r4
  refine vc_sound hT hm _ ?_
  cbv
  refine CallP.pure _ (Pure.args (.cons (acct_eq (.refl _) (.refl _) (.slmb (e' := .var false) rfl rfl) (.nilv (e := .var true) rfl rfl)) .nil) h4) rfl ?_
  cbv
  exact .mk (.cons (.eq (acct_eq (.refl _) (.refl _) (.slmb (e' := .var false) rfl rfl) (.refl _))) (.cons (.eq (.int rfl)) .nil)) rfl
def addE (a : AccountD) (s : SightD) : Int := if checkA a then extE a s else 310
def addA (a : AccountD) (s : SightD) : AccountD := if checkA a then extA a s else zeroA
set_option maxRecDepth 100000 in
set_option maxHeartbeats 4000000 in
theorem Add_pure (a : AccountD) (s : SightD) (hb : a.big) (hl : a.sights.length ≤ 1000) (hn : a.ns = true → a.sights = []) (hf : s.seen.fields.length < 9223372036854775807) (hv : s.seen.values.length < 9223372036854775807) :
    Pure Tryz.prog 11 [.agg a.c, .agg s.c] (.tup [.agg (addA a s).c, i64 (addE a s)]) := by
  have h1 := Check31_pure a hb hl
  have h2 := fun h : checkA a = true => Extend_pure a s hb hl (by simp only [checkA, coalsB, Bool.and_eq_true, decide_eq_true_eq] at h; omega) hn hf hv
  obtain ⟨e, he⟩ : ∃ e, e = addE a s := ⟨_, rfl⟩
  obtain ⟨x, hx⟩ : ∃ e, e = addA a s := ⟨_, rfl⟩
  rw [← he, ← hx]
  unfold addA at hx
  unfold addE at he
  obtain ⟨xe, hxe⟩ : ∃ e, e = extE a s := ⟨_, rfl⟩
  obtain ⟨xa, hxa⟩ : ∃ e, e = extA a s := ⟨_, rfl⟩
  rw [← hxe] at he h2
  rw [← hxa] at hx h2
  obtain ⟨b, hbb⟩ : ∃ b, b = checkA a := ⟨_, rfl⟩
  rw [← hbb] at h1 h2 hx he
  obtain ⟨c, hc⟩ : ∃ c : Int, c = if b then 0 else 310 := ⟨_, rfl⟩
  rw [← hc] at h1
  have r1 : b = false → x = zeroA ∧ e = c := fun h => by rw [h] at hx he hc; rw [hx, he, hc]; exact ⟨rfl, rfl⟩
  have r2 : b = true → x = xa ∧ e = xe := fun h => by rw [h] at hx he; rw [hx, he]; exact ⟨rfl, rfl⟩
  clear hx he hbb hxe hxa hb hl hn hf hv
  obtain ⟨ai, aI, ac, C, as_, S, az, Z⟩ := a
  obtain ⟨v, tk, ⟨y1, y2, y3, y4, y5, y6⟩⟩ := s
  obtain ⟨x1, x2, x3, x4, x5, x6, x7, x8⟩ := xa
  refine Pure.intro (want := [.agg x.c, i64 e]) T_ok follows Tryz.func11 rfl (by kernel_rfl) (rs := [.cell 4 27, .tmp 5]) rfl (by kernel_rfl) ?_
  generalize hP : Tryz.prog = P at *
  have hT : T.ok P := hP ▸ T_ok
  have hm : P.follows .mixedOrders = true := hP ▸ follows
  unfold Tryz.f11
  dsimp only
  cbv
  first
    | refine CallP.pure _ (h1) rfl ?_
    | refine PureP.mk _ (h1) rfl ?_
  cbv
  refine SplitP.mk (fun hs => ?_) (fun hs => ?_)
  · have h7 : (c != 0) = true := hs
    have q : b = false := by
      rw [hc] at h7
      cases b with
      | false => rfl
      | true => cases h7
    exact zeroA_ret (r1 q)
  have q : b = true := by
    have h7 : (c != 0) = false := hs
    rw [hc] at h7
    cases b with
    | false => cases h7
    | true => rfl
  obtain ⟨rfl, rfl⟩ := r2 q
  first
    | refine CallP.pure _ ((h2 q)) rfl ?_
    | refine PureP.mk _ ((h2 q)) rfl ?_
  cbv
  exact .mk (.cons (.refl _) (.cons (.eq (.int rfl)) .nil)) rfl
def afterE (a : AccountD) (s : SightD) : Int := addE a s
def afterN (a : AccountD) (s : SightD) : Int := if addE a s = 0 then leastL (addA a s).sets else 0
end Go.Proofs.YtaopkjgldokahaaGreatDoor
namespace Go.Proofs.YtaopkjgldokahaaGreatDoor
open Go.RowKit

/-! The program's After and Issue. -/
theorem sets_lens {I : List IssuedD} {L : List SightD} {C : List CoalD} (hl : L.length ≤ 1000) (hI : I.length ≤ 1000000) (hC : C.length < 9223372036854775807) : (setsL I L C).length < 9223372036854775807 ∧ ∀ x ∈ setsL I L C, x.l.length < 9223372036854775807 ∧ ∀ g ∈ x.l, g.persons.length < 9223372036854775807 := by
  unfold setsL
  refine ⟨by rw [List.length_map]; exact hC, fun x hx => ?_⟩
  obtain ⟨c, _, rfl⟩ := List.mem_map.1 hx
  unfold grpsOf groupsL
  simp only
  refine ⟨by rw [List.length_map, List.length_range]; have := many_le c.l L; omega, fun g hg => ?_⟩
  obtain ⟨n, _, rfl⟩ := List.mem_map.1 hg
  unfold groupOf ofA
  simp only
  split
  · unfold ofR
    have h1 := List.length_filter_le (fun p => !(firstR I (viewL c.l L) n p (viewL c.l L).length []).isNone) (peopleL I)
    have h2 := people_len I I.length
    rw [List.take_of_length_le (Nat.le_refl _)] at h2
    omega
  · simp
/-- an account that the program may go on with -/
structure AccountD.fit (a : AccountD) : Prop where
  big : a.big
  si : a.sights.length ≤ 1000
  nil : a.ns = true → a.sights = []
theorem zeroA_fit : zeroA.fit := ⟨⟨⟨by simp, by simp⟩, by simp, by simp, by simp, by simp, by simp, by simp, by simp⟩, by simp, fun _ => rfl⟩
theorem extA_fit {a : AccountD} {s : SightD} (h : a.fit) (hi : a.issued.length ≤ 1000000) (hf : s.seen.fields.length < 9223372036854775807) (hv : s.seen.values.length < 9223372036854775807) : (extA a s).fit := by
  unfold extA
  split
  · next he =>
    have hlt : a.sights.length < 16 := by
      unfold extE at he
      split at he
      · split at he
        · cases he
        · omega
      · cases he
    have hlx : (a.sights ++ [s]).length ≤ 1000 := by simp; omega
    obtain ⟨q1, q2⟩ := sets_lens (I := a.issued) (L := a.sights ++ [s]) hlx hi h.big.coal
    refine ⟨⟨h.big.iss, h.big.coal, h.big.cl, by simp only; omega, fun x hx => ?_, fun x hx => ?_, q1, q2⟩, hlx, fun e => by cases e⟩
    · rcases List.mem_append.1 hx with q | q
      · exact h.big.sf x q
      · rw [List.mem_singleton.1 q]; exact hf
    · rcases List.mem_append.1 hx with q | q
      · exact h.big.sv x q
      · rw [List.mem_singleton.1 q]; exact hv
  · exact zeroA_fit
theorem check_iss {a : AccountD} (h : checkA a = true) : a.issued.length ≤ 64 ∧ a.sights.length ≤ 16 ∧ a.coal.length ≤ 8 := by
  simp only [checkA, checkB, coalsB, viewsL, Bool.and_eq_true, decide_eq_true_eq, List.length_map] at h
  omega
theorem addA_fit {a : AccountD} {s : SightD} (h : a.fit) (hf : s.seen.fields.length < 9223372036854775807) (hv : s.seen.values.length < 9223372036854775807) : (addA a s).fit := by
  unfold addA
  split
  · next hc => exact extA_fit h (by have := check_iss hc; omega) hf hv
  · exact zeroA_fit
set_option maxRecDepth 100000 in
set_option maxHeartbeats 4000000 in
theorem After_pure (a : AccountD) (s : SightD) (h : a.fit) (hf : s.seen.fields.length < 9223372036854775807) (hv : s.seen.values.length < 9223372036854775807) :
    Pure Tryz.prog 18 [.agg a.c, .agg s.c] (.tup [i64 (afterN a s), i64 (afterE a s)]) := by
  have h1 := Add_pure a s h.big h.si h.nil hf hv
  have hx := addA_fit h hf hv
  have h2 := Least_pure (addA a s) hx.big.sets fun x hx' => (hx.big.gl x hx').1
  obtain ⟨e, he⟩ : ∃ e, e = afterE a s := ⟨_, rfl⟩
  obtain ⟨n, hn⟩ : ∃ n, n = afterN a s := ⟨_, rfl⟩
  rw [← he, ← hn]
  unfold afterE at he
  unfold afterN at hn
  rw [← he] at h1 hn
  obtain ⟨x, hxa⟩ : ∃ x, x = addA a s := ⟨_, rfl⟩
  rw [← hxa] at h1 h2 hn
  obtain ⟨ln, hln⟩ : ∃ l, l = leastL x.sets := ⟨_, rfl⟩
  rw [← hln] at h2 hn
  have r1 : e ≠ 0 → n = 0 := fun h => by rw [hn, if_neg h]
  have r2 : e = 0 → n = ln := fun h => by rw [hn, if_pos h]
  clear hxa hln he hn hx h hf hv
  obtain ⟨ai, aI, ac, C, as_, S, az, Z⟩ := a
  obtain ⟨v, tk, ⟨y1, y2, y3, y4, y5, y6⟩⟩ := s
  obtain ⟨x1, x2, x3, x4, x5, x6, x7, x8⟩ := x
  refine Pure.intro (want := [i64 n, i64 e]) T_ok follows Tryz.func18 rfl (by kernel_rfl) (rs := [.tmp 4, .tmp 5]) rfl (by kernel_rfl) ?_
  generalize hP : Tryz.prog = P at *
  have hT : T.ok P := hP ▸ T_ok
  have hm : P.follows .mixedOrders = true := hP ▸ follows
  unfold Tryz.f18
  dsimp only
  cbv
  first
    | refine CallP.pure _ (h1) rfl ?_
    | refine PureP.mk _ (h1) rfl ?_
  cbv
  refine SplitP.mk (fun hs => ?_) (fun hs => ?_) <;> simp only [BE.neq_t, BE.neq_f, IE.var_d, IE.lit_d] at hs
  · refine .mk (.cons (.eq (.int ?_)) (.cons (.refl _) .nil)) rfl
    exact (r1 hs).symm
  · first
      | refine CallP.pure _ (h2) rfl ?_
      | refine PureP.mk _ (h2) rfl ?_
    cbv
    refine .mk (.cons (.eq (.int ?_)) (.cons (.eq (.int ?_)) .nil)) rfl
    · exact (r2 hs).symm
    · exact hs.symm
def round0 : List IssuedD → Int
  | [] => 0
  | x :: _ => x.round
def oneRound (l : List IssuedD) : Bool := l.all fun i => decide (i.round = round0 l)
def freshR (I l : List IssuedD) : Bool := decide (l.length = 0) || !(I.any fun i => decide (i.round = round0 l))
def issueE (a : AccountD) (l : List IssuedD) : Int := if checkA a then (if oneRound l && freshR a.issued l then (if checkB (a.issued ++ l) (viewsL a.sights) then 0 else 300) else 310) else 310
def issueA (a : AccountD) (l : List IssuedD) : AccountD := if issueE a l = 0 then ⟨a.ni && decide (l.length = 0), a.issued ++ l, a.nc, a.coal, a.ns, a.sights, a.coal.isEmpty, setsL (a.issued ++ l) a.sights a.coal⟩ else zeroA
theorem round0_get {l : List IssuedD} {x : IssuedD} (h : l[0]? = some x) : round0 l = x.round := by
  cases l with
  | nil => cases h
  | cons a t => cases h; rfl
set_option maxRecDepth 100000 in
set_option maxHeartbeats 4000000 in
theorem roundIs_pure (x : IssuedD) (l : List IssuedD) (nb : Option BE) (hl : l.length ≠ 0) (hm' : l.length < 9223372036854775807) : Pure Tryz.prog 36 [.agg x.c, .dp [.slm 3 nb IssuedD.c l] 0] (boolD (decide (x.round = round0 l))) := by
  obtain ⟨r, hr⟩ : ∃ r, r = decide (x.round = round0 l) := ⟨_, rfl⟩
  rw [← hr]
  obtain ⟨x1, x2, x3, x4⟩ := x
  simp only at hr
  refine Pure.intro (want := [boolD r]) T_ok follows Tryz.func36 rfl (by kernel_rfl) (rs := [.tmp 3]) rfl (by kernel_rfl) ?_
  generalize hP : Tryz.prog = P
  have hT : T.ok P := hP ▸ T_ok
  have hm : P.follows .mixedOrders = true := hP ▸ follows
  unfold Tryz.f36
  dsimp only
  cbv
  refine ElemP.mk (by show (0 : Int) ≤ 0 ∧ (0 : Int) < (l.length : Int); omega) (fun y hy => ?_)
  replace hy : l[0]? = some y := hy
  rw [round0_get hy] at hr
  obtain ⟨y1, y2, y3, y4⟩ := y
  cbv
  refine .mk (.cons (.eq (.bool ?_)) .nil) rfl
  exact hr.symm
set_option maxRecDepth 100000 in
set_option maxHeartbeats 4000000 in
theorem IndexR_pure (I : List IssuedD) (l : List IssuedD) (nb nc : Option BE) (p : IssuedD → Bool) (hp : ∀ x, Pure Tryz.prog 36 [.agg x.c, .dp [.slm 3 nc IssuedD.c l] 0] (boolD (p x))) (hl : I.length < 9223372036854775807) :
    Pure Tryz.prog 56 [.slm 3 nb IssuedD.c I, .fn (.func 36) [] [.dp [.slm 3 nc IssuedD.c l] 0]] (i64 (ixP p I 0)) := by
  obtain ⟨r, hr⟩ : ∃ r, r = ixP p I 0 := ⟨_, rfl⟩
  rw [← hr]
  obtain ⟨n, hn⟩ : ∃ n : Nat, n = I.length := ⟨_, rfl⟩
  refine Pure.intro (want := [i64 r]) T_ok follows Tryz.func56 rfl (by kernel_rfl) (rs := [.tmp 4]) rfl (by kernel_rfl) ?_
  generalize hP : Tryz.prog = P at *
  have hT : T.ok P := hP ▸ T_ok
  have hm : P.follows .mixedOrders = true := hP ▸ follows
  unfold Tryz.f56
  dsimp only
  cbv
  refine CodeP.loopc hT hm (X := Nat) (fun k => [(8, .int .i64 (.nat k))]) (fun k => k ≤ I.length ∧ r = ixP p (I.drop k) k) (fun k => n - k) 0 ⟨by simp, hr⟩ (Nat.zero_le _) ?_ rfl ?_
  · (cbv; (repeat' (first | exact SnD.refl _ | exact trivial | exact SnD.nat0 | refine And.intro ?_ ?_)))
  intro k ⟨hk, hq⟩
  cbv
  refine SplitP.mk (fun hs => ?_) (fun hs => ?_)
  · have hkn : k < I.length := by
      have h5 : decide ((k : Int) < (I.length : Int)) = true := hs
      have := of_decide_eq_true h5
      omega
    clear hs
    refine ElemP.mk (by show (0 : Int) ≤ (k : Int) ∧ (k : Int) < (I.length : Int); omega) (fun s hx => ?_)
    replace hx : I[k]? = some s := hx
    rw [drop_cons hx] at hq
    simp only [ixP] at hq
    obtain ⟨b, hb⟩ : ∃ b, b = p s := ⟨_, rfl⟩
    have hps := hp s
    rw [← hb] at hq hps
    obtain ⟨y1, y2, y3, y4⟩ := s
    cbv
    refine CallP.pure _ hps rfl ?_
    cbv
    refine SplitP.mk (fun hs => ?_) (fun hs => ?_)
    · replace hs : b = true := hs
      refine .mk (.cons (.eq (.int ?_)) .nil) rfl
      rw [hq, if_pos hs]
      rfl
    · replace hs : b = false := hs
      rw [if_neg (by rw [hs]; exact Bool.false_ne_true)] at hq
      refine BackP.intro (k + 1) ⟨by omega, hq⟩ (by show n - (k + 1) < n - k; omega) ⟨?_, HEnt.refl _, rfl⟩
      (cbv; (repeat' (first | exact SnD.refl _ | exact trivial | exact SnD.nat0 | refine And.intro ?_ ?_)))
      exact .inc (by omega)
  · have hkn : I.length ≤ k := by
      have h5 : decide ((k : Int) < (I.length : Int)) = false := hs
      have := of_decide_eq_false h5
      omega
    clear hs
    refine .mk (.cons (.eq (.int ?_)) .nil) rfl
    rw [IE.lit_d, IE.var_d, hq, List.drop_of_length_le (by omega)]
    rfl
set_option maxRecDepth 100000 in
set_option maxHeartbeats 4000000 in
theorem HasR_pure (I : List IssuedD) (l : List IssuedD) (nb nc : Option BE) (hl : I.length < 9223372036854775807) (h0 : l.length ≠ 0) (hm' : l.length < 9223372036854775807) :
    Pure Tryz.prog 35 [.slm 3 nb IssuedD.c I, .fn (.func 36) [] [.dp [.slm 3 nc IssuedD.c l] 0]] (boolD (I.any fun i => decide (i.round = round0 l))) := by
  have hI := IndexR_pure I l nb nc (fun i => decide (i.round = round0 l)) (fun x => roundIs_pure x l nc h0 hm') hl
  have hge := ixP_ge (fun i : IssuedD => decide (i.round = round0 l)) I 0
  obtain ⟨x, hx⟩ : ∃ x, x = ixP (fun i : IssuedD => decide (i.round = round0 l)) I 0 := ⟨_, rfl⟩
  rw [← hx] at hI hge
  rw [← hge]
  obtain ⟨r, hr⟩ : ∃ r, r = decide (x ≥ 0) := ⟨_, rfl⟩
  rw [← hr]
  refine Pure.intro (want := [boolD r]) T_ok follows Tryz.func35 rfl (by kernel_rfl) (rs := [.tmp 4]) rfl (by kernel_rfl) ?_
  generalize hP : Tryz.prog = P at *
  have hT : T.ok P := hP ▸ T_ok
  have hm : P.follows .mixedOrders = true := hP ▸ follows
  unfold Tryz.f35
  dsimp only
  cbv
  refine CallP.pure _ hI rfl ?_
  cbv
  exact .mk (.cons (.eq (.bool hr.symm)) .nil) rfl
end Go.Proofs.YtaopkjgldokahaaGreatDoor
namespace Go.Proofs.YtaopkjgldokahaaGreatDoor
open Go.RowKit

/-! The program's Issue. -/
theorem CloneI_new (l : List IssuedD) (hl : l.length ≤ 100000) : CallP Tryz.prog 28 [.slm 3 (some (.var false)) IssuedD.c l] [] fun d1 H1 => d1 = .osl 3 0 2 (.lit false) (.lit 0) (.len l) ∧ H1 = [.row 52 3 2 (.apps (.lits []) (.map IssuedD.c l))] := by
  generalize hP : Tryz.prog = P
  have hT : T.ok P := hP ▸ T_ok
  have hm : P.follows .mixedOrders = true := hP ▸ follows
  refine (CallP.inl hT hm (hP ▸ Tryz.func28) rfl (by kernel_rfl) (rs := [.tmp 2]) rfl (by kernel_rfl) ?_)
  unfold Tryz.f28
  dsimp only
  cbv
  refine SplitP.mk (fun hs => ?_) (fun hs => ?_) <;> simp only [BE.lss_t, BE.lss_f, BE.leq_t, BE.leq_f, BE.gtr_t, BE.gtr_f, BE.geq_t, BE.geq_f, BE.eql_t, BE.eql_f, BE.neq_t, BE.neq_f, BE.not_t, BE.not_f, BE.var_d, BE.lit_d, BE.seq_t, BE.seq_f, BE.beq_t, BE.beq_f, IE.var_d, IE.lit_d, IE.nat_d, IE.len_d, IE.sum_d, IE.u8_d, ncast, Int.ofNat_lt, Int.ofNat_le, Int.ofNat_inj] at hs
  · cases hs
  refine ReqP.mk ⟨by simp [IE.den, RE.den], rfl, map_cells (fun _ => rfl), (by intro e he; cases he), by show (0 : Int) + (l.length : Int) ≤ 9223372036854775807; omega, by show ((0 : Int) + (l.length : Int)) * ((40 : Nat) : Int) ≤ 140737488355328; omega⟩ (fun _ => ?_)
  cbv
theorem CloneI_nil (l : List IssuedD) (hl : l = []) : Pure Tryz.prog 28 [.slm 3 (some (.var true)) IssuedD.c l] .nils := by
  refine Pure.intro (want := [.nils]) T_ok follows Tryz.func28 rfl (by kernel_rfl) (rs := [.tmp 2]) rfl (by kernel_rfl) ?_
  generalize hP : Tryz.prog = P
  have hT : T.ok P := hP ▸ T_ok
  have hm : P.follows .mixedOrders = true := hP ▸ follows
  unfold Tryz.f28
  dsimp only
  cbv
  refine SplitP.mk (fun hs => ?_) (fun hs => ?_) <;> simp only [BE.lss_t, BE.lss_f, BE.leq_t, BE.leq_f, BE.gtr_t, BE.gtr_f, BE.geq_t, BE.geq_f, BE.eql_t, BE.eql_f, BE.neq_t, BE.neq_f, BE.not_t, BE.not_f, BE.var_d, BE.lit_d, BE.seq_t, BE.seq_f, BE.beq_t, BE.beq_f, IE.var_d, IE.lit_d, IE.nat_d, IE.len_d, IE.sum_d, IE.u8_d, ncast, Int.ofNat_lt, Int.ofNat_le, Int.ofNat_inj] at hs
  · exact .mk (SnDs.refl _) rfl
  · cases hs
set_option maxRecDepth 100000 in
set_option maxHeartbeats 4000000 in
theorem Issue_pure (a : AccountD) (l : List IssuedD) (nl : Bool) (h : a.fit) (hn : a.ni = true → a.issued = []) (hL : ∀ x ∈ l, x.values.length < 9223372036854775807) (hl : l.length ≤ 100000) :
    Pure Tryz.prog 13 [.agg a.c, .slm 3 (some (.var nl)) IssuedD.c l] (.tup [.agg (issueA a l).c, i64 (issueE a l)]) := by
  have h1 := Check31_pure a h.big h.si
  have h2 := fun h0 : l.length ≠ 0 => HasR_pure a.issued l (some (.var a.ni)) (some (.var nl)) h.big.iss.len h0 (by omega)
  have h3 := views_pure a.sights (some (.var a.ns)) (by have := h.si; omega)
  have hix : checkA a = true → BigI (a.issued ++ l) := fun hc => ⟨by have := check_iss hc; simp; omega, fun x hx => by
    rcases List.mem_append.1 hx with q | q
    · exact h.big.iss.vals x q
    · exact hL x q⟩
  have hlx : (a.issued ++ l).length = a.issued.length + l.length := by simp
  have h4 := fun hc : checkA a = true => fun nb => Check_pure (a.issued ++ l) (viewsL a.sights) nb none (hix hc) (views_big h.big.bigV (by have := h.si; omega))
  have h5 := fun hc : checkA a = true => sets_pure ⟨a.ni && decide (l.length = 0), a.issued ++ l, a.nc, a.coal, a.ns, a.sights, true, []⟩ (hix hc) h.big.bigV h.si (by have := check_iss hc; simp only; omega) h.big.cl
  have hcn := fun hc : checkA a = true => CloneI_new a.issued (by have := check_iss hc; omega)
  have hcz := fun h => CloneI_nil a.issued (hn h)
  have hlen := fun hc : checkA a = true => (check_iss hc).1
  obtain ⟨e, he⟩ : ∃ e, e = issueE a l := ⟨_, rfl⟩
  obtain ⟨x, hx⟩ : ∃ e, e = issueA a l := ⟨_, rfl⟩
  rw [← he, ← hx]
  unfold issueA at hx
  rw [← he] at hx
  unfold issueE at he
  obtain ⟨b1, e1⟩ : ∃ b, b = checkA a := ⟨_, rfl⟩
  obtain ⟨b2, e2⟩ : ∃ b, b = oneRound l := ⟨_, rfl⟩
  obtain ⟨b3, e3⟩ : ∃ b, b = freshR a.issued l := ⟨_, rfl⟩
  obtain ⟨b4, e4⟩ : ∃ b, b = checkB (a.issued ++ l) (viewsL a.sights) := ⟨_, rfl⟩
  rw [← e1] at h1 h4 h5 hcn hlen he
  rw [← e4] at h4 he
  rw [← e2, ← e3] at he
  obtain ⟨r0, hr0⟩ : ∃ r, r = round0 l := ⟨_, rfl⟩
  have hr0x : ∀ x, l[0]? = some x → r0 = x.round := fun x hx => by rw [hr0]; exact round0_get hx
  obtain ⟨f1, hf1⟩ : ∃ f : IssuedD → Bool, f = fun i => decide (i.round = r0) := ⟨_, rfl⟩
  have hf1x : ∀ y1 y2 y3 y4, f1 ⟨y1, y2, y3, y4⟩ = decide (y1 = r0) := fun y1 y2 y3 y4 => by rw [hf1]
  have e2' : b2 = l.all f1 := by rw [e2, hf1, hr0]; rfl
  obtain ⟨an, han⟩ : ∃ b, b = a.issued.any fun i => decide (i.round = round0 l) := ⟨_, rfl⟩
  have e3' : b3 = (decide (l.length = 0) || !an) := by rw [e3, han]; rfl
  rw [← han] at h2
  have hIXc : (a.issued ++ l).map IssuedD.c = a.issued.map IssuedD.c ++ l.map IssuedD.c := by simp
  simp only at h5
  obtain ⟨IX, hIX⟩ : ∃ l', l' = a.issued ++ l := ⟨_, rfl⟩
  rw [← hIX] at h4 h5 hlx hIXc hx
  obtain ⟨W, eW⟩ : ∃ W, W = viewsL a.sights := ⟨_, rfl⟩
  rw [← eW] at h3 h4
  obtain ⟨Q, eQ⟩ : ∃ Q, Q = setsL IX a.sights a.coal := ⟨_, rfl⟩
  rw [← eQ] at h5 hx
  obtain ⟨qe, eqe⟩ : ∃ Q, Q = a.coal.isEmpty := ⟨_, rfl⟩
  rw [← eqe] at h5 hx
  obtain ⟨ne, hne⟩ : ∃ b, b = (a.ni && decide (l.length = 0)) := ⟨_, rfl⟩
  rw [← hne] at h5 hx
  have hIXl : (IX.length : Int) = (a.issued.length : Int) + (l.length : Int) := by rw [hlx]; simp
  have r1 : b1 = false → x = zeroA ∧ e = 310 := fun h => by rw [h] at he; rw [hx, he]; exact ⟨rfl, rfl⟩
  have r2 : b1 = true → b2 = false → x = zeroA ∧ e = 310 := fun h h' => by rw [h, h'] at he; rw [hx, he]; exact ⟨rfl, rfl⟩
  have r3 : b1 = true → b2 = true → b3 = false → x = zeroA ∧ e = 310 := fun h h' h2 => by rw [h, h', h2] at he; rw [hx, he]; exact ⟨rfl, rfl⟩
  have r4 : b1 = true → b2 = true → b3 = true → b4 = false → x = zeroA ∧ e = 300 := fun h h' h2 h3 => by rw [h, h', h2, h3] at he; rw [hx, he]; exact ⟨rfl, rfl⟩
  have r5 : b1 = true → b2 = true → b3 = true → b4 = true → x = ⟨ne, IX, a.nc, a.coal, a.ns, a.sights, qe, Q⟩ ∧ e = 0 := fun h h' h2 h3 => by rw [h, h', h2, h3] at he; rw [hx, he]; exact ⟨rfl, rfl⟩
  obtain ⟨c1, ec1⟩ : ∃ c : Int, c = if b1 then 0 else 310 := ⟨_, rfl⟩
  rw [← ec1] at h1
  obtain ⟨c4, ec4⟩ : ∃ c : Int, c = if b4 then 0 else 300 := ⟨_, rfl⟩
  rw [← ec4] at h4
  clear e1 e2 e3 e4 hr0 hf1 han he hx eQ eqe eW hIX hix hL h
  obtain ⟨ai, aI, ac, C, as_, S, az, Z⟩ := a
  simp only at h2 h3 h4 h5 hcn hcz hn hlx hIXc hIXl r5 hne hlen
  obtain ⟨n, hnl⟩ : ∃ n : Nat, n = l.length := ⟨_, rfl⟩
  have e : (.tup [.agg x.c, i64 e] : D) = retD [.agg x.c, i64 e] := rfl
  rw [e]
  refine Pure.introC T_ok Tryz.func13 rfl (by kernel_rfl) (rs := [.cell 4 27, .tmp 5]) rfl (by kernel_rfl) ?_
  generalize hP : Tryz.prog = P at *
  have hT : T.ok P := hP ▸ T_ok
  have hm : P.follows .mixedOrders = true := hP ▸ follows
  unfold Tryz.f13
  dsimp only
  refine CodeP.seq (vc_sound hT hm _ ?_)
  cbv
  refine CodeP.seq (vc_sound hT hm _ ?_)
  cbv
  first
    | refine CallP.pure _ (h1) rfl ?_
    | refine PureP.mk _ (h1) rfl ?_
  cbv
  refine SplitP.mk (fun hs => ?_) (fun hs => ?_)
  · have h7 : (c1 != 0) = true := hs
    have q : b1 = false := by
      rw [ec1] at h7
      cases b1 with
      | false => rfl
      | true => cases h7
    refine zeroA_ret ⟨(r1 q).1, ?_⟩
    rw [(r1 q).2]
    show (310 : Int) = c1
    rw [ec1, q]; rfl
  have q1 : b1 = true := by
    have h7 : (c1 != 0) = false := hs
    rw [ec1] at h7
    cases b1 with
    | false => cases h7
    | true => rfl
  replace r2 := r2 q1
  replace r3 := r3 q1
  replace r4 := r4 q1
  replace r5 := r5 q1
  replace h4 := h4 q1
  replace h5 := h5 q1
  replace hcn := hcn q1
  replace hlen := hlen q1
  clear hs r1 q1 h1 ec1
  refine CodeP.seq (vc_sound hT hm _ ?_)
  cbv
  refine CodeP.loopc hT hm (X := Nat) (fun k => [(19, .int .i64 (.nat k))]) (fun k => k ≤ n ∧ b2 = (l.drop k).all f1) (fun k => n - k) 0 ⟨Nat.zero_le _, e2'⟩ (Nat.zero_le _) ?_ rfl ?_
  · (cbv; (repeat' (first | exact SnD.refl _ | exact trivial | exact SnD.nat0 | refine And.intro ?_ ?_)))
  intro k ⟨hk, hq⟩
  replace hk : k ≤ n := hk
  cbv
  refine SplitP.mk (fun hs => ?_) (fun hs => ?_)
  · have hkn : k < l.length := by
      have h5 : decide ((k : Int) < (l.length : Int)) = true := hs
      have := of_decide_eq_true h5
      omega
    clear hs
    refine ElemP.mk (by show (0 : Int) ≤ (k : Int) ∧ (k : Int) < (l.length : Int); omega) (fun y hy => ?_)
    replace hy : l[k]? = some y := hy
    rw [drop_cons hy, List.all_cons] at hq
    obtain ⟨y1, y2, y3, y4⟩ := y
    rw [hf1x] at hq
    cbv
    refine ElemP.mk (by show (0 : Int) ≤ 0 ∧ (0 : Int) < (l.length : Int); omega) (fun z hz => ?_)
    replace hz : l[0]? = some z := hz
    have hrz := hr0x z hz
    obtain ⟨z1, z2, z3, z4⟩ := z
    simp only at hrz
    cbv
    refine SplitP.mk (fun hs => ?_) (fun hs => ?_) <;> simp only [BE.neq_t, BE.neq_f, IE.var_d, IE.lit_d] at hs
    · refine zeroA_ret (r2 ?_)
      rw [hq, decide_eq_false (by rw [hrz]; exact hs)]
      rfl
    · refine BackP.intro (k + 1) ⟨by show k + 1 ≤ n; omega, by rw [hq, decide_eq_true (by rw [hrz]; exact hs), Bool.true_and]⟩ (by show n - (k + 1) < n - k; omega) ⟨?_, ?_, rfl⟩
      · (cbv; (repeat' (first | exact SnD.refl _ | exact trivial | exact SnD.nat0 | refine And.intro ?_ ?_)))
        exact .inc (by omega)
      · exact ⟨.refl _, .refl _, .refl _, trivial⟩
  have hkn : l.length ≤ k := by
    have h5 : decide ((k : Int) < (l.length : Int)) = false := hs
    have := of_decide_eq_false h5
    omega
  clear hs
  have q2 : b2 = true := by rw [hq, List.drop_of_length_le (by omega)]; rfl
  replace r3 := r3 q2
  replace r4 := r4 q2
  replace r5 := r5 q2
  clear r2 q2 hq e2'
  refine CodeP.seqW (fun _ => b3 = true) [(2, .ptr 0 1 0), (3, .ptr 1 1 0), (4, .ptr 2 1 0)] [.cells [.slm 3 (some (.var ai)) IssuedD.c aI, .slm 1 (some (.var ac)) CoalD.c C, .slm 37 (some (.var as_)) SightD.c S, .slm 1 (some (.var az)) GrpsD.c Z], .cells [.slm 3 (some (.var nl)) IssuedD.c l], .cells [.nils, .nils, .nils, .nils]] (Nat.zero_le _) (vc_sound hT hm _ ?_) ?_
  · cbv
    refine SplitP.mk (fun hs => ?_) (fun hs => ?_)
    · have h0 : 0 < l.length := by have := of_decide_eq_true (show decide ((l.length : Int) > 0) = true from hs); omega
      rw [decide_eq_false (by omega), Bool.false_or] at e3'
      refine CallP.lend _ _ (h2 (by omega)) (.cons (.eq (.refl _)) (.cons (.fns .nil (.cons (.dp rfl rfl rfl) .nil)) .nil)) rfl rfl ?_
      cbv
      refine SplitP.mk (fun hs => ?_) (fun hs => ?_)
      · have q : an = true := hs
        exact zeroA_ret (r3 (by rw [e3', q]; rfl))
      · have q : an = false := hs
        exact ⟨by rw [e3', q]; rfl, ⟨⟨.refl _, .refl _, .refl _, trivial⟩, ⟨.refl _, .refl _, .refl _, trivial⟩, rfl⟩⟩
    · have h0 : l.length = 0 := by have := of_decide_eq_false (show decide ((l.length : Int) > 0) = false from hs); omega
      exact ⟨by rw [e3', decide_eq_true h0]; rfl, ⟨⟨.refl _, .refl _, .refl _, trivial⟩, ⟨.refl _, .refl _, .refl _, trivial⟩, rfl⟩⟩
  intro q3
  replace r4 := r4 q3
  replace r5 := r5 q3
  clear r3 q3 e3' h2
  have hai : ai = true → aI = [] := hn
  refine CodeP.seqTo [(2, .ptr 0 1 0), (3, .ptr 1 1 0), (4, .ptr 2 1 0), (9, .slm 3 (some (.var ne)) IssuedD.c IX)] [.cells [.slm 3 (some (.var ai)) IssuedD.c aI, .slm 1 (some (.var ac)) CoalD.c C, .slm 37 (some (.var as_)) SightD.c S, .slm 1 (some (.var az)) GrpsD.c Z], .cells [.slm 3 (some (.var nl)) IssuedD.c l], .cells [.nils, .nils, .nils, .nils]] (Nat.zero_le _) (vc_sound hT hm _ ?_) ?_
  · cases ai
    · cbv
      refine .newD hcn rfl (by decide) ?_
      cbv
      refine ReqP.mk ⟨by simp [IE.den, RE.den], by simp [IE.den, RE.den], map_cells (fun _ => rfl), (by intro e he; simp only [RE.den, List.nil_append, List.mem_map] at he; obtain ⟨x, _, rfl⟩ := he; rfl), by show (aI.length : Int) + (l.length : Int) ≤ _; omega, by show ((aI.length : Int) + (l.length : Int)) * ((40 : Nat) : Int) ≤ _; omega⟩ (fun _ => ?_)
      refine ⟨⟨.refl _, .refl _, .refl _, .slm rfl (.inl ⟨_, _, rfl, by simp [RE.den]; simpa using hIXc.symm⟩) rfl (by simp only [IE.den]; exact hIXl.symm) (fun e h => by cases h; exact hne), trivial⟩, ⟨.refl _, .refl _, .refl _, trivial⟩, rfl⟩
    · cbv
      refine .mk .nils (hcz rfl) rfl ?_
      cbv
      have hS0 := hn rfl
      subst hS0
      refine ReqP.mk ⟨by simp [IE.den, RE.den], map_cells (fun _ => rfl), by show (l.length : Int) ≤ _; omega, by show (l.length : Int) * ((40 : Nat) : Int) ≤ _; omega⟩ (fun _ => ?_)
      refine ⟨⟨.refl _, .refl _, .refl _, .slm rfl (.inl ⟨_, _, rfl, by simp [RE.den]; simpa using hIXc.symm⟩) rfl (by simp only [IE.den]; have h9 : (IX.length : Int) = ((([] : List IssuedD).length : Nat) : Int) + (l.length : Int) := hIXl; simp at h9; show (l.length : Int) = (IX.length : Int); omega) (fun e h => by cases h; rw [BE.var_d, hne]; show decide (l.length = 0) = ((l.length : Int) == 0); rw [Bool.eq_iff_iff]; simp), trivial⟩, ⟨.refl _, .refl _, .refl _, trivial⟩, rfl⟩
  refine CodeP.seq (vc_sound hT hm _ ?_)
  cbv
  first
    | refine CallP.pure _ (h3) rfl ?_
    | refine PureP.mk _ (h3) rfl ?_
  cbv
  first
    | refine CallP.pure _ ((h4 _)) rfl ?_
    | refine PureP.mk _ ((h4 _)) rfl ?_
  cbv
  refine SplitP.mk (fun hs => ?_) (fun hs => ?_)
  · have h7 : (c4 != 0) = true := hs
    have q : b4 = false := by
      rw [ec4] at h7
      cases b4 with
      | false => rfl
      | true => cases h7
    refine zeroA_ret ⟨(r4 q).1, ?_⟩
    rw [(r4 q).2]
    show (300 : Int) = c4
    rw [ec4, q]; rfl
  have q4 : b4 = true := by
    have h7 : (c4 != 0) = false := hs
    rw [ec4] at h7
    cases b4 with
    | false => cases h7
    | true => rfl
  obtain ⟨rfl, rfl⟩ := r5 q4
  clear hs r4 r5
  refine vc_sound hT hm _ ?_
  cbv
  refine CallP.pure _ (Pure.args (.cons (acct_eq (.refl _) (.refl _) (.refl _) (.nilv (e := .var true) rfl rfl)) .nil) h5) rfl ?_
  cbv
  exact .mk (.cons (.refl _) (.cons (.eq (.int rfl)) .nil)) rfl
end Go.Proofs.YtaopkjgldokahaaGreatDoor
namespace Go.Proofs.YtaopkjgldokahaaGreatDoor
open Go.RowKit

/-! The statements' own functions: few, kept, copyOf, sight. -/
abbrev acct0 (ni : Bool) (I : List IssuedD) (nc : Bool) (C : List CoalD) : AccountD := ⟨ni, I, nc, C, true, [], true, []⟩
def fewL (I : List IssuedD) (C : List CoalD) (S : List SightD) : Bool := S.all fewS && (decide (S.length ≤ 4 ∧ I.length ≤ 8) && fewA (acct0 true I true C))
set_option maxRecDepth 100000 in
set_option maxHeartbeats 4000000 in
theorem copyOf_pure (p v : Int) : Pure Tryz.prog 22 [i64 p, i64 v] (.agg (IssuedD.c ⟨0, p, false, [v]⟩)) := by
  refine Pure.intro (want := [.agg (IssuedD.c ⟨0, p, false, [v]⟩)]) T_ok follows Tryz.func22 rfl (by kernel_rfl) (rs := [.cell 4 52]) rfl (by kernel_rfl) ?_
  generalize hP : Tryz.prog = P
  have hT : T.ok P := hP ▸ T_ok
  have hm : P.follows .mixedOrders = true := hP ▸ follows
  unfold Tryz.f22
  dsimp only
  cbv
  refine .mk (.cons (.eq (.aggs rfl fun i d d' h1 h2 => ?_)) .nil) rfl
  match i with
  | 0 => cases h1; cases h2; exact .int rfl
  | 1 => cases h1; cases h2; exact .refl _
  | 2 => cases h1; cases h2; exact .sll rfl (fun e h => by cases h; rfl)
  | i + 3 => simp at h1
abbrev sightOf (v g x : Int) : SightD := ⟨v, fun _ => 0, ⟨g, 0, false, [0], false, [x]⟩⟩
def keepStep (a : AccountD) (s : SightD) : AccountD := if addE a s = 0 then addA a s else a
def keptA (ni : Bool) (I : List IssuedD) (nc : Bool) (C : List CoalD) (S : List SightD) : AccountD := if newE I C = 0 then S.foldl keepStep (newA ni I nc C) else newA ni I nc C
theorem newA_fit {ni : Bool} {I : List IssuedD} {nc : Bool} {C : List CoalD} (hI : BigI I) (hC : C.length < 9223372036854775807) (hcl : ∀ x ∈ C, x.l.length < 9223372036854775807) : (newA ni I nc C).fit := by
  unfold newA
  split
  · next he =>
    have hi : I.length ≤ 64 := by
      unfold newE at he
      split at he
      · split at he
        · next h => simp only [checkB, Bool.and_eq_true, decide_eq_true_eq] at h; omega
        · cases he
      · cases he
    obtain ⟨q1, q2⟩ := sets_lens (I := I) (L := []) (C := C) (by simp) (by omega) hC
    exact ⟨⟨hI, hC, hcl, by simp, by simp, by simp, q1, q2⟩, by simp, fun _ => rfl⟩
  · exact zeroA_fit
theorem keep_fit {a : AccountD} {s : SightD} (h : a.fit) (hf : s.seen.fields.length < 9223372036854775807) (hv : s.seen.values.length < 9223372036854775807) : (keepStep a s).fit := by
  unfold keepStep
  split
  · exact addA_fit h hf hv
  · exact h
theorem kept_fit {ni : Bool} {I : List IssuedD} {nc : Bool} {C : List CoalD} (hI : BigI I) (hC : C.length < 9223372036854775807) (hcl : ∀ x ∈ C, x.l.length < 9223372036854775807) : ∀ (S : List SightD), BigV S → (S.foldl keepStep (newA ni I nc C)).fit := by
  intro S hS
  have key : ∀ (S : List SightD) (a : AccountD), BigV S → a.fit → (S.foldl keepStep a).fit := by
    intro S
    induction S with
    | nil => exact fun a _ h => h
    | cons s S ih => exact fun a hS h => ih _ ⟨fun x hx => hS.fields x (by simp [hx]), fun x hx => hS.vals x (by simp [hx])⟩ (keep_fit h (hS.fields s (by simp)) (hS.vals s (by simp)))
  exact key S _ hS (newA_fit hI hC hcl)
end Go.Proofs.YtaopkjgldokahaaGreatDoor
namespace Go.Proofs.YtaopkjgldokahaaGreatDoor
open Go.RowKit

/-! What is kept, in plain words. -/
def okT (I : List IssuedD) (C : List CoalD) (T : List SightD) : Prop := coalsB C = true ∧ checkB I (viewsL T) = true ∧ T.all verB = true ∧ T.length ≤ 16
def acctT (ni : Bool) (I : List IssuedD) (nc : Bool) (C : List CoalD) (T : List SightD) : AccountD := ⟨ni, I, nc, C, decide (T.length = 0), T, C.isEmpty, setsL I T C⟩
def accB (I : List IssuedD) (T : List SightD) (s : SightD) : Bool := verB s && (decide (T.length < 16) && checkB I (viewsL (T ++ [s])))
theorem eqF_refl {α : Type} (f : α → α → Bool) (h : ∀ x, f x x = true) : ∀ l : List α, eqF f l l = true
  | [] => rfl
  | x :: l => by unfold eqF; rw [h x, eqF_refl f h l]; rfl
theorem eqGL_refl (l : List GroupD) : eqGL l l = true := eqF_refl _ (fun x => by unfold eqG; simp) l
theorem setsEq_refl (l : List GrpsD) : setsEqB l l = true := eqF_refl _ (fun x => eqGL_refl x.l) l
theorem check_acct {ni : Bool} {I : List IssuedD} {nc : Bool} {C : List CoalD} {T : List SightD} (h : okT I C T) : checkA (acctT ni I nc C T) = true := by
  obtain ⟨h1, h2, h3, _⟩ := h
  unfold checkA acctT
  simp only
  rw [h1, h2, h3, setsEq_refl]
  rfl
theorem acct_app (ni : Bool) (I : List IssuedD) (nc : Bool) (C : List CoalD) (T : List SightD) (s : SightD) : acctT ni I nc C (T ++ [s]) = ⟨ni, I, nc, C, false, T ++ [s], C.isEmpty, setsL I (T ++ [s]) C⟩ := by
  unfold acctT
  rw [decide_eq_false (by simp)]
theorem add_acct {ni : Bool} {I : List IssuedD} {nc : Bool} {C : List CoalD} {T : List SightD} (h : okT I C T) (s : SightD) :
    (addE (acctT ni I nc C T) s = 0 ↔ accB I T s = true) ∧ addA (acctT ni I nc C T) s = if accB I T s then acctT ni I nc C (T ++ [s]) else zeroA := by
  have hc := check_acct (ni := ni) (nc := nc) h
  unfold addE addA
  rw [if_pos hc, if_pos hc]
  have hE : extE (acctT ni I nc C T) s = if verB s then (if 16 ≤ T.length then 2 else if checkB I (viewsL (T ++ [s])) then 0 else 300) else 310 := rfl
  have hiff : extE (acctT ni I nc C T) s = 0 ↔ accB I T s = true := by
    rw [hE]
    unfold accB
    cases verB s with
    | false => simp
    | true =>
      by_cases q : 16 ≤ T.length
      · rw [if_pos rfl, if_pos q, decide_eq_false (by omega)]
        simp
      · rw [if_pos rfl, if_neg q, decide_eq_true (by omega)]
        cases checkB I (viewsL (T ++ [s])) <;> simp
  refine ⟨hiff, ?_⟩
  unfold extA
  by_cases q : accB I T s = true
  · rw [if_pos q, if_pos (hiff.2 q), acct_app]
    rfl
  · rw [if_neg q, if_neg fun e => q (hiff.1 e)]
theorem acc_ok {I : List IssuedD} {C : List CoalD} {T : List SightD} {s : SightD} (h : okT I C T) (ha : accB I T s = true) : okT I C (T ++ [s]) := by
  obtain ⟨h1, h2, h3, h4⟩ := h
  unfold accB at ha
  simp only [Bool.and_eq_true, decide_eq_true_eq] at ha
  refine ⟨h1, ha.2.2, ?_, by simp; omega⟩
  rw [List.all_append, h3]
  simp [ha.1]
def keepT (I : List IssuedD) : List SightD → List SightD → List SightD
  | T, [] => T
  | T, s :: S => keepT I (if accB I T s then T ++ [s] else T) S
theorem keepT_sub (I : List IssuedD) : ∀ (S T : List SightD), ∃ U, keepT I T S = T ++ U ∧ U.Sublist S
  | [], T => ⟨[], by simp [keepT], by simp⟩
  | s :: S, T => by
    unfold keepT
    by_cases h : accB I T s = true
    · rw [if_pos h]
      obtain ⟨U, h1, h2⟩ := keepT_sub I S (T ++ [s])
      exact ⟨s :: U, by rw [h1]; simp, h2.cons_cons s⟩
    · rw [if_neg h]
      obtain ⟨U, h1, h2⟩ := keepT_sub I S T
      exact ⟨U, h1, h2.cons s⟩
theorem fold_form {ni : Bool} {I : List IssuedD} {nc : Bool} {C : List CoalD} : ∀ (S T : List SightD), okT I C T → S.foldl keepStep (acctT ni I nc C T) = acctT ni I nc C (keepT I T S) ∧ okT I C (keepT I T S)
  | [], T, h => ⟨rfl, h⟩
  | s :: S, T, h => by
    obtain ⟨h1, h2⟩ := add_acct (ni := ni) (nc := nc) h s
    have hs : keepStep (acctT ni I nc C T) s = acctT ni I nc C (if accB I T s then T ++ [s] else T) := by
      unfold keepStep
      by_cases q : accB I T s = true
      · rw [if_pos (h1.2 q), h2, if_pos q, if_pos q]
      · rw [if_neg fun e => q (h1.1 e), if_neg q]
    rw [List.foldl_cons, hs]
    unfold keepT
    refine fold_form S _ ?_
    split
    · next q => exact acc_ok h q
    · exact h
theorem newE_ok {I : List IssuedD} {C : List CoalD} (h : newE I C = 0) : okT I C [] := by
  unfold newE at h
  split at h
  · next h1 =>
    split at h
    · next h2 => exact ⟨h1, h2, rfl, by simp⟩
    · cases h
  · cases h
theorem kept_form {ni : Bool} {I : List IssuedD} {nc : Bool} {C : List CoalD} {S : List SightD} (h : newE I C = 0) : keptA ni I nc C S = acctT ni I nc C (keepT I [] S) ∧ okT I C (keepT I [] S) := by
  have h1 : newA ni I nc C = acctT ni I nc C [] := by
    unfold newA
    rw [if_pos h]
    rfl
  unfold keptA
  rw [if_pos h, h1]
  exact fold_form S [] (newE_ok h)
theorem kept_sub (I : List IssuedD) (S : List SightD) : (keepT I [] S).Sublist S := by
  obtain ⟨U, h1, h2⟩ := keepT_sub I S []
  rw [h1]
  exact h2
/-- what a coalition sees is valid -/
theorem view_ok {I : List IssuedD} {T : List SightD} (c : List Int) (h : checkB I (viewsL T) = true) : checkB I (viewL c T) = true := by
  unfold checkB viewsL at h
  simp only [Bool.and_eq_true, decide_eq_true_eq, List.length_map, List.all_eq_true, List.mem_map, forall_exists_index, and_imp, forall_apply_eq_imp_iff₂] at h
  have hl := view_len c T
  unfold checkB
  simp only [Bool.and_eq_true, decide_eq_true_eq, List.all_eq_true]
  refine ⟨⟨h.1.1, by omega⟩, h.2.1, fun s hs => ?_⟩
  obtain ⟨x, hx, h1, h2, _, _, h3, n, h4⟩ := view_get hs
  have hv := h.2.2 x hx
  unfold seenB at hv ⊢
  simp only [Bool.and_eq_true, decide_eq_true_eq] at hv ⊢
  rw [h1, h2, h3, h4]
  exact ⟨⟨by omega, hv.1.2⟩, hv.2⟩
theorem cnt_hit (r : Nat → Nat) : ∀ n g, g < cntR r n → ∃ i, i < n ∧ r i = i ∧ cntR r i = g
  | 0, g, h => by simp [cntR] at h
  | n + 1, g, h => by
    rw [cntR_succ] at h
    by_cases q : g < cntR r n
    · obtain ⟨i, h1, h2, h3⟩ := cnt_hit r n g q
      exact ⟨i, by omega, h2, h3⟩
    · split at h
      · next hr => exact ⟨n, by omega, hr, by omega⟩
      · omega
theorem view_hit {c : List Int} {T : List SightD} {g : Nat} (h : g < manyL c T) : ∃ i, i < (sightsL31 c T).length ∧ (viewAt (sightsL31 c T) i).group = (g : Int) := by
  obtain ⟨i, h1, h2, h3⟩ := cnt_hit _ _ _ h
  refine ⟨i, h1, ?_⟩
  unfold viewAt
  simp only
  rw [h2, h3]
theorem view_occ {c : List Int} {T : List SightD} {g : Nat} (h : g < manyL c T) : occB (g : Int) (viewL c T) = true := by
  obtain ⟨i, h1, h2⟩ := view_hit h
  unfold occB
  rw [List.any_eq_true]
  refine ⟨viewAt (sightsL31 c T) i, ?_, by simpa using h2⟩
  unfold viewL
  exact List.mem_map.2 ⟨i, List.mem_range.2 h1, rfl⟩
theorem view_okOf {I : List IssuedD} {T : List SightD} {c : List Int} {g : Nat} (h : checkB I (viewsL T) = true) (hg : g < manyL c T) : okOf I (viewL c T) (g : Int) = true := by
  unfold okOf
  rw [view_ok c h, view_occ hg]
  rfl
theorem fewL_big {I : List IssuedD} {C : List CoalD} {S : List SightD} (h : fewL I C S = true) : BigI I ∧ I.length ≤ 8 ∧ C.length ≤ 10 ∧ (∀ x ∈ C, x.l.length ≤ 10) ∧ BigV S ∧ S.length ≤ 4 := by
  unfold fewL fewA fewB at h
  simp only [Bool.and_eq_true, decide_eq_true_eq, List.all_eq_true] at h
  obtain ⟨h1, h2, h3, h4, h5, h6, _⟩ := h
  have hs : ∀ s ∈ S, s.seen.fields.length ≤ 16 ∧ s.seen.values.length ≤ 16 := fun s hs => by
    have := h1 s hs
    unfold fewS fewB at this
    simp at this
    exact this
  exact ⟨⟨by omega, fun x hx => by have := h6 x hx; omega⟩, h2.2, h3.1, fun x hx => h4 x hx, ⟨fun x hx => by have := (hs x hx).1; omega, fun x hx => by have := (hs x hx).2; omega⟩, h2.1⟩
theorem bigV_sub {S T : List SightD} (h : BigV S) (hs : T.Sublist S) : BigV T := ⟨fun x hx => h.fields x (hs.subset hx), fun x hx => h.vals x (hs.subset hx)⟩
theorem acct_fit {ni : Bool} {I : List IssuedD} {nc : Bool} {C : List CoalD} {T : List SightD} (hI : BigI I) (hi : I.length ≤ 1000000) (hC : C.length < 9223372036854775807) (hcl : ∀ x ∈ C, x.l.length < 9223372036854775807) (hT : BigV T) (hl : T.length ≤ 1000) : (acctT ni I nc C T).fit := by
  obtain ⟨q1, q2⟩ := sets_lens (I := I) (L := T) (C := C) hl hi hC
  exact ⟨⟨hI, hC, hcl, by simp only [acctT]; omega, hT.fields, hT.vals, q1, q2⟩, hl, fun e => List.eq_nil_of_length_eq_zero (by simpa [acctT] using e)⟩
end Go.Proofs.YtaopkjgldokahaaGreatDoor
namespace Go.Proofs.YtaopkjgldokahaaGreatDoor
open Go.ChangeShapes Go.WideShapes Go.ChangeAt Go.RowKit

/-! From the form's reading of the arguments to data. -/
def allE (w : World) : Env := Env.of fun b => b < w.heap.size
/-- every reading of type t by the form gives data -/
def OpD (P : Program) (t : TypeId) {α : Type} (c : α → List D) (ok : α → Prop) : Prop :=
  ∀ {H : Type} (enc : TypeId × Value → H) (w : World) (spare : Nat → Bool) (held : Bool) (fuel : Nat) (cs : List Value) (x : DataW H × List MemPlace),
    DataW.trod enc P w 0 spare held fuel t cs = some x → ∃ a, ok a ∧ cs.length = (c a).length ∧ ∀ (i : Nat) d v, (c a)[i]? = some d → cs[i]? = some v → DRep w (allE w) d v
theorem InR.of_wf {k : IntKind} {z : Int} (h : (Lit.int k z).wf = true) : InR k z := by
  simpa [Lit.wf, InR] using h
theorem opd_int {P : Program} {t : TypeId} (ht : P.underlying t = some (.int .i64)) : OpD P t (fun x : Int => [.int .i64 (.var x)]) (fun _ => True) := fun enc w spare held fuel cs x h => by
  obtain ⟨z, rfl, _, h2⟩ := DataW.trod_int ht h
  refine ⟨z, trivial, rfl, fun i d v hd hv => ?_⟩
  match i, hd, hv with
  | 0, hd, hv => cases hd; cases hv; exact .int (e := .var z) (InR.of_wf h2)
theorem opd_u8 {P : Program} {t : TypeId} (ht : P.underlying t = some (.int .u8)) : OpD P t (fun b : BitVec 8 => [.int .u8 (.u8 b)]) (fun _ => True) := fun enc w spare held fuel cs x h => by
  obtain ⟨z, rfl, _, h2⟩ := DataW.trod_int ht h
  have hz := InR.of_wf h2
  have hz2 : 0 ≤ z ∧ z ≤ 255 := by unfold InR IntKind.min IntKind.max at hz; simpa [IntKind.signed, IntKind.bits] using hz
  have e : (IE.u8 (BitVec.ofInt 8 z)).den = z := by
    simp only [IE.den, BitVec.toNat_ofInt]
    omega
  refine ⟨BitVec.ofInt 8 z, trivial, rfl, fun i d v hd hv => ?_⟩
  match i, hd, hv with
  | 0, hd, hv =>
    cases hd; cases hv
    have := DRep.int (w := w) (E := allE w) (k := .u8) (e := .u8 (BitVec.ofInt 8 z)) (by rw [e]; exact hz)
    rwa [e] at this
theorem opd_bool {P : Program} {t : TypeId} (ht : P.underlying t = some .bool) : OpD P t (fun b : Bool => [.bool (.var b)]) (fun _ => True) := fun enc w spare held fuel cs x h => by
  obtain ⟨z, rfl, _⟩ := DataW.trod_bool ht h
  refine ⟨z, trivial, rfl, fun i d v hd hv => ?_⟩
  match i, hd, hv with
  | 0, hd, hv => cases hd; cases hv; exact .bool (e := .var z)
abbrev slC {α : Type} (n : Nat) (c : α → List D) (p : Bool × List α) : List D := [.slm n (some (.var p.1)) c p.2]
theorem opd_slice {α : Type} {P : Program} {t e : TypeId} {n : Nat} {c : α → List D} {ok : α → Prop} (ht : P.underlying t = some (.slice e)) (hn : P.cellsOf e = n) (hpos : 0 < n) (hR : OpD P e c ok) (hc : ∀ a, (c a).length = n) :
    OpD P t (slC n c) (fun p => (p.1 = true → p.2 = []) ∧ (∀ x ∈ p.2, ok x) ∧ p.2.length ≤ maxLen) := fun enc w spare held fuel cs x h => by
  rcases Go.Deep.open_slice ht h with ⟨rfl, _⟩ | ⟨a, len, cap, m, k, D, Pl, rfl, _, hl, hm, hmm, _, hx⟩
  · refine ⟨(true, []), ⟨fun _ => rfl, fun x h => by simp at h, by simp⟩, rfl, fun i d v hd hv => ?_⟩
    match i, hd, hv with
    | 0, hd, hv =>
      cases hd; cases hv
      exact DRep.slm (a := none) (fun _ _ => undef) (fun e he => by cases he; rfl) (Nat.le_refl _) (Nat.zero_le _) (fun x hx => by simp at hx) (fun h => absurd rfl h) (fun i x j d h => by simp at h)
  · have hlm : len ≤ m := by rw [hmm]; split <;> omega
    have e0 : ∀ i, i < m → ∃ z : α, ∃ es, (ok z ∧ es.length = (c z).length ∧ ∀ (i : Nat) d v, (c z)[i]? = some d → es[i]? = some v → DRep w (allE w) d v) ∧ w.cells? 0 (a.add (i * n)) n = some es := fun i hi => by
      obtain ⟨es, h2, h3⟩ := hx i hi
      rw [hn] at h2
      obtain ⟨z, hz⟩ := hR enc w spare held k es _ h3
      exact ⟨z, es, hz, h2⟩
    by_cases h0 : len = 0
    · subst h0
      refine ⟨(false, []), ⟨fun h => by simp at h, fun x h => by simp at h, by simp⟩, rfl, fun i d v hd hv => ?_⟩
      match i, hd, hv with
      | 0, hd, hv =>
        cases hd; cases hv
        exact DRep.slm (a := some a) (fun _ _ => undef) (fun e he => by cases he; rfl) (Nat.zero_le _) hm (fun x hx => by simp at hx) (fun h => absurd rfl h) (fun i x j d h => by simp at h)
    · obtain ⟨z0, _⟩ := e0 0 (by omega)
      have : Inhabited α := ⟨z0⟩
      obtain ⟨z, hz⟩ := Go.Deep.choose_lt e0
      obtain ⟨b, off, spot⟩ := a
      have hspot : spot = none := by
        obtain ⟨es0, _, hc0⟩ := hz 0 (by omega)
        obtain ⟨_, hlen0, hcell0⟩ := World.cells?_some hc0
        have this := hcell0 0 hpos
        rw [List.getElem?_eq_getElem (by omega)] at this
        have h9 := World.cell?_spot this
        simpa [Addr.add] using h9
      subst hspot
      have cell : ∀ i, i < len → ∃ es : List Value, (∀ j, j < n → w.cell? ⟨b, off + i * n + j, none⟩ = es[j]?) ∧ es.length = n ∧ (ok (z i) ∧ es.length = (c (z i)).length ∧ ∀ (j : Nat) d v, (c (z i))[j]? = some d → es[j]? = some v → DRep w (allE w) d v) := fun i hi => by
        obtain ⟨es, hr, hcc⟩ := hz i (by omega)
        obtain ⟨_, hlen, hcell⟩ := World.cells?_some hcc
        refine ⟨es, fun j hj => ?_, hlen, hr⟩
        have := hcell j hj
        rw [add_none, add_none] at this
        exact this
      have hbl : b < w.heap.size := by
        obtain ⟨es, h1, h2, _⟩ := cell 0 (by omega)
        have := h1 0 hpos
        rw [List.getElem?_eq_getElem (by omega)] at this
        exact World.block_lt_of_cell? w ⟨b, _, none⟩ this
      refine ⟨(false, (List.range len).map z), ⟨fun h => by simp at h, fun x hx => ?_, by simp; omega⟩, rfl, fun i d v hd hv => ?_⟩
      · simp only [List.mem_map, List.mem_range] at hx
        obtain ⟨i, hi, rfl⟩ := hx
        obtain ⟨_, _, _, h3, _⟩ := cell i hi
        exact h3
      · match i, hd, hv with
        | 0, hd, hv =>
          cases hd; cases hv
          have hl2 : ((List.range len).map z).length = len := by simp
          have key := DRep.slm (w := w) (E := allE w) (n := n) (nb := some (.var false)) (c := c) (l := (List.range len).map z) (a := some ⟨b, off, none⟩) (cap := cap) (fun i j => (w.cell? ⟨b, off + i * n + j, none⟩).getD undef) (fun e he => by cases he; rfl) (by omega) hm (fun x hx => hc x) (fun _ => ⟨b, off, rfl, hbl, fun i j hi hj => ?_⟩) fun i x j d hx hd => ?_
          · rwa [hl2] at key
          · obtain ⟨es, h1, h2, _⟩ := cell i (by omega)
            rw [h1 j hj, List.getElem?_eq_getElem (by omega)]
            rfl
          · simp only [List.getElem?_map, Option.map_eq_some_iff] at hx
            obtain ⟨i', hi', rfl⟩ := hx
            obtain ⟨hlt, rfl⟩ := List.getElem?_eq_some_iff.1 hi'
            simp only [List.getElem_range] at hd ⊢
            obtain ⟨es, h1, h2, _, h3, h4⟩ := cell i (by simpa using hlt)
            have hj := (List.getElem?_eq_some_iff.1 hd).1
            rw [h1 j (by omega), List.getElem?_eq_getElem (by omega)]
            exact h4 j d _ hd (List.getElem?_eq_getElem (by omega))
section
variable {H : Type} {enc : TypeId × Value → H} {P : Program} {w : World} {spare : Nat → Bool} {held : Bool} {v : Value} {d : DataW H} {p : List MemPlace} {r : Reach} {b0 : Nat} {t : TypeId} {α : Type}
theorem open_sl {e : TypeId} {n : Nat} {c : α → List D} {ok : Bool × List α → Prop} (ht : P.underlying t = some (.slice e)) (ho : OpD P t (slC n c) ok) (hv : Value.okWide P w r b0 t v) (h : DataW.Trod enc P w 0 spare held t v d p) : ∃ p, ok p ∧ DRep w (allE w) (.slm n (some (.var p.1)) c p.2) v := by
  obtain ⟨a, m, k, rfl⟩ := okWide_slice ht hv
  obtain ⟨fuel, hf⟩ := h
  obtain ⟨p, h1, h2, h3⟩ := ho enc w spare held fuel _ _ hf
  exact ⟨p, h1, h3 0 _ _ rfl rfl⟩
theorem open_st {fs : Array Field} {c : α → List D} {ok : α → Prop} (ht : P.underlying t = some (.struct fs)) (ho : OpD P t c ok) (hv : Value.okWide P w r b0 t v) (h : DataW.Trod enc P w 0 spare held t v d p) : ∃ a, ok a ∧ DRep w (allE w) (.agg (c a)) v := by
  obtain ⟨cs, rfl, _⟩ := okWide_struct ht hv
  obtain ⟨fuel, hf⟩ := h
  obtain ⟨a, h1, h2, h3⟩ := ho enc w spare held fuel cs.toList _ hf
  exact ⟨a, h1, .agg (by rw [← h2]; simp) fun i d v hd hv => h3 i d v hd (by simpa using hv)⟩
theorem open_i (ht : P.underlying t = some (.int .i64)) (hv : Value.okWide P w r b0 t v) (h : DataW.Trod enc P w 0 spare held t v d p) : ∃ z, InR .i64 z ∧ DRep w (allE w) (.int .i64 (.var z)) v := by
  obtain ⟨z, rfl, rfl, rfl, wf⟩ := open_int ht hv h
  exact ⟨z, InR.of_wf wf, .int (e := .var z) (InR.of_wf wf)⟩
end
theorem LRep.nil {w : World} {E : Env} : LRep w E [] #[] := ⟨rfl, fun i d v h => by simp at h⟩
theorem lrep_cons {w : World} {E : Env} {d : D} {l : List D} {v : Value} {vs : List Value} (h : DRep w E d v) (r : LRep w E l ⟨vs⟩) : LRep w E (d :: l) ⟨v :: vs⟩ := by
  refine ⟨by have := r.1; simp at this ⊢; omega, fun i d' v' hd hv => ?_⟩
  cases i with
  | zero => simp at hd hv; subst hd hv; exact h
  | succ i => exact r.2 i d' v' (by simpa using hd) (by simpa using hv)
theorem Pure.law {P : Program} {f : Nat} {args : List D} {w : World} {vs : List Value} (h : Pure P f args (.bool (.var true))) (hL : Laid w (allE w).G) (hr : LRep w (allE w) args ⟨vs⟩) : Calls P f ⟨vs⟩ w fun e w' => e = .returned (.bool true) ∧ Below w.heap.size w w' := by
  refine (h.2 w _ _ hL (fun _ hb => hb) hr).mono ?_
  rintro e w' ⟨v, G', rfl, h2, _, _, _, h6⟩
  cases h6
  exact ⟨rfl, h2⟩
theorem open_u8 {H : Type} {enc : TypeId × Value → H} {P : Program} {w : World} {spare : Nat → Bool} {held : Bool} {v : Value} {d : DataW H} {p : List MemPlace} {r : Reach} {b0 : Nat} {t : TypeId} (ht : P.underlying t = some (.int .u8)) (hv : Value.okWide P w r b0 t v) (h : DataW.Trod enc P w 0 spare held t v d p) : ∃ b : BitVec 8, DRep w (allE w) (.int .u8 (.u8 b)) v := by
  obtain ⟨z, rfl, _, _, _⟩ := open_int ht hv h
  obtain ⟨fuel, hf⟩ := h
  obtain ⟨b, _, _, h3⟩ := opd_u8 ht enc w spare held fuel _ _ hf
  exact ⟨b, h3 0 _ _ rfl rfl⟩
end Go.Proofs.YtaopkjgldokahaaGreatDoor
namespace Go.Proofs.YtaopkjgldokahaaGreatDoor
open Go.ChangeShapes Go.WideShapes Go.ChangeAt Go.RowKit

/-! The arguments of the laws, and the laid table. -/
abbrev intsOK (p : Bool × List Int) : Prop := (p.1 = true → p.2 = []) ∧ (∀ x ∈ p.2, True) ∧ p.2.length ≤ maxLen
theorem opd_ints : OpD Tryz.prog 30 (slC 1 intC) intsOK := opd_slice (n := 1) (e := 3) (by kernel_rfl) (by kernel_rfl) (by decide) (opd_int (by kernel_rfl)) (fun _ => rfl)
structure IssuedD.fine (x : IssuedD) : Prop where
  nil : x.nil = true → x.values = []
  len : x.values.length ≤ maxLen
structure SeenD.fine (s : SeenD) : Prop where
  nilf : s.nilf = true → s.fields = []
  lenf : s.fields.length ≤ maxLen
  nilv : s.nilv = true → s.values = []
  lenv : s.values.length ≤ maxLen
set_option maxRecDepth 20000 in
theorem opd_issued : OpD Tryz.prog 52 IssuedD.c IssuedD.fine := fun enc w spare held fuel cs x h => by
  obtain ⟨xs, m, _, _, hl, hlen, hf⟩ := DataW.trod_struct Tryz.underlying52 h
  replace hl : cs.length = 3 := hl.trans (by kernel_rfl)
  replace hlen : xs.length = 3 := hlen
  match cs, hl, hf with
  | [c0, c1, c2], _, hf =>
    have h0 := hf 0 _ rfl
    rw [List.getElem?_eq_getElem (by omega)] at h0
    have h1 := hf 1 _ rfl
    rw [List.getElem?_eq_getElem (by omega)] at h1
    have h2 := hf 2 _ rfl
    rw [List.getElem?_eq_getElem (by omega)] at h2
    obtain ⟨y0, _, _, e0⟩ := opd_int (P := Tryz.prog) (by kernel_rfl) enc w spare held m [c0] _ h0
    obtain ⟨y1, _, _, e1⟩ := opd_int (P := Tryz.prog) (by kernel_rfl) enc w spare held m [c1] _ h1
    obtain ⟨y2, k2, _, e2⟩ := opd_ints enc w spare held m [c2] _ h2
    refine ⟨⟨y0, y1, y2.1, y2.2⟩, ⟨k2.1, k2.2.2⟩, rfl, fun i d v hd hv => ?_⟩
    match i, hd, hv with
    | 0, hd, hv => cases hd; cases hv; exact e0 0 _ _ rfl rfl
    | 1, hd, hv => cases hd; cases hv; exact e1 0 _ _ rfl rfl
    | 2, hd, hv => cases hd; cases hv; exact e2 0 _ _ rfl rfl
set_option maxRecDepth 20000 in
theorem opd_seen : OpD Tryz.prog 32 SeenD.c SeenD.fine := fun enc w spare held fuel cs x h => by
  obtain ⟨xs, m, _, _, hl, hlen, hf⟩ := DataW.trod_struct Tryz.underlying32 h
  replace hl : cs.length = 4 := hl.trans (by kernel_rfl)
  replace hlen : xs.length = 4 := hlen
  match cs, hl, hf with
  | [c0, c1, c2, c3], _, hf =>
    have h0 := hf 0 _ rfl
    rw [List.getElem?_eq_getElem (by omega)] at h0
    have h1 := hf 1 _ rfl
    rw [List.getElem?_eq_getElem (by omega)] at h1
    have h2 := hf 2 _ rfl
    rw [List.getElem?_eq_getElem (by omega)] at h2
    have h3 := hf 3 _ rfl
    rw [List.getElem?_eq_getElem (by omega)] at h3
    obtain ⟨y0, _, _, e0⟩ := opd_int (P := Tryz.prog) (by kernel_rfl) enc w spare held m [c0] _ h0
    obtain ⟨y1, _, _, e1⟩ := opd_int (P := Tryz.prog) (by kernel_rfl) enc w spare held m [c1] _ h1
    obtain ⟨y2, k2, _, e2⟩ := opd_ints enc w spare held m [c2] _ h2
    obtain ⟨y3, k3, _, e3⟩ := opd_ints enc w spare held m [c3] _ h3
    refine ⟨⟨y0, y1, y2.1, y2.2, y3.1, y3.2⟩, ⟨k2.1, k2.2.2, k3.1, k3.2.2⟩, rfl, fun i d v hd hv => ?_⟩
    match i, hd, hv with
    | 0, hd, hv => cases hd; cases hv; exact e0 0 _ _ rfl rfl
    | 1, hd, hv => cases hd; cases hv; exact e1 0 _ _ rfl rfl
    | 2, hd, hv => cases hd; cases hv; exact e2 0 _ _ rfl rfl
    | 3, hd, hv => cases hd; cases hv; exact e3 0 _ _ rfl rfl
theorem opd_issueds : OpD Tryz.prog 22 (slC 3 IssuedD.c) (fun p => (p.1 = true → p.2 = []) ∧ (∀ x ∈ p.2, x.fine) ∧ p.2.length ≤ maxLen) := opd_slice (n := 3) (e := 52) (by kernel_rfl) (by kernel_rfl) (by decide) opd_issued (fun _ => rfl)
structure CoalD.fine (x : CoalD) : Prop where
  nil : x.nil = true → x.l = []
  len : x.l.length ≤ maxLen
theorem opd_coal : OpD Tryz.prog 30 CoalD.c CoalD.fine := fun enc w spare held fuel cs x h => by
  obtain ⟨p, k, h1, h2⟩ := opd_ints enc w spare held fuel cs x h
  exact ⟨⟨p.1, p.2⟩, ⟨k.1, k.2.2⟩, h1, h2⟩
theorem opd_coals : OpD Tryz.prog 23 (slC 1 CoalD.c) (fun p => (p.1 = true → p.2 = []) ∧ (∀ x ∈ p.2, x.fine) ∧ p.2.length ≤ maxLen) := opd_slice (n := 1) (e := 30) (by kernel_rfl) (by kernel_rfl) (by decide) opd_coal (fun _ => rfl)
set_option maxRecDepth 20000 in
theorem opd_tok : OpD Tryz.prog 29 tokC (fun _ => True) := fun enc w spare held fuel cs x h => by
  obtain ⟨xs, m, _, _, hl, hlen, hf⟩ := DataW.trod_array (n := 32) (e := 5) (by kernel_rfl) h
  replace hl : cs.length = 32 := hl.trans (by kernel_rfl)
  have c5 : Tryz.prog.cellsOf 5 = 1 := by kernel_rfl
  have hcell : ∀ i, i < 32 → ∃ z, cs[i]? = some (.int .u8 z) ∧ InR .u8 z := fun i hi => by
    have h0 := hf i hi
    rw [List.getElem?_eq_getElem (by omega), c5] at h0
    obtain ⟨k, e1, e2, e3⟩ := DataW.trod_int Tryz.underlying5 h0
    have e5 := congrArg (·[0]?) e1
    rw [List.getElem?_take, if_pos (by decide), List.getElem?_drop] at e5
    simp at e5
    exact ⟨k, e5, InR.of_wf e3⟩
  refine ⟨fun i => if h : i < 32 then Classical.choose (hcell i h) else 0, trivial, hl, fun i d v hd hv => ?_⟩
  have hi : i < 32 := by have := (List.getElem?_eq_some_iff.1 hv).1; omega
  obtain ⟨q1, q2⟩ := Classical.choose_spec (hcell i hi)
  replace hd : ((List.range 32).map fun j => (.int .u8 (.var (if h : j < 32 then Classical.choose (hcell j h) else 0)) : D))[i]? = some d := hd
  rw [List.getElem?_map, List.getElem?_range hi] at hd
  simp only [Option.map_some, Option.some.injEq] at hd
  subst hd
  rw [q1] at hv
  cases hv
  rw [dif_pos hi]
  exact .int (e := .var _) q2
structure SightD.fine (s : SightD) : Prop where
  seen : s.seen.fine
set_option maxRecDepth 20000 in
theorem opd_sight : OpD Tryz.prog 34 SightD.c SightD.fine := fun enc w spare held fuel cs x h => by
  obtain ⟨xs, m, _, _, hl, hlen, hf⟩ := DataW.trod_struct Tryz.underlying34 h
  replace hl : cs.length = 37 := hl.trans (by kernel_rfl)
  replace hlen : xs.length = 3 := hlen
  have k3 : Tryz.prog.cellsOf 3 = 1 := by kernel_rfl
  have k51 : Tryz.prog.cellsOf 29 = 32 := by kernel_rfl
  have k49 : Tryz.prog.cellsOf 32 = 4 := by kernel_rfl
  have h0 := hf 0 _ rfl
  rw [List.getElem?_eq_getElem (by omega)] at h0
  have h1 := hf 1 _ rfl
  rw [List.getElem?_eq_getElem (by omega)] at h1
  have h2 := hf 2 _ rfl
  rw [List.getElem?_eq_getElem (by omega)] at h2
  obtain ⟨y0, _, l0, e0⟩ := opd_int (P := Tryz.prog) (by kernel_rfl) enc w spare held m _ _ h0
  obtain ⟨y1, _, l1, e1⟩ := opd_tok enc w spare held m _ _ h1
  obtain ⟨y2, q2, l2, e2⟩ := opd_seen enc w spare held m _ _ h2
  replace e0 : ∀ (i : Nat) d v, ([.int .i64 (.var y0)] : List D)[i]? = some d → ((cs.drop 0).take 1)[i]? = some v → DRep w (allE w) d v := fun i d v a b => e0 i d v a (by rw [← k3] at b; exact b)
  replace e1 : ∀ (i : Nat) d v, (tokC y1)[i]? = some d → ((cs.drop 1).take 32)[i]? = some v → DRep w (allE w) d v := fun i d v a b => e1 i d v a (by rw [← k51] at b; exact b)
  replace e2 : ∀ (i : Nat) d v, y2.c[i]? = some d → ((cs.drop 33).take 4)[i]? = some v → DRep w (allE w) d v := fun i d v a b => e2 i d v a (by rw [← k49] at b; exact b)
  refine ⟨⟨y0, y1, y2⟩, ⟨q2⟩, hl, fun i d v hd hv => ?_⟩
  have hi : i < 37 := by have := (List.getElem?_eq_some_iff.1 hv).1; omega
  have hc : SightD.c ⟨y0, y1, y2⟩ = [.int .i64 (.var y0)] ++ (tokC y1 ++ y2.c) := rfl
  rw [hc] at hd
  by_cases a0 : i < 1
  · refine e0 i d v (by rw [List.getElem?_append_left (by simpa using a0)] at hd; exact hd) ?_
    rw [List.getElem?_take, if_pos a0, List.getElem?_drop, Nat.zero_add]
    exact hv
  · rw [List.getElem?_append_right (by simp; omega)] at hd
    by_cases a1 : i < 33
    · refine e1 (i - 1) d v (by rw [List.getElem?_append_left (by simp; omega)] at hd; exact hd) ?_
      rw [List.getElem?_take, if_pos (by omega), List.getElem?_drop, show 1 + (i - 1) = i by omega]
      exact hv
    · rw [List.getElem?_append_right (by simp; omega)] at hd
      refine e2 (i - 33) d v (by simp only [List.length_cons, List.length_nil] at hd; rw [show i - 1 - 32 = i - 33 by omega] at hd; exact hd) ?_
      rw [List.getElem?_take, if_pos (by omega), List.getElem?_drop, show 33 + (i - 33) = i by omega]
      exact hv
theorem opd_sights : OpD Tryz.prog 24 (slC 37 SightD.c) (fun p => (p.1 = true → p.2 = []) ∧ (∀ x ∈ p.2, x.fine) ∧ p.2.length ≤ maxLen) := opd_slice (n := 37) (e := 34) (by kernel_rfl) (by kernel_rfl) (by decide) opd_sight (fun _ => rfl)
abbrev u8C (b : BitVec 8) : List D := [.int .u8 (.u8 b)]
theorem maxLen_eq : maxLen = 9223372036854775807 := by unfold maxLen; rfl
abbrev laidR {H : Type} : List (String × DataW H) := [("math/bits.deBruijn64tab", Rows.laid_math_bits_deBruijn64tab)]
theorem gTab : Tryz.prog.globalNamed "math/bits.deBruijn64tab" = some 0 := by kernel_rfl
theorem tTab : (Tryz.prog.globals[0]?).map (·.type) = some 138 := by kernel_rfl
theorem uTab : Tryz.prog.underlying 138 = some (.array 64 5) := by kernel_rfl
theorem door_met (os : Os) (args : Array Value) : laidMetH Tryz.prog laidR ((World.doorLaid Tryz.prog 400 os).forCall (fun _ _ => 0) ⟨#[], args, []⟩).memory :=
  laidMetH_of_parts3 (fuel := 8) (laidMet_of_run' 8 (by kernel_rfl) (by kernel_rfl)) (by kernel_rfl) (by kernel_rfl)
theorem tab_list {H : Type} : (Rows.laid_math_bits_deBruijn64tab : DataW H) = .agg ((List.range 64).map fun i => .lit (.int .u8 (bruijn i))) := rfl
set_option maxRecDepth 20000 in
/-- what the condition gives: the table lies in block 0 -/
theorem of_laid {W : World} (h : laidMetH Tryz.prog laidR W) : Laid W (allE W).G := by
  rw [MakeChecks.laidMetH_plain _ _ _ (by kernel_rfl)] at h
  obtain ⟨ps, ⟨g0, t0, cs0, f0, p0, q0, hg0, ht0, hv0, hd0, _⟩, _, _⟩ := h
  obtain rfl := Option.some.inj (gTab.symm.trans hg0)
  obtain rfl := Option.some.inj (tTab.symm.trans ht0)
  obtain ⟨xs, m1, rfl, hx1, hlen, hn3, hel⟩ := DataW.trod_array uTab hd0
  have c5 : Tryz.prog.cellsOf 5 = 1 := by kernel_rfl
  replace hlen : cs0.toList.length = 64 := hlen.trans (by kernel_rfl)
  simp only [Prod.mk.injEq] at hx1
  have hx2 := hx1.1
  rw [tab_list] at hx2
  simp only [DataW.agg.injEq] at hx2
  have hcell : ∀ i, i < 64 → cs0[i]? = some (.int .u8 (bruijn i)) ∧ InR .u8 (bruijn i) := fun i hi => by
    have h0 := hel i hi
    rw [List.getElem?_eq_getElem (by omega), c5] at h0
    obtain ⟨k, e1, e2, e3⟩ := DataW.trod_int Tryz.underlying5 h0
    have e4 := congrArg (·[i]?) hx2
    simp only [List.getElem?_map, List.getElem?_range hi, Option.map_some] at e4
    rw [List.getElem?_eq_getElem (by omega)] at e4
    simp only [Option.map_some, Option.some.injEq] at e4
    rw [e2] at e4
    simp only [DataW.lit.injEq, Lit.int.injEq, true_and] at e4
    subst e4
    have e5 := congrArg (·[0]?) e1
    rw [List.getElem?_take, if_pos (by decide), List.getElem?_drop] at e5
    simp at e5
    refine ⟨e5, ?_⟩
    unfold Lit.wf at e3
    simp only [Bool.and_eq_true, decide_eq_true_eq] at e3
    exact e3
  intro p hp
  simp only [laidL, List.mem_singleton] at hp
  subst hp
  have hsz : 0 < W.heap.size := by
    have := World.var?_cell gTab hv0 0
    rw [(hcell 0 (by decide)).1] at this
    refine Nat.lt_of_not_le fun q => ?_
    have hn : W.heap[0]? = none := Array.getElem?_eq_none (by omega)
    unfold World.cell? at this
    rw [hn] at this
    cases this
  refine DRep.dpa (base := 0) hsz fun i hi => ?_
  obtain ⟨q1, q2⟩ := hcell i hi
  refine ⟨?_, q2⟩
  rw [Nat.zero_add, World.var?_cell gTab hv0]
  exact q1
end Go.Proofs.YtaopkjgldokahaaGreatDoor
namespace Go.Proofs.YtaopkjgldokahaaGreatDoor
open Go.RowKit

/-! The reference of the account: coalition, coalitions, sets. -/
set_option maxRecDepth 100000 in
set_option maxHeartbeats 4000000 in
theorem rcoal_pure (l : List Int) (nb : Option BE) (hl : l.length < 9223372036854775807) : Pure Tryz.prog 50 [.slm 1 nb intC l] (boolD (coalB l)) := by
  obtain ⟨r, hr⟩ : ∃ r, r = coalB l := ⟨_, rfl⟩
  rw [← hr]
  unfold coalB at hr
  obtain ⟨n, hn⟩ : ∃ n : Nat, n = l.length := ⟨_, rfl⟩
  obtain ⟨prev, hprev⟩ : ∃ f : Nat → Int, f = fun k => if k = 0 then -1 else (l[k - 1]?).getD 0 := ⟨_, rfl⟩
  obtain ⟨g, hg⟩ : ∃ f, f = ascB := ⟨_, rfl⟩
  rw [← hg] at hr
  have g0 : ∀ v, g v [] = true := fun v => by rw [hg]; rfl
  have g1 : ∀ v x c, g v (x :: c) = (decide (v < x ∧ x < 8) && g x c) := fun v x c => by rw [hg]; rfl
  have r0 : g (-1) l = false → r = false := fun h => by rw [hr, h]; simp
  have hp00 : prev 0 = -1 := by rw [hprev]; rfl
  clear hg
  refine Pure.intro (want := [boolD r]) T_ok follows Tryz.func50 rfl (by kernel_rfl) (rs := [.tmp 2]) rfl (by kernel_rfl) ?_
  generalize hP : Tryz.prog = P at *
  have hT : T.ok P := hP ▸ T_ok
  have hm : P.follows .mixedOrders = true := hP ▸ follows
  unfold Tryz.f50
  dsimp only
  cbv
  refine CodeP.loopc hT hm (X := Nat) (fun k => [(3, .int .i64 (.nat k))]) (fun k => k ≤ l.length ∧ g (-1) l = g (prev k) (l.drop k) ∧ (0 < k → 0 ≤ prev k)) (fun k => n - k) 0 ⟨by simp, by rw [hp00]; rfl, fun h => by omega⟩ (by simp) ?_ rfl ?_
  · (cbv; (repeat' (first | exact SnD.refl _ | exact trivial | exact SnD.nat0 | refine And.intro ?_ ?_)))
  intro k ⟨hk, hq, hpos⟩
  cbv
  refine SplitP.mk (fun hs => ?_) (fun hs => ?_)
  · have hkn : k < l.length := by
      have h5 : decide ((k : Int) < (l.length : Int)) = true := hs
      have := of_decide_eq_true h5
      omega
    clear hs
    refine DrawP.mk (by kernel_rfl) ?_
    cbv
    refine ElemP.mk (by show (0 : Int) ≤ (k : Int) ∧ (k : Int) < (l.length : Int); omega) (fun f hf1 => ?_)
    replace hf1 : l[k]? = some f := hf1
    rw [drop_cons hf1, g1] at hq
    have hp0 : k = 0 → prev k = -1 := fun e => by rw [hprev]; simp [e]
    have hp1 : prev (k + 1) = f := by rw [hprev]; simp [hf1]
    cbv
    refine SplitP.mk (fun h4 => ?_) (fun h4 => ?_) <;> simp only [BE.lss_t, BE.lss_f, IE.var_d, IE.lit_d] at h4
    · have hk0 : prev k < f ∧ f < 8 → False := fun h => by
        rcases Nat.eq_zero_or_pos k with q | q
        · have := hp0 q; omega
        · have := hpos q; omega
      refine .mk (.cons (.eq (.bool ?_)) .nil) rfl
      rw [BE.lit_d, BE.var_d]
      rw [r0 (by rw [hq, decide_eq_false (fun h => hk0 h)]; rfl)]
    refine ElemP.mk (by show (0 : Int) ≤ (k : Int) ∧ (k : Int) < (l.length : Int); omega) (fun zz hzz => ?_)
    replace hzz : l[k]? = some zz := hzz
    rw [hf1] at hzz
    cases hzz
    cbv
    refine SplitP.mk (fun h5 => ?_) (fun h5 => ?_) <;> simp only [BE.geq_t, BE.geq_f, IE.var_d, IE.lit_d] at h5
    · refine .mk (.cons (.eq (.bool ?_)) .nil) rfl
      rw [BE.lit_d, BE.var_d]
      rw [r0 (by rw [hq, decide_eq_false (fun h => by omega)]; rfl)]
    refine SplitP.mk (fun h6 => ?_) (fun h6 => ?_)
    · have hk0 : 0 < k := by have := of_decide_eq_true (show decide ((k : Int) > 0) = true from h6); omega
      have e1 : IE.den (.bin .sub .i64 (.nat k) (.lit 1)) = ((k - 1 : Nat) : Int) := by
        show binDen .sub .i64 (k : Int) 1 = _
        rw [sub64 (by omega) (by omega)]
        omega
      refine ElemP.mk (by rw [e1]; constructor <;> omega) (fun p hp => ?_)
      rw [e1] at hp
      replace hp : l[k - 1]? = some p := hp
      have hpp : prev k = p := by rw [hprev]; simp [hp]; omega
      cbv
      refine ElemP.mk (by show (0 : Int) ≤ (k : Int) ∧ (k : Int) < (l.length : Int); omega) (fun zz hzz => ?_)
      replace hzz : l[k]? = some zz := hzz
      rw [hf1] at hzz
      cases hzz
      cbv
      refine SplitP.mk (fun h7 => ?_) (fun h7 => ?_) <;> simp only [BE.geq_t, BE.geq_f, IE.var_d] at h7
      · refine .mk (.cons (.eq (.bool ?_)) .nil) rfl
        rw [BE.lit_d, BE.var_d]
        rw [r0 (by rw [hq, decide_eq_false (by omega)]; rfl)]
      · refine BackP.intro (k + 1) ⟨by omega, by rw [hq, hp1, decide_eq_true (by omega)]; rfl, fun _ => by rw [hp1]; omega⟩ (by show n - (k + 1) < n - k; omega) ⟨?_, HEnt.refl _, rfl⟩
        (cbv; (repeat' (first | exact SnD.refl _ | exact trivial | exact SnD.nat0 | refine And.intro ?_ ?_)))
        exact .inc (by omega)
    · have hk0 : k = 0 := by have := of_decide_eq_false (show decide ((k : Int) > 0) = false from h6); omega
      have := hp0 hk0
      refine BackP.intro (k + 1) ⟨by omega, by rw [hq, hp1, decide_eq_true (by omega)]; rfl, fun _ => by rw [hp1]; omega⟩ (by show n - (k + 1) < n - k; omega) ⟨?_, HEnt.refl _, rfl⟩
      (cbv; (repeat' (first | exact SnD.refl _ | exact trivial | exact SnD.nat0 | refine And.intro ?_ ?_)))
      exact .inc (by omega)
  · have hkn : l.length ≤ k := by
      have h5 : decide ((k : Int) < (l.length : Int)) = false := hs
      have := of_decide_eq_false h5
      omega
    clear hs
    have r1 : g (-1) l = true := by rw [hq, List.drop_of_length_le (by omega), g0]
    rw [r1, Bool.and_true] at hr
    refine .mk (.cons (.eq (.bool ?_)) .nil) rfl
    show decide ((l.length : Int) > 0) = r
    rw [hr]
    exact decide_eq_decide.2 ⟨fun h => by omega, fun h => by omega⟩
set_option maxRecDepth 100000 in
set_option maxHeartbeats 4000000 in
theorem rcoals_pure (l : List CoalD) (nb : Option BE) (hl : l.length < 9223372036854775807) (hx : ∀ x ∈ l, x.l.length < 9223372036854775807) : Pure Tryz.prog 31 [.slm 1 nb CoalD.c l] (boolD (coalsB l)) := by
  have hC := fun (x : CoalD) (h : x ∈ l) => rcoal_pure x.l (some (.var x.nil)) (hx x h)
  obtain ⟨r, hr⟩ : ∃ r, r = coalsB l := ⟨_, rfl⟩
  rw [← hr]
  obtain ⟨n, hn⟩ : ∃ n : Nat, n = l.length := ⟨_, rfl⟩
  unfold coalsB at hr
  obtain ⟨f, hf⟩ : ∃ f, f = coalB := ⟨_, rfl⟩
  rw [← hf] at hr hC
  clear hf
  have r0 : (l.all fun x => f x.l) = false → r = false := fun h => by rw [hr, h]; simp
  refine Pure.intro (want := [boolD r]) T_ok follows Tryz.func31 rfl (by kernel_rfl) (rs := [.tmp 2]) rfl (by kernel_rfl) ?_
  generalize hP : Tryz.prog = P at *
  have hT : T.ok P := hP ▸ T_ok
  have hm : P.follows .mixedOrders = true := hP ▸ follows
  unfold Tryz.f31
  dsimp only
  cbv
  refine CodeP.loopc hT hm (X := Nat) (fun k => [(3, .int .i64 (.nat k))]) (fun k => k ≤ l.length ∧ (l.all fun x => f x.l) = ((l.drop k).all fun x => f x.l)) (fun k => n - k) 0 ⟨by simp, rfl⟩ (by simp) ?_ rfl ?_
  · (cbv; (repeat' (first | exact SnD.refl _ | exact trivial | exact SnD.nat0 | refine And.intro ?_ ?_)))
  intro k ⟨hk, hq⟩
  cbv
  refine SplitP.mk (fun hs => ?_) (fun hs => ?_)
  · have hkn : k < l.length := by
      have h5 : decide ((k : Int) < (l.length : Int)) = true := hs
      have := of_decide_eq_true h5
      omega
    clear hs
    refine ElemP.mk (by show (0 : Int) ≤ (k : Int) ∧ (k : Int) < (l.length : Int); omega) (fun x hxk => ?_)
    replace hxk : l[k]? = some x := hxk
    have hCx := hC x (List.mem_of_getElem? hxk)
    rw [drop_cons hxk, List.all_cons] at hq
    obtain ⟨nl, c⟩ := x
    obtain ⟨b, hb⟩ : ∃ b, b = f c := ⟨_, rfl⟩
    simp only at hCx hq
    rw [← hb] at hCx hq
    cbv
    refine CallP.pure _ hCx rfl ?_
    cbv
    refine SplitP.mk (fun h4 => ?_) (fun h4 => ?_)
    · replace h4 : b = false := by simpa using (show (!b) = true from h4)
      refine .mk (.cons (.eq (.bool ?_)) .nil) rfl
      rw [BE.lit_d, BE.var_d]
      rw [r0 (by rw [hq, h4]; rfl)]
    replace h4 : b = true := by simpa using (show (!b) = false from h4)
    refine BackP.intro (k + 1) ⟨by omega, by rw [hq, h4, Bool.true_and]⟩ (by show n - (k + 1) < n - k; omega) ⟨?_, HEnt.refl _, rfl⟩
    (cbv; (repeat' (first | exact SnD.refl _ | exact trivial | exact SnD.nat0 | refine And.intro ?_ ?_)))
    exact .inc (by omega)
  · have hkn : l.length ≤ k := by
      have h5 : decide ((k : Int) < (l.length : Int)) = false := hs
      have := of_decide_eq_false h5
      omega
    clear hs
    have r1 : (l.all fun x => f x.l) = true := by rw [hq, List.drop_of_length_le (by omega)]; rfl
    rw [r1, Bool.and_true] at hr
    refine .mk (.cons (.eq (.bool ?_)) .nil) rfl
    show decide ((l.length : Int) ≤ 8) = r
    rw [hr]
    exact decide_eq_decide.2 ⟨fun h => by omega, fun h => by omega⟩
end Go.Proofs.YtaopkjgldokahaaGreatDoor
namespace Go.Proofs.YtaopkjgldokahaaGreatDoor
open Go.RowKit

/-! The reference's sets. -/
def rgroupOf (I : List IssuedD) (V : List SeenD) (n : Nat) : GroupD := ⟨(n : Int), !okOf I V (n : Int), ofA I V (n : Int)⟩
def rgrpsOf (I : List IssuedD) (L : List SightD) (x : CoalD) : GrpsD := ⟨false, (List.range (manyL x.l L)).map (rgroupOf I (viewL x.l L))⟩
def rsetsL (I : List IssuedD) (L : List SightD) (C : List CoalD) : List GrpsD := C.map (rgrpsOf I L)
set_option maxRecDepth 100000 in
set_option maxHeartbeats 4000000 in
theorem rsets_pure (a : AccountD) (hI : BigI a.issued) (hV : BigV a.sights) (hl : a.sights.length ≤ 1000) (hc : a.coal.length ≤ 1000000) (hcl : ∀ x ∈ a.coal, x.l.length < 9223372036854775807) :
    Pure Tryz.prog 33 [.agg a.c] (.slm 1 (some (.var false)) GrpsD.c (rsetsL a.issued a.sights a.coal)) := by
  have hW := fun (x : CoalD) (hx : x ∈ a.coal) => View_pure x.l a.sights (some (.var x.nil)) (some (.var a.ns)) (hcl x hx) hl
  have hO := fun (x : CoalD) (hx : x ∈ a.coal) (g : Int) => ROf_pure a.issued (viewL x.l a.sights) g (some (.var a.ni)) none hI (view_big hV hl)
  obtain ⟨ai, aI, ac, C, as_, S, az, Z⟩ := a
  simp only at hW hO hc hl
  simp only
  have hmn : ∀ c, manyL c S ≤ 1000 := fun c => Nat.le_trans (many_le c S) hl
  obtain ⟨f, hf⟩ : ∃ f : CoalD → GrpsD, f = rgrpsOf aI S := ⟨_, rfl⟩
  obtain ⟨vw, hvw⟩ : ∃ f : List Int → List SeenD, f = fun c => viewL c S := ⟨_, rfl⟩
  obtain ⟨mn, hmn'⟩ : ∃ f : List Int → Nat, f = fun c => manyL c S := ⟨_, rfl⟩
  obtain ⟨gg, hgg⟩ : ∃ f : List Int → Nat → GroupD, f = fun c n => rgroupOf aI (viewL c S) n := ⟨_, rfl⟩
  obtain ⟨nk, hnk⟩ : ∃ f : List Int → Int → Bool, f = fun c n => !okOf aI (viewL c S) n := ⟨_, rfl⟩
  obtain ⟨of, hof⟩ : ∃ f : List Int → Int → List Int, f = fun c n => ofA aI (viewL c S) n := ⟨_, rfl⟩
  obtain ⟨er, her⟩ : ∃ f : List Int → Int → Int, f = fun c n => if okOf aI (viewL c S) n then 0 else 300 := ⟨_, rfl⟩
  have hfx : ∀ n l, f ⟨n, l⟩ = ⟨false, (List.range (mn l)).map (gg l)⟩ := fun n l => by rw [hf, hmn', hgg]; rfl
  have hgx : ∀ c n, gg c n = ⟨(n : Int), nk c (n : Int), of c (n : Int)⟩ := fun c n => by rw [hgg, hnk, hof]; rfl
  replace hmn : ∀ c, mn c ≤ 1000 := fun c => by rw [hmn']; exact hmn c
  replace hW : ∀ x ∈ C, Pure Tryz.prog 53 [.slm 1 (some (.var x.nil)) intC x.l, .slm 37 (some (.var as_)) SightD.c S] (.tup [.slm 4 none SeenD.c (vw x.l), .int .i64 (.nat (mn x.l))]) := fun x hx => by rw [hvw, hmn']; exact hW x hx
  replace hO : ∀ x ∈ C, ∀ g, Pure Tryz.prog 54 [.slm 3 (some (.var ai)) IssuedD.c aI, .slm 4 none SeenD.c (vw x.l), i64 g] (.tup [.slm 1 (some (.var (nk x.l g))) intC (of x.l g), i64 (er x.l g)]) := fun x hx g => by rw [hvw, hnk, hof, her]; exact hO x hx g
  unfold rsetsL
  rw [← hf]
  obtain ⟨n, hn⟩ : ∃ n : Nat, n = C.length := ⟨_, rfl⟩
  obtain ⟨A, hA⟩ : ∃ A : Nat → List GrpsD, A = fun k => (C.take k).map f := ⟨_, rfl⟩
  have A0 : A 0 = [] := by rw [hA]; rfl
  have Al : ∀ k, k ≤ n → (A k).length = k := fun k hk => by rw [hA]; simp only; rw [List.length_map, List.length_take]; omega
  have As : ∀ k x, C[k]? = some x → A (k + 1) = A k ++ [f x] := fun k x hx => by
    rw [hA]
    simp only
    rw [List.take_add_one, hx, List.map_append]
    rfl
  obtain ⟨B, hB⟩ : ∃ B : List Int → Nat → List GroupD, B = fun c k => (List.range k).map (gg c) := ⟨_, rfl⟩
  have B0 : ∀ c, B c 0 = [] := fun c => by rw [hB]; rfl
  have Bl : ∀ c k, (B c k).length = k := fun c k => by rw [hB]; simp
  have Bs : ∀ c k, B c (k + 1) = B c k ++ [⟨(k : Int), nk c (k : Int), of c (k : Int)⟩] := fun c k => by
    rw [hB]
    simp only
    rw [List.range_succ, List.map_append, ← hgx]
    rfl
  replace hfx : ∀ n l, f ⟨n, l⟩ = ⟨false, B l (mn l)⟩ := fun n l => by rw [hfx, hB]
  obtain ⟨r, hr⟩ : ∃ r, r = C.map f := ⟨_, rfl⟩
  have Ae : A n = r := by rw [hA, hn, hr]; simp
  rw [← hr]
  clear hA hr hf hvw hmn' hgg hnk hof her hB hcl hI hV hgx
  refine Pure.intro (want := [.slm 1 (some (.var false)) GrpsD.c r]) T_ok follows Tryz.func33 rfl (by kernel_rfl) (rs := [.tmp 2]) rfl (by kernel_rfl) ?_
  generalize hP : Tryz.prog = P at *
  have hT : T.ok P := hP ▸ T_ok
  have hm : P.follows .mixedOrders = true := hP ▸ follows
  unfold Tryz.f33
  dsimp only
  cbv
  refine CodeP.loopm hT hm (X := Nat) (fun k => [(4, .int .i64 (.nat k)), (3, .osl 1 1 (k + 1) (.lit false) (.lit 0) (.nat k))])
    (fun k => [.cells [.slm 3 (some (.var ai)) IssuedD.c aI, .slm 1 (some (.var ac)) CoalD.c C, .slm 37 (some (.var as_)) SightD.c S, .slm 1 (some (.var az)) GrpsD.c Z], .row 58 1 (k + 1) (.map GrpsD.c (A k))]) (fun k => k ≤ n) (fun k => n - k) 0 (Nat.zero_le _) (fun _ => Nat.zero_le _) ⟨?_, ?_, rfl⟩ ?_
  · refine ⟨.nat0, .eq (.osl rfl rfl rfl), ?_⟩
    (cbv; (repeat' (first | exact SnD.refl _ | exact trivial | exact SnD.nat0 | refine And.intro ?_ ?_)))
  · rw [A0]
    exact ⟨.refl _, .row rfl, trivial⟩
  intro k hk
  replace hk : k ≤ n := hk
  cbv
  refine SplitP.mk (fun hs => ?_) (fun hs => ?_)
  · have hkn : k < C.length := by
      have h5 : decide ((k : Int) < (C.length : Int)) = true := hs
      have := of_decide_eq_true h5
      omega
    clear hs
    refine ElemP.mk (by show (0 : Int) ≤ (k : Int) ∧ (k : Int) < (C.length : Int); omega) (fun x hx => ?_)
    replace hx : C[k]? = some x := hx
    have hWx := hW x (List.mem_of_getElem? hx)
    have hOx := hO x (List.mem_of_getElem? hx)
    have g1 := As k x hx
    have g3 := Al k hk
    obtain ⟨x1, x2⟩ := x
    rw [hfx] at g1
    simp only at hWx hOx
    have hm1 := hmn x2
    have b0 := B0 x2
    have bl := Bl x2
    have bs := Bs x2
    obtain ⟨m, hm2⟩ : ∃ y, y = mn x2 := ⟨_, rfl⟩
    obtain ⟨V, hV⟩ : ∃ y, y = vw x2 := ⟨_, rfl⟩
    obtain ⟨nkx, h6⟩ : ∃ y, y = nk x2 := ⟨_, rfl⟩
    obtain ⟨ofx, h7⟩ : ∃ y, y = of x2 := ⟨_, rfl⟩
    obtain ⟨erx, h8⟩ : ∃ y, y = er x2 := ⟨_, rfl⟩
    obtain ⟨Bx, h9⟩ : ∃ y, y = B x2 := ⟨_, rfl⟩
    rw [← hm2, ← h9] at g1
    rw [← hm2] at hm1
    rw [← hm2, ← hV] at hWx
    rw [← hV, ← h6, ← h7, ← h8] at hOx
    rw [← h9, ← h6, ← h7] at bs
    rw [← h9] at b0 bl
    clear hm2 hV h6 h7 h8 h9
    cbv
    first
      | refine CallP.pure _ (hWx) rfl ?_
      | refine PureP.mk _ (hWx) rfl ?_
    cbv
    refine CodeP.loopm hT hm (X := Nat) (fun j => [(8, .int .i64 (.nat j)), (7, .osl 2 2 (j + 1) (.lit false) (.lit 0) (.nat j))])
      (fun j => [.cells [.slm 3 (some (.var ai)) IssuedD.c aI, .slm 1 (some (.var ac)) CoalD.c C, .slm 37 (some (.var as_)) SightD.c S, .slm 1 (some (.var az)) GrpsD.c Z], .row 58 1 (k + 1) (.map GrpsD.c (A k)), .row 57 2 (j + 1) (.map GroupD.c (Bx j))]) (fun j => j ≤ m) (fun j => m - j) 0 (Nat.zero_le _) (fun _ => Nat.zero_le _) ⟨?_, ?_, rfl⟩ ?_
    · refine ⟨.nat0, .eq (.osl rfl rfl rfl), ?_⟩
      (cbv; (repeat' (first | exact SnD.refl _ | exact trivial | exact SnD.nat0 | refine And.intro ?_ ?_)))
    · rw [b0]
      exact ⟨.refl _, .refl _, .row rfl, trivial⟩
    intro j hj
    replace hj : j ≤ m := hj
    cbv
    refine SplitP.mk (fun hs => ?_) (fun hs => ?_)
    · have hjm : j < m := by
        have h5 : decide ((j : Int) < (m : Int)) = true := hs
        have := of_decide_eq_true h5
        omega
      have hOj := Pure.args (.cons (.refl _) (.cons (.refl _) (.cons (.int (e := .nat j) (e' := .var (j : Int)) rfl) .nil))) (hOx (j : Int))
      first
        | refine CallP.pure _ (hOj) rfl ?_
        | refine PureP.mk _ (hOj) rfl ?_
      cbv
      have g4 := bs j
      have g5 := bl j
      refine ReqP.mk (app_ok g5 (by omega) (fun _ => rfl) rfl (by decide)) (fun _ => ?_)
      refine BackP.intro (j + 1) (by show j + 1 ≤ m; omega) (by show m - (j + 1) < m - j; omega) ⟨?_, ⟨.refl _, .refl _, row_app _ g4 (.cons (.int rfl) (.cons (.refl _) .nil)), trivial⟩, rfl⟩
      refine ⟨.inc (by omega), .eq (.osl rfl rfl rfl), ?_⟩
      (cbv; (repeat' (first | exact SnD.refl _ | exact trivial | exact SnD.nat0 | refine And.intro ?_ ?_)))
    · have hjm : j = m := by
        have h5 : decide ((j : Int) < (m : Int)) = false := hs
        have := of_decide_eq_false h5
        omega
      have hBl := bl j
      rw [← hjm] at g1
      refine OpsP.pre hT [(0, .agg [.slm 3 (some (.var ai)) IssuedD.c aI, .slm 1 (some (.var ac)) CoalD.c C, .slm 37 (some (.var as_)) SightD.c S, .slm 1 (some (.var az)) GrpsD.c Z]), (1, .ptr 0 1 0), (2, .nils), (11, .osl 1 1 1 (.lit false) (.lit 0) (.lit 0)), (4, .int .i64 (.nat k)), (3, .osl 1 1 (k + 1) (.lit false) (.lit 0) (.nat k)), (50, .osl 1 1 (k + 1) (.lit false) (.lit 0) (.nat k)), (51, .slm 2 (some (.var false)) GroupD.c (Bx j))]
        [.cells [.slm 3 (some (.var ai)) IssuedD.c aI, .slm 1 (some (.var ac)) CoalD.c C, .slm 37 (some (.var as_)) SightD.c S, .slm 1 (some (.var az)) GrpsD.c Z], .row 58 1 (k + 1) (.map GrpsD.c (A k)), .dead]
        ⟨⟨.refl _, .refl _, .refl _, .refl _, .refl _, .refl _, .refl _, .slm rfl (.inl ⟨_, _, rfl, rfl⟩) rfl (by simp only [IE.den]; rw [hBl]) (fun e h => by cases h; rfl), trivial⟩, ⟨.refl _, .refl _, .dead _, trivial⟩, rfl⟩ (Nat.zero_le _) ?_
      cbv
      refine ReqP.mk (app_ok g3 (by omega) (fun _ => rfl) rfl (by decide)) (fun _ => ?_)
      refine BackP.intro (k + 1) (by show k + 1 ≤ n; omega) (by show n - (k + 1) < n - k; omega) ⟨?_, ⟨.refl _, row_app _ g1 (.cons (.refl _) .nil), trivial⟩, rfl⟩
      refine ⟨.inc (by omega), .eq (.osl rfl rfl rfl), ?_⟩
      (cbv; (repeat' (first | exact SnD.refl _ | exact trivial | exact SnD.nat0 | refine And.intro ?_ ?_)))
  · have hkn : k = n := by
      have h5 : decide ((k : Int) < (C.length : Int)) = false := hs
      have := of_decide_eq_false h5
      omega
    refine .mk (.cons (.slm rfl (.inl ⟨_, _, rfl, by rw [← Ae, ← hkn]; rfl⟩) rfl (by simp only [IE.den]; rw [← Ae, ← hkn, Al k hk]) (fun e h => by cases h; rfl)) .nil) rfl
end Go.Proofs.YtaopkjgldokahaaGreatDoor
namespace Go.Proofs.YtaopkjgldokahaaGreatDoor
open Go.RowKit

/-! The reference of the account: Least, Check, New. -/
set_option maxRecDepth 100000 in
set_option maxHeartbeats 4000000 in
theorem RLeast_pure (a : AccountD) (hl : a.sets.length < 9223372036854775807) (hx : ∀ x ∈ a.sets, x.l.length < 9223372036854775807) : Pure Tryz.prog 21 [.agg a.c] (i64 (leastL a.sets)) := by
  obtain ⟨a1, a2, a3, a4, a5, a6, a7, l⟩ := a
  simp only at hl hx
  simp only
  obtain ⟨r, hr⟩ : ∃ r, r = leastL l := ⟨_, rfl⟩
  rw [← hr]
  obtain ⟨n, hn⟩ : ∃ n : Nat, n = l.length := ⟨_, rfl⟩
  unfold leastL at hr
  obtain ⟨g, hg⟩ : ∃ g, g = leastG := ⟨_, rfl⟩
  rw [← hg] at hr
  have g0 : ∀ v, g v [] = v := fun v => by rw [hg]; rfl
  have g1 : ∀ v x1 x2 x3 c, g v (⟨x1, x2, x3⟩ :: c) = g (min v (x3.length : Int)) c := fun v x1 x2 x3 c => by rw [hg]; rfl
  obtain ⟨f, hf⟩ : ∃ f : Int → List GrpsD → Int, f = fun v l => l.foldl (fun n x => g n x.l) v := ⟨_, rfl⟩
  have f0 : ∀ v, f v [] = v := fun v => by rw [hf]; rfl
  have f1 : ∀ v x1 x2 c, f v (⟨x1, x2⟩ :: c) = f (g v x2) c := fun v x1 x2 c => by rw [hf]; rfl
  replace hr : r = f 4096 l := by rw [hr, hf]
  clear hf hg
  refine Pure.intro (want := [i64 r]) T_ok follows Tryz.func21 rfl (by kernel_rfl) (rs := [.tmp 2]) rfl (by kernel_rfl) ?_
  generalize hP : Tryz.prog = P at *
  have hT : T.ok P := hP ▸ T_ok
  have hm : P.follows .mixedOrders = true := hP ▸ follows
  unfold Tryz.f21
  dsimp only
  cbv
  refine CodeP.loopc hT hm (X := Nat × Int) (fun x => [(4, .int .i64 (.nat x.1)), (3, i64 x.2)]) (fun x => x.1 ≤ l.length ∧ r = f x.2 (l.drop x.1)) (fun x => n - x.1) (0, 4096) ⟨by simp, hr⟩ (Nat.zero_le _) ?_ rfl ?_
  · (cbv; (repeat' (first | exact SnD.refl _ | exact trivial | exact SnD.nat0 | refine And.intro ?_ ?_)))
    exact .eq (.int rfl)
  intro ⟨k, v⟩ ⟨hk, hq⟩
  simp only at hk hq
  cbv
  refine SplitP.mk (fun hs => ?_) (fun hs => ?_)
  · have hkn : k < l.length := by
      have h5 : decide ((k : Int) < (l.length : Int)) = true := hs
      have := of_decide_eq_true h5
      omega
    clear hs
    obtain ⟨x, hxk⟩ : ∃ x, l[k]? = some x := ⟨_, List.getElem?_eq_getElem hkn⟩
    have hxl := hx x (List.mem_of_getElem? hxk)
    rw [drop_cons hxk] at hq
    obtain ⟨x1, c⟩ := x
    rw [f1] at hq
    simp only at hxl
    obtain ⟨m, hm'⟩ : ∃ m : Nat, m = c.length := ⟨_, rfl⟩
    obtain ⟨lr, hlr⟩ : ∃ x, x = l.drop (k + 1) := ⟨_, rfl⟩
    rw [← hlr] at hq
    refine CodeP.loopc hT hm (X := Nat × Int) (fun x => [(5, .int .i64 (.nat x.1)), (3, i64 x.2)]) (fun x => x.1 ≤ c.length ∧ r = f (g x.2 (c.drop x.1)) lr) (fun x => m - x.1) (0, v) ⟨by simp, hq⟩ (Nat.zero_le _) ?_ rfl ?_
    · (cbv; (repeat' (first | exact SnD.refl _ | exact trivial | exact SnD.nat0 | refine And.intro ?_ ?_)))
    intro ⟨j, u⟩ ⟨hj, hq2⟩
    simp only at hj hq2
    cbv
    refine ElemP.mk (by show (0 : Int) ≤ (k : Int) ∧ (k : Int) < (l.length : Int); omega) (fun zz hzz => ?_)
    replace hzz : l[k]? = some zz := hzz
    rw [hxk] at hzz
    cases hzz
    cbv
    refine SplitP.mk (fun hs => ?_) (fun hs => ?_)
    · have hkn : j < c.length := by
        have h5 : decide ((j : Int) < (c.length : Int)) = true := hs
        have := of_decide_eq_true h5
        omega
      clear hs
      refine ElemP.mk (by show (0 : Int) ≤ (k : Int) ∧ (k : Int) < (l.length : Int); omega) (fun zz hzz => ?_)
      replace hzz : l[k]? = some zz := hzz
      rw [hxk] at hzz
      cases hzz
      cbv
      refine ElemP.mk (by show (0 : Int) ≤ (j : Int) ∧ (j : Int) < (c.length : Int); omega) (fun y hy => ?_)
      replace hy : c[j]? = some y := hy
      rw [drop_cons hy] at hq2
      obtain ⟨y1, y2, y3⟩ := y
      rw [g1] at hq2
      cbv
      refine BackP.intro (j + 1, min u (y3.length : Int)) ⟨by simp only; omega, hq2⟩ (by show m - (j + 1) < m - j; omega) ⟨?_, ⟨.refl _, trivial⟩, rfl⟩
      refine ⟨.inc (by omega), .eq (.int rfl), ?_⟩
      (cbv; (repeat' (first | exact SnD.refl _ | exact trivial | exact SnD.nat0 | refine And.intro ?_ ?_)))
    · have hkn : c.length ≤ j := by
        have h5 : decide ((j : Int) < (c.length : Int)) = false := hs
        have := of_decide_eq_false h5
        omega
      clear hs
      rw [List.drop_of_length_le (by omega), g0, hlr] at hq2
      refine BackP.intro (k + 1, u) ⟨by simp only; omega, hq2⟩ (by show n - (k + 1) < n - k; omega) ⟨?_, HEnt.refl _, rfl⟩
      refine ⟨.inc (by omega), .refl _, ?_⟩
      (cbv; (repeat' (first | exact SnD.refl _ | exact trivial | exact SnD.nat0 | refine And.intro ?_ ?_)))
  · have hkn : l.length ≤ k := by
      have h5 : decide ((k : Int) < (l.length : Int)) = false := hs
      have := of_decide_eq_false h5
      omega
    clear hs
    refine .mk (.cons (.eq (.int ?_)) .nil) rfl
    show v = r
    rw [hq, List.drop_of_length_le (by omega), f0]
theorem eqF_map {α β γ : Type} (f : α → β → Bool) (p q : γ → β) (h : ∀ x y, f x (p y) = f x (q y)) : ∀ (a : List α) (c : List γ), eqF f a (c.map p) = eqF f a (c.map q)
  | [], [] => rfl
  | [], _ :: _ => rfl
  | _ :: _, [] => rfl
  | x :: a, y :: c => by
    simp only [List.map_cons, eqF]
    rw [h, eqF_map f p q h a c]
theorem rgrps_eq (I : List IssuedD) (L : List SightD) (z : List GroupD) (x : CoalD) : eqGL z (rgrpsOf I L x).l = eqGL z (grpsOf I L x).l := by
  unfold rgrpsOf grpsOf groupsL eqGL
  exact eqF_map eqG (rgroupOf I (viewL x.l L)) (groupOf I (viewL x.l L)) (fun g n => rfl) z (List.range (manyL x.l L))
theorem rsets_eq (I : List IssuedD) (L : List SightD) (Z : List GrpsD) (C : List CoalD) : setsEqB Z (rsetsL I L C) = setsEqB Z (setsL I L C) := by
  unfold setsEqB rsetsL setsL
  exact eqF_map (fun x y => eqGL x.l y.l) (rgrpsOf I L) (grpsOf I L) (fun x y => rgrps_eq I L x.l y) Z C
set_option maxRecDepth 100000 in
set_option maxHeartbeats 4000000 in
theorem RCheck31_pure (a : AccountD) (hb : a.big) (hl : a.sights.length ≤ 1000) : Pure Tryz.prog 17 [.agg a.c] (i64 (if checkA a then 0 else 310)) := by
  have h1 := rcoals_pure a.coal (some (.var a.nc)) hb.coal hb.cl
  have h2 := rall_pure a.sights (some (.var a.ns)) (by omega)
  have h3 := RCheck_pure a.issued (viewsL a.sights) (some (.var a.ni)) none hb.iss (views_big hb.bigV (by omega))
  have h5 := fun h : coalsB a.coal = true => rsets_pure a hb.iss hb.bigV hl (by simp only [coalsB, Bool.and_eq_true, decide_eq_true_eq] at h; omega) hb.cl
  have h6 := fun nb => SameSets_pure a.sets (rsetsL a.issued a.sights a.coal) (some (.var a.nz)) nb hb.sets hb.gl
  rw [rsets_eq] at h6
  obtain ⟨r, hr⟩ : ∃ r, r = checkA a := ⟨_, rfl⟩
  rw [← hr]
  unfold checkA at hr
  obtain ⟨b1, e1⟩ : ∃ b, b = coalsB a.coal := ⟨_, rfl⟩
  obtain ⟨b2, e2⟩ : ∃ b, b = checkB a.issued (viewsL a.sights) := ⟨_, rfl⟩
  obtain ⟨vb, evb⟩ : ∃ f, f = verB := ⟨_, rfl⟩
  have hvb : ∀ v tk sn, vb ⟨v, tk, sn⟩ = decide (0 ≤ v ∧ v < 8) := fun v tk sn => by rw [evb]; rfl
  obtain ⟨b3, e3⟩ : ∃ b, b = a.sights.all verB := ⟨_, rfl⟩
  obtain ⟨b4, e4⟩ : ∃ b, b = setsEqB a.sets (setsL a.issued a.sights a.coal) := ⟨_, rfl⟩
  rw [← e1] at h1 h5 hr
  rw [← e2] at h3 hr
  rw [← e3] at hr
  rw [← e4] at h6 hr
  rw [← evb] at e3
  clear e1 e2 e4 evb hb
  obtain ⟨W, eW⟩ : ∃ W, W = viewsL a.sights := ⟨_, rfl⟩
  rw [← eW] at h2 h3
  obtain ⟨Q, eQ⟩ : ∃ Q, Q = rsetsL a.issued a.sights a.coal := ⟨_, rfl⟩
  rw [← eQ] at h5 h6
  obtain ⟨c, ec⟩ : ∃ c : Int, c = if r then 0 else 310 := ⟨_, rfl⟩
  rw [← ec]
  obtain ⟨c2, ec2⟩ : ∃ c : Int, c = if b2 then 0 else 300 := ⟨_, rfl⟩
  rw [← ec2] at h3
  clear eW eQ
  have bad : r = false → (310 : Int) = c := fun h => by rw [ec, h]; rfl
  have good : r = true → (0 : Int) = c := fun h => by rw [ec, h]; rfl
  obtain ⟨ai, aI, ac, C, as_, S, az, Z⟩ := a
  simp only at h1 h2 h3 h5 h6 e3 hl
  obtain ⟨n, hn⟩ : ∃ n : Nat, n = S.length := ⟨_, rfl⟩
  refine Pure.intro (want := [i64 c]) T_ok follows Tryz.func17 rfl (by kernel_rfl) (rs := [.tmp 2]) rfl (by kernel_rfl) ?_
  generalize hP : Tryz.prog = P at *
  have hT : T.ok P := hP ▸ T_ok
  have hm : P.follows .mixedOrders = true := hP ▸ follows
  unfold Tryz.f17
  dsimp only
  cbv
  first
    | refine CallP.pure _ (h1) rfl ?_
    | refine PureP.mk _ (h1) rfl ?_
  cbv
  refine SplitP.mk (fun hs => ?_) (fun hs => ?_)
  · have q : b1 = false := by simpa using (show (!b1) = true from hs)
    refine .mk (.cons (.eq (.int ?_)) .nil) rfl
    rw [IE.lit_d, IE.var_d]
    exact bad (by rw [hr, q]; rfl)
  have q1 : b1 = true := by simpa using (show (!b1) = false from hs)
  replace h5 := h5 q1
  clear hs
  first
    | refine CallP.pure _ (h2) rfl ?_
    | refine PureP.mk _ (h2) rfl ?_
  cbv
  first
    | refine CallP.pure _ (h3) rfl ?_
    | refine PureP.mk _ (h3) rfl ?_
  cbv
  refine SplitP.mk (fun hs => ?_) (fun hs => ?_)
  · have h7 : (c2 != 0) = true := hs
    have q : b2 = false := by
      rw [ec2] at h7
      cases b2 with
      | false => rfl
      | true => cases h7
    refine .mk (.cons (.eq (.int ?_)) .nil) rfl
    rw [IE.lit_d, IE.var_d]
    exact bad (by rw [hr, q1, q]; rfl)
  have q2 : b2 = true := by
    have h7 : (c2 != 0) = false := hs
    rw [ec2] at h7
    cases b2 with
    | false => cases h7
    | true => rfl
  clear hs
  refine CodeP.loopc hT hm (X := Nat) (fun k => [(3, .int .i64 (.nat k))]) (fun k => k ≤ n ∧ b3 = (S.drop k).all vb) (fun k => n - k) 0 ⟨Nat.zero_le _, e3⟩ (Nat.zero_le _) ?_ rfl ?_
  · (cbv; (repeat' (first | exact SnD.refl _ | exact trivial | exact SnD.nat0 | refine And.intro ?_ ?_)))
  intro k ⟨hk, hq⟩
  replace hk : k ≤ n := hk
  cbv
  refine SplitP.mk (fun hs => ?_) (fun hs => ?_)
  · have hkn : k < S.length := by
      have h5 : decide ((k : Int) < (S.length : Int)) = true := hs
      have := of_decide_eq_true h5
      omega
    clear hs
    refine ElemP.mk (by show (0 : Int) ≤ (k : Int) ∧ (k : Int) < (S.length : Int); omega) (fun s hx => ?_)
    replace hx : S[k]? = some s := hx
    rw [drop_cons hx, List.all_cons] at hq
    obtain ⟨v, tk, ⟨y1, y2, y3, y4, y5, y6⟩⟩ := s
    rw [hvb] at hq
    cbv
    refine SplitP.mk (fun h4 => ?_) (fun h4 => ?_) <;> simp only [BE.lss_t, BE.lss_f, IE.var_d, IE.lit_d] at h4
    · refine .mk (.cons (.eq (.int ?_)) .nil) rfl
      rw [IE.lit_d, IE.var_d]
      exact bad (by rw [hr, q1, q2, hq, decide_eq_false (by omega)]; rfl)
    refine ElemP.mk (by show (0 : Int) ≤ (k : Int) ∧ (k : Int) < (S.length : Int); omega) (fun zz hzz => ?_)
    replace hzz : S[k]? = some zz := hzz
    rw [hx] at hzz
    cases hzz
    cbv
    refine SplitP.mk (fun h5' => ?_) (fun h5' => ?_) <;> simp only [BE.geq_t, BE.geq_f, IE.var_d, IE.lit_d] at h5'
    · refine .mk (.cons (.eq (.int ?_)) .nil) rfl
      rw [IE.lit_d, IE.var_d]
      exact bad (by rw [hr, q1, q2, hq, decide_eq_false (by omega)]; rfl)
    refine BackP.intro (k + 1) ⟨by show k + 1 ≤ n; omega, by rw [hq, decide_eq_true (by omega), Bool.true_and]⟩ (by show n - (k + 1) < n - k; omega) ⟨?_, HEnt.refl _, rfl⟩
    (cbv; (repeat' (first | exact SnD.refl _ | exact trivial | exact SnD.nat0 | refine And.intro ?_ ?_)))
    exact .inc (by omega)
  have hkn : S.length ≤ k := by
    have h5 : decide ((k : Int) < (S.length : Int)) = false := hs
    have := of_decide_eq_false h5
    omega
  clear hs
  have q3 : b3 = true := by rw [hq, List.drop_of_length_le (by omega)]; rfl
  clear hq e3
  first
    | refine CallP.pure _ (h5) rfl ?_
    | refine PureP.mk _ (h5) rfl ?_
  cbv
  first
    | refine CallP.pure _ ((h6 _)) rfl ?_
    | refine PureP.mk _ ((h6 _)) rfl ?_
  cbv
  refine SplitP.mk (fun hs => ?_) (fun hs => ?_)
  · have q : b4 = false := by simpa using (show (!b4) = true from hs)
    refine .mk (.cons (.eq (.int ?_)) .nil) rfl
    rw [IE.lit_d, IE.var_d]
    exact bad (by rw [hr, q1, q2, q3, q]; rfl)
  have q4 : b4 = true := by simpa using (show (!b4) = false from hs)
  refine .mk (.cons (.eq (.int ?_)) .nil) rfl
  rw [IE.lit_d, IE.var_d]
  exact good (by rw [hr, q1, q2, q3, q4]; rfl)
def rnewA (ni : Bool) (I : List IssuedD) (nc : Bool) (C : List CoalD) : AccountD := if newE I C = 0 then ⟨ni, I, nc, C, true, [], false, rsetsL I [] C⟩ else zeroA
set_option maxRecDepth 100000 in
set_option maxHeartbeats 4000000 in
theorem RNew_pure (ni : Bool) (I : List IssuedD) (nc : Bool) (C : List CoalD) (hI : BigI I) (hC : C.length < 9223372036854775807) (hcl : ∀ x ∈ C, x.l.length < 9223372036854775807) :
    Pure Tryz.prog 10 [.slm 3 (some (.var ni)) IssuedD.c I, .slm 1 (some (.var nc)) CoalD.c C] (.tup [.agg (rnewA ni I nc C).c, i64 (newE I C)]) := by
  have h1 := rcoals_pure C (some (.var nc)) hC hcl
  have h2 := RCheck_pure I [] (some (.var ni)) none hI ⟨by simp, by simp, by simp⟩
  have h5 := fun h : coalsB C = true => rsets_pure ⟨ni, I, nc, C, true, [], true, []⟩ hI ⟨by simp, by simp⟩ (by simp) (by simp only [coalsB, Bool.and_eq_true, decide_eq_true_eq] at h; simp only; omega) hcl
  obtain ⟨b1, e1⟩ : ∃ b, b = coalsB C := ⟨_, rfl⟩
  obtain ⟨b2, e2⟩ : ∃ b, b = checkB I [] := ⟨_, rfl⟩
  obtain ⟨e, he⟩ : ∃ e, e = newE I C := ⟨_, rfl⟩
  obtain ⟨x, hx⟩ : ∃ e, e = rnewA ni I nc C := ⟨_, rfl⟩
  rw [← he, ← hx]
  unfold rnewA at hx
  rw [← he] at hx
  unfold newE at he
  rw [← e1] at h1 h5 he
  rw [← e2] at h2 he
  simp only at h5
  obtain ⟨Q, eQ⟩ : ∃ Q, Q = rsetsL I [] C := ⟨_, rfl⟩
  rw [← eQ] at h5 hx
  have r1 : b1 = false → x = zeroA ∧ e = 310 := fun h => by rw [h] at he; rw [hx, he]; exact ⟨rfl, rfl⟩
  have r2 : b1 = true → b2 = false → x = zeroA ∧ e = 300 := fun h h' => by rw [h, h'] at he; rw [hx, he]; exact ⟨rfl, rfl⟩
  have r3 : b1 = true → b2 = true → x = ⟨ni, I, nc, C, true, [], false, Q⟩ ∧ e = 0 := fun h h' => by rw [h, h'] at he; rw [hx, he]; exact ⟨rfl, rfl⟩
  obtain ⟨c2, ec2⟩ : ∃ c : Int, c = if b2 then 0 else 300 := ⟨_, rfl⟩
  rw [← ec2] at h2
  clear e1 e2 he hx eQ hI hcl hC
  refine Pure.intro (want := [.agg x.c, i64 e]) T_ok follows Tryz.func10 rfl (by kernel_rfl) (rs := [.cell 4 27, .tmp 5]) rfl (by kernel_rfl) ?_
  generalize hP : Tryz.prog = P at *
  have hT : T.ok P := hP ▸ T_ok
  have hm : P.follows .mixedOrders = true := hP ▸ follows
  unfold Tryz.f10
  dsimp only
  cbv
  first
    | refine CallP.pure _ (h1) rfl ?_
    | refine PureP.mk _ (h1) rfl ?_
  cbv
  refine SplitP.mk (fun hs => ?_) (fun hs => ?_)
  · have q : b1 = false := by simpa using (show (!b1) = true from hs)
    exact zeroA_ret (r1 q)
  have q1 : b1 = true := by simpa using (show (!b1) = false from hs)
  replace h5 := h5 q1
  replace r2 := r2 q1
  replace r3 := r3 q1
  clear hs r1
  refine CallP.pure _ (Pure.args (.cons (.refl _) (.cons (.nil0 rfl) .nil)) h2) rfl ?_
  cbv
  refine SplitP.mk (fun hs => ?_) (fun hs => ?_)
  · have h7 : (c2 != 0) = true := hs
    have q : b2 = false := by
      rw [ec2] at h7
      cases b2 with
      | false => rfl
      | true => cases h7
    refine zeroA_ret ⟨(r2 q).1, ?_⟩
    rw [(r2 q).2]
    show (300 : Int) = c2
    rw [ec2, q]; rfl
  have q2 : b2 = true := by
    have h7 : (c2 != 0) = false := hs
    rw [ec2] at h7
    cases b2 with
    | false => cases h7
    | true => rfl
  obtain ⟨rfl, rfl⟩ := r3 q2
  clear hs r2
  refine CallP.pure _ (Pure.args (.cons (acct_eq (.refl _) (.refl _) (.nilv rfl rfl) (.nilv rfl rfl)) .nil) h5) rfl ?_
  cbv
  exact .mk (.cons (.eq (acct_eq (.refl _) (.refl _) (.nilv rfl rfl) (.refl _))) (.cons (.eq (.int rfl)) .nil)) rfl
end Go.Proofs.YtaopkjgldokahaaGreatDoor
namespace Go.Proofs.YtaopkjgldokahaaGreatDoor
open Go.RowKit

/-! The reference of the account: Add, Issue, After. -/
def raddA (a : AccountD) (s : SightD) : AccountD := if addE a s = 0 then ⟨a.ni, a.issued, a.nc, a.coal, false, a.sights ++ [s], false, rsetsL a.issued (a.sights ++ [s]) a.coal⟩ else zeroA
set_option maxRecDepth 100000 in
set_option maxHeartbeats 4000000 in
theorem RAdd_pure (a : AccountD) (s : SightD) (hb : a.big) (hl : a.sights.length ≤ 1000) (hf : s.seen.fields.length < 9223372036854775807) (hv : s.seen.values.length < 9223372036854775807) :
    Pure Tryz.prog 12 [.agg a.c, .agg s.c] (.tup [.agg (raddA a s).c, i64 (addE a s)]) := by
  have hbv : BigV (a.sights ++ [s]) := ⟨fun x hx => by
    rcases List.mem_append.1 hx with q | q
    · exact hb.sf x q
    · rw [List.mem_singleton.1 q]; exact hf, fun x hx => by
    rcases List.mem_append.1 hx with q | q
    · exact hb.sv x q
    · rw [List.mem_singleton.1 q]; exact hv⟩
  have hlx : (a.sights ++ [s]).length = a.sights.length + 1 := by simp
  have h0 := RCheck31_pure a hb hl
  have h2 := rall_pure (a.sights ++ [s]) (some (.lit false)) (by omega)
  have h3 := RCheck_pure a.issued (viewsL (a.sights ++ [s])) (some (.var a.ni)) none hb.iss (views_big hbv (by omega))
  have h4 := fun h : checkA a = true => rsets_pure ⟨a.ni, a.issued, a.nc, a.coal, false, a.sights ++ [s], a.nz, a.sets⟩ hb.iss hbv (by have := check_iss h; simp; omega) (by simp only [checkA, coalsB, Bool.and_eq_true, decide_eq_true_eq] at h; simp only; omega) hb.cl
  obtain ⟨e, he⟩ : ∃ e, e = addE a s := ⟨_, rfl⟩
  obtain ⟨x, hx⟩ : ∃ e, e = raddA a s := ⟨_, rfl⟩
  rw [← he, ← hx]
  unfold raddA at hx
  rw [← he] at hx
  unfold addE extE verB at he
  obtain ⟨b0, e0⟩ : ∃ b, b = checkA a := ⟨_, rfl⟩
  obtain ⟨b1, e1⟩ : ∃ b, b = decide (0 ≤ s.verifier ∧ s.verifier < 8) := ⟨_, rfl⟩
  obtain ⟨b2, e2⟩ : ∃ b, b = checkB a.issued (viewsL (a.sights ++ [s])) := ⟨_, rfl⟩
  rw [← e0] at h0 h4 he
  rw [← e1] at he
  rw [← e2] at h3 he
  have hSXc : (a.sights ++ [s]).map SightD.c = a.sights.map SightD.c ++ [s.c] := by simp
  simp only at h4
  obtain ⟨SX, hSX⟩ : ∃ l, l = a.sights ++ [s] := ⟨_, rfl⟩
  rw [← hSX] at h2 h3 h4 hlx hSXc hx
  obtain ⟨W, eW⟩ : ∃ W, W = viewsL SX := ⟨_, rfl⟩
  rw [← eW] at h2 h3
  obtain ⟨Q, eQ⟩ : ∃ Q, Q = rsetsL a.issued SX a.coal := ⟨_, rfl⟩
  rw [← eQ] at h4 hx
  have hSXl : (SX.length : Int) = (a.sights.length : Int) + 1 := by rw [hlx]; simp
  have r0 : b0 = false → x = zeroA ∧ e = 310 := fun h => by rw [h] at he; rw [hx, he]; exact ⟨rfl, rfl⟩
  have r1 : b0 = true → b1 = false → x = zeroA ∧ e = 310 := fun h0 h => by rw [h0, h] at he; rw [hx, he]; exact ⟨rfl, rfl⟩
  have r2 : b0 = true → b1 = true → 16 ≤ a.sights.length → x = zeroA ∧ e = 2 := fun h0 h h' => by rw [h0, if_pos rfl, h, if_pos rfl, if_pos h'] at he; rw [hx, he]; exact ⟨rfl, rfl⟩
  have r3 : b0 = true → b1 = true → a.sights.length < 16 → b2 = false → x = zeroA ∧ e = 300 := fun h0 h h' h2 => by rw [h0, if_pos rfl, h, if_pos rfl, if_neg (by omega), h2] at he; rw [hx, he]; exact ⟨rfl, rfl⟩
  have r4 : b0 = true → b1 = true → a.sights.length < 16 → b2 = true → x = ⟨a.ni, a.issued, a.nc, a.coal, false, SX, false, Q⟩ ∧ e = 0 := fun h0 h h' h2 => by rw [h0, if_pos rfl, h, if_pos rfl, if_neg (by omega), h2] at he; rw [hx, he]; exact ⟨rfl, rfl⟩
  obtain ⟨c0, ec0⟩ : ∃ c : Int, c = if b0 then 0 else 310 := ⟨_, rfl⟩
  rw [← ec0] at h0
  obtain ⟨c2, ec2⟩ : ∃ c : Int, c = if b2 then 0 else 300 := ⟨_, rfl⟩
  rw [← ec2] at h3
  clear hbv e0 e2 he hx eQ eW hSX hb hf hv
  obtain ⟨ai, aI, ac, C, as_, S, az, Z⟩ := a
  obtain ⟨v, tk, ⟨y1, y2, y3, y4, y5, y6⟩⟩ := s
  simp only at h0 h2 h3 h4 hl hlx hSXc hSXl r2 r3 r4 e1
  have e : (.tup [.agg x.c, i64 e] : D) = retD [.agg x.c, i64 e] := rfl
  rw [e]
  refine Pure.introC T_ok Tryz.func12 rfl (by kernel_rfl) (rs := [.cell 4 27, .tmp 5]) rfl (by kernel_rfl) ?_
  generalize hP : Tryz.prog = P at *
  have hT : T.ok P := hP ▸ T_ok
  have hm : P.follows .mixedOrders = true := hP ▸ follows
  unfold Tryz.f12
  dsimp only
  refine CodeP.seq (vc_sound hT hm _ ?_)
  cbv
  refine CodeP.seq (vc_sound hT hm _ ?_)
  cbv
  first
    | refine CallP.pure _ (h0) rfl ?_
    | refine PureP.mk _ (h0) rfl ?_
  cbv
  refine CodeP.seq (vc_sound hT hm _ ?_)
  cbv
  refine SplitP.mk (fun hs => ?_) (fun hs => ?_)
  · have h7 : (c0 != 0) = true := hs
    have q : b0 = false := by
      rw [ec0] at h7
      cases b0 with
      | false => rfl
      | true => cases h7
    refine zeroA_ret ⟨(r0 q).1, ?_⟩
    rw [(r0 q).2]
    show (310 : Int) = c0
    rw [ec0, q]; rfl
  have q0 : b0 = true := by
    have h7 : (c0 != 0) = false := hs
    rw [ec0] at h7
    cases b0 with
    | false => cases h7
    | true => rfl
  replace r1 := r1 q0
  replace r2 := r2 q0
  replace r3 := r3 q0
  replace r4 := r4 q0
  replace h4 := h4 q0
  clear hs r0 q0 h0 ec0
  refine CodeP.seqW (fun _ => b1 = true) [(2, .ptr 0 1 0), (3, .ptr 1 1 0), (4, .ptr 2 1 0)] [.cells [.slm 3 (some (.var ai)) IssuedD.c aI, .slm 1 (some (.var ac)) CoalD.c C, .slm 37 (some (.var as_)) SightD.c S, .slm 1 (some (.var az)) GrpsD.c Z], .cells (SightD.c ⟨v, tk, ⟨y1, y2, y3, y4, y5, y6⟩⟩), .cells [.nils, .nils, .nils, .nils]] (Nat.zero_le _) (vc_sound hT hm _ ?_) ?_
  · cbv
    refine SplitP.mk (fun hs => ?_) (fun hs => ?_) <;> simp only [BE.lss_t, BE.lss_f, IE.var_d, IE.lit_d] at hs
    · exact zeroA_ret (r1 (by rw [e1, decide_eq_false (by omega)]))
    refine SplitP.mk (fun h5 => ?_) (fun h5 => ?_) <;> simp only [BE.geq_t, BE.geq_f, IE.var_d, IE.lit_d] at h5
    · exact zeroA_ret (r1 (by rw [e1, decide_eq_false (by omega)]))
    exact ⟨by rw [e1, decide_eq_true (by omega)], ⟨⟨.refl _, .refl _, .refl _, trivial⟩, ⟨.refl _, .refl _, .refl _, trivial⟩, rfl⟩⟩
  intro q1
  replace r2 := r2 q1
  replace r3 := r3 q1
  replace r4 := r4 q1
  clear r1 q1 e1
  refine CodeP.seq (vc_sound hT hm _ ?_)
  cbv
  refine SplitP.mk (fun hs => ?_) (fun hs => ?_)
  · have q : 16 ≤ S.length := by have := of_decide_eq_true (show decide ((S.length : Int) ≥ 16) = true from hs); omega
    exact zeroA_ret (r2 q)
  have q2 : S.length < 16 := by have := of_decide_eq_false (show decide ((S.length : Int) ≥ 16) = false from hs); omega
  replace r3 := r3 q2
  replace r4 := r4 q2
  clear hs r2
  refine CodeP.seqTo [(2, .ptr 0 1 0), (3, .ptr 1 1 0), (4, .ptr 2 1 0), (7, .slm 37 (some (.lit false)) SightD.c SX)]
    [.cells [.slm 3 (some (.var ai)) IssuedD.c aI, .slm 1 (some (.var ac)) CoalD.c C, .slm 37 (some (.var as_)) SightD.c S, .slm 1 (some (.var az)) GrpsD.c Z], .cells (SightD.c ⟨v, tk, ⟨y1, y2, y3, y4, y5, y6⟩⟩), .cells [.nils, .nils, .nils, .nils]] (Nat.zero_le _) (vc_sound hT hm _ ?_) ?_
  · cbv
    refine FootP.intro hT hm [(3, [3]), (6, [3])] (by kernel_rfl) ?_
    cbv
    refine ReqP.mk ⟨by simp [IE.den, RE.den], rfl, map_cells (fun _ => rfl), (by intro e he; cases he), by show (0 : Int) + (S.length : Int) ≤ _; omega, by show ((0 : Int) + (S.length : Int)) * ((104 : Nat) : Int) ≤ _; omega⟩ (fun _ => ?_)
    refine ReqP.mk ⟨rfl, by simp [IE.den, RE.den], (by intro e he; simp only [RE.den, List.mem_singleton] at he; subst he; rfl), (by intro e he; simp only [RE.den, List.nil_append, List.mem_map] at he; obtain ⟨x, _, rfl⟩ := he; rfl), by show (S.length : Int) + 1 ≤ _; omega, by show ((S.length : Int) + 1) * ((104 : Nat) : Int) ≤ _; omega⟩ (fun _ => ?_)
    refine ⟨⟨.refl _, .refl _, .refl _, .slm rfl (.inl ⟨_, _, rfl, by simp [RE.den]; simpa using hSXc.symm⟩) rfl (by simp only [IE.den]; exact hSXl.symm) (fun e h => by cases h; rfl), trivial⟩, ⟨.refl _, .refl _, .refl _, trivial⟩, rfl⟩
  refine CodeP.seq (vc_sound hT hm _ ?_)
  cbv
  first
    | refine CallP.pure _ (h2) rfl ?_
    | refine PureP.mk _ (h2) rfl ?_
  cbv
  first
    | refine CallP.pure _ (h3) rfl ?_
    | refine PureP.mk _ (h3) rfl ?_
  cbv
  refine CodeP.seq (vc_sound hT hm _ ?_)
  cbv
  refine SplitP.mk (fun hs => ?_) (fun hs => ?_)
  · have h7 : (c2 != 0) = true := hs
    have q : b2 = false := by
      rw [ec2] at h7
      cases b2 with
      | false => rfl
      | true => cases h7
    refine zeroA_ret ⟨(r3 q).1, ?_⟩
    rw [(r3 q).2]
    show (300 : Int) = c2
    rw [ec2, q]; rfl
  have q2 : b2 = true := by
    have h7 : (c2 != 0) = false := hs
    rw [ec2] at h7
    cases b2 with
    | false => cases h7
    | true => rfl
  obtain ⟨rfl, rfl⟩ := r4 q2
  clear hs r3 r4
  refine vc_sound hT hm _ ?_
  cbv
  refine CallP.pure _ (Pure.args (.cons (acct_eq (.refl _) (.refl _) (.slmb (e' := .var false) rfl rfl) (.refl _)) .nil) h4) rfl ?_
  cbv
  exact .mk (.cons (.eq (acct_eq (.refl _) (.refl _) (.slmb (e' := .var false) rfl rfl) (.refl _))) (.cons (.eq (.int rfl)) .nil)) rfl
def rissueA (a : AccountD) (l : List IssuedD) : AccountD := if issueE a l = 0 then ⟨false, a.issued ++ l, a.nc, a.coal, a.ns, a.sights, false, rsetsL (a.issued ++ l) a.sights a.coal⟩ else zeroA
set_option maxRecDepth 100000 in
set_option maxHeartbeats 4000000 in
theorem RIssue_pure (a : AccountD) (l : List IssuedD) (nl : Bool) (h : a.fit) (hL : ∀ x ∈ l, x.values.length < 9223372036854775807) (hl : l.length ≤ 100000) :
    Pure Tryz.prog 14 [.agg a.c, .slm 3 (some (.var nl)) IssuedD.c l] (.tup [.agg (rissueA a l).c, i64 (issueE a l)]) := by
  have h1 := RCheck31_pure a h.big h.si
  have h3 := rall_pure a.sights (some (.var a.ns)) (by have := h.si; omega)
  have hix : checkA a = true → BigI (a.issued ++ l) := fun hc => ⟨by have := check_iss hc; simp; omega, fun x hx => by
    rcases List.mem_append.1 hx with q | q
    · exact h.big.iss.vals x q
    · exact hL x q⟩
  have hlx : (a.issued ++ l).length = a.issued.length + l.length := by simp
  have h4 := fun hc : checkA a = true => RCheck_pure (a.issued ++ l) (viewsL a.sights) (some (.var false)) none (hix hc) (views_big h.big.bigV (by have := h.si; omega))
  have h5 := fun hc : checkA a = true => rsets_pure ⟨false, a.issued ++ l, a.nc, a.coal, a.ns, a.sights, a.nz, a.sets⟩ (hix hc) h.big.bigV h.si (by have := check_iss hc; simp only; omega) h.big.cl
  have hlen := fun hc : checkA a = true => (check_iss hc).1
  obtain ⟨e, he⟩ : ∃ e, e = issueE a l := ⟨_, rfl⟩
  obtain ⟨x, hx⟩ : ∃ e, e = rissueA a l := ⟨_, rfl⟩
  rw [← he, ← hx]
  unfold rissueA at hx
  rw [← he] at hx
  unfold issueE at he
  obtain ⟨b1, e1⟩ : ∃ b, b = checkA a := ⟨_, rfl⟩
  obtain ⟨b2, e2⟩ : ∃ b, b = oneRound l := ⟨_, rfl⟩
  obtain ⟨b3, e3⟩ : ∃ b, b = freshR a.issued l := ⟨_, rfl⟩
  obtain ⟨b4, e4⟩ : ∃ b, b = checkB (a.issued ++ l) (viewsL a.sights) := ⟨_, rfl⟩
  rw [← e1] at h1 h4 h5 hlen he
  rw [← e4] at h4 he
  rw [← e2, ← e3] at he
  obtain ⟨r0, hr0⟩ : ∃ r, r = round0 l := ⟨_, rfl⟩
  have hr0x : ∀ x, l[0]? = some x → r0 = x.round := fun x hx => by rw [hr0]; exact round0_get hx
  obtain ⟨f1, hf1⟩ : ∃ f : IssuedD → Bool, f = fun i => decide (i.round = r0) := ⟨_, rfl⟩
  have hf1x : ∀ y1 y2 y3 y4, f1 ⟨y1, y2, y3, y4⟩ = decide (y1 = r0) := fun y1 y2 y3 y4 => by rw [hf1]
  have e2' : b2 = l.all f1 := by rw [e2, hf1, hr0]; rfl
  obtain ⟨an, han⟩ : ∃ b, b = a.issued.any f1 := ⟨_, rfl⟩
  have e3' : b3 = (decide (l.length = 0) || !an) := by rw [e3, han, hf1, hr0]; rfl
  have hIXc : (a.issued ++ l).map IssuedD.c = a.issued.map IssuedD.c ++ l.map IssuedD.c := by simp
  simp only at h5
  obtain ⟨IX, hIX⟩ : ∃ l', l' = a.issued ++ l := ⟨_, rfl⟩
  rw [← hIX] at h4 h5 hlx hIXc hx
  obtain ⟨W, eW⟩ : ∃ W, W = viewsL a.sights := ⟨_, rfl⟩
  rw [← eW] at h3 h4
  obtain ⟨Q, eQ⟩ : ∃ Q, Q = rsetsL IX a.sights a.coal := ⟨_, rfl⟩
  rw [← eQ] at h5 hx
  have hIXl : (IX.length : Int) = (a.issued.length : Int) + (l.length : Int) := by rw [hlx]; simp
  have r1 : b1 = false → x = zeroA ∧ e = 310 := fun h => by rw [h] at he; rw [hx, he]; exact ⟨rfl, rfl⟩
  have r2 : b1 = true → b2 = false → x = zeroA ∧ e = 310 := fun h h' => by rw [h, h'] at he; rw [hx, he]; exact ⟨rfl, rfl⟩
  have r3 : b1 = true → b3 = false → x = zeroA ∧ e = 310 := fun h h2 => by rw [h, h2, Bool.and_false] at he; rw [hx, he]; exact ⟨rfl, rfl⟩
  have r4 : b1 = true → b2 = true → b3 = true → b4 = false → x = zeroA ∧ e = 300 := fun h h' h2 h3 => by rw [h, h', h2, h3] at he; rw [hx, he]; exact ⟨rfl, rfl⟩
  have r5 : b1 = true → b2 = true → b3 = true → b4 = true → x = ⟨false, IX, a.nc, a.coal, a.ns, a.sights, false, Q⟩ ∧ e = 0 := fun h h' h2 h3 => by rw [h, h', h2, h3] at he; rw [hx, he]; exact ⟨rfl, rfl⟩
  obtain ⟨c1, ec1⟩ : ∃ c : Int, c = if b1 then 0 else 310 := ⟨_, rfl⟩
  rw [← ec1] at h1
  obtain ⟨c4, ec4⟩ : ∃ c : Int, c = if b4 then 0 else 300 := ⟨_, rfl⟩
  rw [← ec4] at h4
  clear e1 e2 e3 e4 hr0 hf1 he hx eQ eW hIX hix hL h
  obtain ⟨ai, aI, ac, C, as_, S, az, Z⟩ := a
  simp only at h1 h3 h4 h5 hlx hIXc hIXl r5 hlen han
  obtain ⟨n, hnl⟩ : ∃ n : Nat, n = l.length := ⟨_, rfl⟩
  obtain ⟨nI, hnI⟩ : ∃ n : Nat, n = aI.length := ⟨_, rfl⟩
  have e : (.tup [.agg x.c, i64 e] : D) = retD [.agg x.c, i64 e] := rfl
  rw [e]
  refine Pure.introC T_ok Tryz.func14 rfl (by kernel_rfl) (rs := [.cell 4 27, .tmp 5]) rfl (by kernel_rfl) ?_
  generalize hP : Tryz.prog = P at *
  have hT : T.ok P := hP ▸ T_ok
  have hm : P.follows .mixedOrders = true := hP ▸ follows
  unfold Tryz.f14
  dsimp only
  refine CodeP.seq (vc_sound hT hm _ ?_)
  cbv
  refine CodeP.seq (vc_sound hT hm _ ?_)
  cbv
  first
    | refine CallP.pure _ (h1) rfl ?_
    | refine PureP.mk _ (h1) rfl ?_
  cbv
  refine CodeP.seq (vc_sound hT hm _ ?_)
  cbv
  refine SplitP.mk (fun hs => ?_) (fun hs => ?_)
  · have h7 : (c1 != 0) = true := hs
    have q : b1 = false := by
      rw [ec1] at h7
      cases b1 with
      | false => rfl
      | true => cases h7
    refine zeroA_ret ⟨(r1 q).1, ?_⟩
    rw [(r1 q).2]
    show (310 : Int) = c1
    rw [ec1, q]; rfl
  have q1 : b1 = true := by
    have h7 : (c1 != 0) = false := hs
    rw [ec1] at h7
    cases b1 with
    | false => cases h7
    | true => rfl
  replace r2 := r2 q1
  replace r3 := r3 q1
  replace r4 := r4 q1
  replace r5 := r5 q1
  replace h4 := h4 q1
  replace h5 := h5 q1
  replace hlen := hlen q1
  clear hs r1 q1 h1 ec1
  refine CodeP.seqW (fun _ => b2 = true ∧ b3 = true) [(1, .slm 3 (some (.var nl)) IssuedD.c l), (2, .ptr 0 1 0), (4, .ptr 1 1 0)] [.cells [.slm 3 (some (.var ai)) IssuedD.c aI, .slm 1 (some (.var ac)) CoalD.c C, .slm 37 (some (.var as_)) SightD.c S, .slm 1 (some (.var az)) GrpsD.c Z], .cells [.nils, .nils, .nils, .nils]] (Nat.zero_le _) (vc_sound hT hm _ ?_) ?_
  · cbv
    refine CodeP.loopc hT hm (X := Nat) (fun k => [(7, .int .i64 (.nat k))]) (fun k => k ≤ n ∧ b2 = (l.drop k).all f1 ∧ (0 < k → an = false)) (fun k => n - k) 0 ⟨Nat.zero_le _, e2', fun h => absurd h (Nat.lt_irrefl _)⟩ (Nat.zero_le _) ?_ rfl ?_
    · (cbv; (repeat' (first | exact SnD.refl _ | exact trivial | exact SnD.nat0 | refine And.intro ?_ ?_)))
    intro k ⟨hk, hq, hz0⟩
    replace hk : k ≤ n := hk
    cbv
    refine SplitP.mk (fun hs => ?_) (fun hs => ?_)
    · have hkn : k < l.length := by
        have h5 : decide ((k : Int) < (l.length : Int)) = true := hs
        have := of_decide_eq_true h5
        omega
      clear hs
      refine ElemP.mk (by show (0 : Int) ≤ (k : Int) ∧ (k : Int) < (l.length : Int); omega) (fun y hy => ?_)
      replace hy : l[k]? = some y := hy
      rw [drop_cons hy, List.all_cons] at hq
      obtain ⟨y1, y2, y3, y4⟩ := y
      rw [hf1x] at hq
      cbv
      refine ElemP.mk (by show (0 : Int) ≤ 0 ∧ (0 : Int) < (l.length : Int); omega) (fun z hz => ?_)
      replace hz : l[0]? = some z := hz
      have hrz := hr0x z hz
      obtain ⟨z1, z2, z3, z4⟩ := z
      simp only at hrz
      cbv
      refine SplitP.mk (fun hs => ?_) (fun hs => ?_) <;> simp only [BE.neq_t, BE.neq_f, IE.var_d, IE.lit_d] at hs
      · refine zeroA_ret (r2 ?_)
        rw [hq, decide_eq_false (by rw [hrz]; exact hs)]
        rfl
      have hy1 : y1 = r0 := by rw [hrz]; exact hs
      rw [decide_eq_true hy1, Bool.true_and] at hq
      refine CodeP.loopc hT hm (X := Nat) (fun j => [(8, .int .i64 (.nat j))]) (fun j => j ≤ nI ∧ an = (aI.drop j).any f1) (fun j => nI - j) 0 ⟨Nat.zero_le _, han⟩ (Nat.zero_le _) ?_ rfl ?_
      · (cbv; (repeat' (first | exact SnD.refl _ | exact trivial | exact SnD.nat0 | refine And.intro ?_ ?_)))
      intro j ⟨hj, hq2⟩
      replace hj : j ≤ nI := hj
      cbv
      refine SplitP.mk (fun hs => ?_) (fun hs => ?_)
      · have hkn : j < aI.length := by
          have h5 : decide ((j : Int) < (aI.length : Int)) = true := hs
          have := of_decide_eq_true h5
          omega
        clear hs
        refine ElemP.mk (by show (0 : Int) ≤ (j : Int) ∧ (j : Int) < (aI.length : Int); omega) (fun u hu => ?_)
        replace hu : aI[j]? = some u := hu
        rw [drop_cons hu, List.any_cons] at hq2
        obtain ⟨u1, u2, u3, u4⟩ := u
        rw [hf1x] at hq2
        cbv
        refine ElemP.mk (by show (0 : Int) ≤ (k : Int) ∧ (k : Int) < (l.length : Int); omega) (fun zz hzz => ?_)
        replace hzz : l[k]? = some zz := hzz
        rw [hy] at hzz
        cases hzz
        cbv
        refine SplitP.mk (fun hs => ?_) (fun hs => ?_) <;> simp only [BE.eql_t, BE.eql_f, IE.var_d, IE.lit_d] at hs
        · refine zeroA_ret (r3 ?_)
          rw [e3', hq2, decide_eq_true (p := u1 = r0) (by rw [← hy1]; exact hs), decide_eq_false (p := l.length = 0) (by omega)]
          rfl
        · refine BackP.intro (j + 1) ⟨by show j + 1 ≤ nI; omega, by rw [hq2, decide_eq_false (by rw [← hy1]; exact hs), Bool.false_or]⟩ (by show nI - (j + 1) < nI - j; omega) ⟨?_, HEnt.refl _, rfl⟩
          (cbv; (repeat' (first | exact SnD.refl _ | exact trivial | exact SnD.nat0 | refine And.intro ?_ ?_)))
          exact .inc (by omega)
      · have hkn : aI.length ≤ j := by
          have h5 : decide ((j : Int) < (aI.length : Int)) = false := hs
          have := of_decide_eq_false h5
          omega
        clear hs
        refine BackP.intro (k + 1) ⟨by show k + 1 ≤ n; omega, hq, fun _ => by rw [hq2, List.drop_of_length_le (by omega)]; rfl⟩ (by show n - (k + 1) < n - k; omega) ⟨?_, HEnt.refl _, rfl⟩
        (cbv; (repeat' (first | exact SnD.refl _ | exact trivial | exact SnD.nat0 | refine And.intro ?_ ?_)))
        exact .inc (by omega)
    have hkn : l.length ≤ k := by
      have h5 : decide ((k : Int) < (l.length : Int)) = false := hs
      have := of_decide_eq_false h5
      omega
    clear hs
    have q2 : b2 = true := by rw [hq, List.drop_of_length_le (by omega)]; rfl
    have q3 : b3 = true := by
      rw [e3']
      rcases Nat.eq_zero_or_pos k with q | q
      · rw [decide_eq_true (by omega)]; rfl
      · rw [hz0 q]; simp
    exact ⟨⟨q2, q3⟩, ⟨⟨.refl _, .refl _, .refl _, trivial⟩, ⟨.refl _, .refl _, trivial⟩, rfl⟩⟩
  intro ⟨q2, q3⟩
  replace r4 := r4 q2 q3
  replace r5 := r5 q2 q3
  clear r2 r3 q2 q3 e3' e2' han
  refine CodeP.seqTo [(2, .ptr 0 1 0), (4, .ptr 1 1 0), (9, .slm 3 (some (.var false)) IssuedD.c IX)] [.cells [.slm 3 (some (.var ai)) IssuedD.c aI, .slm 1 (some (.var ac)) CoalD.c C, .slm 37 (some (.var as_)) SightD.c S, .slm 1 (some (.var az)) GrpsD.c Z], .cells [.nils, .nils, .nils, .nils]] (Nat.zero_le _) (vc_sound hT hm _ ?_) ?_
  · cbv
    refine ReqP.mk ⟨by simp [IE.den, RE.den], rfl, map_cells (fun _ => rfl), (by intro e he; cases he), by show (0 : Int) + (aI.length : Int) ≤ _; omega, by show ((0 : Int) + (aI.length : Int)) * ((40 : Nat) : Int) ≤ _; omega⟩ (fun _ => ?_)
    refine ReqP.mk ⟨by simp [IE.den, RE.den], by simp [IE.den, RE.den], map_cells (fun _ => rfl), (by intro e he; simp only [RE.den, List.nil_append, List.mem_map] at he; obtain ⟨x, _, rfl⟩ := he; rfl), by show (aI.length : Int) + (l.length : Int) ≤ _; omega, by show ((aI.length : Int) + (l.length : Int)) * ((40 : Nat) : Int) ≤ _; omega⟩ (fun _ => ?_)
    refine ⟨⟨.refl _, .refl _, .slm rfl (.inl ⟨_, _, rfl, by simp [RE.den]; simpa using hIXc.symm⟩) rfl (by simp only [IE.den]; exact hIXl.symm) (fun e h => by cases h; rfl), trivial⟩, ⟨.refl _, .refl _, trivial⟩, rfl⟩
  refine CodeP.seq (vc_sound hT hm _ ?_)
  cbv
  first
    | refine CallP.pure _ (h3) rfl ?_
    | refine PureP.mk _ (h3) rfl ?_
  cbv
  first
    | refine CallP.pure _ (h4) rfl ?_
    | refine PureP.mk _ (h4) rfl ?_
  cbv
  refine CodeP.seq (vc_sound hT hm _ ?_)
  cbv
  refine SplitP.mk (fun hs => ?_) (fun hs => ?_)
  · have h7 : (c4 != 0) = true := hs
    have q : b4 = false := by
      rw [ec4] at h7
      cases b4 with
      | false => rfl
      | true => cases h7
    refine zeroA_ret ⟨(r4 q).1, ?_⟩
    rw [(r4 q).2]
    show (300 : Int) = c4
    rw [ec4, q]; rfl
  have q4 : b4 = true := by
    have h7 : (c4 != 0) = false := hs
    rw [ec4] at h7
    cases b4 with
    | false => cases h7
    | true => rfl
  obtain ⟨rfl, rfl⟩ := r5 q4
  clear hs r4 r5
  refine vc_sound hT hm _ ?_
  cbv
  refine CallP.pure _ (Pure.args (.cons (acct_eq (.refl _) (.refl _) (.refl _) (.refl _)) .nil) h5) rfl ?_
  cbv
  exact .mk (.cons (.refl _) (.cons (.eq (.int rfl)) .nil)) rfl
theorem least_eq {l m : List GrpsD} (h : setsEqB l m = true) : leastL l = leastL m := by
  unfold leastL
  generalize (4096 : Int) = v
  unfold setsEqB at h
  have inner : ∀ (a b : List GroupD) (v : Int), eqF eqG a b = true → leastG v a = leastG v b := fun a => by
    induction a with
    | nil => intro b v h; cases b with
      | nil => rfl
      | cons y b => cases h
    | cons x a ih => intro b v h; cases b with
      | nil => cases h
      | cons y b =>
        simp only [eqF, Bool.and_eq_true] at h
        have h1 : keyG x = keyG y := of_decide_eq_true h.1
        have h2 : x.persons = y.persons := congrArg Prod.snd h1
        simp only [leastG, List.foldl_cons, h2]
        exact ih b _ h.2
  induction l generalizing m v with
  | nil => cases m with
    | nil => rfl
    | cons y m => cases h
  | cons x l ih => cases m with
    | nil => cases h
    | cons y m =>
      simp only [eqF, Bool.and_eq_true] at h
      simp only [List.foldl_cons]
      rw [inner x.l y.l v h.1]
      exact ih h.2 _
theorem rsets_same (I : List IssuedD) (L : List SightD) (C : List CoalD) : setsEqB (setsL I L C) (rsetsL I L C) = true := by
  rw [rsets_eq]
  exact setsEq_refl _
theorem add_form (a : AccountD) (s : SightD) : addA a s = if addE a s = 0 then ⟨a.ni, a.issued, a.nc, a.coal, false, a.sights ++ [s], a.coal.isEmpty, setsL a.issued (a.sights ++ [s]) a.coal⟩ else zeroA := by
  unfold addA addE
  cases checkA a with
  | true => rfl
  | false => rfl
theorem radd_least (a : AccountD) (s : SightD) : leastL (raddA a s).sets = leastL (addA a s).sets := by
  rw [add_form]
  unfold raddA
  split
  · exact (least_eq (rsets_same _ _ _)).symm
  · rfl
theorem radd_lens (a : AccountD) (s : SightD) (h : a.fit) : (raddA a s).sets.length < 9223372036854775807 ∧ ∀ x ∈ (raddA a s).sets, x.l.length < 9223372036854775807 := by
  unfold raddA
  split
  · refine ⟨by unfold rsetsL; rw [List.length_map]; exact h.big.coal, fun x hx => ?_⟩
    unfold rsetsL at hx
    obtain ⟨y, hy, rfl⟩ := List.mem_map.1 hx
    unfold rgrpsOf
    simp only [List.length_map, List.length_range]
    have := many_le y.l (a.sights ++ [s])
    have := h.si
    simp at *
    omega
  · exact ⟨by simp, by simp⟩
set_option maxRecDepth 100000 in
set_option maxHeartbeats 4000000 in
theorem RAfter_pure (a : AccountD) (s : SightD) (h : a.fit) (hf : s.seen.fields.length < 9223372036854775807) (hv : s.seen.values.length < 9223372036854775807) :
    Pure Tryz.prog 19 [.agg a.c, .agg s.c] (.tup [i64 (afterN a s), i64 (afterE a s)]) := by
  have h1 := RAdd_pure a s h.big h.si hf hv
  have hx := radd_lens a s h
  have h2 := RLeast_pure (raddA a s) hx.1 hx.2
  rw [radd_least] at h2
  obtain ⟨e, he⟩ : ∃ e, e = afterE a s := ⟨_, rfl⟩
  obtain ⟨n, hn⟩ : ∃ n, n = afterN a s := ⟨_, rfl⟩
  rw [← he, ← hn]
  unfold afterE at he
  unfold afterN at hn
  rw [← he] at h1 hn
  obtain ⟨x, hxa⟩ : ∃ x, x = raddA a s := ⟨_, rfl⟩
  rw [← hxa] at h1 h2
  obtain ⟨ln, hln⟩ : ∃ l, l = leastL (addA a s).sets := ⟨_, rfl⟩
  rw [← hln] at h2 hn
  have r1 : e ≠ 0 → n = 0 := fun h => by rw [hn, if_neg h]
  have r2 : e = 0 → n = ln := fun h => by rw [hn, if_pos h]
  clear hxa hln he hn hx h hf hv
  obtain ⟨ai, aI, ac, C, as_, S, az, Z⟩ := a
  obtain ⟨v, tk, ⟨y1, y2, y3, y4, y5, y6⟩⟩ := s
  obtain ⟨x1, x2, x3, x4, x5, x6, x7, x8⟩ := x
  refine Pure.intro (want := [i64 n, i64 e]) T_ok follows Tryz.func19 rfl (by kernel_rfl) (rs := [.tmp 4, .tmp 5]) rfl (by kernel_rfl) ?_
  generalize hP : Tryz.prog = P at *
  have hT : T.ok P := hP ▸ T_ok
  have hm : P.follows .mixedOrders = true := hP ▸ follows
  unfold Tryz.f19
  dsimp only
  cbv
  first
    | refine CallP.pure _ (h1) rfl ?_
    | refine PureP.mk _ (h1) rfl ?_
  cbv
  refine SplitP.mk (fun hs => ?_) (fun hs => ?_) <;> simp only [BE.neq_t, BE.neq_f, IE.var_d, IE.lit_d] at hs
  · refine .mk (.cons (.eq (.int ?_)) (.cons (.refl _) .nil)) rfl
    exact (r1 hs).symm
  · first
      | refine CallP.pure _ (h2) rfl ?_
      | refine PureP.mk _ (h2) rfl ?_
    cbv
    refine .mk (.cons (.eq (.int ?_)) (.cons (.eq (.int ?_)) .nil)) rfl
    · exact (r2 hs).symm
    · exact hs.symm
end Go.Proofs.YtaopkjgldokahaaGreatDoor
namespace Go.Proofs.YtaopkjgldokahaaGreatDoor
open Go.ChangeShapes Go.WideShapes Go.ChangeAt Go.RowKit

/-! An account as an argument of a law; accounts that are alike. -/
structure GroupD.fine (x : GroupD) : Prop where
  nil : x.nil = true → x.persons = []
  len : x.persons.length ≤ maxLen
set_option maxRecDepth 20000 in
theorem opd_group : OpD Tryz.prog 57 GroupD.c GroupD.fine := fun enc w spare held fuel cs x h => by
  obtain ⟨xs, m, _, _, hl, hlen, hf⟩ := DataW.trod_struct Tryz.underlying57 h
  replace hl : cs.length = 2 := hl.trans (by kernel_rfl)
  replace hlen : xs.length = 2 := hlen
  match cs, hl, hf with
  | [c0, c1], _, hf =>
    have h0 := hf 0 _ rfl
    rw [List.getElem?_eq_getElem (by omega)] at h0
    have h1 := hf 1 _ rfl
    rw [List.getElem?_eq_getElem (by omega)] at h1
    obtain ⟨y0, _, _, e0⟩ := opd_int (P := Tryz.prog) (by kernel_rfl) enc w spare held m [c0] _ h0
    obtain ⟨y2, k2, _, e2⟩ := opd_ints enc w spare held m [c1] _ h1
    refine ⟨⟨y0, y2.1, y2.2⟩, ⟨k2.1, k2.2.2⟩, rfl, fun i d v hd hv => ?_⟩
    match i, hd, hv with
    | 0, hd, hv => cases hd; cases hv; exact e0 0 _ _ rfl rfl
    | 1, hd, hv => cases hd; cases hv; exact e2 0 _ _ rfl rfl
theorem opd_groups : OpD Tryz.prog 58 (slC 2 GroupD.c) (fun p => (p.1 = true → p.2 = []) ∧ (∀ x ∈ p.2, x.fine) ∧ p.2.length ≤ maxLen) := opd_slice (n := 2) (e := 57) (by kernel_rfl) (by kernel_rfl) (by decide) opd_group (fun _ => rfl)
structure GrpsD.fine (x : GrpsD) : Prop where
  nil : x.nil = true → x.l = []
  each : ∀ g ∈ x.l, g.fine
  len : x.l.length ≤ maxLen
theorem opd_grps : OpD Tryz.prog 58 GrpsD.c GrpsD.fine := fun enc w spare held fuel cs x h => by
  obtain ⟨p, k, h1, h2⟩ := opd_groups enc w spare held fuel cs x h
  exact ⟨⟨p.1, p.2⟩, ⟨k.1, k.2.1, k.2.2⟩, h1, h2⟩
theorem opd_sets : OpD Tryz.prog 25 (slC 1 GrpsD.c) (fun p => (p.1 = true → p.2 = []) ∧ (∀ x ∈ p.2, x.fine) ∧ p.2.length ≤ maxLen) := opd_slice (n := 1) (e := 58) (by kernel_rfl) (by kernel_rfl) (by decide) opd_grps (fun _ => rfl)
structure AccountD.fine (a : AccountD) : Prop where
  ni : a.ni = true → a.issued = []
  issued : ∀ x ∈ a.issued, x.fine
  li : a.issued.length ≤ maxLen
  nc : a.nc = true → a.coal = []
  coal : ∀ x ∈ a.coal, x.fine
  lc : a.coal.length ≤ maxLen
  ns : a.ns = true → a.sights = []
  sights : ∀ x ∈ a.sights, x.fine
  ls : a.sights.length ≤ maxLen
  nz : a.nz = true → a.sets = []
  sets : ∀ x ∈ a.sets, x.fine
  lz : a.sets.length ≤ maxLen
set_option maxRecDepth 20000 in
theorem opd_account : OpD Tryz.prog 27 AccountD.c AccountD.fine := fun enc w spare held fuel cs x h => by
  obtain ⟨xs, m, _, _, hl, hlen, hf⟩ := DataW.trod_struct Tryz.underlying27 h
  replace hl : cs.length = 4 := hl.trans (by kernel_rfl)
  replace hlen : xs.length = 4 := hlen
  match cs, hl, hf with
  | [c0, c1, c2, c3], _, hf =>
    have h0 := hf 0 _ rfl
    rw [List.getElem?_eq_getElem (by omega)] at h0
    have h1 := hf 1 _ rfl
    rw [List.getElem?_eq_getElem (by omega)] at h1
    have h2 := hf 2 _ rfl
    rw [List.getElem?_eq_getElem (by omega)] at h2
    have h3 := hf 3 _ rfl
    rw [List.getElem?_eq_getElem (by omega)] at h3
    obtain ⟨y0, k0, _, e0⟩ := opd_issueds enc w spare held m [c0] _ h0
    obtain ⟨y1, k1, _, e1⟩ := opd_coals enc w spare held m [c1] _ h1
    obtain ⟨y2, k2, _, e2⟩ := opd_sights enc w spare held m [c2] _ h2
    obtain ⟨y3, k3, _, e3⟩ := opd_sets enc w spare held m [c3] _ h3
    refine ⟨⟨y0.1, y0.2, y1.1, y1.2, y2.1, y2.2, y3.1, y3.2⟩, ⟨k0.1, k0.2.1, k0.2.2, k1.1, k1.2.1, k1.2.2, k2.1, k2.2.1, k2.2.2, k3.1, k3.2.1, k3.2.2⟩, rfl, fun i d v hd hv => ?_⟩
    match i, hd, hv with
    | 0, hd, hv => cases hd; cases hv; exact e0 0 _ _ rfl rfl
    | 1, hd, hv => cases hd; cases hv; exact e1 0 _ _ rfl rfl
    | 2, hd, hv => cases hd; cases hv; exact e2 0 _ _ rfl rfl
    | 3, hd, hv => cases hd; cases hv; exact e3 0 _ _ rfl rfl
theorem eqI_refl (x : IssuedD) : eqI x x = true := by simp [eqI]
theorem eqC_refl (x : CoalD) : eqC x x = true := by simp [eqC]
theorem eqS_refl (x : SightD) : eqS x x = true := by simp [eqS]
theorem same_acct {x y : AccountD} (h1 : x.issued = y.issued) (h2 : x.coal = y.coal) (h3 : x.sights = y.sights) (h4 : setsEqB x.sets y.sets = true) : sameB x y = true := by
  unfold sameB
  rw [h1, h2, h3, h4, eqF_refl _ eqI_refl, eqF_refl _ eqC_refl, eqF_refl _ eqS_refl]
  rfl
theorem same_new (ni : Bool) (I : List IssuedD) (nc : Bool) (C : List CoalD) : sameB (newA ni I nc C) (rnewA ni I nc C) = true := by
  unfold newA rnewA
  split
  · exact same_acct rfl rfl rfl (rsets_same _ _ _)
  · exact same_acct rfl rfl rfl (setsEq_refl _)
theorem same_add (a : AccountD) (s : SightD) : sameB (addA a s) (raddA a s) = true := by
  rw [add_form]
  unfold raddA
  split
  · exact same_acct rfl rfl rfl (rsets_same _ _ _)
  · exact same_acct rfl rfl rfl (setsEq_refl _)
theorem same_issue (a : AccountD) (l : List IssuedD) : sameB (issueA a l) (rissueA a l) = true := by
  unfold issueA rissueA
  split
  · exact same_acct rfl rfl rfl (rsets_same _ _ _)
  · exact same_acct rfl rfl rfl (setsEq_refl _)
/-- what few accounts are -/
theorem fewA_fit {a : AccountD} (h : fewA a = true) (hf : a.fine) : a.fit := by
  unfold fewA at h
  simp only [Bool.and_eq_true, decide_eq_true_eq, List.all_eq_true] at h
  obtain ⟨⟨q1, q2, q3⟩, q4, q5, q6⟩ := h
  have m := maxLen_eq
  unfold fewB at q6
  simp only [Bool.and_eq_true, decide_eq_true_eq, List.all_eq_true] at q6
  obtain ⟨q7, q8, q9, q10⟩ := q6
  refine ⟨⟨⟨by omega, fun x hx => by have := q7 x hx; omega⟩, by omega, fun x hx => by have := q4 x hx; omega, by omega, fun x hx => ?_, fun x hx => ?_, by omega, fun x hx => ?_⟩, by omega, hf.ns⟩
  · have := q8 x.seen (by unfold viewsL; exact List.mem_map_of_mem hx); omega
  · have := q8 x.seen (by unfold viewsL; exact List.mem_map_of_mem hx); omega
  · have h1 := q5 x hx
    unfold fewG at h1
    simp only [Bool.and_eq_true, decide_eq_true_eq, List.all_eq_true] at h1
    exact ⟨by omega, fun g hg => by have := h1.2 g hg; omega⟩
theorem new_fit {ni : Bool} {I : List IssuedD} {nc : Bool} {C : List CoalD} (hi : ni = true → I = []) (hc : nc = true → C = []) (h : (⟨ni, I, nc, C, true, [], true, []⟩ : AccountD).fit) (hl : I.length ≤ 1000000) : (newA ni I nc C).fit := by
  unfold newA
  split
  · obtain ⟨q1, q2⟩ := sets_lens (I := I) (L := []) (C := C) (by simp) hl h.big.coal
    exact ⟨⟨h.big.iss, h.big.coal, h.big.cl, by simp, by simp, by simp, q1, q2⟩, by simp, fun _ => rfl⟩
  · exact zeroA_fit
theorem iss_fit {a : AccountD} {l : List IssuedD} (h : a.fit) (hv : ∀ x ∈ l, x.values.length < 9223372036854775807) (hl : l.length ≤ 100000) : (issueA a l).fit := by
  unfold issueA
  split
  · next he =>
    have hc : checkA a = true := by
      unfold issueE at he
      split at he
      · next hc => exact hc
      · cases he
    have hi := check_iss hc
    obtain ⟨q1, q2⟩ := sets_lens (I := a.issued ++ l) (L := a.sights) (C := a.coal) h.si (by simp; omega) h.big.coal
    refine ⟨⟨⟨by simp; omega, fun x hx => ?_⟩, h.big.coal, h.big.cl, h.big.si, h.big.sf, h.big.sv, q1, q2⟩, h.si, h.nil⟩
    rcases List.mem_append.1 hx with q | q
    · exact h.big.iss.vals x q
    · exact hv x q
  · exact zeroA_fit
end Go.Proofs.YtaopkjgldokahaaGreatDoor
namespace Go.Proofs.YtaopkjgldokahaaGreatDoor
open Go.RowKit

/-! What the examples of the chapter come to. -/
abbrev exI : List IssuedD := [⟨0, 1, false, [7]⟩, ⟨0, 2, false, [7]⟩, ⟨0, 3, false, [7]⟩, ⟨0, 3, false, [8]⟩]
abbrev exC : List CoalD := [⟨false, [0]⟩, ⟨false, [0, 1]⟩]
def tok1 (i : Nat) : Int := if i = 0 then 1 else 0
abbrev exS : SightD := ⟨0, tok1, ⟨4, 0, false, [0], false, [7]⟩⟩
abbrev exU : SightD := ⟨1, tok1, ⟨9, 0, false, [0], false, [8]⟩⟩
def exA : AccountD := newA false exI false exC
def exB : AccountD := addA exA (sightOf 0 4 7)
def exCc : AccountD := addA exA exS
def exD : AccountD := addA exCc exU
def exE : AccountD := issueA zeroA []
abbrev exSets : List GrpsD := [⟨false, [⟨0, false, [1, 2, 3]⟩]⟩, ⟨false, [⟨0, false, [3]⟩]⟩]
set_option maxRecDepth 100000 in
theorem ex1 : newE exI exC = 0 := by kernel_rfl
set_option maxRecDepth 100000 in
theorem ex2 : newE [] [⟨false, []⟩] = 310 := by kernel_rfl
set_option maxRecDepth 100000 in
theorem ex3 : afterN exA (sightOf 0 4 7) = 3 := by kernel_rfl
set_option maxRecDepth 100000 in
theorem ex4 : afterE exA (sightOf 0 4 7) = 0 := by kernel_rfl
set_option maxRecDepth 100000 in
theorem ex5 : addE exA (sightOf 0 4 7) = 0 := by kernel_rfl
set_option maxRecDepth 100000 in
theorem ex6 : afterN exB (sightOf 1 4 8) = 1 := by kernel_rfl
set_option maxRecDepth 100000 in
theorem ex7 : afterE exB (sightOf 1 4 8) = 0 := by kernel_rfl
set_option maxRecDepth 100000 in
theorem ex8 : addE exA exS = 0 := by kernel_rfl
set_option maxRecDepth 100000 in
theorem ex9 : addE exCc exU = 0 := by kernel_rfl
set_option maxRecDepth 100000 in
theorem ex10 : addE zeroA (sightOf 8 0 0) = 310 := by kernel_rfl
set_option maxRecDepth 100000 in
theorem ex11 : issueE zeroA [] = 0 := by kernel_rfl
set_option maxRecDepth 100000 in
theorem ex12 : sameB exE zeroA = true := by kernel_rfl
set_option maxRecDepth 100000 in
theorem ex13 : leastL exA.sets = 4096 := by kernel_rfl
set_option maxRecDepth 100000 in
theorem ex14 : checkA exD = true := by kernel_rfl
set_option maxRecDepth 100000 in
theorem ex15 : setsEqB exD.sets exSets = true := by kernel_rfl
end Go.Proofs.YtaopkjgldokahaaGreatDoor
namespace Go.Proofs.YtaopkjgldokahaaGreatDoor
open Go.RowKit

/-! Data in other words (order by meaning). -/
def DLe (d d' : D) : Prop := ∀ (w : World) (E : Env) (v : Value), DRep w E d v → DRep w E d' v
inductive DsLe : List D → List D → Prop
  | nil : DsLe [] []
  | cons {d d' : D} {l l' : List D} (h : DLe d d') (r : DsLe l l') : DsLe (d :: l) (d' :: l')
theorem DsLe.get {l l' : List D} (h : DsLe l l') : l.length = l'.length ∧ ∀ (i : Nat) d d', l[i]? = some d → l'[i]? = some d' → DLe d d' := by
  induction h with
  | nil => exact ⟨rfl, fun i d d' h => by simp at h⟩
  | cons h r ih =>
    refine ⟨by simp [ih.1], fun i d d' hd hd' => ?_⟩
    cases i with
    | zero => simp at hd hd'; subst hd; subst hd'; exact h
    | succ i => exact ih.2 i d d' (by simpa using hd) (by simpa using hd')
theorem DEq.le {d d' : D} (h : DEq d d') : DLe d d' := fun _ _ _ hr => h.rep hr
theorem DLe.refl (d : D) : DLe d d := fun _ _ _ h => h
theorem DLe.lit (k : IntKind) (x : Int) : DLe (.int k (.lit x)) (.int k (.var x)) := by
  have h : DEq (.int k (.lit x)) (.int k (.var x)) := .int rfl
  exact h.le
theorem Pure.argsL {P : Program} {f : Nat} {args args' : List D} {d : D} (hs : DsLe args args') (h : Pure P f args' d) : Pure P f args d := by
  obtain ⟨h1, h2⟩ := hs.get
  refine ⟨h.1, fun w G vs hL hG hv => h.2 w G vs hL hG ⟨by rw [← h1]; exact hv.1, fun i x v hx hv' => ?_⟩⟩
  have hlt := (List.getElem?_eq_some_iff.1 hx).1
  have hx0 : args[i]? = some (args[i]'(by omega)) := List.getElem?_eq_getElem (by omega)
  exact h2 i _ x hx0 hx w _ v (hv.2 i _ v hx0 hv')
theorem Pure.resL {P : Program} {f : Nat} {args : List D} {d d' : D} (h : Pure P f args d) (he : DLe d d') : Pure P f args d' := by
  refine ⟨h.1, fun w G vs hL hG hv => (h.2 w G vs hL hG hv).mono ?_⟩
  rintro e w' ⟨v, G', q1, q2, q3, q4, q5, q6⟩
  exact ⟨v, G', q1, q2, q3, q4, q5, he _ _ _ q6⟩
inductive EsLe {α : Type} (c : α → List D) : List (List D) → List α → Prop
  | nil : EsLe c [] []
  | cons {e : List D} {x : α} {es : List (List D)} {l : List α} (h : DsLe e (c x)) (r : EsLe c es l) : EsLe c (e :: es) (x :: l)
theorem EsLe.get {α : Type} {c : α → List D} {es : List (List D)} {l : List α} (h : EsLe c es l) : es.length = l.length ∧ ∀ (i : Nat) e x, es[i]? = some e → l[i]? = some x → DsLe e (c x) := by
  induction h with
  | nil => exact ⟨rfl, fun i d d' h => by simp at h⟩
  | cons h r ih =>
    refine ⟨by simp [ih.1], fun i d d' hd hd' => ?_⟩
    cases i with
    | zero => simp at hd hd'; subst hd; subst hd'; exact h
    | succ i => exact ih.2 i d d' (by simpa using hd) (by simpa using hd')
theorem EsLe.map {α β : Type} {c : α → List D} (f : β → List D) (g : β → α) (h : ∀ y, DsLe (f y) (c (g y))) : ∀ l : List β, EsLe c (l.map f) (l.map g)
  | [] => .nil
  | y :: l => .cons (h y) (EsLe.map f g h l)
theorem EsLe.le {α : Type} {c : α → List D} {es : List (List D)} {l : List α} {n : Nat} {nb : Option BE} (h : EsLe c es l) (hn : ∀ e, nb = some e → e.den = false) : DLe (.sll n es) (.slm n nb c l) := by
  intro w E v hr
  obtain ⟨h1, h2⟩ := h.get
  generalize hd : D.sll n es = d at hr
  cases hr with
  | @sll E n es a cap u hc hm hx ha hh =>
    cases hd
    rw [h1] at hc ⊢
    obtain ⟨b, base, q1, q2, q3⟩ := ha
    refine .slm u (fun e he => by rw [hn e he, q1]; rfl) hc hm (fun x hx' => ?_) (fun _ => ⟨b, base, q1, q2, fun i j hi hj => q3 i j (by omega) hj⟩) fun i x j d hx' hd' => ?_
    · obtain ⟨i, hi, rfl⟩ := List.getElem_of_mem hx'
      have he : es[i]? = some (es[i]'(by omega)) := List.getElem?_eq_getElem (by omega)
      have := h2 i _ _ he (List.getElem?_eq_getElem hi)
      rw [← this.get.1]
      exact hx _ (List.getElem_mem _)
    · have hi := (List.getElem?_eq_some_iff.1 hx').1
      have he : es[i]? = some (es[i]'(by omega)) := List.getElem?_eq_getElem (by omega)
      have hs := (h2 i _ _ he hx').get
      have hj := (List.getElem?_eq_some_iff.1 hd').1
      have hd0 : (es[i]'(by omega))[j]? = some ((es[i]'(by omega))[j]'(by omega)) := List.getElem?_eq_getElem (by omega)
      exact hs.2 j _ _ hd0 hd' w _ _ (hh i _ j _ he hd0)
  | _ => cases hd
def litI (l : List Int) : D := .sll 1 (l.map fun x => [.int .i64 (.lit x)])
theorem litI_le (l : List Int) {nb : Option BE} (hn : ∀ e, nb = some e → e.den = false) : DLe (litI l) (.slm 1 nb intC l) := by
  have := EsLe.map (c := intC) (fun x : Int => [.int .i64 (.lit x)]) id (fun x => .cons (DLe.lit _ _) .nil) l
  rw [List.map_id] at this
  exact this.le hn
theorem resL (a : D) (x : Int) : DLe (.tup [a, i64 x]) (.tup [a, .int .i64 (.lit x)]) := by
  have h : DEq (.tup [a, i64 x]) (.tup [a, .int .i64 (.lit x)]) := .tup (.cons (.refl _) (.cons (.int rfl) .nil))
  exact h.le
theorem resL3 (a : D) (b : Bool) (x : Int) : DLe (.tup [a, boolD b, i64 x]) (.tup [a, .bool (.lit b), .int .i64 (.lit x)]) := by
  have h : DEq (.tup [a, boolD b, i64 x]) (.tup [a, .bool (.lit b), .int .i64 (.lit x)]) := .tup (.cons (.refl _) (.cons (.bool rfl) (.cons (.int rfl) .nil)))
  exact h.le
theorem resLb (b : Bool) (x : Int) : DLe (.tup [boolD b, i64 x]) (.tup [.bool (.lit b), .int .i64 (.lit x)]) := by
  have h : DEq (.tup [boolD b, i64 x]) (.tup [.bool (.lit b), .int .i64 (.lit x)]) := .tup (.cons (.bool rfl) (.cons (.int rfl) .nil))
  exact h.le
theorem boolL (b : Bool) : DLe (boolD b) (.bool (.lit b)) := by
  have h : DEq (boolD b) (.bool (.lit b)) := .bool rfl
  exact h.le
theorem intL (x : Int) : DLe (i64 x) (.int .i64 (.lit x)) := by
  have h : DEq (i64 x) (.int .i64 (.lit x)) := .int rfl
  exact h.le
theorem nilL {α : Type} (n : Nat) (c : α → List D) : DLe .nils (.slm n none c ([] : List α)) := (DEq.nil0 rfl).le
set_option maxRecDepth 100000 in
set_option maxHeartbeats 4000000 in
theorem sight_pure (v g x : Int) : Pure Tryz.prog 23 [i64 v, i64 g, i64 x] (.agg (SightD.c (sightOf v g x))) := by
  obtain ⟨s, hs⟩ : ∃ s, s = sightOf v g x := ⟨_, rfl⟩
  have h1 : s.verifier = v := by rw [hs]
  have h2 : ∀ i, s.token i = 0 := fun i => by rw [hs]
  have h3 : s.seen.group = g := by rw [hs]
  have h4 : s.seen.round = 0 := by rw [hs]
  have h5 : s.seen.nilf = false ∧ s.seen.fields = [0] := by rw [hs]; exact ⟨rfl, rfl⟩
  have h6 : s.seen.nilv = false ∧ s.seen.values = [x] := by rw [hs]; exact ⟨rfl, rfl⟩
  rw [← hs]
  clear hs
  obtain ⟨sv, st, ⟨s1, s2, s3, s4, s5, s6⟩⟩ := s
  simp only at h1 h2 h3 h4 h5 h6
  obtain ⟨h5a, h5b⟩ := h5
  obtain ⟨h6a, h6b⟩ := h6
  subst h1 h3
  refine Pure.intro (want := [.agg (SightD.c ⟨sv, st, ⟨s1, s2, s3, s4, s5, s6⟩⟩)]) T_ok follows Tryz.func23 rfl (by kernel_rfl) (rs := [.cell 6 34]) rfl (by kernel_rfl) ?_
  generalize hP : Tryz.prog = P at *
  have hT : T.ok P := hP ▸ T_ok
  have hm : P.follows .mixedOrders = true := hP ▸ follows
  unfold Tryz.f23
  dsimp only
  cbv
  refine .mk (.cons (.aggs ?_) .nil) rfl
  refine .cons (.eq (.int rfl)) ?_
  iterate 32 refine .cons (.eq (.int (h2 _).symm)) ?_
  refine .cons (.eq (.int rfl)) (.cons (.eq (.int h4.symm)) (.cons (.trans (.eq (DEq.lits (es' := [[.int .i64 (.var 0)]]) (.cons (.cons (.int rfl) .nil) .nil))) (.sll (by rw [h5b]; rfl) (fun e h => by cases h; exact h5a))) (.cons (.eq (.sll (by rw [h6b]; rfl) (fun e h => by cases h; exact h6a))) .nil)))
end Go.Proofs.YtaopkjgldokahaaGreatDoor
namespace Go.Proofs.YtaopkjgldokahaaGreatDoor
open Go.RowKit

/-! The examples of the chapter answer as they should. -/
theorem nilL' {α : Type} (n : Nat) (c : α → List D) : DLe .nils (.slm n (some (.var true)) c ([] : List α)) := (DEq.nilv rfl rfl).le
theorem DsLe.refl : ∀ l : List D, DsLe l l
  | [] => .nil
  | d :: l => .cons (DLe.refl d) (DsLe.refl l)
theorem aggL {l l' : List D} (h : DsLe l l') : DLe (.agg l) (.agg l') := by
  obtain ⟨h1, h2⟩ := h.get
  intro w E v hr
  cases hr with
  | @agg E l vs hs hh =>
    refine .agg (by rw [← h1]; exact hs) fun i d u q1 q2 => ?_
    have hlt := (List.getElem?_eq_some_iff.1 q1).1
    have hx0 : l[i]? = some (l[i]'(by omega)) := List.getElem?_eq_getElem (by omega)
    exact h2 i _ d hx0 q1 w E u (hh i _ u hx0 q2)
abbrev nilsA : D := .agg [.nils, .nils, .nils, .nils]
theorem nilsA_le : DLe nilsA (.agg zeroA.c) := aggL (.cons (nilL' _ _) (.cons (nilL' _ _) (.cons (nilL' _ _) (.cons (nilL' _ _) .nil))))
theorem exA_fit : exA.fit := newA_fit ⟨by decide, by decide⟩ (by decide) (by decide)
theorem exB_fit : exB.fit := addA_fit exA_fit (by decide) (by decide)
theorem exCc_fit : exCc.fit := addA_fit exA_fit (by decide) (by decide)
theorem exD_fit : exD.fit := addA_fit exCc_fit (by decide) (by decide)
theorem v1 : Pure Tryz.prog 9 [.sll 3 [IssuedD.c ⟨0, 1, false, [7]⟩, IssuedD.c ⟨0, 2, false, [7]⟩, IssuedD.c ⟨0, 3, false, [7]⟩, IssuedD.c ⟨0, 3, false, [8]⟩], .sll 1 [[.sll 1 [[.int .i64 (.lit 0)]]], [.sll 1 [[.int .i64 (.lit 0)], [.int .i64 (.lit 1)]]]]] (.tup [.agg exA.c, .int .i64 (.lit 0)]) := by
  have h := New_pure false exI false exC (fun h => by cases h) (fun h => by cases h) ⟨by decide, by decide⟩ (by decide) (by decide)
  rw [ex1] at h
  exact Pure.resL (Pure.argsL (.cons ((EsLe.cons (DsLe.refl _) (.cons (DsLe.refl _) (.cons (DsLe.refl _) (.cons (DsLe.refl _) .nil)))).le fun e h => by cases h; rfl)
    (.cons ((EsLe.cons (.cons (litI_le [0] fun e h => by cases h; rfl) .nil) (.cons (.cons (litI_le [0, 1] fun e h => by cases h; rfl) .nil) .nil)).le fun e h => by cases h; rfl) .nil)) h) (resL _ _)
theorem v2 : ∃ Z : AccountD, Pure Tryz.prog 9 [.nils, .sll 1 [[.sll 1 []]]] (.tup [.agg Z.c, .int .i64 (.lit 310)]) := by
  have h := New_pure true [] false [⟨false, []⟩] (fun _ => rfl) (fun h => by cases h) ⟨by decide, by decide⟩ (by decide) (by decide)
  rw [ex2] at h
  exact ⟨_, Pure.resL (Pure.argsL (.cons (nilL' _ _) (.cons ((EsLe.cons (.cons (litI_le [] fun e h => by cases h; rfl) .nil) .nil).le fun e h => by cases h; rfl) .nil)) h) (resL _ _)⟩
theorem resN (n x : Int) : DLe (.tup [i64 n, i64 x]) (.tup [.int .i64 (.lit n), .int .i64 (.lit x)]) := by
  have h : DEq (.tup [i64 n, i64 x]) (.tup [.int .i64 (.lit n), .int .i64 (.lit x)]) := .tup (.cons (.int rfl) (.cons (.int rfl) .nil))
  exact h.le
theorem v3 : Pure Tryz.prog 18 [.agg exA.c, .agg (SightD.c (sightOf 0 4 7))] (.tup [.int .i64 (.lit 3), .int .i64 (.lit 0)]) := by
  have h := After_pure exA (sightOf 0 4 7) exA_fit (by decide) (by decide)
  rw [ex3, ex4] at h
  exact Pure.resL h (resN _ _)
theorem v4 : Pure Tryz.prog 11 [.agg exA.c, .agg (SightD.c (sightOf 0 4 7))] (.tup [.agg exB.c, .int .i64 (.lit 0)]) := by
  have h := Add_pure exA (sightOf 0 4 7) exA_fit.big exA_fit.si exA_fit.nil (by decide) (by decide)
  rw [ex5] at h
  exact Pure.resL h (resL _ _)
theorem v5 : Pure Tryz.prog 18 [.agg exB.c, .agg (SightD.c (sightOf 1 4 8))] (.tup [.int .i64 (.lit 1), .int .i64 (.lit 0)]) := by
  have h := After_pure exB (sightOf 1 4 8) exB_fit (by decide) (by decide)
  rw [ex6, ex7] at h
  exact Pure.resL h (resN _ _)
theorem v6 : Pure Tryz.prog 11 [.agg exA.c, .agg exS.c] (.tup [.agg exCc.c, .int .i64 (.lit 0)]) := by
  have h := Add_pure exA exS exA_fit.big exA_fit.si exA_fit.nil (by decide) (by decide)
  rw [ex8] at h
  exact Pure.resL h (resL _ _)
theorem v7 : Pure Tryz.prog 11 [.agg exCc.c, .agg exU.c] (.tup [.agg exD.c, .int .i64 (.lit 0)]) := by
  have h := Add_pure exCc exU exCc_fit.big exCc_fit.si exCc_fit.nil (by decide) (by decide)
  rw [ex9] at h
  exact Pure.resL h (resL _ _)
theorem v8 : ∃ Z : AccountD, Pure Tryz.prog 11 [nilsA, .agg (SightD.c (sightOf 8 0 0))] (.tup [.agg Z.c, .int .i64 (.lit 310)]) := by
  have h := Add_pure zeroA (sightOf 8 0 0) zeroA_fit.big zeroA_fit.si zeroA_fit.nil (by decide) (by decide)
  rw [ex10] at h
  exact ⟨_, Pure.resL (Pure.argsL (.cons nilsA_le (.cons (DLe.refl _) .nil)) h) (resL _ _)⟩
theorem v9 : Pure Tryz.prog 13 [nilsA, .nils] (.tup [.agg exE.c, .int .i64 (.lit 0)]) := by
  have h := Issue_pure zeroA [] true zeroA_fit (fun _ => rfl) (by decide) (by decide)
  rw [ex11] at h
  exact Pure.resL (Pure.argsL (.cons nilsA_le (.cons (nilL' _ _) .nil)) h) (resL _ _)
theorem exE_fit : exE.big := by
  have h : exE = ⟨true, [], true, [], true, [], true, []⟩ := by
    have e : issueE zeroA [] = 0 := ex11
    unfold exE issueA
    rw [if_pos e]
    rfl
  rw [h]
  exact zeroA_fit.big
theorem v10 : Pure Tryz.prog 15 [.agg exE.c, nilsA] (.bool (.lit true)) := by
  have h := Same_pure exE zeroA exE_fit
  rw [ex12] at h
  exact Pure.resL (Pure.argsL (.cons (DLe.refl _) (.cons nilsA_le .nil)) h) (boolL _)
theorem v11 : Pure Tryz.prog 20 [nilsA] (.int .i64 (.lit 4096)) := by
  have h := Least_pure zeroA (by decide) (by decide)
  exact Pure.resL (Pure.argsL (.cons nilsA_le .nil) h) (intL _)
theorem v12 : Pure Tryz.prog 20 [.agg exA.c] (.int .i64 (.lit 4096)) := by
  have h := Least_pure exA exA_fit.big.sets fun x hx => (exA_fit.big.gl x hx).1
  rw [ex13] at h
  exact Pure.resL h (intL _)
theorem v13 : Pure Tryz.prog 16 [.agg exD.c] (.int .i64 (.lit 0)) := by
  have h := Check31_pure exD exD_fit.big exD_fit.si
  rw [ex14] at h
  exact Pure.resL h (intL _)
theorem v14 : Pure Tryz.prog 24 [.slm 1 (some (.var exD.nz)) GrpsD.c exD.sets, .sll 1 [[.sll 2 [[.int .i64 (.lit 0), .sll 1 [[.int .i64 (.lit 1)], [.int .i64 (.lit 2)], [.int .i64 (.lit 3)]]]]], [.sll 2 [[.int .i64 (.lit 0), .sll 1 [[.int .i64 (.lit 3)]]]]]]] (.bool (.lit true)) := by
  have h := SameSets_pure exD.sets exSets (some (.var exD.nz)) none exD_fit.big.sets exD_fit.big.gl
  rw [ex15] at h
  exact Pure.resL (Pure.argsL (.cons (DLe.refl _) (.cons ((EsLe.cons (.cons ((EsLe.cons (.cons (DLe.lit _ _) (.cons (litI_le [1, 2, 3] fun e h => by cases h; rfl) .nil)) .nil).le fun e h => by cases h; rfl) .nil)
    (.cons (.cons ((EsLe.cons (.cons (DLe.lit _ _) (.cons (litI_le [3] fun e h => by cases h; rfl) .nil)) .nil).le fun e h => by cases h; rfl) .nil) .nil)).le fun e h => by cases h) .nil)) h) (boolL _)
theorem cpV (p v : Int) : Pure Tryz.prog 22 [.int .i64 (.lit p), .int .i64 (.lit v)] (.agg (IssuedD.c ⟨0, p, false, [v]⟩)) := Pure.argsL (.cons (DLe.lit _ _) (.cons (DLe.lit _ _) .nil)) (copyOf_pure p v)
theorem siV (a b c : Int) : Pure Tryz.prog 23 [.int .i64 (.lit a), .int .i64 (.lit b), .int .i64 (.lit c)] (.agg (SightD.c (sightOf a b c))) := Pure.argsL (.cons (DLe.lit _ _) (.cons (DLe.lit _ _) (.cons (DLe.lit _ _) .nil))) (sight_pure a b c)
end Go.Proofs.YtaopkjgldokahaaGreatDoor
namespace Go.Proofs.YtaopkjgldokahaaGreatDoor
open Go.RowKit

/-! sane, walked. -/
set_option maxRecDepth 100000 in
set_option maxHeartbeats 4000000 in
theorem sane_pure : Pure Tryz.prog 5 [] (boolD true) := by
  have e : (boolD true : D) = retD [boolD true] := rfl
  rw [e]
  have c1 := cpV 1 7
  have c2 := cpV 2 7
  have c3 := cpV 3 7
  have c4 := cpV 3 8
  have k1 := siV 0 4 7
  have k2 := siV 1 4 8
  have k3 := siV 1 9 8
  have k4 := siV 8 0 0
  have w1 := v1
  obtain ⟨Z1, w2⟩ := v2
  have w3 := v3
  have w4 := v4
  have w5 := v5
  have w6 := v6
  have w7 := v7
  obtain ⟨Z2, w8⟩ := v8
  have w9 := v9
  have w10 := v10
  have w11 := v11
  have w12 := v12
  have w13 := v13
  have w14 := v14
  have hS : ∀ (x : SightD), x = sightOf 0 4 7 → DsEq [.int .i64 (.var x.verifier), .int .i64 (.var x.seen.group)] [.int .i64 (.var 0), .int .i64 (.var 4)] := fun x h => by rw [h]; exact .cons (.refl _) (.cons (.refl _) .nil)
  clear hS
  obtain ⟨X1, hX1⟩ : ∃ X : IssuedD, X = ⟨0, 1, false, [7]⟩ := ⟨_, rfl⟩
  obtain ⟨X2, hX2⟩ : ∃ X : IssuedD, X = ⟨0, 2, false, [7]⟩ := ⟨_, rfl⟩
  obtain ⟨X3, hX3⟩ : ∃ X : IssuedD, X = ⟨0, 3, false, [7]⟩ := ⟨_, rfl⟩
  obtain ⟨X4, hX4⟩ : ∃ X : IssuedD, X = ⟨0, 3, false, [8]⟩ := ⟨_, rfl⟩
  rw [← hX1] at c1 w1
  rw [← hX2] at c2 w1
  rw [← hX3] at c3 w1
  rw [← hX4] at c4 w1
  clear hX1 hX2 hX3 hX4
  have w6' : ∀ S1 : SightD, S1 = sightOf 0 4 7 → Pure Tryz.prog 11 [.agg exA.c, .agg (.int .i64 (.var S1.verifier) :: .int .u8 (.lit 1) :: (List.replicate 31 (.int .u8 (.lit 0)) ++ S1.seen.c))] (.tup [.agg exCc.c, .int .i64 (.lit 0)]) := fun S1 h => by
    rw [h]
    refine Pure.argsL (.cons (DLe.refl _) (.cons (aggL ?_) .nil)) w6
    refine .cons (DLe.refl _) ?_
    iterate 32 refine .cons (by exact DEq.le (.int rfl)) ?_
    exact DsLe.refl _
  have w7' : ∀ S1 : SightD, S1 = sightOf 1 9 8 → Pure Tryz.prog 11 [.agg exCc.c, .agg (.int .i64 (.var S1.verifier) :: .int .u8 (.lit 1) :: (List.replicate 31 (.int .u8 (.lit 0)) ++ S1.seen.c))] (.tup [.agg exD.c, .int .i64 (.lit 0)]) := fun S1 h => by
    rw [h]
    refine Pure.argsL (.cons (DLe.refl _) (.cons (aggL ?_) .nil)) w7
    refine .cons (DLe.refl _) ?_
    iterate 32 refine .cons (by exact DEq.le (.int rfl)) ?_
    exact DsLe.refl _
  have w6 := w6' _ rfl
  have w7 := w7' _ rfl
  clear w6' w7'
  obtain ⟨S1, hS1⟩ : ∃ S, S = sightOf 0 4 7 := ⟨_, rfl⟩
  obtain ⟨S2, hS2⟩ : ∃ S, S = sightOf 1 4 8 := ⟨_, rfl⟩
  obtain ⟨S3, hS3⟩ : ∃ S, S = sightOf 1 9 8 := ⟨_, rfl⟩
  obtain ⟨S4, hS4⟩ : ∃ S, S = sightOf 8 0 0 := ⟨_, rfl⟩
  rw [← hS1] at k1 w3 w4 w6
  rw [← hS2] at k2 w5
  rw [← hS3] at k3 w7
  rw [← hS4] at k4 w8
  clear hS1 hS2 hS3 hS4
  obtain ⟨A, hA⟩ : ∃ A, A = exA := ⟨_, rfl⟩
  obtain ⟨B, hB⟩ : ∃ A, A = exB := ⟨_, rfl⟩
  obtain ⟨Cc, hC⟩ : ∃ A, A = exCc := ⟨_, rfl⟩
  obtain ⟨Dd, hD⟩ : ∃ A, A = exD := ⟨_, rfl⟩
  obtain ⟨E, hE⟩ : ∃ A, A = exE := ⟨_, rfl⟩
  rw [← hA] at w1 w3 w4 w6 w12
  rw [← hB] at w4 w5
  rw [← hC] at w6 w7
  rw [← hD] at w7 w13 w14
  rw [← hE] at w9 w10
  clear hA hB hC hD hE
  obtain ⟨s11, s12, ⟨s13, s14, s15, s16, s17, s18⟩⟩ := S1
  obtain ⟨s21, s22, ⟨s23, s24, s25, s26, s27, s28⟩⟩ := S2
  obtain ⟨s31, s32, ⟨s33, s34, s35, s36, s37, s38⟩⟩ := S3
  obtain ⟨s41, s42, ⟨s43, s44, s45, s46, s47, s48⟩⟩ := S4
  obtain ⟨a1, a2, a3, a4, a5, a6, a7, a8⟩ := A
  obtain ⟨b1, b2, b3, b4, b5, b6, b7, b8⟩ := B
  obtain ⟨cc1, cc2, cc3, cc4, cc5, cc6, cc7, cc8⟩ := Cc
  obtain ⟨d1, d2, d3, d4, d5, d6, d7, d8⟩ := Dd
  obtain ⟨e1, e2, e3, e4, e5, e6, e7, e8⟩ := E
  obtain ⟨z11, z12, z13, z14, z15, z16, z17, z18⟩ := Z1
  obtain ⟨z21, z22, z23, z24, z25, z26, z27, z28⟩ := Z2
  obtain ⟨x11, x12, x13, x14⟩ := X1
  obtain ⟨x21, x22, x23, x24⟩ := X2
  obtain ⟨x31, x32, x33, x34⟩ := X3
  obtain ⟨x41, x42, x43, x44⟩ := X4
  clear e
  refine Pure.introC T_ok Tryz.func5 rfl (by kernel_rfl) (rs := [.tmp 0]) rfl (by kernel_rfl) ?_
  generalize hP : Tryz.prog = P at *
  have hT : T.ok P := hP ▸ T_ok
  have hm : P.follows .mixedOrders = true := hP ▸ follows
  unfold Tryz.f5
  dsimp only
  refine CodeP.seq (vc_sound hT hm _ ?_)
  cbv
  refine CodeP.seq (vc_sound hT hm _ ?_)
  cbv
  first
    | refine CallP.pure _ (c1) rfl ?_
    | refine PureP.mk _ (c1) rfl ?_
  cbv
  first
    | refine CallP.pure _ (c2) rfl ?_
    | refine PureP.mk _ (c2) rfl ?_
  cbv
  first
    | refine CallP.pure _ (c3) rfl ?_
    | refine PureP.mk _ (c3) rfl ?_
  cbv
  first
    | refine CallP.pure _ (c4) rfl ?_
    | refine PureP.mk _ (c4) rfl ?_
  cbv
  refine CodeP.seq (vc_sound hT hm _ ?_)
  cbv
  first
    | refine CallP.pure _ (w1) rfl ?_
    | refine PureP.mk _ (w1) rfl ?_
  cbv
  refine CodeP.keep [2, 3] ?_
  refine CodeP.seq (vc_sound hT hm _ ?_)
  cbv
  refine OpsP.pre hT [(2, .ptr 0 1 0), (3, .int .i64 (.lit 0)), (36, .sll 1 [])] [.cells (AccountD.c ⟨a1, a2, a3, a4, a5, a6, a7, a8⟩), .dead] ⟨⟨.refl _, .refl _, .sll rfl (.inl ⟨_, _, rfl, rfl⟩) rfl rfl rfl, trivial⟩, ⟨.refl _, .dead _, trivial⟩, rfl⟩ (Nat.zero_le _) ?_
  cbv
  first
    | refine CallP.pure _ (w2) rfl ?_
    | refine PureP.mk _ (w2) rfl ?_
  cbv
  refine CodeP.keep [2, 3, 5] ?_
  refine CodeP.seq (vc_sound hT hm _ ?_)
  cbv
  first
    | refine CallP.pure _ (k1) rfl ?_
    | refine PureP.mk _ (k1) rfl ?_
  cbv
  first
    | refine CallP.pure _ (w3) rfl ?_
    | refine PureP.mk _ (w3) rfl ?_
  cbv
  refine CodeP.keep [2, 3, 5, 6, 7] ?_
  refine CodeP.seq (vc_sound hT hm _ ?_)
  cbv
  refine FootP.intro hT hm [(7, [3])] (by kernel_rfl) ?_
  cbv
  first
    | refine CallP.pure _ (k1) rfl ?_
    | refine PureP.mk _ (k1) rfl ?_
  cbv
  first
    | refine CallP.pure _ (w4) rfl ?_
    | refine PureP.mk _ (w4) rfl ?_
  cbv
  refine CodeP.keep [2, 3, 5, 6, 7, 8, 9] ?_
  refine CodeP.seq (vc_sound hT hm _ ?_)
  cbv
  first
    | refine CallP.pure _ (k2) rfl ?_
    | refine PureP.mk _ (k2) rfl ?_
  cbv
  first
    | refine CallP.pure _ (w5) rfl ?_
    | refine PureP.mk _ (w5) rfl ?_
  cbv
  refine CodeP.keep [2, 3, 5, 6, 7, 9, 10, 11] ?_
  refine CodeP.seq (vc_sound hT hm _ ?_)
  cbv
  first
    | refine CallP.pure _ (k1) rfl ?_
    | refine PureP.mk _ (k1) rfl ?_
  cbv
  first
    | refine CallP.pure _ (k3) rfl ?_
    | refine PureP.mk _ (k3) rfl ?_
  cbv
  refine CodeP.keep [2, 3, 5, 6, 7, 9, 10, 11, 12, 13] ?_
  refine CodeP.seq (vc_sound hT hm _ ?_)
  cbv
  refine CodeP.keep [2, 3, 5, 6, 7, 9, 10, 11, 12, 13] ?_
  refine CodeP.seq (vc_sound hT hm _ ?_)
  cbv
  first
    | refine CallP.pure _ (w6) rfl ?_
    | refine PureP.mk _ (w6) rfl ?_
  cbv
  refine CodeP.keep [2, 3, 5, 6, 7, 9, 10, 11, 13, 14, 15] ?_
  refine CodeP.seq (vc_sound hT hm _ ?_)
  cbv
  first
    | refine CallP.pure _ (w7) rfl ?_
    | refine PureP.mk _ (w7) rfl ?_
  cbv
  refine CodeP.keep [2, 3, 5, 6, 7, 9, 10, 11, 15, 16, 17] ?_
  refine CodeP.seq (vc_sound hT hm _ ?_)
  cbv
  first
    | refine CallP.pure _ (k4) rfl ?_
    | refine PureP.mk _ (k4) rfl ?_
  cbv
  first
    | refine CallP.pure _ (w8) rfl ?_
    | refine PureP.mk _ (w8) rfl ?_
  cbv
  refine CodeP.keep [2, 3, 5, 6, 7, 9, 10, 11, 15, 16, 17, 19] ?_
  refine CodeP.seq (vc_sound hT hm _ ?_)
  cbv
  first
    | refine CallP.pure _ (w9) rfl ?_
    | refine PureP.mk _ (w9) rfl ?_
  cbv
  refine CodeP.keep [2, 3, 5, 6, 7, 9, 10, 11, 15, 16, 17, 19, 20, 21] ?_
  refine CodeP.seq (vc_sound hT hm _ ?_)
  cbv
  first
    | refine CallP.pure _ (w10) rfl ?_
    | refine PureP.mk _ (w10) rfl ?_
  cbv
  refine CodeP.keep [2, 6, 10, 16] ?_
  refine CodeP.seq (vc_sound hT hm _ ?_)
  cbv
  first
    | refine CallP.pure _ (w11) rfl ?_
    | refine PureP.mk _ (w11) rfl ?_
  cbv
  first
    | refine CallP.pure _ (w12) rfl ?_
    | refine PureP.mk _ (w12) rfl ?_
  cbv
  first
    | refine CallP.pure _ (w13) rfl ?_
    | refine PureP.mk _ (w13) rfl ?_
  cbv
  refine CodeP.keep [16] ?_
  refine vc_sound hT hm _ ?_
  cbv
  first
    | refine CallP.pure _ (w14) rfl ?_
    | refine PureP.mk _ (w14) rfl ?_
  cbv
  exact .mk (.cons (.eq (.bool rfl)) .nil) rfl
end Go.Proofs.YtaopkjgldokahaaGreatDoor
