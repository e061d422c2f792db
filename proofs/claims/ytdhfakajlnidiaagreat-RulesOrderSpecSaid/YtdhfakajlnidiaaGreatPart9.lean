/- Part 9 of the walks and laws that these claims rest on. No condition. -/
import Derived.Maps.AppendAt
import Derived.Maps.RangeRun
import Derived.WalkKit
import Derived.Laws.OwnMore
import Derived.RangeFuncNested
import Derived.RangeFuncLeaves
import Derived.RangeFuncBound
import Derived.Maps.OwnIn
import Derived.Shelf.Abstract
import Derived.OwnWalkIn
import Derived.TacticsInMore
import Derived.LoopNIn
import Derived.LoopIn
import Derived.BigGuardIn
import Derived.Lib.Hide
import Derived.Test.YtdhfakajlnidiaaGreatPart8
set_option linter.all false
set_option linter.unusedSimpArgs false
set_option linter.unusedVariables false
set_option linter.unnecessarySimpa false
namespace Go.Proofs.YtdhfakajlnidiaaGreat
open Go.RowKit

/-! Heaps, in plain words. -/
def atL (L : List Int) (k : Nat) : Int := (L[k]?).getD 0
theorem atL_get {L : List Int} {k : Nat} {x : Int} (h : L[k]? = some x) : atL L k = x := by unfold atL; rw [h]; rfl
theorem get_atL {L : List Int} {k : Nat} (h : k < L.length) : L[k]? = some (atL L k) := by unfold atL; rw [List.getElem?_eq_getElem h]; rfl
def swapL (L : List Int) (i j : Nat) : List Int := (L.set i (atL L j)).set j (atL L i)
theorem swap_len (L : List Int) (i j : Nat) : (swapL L i j).length = L.length := by unfold swapL; simp
theorem swap_at {L : List Int} {i j : Nat} (hi : i < L.length) (hj : j < L.length) (k : Nat) : atL (swapL L i j) k = if k = j then atL L i else if k = i then atL L j else atL L k := by
  unfold swapL
  generalize ha : atL L i = a
  generalize hb : atL L j = b
  unfold atL
  rw [List.getElem?_set, List.getElem?_set]
  by_cases e : k = j
  · subst e
    simp [hj]
  · rw [if_neg (fun q => e q.symm), if_neg e]
    by_cases e2 : k = i
    · subst e2
      simp [hi]
    · rw [if_neg (fun q => e2 q.symm), if_neg e2]
theorem swap_perm {L : List Int} {i j : Nat} (hi : i < L.length) (hj : j < L.length) : (swapL L i j).Perm L := by
  refine List.perm_iff_count.2 fun a => ?_
  unfold swapL
  rw [List.count_set (by simpa using hj), List.count_set hi]
  have e1 : atL L i = L[i] := atL_get (List.getElem?_eq_getElem hi)
  have e2 : atL L j = L[j] := atL_get (List.getElem?_eq_getElem hj)
  rw [e1, e2]
  have c1 : L[i] == a → 0 < L.count a := fun h => List.count_pos_iff.2 (by rw [beq_iff_eq] at h; rw [← h]; exact List.getElem_mem _)
  rw [List.getElem_set]
  by_cases q : i = j
  · subst q
    simp only [if_true]
    by_cases h : L[i] == a
    · have := c1 h
      simp only [h, if_true]
      omega
    · simp only [h]
      simp
  · rw [if_neg q]
    by_cases h : L[i] == a <;> by_cases h2 : L[j] == a
    · have := c1 h; simp only [h, h2, if_true]; omega
    · have := c1 h; simp only [h, h2, if_true]; simp; omega
    · simp only [h, h2, if_true]; simp
    · simp only [h, h2]; simp
/-- a heap, all but one place: which may be less than what is above it -/
structure UpOK (f : Nat → Int) (n j : Nat) : Prop where
  ord : ∀ k, 0 < k → k < n → k ≠ j → f ((k - 1) / 2) ≤ f k
  grand : 0 < j → ∀ c, 0 < c → c < n → (c - 1) / 2 = j → f ((j - 1) / 2) ≤ f c
def HeapF (f : Nat → Int) (n : Nat) : Prop := ∀ k, 0 < k → k < n → f ((k - 1) / 2) ≤ f k
/-- which may be greater than what is below it -/
structure DownOK (f : Nat → Int) (n i : Nat) : Prop where
  ord : ∀ k, 0 < k → k < n → (k - 1) / 2 ≠ i → f ((k - 1) / 2) ≤ f k
  grand : 0 < i → ∀ c, 0 < c → c < n → (c - 1) / 2 = i → f ((i - 1) / 2) ≤ f c
theorem UpOK.zero {f : Nat → Int} {n : Nat} (h : UpOK f n 0) : HeapF f n := fun k h1 h2 => h.ord k h1 h2 (by omega)
theorem UpOK.stop {f : Nat → Int} {n j : Nat} (h : UpOK f n j) (hl : f ((j - 1) / 2) ≤ f j) : HeapF f n := fun k h1 h2 => by
  by_cases e : k = j
  · rw [e]; exact hl
  · exact h.ord k h1 h2 e
theorem UpOK.next {f g : Nat → Int} {n i j : Nat} (h : UpOK f n j) (h0 : 0 < j) (hj : j < n) (hi : i = (j - 1) / 2) (hl : f j < f i) (hg : ∀ k, g k = if k = j then f i else if k = i then f j else f k) : UpOK g n i := by
  have gj : g j = f i := by rw [hg, if_pos rfl]
  have gi : g i = f j := by rw [hg, if_neg (by omega), if_pos rfl]
  have go : ∀ k, k ≠ j → k ≠ i → g k = f k := fun k h1 h2 => by rw [hg, if_neg h1, if_neg h2]
  refine ⟨fun k k0 kn ki => ?_, fun i0 c c0 cn ci => ?_⟩
  · by_cases e : k = j
    · subst e
      rw [gj, ← hi, gi]
      omega
    · rw [go k e ki]
      have hk := h.ord k k0 kn e
      by_cases e1 : (k - 1) / 2 = j
      · rw [e1, gj]
        have := h.grand h0 k k0 kn e1
        rw [← hi] at this
        exact this
      · by_cases e2 : (k - 1) / 2 = i
        · rw [e2, gi]
          rw [e2] at hk
          omega
        · rw [go _ e1 e2]
          exact hk
  · have hp := h.ord i i0 (by omega) (by omega)
    rw [go ((i - 1) / 2) (by omega) (by omega)]
    by_cases e : c = j
    · subst e
      rw [gj]
      exact hp
    · rw [go c e (by omega)]
      have := h.ord c c0 cn e
      rw [ci] at this
      omega
theorem DownOK.stop {f : Nat → Int} {n i : Nat} (h : DownOK f n i) (hl : ∀ c, 0 < c → c < n → (c - 1) / 2 = i → f i ≤ f c) : HeapF f n := fun k h1 h2 => by
  by_cases e : (k - 1) / 2 = i
  · rw [e]; exact hl k h1 h2 e
  · exact h.ord k h1 h2 e
theorem DownOK.next {f g : Nat → Int} {n i j : Nat} (h : DownOK f n i) (h0 : 0 < j) (hj : j < n) (hi : i = (j - 1) / 2) (hl : f j < f i) (hmin : ∀ c, 0 < c → c < n → (c - 1) / 2 = i → f j ≤ f c) (hg : ∀ k, g k = if k = j then f i else if k = i then f j else f k) : DownOK g n j := by
  have gj : g j = f i := by rw [hg, if_pos rfl]
  have gi : g i = f j := by rw [hg, if_neg (by omega), if_pos rfl]
  have go : ∀ k, k ≠ j → k ≠ i → g k = f k := fun k h1 h2 => by rw [hg, if_neg h1, if_neg h2]
  refine ⟨fun k k0 kn kj => ?_, fun _ c c0 cn cj => ?_⟩
  · by_cases e : k = j
    · subst e
      rw [gj, ← hi, gi]
      omega
    · by_cases e2 : k = i
      · subst e2
        rw [gi, go _ (by omega) (by omega)]
        exact h.grand k0 j h0 hj hi.symm
      · rw [go k e e2]
        by_cases e3 : (k - 1) / 2 = i
        · rw [e3, gi]
          exact hmin k k0 kn e3
        · rw [go _ kj e3]
          exact h.ord k k0 kn e3
  · rw [← hi, gi, go c (by omega) (by omega)]
    have := h.ord c c0 cn (by omega)
    rw [cj] at this
    exact this
theorem HeapF.min {f : Nat → Int} {n : Nat} (h : HeapF f n) : ∀ k, k < n → f 0 ≤ f k := fun k => by
  induction k using Nat.strongRecOn with
  | _ k ih =>
    intro hk
    rcases Nat.eq_zero_or_pos k with q | q
    · rw [q]; exact Int.le_refl _
    · have h1 := h k q hk
      have h2 := ih ((k - 1) / 2) (by omega) (by omega)
      omega
abbrev IsHeap (L : List Int) : Prop := HeapF (atL L) L.length
theorem heap_ext {f g : Nat → Int} {n : Nat} (h : HeapF f n) (e : ∀ k, k < n → f k = g k) : HeapF g n := fun k h1 h2 => by
  rw [← e k h2, ← e _ (by omega)]
  exact h k h1 h2
end Go.Proofs.YtdhfakajlnidiaaGreat
namespace Go.Proofs.YtdhfakajlnidiaaGreat
open Go.RowKit

/-! The heap's walks. -/
theorem par_den (j : Nat) (hj : j < 1000000) : binDen .quo .i64 (binDen .sub .i64 (j : Int) 1) 2 = (((j - 1) / 2 : Nat) : Int) := by
  rw [sub64 (by omega) (by omega)]
  unfold binDen
  simp only
  rcases Nat.eq_zero_or_pos j with rfl | h
  · rfl
  · have e : ((j : Int) - 1) = ((j - 1 : Nat) : Int) := by omega
    rw [e]
    have e2 : ((j - 1 : Nat) : Int).tdiv 2 = (((j - 1) / 2 : Nat) : Int) := rfl
    rw [e2, w64 (by omega) (by omega)]
theorem Less_call' (nb : Bool) (ver : Nat) (L : List Int) (n i j : Nat) (ei ej : IE) (hi : i < n) (hj : j < n) (hn : n ≤ L.length) (h1 : ei.den = (i : Int)) (h2 : ej.den = (j : Int)) {K : D → List Bk → Prop} (hK : K (.bool (.cmp .lss (.var (atL L i)) (.var (atL L j)))) (QH nb ver L n)) :
    CallP Tryz.prog 129 [.osl 1 1 ver (.var nb) (.lit 0) (.nat n), .int .i64 ei, .int .i64 ej] (QH nb ver L n) K :=
  CallP.pre _ _ (.cons (.eq (.refl _)) (.cons (.eq (.int (e' := .nat i) h1)) (.cons (.eq (.int (e' := .nat j) h2)) .nil))) (HEnt.refl _) rfl rfl (Less_call nb ver L n i j hi hj hn _ _ (get_atL (by omega)) (get_atL (by omega)) hK)
theorem Swap_call' (nb : Bool) (ver : Nat) (L : List Int) (n i j : Nat) (ei ej : IE) (hi : i < n) (hj : j < n) (hn : n ≤ L.length) (h1 : ei.den = (i : Int)) (h2 : ej.den = (j : Int)) {K : D → List Bk → Prop} (hK : K (.tup []) (QH nb ver (swapL L i j) n)) :
    CallP Tryz.prog 133 [.osl 1 1 ver (.var nb) (.lit 0) (.nat n), .int .i64 ei, .int .i64 ej] (QH nb ver L n) K :=
  CallP.pre _ _ (.cons (.eq (.refl _)) (.cons (.eq (.int (e' := .nat i) h1)) (.cons (.eq (.int (e' := .nat j) h2)) .nil))) (HEnt.refl _) rfl rfl (Swap_call nb ver L n i j hi hj hn _ _ (get_atL (by omega)) (get_atL (by omega)) hK)
set_option maxRecDepth 100000 in
set_option maxHeartbeats 4000000 in
theorem up_call (nb : Bool) (ver : Nat) (L : List Int) (j : Nat) (hj : j < L.length) (hl : L.length ≤ 100000) (h : UpOK (atL L) L.length j) {K : D → List Bk → Prop}
    (hK : ∀ L' : List Int, L'.Perm L → HeapF (atL L') L'.length → K (.tup []) (QH nb ver L' L'.length)) :
    CallP Tryz.prog 52 [.ifc 88 (.ptr 0 1 0), .int .i64 (.nat j)] (QH nb ver L L.length) K := by
  obtain ⟨n, hn⟩ : ∃ n : Nat, n = L.length := ⟨_, rfl⟩
  rw [← hn] at hj hl h ⊢
  have hLess := @Less_call'
  have hSwap := @Swap_call'
  have iLess := @inv_less
  have iSwap := @inv_swap
  have sAt := @swap_at
  have sPerm := @swap_perm
  obtain ⟨A, hA⟩ : ∃ f, f = atL := ⟨_, rfl⟩
  obtain ⟨S, hS⟩ : ∃ f, f = swapL := ⟨_, rfl⟩
  simp only [← hA] at hLess sAt h hK
  simp only [← hS] at hSwap sAt sPerm
  clear hA hS
  generalize hP : Tryz.prog = P at *
  have hT : T.ok P := hP ▸ T_ok
  have hm : P.follows .mixedOrders = true := hP ▸ follows
  refine (CallP.inl hT hm (hP ▸ Tryz.func52) rfl (by kernel_rfl) (rs := []) rfl (by kernel_rfl) ?_)
  unfold Tryz.f52
  dsimp only
  cbv
  refine CodeP.loopm hT hm (X := List Int × Nat) (fun x => [(1, .int .i64 (.nat x.2))]) (fun x => [.cells [.osl 1 1 ver (.var nb) (.lit 0) (.nat n)], .row 3 1 ver (.map intC x.1)]) (fun x => x.1.Perm L ∧ x.2 < n ∧ UpOK (A x.1) n x.2) (fun x => x.2) (L, j) ⟨.refl _, hj, h⟩ (fun _ => Nat.le_refl _) ⟨?_, HEnt.refl _, rfl⟩ ?_
  · (cbv; (repeat' (first | exact SnD.refl _ | exact trivial | exact SnD.nat0 | refine And.intro ?_ ?_)))
  intro ⟨M, i⟩ ⟨hp, hi, hu⟩
  simp only at hp hi hu
  have hM : M.length = n := by rw [hp.length_eq, hn]
  cbv
  have hpd := par_den i (by omega)
  obtain ⟨p, hpe⟩ : ∃ p, p = (i - 1) / 2 := ⟨_, rfl⟩
  rw [← hpe] at hpd
  refine SplitP.mk (fun hs => ?_) (fun hs => ?_)
  · have h1 : ((binDen .quo .i64 (binDen .sub .i64 (i : Int) 1) 2) == (i : Int)) = true := hs
    rw [hpd] at h1
    have h2 : i = 0 := by simp at h1; omega
    rw [h2] at hu
    have := hK M hp (by rw [hM]; exact hu.zero)
    rw [hM] at this
    exact this
  have hi0 : 0 < i := by
    have h1 : ((binDen .quo .i64 (binDen .sub .i64 (i : Int) 1) 2) == (i : Int)) = false := hs
    rw [hpd] at h1
    simp at h1
    omega
  refine iLess rfl (hLess nb ver M n i p (.nat i) (.bin .quo .i64 (.bin .sub .i64 (.nat i) (.lit 1)) (.lit 2)) hi (by omega) (by omega) rfl hpd ?_)
  cbv
  refine SplitP.mk (fun hs => ?_) (fun hs => ?_)
  · have h1 : A M p ≤ A M i := by
      have h1 : (!decide (A M i < A M p)) = true := hs
      simp at h1
      exact h1
    have := hK M hp (by rw [hM]; exact hu.stop (by rw [← hpe]; exact h1))
    rw [hM] at this
    exact this
  have hlt : A M i < A M p := by
    have h1 : (!decide (A M i < A M p)) = false := hs
    simpa using h1
  refine iSwap rfl (hSwap nb ver M n p i (.bin .quo .i64 (.bin .sub .i64 (.nat i) (.lit 1)) (.lit 2)) (.nat i) (by omega) hi (by omega) hpd rfl ?_)
  cbv
  refine BackP.intro (S M p i, p) ⟨(sPerm (by omega) (by omega)).trans hp, by show p < n; omega, hu.next hi0 hi hpe hlt fun k => sAt (by omega) (by omega) k⟩ (by show p < i; omega) ⟨?_, HEnt.refl _, rfl⟩
  (cbv; (repeat' (first | exact SnD.refl _ | exact trivial | exact SnD.nat0 | refine And.intro ?_ ?_)))
  exact .eq (.int hpd)
set_option maxRecDepth 100000 in
set_option maxHeartbeats 4000000 in
theorem down_call (nb : Bool) (ver : Nat) (L : List Int) (n : Nat) (hnl : n ≤ L.length) (hl : L.length ≤ 100000) (h : DownOK (atL L) n 0) {K : D → List Bk → Prop}
    (hK : ∀ (L' : List Int) (r : BE), L'.Perm L → HeapF (atL L') n → (∀ k, n ≤ k → atL L' k = atL L k) → K (.bool r) (QH nb ver L' L.length)) :
    CallP Tryz.prog 53 [.ifc 88 (.ptr 0 1 0), .int .i64 (.lit 0), .int .i64 (.nat n)] (QH nb ver L L.length) K := by
  obtain ⟨m, hm2⟩ : ∃ n : Nat, n = L.length := ⟨_, rfl⟩
  rw [← hm2] at hnl hl hK ⊢
  have hLess := @Less_call'
  have hSwap := @Swap_call'
  have iLess := @inv_less
  have iSwap := @inv_swap
  have sAt := @swap_at
  have sPerm := @swap_perm
  obtain ⟨A, hA⟩ : ∃ f, f = atL := ⟨_, rfl⟩
  obtain ⟨S, hS⟩ : ∃ f, f = swapL := ⟨_, rfl⟩
  simp only [← hA] at hLess sAt h hK
  simp only [← hS] at hSwap sAt sPerm
  clear hA hS
  generalize hP : Tryz.prog = P at *
  have hT : T.ok P := hP ▸ T_ok
  have hm : P.follows .mixedOrders = true := hP ▸ follows
  refine (CallP.inl hT hm (hP ▸ Tryz.func53) rfl (by kernel_rfl) (rs := [.tmp 6]) rfl (by kernel_rfl) ?_)
  unfold Tryz.f53
  dsimp only
  cbv
  refine CodeP.loopm hT hm (X := List Int × Nat) (fun x => [(7, .int .i64 (.nat x.2))]) (fun x => [.cells [.osl 1 1 ver (.var nb) (.lit 0) (.nat m)], .row 3 1 ver (.map intC x.1)]) (fun x => x.1.Perm L ∧ x.2 ≤ n ∧ DownOK (A x.1) n x.2 ∧ ∀ k, n ≤ k → A x.1 k = A L k) (fun x => n - x.2) (L, 0) ⟨.refl _, Nat.zero_le _, h, fun _ _ => rfl⟩ (fun _ => Nat.le_refl _) ⟨?_, HEnt.refl _, rfl⟩ ?_
  · (cbv; (repeat' (first | exact SnD.refl _ | exact trivial | exact SnD.nat0 | refine And.intro ?_ ?_)))
  intro ⟨M, i⟩ ⟨hp, hi, hd, hk⟩
  simp only at hp hi hd hk
  have hM : M.length = m := by rw [hp.length_eq, hm2]
  cbv
  have e1 : binDen .add .i64 (binDen .mul .i64 2 (i : Int)) 1 = ((2 * i + 1 : Nat) : Int) := by
    have : binDen .mul .i64 2 (i : Int) = 2 * (i : Int) := w64 (by omega) (by omega)
    rw [this, add64 (by omega) (by omega)]
    omega
  have e2 : binDen .add .i64 (binDen .add .i64 (binDen .mul .i64 2 (i : Int)) 1) 1 = ((2 * i + 2 : Nat) : Int) := by
    rw [e1, add64 (by omega) (by omega)]
    omega
  obtain ⟨j1, hj1e⟩ : ∃ j, j = 2 * i + 1 := ⟨_, rfl⟩
  obtain ⟨j2, hj2e⟩ : ∃ j, j = 2 * i + 2 := ⟨_, rfl⟩
  rw [← hj1e] at e1
  rw [← hj2e] at e2
  refine SplitP.mk (fun hs => ?_) (fun hs => ?_)
  · have h1 : decide (binDen .add .i64 (binDen .mul .i64 2 (i : Int)) 1 ≥ (n : Int)) = true := hs
    rw [e1] at h1
    have h2 := of_decide_eq_true h1
    exact hK M (.cmp .gtr (.nat i) (.lit 0)) hp (hd.stop fun c c0 cn ce => by omega) hk
  have hj1 : j1 < n := by
    have h1 : decide (binDen .add .i64 (binDen .mul .i64 2 (i : Int)) 1 ≥ (n : Int)) = false := hs
    rw [e1] at h1
    have h2 := of_decide_eq_false h1
    omega
  clear hs
  refine SplitP.mk (fun hs => ?_) (fun hs => ?_)
  · have h1 : decide (binDen .add .i64 (binDen .mul .i64 2 (i : Int)) 1 < 0) = true := hs
    rw [e1] at h1
    have h2 := of_decide_eq_true h1
    omega
  clear hs
  refine SplitP.mk (fun hs => ?_) (fun hs => ?_)
  · have hj2 : j2 < n := by
      have h1 : decide (binDen .add .i64 (binDen .add .i64 (binDen .mul .i64 2 (i : Int)) 1) 1 < (n : Int)) = true := hs
      rw [e2] at h1
      have h2 := of_decide_eq_true h1
      omega
    clear hs
    refine iLess rfl (hLess nb ver M m (j2) (j1) (.bin .add .i64 (.bin .add .i64 (.bin .mul .i64 (.lit 2) (.nat i)) (.lit 1)) (.lit 1)) (.bin .add .i64 (.bin .mul .i64 (.lit 2) (.nat i)) (.lit 1)) (by omega) (by omega) (by omega) e2 e1 ?_)
    cbv
    refine SplitP.mk (fun hs => ?_) (fun hs => ?_)
    · have h12 : A M (j2) < A M (j1) := of_decide_eq_true (show decide (A M (j2) < A M (j1)) = true from hs)
      have hmin : ∀ c, 0 < c → c < n → (c - 1) / 2 = i → A M (j2) ≤ A M c := fun c c0 cn ce => by
        rcases (show c = j1 ∨ c = j2 by omega) with q | q
        · rw [q]; omega
        · rw [q]; exact Int.le_refl _
      clear hs h12
      refine iLess rfl (hLess nb ver M m (j2) i (.bin .add .i64 (.bin .add .i64 (.bin .mul .i64 (.lit 2) (.nat i)) (.lit 1)) (.lit 1)) (.nat i) (by omega) (by omega) (by omega) e2 rfl ?_)
      cbv
      refine SplitP.mk (fun hs => ?_) (fun hs => ?_)
      · have h1 : A M i ≤ A M (j2) := by
          have h1 : (!decide (A M (j2) < A M i)) = true := hs
          simp at h1
          exact h1
        exact hK M (.cmp .gtr (.nat i) (.lit 0)) hp (hd.stop fun c c0 cn ce => Int.le_trans h1 (hmin c c0 cn ce)) hk
      have hlt : A M (j2) < A M i := by
        have h1 : (!decide (A M (j2) < A M i)) = false := hs
        simpa using h1
      refine iSwap rfl (hSwap nb ver M m i (j2) (.nat i) (.bin .add .i64 (.bin .add .i64 (.bin .mul .i64 (.lit 2) (.nat i)) (.lit 1)) (.lit 1)) (by omega) (by omega) (by omega) rfl e2 ?_)
      cbv
      refine BackP.intro (S M i (j2), j2) ⟨(sPerm (by omega) (by omega)).trans hp, by show j2 ≤ n; omega, hd.next (by omega) (by omega) (by omega) hlt hmin fun k => ?_, fun k hkn => ?_⟩ (by show n - (j2) < n - i; omega) ⟨?_, HEnt.refl _, rfl⟩
      · rw [sAt (by omega) (by omega)]
      · rw [sAt (by omega) (by omega), if_neg (by omega), if_neg (by omega)]
        exact hk k hkn
      (cbv; (repeat' (first | exact SnD.refl _ | exact trivial | exact SnD.nat0 | refine And.intro ?_ ?_)))
      exact .eq (.int e2)
    · have h12 : A M (j1) ≤ A M (j2) := by
        have := of_decide_eq_false (show decide (A M (j2) < A M (j1)) = false from hs)
        omega
      have hmin : ∀ c, 0 < c → c < n → (c - 1) / 2 = i → A M (j1) ≤ A M c := fun c c0 cn ce => by
        rcases (show c = j1 ∨ c = j2 by omega) with q | q
        · rw [q]; exact Int.le_refl _
        · rw [q]; exact h12
      clear hs h12
      refine iLess rfl (hLess nb ver M m (j1) i (.bin .add .i64 (.bin .mul .i64 (.lit 2) (.nat i)) (.lit 1)) (.nat i) (by omega) (by omega) (by omega) e1 rfl ?_)
      cbv
      refine SplitP.mk (fun hs => ?_) (fun hs => ?_)
      · have h1 : A M i ≤ A M (j1) := by
          have h1 : (!decide (A M (j1) < A M i)) = true := hs
          simp at h1
          exact h1
        exact hK M (.cmp .gtr (.nat i) (.lit 0)) hp (hd.stop fun c c0 cn ce => Int.le_trans h1 (hmin c c0 cn ce)) hk
      have hlt : A M (j1) < A M i := by
        have h1 : (!decide (A M (j1) < A M i)) = false := hs
        simpa using h1
      refine iSwap rfl (hSwap nb ver M m i (j1) (.nat i) (.bin .add .i64 (.bin .mul .i64 (.lit 2) (.nat i)) (.lit 1)) (by omega) (by omega) (by omega) rfl e1 ?_)
      cbv
      refine BackP.intro (S M i (j1), j1) ⟨(sPerm (by omega) (by omega)).trans hp, by show j1 ≤ n; omega, hd.next (by omega) (by omega) (by omega) hlt hmin fun k => ?_, fun k hkn => ?_⟩ (by show n - (j1) < n - i; omega) ⟨?_, HEnt.refl _, rfl⟩
      · rw [sAt (by omega) (by omega)]
      · rw [sAt (by omega) (by omega), if_neg (by omega), if_neg (by omega)]
        exact hk k hkn
      (cbv; (repeat' (first | exact SnD.refl _ | exact trivial | exact SnD.nat0 | refine And.intro ?_ ?_)))
      exact .eq (.int e1)
  · have hj2 : n ≤ j2 := by
      have h1 : decide (binDen .add .i64 (binDen .add .i64 (binDen .mul .i64 2 (i : Int)) 1) 1 < (n : Int)) = false := hs
      rw [e2] at h1
      have h2 := of_decide_eq_false h1
      omega
    have hmin : ∀ c, 0 < c → c < n → (c - 1) / 2 = i → A M (j1) ≤ A M c := fun c c0 cn ce => by
      rw [show c = j1 by omega]
      exact Int.le_refl _
    clear hs
    refine iLess rfl (hLess nb ver M m (j1) i (.bin .add .i64 (.bin .mul .i64 (.lit 2) (.nat i)) (.lit 1)) (.nat i) (by omega) (by omega) (by omega) e1 rfl ?_)
    cbv
    refine SplitP.mk (fun hs => ?_) (fun hs => ?_)
    · have h1 : A M i ≤ A M (j1) := by
        have h1 : (!decide (A M (j1) < A M i)) = true := hs
        simp at h1
        exact h1
      exact hK M (.cmp .gtr (.nat i) (.lit 0)) hp (hd.stop fun c c0 cn ce => Int.le_trans h1 (hmin c c0 cn ce)) hk
    have hlt : A M (j1) < A M i := by
      have h1 : (!decide (A M (j1) < A M i)) = false := hs
      simpa using h1
    refine iSwap rfl (hSwap nb ver M m i (j1) (.nat i) (.bin .add .i64 (.bin .mul .i64 (.lit 2) (.nat i)) (.lit 1)) (by omega) (by omega) (by omega) rfl e1 ?_)
    cbv
    refine BackP.intro (S M i (j1), j1) ⟨(sPerm (by omega) (by omega)).trans hp, by show j1 ≤ n; omega, hd.next (by omega) (by omega) (by omega) hlt hmin fun k => ?_, fun k hkn => ?_⟩ (by show n - (j1) < n - i; omega) ⟨?_, HEnt.refl _, rfl⟩
    · rw [sAt (by omega) (by omega)]
    · rw [sAt (by omega) (by omega), if_neg (by omega), if_neg (by omega)]
      exact hk k hkn
    (cbv; (repeat' (first | exact SnD.refl _ | exact trivial | exact SnD.nat0 | refine And.intro ?_ ?_)))
    exact .eq (.int e1)
end Go.Proofs.YtdhfakajlnidiaaGreat
namespace Go.Proofs.YtdhfakajlnidiaaGreat
open Go.RowKit

/-! The queue's Push and Pop, the heap's Push and Pop. -/
set_option maxRecDepth 100000 in
set_option maxHeartbeats 4000000 in
theorem QPush_call (nb : Bool) (ver : Nat) (L : List Int) (x : Int) (hl : L.length ≤ 100000) {K : D → List Bk → Prop} (hK : K (.tup []) (QH false (ver + 1) (L ++ [x]) (L.length + 1))) :
    CallP Tryz.prog 131 [.ptr 0 1 0, .ifc 3 (.int .i64 (.var x))] (QH nb ver L L.length) K := by
  obtain ⟨n, hn⟩ : ∃ n : Nat, n = L.length := ⟨_, rfl⟩
  rw [← hn] at hl hK ⊢
  obtain ⟨M, hM⟩ : ∃ M, M = L ++ [x] := ⟨_, rfl⟩
  rw [← hM] at hK
  refine CallP.post ?_
  generalize hP : Tryz.prog = P
  have hT : T.ok P := hP ▸ T_ok
  have hm : P.follows .mixedOrders = true := hP ▸ follows
  refine (CallP.inl hT hm (hP ▸ Tryz.func131) rfl (by kernel_rfl) (rs := []) rfl (by kernel_rfl) ?_)
  unfold Tryz.f131
  dsimp only
  cbv
  refine ReqP.mk (app_ok hn.symm (by omega) (fun _ => rfl) rfl (by decide)) (fun _ => ?_)
  refine ⟨_, [.cells [.osl 1 1 (ver + 1) (.var false) (.lit 0) (.nat (n + 1))], .row 3 1 (ver + 1) (.map intC M)], .eq (.refl _), ⟨.cells (.cons (.eq (.osl rfl rfl ?_)) .nil), row_app _ hM (.cons (.refl _) .nil), trivial⟩, Nat.le_refl _, rfl, hK⟩
  show (n : Int) + 1 = ((n + 1 : Nat) : Int)
  omega
set_option maxRecDepth 100000 in
set_option maxHeartbeats 4000000 in
theorem QPop_call (nb : Bool) (ver : Nat) (L : List Int) (n m : Nat) (hmn : m = n + 1) (hn : L.length = m) (hl : m ≤ 100000) (x : Int) (hx : L[n]? = some x) {K : D → List Bk → Prop} (hK : K (.ifc 3 (.int .i64 (.var x))) (QH nb ver (L.take n) n)) :
    CallP Tryz.prog 130 [.ptr 0 1 0] (QH nb ver L m) K := by
  obtain ⟨M, hM⟩ : ∃ M, M = L.take n := ⟨_, rfl⟩
  rw [← hM] at hK
  have e1 : binDen .sub .i64 (m : Int) 1 = (n : Int) := by rw [sub64 (by omega) (by omega)]; omega
  refine CallP.post ?_
  generalize hP : Tryz.prog = P
  have hT : T.ok P := hP ▸ T_ok
  have hm : P.follows .mixedOrders = true := hP ▸ follows
  refine (CallP.inl hT hm (hP ▸ Tryz.func130) rfl (by kernel_rfl) (rs := [.tmp 2]) rfl (by kernel_rfl) ?_)
  unfold Tryz.f130
  dsimp only
  cbv
  have e2 : IE.den (.bin .sub .i64 (.nat m) (.lit 1)) = (n : Int) := e1
  refine ReqP.mk ⟨by rw [e2]; omega, by rw [e2]; show (n : Int) < (m : Int); omega⟩ (fun _ => ?_)
  refine ElemP.mk (by rw [e2]; omega) (fun x' hx' => ?_)
  rw [e2] at hx'
  obtain rfl : x' = x := by have h : L[n]? = some x' := hx'; rw [hx] at h; exact (Option.some.inj h).symm
  cbv
  refine ReqP.mk ⟨by rw [e2]; omega, by rw [e2]; show (n : Int) ≤ (m : Int); omega⟩ (fun _ => ?_)
  refine ⟨_, [.cells [.osl 1 1 ver (.var nb) (.lit 0) (.nat n)], .row 3 1 ver (.map intC M)], .eq (.refl _), ⟨.cells (.cons (.eq (.osl rfl rfl e2)) .nil), .cut (k := n) ?_, trivial⟩, Nat.le_refl _, rfl, hK⟩
  rw [hM]
  show (L.map intC).take n = (L.take n).map intC
  rw [List.map_take]
set_option maxRecDepth 100000 in
set_option maxHeartbeats 4000000 in
theorem HPush_call (nb : Bool) (ver : Nat) (L : List Int) (x : Int) (hl : L.length ≤ 10000) (hh : IsHeap L) {K : D → List Bk → Prop} (hK : ∀ L' : List Int, L'.Perm (L ++ [x]) → IsHeap L' → K (.tup []) (QH false (ver + 1) L' L'.length)) :
    CallP Tryz.prog 31 [.ifc 88 (.ptr 0 1 0), .ifc 3 (.int .i64 (.var x))] (QH nb ver L L.length) K := by
  have hu : UpOK (atL (L ++ [x])) (L ++ [x]).length L.length := by
    have hlt : ∀ k, k < L.length → atL (L ++ [x]) k = atL L k := fun k hk => by unfold atL; rw [List.getElem?_append_left hk]
    refine ⟨fun k k0 kn kne => ?_, fun h0 c c0 cn ce => ?_⟩
    · simp at kn
      rw [hlt k (by omega), hlt _ (by omega)]
      exact hh k k0 (by omega)
    · simp at cn
      omega
  obtain ⟨M, hM⟩ : ∃ M, M = L ++ [x] := ⟨_, rfl⟩
  have hMl : M.length = L.length + 1 := by rw [hM]; simp
  have hPu := fun {K : D → List Bk → Prop} (hK : K (.tup []) (QH false (ver + 1) M M.length)) => QPush_call nb ver L x (by omega) (K := K) (by rw [← hM, ← hMl]; exact hK)
  have hUp := fun {K : D → List Bk → Prop} => @up_call false (ver + 1) M L.length (by omega) (by omega) (by rw [hM]; exact hu) K
  have hLen := @Len_call
  have iPush := @inv_push
  have iLen := @inv_len
  rw [← hM] at hK
  obtain ⟨n, hn⟩ : ∃ n : Nat, n = L.length := ⟨_, rfl⟩
  obtain ⟨m, hm2⟩ : ∃ n : Nat, n = M.length := ⟨_, rfl⟩
  rw [← hn] at hPu hUp hl hMl ⊢
  rw [← hm2] at hPu hUp hMl
  have e1 : binDen .sub .i64 (m : Int) 1 = (n : Int) := by rw [sub64 (by omega) (by omega)]; omega
  simp only [IsHeap] at hK
  obtain ⟨A, hA⟩ : ∃ f, f = atL := ⟨_, rfl⟩
  simp only [← hA] at hK hUp
  clear hA hu hh hM
  generalize hP : Tryz.prog = P at *
  have hT : T.ok P := hP ▸ T_ok
  have hm : P.follows .mixedOrders = true := hP ▸ follows
  refine (CallP.inl hT hm (hP ▸ Tryz.func31) rfl (by kernel_rfl) (rs := []) rfl (by kernel_rfl) ?_)
  unfold Tryz.f31
  dsimp only
  cbv
  refine iPush (hPu ?_)
  cbv
  refine iLen rfl (hLen false (ver + 1) M m ?_)
  cbv
  refine CallP.pre [.ifc 88 (.ptr 0 1 0), .int .i64 (.nat n)] _ (.cons (.eq (.refl _)) (.cons (.eq (.int e1)) .nil)) (HEnt.refl _) rfl rfl (hUp fun L' h1 h2 => ?_)
  have hk := hK L' h1 h2
  obtain ⟨n', hn'⟩ : ∃ n', n' = L'.length := ⟨_, rfl⟩
  rw [← hn'] at hk ⊢
  cbv
  exact hk
set_option maxRecDepth 100000 in
set_option maxHeartbeats 4000000 in
theorem HPop_call (nb : Bool) (ver : Nat) (L : List Int) (n m : Nat) (hmn : m = n + 1) (hLl : L.length = m) (hl : m ≤ 10000) (hh : IsHeap L) {K : D → List Bk → Prop} (hK : ∀ L' : List Int, (atL L 0 :: L').Perm L → IsHeap L' → K (.ifc 3 (.int .i64 (.var (atL L 0)))) (QH nb ver L' L'.length)) :
    CallP Tryz.prog 33 [.ifc 88 (.ptr 0 1 0)] (QH nb ver L m) K := by
  obtain ⟨S, hS⟩ : ∃ S, S = swapL L 0 n := ⟨_, rfl⟩
  have hSl : S.length = m := by rw [hS, swap_len, hLl]
  have hSat : ∀ k, atL S k = if k = n then atL L 0 else if k = 0 then atL L n else atL L k := fun k => by rw [hS]; exact swap_at (by omega) (by omega) k
  have hSp : S.Perm L := by rw [hS]; exact swap_perm (by omega) (by omega)
  have hd : DownOK (atL S) n 0 := by
    refine ⟨fun k k0 kn kne => ?_, fun h => absurd h (Nat.lt_irrefl _)⟩
    rw [hSat, hSat, if_neg (by omega), if_neg kne, if_neg (by omega), if_neg (by omega)]
    exact hh k k0 (by omega)
  obtain ⟨x0, hx0⟩ : ∃ x, x = atL L 0 := ⟨_, rfl⟩
  have hSn : atL S n = x0 := by rw [hSat, if_pos rfl, hx0]
  have hSw := fun {K : D → List Bk → Prop} => @Swap_call' nb ver L m 0 n (.lit 0) (.bin .sub .i64 (.nat m) (.lit 1)) (by omega) (by omega) (by omega) rfl (by show binDen .sub .i64 (m : Int) 1 = _; rw [sub64 (by omega) (by omega)]; omega) K
  rw [← hS] at hSw
  have hDn := fun {K : D → List Bk → Prop} => @down_call nb ver S n (by omega) (by omega) hd K
  rw [hSl] at hDn
  have hPo := fun (L2 : List Int) (h1 : L2.Perm S) (h3 : ∀ k, n ≤ k → atL L2 k = atL S k) {K : D → List Bk → Prop} => @QPop_call nb ver L2 n m hmn (by rw [h1.length_eq, hSl]) (by omega) x0 (by rw [get_atL (by rw [h1.length_eq, hSl]; omega), h3 n (Nat.le_refl _), hSn]) K
  have hFin : ∀ L2 : List Int, L2.Perm S → HeapF (atL L2) n → K (.ifc 3 (.int .i64 (.var x0))) (QH nb ver (L2.take n) n) ∨ ¬ (∀ k, n ≤ k → atL L2 k = atL S k) := fun L2 h1 h2 => by
    by_cases h3 : ∀ k, n ≤ k → atL L2 k = atL S k
    · refine .inl ?_
      have hl2 : L2.length = m := by rw [h1.length_eq, hSl]
      have htl : (L2.take n).length = n := by rw [List.length_take]; omega
      have := hK (L2.take n) ?_ (heap_ext (f := atL L2) (by rw [htl]; exact h2) fun k hk => by rw [htl] at hk; unfold atL; rw [List.getElem?_take, if_pos hk])
      · rw [← hx0, htl] at this
        exact this
      · refine List.Perm.trans ?_ (h1.trans hSp)
        have e : L2 = L2.take n ++ [x0] := by
          have h5 : L2[n]? = some x0 := by rw [get_atL (by omega), h3 n (Nat.le_refl _), hSn]
          have h6 := List.take_add_one (l := L2) (i := n)
          rw [h5, List.take_of_length_le (by omega)] at h6
          exact h6
        rw [← hx0]
        conv => rhs; rw [e]
        exact (List.perm_append_comm (l₁ := [x0]) (l₂ := L2.take n))
    · exact .inr h3
  have hLen := @Len_call
  have iPop := @inv_pop
  have iLen := @inv_len
  have iSwap := @inv_swap
  have e1 : binDen .sub .i64 (m : Int) 1 = (n : Int) := by rw [sub64 (by omega) (by omega)]; omega
  obtain ⟨A, hA⟩ : ∃ f, f = atL := ⟨_, rfl⟩
  simp only [← hA] at hDn hPo hFin
  clear hA hK hd hSat hSp hh hx0 hSn hS
  generalize hP : Tryz.prog = P at *
  have hT : T.ok P := hP ▸ T_ok
  have hm : P.follows .mixedOrders = true := hP ▸ follows
  refine (CallP.inl hT hm (hP ▸ Tryz.func33) rfl (by kernel_rfl) (rs := [.tmp 2]) rfl (by kernel_rfl) ?_)
  unfold Tryz.f33
  dsimp only
  cbv
  refine iLen rfl (hLen nb ver L m ?_)
  cbv
  refine iSwap rfl (hSw ?_)
  cbv
  refine CallP.pre [.ifc 88 (.ptr 0 1 0), .int .i64 (.lit 0), .int .i64 (.nat n)] _ (.cons (.eq (.refl _)) (.cons (.eq (.refl _)) (.cons (.eq (.int e1)) .nil))) (HEnt.refl _) rfl rfl (hDn fun L2 r h1 h2 h3 => ?_)
  have hf := (hFin L2 h1 h2).resolve_right (fun q => q h3)
  have hp2 := fun {K : D → List Bk → Prop} => @hPo L2 h1 h3 K
  obtain ⟨TT, hTT⟩ : ∃ t, t = L2.take n := ⟨_, rfl⟩
  simp only [← hTT] at hf hp2
  cbv
  refine iPop (hp2 ?_)
  cbv
  exact hf
end Go.Proofs.YtdhfakajlnidiaaGreat
namespace Go.Proofs.YtdhfakajlnidiaaGreat
open Go.RowKit

/-! Rows of rows, and frozen maps whose keys are met one by one. -/
structure UserD where
  nil : Bool
  l : List Int
abbrev UserD.c (x : UserD) : List D := [.slm 1 (some (.var x.nil)) intC x.l]
def usersL (many : Nat) (L : Nat → List Int) : List UserD := (List.range many).map fun x => ⟨(L x).isEmpty, L x⟩
structure KeysAt (w : World) (c : Nat) (es : Array MapEntry) (clock : Nat) (S : Int → Bool) : Prop where
  blk : w.heap[c]? = some (.map es clock)
  key : ∀ e, e ∈ es.toList → ∃ y, e.key = .int .i64 y ∧ InR .i64 y ∧ S y = true ∧ e.val = .bool true
  has : ∀ y, S y = true → ∃ e, e ∈ es.toList ∧ e.key = .int .i64 y
  apart : es.toList.Pairwise fun a b => a.key ≠ b.key ∧ a.born ≠ b.born
  clock : ∀ e, e ∈ es.toList → e.born < clock
theorem mgb_inv {w : World} {E : Env} {S : Int → Bool} {n : IE} {v : Value} (h : DRep w E (.mg .i64 (boolF S) n) v) : ∃ c es clock, v = .map (some c) ∧ E.G c ∧ KeysAt w c es clock S ∧ (es.size : Int) = n.den ∧ es.size ≤ maxLen := by
  cases h with
  | @mg _ _ _ _ c es clock hg hb hn hm hk hh ha hc hv =>
    refine ⟨c, es, clock, rfl, hg, ⟨hb, fun e he => ?_, fun y hy => hh y _ (by unfold boolF; rw [hy]; rfl), ha, hc⟩, hn, hm⟩
    obtain ⟨x, d, h1, h2, h3⟩ := hk e he
    have hS : S x = true := by
      unfold boolF at h3
      split at h3
      · assumption
      · cases h3
    have hr := hv e x (.bool (.lit true)) he h1 (by unfold boolF; rw [hS]; rfl)
    refine ⟨x, h1, h2, hS, ?_⟩
    generalize e.val = u at hr
    cases hr
    rfl
theorem KeysAt.below {w w' : World} {c : Nat} {es : Array MapEntry} {clock : Nat} {S : Int → Bool} (h : KeysAt w c es clock S) (hb : w'.heap[c]? = w.heap[c]?) : KeysAt w' c es clock S := ⟨hb.trans h.blk, h.key, h.has, h.apart, h.clock⟩
theorem KeysAt.nodup {w : World} {c : Nat} {es : Array MapEntry} {clock : Nat} {S : Int → Bool} (h : KeysAt w c es clock S) : (es.toList.map (·.born)).Nodup := by
  have := h.apart
  rw [List.nodup_iff_pairwise_ne, List.pairwise_map]
  exact this.imp fun h => h.2
def keyIs : Value → Int → Bool
  | .int .i64 z, y => z == y
  | _, _ => false
theorem keyIs_iff {v : Value} {y : Int} : keyIs v y = true ↔ v = .int .i64 y := by
  constructor
  · intro h
    unfold keyIs at h
    split at h
    · rw [eq_of_beq h]
    · cases h
  · rintro rfl
    exact beq_self_eq_true y
def doneK (es : Array MapEntry) (seen : Array Nat) (y : Int) : Bool := es.toList.any fun e => keyIs e.key y && seen.contains e.born
theorem KeysAt.uniq {w : World} {c : Nat} {es : Array MapEntry} {clock : Nat} {S : Int → Bool} (h : KeysAt w c es clock S) {a b : MapEntry} (ha : a ∈ es.toList) (hb : b ∈ es.toList) (hk : a.key = b.key ∨ a.born = b.born) : a = b := by
  obtain ⟨i, hi, rfl⟩ := List.getElem_of_mem ha
  obtain ⟨j, hj, rfl⟩ := List.getElem_of_mem hb
  rcases Nat.lt_trichotomy i j with q | q | q
  · have := List.pairwise_iff_getElem.1 h.apart i j hi hj q
    rcases hk with hk | hk
    · exact absurd hk this.1
    · exact absurd hk this.2
  · subst q; rfl
  · have := List.pairwise_iff_getElem.1 h.apart j i hj hi q
    rcases hk with hk | hk
    · exact absurd hk.symm this.1
    · exact absurd hk.symm this.2
theorem done_push {w : World} {c : Nat} {es : Array MapEntry} {clock : Nat} {S : Int → Bool} (h : KeysAt w c es clock S) {seen : Array Nat} {e : MapEntry} (he : e ∈ es.toList) {x : Int} (hx : e.key = .int .i64 x) (y : Int) :
    doneK es (seen.push e.born) y = (doneK es seen y || decide (y = x)) := by
  unfold doneK
  rw [Bool.eq_iff_iff]
  simp only [List.any_eq_true, Bool.and_eq_true, Bool.or_eq_true, decide_eq_true_eq, Array.contains_iff_mem, Array.mem_push, keyIs_iff]
  constructor
  · rintro ⟨a, h1, h2, h3 | h3⟩
    · exact .inl ⟨a, h1, h2, h3⟩
    · have := h.uniq h1 he (.inr h3)
      subst this
      rw [h2] at hx
      cases hx
      exact .inr rfl
  · rintro (⟨a, h1, h2, h3⟩ | rfl)
    · exact ⟨a, h1, h2, .inl h3⟩
    · exact ⟨e, he, hx, .inr rfl⟩
theorem done_left {w : World} {c : Nat} {es : Array MapEntry} {clock : Nat} {S : Int → Bool} (h : KeysAt w c es clock S) {seen : Array Nat} {e : MapEntry} (he : e ∈ (leftOf es seen).toList) : e ∈ es.toList ∧ ∀ x, e.key = .int .i64 x → doneK es seen x = false := by
  unfold leftOf at he
  simp only [Array.toList_filter, List.mem_filter, Bool.not_eq_true'] at he
  refine ⟨he.1, fun x hx => ?_⟩
  unfold doneK
  rw [List.any_eq_false]
  intro a ha
  simp only [Bool.and_eq_true, keyIs_iff, not_and]
  intro hk
  have := h.uniq ha he.1 (.inl (hk.trans hx.symm))
  subst this
  rw [he.2]
  exact Bool.false_ne_true
theorem done_all {w : World} {c : Nat} {es : Array MapEntry} {clock : Nat} {S : Int → Bool} (h : KeysAt w c es clock S) {seen : Array Nat} (h0 : (leftOf es seen).size = 0) (y : Int) : doneK es seen y = S y := by
  have hall : ∀ e ∈ es.toList, seen.contains e.born = true := fun e he => by
    have h1 : leftOf es seen = #[] := Array.eq_empty_of_size_eq_zero h0
    unfold leftOf at h1
    rw [Array.filter_eq_empty_iff] at h1
    have := h1 e (by simpa using he)
    simpa using this
  unfold doneK
  rw [Bool.eq_iff_iff, List.any_eq_true]
  constructor
  · rintro ⟨e, h1, h2⟩
    simp only [Bool.and_eq_true, keyIs_iff] at h2
    obtain ⟨x, k1, _, k2, _⟩ := h.key e h1
    rw [h2.1] at k1
    cases k1
    exact k2
  · intro hy
    obtain ⟨e, h1, h2⟩ := h.has y hy
    exact ⟨e, h1, by rw [hall e h1, Bool.and_true, keyIs_iff]; exact h2⟩
theorem left_lt {es : Array MapEntry} {seen : Array Nat} {e : MapEntry} (he : e ∈ (leftOf es seen).toList) : (leftOf es (seen.push e.born)).size < (leftOf es seen).size := by
  have sz : ∀ s : Array Nat, (leftOf es s).size = (es.toList.filter fun x => !s.contains x.born).length := fun s => by
    unfold leftOf
    rw [← Array.length_toList, Array.toList_filter]
  rw [sz, sz]
  unfold leftOf at he
  rw [Array.toList_filter] at he
  have h1 : (es.toList.filter fun x => !(seen.push e.born).contains x.born) = (es.toList.filter fun x => !seen.contains x.born).filter fun x => !(x.born == e.born) := by
    rw [List.filter_filter]
    refine List.filter_congr fun x _ => ?_
    rw [Bool.eq_iff_iff]
    simp only [Bool.not_eq_true', Bool.and_eq_true, ← Bool.not_eq_true, Array.contains_iff_mem, Array.mem_push, not_or, beq_iff_eq]
    exact ⟨fun h => ⟨h.2, h.1⟩, fun h => ⟨h.2, h.1⟩⟩
  rw [h1]
  refine Nat.lt_of_le_of_ne (List.length_filter_le _ _) fun hq => ?_
  have := List.length_filter_eq_length_iff.1 hq e he
  simp at this
theorem done_none (es : Array MapEntry) (y : Int) : doneK es #[] y = false := by
  unfold doneK
  rw [List.any_eq_false]
  intro a _
  simp
/-- a row of rows that the call owns: the outer row lies in bl, each inner row in a block of its own -/
structure Fam (W : World) (B bl many : Nat) (L : Nat → List Int) (X : Nat → Prop) (cs : Array Value) (vs : Nat → Value) : Prop where
  blk : Blk W bl cs 32
  size : cs.size = many
  at_ : ∀ x, x < many → cs[x]? = some (vs x)
  own : ∀ x, x < many → W.ownsRow B 3 1 (vs x) (L x).length ((L x).map (Value.int .i64))
  nil : ∀ x, x < many → (vs x = .slice none 0 0 ↔ L x = [])
  off : ∀ x b, x < many → some b = (vs x).ownBlock → b ≠ bl ∧ ¬ X b
  inj : ∀ x y b, x < many → y < many → some b = (vs x).ownBlock → some b = (vs y).ownBlock → x = y
theorem ownsRow_still {W W' : World} {B ty n k : Nat} {v : Value} {xs : List Value} (h : W.ownsRow B ty n v k xs) (hb : ∀ b, some b = v.ownBlock → W'.heap[b]? = W.heap[b]?) : W'.ownsRow B ty n v k xs := by
  refine ⟨h.1, ?_⟩
  rcases h.2 with q | ⟨g, cap, cur, rfl, hg, hh, q⟩
  · exact .inl q
  · exact .inr ⟨g, cap, cur, rfl, hg, (hb g rfl).trans hh, q⟩
theorem ownBlock_lt {W : World} {B ty n k : Nat} {v : Value} {xs : List Value} (h : W.ownsRow B ty n v k xs) : ∀ b, some b = v.ownBlock → B ≤ b ∧ b < W.heap.size := fun b hb => by
  rcases h.2 with ⟨rfl, _⟩ | ⟨g, cap, cur, rfl, hg, hh, _⟩
  · cases hb
  · have e : b = g := by simpa [Value.ownBlock] using hb
    subst e
    exact ⟨hg, (Array.getElem?_eq_some_iff.1 hh).1⟩
/-- what does not touch the rows keeps them -/
theorem Fam.still {W W' : World} {B bl many : Nat} {L : Nat → List Int} {X X' : Nat → Prop} {cs : Array Value} {vs : Nat → Value} (h : Fam W B bl many L X cs vs) (hX : ∀ b, X' b → X b ∨ W.heap.size ≤ b) (hb : ∀ b, b < W.heap.size → ¬ X b → W'.heap[b]? = W.heap[b]?) (hbl : ¬ X bl) : Fam W' B bl many L X' cs vs :=
  ⟨(hb bl h.blk.lt hbl).trans h.blk, h.size, h.at_, fun x hx => ownsRow_still (h.own x hx) fun b e => hb b (ownBlock_lt (h.own x hx) b e).2 (h.off x b hx e).2, h.nil, fun x b hx e => ⟨(h.off x b hx e).1, fun q => by
    rcases hX b q with q | q
    · exact (h.off x b hx e).2 q
    · have := (ownBlock_lt (h.own x hx) b e).2; omega⟩, h.inj⟩
/-- a number is put behind one of the rows -/
theorem Fam.put {W W1 : World} {B bl many : Nat} {L L' : Nat → List Int} {X : Nat → Prop} {cs : Array Value} {vs : Nat → Value} (h : Fam W B bl many L X cs vs) (hX : ∀ b, X b → b < W.heap.size) (hXl : ¬ X bl) {x : Nat} (hx : x < many) {z : Int} {v' : Value} (ho : W1.ownsRow B 3 1 v' ((L x).length + 1) ((L x).map (Value.int .i64) ++ [.int .i64 z])) (hg : W.grownBy W1 (vs x).ownBlock)
    (hn : v'.ownBlock = (vs x).ownBlock ∨ ∃ b, v'.ownBlock = some b ∧ W.heap.size ≤ b) (hv : v' ≠ .slice none 0 0) (hL : ∀ y, L' y = if y = x then L x ++ [z] else L y) :
    Fam (W1.setCell ⟨bl, x, none⟩ v') B bl many L' X (cs.setIfInBounds x v') (fun y => if y = x then v' else vs y) := by
  have hblx : ∀ y b, y < many → some b = (vs y).ownBlock → b ≠ bl ∧ b < W.heap.size := fun y b hy e => ⟨(h.off y b hy e).1, (ownBlock_lt (h.own y hy) b e).2⟩
  have hbl1 : Blk W1 bl cs 32 := by
    show W1.heap[bl]? = _
    rw [hg.block bl h.blk.lt fun e => (hblx x bl hx e).1 rfl]
    exact h.blk
  have hs : ∀ b, b ≠ bl → (W1.setCell ⟨bl, x, none⟩ v').heap[b]? = W1.heap[b]? := fun b hb => Below.heap_setCell W1 ⟨bl, x, none⟩ v' b hb
  have hv'b : ∀ b, some b = v'.ownBlock → b ≠ bl ∧ ¬ X b := fun b e => by
    rcases hn with q | ⟨b', q1, q2⟩
    · exact h.off x b hx (e.trans q)
    · rw [q1] at e
      cases e
      exact ⟨by have := h.blk.lt; omega, fun q => by have := hX b q; omega⟩
  refine ⟨hbl1.set x v', by simpa using h.size, fun y hy => ?_, fun y hy => ?_, fun y hy => ?_, fun y b hy e => ?_, fun y y' b hy hy' e e' => ?_⟩
  · by_cases q : y = x
    · subst q
      simp [h.size, hy]
    · rw [Array.getElem?_setIfInBounds_ne (by omega), if_neg q]
      exact h.at_ y hy
  · rw [hL]
    by_cases q : y = x
    · subst q
      rw [if_pos rfl, if_pos rfl, List.length_append, List.map_append]
      exact ownsRow_still ho fun b e => hs b (hv'b b e).1
    · rw [if_neg q, if_neg q]
      refine ownsRow_still (h.own y hy) fun b e => ?_
      rw [hs b (hblx y b hy e).1, hg.block b (hblx y b hy e).2 fun e2 => q (h.inj y x b hy hx e e2)]
  · rw [hL]
    by_cases q : y = x
    · rw [if_pos q, if_pos q]
      exact ⟨fun e => absurd e hv, fun e => by simp at e⟩
    · rw [if_neg q, if_neg q]
      exact h.nil y hy
  · by_cases q : y = x
    · simp only [q, if_true] at e
      exact hv'b b e
    · simp only [q, if_false] at e
      exact h.off y b hy e
  · have new : ∀ y, y < many → y ≠ x → some b = (vs y).ownBlock → some b = v'.ownBlock → False := fun y hy hyx e e' => by
      rcases hn with q | ⟨b', q1, q2⟩
      · exact hyx (h.inj y x b hy hx e (e'.trans q))
      · rw [q1] at e'
        cases e'
        have := (hblx y b hy e).2
        omega
    by_cases q : y = x <;> by_cases q' : y' = x
    · rw [q, q']
    · simp only [q, if_true] at e
      simp only [q', if_false] at e'
      exact (new y' hy' q' e' e).elim
    · simp only [q, if_false] at e
      simp only [q', if_true] at e'
      exact (new y hy q e e').elim
    · simp only [q, if_false] at e
      simp only [q', if_false] at e'
      exact h.inj y y' b hy hy' e e'
end Go.Proofs.YtdhfakajlnidiaaGreat
namespace Go.Proofs.YtdhfakajlnidiaaGreat
open Go.RowKit Go.ChangeMaps

/-! The walk: who needs whom, turned round. -/
theorem u56 : Tryz.prog.underlying 74 = some (.slice 32) := by kernel_rfl
theorem u32' : Tryz.prog.underlying 32 = some (.slice 3) := by kernel_rfl
theorem u40 : Tryz.prog.underlying 84 = some (.map 3 4) := by kernel_rfl
theorem info3 : (Tryz.prog.info? 3).map (fun i => (i.zero, i.size, i.bytes)) = some (some (.int .i64 0), 1, 8) := by kernel_rfl
theorem info32 : (Tryz.prog.info? 32).map (fun i => (i.zero, i.size, i.bytes)) = some (some (.slice none 0 0), 1, 24) := by kernel_rfl
def usesK (hd : Int → Bool) (nd : Int → Int → Bool) (k : Nat) (x : Nat) : List Int := (List.range k).filterMap fun h : Nat => if hd h && nd h x then some (h : Int) else none
theorem usesK_succ (hd : Int → Bool) (nd : Int → Int → Bool) (k x : Nat) : usesK hd nd (k + 1) x = if hd k && nd k x then usesK hd nd k x ++ [(k : Int)] else usesK hd nd k x := by
  unfold usesK
  rw [List.range_succ, List.filterMap_append]
  cases h : hd k && nd k x
  · rw [List.filterMap_cons_none (by rw [h]; rfl)]
    simp
  · rw [List.filterMap_cons_some (b := (k : Int)) (by rw [h]; rfl)]
    simp
theorem usesK_len (hd : Int → Bool) (nd : Int → Int → Bool) (k x : Nat) : (usesK hd nd k x).length ≤ k := by
  have := List.length_filterMap_le (fun h : Nat => if hd h && nd h x then some (h : Int) else none) (List.range k)
  simpa [usesK] using this
/-- what the look-up in the frozen outer map gives -/
def NeedAt (w : World) (G : Nat → Prop) (hd : Int → Bool) (nd : Int → Int → Bool) (c0 : Nat) (es0 : Array MapEntry) (cl0 : Nat) : Prop :=
  w.heap[c0]? = some (.map es0 cl0) ∧ G c0 ∧ ∀ y : Int, (hd y = false ∧ Instr.findNow (.int .i64) (.int .i64 y) es0.toList 0 = some none) ∨
    ∃ (j c : Nat) (es : Array MapEntry) (cl : Nat), hd y = true ∧ Instr.findNow (.int .i64) (.int .i64 y) es0.toList 0 = some (some (j, .map (some c))) ∧ G c ∧ KeysAt w c es cl (nd y)
theorem needAt {w : World} {G : Nat → Prop} {g : GraphD} {v : Value} (h : DRep w (Env.of G) (.mg .i64 (graphF g) (.nat g.m)) v) : ∃ c0 es0 cl0, v = .map (some c0) ∧ NeedAt w G g.hd g.nd c0 es0 cl0 := by
  cases h with
  | @mg _ _ _ _ c es clock hg hb hn hm hk hh ha hc hv =>
    refine ⟨c, es, clock, rfl, hb, hg, fun y => ?_⟩
    have hM : MapOK w (Env.of G).data .i64 es.toList clock (graphF g) := ⟨fun e he => by
      obtain ⟨x, d, h1, h2, h3⟩ := hk e he
      exact ⟨x, d, h1, h2, h3, hv e x d he h1 h3⟩, hh, ha, hc⟩
    rcases map_find hM y with ⟨h1, h2⟩ | ⟨j, e, d, h1, h2, h3, h4, h5⟩
    · refine .inl ⟨?_, h2⟩
      unfold graphF at h1
      split at h1
      · cases h1
      · simp_all
    · have hy : g.hd y = true := by
        unfold graphF at h4
        split at h4
        · assumption
        · cases h4
      unfold graphF at h4
      rw [if_pos hy] at h4
      cases h4
      obtain ⟨c', es', cl', q1, q2, q3, _⟩ := mgb_inv h5
      rw [q1] at h1
      exact .inr ⟨j, c', es', cl', hy, h1, q2, q3⟩
theorem NeedAt.below {w w' : World} {G : Nat → Prop} {hd : Int → Bool} {nd : Int → Int → Bool} {c0 : Nat} {es0 : Array MapEntry} {cl0 : Nat} (h : NeedAt w G hd nd c0 es0 cl0) (hb : Below w.heap.size w w') (hG : ∀ b, G b → b < w.heap.size) : NeedAt w' G hd nd c0 es0 cl0 := by
  refine ⟨(hb.block _ (hG _ h.2.1)).trans h.1, h.2.1, fun y => ?_⟩
  rcases h.2.2 y with q | ⟨j, c, es, cl, h1, h2, h3, h4⟩
  · exact .inl q
  · exact .inr ⟨j, c, es, cl, h1, h2, h3, h4.below (hb.block _ (hG _ h3))⟩
theorem row_slice {W : World} {B ty n k : Nat} {v : Value} {xs : List Value} (h : W.ownsRow B ty n v k xs) : ∃ a m c, v = .slice a m c := by
  rcases h.2 with ⟨rfl, _⟩ | ⟨g, cap, cur, rfl, _⟩
  · exact ⟨_, _, _, rfl⟩
  · exact ⟨_, _, _, rfl⟩
set_option maxRecDepth 100000 in
set_option maxHeartbeats 1000000 in
theorem users_any (hd : Int → Bool) (nd : Int → Int → Bool) (many : Nat) (hm : many ≤ 100000) (hnd : ∀ h y, hd h = true → nd h y = true → 0 ≤ y ∧ y < (many : Int)) (w : World) (G : Nat → Prop) (hG : ∀ b, G b → b < w.heap.size) (c0 : Nat) (es0 : Array MapEntry) (cl0 : Nat)
    (hN : NeedAt w G hd nd c0 es0 cl0) :
    Calls Tryz.prog 23 #[.agg #[.int .i64 (many : Int), .map (some c0)]] w fun e w' => e = .returned (.slice (some ⟨w.heap.size + 1, 0, none⟩) many many) ∧ Below w.heap.size w w' ∧
      ∃ cs vs, Fam w' (w.heap.size + 2) (w.heap.size + 1) many (usesK hd nd many) (fun _ => False) cs vs := by
  obtain ⟨i3, hi, hz0, hz1, hz2⟩ := info_parts info3
  obtain ⟨i32, ki, kz0, kz1, kz2⟩ := info_parts info32
  go_enter Tryz.func23, Tryz.ntmps23
  have hmk := run_makeSlice (P := Tryz.prog) (w := w.alloc (.cells #[.int .i64 (many : Int), .map (some c0)] 65)) 74 32 i32 _ u56 ki kz0 .i64 .i64 (many : Int) (many : Int) (by omega) (by omega) (by rw [kz1]; omega) (by rw [kz2]; omega) (by omega)
  go_wp2
  obtain ⟨w0, hw0⟩ : ∃ w0, w0 = w.alloc (.cells #[.int .i64 (many : Int), .map (some c0)] 65) := ⟨_, rfl⟩
  have hsz0 : w0.heap.size = w.heap.size + 1 := by rw [hw0]; simp
  have hb0 : Below w.heap.size w w0 := by rw [hw0]; exact (Below.refl _ _).alloc (Nat.le_refl _) _
  have hB0 : Blk w0 w.heap.size #[.int .i64 (many : Int), .map (some c0)] 65 := by rw [hw0]; exact Blk.new _ _ _
  have hst : Fam (w0.alloc (.cells (madeCells #[.slice none 0 0] many) 32)) (w.heap.size + 2) (w.heap.size + 1) many (usesK hd nd 0) (fun _ => False) (madeCells #[.slice none 0 0] many) (fun _ => .slice none 0 0) := by
    have hz : ∀ x, usesK hd nd 0 x = [] := fun x => rfl
    refine ⟨?_, size_madeCells _ _, fun x hx => ?_, fun x hx => ?_, fun x hx => ?_, fun x b hx e => ?_, fun x y b hx hy e => ?_⟩
    · have := Blk.new w0 (madeCells #[.slice none 0 0] many) 32
      rw [hsz0] at this
      exact this
    · simp [madeCells, hx, Nat.mod_one]
    · rw [hz]
      exact World.ownsRow_nil _ _ _ _
    · rw [hz]
      simp
    · cases e
    · cases e
  have hsame : ∀ {k : Nat}, hd k = false → usesK hd nd (k + 1) = usesK hd nd k := fun {k} h => by
    funext x
    rw [usesK_succ, h]
    rfl
  have hnext : ∀ {k : Nat} {es : Array MapEntry}, hd k = true → ∀ seen : Array Nat, (∀ x : Int, doneK es seen x = nd k x) → usesK hd nd (k + 1) = (fun x : Nat => if doneK es seen (x : Int) then usesK hd nd k x ++ [(k : Int)] else usesK hd nd k x) := fun {k es} h seen hq => by
    funext x
    rw [usesK_succ, h, hq]
    rfl
  rw [← hw0]
  clear hmk
  go_loopw [11] (fun i wr => ∃ (k : Nat) (cs : Array Value) (vs : Nat → Value), k ≤ many ∧ i = .int .i64 k ∧ Below (w.heap.size + 1) w0 wr ∧ Fam wr (w.heap.size + 2) (w.heap.size + 1) many (usesK hd nd k) (fun _ => False) cs vs) (fun i _ => many - (intOf i).toNat)
  case atStart => exact ⟨0, _, _, Nat.zero_le _, rfl, (Below.refl _ _).alloc (by omega) _, hst⟩
  case round =>
    obtain ⟨k, cs, vs, hk, rfl, hbw, hF⟩ := hrel
    obtain ⟨wo, rfl⟩ : ∃ wo, wo = wr := ⟨_, rfl⟩
    have hBr := hB0.below hbw (Nat.lt_succ_self _)
    have c1 := hBr.cell 1
    have hlt1 := hF.blk.lt
    simp at c1
    have hbww := hb0.trans (hbw.mono (Nat.le_succ _))
    have hNr := hN.below hbww hG
    by_cases hlt : k < many
    · rcases hNr.2.2 (k : Int) with ⟨hd0, hfind⟩ | ⟨j, c, es, cl, hd1, hfind, hGc, hKA⟩
      · have hlk : (Instr.lookup 63 (.map (some c0)) (.int .i64 (k : Int)) false).run Tryz.prog wo = .ok (.map none) wo := lookup_runM (T_ok 63 _ rfl) (T_ok 3 _ rfl) (T_ok 84 _ rfl) hNr.1 hfind
        have hrg := run_range_nilMap (P := Tryz.prog) wo 84 3 4 u40
        have hnx : ∀ ty, (Instr.next (.pointer (some ⟨wo.heap.size, 0, none⟩)) false ty).run Tryz.prog (wo.alloc (.mapIter none 0 #[] 0)) = _ := fun ty => run_next_nilMap wo ty 0 0 #[]
        go_wp2
        refine wp_loop_rounds 1 ?_
        rw [rounds_succ]
        go_wp2
        go_roundw
        case rel =>
          refine ⟨k + 1, cs, vs, by omega, by go_num, hbw.alloc (by omega) _, ?_⟩
          rw [hsame hd0]
          exact hF.still (fun _ q => .inl q) (fun b hb _ => heap_alloc_old _ _ hb) id
        case measure => simp [intOf]; omega
      · have hlk : (Instr.lookup 63 (.map (some c0)) (.int .i64 (k : Int)) false).run Tryz.prog wo = .ok (.map (some c)) wo := lookup_runM (T_ok 63 _ rfl) (T_ok 3 _ rfl) (T_ok 84 _ rfl) hNr.1 hfind
        have hrg := run_range_map (P := Tryz.prog) wo 84 3 4 c es cl u40 hKA.blk
        have hcr : c < wo.heap.size := by have := hG c hGc; omega
        go_wp2
        go_loopw [] (fun wi => ∃ (seen : Array Nat) (c1 : Nat) (cs : Array Value) (vs : Nat → Value), wi.heap[wo.heap.size]? = some (.mapIter (some c) cl seen c1) ∧ cl ≤ c1 ∧ Below (w.heap.size + 1) w0 wi ∧
          Fam wi (w.heap.size + 2) (w.heap.size + 1) many (fun x : Nat => if doneK es seen (x : Int) then usesK hd nd k x ++ [(k : Int)] else usesK hd nd k x) (fun b => b = wo.heap.size) cs vs) (fun wi => (leftOf es (wi.iterSeen wo.heap.size)).size)
        case atStart =>
          refine ⟨#[], cl, cs, vs, heap_alloc_new _ _, Nat.le_refl _, hbw.alloc (by omega) _, ?_⟩
          simp only [done_none, Bool.false_eq_true, if_false]
          exact hF.still (fun b q => .inr (by show _ ≤ b; rw [show b = _ from q]; exact Nat.le_refl _)) (fun b hb _ => heap_alloc_old _ _ hb) id
        case round =>
          obtain ⟨seen, c1', cs', vs', hit, hcl, hbi, hFi⟩ := hrel
          have hbwi := hb0.trans (hbi.mono (Nat.le_succ _))
          have hKi : KeysAt wr c es cl (nd k) := hKA.below ((hbwi.block c (hG c hGc)).trans (hbww.block c (hG c hGc)).symm)
          rcases run_next_at (P := Tryz.prog) wr 0 wo.heap.size c cl c1' seen es cl hit hKi.blk hKi.clock hcl with ⟨h0, hrun⟩ | ⟨e, he, w1, hw1, hrun⟩
          · have hnx : ∀ ty, (Instr.next (.pointer (some ⟨wo.heap.size, 0, none⟩)) false ty).run Tryz.prog wr = _ := fun _ => hrun
            go_wp2
            go_roundw
            case rel =>
              refine ⟨k + 1, cs', vs', by omega, by go_num, hbi, ?_⟩
              rw [hnext hd1 seen (fun x => done_all hKi h0 x)]
              exact hFi.still (fun _ q => by cases q) (fun b hb _ => rfl) (by show ¬ w.heap.size + 1 = wo.heap.size; omega)
            case measure => simp [intOf]; omega
          · obtain ⟨hee, hdn⟩ := done_left hKi he
            obtain ⟨y, hky, hyr, hyS, hyv⟩ := hKi.key e hee
            obtain ⟨hy0, hyl⟩ := hnd k y hd1 hyS
            obtain ⟨x, rfl⟩ : ∃ x : Nat, y = (x : Int) := ⟨y.toNat, by omega⟩
            have hx : x < many := by omega
            have hrl : wo.heap.size < wr.heap.size := (Array.getElem?_eq_some_iff.1 hit).1
            rw [hky, hyv] at hrun
            obtain ⟨W, hW⟩ : ∃ W, W = setBlock w1 wo.heap.size (.mapIter (some c) cl (seen.push e.born) cl) := ⟨_, rfl⟩
            have hWs : W.heap.size = wr.heap.size := by rw [hW]; rcases hw1 with rfl | rfl <;> simp [setBlock]
            have hWb : ∀ b, b ≠ wo.heap.size → W.heap[b]? = wr.heap[b]? := fun b hb => by
              rw [hW]
              rcases hw1 with rfl | rfl <;> exact Array.getElem?_setIfInBounds_ne (Ne.symm hb)
            have hWr : W.heap[wo.heap.size]? = some (.mapIter (some c) cl (seen.push e.born) cl) := by
              rw [hW]
              rcases hw1 with rfl | rfl <;> exact Array.getElem?_setIfInBounds_self_of_lt hrl
            have hWB : Below (w.heap.size + 1) w0 W := by
              rw [hW]
              refine ⟨?_, ?_, ?_, ?_, fun b hb => ?_⟩
              · rcases hw1 with rfl | rfl <;> exact hbi.os
              · rcases hw1 with rfl | rfl <;> exact hbi.tape
              · rcases hw1 with rfl | rfl <;> exact hbi.output
              · rw [← hW, hWs]; exact hbi.size
              · rw [← hW, hWb b (by omega)]; exact hbi.block b hb
            rw [← hW] at hrun
            have hFW := hFi.still (W' := W) (X' := fun b => b = wo.heap.size) (fun b q => .inl q) (fun b _ hb => hWb b hb) (by show ¬ w.heap.size + 1 = wo.heap.size; omega)
            have hen := run_entry_at (P := Tryz.prog) W wo.heap.size c cl seen es cl e hWr ((hWb c (by omega)).trans hKi.blk) hee hKi.nodup
            rw [hky, hyv] at hen
            have hnx : ∀ ty, (Instr.next (.pointer (some ⟨wo.heap.size, 0, none⟩)) false ty).run Tryz.prog wr = _ := fun _ => hrun
            have hcx := (hFW.blk.cell x).trans (hFW.at_ x hx)
            have hFA := hFW.still (W' := W.alloc (.cells #[.int .i64 (k : Int)] 3)) (X' := fun b => b = wo.heap.size) (fun b q => .inl q) (fun b hb _ => heap_alloc_old _ _ hb) (by show ¬ w.heap.size + 1 = wo.heap.size; omega)
            have hWs' : (W.alloc (.cells #[.int .i64 (k : Int)] 3)).heap.size = wr.heap.size + 1 := by simp [hWs]
            have hlen : (if doneK es seen (x : Int) then usesK hd nd k x ++ [(k : Int)] else usesK hd nd k x).length ≤ 100000 := by
              rw [hdn _ hky]
              have := usesK_len hd nd k x
              simp only [Bool.false_eq_true, if_false]
              omega
            have hWs2 := Lib.hid hWs
            have hWsA := Lib.hid hWs'
            clear hW hw1 hrun hWs hWs'
            go_wp2_with (first
              | (at_builtin; refine wpList_append_own_at _ rfl _ _ 32 rfl (w.heap.size + 2) 3 i3 (.int .i64 0) 1 8 u32' hi hz0 hz1 hz2 rfl (by decide) (vs' x) _ _ rfl (hFA.own x hx) ⟨W.heap.size, 0, none⟩ 1 1 [.int .i64 (k : Int)] rfl rfl (cell_one_new _ _ _) (ints_oneCell .i64 [(k : Int)]) (Nat.le_trans (Nat.add_le_add_right hlen 1) (by decide)) (Nat.le_trans (Nat.mul_le_mul_right 8 (Nat.add_le_add_right hlen 1)) (by decide)) (by rw [hWsA.out]; omega) ?_; intro v' w3 hown' hgrow hnil hat; obtain ⟨sa, sn, sc, rfl⟩ := row_slice hown'; have hB3 := hFA.blk.grown hgrow (fun q => (hFA.off x _ hx q).1 rfl); have hcx3 := (hB3.cell x).trans (hFA.at_ x hx); have hfr3 := hB3.frozen x)
              | go_in)
            have hX : ∀ b, b = wo.heap.size → b < (W.alloc (.cells #[.int .i64 (k : Int)] 3)).heap.size := fun b q => by rw [hWsA.out]; omega
            have hoff := fun b e => (hFA.off x b hx e)
            have hitN : (w3.setCell ⟨w.heap.size + 1, x, none⟩ (.slice sa sn sc)).heap[wo.heap.size]? = some (.mapIter (some c) cl (seen.push e.born) cl) := by
              rw [Below.heap_setCell _ _ _ _ (by show wo.heap.size ≠ w.heap.size + 1; omega), hgrow.block _ (hX _ rfl) (fun q => (hoff _ q).2 rfl), heap_alloc_old _ _ (by rw [hWs2.out]; exact hrl)]
              exact hWr
            go_roundw
            case rel =>
              have hnow : doneK es seen (x : Int) = false := hdn _ hky
              have hput := hFA.put (x := x) (L' := fun y : Nat => if doneK es (seen.push e.born) (y : Int) then usesK hd nd k y ++ [(k : Int)] else usesK hd nd k y) hX (by show ¬ w.heap.size + 1 = wo.heap.size; omega) hx (z := (k : Int)) (v' := .slice sa sn sc) (W1 := w3) hown' hgrow
                (hat.imp id fun q => ⟨_, q, Nat.le_refl _⟩) (fun q => absurd (hnil.1 q).2 (by decide)) (fun y => by
                  simp only [done_push hKi hee hky, hnow, Bool.false_eq_true, if_false]
                  by_cases q : y = x
                  · subst q; simp
                  · have : decide ((y : Int) = (x : Int)) = false := decide_eq_false (by omega)
                    rw [this, Bool.or_false, if_neg q])
              refine ⟨_, cl, _, _, hitN, Nat.le_refl _, ?_, hput⟩
              · refine Below.setCell ?_ (by show w.heap.size + 1 ≤ w.heap.size + 1; exact Nat.le_refl _) _
                refine Below.grown (hWB.alloc (by rw [hWs2.out]; omega) _) hgrow (by rw [hWsA.out]; omega) (fun b q => ?_)
                have := (ownBlock_lt (hFA.own x hx) b q.symm).1
                omega
            case measure => 
              have e1 : (w3.setCell ⟨w.heap.size + 1, x, none⟩ (.slice sa sn sc)).iterSeen wo.heap.size = seen.push e.born := by unfold World.iterSeen; rw [hitN]
              have e2 : wr.iterSeen wo.heap.size = seen := by unfold World.iterSeen; rw [hit]
              rw [e1, e2]
              exact left_lt he
    · obtain rfl : k = many := by omega
      go_wp2
      go_ret
      exact ⟨rfl, hbww, cs, vs, hF⟩
end Go.Proofs.YtdhfakajlnidiaaGreat
namespace Go.Proofs.YtdhfakajlnidiaaGreat
open Go.RowKit

def usesL (g : GraphD) (x : Nat) : List Int := usesK g.hd g.nd g.many x
theorem usesK_in {hd : Int → Bool} {nd : Int → Int → Bool} {k x : Nat} {z : Int} (h : z ∈ usesK hd nd k x) : ∃ i : Nat, i < k ∧ z = i := by
  unfold usesK at h
  rw [List.mem_filterMap] at h
  obtain ⟨i, h1, h2⟩ := h
  refine ⟨i, List.mem_range.1 h1, ?_⟩
  split at h2
  · exact (Option.some.inj h2).symm
  · cases h2
/-- one of the rows, as a datum -/
theorem own_rep {w : World} {G : Nat → Prop} {B : Nat} {v : Value} {l : List Int} (h : w.ownsRow B 3 1 v l.length (l.map (Value.int .i64))) (hr : ∀ z, z ∈ l → InR .i64 z) (hG : ∀ b, some b = v.ownBlock → G b) (hn : v = .slice none 0 0 ↔ l = []) (hm : l.length ≤ maxLen) {E : Env} (hE : E.G = G) :
    DRep w E (.slm 1 (some (.var l.isEmpty)) intC l) v := by
  have hc := @World.ownsRow.cells _ _ _ _ _ _ _ h
  rcases h.2 with ⟨rfl, h0⟩ | ⟨g, cap, cur, rfl, hg, hh, h1, h2, _⟩
  · have hl : l = [] := hn.1 rfl
    subst hl
    exact .slm (fun _ _ => .int .i64 0) (fun e he => by cases he; rfl) (Nat.le_refl _) (by decide) (fun x hx => by cases hx) (fun q => absurd rfl q) (fun i x j d q => by simp at q)
  · have hl : l ≠ [] := fun q => by
      have := hn.2 q
      cases this
    refine .slm (fun i _ => .int .i64 (l.getD i 0)) (fun e he => ?_) h1 h2 (fun x _ => rfl) (fun _ => ⟨g, 0, rfl, by rw [hE]; exact hG g rfl, fun i j hi hj => ?_⟩) (fun i x j d q1 q2 => ?_)
    · cases he
      show l.isEmpty = false
      cases l with
      | nil => exact absurd rfl hl
      | cons a r => rfl
    · obtain rfl : j = 0 := by omega
      have := hc (g := g) rfl i (.int .i64 (l.getD i 0)) (by rw [List.getElem?_map]; simp [hi])
      have e : (⟨g, 0, none⟩ : Addr).add i = ⟨g, i, none⟩ := by
        unfold Addr.add
        split
        · next q => simp_all
        · simp
      rw [e] at this
      simpa using this
    · match j with
      | 0 =>
        simp at q2
        subst q2
        have : l.getD i 0 = x := by simp [q1]
        rw [this]
        exact .int (e := .var x) (hr x (List.mem_of_getElem? q1))
      | j + 1 => simp at q2
set_option maxRecDepth 100000 in
set_option maxHeartbeats 4000000 in
theorem users_pure (g : GraphD) (hm : g.many ≤ 100000) (hnd : ∀ h y, g.hd h = true → g.nd h y = true → 0 ≤ y ∧ y < (g.many : Int)) : PureF Tryz.prog 23 [.agg g.c] (.slm 1 (some (.var false)) UserD.c (usersL g.many (usesL g))) := by
  refine ⟨⟨_, _, Tryz.func23, rfl, by kernel_rfl⟩, fun w G vs hL hG hv => ?_⟩
  obtain ⟨h1, h2⟩ := hv
  obtain ⟨v, rfl⟩ : ∃ v, vs = #[v] := by
    have : vs.size = 1 := by simpa using h1.symm
    exact ⟨vs[0], by apply Array.ext <;> simp [this]; intro i hi; subst hi; rfl⟩
  have h3 := h2 0 _ v rfl rfl
  cases h3 with
  | @agg _ _ us hs hh =>
    obtain ⟨a, b, rfl⟩ : ∃ a b, us = #[a, b] := by
      have : us.size = 2 := by simpa using hs.symm
      exact ⟨us[0], us[1], by apply Array.ext <;> simp [this]; intro i hi; match i with | 0 => intro _; rfl | 1 => intro _; rfl | i + 2 => omega⟩
    have ha := hh 0 _ a rfl rfl
    have hb := hh 1 _ b rfl rfl
    obtain ⟨c0, es0, cl0, rfl, hN⟩ := needAt hb
    have ha' : a = .int .i64 (g.many : Int) := by cases ha; rfl
    subst ha'
    refine (users_any g.hd g.nd g.many hm hnd w G hG c0 es0 cl0 hN).mono ?_
    rintro e w' ⟨rfl, hbw, cs, vs, hF⟩
    refine ⟨_, fun b => b = w.heap.size + 1 ∨ ∃ x, x < g.many ∧ some b = (vs x).ownBlock, rfl, hbw, fun b hb => ?_, ?_⟩
    · rcases hb with rfl | ⟨x, hx, hb⟩
      · exact ⟨by omega, hF.blk.lt⟩
      · have := ownBlock_lt (hF.own x hx) b hb
        omega
    · have hlen : (usersL g.many (usesL g)).length = g.many := by simp [usersL]
      have hmk := DRep.slm (w := w') (E := Env.of fun b => b = w.heap.size + 1 ∨ ∃ x, x < g.many ∧ some b = (vs x).ownBlock) (n := 1) (nb := some (.var false)) (c := UserD.c) (l := usersL g.many (usesL g)) (a := some ⟨w.heap.size + 1, 0, none⟩) (cap := g.many)
        (fun i _ => vs i) (fun e he => by cases he; rfl) (by omega) (by unfold maxLen; omega) (fun x _ => rfl) (fun _ => ⟨w.heap.size + 1, 0, rfl, .inl rfl, fun i j hi hj => ?_⟩) (fun i x j d q1 q2 => ?_)
      · rw [hlen] at hmk
        exact hmk
      · rw [hlen] at hi
        obtain rfl : j = 0 := by omega
        have := (hF.blk.cell i).trans (hF.at_ i hi)
        simpa using this
      · have hi : i < g.many := by rw [← hlen]; exact (List.getElem?_eq_some_iff.1 q1).1
        have hx : x = ⟨(usesL g i).isEmpty, usesL g i⟩ := by
          unfold usersL at q1
          rw [List.getElem?_map, List.getElem?_range hi] at q1
          exact (Option.some.inj q1).symm
        subst hx
        match j with
        | 0 =>
          simp at q2
          subst q2
          exact own_rep (G := fun b => b = w.heap.size + 1 ∨ ∃ x, x < g.many ∧ some b = (vs x).ownBlock) (hF.own i hi) (fun z hz => by
            obtain ⟨k, hk, rfl⟩ := usesK_in hz
            unfold InR IntKind.min IntKind.max
            simp [IntKind.signed, IntKind.bits]
            omega) (fun b hb => .inr ⟨i, hi, hb⟩) (hF.nil i hi) (by have := usesK_len g.hd g.nd g.many i; unfold maxLen; omega) rfl
        | j + 1 => simp at q2
end Go.Proofs.YtdhfakajlnidiaaGreat
namespace Go.Proofs.YtdhfakajlnidiaaGreat
open Go.RowKit

/-! Iterators that yield data: the blocks that a round may write are named; the rest lies still. -/
structure KeepsBut (C : Nat → Prop) (W W' : World) : Prop where
  os : W'.os = W.os
  tape : W'.tape = W.tape
  output : W'.output = W.output
  size : W.heap.size ≤ W'.heap.size
  block : ∀ b, b < W.heap.size → ¬ C b → W'.heap[b]? = W.heap[b]?
theorem KeepsBut.of_below {C : Nat → Prop} {W W' : World} (h : Below W.heap.size W W') : KeepsBut C W W' := ⟨h.os, h.tape, h.output, h.size, fun b hb _ => h.block b hb⟩
theorem KeepsBut.trans {C : Nat → Prop} {U V W : World} (h : KeepsBut C U V) (k : KeepsBut C V W) : KeepsBut C U W :=
  ⟨k.os.trans h.os, k.tape.trans h.tape, k.output.trans h.output, Nat.le_trans h.size k.size, fun b hb hc => (k.block b (Nat.lt_of_lt_of_le hb h.size) hc).trans (h.block b hb hc)⟩
theorem DRep.still {W W' : World} {G : Nat → Prop} {d : D} {v : Value} (h : DRep W (Env.of G) d v) (hb : ∀ b, G b → W'.heap[b]? = W.heap[b]?) : DRep W' (Env.of G) d v :=
  h.move ⟨fun _ h => h, hb⟩ ⟨fun _ => Nat.le_refl _, fun _ _ => ⟨rfl, fun _ _ => rfl⟩⟩
/-- what a round owes: J holds behind it, with what it may write from then on -/
def YieldsTo (F : Fence) (m : Nat) (P : Program) (l : Nat) (N : Nat) (ds : Nat → D) (J : Nat → (Nat → Prop) → World → Prop) : Prop :=
  ∀ (k : Nat) (C : Nat → Prop) (A W1 : World) (v : Value) (G' : Nat → Prop), k < N → J k C A → Below A.heap.size A W1 → (∀ b, G' b → A.heap.size ≤ b ∧ b < W1.heap.size) → DRep W1 (Env.of G') (ds k) v →
    YieldAt F m P l #[v] W1 fun e W' => e = .returned (.bool true) ∧ KeepsBut C W1 W' ∧ ∃ C', J (k + 1) C' W' ∧ ∀ b, C' b → C b ∨ W1.heap.size ≤ b
/-- an iterator that yields N data, one after the other -/
def SeqD (F : Fence) (n : Nat) (P : Program) (gf : Nat) (lb : Array Value) (N : Nat) (ds : Nat → D) (w : World) : Prop :=
  ∀ (l : Nat) (J : Nat → (Nat → Prop) → World → Prop) (C0 : Nat → Prop) (W : World), Below w.heap.size w W → (∀ b, C0 b → w.heap.size ≤ b ∧ b < W.heap.size) → YieldsTo F (n - 1) P l N ds J → J 0 C0 W →
    CallsIn F n P gf (#[.func (.yield l) #[] #[]] ++ lb) W fun e W' => (∃ v, e = .returned v) ∧ ∃ C A, J N C A ∧ Below A.heap.size A W'
section
variable {F : Fence} {n : Nat} {P : Program}
theorem wpIn_rangeFunc_D {g : Operand} {p0 : Tmp} {assign body : Code} {Q : Exit → Act → World → Prop} {a : Act} {w w0 : World}
    (hro : F.round = none) (h1 : 1 ≤ n) {gf : Nat} {lb : Array Value} (hg : a.eval g = .func (.func gf) #[] lb) (hFg : F.fn gf) (eg : ∀ args w, (callFunc gf args).run P w = .ok (.enter gf args) w)
    {N : Nat} {ds : Nat → D} (hseq : SeqD F (n - 1) P gf lb N ds w0) (hb0 : Below w0.heap.size w0 w)
    (I : Nat → (Nat → Prop) → World → Prop) (C0 : Nat → Prop) (hC0 : ∀ b, C0 b → w0.heap.size ≤ b ∧ b < w.heap.size) (h0 : I 0 C0 w)
    (hI : ∀ k C A B, I k C A → A.heap.size ≤ B.heap.size → B.os = A.os → B.tape = A.tape → B.output = A.output → (∀ b, b < A.heap.size → b ≠ w.heap.size → b ≠ w.heap.size + 1 → B.heap[b]? = A.heap[b]?) → I k C B)
    (hIC : ∀ k C A, I k C A → ∀ b, C b → b ≠ w.heap.size ∧ b ≠ w.heap.size + 1 ∧ b < A.heap.size)
    (R : Nat → Value → World → Act → World → Prop)
    (hassign : ∀ (l k : Nat) (W : World) (v : Value) (G' : Nat → Prop) (K : Act → World → Prop), k < N → DRep W (Env.of G') (ds k) v → (∀ a₁ W', Below W.heap.size W W' → R k v W a₁ W' → K a₁ W') →
      assign.wpIn (F.inRound l) (n - 1 - 1) P (Exit.then K (fun _ _ _ => False)) { tmps := a.tmps.setIfInBounds p0 v, defers := [] } W)
    (hbody : ∀ (l k : Nat) (C : Nat → Prop) (W : World) (v : Value) (G' : Nat → Prop) (a₁ : Act) (W' X : World), k < N → I k C X → w.heap.size + 2 ≤ W.heap.size → (∀ b, C b → b < W.heap.size) → (∀ b, G' b → ¬ C b ∧ w.heap.size + 2 ≤ b ∧ b < W.heap.size) → DRep X (Env.of G') (ds k) v →
      R k v W a₁ W' → W.heap.size ≤ W'.heap.size → X.heap.size = W'.heap.size → (∀ b, b ≠ w.heap.size + 1 → X.heap[b]? = W'.heap[b]?) →
      body.wpIn (F.inRound l) (n - 1 - 1) P (fun e _ Y => e = .normal ∧ KeepsBut C X Y ∧ ∃ C', I (k + 1) C' Y ∧ ∀ b, C' b → C b ∨ X.heap.size ≤ b) a₁ X)
    (hdone : ∀ (C : Nat → Prop) (W : World), I N C W → W.heap[w.heap.size]? = some (.deferred (some [])) → Q .normal { a with defers := { target := .collected w.heap.size, args := #[] } :: a.defers } W) :
    (Code.rangeFunc g #[p0] assign body).wpIn F n P Q a w := by
  refine wpIn_rangeFunc fun fn hfn => ?_
  rw [hro]
  obtain ⟨D0, hD0⟩ : ∃ x, x = w.heap.size := ⟨_, rfl⟩
  obtain ⟨rc, hrc⟩ : ∃ rc : LoopState → Loop, rc = fun st => { state := st, pending := none, fn, tmps := a.tmps, params := #[p0], assign, body, defers := D0 } := ⟨_, rfl⟩
  obtain ⟨W1, hW1⟩ : ∃ W1, W1 = (w.alloc (.deferred (some []))).alloc (.loop (rc .ready)) := ⟨_, rfl⟩
  have hl1 : W1.heap[D0 + 1]? = some (.loop (rc .ready)) := by
    have := World.alloc_heap_new (w.alloc (.deferred (some []))) (.loop (rc .ready))
    rw [hW1, hD0]
    rwa [World.size_alloc] at this
  have hd1 : W1.heap[D0]? = some (.deferred (some [])) := by
    rw [hW1, hD0]
    exact (Below.heap_alloc _ _ _ (by simp)).trans (World.alloc_heap_new w _)
  have hs1 : W1.heap.size = D0 + 2 := by rw [hW1, hD0]; simp
  have hbw : Below w.heap.size w W1 := by
    rw [hW1]
    exact ((Below.refl _ w).alloc (Nat.le_refl _) _).alloc (by simp) _
  have hputs : ∀ (W : World) (o : Obj), (W.putObj (D0 + 1) o).heap.size = W.heap.size := fun W o => by simp
  rw [← hD0] at hI hIC hbody hdone
  have hIput : ∀ k C W o, I k C W → I k C (W.putObj (D0 + 1) o) := fun k C W o h =>
    hI k C W _ h (Nat.le_of_eq (hputs W o).symm) rfl rfl rfl fun b _ _ q => World.putObj_heap_other q
  refine ⟨D0 + 1, [{ target := .collected D0, args := #[] }], W1, { target := .fn (.func gf) lb, args := #[.func (.yield (D0 + 1)) #[] #[]] }, W1, gf, #[.func (.yield (D0 + 1)) #[] #[]] ++ lb, W1, ?_, ?_, ?_, ?_, fun _ => h1, ?_⟩
  · rw [hW1, hrc, hD0]
    exact run_enterLoop_outer _ _ _ _ _
  · simp only [resolve, hg]
    simp [go_sem]
  · intro f' hf'
    simp [Target.leads] at hf'
    subst hf'
    exact hFg
  · simp [invoke, go_sem, eg]
  refine (hseq (D0 + 1) (fun k C W => I k C W ∧ W.heap[D0 + 1]? = some (.loop (rc .ready)) ∧ W.heap[D0]? = some (.deferred (some []))) C0 W1 (hb0.trans (hbw.mono hb0.size))
    (fun b hb => by have := hC0 b hb; exact ⟨this.1, by rw [hs1, hD0]; omega⟩) ?_
    ⟨hI 0 C0 w W1 h0 hbw.size hbw.os hbw.tape hbw.output fun b hb _ _ => hbw.block b hb, hl1, hd1⟩).mono ?_
  · rintro k C A V v G' hk ⟨hi, hl, hd⟩ hAV hG hr
    have hlA : D0 + 1 < A.heap.size := (Array.getElem?_eq_some_iff.1 hl).1
    have hlV : V.heap[D0 + 1]? = some (.loop (rc .ready)) := (hAV.block _ hlA).trans hl
    have hdV : V.heap[D0]? = some (.deferred (some [])) := (hAV.block _ (by omega)).trans hd
    have hltV : D0 + 1 < V.heap.size := Nat.lt_of_lt_of_le hlA hAV.size
    have hiV : I k C V := hI k C A V hi hAV.size hAV.os hAV.tape hAV.output fun b hb _ _ => hAV.block b hb
    have hCA := hIC k C A hi
    have hy : (Instr.yield (D0 + 1) #[v]).run P V = .ok (.round (D0 + 1) fn (a.tmps.setIfInBounds p0 v) assign body) V := by
      have := run_yield (P := P) (args := #[v]) hlV (by rw [hrc]; rfl)
      rw [hrc] at this
      simpa using this
    refine ⟨fn, a.tmps.setIfInBounds p0 v, assign, body, hy, roundIn_of_wpIn hfn (hassign (D0 + 1) k V v G' _ hk hr fun a₁ V' hV' hR => ?_)⟩
    have hlV' : V'.heap[D0 + 1]? = some (.loop (rc .ready)) := (hV'.block _ hltV).trans hlV
    have hltV' : D0 + 1 < V'.heap.size := Nat.lt_of_lt_of_le hltV hV'.size
    obtain ⟨X, hX⟩ : ∃ X, X = V'.putObj (D0 + 1) (.loop { rc .ready with state := .busy }) := ⟨_, rfl⟩
    have hXs : X.heap.size = V'.heap.size := by rw [hX]; simp
    have hXl : X.heap[D0 + 1]? = some (.loop { rc .ready with state := .busy }) := by rw [hX]; exact World.putObj_heap_same hltV'
    have hXo : ∀ b, b ≠ D0 + 1 → X.heap[b]? = V'.heap[b]? := fun b hb => by rw [hX]; exact World.putObj_heap_other hb
    have hsV := hV'.size
    refine ⟨X, ?_, ?_⟩
    · rw [hX]
      exact run_beginRound hlV' (by rw [hrc])
    have hXV : ∀ b, b < V.heap.size → b ≠ D0 + 1 → X.heap[b]? = V.heap[b]? := fun b hb hne => (hXo b hne).trans (hV'.block b hb)
    have hiX : I k C X := hI k C V X hiV (by omega) (by rw [hX]; exact hV'.os) (by rw [hX]; exact hV'.tape) (by rw [hX]; exact hV'.output) fun b hb _ hne => hXV b hb hne
    refine wpIn_mono (hbody _ k C V v G' a₁ V' X hk hiX (by omega) (fun b hb => Nat.lt_of_lt_of_le (hCA b hb).2.2 hAV.size) (fun b hb => ?_) (hr.still fun b hb => hXV b (hG b hb).2 (by have := (hG b hb).1; omega)) hR hV'.size hXs hXo) ?_
    · have h2 := hG b hb
      refine ⟨fun hc => ?_, by omega, by omega⟩
      have := (hCA b hc).2.2
      omega
    rintro e a3 Y ⟨rfl, hkp, C', hi3, hC'⟩
    have hYl : Y.heap[D0 + 1]? = some (.loop { rc .ready with state := .busy }) := (hkp.block _ (by omega) fun hc => (hCA _ hc).2.1 rfl).trans hXl
    have hYlt : D0 + 1 < Y.heap.size := (Array.getElem?_eq_some_iff.1 hYl).1
    have hYd : Y.heap[D0]? = some (.deferred (some [])) := ((hkp.block _ (by omega) fun hc => (hCA _ hc).1 rfl).trans (hXV _ (by omega) (by omega))).trans hdV
    have hend := run_endRound (P := P) none hYl
    have hback : (Obj.loop { ({ rc .ready with state := .busy } : Loop) with state := if (none : Option Code).isNone then .ready else .done, pending := none }) = .loop (rc .ready) := by rw [hrc]; rfl
    rw [hback] at hend
    refine ⟨_, _, hend, rfl, ⟨?_, ?_, ?_, ?_, ?_⟩, C', ⟨hIput _ _ _ _ hi3, World.putObj_heap_same hYlt, (World.putObj_heap_other (by omega)).trans hYd⟩, fun b hb => ?_⟩
    · show Y.os = V.os
      rw [hkp.os, hX]; exact hV'.os
    · show Y.tape = V.tape
      rw [hkp.tape, hX]; exact hV'.tape
    · show Y.output = V.output
      rw [hkp.output, hX]; exact hV'.output
    · rw [hputs]
      have := hkp.size
      omega
    · intro b hb hc
      by_cases q : b = D0 + 1
      · subst q
        rw [World.putObj_heap_same hYlt, hlV]
      · rw [World.putObj_heap_other q, hkp.block b (by omega) hc, hXV b hb q]
    · rcases hC' b hb with q | q
      · exact .inl q
      · exact .inr (by omega)
  · rintro e W2 ⟨⟨v, rfl⟩, C, A, ⟨hi, hl, hd⟩, hAW⟩
    have hlA : D0 + 1 < A.heap.size := (Array.getElem?_eq_some_iff.1 hl).1
    have hl2 : W2.heap[D0 + 1]? = some (.loop (rc .ready)) := (hAW.block _ hlA).trans hl
    have hd2 : W2.heap[D0]? = some (.deferred (some [])) := (hAW.block _ (by omega)).trans hd
    have hi2 : I N C W2 := hI N C A W2 hi hAW.size hAW.os hAW.tape hAW.output fun b hb _ _ => hAW.block b hb
    have hend := run_endLoop (P := P) hl2 (by rw [hrc]; simp)
    have hp : (rc .ready).pending = none := by rw [hrc]
    rw [hp] at hend
    exact ⟨none, _, hend, hdone C _ (hIput _ _ _ _ hi2) ((World.putObj_heap_other (by omega)).trans hd2)⟩
end
end Go.Proofs.YtdhfakajlnidiaaGreat
namespace Go.Proofs.YtdhfakajlnidiaaGreat
open Go.RowKit Go.Shelf
attribute [local go_sem] Oper.semAt_some

/-! Iterators that write into blocks of their own between two yields. -/
structure QuietC (S0 : Nat) (C : Nat → Prop) (A W : World) : Prop where
  os : W.os = A.os
  tape : W.tape = A.tape
  output : W.output = A.output
  block : ∀ b, b < A.heap.size → (b < S0 ∨ C b) → W.heap[b]? = A.heap[b]?
theorem there {W A : World} {b : Nat} (h : W.heap[b]? = A.heap[b]?) (hb : b < A.heap.size) : b < W.heap.size := by
  rw [Array.getElem?_eq_getElem hb] at h
  exact (Array.getElem?_eq_some_iff.1 h).1
theorem QuietC.refl (S0 : Nat) (C : Nat → Prop) (A : World) : QuietC S0 C A A := ⟨rfl, rfl, rfl, fun _ _ _ => rfl⟩
theorem QuietC.trans {S0 : Nat} {C : Nat → Prop} {U V W : World} (h : QuietC S0 C U V) (k : QuietC S0 C V W) : QuietC S0 C U W :=
  ⟨k.os.trans h.os, k.tape.trans h.tape, k.output.trans h.output, fun b hb hc => (k.block b (there (h.block b hb hc) hb) hc).trans (h.block b hb hc)⟩
/-- what a round owes: J holds behind it, with what it may write from then on -/
def YieldsE (F : Fence) (m : Nat) (P : Program) (l S0 N : Nat) (vs : Nat → Value) (J : Nat → (Nat → Prop) → World → Prop) : Prop :=
  ∀ (k : Nat) (C : Nat → Prop) (A W1 : World), k < N → J k C A → QuietC S0 C A W1 →
    YieldAt F m P l #[vs k] W1 fun e W' => e = .returned (.bool true) ∧ KeepsBut C W1 W' ∧ ∃ C', J (k + 1) C' W' ∧ ∀ b, C' b → (C b ∨ W1.heap.size ≤ b) ∧ b < W'.heap.size
/-- an iterator that yields N values, one after the other -/
def SeqE (F : Fence) (n : Nat) (P : Program) (gf : Nat) (lb : Array Value) (N : Nat) (vs : Nat → Value) (w : World) : Prop :=
  ∀ (l : Nat) (J : Nat → (Nat → Prop) → World → Prop) (C0 : Nat → Prop) (W : World), Below w.heap.size w W → (∀ b, C0 b → w.heap.size ≤ b ∧ b < W.heap.size) → YieldsE F (n - 1) P l W.heap.size N vs J → J 0 C0 W →
    CallsIn F n P gf (#[.func (.yield l) #[] #[]] ++ lb) W fun e W' => (∃ v, e = .returned v) ∧ ∃ C A, J N C A ∧ QuietC W.heap.size C A W'
section
variable {F : Fence} {n : Nat} {P : Program}
theorem wpIn_rangeFunc_E {g : Operand} {p0 : Tmp} {assign body : Code} {Q : Exit → Act → World → Prop} {a : Act} {w w0 : World}
    (hro : F.round = none) (h1 : 1 ≤ n) {gf : Nat} {lb : Array Value} (hg : a.eval g = .func (.func gf) #[] lb) (hFg : F.fn gf) (eg : ∀ args w, (callFunc gf args).run P w = .ok (.enter gf args) w)
    {N : Nat} {vs : Nat → Value} (hseq : SeqE F (n - 1) P gf lb N vs w0) (hb0 : Below w0.heap.size w0 w)
    (I : Nat → (Nat → Prop) → World → Prop) (C0 : Nat → Prop) (hC0 : ∀ b, C0 b → w0.heap.size ≤ b ∧ b < w.heap.size) (h0 : I 0 C0 w)
    (hI : ∀ k C A B, I k C A → B.os = A.os → B.tape = A.tape → B.output = A.output → (∀ b, b < A.heap.size → b ≠ w.heap.size → b ≠ w.heap.size + 1 → (b < w.heap.size ∨ C b) → B.heap[b]? = A.heap[b]?) → I k C B)
    (hIC : ∀ k C A, I k C A → ∀ b, C b → b ≠ w.heap.size ∧ b ≠ w.heap.size + 1 ∧ b < A.heap.size)
    (act : Nat → Act)
    (hassign : ∀ (l k : Nat) (W : World) (K : Act → World → Prop), k < N → K (act k) W →
      assign.wpIn (F.inRound l) (n - 1 - 1) P (Exit.then K (fun _ _ _ => False)) { tmps := a.tmps.setIfInBounds p0 (vs k), defers := [] } W)
    (hbody : ∀ (l k : Nat) (C : Nat → Prop) (X : World), k < N → I k C X → w.heap.size + 2 ≤ X.heap.size →
      body.wpIn (F.inRound l) (n - 1 - 1) P (fun e _ Y => e = .normal ∧ KeepsBut C X Y ∧ ∃ C', I (k + 1) C' Y ∧ ∀ b, C' b → (C b ∨ X.heap.size ≤ b) ∧ b < Y.heap.size) (act k) X)
    (hdone : ∀ (C : Nat → Prop) (W : World), I N C W → W.heap[w.heap.size]? = some (.deferred (some [])) → Q .normal { a with defers := { target := .collected w.heap.size, args := #[] } :: a.defers } W) :
    (Code.rangeFunc g #[p0] assign body).wpIn F n P Q a w := by
  refine wpIn_rangeFunc fun fn hfn => ?_
  rw [hro]
  obtain ⟨D0, hD0⟩ : ∃ x, x = w.heap.size := ⟨_, rfl⟩
  obtain ⟨rc, hrc⟩ : ∃ rc : LoopState → Loop, rc = fun st => { state := st, pending := none, fn, tmps := a.tmps, params := #[p0], assign, body, defers := D0 } := ⟨_, rfl⟩
  obtain ⟨W1, hW1⟩ : ∃ W1, W1 = (w.alloc (.deferred (some []))).alloc (.loop (rc .ready)) := ⟨_, rfl⟩
  have hl1 : W1.heap[D0 + 1]? = some (.loop (rc .ready)) := by
    have := World.alloc_heap_new (w.alloc (.deferred (some []))) (.loop (rc .ready))
    rw [hW1, hD0]
    rwa [World.size_alloc] at this
  have hd1 : W1.heap[D0]? = some (.deferred (some [])) := by
    rw [hW1, hD0]
    exact (Below.heap_alloc _ _ _ (by simp)).trans (World.alloc_heap_new w _)
  have hs1 : W1.heap.size = D0 + 2 := by rw [hW1, hD0]; simp
  have hbw : Below w.heap.size w W1 := by
    rw [hW1]
    exact ((Below.refl _ w).alloc (Nat.le_refl _) _).alloc (by simp) _
  have hputs : ∀ (W : World) (o : Obj), (W.putObj (D0 + 1) o).heap.size = W.heap.size := fun W o => by simp
  rw [← hD0] at hI hIC hbody hdone
  have hIput : ∀ k C W o, I k C W → I k C (W.putObj (D0 + 1) o) := fun k C W o h =>
    hI k C W _ h rfl rfl rfl fun b _ _ q _ => World.putObj_heap_other q
  refine ⟨D0 + 1, [{ target := .collected D0, args := #[] }], W1, { target := .fn (.func gf) lb, args := #[.func (.yield (D0 + 1)) #[] #[]] }, W1, gf, #[.func (.yield (D0 + 1)) #[] #[]] ++ lb, W1, ?_, ?_, ?_, ?_, fun _ => h1, ?_⟩
  · rw [hW1, hrc, hD0]
    exact run_enterLoop_outer _ _ _ _ _
  · simp only [resolve, hg]
    simp [go_sem]
  · intro f' hf'
    simp [Target.leads] at hf'
    subst hf'
    exact hFg
  · simp [invoke, go_sem, eg]
  refine (hseq (D0 + 1) (fun k C W => I k C W ∧ W.heap[D0 + 1]? = some (.loop (rc .ready)) ∧ W.heap[D0]? = some (.deferred (some []))) C0 W1 (hb0.trans (hbw.mono hb0.size))
    (fun b hb => by have := hC0 b hb; exact ⟨this.1, by rw [hs1, hD0]; omega⟩) ?_
    ⟨hI 0 C0 w W1 h0 hbw.os hbw.tape hbw.output fun b hb _ _ _ => hbw.block b hb, hl1, hd1⟩).mono ?_
  · rintro k C A V hk ⟨hi, hl, hd⟩ hAV
    rw [hs1] at hAV
    have hlA : D0 + 1 < A.heap.size := (Array.getElem?_eq_some_iff.1 hl).1
    have hlV : V.heap[D0 + 1]? = some (.loop (rc .ready)) := (hAV.block _ hlA (.inl (by omega))).trans hl
    have hdV : V.heap[D0]? = some (.deferred (some [])) := (hAV.block _ (by omega) (.inl (by omega))).trans hd
    have hltV : D0 + 1 < V.heap.size := (Array.getElem?_eq_some_iff.1 hlV).1
    have hiV : I k C V := hI k C A V hi hAV.os hAV.tape hAV.output fun b hb _ _ hc => hAV.block b hb (hc.imp (fun q => by omega) id)
    have hCA := hIC k C A hi
    have hy : (Instr.yield (D0 + 1) #[vs k]).run P V = .ok (.round (D0 + 1) fn (a.tmps.setIfInBounds p0 (vs k)) assign body) V := by
      have := run_yield (P := P) (args := #[vs k]) hlV (by rw [hrc]; rfl)
      rw [hrc] at this
      simpa using this
    refine ⟨fn, a.tmps.setIfInBounds p0 (vs k), assign, body, hy, roundIn_of_wpIn hfn (hassign (D0 + 1) k V _ hk ?_)⟩
    obtain ⟨X, hX⟩ : ∃ X, X = V.putObj (D0 + 1) (.loop { rc .ready with state := .busy }) := ⟨_, rfl⟩
    have hXs : X.heap.size = V.heap.size := by rw [hX]; simp
    have hXl : X.heap[D0 + 1]? = some (.loop { rc .ready with state := .busy }) := by rw [hX]; exact World.putObj_heap_same hltV
    have hXo : ∀ b, b ≠ D0 + 1 → X.heap[b]? = V.heap[b]? := fun b hb => by rw [hX]; exact World.putObj_heap_other hb
    refine ⟨X, ?_, ?_⟩
    · rw [hX]
      exact run_beginRound hlV (by rw [hrc])
    have hiX : I k C X := hI k C V X hiV (by rw [hX]; rfl) (by rw [hX]; rfl) (by rw [hX]; rfl) fun b hb _ hne _ => hXo b hne
    refine wpIn_mono (hbody _ k C X hk hiX (by omega)) ?_
    rintro e a3 Y ⟨rfl, hkp, C', hi3, hC'⟩
    have hYl : Y.heap[D0 + 1]? = some (.loop { rc .ready with state := .busy }) := (hkp.block _ (by omega) fun hc => (hCA _ hc).2.1 rfl).trans hXl
    have hYlt : D0 + 1 < Y.heap.size := (Array.getElem?_eq_some_iff.1 hYl).1
    have hYd : Y.heap[D0]? = some (.deferred (some [])) := ((hkp.block _ (by omega) fun hc => (hCA _ hc).1 rfl).trans (hXo _ (by omega))).trans hdV
    have hend := run_endRound (P := P) none hYl
    have hback : (Obj.loop { ({ rc .ready with state := .busy } : Loop) with state := if (none : Option Code).isNone then .ready else .done, pending := none }) = .loop (rc .ready) := by rw [hrc]; rfl
    rw [hback] at hend
    refine ⟨_, _, hend, rfl, ⟨?_, ?_, ?_, ?_, ?_⟩, C', ⟨hIput _ _ _ _ hi3, World.putObj_heap_same hYlt, (World.putObj_heap_other (by omega)).trans hYd⟩, fun b hb => ?_⟩
    · show Y.os = V.os
      rw [hkp.os, hX]; rfl
    · show Y.tape = V.tape
      rw [hkp.tape, hX]; rfl
    · show Y.output = V.output
      rw [hkp.output, hX]; rfl
    · rw [hputs]
      have := hkp.size
      omega
    · intro b hb hc
      by_cases q : b = D0 + 1
      · subst q
        rw [World.putObj_heap_same hYlt, hlV]
      · rw [World.putObj_heap_other q, hkp.block b (by omega) hc, hXo b q]
    · obtain ⟨q1, q2⟩ := hC' b hb
      refine ⟨?_, by rw [hputs]; exact q2⟩
      rcases q1 with q | q
      · exact .inl q
      · exact .inr (by omega)
  · rintro e W2 ⟨⟨v, rfl⟩, C, A, ⟨hi, hl, hd⟩, hAW⟩
    rw [hs1] at hAW
    have hlA : D0 + 1 < A.heap.size := (Array.getElem?_eq_some_iff.1 hl).1
    have hl2 : W2.heap[D0 + 1]? = some (.loop (rc .ready)) := (hAW.block _ hlA (.inl (by omega))).trans hl
    have hd2 : W2.heap[D0]? = some (.deferred (some [])) := (hAW.block _ (by omega) (.inl (by omega))).trans hd
    have hi2 : I N C W2 := hI N C A W2 hi hAW.os hAW.tape hAW.output fun b hb _ _ hc => hAW.block b hb (hc.imp (fun q => by omega) id)
    have hend := run_endLoop (P := P) hl2 (by rw [hrc]; simp)
    have hp : (rc .ready).pending = none := by rw [hrc]
    rw [hp] at hend
    exact ⟨none, _, hend, hdone C _ (hIput _ _ _ _ hi2) ((World.putObj_heap_other (by omega)).trans hd2)⟩
end
end Go.Proofs.YtdhfakajlnidiaaGreat
namespace Go.Proofs.YtdhfakajlnidiaaGreat
open Go.RowKit Go.Shelf
attribute [local go_sem] Oper.semAt_some

/-! slices.Collect of numbers that such an iterator yields. -/
abbrev intV (vs : Nat → Int) (k : Nat) : List Value := (List.range k).map fun i => .int .i64 (vs i)
/-- what lies between two rounds -/
def CiE (B0 : Nat) (w : World) (vs : Nat → Int) (k : Nat) (C : Nat → Prop) (W : World) : Prop :=
  ∃ (v : Value), Boxed W B0 32 v ∧ W.ownsRow B0 3 1 v k (intV vs k) ∧ (v = .slice none 0 0 ↔ k = 0) ∧ Below B0 w W ∧ (∀ b, C b ↔ b = B0 ∨ some b = v.ownBlock) ∧ (∀ b, some b = v.ownBlock → B0 + 3 ≤ b)
theorem ciE_still {B0 : Nat} {w : World} {vs : Nat → Int} {k : Nat} {C : Nat → Prop} {A B : World} (h : CiE B0 w vs k C A) (hw : w.heap.size ≤ B0) (h1 : B.os = A.os) (h2 : B.tape = A.tape) (h3 : B.output = A.output)
    (hb : ∀ b, b < A.heap.size → b ≠ B0 + 1 → b ≠ B0 + 2 → (b < B0 + 1 ∨ C b) → B.heap[b]? = A.heap[b]?) : CiE B0 w vs k C B := by
  obtain ⟨v, q1, q2, q3, q4, q5, q7⟩ := h
  have hlt := q1.lt
  refine ⟨v, (hb _ hlt (by omega) (by omega) (.inl (by omega))).trans q1, ownsRow_still q2 fun b e => hb b (ownBlock_lt q2 b e).2 (by have := q7 b e; omega) (by have := q7 b e; omega) (.inr ((q5 b).2 (.inr e))), q3,
    ⟨h1.trans q4.os, h2.trans q4.tape, h3.trans q4.output, Nat.le_trans hw (Nat.le_of_lt (there (hb _ hlt (by omega) (by omega) (.inl (by omega))) hlt)), fun b hk => (hb b (by omega) (by omega) (by omega) (.inl (by omega))).trans (q4.block b hk)⟩, q5, q7⟩
set_option maxRecDepth 100000 in
set_option maxHeartbeats 2000000 in
theorem append_seqE (gf : Nat) (lb : Array Value) (eg : ∀ args w, (callFunc gf args).run Tryz.prog w = .ok (.enter gf args) w) (N : Nat) (hN : N ≤ 1000000) (vs : Nat → Int) (w : World)
    (hseq : SeqE Fence.wide 2 Tryz.prog gf lb N (fun n => .int .i64 (vs n)) w) :
    CallsIn Fence.wide 3 Tryz.prog 29 #[.slice none 0 0, .func (.func gf) #[] lb] w fun e w' => ∃ (v : Value), e = .returned v ∧ Below w.heap.size w w' ∧ w'.ownsRow w.heap.size 3 1 v N (intV vs N) ∧ (v = .slice none 0 0 ↔ N = 0) := by
  obtain ⟨i0, hi, hz0, hz1, hz2⟩ := info_parts info3
  refine callsIn_of_wp_marks Tryz.func29 rfl trivial ?_ rfl
  simp only [Tryz.ntmps29, List.size_toArray, List.length_cons, List.length_nil, Nat.reduceAdd, Nat.reduceSub, Array.replicate_succ, Array.replicate_zero, List.push_toArray, List.append_toArray, List.nil_append, List.cons_append]
  gi_wp2
  have bX : Boxed (w.alloc (.cells #[.slice none 0 0] 32)) w.heap.size 32 (.slice none 0 0) := heap_alloc_new w _
  have hB0 : Below w.heap.size w (w.alloc (.cells #[.slice none 0 0] 32)) := (Below.refl _ _).alloc (Nat.le_refl _) _
  have hsz : (w.alloc (.cells #[.slice none 0 0] 32)).heap.size = w.heap.size + 1 := by simp
  generalize w.alloc (.cells #[.slice none 0 0] 32) = W0 at *
  refine wpIn_rangeFunc_E rfl (by omega) (n := 3) (gf := gf) (lb := lb) rfl trivial eg hseq hB0 (CiE w.heap.size w vs) (fun b => b = w.heap.size) (fun b hb => by omega)
    ⟨.slice none 0 0, bX, World.ownsRow_nil _ _ _ _, by simp, hB0, fun b => by simp [Value.ownBlock], fun b h => by simp [Value.ownBlock] at h⟩
    (fun k C A B h h2 h3 h4 h5 => ciE_still h (Nat.le_refl _) h2 h3 h4 fun b hb e1 e2 e3 => h5 b hb (by omega) (by omega) (by rw [hsz]; exact e3)) (fun k C A h b hb => ?_)
    (fun k => { tmps := #[.slice none 0 0, .func (.func gf) #[] lb, .pointer (some ⟨w.heap.size, 0, none⟩), undef, .slice none 0 0, .int .i64 (vs k), .func (.func gf) #[] lb, .int .i64 (vs k), undef, undef, undef, undef, undef], defers := [] })
    ?assign ?body ?done
  · obtain ⟨v, q1, q2, q3, q4, q5, q7⟩ := h
    have := q1.lt
    rcases (q5 b).1 hb with e | e
    · omega
    · have h1 := q7 b e
      have h2 := (ownBlock_lt q2 b e).2
      omega
  case assign =>
    intro l k W K hk hK
    clear hk
    gi_wp2
    exact hK
  case body =>
    intro l k C X hk hI hs2
    obtain ⟨v, q1, q2, q3, q4, q5, q7⟩ := hI
    have cX := q1.cell
    have hBs : w.heap.size ≤ X.heap.size := q4.size
    have hmax : k + 1 ≤ maxLen := by unfold maxLen; omega
    have H1 := Lib.hid q1
    have H2 := Lib.hid q2
    have H3 := Lib.hid q3
    have H4 := Lib.hid q4
    have H5 := Lib.hid q5
    have H7 := Lib.hid q7
    obtain ⟨z, hz⟩ : ∃ x, x = vs k := ⟨_, rfl⟩
    rw [← hz]
    have HE := Lib.hid hz
    clear q1 q2 q3 q4 q5 q7 bX hB0 hz hseq
    gi_wp2_with (gi_at_builtin; refine wpListIn_append_own_at _ rfl _ _ 32 rfl w.heap.size 3 i0 (.int .i64 0) 1 8 u32' hi hz0 hz1 hz2 rfl (by decide) _ _ _ rfl (H2.out.alloc _) ⟨X.heap.size, 0, none⟩ 1 1 [.int .i64 z] rfl rfl (cell_one_new _ _ _) (by simp [Value.oneCell']) hmax (by omega) (by simp; omega) ?_; intro v' w9 hown' hgrow hnil' hat; obtain ⟨g', cap9, rfl⟩ := ownsRow_succ hown'; obtain ⟨hv1, hv2, hr2, hk2, hb2⟩ := H1.out.appended (by decide) H2.out hBs (Nat.le_refl _) hown' hgrow; have hc1 := hv1.cell; have hf1 := hv1.frozen)
    obtain ⟨Y, hY⟩ : ∃ Y, Y = w9.setCell ⟨w.heap.size, 0, none⟩ (.slice (some ⟨g', 0, none⟩) (k + 1) cap9) := ⟨_, rfl⟩
    rw [← hY] at hv2 hr2 hk2 hb2 ⊢
    have hYo : ∀ b, b ≠ w.heap.size → Y.heap[b]? = w9.heap[b]? := fun b hb => by rw [hY]; exact Below.heap_setCell w9 _ _ b hb
    have keep : ∀ b, b < X.heap.size → ¬ C b → Y.heap[b]? = X.heap[b]? := fun b hb hc => by
      have hc2 : ¬ (b = w.heap.size ∨ some b = v.ownBlock) := fun h => hc ((H5.out b).2 h)
      rw [hYo b fun h => hc2 (.inl h), hgrow.block b (by simp; omega) fun h => hc2 (.inr h)]
      exact Below.heap_alloc X _ b hb
    have hsY := hb2.size
    have hY9 : Y.heap.size = w9.heap.size := by rw [hY]; simp
    have hlt9 : g' < Y.heap.size := (ownBlock_lt hr2 g' rfl).2
    have hnew : some g' = v.ownBlock ∨ g' = X.heap.size + 1 := by
      rcases hat with h | h
      · exact .inl h
      · have h2 : some g' = some ((X.alloc (.cells #[.int .i64 z] 3)).heap.size) := h
        simp at h2
        exact .inr h2
    have hXC : w.heap.size < X.heap.size := by omega
    refine ⟨⟨hb2.os, hb2.tape, hb2.output, hb2.size, keep⟩, fun b => b = w.heap.size ∨ some b = (Value.slice (some ⟨g', 0, none⟩) (k + 1) cap9).ownBlock, ⟨.slice (some ⟨g', 0, none⟩) (k + 1) cap9, hv2, ?_, by simp, H4.out.trans hb2, fun b => Iff.rfl, ?_⟩, ?_⟩
    · have e : intV vs (k + 1) = intV vs k ++ [.int .i64 z] := by rw [HE.out]; simp [intV, List.range_succ]
      rw [e]
      exact hr2
    · intro b h
      have h2 : b = g' := by simpa [Value.ownBlock] using h
      rcases hnew with q | q
      · rw [h2]
        exact H7.out g' q
      · omega
    · intro b h
      rcases h with h | h
      · exact ⟨.inl ((H5.out b).2 (.inl h)), by omega⟩
      · have h2 : b = g' := by simpa [Value.ownBlock] using h
        refine ⟨?_, by omega⟩
        rcases hnew with q | q
        · exact .inl ((H5.out b).2 (.inr (by rw [h2]; exact q)))
        · exact .inr (by omega)
  case done =>
    intro C W hI hK
    obtain ⟨v, q1, q2, q3, q4, q5, q7⟩ := hI
    have cX := q1.cell
    have fX := q1.frozen
    have hlt := q1.lt
    have H1 := Lib.hid q1
    have H2 := Lib.hid q2
    have H3 := Lib.hid q3
    have H4 := Lib.hid q4
    have H7 := Lib.hid q7
    have HK := Lib.hid hK
    have HZ := Lib.hid hsz
    clear q1 q2 q3 q4 q5 q7 hK bX hB0 hseq hsz
    gi_wp2
    have hsz := HZ.out
    have st : ∀ b, b ≠ W0.heap.size → (W.putObj W0.heap.size (.deferred none)).heap[b]? = W.heap[b]? := fun b hb => World.putObj_heap_other hb
    have hb4 : Below w.heap.size w (W.putObj W0.heap.size (.deferred none)) := ⟨H4.out.os, H4.out.tape, H4.out.output, by simpa using H4.out.size, fun b hb => (st b (by omega)).trans (H4.out.block b hb)⟩
    refine ⟨by simp, .inl ⟨_, _, rfl, run_takeDeferred HK.out, ?_⟩⟩
    refine ⟨_, results_tmp rfl _ _ _, v, rfl, hb4, ?_, H3.out⟩
    exact ownsRow_still (W' := W.putObj W0.heap.size (.deferred none)) H2.out fun b hb => st b (by have := H7.out b hb; omega)
set_option maxHeartbeats 1000000 in
theorem collect_seqE (gf : Nat) (lb : Array Value) (eg : ∀ args w, (callFunc gf args).run Tryz.prog w = .ok (.enter gf args) w) (N : Nat) (hN : N ≤ 1000000) (vs : Nat → Int) (w : World)
    (hseq : SeqE Fence.wide 2 Tryz.prog gf lb N (fun n => .int .i64 (vs n)) w) :
    CallsIn Fence.wide 4 Tryz.prog 16 #[.func (.func gf) #[] lb] w fun e w' => ∃ (v : Value), e = .returned v ∧ Below w.heap.size w w' ∧ w'.ownsRow w.heap.size 3 1 v N (intV vs N) ∧ (v = .slice none 0 0 ↔ N = 0) := by
  have hf49 : Fence.wide.fn 29 := trivial
  have hA := Lib.hid (append_seqE gf lb eg N hN vs w hseq)
  clear hseq
  refine callsIn_of_wp Tryz.func16 rfl trivial ?_ rfl
  simp only [Tryz.ntmps16, List.size_toArray, List.length_cons, List.length_nil, Nat.reduceAdd, Nat.reduceSub, Array.replicate_succ, Array.replicate_zero, List.push_toArray, List.append_toArray, List.nil_append, List.cons_append]
  gi_wp2_with (gi_at_call 29; refine hA.out.mono ?_; rintro e w' ⟨v, rfl, hb, hr, hn⟩)
  go_ret
  exact ⟨v, rfl, hb, hr, hn⟩
end Go.Proofs.YtdhfakajlnidiaaGreat
namespace Go.Proofs.YtdhfakajlnidiaaGreat
open Go.RowKit

/-! The heap's Push and Pop, said of worlds. -/
def QAt (W : World) (bq : Nat) (v : Value) (L : List Int) : Prop :=
  (∃ t, W.heap[bq]? = some (.cells #[v] t)) ∧ (∀ x, x ∈ L → InR .i64 x) ∧
    ((v = .slice none 0 0 ∧ L = []) ∨ ∃ g cap cur, v = .slice (some ⟨g, 0, none⟩) L.length cap ∧ g ≠ bq ∧ W.heap[g]? = some (.cells cur 3) ∧ L.length ≤ cap ∧ cap ≤ maxLen ∧ cur.size = cap ∧ ∀ (i : Nat) x, L[i]? = some x → cur[i]? = some (.int .i64 x))
def qG (W : World) (bq : Nat) (v : Value) : Nat → Prop := fun b => b < W.heap.size ∧ b ≠ bq ∧ some b ≠ v.ownBlock
def capOf : Value → Nat
  | .slice _ _ c => c
  | _ => 0
def qE (W : World) (bq : Nat) (v : Value) : Env := ⟨qG W bq v, fun x => if x = 0 then some bq else if x = 1 then v.ownBlock else none, fun x => if x < 2 then 1 else 0, fun x => if x = 0 then 1 else capOf v⟩
def qB (W : World) (bq : Nat) (v : Value) : Base where
  w0 := { W with heap := #[] }
  G0 := qG W bq v
  nt := 0
  h0 := 2
  Φ := fun w E => (∀ b, qG W bq v b → E.G b ∧ w.heap[b]? = W.heap[b]?) ∧ DRep w E (.ptr 0 1 0) (.pointer (some ⟨bq, 0, none⟩))
  stab := fun w E w' E' hle hown h => ⟨fun b hb => ⟨hle.G b (h.1 b hb).1, (hle.heap b (h.1 b hb).1).trans (h.1 b hb).2⟩, h.2.move hle hown⟩
  cut := fun w E n hn h => ⟨h.1, h.2.trunc 8 (show decide (0 < n) = true by exact decide_eq_true (by omega))⟩
  df := []
  gl := fun w E _ p hp => by cases hp
theorem qW {W : World} {bq : Nat} {v : Value} {L : List Int} (h : QAt W bq v L) : ∃ nb, WRel (qB W bq v) (QH nb 1 L L.length) (qE W bq v) W ∧ nb = v.ownBlock.isNone := by
  obtain ⟨⟨t, hb⟩, hr, hv⟩ := h
  have hlt : bq < W.heap.size := (Array.getElem?_eq_some_iff.1 hb).1
  refine ⟨v.ownBlock.isNone, ⟨?_, ?_, ?_, ?_, ?_, ?_, ?_, ?_, ?_, ?_⟩, rfl⟩
  · intro x y c h1 h2
    simp only [qE] at h1 h2
    rcases hv with ⟨rfl, rfl⟩ | ⟨g, cap, cur, rfl, hg, _⟩
    · split at h1 <;> split at h2 <;> simp_all [Value.ownBlock]
    · have e : (Value.slice (some ⟨g, 0, none⟩) L.length cap).ownBlock = some g := rfl
      rw [e] at h1 h2
      by_cases x0 : x = 0 <;> by_cases y0 : y = 0 <;> by_cases x1 : x = 1 <;> by_cases y1 : y = 1 <;> simp [x0, y0, x1, y1] at h1 h2 ⊢ <;> omega
  · intro x c h1
    simp only [qE] at h1
    refine ⟨Nat.zero_le _, ?_, ?_⟩
    · by_cases x0 : x = 0
      · rw [if_pos x0] at h1
        cases h1
        exact hlt
      · rw [if_neg x0] at h1
        split at h1
        · rcases hv with ⟨rfl, rfl⟩ | ⟨g, cap, cur, rfl, hg, hh, _⟩
          · cases h1
          · cases h1
            exact (Array.getElem?_eq_some_iff.1 hh).1
        · cases h1
    · rintro ⟨_, q2, q3⟩
      by_cases x0 : x = 0
      · rw [if_pos x0] at h1
        cases h1
        exact q2 rfl
      · rw [if_neg x0] at h1
        split at h1
        · exact q3 h1.symm
        · cases h1
  · intro b hb
    simp only [qE] at hb ⊢
    split at hb
    · cases hb
    · rw [if_neg (by omega), if_neg (by omega)]
  · intro x b hx
    match x with
    | 0 =>
      simp at hx
      subst hx
      refine .inr ⟨rfl, fun c hc => ?_, fun hc => by cases hc⟩
      cases hc
      refine ⟨#[v], t, hb, rfl, rfl, fun i d hd => ?_⟩
      match i with
      | 0 =>
        cases hd
        refine ⟨v, rfl, ?_⟩
        rcases hv with ⟨rfl, rfl⟩ | ⟨g, cap, cur, rfl, hg, hh, h1, h2, h3, h4⟩
        · exact .osln rfl rfl rfl rfl rfl
        · refine DRep.oslc (c := g) (lo := .lit 0) rfl rfl ?_ (Int.le_refl _) rfl h1 h2 ?_
          · rfl
          · show (0 + cap) * 1 = cap
            omega
      | i + 1 => simp at hd
    | 1 =>
      simp at hx
      subst hx
      refine .inr ⟨rfl, fun c hc => ?_, fun hc => ?_⟩
      · have hc' : v.ownBlock = some c := hc
        rcases hv with ⟨rfl, rfl⟩ | ⟨g, cap, cur, rfl, hg, hh, h1, h2, h3, h4⟩
        · cases hc'
        · cases hc'
          refine ⟨cur, 3, .inr rfl, hh, h3, ?_, fun i e he => ?_⟩
          · simp [RE.den]
            omega
          · simp only [RE.den, List.getElem?_map, Option.map_eq_some_iff] at he
            obtain ⟨x, hx, rfl⟩ := he
            refine ⟨rfl, fun j d hd => ?_⟩
            match j with
            | 0 =>
              cases hd
              exact ⟨_, (by rw [Nat.mul_one]; exact h4 i x hx), .int (e := .var x) (hr x (List.mem_of_getElem? hx))⟩
            | j + 1 => simp at hd
      · have hc' : v.ownBlock = none := hc
        rcases hv with ⟨rfl, rfl⟩ | ⟨g, cap, cur, rfl, hg, hh, h1, h2, h3, h4⟩
        · rfl
        · cases hc'
    | x + 2 => simp at hx
  · intro x hx
    have hx' : 2 ≤ x := hx
    simp only [qE]
    rw [if_neg (by omega), if_neg (by omega), if_neg (by omega)]
    exact ⟨rfl, rfl⟩
  · exact fun b hb => hb.1
  · exact fun b hb => hb
  · exact fun b hb => .inl hb
  · exact ⟨rfl, rfl, rfl, Nat.zero_le _, fun b hb => absurd hb (Nat.not_lt_zero _)⟩
  · exact ⟨fun b hb => ⟨hb, rfl⟩, .ptr rfl rfl⟩
/-- what lies as it lay but for the queue -/
structure QKept (W W' : World) (bq : Nat) (v v' : Value) : Prop where
  os : W'.os = W.os
  tape : W'.tape = W.tape
  output : W'.output = W.output
  block : ∀ b, b < W.heap.size → b ≠ bq → some b ≠ v.ownBlock → W'.heap[b]? = W.heap[b]?
  new : ∀ b, some b = v'.ownBlock → some b = v.ownBlock ∨ W.heap.size ≤ b
theorem qOut {W W' : World} {bq : Nat} {v : Value} {nb : Bool} {ver : Nat} {L : List Int} {E : Env} (hv0 : 0 < ver) (h : WRel (qB W bq v) (QH nb ver L L.length) E W') : ∃ v', QAt W' bq v' L ∧ QKept W W' bq v v' := by
  have hp := h.phi.2
  obtain ⟨hκ, hσ⟩ : E.κ 0 = 1 ∧ E.σ 0 = some bq := by
    generalize hA : (Value.pointer (some ⟨bq, 0, none⟩)) = u at hp
    cases hp with
    | ptr hk hs => cases hA; exact ⟨hk, hs⟩
    | ptrs hk =>
      rcases h.heap 0 _ rfl with ⟨q, _⟩ | ⟨q, _⟩
      · omega
      · have : E.κ 0 = 1 := q
        omega
  obtain ⟨cs, t, hb, hs, _, hc⟩ : BRep W' E 0 bq (.cells [.osl 1 1 ver (.var nb) (.lit 0) (.nat L.length)]) := by
    rcases h.heap 0 _ rfl with ⟨q, _⟩ | ⟨_, q, _⟩
    · omega
    · exact q bq hσ
  obtain ⟨v', hv', hr⟩ := hc 0 _ rfl
  obtain rfl : cs = #[v'] := by
    apply Array.ext
    · simpa using hs
    · intro i h1 h2
      have : i = 0 := by simp at h2; omega
      subst this
      have := (Array.getElem?_eq_some_iff.1 hv').2
      simpa using this
  have hown := h.own
  have hphi := h.phi.1
  have hrow : ∀ c, E.κ 1 = ver → E.σ 1 = some c → BRep W' E 1 c (.row 3 1 ver (.map intC L)) := fun c hk hs => by
    rcases h.heap 1 _ rfl with ⟨q, _⟩ | ⟨_, q, _⟩
    · omega
    · exact q c hs
  have hrng : ∀ c, BRep W' E 1 c (.row 3 1 ver (.map intC L)) → (∀ x, x ∈ L → InR .i64 x) ∧ ∃ cur, W'.heap[c]? = some (.cells cur 3) ∧ cur.size = E.ζ 1 ∧ ∀ (i : Nat) x, L[i]? = some x → cur[i]? = some (.int .i64 x) := fun c hh => by
    obtain ⟨cur, t, ht, h1, h2, _, h4⟩ := hh
    obtain rfl : t = 3 := by
      rcases ht with q | q
      · exact absurd q (by decide)
      · exact q
    have key : ∀ (i : Nat) x, L[i]? = some x → cur[i]? = some (.int .i64 x) ∧ InR .i64 x := fun i x hx => by
      obtain ⟨_, h5⟩ := h4 i (intC x) (by simp [RE.den, hx])
      obtain ⟨u, hu, hru⟩ := h5 0 _ rfl
      cases hru with
      | int hir => exact ⟨by simpa [IE.den] using hu, hir⟩
    refine ⟨fun x hx => ?_, cur, h1, h2, fun i x hx => (key i x hx).1⟩
    obtain ⟨i, hi⟩ := List.getElem?_of_mem hx
    exact (key i x hi).2
  have bel := h.bel
  generalize hd : D.osl 1 1 ver (.var nb) (.lit 0) (.nat L.length) = d at hr
  cases hr with
  | @oslc _ n b vr nb' lo len c m cap hk hσ1 hnb hl hn hcc hm hsz =>
    cases hd
    obtain rfl : m = L.length := by
      have : (L.length : Int) = (m : Int) := hn
      omega
    obtain ⟨hr, cur, h1, h2, h3⟩ := hrng c (hrow c hk hσ1)
    have hne : c ≠ bq := fun e => by
      have := h.inj 0 1 bq hσ (e ▸ hσ1)
      omega
    refine ⟨_, ⟨⟨t, hb⟩, hr, .inr ⟨c, cap, cur, rfl, hne, h1, hcc, hm, ?_, h3⟩⟩, bel.os, bel.tape, bel.output, fun b q1 q2 q3 => (hphi b ⟨q1, q2, q3⟩).2, fun b hbo => ?_⟩
    · rw [h2]
      have : (0 + cap) * 1 = E.ζ 1 := hsz
      omega
    · have e : b = c := by simpa [Value.ownBlock] using hbo
      subst e
      have hn := (hown 1 b hσ1).2.2
      by_cases q : some b = v.ownBlock
      · exact .inl q
      · refine .inr (Nat.le_of_not_lt fun q2 => hn (hphi b ⟨q2, hne, q⟩).1)
  | osln hk hs hnb hl hn =>
    cases hd
    have hL : L = [] := by
      have : (L.length : Int) = 0 := hn
      exact List.eq_nil_of_length_eq_zero (by omega)
    refine ⟨_, ⟨⟨t, hb⟩, (fun x hx => by rw [hL] at hx; cases hx), .inl ⟨rfl, hL⟩⟩, bel.os, bel.tape, bel.output, fun b q1 q2 q3 => (hphi b ⟨q1, q2, q3⟩).2, fun b hbo => by cases hbo⟩
  | osls hk =>
    cases hd
    rcases h.heap 1 _ rfl with ⟨q, _⟩ | ⟨q, _⟩
    · omega
    · have : E.κ 1 = ver := q
      omega
  | _ => cases hd
theorem hpush_raw {W : World} {bq : Nat} {v : Value} {L : List Int} (h : QAt W bq v L) (x : Int) (hx : InR .i64 x) (hl : L.length ≤ 10000) (hh : IsHeap L) :
    Calls Tryz.prog 31 #[.iface 88 (.pointer (some ⟨bq, 0, none⟩)), .iface 3 (.int .i64 x)] W fun e W' => ∃ L' v', e = .returned (.tuple #[]) ∧ L'.Perm (L ++ [x]) ∧ IsHeap L' ∧ QAt W' bq v' L' ∧ QKept W W' bq v v' := by
  obtain ⟨nb, hw, _⟩ := qW h
  have hc := HPush_call nb 1 L x hl hh (K := fun d H' => d = .tup [] ∧ ∃ L' : List Int, L'.Perm (L ++ [x]) ∧ IsHeap L' ∧ H' = QH false 2 L' L'.length) (fun L' h1 h2 => ⟨rfl, L', h1, h2, rfl⟩)
  refine (hc.run (qB W bq v) W (qE W bq v) #[.iface 88 (.pointer (some ⟨bq, 0, none⟩)), .iface 3 (.int .i64 x)] (Nat.le_refl 2) ⟨rfl, fun i d u h1 h2 => ?_⟩ hw).mono ?_
  · match i with
    | 0 => cases h1; cases h2; exact .ifc (.ptr rfl rfl)
    | 1 => cases h1; cases h2; exact .ifc (.int (e := .var x) hx)
    | i + 2 => simp at h1
  · rintro e W' ⟨u, E', d, H', rfl, hw', hd, rfl, L', h1, h2, rfl⟩
    obtain ⟨v', q1, q2⟩ := qOut (by decide) hw'
    refine ⟨L', v', ?_, h1, h2, q1, q2⟩
    cases hd with
    | @tup _ _ vs hs _ =>
      have : vs = #[] := Array.eq_empty_of_size_eq_zero hs.symm
      rw [this]
theorem hpop_raw {W : World} {bq : Nat} {v : Value} {L : List Int} (h : QAt W bq v L) (hl : L.length ≤ 10000) (h0 : 0 < L.length) (hh : IsHeap L) :
    Calls Tryz.prog 33 #[.iface 88 (.pointer (some ⟨bq, 0, none⟩))] W fun e W' => ∃ L' v', e = .returned (.iface 3 (.int .i64 (atL L 0))) ∧ (atL L 0 :: L').Perm L ∧ IsHeap L' ∧ QAt W' bq v' L' ∧ QKept W W' bq v v' := by
  obtain ⟨nb, hw, _⟩ := qW h
  have hc := HPop_call nb 1 L (L.length - 1) L.length (by omega) rfl hl hh (K := fun d H' => d = .ifc 3 (.int .i64 (.var (atL L 0))) ∧ ∃ L' : List Int, (atL L 0 :: L').Perm L ∧ IsHeap L' ∧ H' = QH nb 1 L' L'.length) (fun L' h1 h2 => ⟨rfl, L', h1, h2, rfl⟩)
  refine (hc.run (qB W bq v) W (qE W bq v) #[.iface 88 (.pointer (some ⟨bq, 0, none⟩))] (Nat.le_refl 2) ⟨rfl, fun i d u h1 h2 => ?_⟩ hw).mono ?_
  · match i with
    | 0 => cases h1; cases h2; exact .ifc (.ptr rfl rfl)
    | i + 1 => simp at h1
  · rintro e W' ⟨u, E', d, H', rfl, hw', hd, rfl, L', h1, h2, rfl⟩
    obtain ⟨v', q1, q2⟩ := qOut (by decide) hw'
    refine ⟨L', v', ?_, h1, h2, q1, q2⟩
    cases hd with
    | ifc hd =>
      cases hd with
      | int => rfl
theorem qlen_raw (a : Option Addr) (n c : Nat) (w : World) : Calls Tryz.prog 32 #[.slice a n c] w fun e w' => e = .returned (.int .i64 (n : Int)) ∧ w' = w := by
  go_enter Tryz.func32, Tryz.ntmps32
  go_wp2
  go_ret
  exact ⟨rfl, rfl⟩
end Go.Proofs.YtdhfakajlnidiaaGreat
namespace Go.Proofs.YtdhfakajlnidiaaGreat
open Go.RowKit

/-! Maps whose entries are known exactly. -/
structure MapV (es : List MapEntry) (clock : Nat) (M : Int → Option Value) : Prop where
  val : ∀ e ∈ es, ∃ x, e.key = .int .i64 x ∧ InR .i64 x ∧ M x = some e.val
  has : ∀ x d, M x = some d → ∃ e ∈ es, e.key = .int .i64 x
  apart : es.Pairwise fun a b => a.key ≠ b.key ∧ a.born ≠ b.born
  clock : ∀ e ∈ es, e.born < clock
theorem MapV.nil (M : Int → Option Value) (h : ∀ y, M y = none) : MapV [] 0 M := ⟨by simp, fun x d hd => (by rw [h] at hd; cases hd), .nil, by simp⟩
theorem MapV.congr {es : List MapEntry} {clock : Nat} {M M' : Int → Option Value} (h : MapV es clock M) (e : ∀ x, M' x = M x) : MapV es clock M' := by
  obtain rfl : M' = M := funext e
  exact h
theorem MapV.modify {es : List MapEntry} {clock : Nat} {M : Int → Option Value} (h : MapV es clock M) {j : Nat} {e : MapEntry} {n : Int} {v : Value} (hj : es[j]? = some e) (hk : e.key = .int .i64 n) (hn : InR .i64 n) :
    MapV (es.modify j fun e => { e with key := .int .i64 n, val := v }) clock (fun x => if x = n then some v else M x) := by
  have hmap : (es.modify j fun e => { e with key := .int .i64 n, val := v }).map (fun e => (e.key, e.born)) = es.map fun e => (e.key, e.born) := by
    apply List.ext_getElem?
    intro i
    simp only [List.getElem?_map, List.getElem?_modify]
    by_cases q : j = i
    · subst q; simp [hj, hk]
    · simp [q]
  refine ⟨fun e' he => ?_, fun x d' hF => ?_, ?_, fun e' he => ?_⟩
  · obtain ⟨i, hi⟩ := List.getElem?_of_mem he
    rw [List.getElem?_modify] at hi
    by_cases q : j = i
    · subst q
      simp [hj] at hi
      subst hi
      exact ⟨n, rfl, hn, by simp⟩
    · simp [q] at hi
      obtain ⟨x, h1, h2, h3⟩ := h.val e' (List.mem_of_getElem? hi)
      refine ⟨x, h1, h2, ?_⟩
      rw [if_neg (fun c => ?_)]
      · exact h3
      · subst c
        have ha := h.apart
        rw [List.pairwise_iff_getElem] at ha
        obtain ⟨hj1, hj2⟩ := List.getElem?_eq_some_iff.1 hj
        obtain ⟨hi1, hi2⟩ := List.getElem?_eq_some_iff.1 hi
        rcases Nat.lt_or_gt_of_ne q with c | c
        · have := (ha j i hj1 hi1 c).1
          rw [hj2, hi2, hk, h1] at this
          exact this rfl
        · have := (ha i j hi1 hj1 c).1
          rw [hj2, hi2, hk, h1] at this
          exact this rfl
  · by_cases q : x = n
    · subst q
      exact ⟨{ e with key := .int .i64 x, val := v }, List.mem_of_getElem? (i := j) (by rw [List.getElem?_modify, hj]; simp), rfl⟩
    · rw [if_neg q] at hF
      obtain ⟨e0, he0, hk0⟩ := h.has x d' hF
      obtain ⟨i, hi⟩ := List.getElem?_of_mem he0
      refine ⟨e0, List.mem_of_getElem? (i := i) ?_, hk0⟩
      rw [List.getElem?_modify]
      by_cases c : j = i
      · subst c
        rw [hj] at hi
        cases hi
        rw [hk] at hk0
        exact absurd (by simpa using hk0.symm) q
      · simp [c, hi]
  · have : ((es.modify j fun e => { e with key := .int .i64 n, val := v }).map (fun e => (e.key, e.born))).Pairwise fun a b => a.1 ≠ b.1 ∧ a.2 ≠ b.2 := by
      rw [hmap, List.pairwise_map]
      exact h.apart
    rw [List.pairwise_map] at this
    exact this
  · have : (e'.key, e'.born) ∈ (es.modify j fun e => { e with key := .int .i64 n, val := v }).map (fun e => (e.key, e.born)) := List.mem_map.2 ⟨e', he, rfl⟩
    rw [hmap] at this
    obtain ⟨e0, h1, h2⟩ := List.mem_map.1 this
    have := h.clock e0 h1
    simp only [Prod.mk.injEq] at h2
    omega
theorem MapV.push {es : List MapEntry} {clock : Nat} {M : Int → Option Value} (h : MapV es clock M) {n : Int} {v : Value} (hf : M n = none) (hn : InR .i64 n) :
    MapV (es ++ [{ key := .int .i64 n, val := v, born := clock }]) (clock + 1) (fun x => if x = n then some v else M x) := by
  have hne : ∀ e ∈ es, e.key ≠ .int .i64 n := fun e he q => by
    obtain ⟨x, h1, _, h3⟩ := h.val e he
    rw [h1] at q
    obtain rfl : x = n := by simpa using q
    rw [hf] at h3
    cases h3
  refine ⟨fun e he => ?_, fun x d' hF => ?_, ?_, fun e he => ?_⟩
  · rcases List.mem_append.1 he with q | q
    · obtain ⟨x, h1, h2, h3⟩ := h.val e q
      refine ⟨x, h1, h2, ?_⟩
      rw [if_neg (fun c => ?_)]
      · exact h3
      · subst c; exact hne e q h1
    · simp only [List.mem_singleton] at q
      subst q
      exact ⟨n, rfl, hn, by simp⟩
  · by_cases q : x = n
    · subst q; exact ⟨_, List.mem_append_right _ (List.mem_singleton.2 rfl), rfl⟩
    · rw [if_neg q] at hF
      obtain ⟨e, he, hk⟩ := h.has x d' hF
      exact ⟨e, List.mem_append_left _ he, hk⟩
  · refine List.pairwise_append.2 ⟨h.apart, List.pairwise_singleton _ _, fun a ha b hb => ?_⟩
    simp only [List.mem_singleton] at hb
    subst hb
    exact ⟨hne a ha, Nat.ne_of_lt (h.clock a ha)⟩
  · rcases List.mem_append.1 he with q | q
    · exact Nat.lt_succ_of_lt (h.clock e q)
    · simp only [List.mem_singleton] at q
      subst q
      exact Nat.lt_succ_self _
theorem MapV.find {es : List MapEntry} {clock : Nat} {M : Int → Option Value} (h : MapV es clock M) (n : Int) :
    (M n = none ∧ Instr.findNow (.int .i64) (.int .i64 n) es 0 = some none) ∨ ∃ j e, Instr.findNow (.int .i64) (.int .i64 n) es 0 = some (some (j, e.val)) ∧ es[j]? = some e ∧ e.key = .int .i64 n ∧ M n = some e.val := by
  have hk : ∀ x ∈ es, MapKept.IsKey (.int .i64) x.key := fun x hx => by
    obtain ⟨y, h1, _⟩ := h.val x hx
    rw [h1]
    rfl
  rcases MapKept.findNow_spec (d := .int .i64) (k := .int .i64 n) rfl es 0 hk with ⟨h1, h2⟩ | ⟨j, e, h1, h2, h3⟩
  · refine .inl ⟨?_, h1⟩
    cases hF : M n with
    | none => rfl
    | some d =>
      obtain ⟨e, he, hke⟩ := h.has n d hF
      exact absurd hke (h2 e he)
  · refine .inr ⟨j, e, ?_⟩
    obtain ⟨x, q1, _, q3⟩ := h.val e (List.mem_of_getElem? h2)
    rw [q1] at h3
    obtain rfl : x = n := by simpa using h3
    exact ⟨by simpa using h1, h2, q1, q3⟩
section
variable {P : Program}
theorem look_v {t k e : Nat} {te : TI} {s1 b1 s2 b2 : Nat} {z1 z2 : Value} (h1 : TI.of P t = some ⟨.map k e, s1, b1, z1⟩) (h2 : TI.of P k = some ⟨.int .i64, s2, b2, z2⟩) (h3 : TI.of P e = some te) {w : World} {c : Nat} {es : Array MapEntry} {clock : Nat} {M : Int → Option Value} (hb : w.heap[c]? = some (.map es clock)) (h : MapV es.toList clock M) (n : Int) :
    (Instr.lookup t (.map (some c)) (.int .i64 n) false).run P w = .ok ((M n).getD te.zero) w := by
  rcases h.find n with ⟨f1, f2⟩ | ⟨j, e', f1, _, _, f4⟩
  · rw [lookup_runM h1 h2 h3 hb f2, f1]; rfl
  · rw [lookup_runM h1 h2 h3 hb f1, f4]; rfl
theorem upd_v {t k e : Nat} {s1 b1 s2 b2 : Nat} {z1 z2 : Value} (h1 : TI.of P t = some ⟨.map k e, s1, b1, z1⟩) (h2 : TI.of P k = some ⟨.int .i64, s2, b2, z2⟩) {w : World} {c : Nat} {es : Array MapEntry} {clock : Nat} {M : Int → Option Value} (hb : w.heap[c]? = some (.map es clock)) (h : MapV es.toList clock M) (n : Int) (hn : InR .i64 n) (v : Value) :
    ∃ (es' : Array MapEntry) (cl' : Nat), (Instr.mapUpdate t (.map (some c)) (.int .i64 n) v).run P w = .ok () (World.redo w c (.map es' cl')) ∧ MapV es'.toList cl' (fun x => if x = n then some v else M x) ∧ es'.size = if (M n).isSome then es.size else es.size + 1 := by
  rcases h.find n with ⟨f1, f2⟩ | ⟨j, e', f1, f2, f3, f4⟩
  · refine ⟨es.push { key := .int .i64 n, val := v, born := clock }, clock + 1, ?_, ?_, ?_⟩
    · unfold Instr.mapUpdate
      simp only [Sem.run_bind, run_underlying (TI.of_map h1), Result.andThen, MapKept.run_getObj_map hb, MapKept.run_checkKey (TI.of_int h2) (k := .int .i64 n) rfl, MapKept.run_findKey (TI.of_int h2) f2, MapKept.run_setObj_map _ hb]
      rfl
    · rw [Array.toList_push]
      exact h.push f1 hn
    · rw [f1]; simp
  · have hsb : Instr.sameBits 10000 (.int .i64 n) (.int .i64 n) = true := by simp [Instr.sameBits]
    have hj : es[j]? = some e' := by rw [← Array.getElem?_toList]; exact f2
    refine ⟨es.modify j fun e => { e with key := .int .i64 n, val := v }, clock, ?_, ?_, ?_⟩
    · unfold Instr.mapUpdate
      simp only [Sem.run_bind, run_underlying (TI.of_map h1), Result.andThen, MapKept.run_getObj_map hb, MapKept.run_checkKey (TI.of_int h2) (k := .int .i64 n) rfl, MapKept.run_findKey (TI.of_int h2) f1, hj, Option.map_some, Option.getD_some, f3, Instr.keyThatStays, hsb, if_true, Sem.run_pure, MapKept.run_setObj_map _ hb]
      rfl
    · rw [Array.toList_modify]
      exact h.modify f2 f3 hn
    · rw [f4]; simp
end
/-- how many of the first n numbers have it -/
def cnt (n : Nat) (T : Int → Bool) : Nat := ((List.range n).filter fun i : Nat => T (i : Int)).length
theorem cnt_le (n : Nat) (T : Int → Bool) : cnt n T ≤ n := by
  have := List.length_filter_le (fun i : Nat => T (i : Int)) (List.range n)
  simpa [cnt] using this
theorem cnt_succ (n : Nat) (T : Int → Bool) : cnt (n + 1) T = cnt n T + if T n then 1 else 0 := by
  unfold cnt
  rw [List.range_succ, List.filter_append, List.length_append]
  congr 1
  cases h : T (n : Int) <;> simp [h]
theorem cnt_congr {n : Nat} {T T' : Int → Bool} (h : ∀ i : Nat, i < n → T i = T' i) : cnt n T = cnt n T' := by
  induction n with
  | zero => rfl
  | succ n ih => rw [cnt_succ, cnt_succ, ih fun i hi => h i (by omega), h n (by omega)]
theorem cnt_ins {n : Nat} {T T' : Int → Bool} {x : Nat} (hx : x < n) (h : ∀ y : Int, T' y = (T y || decide (y = (x : Int)))) : cnt n T' = if T x then cnt n T else cnt n T + 1 := by
  induction n with
  | zero => omega
  | succ n ih =>
    rw [cnt_succ, cnt_succ]
    by_cases q : x = n
    · subst q
      have e : cnt x T' = cnt x T := cnt_congr fun i hi => by
        rw [h]
        have : decide ((i : Int) = (x : Int)) = false := decide_eq_false (by omega)
        rw [this, Bool.or_false]
      have e2 : T' (x : Int) = true := by rw [h]; simp
      rw [e, e2]
      cases T (x : Int) <;> simp
    · rw [ih (by omega)]
      have e2 : T' (n : Int) = T n := by
        rw [h]
        have : decide ((n : Int) = (x : Int)) = false := decide_eq_false (by omega)
        rw [this, Bool.or_false]
      rw [e2]
      cases T (x : Int) <;> simp <;> omega
/-- a map of maps that the call owns -/
structure MFam (W : World) (B bl n : Nat) (S : Int → Bool) (N : Int → Int → Bool) (vs : Int → Nat) : Prop where
  out : ∃ es cl, W.heap[bl]? = some (.map es cl) ∧ MapV es.toList cl (fun y => if S y then some (.map (some (vs y))) else none) ∧ es.size = cnt n S
  inn : ∀ y, S y = true → ∃ es cl, W.heap[vs y]? = some (.map es cl) ∧ MapV es.toList cl (fun z => if N y z then some (.bool true) else none) ∧ es.size = cnt n (N y)
  lo : ∀ y, S y = true → B ≤ vs y ∧ vs y ≠ bl
  inj : ∀ y y', S y = true → S y' = true → vs y = vs y' → y = y'
theorem heap_lt {W : World} {c : Nat} {o : Obj} (h : W.heap[c]? = some o) : c < W.heap.size := (Array.getElem?_eq_some_iff.1 h).1
theorem MFam.lt {W : World} {B bl n : Nat} {S : Int → Bool} {N : Int → Int → Bool} {vs : Int → Nat} (h : MFam W B bl n S N vs) : bl < W.heap.size ∧ ∀ y, S y = true → vs y < W.heap.size :=
  ⟨by obtain ⟨_, _, q, _⟩ := h.out; exact heap_lt q, fun y hy => by obtain ⟨_, _, q, _⟩ := h.inn y hy; exact heap_lt q⟩
theorem MFam.still {W W' : World} {B bl n : Nat} {S : Int → Bool} {N : Int → Int → Bool} {vs : Int → Nat} (h : MFam W B bl n S N vs) (hB : B ≤ bl) (hb : ∀ b, B ≤ b → b < W.heap.size → W'.heap[b]? = W.heap[b]?) : MFam W' B bl n S N vs := by
  refine ⟨?_, fun y hy => ?_, h.lo, h.inj⟩
  · obtain ⟨es, cl, q, r⟩ := h.out
    exact ⟨es, cl, (hb _ hB (heap_lt q)).trans q, r⟩
  · obtain ⟨es, cl, q, r⟩ := h.inn y hy
    exact ⟨es, cl, (hb _ (h.lo y hy).1 (heap_lt q)).trans q, r⟩
theorem redo_ne (w : World) (c : Nat) (o : Obj) {b : Nat} (h : b ≠ c) : (World.redo w c o).heap[b]? = w.heap[b]? := Array.getElem?_setIfInBounds_ne (Ne.symm h)
/-- a new inner map -/
theorem MFam.add {W : World} {B bl n : Nat} {S S' : Int → Bool} {N : Int → Int → Bool} {vs : Int → Nat} (h : MFam W B bl n S N vs) (hB : B ≤ W.heap.size) {x : Nat} (hx : x < n) (hS : S x = false) (hN : ∀ z, N x z = false) (hS' : ∀ y : Int, S' y = (S y || decide (y = (x : Int)))) {es' : Array MapEntry} {cl' : Nat} {es : Array MapEntry} {cl : Nat}
    (hes : W.heap[bl]? = some (.map es cl)) (hM : MapV es'.toList cl' (fun y => if y = (x : Int) then some (.map (some W.heap.size)) else if S y then some (.map (some (vs y))) else none)) (hs : es'.size = es.size + 1) (hes0 : es.size = cnt n S) :
    MFam (World.redo (W.alloc (.map #[] 0)) bl (.map es' cl')) B bl n S' N (fun y => if y = (x : Int) then W.heap.size else vs y) := by
  have hbl := heap_lt hes
  have hold : ∀ y, S' y = true → y ≠ (x : Int) → S y = true := fun y hy hne => by
    rw [hS'] at hy
    simpa [hne] using hy
  refine ⟨⟨es', cl', World.redo_at (by simp; omega) _, hM.congr fun y => ?_, ?_⟩, fun y hy => ?_, fun y hy => ?_, fun y y' hy hy' e => ?_⟩
  · rw [hS']
    by_cases q : y = (x : Int)
    · simp [q]
    · simp [q]
  · rw [hs, hes0, cnt_ins hx hS', hS]; rfl
  · by_cases q : y = (x : Int)
    · simp only [q, if_true]
      refine ⟨#[], 0, ?_, MapV.nil _ (fun z => by rw [hN]; rfl), ?_⟩
      · rw [redo_ne _ _ _ (by omega)]
        exact heap_alloc_new _ _
      · have : cnt n (N x) = 0 := by
          unfold cnt
          rw [List.length_eq_zero_iff, List.filter_eq_nil_iff]
          intro i _
          rw [hN]
          exact Bool.false_ne_true
        rw [this]; rfl
    · simp only [if_neg q]
      obtain ⟨es2, cl2, q1, q2⟩ := h.inn y (hold y hy q)
      refine ⟨es2, cl2, ?_, q2⟩
      rw [redo_ne _ _ _ (h.lo y (hold y hy q)).2, heap_alloc_old _ _ (heap_lt q1)]
      exact q1
  · by_cases q : y = (x : Int)
    · simp only [q, if_true]
      exact ⟨hB, by omega⟩
    · simp only [if_neg q]
      exact h.lo y (hold y hy q)
  · by_cases q : y = (x : Int) <;> by_cases q' : y' = (x : Int)
    · rw [q, q']
    · simp only [q, if_true, if_neg q'] at e
      have := h.lt.2 y' (hold y' hy' q')
      omega
    · simp only [q', if_true, if_neg q] at e
      have := h.lt.2 y (hold y hy q)
      omega
    · simp only [if_neg q, if_neg q'] at e
      exact h.inj y y' (hold y hy q) (hold y' hy' q') e
/-- one more in an inner map -/
theorem MFam.ins {W : World} {B bl n : Nat} {S : Int → Bool} {N N' : Int → Int → Bool} {vs : Int → Nat} (h : MFam W B bl n S N vs) {x : Int} (hx : S x = true) {z : Nat} (hz : z < n) (hN' : ∀ y u, N' y u = (N y u || (decide (y = x) && decide (u = (z : Int))))) {es es' : Array MapEntry} {cl' : Nat}
    (hM : MapV es'.toList cl' (fun u => if u = (z : Int) then some (.bool true) else if N x u then some (.bool true) else none)) (hs : es'.size = if N x z then es.size else es.size + 1) (hes : es.size = cnt n (N x)) :
    MFam (World.redo W (vs x) (.map es' cl')) B bl n S N' vs := by
  have hlt := h.lt
  refine ⟨?_, fun y hy => ?_, h.lo, h.inj⟩
  · obtain ⟨e1, c1, q1, q2⟩ := h.out
    exact ⟨e1, c1, by rw [redo_ne _ _ _ (Ne.symm (h.lo x hx).2)]; exact q1, q2⟩
  · by_cases q : y = x
    · subst q
      refine ⟨es', cl', World.redo_at (hlt.2 y hx) _, hM.congr fun u => ?_, ?_⟩
      · rw [hN']
        by_cases q : u = (z : Int)
        · simp [q]
        · simp [q]
      · rw [hs, hes, cnt_ins (T := N y) (T' := N' y) hz (fun u => by rw [hN']; simp)]
    · obtain ⟨e1, c1, q1, q2, q3⟩ := h.inn y hy
      have e : N' y = N y := by
        funext u
        rw [hN']
        simp [q]
      rw [e]
      exact ⟨e1, c1, by rw [redo_ne _ _ _ (fun e => q (h.inj y x hy hx e))]; exact q1, q2, q3⟩
end Go.Proofs.YtdhfakajlnidiaaGreat
